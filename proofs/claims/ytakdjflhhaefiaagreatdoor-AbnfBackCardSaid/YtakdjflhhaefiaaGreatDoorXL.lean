/- A WORLD IN WHICH THE ROW's VARIABLES ARE LAID IS A GOOD START. -/
import Derived.Test.YtakdjflhhaefiaaGreatDoorXT1
import Derived.Test.YtakdjflhhaefiaaGreatDoorRows
import Derived.LaidSub
import Derived.Lib.LaidTab
namespace Go.Proofs.YtakdjflhhaefiaaGreatDoor
open Go.Xc Go.RowKit

theorem g64 : Tryz.prog.globalNamed "math/bits.deBruijn64tab" = some 7 := by kernel_rfl
theorem g10 : Tryz.prog.globalNamed "internal/strconv.uint64pow10" = some 5 := by kernel_rfl

def ints64 : List Int := [0, 1, 56, 2, 57, 49, 28, 3, 61, 58, 42, 50, 38, 29, 17, 4, 62, 47, 59, 36, 45, 43, 51, 22, 53, 39, 33, 30, 24, 18, 12, 5, 63, 55, 48, 27, 60, 41, 37, 16, 46, 35, 44, 21, 52, 32, 23, 11, 54, 26, 40, 15, 34, 20, 31, 10, 25, 14, 19, 9, 13, 8, 7, 6]
def ints10 : List Int := [1, 10, 100, 1000, 10000, 100000, 1000000, 10000000, 100000000, 1000000000, 10000000000, 100000000000, 1000000000000, 10000000000000, 100000000000000, 1000000000000000, 10000000000000000, 100000000000000000, 1000000000000000000, 10000000000000000000]
theorem tab64_eq : tab64 = ints64.map fun z => Value.int .u8 z := by kernel_rfl
theorem tab10_eq : tab10 = ints10.map fun z => Value.int .u64 z := by kernel_rfl

/-- WHAT THE LIST GIVES. -/
theorem laid64 {W : World} (h : laidMetH Tryz.prog Rows.dotsClimbRow.laid W) : Lib.TabIs Tryz.prog W "math/bits.deBruijn64tab" .u8 ints64 := by
  have h1 := laidMetH.filter (fun x => x.1 == "math/bits.deBruijn64tab") h
  have h2 : laidMetH Tryz.prog [("math/bits.deBruijn64tab", Lib.tabData .u8 ints64)] W := h1
  exact Lib.tabIs_of_head (rest := []) g64 (t := 296) (e := 5) (n := 64) (by kernel_rfl) Tryz.underlying296 Tryz.underlying5 (by kernel_rfl) (by kernel_rfl) h2
theorem laid10 {W : World} (h : laidMetH Tryz.prog Rows.dotsClimbRow.laid W) : Lib.TabIs Tryz.prog W "internal/strconv.uint64pow10" .u64 ints10 := by
  have h1 := laidMetH.filter (fun x => x.1 == "internal/strconv.uint64pow10") h
  have h2 : laidMetH Tryz.prog [("internal/strconv.uint64pow10", Lib.tabData .u64 ints10)] W := h1
  exact Lib.tabIs_of_head (rest := []) g10 (t := 291) (e := 28) (n := 20) (by kernel_rfl) Tryz.underlying291 Tryz.underlying28 (by kernel_rfl) (by kernel_rfl) h2

theorem good_of_tabs {W : World} (h64 : Lib.TabIs Tryz.prog W "math/bits.deBruijn64tab" .u8 ints64) (h10 : Lib.TabIs Tryz.prog W "internal/strconv.uint64pow10" .u64 ints10) : Good XC glob W.heap.size W := by
  have hget : ∀ k, glob.m.get k = if 7 = k then some (.ro tab64) else if 5 = k then some (.ro tab10) else none := by
    intro k
    have : glob.m.get k = (((NM.leaf : NM AObj).set 5 (.ro tab10)).set 7 (.ro tab64)).get k := rfl
    rw [this, NM.get_set _ _ _ _ (by decide), NM.get_set _ _ _ _ (by decide), NM.get_leaf]
  have one : ∀ (k g : Nat) (kind : IntKind) (zs : List Int) (cs : List Value) (name : String), cs = (zs.map fun z => Value.int kind z) → 0 < zs.length → Tryz.prog.globalNamed name = some g → Lib.TabIs Tryz.prog W name kind zs →
      OR XC W.heap.size (fun k => (k, 0)) glob.next g W (.ro cs) := by
    intro _ g kind zs cs name hcs hpos hg ht
    subst hcs
    refine ⟨?_, fun i hi => ?_⟩
    · have h0 := ht.cell hg 0 hpos
      by_cases hlt : g < W.heap.size
      · exact hlt
      · simp [World.cell?, Array.getElem?_eq_none (Nat.le_of_not_lt hlt)] at h0
    · have hi' : i < zs.length := by simpa using hi
      refine ⟨_, ht.cell hg i hi', ?_⟩
      have : (zs.map fun z => Value.int kind z)[i] = .int kind (zs.getD i 0) := by simp [List.getD, hi']
      rw [this]
      exact .int _ _
  refine ⟨fun k => (k, 0), fun _ _ => rfl, ?_, ?_, fun k hk => ?_, fun k o hk => ?_, fun k k' o o' hk hk' ho => ?_, Nat.le_refl _, Below.refl _ _⟩
  · exact Nat.le_refl 8
  · decide
  · rw [hget]
    have hk' : 8 ≤ k := hk
    rw [if_neg (by omega), if_neg (by omega)]
  · rw [hget] at hk
    split at hk
    · rename_i h7; subst h7
      cases hk
      exact one 0 7 .u8 ints64 tab64 _ tab64_eq (by decide) g64 h64
    · split at hk
      · rename_i h3; subst h3
        cases hk
        exact one 0 5 .u64 ints10 tab10 _ tab10_eq (by decide) g10 h10
      · cases hk
  · exfalso
    rw [hget] at hk
    split at hk
    · cases hk; cases ho
    · split at hk
      · cases hk; cases ho
      · cases hk
theorem good_of_laid {W : World} (h : laidMetH Tryz.prog Rows.dotsClimbRow.laid W) : Good XC glob W.heap.size W := good_of_tabs (laid64 h) (laid10 h)
end Go.Proofs.YtakdjflhhaefiaaGreatDoor
/- KNOWN CALLS AS CONTRACTS; domain.byteOf at the visible bytes. -/
namespace Go.Proofs.YtakdjflhhaefiaaGreatDoor
open Go.Xc Go.RowKit

/-- A known call of plain arguments, from a good start. -/
theorem known1 {f : Nat} {args : List Value} {v : Value} {w : World} (h0 : ∀ N0 w0, Good XC glob N0 w0 → OkEnt XC N0 w0 f (.plain args v)) (hp : plainF 9 v = true) (ha : allPlain args = true) (hg : Good XC glob w.heap.size w) :
    Calls Tryz.prog f args.toArray w fun e w' => e = .returned v ∧ Below w.heap.size w w' := by
  obtain ⟨ι, h⟩ := hg
  have h1 := h0 w.heap.size w ⟨ι, h⟩ hp ha glob ι w args h
  have hl : ∀ {vs : List Value}, allPlain vs = true → LR ι glob.next vs vs := by
    intro vs
    induction vs with
    | nil => exact fun _ => .nil
    | cons x xs ih =>
      intro hx
      simp only [allPlain] at hx
      cases hpx : plainF 9 x with
      | false => simp [hpx] at hx
      | true => simp only [hpx, cond_true] at hx; exact .cons (plainF_refl 9 x hpx) (ih hx)
  refine (h1 (hl ha)).mono ?_
  rintro e w' ⟨ι', v', rfl, _, _, hv, hm⟩
  rw [plainF_eq 9 _ _ hp hv]
  exact ⟨rfl, hm.below⟩
theorem known {T : Tab} (hT : Kept T) {f : Nat} {args : List Value} {v : Value} (hm : (f, Ent.plain args v) ∈ T) (hp : plainF 9 v = true) (ha : allPlain args = true) {w : World} (hg : Good XC glob w.heap.size w) :
    Calls Tryz.prog f args.toArray w fun e w' => e = .returned v ∧ Below w.heap.size w w' :=
  known1 (fun N0 w0 hg => hT N0 w0 hg _ hm) hp ha hg

end Go.Proofs.YtakdjflhhaefiaaGreatDoor
