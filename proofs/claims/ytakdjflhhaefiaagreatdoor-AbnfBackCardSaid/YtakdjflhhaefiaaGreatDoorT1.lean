/- abnf.Parts.Text's closure: what it puts into the builder. -/
import Derived.Test.YtakdjflhhaefiaaGreatDoorSHX
import Derived.Test.YtakdjflhhaefiaaGreatDoorD2
import Derived.Deep.LoopGhost
set_option linter.unusedVariables false
set_option linter.unusedSimpArgs false
namespace Go.Proofs.YtakdjflhhaefiaaGreatDoor
open Go.RowKit

theorem bf_far {B b : Nat} {bs : List Value} {w : World} (h : Lib.IsBuilderF 95 5 B b bs w) : B ≤ b ∧ b < w.heap.size := by
  rcases h with ⟨h1, v, h2, -⟩ | ⟨h1, v, h2, -⟩ <;> exact ⟨h1, (Array.getElem?_eq_some_iff.1 h2).1⟩
theorem row_cellAt' {W : World} {b t : Nat} (j : Nat) {cs : Array Value} (h : W.heap[b]? = some (.cells cs t (0, 0))) : W.cell? ⟨b, j, none⟩ = cs[j]? := by
  simp [World.cell?, h]
/-- A part of the list, put. -/
def catL (is : Bool) (ps : List ByteArray) : List UInt8 := bif is then ps.flatMap (fun p => p.data.toList) else []
theorem catL_step (ps : List ByteArray) (i : Nat) (h : i < ps.length) : catL true (ps.take (i + 1)) = catL true (ps.take i) ++ (ps[i]'h).data.toList := by
  unfold catL
  simp only [cond_true]
  rw [← List.take_append_getElem h, List.flatMap_append]
  simp
set_option maxHeartbeats 4000000 in
set_option maxRecDepth 100000 in
theorem put_yes (B b g T n : Nat) (l : List UInt8) (ps : List ByteArray) (w : World) (h : Lib.IsBuilderF 95 5 B b (Lib.byteCells l) w) (hBw : B ≤ w.heap.size) (hg : w.heap[g]? = some (.cells (ps.map Value.string).toArray T (0, 0))) (hT : T ≠ 5) (hgb : g ≠ b) (hn : ps.length = n) (hn9 : n ≤ 9) (hl : l.length ≤ 1000000) (hp : ∀ p ∈ ps, p.size ≤ 1000000) :
    Calls Tryz.prog 70 #[.bool true, .slice (some ⟨g, 0, none⟩) n n, .pointer (some ⟨b, 0, none⟩)] w fun e w' => e = .returned (.tuple #[]) ∧ Lib.IsBuilderF 95 5 B b (Lib.byteCells (l ++ catL true ps)) w' ∧ Below B w w' ∧ Lib.OthersKept 5 (some b) w w' := by
  have H0 := Lib.hid h
  have HG := Lib.hid hg
  have HP := Lib.hid hp
  have HN := Lib.hid hn
  clear h hg hp
  go_enter Tryz.func70, Tryz.ntmps70
  go_wp2
  go_loopg [9] n (fun k s9 wr => ∃ i : Nat, i + k = n ∧ s9 = .int .i64 i ∧ Hid (Lib.IsBuilderF 95 5 B b (Lib.byteCells (l ++ catL true (ps.take i))) wr) ∧ Hid (Below B w wr) ∧ Hid (Lib.OthersKept 5 (some b) w wr) ∧ Hid ((l ++ catL true (ps.take i)).length ≤ 1000000 + i * 1000000))
  case atStart => exact ⟨0, by omega, rfl, Lib.hid (by simpa [catL] using H0.out), Lib.hid (Below.refl _ _), Lib.hid (Lib.OthersKept.refl _ _ _), Lib.hid (by simpa [catL] using hl)⟩
  case round =>
    obtain ⟨i, hik, rfl, HI, HB, HO, HL⟩ := hrel
    have hgw : wr.heap[g]? = some (.cells (ps.map Value.string).toArray T (0, 0)) := HO.out g _ HG.out (fun e => hgb (Option.some.inj e)) (fun c fz he => hT (by injection he))
    cases gk with
    | zero =>
      obtain rfl : i = n := by omega
      have hiz : ¬ ((i : Int) < (i : Int)) := by omega
      clear hgw
      go_wp2
      go_end0
      have e1 : ps.take i = ps := List.take_of_length_le (by omega)
      have h1 := HI.out
      rw [e1] at h1
      exact ⟨rfl, h1, HB.out, HO.out⟩
    | succ k =>
      have hi : i < n := by omega
      have hiz : (i : Int) < (n : Int) := by omega
      have hix : i < ps.length := by rw [hn]; exact hi
      obtain ⟨x, HX⟩ : ∃ x, Hid (ps[i]'hix = x) := ⟨_, Lib.hid rfl⟩
      have hc : wr.cell? ⟨g, i, none⟩ = some (.string x) := by
        have := row_cellAt' i hgw
        rw [this, ← HX.out]
        simp [hix]
      have hxs : x.size ≤ 1000000 := by rw [← HX.out]; exact HP.out _ (List.getElem_mem hix)
      have CW := Lib.hid (Tryz.Builder_WriteString_k B b _ x wr HI.out (by
        have := HL.out
        rw [Lib.byteCells_length]
        omega) (Nat.le_trans hBw (by have := HB.out.size; omega)))
      clear hgw
      go_wp2_with (first | (go_at_call 71; refine CW.out.mono ?_; rintro e w2 ⟨rfl, hi2, hb2, ho2⟩; have HI2 := Lib.hid hi2; have HB2 := Lib.hid hb2; have HO2 := Lib.hid ho2; clear hi2 hb2 ho2))
      go_roundg k
      case measure => omega
      case rel => exact ⟨i + 1, by omega, by first | rfl | simp, Lib.hid (by
          rw [catL_step ps i hix, HX.out, ← List.append_assoc, Lib.byteCells_append, ← Lib.strCells_eq]
          exact .inr HI2.out), Lib.hid (HB.out.trans HB2.out), Lib.hid (HO.out.trans HO2.out), Lib.hid (by
          have := HL.out
          have h3 : x.data.toList.length = x.size := rfl
          rw [catL_step ps i hix, HX.out, ← List.append_assoc, List.length_append, h3]
          omega)⟩
set_option maxHeartbeats 4000000 in
set_option maxRecDepth 100000 in
theorem put_no (b g T n : Nat) (ps : List ByteArray) (w : World) (hg : w.heap[g]? = some (.cells (ps.map Value.string).toArray T (0, 0))) (hn : ps.length = n) (hn9 : n ≤ 9) :
    Calls Tryz.prog 70 #[.bool false, .slice (some ⟨g, 0, none⟩) n n, .pointer (some ⟨b, 0, none⟩)] w fun e w' => e = .returned (.tuple #[]) ∧ w' = w := by
  have HG := Lib.hid hg
  clear hg
  go_enter Tryz.func70, Tryz.ntmps70
  go_wp2
  go_loopg [9] n (fun k s9 wr => ∃ i : Nat, i + k = n ∧ s9 = .int .i64 i ∧ wr = w)
  case atStart => exact ⟨0, by omega, rfl, rfl⟩
  case round =>
    obtain ⟨i, hik, rfl, rfl⟩ := hrel
    cases gk with
    | zero =>
      obtain rfl : i = n := by omega
      have hiz : ¬ ((i : Int) < (i : Int)) := by omega
      go_wp2
      go_end0
      exact ⟨rfl, rfl⟩
    | succ k =>
      have hi : i < n := by omega
      have hiz : (i : Int) < (n : Int) := by omega
      have hix : i < ps.length := by rw [hn]; exact hi
      obtain ⟨x, HX⟩ : ∃ x, Hid (ps[i]'hix = x) := ⟨_, Lib.hid rfl⟩
      have hc : wr.cell? ⟨g, i, none⟩ = some (.string x) := by
        have := row_cellAt' i HG.out
        rw [this, ← HX.out]
        simp [hix]
      go_wp2
      go_roundg k
      case measure => omega
      case rel => exact ⟨i + 1, by omega, by first | rfl | simp, rfl⟩
end Go.Proofs.YtakdjflhhaefiaaGreatDoor
