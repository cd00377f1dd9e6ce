/- dots.Depth, at every text: the range over the function that strings.SplitSeq hands back. -/
import Derived.RangeFuncFrom
import Derived.RangeFuncNested
import Derived.RangeFuncBound
import Derived.RangeFuncCalls
import Derived.RangeFuncLeaves
import Derived.Shelf.Abstract
import Derived.Shelf.RegionOpen
import Derived.WalkKit
import Derived.OwnWalkIn
import Derived.TacticsInMore
import Derived.LoopNIn
import Derived.LoopIn
import Derived.Test.YtakdjflhhaefiaaGreatDoorD3
set_option linter.unusedVariables false
set_option linter.unusedSimpArgs false
namespace Go.Proofs.YtakdjflhhaefiaaGreatDoor
open Go.RowKit Go.Shelf
attribute [local go_sem] Oper.semAt_some

def mkS (l : List UInt8) : ByteArray := ⟨l.toArray⟩
theorem mkS_list (l : List UInt8) : (mkS l).data.toList = l := rfl
theorem mkS_data (b : ByteArray) : mkS b.data.toList = b := ext_list rfl
theorem spl_hit {l : List UInt8} {i : Nat} (h : l = l.take i ++ 47 :: l.drop (i + 1)) (hn : (47 : UInt8) ∉ l.take i) : spl 47 l = l.take i :: spl 47 (l.drop (i + 1)) := by
  conv => lhs; rw [h]
  rw [spl_append, spl_one 47 _ hn]
  rfl
theorem index_byte (l : List UInt8) : (Lib.indexByte l 47 = -1 ∧ (47 : UInt8) ∉ l) ∨ ∃ i : Nat, Lib.indexByte l 47 = i ∧ i < l.length ∧ l = l.take i ++ 47 :: l.drop (i + 1) ∧ (47 : UInt8) ∉ l.take i := by
  induction l with
  | nil => exact .inl ⟨rfl, by simp⟩
  | cons b l ih =>
    by_cases hb : b = 47
    · subst hb
      exact .inr ⟨0, rfl, by simp, by simp, by simp⟩
    · have hb2 : (b == 47) = false := by simpa using hb
      rcases ih with ⟨h1, h2⟩ | ⟨i, h1, h2, h3, h4⟩
      · refine .inl ⟨?_, by simp [h2]; exact fun h => hb h.symm⟩
        rw [Lib.indexByte, hb2, h1]; rfl
      · refine .inr ⟨i + 1, ?_, by simp; omega, ?_, ?_⟩
        · rw [Lib.indexByte, hb2, h1]
          have : ¬ ((i : Int) == -1) = true := fun h => by have := eq_of_beq h; omega
          simp only [Bool.false_eq_true, if_false]
          rw [if_neg this]; omega
        · rw [List.take_succ_cons, List.drop_succ_cons, List.cons_append, ← h3]
        · rw [List.take_succ_cons]
          simp [h4]; exact fun h => hb h.symm

theorem spl_length (l : List UInt8) : (spl 47 l).length ≤ l.length + 1 := by
  induction l with
  | nil => simp [spl]
  | cons b l ih =>
    rw [spl_cons]
    split
    · simp; omega
    · cases hs : spl 47 l with
      | nil => exact absurd hs (spl_ne 47 l)
      | cons a t => rw [hs] at ih; simp [glueC] at ih ⊢; omega
/-- How long is the text in a block? -/
def lenAt (b : Nat) (w : World) : Nat := match w.cell? ⟨b, 0, none⟩ with
  | some (.string t) => t.size
  | _ => 0
theorem lenAt_eq {b : Nat} {w : World} {t : ByteArray} (h : w.cell? ⟨b, 0, none⟩ = some (.string t)) : lenAt b w = t.size := by
  unfold lenAt; rw [h]

set_option maxHeartbeats 4000000 in
set_option maxRecDepth 100000 in
/-- strings.SplitSeq's function, over "/": all steps, one by one, for every round that goes on. -/
theorem seq_runs {J : List ByteArray → ByteArray → World → Prop} (l bs bp bv : Nat) (s : ByteArray)
    (hY : ∀ pre t x W, J pre t W → pre.length ≤ s.size → YieldAt Fence.wide 3 Tryz.prog l #[.string x] W fun e W' => e = .returned (.bool true) ∧ J (pre ++ [x]) t W')
    (hS : ∀ pre t t' W, J pre t W → J pre t' (W.setCell ⟨bs, 0, none⟩ (.string t')))
    (hC : ∀ pre t W, J pre t W → W.cell? ⟨bs, 0, none⟩ = some (.string t) ∧ W.frozen? ⟨bs, 0, none⟩ = false ∧ W.cell? ⟨bp, 0, none⟩ = some (.string ⟨#[47]⟩) ∧ W.cell? ⟨bv, 0, none⟩ = some (.int .i64 0))
    (hs : s.size < 1073741824) (W : World) (h0 : J [] s W) :
    CallsIn Fence.wide 4 Tryz.prog 169 #[.func (.yield l) #[] #[], .pointer (some ⟨bp, 0, none⟩), .pointer (some ⟨bs, 0, none⟩), .pointer (some ⟨bv, 0, none⟩)] W fun e W' => (∃ v, e = .returned v) ∧ ∃ t, J ((spl 47 s.data.toList).map mkS) t W' := by
  refine callsIn_of_wp Tryz.func169 rfl trivial ?_ rfl
  simp only [Tryz.ntmps169, List.size_toArray, List.length_cons, List.length_nil, Nat.reduceAdd, Nat.reduceSub, Array.replicate_succ, Array.replicate_zero, List.push_toArray, List.append_toArray, List.nil_append, List.cons_append]
  obtain ⟨hs1, hs2, hp1, hv1⟩ := hC _ _ _ h0
  have H0 := Lib.hid h0
  have HS := Lib.hid hS
  have HC := Lib.hid hC
  have HYY := Lib.hid hY
  clear h0 hS hC hY
  gi_wp2
  clear hs1 hs2 hp1 hv1
  gi_loopw [] (fun wr => ∃ pre t, Hid (J pre t wr) ∧ Hid (pre ++ (spl 47 t.data.toList).map mkS = (spl 47 s.data.toList).map mkS) ∧ t.size ≤ s.size) (fun wr => lenAt bs wr)
  case atStart =>
    exact ⟨[], s, H0, Lib.hid rfl, Nat.le_refl _⟩
  case round =>
    obtain ⟨pre, t, HJ, HE, hts⟩ := hrel
    obtain ⟨hs1, hs2, hp1, hv1⟩ := HC.out _ _ _ HJ.out
    have hlen : lenAt bs wr = t.size := lenAt_eq hs1
    have HPL : Hid (pre.length ≤ s.size) := Lib.hid (by
      have e := congrArg List.length HE.out
      rw [List.length_append, List.length_map, List.length_map] at e
      have h5 := spl_length s.data.toList
      have h6 : 0 < (spl 47 t.data.toList).length := List.length_pos_iff.2 (spl_ne 47 _)
      rw [size_len]; omega)
    have CI := Lib.hid (fun w => Tryz.strings_Index_one t 47 w)
    rcases index_byte t.data.toList with ⟨h1, h2⟩ | ⟨i, h1, h2, h3, h4⟩
    · rw [h1] at CI
      have HX : Hid ((spl 47 s.data.toList).map mkS = pre ++ [t]) := Lib.hid (by rw [← HE.out, spl_one 47 _ h2]; rw [List.map_cons, mkS_data]; rfl)
      obtain ⟨fn, tmps, assign, body, hy, hR⟩ := HYY.out pre t t wr HJ.out HPL.out
      clear h1 h2
      gi_wp2_with (first | (refine ⟨trivial, ?_⟩; gi_at_call 137; refine (callsIn_wide.2 (CI.out _)).mono ?_; rintro e w' ⟨rfl, hww⟩; rw [hww]; clear hww w'))
      refine hR.mono ?_
      rintro e W3 ⟨rfl, hJ3⟩
      gi_wp2
      go_end0
      exact ⟨⟨_, rfl⟩, t, by rw [HX.out]; exact hJ3⟩
    · rw [h1] at CI
      have hi : (i : Int) < (t.size : Int) := by rw [size_len]; omega
      have hi0 : ¬ (i : Int) < 0 := by omega
      have hi1 : (0 : Int) ≤ (i : Int) := by omega
      have hi2 : (i : Int) ≤ (t.size : Int) := by omega
      have hi3 : (i : Int) + 1 ≤ (t.size : Int) := by omega
      have hi4 : (0 : Int) ≤ (i : Int) + 1 := by omega
      have HX : Hid (pre ++ [t.extract 0 i] ++ (spl 47 (t.extract (i + 1) t.size).data.toList).map mkS = (spl 47 s.data.toList).map mkS) := Lib.hid (by
        rw [← HE.out, spl_hit h3 h4, drop_list, List.map_cons]
        have : mkS (t.data.toList.take i) = t.extract 0 i := by rw [← take_list, mkS_data]
        rw [this]; simp)
      have HL : Hid ((t.extract (i + 1) t.size).size < t.size) := Lib.hid (by rw [size_len, drop_list, List.length_drop, ← size_len]; omega)
      obtain ⟨fn, tmps, assign, body, hy, hR⟩ := HYY.out pre t (t.extract 0 i) wr HJ.out HPL.out
      clear h1 h2 h3 h4
      gi_wp2_with (first | (refine ⟨trivial, ?_⟩; gi_at_call 137; refine (callsIn_wide.2 (CI.out _)).mono ?_; rintro e w' ⟨rfl, hww⟩; rw [hww]; clear hww w'))
      refine hR.mono ?_
      rintro e W3 ⟨rfl, hJ3⟩
      obtain ⟨hs3, hf3, hp3, hv3⟩ := HC.out _ _ _ hJ3
      have HJ3 := Lib.hid hJ3
      clear hJ3
      gi_wp2
      go_roundw
      case rel => exact ⟨_, _, Lib.hid (HS.out _ _ (t.extract (i + 1) t.size) _ HJ3.out), HX, by have := HL.out; omega⟩
      case measure =>
        rw [hlen, lenAt_eq (World.cell?_setCell_same _ _ _ hs3)]
        exact HL.out

/-- A range over that function: what the caller's invariant I must bear. -/
theorem range_text {g : Operand} {ps : Array Tmp} {assign body : Code} {Q : Exit → Act → World → Prop} {a : Act} {w : World} {n : Nat} {bs bp bv : Nat}
    (hg : a.eval g = .func (.func 169) #[] #[.pointer (some ⟨bp, 0, none⟩), .pointer (some ⟨bs, 0, none⟩), .pointer (some ⟨bv, 0, none⟩)]) (hps : ps.size = 1) (hlt : bs < w.heap.size)
    (I : List ByteArray → ByteArray → World → Prop)
    (hP : ∀ pre t W k o, w.heap.size ≤ k → I pre t W → I pre t (W.putObj k o))
    (hA : ∀ pre t W o, w.heap.size ≤ W.heap.size → I pre t W → I pre t (W.alloc o))
    (hS : ∀ pre t t' W, I pre t W → I pre t' (W.setCell ⟨bs, 0, none⟩ (.string t')))
    (hC : ∀ pre t W, I pre t W → W.cell? ⟨bs, 0, none⟩ = some (.string t) ∧ W.frozen? ⟨bs, 0, none⟩ = false ∧ W.cell? ⟨bp, 0, none⟩ = some (.string ⟨#[47]⟩) ∧ W.cell? ⟨bv, 0, none⟩ = some (.int .i64 0))
    (s : ByteArray) (hs : s.size < 1073741824) (h0 : I [] s w) (a₁ : ByteArray → Act)
    (hassign : ∀ (l : Nat) (x : ByteArray) (W : World) (K : Act → World → Prop), K (a₁ x) W →
      assign.wpIn (Fence.wide.inRound l) 3 Tryz.prog (Exit.then K (fun _ _ _ => False)) { tmps := (ps.zip #[.string x]).foldl (fun t (p, v) => t.setIfInBounds p v) a.tmps, defers := [] } W)
    (hbody : ∀ (l : Nat) (pre : List ByteArray) (t x : ByteArray) (W : World), I pre t W → pre.length ≤ s.size → body.wpIn (Fence.wide.inRound l) 3 Tryz.prog (fun e _ W' => e = .normal ∧ I (pre ++ [x]) t W' ∧ KeepsOthers W W') (a₁ x) W)
    (hdone : ∀ (t : ByteArray) (W : World), I ((spl 47 s.data.toList).map mkS) t W → W.heap[w.heap.size]? = some (.deferred (some [])) → Q .normal { a with defers := { target := .collected w.heap.size, args := #[] } :: a.defers } W) :
    (Code.rangeFunc g ps assign body).wpIn Fence.wide n Tryz.prog Q a w := by
  have eg : ∀ args w, (callFunc 169 args).run Tryz.prog w = .ok (.enter 169 args) w := enters_of Tryz.func169 (by kernel_rfl) rfl
  refine wpIn_rangeFunc ?_
  intro fn hfn
  obtain ⟨rec, hrec⟩ : ∃ rec : Loop, rec = { state := .ready, pending := none, fn, tmps := a.tmps, params := ps, assign, body, defers := w.heap.size } := ⟨_, rfl⟩
  obtain ⟨W1, hW1⟩ : ∃ W1, (w.alloc (.deferred (some []))).alloc (.loop rec) = W1 := ⟨_, rfl⟩
  have hL1 : W1.heap[w.heap.size + 1]? = some (.loop rec) := by
    rw [← hW1]
    have := World.alloc_heap_new (w.alloc (.deferred (some []))) (.loop rec)
    rwa [World.size_alloc] at this
  have hK1 : W1.heap[w.heap.size]? = some (.deferred (some [])) := by
    rw [← hW1]
    exact (Below.heap_alloc _ _ _ (by simp)).trans (World.alloc_heap_new w _)
  have hI1 : I [] s W1 := by
    rw [← hW1]
    exact hA _ _ _ _ (by simp) (hA _ _ _ _ (Nat.le_refl _) h0)
  refine ⟨w.heap.size + 1, [{ target := .collected w.heap.size, args := #[] }], W1, { target := .fn (.func 169) #[.pointer (some ⟨bp, 0, none⟩), .pointer (some ⟨bs, 0, none⟩), .pointer (some ⟨bv, 0, none⟩)], args := #[.func (.yield (w.heap.size + 1)) #[] #[]] }, W1, 169,
    #[.func (.yield (w.heap.size + 1)) #[] #[], .pointer (some ⟨bp, 0, none⟩), .pointer (some ⟨bs, 0, none⟩), .pointer (some ⟨bv, 0, none⟩)], W1, ?_, ?_, fun _ _ => trivial, ?_, fun h => ?_, ?_⟩
  · rw [← hW1, hrec]; exact run_enterLoop_outer fn a.tmps ps assign body
  · simp only [resolve, hg]
    simp [go_sem]
  · simp [invoke, go_sem, eg]
  · cases h
  · refine callsIn_wide.2 (callsIn_wide.1 ((seq_runs (J := fun pre t W => I pre t W ∧ W.heap[w.heap.size + 1]? = some (.loop rec) ∧ W.heap[w.heap.size]? = some (.deferred (some []))) (w.heap.size + 1) bs bp bv s ?_ ?_ (fun pre t W h => hC pre t W h.1) hs W1 ⟨hI1, hL1, hK1⟩).mono ?_))
    · rintro pre t x W ⟨hi, hl, hk⟩ hlen
      have hy := run_yield (P := Tryz.prog) (args := #[.string x]) hl (by rw [hrec]; exact hps.symm)
      rw [hrec] at hy
      have hbig : w.heap.size + 1 < W.heap.size := (Array.getElem?_eq_some_iff.1 hl).1
      refine ⟨fn, _, assign, body, hy, roundIn_of_wpIn trivial (hassign _ x W _ ⟨_, run_beginRound hl (by rw [hrec]), ?_⟩)⟩
      have hl2 : (W.putObj (w.heap.size + 1) (.loop { rec with state := .busy })).heap[w.heap.size + 1]? = some (.loop { rec with state := .busy }) := World.putObj_heap_same hbig
      have hk2 : (W.putObj (w.heap.size + 1) (.loop { rec with state := .busy })).heap[w.heap.size]? = some (.deferred (some [])) := (World.putObj_heap_other (by omega)).trans hk
      refine wpIn_mono (hbody _ pre t x _ (hP _ _ _ _ _ (by omega) hi) hlen) ?_
      rintro e a3 W3 ⟨rfl, hi3, hko⟩
      have hl3 := hko.same _ _ hl2 rfl
      have hk3 := hko.same _ _ hk2 rfl
      refine ⟨_, _, run_endRound none hl3, rfl, hP _ _ _ _ _ (by omega) hi3, ?_, (World.putObj_heap_other (by omega)).trans hk3⟩
      rw [World.putObj_heap_same (Array.getElem?_eq_some_iff.1 hl3).1, hrec]
      rfl
    · rintro pre t t' W ⟨hi, hl, hk⟩
      exact ⟨hS _ _ _ _ hi, (Below.heap_setCell W ⟨bs, 0, none⟩ _ _ (by simp; omega)).trans hl, (Below.heap_setCell W ⟨bs, 0, none⟩ _ _ (by simp; omega)).trans hk⟩
    · rintro e W2 ⟨⟨v, rfl⟩, t, hi, hl, hk⟩
      exact ⟨none, _, by have := run_endLoop (P := Tryz.prog) hl (by rw [hrec]; simp); rw [hrec] at this; exact this, hdone t _ (hP _ _ _ _ _ (by omega) hi) ((World.putObj_heap_other (by omega)).trans hk)⟩

/-- strings.SplitSeq: three new boxes. -/
theorem split_seq (s p : ByteArray) (w : World) : Calls Tryz.prog 78 #[.string s, .string p] w fun e w' =>
    e = .returned (.func (.func 169) #[] #[.pointer (some ⟨w.heap.size + 1, 0, none⟩), .pointer (some ⟨w.heap.size, 0, none⟩), .pointer (some ⟨w.heap.size + 1 + 1, 0, none⟩)]) ∧
      w' = ((w.alloc (.cells #[.string s] 9)).alloc (.cells #[.string p] 9)).alloc (.cells #[.int .i64 0] 3) := by
  go_enter Tryz.func78, Tryz.ntmps78
  go_wp2
  go_ret
  exact ⟨rfl, rfl⟩
theorem split_seq2 (s p : ByteArray) (w : World) : Calls Tryz.prog 78 #[.string s, .string p] w fun e w' =>
    e = .returned (.func (.func 169) #[] #[.pointer (some ⟨w.heap.size + 1, 0, none⟩), .pointer (some ⟨w.heap.size, 0, none⟩), .pointer (some ⟨w.heap.size + 1 + 1, 0, none⟩)]) ∧
      Below w.heap.size w w' ∧ w'.heap.size = w.heap.size + 3 ∧ w'.heap[w.heap.size]? = some (.cells #[.string s] 9 (0, 0)) ∧ w'.heap[w.heap.size + 1]? = some (.cells #[.string p] 9 (0, 0)) ∧ w'.heap[w.heap.size + 1 + 1]? = some (.cells #[.int .i64 0] 3 (0, 0)) := by
  refine (split_seq s p w).mono ?_
  rintro e w' ⟨rfl, rfl⟩
  refine ⟨rfl, (((Below.refl _ w).alloc (Nat.le_refl _) _).alloc (by simp) _).alloc (by simp; omega) _, by simp, ?_, ?_, ?_⟩
  · exact (Below.heap_alloc _ _ _ (by simp; omega)).trans ((Below.heap_alloc _ _ _ (by simp)).trans (World.alloc_heap_new w _))
  · exact (Below.heap_alloc _ _ _ (by simp)).trans (by have := World.alloc_heap_new (w.alloc (.cells #[.string s] 9)) (.cells #[.string p] 9); rwa [World.size_alloc] at this)
  · have := World.alloc_heap_new ((w.alloc (.cells #[.string s] 9)).alloc (.cells #[.string p] 9)) (.cells #[.int .i64 0] 3)
    rwa [World.size_alloc, World.size_alloc] at this

theorem row_cell {W : World} {b t : Nat} {x : Value} (h : W.heap[b]? = some (.cells #[x] t (0, 0))) : W.cell? ⟨b, 0, none⟩ = some x := by
  simp [World.cell?, h]
theorem row_free {W : World} {b t : Nat} {x : Value} (h : W.heap[b]? = some (.cells #[x] t (0, 0))) : W.frozen? ⟨b, 0, none⟩ = false := by
  simp [World.frozen?, h]
theorem row_set {W : World} {b t : Nat} {x : Value} (u : Value) (h : W.heap[b]? = some (.cells #[x] t (0, 0))) : (W.setCell ⟨b, 0, none⟩ u).heap[b]? = some (.cells #[u] t (0, 0)) := by
  obtain ⟨hlt, hx⟩ := Array.getElem?_eq_some_iff.1 h
  show (W.heap.modify b _)[b]? = _
  rw [Array.getElem?_eq_getElem (by rw [Array.size_modify]; exact hlt), Array.getElem_modify_self, hx]
  rfl

def cntS (l : List ByteArray) : Nat := (l.map (·.data.toList)).countP (fun x => x ≠ [])
theorem cntS_snoc (l : List ByteArray) (x : ByteArray) : cntS (l ++ [x]) = cntS l + (if x.data.toList = [] then 0 else 1) := by
  unfold cntS
  rw [List.map_append, List.countP_append]
  congr 1
  simp [List.countP_cons]
theorem cntS_le (l : List ByteArray) : cntS l ≤ l.length := by
  unfold cntS
  have := List.countP_le_length (p := fun x : List UInt8 => decide (x ≠ [])) (l := l.map (·.data.toList))
  rwa [List.length_map] at this
structure DpW (w : World) (b0 bs bp bv : Nat) (pre : List ByteArray) (t : ByteArray) (W : World) : Prop where
  num : W.heap[b0]? = some (.cells #[.int .i64 (cntS pre : Nat)] 3 (0, 0))
  txt : W.heap[bs]? = some (.cells #[.string t] 9 (0, 0))
  sep : W.heap[bp]? = some (.cells #[.string ⟨#[47]⟩] 9 (0, 0))
  sav : W.heap[bv]? = some (.cells #[.int .i64 0] 3 (0, 0))
  below : Below w.heap.size w W
theorem DpW.put {w : World} {b0 bs bp bv : Nat} {pre : List ByteArray} {t : ByteArray} {W : World} (h : DpW w b0 bs bp bv pre t W) {k : Nat} (o : Obj) (hw : w.heap.size ≤ k) (h0 : b0 < k) (h1 : bs < k) (h2 : bp < k) (h3 : bv < k) : DpW w b0 bs bp bv pre t (W.putObj k o) :=
  ⟨(World.putObj_heap_other (by omega)).trans h.num, (World.putObj_heap_other (by omega)).trans h.txt, (World.putObj_heap_other (by omega)).trans h.sep, (World.putObj_heap_other (by omega)).trans h.sav,
    h.below.grown (grownBy_putObj' W k o) h.below.size (fun j e => by cases e; exact hw)⟩
theorem DpW.more {w : World} {b0 bs bp bv : Nat} {pre : List ByteArray} {t : ByteArray} {W : World} (h : DpW w b0 bs bp bv pre t W) (o : Obj) : DpW w b0 bs bp bv pre t (W.alloc o) :=
  ⟨(Below.heap_alloc W o _ (Array.getElem?_eq_some_iff.1 h.num).1).trans h.num, (Below.heap_alloc W o _ (Array.getElem?_eq_some_iff.1 h.txt).1).trans h.txt, (Below.heap_alloc W o _ (Array.getElem?_eq_some_iff.1 h.sep).1).trans h.sep, (Below.heap_alloc W o _ (Array.getElem?_eq_some_iff.1 h.sav).1).trans h.sav,
    h.below.alloc h.below.size _⟩

set_option maxHeartbeats 4000000 in
set_option maxRecDepth 100000 in
theorem depth_any (s : ByteArray) (w : World) (hs : s.size < 1073741824) :
    Calls Tryz.prog 26 #[.string s] w fun e w' => e = .returned (.int .i64 (depthL (remL s.data.toList) : Nat)) ∧ Below w.heap.size w w' := by
  have hrs : (mkS (remL s.data.toList)).size < 1073741824 := by
    rw [size_len, mkS_list]
    have := remL_len s.data.toList
    rw [← size_len] at this
    omega
  have HD : Hid (depthL (remL s.data.toList) = cntS ((spl 47 (mkS (remL s.data.toList)).data.toList).map mkS)) := Lib.hid (by
    unfold depthL cntS
    rw [List.map_map, mkS_list]
    have : ((fun b : ByteArray => b.data.toList) ∘ mkS) = id := by funext l; rfl
    rw [this, List.map_id])
  have HR : Hid (∀ w, Calls Tryz.prog 23 #[.string s] w fun e w' => e = .returned (.string (mkS (remL s.data.toList))) ∧ Below w.heap.size w w') := Lib.hid (fun w => remove_any s w hs)
  generalize depthL (remL s.data.toList) = dep at HD
  generalize mkS (remL s.data.toList) = r at hrs HD HR
  refine (callsIn_wide (n := 6)).1 ?_
  refine callsIn_of_wp_marks Tryz.func26 rfl trivial ?_ rfl
  simp only [Tryz.ntmps26, List.size_toArray, List.length_cons, List.length_nil, Nat.reduceAdd, Nat.reduceSub, Array.replicate_succ, Array.replicate_zero, List.push_toArray, List.append_toArray, List.nil_append, List.cons_append]
  have hrow := World.alloc_heap_new w (.cells #[.int .i64 0] 3)
  have HROW := Lib.hid hrow
  clear hrow
  gi_wp2_with (first | (refine ⟨trivial, ?_⟩; gi_at_call 78; refine (callsIn_wide.2 (split_seq2 _ _ w1)).mono ?_; rintro e w2 ⟨rfl, hb2, hsz, h1, h2, h3⟩; have HB2 := Lib.hid hb2; have HSZ := Lib.hid hsz; have H1 := Lib.hid h1; have H2 := Lib.hid h2; have H3 := Lib.hid h3; clear hb2 hsz h1 h2 h3) | (refine ⟨trivial, ?_⟩; gi_at_call 23; refine (callsIn_wide.2 (HR.out _)).mono ?_; rintro e w1 ⟨rfl, hb⟩; have HB1 := Lib.hid hb; clear hb))
  have hN1 : w1.heap[w.heap.size]? = some (.cells #[.int .i64 0] 3 (0, 0)) := (HB1.out.block w.heap.size (by simp)).trans HROW.out
  have hlt1 : w.heap.size < w1.heap.size := (Array.getElem?_eq_some_iff.1 hN1).1
  have hN2 : w2.heap[w.heap.size]? = some (.cells #[.int .i64 0] 3 (0, 0)) := (HB2.out.block _ hlt1).trans hN1
  have hbw : Below w.heap.size w w2 := (((Below.refl _ w).alloc (Nat.le_refl _) _).trans (HB1.out.mono (by simp))).trans (HB2.out.mono (by omega))
  have hsz := HSZ.out
  refine range_text (bs := w1.heap.size) (bp := w1.heap.size + 1) (bv := w1.heap.size + 1 + 1) rfl rfl (by omega) (fun pre t W => DpW w w.heap.size w1.heap.size (w1.heap.size + 1) (w1.heap.size + 1 + 1) pre t W)
    (fun pre t W k o hk h => h.put o (by omega) (by omega) (by omega) (by omega) (by omega)) (fun pre t W o _ h => h.more o)
    (fun pre t t' W h => ⟨(Below.heap_setCell W ⟨w1.heap.size, 0, none⟩ _ _ (by simp; omega)).trans h.num, row_set _ h.txt, (Below.heap_setCell W ⟨w1.heap.size, 0, none⟩ _ _ (by simp)).trans h.sep, (Below.heap_setCell W ⟨w1.heap.size, 0, none⟩ _ _ (by simp; omega)).trans h.sav, h.below.setCell (p := ⟨w1.heap.size, 0, none⟩) (by simp; omega) _⟩)
    (fun pre t W h => ⟨row_cell h.txt, row_free h.txt, row_cell h.sep, row_cell h.sav⟩) r hrs ⟨hN2, H1.out, H2.out, H3.out, hbw⟩
    (fun x => { tmps := #[.string s, undef, .int .i64 0, .pointer (some ⟨w.heap.size, 0, none⟩), .string x, .string s, .string r, .func (.func 169) #[] #[.pointer (some ⟨w1.heap.size + 1, 0, none⟩), .pointer (some ⟨w1.heap.size, 0, none⟩), .pointer (some ⟨w1.heap.size + 1 + 1, 0, none⟩)], .string x, undef, undef, undef, undef, undef], defers := [] }) ?assign ?body ?done
  case assign =>
    intro l x W K hK
    gi_wp2
    exact hK
  case body =>
    rintro l pre t x W h hlen
    have hcnt := cntS_le pre
    have hsn := cntS_snoc pre x
    have H := Lib.hid h
    by_cases hx : x.data.toList = []
    · have hem : (!x.toList.isEmpty) = false := by rw [ByteArray.toList_eq, hx]; rfl
      rw [if_pos hx, Nat.add_zero] at hsn
      have HSN := Lib.hid hsn
      clear hx hsn h
      gi_wp2
      exact ⟨⟨by rw [HSN.out]; exact H.out.num, H.out.txt, H.out.sep, H.out.sav, H.out.below⟩, KeepsOthers.refl _⟩
    · have hem : (!x.toList.isEmpty) = true := by
        rw [ByteArray.toList_eq]
        cases hq : x.data.toList with
        | nil => exact absurd hq hx
        | cons a u => rfl
      rw [if_neg hx] at hsn
      have HSN := Lib.hid hsn
      have hc := row_cell h.num
      have hf := row_free h.num
      have hb1 : (cntS pre : Int) ≤ 1073741824 := by omega
      clear hx hsn h
      gi_wp2
      refine ⟨⟨?_, (Below.heap_setCell W ⟨w.heap.size, 0, none⟩ _ _ (by simp; omega)).trans H.out.txt, (Below.heap_setCell W ⟨w.heap.size, 0, none⟩ _ _ (by simp; omega)).trans H.out.sep, (Below.heap_setCell W ⟨w.heap.size, 0, none⟩ _ _ (by simp; omega)).trans H.out.sav, H.out.below.setCell (p := ⟨w.heap.size, 0, none⟩) (Nat.le_refl _) _⟩, KeepsOthers.setCell _ _ _⟩
      rw [HSN.out]
      exact row_set _ H.out.num
  case done =>
    rintro t W h hK
    have hnc := row_cell h.num
    rw [← HD.out] at hnc
    have H := Lib.hid h
    have HK := Lib.hid hK
    clear h hK
    gi_wp2
    refine ⟨by simp, .inl ⟨_, _, rfl, run_takeDeferred HK.out, ?_⟩⟩
    exact ⟨_, results_tmp rfl _ _ _, rfl, H.out.below.grown (grownBy_putObj' W _ _) H.out.below.size (fun k e => by cases e; omega)⟩
end Go.Proofs.YtakdjflhhaefiaaGreatDoor
