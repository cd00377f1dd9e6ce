/- six.Parse: the walk. -/
import Derived.Test.YtakdjflhhaefiaaGreatDoorA9
import Derived.Laws.CopyOwn
set_option linter.unusedVariables false
set_option linter.unusedSimpArgs false
namespace Go.Proofs.YtakdjflhhaefiaaGreatDoor
open Go.RowKit Go.Proofs.YtakdjflhhaefiaaGreatDoor.PDotsGo Go.Proofs.YtakdjflhhaefiaaGreatDoorW.PrintWords Go.Proofs.YtakdjflhhaefiaaGreatDoorW.PrintLast Go.Proofs.YtakdjflhhaefiaaGreatDoorW.PrintMore

theorem six_start (w : World) (t : ByteArray) : RdAt (w.heap.size + 1) t 0 (-1) false ((w.alloc (.cells #[.int .u64 0, .int .u64 0] 64)).alloc (.cells #[.string t, .slice none 0 0, .int .i64 (-1), .bool false] 112)) ∧
    Below w.heap.size w ((w.alloc (.cells #[.int .u64 0, .int .u64 0] 64)).alloc (.cells #[.string t, .slice none 0 0, .int .i64 (-1), .bool false] 112)) ∧
    ((w.alloc (.cells #[.int .u64 0, .int .u64 0] 64)).alloc (.cells #[.string t, .slice none 0 0, .int .i64 (-1), .bool false] 112)).heap[w.heap.size]? = some (.cells #[.int .u64 0, .int .u64 0] 64 (0, 0)) := by
  refine ⟨⟨.slice none 0 0, [], ?_, ?_⟩, ((Below.refl _ w).alloc (Nat.le_refl _) _).alloc (by simp) _, ?_⟩
  · have := World.alloc_heap_new (w.alloc (.cells #[.int .u64 0, .int .u64 0] 64)) (.cells #[.string t, .slice none 0 0, .int .i64 (-1), .bool false] 112)
    rwa [World.size_alloc] at this
  · exact ⟨rfl, .inl ⟨rfl, rfl⟩⟩
  · exact (Below.heap_alloc _ _ _ (by simp)).trans (World.alloc_heap_new w _)

theorem kwrap {n : Int} (h : -1000000 ≤ n ∧ n ≤ 1000000) : IntKind.i64.wrap n = n := by
  simp [IntKind.wrap, IntKind.bits, IntKind.signed]; omega
def Ints8 (l : List Value) : Prop := ∃ ps : List Int, ps.length = 8 ∧ l = ps.map (Value.int .u16)
theorem splice_ints {l : List Value} {off : Nat} {qs : List Int} (h : Ints8 l) (hq : off + qs.length ≤ 8) : Ints8 (splice l off (qs.map (Value.int .u16))) := by
  obtain ⟨ps, hps, rfl⟩ := h
  refine ⟨splice ps off qs, by rw [length_splice _ _ _ (by omega)]; exact hps, ?_⟩
  simp [splice, List.map_append, List.map_take, List.map_drop]
theorem ints8_lit {l : List Value} (h : Ints8 l) : ∃ x0 x1 x2 x3 x4 x5 x6 x7 : Int, l = [.int .u16 x0, .int .u16 x1, .int .u16 x2, .int .u16 x3, .int .u16 x4, .int .u16 x5, .int .u16 x6, .int .u16 x7] := by
  obtain ⟨ps, hps, rfl⟩ := h
  match ps, hps with
  | [x0, x1, x2, x3, x4, x5, x6, x7], _ => exact ⟨x0, x1, x2, x3, x4, x5, x6, x7, rfl⟩
theorem own_cells {w : World} {base : Nat} {A : Option Addr} {n c : Nat} {l : List Value} (h : w.ownsRow base 113 1 (.slice A n c) n l) (hn : 0 < n) : ∃ ad, A = some ad ∧ ∀ (j : Nat) u, l[j]? = some u → w.cell? (ad.add j) = some u := by
  have h2 := h
  rcases h.2 with ⟨_, h0⟩ | ⟨g, cap, cur, hv, hb, hg, hc, _⟩
  · omega
  · cases hv
    exact ⟨_, rfl, fun j u hu => h2.cells rfl j u hu⟩
theorem own_len {w : World} {base : Nat} {A : Option Addr} {n c : Nat} {l : List Value} (h : w.ownsRow base 113 1 (.slice A n c) n l) : l.length = n ∧ n ≤ c := by
  refine ⟨by simpa using h.1, ?_⟩
  rcases h.2 with ⟨_, h0⟩ | ⟨g, cap, cur, hv, hb, hg, hc, _⟩
  · omega
  · cases hv; exact hc
theorem ones16 (xs : List Int) : ∀ u ∈ xs.map (Value.int .u16), u.oneCell' = true := by
  intro u hu
  obtain ⟨x, _, rfl⟩ := List.mem_map.1 hu
  rfl
theorem zeros8 : Ints8 [.int .u16 0, .int .u16 0, .int .u16 0, .int .u16 0, .int .u16 0, .int .u16 0, .int .u16 0, .int .u16 0] := ⟨[0, 0, 0, 0, 0, 0, 0, 0], rfl, rfl⟩
theorem size113 : (Tryz.prog.info? 113).map (·.size) = some 1 := by kernel_rfl

set_option maxHeartbeats 4000000 in
set_option maxRecDepth 100000 in
theorem six_any (s : ByteArray) (w : World) (hs : s.size ≤ 1000000) (hv : VarsOk w) :
    Calls Tryz.prog 40 #[.string s] w fun e w' => ∃ hi lo : Int, e = .returned (.tuple #[.agg #[.int .u64 hi, .int .u64 lo], .bool (sixB s)]) ∧ Below w.heap.size w w' := by
  have HV := Lib.hid hv
  clear hv
  cases hp : Lib.hasPrefix s.data.toList [58] with
  | true =>
    have h1i : (1 : Int) ≤ (s.size : Int) := len_of hp
    cases hp2 : Lib.hasPrefix s.data.toList [58, 58] with
    | false =>
      have HF : Hid (sixB s = false) := Lib.hid (by unfold sixB; rw [hp, hp2]; rfl)
      go_enter Tryz.func40, Tryz.ntmps40
      go_wp2_with (first | (go_at_call 25; refine (Tryz.strings_HasPrefix _ _ _).mono ?_; rintro e w' ⟨rfl, hww⟩; rw [hww]; clear hww w'))
      obtain ⟨h1, h2, h3⟩ := six_start w s
      refine bodyPost_ret (v := .tuple #[.agg #[.int .u64 0, .int .u64 0], .bool false]) (results_ct (P := Tryz.prog) (fn := Tryz.f40) (p := 2) (u := 3) (ty := 64) rfl _ _ w.heap.size 64 #[.int .u64 0, .int .u64 0] (0, 0) _ rfl h3 Tryz.underlying64 rfl (by kernel_rfl)) rfl ?_
      first | exact ⟨_, _, by rw [HF.out], h2⟩ | exact ⟨⟨_, _, by rw [HF.out]⟩, h2⟩ | exact ⟨_, ⟨_, by rw [HF.out]⟩, h2⟩
    | true =>
    have HT : Hid (sixB s = sixFrom (s.size + 2) (s.extract 1 s.size) 0 (-1) false) := Lib.hid (by unfold sixB; rw [hp, hp2]; rfl)
    go_enter Tryz.func40, Tryz.ntmps40
    go_wp2_with (first | (go_at_call 25; refine (Tryz.strings_HasPrefix _ _ _).mono ?_; rintro e w' ⟨rfl, hww⟩; rw [hww]; clear hww w'))
    obtain ⟨h1, h2, h3⟩ := six_start w (s.extract 1 s.size)
    have HRD := Lib.hid h1
    have HB0 := Lib.hid h2
    have HRES := Lib.hid h3
    clear h1 h2 h3
    generalize ((w.alloc (.cells #[.int .u64 0, .int .u64 0] 64)).alloc (.cells #[.string (s.extract 1 s.size), .slice none 0 0, .int .i64 (-1), .bool false] 112)) = W0 at *
    have HST : Hid ((s.extract 1 s.size).size ≤ s.size) := Lib.hid (by rw [ByteArray.size_extract]; omega)
    go_loopg [] (s.size + 2) (fun k wr => ∃ (t : ByteArray) (n : Nat) (g : Int) (e : Bool), Hid (RdAt (w.heap.size + 1) t n g e wr) ∧ Hid (Below w.heap.size w wr) ∧ Hid (wr.heap[w.heap.size]? = some (.cells #[.int .u64 0, .int .u64 0] 64 (0, 0))) ∧ (bif e then 1 else t.size + 2) ≤ k ∧ n ≤ 8 ∧ (g < 0 ∨ (0 ≤ g ∧ g ≤ n)) ∧ t.size ≤ 1000000 ∧ Hid (sixB s = sixFrom k t n g e))
    case atStart => exact ⟨(s.extract 1 s.size), 0, -1, false, HRD, HB0, HRES, Nat.add_le_add_right HST.out 2, Nat.zero_le _, .inl (by decide), Nat.le_trans HST.out hs, HT⟩
    case round =>
      obtain ⟨t, n, g, e, HR, HB, HRS, hk, hn, hg, ht, HSP⟩ := hrel
      have h := HR.out
      obtain ⟨v, xs, hrow, hown⟩ := h
      obtain ⟨A, c, rfl⟩ := own_slice hown
      have c1 := row_cellAt 1 hrow
      have c2 := row_cellAt 2 hrow
      have c3 := row_cellAt 3 hrow
      simp only [List.getElem?_toArray, List.getElem?_cons_zero, List.getElem?_cons_succ] at c1 c2 c3
      have HROW := Lib.hid hrow
      have HOWN := Lib.hid hown
      clear hrow hown
      cases e with
      | false =>
        obtain ⟨k, rfl⟩ : ∃ k', gk = k' + 1 := ⟨gk - 1, by simp at hk; omega⟩
        have hkt : t.size + 1 ≤ k := by simp at hk; omega
        have CS := Lib.hid (step_any (w.heap.size + 1) t n g wr HR.out (by omega) ht (HV.out.move (Nat.le_refl _) HB.out))
        have HSN := Lib.hid (step_n t n g hn hg)
        have HSL := Lib.hid (step_less t n g)
        have HSP2 : Hid (sixB s = if (stepR t n g).ok && !decide (8 < (stepR t n g).n) then sixFrom k (stepR t n g).rest (stepR t n g).n (stepR t n g).gap (stepR t n g).ended else false) := HSP
        clear HSP
        generalize stepR t n g = r at *
        obtain ⟨ok, t2, n2, g2, e2⟩ := r
        simp only at *
        cases ok with
        | false =>
          have HF : Hid (sixB s = false) := HSP2
          go_wp2_with (first | (go_at_call 89; refine CS.out.mono ?_; rintro e w2 ⟨rfl, hrd2, hb2⟩; have HR2 := Lib.hid hrd2; have HB2 := Lib.hid hb2; clear hrd2 hb2; obtain ⟨v2, ys, hrow2, hown2⟩ := HR2.out; obtain ⟨A2, cc2, rfl⟩ := own_slice hown2; have d1 := row_cellAt 1 hrow2; have HRS2 := Lib.hid ((HB2.out.block w.heap.size (Nat.lt_succ_self _)).trans HRS.out); have r0 := row_cellAt 0 HRS2.out; have r1 := row_cellAt 1 HRS2.out; have q0 := row_freeAt 0 HRS2.out; have q1 := row_freeAt 1 HRS2.out; simp only [List.getElem?_toArray, List.getElem?_cons_zero, List.getElem?_cons_succ] at d1 r0 r1; clear hrow2 hown2))
          refine bodyPost_ret (v := .tuple #[.agg #[.int .u64 0, .int .u64 0], .bool false]) (results_ct (P := Tryz.prog) (fn := Tryz.f40) (p := 2) (u := 3) (ty := 64) rfl _ _ w.heap.size 64 #[.int .u64 0, .int .u64 0] (0, 0) _ rfl (row_setAt (.int .u64 0) (row_setAt (.int .u64 0) HRS2.out)) Tryz.underlying64 rfl (by kernel_rfl)) rfl ?_
          first | exact ⟨_, _, by rw [HF.out], ((HB.out.trans (HB2.out.mono (Nat.le_succ _))).setCell (p := ⟨w.heap.size, 0, none⟩) (Nat.le_refl _) _).setCell (p := ⟨w.heap.size, 1, none⟩) (Nat.le_refl _) _⟩ | exact ⟨⟨_, _, by rw [HF.out]⟩, ((HB.out.trans (HB2.out.mono (Nat.le_succ _))).setCell (p := ⟨w.heap.size, 0, none⟩) (Nat.le_refl _) _).setCell (p := ⟨w.heap.size, 1, none⟩) (Nat.le_refl _) _⟩ | exact ⟨_, ⟨_, by rw [HF.out]⟩, ((HB.out.trans (HB2.out.mono (Nat.le_succ _))).setCell (p := ⟨w.heap.size, 0, none⟩) (Nat.le_refl _) _).setCell (p := ⟨w.heap.size, 1, none⟩) (Nat.le_refl _) _⟩
        | true =>
          by_cases h8 : 8 < n2
          · have HF : Hid (sixB s = false) := Lib.hid (by rw [HSP2.out, decide_eq_true h8]; rfl)
            have h8i : (8 : Int) < (n2 : Int) := by omega
            go_wp2_with (first | (go_at_call 89; refine CS.out.mono ?_; rintro e w2 ⟨rfl, hrd2, hb2⟩; have HR2 := Lib.hid hrd2; have HB2 := Lib.hid hb2; clear hrd2 hb2; obtain ⟨v2, ys, hrow2, hown2⟩ := HR2.out; obtain ⟨A2, cc2, rfl⟩ := own_slice hown2; have d1 := row_cellAt 1 hrow2; have HRS2 := Lib.hid ((HB2.out.block w.heap.size (Nat.lt_succ_self _)).trans HRS.out); have r0 := row_cellAt 0 HRS2.out; have r1 := row_cellAt 1 HRS2.out; have q0 := row_freeAt 0 HRS2.out; have q1 := row_freeAt 1 HRS2.out; simp only [List.getElem?_toArray, List.getElem?_cons_zero, List.getElem?_cons_succ] at d1 r0 r1; clear hrow2 hown2))
            refine bodyPost_ret (v := .tuple #[.agg #[.int .u64 0, .int .u64 0], .bool false]) (results_ct (P := Tryz.prog) (fn := Tryz.f40) (p := 2) (u := 3) (ty := 64) rfl _ _ w.heap.size 64 #[.int .u64 0, .int .u64 0] (0, 0) _ rfl (row_setAt (.int .u64 0) (row_setAt (.int .u64 0) HRS2.out)) Tryz.underlying64 rfl (by kernel_rfl)) rfl ?_
            first | exact ⟨_, _, by rw [HF.out], ((HB.out.trans (HB2.out.mono (Nat.le_succ _))).setCell (p := ⟨w.heap.size, 0, none⟩) (Nat.le_refl _) _).setCell (p := ⟨w.heap.size, 1, none⟩) (Nat.le_refl _) _⟩ | exact ⟨⟨_, _, by rw [HF.out]⟩, ((HB.out.trans (HB2.out.mono (Nat.le_succ _))).setCell (p := ⟨w.heap.size, 0, none⟩) (Nat.le_refl _) _).setCell (p := ⟨w.heap.size, 1, none⟩) (Nat.le_refl _) _⟩ | exact ⟨_, ⟨_, by rw [HF.out]⟩, ((HB.out.trans (HB2.out.mono (Nat.le_succ _))).setCell (p := ⟨w.heap.size, 0, none⟩) (Nat.le_refl _) _).setCell (p := ⟨w.heap.size, 1, none⟩) (Nat.le_refl _) _⟩
          · have HF : Hid (sixB s = sixFrom k t2 n2 g2 e2) := Lib.hid (by rw [HSP2.out, decide_eq_false h8]; rfl)
            have h8i : ¬ (8 : Int) < (n2 : Int) := by omega
            go_wp2_with (first | (go_at_call 89; refine CS.out.mono ?_; rintro e w2 ⟨rfl, hrd2, hb2⟩; have HR2 := Lib.hid hrd2; have HB2 := Lib.hid hb2; clear hrd2 hb2; obtain ⟨v2, ys, hrow2, hown2⟩ := HR2.out; obtain ⟨A2, cc2, rfl⟩ := own_slice hown2; have d1 := row_cellAt 1 hrow2; have HRS2 := Lib.hid ((HB2.out.block w.heap.size (Nat.lt_succ_self _)).trans HRS.out); have r0 := row_cellAt 0 HRS2.out; have r1 := row_cellAt 1 HRS2.out; have q0 := row_freeAt 0 HRS2.out; have q1 := row_freeAt 1 HRS2.out; simp only [List.getElem?_toArray, List.getElem?_cons_zero, List.getElem?_cons_succ] at d1 r0 r1; clear hrow2 hown2))
            go_roundg k
            case measure => exact Nat.lt_succ_self k
            case rel =>
              refine ⟨t2, n2, g2, e2, HR2, Lib.hid (HB.out.trans (HB2.out.mono (Nat.le_succ _))), HRS2, ?_, by omega, HSN.out.2.1, Nat.le_trans HSN.out.2.2 ht, HF⟩
              cases e2 with
              | true => show 1 ≤ k; omega
              | false => have := HSL.out trivial rfl; show t2.size + 2 ≤ k; omega
      | true =>
        obtain ⟨k, rfl⟩ : ∃ k', gk = k' + 1 := ⟨gk - 1, by simp at hk; omega⟩
        have HSP2 : Hid (sixB s = !((decide (g < 0) && !decide (n = 8)) || (!decide (g < 0) && decide (8 ≤ n)))) := HSP
        clear HSP
        have r0 := row_cellAt 0 HRS.out
        have r1 := row_cellAt 1 HRS.out
        have q0 := row_freeAt 0 HRS.out
        have q1 := row_freeAt 1 HRS.out
        simp only [List.getElem?_toArray, List.getElem?_cons_zero, List.getElem?_cons_succ] at r0 r1
        have hsw : w.heap.size + 1 < wr.heap.size := block_lt_of_cell c1
        have c1a : ∀ o, (wr.alloc o).cell? ⟨w.heap.size + 1, 1, none⟩ = some (.slice A n c) := fun o => (World.cell?_alloc_past _ _ _ hsw).trans c1
        have c2a : ∀ o, (wr.alloc o).cell? ⟨w.heap.size + 1, 2, none⟩ = some (.int .i64 g) := fun o => (World.cell?_alloc_past _ _ _ hsw).trans c2
        by_cases hg0 : g < 0
        · by_cases h8 : n = 8
          · subst h8
            have HF : Hid (sixB s = true) := Lib.hid (by rw [HSP2.out, decide_eq_true hg0]; rfl)
            go_wp2
            have HX : Hid (Below wr.heap.size wr (wr.alloc (.cells #[.int .u16 0, .int .u16 0, .int .u16 0, .int .u16 0, .int .u16 0, .int .u16 0, .int .u16 0, .int .u16 0] 114))) := Lib.hid ((Below.refl _ wr).alloc (Nat.le_refl _) _)
            have HXP : Hid ((wr.alloc (.cells #[.int .u16 0, .int .u16 0, .int .u16 0, .int .u16 0, .int .u16 0, .int .u16 0, .int .u16 0, .int .u16 0] 114)).heap[wr.heap.size]? = some (.cells [.int .u16 0, .int .u16 0, .int .u16 0, .int .u16 0, .int .u16 0, .int .u16 0, .int .u16 0, .int .u16 0].toArray 114 (0, 0))) := Lib.hid (World.alloc_heap_new _ _)
            have HXO : Hid ((wr.alloc (.cells #[.int .u16 0, .int .u16 0, .int .u16 0, .int .u16 0, .int .u16 0, .int .u16 0, .int .u16 0, .int .u16 0] 114)).ownsRow (w.heap.size + 1 + 1) 113 1 (.slice A 8 c) 8 (xs.map (Value.int .u16))) := Lib.hid (HOWN.out.alloc _)
            have x1 := c1a (.cells #[.int .u16 0, .int .u16 0, .int .u16 0, .int .u16 0, .int .u16 0, .int .u16 0, .int .u16 0, .int .u16 0] 114)
            have x2 := c2a (.cells #[.int .u16 0, .int .u16 0, .int .u16 0, .int .u16 0, .int .u16 0, .int .u16 0, .int .u16 0, .int .u16 0] 114)
            have hPs : w.heap.size + 1 < wr.heap.size ∧ wr.heap.size < (wr.alloc (.cells #[.int .u16 0, .int .u16 0, .int .u16 0, .int .u16 0, .int .u16 0, .int .u16 0, .int .u16 0, .int .u16 0] 114)).heap.size := ⟨hsw, by simp⟩
            clear c1a c2a
            generalize wr.alloc (.cells #[.int .u16 0, .int .u16 0, .int .u16 0, .int .u16 0, .int .u16 0, .int .u16 0, .int .u16 0, .int .u16 0] 114) = X at *
            have HLN := Lib.hid (own_len HXO.out)
            go_region_law (first | (refine step_copy_splice rfl (.tmp 53) (.tmp 55) 110 110 rfl 113 Tryz.underlying110 size113 _ _ _ _ _ _ rfl rfl wr.heap.size 0 _ 114 HXP.out (xs.map (Value.int .u16)) ?_ ?_ ?_ (ones16 xs) wr.heap.size wr (HX.out.drew) (Nat.le_refl _) ?_; (focus (rw [HLN.out.1]; rfl)); (focus (intro h0; exact ⟨rfl, own_cells HXO.out (by decide)⟩)); (focus (rw [HLN.out.1]; decide)); intro w4 hg4 hb4))
            all_goals (
              have HB4 := Lib.hid hb4
              obtain ⟨y0, y1, y2, y3, y4, y5, y6, y7, hy⟩ := ints8_lit (splice_ints (off := 0) (qs := xs) zeros8 (by have := HLN.out.1; simp only [List.length_map] at this; omega))
              have hg5 := hg4.out
              rw [hy] at hg5
              have p0 := row_cellAt 0 hg5
              have p1 := row_cellAt 1 hg5
              have p2 := row_cellAt 2 hg5
              have p3 := row_cellAt 3 hg5
              have p4 := row_cellAt 4 hg5
              have p5 := row_cellAt 5 hg5
              have p6 := row_cellAt 6 hg5
              have p7 := row_cellAt 7 hg5
              simp only [List.getElem?_toArray, List.getElem?_cons_zero, List.getElem?_cons_succ] at p0 p1 p2 p3 p4 p5 p6 p7
              clear hg5 hy hb4
              go_wp2_with (first | (go_at_call 90; refine (of_any _ _ _ _ _ _ _ _ _).mono ?_; rintro e w5 ⟨hi, lo, rfl, hb5⟩; have HB5 := Lib.hid (HB4.out.trans (hb5.mono HB4.out.size)); clear hb5; have HRS5 := Lib.hid ((HB5.out.block w.heap.size (Nat.lt_of_succ_lt hsw)).trans HRS.out); have r0' := row_cellAt 0 HRS5.out; have r1' := row_cellAt 1 HRS5.out; have q0' := row_freeAt 0 HRS5.out; have q1' := row_freeAt 1 HRS5.out; simp only [List.getElem?_toArray, List.getElem?_cons_zero, List.getElem?_cons_succ] at r0' r1'))
              refine bodyPost_ret (v := .tuple #[.agg #[.int .u64 hi, .int .u64 lo], .bool true]) (results_ct (P := Tryz.prog) (fn := Tryz.f40) (p := 2) (u := 3) (ty := 64) rfl _ _ w.heap.size 64 #[.int .u64 hi, .int .u64 lo] (0, 0) _ rfl (row_setAt (.int .u64 lo) (row_setAt (.int .u64 hi) HRS5.out)) Tryz.underlying64 rfl (by kernel_rfl)) rfl ?_
              have hBE := ((HB.out.trans (HB5.out.mono HB.out.size)).setCell (p := ⟨w.heap.size, 0, none⟩) (Nat.le_refl _) (.int .u64 hi)).setCell (p := ⟨w.heap.size, 1, none⟩) (Nat.le_refl _) (.int .u64 lo)
              first | exact ⟨_, _, by rw [HF.out], hBE⟩ | exact ⟨⟨_, _, by rw [HF.out]⟩, hBE⟩ | exact ⟨_, ⟨_, by rw [HF.out]⟩, hBE⟩)
          · have HF : Hid (sixB s = false) := Lib.hid (by rw [HSP2.out, decide_eq_true hg0, decide_eq_false h8]; rfl)
            have h8i : ¬ (n : Int) = 8 := by omega
            go_wp2
            refine bodyPost_ret (v := .tuple #[.agg #[.int .u64 0, .int .u64 0], .bool false]) (results_ct (P := Tryz.prog) (fn := Tryz.f40) (p := 2) (u := 3) (ty := 64) rfl _ _ w.heap.size 64 #[.int .u64 0, .int .u64 0] (0, 0) _ rfl (row_setAt (.int .u64 0) (row_setAt (.int .u64 0) HRS.out)) Tryz.underlying64 rfl (by kernel_rfl)) rfl ?_
            first | exact ⟨_, _, by rw [HF.out], (HB.out.setCell (p := ⟨w.heap.size, 0, none⟩) (Nat.le_refl _) _).setCell (p := ⟨w.heap.size, 1, none⟩) (Nat.le_refl _) _⟩ | exact ⟨⟨_, _, by rw [HF.out]⟩, (HB.out.setCell (p := ⟨w.heap.size, 0, none⟩) (Nat.le_refl _) _).setCell (p := ⟨w.heap.size, 1, none⟩) (Nat.le_refl _) _⟩ | exact ⟨_, ⟨_, by rw [HF.out]⟩, (HB.out.setCell (p := ⟨w.heap.size, 0, none⟩) (Nat.le_refl _) _).setCell (p := ⟨w.heap.size, 1, none⟩) (Nat.le_refl _) _⟩
        · by_cases h8 : 8 ≤ n
          · have HF : Hid (sixB s = false) := Lib.hid (by rw [HSP2.out, decide_eq_false hg0, decide_eq_true h8]; rfl)
            have h8i : (8 : Int) ≤ (n : Int) := by omega
            have hg1 : 0 ≤ g := by omega
            go_wp2
            refine bodyPost_ret (v := .tuple #[.agg #[.int .u64 0, .int .u64 0], .bool false]) (results_ct (P := Tryz.prog) (fn := Tryz.f40) (p := 2) (u := 3) (ty := 64) rfl _ _ w.heap.size 64 #[.int .u64 0, .int .u64 0] (0, 0) _ rfl (row_setAt (.int .u64 0) (row_setAt (.int .u64 0) HRS.out)) Tryz.underlying64 rfl (by kernel_rfl)) rfl ?_
            first | exact ⟨_, _, by rw [HF.out], (HB.out.setCell (p := ⟨w.heap.size, 0, none⟩) (Nat.le_refl _) _).setCell (p := ⟨w.heap.size, 1, none⟩) (Nat.le_refl _) _⟩ | exact ⟨⟨_, _, by rw [HF.out]⟩, (HB.out.setCell (p := ⟨w.heap.size, 0, none⟩) (Nat.le_refl _) _).setCell (p := ⟨w.heap.size, 1, none⟩) (Nat.le_refl _) _⟩ | exact ⟨_, ⟨_, by rw [HF.out]⟩, (HB.out.setCell (p := ⟨w.heap.size, 0, none⟩) (Nat.le_refl _) _).setCell (p := ⟨w.heap.size, 1, none⟩) (Nat.le_refl _) _⟩
          · have HF : Hid (sixB s = true) := Lib.hid (by rw [HSP2.out, decide_eq_false hg0, decide_eq_false h8]; rfl)
            have h8i : ¬ (8 : Int) ≤ (n : Int) := by omega
            have hg1 : 0 ≤ g := by omega
            obtain ⟨G, rfl⟩ : ∃ G : Nat, g = G := ⟨g.toNat, by omega⟩
            have hGn : (G : Int) ≤ n := by omega
            have hGc : (G : Int) ≤ c := by have := (own_len HOWN.out).2; omega
            have HG8 : Hid (G ≤ 8) := Lib.hid (by omega)
            obtain ⟨qs, HQ⟩ : ∃ qs : List Int, Hid (qs = xs.take G) := ⟨_, Lib.hid rfl⟩
            go_wp2
            have HX : Hid (Below wr.heap.size wr (wr.alloc (.cells #[.int .u16 0, .int .u16 0, .int .u16 0, .int .u16 0, .int .u16 0, .int .u16 0, .int .u16 0, .int .u16 0] 114))) := Lib.hid ((Below.refl _ wr).alloc (Nat.le_refl _) _)
            have HXP : Hid ((wr.alloc (.cells #[.int .u16 0, .int .u16 0, .int .u16 0, .int .u16 0, .int .u16 0, .int .u16 0, .int .u16 0, .int .u16 0] 114)).heap[wr.heap.size]? = some (.cells [.int .u16 0, .int .u16 0, .int .u16 0, .int .u16 0, .int .u16 0, .int .u16 0, .int .u16 0, .int .u16 0].toArray 114 (0, 0))) := Lib.hid (World.alloc_heap_new _ _)
            have HXO : Hid ((wr.alloc (.cells #[.int .u16 0, .int .u16 0, .int .u16 0, .int .u16 0, .int .u16 0, .int .u16 0, .int .u16 0, .int .u16 0] 114)).ownsRow (w.heap.size + 1 + 1) 113 1 (.slice A n c) n (xs.map (Value.int .u16))) := Lib.hid (HOWN.out.alloc _)
            have x1 := c1a (.cells #[.int .u16 0, .int .u16 0, .int .u16 0, .int .u16 0, .int .u16 0, .int .u16 0, .int .u16 0, .int .u16 0] 114)
            have x2 := c2a (.cells #[.int .u16 0, .int .u16 0, .int .u16 0, .int .u16 0, .int .u16 0, .int .u16 0, .int .u16 0, .int .u16 0] 114)
            have hPs : w.heap.size + 1 < wr.heap.size ∧ wr.heap.size < (wr.alloc (.cells #[.int .u16 0, .int .u16 0, .int .u16 0, .int .u16 0, .int .u16 0, .int .u16 0, .int .u16 0, .int .u16 0] 114)).heap.size := ⟨hsw, by simp⟩
            clear c1a c2a
            generalize wr.alloc (.cells #[.int .u16 0, .int .u16 0, .int .u16 0, .int .u16 0, .int .u16 0, .int .u16 0, .int .u16 0, .int .u16 0] 114) = X at *
            have HLN := Lib.hid (own_len HXO.out)
            have HQ : Hid ((qs.map (Value.int .u16)).length = G ∧ (0 < (qs.map (Value.int .u16)).length → ∃ ad, A = some ad ∧ ∀ (j : Nat) v, (qs.map (Value.int .u16))[j]? = some v → X.drew.cell? (ad.add j) = some v)) := Lib.hid (by
              have hl := HLN.out.1
              simp only [List.length_map] at hl
              rw [HQ.out]
              refine ⟨by rw [List.length_map, List.length_take]; omega, fun h0 => ?_⟩
              rw [List.length_map, List.length_take] at h0
              obtain ⟨ad, ha, hc⟩ := own_cells HXO.out (by omega)
              refine ⟨ad, ha, fun j v hv => hc j v ?_⟩
              rw [List.map_take, List.getElem?_take] at hv
              split at hv
              · exact hv
              · cases hv)
            have hPw := Lib.hid (Nat.lt_of_succ_lt hPs.1)
            go_region_held3 (fun w' => w'.cell? ⟨w.heap.size + 1, 1, none⟩ = some (.slice A n c) ∧ w'.cell? ⟨w.heap.size + 1, 2, none⟩ = some (.int .i64 G)) (go_keep) (first | (refine step_copy_splice rfl (.tmp 57) (.tmp 62) 110 110 rfl 113 Tryz.underlying110 size113 _ _ _ _ _ _ rfl rfl wr.heap.size 0 _ 114 HXP.out (qs.map (Value.int .u16)) ?_ ?_ ?_ (ones16 qs) wr.heap.size wr (HX.out.drew) (Nat.le_refl _) ?_; (focus (rw [HQ.out.1]; exact (Nat.min_eq_left HG8.out).symm)); (focus (intro h0; exact ⟨rfl, HQ.out.2 h0⟩)); (focus (rw [HQ.out.1, Nat.zero_add]; exact HG8.out)); intro w4 hg4 hb4; have z1 := (hb4.cell (p := ⟨w.heap.size + 1, 1, none⟩) hPs.1).trans c1; have z2 := (hb4.cell (p := ⟨w.heap.size + 1, 2, none⟩) hPs.1).trans c2))
            have HB4 := Lib.hid hb4
            clear hb4
            go_wp2
            have HL4 : Hid ((splice [Value.int .u16 0, Value.int .u16 0, Value.int .u16 0, Value.int .u16 0, Value.int .u16 0, Value.int .u16 0, Value.int .u16 0, Value.int .u16 0] 0 (qs.map (Value.int .u16))).length = 8 ∧ Ints8 (splice [Value.int .u16 0, Value.int .u16 0, Value.int .u16 0, Value.int .u16 0, Value.int .u16 0, Value.int .u16 0, Value.int .u16 0, Value.int .u16 0] 0 (qs.map (Value.int .u16)))) := Lib.hid (by
              have hq := HQ.out.1
              rw [List.length_map] at hq
              have h8 := HG8.out
              exact ⟨by rw [length_splice _ _ _ (by rw [List.length_map, hq]; show 0 + G ≤ 8; omega)]; rfl, splice_ints (off := 0) zeros8 (by omega)⟩)
            by_cases hnG : n = G
            · subst hnG
              obtain ⟨qt, HQT⟩ : ∃ qt : List Int, Hid ((qt.map (Value.int .u16)).length = 0) := ⟨[], Lib.hid rfl⟩
              have hW1 : IntKind.i64.wrap (IntKind.i64.wrap (8 - (n : Int)) + (n : Int)) = 8 := by
                rw [kwrap (n := 8 - (n : Int)) (by omega), kwrap (by omega)]; omega
              rcases HOWN.out.2 with ⟨hA, hn0⟩ | ⟨g0, cap, cur, hA, hgb, hgr, hcap, -⟩
              · obtain ⟨rfl, rfl, rfl⟩ : A = none ∧ n = 0 ∧ c = 0 := by simpa using hA
                clear hn hg h8 h8i hW1
                have hW0 : IntKind.i64.wrap (IntKind.i64.wrap 8) = 8 := by decide
                go_region_held3 (fun w' => w'.cell? ⟨w.heap.size + 1, 1, none⟩ = some (.slice none 0 0) ∧ w'.cell? ⟨w.heap.size + 1, 2, none⟩ = some (.int .i64 (0 : Nat))) (go_keep) (first | (refine step_copy_splice rfl (.tmp 71) (.tmp 76) 110 110 rfl 113 Tryz.underlying110 size113 _ _ _ _ _ _ rfl rfl wr.heap.size 8 _ 114 hg4.out (qt.map (Value.int .u16)) ?_ ?_ ?_ (ones16 qt) wr.heap.size wr (HB4.out.drew) (Nat.le_refl _) ?_; (focus (rw [HQT.out]; rfl)); (focus (intro h0; rw [HQT.out] at h0; exact absurd h0 (Nat.lt_irrefl 0))); (focus (rw [HQT.out, HL4.out.1]; decide)); intro w6 hg6 hb6; have z1' := (hb6.cell (p := ⟨w.heap.size + 1, 1, none⟩) hPs.1).trans c1; have z2' := (hb6.cell (p := ⟨w.heap.size + 1, 2, none⟩) hPs.1).trans c2))
                all_goals (
                  have HB6 := Lib.hid hb6
                  obtain ⟨y0, y1, y2, y3, y4, y5, y6, y7, hy⟩ := ints8_lit (splice_ints (off := 8) (qs := qt) HL4.out.2 (by have := HQT.out; rw [List.length_map] at this; omega))
                  have hg5 := hg6.out
                  rw [hy] at hg5
                  have p0 := row_cellAt 0 hg5
                  have p1 := row_cellAt 1 hg5
                  have p2 := row_cellAt 2 hg5
                  have p3 := row_cellAt 3 hg5
                  have p4 := row_cellAt 4 hg5
                  have p5 := row_cellAt 5 hg5
                  have p6 := row_cellAt 6 hg5
                  have p7 := row_cellAt 7 hg5
                  simp only [List.getElem?_toArray, List.getElem?_cons_zero, List.getElem?_cons_succ] at p0 p1 p2 p3 p4 p5 p6 p7
                  clear hg5 hy hb6
                  go_wp2_with (first | (go_at_call 90; refine (of_any _ _ _ _ _ _ _ _ _).mono ?_; rintro e w5 ⟨hi, lo, rfl, hb5⟩; have HB5 := Lib.hid (HB6.out.trans (hb5.mono HB6.out.size)); clear hb5; have HRS5 := Lib.hid ((HB5.out.block w.heap.size (Nat.lt_of_succ_lt hsw)).trans HRS.out); have r0' := row_cellAt 0 HRS5.out; have r1' := row_cellAt 1 HRS5.out; have q0' := row_freeAt 0 HRS5.out; have q1' := row_freeAt 1 HRS5.out; simp only [List.getElem?_toArray, List.getElem?_cons_zero, List.getElem?_cons_succ] at r0' r1'))
                  refine bodyPost_ret (v := .tuple #[.agg #[.int .u64 hi, .int .u64 lo], .bool true]) (results_ct (P := Tryz.prog) (fn := Tryz.f40) (p := 2) (u := 3) (ty := 64) rfl _ _ w.heap.size 64 #[.int .u64 hi, .int .u64 lo] (0, 0) _ rfl (row_setAt (.int .u64 lo) (row_setAt (.int .u64 hi) HRS5.out)) Tryz.underlying64 rfl (by kernel_rfl)) rfl ?_
                  have hBE := ((HB.out.trans (HB5.out.mono HB.out.size)).setCell (p := ⟨w.heap.size, 0, none⟩) (Nat.le_refl _) (.int .u64 hi)).setCell (p := ⟨w.heap.size, 1, none⟩) (Nat.le_refl _) (.int .u64 lo)
                  first | exact ⟨_, _, by rw [HF.out], hBE⟩ | exact ⟨⟨_, _, by rw [HF.out]⟩, hBE⟩ | exact ⟨_, ⟨_, by rw [HF.out]⟩, hBE⟩)
              · obtain ⟨rfl, rfl⟩ : A = some ⟨g0, 0, none⟩ ∧ c = cap := by simpa using hA
                by_cases hGe : (n : Int) = (c : Int)
                · obtain rfl : n = c := by omega
                  clear hn hg h8 h8i
                  go_region_held3 (fun w' => w'.cell? ⟨w.heap.size + 1, 1, none⟩ = some (.slice (some ⟨g0, 0, none⟩) n n) ∧ w'.cell? ⟨w.heap.size + 1, 2, none⟩ = some (.int .i64 n)) (go_keep) (first | (refine step_copy_splice rfl (.tmp 71) (.tmp 76) 110 110 rfl 113 Tryz.underlying110 size113 _ _ _ _ _ _ rfl rfl wr.heap.size 8 _ 114 hg4.out (qt.map (Value.int .u16)) ?_ ?_ ?_ (ones16 qt) wr.heap.size wr (HB4.out.drew) (Nat.le_refl _) ?_; (focus (rw [HQT.out]; rfl)); (focus (intro h0; rw [HQT.out] at h0; exact absurd h0 (Nat.lt_irrefl 0))); (focus (rw [HQT.out, HL4.out.1]; decide)); intro w6 hg6 hb6; have z1' := (hb6.cell (p := ⟨w.heap.size + 1, 1, none⟩) hPs.1).trans c1; have z2' := (hb6.cell (p := ⟨w.heap.size + 1, 2, none⟩) hPs.1).trans c2))
                  all_goals (
                    have HB6 := Lib.hid hb6
                    obtain ⟨y0, y1, y2, y3, y4, y5, y6, y7, hy⟩ := ints8_lit (splice_ints (off := 8) (qs := qt) HL4.out.2 (by have := HQT.out; rw [List.length_map] at this; omega))
                    have hg5 := hg6.out
                    rw [hy] at hg5
                    have p0 := row_cellAt 0 hg5
                    have p1 := row_cellAt 1 hg5
                    have p2 := row_cellAt 2 hg5
                    have p3 := row_cellAt 3 hg5
                    have p4 := row_cellAt 4 hg5
                    have p5 := row_cellAt 5 hg5
                    have p6 := row_cellAt 6 hg5
                    have p7 := row_cellAt 7 hg5
                    simp only [List.getElem?_toArray, List.getElem?_cons_zero, List.getElem?_cons_succ] at p0 p1 p2 p3 p4 p5 p6 p7
                    clear hg5 hy hb6
                    go_wp2_with (first | (go_at_call 90; refine (of_any _ _ _ _ _ _ _ _ _).mono ?_; rintro e w5 ⟨hi, lo, rfl, hb5⟩; have HB5 := Lib.hid (HB6.out.trans (hb5.mono HB6.out.size)); clear hb5; have HRS5 := Lib.hid ((HB5.out.block w.heap.size (Nat.lt_of_succ_lt hsw)).trans HRS.out); have r0' := row_cellAt 0 HRS5.out; have r1' := row_cellAt 1 HRS5.out; have q0' := row_freeAt 0 HRS5.out; have q1' := row_freeAt 1 HRS5.out; simp only [List.getElem?_toArray, List.getElem?_cons_zero, List.getElem?_cons_succ] at r0' r1'))
                    refine bodyPost_ret (v := .tuple #[.agg #[.int .u64 hi, .int .u64 lo], .bool true]) (results_ct (P := Tryz.prog) (fn := Tryz.f40) (p := 2) (u := 3) (ty := 64) rfl _ _ w.heap.size 64 #[.int .u64 hi, .int .u64 lo] (0, 0) _ rfl (row_setAt (.int .u64 lo) (row_setAt (.int .u64 hi) HRS5.out)) Tryz.underlying64 rfl (by kernel_rfl)) rfl ?_
                    have hBE := ((HB.out.trans (HB5.out.mono HB.out.size)).setCell (p := ⟨w.heap.size, 0, none⟩) (Nat.le_refl _) (.int .u64 hi)).setCell (p := ⟨w.heap.size, 1, none⟩) (Nat.le_refl _) (.int .u64 lo)
                    first | exact ⟨_, _, by rw [HF.out], hBE⟩ | exact ⟨⟨_, _, by rw [HF.out]⟩, hBE⟩ | exact ⟨_, ⟨_, by rw [HF.out]⟩, hBE⟩)
                · clear hn hg h8 h8i
                  go_region_held3 (fun w' => w'.cell? ⟨w.heap.size + 1, 1, none⟩ = some (.slice (some ⟨g0, 0, none⟩) n c) ∧ w'.cell? ⟨w.heap.size + 1, 2, none⟩ = some (.int .i64 n)) (go_keep) (first | (refine step_copy_splice rfl (.tmp 71) (.tmp 76) 110 110 rfl 113 Tryz.underlying110 size113 _ _ _ _ _ _ rfl rfl wr.heap.size 8 _ 114 hg4.out (qt.map (Value.int .u16)) ?_ ?_ ?_ (ones16 qt) wr.heap.size wr (HB4.out.drew) (Nat.le_refl _) ?_; (focus (rw [HQT.out]; rfl)); (focus (intro h0; rw [HQT.out] at h0; exact absurd h0 (Nat.lt_irrefl 0))); (focus (rw [HQT.out, HL4.out.1]; decide)); intro w6 hg6 hb6; have z1' := (hb6.cell (p := ⟨w.heap.size + 1, 1, none⟩) hPs.1).trans c1; have z2' := (hb6.cell (p := ⟨w.heap.size + 1, 2, none⟩) hPs.1).trans c2))
                  all_goals (
                    have HB6 := Lib.hid hb6
                    obtain ⟨y0, y1, y2, y3, y4, y5, y6, y7, hy⟩ := ints8_lit (splice_ints (off := 8) (qs := qt) HL4.out.2 (by have := HQT.out; rw [List.length_map] at this; omega))
                    have hg5 := hg6.out
                    rw [hy] at hg5
                    have p0 := row_cellAt 0 hg5
                    have p1 := row_cellAt 1 hg5
                    have p2 := row_cellAt 2 hg5
                    have p3 := row_cellAt 3 hg5
                    have p4 := row_cellAt 4 hg5
                    have p5 := row_cellAt 5 hg5
                    have p6 := row_cellAt 6 hg5
                    have p7 := row_cellAt 7 hg5
                    simp only [List.getElem?_toArray, List.getElem?_cons_zero, List.getElem?_cons_succ] at p0 p1 p2 p3 p4 p5 p6 p7
                    clear hg5 hy hb6
                    go_wp2_with (first | (go_at_call 90; refine (of_any _ _ _ _ _ _ _ _ _).mono ?_; rintro e w5 ⟨hi, lo, rfl, hb5⟩; have HB5 := Lib.hid (HB6.out.trans (hb5.mono HB6.out.size)); clear hb5; have HRS5 := Lib.hid ((HB5.out.block w.heap.size (Nat.lt_of_succ_lt hsw)).trans HRS.out); have r0' := row_cellAt 0 HRS5.out; have r1' := row_cellAt 1 HRS5.out; have q0' := row_freeAt 0 HRS5.out; have q1' := row_freeAt 1 HRS5.out; simp only [List.getElem?_toArray, List.getElem?_cons_zero, List.getElem?_cons_succ] at r0' r1'))
                    refine bodyPost_ret (v := .tuple #[.agg #[.int .u64 hi, .int .u64 lo], .bool true]) (results_ct (P := Tryz.prog) (fn := Tryz.f40) (p := 2) (u := 3) (ty := 64) rfl _ _ w.heap.size 64 #[.int .u64 hi, .int .u64 lo] (0, 0) _ rfl (row_setAt (.int .u64 lo) (row_setAt (.int .u64 hi) HRS5.out)) Tryz.underlying64 rfl (by kernel_rfl)) rfl ?_
                    have hBE := ((HB.out.trans (HB5.out.mono HB.out.size)).setCell (p := ⟨w.heap.size, 0, none⟩) (Nat.le_refl _) (.int .u64 hi)).setCell (p := ⟨w.heap.size, 1, none⟩) (Nat.le_refl _) (.int .u64 lo)
                    first | exact ⟨_, _, by rw [HF.out], hBE⟩ | exact ⟨⟨_, _, by rw [HF.out]⟩, hBE⟩ | exact ⟨_, ⟨_, by rw [HF.out]⟩, hBE⟩)
            · obtain ⟨L, rfl⟩ : ∃ L : Nat, n = L + G := ⟨n - G, by omega⟩
              obtain ⟨M, hM⟩ : ∃ M : Nat, M + L = 8 := ⟨8 - L, by omega⟩
              have hW1 : IntKind.i64.wrap (IntKind.i64.wrap (8 - ((L : Int) + (G : Int))) + (G : Int)) = (M : Int) := by
                rw [kwrap (n := 8 - ((L : Int) + (G : Int))) (by omega), kwrap (by omega)]; omega
              have hM0 : (0 : Int) ≤ (M : Int) := by omega
              have hM8 : (M : Int) ≤ 8 := by omega
              have hM7 : ¬ (M : Int) = 8 := by omega
              have hML : Hid (8 - M = L) := Lib.hid (by omega)
              rcases HOWN.out.2 with ⟨hA, hn0⟩ | ⟨g0, cap, cur, hA, hgb, hgr, hcap, -⟩
              · omega
              · obtain ⟨rfl, rfl⟩ : A = some ⟨g0, 0, none⟩ ∧ c = cap := by simpa using hA
                have hGe : ¬ (G : Int) = (c : Int) := by omega
                obtain ⟨qt, HQT⟩ : ∃ qt : List Int, Hid ((qt.map (Value.int .u16)).length = L ∧ ∀ (j : Nat) v, (qt.map (Value.int .u16))[j]? = some v → w4.drew.cell? ((⟨g0, G, none⟩ : Addr).add j) = some v) := ⟨xs.drop G, Lib.hid (by
                  have hl := (own_len HOWN.out).1
                  simp only [List.length_map] at hl
                  refine ⟨by simp only [List.length_map, List.length_drop]; omega, fun j v hv => ?_⟩
                  have ho := own_below HOWN.out HB4.out
                  obtain ⟨ad, ha, hc⟩ := own_cells ho (by omega)
                  cases ha
                  rw [List.map_drop, List.getElem?_drop] at hv
                  have h3 := hc (G + j) v hv
                  rw [add_at] at h3 ⊢
                  rw [Nat.zero_add] at h3
                  exact h3)⟩
                have hcI : ((L : Int) + (G : Int)) ≤ (c : Int) := by omega
                have hGn : (G : Int) ≤ (L : Int) + (G : Int) := by omega
                have hGc : (G : Int) ≤ (c : Int) := by omega
                have hG0 : (0 : Int) ≤ (G : Int) := by omega
                have hGN : G ≤ L + G := Nat.le_add_left _ _
                have hcN : L + G ≤ c := by omega
                clear hn hg h8 h8i hnG
                go_region_held3 (fun w' => w'.cell? ⟨w.heap.size + 1, 1, none⟩ = some (.slice (some ⟨g0, 0, none⟩) (L + G) c) ∧ w'.cell? ⟨w.heap.size + 1, 2, none⟩ = some (.int .i64 G)) (go_keep) (first | (refine step_copy_splice rfl (.tmp 71) (.tmp 76) 110 110 rfl 113 Tryz.underlying110 size113 _ _ _ _ _ _ rfl rfl wr.heap.size M _ 114 hg4.out (qt.map (Value.int .u16)) ?_ ?_ ?_ (ones16 qt) wr.heap.size wr (HB4.out.drew) (Nat.le_refl _) ?_; (focus (rw [HQT.out.1]; have h9 := hML.out; rw [h9]; exact (Nat.min_self L).symm)); (focus (intro h0; first | exact ⟨rfl, _, rfl, HQT.out.2⟩ | exact ⟨rfl, ⟨g0, G, none⟩, by simp, HQT.out.2⟩ | exact ⟨rfl, ⟨g0, G, none⟩, by simp [Addr.add], HQT.out.2⟩ | exact ⟨by simp; omega, ⟨g0, G, none⟩, by simp; omega, HQT.out.2⟩)); (focus (rw [HQT.out.1, HL4.out.1]; omega)); intro w6 hg6 hb6; have z1' := (hb6.cell (p := ⟨w.heap.size + 1, 1, none⟩) hPs.1).trans c1; have z2' := (hb6.cell (p := ⟨w.heap.size + 1, 2, none⟩) hPs.1).trans c2))
                all_goals (
                  have HB6 := Lib.hid hb6
                  obtain ⟨y0, y1, y2, y3, y4, y5, y6, y7, hy⟩ := ints8_lit (splice_ints (off := M) (qs := qt) HL4.out.2 (by have := HQT.out.1; rw [List.length_map] at this; omega))
                  have hg5 := hg6.out
                  rw [hy] at hg5
                  have p0 := row_cellAt 0 hg5
                  have p1 := row_cellAt 1 hg5
                  have p2 := row_cellAt 2 hg5
                  have p3 := row_cellAt 3 hg5
                  have p4 := row_cellAt 4 hg5
                  have p5 := row_cellAt 5 hg5
                  have p6 := row_cellAt 6 hg5
                  have p7 := row_cellAt 7 hg5
                  simp only [List.getElem?_toArray, List.getElem?_cons_zero, List.getElem?_cons_succ] at p0 p1 p2 p3 p4 p5 p6 p7
                  clear hg5 hy hb6
                  go_wp2_with (first | (go_at_call 90; refine (of_any _ _ _ _ _ _ _ _ _).mono ?_; rintro e w5 ⟨hi, lo, rfl, hb5⟩; have HB5 := Lib.hid (HB6.out.trans (hb5.mono HB6.out.size)); clear hb5; have HRS5 := Lib.hid ((HB5.out.block w.heap.size (Nat.lt_of_succ_lt hsw)).trans HRS.out); have r0' := row_cellAt 0 HRS5.out; have r1' := row_cellAt 1 HRS5.out; have q0' := row_freeAt 0 HRS5.out; have q1' := row_freeAt 1 HRS5.out; simp only [List.getElem?_toArray, List.getElem?_cons_zero, List.getElem?_cons_succ] at r0' r1'))
                  refine bodyPost_ret (v := .tuple #[.agg #[.int .u64 hi, .int .u64 lo], .bool true]) (results_ct (P := Tryz.prog) (fn := Tryz.f40) (p := 2) (u := 3) (ty := 64) rfl _ _ w.heap.size 64 #[.int .u64 hi, .int .u64 lo] (0, 0) _ rfl (row_setAt (.int .u64 lo) (row_setAt (.int .u64 hi) HRS5.out)) Tryz.underlying64 rfl (by kernel_rfl)) rfl ?_
                  have hBE := ((HB.out.trans (HB5.out.mono HB.out.size)).setCell (p := ⟨w.heap.size, 0, none⟩) (Nat.le_refl _) (.int .u64 hi)).setCell (p := ⟨w.heap.size, 1, none⟩) (Nat.le_refl _) (.int .u64 lo)
                  first | exact ⟨_, _, by rw [HF.out], hBE⟩ | exact ⟨⟨_, _, by rw [HF.out]⟩, hBE⟩ | exact ⟨_, ⟨_, by rw [HF.out]⟩, hBE⟩)
  | false =>
    have HT : Hid (sixB s = sixFrom (s.size + 2) s 0 (-1) false) := Lib.hid (by unfold sixB; rw [hp]; rfl)
    go_enter Tryz.func40, Tryz.ntmps40
    go_wp2_with (first | (go_at_call 25; refine (Tryz.strings_HasPrefix _ _ _).mono ?_; rintro e w' ⟨rfl, hww⟩; rw [hww]; clear hww w'))
    obtain ⟨h1, h2, h3⟩ := six_start w s
    have HRD := Lib.hid h1
    have HB0 := Lib.hid h2
    have HRES := Lib.hid h3
    clear h1 h2 h3
    generalize (w.alloc (.cells #[.int .u64 0, .int .u64 0] 64)).alloc (.cells #[.string s, .slice none 0 0, .int .i64 (-1), .bool false] 112) = W0 at *
    have HST : Hid (s.size ≤ s.size) := Lib.hid (Nat.le_refl _)
    go_loopg [] (s.size + 2) (fun k wr => ∃ (t : ByteArray) (n : Nat) (g : Int) (e : Bool), Hid (RdAt (w.heap.size + 1) t n g e wr) ∧ Hid (Below w.heap.size w wr) ∧ Hid (wr.heap[w.heap.size]? = some (.cells #[.int .u64 0, .int .u64 0] 64 (0, 0))) ∧ (bif e then 1 else t.size + 2) ≤ k ∧ n ≤ 8 ∧ (g < 0 ∨ (0 ≤ g ∧ g ≤ n)) ∧ t.size ≤ 1000000 ∧ Hid (sixB s = sixFrom k t n g e))
    case atStart => exact ⟨s, 0, -1, false, HRD, HB0, HRES, Nat.add_le_add_right HST.out 2, Nat.zero_le _, .inl (by decide), Nat.le_trans HST.out hs, HT⟩
    case round =>
      obtain ⟨t, n, g, e, HR, HB, HRS, hk, hn, hg, ht, HSP⟩ := hrel
      have h := HR.out
      obtain ⟨v, xs, hrow, hown⟩ := h
      obtain ⟨A, c, rfl⟩ := own_slice hown
      have c1 := row_cellAt 1 hrow
      have c2 := row_cellAt 2 hrow
      have c3 := row_cellAt 3 hrow
      simp only [List.getElem?_toArray, List.getElem?_cons_zero, List.getElem?_cons_succ] at c1 c2 c3
      have HROW := Lib.hid hrow
      have HOWN := Lib.hid hown
      clear hrow hown
      cases e with
      | false =>
        obtain ⟨k, rfl⟩ : ∃ k', gk = k' + 1 := ⟨gk - 1, by simp at hk; omega⟩
        have hkt : t.size + 1 ≤ k := by simp at hk; omega
        have CS := Lib.hid (step_any (w.heap.size + 1) t n g wr HR.out (by omega) ht (HV.out.move (Nat.le_refl _) HB.out))
        have HSN := Lib.hid (step_n t n g hn hg)
        have HSL := Lib.hid (step_less t n g)
        have HSP2 : Hid (sixB s = if (stepR t n g).ok && !decide (8 < (stepR t n g).n) then sixFrom k (stepR t n g).rest (stepR t n g).n (stepR t n g).gap (stepR t n g).ended else false) := HSP
        clear HSP
        generalize stepR t n g = r at *
        obtain ⟨ok, t2, n2, g2, e2⟩ := r
        simp only at *
        cases ok with
        | false =>
          have HF : Hid (sixB s = false) := HSP2
          go_wp2_with (first | (go_at_call 89; refine CS.out.mono ?_; rintro e w2 ⟨rfl, hrd2, hb2⟩; have HR2 := Lib.hid hrd2; have HB2 := Lib.hid hb2; clear hrd2 hb2; obtain ⟨v2, ys, hrow2, hown2⟩ := HR2.out; obtain ⟨A2, cc2, rfl⟩ := own_slice hown2; have d1 := row_cellAt 1 hrow2; have HRS2 := Lib.hid ((HB2.out.block w.heap.size (Nat.lt_succ_self _)).trans HRS.out); have r0 := row_cellAt 0 HRS2.out; have r1 := row_cellAt 1 HRS2.out; have q0 := row_freeAt 0 HRS2.out; have q1 := row_freeAt 1 HRS2.out; simp only [List.getElem?_toArray, List.getElem?_cons_zero, List.getElem?_cons_succ] at d1 r0 r1; clear hrow2 hown2))
          refine bodyPost_ret (v := .tuple #[.agg #[.int .u64 0, .int .u64 0], .bool false]) (results_ct (P := Tryz.prog) (fn := Tryz.f40) (p := 2) (u := 3) (ty := 64) rfl _ _ w.heap.size 64 #[.int .u64 0, .int .u64 0] (0, 0) _ rfl (row_setAt (.int .u64 0) (row_setAt (.int .u64 0) HRS2.out)) Tryz.underlying64 rfl (by kernel_rfl)) rfl ?_
          first | exact ⟨_, _, by rw [HF.out], ((HB.out.trans (HB2.out.mono (Nat.le_succ _))).setCell (p := ⟨w.heap.size, 0, none⟩) (Nat.le_refl _) _).setCell (p := ⟨w.heap.size, 1, none⟩) (Nat.le_refl _) _⟩ | exact ⟨⟨_, _, by rw [HF.out]⟩, ((HB.out.trans (HB2.out.mono (Nat.le_succ _))).setCell (p := ⟨w.heap.size, 0, none⟩) (Nat.le_refl _) _).setCell (p := ⟨w.heap.size, 1, none⟩) (Nat.le_refl _) _⟩ | exact ⟨_, ⟨_, by rw [HF.out]⟩, ((HB.out.trans (HB2.out.mono (Nat.le_succ _))).setCell (p := ⟨w.heap.size, 0, none⟩) (Nat.le_refl _) _).setCell (p := ⟨w.heap.size, 1, none⟩) (Nat.le_refl _) _⟩
        | true =>
          by_cases h8 : 8 < n2
          · have HF : Hid (sixB s = false) := Lib.hid (by rw [HSP2.out, decide_eq_true h8]; rfl)
            have h8i : (8 : Int) < (n2 : Int) := by omega
            go_wp2_with (first | (go_at_call 89; refine CS.out.mono ?_; rintro e w2 ⟨rfl, hrd2, hb2⟩; have HR2 := Lib.hid hrd2; have HB2 := Lib.hid hb2; clear hrd2 hb2; obtain ⟨v2, ys, hrow2, hown2⟩ := HR2.out; obtain ⟨A2, cc2, rfl⟩ := own_slice hown2; have d1 := row_cellAt 1 hrow2; have HRS2 := Lib.hid ((HB2.out.block w.heap.size (Nat.lt_succ_self _)).trans HRS.out); have r0 := row_cellAt 0 HRS2.out; have r1 := row_cellAt 1 HRS2.out; have q0 := row_freeAt 0 HRS2.out; have q1 := row_freeAt 1 HRS2.out; simp only [List.getElem?_toArray, List.getElem?_cons_zero, List.getElem?_cons_succ] at d1 r0 r1; clear hrow2 hown2))
            refine bodyPost_ret (v := .tuple #[.agg #[.int .u64 0, .int .u64 0], .bool false]) (results_ct (P := Tryz.prog) (fn := Tryz.f40) (p := 2) (u := 3) (ty := 64) rfl _ _ w.heap.size 64 #[.int .u64 0, .int .u64 0] (0, 0) _ rfl (row_setAt (.int .u64 0) (row_setAt (.int .u64 0) HRS2.out)) Tryz.underlying64 rfl (by kernel_rfl)) rfl ?_
            first | exact ⟨_, _, by rw [HF.out], ((HB.out.trans (HB2.out.mono (Nat.le_succ _))).setCell (p := ⟨w.heap.size, 0, none⟩) (Nat.le_refl _) _).setCell (p := ⟨w.heap.size, 1, none⟩) (Nat.le_refl _) _⟩ | exact ⟨⟨_, _, by rw [HF.out]⟩, ((HB.out.trans (HB2.out.mono (Nat.le_succ _))).setCell (p := ⟨w.heap.size, 0, none⟩) (Nat.le_refl _) _).setCell (p := ⟨w.heap.size, 1, none⟩) (Nat.le_refl _) _⟩ | exact ⟨_, ⟨_, by rw [HF.out]⟩, ((HB.out.trans (HB2.out.mono (Nat.le_succ _))).setCell (p := ⟨w.heap.size, 0, none⟩) (Nat.le_refl _) _).setCell (p := ⟨w.heap.size, 1, none⟩) (Nat.le_refl _) _⟩
          · have HF : Hid (sixB s = sixFrom k t2 n2 g2 e2) := Lib.hid (by rw [HSP2.out, decide_eq_false h8]; rfl)
            have h8i : ¬ (8 : Int) < (n2 : Int) := by omega
            go_wp2_with (first | (go_at_call 89; refine CS.out.mono ?_; rintro e w2 ⟨rfl, hrd2, hb2⟩; have HR2 := Lib.hid hrd2; have HB2 := Lib.hid hb2; clear hrd2 hb2; obtain ⟨v2, ys, hrow2, hown2⟩ := HR2.out; obtain ⟨A2, cc2, rfl⟩ := own_slice hown2; have d1 := row_cellAt 1 hrow2; have HRS2 := Lib.hid ((HB2.out.block w.heap.size (Nat.lt_succ_self _)).trans HRS.out); have r0 := row_cellAt 0 HRS2.out; have r1 := row_cellAt 1 HRS2.out; have q0 := row_freeAt 0 HRS2.out; have q1 := row_freeAt 1 HRS2.out; simp only [List.getElem?_toArray, List.getElem?_cons_zero, List.getElem?_cons_succ] at d1 r0 r1; clear hrow2 hown2))
            go_roundg k
            case measure => exact Nat.lt_succ_self k
            case rel =>
              refine ⟨t2, n2, g2, e2, HR2, Lib.hid (HB.out.trans (HB2.out.mono (Nat.le_succ _))), HRS2, ?_, by omega, HSN.out.2.1, Nat.le_trans HSN.out.2.2 ht, HF⟩
              cases e2 with
              | true => show 1 ≤ k; omega
              | false => have := HSL.out trivial rfl; show t2.size + 2 ≤ k; omega
      | true =>
        obtain ⟨k, rfl⟩ : ∃ k', gk = k' + 1 := ⟨gk - 1, by simp at hk; omega⟩
        have HSP2 : Hid (sixB s = !((decide (g < 0) && !decide (n = 8)) || (!decide (g < 0) && decide (8 ≤ n)))) := HSP
        clear HSP
        have r0 := row_cellAt 0 HRS.out
        have r1 := row_cellAt 1 HRS.out
        have q0 := row_freeAt 0 HRS.out
        have q1 := row_freeAt 1 HRS.out
        simp only [List.getElem?_toArray, List.getElem?_cons_zero, List.getElem?_cons_succ] at r0 r1
        have hsw : w.heap.size + 1 < wr.heap.size := block_lt_of_cell c1
        have c1a : ∀ o, (wr.alloc o).cell? ⟨w.heap.size + 1, 1, none⟩ = some (.slice A n c) := fun o => (World.cell?_alloc_past _ _ _ hsw).trans c1
        have c2a : ∀ o, (wr.alloc o).cell? ⟨w.heap.size + 1, 2, none⟩ = some (.int .i64 g) := fun o => (World.cell?_alloc_past _ _ _ hsw).trans c2
        by_cases hg0 : g < 0
        · by_cases h8 : n = 8
          · subst h8
            have HF : Hid (sixB s = true) := Lib.hid (by rw [HSP2.out, decide_eq_true hg0]; rfl)
            go_wp2
            have HX : Hid (Below wr.heap.size wr (wr.alloc (.cells #[.int .u16 0, .int .u16 0, .int .u16 0, .int .u16 0, .int .u16 0, .int .u16 0, .int .u16 0, .int .u16 0] 114))) := Lib.hid ((Below.refl _ wr).alloc (Nat.le_refl _) _)
            have HXP : Hid ((wr.alloc (.cells #[.int .u16 0, .int .u16 0, .int .u16 0, .int .u16 0, .int .u16 0, .int .u16 0, .int .u16 0, .int .u16 0] 114)).heap[wr.heap.size]? = some (.cells [.int .u16 0, .int .u16 0, .int .u16 0, .int .u16 0, .int .u16 0, .int .u16 0, .int .u16 0, .int .u16 0].toArray 114 (0, 0))) := Lib.hid (World.alloc_heap_new _ _)
            have HXO : Hid ((wr.alloc (.cells #[.int .u16 0, .int .u16 0, .int .u16 0, .int .u16 0, .int .u16 0, .int .u16 0, .int .u16 0, .int .u16 0] 114)).ownsRow (w.heap.size + 1 + 1) 113 1 (.slice A 8 c) 8 (xs.map (Value.int .u16))) := Lib.hid (HOWN.out.alloc _)
            have x1 := c1a (.cells #[.int .u16 0, .int .u16 0, .int .u16 0, .int .u16 0, .int .u16 0, .int .u16 0, .int .u16 0, .int .u16 0] 114)
            have x2 := c2a (.cells #[.int .u16 0, .int .u16 0, .int .u16 0, .int .u16 0, .int .u16 0, .int .u16 0, .int .u16 0, .int .u16 0] 114)
            have hPs : w.heap.size + 1 < wr.heap.size ∧ wr.heap.size < (wr.alloc (.cells #[.int .u16 0, .int .u16 0, .int .u16 0, .int .u16 0, .int .u16 0, .int .u16 0, .int .u16 0, .int .u16 0] 114)).heap.size := ⟨hsw, by simp⟩
            clear c1a c2a
            generalize wr.alloc (.cells #[.int .u16 0, .int .u16 0, .int .u16 0, .int .u16 0, .int .u16 0, .int .u16 0, .int .u16 0, .int .u16 0] 114) = X at *
            have HLN := Lib.hid (own_len HXO.out)
            go_region_law (first | (refine step_copy_splice rfl (.tmp 53) (.tmp 55) 110 110 rfl 113 Tryz.underlying110 size113 _ _ _ _ _ _ rfl rfl wr.heap.size 0 _ 114 HXP.out (xs.map (Value.int .u16)) ?_ ?_ ?_ (ones16 xs) wr.heap.size wr (HX.out.drew) (Nat.le_refl _) ?_; (focus (rw [HLN.out.1]; rfl)); (focus (intro h0; exact ⟨rfl, own_cells HXO.out (by decide)⟩)); (focus (rw [HLN.out.1]; decide)); intro w4 hg4 hb4))
            all_goals (
              have HB4 := Lib.hid hb4
              obtain ⟨y0, y1, y2, y3, y4, y5, y6, y7, hy⟩ := ints8_lit (splice_ints (off := 0) (qs := xs) zeros8 (by have := HLN.out.1; simp only [List.length_map] at this; omega))
              have hg5 := hg4.out
              rw [hy] at hg5
              have p0 := row_cellAt 0 hg5
              have p1 := row_cellAt 1 hg5
              have p2 := row_cellAt 2 hg5
              have p3 := row_cellAt 3 hg5
              have p4 := row_cellAt 4 hg5
              have p5 := row_cellAt 5 hg5
              have p6 := row_cellAt 6 hg5
              have p7 := row_cellAt 7 hg5
              simp only [List.getElem?_toArray, List.getElem?_cons_zero, List.getElem?_cons_succ] at p0 p1 p2 p3 p4 p5 p6 p7
              clear hg5 hy hb4
              go_wp2_with (first | (go_at_call 90; refine (of_any _ _ _ _ _ _ _ _ _).mono ?_; rintro e w5 ⟨hi, lo, rfl, hb5⟩; have HB5 := Lib.hid (HB4.out.trans (hb5.mono HB4.out.size)); clear hb5; have HRS5 := Lib.hid ((HB5.out.block w.heap.size (Nat.lt_of_succ_lt hsw)).trans HRS.out); have r0' := row_cellAt 0 HRS5.out; have r1' := row_cellAt 1 HRS5.out; have q0' := row_freeAt 0 HRS5.out; have q1' := row_freeAt 1 HRS5.out; simp only [List.getElem?_toArray, List.getElem?_cons_zero, List.getElem?_cons_succ] at r0' r1'))
              refine bodyPost_ret (v := .tuple #[.agg #[.int .u64 hi, .int .u64 lo], .bool true]) (results_ct (P := Tryz.prog) (fn := Tryz.f40) (p := 2) (u := 3) (ty := 64) rfl _ _ w.heap.size 64 #[.int .u64 hi, .int .u64 lo] (0, 0) _ rfl (row_setAt (.int .u64 lo) (row_setAt (.int .u64 hi) HRS5.out)) Tryz.underlying64 rfl (by kernel_rfl)) rfl ?_
              have hBE := ((HB.out.trans (HB5.out.mono HB.out.size)).setCell (p := ⟨w.heap.size, 0, none⟩) (Nat.le_refl _) (.int .u64 hi)).setCell (p := ⟨w.heap.size, 1, none⟩) (Nat.le_refl _) (.int .u64 lo)
              first | exact ⟨_, _, by rw [HF.out], hBE⟩ | exact ⟨⟨_, _, by rw [HF.out]⟩, hBE⟩ | exact ⟨_, ⟨_, by rw [HF.out]⟩, hBE⟩)
          · have HF : Hid (sixB s = false) := Lib.hid (by rw [HSP2.out, decide_eq_true hg0, decide_eq_false h8]; rfl)
            have h8i : ¬ (n : Int) = 8 := by omega
            go_wp2
            refine bodyPost_ret (v := .tuple #[.agg #[.int .u64 0, .int .u64 0], .bool false]) (results_ct (P := Tryz.prog) (fn := Tryz.f40) (p := 2) (u := 3) (ty := 64) rfl _ _ w.heap.size 64 #[.int .u64 0, .int .u64 0] (0, 0) _ rfl (row_setAt (.int .u64 0) (row_setAt (.int .u64 0) HRS.out)) Tryz.underlying64 rfl (by kernel_rfl)) rfl ?_
            first | exact ⟨_, _, by rw [HF.out], (HB.out.setCell (p := ⟨w.heap.size, 0, none⟩) (Nat.le_refl _) _).setCell (p := ⟨w.heap.size, 1, none⟩) (Nat.le_refl _) _⟩ | exact ⟨⟨_, _, by rw [HF.out]⟩, (HB.out.setCell (p := ⟨w.heap.size, 0, none⟩) (Nat.le_refl _) _).setCell (p := ⟨w.heap.size, 1, none⟩) (Nat.le_refl _) _⟩ | exact ⟨_, ⟨_, by rw [HF.out]⟩, (HB.out.setCell (p := ⟨w.heap.size, 0, none⟩) (Nat.le_refl _) _).setCell (p := ⟨w.heap.size, 1, none⟩) (Nat.le_refl _) _⟩
        · by_cases h8 : 8 ≤ n
          · have HF : Hid (sixB s = false) := Lib.hid (by rw [HSP2.out, decide_eq_false hg0, decide_eq_true h8]; rfl)
            have h8i : (8 : Int) ≤ (n : Int) := by omega
            have hg1 : 0 ≤ g := by omega
            go_wp2
            refine bodyPost_ret (v := .tuple #[.agg #[.int .u64 0, .int .u64 0], .bool false]) (results_ct (P := Tryz.prog) (fn := Tryz.f40) (p := 2) (u := 3) (ty := 64) rfl _ _ w.heap.size 64 #[.int .u64 0, .int .u64 0] (0, 0) _ rfl (row_setAt (.int .u64 0) (row_setAt (.int .u64 0) HRS.out)) Tryz.underlying64 rfl (by kernel_rfl)) rfl ?_
            first | exact ⟨_, _, by rw [HF.out], (HB.out.setCell (p := ⟨w.heap.size, 0, none⟩) (Nat.le_refl _) _).setCell (p := ⟨w.heap.size, 1, none⟩) (Nat.le_refl _) _⟩ | exact ⟨⟨_, _, by rw [HF.out]⟩, (HB.out.setCell (p := ⟨w.heap.size, 0, none⟩) (Nat.le_refl _) _).setCell (p := ⟨w.heap.size, 1, none⟩) (Nat.le_refl _) _⟩ | exact ⟨_, ⟨_, by rw [HF.out]⟩, (HB.out.setCell (p := ⟨w.heap.size, 0, none⟩) (Nat.le_refl _) _).setCell (p := ⟨w.heap.size, 1, none⟩) (Nat.le_refl _) _⟩
          · have HF : Hid (sixB s = true) := Lib.hid (by rw [HSP2.out, decide_eq_false hg0, decide_eq_false h8]; rfl)
            have h8i : ¬ (8 : Int) ≤ (n : Int) := by omega
            have hg1 : 0 ≤ g := by omega
            obtain ⟨G, rfl⟩ : ∃ G : Nat, g = G := ⟨g.toNat, by omega⟩
            have hGn : (G : Int) ≤ n := by omega
            have hGc : (G : Int) ≤ c := by have := (own_len HOWN.out).2; omega
            have HG8 : Hid (G ≤ 8) := Lib.hid (by omega)
            obtain ⟨qs, HQ⟩ : ∃ qs : List Int, Hid (qs = xs.take G) := ⟨_, Lib.hid rfl⟩
            go_wp2
            have HX : Hid (Below wr.heap.size wr (wr.alloc (.cells #[.int .u16 0, .int .u16 0, .int .u16 0, .int .u16 0, .int .u16 0, .int .u16 0, .int .u16 0, .int .u16 0] 114))) := Lib.hid ((Below.refl _ wr).alloc (Nat.le_refl _) _)
            have HXP : Hid ((wr.alloc (.cells #[.int .u16 0, .int .u16 0, .int .u16 0, .int .u16 0, .int .u16 0, .int .u16 0, .int .u16 0, .int .u16 0] 114)).heap[wr.heap.size]? = some (.cells [.int .u16 0, .int .u16 0, .int .u16 0, .int .u16 0, .int .u16 0, .int .u16 0, .int .u16 0, .int .u16 0].toArray 114 (0, 0))) := Lib.hid (World.alloc_heap_new _ _)
            have HXO : Hid ((wr.alloc (.cells #[.int .u16 0, .int .u16 0, .int .u16 0, .int .u16 0, .int .u16 0, .int .u16 0, .int .u16 0, .int .u16 0] 114)).ownsRow (w.heap.size + 1 + 1) 113 1 (.slice A n c) n (xs.map (Value.int .u16))) := Lib.hid (HOWN.out.alloc _)
            have x1 := c1a (.cells #[.int .u16 0, .int .u16 0, .int .u16 0, .int .u16 0, .int .u16 0, .int .u16 0, .int .u16 0, .int .u16 0] 114)
            have x2 := c2a (.cells #[.int .u16 0, .int .u16 0, .int .u16 0, .int .u16 0, .int .u16 0, .int .u16 0, .int .u16 0, .int .u16 0] 114)
            have hPs : w.heap.size + 1 < wr.heap.size ∧ wr.heap.size < (wr.alloc (.cells #[.int .u16 0, .int .u16 0, .int .u16 0, .int .u16 0, .int .u16 0, .int .u16 0, .int .u16 0, .int .u16 0] 114)).heap.size := ⟨hsw, by simp⟩
            clear c1a c2a
            generalize wr.alloc (.cells #[.int .u16 0, .int .u16 0, .int .u16 0, .int .u16 0, .int .u16 0, .int .u16 0, .int .u16 0, .int .u16 0] 114) = X at *
            have HLN := Lib.hid (own_len HXO.out)
            have HQ : Hid ((qs.map (Value.int .u16)).length = G ∧ (0 < (qs.map (Value.int .u16)).length → ∃ ad, A = some ad ∧ ∀ (j : Nat) v, (qs.map (Value.int .u16))[j]? = some v → X.drew.cell? (ad.add j) = some v)) := Lib.hid (by
              have hl := HLN.out.1
              simp only [List.length_map] at hl
              rw [HQ.out]
              refine ⟨by rw [List.length_map, List.length_take]; omega, fun h0 => ?_⟩
              rw [List.length_map, List.length_take] at h0
              obtain ⟨ad, ha, hc⟩ := own_cells HXO.out (by omega)
              refine ⟨ad, ha, fun j v hv => hc j v ?_⟩
              rw [List.map_take, List.getElem?_take] at hv
              split at hv
              · exact hv
              · cases hv)
            have hPw := Lib.hid (Nat.lt_of_succ_lt hPs.1)
            go_region_held3 (fun w' => w'.cell? ⟨w.heap.size + 1, 1, none⟩ = some (.slice A n c) ∧ w'.cell? ⟨w.heap.size + 1, 2, none⟩ = some (.int .i64 G)) (go_keep) (first | (refine step_copy_splice rfl (.tmp 57) (.tmp 62) 110 110 rfl 113 Tryz.underlying110 size113 _ _ _ _ _ _ rfl rfl wr.heap.size 0 _ 114 HXP.out (qs.map (Value.int .u16)) ?_ ?_ ?_ (ones16 qs) wr.heap.size wr (HX.out.drew) (Nat.le_refl _) ?_; (focus (rw [HQ.out.1]; exact (Nat.min_eq_left HG8.out).symm)); (focus (intro h0; exact ⟨rfl, HQ.out.2 h0⟩)); (focus (rw [HQ.out.1, Nat.zero_add]; exact HG8.out)); intro w4 hg4 hb4; have z1 := (hb4.cell (p := ⟨w.heap.size + 1, 1, none⟩) hPs.1).trans c1; have z2 := (hb4.cell (p := ⟨w.heap.size + 1, 2, none⟩) hPs.1).trans c2))
            have HB4 := Lib.hid hb4
            clear hb4
            go_wp2
            have HL4 : Hid ((splice [Value.int .u16 0, Value.int .u16 0, Value.int .u16 0, Value.int .u16 0, Value.int .u16 0, Value.int .u16 0, Value.int .u16 0, Value.int .u16 0] 0 (qs.map (Value.int .u16))).length = 8 ∧ Ints8 (splice [Value.int .u16 0, Value.int .u16 0, Value.int .u16 0, Value.int .u16 0, Value.int .u16 0, Value.int .u16 0, Value.int .u16 0, Value.int .u16 0] 0 (qs.map (Value.int .u16)))) := Lib.hid (by
              have hq := HQ.out.1
              rw [List.length_map] at hq
              have h8 := HG8.out
              exact ⟨by rw [length_splice _ _ _ (by rw [List.length_map, hq]; show 0 + G ≤ 8; omega)]; rfl, splice_ints (off := 0) zeros8 (by omega)⟩)
            by_cases hnG : n = G
            · subst hnG
              obtain ⟨qt, HQT⟩ : ∃ qt : List Int, Hid ((qt.map (Value.int .u16)).length = 0) := ⟨[], Lib.hid rfl⟩
              have hW1 : IntKind.i64.wrap (IntKind.i64.wrap (8 - (n : Int)) + (n : Int)) = 8 := by
                rw [kwrap (n := 8 - (n : Int)) (by omega), kwrap (by omega)]; omega
              rcases HOWN.out.2 with ⟨hA, hn0⟩ | ⟨g0, cap, cur, hA, hgb, hgr, hcap, -⟩
              · obtain ⟨rfl, rfl, rfl⟩ : A = none ∧ n = 0 ∧ c = 0 := by simpa using hA
                clear hn hg h8 h8i hW1
                have hW0 : IntKind.i64.wrap (IntKind.i64.wrap 8) = 8 := by decide
                go_region_held3 (fun w' => w'.cell? ⟨w.heap.size + 1, 1, none⟩ = some (.slice none 0 0) ∧ w'.cell? ⟨w.heap.size + 1, 2, none⟩ = some (.int .i64 (0 : Nat))) (go_keep) (first | (refine step_copy_splice rfl (.tmp 71) (.tmp 76) 110 110 rfl 113 Tryz.underlying110 size113 _ _ _ _ _ _ rfl rfl wr.heap.size 8 _ 114 hg4.out (qt.map (Value.int .u16)) ?_ ?_ ?_ (ones16 qt) wr.heap.size wr (HB4.out.drew) (Nat.le_refl _) ?_; (focus (rw [HQT.out]; rfl)); (focus (intro h0; rw [HQT.out] at h0; exact absurd h0 (Nat.lt_irrefl 0))); (focus (rw [HQT.out, HL4.out.1]; decide)); intro w6 hg6 hb6; have z1' := (hb6.cell (p := ⟨w.heap.size + 1, 1, none⟩) hPs.1).trans c1; have z2' := (hb6.cell (p := ⟨w.heap.size + 1, 2, none⟩) hPs.1).trans c2))
                all_goals (
                  have HB6 := Lib.hid hb6
                  obtain ⟨y0, y1, y2, y3, y4, y5, y6, y7, hy⟩ := ints8_lit (splice_ints (off := 8) (qs := qt) HL4.out.2 (by have := HQT.out; rw [List.length_map] at this; omega))
                  have hg5 := hg6.out
                  rw [hy] at hg5
                  have p0 := row_cellAt 0 hg5
                  have p1 := row_cellAt 1 hg5
                  have p2 := row_cellAt 2 hg5
                  have p3 := row_cellAt 3 hg5
                  have p4 := row_cellAt 4 hg5
                  have p5 := row_cellAt 5 hg5
                  have p6 := row_cellAt 6 hg5
                  have p7 := row_cellAt 7 hg5
                  simp only [List.getElem?_toArray, List.getElem?_cons_zero, List.getElem?_cons_succ] at p0 p1 p2 p3 p4 p5 p6 p7
                  clear hg5 hy hb6
                  go_wp2_with (first | (go_at_call 90; refine (of_any _ _ _ _ _ _ _ _ _).mono ?_; rintro e w5 ⟨hi, lo, rfl, hb5⟩; have HB5 := Lib.hid (HB6.out.trans (hb5.mono HB6.out.size)); clear hb5; have HRS5 := Lib.hid ((HB5.out.block w.heap.size (Nat.lt_of_succ_lt hsw)).trans HRS.out); have r0' := row_cellAt 0 HRS5.out; have r1' := row_cellAt 1 HRS5.out; have q0' := row_freeAt 0 HRS5.out; have q1' := row_freeAt 1 HRS5.out; simp only [List.getElem?_toArray, List.getElem?_cons_zero, List.getElem?_cons_succ] at r0' r1'))
                  refine bodyPost_ret (v := .tuple #[.agg #[.int .u64 hi, .int .u64 lo], .bool true]) (results_ct (P := Tryz.prog) (fn := Tryz.f40) (p := 2) (u := 3) (ty := 64) rfl _ _ w.heap.size 64 #[.int .u64 hi, .int .u64 lo] (0, 0) _ rfl (row_setAt (.int .u64 lo) (row_setAt (.int .u64 hi) HRS5.out)) Tryz.underlying64 rfl (by kernel_rfl)) rfl ?_
                  have hBE := ((HB.out.trans (HB5.out.mono HB.out.size)).setCell (p := ⟨w.heap.size, 0, none⟩) (Nat.le_refl _) (.int .u64 hi)).setCell (p := ⟨w.heap.size, 1, none⟩) (Nat.le_refl _) (.int .u64 lo)
                  first | exact ⟨_, _, by rw [HF.out], hBE⟩ | exact ⟨⟨_, _, by rw [HF.out]⟩, hBE⟩ | exact ⟨_, ⟨_, by rw [HF.out]⟩, hBE⟩)
              · obtain ⟨rfl, rfl⟩ : A = some ⟨g0, 0, none⟩ ∧ c = cap := by simpa using hA
                by_cases hGe : (n : Int) = (c : Int)
                · obtain rfl : n = c := by omega
                  clear hn hg h8 h8i
                  go_region_held3 (fun w' => w'.cell? ⟨w.heap.size + 1, 1, none⟩ = some (.slice (some ⟨g0, 0, none⟩) n n) ∧ w'.cell? ⟨w.heap.size + 1, 2, none⟩ = some (.int .i64 n)) (go_keep) (first | (refine step_copy_splice rfl (.tmp 71) (.tmp 76) 110 110 rfl 113 Tryz.underlying110 size113 _ _ _ _ _ _ rfl rfl wr.heap.size 8 _ 114 hg4.out (qt.map (Value.int .u16)) ?_ ?_ ?_ (ones16 qt) wr.heap.size wr (HB4.out.drew) (Nat.le_refl _) ?_; (focus (rw [HQT.out]; rfl)); (focus (intro h0; rw [HQT.out] at h0; exact absurd h0 (Nat.lt_irrefl 0))); (focus (rw [HQT.out, HL4.out.1]; decide)); intro w6 hg6 hb6; have z1' := (hb6.cell (p := ⟨w.heap.size + 1, 1, none⟩) hPs.1).trans c1; have z2' := (hb6.cell (p := ⟨w.heap.size + 1, 2, none⟩) hPs.1).trans c2))
                  all_goals (
                    have HB6 := Lib.hid hb6
                    obtain ⟨y0, y1, y2, y3, y4, y5, y6, y7, hy⟩ := ints8_lit (splice_ints (off := 8) (qs := qt) HL4.out.2 (by have := HQT.out; rw [List.length_map] at this; omega))
                    have hg5 := hg6.out
                    rw [hy] at hg5
                    have p0 := row_cellAt 0 hg5
                    have p1 := row_cellAt 1 hg5
                    have p2 := row_cellAt 2 hg5
                    have p3 := row_cellAt 3 hg5
                    have p4 := row_cellAt 4 hg5
                    have p5 := row_cellAt 5 hg5
                    have p6 := row_cellAt 6 hg5
                    have p7 := row_cellAt 7 hg5
                    simp only [List.getElem?_toArray, List.getElem?_cons_zero, List.getElem?_cons_succ] at p0 p1 p2 p3 p4 p5 p6 p7
                    clear hg5 hy hb6
                    go_wp2_with (first | (go_at_call 90; refine (of_any _ _ _ _ _ _ _ _ _).mono ?_; rintro e w5 ⟨hi, lo, rfl, hb5⟩; have HB5 := Lib.hid (HB6.out.trans (hb5.mono HB6.out.size)); clear hb5; have HRS5 := Lib.hid ((HB5.out.block w.heap.size (Nat.lt_of_succ_lt hsw)).trans HRS.out); have r0' := row_cellAt 0 HRS5.out; have r1' := row_cellAt 1 HRS5.out; have q0' := row_freeAt 0 HRS5.out; have q1' := row_freeAt 1 HRS5.out; simp only [List.getElem?_toArray, List.getElem?_cons_zero, List.getElem?_cons_succ] at r0' r1'))
                    refine bodyPost_ret (v := .tuple #[.agg #[.int .u64 hi, .int .u64 lo], .bool true]) (results_ct (P := Tryz.prog) (fn := Tryz.f40) (p := 2) (u := 3) (ty := 64) rfl _ _ w.heap.size 64 #[.int .u64 hi, .int .u64 lo] (0, 0) _ rfl (row_setAt (.int .u64 lo) (row_setAt (.int .u64 hi) HRS5.out)) Tryz.underlying64 rfl (by kernel_rfl)) rfl ?_
                    have hBE := ((HB.out.trans (HB5.out.mono HB.out.size)).setCell (p := ⟨w.heap.size, 0, none⟩) (Nat.le_refl _) (.int .u64 hi)).setCell (p := ⟨w.heap.size, 1, none⟩) (Nat.le_refl _) (.int .u64 lo)
                    first | exact ⟨_, _, by rw [HF.out], hBE⟩ | exact ⟨⟨_, _, by rw [HF.out]⟩, hBE⟩ | exact ⟨_, ⟨_, by rw [HF.out]⟩, hBE⟩)
                · clear hn hg h8 h8i
                  go_region_held3 (fun w' => w'.cell? ⟨w.heap.size + 1, 1, none⟩ = some (.slice (some ⟨g0, 0, none⟩) n c) ∧ w'.cell? ⟨w.heap.size + 1, 2, none⟩ = some (.int .i64 n)) (go_keep) (first | (refine step_copy_splice rfl (.tmp 71) (.tmp 76) 110 110 rfl 113 Tryz.underlying110 size113 _ _ _ _ _ _ rfl rfl wr.heap.size 8 _ 114 hg4.out (qt.map (Value.int .u16)) ?_ ?_ ?_ (ones16 qt) wr.heap.size wr (HB4.out.drew) (Nat.le_refl _) ?_; (focus (rw [HQT.out]; rfl)); (focus (intro h0; rw [HQT.out] at h0; exact absurd h0 (Nat.lt_irrefl 0))); (focus (rw [HQT.out, HL4.out.1]; decide)); intro w6 hg6 hb6; have z1' := (hb6.cell (p := ⟨w.heap.size + 1, 1, none⟩) hPs.1).trans c1; have z2' := (hb6.cell (p := ⟨w.heap.size + 1, 2, none⟩) hPs.1).trans c2))
                  all_goals (
                    have HB6 := Lib.hid hb6
                    obtain ⟨y0, y1, y2, y3, y4, y5, y6, y7, hy⟩ := ints8_lit (splice_ints (off := 8) (qs := qt) HL4.out.2 (by have := HQT.out; rw [List.length_map] at this; omega))
                    have hg5 := hg6.out
                    rw [hy] at hg5
                    have p0 := row_cellAt 0 hg5
                    have p1 := row_cellAt 1 hg5
                    have p2 := row_cellAt 2 hg5
                    have p3 := row_cellAt 3 hg5
                    have p4 := row_cellAt 4 hg5
                    have p5 := row_cellAt 5 hg5
                    have p6 := row_cellAt 6 hg5
                    have p7 := row_cellAt 7 hg5
                    simp only [List.getElem?_toArray, List.getElem?_cons_zero, List.getElem?_cons_succ] at p0 p1 p2 p3 p4 p5 p6 p7
                    clear hg5 hy hb6
                    go_wp2_with (first | (go_at_call 90; refine (of_any _ _ _ _ _ _ _ _ _).mono ?_; rintro e w5 ⟨hi, lo, rfl, hb5⟩; have HB5 := Lib.hid (HB6.out.trans (hb5.mono HB6.out.size)); clear hb5; have HRS5 := Lib.hid ((HB5.out.block w.heap.size (Nat.lt_of_succ_lt hsw)).trans HRS.out); have r0' := row_cellAt 0 HRS5.out; have r1' := row_cellAt 1 HRS5.out; have q0' := row_freeAt 0 HRS5.out; have q1' := row_freeAt 1 HRS5.out; simp only [List.getElem?_toArray, List.getElem?_cons_zero, List.getElem?_cons_succ] at r0' r1'))
                    refine bodyPost_ret (v := .tuple #[.agg #[.int .u64 hi, .int .u64 lo], .bool true]) (results_ct (P := Tryz.prog) (fn := Tryz.f40) (p := 2) (u := 3) (ty := 64) rfl _ _ w.heap.size 64 #[.int .u64 hi, .int .u64 lo] (0, 0) _ rfl (row_setAt (.int .u64 lo) (row_setAt (.int .u64 hi) HRS5.out)) Tryz.underlying64 rfl (by kernel_rfl)) rfl ?_
                    have hBE := ((HB.out.trans (HB5.out.mono HB.out.size)).setCell (p := ⟨w.heap.size, 0, none⟩) (Nat.le_refl _) (.int .u64 hi)).setCell (p := ⟨w.heap.size, 1, none⟩) (Nat.le_refl _) (.int .u64 lo)
                    first | exact ⟨_, _, by rw [HF.out], hBE⟩ | exact ⟨⟨_, _, by rw [HF.out]⟩, hBE⟩ | exact ⟨_, ⟨_, by rw [HF.out]⟩, hBE⟩)
            · obtain ⟨L, rfl⟩ : ∃ L : Nat, n = L + G := ⟨n - G, by omega⟩
              obtain ⟨M, hM⟩ : ∃ M : Nat, M + L = 8 := ⟨8 - L, by omega⟩
              have hW1 : IntKind.i64.wrap (IntKind.i64.wrap (8 - ((L : Int) + (G : Int))) + (G : Int)) = (M : Int) := by
                rw [kwrap (n := 8 - ((L : Int) + (G : Int))) (by omega), kwrap (by omega)]; omega
              have hM0 : (0 : Int) ≤ (M : Int) := by omega
              have hM8 : (M : Int) ≤ 8 := by omega
              have hM7 : ¬ (M : Int) = 8 := by omega
              have hML : Hid (8 - M = L) := Lib.hid (by omega)
              rcases HOWN.out.2 with ⟨hA, hn0⟩ | ⟨g0, cap, cur, hA, hgb, hgr, hcap, -⟩
              · omega
              · obtain ⟨rfl, rfl⟩ : A = some ⟨g0, 0, none⟩ ∧ c = cap := by simpa using hA
                have hGe : ¬ (G : Int) = (c : Int) := by omega
                obtain ⟨qt, HQT⟩ : ∃ qt : List Int, Hid ((qt.map (Value.int .u16)).length = L ∧ ∀ (j : Nat) v, (qt.map (Value.int .u16))[j]? = some v → w4.drew.cell? ((⟨g0, G, none⟩ : Addr).add j) = some v) := ⟨xs.drop G, Lib.hid (by
                  have hl := (own_len HOWN.out).1
                  simp only [List.length_map] at hl
                  refine ⟨by simp only [List.length_map, List.length_drop]; omega, fun j v hv => ?_⟩
                  have ho := own_below HOWN.out HB4.out
                  obtain ⟨ad, ha, hc⟩ := own_cells ho (by omega)
                  cases ha
                  rw [List.map_drop, List.getElem?_drop] at hv
                  have h3 := hc (G + j) v hv
                  rw [add_at] at h3 ⊢
                  rw [Nat.zero_add] at h3
                  exact h3)⟩
                have hcI : ((L : Int) + (G : Int)) ≤ (c : Int) := by omega
                have hGn : (G : Int) ≤ (L : Int) + (G : Int) := by omega
                have hGc : (G : Int) ≤ (c : Int) := by omega
                have hG0 : (0 : Int) ≤ (G : Int) := by omega
                have hGN : G ≤ L + G := Nat.le_add_left _ _
                have hcN : L + G ≤ c := by omega
                clear hn hg h8 h8i hnG
                go_region_held3 (fun w' => w'.cell? ⟨w.heap.size + 1, 1, none⟩ = some (.slice (some ⟨g0, 0, none⟩) (L + G) c) ∧ w'.cell? ⟨w.heap.size + 1, 2, none⟩ = some (.int .i64 G)) (go_keep) (first | (refine step_copy_splice rfl (.tmp 71) (.tmp 76) 110 110 rfl 113 Tryz.underlying110 size113 _ _ _ _ _ _ rfl rfl wr.heap.size M _ 114 hg4.out (qt.map (Value.int .u16)) ?_ ?_ ?_ (ones16 qt) wr.heap.size wr (HB4.out.drew) (Nat.le_refl _) ?_; (focus (rw [HQT.out.1]; have h9 := hML.out; rw [h9]; exact (Nat.min_self L).symm)); (focus (intro h0; first | exact ⟨rfl, _, rfl, HQT.out.2⟩ | exact ⟨rfl, ⟨g0, G, none⟩, by simp, HQT.out.2⟩ | exact ⟨rfl, ⟨g0, G, none⟩, by simp [Addr.add], HQT.out.2⟩ | exact ⟨by simp; omega, ⟨g0, G, none⟩, by simp; omega, HQT.out.2⟩)); (focus (rw [HQT.out.1, HL4.out.1]; omega)); intro w6 hg6 hb6; have z1' := (hb6.cell (p := ⟨w.heap.size + 1, 1, none⟩) hPs.1).trans c1; have z2' := (hb6.cell (p := ⟨w.heap.size + 1, 2, none⟩) hPs.1).trans c2))
                all_goals (
                  have HB6 := Lib.hid hb6
                  obtain ⟨y0, y1, y2, y3, y4, y5, y6, y7, hy⟩ := ints8_lit (splice_ints (off := M) (qs := qt) HL4.out.2 (by have := HQT.out.1; rw [List.length_map] at this; omega))
                  have hg5 := hg6.out
                  rw [hy] at hg5
                  have p0 := row_cellAt 0 hg5
                  have p1 := row_cellAt 1 hg5
                  have p2 := row_cellAt 2 hg5
                  have p3 := row_cellAt 3 hg5
                  have p4 := row_cellAt 4 hg5
                  have p5 := row_cellAt 5 hg5
                  have p6 := row_cellAt 6 hg5
                  have p7 := row_cellAt 7 hg5
                  simp only [List.getElem?_toArray, List.getElem?_cons_zero, List.getElem?_cons_succ] at p0 p1 p2 p3 p4 p5 p6 p7
                  clear hg5 hy hb6
                  go_wp2_with (first | (go_at_call 90; refine (of_any _ _ _ _ _ _ _ _ _).mono ?_; rintro e w5 ⟨hi, lo, rfl, hb5⟩; have HB5 := Lib.hid (HB6.out.trans (hb5.mono HB6.out.size)); clear hb5; have HRS5 := Lib.hid ((HB5.out.block w.heap.size (Nat.lt_of_succ_lt hsw)).trans HRS.out); have r0' := row_cellAt 0 HRS5.out; have r1' := row_cellAt 1 HRS5.out; have q0' := row_freeAt 0 HRS5.out; have q1' := row_freeAt 1 HRS5.out; simp only [List.getElem?_toArray, List.getElem?_cons_zero, List.getElem?_cons_succ] at r0' r1'))
                  refine bodyPost_ret (v := .tuple #[.agg #[.int .u64 hi, .int .u64 lo], .bool true]) (results_ct (P := Tryz.prog) (fn := Tryz.f40) (p := 2) (u := 3) (ty := 64) rfl _ _ w.heap.size 64 #[.int .u64 hi, .int .u64 lo] (0, 0) _ rfl (row_setAt (.int .u64 lo) (row_setAt (.int .u64 hi) HRS5.out)) Tryz.underlying64 rfl (by kernel_rfl)) rfl ?_
                  have hBE := ((HB.out.trans (HB5.out.mono HB.out.size)).setCell (p := ⟨w.heap.size, 0, none⟩) (Nat.le_refl _) (.int .u64 hi)).setCell (p := ⟨w.heap.size, 1, none⟩) (Nat.le_refl _) (.int .u64 lo)
                  first | exact ⟨_, _, by rw [HF.out], hBE⟩ | exact ⟨⟨_, _, by rw [HF.out]⟩, hBE⟩ | exact ⟨_, ⟨_, by rw [HF.out]⟩, hBE⟩)
end Go.Proofs.YtakdjflhhaefiaaGreatDoor
