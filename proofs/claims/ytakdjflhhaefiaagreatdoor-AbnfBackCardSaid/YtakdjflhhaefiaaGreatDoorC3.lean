/- abnf.Parse: the walk. -/
import Derived.Test.YtakdjflhhaefiaaGreatDoorC2
set_option linter.unusedVariables false
set_option linter.unusedSimpArgs false
namespace Go.Proofs.YtakdjflhhaefiaaGreatDoor
open Go.RowKit Go.Proofs.YtakdjflhhaefiaaGreatDoor.PDotsGo Go.Proofs.YtakdjflhhaefiaaGreatDoorW.PrintWords Go.Proofs.YtakdjflhhaefiaaGreatDoorW.PrintLast Go.Proofs.YtakdjflhhaefiaaGreatDoorW.PrintMore
theorem PAt.put {b : Nat} {p : PR} {W : World} (h : PAt b p W) (q : PR) : PAt b q (((((((((((((W.setCell ⟨b, 0, none⟩ (.string q.sc)).setCell ⟨b, 1, none⟩ (.bool q.hs)).setCell ⟨b, 2, none⟩ (.string q.us)).setCell ⟨b, 3, none⟩ (.bool q.hu)).setCell ⟨b, 4, none⟩ (.string q.ho)).setCell ⟨b, 5, none⟩ (.bool q.ha)).setCell ⟨b, 6, none⟩ (.string q.po)).setCell ⟨b, 7, none⟩ (.bool q.hp)).setCell ⟨b, 8, none⟩ (.string q.pa)).setCell ⟨b, 9, none⟩ (.string q.qu)).setCell ⟨b, 10, none⟩ (.bool q.hq)).setCell ⟨b, 11, none⟩ (.string q.fr)).setCell ⟨b, 12, none⟩ (.bool q.hf)) := by
  exact (((((((((((((h.s0 q.sc).s1 q.hs).s2 q.us).s3 q.hu).s4 q.ho).s5 q.ha).s6 q.po).s7 q.hp).s8 q.pa).s9 q.qu).s10 q.hq).s11 q.fr).s12 q.hf)
theorem below_put {b : Nat} {w W : World} (h : Below b w W) (q : PR) : Below b w (((((((((((((W.setCell ⟨b, 0, none⟩ (.string q.sc)).setCell ⟨b, 1, none⟩ (.bool q.hs)).setCell ⟨b, 2, none⟩ (.string q.us)).setCell ⟨b, 3, none⟩ (.bool q.hu)).setCell ⟨b, 4, none⟩ (.string q.ho)).setCell ⟨b, 5, none⟩ (.bool q.ha)).setCell ⟨b, 6, none⟩ (.string q.po)).setCell ⟨b, 7, none⟩ (.bool q.hp)).setCell ⟨b, 8, none⟩ (.string q.pa)).setCell ⟨b, 9, none⟩ (.string q.qu)).setCell ⟨b, 10, none⟩ (.bool q.hq)).setCell ⟨b, 11, none⟩ (.string q.fr)).setCell ⟨b, 12, none⟩ (.bool q.hf)) := by
  exact (below_set (below_set (below_set (below_set (below_set (below_set (below_set (below_set (below_set (below_set (below_set (below_set (below_set h _) _) _) _) _) _) _) _) _) _) _) _) _)
theorem fore_T (s : ByteArray) (p : PR) (h : Lib.hasPrefix s.data.toList [47, 47] = true) : fore s p = ({ auP ((tpB s ⟨#[47, 47]⟩).extract 0 (slI (tpB s ⟨#[47, 47]⟩))) p with pa := (tpB s ⟨#[47, 47]⟩).extract (slI (tpB s ⟨#[47, 47]⟩)) (tpB s ⟨#[47, 47]⟩).size }, auOk (auP ((tpB s ⟨#[47, 47]⟩).extract 0 (slI (tpB s ⟨#[47, 47]⟩))) p)) := by
  unfold fore; rw [h]; rfl
theorem fore_F (s : ByteArray) (p : PR) (h : Lib.hasPrefix s.data.toList [47, 47] = false) : fore s p = ({ p with pa := s }, true) := by
  unfold fore; rw [h]; rfl
theorem sl_range (t : ByteArray) : Lib.indexByte (t ++ ⟨#[47]⟩).data.toList 47 = (slI t : Int) ∧ slI t ≤ t.size := by
  have h1 : (t ++ ⟨#[47]⟩ : ByteArray).data.toList = t.data.toList ++ [47] := by simp [ByteArray.data_append]
  have h2 : (47 : UInt8) ∈ (t ++ ⟨#[47]⟩ : ByteArray).data.toList := by rw [h1]; simp
  obtain ⟨a, b, hl, ha⟩ := List.eq_append_cons_of_mem h2
  have h3 := ib_split (b := b) ha
  rw [← hl] at h3
  have h4 : a.length ≤ t.size := by
    have := congrArg List.length hl
    rw [h1] at this
    simp only [List.length_append, List.length_cons, List.length_nil] at this
    rw [ba_size]; omega
  unfold slI
  rw [h3]
  exact ⟨by simp, by simpa using h4⟩
theorem parse_start (w : World) : PAt w.heap.size PR.zero ((w.alloc (.cells PR.zero.row 40)).alloc (.cells PR.zero.row 40)) ∧ PAt (w.heap.size + 1) PR.zero ((w.alloc (.cells PR.zero.row 40)).alloc (.cells PR.zero.row 40)) ∧ Below w.heap.size w ((w.alloc (.cells PR.zero.row 40)).alloc (.cells PR.zero.row 40)) := by
  refine ⟨?_, ?_, ((Below.refl _ w).alloc (Nat.le_refl _) _).alloc (by simp) _⟩
  · exact (Below.heap_alloc _ _ _ (by simp)).trans (World.alloc_heap_new w _)
  · have := World.alloc_heap_new (w.alloc (.cells PR.zero.row 40)) (.cells PR.zero.row 40)
    rwa [World.size_alloc] at this
theorem VarsOk.four {w : World} (h : VarsOk w) : 4 < w.heap.size := by
  obtain ⟨ev, he, -⟩ := h.er
  exact block_lt_of_cell he
set_option maxHeartbeats 4000000 in
set_option maxRecDepth 100000 in
theorem parse_long (s : ByteArray) (w : World) (hz : 4096 < s.size) : Calls Tryz.prog 18 #[.string s] w fun e w' => e = .returned (.tuple #[.agg PR.zero.row, .int .i64 3]) ∧ Below w.heap.size w w' := by
  have hzi : (4096 : Int) < (s.size : Int) := by omega
  go_enter Tryz.func18, Tryz.ntmps18
  go_wp2
  refine bodyPost_ret (v := .tuple #[.agg PR.zero.row, .int .i64 3]) (results_ct (P := Tryz.prog) (fn := Tryz.f18) (p := 2) (u := 3) (ty := 40) rfl _ _ w.heap.size 40 PR.zero.row (0, 0) _ rfl (World.alloc_heap_new w _) Tryz.underlying40 rfl (by kernel_rfl)) rfl ?_
  exact ⟨rfl, (Below.refl _ w).alloc (Nat.le_refl _) _⟩
set_option maxHeartbeats 8000000 in
set_option maxRecDepth 100000 in
theorem parse_X (s : ByteArray) (w : World) (hz : s.size ≤ 4096) (hv : VarsOk w) (hcol : colB s = true) (hsch : schemeB (scS s) = false) : Calls Tryz.prog 18 #[.string s] w fun e w' => e = .returned (.tuple #[.agg PR.zero.row, .int .i64 5]) ∧ Below w.heap.size w w' := by
  have hzi : ¬ (4096 : Int) < (s.size : Int) := by omega
  obtain ⟨h1, h2, h3⟩ := parse_start w
  have HRZ := Lib.hid h1
  have HPZ := Lib.hid h2
  have HBZ := Lib.hid h3
  have HV1 := Lib.hid (hv.move (Nat.le_refl _) h3)
  have hb4 : 4 < (w.heap.size + 1) := by have := hv.four; omega
  have hbW : Hid ((w.heap.size + 1) ≤ ((w.alloc (.cells PR.zero.row 40)).alloc (.cells PR.zero.row 40)).heap.size) := Lib.hid (by simp)
  clear h1 h2 h3 hv
  have CA := Lib.hid (fun w1 => idx_any s w1 (by omega))
  have hc2 := hcol
  unfold colB at hc2
  rw [Bool.and_eq_true] at hc2
  obtain ⟨K, hK⟩ : ∃ K : Nat, anyI s = (K : Int) := ⟨(anyI s).toNat, by have := of_decide_eq_true hc2.1; omega⟩
  have hKs : K < s.size := by rcases anyI_range s with h | h <;> omega
  have hsc : scS s = s.extract 0 K := by unfold scS; rw [hcol, hK]; rfl
  have hre : reS s = s.extract (K + 1) s.size := by unfold reS; rw [hcol, hK]; rfl
  have hb58 : (((s[K]'hKs).toNat : Nat) : Int) = 58 := by rw [bt_nt hKs, ← hK]; simpa using hc2.2
  rw [hK] at CA
  clear hc2 hK
  have hKi : (K : Int) < (s.size : Int) := by omega
  have hKw : IntKind.i64.wrap ((K : Int) + 1) = (K : Int) + 1 := kwrap (by omega)
  have hK0 : (0 : Int) ≤ (K : Int) + 1 := by omega
  have hK2 : (0 : Int) ≤ (K : Int) := by omega
  have hK3 : (K : Int) ≤ (s.size : Int) := by omega
  have hK1 : (K : Int) + 1 ≤ (s.size : Int) := by omega
  have CS := Lib.hid (fun w1 => scheme_any (scS s) w1)
  rw [hsch, hsc] at CS
  go_enter Tryz.func18, Tryz.ntmps18
  go_wp2_with (first | (go_at_call 56; refine (CA.out _).mono ?_; rintro e w1 ⟨rfl, hb⟩; have HB1 := Lib.hid (below_thru (Below.refl (w.heap.size + 1) ((w.alloc (.cells PR.zero.row 40)).alloc (.cells PR.zero.row 40))) hb hbW.out); have HP1 := Lib.hid (PAt.move HPZ.out hb); have HR1 : Hid (PAt w.heap.size PR.zero w1) := Lib.hid ((HB1.out.block w.heap.size (Nat.lt_succ_self _)).trans HRZ.out); have p1c0 := HP1.out.c0; have p1c1 := HP1.out.c1; have p1c11 := HP1.out.c11; have p1c12 := HP1.out.c12; have p1f0 := row_freeAt 0 HP1.out; have p1f1 := row_freeAt 1 HP1.out; have p1f11 := row_freeAt 11 HP1.out; have p1f12 := row_freeAt 12 HP1.out; clear hb))
  go_region_with (fail)
  go_simp
  go_wp2_with (first | (go_at_call 57; refine (CS.out _).mono ?_; rintro e w2 ⟨rfl, hb⟩; have HB2 := Lib.hid (below_thru (Below.drew (below_set (below_set HB1.out _) _)) hb hbW.out); have HP2 := Lib.hid (PAt.move (PAt.drw (PAt.s1 (PAt.s0 HP1.out (s.extract 0 K)) true)) hb); have HR2 : Hid (PAt w.heap.size PR.zero w2) := Lib.hid ((HB2.out.block w.heap.size (Nat.lt_succ_self _)).trans HRZ.out); have rc0 := HR2.out.c0; have rf0 := row_freeAt 0 HR2.out; have rc1 := HR2.out.c1; have rf1 := row_freeAt 1 HR2.out; have rc2 := HR2.out.c2; have rf2 := row_freeAt 2 HR2.out; have rc3 := HR2.out.c3; have rf3 := row_freeAt 3 HR2.out; have rc4 := HR2.out.c4; have rf4 := row_freeAt 4 HR2.out; have rc5 := HR2.out.c5; have rf5 := row_freeAt 5 HR2.out; have rc6 := HR2.out.c6; have rf6 := row_freeAt 6 HR2.out; have rc7 := HR2.out.c7; have rf7 := row_freeAt 7 HR2.out; have rc8 := HR2.out.c8; have rf8 := row_freeAt 8 HR2.out; have rc9 := HR2.out.c9; have rf9 := row_freeAt 9 HR2.out; have rc10 := HR2.out.c10; have rf10 := row_freeAt 10 HR2.out; have rc11 := HR2.out.c11; have rf11 := row_freeAt 11 HR2.out; have rc12 := HR2.out.c12; have rf12 := row_freeAt 12 HR2.out; clear hb))
  refine bodyPost_ret (v := .tuple #[.agg (PR.zero : PR).row, .int .i64 5]) (results_ct (P := Tryz.prog) (fn := Tryz.f18) (p := 2) (u := 3) (ty := 40) rfl _ _ w.heap.size 40 (PR.zero : PR).row (0, 0) _ rfl (PAt.put HR2.out PR.zero) Tryz.underlying40 rfl (by kernel_rfl)) rfl ?_
  exact ⟨rfl, (below_put (HBZ.out.trans (HB2.out.mono (Nat.le_succ _))) PR.zero)⟩
set_option maxHeartbeats 8000000 in
set_option maxRecDepth 100000 in
theorem parse_FF_F (s : ByteArray) (w : World) (hz : s.size ≤ 4096) (hv : VarsOk w) (hcol : colB s = false) (hsl : Lib.hasPrefix (cut1 (cut1 (reS s) 35) 63).data.toList [47, 47] = false) (x1 : pathB (midR s).1.pa (midR s).1.ha (midR s).1.hs = false) : Calls Tryz.prog 18 #[.string s] w fun e w' => e = .returned (.tuple #[.agg PR.zero.row, .int .i64 11]) ∧ Below w.heap.size w w' := by
  have hzi : ¬ (4096 : Int) < (s.size : Int) := by omega
  obtain ⟨h1, h2, h3⟩ := parse_start w
  have HRZ := Lib.hid h1
  have HPZ := Lib.hid h2
  have HBZ := Lib.hid h3
  have HV1 := Lib.hid (hv.move (Nat.le_refl _) h3)
  have hb4 : 4 < (w.heap.size + 1) := by have := hv.four; omega
  have hbW : Hid ((w.heap.size + 1) ≤ ((w.alloc (.cells PR.zero.row 40)).alloc (.cells PR.zero.row 40)).heap.size) := Lib.hid (by simp)
  clear h1 h2 h3 hv
  have CA := Lib.hid (fun w1 => idx_any s w1 (by omega))
  obtain ⟨hsc, hre⟩ := col_false s hcol
  have hny : (anyI s = -1) ∨ (∃ k : Nat, ∃ hk : k < s.size, anyI s = (k : Int) ∧ ((s[k]'hk).toNat : Int) ≠ 58) := by
    rcases anyI_range s with h | ⟨h, h'⟩
    · exact .inl h
    · refine .inr ⟨(anyI s).toNat, by omega, by omega, fun he => ?_⟩
      rw [bt_nt, show (((anyI s).toNat : Nat) : Int) = anyI s by omega] at he
      unfold colB at hcol
      rw [he, decide_eq_true h] at hcol
      cases hcol
  have hrz : (reS s).size ≤ 4096 := by rw [hre]; exact hz
  have hz1 := Nat.le_trans (cut1_size (reS s) 35) hrz
  have hz2 := Nat.le_trans (cut2_size (reS s) 35) hrz
  have hz3 := Nat.le_trans (cut1_size (cut1 (reS s) 35) 63) hz1
  have hz4 := Nat.le_trans (cut2_size (cut1 (reS s) 35) 63) hz1
  have C1 := Lib.hid (fun w1 hv1 => cut_ch (reS s) 35 w1 (by omega) hv1)
  have C2 := Lib.hid (fun w1 hv1 => cut_ch (cut1 (reS s) 35) 63 w1 (by omega) hv1)
  have CP := Lib.hid (fun w1 => Tryz.strings_CutPrefix (cut1 (cut1 (reS s) 35) 63) ⟨#[47, 47]⟩ w1)
  rw [show Lib.hasPrefix (cut1 (cut1 (reS s) 35) 63).data.toList (⟨#[47, 47]⟩ : ByteArray).data.toList = _ from hsl] at CP
  have HE : Hid ({ PR.zero with sc := E0, hs := false, fr := cut2 (reS s) 35, hf := cut3 (reS s) 35, qu := cut2 (cut1 (reS s) 35) 63, hq := cut3 (cut1 (reS s) 35) 63 } = p0 s (reS s)) := Lib.hid (by unfold p0; rw [hsc, hcol])
  have HM := fore_F (cut1 (cut1 (reS s) 35) 63) (p0 s (reS s)) hsl
  have hmid : midR s = fore (cut1 (cut1 (reS s) 35) 63) (p0 s (reS s)) := rfl
  rw [HM] at hmid
  rw [hmid] at x1
  have hus : (p0 s (reS s)).us = E0 := rfl
  have KQ : Hid ((p0 s (reS s)).qu = cut2 (cut1 (reS s) 35) 63) := Lib.hid rfl
  have KF : Hid ((p0 s (reS s)).fr = cut2 (reS s) 35) := Lib.hid rfl
  generalize p0 s (reS s) = P4 at *
  generalize hfr : cut2 (reS s) 35 = fr at *
  generalize hhf : cut3 (reS s) 35 = hf at *
  generalize cut2 (cut1 (reS s) 35) 63 = qu at *
  generalize cut3 (cut1 (reS s) 35) 63 = hq at *
  generalize cut1 (cut1 (reS s) 35) 63 = r2 at *
  generalize cut1 (reS s) 35 = r1 at *
  rw [hre] at C1
  clear HM
  have CT := Lib.hid (fun w1 hp1 hv1 => path_any (w.heap.size + 1) { P4 with pa := r2 } w1 hp1 (by show r2.size ≤ _; omega) hv1)
  rw [show pathB _ _ _ = _ from x1] at CT
  clear hcol hsc hre hrz hz1 hz2 hz3 hz4 hsl hmid hus hz x1
  rcases hny with hK | ⟨K, hKs, hK, h58⟩
  · rw [hK] at CA
    clear hK
    go_enter Tryz.func18, Tryz.ntmps18
    go_wp2_with (first | (go_at_call 61; refine (CT.out _ (PAt.s8 (HE.out ▸ (show PAt (w.heap.size + 1) { PR.zero with sc := E0, hs := false, fr := fr, hf := hf, qu := qu, hq := hq } _ from (PAt.s10 (PAt.s9 HP4.out qu) hq))) r2) (HV1.out.past hb4 (below_set (below_set (below_set HB4.out _) _) _))).mono ?_; rintro e w6 ⟨rfl, hb⟩; have HB6 := Lib.hid (below_thru (below_set (below_set (below_set HB4.out _) _) _) hb hbW.out); have HP6 := Lib.hid (PAt.move (PAt.s8 (HE.out ▸ (show PAt (w.heap.size + 1) { PR.zero with sc := E0, hs := false, fr := fr, hf := hf, qu := qu, hq := hq } _ from (PAt.s10 (PAt.s9 HP4.out qu) hq))) r2) hb); have HR6 : Hid (PAt w.heap.size PR.zero w6) := Lib.hid ((HB6.out.block w.heap.size (Nat.lt_succ_self _)).trans HRZ.out); have rc0 := HR6.out.c0; have rf0 := row_freeAt 0 HR6.out; have rc1 := HR6.out.c1; have rf1 := row_freeAt 1 HR6.out; have rc2 := HR6.out.c2; have rf2 := row_freeAt 2 HR6.out; have rc3 := HR6.out.c3; have rf3 := row_freeAt 3 HR6.out; have rc4 := HR6.out.c4; have rf4 := row_freeAt 4 HR6.out; have rc5 := HR6.out.c5; have rf5 := row_freeAt 5 HR6.out; have rc6 := HR6.out.c6; have rf6 := row_freeAt 6 HR6.out; have rc7 := HR6.out.c7; have rf7 := row_freeAt 7 HR6.out; have rc8 := HR6.out.c8; have rf8 := row_freeAt 8 HR6.out; have rc9 := HR6.out.c9; have rf9 := row_freeAt 9 HR6.out; have rc10 := HR6.out.c10; have rf10 := row_freeAt 10 HR6.out; have rc11 := HR6.out.c11; have rf11 := row_freeAt 11 HR6.out; have rc12 := HR6.out.c12; have rf12 := row_freeAt 12 HR6.out; have p6c9 : w6.cell? ⟨(w.heap.size + 1), 9, none⟩ = some (.string qu) := HP6.out.c9.trans (congrArg (fun x => some (Value.string x)) KQ.out); have p6c11 : w6.cell? ⟨(w.heap.size + 1), 11, none⟩ = some (.string fr) := HP6.out.c11.trans (congrArg (fun x => some (Value.string x)) KF.out); clear hb) | (go_at_call 38; refine (CP.out _).mono ?_; rintro e w' ⟨rfl, hww⟩; rw [hww]; clear hww w') | (go_at_call 58; refine (C2.out _ (HV1.out.past hb4 (below_set (below_set HB3.out _) _))).mono ?_; rintro e w4 ⟨rfl, hb⟩; have HB4 := Lib.hid (below_thru (below_set (below_set HB3.out _) _) hb hbW.out); have HP4 := Lib.hid (PAt.move (PAt.s12 (PAt.s11 HP3.out fr) hf) hb); have HR4 : Hid (PAt w.heap.size PR.zero w4) := Lib.hid ((HB4.out.block w.heap.size (Nat.lt_succ_self _)).trans HRZ.out); have p4c8 := HP4.out.c8; have p4c9 := HP4.out.c9; have p4c10 := HP4.out.c10; have p4f8 := row_freeAt 8 HP4.out; have p4f9 := row_freeAt 9 HP4.out; have p4f10 := row_freeAt 10 HP4.out; clear hb) | (go_at_call 58; refine (C1.out _ (HV1.out.past hb4 HB1.out)).mono ?_; rintro e w3 ⟨rfl, hb⟩; have HB3 := Lib.hid (below_thru HB1.out hb hbW.out); have HP3 := Lib.hid (PAt.move HP1.out hb); have HR3 : Hid (PAt w.heap.size PR.zero w3) := Lib.hid ((HB3.out.block w.heap.size (Nat.lt_succ_self _)).trans HRZ.out); have p3c9 := HP3.out.c9; have p3c10 := HP3.out.c10; have p3c11 := HP3.out.c11; have p3c12 := HP3.out.c12; have p3f9 := row_freeAt 9 HP3.out; have p3f10 := row_freeAt 10 HP3.out; have p3f11 := row_freeAt 11 HP3.out; have p3f12 := row_freeAt 12 HP3.out; clear hb) | (go_at_call 56; refine (CA.out _).mono ?_; rintro e w1 ⟨rfl, hb⟩; have HB1 := Lib.hid (below_thru (Below.refl (w.heap.size + 1) ((w.alloc (.cells PR.zero.row 40)).alloc (.cells PR.zero.row 40))) hb hbW.out); have HP1 := Lib.hid (PAt.move HPZ.out hb); have HR1 : Hid (PAt w.heap.size PR.zero w1) := Lib.hid ((HB1.out.block w.heap.size (Nat.lt_succ_self _)).trans HRZ.out); have p1c11 := HP1.out.c11; have p1c12 := HP1.out.c12; have p1f11 := row_freeAt 11 HP1.out; have p1f12 := row_freeAt 12 HP1.out; clear hb))
    refine bodyPost_ret (v := .tuple #[.agg (PR.zero : PR).row, .int .i64 11]) (results_ct (P := Tryz.prog) (fn := Tryz.f18) (p := 2) (u := 3) (ty := 40) rfl _ _ w.heap.size 40 (PR.zero : PR).row (0, 0) _ rfl (PAt.put HR6.out PR.zero) Tryz.underlying40 rfl (by kernel_rfl)) rfl ?_
    exact ⟨rfl, (below_put (HBZ.out.trans (HB6.out.mono (Nat.le_succ _))) PR.zero)⟩
  · rw [hK] at CA
    have hKi : (K : Int) < (s.size : Int) := by omega
    have hK2 : (0 : Int) ≤ (K : Int) := by omega
    clear hK
    go_enter Tryz.func18, Tryz.ntmps18
    go_wp2_with (first | (go_at_call 61; refine (CT.out _ (PAt.s8 (HE.out ▸ (show PAt (w.heap.size + 1) { PR.zero with sc := E0, hs := false, fr := fr, hf := hf, qu := qu, hq := hq } _ from (PAt.s10 (PAt.s9 HP4.out qu) hq))) r2) (HV1.out.past hb4 (below_set (below_set (below_set HB4.out _) _) _))).mono ?_; rintro e w6 ⟨rfl, hb⟩; have HB6 := Lib.hid (below_thru (below_set (below_set (below_set HB4.out _) _) _) hb hbW.out); have HP6 := Lib.hid (PAt.move (PAt.s8 (HE.out ▸ (show PAt (w.heap.size + 1) { PR.zero with sc := E0, hs := false, fr := fr, hf := hf, qu := qu, hq := hq } _ from (PAt.s10 (PAt.s9 HP4.out qu) hq))) r2) hb); have HR6 : Hid (PAt w.heap.size PR.zero w6) := Lib.hid ((HB6.out.block w.heap.size (Nat.lt_succ_self _)).trans HRZ.out); have rc0 := HR6.out.c0; have rf0 := row_freeAt 0 HR6.out; have rc1 := HR6.out.c1; have rf1 := row_freeAt 1 HR6.out; have rc2 := HR6.out.c2; have rf2 := row_freeAt 2 HR6.out; have rc3 := HR6.out.c3; have rf3 := row_freeAt 3 HR6.out; have rc4 := HR6.out.c4; have rf4 := row_freeAt 4 HR6.out; have rc5 := HR6.out.c5; have rf5 := row_freeAt 5 HR6.out; have rc6 := HR6.out.c6; have rf6 := row_freeAt 6 HR6.out; have rc7 := HR6.out.c7; have rf7 := row_freeAt 7 HR6.out; have rc8 := HR6.out.c8; have rf8 := row_freeAt 8 HR6.out; have rc9 := HR6.out.c9; have rf9 := row_freeAt 9 HR6.out; have rc10 := HR6.out.c10; have rf10 := row_freeAt 10 HR6.out; have rc11 := HR6.out.c11; have rf11 := row_freeAt 11 HR6.out; have rc12 := HR6.out.c12; have rf12 := row_freeAt 12 HR6.out; have p6c9 : w6.cell? ⟨(w.heap.size + 1), 9, none⟩ = some (.string qu) := HP6.out.c9.trans (congrArg (fun x => some (Value.string x)) KQ.out); have p6c11 : w6.cell? ⟨(w.heap.size + 1), 11, none⟩ = some (.string fr) := HP6.out.c11.trans (congrArg (fun x => some (Value.string x)) KF.out); clear hb) | (go_at_call 38; refine (CP.out _).mono ?_; rintro e w' ⟨rfl, hww⟩; rw [hww]; clear hww w') | (go_at_call 58; refine (C2.out _ (HV1.out.past hb4 (below_set (below_set HB3.out _) _))).mono ?_; rintro e w4 ⟨rfl, hb⟩; have HB4 := Lib.hid (below_thru (below_set (below_set HB3.out _) _) hb hbW.out); have HP4 := Lib.hid (PAt.move (PAt.s12 (PAt.s11 HP3.out fr) hf) hb); have HR4 : Hid (PAt w.heap.size PR.zero w4) := Lib.hid ((HB4.out.block w.heap.size (Nat.lt_succ_self _)).trans HRZ.out); have p4c8 := HP4.out.c8; have p4c9 := HP4.out.c9; have p4c10 := HP4.out.c10; have p4f8 := row_freeAt 8 HP4.out; have p4f9 := row_freeAt 9 HP4.out; have p4f10 := row_freeAt 10 HP4.out; clear hb) | (go_at_call 58; refine (C1.out _ (HV1.out.past hb4 HB1.out)).mono ?_; rintro e w3 ⟨rfl, hb⟩; have HB3 := Lib.hid (below_thru HB1.out hb hbW.out); have HP3 := Lib.hid (PAt.move HP1.out hb); have HR3 : Hid (PAt w.heap.size PR.zero w3) := Lib.hid ((HB3.out.block w.heap.size (Nat.lt_succ_self _)).trans HRZ.out); have p3c9 := HP3.out.c9; have p3c10 := HP3.out.c10; have p3c11 := HP3.out.c11; have p3c12 := HP3.out.c12; have p3f9 := row_freeAt 9 HP3.out; have p3f10 := row_freeAt 10 HP3.out; have p3f11 := row_freeAt 11 HP3.out; have p3f12 := row_freeAt 12 HP3.out; clear hb) | (go_at_call 56; refine (CA.out _).mono ?_; rintro e w1 ⟨rfl, hb⟩; have HB1 := Lib.hid (below_thru (Below.refl (w.heap.size + 1) ((w.alloc (.cells PR.zero.row 40)).alloc (.cells PR.zero.row 40))) hb hbW.out); have HP1 := Lib.hid (PAt.move HPZ.out hb); have HR1 : Hid (PAt w.heap.size PR.zero w1) := Lib.hid ((HB1.out.block w.heap.size (Nat.lt_succ_self _)).trans HRZ.out); have p1c11 := HP1.out.c11; have p1c12 := HP1.out.c12; have p1f11 := row_freeAt 11 HP1.out; have p1f12 := row_freeAt 12 HP1.out; clear hb))
    refine bodyPost_ret (v := .tuple #[.agg (PR.zero : PR).row, .int .i64 11]) (results_ct (P := Tryz.prog) (fn := Tryz.f18) (p := 2) (u := 3) (ty := 40) rfl _ _ w.heap.size 40 (PR.zero : PR).row (0, 0) _ rfl (PAt.put HR6.out PR.zero) Tryz.underlying40 rfl (by kernel_rfl)) rfl ?_
    exact ⟨rfl, (below_put (HBZ.out.trans (HB6.out.mono (Nat.le_succ _))) PR.zero)⟩
set_option maxHeartbeats 8000000 in
set_option maxRecDepth 100000 in
theorem parse_FF_TF (s : ByteArray) (w : World) (hz : s.size ≤ 4096) (hv : VarsOk w) (hcol : colB s = false) (hsl : Lib.hasPrefix (cut1 (cut1 (reS s) 35) 63).data.toList [47, 47] = false) (x1 : pathB (midR s).1.pa (midR s).1.ha (midR s).1.hs = true) (x2 : isB (cut2 (cut1 (reS s) 35) 63) ⟨#[58, 64, 47, 63]⟩ = false) : Calls Tryz.prog 18 #[.string s] w fun e w' => e = .returned (.tuple #[.agg PR.zero.row, .int .i64 11]) ∧ Below w.heap.size w w' := by
  have hzi : ¬ (4096 : Int) < (s.size : Int) := by omega
  obtain ⟨h1, h2, h3⟩ := parse_start w
  have HRZ := Lib.hid h1
  have HPZ := Lib.hid h2
  have HBZ := Lib.hid h3
  have HV1 := Lib.hid (hv.move (Nat.le_refl _) h3)
  have hb4 : 4 < (w.heap.size + 1) := by have := hv.four; omega
  have hbW : Hid ((w.heap.size + 1) ≤ ((w.alloc (.cells PR.zero.row 40)).alloc (.cells PR.zero.row 40)).heap.size) := Lib.hid (by simp)
  clear h1 h2 h3 hv
  have CA := Lib.hid (fun w1 => idx_any s w1 (by omega))
  obtain ⟨hsc, hre⟩ := col_false s hcol
  have hny : (anyI s = -1) ∨ (∃ k : Nat, ∃ hk : k < s.size, anyI s = (k : Int) ∧ ((s[k]'hk).toNat : Int) ≠ 58) := by
    rcases anyI_range s with h | ⟨h, h'⟩
    · exact .inl h
    · refine .inr ⟨(anyI s).toNat, by omega, by omega, fun he => ?_⟩
      rw [bt_nt, show (((anyI s).toNat : Nat) : Int) = anyI s by omega] at he
      unfold colB at hcol
      rw [he, decide_eq_true h] at hcol
      cases hcol
  have hrz : (reS s).size ≤ 4096 := by rw [hre]; exact hz
  have hz1 := Nat.le_trans (cut1_size (reS s) 35) hrz
  have hz2 := Nat.le_trans (cut2_size (reS s) 35) hrz
  have hz3 := Nat.le_trans (cut1_size (cut1 (reS s) 35) 63) hz1
  have hz4 := Nat.le_trans (cut2_size (cut1 (reS s) 35) 63) hz1
  have C1 := Lib.hid (fun w1 hv1 => cut_ch (reS s) 35 w1 (by omega) hv1)
  have C2 := Lib.hid (fun w1 hv1 => cut_ch (cut1 (reS s) 35) 63 w1 (by omega) hv1)
  have I1 := Lib.hid (fun w1 => is_any (cut2 (cut1 (reS s) 35) 63) ⟨#[58, 64, 47, 63]⟩ w1 (by omega) (by decide))
  rw [x2] at I1
  have CP := Lib.hid (fun w1 => Tryz.strings_CutPrefix (cut1 (cut1 (reS s) 35) 63) ⟨#[47, 47]⟩ w1)
  rw [show Lib.hasPrefix (cut1 (cut1 (reS s) 35) 63).data.toList (⟨#[47, 47]⟩ : ByteArray).data.toList = _ from hsl] at CP
  have HE : Hid ({ PR.zero with sc := E0, hs := false, fr := cut2 (reS s) 35, hf := cut3 (reS s) 35, qu := cut2 (cut1 (reS s) 35) 63, hq := cut3 (cut1 (reS s) 35) 63 } = p0 s (reS s)) := Lib.hid (by unfold p0; rw [hsc, hcol])
  have HM := fore_F (cut1 (cut1 (reS s) 35) 63) (p0 s (reS s)) hsl
  have hmid : midR s = fore (cut1 (cut1 (reS s) 35) 63) (p0 s (reS s)) := rfl
  rw [HM] at hmid
  rw [hmid] at x1
  have hus : (p0 s (reS s)).us = E0 := rfl
  have KQ : Hid ((p0 s (reS s)).qu = cut2 (cut1 (reS s) 35) 63) := Lib.hid rfl
  have KF : Hid ((p0 s (reS s)).fr = cut2 (reS s) 35) := Lib.hid rfl
  generalize p0 s (reS s) = P4 at *
  generalize hfr : cut2 (reS s) 35 = fr at *
  generalize hhf : cut3 (reS s) 35 = hf at *
  generalize cut2 (cut1 (reS s) 35) 63 = qu at *
  generalize cut3 (cut1 (reS s) 35) 63 = hq at *
  generalize cut1 (cut1 (reS s) 35) 63 = r2 at *
  generalize cut1 (reS s) 35 = r1 at *
  rw [hre] at C1
  clear HM
  have CT := Lib.hid (fun w1 hp1 hv1 => path_any (w.heap.size + 1) { P4 with pa := r2 } w1 hp1 (by show r2.size ≤ _; omega) hv1)
  rw [show pathB _ _ _ = _ from x1] at CT
  clear hcol hsc hre hrz hz1 hz2 hz3 hz4 hsl hmid hus hz x1 x2
  rcases hny with hK | ⟨K, hKs, hK, h58⟩
  · rw [hK] at CA
    clear hK
    go_enter Tryz.func18, Tryz.ntmps18
    go_wp2_with (first | (go_at_call 62; have hgd := HB6; clear hgd; refine (I1.out _).mono ?_; rintro e w7 ⟨rfl, hb⟩; have HB7 := Lib.hid (below_thru HB6.out hb hbW.out); have HP7 := Lib.hid (PAt.move HP6.out hb); have HR7 : Hid (PAt w.heap.size PR.zero w7) := Lib.hid ((HB7.out.block w.heap.size (Nat.lt_succ_self _)).trans HRZ.out); have rc0 := HR7.out.c0; have rf0 := row_freeAt 0 HR7.out; have rc1 := HR7.out.c1; have rf1 := row_freeAt 1 HR7.out; have rc2 := HR7.out.c2; have rf2 := row_freeAt 2 HR7.out; have rc3 := HR7.out.c3; have rf3 := row_freeAt 3 HR7.out; have rc4 := HR7.out.c4; have rf4 := row_freeAt 4 HR7.out; have rc5 := HR7.out.c5; have rf5 := row_freeAt 5 HR7.out; have rc6 := HR7.out.c6; have rf6 := row_freeAt 6 HR7.out; have rc7 := HR7.out.c7; have rf7 := row_freeAt 7 HR7.out; have rc8 := HR7.out.c8; have rf8 := row_freeAt 8 HR7.out; have rc9 := HR7.out.c9; have rf9 := row_freeAt 9 HR7.out; have rc10 := HR7.out.c10; have rf10 := row_freeAt 10 HR7.out; have rc11 := HR7.out.c11; have rf11 := row_freeAt 11 HR7.out; have rc12 := HR7.out.c12; have rf12 := row_freeAt 12 HR7.out; have p7c9 : w7.cell? ⟨(w.heap.size + 1), 9, none⟩ = some (.string qu) := HP7.out.c9.trans (congrArg (fun x => some (Value.string x)) KQ.out); have p7c11 : w7.cell? ⟨(w.heap.size + 1), 11, none⟩ = some (.string fr) := HP7.out.c11.trans (congrArg (fun x => some (Value.string x)) KF.out); clear hb) | (go_at_call 61; refine (CT.out _ (PAt.s8 (HE.out ▸ (show PAt (w.heap.size + 1) { PR.zero with sc := E0, hs := false, fr := fr, hf := hf, qu := qu, hq := hq } _ from (PAt.s10 (PAt.s9 HP4.out qu) hq))) r2) (HV1.out.past hb4 (below_set (below_set (below_set HB4.out _) _) _))).mono ?_; rintro e w6 ⟨rfl, hb⟩; have HB6 := Lib.hid (below_thru (below_set (below_set (below_set HB4.out _) _) _) hb hbW.out); have HP6 := Lib.hid (PAt.move (PAt.s8 (HE.out ▸ (show PAt (w.heap.size + 1) { PR.zero with sc := E0, hs := false, fr := fr, hf := hf, qu := qu, hq := hq } _ from (PAt.s10 (PAt.s9 HP4.out qu) hq))) r2) hb); have HR6 : Hid (PAt w.heap.size PR.zero w6) := Lib.hid ((HB6.out.block w.heap.size (Nat.lt_succ_self _)).trans HRZ.out); have p6c9 : w6.cell? ⟨(w.heap.size + 1), 9, none⟩ = some (.string qu) := HP6.out.c9.trans (congrArg (fun x => some (Value.string x)) KQ.out); have p6c11 : w6.cell? ⟨(w.heap.size + 1), 11, none⟩ = some (.string fr) := HP6.out.c11.trans (congrArg (fun x => some (Value.string x)) KF.out); clear hb) | (go_at_call 38; refine (CP.out _).mono ?_; rintro e w' ⟨rfl, hww⟩; rw [hww]; clear hww w') | (go_at_call 58; refine (C2.out _ (HV1.out.past hb4 (below_set (below_set HB3.out _) _))).mono ?_; rintro e w4 ⟨rfl, hb⟩; have HB4 := Lib.hid (below_thru (below_set (below_set HB3.out _) _) hb hbW.out); have HP4 := Lib.hid (PAt.move (PAt.s12 (PAt.s11 HP3.out fr) hf) hb); have HR4 : Hid (PAt w.heap.size PR.zero w4) := Lib.hid ((HB4.out.block w.heap.size (Nat.lt_succ_self _)).trans HRZ.out); have p4c8 := HP4.out.c8; have p4c9 := HP4.out.c9; have p4c10 := HP4.out.c10; have p4f8 := row_freeAt 8 HP4.out; have p4f9 := row_freeAt 9 HP4.out; have p4f10 := row_freeAt 10 HP4.out; clear hb) | (go_at_call 58; refine (C1.out _ (HV1.out.past hb4 HB1.out)).mono ?_; rintro e w3 ⟨rfl, hb⟩; have HB3 := Lib.hid (below_thru HB1.out hb hbW.out); have HP3 := Lib.hid (PAt.move HP1.out hb); have HR3 : Hid (PAt w.heap.size PR.zero w3) := Lib.hid ((HB3.out.block w.heap.size (Nat.lt_succ_self _)).trans HRZ.out); have p3c9 := HP3.out.c9; have p3c10 := HP3.out.c10; have p3c11 := HP3.out.c11; have p3c12 := HP3.out.c12; have p3f9 := row_freeAt 9 HP3.out; have p3f10 := row_freeAt 10 HP3.out; have p3f11 := row_freeAt 11 HP3.out; have p3f12 := row_freeAt 12 HP3.out; clear hb) | (go_at_call 56; refine (CA.out _).mono ?_; rintro e w1 ⟨rfl, hb⟩; have HB1 := Lib.hid (below_thru (Below.refl (w.heap.size + 1) ((w.alloc (.cells PR.zero.row 40)).alloc (.cells PR.zero.row 40))) hb hbW.out); have HP1 := Lib.hid (PAt.move HPZ.out hb); have HR1 : Hid (PAt w.heap.size PR.zero w1) := Lib.hid ((HB1.out.block w.heap.size (Nat.lt_succ_self _)).trans HRZ.out); have p1c11 := HP1.out.c11; have p1c12 := HP1.out.c12; have p1f11 := row_freeAt 11 HP1.out; have p1f12 := row_freeAt 12 HP1.out; clear hb))
    refine bodyPost_ret (v := .tuple #[.agg (PR.zero : PR).row, .int .i64 11]) (results_ct (P := Tryz.prog) (fn := Tryz.f18) (p := 2) (u := 3) (ty := 40) rfl _ _ w.heap.size 40 (PR.zero : PR).row (0, 0) _ rfl (PAt.put HR7.out PR.zero) Tryz.underlying40 rfl (by kernel_rfl)) rfl ?_
    exact ⟨rfl, (below_put (HBZ.out.trans (HB7.out.mono (Nat.le_succ _))) PR.zero)⟩
  · rw [hK] at CA
    have hKi : (K : Int) < (s.size : Int) := by omega
    have hK2 : (0 : Int) ≤ (K : Int) := by omega
    clear hK
    go_enter Tryz.func18, Tryz.ntmps18
    go_wp2_with (first | (go_at_call 62; have hgd := HB6; clear hgd; refine (I1.out _).mono ?_; rintro e w7 ⟨rfl, hb⟩; have HB7 := Lib.hid (below_thru HB6.out hb hbW.out); have HP7 := Lib.hid (PAt.move HP6.out hb); have HR7 : Hid (PAt w.heap.size PR.zero w7) := Lib.hid ((HB7.out.block w.heap.size (Nat.lt_succ_self _)).trans HRZ.out); have rc0 := HR7.out.c0; have rf0 := row_freeAt 0 HR7.out; have rc1 := HR7.out.c1; have rf1 := row_freeAt 1 HR7.out; have rc2 := HR7.out.c2; have rf2 := row_freeAt 2 HR7.out; have rc3 := HR7.out.c3; have rf3 := row_freeAt 3 HR7.out; have rc4 := HR7.out.c4; have rf4 := row_freeAt 4 HR7.out; have rc5 := HR7.out.c5; have rf5 := row_freeAt 5 HR7.out; have rc6 := HR7.out.c6; have rf6 := row_freeAt 6 HR7.out; have rc7 := HR7.out.c7; have rf7 := row_freeAt 7 HR7.out; have rc8 := HR7.out.c8; have rf8 := row_freeAt 8 HR7.out; have rc9 := HR7.out.c9; have rf9 := row_freeAt 9 HR7.out; have rc10 := HR7.out.c10; have rf10 := row_freeAt 10 HR7.out; have rc11 := HR7.out.c11; have rf11 := row_freeAt 11 HR7.out; have rc12 := HR7.out.c12; have rf12 := row_freeAt 12 HR7.out; have p7c9 : w7.cell? ⟨(w.heap.size + 1), 9, none⟩ = some (.string qu) := HP7.out.c9.trans (congrArg (fun x => some (Value.string x)) KQ.out); have p7c11 : w7.cell? ⟨(w.heap.size + 1), 11, none⟩ = some (.string fr) := HP7.out.c11.trans (congrArg (fun x => some (Value.string x)) KF.out); clear hb) | (go_at_call 61; refine (CT.out _ (PAt.s8 (HE.out ▸ (show PAt (w.heap.size + 1) { PR.zero with sc := E0, hs := false, fr := fr, hf := hf, qu := qu, hq := hq } _ from (PAt.s10 (PAt.s9 HP4.out qu) hq))) r2) (HV1.out.past hb4 (below_set (below_set (below_set HB4.out _) _) _))).mono ?_; rintro e w6 ⟨rfl, hb⟩; have HB6 := Lib.hid (below_thru (below_set (below_set (below_set HB4.out _) _) _) hb hbW.out); have HP6 := Lib.hid (PAt.move (PAt.s8 (HE.out ▸ (show PAt (w.heap.size + 1) { PR.zero with sc := E0, hs := false, fr := fr, hf := hf, qu := qu, hq := hq } _ from (PAt.s10 (PAt.s9 HP4.out qu) hq))) r2) hb); have HR6 : Hid (PAt w.heap.size PR.zero w6) := Lib.hid ((HB6.out.block w.heap.size (Nat.lt_succ_self _)).trans HRZ.out); have p6c9 : w6.cell? ⟨(w.heap.size + 1), 9, none⟩ = some (.string qu) := HP6.out.c9.trans (congrArg (fun x => some (Value.string x)) KQ.out); have p6c11 : w6.cell? ⟨(w.heap.size + 1), 11, none⟩ = some (.string fr) := HP6.out.c11.trans (congrArg (fun x => some (Value.string x)) KF.out); clear hb) | (go_at_call 38; refine (CP.out _).mono ?_; rintro e w' ⟨rfl, hww⟩; rw [hww]; clear hww w') | (go_at_call 58; refine (C2.out _ (HV1.out.past hb4 (below_set (below_set HB3.out _) _))).mono ?_; rintro e w4 ⟨rfl, hb⟩; have HB4 := Lib.hid (below_thru (below_set (below_set HB3.out _) _) hb hbW.out); have HP4 := Lib.hid (PAt.move (PAt.s12 (PAt.s11 HP3.out fr) hf) hb); have HR4 : Hid (PAt w.heap.size PR.zero w4) := Lib.hid ((HB4.out.block w.heap.size (Nat.lt_succ_self _)).trans HRZ.out); have p4c8 := HP4.out.c8; have p4c9 := HP4.out.c9; have p4c10 := HP4.out.c10; have p4f8 := row_freeAt 8 HP4.out; have p4f9 := row_freeAt 9 HP4.out; have p4f10 := row_freeAt 10 HP4.out; clear hb) | (go_at_call 58; refine (C1.out _ (HV1.out.past hb4 HB1.out)).mono ?_; rintro e w3 ⟨rfl, hb⟩; have HB3 := Lib.hid (below_thru HB1.out hb hbW.out); have HP3 := Lib.hid (PAt.move HP1.out hb); have HR3 : Hid (PAt w.heap.size PR.zero w3) := Lib.hid ((HB3.out.block w.heap.size (Nat.lt_succ_self _)).trans HRZ.out); have p3c9 := HP3.out.c9; have p3c10 := HP3.out.c10; have p3c11 := HP3.out.c11; have p3c12 := HP3.out.c12; have p3f9 := row_freeAt 9 HP3.out; have p3f10 := row_freeAt 10 HP3.out; have p3f11 := row_freeAt 11 HP3.out; have p3f12 := row_freeAt 12 HP3.out; clear hb) | (go_at_call 56; refine (CA.out _).mono ?_; rintro e w1 ⟨rfl, hb⟩; have HB1 := Lib.hid (below_thru (Below.refl (w.heap.size + 1) ((w.alloc (.cells PR.zero.row 40)).alloc (.cells PR.zero.row 40))) hb hbW.out); have HP1 := Lib.hid (PAt.move HPZ.out hb); have HR1 : Hid (PAt w.heap.size PR.zero w1) := Lib.hid ((HB1.out.block w.heap.size (Nat.lt_succ_self _)).trans HRZ.out); have p1c11 := HP1.out.c11; have p1c12 := HP1.out.c12; have p1f11 := row_freeAt 11 HP1.out; have p1f12 := row_freeAt 12 HP1.out; clear hb))
    refine bodyPost_ret (v := .tuple #[.agg (PR.zero : PR).row, .int .i64 11]) (results_ct (P := Tryz.prog) (fn := Tryz.f18) (p := 2) (u := 3) (ty := 40) rfl _ _ w.heap.size 40 (PR.zero : PR).row (0, 0) _ rfl (PAt.put HR7.out PR.zero) Tryz.underlying40 rfl (by kernel_rfl)) rfl ?_
    exact ⟨rfl, (below_put (HBZ.out.trans (HB7.out.mono (Nat.le_succ _))) PR.zero)⟩
set_option maxHeartbeats 8000000 in
set_option maxRecDepth 100000 in
theorem parse_FF_TTF (s : ByteArray) (w : World) (hz : s.size ≤ 4096) (hv : VarsOk w) (hcol : colB s = false) (hsl : Lib.hasPrefix (cut1 (cut1 (reS s) 35) 63).data.toList [47, 47] = false) (x1 : pathB (midR s).1.pa (midR s).1.ha (midR s).1.hs = true) (x2 : isB (cut2 (cut1 (reS s) 35) 63) ⟨#[58, 64, 47, 63]⟩ = true) (x3 : isB (cut2 (reS s) 35) ⟨#[58, 64, 47, 63]⟩ = false) : Calls Tryz.prog 18 #[.string s] w fun e w' => e = .returned (.tuple #[.agg PR.zero.row, .int .i64 11]) ∧ Below w.heap.size w w' := by
  have hzi : ¬ (4096 : Int) < (s.size : Int) := by omega
  obtain ⟨h1, h2, h3⟩ := parse_start w
  have HRZ := Lib.hid h1
  have HPZ := Lib.hid h2
  have HBZ := Lib.hid h3
  have HV1 := Lib.hid (hv.move (Nat.le_refl _) h3)
  have hb4 : 4 < (w.heap.size + 1) := by have := hv.four; omega
  have hbW : Hid ((w.heap.size + 1) ≤ ((w.alloc (.cells PR.zero.row 40)).alloc (.cells PR.zero.row 40)).heap.size) := Lib.hid (by simp)
  clear h1 h2 h3 hv
  have CA := Lib.hid (fun w1 => idx_any s w1 (by omega))
  obtain ⟨hsc, hre⟩ := col_false s hcol
  have hny : (anyI s = -1) ∨ (∃ k : Nat, ∃ hk : k < s.size, anyI s = (k : Int) ∧ ((s[k]'hk).toNat : Int) ≠ 58) := by
    rcases anyI_range s with h | ⟨h, h'⟩
    · exact .inl h
    · refine .inr ⟨(anyI s).toNat, by omega, by omega, fun he => ?_⟩
      rw [bt_nt, show (((anyI s).toNat : Nat) : Int) = anyI s by omega] at he
      unfold colB at hcol
      rw [he, decide_eq_true h] at hcol
      cases hcol
  have hrz : (reS s).size ≤ 4096 := by rw [hre]; exact hz
  have hz1 := Nat.le_trans (cut1_size (reS s) 35) hrz
  have hz2 := Nat.le_trans (cut2_size (reS s) 35) hrz
  have hz3 := Nat.le_trans (cut1_size (cut1 (reS s) 35) 63) hz1
  have hz4 := Nat.le_trans (cut2_size (cut1 (reS s) 35) 63) hz1
  have C1 := Lib.hid (fun w1 hv1 => cut_ch (reS s) 35 w1 (by omega) hv1)
  have C2 := Lib.hid (fun w1 hv1 => cut_ch (cut1 (reS s) 35) 63 w1 (by omega) hv1)
  have I1 := Lib.hid (fun w1 => is_any (cut2 (cut1 (reS s) 35) 63) ⟨#[58, 64, 47, 63]⟩ w1 (by omega) (by decide))
  have I2 := Lib.hid (fun w1 => is_any (cut2 (reS s) 35) ⟨#[58, 64, 47, 63]⟩ w1 (by omega) (by decide))
  rw [x2] at I1
  rw [x3] at I2
  have CP := Lib.hid (fun w1 => Tryz.strings_CutPrefix (cut1 (cut1 (reS s) 35) 63) ⟨#[47, 47]⟩ w1)
  rw [show Lib.hasPrefix (cut1 (cut1 (reS s) 35) 63).data.toList (⟨#[47, 47]⟩ : ByteArray).data.toList = _ from hsl] at CP
  have HE : Hid ({ PR.zero with sc := E0, hs := false, fr := cut2 (reS s) 35, hf := cut3 (reS s) 35, qu := cut2 (cut1 (reS s) 35) 63, hq := cut3 (cut1 (reS s) 35) 63 } = p0 s (reS s)) := Lib.hid (by unfold p0; rw [hsc, hcol])
  have HM := fore_F (cut1 (cut1 (reS s) 35) 63) (p0 s (reS s)) hsl
  have hmid : midR s = fore (cut1 (cut1 (reS s) 35) 63) (p0 s (reS s)) := rfl
  rw [HM] at hmid
  rw [hmid] at x1
  have hus : (p0 s (reS s)).us = E0 := rfl
  have KQ : Hid ((p0 s (reS s)).qu = cut2 (cut1 (reS s) 35) 63) := Lib.hid rfl
  have KF : Hid ((p0 s (reS s)).fr = cut2 (reS s) 35) := Lib.hid rfl
  generalize p0 s (reS s) = P4 at *
  generalize hfr : cut2 (reS s) 35 = fr at *
  generalize hhf : cut3 (reS s) 35 = hf at *
  generalize cut2 (cut1 (reS s) 35) 63 = qu at *
  generalize cut3 (cut1 (reS s) 35) 63 = hq at *
  generalize cut1 (cut1 (reS s) 35) 63 = r2 at *
  generalize cut1 (reS s) 35 = r1 at *
  rw [hre] at C1
  clear HM
  have CT := Lib.hid (fun w1 hp1 hv1 => path_any (w.heap.size + 1) { P4 with pa := r2 } w1 hp1 (by show r2.size ≤ _; omega) hv1)
  rw [show pathB _ _ _ = _ from x1] at CT
  clear hcol hsc hre hrz hz1 hz2 hz3 hz4 hsl hmid hus hz x1 x2 x3
  rcases hny with hK | ⟨K, hKs, hK, h58⟩
  · rw [hK] at CA
    clear hK
    go_enter Tryz.func18, Tryz.ntmps18
    go_wp2_with (first | (go_at_call 62; have hgd := HB7; clear hgd; refine (I2.out _).mono ?_; rintro e w8 ⟨rfl, hb⟩; have HB8 := Lib.hid (below_thru HB7.out hb hbW.out); have HP8 := Lib.hid (PAt.move HP7.out hb); have HR8 : Hid (PAt w.heap.size PR.zero w8) := Lib.hid ((HB8.out.block w.heap.size (Nat.lt_succ_self _)).trans HRZ.out); have rc0 := HR8.out.c0; have rf0 := row_freeAt 0 HR8.out; have rc1 := HR8.out.c1; have rf1 := row_freeAt 1 HR8.out; have rc2 := HR8.out.c2; have rf2 := row_freeAt 2 HR8.out; have rc3 := HR8.out.c3; have rf3 := row_freeAt 3 HR8.out; have rc4 := HR8.out.c4; have rf4 := row_freeAt 4 HR8.out; have rc5 := HR8.out.c5; have rf5 := row_freeAt 5 HR8.out; have rc6 := HR8.out.c6; have rf6 := row_freeAt 6 HR8.out; have rc7 := HR8.out.c7; have rf7 := row_freeAt 7 HR8.out; have rc8 := HR8.out.c8; have rf8 := row_freeAt 8 HR8.out; have rc9 := HR8.out.c9; have rf9 := row_freeAt 9 HR8.out; have rc10 := HR8.out.c10; have rf10 := row_freeAt 10 HR8.out; have rc11 := HR8.out.c11; have rf11 := row_freeAt 11 HR8.out; have rc12 := HR8.out.c12; have rf12 := row_freeAt 12 HR8.out; have p8c9 : w8.cell? ⟨(w.heap.size + 1), 9, none⟩ = some (.string qu) := HP8.out.c9.trans (congrArg (fun x => some (Value.string x)) KQ.out); have p8c11 : w8.cell? ⟨(w.heap.size + 1), 11, none⟩ = some (.string fr) := HP8.out.c11.trans (congrArg (fun x => some (Value.string x)) KF.out); clear hb) | (go_at_call 62; have hgd := HB6; clear hgd; refine (I1.out _).mono ?_; rintro e w7 ⟨rfl, hb⟩; have HB7 := Lib.hid (below_thru HB6.out hb hbW.out); have HP7 := Lib.hid (PAt.move HP6.out hb); have HR7 : Hid (PAt w.heap.size PR.zero w7) := Lib.hid ((HB7.out.block w.heap.size (Nat.lt_succ_self _)).trans HRZ.out); have p7c9 : w7.cell? ⟨(w.heap.size + 1), 9, none⟩ = some (.string qu) := HP7.out.c9.trans (congrArg (fun x => some (Value.string x)) KQ.out); have p7c11 : w7.cell? ⟨(w.heap.size + 1), 11, none⟩ = some (.string fr) := HP7.out.c11.trans (congrArg (fun x => some (Value.string x)) KF.out); clear hb) | (go_at_call 61; refine (CT.out _ (PAt.s8 (HE.out ▸ (show PAt (w.heap.size + 1) { PR.zero with sc := E0, hs := false, fr := fr, hf := hf, qu := qu, hq := hq } _ from (PAt.s10 (PAt.s9 HP4.out qu) hq))) r2) (HV1.out.past hb4 (below_set (below_set (below_set HB4.out _) _) _))).mono ?_; rintro e w6 ⟨rfl, hb⟩; have HB6 := Lib.hid (below_thru (below_set (below_set (below_set HB4.out _) _) _) hb hbW.out); have HP6 := Lib.hid (PAt.move (PAt.s8 (HE.out ▸ (show PAt (w.heap.size + 1) { PR.zero with sc := E0, hs := false, fr := fr, hf := hf, qu := qu, hq := hq } _ from (PAt.s10 (PAt.s9 HP4.out qu) hq))) r2) hb); have HR6 : Hid (PAt w.heap.size PR.zero w6) := Lib.hid ((HB6.out.block w.heap.size (Nat.lt_succ_self _)).trans HRZ.out); have p6c9 : w6.cell? ⟨(w.heap.size + 1), 9, none⟩ = some (.string qu) := HP6.out.c9.trans (congrArg (fun x => some (Value.string x)) KQ.out); have p6c11 : w6.cell? ⟨(w.heap.size + 1), 11, none⟩ = some (.string fr) := HP6.out.c11.trans (congrArg (fun x => some (Value.string x)) KF.out); clear hb) | (go_at_call 38; refine (CP.out _).mono ?_; rintro e w' ⟨rfl, hww⟩; rw [hww]; clear hww w') | (go_at_call 58; refine (C2.out _ (HV1.out.past hb4 (below_set (below_set HB3.out _) _))).mono ?_; rintro e w4 ⟨rfl, hb⟩; have HB4 := Lib.hid (below_thru (below_set (below_set HB3.out _) _) hb hbW.out); have HP4 := Lib.hid (PAt.move (PAt.s12 (PAt.s11 HP3.out fr) hf) hb); have HR4 : Hid (PAt w.heap.size PR.zero w4) := Lib.hid ((HB4.out.block w.heap.size (Nat.lt_succ_self _)).trans HRZ.out); have p4c8 := HP4.out.c8; have p4c9 := HP4.out.c9; have p4c10 := HP4.out.c10; have p4f8 := row_freeAt 8 HP4.out; have p4f9 := row_freeAt 9 HP4.out; have p4f10 := row_freeAt 10 HP4.out; clear hb) | (go_at_call 58; refine (C1.out _ (HV1.out.past hb4 HB1.out)).mono ?_; rintro e w3 ⟨rfl, hb⟩; have HB3 := Lib.hid (below_thru HB1.out hb hbW.out); have HP3 := Lib.hid (PAt.move HP1.out hb); have HR3 : Hid (PAt w.heap.size PR.zero w3) := Lib.hid ((HB3.out.block w.heap.size (Nat.lt_succ_self _)).trans HRZ.out); have p3c9 := HP3.out.c9; have p3c10 := HP3.out.c10; have p3c11 := HP3.out.c11; have p3c12 := HP3.out.c12; have p3f9 := row_freeAt 9 HP3.out; have p3f10 := row_freeAt 10 HP3.out; have p3f11 := row_freeAt 11 HP3.out; have p3f12 := row_freeAt 12 HP3.out; clear hb) | (go_at_call 56; refine (CA.out _).mono ?_; rintro e w1 ⟨rfl, hb⟩; have HB1 := Lib.hid (below_thru (Below.refl (w.heap.size + 1) ((w.alloc (.cells PR.zero.row 40)).alloc (.cells PR.zero.row 40))) hb hbW.out); have HP1 := Lib.hid (PAt.move HPZ.out hb); have HR1 : Hid (PAt w.heap.size PR.zero w1) := Lib.hid ((HB1.out.block w.heap.size (Nat.lt_succ_self _)).trans HRZ.out); have p1c11 := HP1.out.c11; have p1c12 := HP1.out.c12; have p1f11 := row_freeAt 11 HP1.out; have p1f12 := row_freeAt 12 HP1.out; clear hb))
    refine bodyPost_ret (v := .tuple #[.agg (PR.zero : PR).row, .int .i64 11]) (results_ct (P := Tryz.prog) (fn := Tryz.f18) (p := 2) (u := 3) (ty := 40) rfl _ _ w.heap.size 40 (PR.zero : PR).row (0, 0) _ rfl (PAt.put HR8.out PR.zero) Tryz.underlying40 rfl (by kernel_rfl)) rfl ?_
    exact ⟨rfl, (below_put (HBZ.out.trans (HB8.out.mono (Nat.le_succ _))) PR.zero)⟩
  · rw [hK] at CA
    have hKi : (K : Int) < (s.size : Int) := by omega
    have hK2 : (0 : Int) ≤ (K : Int) := by omega
    clear hK
    go_enter Tryz.func18, Tryz.ntmps18
    go_wp2_with (first | (go_at_call 62; have hgd := HB7; clear hgd; refine (I2.out _).mono ?_; rintro e w8 ⟨rfl, hb⟩; have HB8 := Lib.hid (below_thru HB7.out hb hbW.out); have HP8 := Lib.hid (PAt.move HP7.out hb); have HR8 : Hid (PAt w.heap.size PR.zero w8) := Lib.hid ((HB8.out.block w.heap.size (Nat.lt_succ_self _)).trans HRZ.out); have rc0 := HR8.out.c0; have rf0 := row_freeAt 0 HR8.out; have rc1 := HR8.out.c1; have rf1 := row_freeAt 1 HR8.out; have rc2 := HR8.out.c2; have rf2 := row_freeAt 2 HR8.out; have rc3 := HR8.out.c3; have rf3 := row_freeAt 3 HR8.out; have rc4 := HR8.out.c4; have rf4 := row_freeAt 4 HR8.out; have rc5 := HR8.out.c5; have rf5 := row_freeAt 5 HR8.out; have rc6 := HR8.out.c6; have rf6 := row_freeAt 6 HR8.out; have rc7 := HR8.out.c7; have rf7 := row_freeAt 7 HR8.out; have rc8 := HR8.out.c8; have rf8 := row_freeAt 8 HR8.out; have rc9 := HR8.out.c9; have rf9 := row_freeAt 9 HR8.out; have rc10 := HR8.out.c10; have rf10 := row_freeAt 10 HR8.out; have rc11 := HR8.out.c11; have rf11 := row_freeAt 11 HR8.out; have rc12 := HR8.out.c12; have rf12 := row_freeAt 12 HR8.out; have p8c9 : w8.cell? ⟨(w.heap.size + 1), 9, none⟩ = some (.string qu) := HP8.out.c9.trans (congrArg (fun x => some (Value.string x)) KQ.out); have p8c11 : w8.cell? ⟨(w.heap.size + 1), 11, none⟩ = some (.string fr) := HP8.out.c11.trans (congrArg (fun x => some (Value.string x)) KF.out); clear hb) | (go_at_call 62; have hgd := HB6; clear hgd; refine (I1.out _).mono ?_; rintro e w7 ⟨rfl, hb⟩; have HB7 := Lib.hid (below_thru HB6.out hb hbW.out); have HP7 := Lib.hid (PAt.move HP6.out hb); have HR7 : Hid (PAt w.heap.size PR.zero w7) := Lib.hid ((HB7.out.block w.heap.size (Nat.lt_succ_self _)).trans HRZ.out); have p7c9 : w7.cell? ⟨(w.heap.size + 1), 9, none⟩ = some (.string qu) := HP7.out.c9.trans (congrArg (fun x => some (Value.string x)) KQ.out); have p7c11 : w7.cell? ⟨(w.heap.size + 1), 11, none⟩ = some (.string fr) := HP7.out.c11.trans (congrArg (fun x => some (Value.string x)) KF.out); clear hb) | (go_at_call 61; refine (CT.out _ (PAt.s8 (HE.out ▸ (show PAt (w.heap.size + 1) { PR.zero with sc := E0, hs := false, fr := fr, hf := hf, qu := qu, hq := hq } _ from (PAt.s10 (PAt.s9 HP4.out qu) hq))) r2) (HV1.out.past hb4 (below_set (below_set (below_set HB4.out _) _) _))).mono ?_; rintro e w6 ⟨rfl, hb⟩; have HB6 := Lib.hid (below_thru (below_set (below_set (below_set HB4.out _) _) _) hb hbW.out); have HP6 := Lib.hid (PAt.move (PAt.s8 (HE.out ▸ (show PAt (w.heap.size + 1) { PR.zero with sc := E0, hs := false, fr := fr, hf := hf, qu := qu, hq := hq } _ from (PAt.s10 (PAt.s9 HP4.out qu) hq))) r2) hb); have HR6 : Hid (PAt w.heap.size PR.zero w6) := Lib.hid ((HB6.out.block w.heap.size (Nat.lt_succ_self _)).trans HRZ.out); have p6c9 : w6.cell? ⟨(w.heap.size + 1), 9, none⟩ = some (.string qu) := HP6.out.c9.trans (congrArg (fun x => some (Value.string x)) KQ.out); have p6c11 : w6.cell? ⟨(w.heap.size + 1), 11, none⟩ = some (.string fr) := HP6.out.c11.trans (congrArg (fun x => some (Value.string x)) KF.out); clear hb) | (go_at_call 38; refine (CP.out _).mono ?_; rintro e w' ⟨rfl, hww⟩; rw [hww]; clear hww w') | (go_at_call 58; refine (C2.out _ (HV1.out.past hb4 (below_set (below_set HB3.out _) _))).mono ?_; rintro e w4 ⟨rfl, hb⟩; have HB4 := Lib.hid (below_thru (below_set (below_set HB3.out _) _) hb hbW.out); have HP4 := Lib.hid (PAt.move (PAt.s12 (PAt.s11 HP3.out fr) hf) hb); have HR4 : Hid (PAt w.heap.size PR.zero w4) := Lib.hid ((HB4.out.block w.heap.size (Nat.lt_succ_self _)).trans HRZ.out); have p4c8 := HP4.out.c8; have p4c9 := HP4.out.c9; have p4c10 := HP4.out.c10; have p4f8 := row_freeAt 8 HP4.out; have p4f9 := row_freeAt 9 HP4.out; have p4f10 := row_freeAt 10 HP4.out; clear hb) | (go_at_call 58; refine (C1.out _ (HV1.out.past hb4 HB1.out)).mono ?_; rintro e w3 ⟨rfl, hb⟩; have HB3 := Lib.hid (below_thru HB1.out hb hbW.out); have HP3 := Lib.hid (PAt.move HP1.out hb); have HR3 : Hid (PAt w.heap.size PR.zero w3) := Lib.hid ((HB3.out.block w.heap.size (Nat.lt_succ_self _)).trans HRZ.out); have p3c9 := HP3.out.c9; have p3c10 := HP3.out.c10; have p3c11 := HP3.out.c11; have p3c12 := HP3.out.c12; have p3f9 := row_freeAt 9 HP3.out; have p3f10 := row_freeAt 10 HP3.out; have p3f11 := row_freeAt 11 HP3.out; have p3f12 := row_freeAt 12 HP3.out; clear hb) | (go_at_call 56; refine (CA.out _).mono ?_; rintro e w1 ⟨rfl, hb⟩; have HB1 := Lib.hid (below_thru (Below.refl (w.heap.size + 1) ((w.alloc (.cells PR.zero.row 40)).alloc (.cells PR.zero.row 40))) hb hbW.out); have HP1 := Lib.hid (PAt.move HPZ.out hb); have HR1 : Hid (PAt w.heap.size PR.zero w1) := Lib.hid ((HB1.out.block w.heap.size (Nat.lt_succ_self _)).trans HRZ.out); have p1c11 := HP1.out.c11; have p1c12 := HP1.out.c12; have p1f11 := row_freeAt 11 HP1.out; have p1f12 := row_freeAt 12 HP1.out; clear hb))
    refine bodyPost_ret (v := .tuple #[.agg (PR.zero : PR).row, .int .i64 11]) (results_ct (P := Tryz.prog) (fn := Tryz.f18) (p := 2) (u := 3) (ty := 40) rfl _ _ w.heap.size 40 (PR.zero : PR).row (0, 0) _ rfl (PAt.put HR8.out PR.zero) Tryz.underlying40 rfl (by kernel_rfl)) rfl ?_
    exact ⟨rfl, (below_put (HBZ.out.trans (HB8.out.mono (Nat.le_succ _))) PR.zero)⟩
set_option maxHeartbeats 8000000 in
set_option maxRecDepth 100000 in
theorem parse_FF_TTT (s : ByteArray) (w : World) (hz : s.size ≤ 4096) (hv : VarsOk w) (hcol : colB s = false) (hsl : Lib.hasPrefix (cut1 (cut1 (reS s) 35) 63).data.toList [47, 47] = false) (x1 : pathB (midR s).1.pa (midR s).1.ha (midR s).1.hs = true) (x2 : isB (cut2 (cut1 (reS s) 35) 63) ⟨#[58, 64, 47, 63]⟩ = true) (x3 : isB (cut2 (reS s) 35) ⟨#[58, 64, 47, 63]⟩ = true) : Calls Tryz.prog 18 #[.string s] w fun e w' => e = .returned (.tuple #[.agg (midR s).1.row, .int .i64 0]) ∧ Below w.heap.size w w' := by
  have hzi : ¬ (4096 : Int) < (s.size : Int) := by omega
  obtain ⟨h1, h2, h3⟩ := parse_start w
  have HRZ := Lib.hid h1
  have HPZ := Lib.hid h2
  have HBZ := Lib.hid h3
  have HV1 := Lib.hid (hv.move (Nat.le_refl _) h3)
  have hb4 : 4 < (w.heap.size + 1) := by have := hv.four; omega
  have hbW : Hid ((w.heap.size + 1) ≤ ((w.alloc (.cells PR.zero.row 40)).alloc (.cells PR.zero.row 40)).heap.size) := Lib.hid (by simp)
  clear h1 h2 h3 hv
  have CA := Lib.hid (fun w1 => idx_any s w1 (by omega))
  obtain ⟨hsc, hre⟩ := col_false s hcol
  have hny : (anyI s = -1) ∨ (∃ k : Nat, ∃ hk : k < s.size, anyI s = (k : Int) ∧ ((s[k]'hk).toNat : Int) ≠ 58) := by
    rcases anyI_range s with h | ⟨h, h'⟩
    · exact .inl h
    · refine .inr ⟨(anyI s).toNat, by omega, by omega, fun he => ?_⟩
      rw [bt_nt, show (((anyI s).toNat : Nat) : Int) = anyI s by omega] at he
      unfold colB at hcol
      rw [he, decide_eq_true h] at hcol
      cases hcol
  have hrz : (reS s).size ≤ 4096 := by rw [hre]; exact hz
  have hz1 := Nat.le_trans (cut1_size (reS s) 35) hrz
  have hz2 := Nat.le_trans (cut2_size (reS s) 35) hrz
  have hz3 := Nat.le_trans (cut1_size (cut1 (reS s) 35) 63) hz1
  have hz4 := Nat.le_trans (cut2_size (cut1 (reS s) 35) 63) hz1
  have C1 := Lib.hid (fun w1 hv1 => cut_ch (reS s) 35 w1 (by omega) hv1)
  have C2 := Lib.hid (fun w1 hv1 => cut_ch (cut1 (reS s) 35) 63 w1 (by omega) hv1)
  have I1 := Lib.hid (fun w1 => is_any (cut2 (cut1 (reS s) 35) 63) ⟨#[58, 64, 47, 63]⟩ w1 (by omega) (by decide))
  have I2 := Lib.hid (fun w1 => is_any (cut2 (reS s) 35) ⟨#[58, 64, 47, 63]⟩ w1 (by omega) (by decide))
  rw [x2] at I1
  rw [x3] at I2
  have CP := Lib.hid (fun w1 => Tryz.strings_CutPrefix (cut1 (cut1 (reS s) 35) 63) ⟨#[47, 47]⟩ w1)
  rw [show Lib.hasPrefix (cut1 (cut1 (reS s) 35) 63).data.toList (⟨#[47, 47]⟩ : ByteArray).data.toList = _ from hsl] at CP
  have HE : Hid ({ PR.zero with sc := E0, hs := false, fr := cut2 (reS s) 35, hf := cut3 (reS s) 35, qu := cut2 (cut1 (reS s) 35) 63, hq := cut3 (cut1 (reS s) 35) 63 } = p0 s (reS s)) := Lib.hid (by unfold p0; rw [hsc, hcol])
  have HM := fore_F (cut1 (cut1 (reS s) 35) 63) (p0 s (reS s)) hsl
  have hmid : midR s = fore (cut1 (cut1 (reS s) 35) 63) (p0 s (reS s)) := rfl
  rw [HM] at hmid
  rw [hmid] at x1
  rw [hmid]
  have hus : (p0 s (reS s)).us = E0 := rfl
  have KQ : Hid ((p0 s (reS s)).qu = cut2 (cut1 (reS s) 35) 63) := Lib.hid rfl
  have KF : Hid ((p0 s (reS s)).fr = cut2 (reS s) 35) := Lib.hid rfl
  generalize p0 s (reS s) = P4 at *
  generalize hfr : cut2 (reS s) 35 = fr at *
  generalize hhf : cut3 (reS s) 35 = hf at *
  generalize cut2 (cut1 (reS s) 35) 63 = qu at *
  generalize cut3 (cut1 (reS s) 35) 63 = hq at *
  generalize cut1 (cut1 (reS s) 35) 63 = r2 at *
  generalize cut1 (reS s) 35 = r1 at *
  rw [hre] at C1
  clear HM
  have CT := Lib.hid (fun w1 hp1 hv1 => path_any (w.heap.size + 1) { P4 with pa := r2 } w1 hp1 (by show r2.size ≤ _; omega) hv1)
  rw [show pathB _ _ _ = _ from x1] at CT
  clear hcol hsc hre hrz hz1 hz2 hz3 hz4 hsl hmid hus hz x1 x2 x3
  rcases hny with hK | ⟨K, hKs, hK, h58⟩
  · rw [hK] at CA
    clear hK
    go_enter Tryz.func18, Tryz.ntmps18
    go_wp2_with (first | (go_at_call 62; have hgd := HB7; clear hgd; refine (I2.out _).mono ?_; rintro e w8 ⟨rfl, hb⟩; have HB8 := Lib.hid (below_thru HB7.out hb hbW.out); have HP8 := Lib.hid (PAt.move HP7.out hb); have HR8 : Hid (PAt w.heap.size PR.zero w8) := Lib.hid ((HB8.out.block w.heap.size (Nat.lt_succ_self _)).trans HRZ.out); have p8c0 := HP8.out.c0; have p8c1 := HP8.out.c1; have p8c2 := HP8.out.c2; have p8c3 := HP8.out.c3; have p8c4 := HP8.out.c4; have p8c5 := HP8.out.c5; have p8c6 := HP8.out.c6; have p8c7 := HP8.out.c7; have p8c8 := HP8.out.c8; have p8c9 := HP8.out.c9; have p8c10 := HP8.out.c10; have p8c11 := HP8.out.c11; have p8c12 := HP8.out.c12; have rc0 := HR8.out.c0; have rf0 := row_freeAt 0 HR8.out; have rc1 := HR8.out.c1; have rf1 := row_freeAt 1 HR8.out; have rc2 := HR8.out.c2; have rf2 := row_freeAt 2 HR8.out; have rc3 := HR8.out.c3; have rf3 := row_freeAt 3 HR8.out; have rc4 := HR8.out.c4; have rf4 := row_freeAt 4 HR8.out; have rc5 := HR8.out.c5; have rf5 := row_freeAt 5 HR8.out; have rc6 := HR8.out.c6; have rf6 := row_freeAt 6 HR8.out; have rc7 := HR8.out.c7; have rf7 := row_freeAt 7 HR8.out; have rc8 := HR8.out.c8; have rf8 := row_freeAt 8 HR8.out; have rc9 := HR8.out.c9; have rf9 := row_freeAt 9 HR8.out; have rc10 := HR8.out.c10; have rf10 := row_freeAt 10 HR8.out; have rc11 := HR8.out.c11; have rf11 := row_freeAt 11 HR8.out; have rc12 := HR8.out.c12; have rf12 := row_freeAt 12 HR8.out; clear hb) | (go_at_call 62; have hgd := HB6; clear hgd; refine (I1.out _).mono ?_; rintro e w7 ⟨rfl, hb⟩; have HB7 := Lib.hid (below_thru HB6.out hb hbW.out); have HP7 := Lib.hid (PAt.move HP6.out hb); have HR7 : Hid (PAt w.heap.size PR.zero w7) := Lib.hid ((HB7.out.block w.heap.size (Nat.lt_succ_self _)).trans HRZ.out); have p7c9 : w7.cell? ⟨(w.heap.size + 1), 9, none⟩ = some (.string qu) := HP7.out.c9.trans (congrArg (fun x => some (Value.string x)) KQ.out); have p7c11 : w7.cell? ⟨(w.heap.size + 1), 11, none⟩ = some (.string fr) := HP7.out.c11.trans (congrArg (fun x => some (Value.string x)) KF.out); clear hb) | (go_at_call 61; refine (CT.out _ (PAt.s8 (HE.out ▸ (show PAt (w.heap.size + 1) { PR.zero with sc := E0, hs := false, fr := fr, hf := hf, qu := qu, hq := hq } _ from (PAt.s10 (PAt.s9 HP4.out qu) hq))) r2) (HV1.out.past hb4 (below_set (below_set (below_set HB4.out _) _) _))).mono ?_; rintro e w6 ⟨rfl, hb⟩; have HB6 := Lib.hid (below_thru (below_set (below_set (below_set HB4.out _) _) _) hb hbW.out); have HP6 := Lib.hid (PAt.move (PAt.s8 (HE.out ▸ (show PAt (w.heap.size + 1) { PR.zero with sc := E0, hs := false, fr := fr, hf := hf, qu := qu, hq := hq } _ from (PAt.s10 (PAt.s9 HP4.out qu) hq))) r2) hb); have HR6 : Hid (PAt w.heap.size PR.zero w6) := Lib.hid ((HB6.out.block w.heap.size (Nat.lt_succ_self _)).trans HRZ.out); have p6c9 : w6.cell? ⟨(w.heap.size + 1), 9, none⟩ = some (.string qu) := HP6.out.c9.trans (congrArg (fun x => some (Value.string x)) KQ.out); have p6c11 : w6.cell? ⟨(w.heap.size + 1), 11, none⟩ = some (.string fr) := HP6.out.c11.trans (congrArg (fun x => some (Value.string x)) KF.out); clear hb) | (go_at_call 38; refine (CP.out _).mono ?_; rintro e w' ⟨rfl, hww⟩; rw [hww]; clear hww w') | (go_at_call 58; refine (C2.out _ (HV1.out.past hb4 (below_set (below_set HB3.out _) _))).mono ?_; rintro e w4 ⟨rfl, hb⟩; have HB4 := Lib.hid (below_thru (below_set (below_set HB3.out _) _) hb hbW.out); have HP4 := Lib.hid (PAt.move (PAt.s12 (PAt.s11 HP3.out fr) hf) hb); have HR4 : Hid (PAt w.heap.size PR.zero w4) := Lib.hid ((HB4.out.block w.heap.size (Nat.lt_succ_self _)).trans HRZ.out); have p4c8 := HP4.out.c8; have p4c9 := HP4.out.c9; have p4c10 := HP4.out.c10; have p4f8 := row_freeAt 8 HP4.out; have p4f9 := row_freeAt 9 HP4.out; have p4f10 := row_freeAt 10 HP4.out; clear hb) | (go_at_call 58; refine (C1.out _ (HV1.out.past hb4 HB1.out)).mono ?_; rintro e w3 ⟨rfl, hb⟩; have HB3 := Lib.hid (below_thru HB1.out hb hbW.out); have HP3 := Lib.hid (PAt.move HP1.out hb); have HR3 : Hid (PAt w.heap.size PR.zero w3) := Lib.hid ((HB3.out.block w.heap.size (Nat.lt_succ_self _)).trans HRZ.out); have p3c9 := HP3.out.c9; have p3c10 := HP3.out.c10; have p3c11 := HP3.out.c11; have p3c12 := HP3.out.c12; have p3f9 := row_freeAt 9 HP3.out; have p3f10 := row_freeAt 10 HP3.out; have p3f11 := row_freeAt 11 HP3.out; have p3f12 := row_freeAt 12 HP3.out; clear hb) | (go_at_call 56; refine (CA.out _).mono ?_; rintro e w1 ⟨rfl, hb⟩; have HB1 := Lib.hid (below_thru (Below.refl (w.heap.size + 1) ((w.alloc (.cells PR.zero.row 40)).alloc (.cells PR.zero.row 40))) hb hbW.out); have HP1 := Lib.hid (PAt.move HPZ.out hb); have HR1 : Hid (PAt w.heap.size PR.zero w1) := Lib.hid ((HB1.out.block w.heap.size (Nat.lt_succ_self _)).trans HRZ.out); have p1c11 := HP1.out.c11; have p1c12 := HP1.out.c12; have p1f11 := row_freeAt 11 HP1.out; have p1f12 := row_freeAt 12 HP1.out; clear hb))
    refine bodyPost_ret (v := .tuple #[.agg ({ P4 with pa := r2 } : PR).row, .int .i64 0]) (results_ct (P := Tryz.prog) (fn := Tryz.f18) (p := 2) (u := 3) (ty := 40) rfl _ _ w.heap.size 40 ({ P4 with pa := r2 } : PR).row (0, 0) _ rfl (PAt.put HR8.out { P4 with pa := r2 }) Tryz.underlying40 rfl (by kernel_rfl)) rfl ?_
    exact ⟨rfl, (below_put (HBZ.out.trans (HB8.out.mono (Nat.le_succ _))) { P4 with pa := r2 })⟩
  · rw [hK] at CA
    have hKi : (K : Int) < (s.size : Int) := by omega
    have hK2 : (0 : Int) ≤ (K : Int) := by omega
    clear hK
    go_enter Tryz.func18, Tryz.ntmps18
    go_wp2_with (first | (go_at_call 62; have hgd := HB7; clear hgd; refine (I2.out _).mono ?_; rintro e w8 ⟨rfl, hb⟩; have HB8 := Lib.hid (below_thru HB7.out hb hbW.out); have HP8 := Lib.hid (PAt.move HP7.out hb); have HR8 : Hid (PAt w.heap.size PR.zero w8) := Lib.hid ((HB8.out.block w.heap.size (Nat.lt_succ_self _)).trans HRZ.out); have p8c0 := HP8.out.c0; have p8c1 := HP8.out.c1; have p8c2 := HP8.out.c2; have p8c3 := HP8.out.c3; have p8c4 := HP8.out.c4; have p8c5 := HP8.out.c5; have p8c6 := HP8.out.c6; have p8c7 := HP8.out.c7; have p8c8 := HP8.out.c8; have p8c9 := HP8.out.c9; have p8c10 := HP8.out.c10; have p8c11 := HP8.out.c11; have p8c12 := HP8.out.c12; have rc0 := HR8.out.c0; have rf0 := row_freeAt 0 HR8.out; have rc1 := HR8.out.c1; have rf1 := row_freeAt 1 HR8.out; have rc2 := HR8.out.c2; have rf2 := row_freeAt 2 HR8.out; have rc3 := HR8.out.c3; have rf3 := row_freeAt 3 HR8.out; have rc4 := HR8.out.c4; have rf4 := row_freeAt 4 HR8.out; have rc5 := HR8.out.c5; have rf5 := row_freeAt 5 HR8.out; have rc6 := HR8.out.c6; have rf6 := row_freeAt 6 HR8.out; have rc7 := HR8.out.c7; have rf7 := row_freeAt 7 HR8.out; have rc8 := HR8.out.c8; have rf8 := row_freeAt 8 HR8.out; have rc9 := HR8.out.c9; have rf9 := row_freeAt 9 HR8.out; have rc10 := HR8.out.c10; have rf10 := row_freeAt 10 HR8.out; have rc11 := HR8.out.c11; have rf11 := row_freeAt 11 HR8.out; have rc12 := HR8.out.c12; have rf12 := row_freeAt 12 HR8.out; clear hb) | (go_at_call 62; have hgd := HB6; clear hgd; refine (I1.out _).mono ?_; rintro e w7 ⟨rfl, hb⟩; have HB7 := Lib.hid (below_thru HB6.out hb hbW.out); have HP7 := Lib.hid (PAt.move HP6.out hb); have HR7 : Hid (PAt w.heap.size PR.zero w7) := Lib.hid ((HB7.out.block w.heap.size (Nat.lt_succ_self _)).trans HRZ.out); have p7c9 : w7.cell? ⟨(w.heap.size + 1), 9, none⟩ = some (.string qu) := HP7.out.c9.trans (congrArg (fun x => some (Value.string x)) KQ.out); have p7c11 : w7.cell? ⟨(w.heap.size + 1), 11, none⟩ = some (.string fr) := HP7.out.c11.trans (congrArg (fun x => some (Value.string x)) KF.out); clear hb) | (go_at_call 61; refine (CT.out _ (PAt.s8 (HE.out ▸ (show PAt (w.heap.size + 1) { PR.zero with sc := E0, hs := false, fr := fr, hf := hf, qu := qu, hq := hq } _ from (PAt.s10 (PAt.s9 HP4.out qu) hq))) r2) (HV1.out.past hb4 (below_set (below_set (below_set HB4.out _) _) _))).mono ?_; rintro e w6 ⟨rfl, hb⟩; have HB6 := Lib.hid (below_thru (below_set (below_set (below_set HB4.out _) _) _) hb hbW.out); have HP6 := Lib.hid (PAt.move (PAt.s8 (HE.out ▸ (show PAt (w.heap.size + 1) { PR.zero with sc := E0, hs := false, fr := fr, hf := hf, qu := qu, hq := hq } _ from (PAt.s10 (PAt.s9 HP4.out qu) hq))) r2) hb); have HR6 : Hid (PAt w.heap.size PR.zero w6) := Lib.hid ((HB6.out.block w.heap.size (Nat.lt_succ_self _)).trans HRZ.out); have p6c9 : w6.cell? ⟨(w.heap.size + 1), 9, none⟩ = some (.string qu) := HP6.out.c9.trans (congrArg (fun x => some (Value.string x)) KQ.out); have p6c11 : w6.cell? ⟨(w.heap.size + 1), 11, none⟩ = some (.string fr) := HP6.out.c11.trans (congrArg (fun x => some (Value.string x)) KF.out); clear hb) | (go_at_call 38; refine (CP.out _).mono ?_; rintro e w' ⟨rfl, hww⟩; rw [hww]; clear hww w') | (go_at_call 58; refine (C2.out _ (HV1.out.past hb4 (below_set (below_set HB3.out _) _))).mono ?_; rintro e w4 ⟨rfl, hb⟩; have HB4 := Lib.hid (below_thru (below_set (below_set HB3.out _) _) hb hbW.out); have HP4 := Lib.hid (PAt.move (PAt.s12 (PAt.s11 HP3.out fr) hf) hb); have HR4 : Hid (PAt w.heap.size PR.zero w4) := Lib.hid ((HB4.out.block w.heap.size (Nat.lt_succ_self _)).trans HRZ.out); have p4c8 := HP4.out.c8; have p4c9 := HP4.out.c9; have p4c10 := HP4.out.c10; have p4f8 := row_freeAt 8 HP4.out; have p4f9 := row_freeAt 9 HP4.out; have p4f10 := row_freeAt 10 HP4.out; clear hb) | (go_at_call 58; refine (C1.out _ (HV1.out.past hb4 HB1.out)).mono ?_; rintro e w3 ⟨rfl, hb⟩; have HB3 := Lib.hid (below_thru HB1.out hb hbW.out); have HP3 := Lib.hid (PAt.move HP1.out hb); have HR3 : Hid (PAt w.heap.size PR.zero w3) := Lib.hid ((HB3.out.block w.heap.size (Nat.lt_succ_self _)).trans HRZ.out); have p3c9 := HP3.out.c9; have p3c10 := HP3.out.c10; have p3c11 := HP3.out.c11; have p3c12 := HP3.out.c12; have p3f9 := row_freeAt 9 HP3.out; have p3f10 := row_freeAt 10 HP3.out; have p3f11 := row_freeAt 11 HP3.out; have p3f12 := row_freeAt 12 HP3.out; clear hb) | (go_at_call 56; refine (CA.out _).mono ?_; rintro e w1 ⟨rfl, hb⟩; have HB1 := Lib.hid (below_thru (Below.refl (w.heap.size + 1) ((w.alloc (.cells PR.zero.row 40)).alloc (.cells PR.zero.row 40))) hb hbW.out); have HP1 := Lib.hid (PAt.move HPZ.out hb); have HR1 : Hid (PAt w.heap.size PR.zero w1) := Lib.hid ((HB1.out.block w.heap.size (Nat.lt_succ_self _)).trans HRZ.out); have p1c11 := HP1.out.c11; have p1c12 := HP1.out.c12; have p1f11 := row_freeAt 11 HP1.out; have p1f12 := row_freeAt 12 HP1.out; clear hb))
    refine bodyPost_ret (v := .tuple #[.agg ({ P4 with pa := r2 } : PR).row, .int .i64 0]) (results_ct (P := Tryz.prog) (fn := Tryz.f18) (p := 2) (u := 3) (ty := 40) rfl _ _ w.heap.size 40 ({ P4 with pa := r2 } : PR).row (0, 0) _ rfl (PAt.put HR8.out { P4 with pa := r2 }) Tryz.underlying40 rfl (by kernel_rfl)) rfl ?_
    exact ⟨rfl, (below_put (HBZ.out.trans (HB8.out.mono (Nat.le_succ _))) { P4 with pa := r2 })⟩
end Go.Proofs.YtakdjflhhaefiaaGreatDoor
