/- abnf.Parse: the walk, more ways. -/
import Derived.Test.YtakdjflhhaefiaaGreatDoorC3
set_option linter.unusedVariables false
set_option linter.unusedSimpArgs false
namespace Go.Proofs.YtakdjflhhaefiaaGreatDoor
open Go.RowKit Go.Proofs.YtakdjflhhaefiaaGreatDoor.PDotsGo Go.Proofs.YtakdjflhhaefiaaGreatDoorW.PrintWords Go.Proofs.YtakdjflhhaefiaaGreatDoorW.PrintLast Go.Proofs.YtakdjflhhaefiaaGreatDoorW.PrintMore

set_option maxHeartbeats 8000000 in
set_option maxRecDepth 100000 in
theorem parse_FT_F (s : ByteArray) (w : World) (hz : s.size ≤ 4096) (hv : VarsOk w) (hcol : colB s = false) (hsl : Lib.hasPrefix (cut1 (cut1 (reS s) 35) 63).data.toList [47, 47] = true) (x0 : (midR s).2 = false) : Calls Tryz.prog 18 #[.string s] w fun e w' => e = .returned (.tuple #[.agg PR.zero.row, .int .i64 11]) ∧ Below w.heap.size w w' := by
  have hzi : ¬ (4096 : Int) < (s.size : Int) := by omega
  obtain ⟨h1, h2, h3⟩ := parse_start w
  have HRZ := Lib.hid h1
  have HPZ := Lib.hid h2
  have HBZ := Lib.hid h3
  have HV1 := Lib.hid (hv.move (Nat.le_refl _) h3)
  have hb4 : 4 < (w.heap.size + 1) := by have := hv.four; omega
  have hbW : Hid ((w.heap.size + 1) ≤ ((w.alloc (.cells PR.zero.row 40)).alloc (.cells PR.zero.row 40)).heap.size) := Lib.hid (by simp)
  clear h1 h2 h3 hv
  have CA := Lib.hid (fun w1 => idx_any s w1 (by omega))
  obtain ⟨hsc, hre⟩ := col_false s hcol
  have hny : (anyI s = -1) ∨ (∃ k : Nat, ∃ hk : k < s.size, anyI s = (k : Int) ∧ ((s[k]'hk).toNat : Int) ≠ 58) := by
    rcases anyI_range s with h | ⟨h, h'⟩
    · exact .inl h
    · refine .inr ⟨(anyI s).toNat, by omega, by omega, fun he => ?_⟩
      rw [bt_nt, show (((anyI s).toNat : Nat) : Int) = anyI s by omega] at he
      unfold colB at hcol
      rw [he, decide_eq_true h] at hcol
      cases hcol
  have hrz : (reS s).size ≤ 4096 := by rw [hre]; exact hz
  have hz1 := Nat.le_trans (cut1_size (reS s) 35) hrz
  have hz2 := Nat.le_trans (cut2_size (reS s) 35) hrz
  have hz3 := Nat.le_trans (cut1_size (cut1 (reS s) 35) 63) hz1
  have hz4 := Nat.le_trans (cut2_size (cut1 (reS s) 35) 63) hz1
  have C1 := Lib.hid (fun w1 hv1 => cut_ch (reS s) 35 w1 (by omega) hv1)
  have C2 := Lib.hid (fun w1 hv1 => cut_ch (cut1 (reS s) 35) 63 w1 (by omega) hv1)
  have CP := Lib.hid (fun w1 => Tryz.strings_CutPrefix (cut1 (cut1 (reS s) 35) 63) ⟨#[47, 47]⟩ w1)
  rw [show Lib.hasPrefix (cut1 (cut1 (reS s) 35) 63).data.toList (⟨#[47, 47]⟩ : ByteArray).data.toList = _ from hsl] at CP
  have HE : Hid ({ PR.zero with sc := E0, hs := false, fr := cut2 (reS s) 35, hf := cut3 (reS s) 35, qu := cut2 (cut1 (reS s) 35) 63, hq := cut3 (cut1 (reS s) 35) 63 } = p0 s (reS s)) := Lib.hid (by unfold p0; rw [hsc, hcol])
  have HM := fore_T (cut1 (cut1 (reS s) 35) 63) (p0 s (reS s)) hsl
  obtain ⟨s1, s2⟩ := sl_range (tpB (cut1 (cut1 (reS s) 35) 63) ⟨#[47, 47]⟩)
  have s3 := Nat.le_trans (tp_size (cut1 (cut1 (reS s) 35) 63) ⟨#[47, 47]⟩) hz3
  have hmid : midR s = fore (cut1 (cut1 (reS s) 35) 63) (p0 s (reS s)) := rfl
  rw [HM] at hmid
  rw [hmid] at x0
  have hus : (p0 s (reS s)).us = E0 := rfl
  have hkeep := au_keeps ((tpB (cut1 (cut1 (reS s) 35) 63) ⟨#[47, 47]⟩).extract 0 (slI (tpB (cut1 (cut1 (reS s) 35) 63) ⟨#[47, 47]⟩))) (p0 s (reS s))
  have KQ : Hid ((auP ((tpB (cut1 (cut1 (reS s) 35) 63) ⟨#[47, 47]⟩).extract 0 (slI (tpB (cut1 (cut1 (reS s) 35) 63) ⟨#[47, 47]⟩))) (p0 s (reS s))).qu = cut2 (cut1 (reS s) 35) 63) := Lib.hid hkeep.2.2.1
  have KF : Hid ((auP ((tpB (cut1 (cut1 (reS s) 35) 63) ⟨#[47, 47]⟩).extract 0 (slI (tpB (cut1 (cut1 (reS s) 35) 63) ⟨#[47, 47]⟩))) (p0 s (reS s))).fr = cut2 (reS s) 35) := Lib.hid hkeep.2.2.2.2.1
  clear hkeep
  generalize p0 s (reS s) = P4 at *
  generalize hfr : cut2 (reS s) 35 = fr at *
  generalize hhf : cut3 (reS s) 35 = hf at *
  generalize cut2 (cut1 (reS s) 35) 63 = qu at *
  generalize cut3 (cut1 (reS s) 35) 63 = hq at *
  generalize cut1 (cut1 (reS s) 35) 63 = r2 at *
  generalize cut1 (reS s) 35 = r1 at *
  rw [hre] at C1
  have CB := Lib.hid (fun w1 => Tryz.strings_IndexByte (tpB r2 ⟨#[47, 47]⟩ ++ ⟨#[47]⟩) 47 w1)
  rw [show (47 : Int).toNat.toUInt8 = 47 from rfl, s1] at CB
  have hcp : (⟨(Lib.trimPrefix r2.data.toList (⟨#[47, 47]⟩ : ByteArray).data.toList).toArray⟩ : ByteArray) = tpB r2 ⟨#[47, 47]⟩ := rfl
  rw [hcp] at CP
  clear s1 hcp HM
  generalize slI (tpB r2 ⟨#[47, 47]⟩) = n at *
  generalize tpB r2 ⟨#[47, 47]⟩ = t at *
  have hn0 : (0 : Int) ≤ (n : Int) := by omega
  have hn1 : (n : Int) ≤ (t.size : Int) := by omega
  have hcat : ¬ (9223372036854775807 < t.size + 1) := by omega
  have CU := Lib.hid (fun w1 hp1 hv1 => au_any (w.heap.size + 1) P4 (t.extract 0 n) w1 hp1 (by have := extract_le t 0 n; omega) (by rw [hus]; decide) hb4 hv1)
  rw [show auOk (auP (t.extract 0 n) P4) = _ from x0] at CU
  generalize auP (t.extract 0 n) P4 = P5 at *
  clear hcol hsc hre hrz hz1 hz2 hz3 hz4 hsl hmid hus hz x0 s2 s3
  rcases hny with hK | ⟨K, hKs, hK, h58⟩
  · rw [hK] at CA
    clear hK
    go_enter Tryz.func18, Tryz.ntmps18
    go_wp2_with (first | (go_at_call 59; refine (CB.out _).mono ?_; rintro e w' ⟨rfl, hww⟩; rw [hww]; clear hww w') | (go_at_call 38; refine (CP.out _).mono ?_; rintro e w' ⟨rfl, hww⟩; rw [hww]; clear hww w') | (go_at_call 58; refine (C2.out _ (HV1.out.past hb4 (below_set (below_set HB3.out _) _))).mono ?_; rintro e w4 ⟨rfl, hb⟩; have HB4 := Lib.hid (below_thru (below_set (below_set HB3.out _) _) hb hbW.out); have HP4 := Lib.hid (PAt.move (PAt.s12 (PAt.s11 HP3.out fr) hf) hb); have HR4 : Hid (PAt w.heap.size PR.zero w4) := Lib.hid ((HB4.out.block w.heap.size (Nat.lt_succ_self _)).trans HRZ.out); have p4c8 := HP4.out.c8; have p4c9 := HP4.out.c9; have p4c10 := HP4.out.c10; have p4f8 := row_freeAt 8 HP4.out; have p4f9 := row_freeAt 9 HP4.out; have p4f10 := row_freeAt 10 HP4.out; clear hb) | (go_at_call 58; refine (C1.out _ (HV1.out.past hb4 HB1.out)).mono ?_; rintro e w3 ⟨rfl, hb⟩; have HB3 := Lib.hid (below_thru HB1.out hb hbW.out); have HP3 := Lib.hid (PAt.move HP1.out hb); have HR3 : Hid (PAt w.heap.size PR.zero w3) := Lib.hid ((HB3.out.block w.heap.size (Nat.lt_succ_self _)).trans HRZ.out); have p3c9 := HP3.out.c9; have p3c10 := HP3.out.c10; have p3c11 := HP3.out.c11; have p3c12 := HP3.out.c12; have p3f9 := row_freeAt 9 HP3.out; have p3f10 := row_freeAt 10 HP3.out; have p3f11 := row_freeAt 11 HP3.out; have p3f12 := row_freeAt 12 HP3.out; clear hb) | (go_at_call 56; refine (CA.out _).mono ?_; rintro e w1 ⟨rfl, hb⟩; have HB1 := Lib.hid (below_thru (Below.refl (w.heap.size + 1) ((w.alloc (.cells PR.zero.row 40)).alloc (.cells PR.zero.row 40))) hb hbW.out); have HP1 := Lib.hid (PAt.move HPZ.out hb); have HR1 : Hid (PAt w.heap.size PR.zero w1) := Lib.hid ((HB1.out.block w.heap.size (Nat.lt_succ_self _)).trans HRZ.out); have p1c11 := HP1.out.c11; have p1c12 := HP1.out.c12; have p1f11 := row_freeAt 11 HP1.out; have p1f12 := row_freeAt 12 HP1.out; clear hb))
    go_region_with (first | (go_at_call 60; refine (CU.out _ (PAt.drw (HE.out ▸ (show PAt (w.heap.size + 1) { PR.zero with sc := E0, hs := false, fr := fr, hf := hf, qu := qu, hq := hq } _ from (PAt.s10 (PAt.s9 HP4.out qu) hq)))) (HV1.out.past hb4 (Below.drew (below_set (below_set HB4.out _) _)))).mono ?_; rintro e w5 ⟨rfl, hpp, hbb⟩; have HB5 := Lib.hid ((Below.drew (below_set (below_set HB4.out _) _)).trans hbb); have HP5 := Lib.hid hpp; have HR5 : Hid (PAt w.heap.size PR.zero w5) := Lib.hid ((HB5.out.block w.heap.size (Nat.lt_succ_self _)).trans HRZ.out); have p5c8 := HP5.out.c8; have p5f8 := row_freeAt 8 HP5.out; have rc0 := HR5.out.c0; have rf0 := row_freeAt 0 HR5.out; have rc1 := HR5.out.c1; have rf1 := row_freeAt 1 HR5.out; have rc2 := HR5.out.c2; have rf2 := row_freeAt 2 HR5.out; have rc3 := HR5.out.c3; have rf3 := row_freeAt 3 HR5.out; have rc4 := HR5.out.c4; have rf4 := row_freeAt 4 HR5.out; have rc5 := HR5.out.c5; have rf5 := row_freeAt 5 HR5.out; have rc6 := HR5.out.c6; have rf6 := row_freeAt 6 HR5.out; have rc7 := HR5.out.c7; have rf7 := row_freeAt 7 HR5.out; have rc8 := HR5.out.c8; have rf8 := row_freeAt 8 HR5.out; have rc9 := HR5.out.c9; have rf9 := row_freeAt 9 HR5.out; have rc10 := HR5.out.c10; have rf10 := row_freeAt 10 HR5.out; have rc11 := HR5.out.c11; have rf11 := row_freeAt 11 HR5.out; have rc12 := HR5.out.c12; have rf12 := row_freeAt 12 HR5.out; clear hpp hbb))
    all_goals go_simp
    all_goals go_wp2
    all_goals (
      refine bodyPost_ret (v := .tuple #[.agg (PR.zero : PR).row, .int .i64 11]) (results_ct (P := Tryz.prog) (fn := Tryz.f18) (p := 2) (u := 3) (ty := 40) rfl _ _ w.heap.size 40 (PR.zero : PR).row (0, 0) _ rfl (PAt.put (show PAt w.heap.size PR.zero _ from ((below_set HB5.out (.string (t.extract n t.size))).block w.heap.size (Nat.lt_succ_self _)).trans HRZ.out) PR.zero) Tryz.underlying40 rfl (by kernel_rfl)) rfl ?_
      exact ⟨rfl, (below_put ((HBZ.out.trans ((below_set HB5.out (.string (t.extract n t.size))).mono (Nat.le_succ _)))) PR.zero)⟩)
  · rw [hK] at CA
    have hKi : (K : Int) < (s.size : Int) := by omega
    have hK2 : (0 : Int) ≤ (K : Int) := by omega
    clear hK
    go_enter Tryz.func18, Tryz.ntmps18
    go_wp2_with (first | (go_at_call 59; refine (CB.out _).mono ?_; rintro e w' ⟨rfl, hww⟩; rw [hww]; clear hww w') | (go_at_call 38; refine (CP.out _).mono ?_; rintro e w' ⟨rfl, hww⟩; rw [hww]; clear hww w') | (go_at_call 58; refine (C2.out _ (HV1.out.past hb4 (below_set (below_set HB3.out _) _))).mono ?_; rintro e w4 ⟨rfl, hb⟩; have HB4 := Lib.hid (below_thru (below_set (below_set HB3.out _) _) hb hbW.out); have HP4 := Lib.hid (PAt.move (PAt.s12 (PAt.s11 HP3.out fr) hf) hb); have HR4 : Hid (PAt w.heap.size PR.zero w4) := Lib.hid ((HB4.out.block w.heap.size (Nat.lt_succ_self _)).trans HRZ.out); have p4c8 := HP4.out.c8; have p4c9 := HP4.out.c9; have p4c10 := HP4.out.c10; have p4f8 := row_freeAt 8 HP4.out; have p4f9 := row_freeAt 9 HP4.out; have p4f10 := row_freeAt 10 HP4.out; clear hb) | (go_at_call 58; refine (C1.out _ (HV1.out.past hb4 HB1.out)).mono ?_; rintro e w3 ⟨rfl, hb⟩; have HB3 := Lib.hid (below_thru HB1.out hb hbW.out); have HP3 := Lib.hid (PAt.move HP1.out hb); have HR3 : Hid (PAt w.heap.size PR.zero w3) := Lib.hid ((HB3.out.block w.heap.size (Nat.lt_succ_self _)).trans HRZ.out); have p3c9 := HP3.out.c9; have p3c10 := HP3.out.c10; have p3c11 := HP3.out.c11; have p3c12 := HP3.out.c12; have p3f9 := row_freeAt 9 HP3.out; have p3f10 := row_freeAt 10 HP3.out; have p3f11 := row_freeAt 11 HP3.out; have p3f12 := row_freeAt 12 HP3.out; clear hb) | (go_at_call 56; refine (CA.out _).mono ?_; rintro e w1 ⟨rfl, hb⟩; have HB1 := Lib.hid (below_thru (Below.refl (w.heap.size + 1) ((w.alloc (.cells PR.zero.row 40)).alloc (.cells PR.zero.row 40))) hb hbW.out); have HP1 := Lib.hid (PAt.move HPZ.out hb); have HR1 : Hid (PAt w.heap.size PR.zero w1) := Lib.hid ((HB1.out.block w.heap.size (Nat.lt_succ_self _)).trans HRZ.out); have p1c11 := HP1.out.c11; have p1c12 := HP1.out.c12; have p1f11 := row_freeAt 11 HP1.out; have p1f12 := row_freeAt 12 HP1.out; clear hb))
    go_region_with (first | (go_at_call 60; refine (CU.out _ (PAt.drw (HE.out ▸ (show PAt (w.heap.size + 1) { PR.zero with sc := E0, hs := false, fr := fr, hf := hf, qu := qu, hq := hq } _ from (PAt.s10 (PAt.s9 HP4.out qu) hq)))) (HV1.out.past hb4 (Below.drew (below_set (below_set HB4.out _) _)))).mono ?_; rintro e w5 ⟨rfl, hpp, hbb⟩; have HB5 := Lib.hid ((Below.drew (below_set (below_set HB4.out _) _)).trans hbb); have HP5 := Lib.hid hpp; have HR5 : Hid (PAt w.heap.size PR.zero w5) := Lib.hid ((HB5.out.block w.heap.size (Nat.lt_succ_self _)).trans HRZ.out); have p5c8 := HP5.out.c8; have p5f8 := row_freeAt 8 HP5.out; have rc0 := HR5.out.c0; have rf0 := row_freeAt 0 HR5.out; have rc1 := HR5.out.c1; have rf1 := row_freeAt 1 HR5.out; have rc2 := HR5.out.c2; have rf2 := row_freeAt 2 HR5.out; have rc3 := HR5.out.c3; have rf3 := row_freeAt 3 HR5.out; have rc4 := HR5.out.c4; have rf4 := row_freeAt 4 HR5.out; have rc5 := HR5.out.c5; have rf5 := row_freeAt 5 HR5.out; have rc6 := HR5.out.c6; have rf6 := row_freeAt 6 HR5.out; have rc7 := HR5.out.c7; have rf7 := row_freeAt 7 HR5.out; have rc8 := HR5.out.c8; have rf8 := row_freeAt 8 HR5.out; have rc9 := HR5.out.c9; have rf9 := row_freeAt 9 HR5.out; have rc10 := HR5.out.c10; have rf10 := row_freeAt 10 HR5.out; have rc11 := HR5.out.c11; have rf11 := row_freeAt 11 HR5.out; have rc12 := HR5.out.c12; have rf12 := row_freeAt 12 HR5.out; clear hpp hbb))
    all_goals go_simp
    all_goals go_wp2
    all_goals (
      refine bodyPost_ret (v := .tuple #[.agg (PR.zero : PR).row, .int .i64 11]) (results_ct (P := Tryz.prog) (fn := Tryz.f18) (p := 2) (u := 3) (ty := 40) rfl _ _ w.heap.size 40 (PR.zero : PR).row (0, 0) _ rfl (PAt.put (show PAt w.heap.size PR.zero _ from ((below_set HB5.out (.string (t.extract n t.size))).block w.heap.size (Nat.lt_succ_self _)).trans HRZ.out) PR.zero) Tryz.underlying40 rfl (by kernel_rfl)) rfl ?_
      exact ⟨rfl, (below_put ((HBZ.out.trans ((below_set HB5.out (.string (t.extract n t.size))).mono (Nat.le_succ _)))) PR.zero)⟩)
set_option maxHeartbeats 8000000 in
set_option maxRecDepth 100000 in
theorem parse_FT_TF (s : ByteArray) (w : World) (hz : s.size ≤ 4096) (hv : VarsOk w) (hcol : colB s = false) (hsl : Lib.hasPrefix (cut1 (cut1 (reS s) 35) 63).data.toList [47, 47] = true) (x0 : (midR s).2 = true) (x1 : pathB (midR s).1.pa (midR s).1.ha (midR s).1.hs = false) : Calls Tryz.prog 18 #[.string s] w fun e w' => e = .returned (.tuple #[.agg PR.zero.row, .int .i64 11]) ∧ Below w.heap.size w w' := by
  have hzi : ¬ (4096 : Int) < (s.size : Int) := by omega
  obtain ⟨h1, h2, h3⟩ := parse_start w
  have HRZ := Lib.hid h1
  have HPZ := Lib.hid h2
  have HBZ := Lib.hid h3
  have HV1 := Lib.hid (hv.move (Nat.le_refl _) h3)
  have hb4 : 4 < (w.heap.size + 1) := by have := hv.four; omega
  have hbW : Hid ((w.heap.size + 1) ≤ ((w.alloc (.cells PR.zero.row 40)).alloc (.cells PR.zero.row 40)).heap.size) := Lib.hid (by simp)
  clear h1 h2 h3 hv
  have CA := Lib.hid (fun w1 => idx_any s w1 (by omega))
  obtain ⟨hsc, hre⟩ := col_false s hcol
  have hny : (anyI s = -1) ∨ (∃ k : Nat, ∃ hk : k < s.size, anyI s = (k : Int) ∧ ((s[k]'hk).toNat : Int) ≠ 58) := by
    rcases anyI_range s with h | ⟨h, h'⟩
    · exact .inl h
    · refine .inr ⟨(anyI s).toNat, by omega, by omega, fun he => ?_⟩
      rw [bt_nt, show (((anyI s).toNat : Nat) : Int) = anyI s by omega] at he
      unfold colB at hcol
      rw [he, decide_eq_true h] at hcol
      cases hcol
  have hrz : (reS s).size ≤ 4096 := by rw [hre]; exact hz
  have hz1 := Nat.le_trans (cut1_size (reS s) 35) hrz
  have hz2 := Nat.le_trans (cut2_size (reS s) 35) hrz
  have hz3 := Nat.le_trans (cut1_size (cut1 (reS s) 35) 63) hz1
  have hz4 := Nat.le_trans (cut2_size (cut1 (reS s) 35) 63) hz1
  have C1 := Lib.hid (fun w1 hv1 => cut_ch (reS s) 35 w1 (by omega) hv1)
  have C2 := Lib.hid (fun w1 hv1 => cut_ch (cut1 (reS s) 35) 63 w1 (by omega) hv1)
  have CP := Lib.hid (fun w1 => Tryz.strings_CutPrefix (cut1 (cut1 (reS s) 35) 63) ⟨#[47, 47]⟩ w1)
  rw [show Lib.hasPrefix (cut1 (cut1 (reS s) 35) 63).data.toList (⟨#[47, 47]⟩ : ByteArray).data.toList = _ from hsl] at CP
  have HE : Hid ({ PR.zero with sc := E0, hs := false, fr := cut2 (reS s) 35, hf := cut3 (reS s) 35, qu := cut2 (cut1 (reS s) 35) 63, hq := cut3 (cut1 (reS s) 35) 63 } = p0 s (reS s)) := Lib.hid (by unfold p0; rw [hsc, hcol])
  have HM := fore_T (cut1 (cut1 (reS s) 35) 63) (p0 s (reS s)) hsl
  obtain ⟨s1, s2⟩ := sl_range (tpB (cut1 (cut1 (reS s) 35) 63) ⟨#[47, 47]⟩)
  have s3 := Nat.le_trans (tp_size (cut1 (cut1 (reS s) 35) 63) ⟨#[47, 47]⟩) hz3
  have hmid : midR s = fore (cut1 (cut1 (reS s) 35) 63) (p0 s (reS s)) := rfl
  rw [HM] at hmid
  rw [hmid] at x0
  rw [hmid] at x1
  have hus : (p0 s (reS s)).us = E0 := rfl
  have hkeep := au_keeps ((tpB (cut1 (cut1 (reS s) 35) 63) ⟨#[47, 47]⟩).extract 0 (slI (tpB (cut1 (cut1 (reS s) 35) 63) ⟨#[47, 47]⟩))) (p0 s (reS s))
  have KQ : Hid ((auP ((tpB (cut1 (cut1 (reS s) 35) 63) ⟨#[47, 47]⟩).extract 0 (slI (tpB (cut1 (cut1 (reS s) 35) 63) ⟨#[47, 47]⟩))) (p0 s (reS s))).qu = cut2 (cut1 (reS s) 35) 63) := Lib.hid hkeep.2.2.1
  have KF : Hid ((auP ((tpB (cut1 (cut1 (reS s) 35) 63) ⟨#[47, 47]⟩).extract 0 (slI (tpB (cut1 (cut1 (reS s) 35) 63) ⟨#[47, 47]⟩))) (p0 s (reS s))).fr = cut2 (reS s) 35) := Lib.hid hkeep.2.2.2.2.1
  clear hkeep
  generalize p0 s (reS s) = P4 at *
  generalize hfr : cut2 (reS s) 35 = fr at *
  generalize hhf : cut3 (reS s) 35 = hf at *
  generalize cut2 (cut1 (reS s) 35) 63 = qu at *
  generalize cut3 (cut1 (reS s) 35) 63 = hq at *
  generalize cut1 (cut1 (reS s) 35) 63 = r2 at *
  generalize cut1 (reS s) 35 = r1 at *
  rw [hre] at C1
  have CB := Lib.hid (fun w1 => Tryz.strings_IndexByte (tpB r2 ⟨#[47, 47]⟩ ++ ⟨#[47]⟩) 47 w1)
  rw [show (47 : Int).toNat.toUInt8 = 47 from rfl, s1] at CB
  have hcp : (⟨(Lib.trimPrefix r2.data.toList (⟨#[47, 47]⟩ : ByteArray).data.toList).toArray⟩ : ByteArray) = tpB r2 ⟨#[47, 47]⟩ := rfl
  rw [hcp] at CP
  clear s1 hcp HM
  generalize slI (tpB r2 ⟨#[47, 47]⟩) = n at *
  generalize tpB r2 ⟨#[47, 47]⟩ = t at *
  have hn0 : (0 : Int) ≤ (n : Int) := by omega
  have hn1 : (n : Int) ≤ (t.size : Int) := by omega
  have hcat : ¬ (9223372036854775807 < t.size + 1) := by omega
  have CU := Lib.hid (fun w1 hp1 hv1 => au_any (w.heap.size + 1) P4 (t.extract 0 n) w1 hp1 (by have := extract_le t 0 n; omega) (by rw [hus]; decide) hb4 hv1)
  rw [show auOk (auP (t.extract 0 n) P4) = _ from x0] at CU
  generalize auP (t.extract 0 n) P4 = P5 at *
  have CT := Lib.hid (fun w1 hp1 hv1 => path_any (w.heap.size + 1) { P5 with pa := t.extract n t.size } w1 hp1 (by show (t.extract n t.size).size ≤ _; have := extract_le t n t.size; omega) hv1)
  rw [show pathB _ _ _ = _ from x1] at CT
  clear hcol hsc hre hrz hz1 hz2 hz3 hz4 hsl hmid hus hz x0 x1 s2 s3
  rcases hny with hK | ⟨K, hKs, hK, h58⟩
  · rw [hK] at CA
    clear hK
    go_enter Tryz.func18, Tryz.ntmps18
    go_wp2_with (first | (go_at_call 59; refine (CB.out _).mono ?_; rintro e w' ⟨rfl, hww⟩; rw [hww]; clear hww w') | (go_at_call 38; refine (CP.out _).mono ?_; rintro e w' ⟨rfl, hww⟩; rw [hww]; clear hww w') | (go_at_call 58; refine (C2.out _ (HV1.out.past hb4 (below_set (below_set HB3.out _) _))).mono ?_; rintro e w4 ⟨rfl, hb⟩; have HB4 := Lib.hid (below_thru (below_set (below_set HB3.out _) _) hb hbW.out); have HP4 := Lib.hid (PAt.move (PAt.s12 (PAt.s11 HP3.out fr) hf) hb); have HR4 : Hid (PAt w.heap.size PR.zero w4) := Lib.hid ((HB4.out.block w.heap.size (Nat.lt_succ_self _)).trans HRZ.out); have p4c8 := HP4.out.c8; have p4c9 := HP4.out.c9; have p4c10 := HP4.out.c10; have p4f8 := row_freeAt 8 HP4.out; have p4f9 := row_freeAt 9 HP4.out; have p4f10 := row_freeAt 10 HP4.out; clear hb) | (go_at_call 58; refine (C1.out _ (HV1.out.past hb4 HB1.out)).mono ?_; rintro e w3 ⟨rfl, hb⟩; have HB3 := Lib.hid (below_thru HB1.out hb hbW.out); have HP3 := Lib.hid (PAt.move HP1.out hb); have HR3 : Hid (PAt w.heap.size PR.zero w3) := Lib.hid ((HB3.out.block w.heap.size (Nat.lt_succ_self _)).trans HRZ.out); have p3c9 := HP3.out.c9; have p3c10 := HP3.out.c10; have p3c11 := HP3.out.c11; have p3c12 := HP3.out.c12; have p3f9 := row_freeAt 9 HP3.out; have p3f10 := row_freeAt 10 HP3.out; have p3f11 := row_freeAt 11 HP3.out; have p3f12 := row_freeAt 12 HP3.out; clear hb) | (go_at_call 56; refine (CA.out _).mono ?_; rintro e w1 ⟨rfl, hb⟩; have HB1 := Lib.hid (below_thru (Below.refl (w.heap.size + 1) ((w.alloc (.cells PR.zero.row 40)).alloc (.cells PR.zero.row 40))) hb hbW.out); have HP1 := Lib.hid (PAt.move HPZ.out hb); have HR1 : Hid (PAt w.heap.size PR.zero w1) := Lib.hid ((HB1.out.block w.heap.size (Nat.lt_succ_self _)).trans HRZ.out); have p1c11 := HP1.out.c11; have p1c12 := HP1.out.c12; have p1f11 := row_freeAt 11 HP1.out; have p1f12 := row_freeAt 12 HP1.out; clear hb))
    go_region_with (first | (go_at_call 60; refine (CU.out _ (PAt.drw (HE.out ▸ (show PAt (w.heap.size + 1) { PR.zero with sc := E0, hs := false, fr := fr, hf := hf, qu := qu, hq := hq } _ from (PAt.s10 (PAt.s9 HP4.out qu) hq)))) (HV1.out.past hb4 (Below.drew (below_set (below_set HB4.out _) _)))).mono ?_; rintro e w5 ⟨rfl, hpp, hbb⟩; have HB5 := Lib.hid ((Below.drew (below_set (below_set HB4.out _) _)).trans hbb); have HP5 := Lib.hid hpp; have HR5 : Hid (PAt w.heap.size PR.zero w5) := Lib.hid ((HB5.out.block w.heap.size (Nat.lt_succ_self _)).trans HRZ.out); have p5c8 := HP5.out.c8; have p5f8 := row_freeAt 8 HP5.out; clear hpp hbb))
    all_goals go_simp
    all_goals go_wp2_with (first | (go_at_call 61; refine (CT.out _ (PAt.s8 HP5.out (t.extract n t.size)) (HV1.out.past hb4 (below_set HB5.out _))).mono ?_; rintro e w6 ⟨rfl, hb⟩; have HB6 := Lib.hid (below_thru (below_set HB5.out _) hb hbW.out); have HP6 := Lib.hid (PAt.move (PAt.s8 HP5.out (t.extract n t.size)) hb); have HR6 : Hid (PAt w.heap.size PR.zero w6) := Lib.hid ((HB6.out.block w.heap.size (Nat.lt_succ_self _)).trans HRZ.out); have rc0 := HR6.out.c0; have rf0 := row_freeAt 0 HR6.out; have rc1 := HR6.out.c1; have rf1 := row_freeAt 1 HR6.out; have rc2 := HR6.out.c2; have rf2 := row_freeAt 2 HR6.out; have rc3 := HR6.out.c3; have rf3 := row_freeAt 3 HR6.out; have rc4 := HR6.out.c4; have rf4 := row_freeAt 4 HR6.out; have rc5 := HR6.out.c5; have rf5 := row_freeAt 5 HR6.out; have rc6 := HR6.out.c6; have rf6 := row_freeAt 6 HR6.out; have rc7 := HR6.out.c7; have rf7 := row_freeAt 7 HR6.out; have rc8 := HR6.out.c8; have rf8 := row_freeAt 8 HR6.out; have rc9 := HR6.out.c9; have rf9 := row_freeAt 9 HR6.out; have rc10 := HR6.out.c10; have rf10 := row_freeAt 10 HR6.out; have rc11 := HR6.out.c11; have rf11 := row_freeAt 11 HR6.out; have rc12 := HR6.out.c12; have rf12 := row_freeAt 12 HR6.out; have p6c9 : w6.cell? ⟨(w.heap.size + 1), 9, none⟩ = some (.string qu) := HP6.out.c9.trans (congrArg (fun x => some (Value.string x)) KQ.out); have p6c11 : w6.cell? ⟨(w.heap.size + 1), 11, none⟩ = some (.string fr) := HP6.out.c11.trans (congrArg (fun x => some (Value.string x)) KF.out); clear hb))
    all_goals (
      refine bodyPost_ret (v := .tuple #[.agg (PR.zero : PR).row, .int .i64 11]) (results_ct (P := Tryz.prog) (fn := Tryz.f18) (p := 2) (u := 3) (ty := 40) rfl _ _ w.heap.size 40 (PR.zero : PR).row (0, 0) _ rfl (PAt.put HR6.out PR.zero) Tryz.underlying40 rfl (by kernel_rfl)) rfl ?_
      exact ⟨rfl, (below_put (HBZ.out.trans (HB6.out.mono (Nat.le_succ _))) PR.zero)⟩)
  · rw [hK] at CA
    have hKi : (K : Int) < (s.size : Int) := by omega
    have hK2 : (0 : Int) ≤ (K : Int) := by omega
    clear hK
    go_enter Tryz.func18, Tryz.ntmps18
    go_wp2_with (first | (go_at_call 59; refine (CB.out _).mono ?_; rintro e w' ⟨rfl, hww⟩; rw [hww]; clear hww w') | (go_at_call 38; refine (CP.out _).mono ?_; rintro e w' ⟨rfl, hww⟩; rw [hww]; clear hww w') | (go_at_call 58; refine (C2.out _ (HV1.out.past hb4 (below_set (below_set HB3.out _) _))).mono ?_; rintro e w4 ⟨rfl, hb⟩; have HB4 := Lib.hid (below_thru (below_set (below_set HB3.out _) _) hb hbW.out); have HP4 := Lib.hid (PAt.move (PAt.s12 (PAt.s11 HP3.out fr) hf) hb); have HR4 : Hid (PAt w.heap.size PR.zero w4) := Lib.hid ((HB4.out.block w.heap.size (Nat.lt_succ_self _)).trans HRZ.out); have p4c8 := HP4.out.c8; have p4c9 := HP4.out.c9; have p4c10 := HP4.out.c10; have p4f8 := row_freeAt 8 HP4.out; have p4f9 := row_freeAt 9 HP4.out; have p4f10 := row_freeAt 10 HP4.out; clear hb) | (go_at_call 58; refine (C1.out _ (HV1.out.past hb4 HB1.out)).mono ?_; rintro e w3 ⟨rfl, hb⟩; have HB3 := Lib.hid (below_thru HB1.out hb hbW.out); have HP3 := Lib.hid (PAt.move HP1.out hb); have HR3 : Hid (PAt w.heap.size PR.zero w3) := Lib.hid ((HB3.out.block w.heap.size (Nat.lt_succ_self _)).trans HRZ.out); have p3c9 := HP3.out.c9; have p3c10 := HP3.out.c10; have p3c11 := HP3.out.c11; have p3c12 := HP3.out.c12; have p3f9 := row_freeAt 9 HP3.out; have p3f10 := row_freeAt 10 HP3.out; have p3f11 := row_freeAt 11 HP3.out; have p3f12 := row_freeAt 12 HP3.out; clear hb) | (go_at_call 56; refine (CA.out _).mono ?_; rintro e w1 ⟨rfl, hb⟩; have HB1 := Lib.hid (below_thru (Below.refl (w.heap.size + 1) ((w.alloc (.cells PR.zero.row 40)).alloc (.cells PR.zero.row 40))) hb hbW.out); have HP1 := Lib.hid (PAt.move HPZ.out hb); have HR1 : Hid (PAt w.heap.size PR.zero w1) := Lib.hid ((HB1.out.block w.heap.size (Nat.lt_succ_self _)).trans HRZ.out); have p1c11 := HP1.out.c11; have p1c12 := HP1.out.c12; have p1f11 := row_freeAt 11 HP1.out; have p1f12 := row_freeAt 12 HP1.out; clear hb))
    go_region_with (first | (go_at_call 60; refine (CU.out _ (PAt.drw (HE.out ▸ (show PAt (w.heap.size + 1) { PR.zero with sc := E0, hs := false, fr := fr, hf := hf, qu := qu, hq := hq } _ from (PAt.s10 (PAt.s9 HP4.out qu) hq)))) (HV1.out.past hb4 (Below.drew (below_set (below_set HB4.out _) _)))).mono ?_; rintro e w5 ⟨rfl, hpp, hbb⟩; have HB5 := Lib.hid ((Below.drew (below_set (below_set HB4.out _) _)).trans hbb); have HP5 := Lib.hid hpp; have HR5 : Hid (PAt w.heap.size PR.zero w5) := Lib.hid ((HB5.out.block w.heap.size (Nat.lt_succ_self _)).trans HRZ.out); have p5c8 := HP5.out.c8; have p5f8 := row_freeAt 8 HP5.out; clear hpp hbb))
    all_goals go_simp
    all_goals go_wp2_with (first | (go_at_call 61; refine (CT.out _ (PAt.s8 HP5.out (t.extract n t.size)) (HV1.out.past hb4 (below_set HB5.out _))).mono ?_; rintro e w6 ⟨rfl, hb⟩; have HB6 := Lib.hid (below_thru (below_set HB5.out _) hb hbW.out); have HP6 := Lib.hid (PAt.move (PAt.s8 HP5.out (t.extract n t.size)) hb); have HR6 : Hid (PAt w.heap.size PR.zero w6) := Lib.hid ((HB6.out.block w.heap.size (Nat.lt_succ_self _)).trans HRZ.out); have rc0 := HR6.out.c0; have rf0 := row_freeAt 0 HR6.out; have rc1 := HR6.out.c1; have rf1 := row_freeAt 1 HR6.out; have rc2 := HR6.out.c2; have rf2 := row_freeAt 2 HR6.out; have rc3 := HR6.out.c3; have rf3 := row_freeAt 3 HR6.out; have rc4 := HR6.out.c4; have rf4 := row_freeAt 4 HR6.out; have rc5 := HR6.out.c5; have rf5 := row_freeAt 5 HR6.out; have rc6 := HR6.out.c6; have rf6 := row_freeAt 6 HR6.out; have rc7 := HR6.out.c7; have rf7 := row_freeAt 7 HR6.out; have rc8 := HR6.out.c8; have rf8 := row_freeAt 8 HR6.out; have rc9 := HR6.out.c9; have rf9 := row_freeAt 9 HR6.out; have rc10 := HR6.out.c10; have rf10 := row_freeAt 10 HR6.out; have rc11 := HR6.out.c11; have rf11 := row_freeAt 11 HR6.out; have rc12 := HR6.out.c12; have rf12 := row_freeAt 12 HR6.out; have p6c9 : w6.cell? ⟨(w.heap.size + 1), 9, none⟩ = some (.string qu) := HP6.out.c9.trans (congrArg (fun x => some (Value.string x)) KQ.out); have p6c11 : w6.cell? ⟨(w.heap.size + 1), 11, none⟩ = some (.string fr) := HP6.out.c11.trans (congrArg (fun x => some (Value.string x)) KF.out); clear hb))
    all_goals (
      refine bodyPost_ret (v := .tuple #[.agg (PR.zero : PR).row, .int .i64 11]) (results_ct (P := Tryz.prog) (fn := Tryz.f18) (p := 2) (u := 3) (ty := 40) rfl _ _ w.heap.size 40 (PR.zero : PR).row (0, 0) _ rfl (PAt.put HR6.out PR.zero) Tryz.underlying40 rfl (by kernel_rfl)) rfl ?_
      exact ⟨rfl, (below_put (HBZ.out.trans (HB6.out.mono (Nat.le_succ _))) PR.zero)⟩)
set_option maxHeartbeats 8000000 in
set_option maxRecDepth 100000 in
theorem parse_FT_TTF (s : ByteArray) (w : World) (hz : s.size ≤ 4096) (hv : VarsOk w) (hcol : colB s = false) (hsl : Lib.hasPrefix (cut1 (cut1 (reS s) 35) 63).data.toList [47, 47] = true) (x0 : (midR s).2 = true) (x1 : pathB (midR s).1.pa (midR s).1.ha (midR s).1.hs = true) (x2 : isB (cut2 (cut1 (reS s) 35) 63) ⟨#[58, 64, 47, 63]⟩ = false) : Calls Tryz.prog 18 #[.string s] w fun e w' => e = .returned (.tuple #[.agg PR.zero.row, .int .i64 11]) ∧ Below w.heap.size w w' := by
  have hzi : ¬ (4096 : Int) < (s.size : Int) := by omega
  obtain ⟨h1, h2, h3⟩ := parse_start w
  have HRZ := Lib.hid h1
  have HPZ := Lib.hid h2
  have HBZ := Lib.hid h3
  have HV1 := Lib.hid (hv.move (Nat.le_refl _) h3)
  have hb4 : 4 < (w.heap.size + 1) := by have := hv.four; omega
  have hbW : Hid ((w.heap.size + 1) ≤ ((w.alloc (.cells PR.zero.row 40)).alloc (.cells PR.zero.row 40)).heap.size) := Lib.hid (by simp)
  clear h1 h2 h3 hv
  have CA := Lib.hid (fun w1 => idx_any s w1 (by omega))
  obtain ⟨hsc, hre⟩ := col_false s hcol
  have hny : (anyI s = -1) ∨ (∃ k : Nat, ∃ hk : k < s.size, anyI s = (k : Int) ∧ ((s[k]'hk).toNat : Int) ≠ 58) := by
    rcases anyI_range s with h | ⟨h, h'⟩
    · exact .inl h
    · refine .inr ⟨(anyI s).toNat, by omega, by omega, fun he => ?_⟩
      rw [bt_nt, show (((anyI s).toNat : Nat) : Int) = anyI s by omega] at he
      unfold colB at hcol
      rw [he, decide_eq_true h] at hcol
      cases hcol
  have hrz : (reS s).size ≤ 4096 := by rw [hre]; exact hz
  have hz1 := Nat.le_trans (cut1_size (reS s) 35) hrz
  have hz2 := Nat.le_trans (cut2_size (reS s) 35) hrz
  have hz3 := Nat.le_trans (cut1_size (cut1 (reS s) 35) 63) hz1
  have hz4 := Nat.le_trans (cut2_size (cut1 (reS s) 35) 63) hz1
  have C1 := Lib.hid (fun w1 hv1 => cut_ch (reS s) 35 w1 (by omega) hv1)
  have C2 := Lib.hid (fun w1 hv1 => cut_ch (cut1 (reS s) 35) 63 w1 (by omega) hv1)
  have I1 := Lib.hid (fun w1 => is_any (cut2 (cut1 (reS s) 35) 63) ⟨#[58, 64, 47, 63]⟩ w1 (by omega) (by decide))
  rw [x2] at I1
  have CP := Lib.hid (fun w1 => Tryz.strings_CutPrefix (cut1 (cut1 (reS s) 35) 63) ⟨#[47, 47]⟩ w1)
  rw [show Lib.hasPrefix (cut1 (cut1 (reS s) 35) 63).data.toList (⟨#[47, 47]⟩ : ByteArray).data.toList = _ from hsl] at CP
  have HE : Hid ({ PR.zero with sc := E0, hs := false, fr := cut2 (reS s) 35, hf := cut3 (reS s) 35, qu := cut2 (cut1 (reS s) 35) 63, hq := cut3 (cut1 (reS s) 35) 63 } = p0 s (reS s)) := Lib.hid (by unfold p0; rw [hsc, hcol])
  have HM := fore_T (cut1 (cut1 (reS s) 35) 63) (p0 s (reS s)) hsl
  obtain ⟨s1, s2⟩ := sl_range (tpB (cut1 (cut1 (reS s) 35) 63) ⟨#[47, 47]⟩)
  have s3 := Nat.le_trans (tp_size (cut1 (cut1 (reS s) 35) 63) ⟨#[47, 47]⟩) hz3
  have hmid : midR s = fore (cut1 (cut1 (reS s) 35) 63) (p0 s (reS s)) := rfl
  rw [HM] at hmid
  rw [hmid] at x0
  rw [hmid] at x1
  have hus : (p0 s (reS s)).us = E0 := rfl
  have hkeep := au_keeps ((tpB (cut1 (cut1 (reS s) 35) 63) ⟨#[47, 47]⟩).extract 0 (slI (tpB (cut1 (cut1 (reS s) 35) 63) ⟨#[47, 47]⟩))) (p0 s (reS s))
  have KQ : Hid ((auP ((tpB (cut1 (cut1 (reS s) 35) 63) ⟨#[47, 47]⟩).extract 0 (slI (tpB (cut1 (cut1 (reS s) 35) 63) ⟨#[47, 47]⟩))) (p0 s (reS s))).qu = cut2 (cut1 (reS s) 35) 63) := Lib.hid hkeep.2.2.1
  have KF : Hid ((auP ((tpB (cut1 (cut1 (reS s) 35) 63) ⟨#[47, 47]⟩).extract 0 (slI (tpB (cut1 (cut1 (reS s) 35) 63) ⟨#[47, 47]⟩))) (p0 s (reS s))).fr = cut2 (reS s) 35) := Lib.hid hkeep.2.2.2.2.1
  clear hkeep
  generalize p0 s (reS s) = P4 at *
  generalize hfr : cut2 (reS s) 35 = fr at *
  generalize hhf : cut3 (reS s) 35 = hf at *
  generalize cut2 (cut1 (reS s) 35) 63 = qu at *
  generalize cut3 (cut1 (reS s) 35) 63 = hq at *
  generalize cut1 (cut1 (reS s) 35) 63 = r2 at *
  generalize cut1 (reS s) 35 = r1 at *
  rw [hre] at C1
  have CB := Lib.hid (fun w1 => Tryz.strings_IndexByte (tpB r2 ⟨#[47, 47]⟩ ++ ⟨#[47]⟩) 47 w1)
  rw [show (47 : Int).toNat.toUInt8 = 47 from rfl, s1] at CB
  have hcp : (⟨(Lib.trimPrefix r2.data.toList (⟨#[47, 47]⟩ : ByteArray).data.toList).toArray⟩ : ByteArray) = tpB r2 ⟨#[47, 47]⟩ := rfl
  rw [hcp] at CP
  clear s1 hcp HM
  generalize slI (tpB r2 ⟨#[47, 47]⟩) = n at *
  generalize tpB r2 ⟨#[47, 47]⟩ = t at *
  have hn0 : (0 : Int) ≤ (n : Int) := by omega
  have hn1 : (n : Int) ≤ (t.size : Int) := by omega
  have hcat : ¬ (9223372036854775807 < t.size + 1) := by omega
  have CU := Lib.hid (fun w1 hp1 hv1 => au_any (w.heap.size + 1) P4 (t.extract 0 n) w1 hp1 (by have := extract_le t 0 n; omega) (by rw [hus]; decide) hb4 hv1)
  rw [show auOk (auP (t.extract 0 n) P4) = _ from x0] at CU
  generalize auP (t.extract 0 n) P4 = P5 at *
  have CT := Lib.hid (fun w1 hp1 hv1 => path_any (w.heap.size + 1) { P5 with pa := t.extract n t.size } w1 hp1 (by show (t.extract n t.size).size ≤ _; have := extract_le t n t.size; omega) hv1)
  rw [show pathB _ _ _ = _ from x1] at CT
  clear hcol hsc hre hrz hz1 hz2 hz3 hz4 hsl hmid hus hz x0 x1 x2 s2 s3
  rcases hny with hK | ⟨K, hKs, hK, h58⟩
  · rw [hK] at CA
    clear hK
    go_enter Tryz.func18, Tryz.ntmps18
    go_wp2_with (first | (go_at_call 59; refine (CB.out _).mono ?_; rintro e w' ⟨rfl, hww⟩; rw [hww]; clear hww w') | (go_at_call 38; refine (CP.out _).mono ?_; rintro e w' ⟨rfl, hww⟩; rw [hww]; clear hww w') | (go_at_call 58; refine (C2.out _ (HV1.out.past hb4 (below_set (below_set HB3.out _) _))).mono ?_; rintro e w4 ⟨rfl, hb⟩; have HB4 := Lib.hid (below_thru (below_set (below_set HB3.out _) _) hb hbW.out); have HP4 := Lib.hid (PAt.move (PAt.s12 (PAt.s11 HP3.out fr) hf) hb); have HR4 : Hid (PAt w.heap.size PR.zero w4) := Lib.hid ((HB4.out.block w.heap.size (Nat.lt_succ_self _)).trans HRZ.out); have p4c8 := HP4.out.c8; have p4c9 := HP4.out.c9; have p4c10 := HP4.out.c10; have p4f8 := row_freeAt 8 HP4.out; have p4f9 := row_freeAt 9 HP4.out; have p4f10 := row_freeAt 10 HP4.out; clear hb) | (go_at_call 58; refine (C1.out _ (HV1.out.past hb4 HB1.out)).mono ?_; rintro e w3 ⟨rfl, hb⟩; have HB3 := Lib.hid (below_thru HB1.out hb hbW.out); have HP3 := Lib.hid (PAt.move HP1.out hb); have HR3 : Hid (PAt w.heap.size PR.zero w3) := Lib.hid ((HB3.out.block w.heap.size (Nat.lt_succ_self _)).trans HRZ.out); have p3c9 := HP3.out.c9; have p3c10 := HP3.out.c10; have p3c11 := HP3.out.c11; have p3c12 := HP3.out.c12; have p3f9 := row_freeAt 9 HP3.out; have p3f10 := row_freeAt 10 HP3.out; have p3f11 := row_freeAt 11 HP3.out; have p3f12 := row_freeAt 12 HP3.out; clear hb) | (go_at_call 56; refine (CA.out _).mono ?_; rintro e w1 ⟨rfl, hb⟩; have HB1 := Lib.hid (below_thru (Below.refl (w.heap.size + 1) ((w.alloc (.cells PR.zero.row 40)).alloc (.cells PR.zero.row 40))) hb hbW.out); have HP1 := Lib.hid (PAt.move HPZ.out hb); have HR1 : Hid (PAt w.heap.size PR.zero w1) := Lib.hid ((HB1.out.block w.heap.size (Nat.lt_succ_self _)).trans HRZ.out); have p1c11 := HP1.out.c11; have p1c12 := HP1.out.c12; have p1f11 := row_freeAt 11 HP1.out; have p1f12 := row_freeAt 12 HP1.out; clear hb))
    go_region_with (first | (go_at_call 60; refine (CU.out _ (PAt.drw (HE.out ▸ (show PAt (w.heap.size + 1) { PR.zero with sc := E0, hs := false, fr := fr, hf := hf, qu := qu, hq := hq } _ from (PAt.s10 (PAt.s9 HP4.out qu) hq)))) (HV1.out.past hb4 (Below.drew (below_set (below_set HB4.out _) _)))).mono ?_; rintro e w5 ⟨rfl, hpp, hbb⟩; have HB5 := Lib.hid ((Below.drew (below_set (below_set HB4.out _) _)).trans hbb); have HP5 := Lib.hid hpp; have HR5 : Hid (PAt w.heap.size PR.zero w5) := Lib.hid ((HB5.out.block w.heap.size (Nat.lt_succ_self _)).trans HRZ.out); have p5c8 := HP5.out.c8; have p5f8 := row_freeAt 8 HP5.out; clear hpp hbb))
    all_goals go_simp
    all_goals go_wp2_with (first | (go_at_call 62; have hgd := HB6; clear hgd; refine (I1.out _).mono ?_; rintro e w7 ⟨rfl, hb⟩; have HB7 := Lib.hid (below_thru HB6.out hb hbW.out); have HP7 := Lib.hid (PAt.move HP6.out hb); have HR7 : Hid (PAt w.heap.size PR.zero w7) := Lib.hid ((HB7.out.block w.heap.size (Nat.lt_succ_self _)).trans HRZ.out); have rc0 := HR7.out.c0; have rf0 := row_freeAt 0 HR7.out; have rc1 := HR7.out.c1; have rf1 := row_freeAt 1 HR7.out; have rc2 := HR7.out.c2; have rf2 := row_freeAt 2 HR7.out; have rc3 := HR7.out.c3; have rf3 := row_freeAt 3 HR7.out; have rc4 := HR7.out.c4; have rf4 := row_freeAt 4 HR7.out; have rc5 := HR7.out.c5; have rf5 := row_freeAt 5 HR7.out; have rc6 := HR7.out.c6; have rf6 := row_freeAt 6 HR7.out; have rc7 := HR7.out.c7; have rf7 := row_freeAt 7 HR7.out; have rc8 := HR7.out.c8; have rf8 := row_freeAt 8 HR7.out; have rc9 := HR7.out.c9; have rf9 := row_freeAt 9 HR7.out; have rc10 := HR7.out.c10; have rf10 := row_freeAt 10 HR7.out; have rc11 := HR7.out.c11; have rf11 := row_freeAt 11 HR7.out; have rc12 := HR7.out.c12; have rf12 := row_freeAt 12 HR7.out; have p7c9 : w7.cell? ⟨(w.heap.size + 1), 9, none⟩ = some (.string qu) := HP7.out.c9.trans (congrArg (fun x => some (Value.string x)) KQ.out); have p7c11 : w7.cell? ⟨(w.heap.size + 1), 11, none⟩ = some (.string fr) := HP7.out.c11.trans (congrArg (fun x => some (Value.string x)) KF.out); clear hb) | (go_at_call 61; refine (CT.out _ (PAt.s8 HP5.out (t.extract n t.size)) (HV1.out.past hb4 (below_set HB5.out _))).mono ?_; rintro e w6 ⟨rfl, hb⟩; have HB6 := Lib.hid (below_thru (below_set HB5.out _) hb hbW.out); have HP6 := Lib.hid (PAt.move (PAt.s8 HP5.out (t.extract n t.size)) hb); have HR6 : Hid (PAt w.heap.size PR.zero w6) := Lib.hid ((HB6.out.block w.heap.size (Nat.lt_succ_self _)).trans HRZ.out); have p6c9 : w6.cell? ⟨(w.heap.size + 1), 9, none⟩ = some (.string qu) := HP6.out.c9.trans (congrArg (fun x => some (Value.string x)) KQ.out); have p6c11 : w6.cell? ⟨(w.heap.size + 1), 11, none⟩ = some (.string fr) := HP6.out.c11.trans (congrArg (fun x => some (Value.string x)) KF.out); clear hb))
    all_goals (
      refine bodyPost_ret (v := .tuple #[.agg (PR.zero : PR).row, .int .i64 11]) (results_ct (P := Tryz.prog) (fn := Tryz.f18) (p := 2) (u := 3) (ty := 40) rfl _ _ w.heap.size 40 (PR.zero : PR).row (0, 0) _ rfl (PAt.put HR7.out PR.zero) Tryz.underlying40 rfl (by kernel_rfl)) rfl ?_
      exact ⟨rfl, (below_put (HBZ.out.trans (HB7.out.mono (Nat.le_succ _))) PR.zero)⟩)
  · rw [hK] at CA
    have hKi : (K : Int) < (s.size : Int) := by omega
    have hK2 : (0 : Int) ≤ (K : Int) := by omega
    clear hK
    go_enter Tryz.func18, Tryz.ntmps18
    go_wp2_with (first | (go_at_call 59; refine (CB.out _).mono ?_; rintro e w' ⟨rfl, hww⟩; rw [hww]; clear hww w') | (go_at_call 38; refine (CP.out _).mono ?_; rintro e w' ⟨rfl, hww⟩; rw [hww]; clear hww w') | (go_at_call 58; refine (C2.out _ (HV1.out.past hb4 (below_set (below_set HB3.out _) _))).mono ?_; rintro e w4 ⟨rfl, hb⟩; have HB4 := Lib.hid (below_thru (below_set (below_set HB3.out _) _) hb hbW.out); have HP4 := Lib.hid (PAt.move (PAt.s12 (PAt.s11 HP3.out fr) hf) hb); have HR4 : Hid (PAt w.heap.size PR.zero w4) := Lib.hid ((HB4.out.block w.heap.size (Nat.lt_succ_self _)).trans HRZ.out); have p4c8 := HP4.out.c8; have p4c9 := HP4.out.c9; have p4c10 := HP4.out.c10; have p4f8 := row_freeAt 8 HP4.out; have p4f9 := row_freeAt 9 HP4.out; have p4f10 := row_freeAt 10 HP4.out; clear hb) | (go_at_call 58; refine (C1.out _ (HV1.out.past hb4 HB1.out)).mono ?_; rintro e w3 ⟨rfl, hb⟩; have HB3 := Lib.hid (below_thru HB1.out hb hbW.out); have HP3 := Lib.hid (PAt.move HP1.out hb); have HR3 : Hid (PAt w.heap.size PR.zero w3) := Lib.hid ((HB3.out.block w.heap.size (Nat.lt_succ_self _)).trans HRZ.out); have p3c9 := HP3.out.c9; have p3c10 := HP3.out.c10; have p3c11 := HP3.out.c11; have p3c12 := HP3.out.c12; have p3f9 := row_freeAt 9 HP3.out; have p3f10 := row_freeAt 10 HP3.out; have p3f11 := row_freeAt 11 HP3.out; have p3f12 := row_freeAt 12 HP3.out; clear hb) | (go_at_call 56; refine (CA.out _).mono ?_; rintro e w1 ⟨rfl, hb⟩; have HB1 := Lib.hid (below_thru (Below.refl (w.heap.size + 1) ((w.alloc (.cells PR.zero.row 40)).alloc (.cells PR.zero.row 40))) hb hbW.out); have HP1 := Lib.hid (PAt.move HPZ.out hb); have HR1 : Hid (PAt w.heap.size PR.zero w1) := Lib.hid ((HB1.out.block w.heap.size (Nat.lt_succ_self _)).trans HRZ.out); have p1c11 := HP1.out.c11; have p1c12 := HP1.out.c12; have p1f11 := row_freeAt 11 HP1.out; have p1f12 := row_freeAt 12 HP1.out; clear hb))
    go_region_with (first | (go_at_call 60; refine (CU.out _ (PAt.drw (HE.out ▸ (show PAt (w.heap.size + 1) { PR.zero with sc := E0, hs := false, fr := fr, hf := hf, qu := qu, hq := hq } _ from (PAt.s10 (PAt.s9 HP4.out qu) hq)))) (HV1.out.past hb4 (Below.drew (below_set (below_set HB4.out _) _)))).mono ?_; rintro e w5 ⟨rfl, hpp, hbb⟩; have HB5 := Lib.hid ((Below.drew (below_set (below_set HB4.out _) _)).trans hbb); have HP5 := Lib.hid hpp; have HR5 : Hid (PAt w.heap.size PR.zero w5) := Lib.hid ((HB5.out.block w.heap.size (Nat.lt_succ_self _)).trans HRZ.out); have p5c8 := HP5.out.c8; have p5f8 := row_freeAt 8 HP5.out; clear hpp hbb))
    all_goals go_simp
    all_goals go_wp2_with (first | (go_at_call 62; have hgd := HB6; clear hgd; refine (I1.out _).mono ?_; rintro e w7 ⟨rfl, hb⟩; have HB7 := Lib.hid (below_thru HB6.out hb hbW.out); have HP7 := Lib.hid (PAt.move HP6.out hb); have HR7 : Hid (PAt w.heap.size PR.zero w7) := Lib.hid ((HB7.out.block w.heap.size (Nat.lt_succ_self _)).trans HRZ.out); have rc0 := HR7.out.c0; have rf0 := row_freeAt 0 HR7.out; have rc1 := HR7.out.c1; have rf1 := row_freeAt 1 HR7.out; have rc2 := HR7.out.c2; have rf2 := row_freeAt 2 HR7.out; have rc3 := HR7.out.c3; have rf3 := row_freeAt 3 HR7.out; have rc4 := HR7.out.c4; have rf4 := row_freeAt 4 HR7.out; have rc5 := HR7.out.c5; have rf5 := row_freeAt 5 HR7.out; have rc6 := HR7.out.c6; have rf6 := row_freeAt 6 HR7.out; have rc7 := HR7.out.c7; have rf7 := row_freeAt 7 HR7.out; have rc8 := HR7.out.c8; have rf8 := row_freeAt 8 HR7.out; have rc9 := HR7.out.c9; have rf9 := row_freeAt 9 HR7.out; have rc10 := HR7.out.c10; have rf10 := row_freeAt 10 HR7.out; have rc11 := HR7.out.c11; have rf11 := row_freeAt 11 HR7.out; have rc12 := HR7.out.c12; have rf12 := row_freeAt 12 HR7.out; have p7c9 : w7.cell? ⟨(w.heap.size + 1), 9, none⟩ = some (.string qu) := HP7.out.c9.trans (congrArg (fun x => some (Value.string x)) KQ.out); have p7c11 : w7.cell? ⟨(w.heap.size + 1), 11, none⟩ = some (.string fr) := HP7.out.c11.trans (congrArg (fun x => some (Value.string x)) KF.out); clear hb) | (go_at_call 61; refine (CT.out _ (PAt.s8 HP5.out (t.extract n t.size)) (HV1.out.past hb4 (below_set HB5.out _))).mono ?_; rintro e w6 ⟨rfl, hb⟩; have HB6 := Lib.hid (below_thru (below_set HB5.out _) hb hbW.out); have HP6 := Lib.hid (PAt.move (PAt.s8 HP5.out (t.extract n t.size)) hb); have HR6 : Hid (PAt w.heap.size PR.zero w6) := Lib.hid ((HB6.out.block w.heap.size (Nat.lt_succ_self _)).trans HRZ.out); have p6c9 : w6.cell? ⟨(w.heap.size + 1), 9, none⟩ = some (.string qu) := HP6.out.c9.trans (congrArg (fun x => some (Value.string x)) KQ.out); have p6c11 : w6.cell? ⟨(w.heap.size + 1), 11, none⟩ = some (.string fr) := HP6.out.c11.trans (congrArg (fun x => some (Value.string x)) KF.out); clear hb))
    all_goals (
      refine bodyPost_ret (v := .tuple #[.agg (PR.zero : PR).row, .int .i64 11]) (results_ct (P := Tryz.prog) (fn := Tryz.f18) (p := 2) (u := 3) (ty := 40) rfl _ _ w.heap.size 40 (PR.zero : PR).row (0, 0) _ rfl (PAt.put HR7.out PR.zero) Tryz.underlying40 rfl (by kernel_rfl)) rfl ?_
      exact ⟨rfl, (below_put (HBZ.out.trans (HB7.out.mono (Nat.le_succ _))) PR.zero)⟩)
end Go.Proofs.YtakdjflhhaefiaaGreatDoor
