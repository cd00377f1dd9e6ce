/- (*abnf.Parts).authority: the walk. -/
import Derived.Test.YtakdjflhhaefiaaGreatDoorC1
set_option linter.unusedVariables false
set_option linter.unusedSimpArgs false
namespace Go.Proofs.YtakdjflhhaefiaaGreatDoor
open Go.RowKit Go.Proofs.YtakdjflhhaefiaaGreatDoor.PDotsGo Go.Proofs.YtakdjflhhaefiaaGreatDoorW.PrintWords Go.Proofs.YtakdjflhhaefiaaGreatDoorW.PrintLast Go.Proofs.YtakdjflhhaefiaaGreatDoorW.PrintMore
theorem VarsOk.past {w w' : World} {b : Nat} (h : VarsOk w) (hb : 4 < b) (hB : Below b w w') : VarsOk w' := by
  obtain ⟨m, hm⟩ := h.mx
  obtain ⟨ev, he, hev⟩ := h.er
  exact ⟨⟨m, (hB.cell (show (⟨0, 0, none⟩ : Addr).block < b from by show 0 < b; omega)).trans hm⟩, ev, (hB.cell (show (⟨4, 0, none⟩ : Addr).block < b from hb)).trans he, hev⟩
theorem below_set {b j : Nat} {w W : World} (h : Below b w W) (u : Value) : Below b w (W.setCell ⟨b, j, none⟩ u) := h.setCell (p := ⟨b, j, none⟩) (Nat.le_refl b) u
theorem below_thru {b : Nat} {w W w' : World} (h : Below b w W) (hb : Below W.heap.size W w') (hw : b ≤ w.heap.size) : Below b w w' := h.trans (hb.mono (Nat.le_trans hw h.size))
theorem PAt.drw {b : Nat} {p : PR} {w : World} (h : PAt b p w) : PAt b p w.drew := h
theorem extract_le (s : ByteArray) (i j : Nat) : (s.extract i j).size ≤ s.size := by rw [ByteArray.size_extract]; omega
set_option maxHeartbeats 4000000 in
set_option maxRecDepth 100000 in
theorem au_TT_F (b : Nat) (p : PR) (s : ByteArray) (w : World) (h : PAt b p w) (hs : s.size ≤ 100000) (hu0 : p.us.size ≤ 100000) (hb4 : 4 < b) (hv : VarsOk w) (hc : cut3 s 64 = true) (hl : lastC (cut2 s 64) = true) (x1 : isB (auP s p).us ⟨#[58]⟩ = false) :
    Calls Tryz.prog 60 #[.pointer (some ⟨b, 0, none⟩), .string s] w fun e w' => e = .returned (.bool false) ∧ PAt b (auP s p) w' ∧ Below b w w' := by
  have HP := Lib.hid h
  have HV := Lib.hid hv
  have hbw := Lib.hid h.lt
  have c5 := h.c5
  have f5 := row_freeAt 5 h
  have CC := Lib.hid (fun w1 hv1 => cut_ch s 64 w1 (by omega) hv1)
  have hts : (cut2 s 64).size ≤ 100000 := Nat.le_trans (cut2_size s 64) hs
  obtain ⟨-, l0, l1⟩ := last_at (cut2 s 64) hl
  obtain ⟨K, hK⟩ : ∃ K : Nat, Lib.lastIndexByte (cut2 s 64) 58 = (K : Int) := ⟨(Lib.lastIndexByte (cut2 s 64) 58).toNat, by omega⟩
  have hl2 : Lib.lastIndexByte (cut2 s 64) 93 < (K : Int) := by rw [← hK]; exact of_decide_eq_true hl
  have hKs : (K : Int) < ((cut2 s 64).size : Int) := by rw [← hK]; exact l1
  have hKw : IntKind.i64.wrap ((K : Int) + 1) = (K : Int) + 1 := kwrap (by omega)
  have hK0 : (0 : Int) ≤ (K : Int) + 1 := by omega
  have hK2 : (0 : Int) ≤ (K : Int) := by omega
  have hK3 : (K : Int) ≤ ((cut2 s 64).size : Int) := by omega
  have hK1 : (K : Int) + 1 ≤ ((cut2 s 64).size : Int) := by omega
  have HA : auP s p = { p with ha := true, us := cut1 s 64, hu := true, ho := (cut2 s 64).extract 0 K, po := (cut2 s 64).extract (K + 1) (cut2 s 64).size, hp := true } := by
    have e1 : auS s = cut2 s 64 := by unfold auS; rw [hc]; rfl
    unfold auP auU auH; rw [hc, e1, hl, hK]; rfl
  have L1 := Lib.hid (fun w1 => Tryz.strings_LastIndexByte (cut2 s 64) 58 (by omega) w1)
  have L2 := Lib.hid (fun w1 => Tryz.strings_LastIndexByte (cut2 s 64) 93 (by omega) w1)
  rw [hK] at L1
  rw [HA] at x1
  have CI := Lib.hid (fun w1 => is_any (cut1 s 64) ⟨#[58]⟩ w1 (by have := cut1_size s 64; omega) (by decide))
  rw [show isB _ _ = _ from x1] at CI
  rw [HA]
  rw [hc] at CC
  clear h hv HA x1 hc hl hK l0 l1
  generalize cut1 s 64 = u at *
  generalize cut2 s 64 = t at *
  generalize Lib.lastIndexByte (t) 93 = j at *
  go_enter Tryz.func60, Tryz.ntmps60
  go_wp2_with (first | (go_at_call 75; refine (L2.out _).mono ?_; rintro e w' ⟨rfl, hww⟩; rw [hww]; clear hww w') | (go_at_call 75; refine (L1.out _).mono ?_; rintro e w' ⟨rfl, hww⟩; rw [hww]; clear hww w') | (go_at_call 58; refine (CC.out _ (HV.out.past hb4 (below_set (Below.refl b w) _))).mono ?_; rintro e w1 ⟨rfl, hb⟩; have HB1 := Lib.hid (below_thru (below_set (Below.refl b w) _) hb (Nat.le_of_lt hbw.out)); have HP1 := Lib.hid ((HP.out.s5 true).move hb); have c2 := HP1.out.c2; have c3 := HP1.out.c3; have c4 := HP1.out.c4; have c6 := HP1.out.c6; have c7 := HP1.out.c7; have f2 := row_freeAt 2 HP1.out; have f3 := row_freeAt 3 HP1.out; have f4 := row_freeAt 4 HP1.out; have f6 := row_freeAt 6 HP1.out; have f7 := row_freeAt 7 HP1.out; clear hb c5 f5))
  go_region_with (fail)
  all_goals go_simp
  all_goals go_wp2_with (first | (go_at_call 62; refine (CI.out _).mono ?_; rintro e w2 ⟨rfl, hb⟩; have HB2 := Lib.hid (below_thru (Below.drew (below_set (below_set (below_set (below_set (below_set (below_set HB1.out _) _) _) _) _) _)) hb (Nat.le_of_lt hbw.out)); have HP2 := Lib.hid (PAt.move (PAt.drw (PAt.s7 (PAt.s6 (PAt.s4 (PAt.s4 (PAt.s3 (PAt.s2 HP1.out u) true) t) (t.extract 0 K)) (t.extract (K + 1) t.size)) true)) hb); have d4 := HP2.out.c4; have d6 := HP2.out.c6; clear hb))
  all_goals go_ret
  all_goals exact ⟨by first | rfl | simp, HP2.out, HB2.out⟩
set_option maxHeartbeats 4000000 in
set_option maxRecDepth 100000 in
theorem au_TT_TF (b : Nat) (p : PR) (s : ByteArray) (w : World) (h : PAt b p w) (hs : s.size ≤ 100000) (hu0 : p.us.size ≤ 100000) (hb4 : 4 < b) (hv : VarsOk w) (hc : cut3 s 64 = true) (hl : lastC (cut2 s 64) = true) (x1 : isB (auP s p).us ⟨#[58]⟩ = true) (x2 : hostB (auP s p).ho = false) :
    Calls Tryz.prog 60 #[.pointer (some ⟨b, 0, none⟩), .string s] w fun e w' => e = .returned (.bool false) ∧ PAt b (auP s p) w' ∧ Below b w w' := by
  have HP := Lib.hid h
  have HV := Lib.hid hv
  have hbw := Lib.hid h.lt
  have c5 := h.c5
  have f5 := row_freeAt 5 h
  have CC := Lib.hid (fun w1 hv1 => cut_ch s 64 w1 (by omega) hv1)
  have hts : (cut2 s 64).size ≤ 100000 := Nat.le_trans (cut2_size s 64) hs
  obtain ⟨-, l0, l1⟩ := last_at (cut2 s 64) hl
  obtain ⟨K, hK⟩ : ∃ K : Nat, Lib.lastIndexByte (cut2 s 64) 58 = (K : Int) := ⟨(Lib.lastIndexByte (cut2 s 64) 58).toNat, by omega⟩
  have hl2 : Lib.lastIndexByte (cut2 s 64) 93 < (K : Int) := by rw [← hK]; exact of_decide_eq_true hl
  have hKs : (K : Int) < ((cut2 s 64).size : Int) := by rw [← hK]; exact l1
  have hKw : IntKind.i64.wrap ((K : Int) + 1) = (K : Int) + 1 := kwrap (by omega)
  have hK0 : (0 : Int) ≤ (K : Int) + 1 := by omega
  have hK2 : (0 : Int) ≤ (K : Int) := by omega
  have hK3 : (K : Int) ≤ ((cut2 s 64).size : Int) := by omega
  have hK1 : (K : Int) + 1 ≤ ((cut2 s 64).size : Int) := by omega
  have HA : auP s p = { p with ha := true, us := cut1 s 64, hu := true, ho := (cut2 s 64).extract 0 K, po := (cut2 s 64).extract (K + 1) (cut2 s 64).size, hp := true } := by
    have e1 : auS s = cut2 s 64 := by unfold auS; rw [hc]; rfl
    unfold auP auU auH; rw [hc, e1, hl, hK]; rfl
  have L1 := Lib.hid (fun w1 => Tryz.strings_LastIndexByte (cut2 s 64) 58 (by omega) w1)
  have L2 := Lib.hid (fun w1 => Tryz.strings_LastIndexByte (cut2 s 64) 93 (by omega) w1)
  rw [hK] at L1
  rw [HA] at x1 x2
  have CI := Lib.hid (fun w1 => is_any (cut1 s 64) ⟨#[58]⟩ w1 (by have := cut1_size s 64; omega) (by decide))
  rw [show isB _ _ = _ from x1] at CI
  have CH := Lib.hid (fun w1 hv1 => host_any ((cut2 s 64).extract 0 K) w1 (by have := extract_le (cut2 s 64) 0 K; omega) hv1)
  rw [show hostB _ = _ from x2] at CH
  rw [HA]
  rw [hc] at CC
  clear h hv HA x1 x2 hc hl hK l0 l1
  generalize cut1 s 64 = u at *
  generalize cut2 s 64 = t at *
  generalize Lib.lastIndexByte (t) 93 = j at *
  go_enter Tryz.func60, Tryz.ntmps60
  go_wp2_with (first | (go_at_call 75; refine (L2.out _).mono ?_; rintro e w' ⟨rfl, hww⟩; rw [hww]; clear hww w') | (go_at_call 75; refine (L1.out _).mono ?_; rintro e w' ⟨rfl, hww⟩; rw [hww]; clear hww w') | (go_at_call 58; refine (CC.out _ (HV.out.past hb4 (below_set (Below.refl b w) _))).mono ?_; rintro e w1 ⟨rfl, hb⟩; have HB1 := Lib.hid (below_thru (below_set (Below.refl b w) _) hb (Nat.le_of_lt hbw.out)); have HP1 := Lib.hid ((HP.out.s5 true).move hb); have c2 := HP1.out.c2; have c3 := HP1.out.c3; have c4 := HP1.out.c4; have c6 := HP1.out.c6; have c7 := HP1.out.c7; have f2 := row_freeAt 2 HP1.out; have f3 := row_freeAt 3 HP1.out; have f4 := row_freeAt 4 HP1.out; have f6 := row_freeAt 6 HP1.out; have f7 := row_freeAt 7 HP1.out; clear hb c5 f5))
  go_region_with (fail)
  all_goals go_simp
  all_goals go_wp2_with (first | (go_at_call 125; refine (CH.out _ (HV.out.past hb4 HB2.out)).mono ?_; rintro e w3 ⟨rfl, hb⟩; have HB3 := Lib.hid (below_thru HB2.out hb (Nat.le_of_lt hbw.out)); have HP3 := Lib.hid (HP2.out.move hb); have e6 := HP3.out.c6; clear hb) | (go_at_call 62; refine (CI.out _).mono ?_; rintro e w2 ⟨rfl, hb⟩; have HB2 := Lib.hid (below_thru (Below.drew (below_set (below_set (below_set (below_set (below_set (below_set HB1.out _) _) _) _) _) _)) hb (Nat.le_of_lt hbw.out)); have HP2 := Lib.hid (PAt.move (PAt.drw (PAt.s7 (PAt.s6 (PAt.s4 (PAt.s4 (PAt.s3 (PAt.s2 HP1.out u) true) t) (t.extract 0 K)) (t.extract (K + 1) t.size)) true)) hb); have d4 := HP2.out.c4; have d6 := HP2.out.c6; clear hb))
  all_goals go_ret
  all_goals exact ⟨by first | rfl | simp, HP3.out, HB3.out⟩
set_option maxHeartbeats 4000000 in
set_option maxRecDepth 100000 in
theorem au_TT_TTF (b : Nat) (p : PR) (s : ByteArray) (w : World) (h : PAt b p w) (hs : s.size ≤ 100000) (hu0 : p.us.size ≤ 100000) (hb4 : 4 < b) (hv : VarsOk w) (hc : cut3 s 64 = true) (hl : lastC (cut2 s 64) = true) (x1 : isB (auP s p).us ⟨#[58]⟩ = true) (x2 : hostB (auP s p).ho = true) (x3 : allB digR (auP s p).po = false) :
    Calls Tryz.prog 60 #[.pointer (some ⟨b, 0, none⟩), .string s] w fun e w' => e = .returned (.bool false) ∧ PAt b (auP s p) w' ∧ Below b w w' := by
  have HP := Lib.hid h
  have HV := Lib.hid hv
  have hbw := Lib.hid h.lt
  have c5 := h.c5
  have f5 := row_freeAt 5 h
  have CC := Lib.hid (fun w1 hv1 => cut_ch s 64 w1 (by omega) hv1)
  have hts : (cut2 s 64).size ≤ 100000 := Nat.le_trans (cut2_size s 64) hs
  obtain ⟨-, l0, l1⟩ := last_at (cut2 s 64) hl
  obtain ⟨K, hK⟩ : ∃ K : Nat, Lib.lastIndexByte (cut2 s 64) 58 = (K : Int) := ⟨(Lib.lastIndexByte (cut2 s 64) 58).toNat, by omega⟩
  have hl2 : Lib.lastIndexByte (cut2 s 64) 93 < (K : Int) := by rw [← hK]; exact of_decide_eq_true hl
  have hKs : (K : Int) < ((cut2 s 64).size : Int) := by rw [← hK]; exact l1
  have hKw : IntKind.i64.wrap ((K : Int) + 1) = (K : Int) + 1 := kwrap (by omega)
  have hK0 : (0 : Int) ≤ (K : Int) + 1 := by omega
  have hK2 : (0 : Int) ≤ (K : Int) := by omega
  have hK3 : (K : Int) ≤ ((cut2 s 64).size : Int) := by omega
  have hK1 : (K : Int) + 1 ≤ ((cut2 s 64).size : Int) := by omega
  have HA : auP s p = { p with ha := true, us := cut1 s 64, hu := true, ho := (cut2 s 64).extract 0 K, po := (cut2 s 64).extract (K + 1) (cut2 s 64).size, hp := true } := by
    have e1 : auS s = cut2 s 64 := by unfold auS; rw [hc]; rfl
    unfold auP auU auH; rw [hc, e1, hl, hK]; rfl
  have L1 := Lib.hid (fun w1 => Tryz.strings_LastIndexByte (cut2 s 64) 58 (by omega) w1)
  have L2 := Lib.hid (fun w1 => Tryz.strings_LastIndexByte (cut2 s 64) 93 (by omega) w1)
  rw [hK] at L1
  rw [HA] at x1 x2 x3
  have CI := Lib.hid (fun w1 => is_any (cut1 s 64) ⟨#[58]⟩ w1 (by have := cut1_size s 64; omega) (by decide))
  rw [show isB _ _ = _ from x1] at CI
  have CH := Lib.hid (fun w1 hv1 => host_any ((cut2 s 64).extract 0 K) w1 (by have := extract_le (cut2 s 64) 0 K; omega) hv1)
  rw [show hostB _ = _ from x2] at CH
  have CD := Lib.hid (fun w1 => all_dig ((cut2 s 64).extract (K + 1) (cut2 s 64).size) w1)
  rw [show allB _ _ = _ from x3] at CD
  rw [HA]
  rw [hc] at CC
  clear h hv HA x1 x2 x3 hc hl hK l0 l1
  generalize cut1 s 64 = u at *
  generalize cut2 s 64 = t at *
  generalize Lib.lastIndexByte (t) 93 = j at *
  go_enter Tryz.func60, Tryz.ntmps60
  go_wp2_with (first | (go_at_call 75; refine (L2.out _).mono ?_; rintro e w' ⟨rfl, hww⟩; rw [hww]; clear hww w') | (go_at_call 75; refine (L1.out _).mono ?_; rintro e w' ⟨rfl, hww⟩; rw [hww]; clear hww w') | (go_at_call 58; refine (CC.out _ (HV.out.past hb4 (below_set (Below.refl b w) _))).mono ?_; rintro e w1 ⟨rfl, hb⟩; have HB1 := Lib.hid (below_thru (below_set (Below.refl b w) _) hb (Nat.le_of_lt hbw.out)); have HP1 := Lib.hid ((HP.out.s5 true).move hb); have c2 := HP1.out.c2; have c3 := HP1.out.c3; have c4 := HP1.out.c4; have c6 := HP1.out.c6; have c7 := HP1.out.c7; have f2 := row_freeAt 2 HP1.out; have f3 := row_freeAt 3 HP1.out; have f4 := row_freeAt 4 HP1.out; have f6 := row_freeAt 6 HP1.out; have f7 := row_freeAt 7 HP1.out; clear hb c5 f5))
  go_region_with (fail)
  all_goals go_simp
  all_goals go_wp2_with (first | (go_at_call 120; refine (CD.out _).mono ?_; rintro e w4 ⟨rfl, hb⟩; have HB4 := Lib.hid (below_thru HB3.out hb (Nat.le_of_lt hbw.out)); have HP4 := Lib.hid (HP3.out.move hb); clear hb) | (go_at_call 125; refine (CH.out _ (HV.out.past hb4 HB2.out)).mono ?_; rintro e w3 ⟨rfl, hb⟩; have HB3 := Lib.hid (below_thru HB2.out hb (Nat.le_of_lt hbw.out)); have HP3 := Lib.hid (HP2.out.move hb); have e6 := HP3.out.c6; clear hb) | (go_at_call 62; refine (CI.out _).mono ?_; rintro e w2 ⟨rfl, hb⟩; have HB2 := Lib.hid (below_thru (Below.drew (below_set (below_set (below_set (below_set (below_set (below_set HB1.out _) _) _) _) _) _)) hb (Nat.le_of_lt hbw.out)); have HP2 := Lib.hid (PAt.move (PAt.drw (PAt.s7 (PAt.s6 (PAt.s4 (PAt.s4 (PAt.s3 (PAt.s2 HP1.out u) true) t) (t.extract 0 K)) (t.extract (K + 1) t.size)) true)) hb); have d4 := HP2.out.c4; have d6 := HP2.out.c6; clear hb))
  all_goals go_ret
  all_goals exact ⟨by first | rfl | simp, HP4.out, HB4.out⟩
set_option maxHeartbeats 4000000 in
set_option maxRecDepth 100000 in
theorem au_TT_TTT (b : Nat) (p : PR) (s : ByteArray) (w : World) (h : PAt b p w) (hs : s.size ≤ 100000) (hu0 : p.us.size ≤ 100000) (hb4 : 4 < b) (hv : VarsOk w) (hc : cut3 s 64 = true) (hl : lastC (cut2 s 64) = true) (x1 : isB (auP s p).us ⟨#[58]⟩ = true) (x2 : hostB (auP s p).ho = true) (x3 : allB digR (auP s p).po = true) :
    Calls Tryz.prog 60 #[.pointer (some ⟨b, 0, none⟩), .string s] w fun e w' => e = .returned (.bool true) ∧ PAt b (auP s p) w' ∧ Below b w w' := by
  have HP := Lib.hid h
  have HV := Lib.hid hv
  have hbw := Lib.hid h.lt
  have c5 := h.c5
  have f5 := row_freeAt 5 h
  have CC := Lib.hid (fun w1 hv1 => cut_ch s 64 w1 (by omega) hv1)
  have hts : (cut2 s 64).size ≤ 100000 := Nat.le_trans (cut2_size s 64) hs
  obtain ⟨-, l0, l1⟩ := last_at (cut2 s 64) hl
  obtain ⟨K, hK⟩ : ∃ K : Nat, Lib.lastIndexByte (cut2 s 64) 58 = (K : Int) := ⟨(Lib.lastIndexByte (cut2 s 64) 58).toNat, by omega⟩
  have hl2 : Lib.lastIndexByte (cut2 s 64) 93 < (K : Int) := by rw [← hK]; exact of_decide_eq_true hl
  have hKs : (K : Int) < ((cut2 s 64).size : Int) := by rw [← hK]; exact l1
  have hKw : IntKind.i64.wrap ((K : Int) + 1) = (K : Int) + 1 := kwrap (by omega)
  have hK0 : (0 : Int) ≤ (K : Int) + 1 := by omega
  have hK2 : (0 : Int) ≤ (K : Int) := by omega
  have hK3 : (K : Int) ≤ ((cut2 s 64).size : Int) := by omega
  have hK1 : (K : Int) + 1 ≤ ((cut2 s 64).size : Int) := by omega
  have HA : auP s p = { p with ha := true, us := cut1 s 64, hu := true, ho := (cut2 s 64).extract 0 K, po := (cut2 s 64).extract (K + 1) (cut2 s 64).size, hp := true } := by
    have e1 : auS s = cut2 s 64 := by unfold auS; rw [hc]; rfl
    unfold auP auU auH; rw [hc, e1, hl, hK]; rfl
  have L1 := Lib.hid (fun w1 => Tryz.strings_LastIndexByte (cut2 s 64) 58 (by omega) w1)
  have L2 := Lib.hid (fun w1 => Tryz.strings_LastIndexByte (cut2 s 64) 93 (by omega) w1)
  rw [hK] at L1
  rw [HA] at x1 x2 x3
  have CI := Lib.hid (fun w1 => is_any (cut1 s 64) ⟨#[58]⟩ w1 (by have := cut1_size s 64; omega) (by decide))
  rw [show isB _ _ = _ from x1] at CI
  have CH := Lib.hid (fun w1 hv1 => host_any ((cut2 s 64).extract 0 K) w1 (by have := extract_le (cut2 s 64) 0 K; omega) hv1)
  rw [show hostB _ = _ from x2] at CH
  have CD := Lib.hid (fun w1 => all_dig ((cut2 s 64).extract (K + 1) (cut2 s 64).size) w1)
  rw [show allB _ _ = _ from x3] at CD
  rw [HA]
  rw [hc] at CC
  clear h hv HA x1 x2 x3 hc hl hK l0 l1
  generalize cut1 s 64 = u at *
  generalize cut2 s 64 = t at *
  generalize Lib.lastIndexByte (t) 93 = j at *
  go_enter Tryz.func60, Tryz.ntmps60
  go_wp2_with (first | (go_at_call 75; refine (L2.out _).mono ?_; rintro e w' ⟨rfl, hww⟩; rw [hww]; clear hww w') | (go_at_call 75; refine (L1.out _).mono ?_; rintro e w' ⟨rfl, hww⟩; rw [hww]; clear hww w') | (go_at_call 58; refine (CC.out _ (HV.out.past hb4 (below_set (Below.refl b w) _))).mono ?_; rintro e w1 ⟨rfl, hb⟩; have HB1 := Lib.hid (below_thru (below_set (Below.refl b w) _) hb (Nat.le_of_lt hbw.out)); have HP1 := Lib.hid ((HP.out.s5 true).move hb); have c2 := HP1.out.c2; have c3 := HP1.out.c3; have c4 := HP1.out.c4; have c6 := HP1.out.c6; have c7 := HP1.out.c7; have f2 := row_freeAt 2 HP1.out; have f3 := row_freeAt 3 HP1.out; have f4 := row_freeAt 4 HP1.out; have f6 := row_freeAt 6 HP1.out; have f7 := row_freeAt 7 HP1.out; clear hb c5 f5))
  go_region_with (fail)
  all_goals go_simp
  all_goals go_wp2_with (first | (go_at_call 120; refine (CD.out _).mono ?_; rintro e w4 ⟨rfl, hb⟩; have HB4 := Lib.hid (below_thru HB3.out hb (Nat.le_of_lt hbw.out)); have HP4 := Lib.hid (HP3.out.move hb); clear hb) | (go_at_call 125; refine (CH.out _ (HV.out.past hb4 HB2.out)).mono ?_; rintro e w3 ⟨rfl, hb⟩; have HB3 := Lib.hid (below_thru HB2.out hb (Nat.le_of_lt hbw.out)); have HP3 := Lib.hid (HP2.out.move hb); have e6 := HP3.out.c6; clear hb) | (go_at_call 62; refine (CI.out _).mono ?_; rintro e w2 ⟨rfl, hb⟩; have HB2 := Lib.hid (below_thru (Below.drew (below_set (below_set (below_set (below_set (below_set (below_set HB1.out _) _) _) _) _) _)) hb (Nat.le_of_lt hbw.out)); have HP2 := Lib.hid (PAt.move (PAt.drw (PAt.s7 (PAt.s6 (PAt.s4 (PAt.s4 (PAt.s3 (PAt.s2 HP1.out u) true) t) (t.extract 0 K)) (t.extract (K + 1) t.size)) true)) hb); have d4 := HP2.out.c4; have d6 := HP2.out.c6; clear hb))
  all_goals go_ret
  all_goals exact ⟨by first | rfl | simp, HP4.out, HB4.out⟩
set_option maxHeartbeats 4000000 in
set_option maxRecDepth 100000 in
theorem au_TF_F (b : Nat) (p : PR) (s : ByteArray) (w : World) (h : PAt b p w) (hs : s.size ≤ 100000) (hu0 : p.us.size ≤ 100000) (hb4 : 4 < b) (hv : VarsOk w) (hc : cut3 s 64 = true) (hl : lastC (cut2 s 64) = false) (x1 : isB (auP s p).us ⟨#[58]⟩ = false) :
    Calls Tryz.prog 60 #[.pointer (some ⟨b, 0, none⟩), .string s] w fun e w' => e = .returned (.bool false) ∧ PAt b (auP s p) w' ∧ Below b w w' := by
  have HP := Lib.hid h
  have HV := Lib.hid hv
  have hbw := Lib.hid h.lt
  have c5 := h.c5
  have f5 := row_freeAt 5 h
  have CC := Lib.hid (fun w1 hv1 => cut_ch s 64 w1 (by omega) hv1)
  have hts : (cut2 s 64).size ≤ 100000 := Nat.le_trans (cut2_size s 64) hs
  obtain ⟨K, hK⟩ : ∃ K : Int, Lib.lastIndexByte (cut2 s 64) 58 = K := ⟨_, rfl⟩
  have hl2 : ¬ Lib.lastIndexByte (cut2 s 64) 93 < K := by rw [← hK]; exact of_decide_eq_false hl
  have HA : auP s p = { p with ha := true, us := cut1 s 64, hu := true, ho := cut2 s 64 } := by
    have e1 : auS s = cut2 s 64 := by unfold auS; rw [hc]; rfl
    unfold auP auU auH; rw [hc, e1, hl]; rfl
  have L1 := Lib.hid (fun w1 => Tryz.strings_LastIndexByte (cut2 s 64) 58 (by omega) w1)
  have L2 := Lib.hid (fun w1 => Tryz.strings_LastIndexByte (cut2 s 64) 93 (by omega) w1)
  rw [hK] at L1
  rw [HA] at x1
  have CI := Lib.hid (fun w1 => is_any (cut1 s 64) ⟨#[58]⟩ w1 (by have := cut1_size s 64; omega) (by decide))
  rw [show isB _ _ = _ from x1] at CI
  rw [HA]
  rw [hc] at CC
  clear h hv HA x1 hc hl hK
  generalize cut1 s 64 = u at *
  generalize cut2 s 64 = t at *
  generalize Lib.lastIndexByte (t) 93 = j at *
  go_enter Tryz.func60, Tryz.ntmps60
  go_wp2_with (first | (go_at_call 62; refine (CI.out _).mono ?_; rintro e w2 ⟨rfl, hb⟩; have HB2 := Lib.hid (below_thru (below_set (below_set (below_set HB1.out _) _) _) hb (Nat.le_of_lt hbw.out)); have HP2 := Lib.hid (PAt.move (PAt.s4 (PAt.s3 (PAt.s2 HP1.out u) true) t) hb); have d4 := HP2.out.c4; have d6 := HP2.out.c6; clear hb) | (go_at_call 75; refine (L2.out _).mono ?_; rintro e w' ⟨rfl, hww⟩; rw [hww]; clear hww w') | (go_at_call 75; refine (L1.out _).mono ?_; rintro e w' ⟨rfl, hww⟩; rw [hww]; clear hww w') | (go_at_call 58; refine (CC.out _ (HV.out.past hb4 (below_set (Below.refl b w) _))).mono ?_; rintro e w1 ⟨rfl, hb⟩; have HB1 := Lib.hid (below_thru (below_set (Below.refl b w) _) hb (Nat.le_of_lt hbw.out)); have HP1 := Lib.hid ((HP.out.s5 true).move hb); have c2 := HP1.out.c2; have c3 := HP1.out.c3; have c4 := HP1.out.c4; have c6 := HP1.out.c6; have c7 := HP1.out.c7; have f2 := row_freeAt 2 HP1.out; have f3 := row_freeAt 3 HP1.out; have f4 := row_freeAt 4 HP1.out; have f6 := row_freeAt 6 HP1.out; have f7 := row_freeAt 7 HP1.out; clear hb c5 f5))
  go_ret
  all_goals exact ⟨by first | rfl | simp, HP2.out, HB2.out⟩
set_option maxHeartbeats 4000000 in
set_option maxRecDepth 100000 in
theorem au_TF_TF (b : Nat) (p : PR) (s : ByteArray) (w : World) (h : PAt b p w) (hs : s.size ≤ 100000) (hu0 : p.us.size ≤ 100000) (hb4 : 4 < b) (hv : VarsOk w) (hc : cut3 s 64 = true) (hl : lastC (cut2 s 64) = false) (x1 : isB (auP s p).us ⟨#[58]⟩ = true) (x2 : hostB (auP s p).ho = false) :
    Calls Tryz.prog 60 #[.pointer (some ⟨b, 0, none⟩), .string s] w fun e w' => e = .returned (.bool false) ∧ PAt b (auP s p) w' ∧ Below b w w' := by
  have HP := Lib.hid h
  have HV := Lib.hid hv
  have hbw := Lib.hid h.lt
  have c5 := h.c5
  have f5 := row_freeAt 5 h
  have CC := Lib.hid (fun w1 hv1 => cut_ch s 64 w1 (by omega) hv1)
  have hts : (cut2 s 64).size ≤ 100000 := Nat.le_trans (cut2_size s 64) hs
  obtain ⟨K, hK⟩ : ∃ K : Int, Lib.lastIndexByte (cut2 s 64) 58 = K := ⟨_, rfl⟩
  have hl2 : ¬ Lib.lastIndexByte (cut2 s 64) 93 < K := by rw [← hK]; exact of_decide_eq_false hl
  have HA : auP s p = { p with ha := true, us := cut1 s 64, hu := true, ho := cut2 s 64 } := by
    have e1 : auS s = cut2 s 64 := by unfold auS; rw [hc]; rfl
    unfold auP auU auH; rw [hc, e1, hl]; rfl
  have L1 := Lib.hid (fun w1 => Tryz.strings_LastIndexByte (cut2 s 64) 58 (by omega) w1)
  have L2 := Lib.hid (fun w1 => Tryz.strings_LastIndexByte (cut2 s 64) 93 (by omega) w1)
  rw [hK] at L1
  rw [HA] at x1 x2
  have CI := Lib.hid (fun w1 => is_any (cut1 s 64) ⟨#[58]⟩ w1 (by have := cut1_size s 64; omega) (by decide))
  rw [show isB _ _ = _ from x1] at CI
  have CH := Lib.hid (fun w1 hv1 => host_any (cut2 s 64) w1 (by omega) hv1)
  rw [show hostB _ = _ from x2] at CH
  rw [HA]
  rw [hc] at CC
  clear h hv HA x1 x2 hc hl hK
  generalize cut1 s 64 = u at *
  generalize cut2 s 64 = t at *
  generalize Lib.lastIndexByte (t) 93 = j at *
  go_enter Tryz.func60, Tryz.ntmps60
  go_wp2_with (first | (go_at_call 125; refine (CH.out _ (HV.out.past hb4 HB2.out)).mono ?_; rintro e w3 ⟨rfl, hb⟩; have HB3 := Lib.hid (below_thru HB2.out hb (Nat.le_of_lt hbw.out)); have HP3 := Lib.hid (HP2.out.move hb); have e6 := HP3.out.c6; clear hb) | (go_at_call 62; refine (CI.out _).mono ?_; rintro e w2 ⟨rfl, hb⟩; have HB2 := Lib.hid (below_thru (below_set (below_set (below_set HB1.out _) _) _) hb (Nat.le_of_lt hbw.out)); have HP2 := Lib.hid (PAt.move (PAt.s4 (PAt.s3 (PAt.s2 HP1.out u) true) t) hb); have d4 := HP2.out.c4; have d6 := HP2.out.c6; clear hb) | (go_at_call 75; refine (L2.out _).mono ?_; rintro e w' ⟨rfl, hww⟩; rw [hww]; clear hww w') | (go_at_call 75; refine (L1.out _).mono ?_; rintro e w' ⟨rfl, hww⟩; rw [hww]; clear hww w') | (go_at_call 58; refine (CC.out _ (HV.out.past hb4 (below_set (Below.refl b w) _))).mono ?_; rintro e w1 ⟨rfl, hb⟩; have HB1 := Lib.hid (below_thru (below_set (Below.refl b w) _) hb (Nat.le_of_lt hbw.out)); have HP1 := Lib.hid ((HP.out.s5 true).move hb); have c2 := HP1.out.c2; have c3 := HP1.out.c3; have c4 := HP1.out.c4; have c6 := HP1.out.c6; have c7 := HP1.out.c7; have f2 := row_freeAt 2 HP1.out; have f3 := row_freeAt 3 HP1.out; have f4 := row_freeAt 4 HP1.out; have f6 := row_freeAt 6 HP1.out; have f7 := row_freeAt 7 HP1.out; clear hb c5 f5))
  go_ret
  all_goals exact ⟨by first | rfl | simp, HP3.out, HB3.out⟩
set_option maxHeartbeats 4000000 in
set_option maxRecDepth 100000 in
theorem au_TF_TTF (b : Nat) (p : PR) (s : ByteArray) (w : World) (h : PAt b p w) (hs : s.size ≤ 100000) (hu0 : p.us.size ≤ 100000) (hb4 : 4 < b) (hv : VarsOk w) (hc : cut3 s 64 = true) (hl : lastC (cut2 s 64) = false) (x1 : isB (auP s p).us ⟨#[58]⟩ = true) (x2 : hostB (auP s p).ho = true) (x3 : allB digR (auP s p).po = false) :
    Calls Tryz.prog 60 #[.pointer (some ⟨b, 0, none⟩), .string s] w fun e w' => e = .returned (.bool false) ∧ PAt b (auP s p) w' ∧ Below b w w' := by
  have HP := Lib.hid h
  have HV := Lib.hid hv
  have hbw := Lib.hid h.lt
  have c5 := h.c5
  have f5 := row_freeAt 5 h
  have CC := Lib.hid (fun w1 hv1 => cut_ch s 64 w1 (by omega) hv1)
  have hts : (cut2 s 64).size ≤ 100000 := Nat.le_trans (cut2_size s 64) hs
  obtain ⟨K, hK⟩ : ∃ K : Int, Lib.lastIndexByte (cut2 s 64) 58 = K := ⟨_, rfl⟩
  have hl2 : ¬ Lib.lastIndexByte (cut2 s 64) 93 < K := by rw [← hK]; exact of_decide_eq_false hl
  have HA : auP s p = { p with ha := true, us := cut1 s 64, hu := true, ho := cut2 s 64 } := by
    have e1 : auS s = cut2 s 64 := by unfold auS; rw [hc]; rfl
    unfold auP auU auH; rw [hc, e1, hl]; rfl
  have L1 := Lib.hid (fun w1 => Tryz.strings_LastIndexByte (cut2 s 64) 58 (by omega) w1)
  have L2 := Lib.hid (fun w1 => Tryz.strings_LastIndexByte (cut2 s 64) 93 (by omega) w1)
  rw [hK] at L1
  rw [HA] at x1 x2 x3
  have CI := Lib.hid (fun w1 => is_any (cut1 s 64) ⟨#[58]⟩ w1 (by have := cut1_size s 64; omega) (by decide))
  rw [show isB _ _ = _ from x1] at CI
  have CH := Lib.hid (fun w1 hv1 => host_any (cut2 s 64) w1 (by omega) hv1)
  rw [show hostB _ = _ from x2] at CH
  have CD := Lib.hid (fun w1 => all_dig p.po w1)
  rw [show allB _ _ = _ from x3] at CD
  rw [HA]
  rw [hc] at CC
  clear h hv HA x1 x2 x3 hc hl hK
  generalize cut1 s 64 = u at *
  generalize cut2 s 64 = t at *
  generalize Lib.lastIndexByte (t) 93 = j at *
  go_enter Tryz.func60, Tryz.ntmps60
  go_wp2_with (first | (go_at_call 120; refine (CD.out _).mono ?_; rintro e w4 ⟨rfl, hb⟩; have HB4 := Lib.hid (below_thru HB3.out hb (Nat.le_of_lt hbw.out)); have HP4 := Lib.hid (HP3.out.move hb); clear hb) | (go_at_call 125; refine (CH.out _ (HV.out.past hb4 HB2.out)).mono ?_; rintro e w3 ⟨rfl, hb⟩; have HB3 := Lib.hid (below_thru HB2.out hb (Nat.le_of_lt hbw.out)); have HP3 := Lib.hid (HP2.out.move hb); have e6 := HP3.out.c6; clear hb) | (go_at_call 62; refine (CI.out _).mono ?_; rintro e w2 ⟨rfl, hb⟩; have HB2 := Lib.hid (below_thru (below_set (below_set (below_set HB1.out _) _) _) hb (Nat.le_of_lt hbw.out)); have HP2 := Lib.hid (PAt.move (PAt.s4 (PAt.s3 (PAt.s2 HP1.out u) true) t) hb); have d4 := HP2.out.c4; have d6 := HP2.out.c6; clear hb) | (go_at_call 75; refine (L2.out _).mono ?_; rintro e w' ⟨rfl, hww⟩; rw [hww]; clear hww w') | (go_at_call 75; refine (L1.out _).mono ?_; rintro e w' ⟨rfl, hww⟩; rw [hww]; clear hww w') | (go_at_call 58; refine (CC.out _ (HV.out.past hb4 (below_set (Below.refl b w) _))).mono ?_; rintro e w1 ⟨rfl, hb⟩; have HB1 := Lib.hid (below_thru (below_set (Below.refl b w) _) hb (Nat.le_of_lt hbw.out)); have HP1 := Lib.hid ((HP.out.s5 true).move hb); have c2 := HP1.out.c2; have c3 := HP1.out.c3; have c4 := HP1.out.c4; have c6 := HP1.out.c6; have c7 := HP1.out.c7; have f2 := row_freeAt 2 HP1.out; have f3 := row_freeAt 3 HP1.out; have f4 := row_freeAt 4 HP1.out; have f6 := row_freeAt 6 HP1.out; have f7 := row_freeAt 7 HP1.out; clear hb c5 f5))
  go_ret
  all_goals exact ⟨by first | rfl | simp, HP4.out, HB4.out⟩
set_option maxHeartbeats 4000000 in
set_option maxRecDepth 100000 in
theorem au_TF_TTT (b : Nat) (p : PR) (s : ByteArray) (w : World) (h : PAt b p w) (hs : s.size ≤ 100000) (hu0 : p.us.size ≤ 100000) (hb4 : 4 < b) (hv : VarsOk w) (hc : cut3 s 64 = true) (hl : lastC (cut2 s 64) = false) (x1 : isB (auP s p).us ⟨#[58]⟩ = true) (x2 : hostB (auP s p).ho = true) (x3 : allB digR (auP s p).po = true) :
    Calls Tryz.prog 60 #[.pointer (some ⟨b, 0, none⟩), .string s] w fun e w' => e = .returned (.bool true) ∧ PAt b (auP s p) w' ∧ Below b w w' := by
  have HP := Lib.hid h
  have HV := Lib.hid hv
  have hbw := Lib.hid h.lt
  have c5 := h.c5
  have f5 := row_freeAt 5 h
  have CC := Lib.hid (fun w1 hv1 => cut_ch s 64 w1 (by omega) hv1)
  have hts : (cut2 s 64).size ≤ 100000 := Nat.le_trans (cut2_size s 64) hs
  obtain ⟨K, hK⟩ : ∃ K : Int, Lib.lastIndexByte (cut2 s 64) 58 = K := ⟨_, rfl⟩
  have hl2 : ¬ Lib.lastIndexByte (cut2 s 64) 93 < K := by rw [← hK]; exact of_decide_eq_false hl
  have HA : auP s p = { p with ha := true, us := cut1 s 64, hu := true, ho := cut2 s 64 } := by
    have e1 : auS s = cut2 s 64 := by unfold auS; rw [hc]; rfl
    unfold auP auU auH; rw [hc, e1, hl]; rfl
  have L1 := Lib.hid (fun w1 => Tryz.strings_LastIndexByte (cut2 s 64) 58 (by omega) w1)
  have L2 := Lib.hid (fun w1 => Tryz.strings_LastIndexByte (cut2 s 64) 93 (by omega) w1)
  rw [hK] at L1
  rw [HA] at x1 x2 x3
  have CI := Lib.hid (fun w1 => is_any (cut1 s 64) ⟨#[58]⟩ w1 (by have := cut1_size s 64; omega) (by decide))
  rw [show isB _ _ = _ from x1] at CI
  have CH := Lib.hid (fun w1 hv1 => host_any (cut2 s 64) w1 (by omega) hv1)
  rw [show hostB _ = _ from x2] at CH
  have CD := Lib.hid (fun w1 => all_dig p.po w1)
  rw [show allB _ _ = _ from x3] at CD
  rw [HA]
  rw [hc] at CC
  clear h hv HA x1 x2 x3 hc hl hK
  generalize cut1 s 64 = u at *
  generalize cut2 s 64 = t at *
  generalize Lib.lastIndexByte (t) 93 = j at *
  go_enter Tryz.func60, Tryz.ntmps60
  go_wp2_with (first | (go_at_call 120; refine (CD.out _).mono ?_; rintro e w4 ⟨rfl, hb⟩; have HB4 := Lib.hid (below_thru HB3.out hb (Nat.le_of_lt hbw.out)); have HP4 := Lib.hid (HP3.out.move hb); clear hb) | (go_at_call 125; refine (CH.out _ (HV.out.past hb4 HB2.out)).mono ?_; rintro e w3 ⟨rfl, hb⟩; have HB3 := Lib.hid (below_thru HB2.out hb (Nat.le_of_lt hbw.out)); have HP3 := Lib.hid (HP2.out.move hb); have e6 := HP3.out.c6; clear hb) | (go_at_call 62; refine (CI.out _).mono ?_; rintro e w2 ⟨rfl, hb⟩; have HB2 := Lib.hid (below_thru (below_set (below_set (below_set HB1.out _) _) _) hb (Nat.le_of_lt hbw.out)); have HP2 := Lib.hid (PAt.move (PAt.s4 (PAt.s3 (PAt.s2 HP1.out u) true) t) hb); have d4 := HP2.out.c4; have d6 := HP2.out.c6; clear hb) | (go_at_call 75; refine (L2.out _).mono ?_; rintro e w' ⟨rfl, hww⟩; rw [hww]; clear hww w') | (go_at_call 75; refine (L1.out _).mono ?_; rintro e w' ⟨rfl, hww⟩; rw [hww]; clear hww w') | (go_at_call 58; refine (CC.out _ (HV.out.past hb4 (below_set (Below.refl b w) _))).mono ?_; rintro e w1 ⟨rfl, hb⟩; have HB1 := Lib.hid (below_thru (below_set (Below.refl b w) _) hb (Nat.le_of_lt hbw.out)); have HP1 := Lib.hid ((HP.out.s5 true).move hb); have c2 := HP1.out.c2; have c3 := HP1.out.c3; have c4 := HP1.out.c4; have c6 := HP1.out.c6; have c7 := HP1.out.c7; have f2 := row_freeAt 2 HP1.out; have f3 := row_freeAt 3 HP1.out; have f4 := row_freeAt 4 HP1.out; have f6 := row_freeAt 6 HP1.out; have f7 := row_freeAt 7 HP1.out; clear hb c5 f5))
  go_ret
  all_goals exact ⟨by first | rfl | simp, HP4.out, HB4.out⟩
set_option maxHeartbeats 4000000 in
set_option maxRecDepth 100000 in
theorem au_FT_F (b : Nat) (p : PR) (s : ByteArray) (w : World) (h : PAt b p w) (hs : s.size ≤ 100000) (hu0 : p.us.size ≤ 100000) (hb4 : 4 < b) (hv : VarsOk w) (hc : cut3 s 64 = false) (hl : lastC (s) = true) (x1 : isB (auP s p).us ⟨#[58]⟩ = false) :
    Calls Tryz.prog 60 #[.pointer (some ⟨b, 0, none⟩), .string s] w fun e w' => e = .returned (.bool false) ∧ PAt b (auP s p) w' ∧ Below b w w' := by
  have HP := Lib.hid h
  have HV := Lib.hid hv
  have hbw := Lib.hid h.lt
  have c5 := h.c5
  have f5 := row_freeAt 5 h
  have CC := Lib.hid (fun w1 hv1 => cut_ch s 64 w1 (by omega) hv1)
  have hts : (s).size ≤ 100000 := hs
  obtain ⟨-, l0, l1⟩ := last_at (s) hl
  obtain ⟨K, hK⟩ : ∃ K : Nat, Lib.lastIndexByte (s) 58 = (K : Int) := ⟨(Lib.lastIndexByte (s) 58).toNat, by omega⟩
  have hl2 : Lib.lastIndexByte (s) 93 < (K : Int) := by rw [← hK]; exact of_decide_eq_true hl
  have hKs : (K : Int) < ((s).size : Int) := by rw [← hK]; exact l1
  have hKw : IntKind.i64.wrap ((K : Int) + 1) = (K : Int) + 1 := kwrap (by omega)
  have hK0 : (0 : Int) ≤ (K : Int) + 1 := by omega
  have hK2 : (0 : Int) ≤ (K : Int) := by omega
  have hK3 : (K : Int) ≤ ((s).size : Int) := by omega
  have hK1 : (K : Int) + 1 ≤ ((s).size : Int) := by omega
  have HA : auP s p = { p with ha := true, ho := (s).extract 0 K, po := (s).extract (K + 1) (s).size, hp := true } := by
    have e1 : auS s = s := by unfold auS; rw [hc]; rfl
    unfold auP auU auH; rw [hc, e1, hl, hK]; rfl
  have L1 := Lib.hid (fun w1 => Tryz.strings_LastIndexByte (s) 58 (by omega) w1)
  have L2 := Lib.hid (fun w1 => Tryz.strings_LastIndexByte (s) 93 (by omega) w1)
  rw [hK] at L1
  rw [HA] at x1
  have CI := Lib.hid (fun w1 => is_any (p.us) ⟨#[58]⟩ w1 (by omega) (by decide))
  rw [show isB _ _ = _ from x1] at CI
  rw [HA]
  rw [hc] at CC
  clear h hv HA x1 hc hl hK l0 l1
  generalize cut1 s 64 = u at *
  generalize cut2 s 64 = t at *
  generalize Lib.lastIndexByte (s) 93 = j at *
  go_enter Tryz.func60, Tryz.ntmps60
  go_wp2_with (first | (go_at_call 75; refine (L2.out _).mono ?_; rintro e w' ⟨rfl, hww⟩; rw [hww]; clear hww w') | (go_at_call 75; refine (L1.out _).mono ?_; rintro e w' ⟨rfl, hww⟩; rw [hww]; clear hww w') | (go_at_call 58; refine (CC.out _ (HV.out.past hb4 (below_set (Below.refl b w) _))).mono ?_; rintro e w1 ⟨rfl, hb⟩; have HB1 := Lib.hid (below_thru (below_set (Below.refl b w) _) hb (Nat.le_of_lt hbw.out)); have HP1 := Lib.hid ((HP.out.s5 true).move hb); have c2 := HP1.out.c2; have c3 := HP1.out.c3; have c4 := HP1.out.c4; have c6 := HP1.out.c6; have c7 := HP1.out.c7; have f2 := row_freeAt 2 HP1.out; have f3 := row_freeAt 3 HP1.out; have f4 := row_freeAt 4 HP1.out; have f6 := row_freeAt 6 HP1.out; have f7 := row_freeAt 7 HP1.out; clear hb c5 f5))
  go_region_with (fail)
  all_goals go_simp
  all_goals go_wp2_with (first | (go_at_call 62; refine (CI.out _).mono ?_; rintro e w2 ⟨rfl, hb⟩; have HB2 := Lib.hid (below_thru (Below.drew (below_set (below_set (below_set (below_set HB1.out _) _) _) _)) hb (Nat.le_of_lt hbw.out)); have HP2 := Lib.hid (PAt.move (PAt.drw (PAt.s7 (PAt.s6 (PAt.s4 (PAt.s4 HP1.out s) (s.extract 0 K)) (s.extract (K + 1) s.size)) true)) hb); have d4 := HP2.out.c4; have d6 := HP2.out.c6; clear hb))
  all_goals go_ret
  all_goals exact ⟨by first | rfl | simp, HP2.out, HB2.out⟩
set_option maxHeartbeats 4000000 in
set_option maxRecDepth 100000 in
theorem au_FT_TF (b : Nat) (p : PR) (s : ByteArray) (w : World) (h : PAt b p w) (hs : s.size ≤ 100000) (hu0 : p.us.size ≤ 100000) (hb4 : 4 < b) (hv : VarsOk w) (hc : cut3 s 64 = false) (hl : lastC (s) = true) (x1 : isB (auP s p).us ⟨#[58]⟩ = true) (x2 : hostB (auP s p).ho = false) :
    Calls Tryz.prog 60 #[.pointer (some ⟨b, 0, none⟩), .string s] w fun e w' => e = .returned (.bool false) ∧ PAt b (auP s p) w' ∧ Below b w w' := by
  have HP := Lib.hid h
  have HV := Lib.hid hv
  have hbw := Lib.hid h.lt
  have c5 := h.c5
  have f5 := row_freeAt 5 h
  have CC := Lib.hid (fun w1 hv1 => cut_ch s 64 w1 (by omega) hv1)
  have hts : (s).size ≤ 100000 := hs
  obtain ⟨-, l0, l1⟩ := last_at (s) hl
  obtain ⟨K, hK⟩ : ∃ K : Nat, Lib.lastIndexByte (s) 58 = (K : Int) := ⟨(Lib.lastIndexByte (s) 58).toNat, by omega⟩
  have hl2 : Lib.lastIndexByte (s) 93 < (K : Int) := by rw [← hK]; exact of_decide_eq_true hl
  have hKs : (K : Int) < ((s).size : Int) := by rw [← hK]; exact l1
  have hKw : IntKind.i64.wrap ((K : Int) + 1) = (K : Int) + 1 := kwrap (by omega)
  have hK0 : (0 : Int) ≤ (K : Int) + 1 := by omega
  have hK2 : (0 : Int) ≤ (K : Int) := by omega
  have hK3 : (K : Int) ≤ ((s).size : Int) := by omega
  have hK1 : (K : Int) + 1 ≤ ((s).size : Int) := by omega
  have HA : auP s p = { p with ha := true, ho := (s).extract 0 K, po := (s).extract (K + 1) (s).size, hp := true } := by
    have e1 : auS s = s := by unfold auS; rw [hc]; rfl
    unfold auP auU auH; rw [hc, e1, hl, hK]; rfl
  have L1 := Lib.hid (fun w1 => Tryz.strings_LastIndexByte (s) 58 (by omega) w1)
  have L2 := Lib.hid (fun w1 => Tryz.strings_LastIndexByte (s) 93 (by omega) w1)
  rw [hK] at L1
  rw [HA] at x1 x2
  have CI := Lib.hid (fun w1 => is_any (p.us) ⟨#[58]⟩ w1 (by omega) (by decide))
  rw [show isB _ _ = _ from x1] at CI
  have CH := Lib.hid (fun w1 hv1 => host_any ((s).extract 0 K) w1 (by have := extract_le (s) 0 K; omega) hv1)
  rw [show hostB _ = _ from x2] at CH
  rw [HA]
  rw [hc] at CC
  clear h hv HA x1 x2 hc hl hK l0 l1
  generalize cut1 s 64 = u at *
  generalize cut2 s 64 = t at *
  generalize Lib.lastIndexByte (s) 93 = j at *
  go_enter Tryz.func60, Tryz.ntmps60
  go_wp2_with (first | (go_at_call 75; refine (L2.out _).mono ?_; rintro e w' ⟨rfl, hww⟩; rw [hww]; clear hww w') | (go_at_call 75; refine (L1.out _).mono ?_; rintro e w' ⟨rfl, hww⟩; rw [hww]; clear hww w') | (go_at_call 58; refine (CC.out _ (HV.out.past hb4 (below_set (Below.refl b w) _))).mono ?_; rintro e w1 ⟨rfl, hb⟩; have HB1 := Lib.hid (below_thru (below_set (Below.refl b w) _) hb (Nat.le_of_lt hbw.out)); have HP1 := Lib.hid ((HP.out.s5 true).move hb); have c2 := HP1.out.c2; have c3 := HP1.out.c3; have c4 := HP1.out.c4; have c6 := HP1.out.c6; have c7 := HP1.out.c7; have f2 := row_freeAt 2 HP1.out; have f3 := row_freeAt 3 HP1.out; have f4 := row_freeAt 4 HP1.out; have f6 := row_freeAt 6 HP1.out; have f7 := row_freeAt 7 HP1.out; clear hb c5 f5))
  go_region_with (fail)
  all_goals go_simp
  all_goals go_wp2_with (first | (go_at_call 125; refine (CH.out _ (HV.out.past hb4 HB2.out)).mono ?_; rintro e w3 ⟨rfl, hb⟩; have HB3 := Lib.hid (below_thru HB2.out hb (Nat.le_of_lt hbw.out)); have HP3 := Lib.hid (HP2.out.move hb); have e6 := HP3.out.c6; clear hb) | (go_at_call 62; refine (CI.out _).mono ?_; rintro e w2 ⟨rfl, hb⟩; have HB2 := Lib.hid (below_thru (Below.drew (below_set (below_set (below_set (below_set HB1.out _) _) _) _)) hb (Nat.le_of_lt hbw.out)); have HP2 := Lib.hid (PAt.move (PAt.drw (PAt.s7 (PAt.s6 (PAt.s4 (PAt.s4 HP1.out s) (s.extract 0 K)) (s.extract (K + 1) s.size)) true)) hb); have d4 := HP2.out.c4; have d6 := HP2.out.c6; clear hb))
  all_goals go_ret
  all_goals exact ⟨by first | rfl | simp, HP3.out, HB3.out⟩
set_option maxHeartbeats 4000000 in
set_option maxRecDepth 100000 in
theorem au_FT_TTF (b : Nat) (p : PR) (s : ByteArray) (w : World) (h : PAt b p w) (hs : s.size ≤ 100000) (hu0 : p.us.size ≤ 100000) (hb4 : 4 < b) (hv : VarsOk w) (hc : cut3 s 64 = false) (hl : lastC (s) = true) (x1 : isB (auP s p).us ⟨#[58]⟩ = true) (x2 : hostB (auP s p).ho = true) (x3 : allB digR (auP s p).po = false) :
    Calls Tryz.prog 60 #[.pointer (some ⟨b, 0, none⟩), .string s] w fun e w' => e = .returned (.bool false) ∧ PAt b (auP s p) w' ∧ Below b w w' := by
  have HP := Lib.hid h
  have HV := Lib.hid hv
  have hbw := Lib.hid h.lt
  have c5 := h.c5
  have f5 := row_freeAt 5 h
  have CC := Lib.hid (fun w1 hv1 => cut_ch s 64 w1 (by omega) hv1)
  have hts : (s).size ≤ 100000 := hs
  obtain ⟨-, l0, l1⟩ := last_at (s) hl
  obtain ⟨K, hK⟩ : ∃ K : Nat, Lib.lastIndexByte (s) 58 = (K : Int) := ⟨(Lib.lastIndexByte (s) 58).toNat, by omega⟩
  have hl2 : Lib.lastIndexByte (s) 93 < (K : Int) := by rw [← hK]; exact of_decide_eq_true hl
  have hKs : (K : Int) < ((s).size : Int) := by rw [← hK]; exact l1
  have hKw : IntKind.i64.wrap ((K : Int) + 1) = (K : Int) + 1 := kwrap (by omega)
  have hK0 : (0 : Int) ≤ (K : Int) + 1 := by omega
  have hK2 : (0 : Int) ≤ (K : Int) := by omega
  have hK3 : (K : Int) ≤ ((s).size : Int) := by omega
  have hK1 : (K : Int) + 1 ≤ ((s).size : Int) := by omega
  have HA : auP s p = { p with ha := true, ho := (s).extract 0 K, po := (s).extract (K + 1) (s).size, hp := true } := by
    have e1 : auS s = s := by unfold auS; rw [hc]; rfl
    unfold auP auU auH; rw [hc, e1, hl, hK]; rfl
  have L1 := Lib.hid (fun w1 => Tryz.strings_LastIndexByte (s) 58 (by omega) w1)
  have L2 := Lib.hid (fun w1 => Tryz.strings_LastIndexByte (s) 93 (by omega) w1)
  rw [hK] at L1
  rw [HA] at x1 x2 x3
  have CI := Lib.hid (fun w1 => is_any (p.us) ⟨#[58]⟩ w1 (by omega) (by decide))
  rw [show isB _ _ = _ from x1] at CI
  have CH := Lib.hid (fun w1 hv1 => host_any ((s).extract 0 K) w1 (by have := extract_le (s) 0 K; omega) hv1)
  rw [show hostB _ = _ from x2] at CH
  have CD := Lib.hid (fun w1 => all_dig ((s).extract (K + 1) (s).size) w1)
  rw [show allB _ _ = _ from x3] at CD
  rw [HA]
  rw [hc] at CC
  clear h hv HA x1 x2 x3 hc hl hK l0 l1
  generalize cut1 s 64 = u at *
  generalize cut2 s 64 = t at *
  generalize Lib.lastIndexByte (s) 93 = j at *
  go_enter Tryz.func60, Tryz.ntmps60
  go_wp2_with (first | (go_at_call 75; refine (L2.out _).mono ?_; rintro e w' ⟨rfl, hww⟩; rw [hww]; clear hww w') | (go_at_call 75; refine (L1.out _).mono ?_; rintro e w' ⟨rfl, hww⟩; rw [hww]; clear hww w') | (go_at_call 58; refine (CC.out _ (HV.out.past hb4 (below_set (Below.refl b w) _))).mono ?_; rintro e w1 ⟨rfl, hb⟩; have HB1 := Lib.hid (below_thru (below_set (Below.refl b w) _) hb (Nat.le_of_lt hbw.out)); have HP1 := Lib.hid ((HP.out.s5 true).move hb); have c2 := HP1.out.c2; have c3 := HP1.out.c3; have c4 := HP1.out.c4; have c6 := HP1.out.c6; have c7 := HP1.out.c7; have f2 := row_freeAt 2 HP1.out; have f3 := row_freeAt 3 HP1.out; have f4 := row_freeAt 4 HP1.out; have f6 := row_freeAt 6 HP1.out; have f7 := row_freeAt 7 HP1.out; clear hb c5 f5))
  go_region_with (fail)
  all_goals go_simp
  all_goals go_wp2_with (first | (go_at_call 120; refine (CD.out _).mono ?_; rintro e w4 ⟨rfl, hb⟩; have HB4 := Lib.hid (below_thru HB3.out hb (Nat.le_of_lt hbw.out)); have HP4 := Lib.hid (HP3.out.move hb); clear hb) | (go_at_call 125; refine (CH.out _ (HV.out.past hb4 HB2.out)).mono ?_; rintro e w3 ⟨rfl, hb⟩; have HB3 := Lib.hid (below_thru HB2.out hb (Nat.le_of_lt hbw.out)); have HP3 := Lib.hid (HP2.out.move hb); have e6 := HP3.out.c6; clear hb) | (go_at_call 62; refine (CI.out _).mono ?_; rintro e w2 ⟨rfl, hb⟩; have HB2 := Lib.hid (below_thru (Below.drew (below_set (below_set (below_set (below_set HB1.out _) _) _) _)) hb (Nat.le_of_lt hbw.out)); have HP2 := Lib.hid (PAt.move (PAt.drw (PAt.s7 (PAt.s6 (PAt.s4 (PAt.s4 HP1.out s) (s.extract 0 K)) (s.extract (K + 1) s.size)) true)) hb); have d4 := HP2.out.c4; have d6 := HP2.out.c6; clear hb))
  all_goals go_ret
  all_goals exact ⟨by first | rfl | simp, HP4.out, HB4.out⟩
set_option maxHeartbeats 4000000 in
set_option maxRecDepth 100000 in
theorem au_FT_TTT (b : Nat) (p : PR) (s : ByteArray) (w : World) (h : PAt b p w) (hs : s.size ≤ 100000) (hu0 : p.us.size ≤ 100000) (hb4 : 4 < b) (hv : VarsOk w) (hc : cut3 s 64 = false) (hl : lastC (s) = true) (x1 : isB (auP s p).us ⟨#[58]⟩ = true) (x2 : hostB (auP s p).ho = true) (x3 : allB digR (auP s p).po = true) :
    Calls Tryz.prog 60 #[.pointer (some ⟨b, 0, none⟩), .string s] w fun e w' => e = .returned (.bool true) ∧ PAt b (auP s p) w' ∧ Below b w w' := by
  have HP := Lib.hid h
  have HV := Lib.hid hv
  have hbw := Lib.hid h.lt
  have c5 := h.c5
  have f5 := row_freeAt 5 h
  have CC := Lib.hid (fun w1 hv1 => cut_ch s 64 w1 (by omega) hv1)
  have hts : (s).size ≤ 100000 := hs
  obtain ⟨-, l0, l1⟩ := last_at (s) hl
  obtain ⟨K, hK⟩ : ∃ K : Nat, Lib.lastIndexByte (s) 58 = (K : Int) := ⟨(Lib.lastIndexByte (s) 58).toNat, by omega⟩
  have hl2 : Lib.lastIndexByte (s) 93 < (K : Int) := by rw [← hK]; exact of_decide_eq_true hl
  have hKs : (K : Int) < ((s).size : Int) := by rw [← hK]; exact l1
  have hKw : IntKind.i64.wrap ((K : Int) + 1) = (K : Int) + 1 := kwrap (by omega)
  have hK0 : (0 : Int) ≤ (K : Int) + 1 := by omega
  have hK2 : (0 : Int) ≤ (K : Int) := by omega
  have hK3 : (K : Int) ≤ ((s).size : Int) := by omega
  have hK1 : (K : Int) + 1 ≤ ((s).size : Int) := by omega
  have HA : auP s p = { p with ha := true, ho := (s).extract 0 K, po := (s).extract (K + 1) (s).size, hp := true } := by
    have e1 : auS s = s := by unfold auS; rw [hc]; rfl
    unfold auP auU auH; rw [hc, e1, hl, hK]; rfl
  have L1 := Lib.hid (fun w1 => Tryz.strings_LastIndexByte (s) 58 (by omega) w1)
  have L2 := Lib.hid (fun w1 => Tryz.strings_LastIndexByte (s) 93 (by omega) w1)
  rw [hK] at L1
  rw [HA] at x1 x2 x3
  have CI := Lib.hid (fun w1 => is_any (p.us) ⟨#[58]⟩ w1 (by omega) (by decide))
  rw [show isB _ _ = _ from x1] at CI
  have CH := Lib.hid (fun w1 hv1 => host_any ((s).extract 0 K) w1 (by have := extract_le (s) 0 K; omega) hv1)
  rw [show hostB _ = _ from x2] at CH
  have CD := Lib.hid (fun w1 => all_dig ((s).extract (K + 1) (s).size) w1)
  rw [show allB _ _ = _ from x3] at CD
  rw [HA]
  rw [hc] at CC
  clear h hv HA x1 x2 x3 hc hl hK l0 l1
  generalize cut1 s 64 = u at *
  generalize cut2 s 64 = t at *
  generalize Lib.lastIndexByte (s) 93 = j at *
  go_enter Tryz.func60, Tryz.ntmps60
  go_wp2_with (first | (go_at_call 75; refine (L2.out _).mono ?_; rintro e w' ⟨rfl, hww⟩; rw [hww]; clear hww w') | (go_at_call 75; refine (L1.out _).mono ?_; rintro e w' ⟨rfl, hww⟩; rw [hww]; clear hww w') | (go_at_call 58; refine (CC.out _ (HV.out.past hb4 (below_set (Below.refl b w) _))).mono ?_; rintro e w1 ⟨rfl, hb⟩; have HB1 := Lib.hid (below_thru (below_set (Below.refl b w) _) hb (Nat.le_of_lt hbw.out)); have HP1 := Lib.hid ((HP.out.s5 true).move hb); have c2 := HP1.out.c2; have c3 := HP1.out.c3; have c4 := HP1.out.c4; have c6 := HP1.out.c6; have c7 := HP1.out.c7; have f2 := row_freeAt 2 HP1.out; have f3 := row_freeAt 3 HP1.out; have f4 := row_freeAt 4 HP1.out; have f6 := row_freeAt 6 HP1.out; have f7 := row_freeAt 7 HP1.out; clear hb c5 f5))
  go_region_with (fail)
  all_goals go_simp
  all_goals go_wp2_with (first | (go_at_call 120; refine (CD.out _).mono ?_; rintro e w4 ⟨rfl, hb⟩; have HB4 := Lib.hid (below_thru HB3.out hb (Nat.le_of_lt hbw.out)); have HP4 := Lib.hid (HP3.out.move hb); clear hb) | (go_at_call 125; refine (CH.out _ (HV.out.past hb4 HB2.out)).mono ?_; rintro e w3 ⟨rfl, hb⟩; have HB3 := Lib.hid (below_thru HB2.out hb (Nat.le_of_lt hbw.out)); have HP3 := Lib.hid (HP2.out.move hb); have e6 := HP3.out.c6; clear hb) | (go_at_call 62; refine (CI.out _).mono ?_; rintro e w2 ⟨rfl, hb⟩; have HB2 := Lib.hid (below_thru (Below.drew (below_set (below_set (below_set (below_set HB1.out _) _) _) _)) hb (Nat.le_of_lt hbw.out)); have HP2 := Lib.hid (PAt.move (PAt.drw (PAt.s7 (PAt.s6 (PAt.s4 (PAt.s4 HP1.out s) (s.extract 0 K)) (s.extract (K + 1) s.size)) true)) hb); have d4 := HP2.out.c4; have d6 := HP2.out.c6; clear hb))
  all_goals go_ret
  all_goals exact ⟨by first | rfl | simp, HP4.out, HB4.out⟩
set_option maxHeartbeats 4000000 in
set_option maxRecDepth 100000 in
theorem au_FF_F (b : Nat) (p : PR) (s : ByteArray) (w : World) (h : PAt b p w) (hs : s.size ≤ 100000) (hu0 : p.us.size ≤ 100000) (hb4 : 4 < b) (hv : VarsOk w) (hc : cut3 s 64 = false) (hl : lastC (s) = false) (x1 : isB (auP s p).us ⟨#[58]⟩ = false) :
    Calls Tryz.prog 60 #[.pointer (some ⟨b, 0, none⟩), .string s] w fun e w' => e = .returned (.bool false) ∧ PAt b (auP s p) w' ∧ Below b w w' := by
  have HP := Lib.hid h
  have HV := Lib.hid hv
  have hbw := Lib.hid h.lt
  have c5 := h.c5
  have f5 := row_freeAt 5 h
  have CC := Lib.hid (fun w1 hv1 => cut_ch s 64 w1 (by omega) hv1)
  have hts : (s).size ≤ 100000 := hs
  obtain ⟨K, hK⟩ : ∃ K : Int, Lib.lastIndexByte (s) 58 = K := ⟨_, rfl⟩
  have hl2 : ¬ Lib.lastIndexByte (s) 93 < K := by rw [← hK]; exact of_decide_eq_false hl
  have HA : auP s p = { p with ha := true, ho := s } := by
    have e1 : auS s = s := by unfold auS; rw [hc]; rfl
    unfold auP auU auH; rw [hc, e1, hl]; rfl
  have L1 := Lib.hid (fun w1 => Tryz.strings_LastIndexByte (s) 58 (by omega) w1)
  have L2 := Lib.hid (fun w1 => Tryz.strings_LastIndexByte (s) 93 (by omega) w1)
  rw [hK] at L1
  rw [HA] at x1
  have CI := Lib.hid (fun w1 => is_any (p.us) ⟨#[58]⟩ w1 (by omega) (by decide))
  rw [show isB _ _ = _ from x1] at CI
  rw [HA]
  rw [hc] at CC
  clear h hv HA x1 hc hl hK
  generalize cut1 s 64 = u at *
  generalize cut2 s 64 = t at *
  generalize Lib.lastIndexByte (s) 93 = j at *
  go_enter Tryz.func60, Tryz.ntmps60
  go_wp2_with (first | (go_at_call 62; refine (CI.out _).mono ?_; rintro e w2 ⟨rfl, hb⟩; have HB2 := Lib.hid (below_thru (below_set HB1.out _) hb (Nat.le_of_lt hbw.out)); have HP2 := Lib.hid (PAt.move (PAt.s4 HP1.out s) hb); have d4 := HP2.out.c4; have d6 := HP2.out.c6; clear hb) | (go_at_call 75; refine (L2.out _).mono ?_; rintro e w' ⟨rfl, hww⟩; rw [hww]; clear hww w') | (go_at_call 75; refine (L1.out _).mono ?_; rintro e w' ⟨rfl, hww⟩; rw [hww]; clear hww w') | (go_at_call 58; refine (CC.out _ (HV.out.past hb4 (below_set (Below.refl b w) _))).mono ?_; rintro e w1 ⟨rfl, hb⟩; have HB1 := Lib.hid (below_thru (below_set (Below.refl b w) _) hb (Nat.le_of_lt hbw.out)); have HP1 := Lib.hid ((HP.out.s5 true).move hb); have c2 := HP1.out.c2; have c3 := HP1.out.c3; have c4 := HP1.out.c4; have c6 := HP1.out.c6; have c7 := HP1.out.c7; have f2 := row_freeAt 2 HP1.out; have f3 := row_freeAt 3 HP1.out; have f4 := row_freeAt 4 HP1.out; have f6 := row_freeAt 6 HP1.out; have f7 := row_freeAt 7 HP1.out; clear hb c5 f5))
  go_ret
  all_goals exact ⟨by first | rfl | simp, HP2.out, HB2.out⟩
set_option maxHeartbeats 4000000 in
set_option maxRecDepth 100000 in
theorem au_FF_TF (b : Nat) (p : PR) (s : ByteArray) (w : World) (h : PAt b p w) (hs : s.size ≤ 100000) (hu0 : p.us.size ≤ 100000) (hb4 : 4 < b) (hv : VarsOk w) (hc : cut3 s 64 = false) (hl : lastC (s) = false) (x1 : isB (auP s p).us ⟨#[58]⟩ = true) (x2 : hostB (auP s p).ho = false) :
    Calls Tryz.prog 60 #[.pointer (some ⟨b, 0, none⟩), .string s] w fun e w' => e = .returned (.bool false) ∧ PAt b (auP s p) w' ∧ Below b w w' := by
  have HP := Lib.hid h
  have HV := Lib.hid hv
  have hbw := Lib.hid h.lt
  have c5 := h.c5
  have f5 := row_freeAt 5 h
  have CC := Lib.hid (fun w1 hv1 => cut_ch s 64 w1 (by omega) hv1)
  have hts : (s).size ≤ 100000 := hs
  obtain ⟨K, hK⟩ : ∃ K : Int, Lib.lastIndexByte (s) 58 = K := ⟨_, rfl⟩
  have hl2 : ¬ Lib.lastIndexByte (s) 93 < K := by rw [← hK]; exact of_decide_eq_false hl
  have HA : auP s p = { p with ha := true, ho := s } := by
    have e1 : auS s = s := by unfold auS; rw [hc]; rfl
    unfold auP auU auH; rw [hc, e1, hl]; rfl
  have L1 := Lib.hid (fun w1 => Tryz.strings_LastIndexByte (s) 58 (by omega) w1)
  have L2 := Lib.hid (fun w1 => Tryz.strings_LastIndexByte (s) 93 (by omega) w1)
  rw [hK] at L1
  rw [HA] at x1 x2
  have CI := Lib.hid (fun w1 => is_any (p.us) ⟨#[58]⟩ w1 (by omega) (by decide))
  rw [show isB _ _ = _ from x1] at CI
  have CH := Lib.hid (fun w1 hv1 => host_any (s) w1 (by omega) hv1)
  rw [show hostB _ = _ from x2] at CH
  rw [HA]
  rw [hc] at CC
  clear h hv HA x1 x2 hc hl hK
  generalize cut1 s 64 = u at *
  generalize cut2 s 64 = t at *
  generalize Lib.lastIndexByte (s) 93 = j at *
  go_enter Tryz.func60, Tryz.ntmps60
  go_wp2_with (first | (go_at_call 125; refine (CH.out _ (HV.out.past hb4 HB2.out)).mono ?_; rintro e w3 ⟨rfl, hb⟩; have HB3 := Lib.hid (below_thru HB2.out hb (Nat.le_of_lt hbw.out)); have HP3 := Lib.hid (HP2.out.move hb); have e6 := HP3.out.c6; clear hb) | (go_at_call 62; refine (CI.out _).mono ?_; rintro e w2 ⟨rfl, hb⟩; have HB2 := Lib.hid (below_thru (below_set HB1.out _) hb (Nat.le_of_lt hbw.out)); have HP2 := Lib.hid (PAt.move (PAt.s4 HP1.out s) hb); have d4 := HP2.out.c4; have d6 := HP2.out.c6; clear hb) | (go_at_call 75; refine (L2.out _).mono ?_; rintro e w' ⟨rfl, hww⟩; rw [hww]; clear hww w') | (go_at_call 75; refine (L1.out _).mono ?_; rintro e w' ⟨rfl, hww⟩; rw [hww]; clear hww w') | (go_at_call 58; refine (CC.out _ (HV.out.past hb4 (below_set (Below.refl b w) _))).mono ?_; rintro e w1 ⟨rfl, hb⟩; have HB1 := Lib.hid (below_thru (below_set (Below.refl b w) _) hb (Nat.le_of_lt hbw.out)); have HP1 := Lib.hid ((HP.out.s5 true).move hb); have c2 := HP1.out.c2; have c3 := HP1.out.c3; have c4 := HP1.out.c4; have c6 := HP1.out.c6; have c7 := HP1.out.c7; have f2 := row_freeAt 2 HP1.out; have f3 := row_freeAt 3 HP1.out; have f4 := row_freeAt 4 HP1.out; have f6 := row_freeAt 6 HP1.out; have f7 := row_freeAt 7 HP1.out; clear hb c5 f5))
  go_ret
  all_goals exact ⟨by first | rfl | simp, HP3.out, HB3.out⟩
set_option maxHeartbeats 4000000 in
set_option maxRecDepth 100000 in
theorem au_FF_TTF (b : Nat) (p : PR) (s : ByteArray) (w : World) (h : PAt b p w) (hs : s.size ≤ 100000) (hu0 : p.us.size ≤ 100000) (hb4 : 4 < b) (hv : VarsOk w) (hc : cut3 s 64 = false) (hl : lastC (s) = false) (x1 : isB (auP s p).us ⟨#[58]⟩ = true) (x2 : hostB (auP s p).ho = true) (x3 : allB digR (auP s p).po = false) :
    Calls Tryz.prog 60 #[.pointer (some ⟨b, 0, none⟩), .string s] w fun e w' => e = .returned (.bool false) ∧ PAt b (auP s p) w' ∧ Below b w w' := by
  have HP := Lib.hid h
  have HV := Lib.hid hv
  have hbw := Lib.hid h.lt
  have c5 := h.c5
  have f5 := row_freeAt 5 h
  have CC := Lib.hid (fun w1 hv1 => cut_ch s 64 w1 (by omega) hv1)
  have hts : (s).size ≤ 100000 := hs
  obtain ⟨K, hK⟩ : ∃ K : Int, Lib.lastIndexByte (s) 58 = K := ⟨_, rfl⟩
  have hl2 : ¬ Lib.lastIndexByte (s) 93 < K := by rw [← hK]; exact of_decide_eq_false hl
  have HA : auP s p = { p with ha := true, ho := s } := by
    have e1 : auS s = s := by unfold auS; rw [hc]; rfl
    unfold auP auU auH; rw [hc, e1, hl]; rfl
  have L1 := Lib.hid (fun w1 => Tryz.strings_LastIndexByte (s) 58 (by omega) w1)
  have L2 := Lib.hid (fun w1 => Tryz.strings_LastIndexByte (s) 93 (by omega) w1)
  rw [hK] at L1
  rw [HA] at x1 x2 x3
  have CI := Lib.hid (fun w1 => is_any (p.us) ⟨#[58]⟩ w1 (by omega) (by decide))
  rw [show isB _ _ = _ from x1] at CI
  have CH := Lib.hid (fun w1 hv1 => host_any (s) w1 (by omega) hv1)
  rw [show hostB _ = _ from x2] at CH
  have CD := Lib.hid (fun w1 => all_dig p.po w1)
  rw [show allB _ _ = _ from x3] at CD
  rw [HA]
  rw [hc] at CC
  clear h hv HA x1 x2 x3 hc hl hK
  generalize cut1 s 64 = u at *
  generalize cut2 s 64 = t at *
  generalize Lib.lastIndexByte (s) 93 = j at *
  go_enter Tryz.func60, Tryz.ntmps60
  go_wp2_with (first | (go_at_call 120; refine (CD.out _).mono ?_; rintro e w4 ⟨rfl, hb⟩; have HB4 := Lib.hid (below_thru HB3.out hb (Nat.le_of_lt hbw.out)); have HP4 := Lib.hid (HP3.out.move hb); clear hb) | (go_at_call 125; refine (CH.out _ (HV.out.past hb4 HB2.out)).mono ?_; rintro e w3 ⟨rfl, hb⟩; have HB3 := Lib.hid (below_thru HB2.out hb (Nat.le_of_lt hbw.out)); have HP3 := Lib.hid (HP2.out.move hb); have e6 := HP3.out.c6; clear hb) | (go_at_call 62; refine (CI.out _).mono ?_; rintro e w2 ⟨rfl, hb⟩; have HB2 := Lib.hid (below_thru (below_set HB1.out _) hb (Nat.le_of_lt hbw.out)); have HP2 := Lib.hid (PAt.move (PAt.s4 HP1.out s) hb); have d4 := HP2.out.c4; have d6 := HP2.out.c6; clear hb) | (go_at_call 75; refine (L2.out _).mono ?_; rintro e w' ⟨rfl, hww⟩; rw [hww]; clear hww w') | (go_at_call 75; refine (L1.out _).mono ?_; rintro e w' ⟨rfl, hww⟩; rw [hww]; clear hww w') | (go_at_call 58; refine (CC.out _ (HV.out.past hb4 (below_set (Below.refl b w) _))).mono ?_; rintro e w1 ⟨rfl, hb⟩; have HB1 := Lib.hid (below_thru (below_set (Below.refl b w) _) hb (Nat.le_of_lt hbw.out)); have HP1 := Lib.hid ((HP.out.s5 true).move hb); have c2 := HP1.out.c2; have c3 := HP1.out.c3; have c4 := HP1.out.c4; have c6 := HP1.out.c6; have c7 := HP1.out.c7; have f2 := row_freeAt 2 HP1.out; have f3 := row_freeAt 3 HP1.out; have f4 := row_freeAt 4 HP1.out; have f6 := row_freeAt 6 HP1.out; have f7 := row_freeAt 7 HP1.out; clear hb c5 f5))
  go_ret
  all_goals exact ⟨by first | rfl | simp, HP4.out, HB4.out⟩
set_option maxHeartbeats 4000000 in
set_option maxRecDepth 100000 in
theorem au_FF_TTT (b : Nat) (p : PR) (s : ByteArray) (w : World) (h : PAt b p w) (hs : s.size ≤ 100000) (hu0 : p.us.size ≤ 100000) (hb4 : 4 < b) (hv : VarsOk w) (hc : cut3 s 64 = false) (hl : lastC (s) = false) (x1 : isB (auP s p).us ⟨#[58]⟩ = true) (x2 : hostB (auP s p).ho = true) (x3 : allB digR (auP s p).po = true) :
    Calls Tryz.prog 60 #[.pointer (some ⟨b, 0, none⟩), .string s] w fun e w' => e = .returned (.bool true) ∧ PAt b (auP s p) w' ∧ Below b w w' := by
  have HP := Lib.hid h
  have HV := Lib.hid hv
  have hbw := Lib.hid h.lt
  have c5 := h.c5
  have f5 := row_freeAt 5 h
  have CC := Lib.hid (fun w1 hv1 => cut_ch s 64 w1 (by omega) hv1)
  have hts : (s).size ≤ 100000 := hs
  obtain ⟨K, hK⟩ : ∃ K : Int, Lib.lastIndexByte (s) 58 = K := ⟨_, rfl⟩
  have hl2 : ¬ Lib.lastIndexByte (s) 93 < K := by rw [← hK]; exact of_decide_eq_false hl
  have HA : auP s p = { p with ha := true, ho := s } := by
    have e1 : auS s = s := by unfold auS; rw [hc]; rfl
    unfold auP auU auH; rw [hc, e1, hl]; rfl
  have L1 := Lib.hid (fun w1 => Tryz.strings_LastIndexByte (s) 58 (by omega) w1)
  have L2 := Lib.hid (fun w1 => Tryz.strings_LastIndexByte (s) 93 (by omega) w1)
  rw [hK] at L1
  rw [HA] at x1 x2 x3
  have CI := Lib.hid (fun w1 => is_any (p.us) ⟨#[58]⟩ w1 (by omega) (by decide))
  rw [show isB _ _ = _ from x1] at CI
  have CH := Lib.hid (fun w1 hv1 => host_any (s) w1 (by omega) hv1)
  rw [show hostB _ = _ from x2] at CH
  have CD := Lib.hid (fun w1 => all_dig p.po w1)
  rw [show allB _ _ = _ from x3] at CD
  rw [HA]
  rw [hc] at CC
  clear h hv HA x1 x2 x3 hc hl hK
  generalize cut1 s 64 = u at *
  generalize cut2 s 64 = t at *
  generalize Lib.lastIndexByte (s) 93 = j at *
  go_enter Tryz.func60, Tryz.ntmps60
  go_wp2_with (first | (go_at_call 120; refine (CD.out _).mono ?_; rintro e w4 ⟨rfl, hb⟩; have HB4 := Lib.hid (below_thru HB3.out hb (Nat.le_of_lt hbw.out)); have HP4 := Lib.hid (HP3.out.move hb); clear hb) | (go_at_call 125; refine (CH.out _ (HV.out.past hb4 HB2.out)).mono ?_; rintro e w3 ⟨rfl, hb⟩; have HB3 := Lib.hid (below_thru HB2.out hb (Nat.le_of_lt hbw.out)); have HP3 := Lib.hid (HP2.out.move hb); have e6 := HP3.out.c6; clear hb) | (go_at_call 62; refine (CI.out _).mono ?_; rintro e w2 ⟨rfl, hb⟩; have HB2 := Lib.hid (below_thru (below_set HB1.out _) hb (Nat.le_of_lt hbw.out)); have HP2 := Lib.hid (PAt.move (PAt.s4 HP1.out s) hb); have d4 := HP2.out.c4; have d6 := HP2.out.c6; clear hb) | (go_at_call 75; refine (L2.out _).mono ?_; rintro e w' ⟨rfl, hww⟩; rw [hww]; clear hww w') | (go_at_call 75; refine (L1.out _).mono ?_; rintro e w' ⟨rfl, hww⟩; rw [hww]; clear hww w') | (go_at_call 58; refine (CC.out _ (HV.out.past hb4 (below_set (Below.refl b w) _))).mono ?_; rintro e w1 ⟨rfl, hb⟩; have HB1 := Lib.hid (below_thru (below_set (Below.refl b w) _) hb (Nat.le_of_lt hbw.out)); have HP1 := Lib.hid ((HP.out.s5 true).move hb); have c2 := HP1.out.c2; have c3 := HP1.out.c3; have c4 := HP1.out.c4; have c6 := HP1.out.c6; have c7 := HP1.out.c7; have f2 := row_freeAt 2 HP1.out; have f3 := row_freeAt 3 HP1.out; have f4 := row_freeAt 4 HP1.out; have f6 := row_freeAt 6 HP1.out; have f7 := row_freeAt 7 HP1.out; clear hb c5 f5))
  go_ret
  all_goals exact ⟨by first | rfl | simp, HP4.out, HB4.out⟩
theorem au_TT (b : Nat) (p : PR) (s : ByteArray) (w : World) (h : PAt b p w) (hs : s.size ≤ 100000) (hu0 : p.us.size ≤ 100000) (hb4 : 4 < b) (hv : VarsOk w) (hc : cut3 s 64 = true) (hl : lastC (cut2 s 64) = true) : Calls Tryz.prog 60 #[.pointer (some ⟨b, 0, none⟩), .string s] w fun e w' => e = .returned (.bool (auOk (auP s p))) ∧ PAt b (auP s p) w' ∧ Below b w w' := by
  unfold auOk
  cases x1 : isB (auP s p).us ⟨#[58]⟩ with
  | false => exact au_TT_F b p s w h hs hu0 hb4 hv hc hl x1
  | true =>
    cases x2 : hostB (auP s p).ho with
    | false => exact au_TT_TF b p s w h hs hu0 hb4 hv hc hl x1 x2
    | true =>
      cases x3 : allB digR (auP s p).po with
      | false => exact au_TT_TTF b p s w h hs hu0 hb4 hv hc hl x1 x2 x3
      | true => exact au_TT_TTT b p s w h hs hu0 hb4 hv hc hl x1 x2 x3
theorem au_TF (b : Nat) (p : PR) (s : ByteArray) (w : World) (h : PAt b p w) (hs : s.size ≤ 100000) (hu0 : p.us.size ≤ 100000) (hb4 : 4 < b) (hv : VarsOk w) (hc : cut3 s 64 = true) (hl : lastC (cut2 s 64) = false) : Calls Tryz.prog 60 #[.pointer (some ⟨b, 0, none⟩), .string s] w fun e w' => e = .returned (.bool (auOk (auP s p))) ∧ PAt b (auP s p) w' ∧ Below b w w' := by
  unfold auOk
  cases x1 : isB (auP s p).us ⟨#[58]⟩ with
  | false => exact au_TF_F b p s w h hs hu0 hb4 hv hc hl x1
  | true =>
    cases x2 : hostB (auP s p).ho with
    | false => exact au_TF_TF b p s w h hs hu0 hb4 hv hc hl x1 x2
    | true =>
      cases x3 : allB digR (auP s p).po with
      | false => exact au_TF_TTF b p s w h hs hu0 hb4 hv hc hl x1 x2 x3
      | true => exact au_TF_TTT b p s w h hs hu0 hb4 hv hc hl x1 x2 x3
theorem au_FT (b : Nat) (p : PR) (s : ByteArray) (w : World) (h : PAt b p w) (hs : s.size ≤ 100000) (hu0 : p.us.size ≤ 100000) (hb4 : 4 < b) (hv : VarsOk w) (hc : cut3 s 64 = false) (hl : lastC (s) = true) : Calls Tryz.prog 60 #[.pointer (some ⟨b, 0, none⟩), .string s] w fun e w' => e = .returned (.bool (auOk (auP s p))) ∧ PAt b (auP s p) w' ∧ Below b w w' := by
  unfold auOk
  cases x1 : isB (auP s p).us ⟨#[58]⟩ with
  | false => exact au_FT_F b p s w h hs hu0 hb4 hv hc hl x1
  | true =>
    cases x2 : hostB (auP s p).ho with
    | false => exact au_FT_TF b p s w h hs hu0 hb4 hv hc hl x1 x2
    | true =>
      cases x3 : allB digR (auP s p).po with
      | false => exact au_FT_TTF b p s w h hs hu0 hb4 hv hc hl x1 x2 x3
      | true => exact au_FT_TTT b p s w h hs hu0 hb4 hv hc hl x1 x2 x3
theorem au_FF (b : Nat) (p : PR) (s : ByteArray) (w : World) (h : PAt b p w) (hs : s.size ≤ 100000) (hu0 : p.us.size ≤ 100000) (hb4 : 4 < b) (hv : VarsOk w) (hc : cut3 s 64 = false) (hl : lastC (s) = false) : Calls Tryz.prog 60 #[.pointer (some ⟨b, 0, none⟩), .string s] w fun e w' => e = .returned (.bool (auOk (auP s p))) ∧ PAt b (auP s p) w' ∧ Below b w w' := by
  unfold auOk
  cases x1 : isB (auP s p).us ⟨#[58]⟩ with
  | false => exact au_FF_F b p s w h hs hu0 hb4 hv hc hl x1
  | true =>
    cases x2 : hostB (auP s p).ho with
    | false => exact au_FF_TF b p s w h hs hu0 hb4 hv hc hl x1 x2
    | true =>
      cases x3 : allB digR (auP s p).po with
      | false => exact au_FF_TTF b p s w h hs hu0 hb4 hv hc hl x1 x2 x3
      | true => exact au_FF_TTT b p s w h hs hu0 hb4 hv hc hl x1 x2 x3
theorem au_any (b : Nat) (p : PR) (s : ByteArray) (w : World) (h : PAt b p w) (hs : s.size ≤ 100000) (hu0 : p.us.size ≤ 100000) (hb4 : 4 < b) (hv : VarsOk w) : Calls Tryz.prog 60 #[.pointer (some ⟨b, 0, none⟩), .string s] w fun e w' => e = .returned (.bool (auOk (auP s p))) ∧ PAt b (auP s p) w' ∧ Below b w w' := by
  cases hc : cut3 s 64 with
  | true =>
    cases hl : lastC (cut2 s 64) with
    | true => exact au_TT b p s w h hs hu0 hb4 hv hc hl
    | false => exact au_TF b p s w h hs hu0 hb4 hv hc hl
  | false =>
    cases hl : lastC s with
    | true => exact au_FT b p s w h hs hu0 hb4 hv hc hl
    | false => exact au_FF b p s w h hs hu0 hb4 hv hc hl
end Go.Proofs.YtakdjflhhaefiaaGreatDoor
