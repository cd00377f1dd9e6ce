/- AbnfBack: the law's walk: the parts of a reference are put together to the same text again; a part less behind is a reference, too. -/
import Derived.Test.YtakdjflhhaefiaaGreatDoorE2
import Derived.Test.YtakdjflhhaefiaaGreatDoorE1
import Derived.Test.YtakdjflhhaefiaaGreatDoorXAw
set_option linter.unusedVariables false
set_option linter.unusedSimpArgs false
namespace Go.Proofs.YtakdjflhhaefiaaGreatDoor
open Go.RowKit Go.Proofs.YtakdjflhhaefiaaGreatDoor.PDotsGo Go.Proofs.YtakdjflhhaefiaaGreatDoorW.PrintWords Go.Proofs.YtakdjflhhaefiaaGreatDoorW.PrintLast Go.Proofs.YtakdjflhhaefiaaGreatDoorW.PrintMore
theorem ex_le (s : ByteArray) (i j : Nat) : (s.extract i j).size ≤ s.size := by rw [ByteArray.size_extract]; omega
theorem au_small (s : ByteArray) (p : PR) (hu : p.us = E0) (hpo : p.po = E0) : (auP s p).us.size ≤ s.size ∧ (auP s p).ho.size ≤ s.size ∧ (auP s p).po.size ≤ s.size := by
  have hS : (auS s).size ≤ s.size := by
    unfold auS; cases cut3 s 64
    · exact Nat.le_refl _
    · exact cut2_size s 64
  have hE : E0.size = 0 := rfl
  have hU : (auU s p).us.size ≤ s.size ∧ (auU s p).po = E0 := by
    unfold auU; cases cut3 s 64
    · exact ⟨by show p.us.size ≤ _; rw [hu, hE]; omega, hpo⟩
    · exact ⟨cut1_size s 64, hpo⟩
  unfold auP
  generalize auS s = t at hS
  generalize auU s p = q at hU
  unfold auH
  cases lastC t
  · exact ⟨hU.1, hS, by show q.po.size ≤ _; rw [hU.2, hE]; omega⟩
  · exact ⟨hU.1, Nat.le_trans (ex_le _ _ _) hS, Nat.le_trans (ex_le _ _ _) hS⟩
set_option maxHeartbeats 1000000 in
theorem mid_small (s : ByteArray) (hz : s.size ≤ 4096) : (midR s).1.small := by
  have hE : E0.size = 0 := rfl
  have h0 : (reS s).size ≤ 4096 := by
    unfold reS; cases colB s
    · exact hz
    · exact Nat.le_trans (ex_le _ _ _) hz
  have h1 := Nat.le_trans (cut1_size (reS s) 35) h0
  have h2 := Nat.le_trans (cut2_size (reS s) 35) h0
  have h3 := Nat.le_trans (cut1_size (cut1 (reS s) 35) 63) h1
  have h4 := Nat.le_trans (cut2_size (cut1 (reS s) 35) 63) h1
  have h5 : (scS s).size ≤ 4096 := by
    unfold scS; cases colB s
    · show E0.size ≤ 4096; decide
    · exact Nat.le_trans (ex_le _ _ _) hz
  have hk := fore_keeps (cut1 (cut1 (reS s) 35) 63) (p0 s (reS s))
  obtain ⟨k1, -, k3, -, k5, -⟩ := hk
  have hF : (midR s).1.us.size ≤ 4096 ∧ (midR s).1.ho.size ≤ 4096 ∧ (midR s).1.po.size ≤ 4096 ∧ (midR s).1.pa.size ≤ 4096 := by
    unfold midR
    generalize cut1 (cut1 (reS s) 35) 63 = r at h3
    have hp1 : (p0 s (reS s)).us = E0 := rfl
    have hp2 : (p0 s (reS s)).po = E0 := rfl
    have hp3 : (p0 s (reS s)).ho = E0 := rfl
    generalize p0 s (reS s) = p at hp1 hp2 hp3
    unfold fore
    cases Lib.hasPrefix r.data.toList [47, 47] with
    | false =>
      refine ⟨?_, ?_, ?_, h3⟩
      · show p.us.size ≤ _; rw [hp1, hE]; omega
      · show p.ho.size ≤ _; rw [hp3, hE]; omega
      · show p.po.size ≤ _; rw [hp2, hE]; omega
    | true =>
      have ht := Nat.le_trans (tp_size r ⟨#[47, 47]⟩) h3
      dsimp only [cond_true]
      generalize tpB r ⟨#[47, 47]⟩ = t at ht ⊢
      obtain ⟨a1, a2, a3⟩ := au_small (t.extract 0 (slI t)) p hp1 hp2
      have ha := Nat.le_trans (ex_le t 0 (slI t)) ht
      generalize auP (t.extract 0 (slI t)) p = q at a1 a2 a3 ⊢
      exact ⟨Nat.le_trans a1 ha, Nat.le_trans a2 ha, Nat.le_trans a3 ha, Nat.le_trans (ex_le _ _ _) ht⟩
  obtain ⟨f1, f2, f3, f4⟩ := hF
  have hm : midR s = fore (cut1 (cut1 (reS s) 35) 63) (p0 s (reS s)) := rfl
  have q1 : (p0 s (reS s)).sc = scS s := rfl
  have q3 : (p0 s (reS s)).qu = cut2 (cut1 (reS s) 35) 63 := rfl
  have q5 : (p0 s (reS s)).fr = cut2 (reS s) 35 := rfl
  rw [q1] at k1
  rw [q3] at k3
  rw [q5] at k5
  rw [← hm] at k1 k3 k5
  have g1 : (midR s).1.sc.size ≤ 4096 := by rw [k1]; exact h5
  have g3 : (midR s).1.qu.size ≤ 4096 := by rw [k3]; exact h4
  have g5 : (midR s).1.fr.size ≤ 4096 := by rw [k5]; exact h2
  generalize (midR s).1 = q at f1 f2 f3 f4 g1 g3 g5 ⊢
  have hle : 4096 ≤ 10000 := by decide
  exact ⟨Nat.le_trans g1 hle, Nat.le_trans f1 hle, Nat.le_trans f2 hle, Nat.le_trans f3 hle, Nat.le_trans f4 hle, Nat.le_trans g3 hle, Nat.le_trans g5 hle⟩
theorem parse_cases (s : ByteArray) : (parseR s = (PR.zero, 3)) ∨ (parseR s = (PR.zero, 5)) ∨ (parseR s = (PR.zero, 11)) ∨ ∃ p, parseR s = (p, 0) ∧ p.small := by
  unfold parseR
  split
  · exact .inl rfl
  · rename_i hz
    cases colB s && !schemeB (scS s) with
    | true => exact .inr (.inl rfl)
    | false =>
      cases chkB (midR s).1 (midR s).2 with
      | true => exact .inr (.inr (.inr ⟨_, rfl, mid_small s (by omega)⟩))
      | false => exact .inr (.inr (.inl rfl))

set_option maxHeartbeats 4000000 in
set_option maxRecDepth 100000 in
theorem back_bad3 (PD : ParseDoes) (s : ByteArray) {w : World} (hg : Xc.Good XC glob w.heap.size w) (hv : VarsOk w) (h : parseR s = (PR.zero, 3)) :
    Calls Tryz.prog 6 #[.string s] w fun e w' => e = .returned (.bool true) ∧ Below w.heap.size w w' := by
  have ca := Lib.hid (awake15 hg)
  have CP := Lib.hid (fun w1 hv1 => PD s w1 hv1)
  rw [h] at CP
  have HV := Lib.hid hv
  clear hg hv h
  go_enter Tryz.func6, Tryz.ntmps6
  go_wp2_with (first | (go_at_call 18; refine (CP.out _ (HV.out.move (Nat.le_refl _) HB1.out)).mono ?_; rintro e w2 ⟨he, hb⟩; (have he2 : e = .returned (.tuple #[.agg #[.string ⟨#[]⟩, .bool false, .string ⟨#[]⟩, .bool false, .string ⟨#[]⟩, .bool false, .string ⟨#[]⟩, .bool false, .string ⟨#[]⟩, .string ⟨#[]⟩, .bool false, .string ⟨#[]⟩, .bool false], .int .i64 3]) := he); subst he2; clear he; have HB2 := Lib.hid (HB1.out.trans (hb.mono HB1.out.size)); clear hb) | (go_at_call 17; refine ca.out.mono ?_; rintro e w1 ⟨rfl, hb⟩; have HB1 := Lib.hid hb; clear hb))
  go_ret
  exact ⟨rfl, HB2.out.alloc HB2.out.size _⟩
set_option maxHeartbeats 4000000 in
set_option maxRecDepth 100000 in
theorem back_bad5 (PD : ParseDoes) (s : ByteArray) {w : World} (hg : Xc.Good XC glob w.heap.size w) (hv : VarsOk w) (h : parseR s = (PR.zero, 5)) :
    Calls Tryz.prog 6 #[.string s] w fun e w' => e = .returned (.bool true) ∧ Below w.heap.size w w' := by
  have ca := Lib.hid (awake15 hg)
  have CP := Lib.hid (fun w1 hv1 => PD s w1 hv1)
  rw [h] at CP
  have HV := Lib.hid hv
  clear hg hv h
  go_enter Tryz.func6, Tryz.ntmps6
  go_wp2_with (first | (go_at_call 18; refine (CP.out _ (HV.out.move (Nat.le_refl _) HB1.out)).mono ?_; rintro e w2 ⟨he, hb⟩; (have he2 : e = .returned (.tuple #[.agg #[.string ⟨#[]⟩, .bool false, .string ⟨#[]⟩, .bool false, .string ⟨#[]⟩, .bool false, .string ⟨#[]⟩, .bool false, .string ⟨#[]⟩, .string ⟨#[]⟩, .bool false, .string ⟨#[]⟩, .bool false], .int .i64 5]) := he); subst he2; clear he; have HB2 := Lib.hid (HB1.out.trans (hb.mono HB1.out.size)); clear hb) | (go_at_call 17; refine ca.out.mono ?_; rintro e w1 ⟨rfl, hb⟩; have HB1 := Lib.hid hb; clear hb))
  go_ret
  exact ⟨rfl, HB2.out.alloc HB2.out.size _⟩
set_option maxHeartbeats 4000000 in
set_option maxRecDepth 100000 in
theorem back_bad11 (PD : ParseDoes) (s : ByteArray) {w : World} (hg : Xc.Good XC glob w.heap.size w) (hv : VarsOk w) (h : parseR s = (PR.zero, 11)) :
    Calls Tryz.prog 6 #[.string s] w fun e w' => e = .returned (.bool true) ∧ Below w.heap.size w w' := by
  have ca := Lib.hid (awake15 hg)
  have CP := Lib.hid (fun w1 hv1 => PD s w1 hv1)
  rw [h] at CP
  have HV := Lib.hid hv
  clear hg hv h
  go_enter Tryz.func6, Tryz.ntmps6
  go_wp2_with (first | (go_at_call 18; refine (CP.out _ (HV.out.move (Nat.le_refl _) HB1.out)).mono ?_; rintro e w2 ⟨he, hb⟩; (have he2 : e = .returned (.tuple #[.agg #[.string ⟨#[]⟩, .bool false, .string ⟨#[]⟩, .bool false, .string ⟨#[]⟩, .bool false, .string ⟨#[]⟩, .bool false, .string ⟨#[]⟩, .string ⟨#[]⟩, .bool false, .string ⟨#[]⟩, .bool false], .int .i64 11]) := he); subst he2; clear he; have HB2 := Lib.hid (HB1.out.trans (hb.mono HB1.out.size)); clear hb) | (go_at_call 17; refine ca.out.mono ?_; rintro e w1 ⟨rfl, hb⟩; have HB1 := Lib.hid hb; clear hb))
  go_ret
  exact ⟨rfl, HB2.out.alloc HB2.out.size _⟩
set_option maxHeartbeats 4000000 in
set_option maxRecDepth 100000 in
theorem back_good (PD : ParseDoes) (s : ByteArray) {w : World} (hg : Xc.Good XC glob w.heap.size w) (hv : VarsOk w) (p : PR) (h : parseR s = (p, 0)) (hz : p.small) :
    Calls Tryz.prog 6 #[.string s] w fun e w' => e = .returned (.bool true) ∧ Below w.heap.size w w' := by
  have ca := Lib.hid (awake15 hg)
  have CP := Lib.hid (fun w1 hv1 => PD s w1 hv1)
  rw [h] at CP
  have HV := Lib.hid hv
  have htx := text_back s p h
  have CT := Lib.hid (fun w1 => text_any p w1 hz)
  rw [htx] at CT
  have hE : E0.size ≤ 10000 := by decide
  have CR0 := Lib.hid (fun w1 hv1 => right_ok PD p w1 hz hv1 (by rw [htx]; exact h))
  have h1 := less_frag s p h
  have CR1 := Lib.hid (fun w1 hv1 => right_ok PD { p with fr := E0, hf := false } w1 ⟨hz.1, hz.2.1, hz.2.2.1, hz.2.2.2.1, hz.2.2.2.2.1, hz.2.2.2.2.2.1, hE⟩ hv1 h1)
  have h2 := less_query _ _ h1 rfl rfl
  have CR2 := Lib.hid (fun w1 hv1 => right_ok PD { p with fr := E0, hf := false, qu := E0, hq := false } w1 ⟨hz.1, hz.2.1, hz.2.2.1, hz.2.2.2.1, hz.2.2.2.2.1, hE, hE⟩ hv1 h2)
  clear hg hv h h1 h2 htx hE hz
  have HW : Hid (∀ w2 : World, PAt w2.heap.size p (w2.alloc (.cells #[.string p.sc, .bool p.hs, .string p.us, .bool p.hu, .string p.ho, .bool p.ha, .string p.po, .bool p.hp, .string p.pa, .string p.qu, .bool p.hq, .string p.fr, .bool p.hf] 40))) := Lib.hid (fun w2 => World.alloc_heap_new w2 _)
  go_enter Tryz.func6, Tryz.ntmps6
  go_wp2_with (first | (go_at_call 21; have hgd := HB5; clear hgd; refine (CR2.out _ (HV.out.move (Nat.le_refl _) ((HB5.out.setCell (p := ⟨w2.heap.size, 9, none⟩) hw2 (.string E0)).setCell (p := ⟨w2.heap.size, 10, none⟩) hw2 (.bool false)))).mono ?_; rintro e w6 ⟨rfl, hb⟩; have HB6 := Lib.hid (Below.trans ((HB5.out.setCell (p := ⟨w2.heap.size, 9, none⟩) hw2 (.string E0)).setCell (p := ⟨w2.heap.size, 10, none⟩) hw2 (.bool false)) (Below.mono hb (Below.size ((HB5.out.setCell (p := ⟨w2.heap.size, 9, none⟩) hw2 (.string E0)).setCell (p := ⟨w2.heap.size, 10, none⟩) hw2 (.bool false))))); have HP6 := Lib.hid (PAt.move ((HP5.out.s9 E0).s10 false) hb); clear hb) | (go_at_call 21; have hgd := HB4; clear hgd; refine (CR1.out _ (HV.out.move (Nat.le_refl _) ((HB4.out.setCell (p := ⟨w2.heap.size, 11, none⟩) hw2 (.string E0)).setCell (p := ⟨w2.heap.size, 12, none⟩) hw2 (.bool false)))).mono ?_; rintro e w5 ⟨rfl, hb⟩; have HB5 := Lib.hid (Below.trans ((HB4.out.setCell (p := ⟨w2.heap.size, 11, none⟩) hw2 (.string E0)).setCell (p := ⟨w2.heap.size, 12, none⟩) hw2 (.bool false)) (Below.mono hb (Below.size ((HB4.out.setCell (p := ⟨w2.heap.size, 11, none⟩) hw2 (.string E0)).setCell (p := ⟨w2.heap.size, 12, none⟩) hw2 (.bool false))))); have HP5 := Lib.hid (PAt.move ((HP4.out.s11 E0).s12 false) hb); have d5_0 := HP5.out.c0; have d5_1 := HP5.out.c1; have d5_2 := HP5.out.c2; have d5_3 := HP5.out.c3; have d5_4 := HP5.out.c4; have d5_5 := HP5.out.c5; have d5_6 := HP5.out.c6; have d5_7 := HP5.out.c7; have d5_8 := HP5.out.c8; have d5_9 := HP5.out.c9; have d5_10 := HP5.out.c10; have d5_11 := HP5.out.c11; have d5_12 := HP5.out.c12; have d5_f9 := row_freeAt 9 HP5.out; have d5_f10 := row_freeAt 10 HP5.out; have d5_f11 := row_freeAt 11 HP5.out; have d5_f12 := row_freeAt 12 HP5.out; clear hb) | (go_at_call 21; have hgd := HB3; clear hgd; refine (CR0.out _ (HV.out.move (Nat.le_refl _) HB3.out)).mono ?_; rintro e w4 ⟨rfl, hb⟩; have HB4 := Lib.hid (Below.trans HB3.out (Below.mono hb (Below.size HB3.out))); have HP4 := Lib.hid (PAt.move HP3.out hb); have d4_0 := HP4.out.c0; have d4_1 := HP4.out.c1; have d4_2 := HP4.out.c2; have d4_3 := HP4.out.c3; have d4_4 := HP4.out.c4; have d4_5 := HP4.out.c5; have d4_6 := HP4.out.c6; have d4_7 := HP4.out.c7; have d4_8 := HP4.out.c8; have d4_9 := HP4.out.c9; have d4_10 := HP4.out.c10; have d4_11 := HP4.out.c11; have d4_12 := HP4.out.c12; have d4_f9 := row_freeAt 9 HP4.out; have d4_f10 := row_freeAt 10 HP4.out; have d4_f11 := row_freeAt 11 HP4.out; have d4_f12 := row_freeAt 12 HP4.out; clear hb) | (go_at_call 20; refine (CT.out _).mono ?_; rintro e w3 ⟨rfl, hb⟩; have HB3 := Lib.hid (Below.trans HB2.out (Below.mono hb (Below.size HB2.out))); have HP3 := Lib.hid (PAt.move HP2.out hb); have d3_0 := HP3.out.c0; have d3_1 := HP3.out.c1; have d3_2 := HP3.out.c2; have d3_3 := HP3.out.c3; have d3_4 := HP3.out.c4; have d3_5 := HP3.out.c5; have d3_6 := HP3.out.c6; have d3_7 := HP3.out.c7; have d3_8 := HP3.out.c8; have d3_9 := HP3.out.c9; have d3_10 := HP3.out.c10; have d3_11 := HP3.out.c11; have d3_12 := HP3.out.c12; have d3_f9 := row_freeAt 9 HP3.out; have d3_f10 := row_freeAt 10 HP3.out; have d3_f11 := row_freeAt 11 HP3.out; have d3_f12 := row_freeAt 12 HP3.out; clear hb) | (go_at_call 18; refine (CP.out _ (HV.out.move (Nat.le_refl _) HB1.out)).mono ?_; rintro e w2 ⟨he, hb⟩; (have he2 : e = .returned (.tuple #[.agg #[.string p.sc, .bool p.hs, .string p.us, .bool p.hu, .string p.ho, .bool p.ha, .string p.po, .bool p.hp, .string p.pa, .string p.qu, .bool p.hq, .string p.fr, .bool p.hf], .int .i64 0]) := he); subst he2; clear he; have HB20 := Lib.hid (HB1.out.trans (hb.mono HB1.out.size)); have HB2 : Hid (Below w.heap.size w (w2.alloc (.cells #[.string p.sc, .bool p.hs, .string p.us, .bool p.hu, .string p.ho, .bool p.ha, .string p.po, .bool p.hp, .string p.pa, .string p.qu, .bool p.hq, .string p.fr, .bool p.hf] 40))) := Lib.hid (HB20.out.alloc HB20.out.size _); have hw2 := HB20.out.size; have HP2 := Lib.hid (HW.out w2); clear hb) | (go_at_call 17; refine ca.out.mono ?_; rintro e w1 ⟨rfl, hb⟩; have HB1 := Lib.hid hb; clear hb))
  go_ret
  exact ⟨rfl, HB6.out⟩
theorem back_with (PD : ParseDoes) (s : ByteArray) {w : World} (hg : Xc.Good XC glob w.heap.size w) (hv : VarsOk w) :
    Calls Tryz.prog 6 #[.string s] w fun e w' => e = .returned (.bool true) ∧ Below w.heap.size w w' := by
  rcases parse_cases s with h | h | h | ⟨p, h, hz⟩
  · exact back_bad3 PD s hg hv h
  · exact back_bad5 PD s hg hv h
  · exact back_bad11 PD s hg hv h
  · exact back_good PD s hg hv p h hz
end Go.Proofs.YtakdjflhhaefiaaGreatDoor
