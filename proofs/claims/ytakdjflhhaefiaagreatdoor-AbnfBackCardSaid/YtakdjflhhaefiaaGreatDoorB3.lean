/- abnf: scheme, future, hostOf: at every text. -/
import Derived.Test.YtakdjflhhaefiaaGreatDoorB2
set_option linter.unusedVariables false
set_option linter.unusedSimpArgs false
namespace Go.Proofs.YtakdjflhhaefiaaGreatDoor
open Go.RowKit Go.Proofs.YtakdjflhhaefiaaGreatDoor.PDotsGo Go.Proofs.YtakdjflhhaefiaaGreatDoorW.PrintWords Go.Proofs.YtakdjflhhaefiaaGreatDoorW.PrintLast Go.Proofs.YtakdjflhhaefiaaGreatDoorW.PrintMore

def cut1 (t : ByteArray) (c : UInt8) : ByteArray := ⟨(Lib.cut t.data.toList [c]).1.toArray⟩
def cut2 (t : ByteArray) (c : UInt8) : ByteArray := ⟨(Lib.cut t.data.toList [c]).2.1.toArray⟩
def cut3 (t : ByteArray) (c : UInt8) : Bool := (Lib.cut t.data.toList [c]).2.2
theorem cut_ch (t : ByteArray) (c : UInt8) (w1 : World) (hs : t.size ≤ 1000000) (hv : VarsOk w1) : Calls Tryz.prog 58 #[.string t, .string ⟨#[c]⟩] w1 fun e w' => e = .returned (.tuple #[.string (cut1 t c), .string (cut2 t c), .bool (cut3 t c)]) ∧ Below w1.heap.size w1 w' := by
  obtain ⟨m, hm⟩ := hv.mx
  refine (Tryz.strings_Cut t ⟨#[c]⟩ m w1 (by omega) hm).mono ?_
  rintro e w' ⟨he, n, rfl⟩
  exact ⟨he, pw_below_drewN (Below.refl _ w1) n⟩
theorem cut1_size (t : ByteArray) (c : UInt8) : (cut1 t c).size ≤ t.size := by
  rw [size_len, size_len]
  exact cut_len1 t.data.toList [c]
theorem cut2_size (t : ByteArray) (c : UInt8) : (cut2 t c).size ≤ t.size := by
  rw [size_len, size_len]
  show (Lib.cut t.data.toList [c]).2.1.length ≤ _
  unfold Lib.cut
  split
  · simp
  · simp
theorem empty_pos {s : ByteArray} (h : s.toList.isEmpty = false) : 0 < s.size := (nonempty_size h).2

def schemeB (s : ByteArray) : Bool := !s.toList.isEmpty && (alpR (bt s 0) && allB schR s)
set_option maxHeartbeats 2000000 in
set_option maxRecDepth 100000 in
theorem scheme_any (s : ByteArray) (w : World) : Calls Tryz.prog 57 #[.string s] w fun e w' => e = .returned (.bool (schemeB s)) ∧ Below w.heap.size w w' := by
  have HS : Hid (schemeB s = (!s.toList.isEmpty && (alpR (bt s 0) && allB schR s))) := Lib.hid rfl
  have CA := Lib.hid (fun w1 => all_sch s w1)
  generalize allB schR s = al at CA HS
  cases hem : s.toList.isEmpty with
  | true =>
    have HF : Hid (schemeB s = false) := Lib.hid (by rw [HS.out, hem]; rfl)
    go_enter Tryz.func57, Tryz.ntmps57
    go_wp2
    go_ret
    exact ⟨by rw [HF.out] <;> rfl, Below.refl _ _⟩
  | false =>
    have hpos := empty_pos hem
    have hposI : (0 : Int) < (s.size : Int) := by omega
    have hb0 : (s[0]'hpos).toNat = bt s 0 := bt_nt hpos
    have hb1 := bt_range s 0
    have CP := Lib.hid (fun w1 => alp_calls (bt s 0) w1)
    cases hal : alpR (bt s 0) with
    | false =>
      have HF : Hid (schemeB s = false) := Lib.hid (by rw [HS.out, hem, hal]; rfl)
      rw [hal] at CP
      clear hal
      go_enter Tryz.func57, Tryz.ntmps57
      go_wp2_with (first | (go_at_call 119; refine (CP.out _).mono ?_; rintro e w1 ⟨rfl, hb⟩; have HB1 := Lib.hid hb; clear hb))
      go_ret
      exact ⟨by rw [HF.out] <;> rfl, HB1.out⟩
    | true =>
      have HF : Hid (schemeB s = al) := Lib.hid (by rw [HS.out, hem, hal]; rfl)
      rw [hal] at CP
      clear hal
      go_enter Tryz.func57, Tryz.ntmps57
      go_wp2_with (first | (go_at_call 120; refine (CA.out _).mono ?_; rintro e w2 ⟨rfl, hb⟩; have HB2 := Lib.hid (HB1.out.trans (hb.mono HB1.out.size)); clear hb) | (go_at_call 119; refine (CP.out _).mono ?_; rintro e w1 ⟨rfl, hb⟩; have HB1 := Lib.hid hb; clear hb))
      go_ret
      exact ⟨by rw [HF.out] <;> rfl, HB2.out⟩

def futR (t : ByteArray) : Bool := cut3 t 46 && (!(cut1 t 46).toList.isEmpty && (!(cut2 t 46).toList.isEmpty && (allB hexR (cut1 t 46) && (isB (cut2 t 46) ⟨#[58]⟩ && !decide (0 ≤ Lib.indexByte (cut2 t 46).data.toList 37)))))
def futureB (s : ByteArray) : Bool := !s.toList.isEmpty && ((bt s 0 == 118 || bt s 0 == 86) && futR (s.extract 1 s.size))
set_option maxHeartbeats 2000000 in
set_option maxRecDepth 100000 in
theorem future_any (s : ByteArray) (w : World) (hs : s.size ≤ 500000) (hv : VarsOk w) : Calls Tryz.prog 164 #[.string s] w fun e w' => e = .returned (.bool (futureB s)) ∧ Below w.heap.size w w' := by
  have HS : Hid (futureB s = (!s.toList.isEmpty && ((bt s 0 == 118 || bt s 0 == 86) && futR (s.extract 1 s.size)))) := Lib.hid rfl
  have hxs : (s.extract 1 s.size).size ≤ s.size := by rw [ByteArray.size_extract]; omega
  have CC := Lib.hid (cut_ch (s.extract 1 s.size) 46 w (by omega) hv)
  have hz := Nat.le_trans (cut2_size (s.extract 1 s.size) 46) hxs
  have CI := Lib.hid (fun w1 => is_any (cut2 (s.extract 1 s.size) 46) ⟨#[58]⟩ w1 (by omega) (by decide))
  have CA := Lib.hid (fun w1 => all_hex (cut1 (s.extract 1 s.size) 46) w1)
  have CN := Lib.hid (fun w1 => Tryz.strings_Contains_one (cut2 (s.extract 1 s.size) 46) 37 w1)
  have HT : Hid (futR (s.extract 1 s.size) = (cut3 (s.extract 1 s.size) 46 && (!(cut1 (s.extract 1 s.size) 46).toList.isEmpty && (!(cut2 (s.extract 1 s.size) 46).toList.isEmpty && (allB hexR (cut1 (s.extract 1 s.size) 46) && (isB (cut2 (s.extract 1 s.size) 46) ⟨#[58]⟩ && !decide (0 ≤ Lib.indexByte (cut2 (s.extract 1 s.size) 46).data.toList 37))))))) := Lib.hid rfl
  clear hz hxs
  generalize futR (s.extract 1 s.size) = fr at HT HS
  generalize cut3 (s.extract 1 s.size) 46 = ok at CC HT
  generalize decide (0 ≤ Lib.indexByte (cut2 (s.extract 1 s.size) 46).data.toList 37) = cn at CN HT
  generalize isB (cut2 (s.extract 1 s.size) 46) ⟨#[58]⟩ = ib at CI HT
  generalize allB hexR (cut1 (s.extract 1 s.size) 46) = al at CA HT
  generalize cut1 (s.extract 1 s.size) 46 = a at CC CA HT
  generalize cut2 (s.extract 1 s.size) 46 = b at CC CI CN HT
  cases hem : s.toList.isEmpty with
  | true =>
    have HF : Hid (futureB s = false) := Lib.hid (by rw [HS.out, hem]; rfl)
    go_enter Tryz.func164, Tryz.ntmps164
    go_wp2
    go_ret
    exact ⟨by rw [HF.out] <;> rfl, Below.refl _ _⟩
  | false =>
    have hpos := empty_pos hem
    have hposI : (0 : Int) < (s.size : Int) := by omega
    have hb0 : (s[0]'hpos).toNat = bt s 0 := bt_nt hpos
    have hb1 := bt_range s 0
    have h1 : (1 : Int) ≤ (s.size : Int) := by omega
    cases hv1 : (bt s 0 == 118) with
    | true =>
      have HG : Hid (futureB s = fr) := Lib.hid (by rw [HS.out, hem, hv1]; rfl)
      have hv2 : bt s 0 = 118 := by simpa using hv1
      clear HS
      cases ok with
      | false =>
        have HF : Hid (futureB s = false) := Lib.hid (by rw [HG.out, HT.out]; first | rfl | simp)
        go_enter Tryz.func164, Tryz.ntmps164
        go_wp2_with (first | (go_at_call 58; refine CC.out.mono ?_; rintro e w1 ⟨rfl, hb⟩; have HB1 := Lib.hid hb; clear hb))
        go_ret
        exact ⟨by rw [HF.out] <;> rfl, HB1.out⟩
      | true =>
        cases ha : a.toList.isEmpty with
        | true =>
          have HF : Hid (futureB s = false) := Lib.hid (by rw [HG.out, HT.out, ha]; first | rfl | simp)
          go_enter Tryz.func164, Tryz.ntmps164
          go_wp2_with (first | (go_at_call 58; refine CC.out.mono ?_; rintro e w1 ⟨rfl, hb⟩; have HB1 := Lib.hid hb; clear hb))
          go_ret
          exact ⟨by rw [HF.out] <;> rfl, HB1.out⟩
        | false =>
          cases hbb : b.toList.isEmpty with
          | true =>
            have HF : Hid (futureB s = false) := Lib.hid (by rw [HG.out, HT.out, ha, hbb]; first | rfl | simp)
            go_enter Tryz.func164, Tryz.ntmps164
            go_wp2_with (first | (go_at_call 58; refine CC.out.mono ?_; rintro e w1 ⟨rfl, hb⟩; have HB1 := Lib.hid hb; clear hb))
            go_ret
            exact ⟨by rw [HF.out] <;> rfl, HB1.out⟩
          | false =>
            cases al with
            | false =>
              have HF : Hid (futureB s = false) := Lib.hid (by rw [HG.out, HT.out, ha, hbb]; first | rfl | simp)
              go_enter Tryz.func164, Tryz.ntmps164
              go_wp2_with (first | (go_at_call 120; refine (CA.out _).mono ?_; rintro e w2 ⟨rfl, hb⟩; have HB2 := Lib.hid (HB1.out.trans (hb.mono HB1.out.size)); clear hb) | (go_at_call 58; refine CC.out.mono ?_; rintro e w1 ⟨rfl, hb⟩; have HB1 := Lib.hid hb; clear hb))
              go_ret
              exact ⟨by rw [HF.out] <;> rfl, HB2.out⟩
            | true =>
              cases ib with
              | false =>
                have HF : Hid (futureB s = false) := Lib.hid (by rw [HG.out, HT.out, ha, hbb]; first | rfl | simp)
                go_enter Tryz.func164, Tryz.ntmps164
                go_wp2_with (first | (go_at_call 62; refine (CI.out _).mono ?_; rintro e w3 ⟨rfl, hb⟩; have HB3 := Lib.hid (HB2.out.trans (hb.mono HB2.out.size)); clear hb) | (go_at_call 120; refine (CA.out _).mono ?_; rintro e w2 ⟨rfl, hb⟩; have HB2 := Lib.hid (HB1.out.trans (hb.mono HB1.out.size)); clear hb) | (go_at_call 58; refine CC.out.mono ?_; rintro e w1 ⟨rfl, hb⟩; have HB1 := Lib.hid hb; clear hb))
                go_ret
                exact ⟨by rw [HF.out] <;> rfl, HB3.out⟩
              | true =>
                have HF : Hid (futureB s = !cn) := Lib.hid (by rw [HG.out, HT.out, ha, hbb]; first | rfl | simp)
                go_enter Tryz.func164, Tryz.ntmps164
                go_wp2_with (first | (go_at_call 126; refine (CN.out _).mono ?_; rintro e w' ⟨rfl, hww⟩; rw [hww]; clear hww w') | (go_at_call 62; refine (CI.out _).mono ?_; rintro e w3 ⟨rfl, hb⟩; have HB3 := Lib.hid (HB2.out.trans (hb.mono HB2.out.size)); clear hb) | (go_at_call 120; refine (CA.out _).mono ?_; rintro e w2 ⟨rfl, hb⟩; have HB2 := Lib.hid (HB1.out.trans (hb.mono HB1.out.size)); clear hb) | (go_at_call 58; refine CC.out.mono ?_; rintro e w1 ⟨rfl, hb⟩; have HB1 := Lib.hid hb; clear hb))
                go_ret
                exact ⟨by rw [HF.out] <;> rfl, HB3.out⟩
    | false =>
      have hv2 : ¬ bt s 0 = 118 := by simpa using hv1
      cases hv3 : (bt s 0 == 86) with
      | true =>
        have HG : Hid (futureB s = fr) := Lib.hid (by rw [HS.out, hem, hv1, hv3]; rfl)
        have hv4 : bt s 0 = 86 := by simpa using hv3
        clear HS
        cases ok with
        | false =>
          have HF : Hid (futureB s = false) := Lib.hid (by rw [HG.out, HT.out]; first | rfl | simp)
          go_enter Tryz.func164, Tryz.ntmps164
          go_wp2_with (first | (go_at_call 58; refine CC.out.mono ?_; rintro e w1 ⟨rfl, hb⟩; have HB1 := Lib.hid hb; clear hb))
          go_ret
          exact ⟨by rw [HF.out] <;> rfl, HB1.out⟩
        | true =>
          cases ha : a.toList.isEmpty with
          | true =>
            have HF : Hid (futureB s = false) := Lib.hid (by rw [HG.out, HT.out, ha]; first | rfl | simp)
            go_enter Tryz.func164, Tryz.ntmps164
            go_wp2_with (first | (go_at_call 58; refine CC.out.mono ?_; rintro e w1 ⟨rfl, hb⟩; have HB1 := Lib.hid hb; clear hb))
            go_ret
            exact ⟨by rw [HF.out] <;> rfl, HB1.out⟩
          | false =>
            cases hbb : b.toList.isEmpty with
            | true =>
              have HF : Hid (futureB s = false) := Lib.hid (by rw [HG.out, HT.out, ha, hbb]; first | rfl | simp)
              go_enter Tryz.func164, Tryz.ntmps164
              go_wp2_with (first | (go_at_call 58; refine CC.out.mono ?_; rintro e w1 ⟨rfl, hb⟩; have HB1 := Lib.hid hb; clear hb))
              go_ret
              exact ⟨by rw [HF.out] <;> rfl, HB1.out⟩
            | false =>
              cases al with
              | false =>
                have HF : Hid (futureB s = false) := Lib.hid (by rw [HG.out, HT.out, ha, hbb]; first | rfl | simp)
                go_enter Tryz.func164, Tryz.ntmps164
                go_wp2_with (first | (go_at_call 120; refine (CA.out _).mono ?_; rintro e w2 ⟨rfl, hb⟩; have HB2 := Lib.hid (HB1.out.trans (hb.mono HB1.out.size)); clear hb) | (go_at_call 58; refine CC.out.mono ?_; rintro e w1 ⟨rfl, hb⟩; have HB1 := Lib.hid hb; clear hb))
                go_ret
                exact ⟨by rw [HF.out] <;> rfl, HB2.out⟩
              | true =>
                cases ib with
                | false =>
                  have HF : Hid (futureB s = false) := Lib.hid (by rw [HG.out, HT.out, ha, hbb]; first | rfl | simp)
                  go_enter Tryz.func164, Tryz.ntmps164
                  go_wp2_with (first | (go_at_call 62; refine (CI.out _).mono ?_; rintro e w3 ⟨rfl, hb⟩; have HB3 := Lib.hid (HB2.out.trans (hb.mono HB2.out.size)); clear hb) | (go_at_call 120; refine (CA.out _).mono ?_; rintro e w2 ⟨rfl, hb⟩; have HB2 := Lib.hid (HB1.out.trans (hb.mono HB1.out.size)); clear hb) | (go_at_call 58; refine CC.out.mono ?_; rintro e w1 ⟨rfl, hb⟩; have HB1 := Lib.hid hb; clear hb))
                  go_ret
                  exact ⟨by rw [HF.out] <;> rfl, HB3.out⟩
                | true =>
                  have HF : Hid (futureB s = !cn) := Lib.hid (by rw [HG.out, HT.out, ha, hbb]; first | rfl | simp)
                  go_enter Tryz.func164, Tryz.ntmps164
                  go_wp2_with (first | (go_at_call 126; refine (CN.out _).mono ?_; rintro e w' ⟨rfl, hww⟩; rw [hww]; clear hww w') | (go_at_call 62; refine (CI.out _).mono ?_; rintro e w3 ⟨rfl, hb⟩; have HB3 := Lib.hid (HB2.out.trans (hb.mono HB2.out.size)); clear hb) | (go_at_call 120; refine (CA.out _).mono ?_; rintro e w2 ⟨rfl, hb⟩; have HB2 := Lib.hid (HB1.out.trans (hb.mono HB1.out.size)); clear hb) | (go_at_call 58; refine CC.out.mono ?_; rintro e w1 ⟨rfl, hb⟩; have HB1 := Lib.hid hb; clear hb))
                  go_ret
                  exact ⟨by rw [HF.out] <;> rfl, HB3.out⟩
      | false =>
        have HF : Hid (futureB s = false) := Lib.hid (by rw [HS.out, hem, hv1, hv3]; rfl)
        have hv4 : ¬ bt s 0 = 86 := by simpa using hv3
        have hn1 : (bt s 0 != 118) = true := by simpa using hv2
        have hn2 : (bt s 0 != 86) = true := by simpa using hv4
        go_enter Tryz.func164, Tryz.ntmps164
        go_wp2
        go_ret
        exact ⟨by rw [HF.out] <;> rfl, Below.refl _ _⟩
end Go.Proofs.YtakdjflhhaefiaaGreatDoor
