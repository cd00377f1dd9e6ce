/- abnf.hostOf: at every text. -/
import Derived.Test.YtakdjflhhaefiaaGreatDoorB3
set_option linter.unusedVariables false
set_option linter.unusedSimpArgs false
namespace Go.Proofs.YtakdjflhhaefiaaGreatDoor
open Go.RowKit Go.Proofs.YtakdjflhhaefiaaGreatDoor.PDotsGo Go.Proofs.YtakdjflhhaefiaaGreatDoorW.PrintWords Go.Proofs.YtakdjflhhaefiaaGreatDoorW.PrintLast Go.Proofs.YtakdjflhhaefiaaGreatDoorW.PrintMore

def tpB (s p : ByteArray) : ByteArray := ⟨(Lib.trimPrefix s.data.toList p.data.toList).toArray⟩
def tsB (s p : ByteArray) : ByteArray := ⟨(Lib.trimSuffix s.data.toList p.data.toList).toArray⟩
theorem tp_size (s p : ByteArray) : (tpB s p).size ≤ s.size := by
  rw [size_len, size_len]
  show (Lib.trimPrefix s.data.toList p.data.toList).length ≤ _
  unfold Lib.trimPrefix
  split
  · simp
  · exact Nat.le_refl _
theorem ts_size (s p : ByteArray) : (tsB s p).size ≤ s.size := by
  rw [size_len, size_len]
  show (Lib.trimSuffix s.data.toList p.data.toList).length ≤ _
  unfold Lib.trimSuffix
  split
  · simp
  · exact Nat.le_refl _
def innerB (t : ByteArray) : Bool := Lib.hasSuffix t.data.toList [93] && (sixB (tsB t ⟨#[93]⟩) || futureB (tsB t ⟨#[93]⟩))
def hostB (s : ByteArray) : Bool := if Lib.hasPrefix s.data.toList [91] = true then innerB (tpB s ⟨#[91]⟩) else isB s ⟨#[]⟩
set_option maxHeartbeats 2000000 in
set_option maxRecDepth 100000 in
theorem host_any (s : ByteArray) (w : World) (hs : s.size ≤ 500000) (hv : VarsOk w) : Calls Tryz.prog 125 #[.string s] w fun e w' => e = .returned (.bool (hostB s)) ∧ Below w.heap.size w w' := by
  have c1 := Lib.hid (Tryz.strings_CutPrefix s ⟨#[91]⟩ w)
  cases hp : Lib.hasPrefix s.data.toList [91] with
  | false =>
    have HF : Hid (hostB s = isB s ⟨#[]⟩) := Lib.hid (by unfold hostB; rw [hp]; rfl)
    have c2 : Hid (Calls Tryz.prog 38 #[.string s, .string ⟨#[91]⟩] w fun e w' => e = .returned (.tuple #[.string (tpB s ⟨#[91]⟩), .bool false]) ∧ w' = w) := Lib.hid (c1.out.mono (fun e w' h => ⟨by rw [h.1]; show Ending.returned (.tuple #[_, .bool (Lib.hasPrefix s.data.toList [91])]) = _; rw [hp]; rfl, h.2⟩))
    have ci := Lib.hid (is_any s ⟨#[]⟩ w hs (by decide))
    clear c1 hp
    go_enter Tryz.func125, Tryz.ntmps125
    go_wp2_with (first | (go_at_call 62; refine ci.out.mono ?_; rintro e w1 ⟨rfl, hb⟩; have HB1 := Lib.hid hb; clear hb) | (go_at_call 38; refine c2.out.mono ?_; rintro e w' ⟨rfl, hww⟩; rw [hww]; clear hww w'))
    go_ret
    exact ⟨by rw [HF.out] <;> rfl, HB1.out⟩
  | true =>
    have HG : Hid (hostB s = innerB (tpB s ⟨#[91]⟩)) := Lib.hid (by unfold hostB; rw [hp]; rfl)
    have c2 : Hid (Calls Tryz.prog 38 #[.string s, .string ⟨#[91]⟩] w fun e w' => e = .returned (.tuple #[.string (tpB s ⟨#[91]⟩), .bool true]) ∧ w' = w) := Lib.hid (c1.out.mono (fun e w' h => ⟨by rw [h.1]; show Ending.returned (.tuple #[_, .bool (Lib.hasPrefix s.data.toList [91])]) = _; rw [hp]; rfl, h.2⟩))
    have hz := tp_size s ⟨#[91]⟩
    clear c1 hp
    generalize tpB s ⟨#[91]⟩ = t at c2 HG hz
    have c3 : Hid (Calls Tryz.prog 39 #[.string t, .string ⟨#[93]⟩] w fun e w' => e = .returned (.tuple #[.string (tsB t ⟨#[93]⟩), .bool (Lib.hasSuffix t.data.toList [93])]) ∧ w' = w) := Lib.hid (Tryz.strings_CutSuffix t ⟨#[93]⟩ w (by omega))
    have hz2 := ts_size t ⟨#[93]⟩
    have HI : Hid (innerB t = (Lib.hasSuffix t.data.toList [93] && (sixB (tsB t ⟨#[93]⟩) || futureB (tsB t ⟨#[93]⟩)))) := Lib.hid rfl
    generalize Lib.hasSuffix t.data.toList [93] = ok at c3 HI
    generalize tsB t ⟨#[93]⟩ = u at c3 HI hz2
    have c4 := Lib.hid (six_any u w (by omega) hv)
    have c5 := Lib.hid (fun w1 hv1 => future_any u w1 (by omega) hv1)
    have HV := Lib.hid hv
    clear hv
    generalize sixB u = sx at c4 HI
    generalize futureB u = fu at c5 HI
    cases ok with
    | false =>
      have HF : Hid (hostB s = false) := Lib.hid (by rw [HG.out, HI.out]; rfl)
      go_enter Tryz.func125, Tryz.ntmps125
      go_wp2_with (first | (go_at_call 40; refine c4.out.mono ?_; rintro e w1 ⟨hi, lo, rfl, hb⟩; have HB1 := Lib.hid (hb.alloc hb.size (.cells #[.int .u64 hi, .int .u64 lo] 64)); clear hb) | (go_at_call 39; refine c3.out.mono ?_; rintro e w' ⟨rfl, hww⟩; rw [hww]; clear hww w') | (go_at_call 38; refine c2.out.mono ?_; rintro e w' ⟨rfl, hww⟩; rw [hww]; clear hww w'))
      go_ret
      exact ⟨by rw [HF.out] <;> rfl, HB1.out⟩
    | true =>
      cases sx with
      | true =>
        have HF : Hid (hostB s = true) := Lib.hid (by rw [HG.out, HI.out]; rfl)
        go_enter Tryz.func125, Tryz.ntmps125
        go_wp2_with (first | (go_at_call 40; refine c4.out.mono ?_; rintro e w1 ⟨hi, lo, rfl, hb⟩; have HB1 := Lib.hid (hb.alloc hb.size (.cells #[.int .u64 hi, .int .u64 lo] 64)); clear hb) | (go_at_call 39; refine c3.out.mono ?_; rintro e w' ⟨rfl, hww⟩; rw [hww]; clear hww w') | (go_at_call 38; refine c2.out.mono ?_; rintro e w' ⟨rfl, hww⟩; rw [hww]; clear hww w'))
        go_ret
        exact ⟨by rw [HF.out] <;> rfl, HB1.out⟩
      | false =>
        have HF : Hid (hostB s = fu) := Lib.hid (by rw [HG.out, HI.out]; rfl)
        go_enter Tryz.func125, Tryz.ntmps125
        go_wp2_with (first | (go_at_call 164; refine (c5.out _ (HV.out.move (Nat.le_refl _) HB1.out)).mono ?_; rintro e w2 ⟨rfl, hb⟩; have HB2 := Lib.hid (HB1.out.trans (hb.mono HB1.out.size)); clear hb) | (go_at_call 40; refine c4.out.mono ?_; rintro e w1 ⟨hi, lo, rfl, hb⟩; have HB1 := Lib.hid (hb.alloc hb.size (.cells #[.int .u64 hi, .int .u64 lo] 64)); clear hb) | (go_at_call 39; refine c3.out.mono ?_; rintro e w' ⟨rfl, hww⟩; rw [hww]; clear hww w') | (go_at_call 38; refine c2.out.mono ?_; rintro e w' ⟨rfl, hww⟩; rw [hww]; clear hww w'))
        go_ret
        exact ⟨by rw [HF.out] <;> rfl, HB2.out⟩
end Go.Proofs.YtakdjflhhaefiaaGreatDoor
