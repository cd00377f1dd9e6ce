/- abnf: plain, pct, Is: at every text. -/
import Derived.Test.YtakdjflhhaefiaaGreatDoorA10
set_option linter.unusedVariables false
set_option linter.unusedSimpArgs false
namespace Go.Proofs.YtakdjflhhaefiaaGreatDoor
open Go.RowKit Go.Proofs.YtakdjflhhaefiaaGreatDoor.PDotsGo Go.Proofs.YtakdjflhhaefiaaGreatDoorW.PrintWords Go.Proofs.YtakdjflhhaefiaaGreatDoorW.PrintLast Go.Proofs.YtakdjflhhaefiaaGreatDoorW.PrintMore

theorem bt_nt {s : ByteArray} {i : Nat} (h : i < s.size) : ((s[i]'h).toNat : Int) = bt s (i : Int) := by
  unfold bt
  rw [dif_pos (show (i : Int).toNat < s.size by omega)]
  congr 1
/-- The marks, and what delimits parts of a part. -/
def marksB : ByteArray := ⟨#[45, 46, 95, 126, 33, 36, 38, 39, 40, 41, 42, 43, 44, 59, 61]⟩
def plainB (c : Int) (of : ByteArray) : Bool := alpR c || digR c || decide (0 ≤ Lib.indexByte (marksB ++ of).data.toList c.toNat.toUInt8)
set_option maxHeartbeats 1000000 in
theorem plain_any (c : Int) (of : ByteArray) (w : World) (hc : 0 ≤ c ∧ c ≤ 255) (hof : of.size ≤ 100) :
    Calls Tryz.prog 127 #[.int .u8 c, .string of] w fun e w' => e = .returned (.bool (plainB c of)) ∧ Below w.heap.size w w' := by
  obtain ⟨h0, h1⟩ := hc
  have HM : Hid (∀ w1, Calls Tryz.prog 59 #[.string (⟨#[45, 46, 95, 126, 33, 36, 38, 39, 40, 41, 42, 43, 44, 59, 61]⟩ ++ of), .int .u8 c] w1 fun e w' => e = .returned (.int .i64 (Lib.indexByte (marksB ++ of).data.toList c.toNat.toUInt8)) ∧ w' = w1) := Lib.hid (fun w1 => Tryz.strings_IndexByte _ c w1)
  have ca := Lib.hid (alp_calls c w)
  have cd := Lib.hid (fun w1 => dig_calls c w1)
  have HP : Hid (plainB c of = (alpR c || digR c || decide (0 ≤ Lib.indexByte (marksB ++ of).data.toList c.toNat.toUInt8))) := Lib.hid rfl
  generalize Lib.indexByte (marksB ++ of).data.toList c.toNat.toUInt8 = ix at HM HP
  cases hal : alpR c with
  | true =>
    rw [hal] at ca
    have HF : Hid (plainB c of = true) := Lib.hid (by rw [HP.out, hal]; rfl)
    clear hal
    go_enter Tryz.func127, Tryz.ntmps127
    go_wp2_with (first | (go_at_call 119; refine ca.out.mono ?_; rintro e w1 ⟨rfl, hb⟩; have HB1 := Lib.hid hb; clear hb))
    go_ret
    exact ⟨by rw [HF.out] <;> rfl, HB1.out⟩
  | false =>
    rw [hal] at ca
    cases hdi : digR c with
    | true =>
      rw [hdi] at cd
      have HF : Hid (plainB c of = true) := Lib.hid (by rw [HP.out, hal, hdi]; rfl)
      clear hal hdi
      go_enter Tryz.func127, Tryz.ntmps127
      go_wp2_with (first | (go_at_call 122; refine (cd.out _).mono ?_; rintro e w2 ⟨rfl, hb⟩; have HB2 := Lib.hid (HB1.out.trans (hb.mono HB1.out.size)); clear hb) | (go_at_call 119; refine ca.out.mono ?_; rintro e w1 ⟨rfl, hb⟩; have HB1 := Lib.hid hb; clear hb))
      go_ret
      exact ⟨by rw [HF.out] <;> rfl, HB2.out⟩
    | false =>
      rw [hdi] at cd
      have HF : Hid (plainB c of = decide (0 ≤ ix)) := Lib.hid (by rw [HP.out, hal, hdi]; rfl)
      clear hal hdi
      go_enter Tryz.func127, Tryz.ntmps127
      go_wp2_with (first | (go_at_call 59; refine (HM.out _).mono ?_; rintro e w' ⟨rfl, hww⟩; rw [hww]; clear hww w') | (go_at_call 122; refine (cd.out _).mono ?_; rintro e w2 ⟨rfl, hb⟩; have HB2 := Lib.hid (HB1.out.trans (hb.mono HB1.out.size)); clear hb) | (go_at_call 119; refine ca.out.mono ?_; rintro e w1 ⟨rfl, hb⟩; have HB1 := Lib.hid hb; clear hb))
      go_ret
      exact ⟨by rw [HF.out] <;> rfl, HB2.out⟩

def pctB (s : ByteArray) (i : Int) : Bool := decide (i + 2 < (s.size : Int)) && decide (bt s i = 37) && decide (0 ≤ hexV (bt s (i + 1))) && decide (0 ≤ hexV (bt s (i + 2)))
theorem pct_any (s : ByteArray) (i : Int) (w : World) (hi : 0 ≤ i) (hs : s.size ≤ 500000) (his : i < s.size) :
    Calls Tryz.prog 128 #[.string s, .int .i64 i] w fun e w' => e = .returned (.bool (pctB s i)) ∧ Below w.heap.size w w' := by
  refine (abnf_pct.calls 1 s i (pctB s i) w ?_).mono (fun e w' h => ⟨h.1, h.2.below⟩)
  unfold abnf_pct.f pctB
  have b1 := bt_range s (i + 1)
  have b2 := bt_range s (i + 2)
  rw [w64b (n := i + 2) (by omega), w64b (n := i + 1) (by omega), w32b (n := bt s (i + 1)) (by omega), w32b (n := bt s (i + 2)) (by omega), hex_f, hex_f]
  simp only [Option.bind_some]
  by_cases h2 : i + 2 < (s.size : Int)
  · rw [if_pos h2, if_pos hi, if_pos his, decide_eq_true h2]
    by_cases h37 : bt s i = 37
    · rw [if_pos h37, if_pos (by omega), if_pos (by omega), decide_eq_true h37]
      by_cases hv : hexV (bt s (i + 1)) ≥ 0
      · rw [if_pos hv, if_pos (by omega), decide_eq_true (show 0 ≤ hexV (bt s (i + 1)) from hv)]; rfl
      · rw [if_neg hv, decide_eq_false (show ¬ 0 ≤ hexV (bt s (i + 1)) from hv)]; rfl
    · rw [if_neg h37, decide_eq_false h37]; rfl
  · rw [if_neg h2, decide_eq_false h2]; rfl

def isFrom (s of : ByteArray) : Nat → Nat → Bool
  | 0, _ => true
  | k + 1, i => if i < s.size then (if plainB (bt s (i : Int)) of then isFrom s of k (i + 1) else if pctB s (i : Int) then isFrom s of k (i + 3) else false) else true
def isB (s of : ByteArray) : Bool := isFrom s of (s.size + 1) 0
theorem isFrom_end {s of : ByteArray} {k i : Nat} (h : ¬ i < s.size) : isFrom s of k i = true := by
  cases k with
  | zero => rfl
  | succ k => unfold isFrom; rw [if_neg h]

set_option maxHeartbeats 2000000 in
theorem is_any (s of : ByteArray) (w : World) (hs : s.size ≤ 500000) (hof : of.size ≤ 100) :
    Calls Tryz.prog 62 #[.string s, .string of] w fun e w' => e = .returned (.bool (isB s of)) ∧ Below w.heap.size w w' := by
  go_enter Tryz.func62, Tryz.ntmps62
  go_wp2
  go_loopw [5] (fun v5 wr => ∃ (i k : Nat), v5 = .int .i64 i ∧ i ≤ s.size ∧ Hid (Below w.heap.size w wr) ∧ s.size < i + k ∧ Hid (isB s of = isFrom s of k i)) (fun v5 _ => s.size - (intOf v5).toNat)
  case atStart => exact ⟨0, s.size + 1, rfl, Nat.zero_le _, Lib.hid (Below.refl _ _), by omega, Lib.hid rfl⟩
  case round =>
    obtain ⟨i, k, rfl, hi, HB, hk, HS⟩ := hrel
    obtain ⟨k, rfl⟩ : ∃ k', k = k' + 1 := ⟨k - 1, by omega⟩
    by_cases hlt : i < s.size
    · have HS2 : Hid (isB s of = if plainB (bt s (i : Int)) of then isFrom s of k (i + 1) else if pctB s (i : Int) then isFrom s of k (i + 3) else false) := Lib.hid (by rw [HS.out]; show (if i < s.size then _ else _) = _; rw [if_pos hlt])
      have hltI : (i : Int) < (s.size : Int) := by omega
      have c1 := Lib.hid (plain_any (bt s (i : Int)) of wr (bt_range s _) hof)
      have c2 := Lib.hid (fun w1 => pct_any s (i : Int) w1 (by omega) hs hltI)
      have hb0 : (s[i]'hlt).toNat = bt s (i : Int) := bt_nt hlt
      clear HS
      cases hp : plainB (bt s (i : Int)) of with
      | true =>
        rw [hp] at c1
        have HF : Hid (isB s of = isFrom s of k (i + 1)) := Lib.hid (by rw [HS2.out, hp, if_pos rfl])
        clear hp
        go_wp2_with (first | (go_at_call 127; refine c1.out.mono ?_; rintro e w1 ⟨rfl, hb⟩; have HB1 := Lib.hid (HB.out.trans (hb.mono HB.out.size)); clear hb))
        go_roundw
        case rel => exact ⟨i + 1, k, by go_num, by omega, HB1, by omega, HF⟩
        case measure => simp [intOf]; omega
      | false =>
        rw [hp] at c1
        cases hq : pctB s (i : Int) with
        | true =>
          rw [hq] at c2
          have h3 : i + 3 ≤ s.size := by
            have h := hq
            unfold pctB at h
            rw [Bool.and_eq_true, Bool.and_eq_true, Bool.and_eq_true] at h
            have := of_decide_eq_true h.1.1.1
            omega
          have HF : Hid (isB s of = isFrom s of k (i + 3)) := Lib.hid (by rw [HS2.out, hp, hq]; rfl)
          clear hp hq
          go_wp2_with (first | (go_at_call 128; refine (c2.out _).mono ?_; rintro e w2 ⟨rfl, hb⟩; have HB2 := Lib.hid (HB1.out.trans (hb.mono HB1.out.size)); clear hb) | (go_at_call 127; refine c1.out.mono ?_; rintro e w1 ⟨rfl, hb⟩; have HB1 := Lib.hid (HB.out.trans (hb.mono HB.out.size)); clear hb))
          go_roundw
          case rel => exact ⟨i + 3, k, by go_num, by omega, HB2, by omega, HF⟩
          case measure => simp [intOf]; omega
        | false =>
          rw [hq] at c2
          have HF : Hid (isB s of = false) := Lib.hid (by rw [HS2.out, hp, hq]; rfl)
          clear hp hq
          go_wp2_with (first | (go_at_call 128; refine (c2.out _).mono ?_; rintro e w2 ⟨rfl, hb⟩; have HB2 := Lib.hid (HB1.out.trans (hb.mono HB1.out.size)); clear hb) | (go_at_call 127; refine c1.out.mono ?_; rintro e w1 ⟨rfl, hb⟩; have HB1 := Lib.hid (HB.out.trans (hb.mono HB.out.size)); clear hb))
          go_ret
          exact ⟨by rw [HF.out] <;> rfl, HB2.out⟩
    · have HF : Hid (isB s of = true) := Lib.hid (by rw [HS.out]; exact isFrom_end hlt)
      have hltI : ¬ (i : Int) < (s.size : Int) := by omega
      go_wp2
      go_ret
      exact ⟨by rw [HF.out] <;> rfl, HB.out⟩
end Go.Proofs.YtakdjflhhaefiaaGreatDoor
