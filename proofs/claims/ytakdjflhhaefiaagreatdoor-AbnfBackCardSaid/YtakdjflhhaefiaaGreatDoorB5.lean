/- strings.IndexAny in ":/?#": at every text. -/
import Derived.Test.YtakdjflhhaefiaaGreatDoorB4
import Derived.Laws.Runes
import Derived.WalkMore
set_option linter.unusedVariables false
set_option linter.unusedSimpArgs false
namespace Go.Proofs.YtakdjflhhaefiaaGreatDoor
open Go.RowKit Go.Proofs.YtakdjflhhaefiaaGreatDoor.PDotsGo Go.Proofs.YtakdjflhhaefiaaGreatDoorW.PrintWords Go.Proofs.YtakdjflhhaefiaaGreatDoorW.PrintLast Go.Proofs.YtakdjflhhaefiaaGreatDoorW.PrintMore

set_option maxHeartbeats 1000000 in
theorem valid_calls (r : Int) (w : World) : Calls Tryz.prog 159 #[.int .i32 r] w fun e w' => e = .returned (.bool (Utf8.valid r)) ∧ w' = w := by
  by_cases h0 : 0 ≤ r
  · by_cases h1 : r < 55296
    · have HF : Hid (Utf8.valid r = true) := Lib.hid (by unfold Utf8.valid; rw [decide_eq_true h0, decide_eq_true h1]; rfl)
      go_enter Tryz.func159, Tryz.ntmps159
      go_wp2
      go_ret
      exact ⟨by rw [HF.out] <;> rfl, rfl⟩
    · by_cases h2 : 57343 < r
      · by_cases h3 : r ≤ 1114111
        · have HF : Hid (Utf8.valid r = true) := Lib.hid (by unfold Utf8.valid; rw [decide_eq_true (show (0xE000 : Int) ≤ r by omega), decide_eq_true (show r ≤ 0x10FFFF from h3)]; simp)
          go_enter Tryz.func159, Tryz.ntmps159
          go_wp2
          go_ret
          exact ⟨by rw [HF.out] <;> rfl, rfl⟩
        · have HF : Hid (Utf8.valid r = false) := Lib.hid (by unfold Utf8.valid; rw [decide_eq_false h1, decide_eq_false (show ¬ r ≤ 0x10FFFF from h3)]; simp)
          go_enter Tryz.func159, Tryz.ntmps159
          go_wp2
          go_ret
          exact ⟨by rw [HF.out] <;> rfl, rfl⟩
      · have HF : Hid (Utf8.valid r = false) := Lib.hid (by unfold Utf8.valid; rw [decide_eq_false h1, decide_eq_false (show ¬ (0xE000 : Int) ≤ r by omega)]; simp)
        go_enter Tryz.func159, Tryz.ntmps159
        go_wp2
        go_ret
        exact ⟨by rw [HF.out] <;> rfl, rfl⟩
  · have h1 : r < 55296 := by omega
    have h2 : ¬ 57343 < r := by omega
    have HF : Hid (Utf8.valid r = false) := Lib.hid (by unfold Utf8.valid; rw [decide_eq_false h0, decide_eq_false (show ¬ (0xE000 : Int) ≤ r by omega)]; simp)
    go_enter Tryz.func159, Tryz.ntmps159
    go_wp2
    go_ret
    exact ⟨by rw [HF.out] <;> rfl, rfl⟩

set_option maxRecDepth 100000 in
theorem ib_none1 (c : Int) (h : 128 ≤ c) (h2 : c ≤ 255) : Lib.indexByte (⟨#[63, 35]⟩ : ByteArray).data.toList c.toNat.toUInt8 = -1 := by
  have h3 : c.toNat < 256 := by omega
  have h4 : 128 ≤ c.toNat := by omega
  generalize c.toNat = n at h3 h4
  have : ∀ n, n < 256 → 128 ≤ n → Lib.indexByte (⟨#[63, 35]⟩ : ByteArray).data.toList n.toUInt8 = -1 := by decide
  exact this n h3 h4
set_option maxRecDepth 100000 in
theorem ib_none2 (c : Int) (h : 128 ≤ c) (h2 : c ≤ 255) : Lib.indexByte (⟨#[35]⟩ : ByteArray).data.toList c.toNat.toUInt8 = -1 := by
  have h3 : c.toNat < 256 := by omega
  have h4 : 128 ≤ c.toNat := by omega
  generalize c.toNat = n at h3 h4
  have : ∀ n, n < 256 → 128 ≤ n → Lib.indexByte (⟨#[35]⟩ : ByteArray).data.toList n.toUInt8 = -1 := by decide
  exact this n h3 h4
set_option maxRecDepth 100000 in
theorem ib_none3 (c : Int) (h : 128 ≤ c) (h2 : c ≤ 255) : Lib.indexByte (⟨#[]⟩ : ByteArray).data.toList c.toNat.toUInt8 = -1 := by
  have h3 : c.toNat < 256 := by omega
  have h4 : 128 ≤ c.toNat := by omega
  generalize c.toNat = n at h3 h4
  have : ∀ n, n < 256 → 128 ≤ n → Lib.indexByte (⟨#[]⟩ : ByteArray).data.toList n.toUInt8 = -1 := by decide
  exact this n h3 h4
set_option maxHeartbeats 1000000 in
set_option maxRecDepth 100000 in
theorem ir_none (r : Int) (w : World) (h : 128 ≤ r) : Calls Tryz.prog 115 #[.string ⟨#[58, 47, 63, 35]⟩, .int .i32 r] w fun e w' => e = .returned (.int .i64 (-1)) ∧ Below w.heap.size w w' := by
  have CV := Lib.hid (fun w1 => valid_calls r w1)
  have h0 : 0 ≤ r := by omega
  have h1 : ¬ r < 128 := by omega
  by_cases he : r = 65533
  · subst he
    go_enter Tryz.func115, Tryz.ntmps115
    go_wp2
    go_loopw [] (fun wr => ∃ pos : Nat, wr.heap[w.heap.size]? = some (.stringIter ⟨#[58, 47, 63, 35]⟩ pos) ∧ Hid (Below w.heap.size w wr)) (fun wr => (⟨#[58, 47, 63, 35]⟩ : ByteArray).size - wr.iterPos w.heap.size)
    case atStart =>
      exact ⟨0, World.iter_heap w _ 0, Lib.hid ((Below.refl _ w).alloc (Nat.le_refl _) _)⟩
    case round =>
      obtain ⟨pos, hit, HB⟩ := hrel
      have hlt2 : w.heap.size < wr.heap.size := (Array.getElem?_eq_some_iff.1 hit).1
      by_cases hp : pos < (⟨#[58, 47, 63, 35]⟩ : ByteArray).size
      · have ha : ((⟨#[58, 47, 63, 35]⟩ : ByteArray)[pos]'hp).toNat < 128 := by
          have : ∀ (p : Nat) (h : p < (⟨#[58, 47, 63, 35]⟩ : ByteArray).size), ((⟨#[58, 47, 63, 35]⟩ : ByteArray)[p]'h).toNat < 128 := by decide
          exact this pos hp
        have hnx : ∀ ty, (Instr.next (.pointer (some ⟨w.heap.size, 0, none⟩)) true ty).run Tryz.prog wr = _ := fun ty => Lib.run_next_ascii_at wr w.heap.size _ pos ty hit hp ha
        have hit2 := Lib.iterAt_heap wr w.heap.size _ pos (pos + 1) hit
        have HB2 := Lib.hid (Lib.below_iterAt HB.out (k := w.heap.size) (by omega) ⟨#[58, 47, 63, 35]⟩ (pos + 1))
        have hne : ((((⟨#[58, 47, 63, 35]⟩ : ByteArray)[pos]'hp).toNat : Int) == 65533) = false := beq_eq_false_iff_ne.2 (by omega)
        go_wp2
        go_roundw
        case rel => exact ⟨pos + 1, hit2, HB2⟩
        case measure =>
          simp only [World.iterPos, hit2, hit]
          omega
      · have hnx : ∀ ty, (Instr.next (.pointer (some ⟨w.heap.size, 0, none⟩)) true ty).run Tryz.prog wr = _ := fun ty => Lib.run_next_end_at wr w.heap.size _ pos ty hit hp
        go_wp2
        go_ret
        exact ⟨rfl, HB.out⟩
  · cases hv : Utf8.valid r with
    | false =>
      rw [hv] at CV
      clear hv
      go_enter Tryz.func115, Tryz.ntmps115
      go_wp2_with (first | (go_at_call 159; refine (CV.out _).mono ?_; rintro e w' ⟨rfl, hww⟩; rw [hww]; clear hww w'))
      go_ret
      exact ⟨rfl, Below.refl _ _⟩
    | true =>
      obtain ⟨e1, e2, e3⟩ := encode_facts r hv h
      rw [hv] at CV
      clear hv
      go_enter Tryz.func115, Tryz.ntmps115
      go_wp2_with (first | (go_at_call 159; refine (CV.out _).mono ?_; rintro e w' ⟨rfl, hww⟩; rw [hww]; clear hww w'))
      rcases (show (Utf8.encode r).size = 2 ∨ (Utf8.encode r).size = 3 ∨ (Utf8.encode r).size = 4 by omega) with hz | hz | hz
      · have hzI : ((Utf8.encode r).size : Int) = 2 := by omega
        have hlt : 1 < (Utf8.encode r).size := by omega
        have hb0 : ((Utf8.encode r)[1]'hlt).toNat = bt (Utf8.encode r) 1 := bt_nt hlt
        have hb1 : 128 ≤ bt (Utf8.encode r) 1 := by
          have h3 := e3 (by omega)
          have h4 : ((Utf8.encode r)[(Utf8.encode r).size - 1]'(by omega)) = ((Utf8.encode r)[1]'hlt) := by congr 1; omega
          rw [h4] at h3
          omega
        have hb2 := bt_range (Utf8.encode r) 1
        have hne : (((((⟨#[58, 47, 63, 35]⟩ : ByteArray)[1]'(by decide)).toNat : Nat) : Int) != bt (Utf8.encode r) 1) = true := by
          rw [show ((((⟨#[58, 47, 63, 35]⟩ : ByteArray)[1]'(by decide)).toNat : Nat) : Int) = 47 from rfl]
          exact bne_iff_ne.2 (by omega)
        have CI : Hid (∀ w1, Calls Tryz.prog 59 #[.string ⟨#[63, 35]⟩, .int .u8 (bt (Utf8.encode r) 1)] w1 fun e w' => e = .returned (.int .i64 (-1)) ∧ w' = w1) := Lib.hid (fun w1 => (Tryz.strings_IndexByte _ _ w1).mono (fun e w' h => ⟨by rw [h.1, ib_none1 _ hb1 hb2.2], h.2⟩))
        go_step3
        go_wp2
        go_loopw [9] (fun v9 wr => v9 = .int .i64 1 ∧ wr = w) (fun v9 _ => 0)
        case atStart => exact ⟨by simp [hzI], rfl⟩
        case round =>
          obtain ⟨rfl, rfl⟩ := hrel
          go_wp2
          go_step3
          go_wp2
          go_quiet (fail)
          go_wp2
          go_region_with (first | (go_at_call 59; refine (CI.out _).mono ?_; rintro e w' ⟨rfl, hww⟩; rw [hww]; clear hww w'))
          go_wp2
          all_goals rw [Exit.noGoto_ret]
          all_goals go_wp2
          all_goals rw [Exit.noGoto_ret]
          all_goals go_wp2
          all_goals go_ret
          all_goals exact ⟨rfl, (pw_below_drewN (Below.refl _ _) _).drew⟩
      · have hzI : ((Utf8.encode r).size : Int) = 3 := by omega
        have hlt : 2 < (Utf8.encode r).size := by omega
        have hb0 : ((Utf8.encode r)[2]'hlt).toNat = bt (Utf8.encode r) 2 := bt_nt hlt
        have hb1 : 128 ≤ bt (Utf8.encode r) 2 := by
          have h3 := e3 (by omega)
          have h4 : ((Utf8.encode r)[(Utf8.encode r).size - 1]'(by omega)) = ((Utf8.encode r)[2]'hlt) := by congr 1; omega
          rw [h4] at h3
          omega
        have hb2 := bt_range (Utf8.encode r) 2
        have hne : (((((⟨#[58, 47, 63, 35]⟩ : ByteArray)[2]'(by decide)).toNat : Nat) : Int) != bt (Utf8.encode r) 2) = true := by
          rw [show ((((⟨#[58, 47, 63, 35]⟩ : ByteArray)[2]'(by decide)).toNat : Nat) : Int) = 63 from rfl]
          exact bne_iff_ne.2 (by omega)
        have CI : Hid (∀ w1, Calls Tryz.prog 59 #[.string ⟨#[35]⟩, .int .u8 (bt (Utf8.encode r) 2)] w1 fun e w' => e = .returned (.int .i64 (-1)) ∧ w' = w1) := Lib.hid (fun w1 => (Tryz.strings_IndexByte _ _ w1).mono (fun e w' h => ⟨by rw [h.1, ib_none2 _ hb1 hb2.2], h.2⟩))
        go_step3
        go_wp2
        go_loopw [9] (fun v9 wr => v9 = .int .i64 2 ∧ wr = w) (fun v9 _ => 0)
        case atStart => exact ⟨by simp [hzI], rfl⟩
        case round =>
          obtain ⟨rfl, rfl⟩ := hrel
          go_wp2
          go_step3
          go_wp2
          go_quiet (fail)
          go_wp2
          go_region_with (first | (go_at_call 59; refine (CI.out _).mono ?_; rintro e w' ⟨rfl, hww⟩; rw [hww]; clear hww w'))
          go_wp2
          all_goals rw [Exit.noGoto_ret]
          all_goals go_wp2
          all_goals rw [Exit.noGoto_ret]
          all_goals go_wp2
          all_goals go_ret
          all_goals exact ⟨rfl, (pw_below_drewN (Below.refl _ _) _).drew⟩
      · have hzI : ((Utf8.encode r).size : Int) = 4 := by omega
        have hlt : 3 < (Utf8.encode r).size := by omega
        have hb0 : ((Utf8.encode r)[3]'hlt).toNat = bt (Utf8.encode r) 3 := bt_nt hlt
        have hb1 : 128 ≤ bt (Utf8.encode r) 3 := by
          have h3 := e3 (by omega)
          have h4 : ((Utf8.encode r)[(Utf8.encode r).size - 1]'(by omega)) = ((Utf8.encode r)[3]'hlt) := by congr 1; omega
          rw [h4] at h3
          omega
        have hb2 := bt_range (Utf8.encode r) 3
        have hne : (((((⟨#[58, 47, 63, 35]⟩ : ByteArray)[3]'(by decide)).toNat : Nat) : Int) != bt (Utf8.encode r) 3) = true := by
          rw [show ((((⟨#[58, 47, 63, 35]⟩ : ByteArray)[3]'(by decide)).toNat : Nat) : Int) = 35 from rfl]
          exact bne_iff_ne.2 (by omega)
        have CI : Hid (∀ w1, Calls Tryz.prog 59 #[.string ⟨#[]⟩, .int .u8 (bt (Utf8.encode r) 3)] w1 fun e w' => e = .returned (.int .i64 (-1)) ∧ w' = w1) := Lib.hid (fun w1 => (Tryz.strings_IndexByte _ _ w1).mono (fun e w' h => ⟨by rw [h.1, ib_none3 _ hb1 hb2.2], h.2⟩))
        go_step3
        go_wp2
        go_loopw [9] (fun v9 wr => v9 = .int .i64 3 ∧ wr = w) (fun v9 _ => 0)
        case atStart => exact ⟨by simp [hzI], rfl⟩
        case round =>
          obtain ⟨rfl, rfl⟩ := hrel
          go_wp2
          go_step3
          go_wp2
          go_quiet (fail)
          go_wp2
          go_region_with (first | (go_at_call 59; refine (CI.out _).mono ?_; rintro e w' ⟨rfl, hww⟩; rw [hww]; clear hww w'))
          go_wp2
          all_goals rw [Exit.noGoto_ret]
          all_goals go_wp2
          all_goals rw [Exit.noGoto_ret]
          all_goals go_wp2
          all_goals go_ret
          all_goals exact ⟨rfl, (pw_below_drewN (Below.refl _ _) _).drew⟩
end Go.Proofs.YtakdjflhhaefiaaGreatDoor
