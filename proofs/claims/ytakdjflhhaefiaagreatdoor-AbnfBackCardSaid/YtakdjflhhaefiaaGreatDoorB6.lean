/- strings.IndexAny in ":/?#": at every text, whole. -/
import Derived.Test.YtakdjflhhaefiaaGreatDoorB5
import Derived.Lib.DecodeN
import Derived.Lib.IndexAny
set_option linter.unusedVariables false
set_option linter.unusedSimpArgs false
namespace Go.Proofs.YtakdjflhhaefiaaGreatDoor
open Go.RowKit Go.Proofs.YtakdjflhhaefiaaGreatDoor.PDotsGo Go.Proofs.YtakdjflhhaefiaaGreatDoorW.PrintWords Go.Proofs.YtakdjflhhaefiaaGreatDoorW.PrintLast Go.Proofs.YtakdjflhhaefiaaGreatDoorW.PrintMore

set_option maxHeartbeats 4000000 in
theorem dec_cover (n b0 b1 b2 b3 : Nat) (h : 128 ≤ b0) : (1 < (Lib.decodeN n b0 b1 b2 b3).2 → 1 < n ∧ 128 ≤ b1) ∧ (2 < (Lib.decodeN n b0 b1 b2 b3).2 → 2 < n ∧ 128 ≤ b2) ∧ (3 < (Lib.decodeN n b0 b1 b2 b3).2 → 3 < n ∧ 128 ≤ b3) ∧ (Lib.decodeN n b0 b1 b2 b3).2 ≤ 4 := by
  unfold Lib.decodeN
  repeat' split
  all_goals (simp only; refine ⟨?_, ?_, ?_, ?_⟩)
  all_goals omega
theorem dec_high (s : ByteArray) (pos : Nat) (hp : pos < s.size) (h : 128 ≤ (s[pos]'hp).toNat) (j : Nat) (h1 : pos ≤ j) (h2 : j < pos + (Utf8.decode s pos).2) (b : UInt8) (hb : s.data.toList[j]? = some b) : 128 ≤ b.toNat := by
  have hj : j < s.size := by
    have := (List.getElem?_eq_some_iff.1 hb).1
    rw [← Lib.size_eq] at this; exact this
  have hbj : s[j]'hj = b := by
    have := Lib.data_getElem? s j hj
    rw [this] at hb; exact Option.some.inj hb
  have g0 : s.get! pos = s[pos]'hp := get_at s pos hp
  have g1 : s.get! j = s[j]'hj := get_at s j hj
  rw [Lib.decode_at] at h2
  obtain ⟨c1, c2, c3, c4⟩ := dec_cover (s.size - pos) (s.get! pos).toNat (s.get! (pos + 1)).toNat (s.get! (pos + 2)).toNat (s.get! (pos + 3)).toNat (by rw [g0]; exact h)
  rw [← hbj, ← g1]
  rcases (show j = pos ∨ j = pos + 1 ∨ j = pos + 2 ∨ j = pos + 3 by omega) with e | e | e | e <;> subst e
  · rw [g0]; exact h
  · exact (c1 (by omega)).2
  · exact (c2 (by omega)).2
  · exact (c3 (by omega)).2
theorem NoAny_jump {s chars : List UInt8} {i k : Nat} (h : Lib.NoAny s chars i) (hj : ∀ j b, i ≤ j → j < k → s[j]? = some b → chars.contains b = false) : Lib.NoAny s chars k := fun j b hjk hb => by
  by_cases e : j < i
  · exact h j b e hb
  · exact hj j b (by omega) hjk hb
theorem four_high (b : UInt8) (h : 128 ≤ b.toNat) : (⟨#[58, 47, 63, 35]⟩ : ByteArray).data.toList.contains b = false := by
  cases hc : (⟨#[58, 47, 63, 35]⟩ : ByteArray).data.toList.contains b with
  | false => rfl
  | true =>
    have : b ∈ ([58, 47, 63, 35] : List UInt8) := by simpa using hc
    simp only [List.mem_cons, List.not_mem_nil, or_false] at this
    rcases this with e | e | e | e <;> subst e <;> simp at h
set_option maxHeartbeats 1000000 in
set_option maxRecDepth 100000 in
theorem ir_ascii (r : Int) (w : World) (h0 : 0 ≤ r) (h1 : r < 128) : Calls Tryz.prog 115 #[.string ⟨#[58, 47, 63, 35]⟩, .int .i32 r] w fun e w' => e = .returned (.int .i64 (Lib.indexByte (⟨#[58, 47, 63, 35]⟩ : ByteArray).data.toList r.toNat.toUInt8)) ∧ Below w.heap.size w w' := by
  have CI := Lib.hid (fun c w1 => Tryz.strings_IndexByte ⟨#[58, 47, 63, 35]⟩ c w1)
  have hr : r % 256 = r := by omega
  go_enter Tryz.func115, Tryz.ntmps115
  go_wp2_with (first | (go_at_call 59; refine (CI.out _ _).mono ?_; rintro e w' ⟨rfl, hww⟩; rw [hww]; clear hww w'))
  go_ret
  exact ⟨by first | rfl | simp [hr], Below.refl _ _⟩
def anyI (s : ByteArray) : Int := Lib.indexAny s.data.toList (⟨#[58, 47, 63, 35]⟩ : ByteArray).data.toList
set_option maxHeartbeats 8000000 in
set_option maxRecDepth 1000000 in
theorem idx_short (s : ByteArray) (w : World) (h8 : s.size ≤ 8) : Calls Tryz.prog 56 #[.string s, .string ⟨#[58, 47, 63, 35]⟩] w fun e w' => e = .returned (.int .i64 (anyI s)) ∧ Below w.heap.size w w' := by
  have h8z : decide ((8 : Int) < (s.size : Int)) = false := decide_eq_false (by omega)
  have CS := Lib.hid (fun w1 => Tryz.strings_shouldUseASCIISet (s.size : Int) w1)
  have CA := Lib.hid (fun r w1 h0 h1 => ir_ascii r w1 h0 h1)
  have CN := Lib.hid (fun r w1 h => ir_none r w1 h)
  go_enter Tryz.func56, Tryz.ntmps56
  go_wp2_with (first | (go_at_call 116; refine (CS.out _).mono ?_; rintro e w' ⟨rfl, hww⟩; rw [hww, h8z]; clear hww w'))
  go_loopw [9, 10] (fun _ _ wr => ∃ pos : Nat, wr.heap[w.heap.size]? = some (.stringIter s pos) ∧ Hid (Below w.heap.size w wr) ∧ Hid (Lib.NoAny s.data.toList (⟨#[58, 47, 63, 35]⟩ : ByteArray).data.toList pos)) (fun _ _ wr => s.size - wr.iterPos w.heap.size)
  case atStart => exact ⟨0, World.iter_heap w s 0, Lib.hid ((Below.refl _ w).alloc (Nat.le_refl _) _), Lib.hid (Lib.NoAny.zero _ _)⟩
  case round =>
    obtain ⟨pos, hit, HB, HU⟩ := hrel
    have hlt2 : w.heap.size < wr.heap.size := (Array.getElem?_eq_some_iff.1 hit).1
    by_cases hp : pos < s.size
    · by_cases ha : (s[pos]'hp).toNat < 128
      · have hnx : ∀ ty, (Instr.next (.pointer (some ⟨w.heap.size, 0, none⟩)) true ty).run Tryz.prog wr = _ := fun ty => Lib.run_next_ascii_at wr w.heap.size s pos ty hit hp ha
        have hit2 := Lib.iterAt_heap wr w.heap.size s pos (pos + 1) hit
        have HB2 := Lib.hid (Lib.below_iterAt HB.out (k := w.heap.size) (by omega) s (pos + 1))
        have HX : Hid (s.data.toList[pos]? = some (s[pos]'hp)) := Lib.hid (Lib.data_getElem? s pos hp)
        have c1 := Lib.hid (ir_ascii ((s[pos]'hp).toNat : Int) (wr.iterAt w.heap.size s (pos + 1)) (by omega) (by omega))
        have HC : Hid ((⟨#[58, 47, 63, 35]⟩ : ByteArray).data.toList.contains (s[pos]'hp) = decide (0 ≤ Lib.indexByte (⟨#[58, 47, 63, 35]⟩ : ByteArray).data.toList (((s[pos]'hp).toNat : Int)).toNat.toUInt8)) := Lib.hid (by
          rw [Lib.contains_iff_indexByte]; simp)
        generalize Lib.indexByte (⟨#[58, 47, 63, 35]⟩ : ByteArray).data.toList (((s[pos]'hp).toNat : Int)).toNat.toUInt8 = ix at c1 HC
        by_cases hi : 0 ≤ ix
        · have HR : Hid (anyI s = (pos : Int)) := Lib.hid (Lib.indexAny_hit HU.out HX.out (by rw [HC.out]; exact decide_eq_true hi))
          go_wp2_with (first | (go_at_call 115; refine c1.out.mono ?_; rintro e w3 ⟨rfl, hb⟩; have HB3 := Lib.hid hb; clear hb))
          go_ret
          exact ⟨by rw [HR.out]; try rfl, HB2.out.trans (HB3.out.mono HB2.out.size)⟩
        · have HR : Hid (Lib.NoAny s.data.toList (⟨#[58, 47, 63, 35]⟩ : ByteArray).data.toList (pos + 1)) := Lib.hid (HU.out.succ HX.out (by rw [HC.out]; exact decide_eq_false hi))
          go_wp2_with (first | (go_at_call 115; refine c1.out.mono ?_; rintro e w3 ⟨rfl, hb⟩; have HB3 := Lib.hid hb; clear hb))
          have hit4 : w3.heap[w.heap.size]? = some (.stringIter s (pos + 1)) := by rw [HB3.out.block _ (by rw [Lib.iterAt_size]; exact hlt2)]; exact hit2
          go_roundw
          case rel => exact ⟨pos + 1, hit4, Lib.hid (HB2.out.trans (HB3.out.mono HB2.out.size)), HR⟩
          case measure =>
            simp only [World.iterPos, hit4, hit]
            omega
      · have hnx : ∀ ty, (Instr.next (.pointer (some ⟨w.heap.size, 0, none⟩)) true ty).run Tryz.prog wr = _ := fun ty => Lib.run_next_any_at wr w.heap.size s pos ty hit hp
        obtain ⟨hh1, hh2⟩ := decode_high s pos hp (by omega)
        have hit2 := Lib.iterAt_heap wr w.heap.size s pos (pos + (Utf8.decode s pos).2) hit
        have HB2 := Lib.hid (Lib.below_iterAt HB.out (k := w.heap.size) (by omega) s (pos + (Utf8.decode s pos).2))
        have HR : Hid (Lib.NoAny s.data.toList (⟨#[58, 47, 63, 35]⟩ : ByteArray).data.toList (pos + (Utf8.decode s pos).2)) := Lib.hid (NoAny_jump HU.out (fun j b hj1 hj2 hb => four_high b (dec_high s pos hp (by omega) j hj1 hj2 b hb)))
        have c1 := Lib.hid (ir_none ((Utf8.decode s pos).1 : Int) (wr.iterAt w.heap.size s (pos + (Utf8.decode s pos).2)) (by omega))
        clear hh1
        go_wp2_with (first | (go_at_call 115; refine c1.out.mono ?_; rintro e w3 ⟨rfl, hb⟩; have HB3 := Lib.hid hb; clear hb))
        have hit4 : w3.heap[w.heap.size]? = some (.stringIter s (pos + (Utf8.decode s pos).2)) := by rw [HB3.out.block _ (by rw [Lib.iterAt_size]; exact hlt2)]; exact hit2
        go_roundw
        case rel => exact ⟨pos + (Utf8.decode s pos).2, hit4, Lib.hid (HB2.out.trans (HB3.out.mono HB2.out.size)), HR⟩
        case measure =>
          simp only [World.iterPos, hit4, hit]
          omega
    · have hnx : ∀ ty, (Instr.next (.pointer (some ⟨w.heap.size, 0, none⟩)) true ty).run Tryz.prog wr = _ := fun ty => Lib.run_next_end_at wr w.heap.size s pos ty hit hp
      have HF : Hid (anyI s = -1) := Lib.hid (Lib.indexAny_none (fun j b hj hb => HU.out j b (by rw [← Lib.size_eq] at hj; omega) hb))
      go_wp2
      go_ret
      exact ⟨by rw [HF.out]; try rfl, HB.out⟩
theorem idx_any (s : ByteArray) (w : World) (hs : s.size ≤ 1000000) : Calls Tryz.prog 56 #[.string s, .string ⟨#[58, 47, 63, 35]⟩] w fun e w' => e = .returned (.int .i64 (anyI s)) ∧ Below w.heap.size w w' := by
  by_cases h8 : s.size ≤ 8
  · exact idx_short s w h8
  · refine (Tryz.strings_IndexAny_long (zero_of_info (P := Tryz.prog) (n := 256) (by kernel_rfl)).1 s ⟨#[58, 47, 63, 35]⟩ w (by decide) (by omega) (by omega) (by decide) (by
      intro j b hb
      have : b ∈ ([58, 47, 63, 35] : List UInt8) := List.mem_of_getElem? hb
      simp only [List.mem_cons, List.not_mem_nil, or_false] at this
      rcases this with e | e | e | e <;> subst e <;> decide)).mono ?_
    rintro e w' ⟨he, hw⟩
    rw [hw]
    exact ⟨he, ((Below.refl _ _).alloc (Nat.le_refl _) _).alloc (by simp) _⟩
end Go.Proofs.YtakdjflhhaefiaaGreatDoor
