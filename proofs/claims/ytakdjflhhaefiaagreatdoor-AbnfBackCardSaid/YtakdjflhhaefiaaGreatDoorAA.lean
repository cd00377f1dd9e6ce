/- Digits and hexadecimal digits: scalar.Digit, scalar.Value, number.digits, six.piece, at every text. -/
import Derived.Test.YtakdjflhhaefiaaGreatDoorD2
import Derived.Test.YtakdjflhhaefiaaGreatDoorPD2
import Derived.Lib.Hide
import Derived.Lib.OthersKept
import Derived.Laws.IdiomStrings
import Derived.Test.YtakdjflhhaefiaaGreatDoorSHX
import Derived.Lib.AtoiErrMem
import Derived.Lib.SlBytesRow
import Derived.IntWalk
import Derived.Test.YtakdjflhhaefiaaGreatDoorD5
set_option linter.unusedVariables false
set_option linter.unusedSimpArgs false
namespace Go.Proofs.YtakdjflhhaefiaaGreatDoor
open Go.RowKit Go.Proofs.YtakdjflhhaefiaaGreatDoor.PDotsGo Go.Proofs.YtakdjflhhaefiaaGreatDoorW.PrintWords Go.Proofs.YtakdjflhhaefiaaGreatDoorW.PrintLast Go.Proofs.YtakdjflhhaefiaaGreatDoorW.PrintMore

def digR (r : Int) : Bool := decide (48 ≤ r) && decide (r ≤ 57)
def hexV (r : Int) : Int := if 48 ≤ r ∧ r ≤ 57 then r - 48 else if 97 ≤ r ∧ r ≤ 102 then r - 87 else if 65 ≤ r ∧ r ≤ 70 then r - 55 else -1
def alpR (r : Int) : Bool := (decide (97 ≤ r) && decide (r ≤ 122)) || (decide (65 ≤ r) && decide (r ≤ 90))
theorem w64b {n : Int} (h : -1000000 ≤ n ∧ n ≤ 1000000) : wrap64 n = n := by unfold wrap64; omega
theorem w32b {n : Int} (h : -10000000 ≤ n ∧ n ≤ 10000000) : wrap32 n = n := by unfold wrap32; omega
theorem dig_calls (r : Int) (w : World) : Calls Tryz.prog 122 #[.int .i32 r] w fun e w' => e = .returned (.bool (digR r)) ∧ Below w.heap.size w w' := by
  refine (scalar_Digit.calls r (digR r) w ?_).mono (fun e w' h => ⟨h.1, h.2.below⟩)
  unfold scalar_Digit.f digR
  by_cases h : r ≥ 48
  · rw [if_pos h, decide_eq_true (show 48 ≤ r from h)]; rfl
  · rw [if_neg h, decide_eq_false (show ¬ 48 ≤ r from h)]; rfl
theorem alp_calls (r : Int) (w : World) : Calls Tryz.prog 119 #[.int .i32 r] w fun e w' => e = .returned (.bool (alpR r)) ∧ Below w.heap.size w w' := by
  refine (scalar_Alpha.calls r (alpR r) w ?_).mono (fun e w' h => ⟨h.1, h.2.below⟩)
  unfold scalar_Alpha.f alpR
  by_cases h : r ≥ 97
  · rw [if_pos h, decide_eq_true (show 97 ≤ r from h)]
    by_cases h2 : r ≤ 122
    · rw [if_pos h2, decide_eq_true h2]; rfl
    · rw [if_neg h2, if_pos (by omega), decide_eq_false h2, decide_eq_true (show 65 ≤ r by omega)]; rfl
  · rw [if_neg h, decide_eq_false (show ¬ 97 ≤ r from h)]
    by_cases h2 : r ≥ 65
    · rw [if_pos h2, decide_eq_true (show 65 ≤ r from h2)]; rfl
    · rw [if_neg h2, decide_eq_false (show ¬ 65 ≤ r from h2)]; rfl
theorem hex_f (r : Int) : scalar_Value.f 1 r = some (hexV r) := by
  have J := fun x => (show scalar_Value.j0 1 r x = _ from by rw [scalar_Value.j0])
  unfold scalar_Value.f scalar_Digit.f hexV
  by_cases c1 : 48 ≤ r ∧ r ≤ 57
  · rw [if_pos (show r ≥ 48 from c1.1)]
    simp only [Option.bind_some]
    rw [if_pos (decide_eq_true c1.2), if_pos c1, w32b (by omega), w64b (by omega)]
  · have hd : (if r ≥ 48 then some (decide (r ≤ 57)) else some false) = some false := by
      by_cases c2 : r ≥ 48
      · rw [if_pos c2, decide_eq_false (by omega)]
      · rw [if_neg c2]
    rw [hd]
    simp only [Option.bind_some]
    rw [if_neg (by intro h; cases h), if_neg c1]
    by_cases c3 : r ≥ 97
    · rw [if_pos c3, J]
      by_cases c4 : r ≤ 102
      · rw [if_pos (decide_eq_true c4), if_pos (show 97 ≤ r ∧ r ≤ 102 from ⟨c3, c4⟩), w32b (n := r - 97) (by omega), w64b (n := r - 97) (by omega), w64b (n := r - 97 + 10) (by omega)]
        congr 1; omega
      · rw [if_neg (by simpa using c4), if_pos (show r ≥ 65 by omega), if_neg (show ¬ r ≤ 70 by omega), if_neg (show ¬ (97 ≤ r ∧ r ≤ 102) by omega), if_neg (show ¬ (65 ≤ r ∧ r ≤ 70) by omega)]
    · rw [if_neg c3, J, if_neg (by intro h; cases h), if_neg (show ¬ (97 ≤ r ∧ r ≤ 102) by omega)]
      by_cases c5 : r ≥ 65
      · rw [if_pos c5]
        by_cases c6 : r ≤ 70
        · rw [if_pos c6, if_pos (show 65 ≤ r ∧ r ≤ 70 from ⟨c5, c6⟩), w32b (n := r - 65) (by omega), w64b (n := r - 65) (by omega), w64b (n := r - 65 + 10) (by omega)]
          congr 1; omega
        · rw [if_neg c6, if_neg (show ¬ (65 ≤ r ∧ r ≤ 70) by omega)]
      · rw [if_neg c5, if_neg (show ¬ (65 ≤ r ∧ r ≤ 70) by omega)]
theorem hex_calls (r : Int) (w : World) : Calls Tryz.prog 150 #[.int .i32 r] w fun e w' => e = .returned (.int .i64 (hexV r)) ∧ Below w.heap.size w w' :=
  (scalar_Value.calls 1 r (hexV r) w (hex_f r)).mono (fun e w' h => ⟨h.1, h.2.below⟩)

/-- Are all bytes digits? -/
def digB (b : UInt8) : Bool := digR (b.toNat : Int)
def digsB (s : ByteArray) : Bool := s.data.toList.all digB
theorem all_upto {p : UInt8 → Bool} (s : ByteArray) (h : ∀ (i : Nat) (hi : i < s.size), p (s[i]'hi) = true) : s.data.toList.all p = true := by
  rw [List.all_eq_true]
  intro b hb
  obtain ⟨i, hi, rfl⟩ := List.getElem_of_mem hb
  have hi' : i < s.size := by simpa using hi
  exact h i hi'
theorem all_not {p : UInt8 → Bool} {s : ByteArray} {n : Nat} (h : n < s.size) (hb : p (s[n]'h) = false) : s.data.toList.all p = false := by
  rw [List.all_eq_false]
  refine ⟨s[n]'h, ?_, by rw [hb]; simp⟩
  have : (s[n]'h) = s.data.toList[n]'(by simpa using h) := rfl
  rw [this]; exact List.getElem_mem _

/-- Are all runes of a text such, by a function that says no beyond ASCII? -/
def upTo (p : UInt8 → Bool) (s : ByteArray) (n : Nat) : Prop := ∀ (i : Nat) (hi : i < s.size), i < n → p (s[i]'hi) = true
theorem upTo_step {p : UInt8 → Bool} {s : ByteArray} {n : Nat} (h : upTo p s n) (hp : n < s.size) (ha : p (s[n]'hp) = true) : upTo p s (n + 1) := fun i hi h' => by
  by_cases he : i = n
  · subst he; exact ha
  · exact h i hi (by omega)
theorem upTo_all {p : UInt8 → Bool} {s : ByteArray} {n : Nat} (h : upTo p s n) (hn : s.size ≤ n) : s.data.toList.all p = true := all_upto s (fun i hi => h i hi (by omega))

set_option maxHeartbeats 2000000 in
theorem digits_any (s : ByteArray) (w : World) :
    Calls Tryz.prog 101 #[.string s] w fun e w' => e = .returned (.bool (digsB s && !s.toList.isEmpty)) ∧ Below w.heap.size w w' := by
  go_enter Tryz.func101, Tryz.ntmps101
  go_wp2
  go_loopw [] (fun wr => ∃ pos : Nat, wr.heap[w.heap.size]? = some (.stringIter s pos) ∧ Hid (Below w.heap.size w wr) ∧ Hid (upTo digB s pos)) (fun wr => s.size - wr.iterPos w.heap.size)
  case atStart =>
    exact ⟨0, World.iter_heap w s 0, Lib.hid ((Below.refl _ w).alloc (Nat.le_refl _) _), Lib.hid (fun i hi h => by omega)⟩
  case round =>
    obtain ⟨pos, hit, HB, HU⟩ := hrel
    have hlt2 : w.heap.size < wr.heap.size := (Array.getElem?_eq_some_iff.1 hit).1
    by_cases hp : pos < s.size
    · by_cases ha : (s[pos]'hp).toNat < 128
      · have hnx : ∀ ty, (Instr.next (.pointer (some ⟨w.heap.size, 0, none⟩)) true ty).run Tryz.prog wr = _ := fun ty => Lib.run_next_ascii_at wr w.heap.size s pos ty hit hp ha
        have hit2 := Lib.iterAt_heap wr w.heap.size s pos (pos + 1) hit
        have HB2 := Lib.hid (Lib.below_iterAt HB.out (k := w.heap.size) (by omega) s (pos + 1))
        have c1 := Lib.hid (dig_calls ((s[pos]'hp).toNat : Int) (wr.iterAt w.heap.size s (pos + 1)))
        cases hd : digR ((s[pos]'hp).toNat : Int) with
        | true =>
          rw [hd] at c1
          have HD : Hid (digB (s[pos]'hp) = true) := Lib.hid hd
          clear hd
          go_wp2_with (first | (go_at_call 122; refine c1.out.mono ?_; rintro e w3 ⟨rfl, hb⟩; have HB3 := Lib.hid hb; clear hb))
          have hit4 : w3.heap[w.heap.size]? = some (.stringIter s (pos + 1)) := by rw [HB3.out.block _ (by rw [Lib.iterAt_size]; exact hlt2)]; exact hit2
          go_roundw
          case rel => exact ⟨pos + 1, hit4, Lib.hid (HB2.out.trans (HB3.out.mono HB2.out.size)), Lib.hid (upTo_step HU.out hp HD.out)⟩
          case measure =>
            simp only [World.iterPos, hit4, hit]
            omega
        | false =>
          rw [hd] at c1
          have HF : Hid (digsB s = false) := Lib.hid (all_not (p := digB) hp hd)
          clear hd
          go_wp2_with (first | (go_at_call 122; refine c1.out.mono ?_; rintro e w3 ⟨rfl, hb⟩; have HB3 := Lib.hid hb; clear hb))
          go_ret
          exact ⟨by rw [HF.out]; rfl, HB2.out.trans (HB3.out.mono HB2.out.size)⟩
      · have hnx : ∀ ty, (Instr.next (.pointer (some ⟨w.heap.size, 0, none⟩)) true ty).run Tryz.prog wr = _ := fun ty => Lib.run_next_any_at wr w.heap.size s pos ty hit hp
        have hhigh : 128 ≤ ((Utf8.decode s pos).1 : Int) := by
          have := (decode_high s pos hp (by omega)).1
          omega
        have HB2 := Lib.hid (Lib.below_iterAt HB.out (k := w.heap.size) (by omega) s (pos + (Utf8.decode s pos).2))
        have c1 := Lib.hid (dig_calls ((Utf8.decode s pos).1 : Int) (wr.iterAt w.heap.size s (pos + (Utf8.decode s pos).2)))
        have hdr : digR ((Utf8.decode s pos).1 : Int) = false := by
          unfold digR
          rw [decide_eq_false (show ¬ ((Utf8.decode s pos).1 : Int) ≤ 57 by omega), Bool.and_false]
        rw [hdr] at c1
        have HF : Hid (digsB s = false) := Lib.hid (all_not (p := digB) hp (by
          unfold digB digR
          rw [decide_eq_false (show ¬ ((s[pos]'hp).toNat : Int) ≤ 57 by omega), Bool.and_false]))
        clear hdr hhigh
        go_wp2_with (first | (go_at_call 122; refine c1.out.mono ?_; rintro e w3 ⟨rfl, hb⟩; have HB3 := Lib.hid hb; clear hb))
        go_ret
        exact ⟨by rw [HF.out]; rfl, HB2.out.trans (HB3.out.mono HB2.out.size)⟩
    · have hnx : ∀ ty, (Instr.next (.pointer (some ⟨w.heap.size, 0, none⟩)) true ty).run Tryz.prog wr = _ := fun ty => Lib.run_next_end_at wr w.heap.size s pos ty hit hp
      have HF : Hid (digsB s = true) := Lib.hid (upTo_all HU.out (by omega))
      go_wp2
      go_ret
      exact ⟨by rw [HF.out]; rfl, HB.out⟩
end Go.Proofs.YtakdjflhhaefiaaGreatDoor
/- number.Decimal at 255; scalar.Split at "."; four.Strict: at every text. -/
set_option linter.unusedVariables false
set_option linter.unusedSimpArgs false
namespace Go.Proofs.YtakdjflhhaefiaaGreatDoor
open Go.RowKit Go.Proofs.YtakdjflhhaefiaaGreatDoor.PDotsGo Go.Proofs.YtakdjflhhaefiaaGreatDoorW.PrintWords Go.Proofs.YtakdjflhhaefiaaGreatDoorW.PrintLast Go.Proofs.YtakdjflhhaefiaaGreatDoorW.PrintMore

/-- What the library's own variables hold. -/
structure VarsOk (w : World) : Prop where
  mx : ∃ m, w.cell? ⟨0, 0, none⟩ = some (.int .i64 m)
  er : ∃ ev, w.cell? ⟨4, 0, none⟩ = some ev ∧ (ev = .nilIface ∨ ∃ te pe, ev = .iface te pe)
theorem keep_var {w w' : World} {n : Nat} {a : Addr} {v : Value} (h : w.cell? a = some v) (hn : w.heap.size ≤ n) (hb : Below n w w') : w'.cell? a = some v :=
  (hb.cell (Nat.lt_of_lt_of_le (block_lt_of_cell h) hn)).trans h
theorem VarsOk.move {w w' : World} {n : Nat} (h : VarsOk w) (hn : w.heap.size ≤ n) (hb : Below n w w') : VarsOk w' := by
  obtain ⟨m, hm⟩ := h.mx
  obtain ⟨ev, he, hev⟩ := h.er
  exact ⟨⟨m, keep_var hm hn hb⟩, ev, keep_var he hn hb, hev⟩

/-- No number, by its form. -/
def badN {α : Type} : Lib.NumEnd α → Bool
  | .ok _ => false
  | .range => false
  | _ => true
theorem uint_not_bad : ∀ (l : List UInt8) (acc : Nat), l.all digB = true → badN (Lib.parseUint10 acc l) = false
  | [], acc, _ => rfl
  | c :: r, acc, h => by
    rw [List.all_cons, Bool.and_eq_true] at h
    have hc : 48 ≤ c.toNat ∧ c.toNat ≤ 57 := by
      have := h.1
      unfold digB digR at this
      rw [Bool.and_eq_true] at this
      have h1 := of_decide_eq_true this.1
      have h2 := of_decide_eq_true this.2
      omega
    unfold Lib.parseUint10
    rw [if_pos hc]
    split
    · rfl
    · split
      · rfl
      · exact uint_not_bad r _ h.2
theorem atoi_not_bad {l : List UInt8} (h : l.all digB = true) (hn : l ≠ []) : badN (Lib.atoiAll l) = false := by
  cases l with
  | nil => exact absurd rfl hn
  | cons c r =>
    have hc : 48 ≤ c.toNat ∧ c.toNat ≤ 57 := by
      rw [List.all_cons, Bool.and_eq_true] at h
      have := h.1
      unfold digB digR at this
      rw [Bool.and_eq_true] at this
      have h1 := of_decide_eq_true this.1
      have h2 := of_decide_eq_true this.2
      omega
    have h2 := uint_not_bad (c :: r) 0 h
    unfold Lib.atoiAll
    have e1 : ¬ (c.toNat = 43 ∨ c.toNat = 45) := by omega
    simp only [e1, if_false]
    unfold Lib.parseMag
    rw [if_neg (by simp)]
    split
    · rename_i hh; rw [hh] at h2; cases h2
    · rfl
    · split
      · rfl
      · split <;> rfl
/-- What a decimal number spells, at most 255. -/
def decV (s : ByteArray) : Option Int := match Lib.atoiAll s.data.toList with
  | .ok v => if v ≤ 255 then some v else none
  | _ => none
def zeroLed (s : ByteArray) : Bool := decide (1 < s.size) && (s.data.toList.head? == some 48)
def decB (s : ByteArray) : Bool := digsB s && !s.toList.isEmpty && !zeroLed s && (decV s).isSome

theorem nonempty_size {s : ByteArray} (h : s.toList.isEmpty = false) : s.data.toList ≠ [] ∧ 0 < s.size := by
  rw [ByteArray.toList_eq] at h
  have hne : s.data.toList ≠ [] := fun e => by rw [e] at h; cases h
  exact ⟨hne, by rw [size_len]; exact List.length_pos_iff.2 hne⟩

set_option maxHeartbeats 4000000 in
theorem decimal_any (s : ByteArray) (w : World) (hs : s.size ≤ 1000000) (hv : VarsOk w) :
    Calls Tryz.prog 172 #[.string s, .int .i64 255] w fun e w' => ∃ v : Int, e = .returned (.tuple #[.int .i64 v, .bool (decB s)]) ∧ Below w.heap.size w w' := by
  have HV := Lib.hid hv
  have c1 := Lib.hid (digits_any s w)
  clear hv
  cases hd : (digsB s && !s.toList.isEmpty) with
  | false =>
    have HF : Hid (decB s = false) := Lib.hid (by unfold decB; rw [hd]; rfl)
    rw [hd] at c1
    clear hd
    go_enter Tryz.func172, Tryz.ntmps172
    go_wp2_with (first | (go_at_call 101; refine c1.out.mono ?_; rintro e w1 ⟨rfl, hb⟩; have HB1 := Lib.hid hb; clear hb))
    go_ret2
    exact ⟨0, by rw [HF.out]; rfl, HB1.out⟩
  | true =>
    rw [hd] at c1
    rw [Bool.and_eq_true] at hd
    obtain ⟨hne, hpos⟩ := nonempty_size (s := s) (by have := hd.2; revert this; cases s.toList.isEmpty <;> simp)
    have hdd : (digsB s && !s.toList.isEmpty) = true := by rw [hd.1, hd.2]; rfl
    have hns := atoi_not_bad hd.1 hne
    have hl0 : 0 < s.data.toList.length := by rw [← size_len]; exact hpos
    have hz0 : (s.data.toList.head? == some 48) = (((s[0]'hpos).toNat : Int) == 48) := by
      rw [List.head?_eq_getElem?, List.getElem?_eq_getElem hl0]
      have e : (s[0]'hpos) = s.data.toList[0]'hl0 := rfl
      rw [e]
      generalize s.data.toList[0]'hl0 = c
      by_cases h : c = 48
      · subst h; rfl
      · rw [beq_eq_false_iff_ne.2 (by simpa using h), beq_eq_false_iff_ne.2 (fun e => h (UInt8.toNat_inj.1 (by have : ((48 : UInt8).toNat : Int) = 48 := rfl; omega)))]
    have HZ : Hid (zeroLed s = (decide (1 < s.size) && (((s[0]'hpos).toNat : Int) == 48))) := Lib.hid (by unfold zeroLed; rw [hz0])
    have hlt : (0 : Int) < (s.size : Int) := by omega
    have HD : Hid (decB s = (!zeroLed s && (decV s).isSome)) := Lib.hid (by unfold decB; rw [hdd]; rfl)
    have HDV : Hid (∀ v, Lib.atoiAll s.data.toList = .ok v → (decV s).isSome = decide (v ≤ 255)) := Lib.hid (fun v h => by
      unfold decV
      rw [h]
      by_cases hv : v ≤ 255
      · simp [hv]
      · simp [hv])
    have HDR : Hid (Lib.atoiAll s.data.toList = .range → (decV s).isSome = false) := Lib.hid (fun h => by unfold decV; rw [h]; rfl)
    clear hz0 hd hdd hne
    by_cases h1 : 1 < s.size
    · have h1' : (1 : Int) < (s.size : Int) := by omega
      cases h48 : (((s[0]'hpos).toNat : Int) == 48) with
      | true =>
        have HF : Hid (decB s = false) := Lib.hid (by rw [HD.out, HZ.out, h48, decide_eq_true h1]; rfl)
        go_enter Tryz.func172, Tryz.ntmps172
        go_wp2_with (first | (go_at_call 101; refine c1.out.mono ?_; rintro e w1 ⟨rfl, hb⟩; have HB1 := Lib.hid hb; clear hb))
        go_ret2
        exact ⟨0, by rw [HF.out]; rfl, HB1.out⟩
      | false =>
        have hz : zeroLed s = false := by rw [HZ.out, h48, Bool.and_false]
        have HNS := Lib.hid hns
        cases ha : Lib.atoiAll s.data.toList with
        | ok v =>
          have CA : Hid (∀ w1, Calls Tryz.prog 187 #[.string s] w1 fun e w' => e = .returned (.tuple #[.int .i64 v, .nilIface]) ∧ Below w1.heap.size w1 w') := Lib.hid (fun w1 => (Tryz.strconv_Atoi_ok s (by omega) v ha w1).mono (fun e w' h => ⟨h.1, by
            rcases h.2 with rfl | ⟨t, rfl⟩
            · exact Below.refl _ _
            · exact Lib.bytesWorld_below w1 5 t⟩))
          have HF : Hid (decB s = decide (v ≤ 255)) := Lib.hid (by rw [HD.out, hz, HDV.out v ha]; rfl)
          clear ha hz
          by_cases hv : v ≤ 255
          · have hv1 : ¬ (255 : Int) < v := by omega
            go_enter Tryz.func172, Tryz.ntmps172
            go_wp2_with (first | (go_at_call 187; refine (CA.out _).mono ?_; rintro e w2 ⟨rfl, hb⟩; have HB2 := Lib.hid (HB1.out.trans (hb.mono HB1.out.size)); clear hb) | (go_at_call 101; refine c1.out.mono ?_; rintro e w1 ⟨rfl, hb⟩; have HB1 := Lib.hid hb; clear hb))
            go_ret2
            exact ⟨v, by rw [HF.out, decide_eq_true hv]; rfl, HB2.out⟩
          · have hv1 : (255 : Int) < v := by omega
            go_enter Tryz.func172, Tryz.ntmps172
            go_wp2_with (first | (go_at_call 187; refine (CA.out _).mono ?_; rintro e w2 ⟨rfl, hb⟩; have HB2 := Lib.hid (HB1.out.trans (hb.mono HB1.out.size)); clear hb) | (go_at_call 101; refine c1.out.mono ?_; rintro e w1 ⟨rfl, hb⟩; have HB1 := Lib.hid hb; clear hb))
            go_ret2
            exact ⟨0, by rw [HF.out, decide_eq_false (show ¬ v ≤ 255 by omega)]; rfl, HB2.out⟩
        | range =>
          have CA : Hid (∀ w1, VarsOk w1 → Calls Tryz.prog 187 #[.string s] w1 fun e w' => ∃ v N, e = .returned (.tuple #[.int .i64 v, .iface 245 (.pointer (some ⟨N, 0, none⟩))]) ∧ Below w1.heap.size w1 w') := Lib.hid (fun w1 hv => by
            obtain ⟨ev, he, hev⟩ := hv.er
            refine (Tryz.strconv_Atoi_range s (by omega) ha ev w1 he hev).mono ?_
            rintro e w' ⟨N, rfl, -, -, hb⟩
            exact ⟨_, N, rfl, hb⟩)
          have HF : Hid (decB s = false) := Lib.hid (by rw [HD.out, hz, HDR.out ha]; rfl)
          clear ha hz
          go_enter Tryz.func172, Tryz.ntmps172
          go_wp2_with (first | (go_at_call 187; refine (CA.out w1 (HV.out.move (Nat.le_refl _) HB1.out)).mono ?_; rintro e w2 ⟨v, N, rfl, hb⟩; have HB2 := Lib.hid (HB1.out.trans (hb.mono HB1.out.size)); clear hb) | (go_at_call 101; refine c1.out.mono ?_; rintro e w1 ⟨rfl, hb⟩; have HB1 := Lib.hid hb; clear hb))
          go_ret2
          exact ⟨0, by rw [HF.out]; rfl, HB2.out⟩
        | _ => have h9 := HNS.out; rw [ha] at h9; cases h9
    · have h1' : ¬ (1 : Int) < (s.size : Int) := by omega
      have hz : zeroLed s = false := by rw [HZ.out, decide_eq_false h1]; rfl
      clear HZ
      have HNS := Lib.hid hns
      cases ha : Lib.atoiAll s.data.toList with
      | ok v =>
        have CA : Hid (∀ w1, Calls Tryz.prog 187 #[.string s] w1 fun e w' => e = .returned (.tuple #[.int .i64 v, .nilIface]) ∧ Below w1.heap.size w1 w') := Lib.hid (fun w1 => (Tryz.strconv_Atoi_ok s (by omega) v ha w1).mono (fun e w' h => ⟨h.1, by
          rcases h.2 with rfl | ⟨t, rfl⟩
          · exact Below.refl _ _
          · exact Lib.bytesWorld_below w1 5 t⟩))
        have HF : Hid (decB s = decide (v ≤ 255)) := Lib.hid (by rw [HD.out, hz, HDV.out v ha]; rfl)
        clear ha hz
        by_cases hv : v ≤ 255
        · have hv1 : ¬ (255 : Int) < v := by omega
          go_enter Tryz.func172, Tryz.ntmps172
          go_wp2_with (first | (go_at_call 187; refine (CA.out _).mono ?_; rintro e w2 ⟨rfl, hb⟩; have HB2 := Lib.hid (HB1.out.trans (hb.mono HB1.out.size)); clear hb) | (go_at_call 101; refine c1.out.mono ?_; rintro e w1 ⟨rfl, hb⟩; have HB1 := Lib.hid hb; clear hb))
          go_ret2
          exact ⟨v, by rw [HF.out, decide_eq_true hv]; rfl, HB2.out⟩
        · have hv1 : (255 : Int) < v := by omega
          go_enter Tryz.func172, Tryz.ntmps172
          go_wp2_with (first | (go_at_call 187; refine (CA.out _).mono ?_; rintro e w2 ⟨rfl, hb⟩; have HB2 := Lib.hid (HB1.out.trans (hb.mono HB1.out.size)); clear hb) | (go_at_call 101; refine c1.out.mono ?_; rintro e w1 ⟨rfl, hb⟩; have HB1 := Lib.hid hb; clear hb))
          go_ret2
          exact ⟨0, by rw [HF.out, decide_eq_false (show ¬ v ≤ 255 by omega)]; rfl, HB2.out⟩
      | range =>
        have CA : Hid (∀ w1, VarsOk w1 → Calls Tryz.prog 187 #[.string s] w1 fun e w' => ∃ v N, e = .returned (.tuple #[.int .i64 v, .iface 245 (.pointer (some ⟨N, 0, none⟩))]) ∧ Below w1.heap.size w1 w') := Lib.hid (fun w1 hv => by
          obtain ⟨ev, he, hev⟩ := hv.er
          refine (Tryz.strconv_Atoi_range s (by omega) ha ev w1 he hev).mono ?_
          rintro e w' ⟨N, rfl, -, -, hb⟩
          exact ⟨_, N, rfl, hb⟩)
        have HF : Hid (decB s = false) := Lib.hid (by rw [HD.out, hz, HDR.out ha]; rfl)
        clear ha hz
        go_enter Tryz.func172, Tryz.ntmps172
        go_wp2_with (first | (go_at_call 187; refine (CA.out w1 (HV.out.move (Nat.le_refl _) HB1.out)).mono ?_; rintro e w2 ⟨v, N, rfl, hb⟩; have HB2 := Lib.hid (HB1.out.trans (hb.mono HB1.out.size)); clear hb) | (go_at_call 101; refine c1.out.mono ?_; rintro e w1 ⟨rfl, hb⟩; have HB1 := Lib.hid hb; clear hb))
        go_ret2
        exact ⟨0, by rw [HF.out]; rfl, HB2.out⟩
      | _ => have h9 := HNS.out; rw [ha] at h9; cases h9
end Go.Proofs.YtakdjflhhaefiaaGreatDoor
/- scalar.Split at ".", at every text; four.Strict. -/
set_option linter.unusedVariables false
set_option linter.unusedSimpArgs false
namespace Go.Proofs.YtakdjflhhaefiaaGreatDoor
open Go.RowKit Go.Proofs.YtakdjflhhaefiaaGreatDoor.PDotsGo Go.Proofs.YtakdjflhhaefiaaGreatDoorW.PrintWords Go.Proofs.YtakdjflhhaefiaaGreatDoorW.PrintLast Go.Proofs.YtakdjflhhaefiaaGreatDoorW.PrintMore

/-- The parts ahead of byte k, and where the last one begins. -/
def partsTo (s : ByteArray) : Nat → List ByteArray × Nat
  | 0 => ([], 0)
  | k + 1 => if (s.data[k]?.getD 0) = 46 then ((partsTo s k).1 ++ [s.extract (partsTo s k).2 k], k + 1) else partsTo s k
def splitB (s : ByteArray) : List ByteArray := (partsTo s s.size).1 ++ [s.extract (partsTo s s.size).2 s.size]
theorem partsTo_le (s : ByteArray) : ∀ k, (partsTo s k).2 ≤ k ∧ (partsTo s k).1.length ≤ k
  | 0 => ⟨Nat.le_refl _, Nat.le_refl _⟩
  | k + 1 => by
    have := partsTo_le s k
    unfold partsTo
    split
    · simp; omega
    · omega

theorem partsTo_yes {s : ByteArray} {k : Nat} (h : k < s.size) (hd : (s[k]'h).toNat = 46) : partsTo s (k + 1) = ((partsTo s k).1 ++ [s.extract (partsTo s k).2 k], k + 1) := by
  have e : s.data[k]? = some (s[k]'h) := Array.getElem?_eq_getElem h
  have : (s[k]'h) = 46 := UInt8.toNat_inj.1 hd
  rw [partsTo, e, this]
  rfl
theorem partsTo_no {s : ByteArray} {k : Nat} (h : k < s.size) (hd : ¬ (s[k]'h).toNat = 46) : partsTo s (k + 1) = partsTo s k := by
  have e : s.data[k]? = some (s[k]'h) := Array.getElem?_eq_getElem h
  have : ¬ (s[k]'h) = 46 := fun hh => hd (by rw [hh]; rfl)
  rw [partsTo, e]
  simp only [Option.getD_some]
  rw [if_neg this]
theorem idx_one (c : Int) (w : World) : Calls Tryz.prog 59 #[.string ⟨#[46]⟩, .int .u8 c] w fun e w' => e = .returned (.int .i64 (Lib.indexByte [46] c.toNat.toUInt8)) ∧ Below w.heap.size w w' :=
  (Tryz.strings_IndexByte ⟨#[46]⟩ c w).mono (fun e w' h => ⟨h.1, by rw [h.2]; exact Below.refl _ _⟩)
theorem idxDot_yes {c : Int} (h : c = 46) (w : World) :
    Calls Tryz.prog 59 #[.string ⟨#[46]⟩, .int .u8 c] w fun e w' => e = .returned (.int .i64 0) ∧ Below w.heap.size w w' := by
  subst h
  exact idx_one 46 w
theorem idxDot_no {c : Int} (h1 : 0 ≤ c) (h2 : c < 256) (h : ¬ c = 46) (w : World) :
    Calls Tryz.prog 59 #[.string ⟨#[46]⟩, .int .u8 c] w fun e w' => e = .returned (.int .i64 (-1)) ∧ Below w.heap.size w w' := by
  have := idx_one c w
  have e : Lib.indexByte [46] c.toNat.toUInt8 = -1 := by
    have hne : ((46 : UInt8) == c.toNat.toUInt8) = false := by
      refine beq_eq_false_iff_ne.2 (fun e => h ?_)
      have e2 := congrArg UInt8.toNat e
      have e3 : (46 : UInt8).toNat = 46 := rfl
      rw [e3] at e2
      simp at e2
      omega
    rw [Lib.indexByte, hne]
    rfl
  rwa [e] at this
set_option maxHeartbeats 4000000 in
set_option maxRecDepth 100000 in
theorem split_dot (s : ByteArray) (w : World) (hs : s.size ≤ 1048576) :
    Calls Tryz.prog 99 #[.string s, .string ⟨#[46]⟩] w fun e w' => ∃ v, e = .returned v ∧ Kd.R Kd.string 9 w' w.heap.size (fun _ => True) v (splitB s) ∧ Below w.heap.size w w' := by
  go_enter Tryz.func99, Tryz.ntmps99
  go_wp2
  go_loopw [5, 6, 7, 10] (fun v5 v6 v7 v10 wr => ∃ k : Nat, k ≤ s.size ∧ v6 = .int .i64 (partsTo s k).2 ∧ v10 = .int .i64 k ∧ Hid (Kd.R Kd.string 9 wr w.heap.size (fun _ => True) v5 (partsTo s k).1) ∧ Hid (Below w.heap.size w wr)) (fun _ _ _ i _ => s.size - (intOf i).toNat)
  case atStart =>
    exact ⟨0, Nat.zero_le _, rfl, rfl, Lib.hid (Kd.R_nil _ _ _ _ _), Lib.hid (Below.refl _ _)⟩
  case round =>
    obtain ⟨k, hk, rfl, rfl, HO, HB⟩ := hrel
    have hle := partsTo_le s k
    by_cases hlt : k < s.size
    · by_cases hdot : (s[k]'hlt).toNat = 46
      · have c1 := Lib.hid (idxDot_yes (c := ((s[k]'hlt).toNat : Int)) (by omega) wr)
        have e1 := Lib.hid (partsTo_yes hlt hdot)
        clear hdot
        go_wp2_with (first | (go_at_call 59; refine c1.out.mono ?_; rintro e w1 ⟨rfl, hb1⟩; have HB1 := Lib.hid (HB.out.trans (hb1.mono HB.out.size)); have HO1 := Lib.hid (Kd.R_below HO.out hb1); clear hb1) | ((with_reducible refine gate_builtin (b := .append) (xs := #[.tmp 19, .tmp 24]) rfl ?_); at_builtin; refine Kd.R_append Kd.string (w0 := w) w.heap.size rfl (.tmp 19) (.tmp 24) 48 9 (.string ⟨#[]⟩) 16 rfl Tryz.underlying48 PDotsGo.info9 rfl (by decide) (by omega) u5 (partsTo s k).1 (s.extract (partsTo s k).2 k) [.string (s.extract (partsTo s k).2 k)] (fun _ => True) (fun _ => False) rfl rfl ?aP (fun _ hk => hk.elim) ?aF ?aO ?aB ?aS ?aL ?_; (case aP => exact rfl); (case aB => first | exact HB1.out | exact below_alloc HB1.out _); (case aF => exact (fun _ _ => trivial)); (case aO => first | exact HO1.out | exact Kd.R_alloc HO1.out _); (case aS => first | exact below_size HB1.out | exact below_size (below_alloc HB1.out _)); (case aL => omega); intro v9 w9 ho hb hg9 hat; have HO2 := Lib.hid ho; have HB2 := Lib.hid hb; clear ho hb hg9 hat))
        go_roundw
        case measure => simp [intOf]; omega
        case rel => exact ⟨k + 1, by omega, by rw [e1.out]; go_num, by go_num, by rw [e1.out]; exact HO2, HB2⟩
      · have c1 := Lib.hid (idxDot_no (c := ((s[k]'hlt).toNat : Int)) (by omega) (by have := (s[k]'hlt).toNat_lt; omega) (by omega) wr)
        have e1 := Lib.hid (partsTo_no hlt hdot)
        clear hdot
        go_wp2_with (first | (go_at_call 59; refine c1.out.mono ?_; rintro e w1 ⟨rfl, hb1⟩; have HB1 := Lib.hid (HB.out.trans (hb1.mono HB.out.size)); have HO1 := Lib.hid (Kd.R_below HO.out hb1); clear hb1))
        go_roundw
        case measure => simp [intOf]; omega
        case rel => exact ⟨k + 1, by omega, by rw [e1.out], by go_num, by rw [e1.out]; exact HO1, HB1⟩
    · have hkk : k = s.size := by omega
      subst hkk
      have HB1 := HB
      have HO1 := HO
      go_wp2_with (first | ((with_reducible refine gate_builtin (b := .append) (xs := #[.tmp 29, .tmp 33]) rfl ?_); at_builtin; refine Kd.R_append Kd.string (w0 := w) w.heap.size rfl (.tmp 29) (.tmp 33) 48 9 (.string ⟨#[]⟩) 16 rfl Tryz.underlying48 PDotsGo.info9 rfl (by decide) (by omega) u5 (partsTo s s.size).1 (s.extract (partsTo s s.size).2 s.size) [.string (s.extract (partsTo s s.size).2 s.size)] (fun _ => True) (fun _ => False) rfl rfl ?aP (fun _ hk => hk.elim) ?aF ?aO ?aB ?aS ?aL ?_; (case aP => exact rfl); (case aB => first | exact HB1.out | exact below_alloc HB1.out _); (case aF => exact (fun _ _ => trivial)); (case aO => first | exact HO1.out | exact Kd.R_alloc HO1.out _); (case aS => first | exact below_size HB1.out | exact below_size (below_alloc HB1.out _)); (case aL => omega); intro v9 w9 ho hb hg9 hat; have HO2 := Lib.hid ho; have HB2 := Lib.hid hb; clear ho hb hg9 hat))
      go_ret
      exact ⟨_, rfl, HO2.out, HB2.out⟩
end Go.Proofs.YtakdjflhhaefiaaGreatDoor
