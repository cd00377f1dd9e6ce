/- scalar.Plain, at every text. -/
import Derived.Test.YtdbnanbeaeafdaaGreatDoorChecked
import Derived.WalkKit
import Derived.Lib.OthersKept
import Derived.Lib.Hide
import Derived.Laws.IdiomStrings
import Derived.Lib.SlBytesRow
import Derived.Test.YtdbnanbeaeafdaaGreatDoorXL
import Derived.Test.YtdbnanbeaeafdaaGreatDoorPDomainReadsx0
import Derived.Test.YtdbnanbeaeafdaaGreatDoorPR1
import Derived.IntWalk
set_option linter.unusedVariables false
set_option linter.unusedSimpArgs false
namespace Go.Proofs.YtdbnanbeaeafdaaGreatDoor
open Go.RowKit

/-- All bytes are ASCII's. -/
def plainB (s : ByteArray) : Bool := s.data.toList.all fun b => decide (b.toNat < 128)
def plainTo (s : ByteArray) (n : Nat) : Prop := ∀ i (h : i < s.size), i < n → (s[i]'h).toNat < 128
theorem plainB_true {s : ByteArray} {n : Nat} (h : plainTo s n) (hn : s.size ≤ n) : plainB s = true := by
  unfold plainB
  rw [List.all_eq_true]
  intro b hb
  obtain ⟨i, hi, rfl⟩ := List.getElem_of_mem hb
  have hi' : i < s.size := by simpa using hi
  have := h i hi' (by omega)
  exact decide_eq_true this
theorem plainB_false {s : ByteArray} {n : Nat} (h : n < s.size) (hb : ¬ (s[n]'h).toNat < 128) : plainB s = false := by
  unfold plainB
  rw [List.all_eq_false]
  refine ⟨s[n]'h, ?_, by simpa using hb⟩
  have : (s[n]'h) = s.data.toList[n]'(by simpa using h) := by rfl
  rw [this]; exact List.getElem_mem _

theorem plainTo_step {s : ByteArray} {n : Nat} (h : plainTo s n) (hp : n < s.size) (ha : (s[n]'hp).toNat < 128) : plainTo s (n + 1) := fun i hi h' => by
  by_cases he : i = n
  · subst he; exact ha
  · exact h i hi (by omega)

set_option maxHeartbeats 1000000 in
theorem scalar_plain (s : ByteArray) (w : World) :
    Calls Tryz.prog 28 #[.string s] w fun e w' => e = .returned (.bool (plainB s)) ∧ Below w.heap.size w w' := by
  go_enter Tryz.func28, Tryz.ntmps28
  go_wp2
  go_loopw [] (fun wr => ∃ pos : Nat, wr.heap[w.heap.size]? = some (.stringIter s pos) ∧ Below w.heap.size w wr ∧ Hid (plainTo s pos)) (fun wr => s.size - wr.iterPos w.heap.size)
  case atStart =>
    exact ⟨0, World.iter_heap w s 0, (Below.refl _ w).alloc (Nat.le_refl _) _, Lib.hid (show plainTo s 0 from fun i h h' => by omega)⟩
  case round =>
    obtain ⟨pos, hit, hbw, hpl⟩ := hrel
    by_cases hp : pos < s.size
    · by_cases ha : (s[pos]'hp).toNat < 128
      · have hnx : ∀ ty, (Instr.next (.pointer (some ⟨w.heap.size, 0, none⟩)) true ty).run Tryz.prog wr = _ := fun ty => Lib.run_next_ascii_at wr w.heap.size s pos ty hit hp ha
        have ha' : ¬ (128 : Int) ≤ ((s[pos]'hp).toNat : Int) := by omega
        have hit2 := Lib.iterAt_heap wr w.heap.size s pos (pos + 1) hit
        have hbw2 := Lib.below_iterAt hbw (k := w.heap.size) (by omega) s (pos + 1)
        go_wp2
        go_roundw
        case rel =>
          exact ⟨pos + 1, hit2, hbw2, Lib.hid (plainTo_step hpl.out hp ha)⟩
        case measure =>
          simp only [World.iterPos, hit2, hit]
          omega
      · have hnx : ∀ ty, (Instr.next (.pointer (some ⟨w.heap.size, 0, none⟩)) true ty).run Tryz.prog wr = _ := fun ty => Lib.run_next_any_at wr w.heap.size s pos ty hit hp
        have ha' : (128 : Int) ≤ ((Utf8.decode s pos).1 : Int) := by
          have := (decode_high s pos hp (by omega)).1
          omega
        have hbw2 := Lib.below_iterAt hbw (k := w.heap.size) (by omega) s (pos + (Utf8.decode s pos).2)
        have hf := Lib.hid (plainB_false hp ha)
        go_wp2
        go_ret
        exact ⟨by rw [hf.out]; rfl, hbw2⟩
    · have hnx : ∀ ty, (Instr.next (.pointer (some ⟨w.heap.size, 0, none⟩)) true ty).run Tryz.prog wr = _ := fun ty => Lib.run_next_end_at wr w.heap.size s pos ty hit hp
      have hf := Lib.hid (plainB_true hpl.out (by omega))
      go_wp2
      go_ret
      exact ⟨by rw [hf.out]; rfl, hbw⟩
end Go.Proofs.YtdbnanbeaeafdaaGreatDoor
/- scalar.Lower, at every text. -/
namespace Go.Proofs.YtdbnanbeaeafdaaGreatDoor
open Go.RowKit

def lowN (b : UInt8) : UInt8 := if 65 ≤ b.toNat ∧ b.toNat ≤ 90 then UInt8.ofNat (b.toNat + 32) else b
theorem lowN_great (b : UInt8) (h1 : 65 ≤ b.toNat) (h2 : b.toNat ≤ 90) : ((lowN b).toNat : Int) = (b.toNat : Int) + 32 := by
  unfold lowN
  rw [if_pos ⟨h1, h2⟩]
  have : (UInt8.ofNat (b.toNat + 32)).toNat = b.toNat + 32 := by
    rw [UInt8.toNat_ofNat']
    omega
  rw [this]
  omega
theorem lowN_other (b : UInt8) (h : ¬ (65 ≤ b.toNat ∧ b.toNat ≤ 90)) : lowN b = b := by
  unfold lowN
  rw [if_neg h]
def lowerB (s : ByteArray) : ByteArray := ⟨s.data.map lowN⟩
theorem lowerB_size (s : ByteArray) : (lowerB s).size = s.size := by
  show (s.data.map lowN).size = s.data.size
  simp

def cellTo (s : ByteArray) (k j : Nat) : Int := if h : j < s.size then (if j < k then ((lowN (s[j]'h)).toNat : Int) else ((s[j]'h).toNat : Int)) else 0
structure LowW (s : ByteArray) (w : World) (k : Nat) (wr : World) : Prop where
  cells : ∀ j, j < s.size → wr.cell? ⟨w.heap.size, j, none⟩ = some (.int .u8 (cellTo s k j))
  free : ∀ j, j < s.size → wr.frozen? ⟨w.heap.size, j, none⟩ = false
  below : Below w.heap.size w wr
  size : w.heap.size < wr.heap.size

theorem cellTo_at {s : ByteArray} {k : Nat} (h : k < s.size) : cellTo s k k = ((s[k]'h).toNat : Int) := by
  unfold cellTo
  rw [dif_pos h, if_neg (Nat.lt_irrefl k)]
theorem cellTo_other {s : ByteArray} {k j : Nat} (h : j ≠ k) : cellTo s (k + 1) j = cellTo s k j := by
  unfold cellTo
  by_cases hj : j < s.size
  · rw [dif_pos hj, dif_pos hj]
    by_cases h1 : j < k
    · rw [if_pos h1, if_pos (by omega)]
    · rw [if_neg h1, if_neg (by omega)]
  · rw [dif_neg hj, dif_neg hj]
theorem cellTo_next {s : ByteArray} {k : Nat} (h : k < s.size) : cellTo s (k + 1) k = ((lowN (s[k]'h)).toNat : Int) := by
  unfold cellTo
  rw [dif_pos h, if_pos (Nat.lt_succ_self k)]

theorem bytesRow_size (s : ByteArray) (cap : Nat) : s.size ≤ (bytesRow s cap).size := by
  unfold bytesRow
  rw [Array.size_append, Array.size_map]
  exact Nat.le_add_right _ _
theorem LowW.start (s : ByteArray) (w : World) (cap n : Nat) (hn : s.size ≤ n) : LowW s w 0 (w.drew.alloc (.cells (bytesRow s cap) 5 (n, n + 1))) := by
  refine ⟨fun j hj => ?_, fun j hj => ?_, (Below.refl _ w).drew.alloc (Nat.le_refl _) _, ?_⟩
  · have := World.cell?_alloc_mark w.drew (bytesRow s cap) 5 (n, n + 1) j
    have h2 : w.drew.heap.size = w.heap.size := rfl
    rw [h2] at this
    rw [this, bytesRow_at s cap j hj]
    unfold cellTo
    rw [dif_pos hj, if_neg (Nat.not_lt_zero j)]
    rfl
  · have := World.frozen?_alloc_mark w.drew (bytesRow s cap) 5 n (n + 1) j
    have h2 : w.drew.heap.size = w.heap.size := rfl
    rw [h2] at this
    rw [this]
    have : ¬ n ≤ j := by omega
    simp [this]
  · have e : (w.drew.alloc (.cells (bytesRow s cap) 5 (n, n + 1))).heap = w.heap.push (.cells (bytesRow s cap) 5 (n, n + 1)) := rfl
    rw [e, Array.size_push]
    exact Nat.lt_succ_self _
theorem LowW.store {s : ByteArray} {w wr : World} {k : Nat} (h : LowW s w k wr) (hk : k < s.size) (h1 : 65 ≤ cellTo s k k) (h2 : cellTo s k k ≤ 90) : LowW s w (k + 1) (wr.setCell ⟨w.heap.size, k, none⟩ (.int .u8 (cellTo s k k + 32))) := by
  refine ⟨fun j hj => ?_, fun j hj => ?_, h.below.setCell (Nat.le_refl _) _, ?_⟩
  · by_cases hjk : j = k
    · subst hjk
      rw [World.cell?_setCell_same _ _ _ (h.cells j hj), cellTo_next hj, cellTo_at hj]
      rw [cellTo_at hj] at h1 h2
      rw [lowN_great _ (by omega) (by omega)]
    · rw [World.cell?_setCell_other _ _ _ _ (by simp <;> omega), h.cells j hj, cellTo_other hjk]
  · rw [World.frozen?_setCell]; exact h.free j hj
  · have := h.size
    simp [World.setCell]; exact this
theorem LowW.skip {s : ByteArray} {w wr : World} {k : Nat} (h : LowW s w k wr) (hk : k < s.size) (h1 : ¬ (65 ≤ cellTo s k k ∧ cellTo s k k ≤ 90)) : LowW s w (k + 1) wr := by
  refine ⟨fun j hj => ?_, h.free, h.below, h.size⟩
  by_cases hjk : j = k
  · subst hjk
    rw [h.cells j hj, cellTo_next hj]
    rw [cellTo_at hj] at h1 ⊢
    rw [lowN_other _ (by omega)]
  · rw [h.cells j hj, cellTo_other hjk]
theorem LowW.bytes {s : ByteArray} {w wr : World} {k : Nat} (h : LowW s w k wr) (hk : s.size ≤ k) : Lib.Bytes wr w.heap.size 0 (lowerB s) := fun i hi => by
  have hi' : i < s.size := by rw [← lowerB_size]; exact hi
  rw [Nat.zero_add, h.cells i hi']
  unfold cellTo
  rw [dif_pos hi', if_pos (by omega)]
  congr 3
  have e : (lowerB s)[i] = lowN s[i] := by
    exact Array.getElem_map ..
  rw [e]

set_option maxHeartbeats 2000000 in
set_option maxRecDepth 100000 in
theorem scalar_lower (s : ByteArray) (w : World) (hs : s.size ≤ maxLen) :
    Calls Tryz.prog 29 #[.string s] w fun e w' => e = .returned (.string (lowerB s)) ∧ Below w.heap.size w w' := by
  unfold maxLen at hs
  have hconv := fun w => run_bytes_of_string (P := Tryz.prog) w 9 34 5 s Tryz.underlying9 Tryz.underlying34 Tryz.underlying5
  go_enter Tryz.func29, Tryz.ntmps29
  go_wp2
  go_loopw [4, 5, 10] (fun v4 v5 i wr => ∃ k : Nat, k ≤ s.size ∧ i = .int .i64 k ∧ LowW s w k wr) (fun _ _ i _ => s.size - (intOf i).toNat)
  case atStart =>
    exact ⟨0, Nat.zero_le _, rfl, LowW.start s w _ _ (bytesRow_size s _)⟩
  case round =>
    obtain ⟨k, hk, rfl, hR⟩ := hrel
    by_cases hlt : k < s.size
    · have hcell := hR.cells k hlt
      have hfz := hR.free k hlt
      go_wp2
      all_goals go_roundw
      all_goals first | (case measure => simp [intOf]; omega) | skip
      all_goals refine ⟨k + 1, by omega, by go_num, ?_⟩
      all_goals first | (exact hR.store hlt (by assumption) (by assumption)) | (exact hR.skip hlt (by omega))
    · have hback := Lib.run_convert_whole (P := Tryz.prog) wr 34 5 9 Tryz.underlying34 Tryz.underlying5 Tryz.underlying9 w.heap.size 0 (lowerB s) (hR.bytes (by omega))
      rw [lowerB_size] at hback
      have hkk : k = s.size := by omega
      subst hkk
      have hb := hR.below
      clear hR
      go_wp2
      go_ret
      exact ⟨rfl, hb⟩
end Go.Proofs.YtdbnanbeaeafdaaGreatDoor
/- domain.byteOf, at every code point. -/
namespace Go.Proofs.YtdbnanbeaeafdaaGreatDoor
open Go.RowKit Go.Xc

theorem byteOf_low (r : Int) (w : World) (h : r ≤ 32) : Calls Tryz.prog 30 #[.int .i32 r] w fun e w' => e = .returned (.bool false) ∧ Below w.heap.size w w' := by
  have hd : decide ((32 : Int) < r) = false := by simpa using h
  have hd2 : ¬ (32 : Int) < r := by omega
  go_enter Tryz.func30, Tryz.ntmps30
  go_wp2
  go_ret
  exact ⟨rfl, Below.refl _ _⟩
theorem byteOf_high (r : Int) (w : World) (h : 127 ≤ r) : Calls Tryz.prog 30 #[.int .i32 r] w fun e w' => e = .returned (.bool false) ∧ Below w.heap.size w w' := by
  have hd : decide ((32 : Int) < r) = true := by simp; omega
  have hd2 : (32 : Int) < r := by omega
  have hd3 : decide (r ≤ 126) = false := by simp; omega
  have hd4 : ¬ r ≤ 126 := by omega
  go_enter Tryz.func30, Tryz.ntmps30
  go_wp2
  go_ret
  exact ⟨rfl, Below.refl _ _⟩
theorem byteOf_any (r : Int) {w : World} (hg : Xc.Good XC glob w.heap.size w) :
    Calls Tryz.prog 30 #[.int .i32 r] w fun e w' => e = .returned (.bool (byteOfB r)) ∧ Below w.heap.size w w' := by
  by_cases h1 : r ≤ 32
  · have : byteOfB r = false := by
      have : decide (33 ≤ r) = false := by simp; omega
      unfold byteOfB; rw [this]; rfl
    rw [this]; exact byteOf_low r w h1
  · by_cases h2 : 127 ≤ r
    · have : byteOfB r = false := by
        have : decide (r ≤ 126) = false := by simp; omega
        unfold byteOfB; rw [this]; simp
      rw [this]; exact byteOf_high r w h2
    · exact byteOf_in (by omega) (by omega) hg
end Go.Proofs.YtdbnanbeaeafdaaGreatDoor
/- strings.IndexByte in ".", at every byte. -/
namespace Go.Proofs.YtdbnanbeaeafdaaGreatDoor
open Go.RowKit Go.Xc

def dotB : ByteArray := ⟨#[46]⟩
def idxDot (c : Int) : Int := if c = 46 then 0 else -1
theorem idxDot_runs : ((List.range 256).all fun k => match arun (XC.with T0) 100000 glob 114 [.string dotB, .int .u8 (k : Nat)] with
    | some (.int .i64 n) => n == idxDot (k : Nat)
    | _ => false) = true := by kernel_rfl
theorem idxDot_run (k : Nat) (h : k < 256) : arun (XC.with T0) 100000 glob 114 [.string dotB, .int .u8 (k : Nat)] = some (.int .i64 (idxDot (k : Nat))) := by
  have h1 := List.all_eq_true.1 idxDot_runs k (List.mem_range.2 h)
  revert h1
  split
  · rename_i b hb
    intro h1
    rw [hb]
    simp only [beq_iff_eq] at h1
    rw [h1]
  · intro h1; cases h1
theorem idxDot_any {c : Int} (h1 : 0 ≤ c) (h2 : c < 256) {w : World} (hg : Xc.Good XC glob w.heap.size w) :
    Calls Tryz.prog 114 #[.string ⟨#[46]⟩, .int .u8 c] w fun e w' => e = .returned (.int .i64 (idxDot c)) ∧ Below w.heap.size w w' := by
  obtain ⟨k, rfl⟩ : ∃ k : Nat, c = (k : Int) := ⟨c.toNat, by omega⟩
  exact known1 (Tab.Ok.plain XC_ok glob_ro T0_ok (idxDot_run k (by omega))) rfl rfl hg
end Go.Proofs.YtdbnanbeaeafdaaGreatDoor
/- scalar.Split at ".", at every text. -/
namespace Go.Proofs.YtdbnanbeaeafdaaGreatDoor
open Go.RowKit Go.Xc Go.Proofs.YtdbnanbeaeafdaaGreatDoor.PDomainReads Go.Proofs.YtdbnanbeaeafdaaGreatDoorW.PrintWords Go.Proofs.YtdbnanbeaeafdaaGreatDoorW.PrintLast Go.Proofs.YtdbnanbeaeafdaaGreatDoorW.PrintMore

/-- The parts ahead of byte k, and where the last one begins. -/
def partsTo (s : ByteArray) : Nat → List ByteArray × Nat
  | 0 => ([], 0)
  | k + 1 => if (s.data[k]?.getD 0) = 46 then ((partsTo s k).1 ++ [s.extract (partsTo s k).2 k], k + 1) else partsTo s k
def splitB (s : ByteArray) : List ByteArray := (partsTo s s.size).1 ++ [s.extract (partsTo s s.size).2 s.size]
theorem partsTo_le (s : ByteArray) : ∀ k, (partsTo s k).2 ≤ k ∧ (partsTo s k).1.length ≤ k
  | 0 => ⟨Nat.le_refl _, Nat.le_refl _⟩
  | k + 1 => by
    have := partsTo_le s k
    unfold partsTo
    split
    · simp; omega
    · omega

theorem partsTo_yes {s : ByteArray} {k : Nat} (h : k < s.size) (hd : (s[k]'h).toNat = 46) : partsTo s (k + 1) = ((partsTo s k).1 ++ [s.extract (partsTo s k).2 k], k + 1) := by
  have e : s.data[k]? = some (s[k]'h) := Array.getElem?_eq_getElem h
  have : (s[k]'h) = 46 := UInt8.toNat_inj.1 hd
  rw [partsTo, e, this]
  rfl
theorem partsTo_no {s : ByteArray} {k : Nat} (h : k < s.size) (hd : ¬ (s[k]'h).toNat = 46) : partsTo s (k + 1) = partsTo s k := by
  have e : s.data[k]? = some (s[k]'h) := Array.getElem?_eq_getElem h
  have : ¬ (s[k]'h) = 46 := fun hh => hd (by rw [hh]; rfl)
  rw [partsTo, e]
  simp only [Option.getD_some]
  rw [if_neg this]
theorem idxDot_yes {c : Int} (h : c = 46) {w : World} (hg : Xc.Good XC glob w.heap.size w) :
    Calls Tryz.prog 114 #[.string ⟨#[46]⟩, .int .u8 c] w fun e w' => e = .returned (.int .i64 0) ∧ Below w.heap.size w w' := by
  have := idxDot_any (c := c) (by omega) (by omega) hg
  rwa [show idxDot c = 0 from if_pos h] at this
theorem idxDot_no {c : Int} (h1 : 0 ≤ c) (h2 : c < 256) (h : ¬ c = 46) {w : World} (hg : Xc.Good XC glob w.heap.size w) :
    Calls Tryz.prog 114 #[.string ⟨#[46]⟩, .int .u8 c] w fun e w' => e = .returned (.int .i64 (-1)) ∧ Below w.heap.size w w' := by
  have := idxDot_any (c := c) h1 h2 hg
  rwa [show idxDot c = -1 from if_neg h] at this

set_option maxHeartbeats 4000000 in
set_option maxRecDepth 100000 in
theorem split_dot (s : ByteArray) {w : World} (hg : Xc.Good XC glob w.heap.size w) (hs : s.size ≤ 1048576) :
    Calls Tryz.prog 72 #[.string s, .string ⟨#[46]⟩] w fun e w' => ∃ v, e = .returned v ∧ Kd.R Kd.string 9 w' w.heap.size (fun _ => True) v (splitB s) ∧ Below w.heap.size w w' := by
  have HG := Lib.hid hg
  clear hg
  go_enter Tryz.func72, Tryz.ntmps72
  go_wp2
  go_loopw [5, 6, 7, 10] (fun v5 v6 v7 v10 wr => ∃ k : Nat, k ≤ s.size ∧ v6 = .int .i64 (partsTo s k).2 ∧ v10 = .int .i64 k ∧ Hid (Kd.R Kd.string 9 wr w.heap.size (fun _ => True) v5 (partsTo s k).1) ∧ Hid (Below w.heap.size w wr)) (fun _ _ _ i _ => s.size - (intOf i).toNat)
  case atStart =>
    exact ⟨0, Nat.zero_le _, rfl, rfl, Lib.hid (Kd.R_nil _ _ _ _ _), Lib.hid (Below.refl _ _)⟩
  case round =>
    obtain ⟨k, hk, rfl, rfl, HO, HB⟩ := hrel
    have hle := partsTo_le s k
    have HW : Hid (Xc.Good XC glob wr.heap.size wr) := Lib.hid (HG.out.move glob_ro HB.out HB.out.size)
    by_cases hlt : k < s.size
    · by_cases hdot : (s[k]'hlt).toNat = 46
      · have c1 := Lib.hid (idxDot_yes (c := ((s[k]'hlt).toNat : Int)) (by omega) HW.out)
        have e1 := Lib.hid (partsTo_yes hlt hdot)
        clear hdot
        go_wp2_with (first | (go_at_call 114; refine c1.out.mono ?_; rintro e w1 ⟨rfl, hb1⟩; have HB1 := Lib.hid (HB.out.trans (hb1.mono HB.out.size)); have HO1 := Lib.hid (Kd.R_below HO.out hb1); clear hb1) | ((with_reducible refine gate_builtin (b := .append) (xs := #[.tmp 19, .tmp 24]) rfl ?_); at_builtin; refine Kd.R_append Kd.string (w0 := w) w.heap.size rfl (.tmp 19) (.tmp 24) 31 9 (.string ⟨#[]⟩) 16 rfl Tryz.underlying31 info9 rfl (by decide) (by omega) u5 (partsTo s k).1 (s.extract (partsTo s k).2 k) [.string (s.extract (partsTo s k).2 k)] (fun _ => True) (fun _ => False) rfl rfl ?aP (fun _ hk => hk.elim) ?aF ?aO ?aB ?aS ?aL ?_; (case aP => exact rfl); (case aB => first | exact HB1.out | exact below_alloc HB1.out _); (case aF => exact (fun _ _ => trivial)); (case aO => first | exact HO1.out | exact Kd.R_alloc HO1.out _); (case aS => first | exact below_size HB1.out | exact below_size (below_alloc HB1.out _)); (case aL => omega); intro v9 w9 ho hb hg9 hat; have HO2 := Lib.hid ho; have HB2 := Lib.hid hb; clear ho hb hg9 hat))
        go_roundw
        case measure => simp [intOf]; omega
        case rel => exact ⟨k + 1, by omega, by rw [e1.out]; go_num, by go_num, by rw [e1.out]; exact HO2, HB2⟩
      · have c1 := Lib.hid (idxDot_no (c := ((s[k]'hlt).toNat : Int)) (by omega) (by have := (s[k]'hlt).toNat_lt; omega) (by omega) HW.out)
        have e1 := Lib.hid (partsTo_no hlt hdot)
        clear hdot
        go_wp2_with (first | (go_at_call 114; refine c1.out.mono ?_; rintro e w1 ⟨rfl, hb1⟩; have HB1 := Lib.hid (HB.out.trans (hb1.mono HB.out.size)); have HO1 := Lib.hid (Kd.R_below HO.out hb1); clear hb1))
        go_roundw
        case measure => simp [intOf]; omega
        case rel => exact ⟨k + 1, by omega, by rw [e1.out], by go_num, by rw [e1.out]; exact HO1, HB1⟩
    · have hkk : k = s.size := by omega
      subst hkk
      have HB1 := HB
      have HO1 := HO
      go_wp2_with (first | ((with_reducible refine gate_builtin (b := .append) (xs := #[.tmp 29, .tmp 33]) rfl ?_); at_builtin; refine Kd.R_append Kd.string (w0 := w) w.heap.size rfl (.tmp 29) (.tmp 33) 31 9 (.string ⟨#[]⟩) 16 rfl Tryz.underlying31 info9 rfl (by decide) (by omega) u5 (partsTo s s.size).1 (s.extract (partsTo s s.size).2 s.size) [.string (s.extract (partsTo s s.size).2 s.size)] (fun _ => True) (fun _ => False) rfl rfl ?aP (fun _ hk => hk.elim) ?aF ?aO ?aB ?aS ?aL ?_; (case aP => exact rfl); (case aB => first | exact HB1.out | exact below_alloc HB1.out _); (case aF => exact (fun _ _ => trivial)); (case aO => first | exact HO1.out | exact Kd.R_alloc HO1.out _); (case aS => first | exact below_size HB1.out | exact below_size (below_alloc HB1.out _)); (case aL => omega); intro v9 w9 ho hb hg9 hat; have HO2 := Lib.hid ho; have HB2 := Lib.hid hb; clear ho hb hg9 hat))
      go_ret
      exact ⟨_, rfl, HO2.out, HB2.out⟩
end Go.Proofs.YtdbnanbeaeafdaaGreatDoor
/- domain.labels, at every text. -/
namespace Go.Proofs.YtdbnanbeaeafdaaGreatDoor
open Go.RowKit Go.Xc Go.Proofs.YtdbnanbeaeafdaaGreatDoor.PDomainReads Go.Proofs.YtdbnanbeaeafdaaGreatDoorW.PrintWords Go.Proofs.YtdbnanbeaeafdaaGreatDoorW.PrintLast Go.Proofs.YtdbnanbeaeafdaaGreatDoorW.PrintMore

def labelsOf (l : List ByteArray) : List ByteArray := if 1 < l.length ∧ (rdOf ByteArray.empty l ((l.length : Int) - 1)).toList.isEmpty = true then l.take (l.length - 1) else l
def labelsB (s : ByteArray) : List ByteArray := labelsOf (splitB s)

set_option maxHeartbeats 4000000 in
set_option maxRecDepth 100000 in
theorem labels_any (s : ByteArray) {w : World} (hg : Xc.Good XC glob w.heap.size w) (hs : s.size ≤ 1048576) :
    Calls Tryz.prog 33 #[.string s] w fun e w' => ∃ v, e = .returned v ∧ Kd.R Kd.string 9 w' w.heap.size (fun _ => True) v (labelsB s) ∧ Below w.heap.size w w' := by
  have c1 := Lib.hid (split_dot s hg hs)
  clear hg
  generalize hl : splitB s = l at c1
  have HL := Lib.hid hl
  clear hl
  have HN : Hid (l.length ≤ 1048577) := Lib.hid (by rw [← HL.out]; unfold splitB; have := (partsTo_le s s.size).2; simp; omega)
  by_cases h1 : 1 < l.length
  · have hd1 : decide ((1 : Int) < (l.length : Int)) = true := by simp; omega
    have hw : wrap64 ((l.length : Int) - 1) = (l.length : Int) - 1 := by have := HN.out; unfold wrap64; omega
    have p4 : 0 ≤ wrap64 ((l.length : Int) - 1) := by rw [hw]; omega
    have q4 : wrap64 ((l.length : Int) - 1) < (l.length : Int) := by rw [hw]; omega
    have HWR := Lib.hid hw
    clear hw
    go_enter Tryz.func33, Tryz.ntmps33
    go_wp2_with (first | (go_at_call 72; refine c1.out.mono ?_; rintro e w1 ⟨v, rfl, ho, hb⟩; have HO := Lib.hid ho; have HB := Lib.hid hb; clear ho hb; obtain ⟨A, c, rfl⟩ := Kd.R_slice HO.out; obtain ⟨ad, ea, hx⟩ := Kd.at_string (Kd.R_reads' HO.out).2.2 (wrap64 ((l.length : Int) - 1)) p4 q4; cases ea; have hc9 : ¬ (c : Int) < wrap64 ((l.length : Int) - 1) := (by have := (Kd.R_reads' HO.out).2.1; omega)))
    · go_ret
      rename_i h9
      rw [HWR.out] at h9
      have e : labelsB s = l.take ((wrap64 ((l.length : Int) - 1))).toNat := by
        unfold labelsB labelsOf
        rw [HL.out, if_pos ⟨h1, h9⟩, HWR.out]
        congr 1
        omega
      exact ⟨_, rfl, by rw [e]; exact Kd.R_take HO.out (by rw [HWR.out]; omega), HB.out⟩
    · go_ret
      rename_i h9
      rw [HWR.out] at h9
      have e : labelsB s = l := by
        unfold labelsB labelsOf
        rw [HL.out, if_neg (fun h => by rw [h9] at h; cases h.2)]
      exact ⟨_, rfl, by rw [e]; exact HO.out, HB.out⟩
  · have hd1 : decide ((1 : Int) < (l.length : Int)) = false := by simp; omega
    have hr : labelsB s = l := by unfold labelsB labelsOf; rw [HL.out, if_neg (fun h => h1 h.1)]
    have HR := Lib.hid hr
    clear hr
    go_enter Tryz.func33, Tryz.ntmps33
    go_wp2_with (first | (go_at_call 72; refine c1.out.mono ?_; rintro e w1 ⟨v, rfl, ho, hb⟩; have HO := Lib.hid ho; have HB := Lib.hid hb; clear ho hb; obtain ⟨A, c, rfl⟩ := Kd.R_slice HO.out))
    go_ret
    exact ⟨_, rfl, by rw [HR.out]; exact HO.out, HB.out⟩
end Go.Proofs.YtdbnanbeaeafdaaGreatDoor
/- slices.ContainsFunc at the closure of domain.Canon. -/
namespace Go.Proofs.YtdbnanbeaeafdaaGreatDoor
open Go.RowKit Go.Xc Go.Proofs.YtdbnanbeaeafdaaGreatDoor.PDomainReads Go.Proofs.YtdbnanbeaeafdaaGreatDoorW.PrintWords Go.Proofs.YtdbnanbeaeafdaaGreatDoorW.PrintLast Go.Proofs.YtdbnanbeaeafdaaGreatDoorW.PrintMore

def xnB : ByteArray := ⟨#[120, 110, 45, 45]⟩
def isXn (s : ByteArray) : Bool := decide (4 ≤ s.size) && ((s.extract 0 4).toList == xnB.toList)
theorem closure_any (s : ByteArray) (w : World) (r : Bool) (h : strings_HasPrefix.f s ⟨#[120, 110, 45, 45]⟩ = some r) :
    Calls Tryz.prog 34 #[.string s] w fun e w' => e = .returned (.bool r) ∧ Below w.heap.size w w' := by
  have c1 := Lib.hid (fun w => strings_HasPrefix.calls s ⟨#[120, 110, 45, 45]⟩ r w h)
  clear h
  go_enter Tryz.func34, Tryz.ntmps34
  go_wp2_with (first | (go_at_call 35; refine (c1.out _).mono ?_; rintro e w1 ⟨rfl, ⟨nd, rfl⟩⟩))
  go_ret
  exact ⟨rfl, pw_below_drewN (Below.refl _ _) nd⟩
/-- The first of some texts that starts so: where. -/
def xnAt (l : List ByteArray) : Nat → Bool
  | 0 => false
  | k + 1 => xnAt l k || isXn (l.getD k ByteArray.empty)
theorem prefix_xn (s : ByteArray) (hs : s.size ≤ 1048576) : strings_HasPrefix.f s ⟨#[120, 110, 45, 45]⟩ = some (isXn s) := by
  have hz : (⟨#[120, 110, 45, 45]⟩ : ByteArray).size = 4 := rfl
  unfold strings_HasPrefix.f stringslite_HasPrefix.f isXn
  rw [hz]
  by_cases h : 4 ≤ s.size
  · rw [if_pos (by omega), if_pos (by omega), if_pos (by omega), decide_eq_true h]
    rfl
  · rw [if_neg (by omega), decide_eq_false h]
    rfl
end Go.Proofs.YtdbnanbeaeafdaaGreatDoor
/- slices.IndexFunc and ContainsFunc at the closure of domain.Canon. -/
namespace Go.Proofs.YtdbnanbeaeafdaaGreatDoor
open Go.RowKit Go.Xc Go.Proofs.YtdbnanbeaeafdaaGreatDoor.PDomainReads Go.Proofs.YtdbnanbeaeafdaaGreatDoorW.PrintWords Go.Proofs.YtdbnanbeaeafdaaGreatDoorW.PrintLast Go.Proofs.YtdbnanbeaeafdaaGreatDoorW.PrintMore

def noXn (l : List ByteArray) (k : Nat) : Prop := ∀ j, j < k → j < l.length → isXn (rdOf ByteArray.empty l (j : Int)) = false
def IxPost (l : List ByteArray) (w : World) (e : Ending) (w' : World) : Prop := ∃ n : Int, e = .returned (.int .i64 n) ∧ ((0 ≤ n ∧ ∃ j, j < l.length ∧ isXn (rdOf ByteArray.empty l (j : Int)) = true) ∨ (n = -1 ∧ noXn l l.length)) ∧ Below w.heap.size w w'

set_option maxHeartbeats 4000000 in
set_option maxRecDepth 100000 in
theorem indexFunc_xn (l : List ByteArray) (v : Value) (b : Nat) (w : World) (ho : Kd.R Kd.string 9 w b (fun _ => True) v l) (hl : l.length ≤ 1048577) (hs : ∀ j : Nat, j < l.length → (rdOf ByteArray.empty l (j : Int)).size ≤ 1048576) :
    Calls Tryz.prog 71 #[v, .func (.func 34) #[] #[]] w (IxPost l w) := by
  obtain ⟨A, c, rfl⟩ := Kd.R_slice ho
  have HO := Lib.hid ho
  have HS := Lib.hid hs
  clear ho hs
  go_enter Tryz.func71, Tryz.ntmps71
  go_wp2
  go_loopw [4, 5, 8] (fun _ _ v8 wr => ∃ k : Nat, k ≤ l.length ∧ v8 = .int .i64 k ∧ Hid (noXn l k) ∧ Hid (Below w.heap.size w wr)) (fun _ _ i _ => l.length - (intOf i).toNat)
  case atStart => exact ⟨0, Nat.zero_le _, rfl, Lib.hid (fun j hj => by omega), Lib.hid (Below.refl _ _)⟩
  case round =>
    obtain ⟨k, hk, rfl, HX, HB⟩ := hrel
    by_cases hlt : k < l.length
    · obtain ⟨ad, ea, hx⟩ := Kd.at_string (Kd.R_reads' (Kd.R_below HO.out HB.out)).2.2 (k : Int) (by omega) (by omega)
      cases ea
      rw [Int.toNat_natCast] at hx
      cases hq : isXn (rdOf ByteArray.empty l (k : Int)) with
      | true =>
        have c1 := Lib.hid (fun w => closure_any (rdOf ByteArray.empty l (k : Int)) w true ((prefix_xn _ (HS.out k hlt)).trans (by rw [hq])))
        have HQ := Lib.hid hq
        clear hq
        go_wp2_with (first | (go_at_call 34; refine (c1.out _).mono ?_; rintro e w1 ⟨rfl, hb1⟩; have HB1 := Lib.hid (HB.out.trans (hb1.mono HB.out.size)); clear hb1))
        go_ret
        exact ⟨_, rfl, .inl ⟨by omega, k, hlt, HQ.out⟩, HB1.out⟩
      | false =>
        have c1 := Lib.hid (fun w => closure_any (rdOf ByteArray.empty l (k : Int)) w false ((prefix_xn _ (HS.out k hlt)).trans (by rw [hq])))
        have HQ := Lib.hid hq
        clear hq
        go_wp2_with (first | (go_at_call 34; refine (c1.out _).mono ?_; rintro e w1 ⟨rfl, hb1⟩; have HB1 := Lib.hid (HB.out.trans (hb1.mono HB.out.size)); clear hb1))
        go_roundw
        case measure => simp [intOf]; omega
        case rel => exact ⟨k + 1, by omega, by go_num, Lib.hid (fun j hj hjl => by
          by_cases he : j = k
          · subst he; exact HQ.out
          · exact HX.out j (by omega) hjl), HB1⟩
    · have hkk : k = l.length := by omega
      subst hkk
      go_wp2
      go_ret
      exact ⟨_, rfl, .inr ⟨rfl, HX.out⟩, HB.out⟩
end Go.Proofs.YtdbnanbeaeafdaaGreatDoor
/- slices.ContainsFunc at the closure of domain.Canon; domain.size. -/
namespace Go.Proofs.YtdbnanbeaeafdaaGreatDoor
open Go.RowKit Go.Xc Go.Proofs.YtdbnanbeaeafdaaGreatDoor.PDomainReads Go.Proofs.YtdbnanbeaeafdaaGreatDoorW.PrintWords Go.Proofs.YtdbnanbeaeafdaaGreatDoorW.PrintLast Go.Proofs.YtdbnanbeaeafdaaGreatDoorW.PrintMore

def anyXn (l : List ByteArray) : Bool := (List.range l.length).any fun j => isXn (rdOf ByteArray.empty l (j : Int))
theorem contains_xn (l : List ByteArray) (v : Value) (b : Nat) (w : World) (ho : Kd.R Kd.string 9 w b (fun _ => True) v l) (hl : l.length ≤ 1048577) (hs : ∀ j : Nat, j < l.length → (rdOf ByteArray.empty l (j : Int)).size ≤ 1048576) :
    Calls Tryz.prog 32 #[v, .func (.func 34) #[] #[]] w fun e w' => e = .returned (.bool (anyXn l)) ∧ Below w.heap.size w w' := by
  have c1 := Lib.hid (indexFunc_xn l v b w ho hl hs)
  clear ho hs
  go_enter Tryz.func32, Tryz.ntmps32
  go_wp2_with (first | (go_at_call 71; refine c1.out.mono ?_; rintro e w1 ⟨n, rfl, hn, hb⟩; have HN := Lib.hid hn; have HB := Lib.hid hb; clear hn hb))
  go_ret
  refine ⟨?_, HB.out⟩
  have key : (0 ≤ n) = (anyXn l = true) := by
    rw [eq_iff_iff]
    unfold anyXn
    rw [List.any_eq_true]
    rcases HN.out with ⟨h0, j, hj, hx⟩ | ⟨h0, hx⟩
    · exact ⟨fun _ => ⟨j, List.mem_range.2 hj, hx⟩, fun _ => h0⟩
    · refine ⟨fun h => by omega, fun ⟨j, hj, hjx⟩ => ?_⟩
      have := hx j (List.mem_range.1 hj) (List.mem_range.1 hj)
      rw [this] at hjx; cases hjx
  have e : decide (0 ≤ n) = anyXn l := by
    cases h : anyXn l with
    | true => exact decide_eq_true (key.mpr h)
    | false => exact decide_eq_false (fun h0 => by rw [key.mp h0] at h; cases h)
  rw [← e]
  rfl
end Go.Proofs.YtdbnanbeaeafdaaGreatDoor
/- domain.size. -/
namespace Go.Proofs.YtdbnanbeaeafdaaGreatDoor
open Go.RowKit Go.Xc Go.Proofs.YtdbnanbeaeafdaaGreatDoor.PDomainReads Go.Proofs.YtdbnanbeaeafdaaGreatDoorW.PrintWords Go.Proofs.YtdbnanbeaeafdaaGreatDoorW.PrintLast Go.Proofs.YtdbnanbeaeafdaaGreatDoorW.PrintMore

def okLab (b : ByteArray) : Bool := !b.toList.isEmpty && decide (b.size ≤ 63)
def okTo (l : List ByteArray) (k : Nat) : Prop := ∀ j, j < k → j < l.length → okLab (rdOf ByteArray.empty l (j : Int)) = true
def allOk (l : List ByteArray) : Bool := (List.range l.length).all fun j => okLab (rdOf ByteArray.empty l (j : Int))
def trimB (s : ByteArray) : ByteArray := (strings_TrimSuffix.f s ⟨#[46]⟩).getD s
theorem trim_some (s : ByteArray) (hs : s.size ≤ 1048576) : strings_TrimSuffix.f s ⟨#[46]⟩ = some (trimB s) := by
  have hz : (⟨#[46]⟩ : ByteArray).size = 1 := rfl
  have : ∃ r, strings_TrimSuffix.f s ⟨#[46]⟩ = some r := by
    unfold strings_TrimSuffix.f stringslite_TrimSuffix.f stringslite_HasSuffix.f
    rw [hz]
    by_cases h : 1 ≤ s.size
    · have hw : wrap64 ((s.size : Int) - ((1 : Nat) : Int)) = (s.size : Int) - 1 := by unfold wrap64; omega
      rw [hw, if_pos (by omega), if_pos (by omega), if_pos (by omega)]
      simp only [Option.bind_some]
      split
      · rw [if_pos (by omega), if_pos (by omega)]; exact ⟨_, rfl⟩
      · exact ⟨_, rfl⟩
    · rw [if_neg (by omega)]
      exact ⟨_, rfl⟩
  obtain ⟨r, hr⟩ := this
  unfold trimB
  rw [hr]
  rfl
theorem labelsB_len (s : ByteArray) : (labelsB s).length ≤ s.size + 1 := by
  have h := (partsTo_le s s.size).2
  have h2 : (splitB s).length ≤ s.size + 1 := by unfold splitB; simp; omega
  unfold labelsB labelsOf
  split
  · simp; omega
  · exact h2
theorem allOk_false {l : List ByteArray} {k : Nat} (hk : k < l.length) (h : okLab (rdOf ByteArray.empty l (k : Int)) = false) : allOk l = false := by
  unfold allOk
  rw [List.all_eq_false]
  exact ⟨k, List.mem_range.2 hk, by rw [h]; simp⟩
theorem allOk_true {l : List ByteArray} (h : okTo l l.length) : allOk l = true := by
  unfold allOk
  rw [List.all_eq_true]
  exact fun j hj => h j (List.mem_range.1 hj) (List.mem_range.1 hj)
def sizeB (s : ByteArray) : Bool := allOk (labelsB s) && decide ((trimB s).size ≤ 253)

set_option maxHeartbeats 4000000 in
set_option maxRecDepth 100000 in
theorem size_any (s : ByteArray) {w : World} (hg : Xc.Good XC glob w.heap.size w) (hs : s.size ≤ 1048576) :
    Calls Tryz.prog 31 #[.string s] w fun e w' => e = .returned (.bool (sizeB s)) ∧ Below w.heap.size w w' := by
  have c1 := Lib.hid (labels_any s hg hs)
  have c2 := Lib.hid (fun w => strings_TrimSuffix.calls s ⟨#[46]⟩ (trimB s) w (trim_some s hs))
  clear hg
  have hn := labelsB_len s
  generalize hl : labelsB s = l at c1 hn
  have HL := Lib.hid hl
  clear hl
  go_enter Tryz.func31, Tryz.ntmps31
  go_wp2_with (first | (go_at_call 33; refine c1.out.mono ?_; rintro e w1 ⟨v, rfl, ho, hb⟩; have HO := Lib.hid ho; have HB0 := Lib.hid hb; clear ho hb; obtain ⟨A, c, rfl⟩ := Kd.R_slice HO.out))
  go_loopw [4, 8] (fun _ v8 wr => ∃ k : Nat, k ≤ l.length ∧ v8 = .int .i64 k ∧ Hid (okTo l k) ∧ Hid (Below w1.heap.size w1 wr)) (fun _ i _ => l.length - (intOf i).toNat)
  case atStart => exact ⟨0, Nat.zero_le _, rfl, Lib.hid (fun j hj => by omega), Lib.hid (Below.refl _ _)⟩
  case round =>
    obtain ⟨k, hk, rfl, HX, HB⟩ := hrel
    by_cases hlt : k < l.length
    · obtain ⟨ad, ea, hx⟩ := Kd.at_string (Kd.R_reads' (Kd.R_below HO.out HB.out)).2.2 (k : Int) (by omega) (by omega)
      cases ea
      rw [Int.toNat_natCast] at hx
      go_wp2
      · rename_i h1
        have e : sizeB s = false := by
          unfold sizeB
          rw [HL.out, allOk_false hlt (by unfold okLab; rw [h1]; rfl)]; rfl
        go_ret
        exact ⟨by rw [e]; rfl, HB0.out.trans (HB.out.mono HB0.out.size)⟩
      · rename_i h1 h2
        have e : sizeB s = false := by
          unfold sizeB
          rw [HL.out, allOk_false hlt ?_]
          · rfl
          · unfold okLab
            rcases h2 with h2 | h2
            · rw [h2]; rfl
            · rw [decide_eq_false (by omega)]; simp
        go_ret
        exact ⟨by rw [e]; rfl, HB0.out.trans (HB.out.mono HB0.out.size)⟩
      · rename_i h1 h2
        go_roundw
        case measure => simp [intOf, wrap64]; omega
        case rel =>
          refine ⟨k + 1, by omega, ?_, Lib.hid (fun j hj hjl => ?_), HB⟩
          · go_num
          · by_cases he : j = k
            · subst he
              unfold okLab
              rw [h2.1, decide_eq_true (by omega)]; rfl
            · exact HX.out j (by omega) hjl
    · have hkk : k = l.length := by omega
      subst hkk
      go_wp2_with (first | (go_at_call 70; refine (c2.out _).mono ?_; rintro e w2 ⟨rfl, ⟨nd, rfl⟩⟩))
      go_ret
      refine ⟨?_, pw_below_drewN (HB0.out.trans (HB.out.mono HB0.out.size)) nd⟩
      have e : sizeB s = decide (((trimB s).size : Int) ≤ 253) := by
        unfold sizeB
        rw [HL.out, allOk_true HX.out, Bool.true_and]
        congr 1
        rw [eq_iff_iff]; omega
      rw [e]
      rfl
end Go.Proofs.YtdbnanbeaeafdaaGreatDoor
