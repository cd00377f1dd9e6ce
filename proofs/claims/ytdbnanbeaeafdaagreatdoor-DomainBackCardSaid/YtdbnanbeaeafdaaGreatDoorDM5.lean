/- The law DomainBack's walk. -/
import Derived.Test.YtdbnanbeaeafdaaGreatDoorDM4
namespace Go.Proofs.YtdbnanbeaeafdaaGreatDoor
open Go.RowKit Go.Xc Go.Proofs.YtdbnanbeaeafdaaGreatDoor.PDomainReads Go.Proofs.YtdbnanbeaeafdaaGreatDoorW.PrintWords Go.Proofs.YtdbnanbeaeafdaaGreatDoorW.PrintLast Go.Proofs.YtdbnanbeaeafdaaGreatDoorW.PrintMore

def cellUp (s : ByteArray) (k j : Nat) : Int := if h : j < s.size then (if j < k then ((upN (s[j]'h)).toNat : Int) else ((s[j]'h).toNat : Int)) else 0
structure UpW (s : ByteArray) (w : World) (k : Nat) (wr : World) : Prop where
  cells : ∀ j, j < s.size → wr.cell? ⟨w.heap.size, j, none⟩ = some (.int .u8 (cellUp s k j))
  free : ∀ j, j < s.size → wr.frozen? ⟨w.heap.size, j, none⟩ = false
  below : Below w.heap.size w wr
  size : w.heap.size < wr.heap.size

theorem cellUp_at {s : ByteArray} {k : Nat} (h : k < s.size) : cellUp s k k = ((s[k]'h).toNat : Int) := by
  unfold cellUp
  rw [dif_pos h, if_neg (Nat.lt_irrefl k)]
theorem cellUp_other {s : ByteArray} {k j : Nat} (h : j ≠ k) : cellUp s (k + 1) j = cellUp s k j := by
  unfold cellUp
  by_cases hj : j < s.size
  · rw [dif_pos hj, dif_pos hj]
    by_cases h1 : j < k
    · rw [if_pos h1, if_pos (by omega)]
    · rw [if_neg h1, if_neg (by omega)]
  · rw [dif_neg hj, dif_neg hj]
theorem cellUp_next {s : ByteArray} {k : Nat} (h : k < s.size) : cellUp s (k + 1) k = ((upN (s[k]'h)).toNat : Int) := by
  unfold cellUp
  rw [dif_pos h, if_pos (Nat.lt_succ_self k)]

theorem UpW.start (s : ByteArray) (w : World) (cap n : Nat) (hn : s.size ≤ n) : UpW s w 0 (w.drew.alloc (.cells (bytesRow s cap) 5 (n, n + 1))) := by
  refine ⟨fun j hj => ?_, fun j hj => ?_, (Below.refl _ w).drew.alloc (Nat.le_refl _) _, ?_⟩
  · have := World.cell?_alloc_mark w.drew (bytesRow s cap) 5 (n, n + 1) j
    have h2 : w.drew.heap.size = w.heap.size := rfl
    rw [h2] at this
    rw [this, bytesRow_at s cap j hj]
    unfold cellUp
    rw [dif_pos hj, if_neg (Nat.not_lt_zero j)]
    rfl
  · have := World.frozen?_alloc_mark w.drew (bytesRow s cap) 5 n (n + 1) j
    have h2 : w.drew.heap.size = w.heap.size := rfl
    rw [h2] at this
    rw [this]
    have : ¬ n ≤ j := by omega
    simp [this]
  · have e : (w.drew.alloc (.cells (bytesRow s cap) 5 (n, n + 1))).heap = w.heap.push (.cells (bytesRow s cap) 5 (n, n + 1)) := rfl
    rw [e, Array.size_push]
    exact Nat.lt_succ_self _
theorem UpW.store {s : ByteArray} {w wr : World} {k : Nat} (h : UpW s w k wr) (hk : k < s.size) (h1 : 97 ≤ cellUp s k k) (h2 : cellUp s k k ≤ 122) : UpW s w (k + 1) (wr.setCell ⟨w.heap.size, k, none⟩ (.int .u8 (cellUp s k k - 32))) := by
  refine ⟨fun j hj => ?_, fun j hj => ?_, h.below.setCell (Nat.le_refl _) _, ?_⟩
  · by_cases hjk : j = k
    · subst hjk
      rw [World.cell?_setCell_same _ _ _ (h.cells j hj), cellUp_next hj, cellUp_at hj]
      rw [cellUp_at hj] at h1 h2
      rw [upN_small _ (by omega) (by omega)]
    · rw [World.cell?_setCell_other _ _ _ _ (by simp <;> omega), h.cells j hj, cellUp_other hjk]
  · rw [World.frozen?_setCell]; exact h.free j hj
  · have := h.size
    simp [World.setCell]; exact this
theorem UpW.skip {s : ByteArray} {w wr : World} {k : Nat} (h : UpW s w k wr) (hk : k < s.size) (h1 : ¬ (97 ≤ cellUp s k k ∧ cellUp s k k ≤ 122)) : UpW s w (k + 1) wr := by
  refine ⟨fun j hj => ?_, h.free, h.below, h.size⟩
  by_cases hjk : j = k
  · subst hjk
    rw [h.cells j hj, cellUp_next hj]
    rw [cellUp_at hj] at h1 ⊢
    rw [upN_other _ (by omega)]
  · rw [h.cells j hj, cellUp_other hjk]
theorem UpW.bytes {s : ByteArray} {w wr : World} {k : Nat} (h : UpW s w k wr) (hk : s.size ≤ k) : Lib.Bytes wr w.heap.size 0 (upB s) := fun i hi => by
  have hi' : i < s.size := by rw [← upB_size]; exact hi
  rw [Nat.zero_add, h.cells i hi']
  unfold cellUp
  rw [dif_pos hi', if_pos (by omega)]
  congr 3
  have e : (upB s)[i] = upN s[i] := by
    exact Array.getElem_map ..
  rw [e]


theorem UpW.move {s : ByteArray} {w wr wz : World} {k : Nat} (h : UpW s w k wr) (hb : Below wr.heap.size wr wz) : UpW s w k wz :=
  ⟨fun j hj => by rw [hb.cell (p := ⟨w.heap.size, j, none⟩) h.size]; exact h.cells j hj, fun j hj => by rw [hb.frozen (p := ⟨w.heap.size, j, none⟩) h.size]; exact h.free j hj, h.below.trans (hb.mono h.below.size), Nat.lt_of_lt_of_le h.size hb.size⟩
set_option maxHeartbeats 4000000 in
set_option maxRecDepth 100000 in
theorem text15 (s : ByteArray) (w : World) : Calls Tryz.prog 15 #[.string s] w fun e w' => e = .returned (.string s) ∧ Below w.heap.size w w' := by
  go_enter Tryz.func15, Tryz.ntmps15
  go_wp2
  go_ret
  exact ⟨rfl, Below.refl _ _⟩
set_option maxHeartbeats 4000000 in
set_option maxRecDepth 100000 in
/-- Too long: nothing is asked. -/
theorem back_long (s l : ByteArray) {w : World} (hg : Xc.Good XC glob w.heap.size w) (h : ¬ (s.size ≤ 500 ∧ l.size ≤ 100)) :
    Calls Tryz.prog 5 #[.string s, .string l] w fun e w' => e = .returned (.bool true) ∧ Below w.heap.size w w' := by
  have ca := Lib.hid (awake11 hg)
  clear hg
  by_cases h1 : s.size ≤ 500
  · have h2 : (100 : Int) < (l.size : Int) := by omega
    have h3 : ¬ (500 : Int) < (s.size : Int) := by omega
    clear h
    go_enter Tryz.func5, Tryz.ntmps5
    go_wp2_with (first | (go_at_call 9; refine ca.out.mono ?_; rintro e w1 ⟨rfl, hb⟩; have HB1 := Lib.hid hb; clear hb))
    go_ret
    exact ⟨rfl, HB1.out⟩
  · have h2 : (500 : Int) < (s.size : Int) := by omega
    clear h
    go_enter Tryz.func5, Tryz.ntmps5
    go_wp2_with (first | (go_at_call 9; refine ca.out.mono ?_; rintro e w1 ⟨rfl, hb⟩; have HB1 := Lib.hid hb; clear hb))
    go_ret
    exact ⟨rfl, HB1.out⟩
set_option maxHeartbeats 4000000 in
set_option maxRecDepth 100000 in
/-- No name. -/
theorem back_err (s l : ByteArray) {w : World} (hg : Xc.Good XC glob w.heap.size w) (hs : s.size ≤ 500) (hl : l.size ≤ 100) (h : (canonB s).2 ≠ 0) :
    Calls Tryz.prog 5 #[.string s, .string l] w fun e w' => e = .returned (.bool true) ∧ Below w.heap.size w w' := by
  have HG := Lib.hid hg
  have ca := Lib.hid (awake11 hg)
  obtain ⟨e1, e2⟩ := canon_err h
  have c1 := Lib.hid (fun (w : World) (h : Xc.Good XC glob w.heap.size w) => canon_any s h (by omega))
  have c3 := Lib.hid (fun (w : World) (h : Xc.Good XC glob w.heap.size w) => (by have := right_any s h (by omega); rwa [e2] at this : Calls Tryz.prog 12 #[.string s] w fun e w' => e = .returned (.bool false) ∧ Below w.heap.size w w'))
  clear hg e2
  generalize canonB s = ta at c1 h e1
  obtain ⟨n, f⟩ := ta
  have e1' : n = ⟨#[]⟩ := e1
  subst e1'
  clear e1
  have h2 : ¬ (100 : Int) < (l.size : Int) := by omega
  have h3 : ¬ (500 : Int) < (s.size : Int) := by omega
  have hf : ¬ f = 0 := h
  clear h
  go_enter Tryz.func5, Tryz.ntmps5
  go_wp2_with (first | (go_at_call 9; refine ca.out.mono ?_; rintro e w1 ⟨rfl, hb⟩; have HB1 := Lib.hid hb; clear hb) | (go_at_call 10; refine (c1.out _ (HG.out.move glob_ro HB1.out HB1.out.size)).mono ?_; rintro e w2 ⟨rfl, hb⟩; have HB2 := Lib.hid (HB1.out.trans (hb.mono HB1.out.size)); clear hb) | (go_at_call 12; refine (c3.out _ (HG.out.move glob_ro HB2.out HB2.out.size)).mono ?_; rintro e w3 ⟨rfl, hb⟩; have HB3 := Lib.hid (HB2.out.trans (hb.mono HB2.out.size)); clear hb))
  go_ret
  exact ⟨rfl, HB3.out⟩
end Go.Proofs.YtdbnanbeaeafdaaGreatDoor
/- The law DomainBack's walk, at a name. -/
namespace Go.Proofs.YtdbnanbeaeafdaaGreatDoor
open Go.RowKit Go.Xc Go.Proofs.YtdbnanbeaeafdaaGreatDoor.PDomainReads Go.Proofs.YtdbnanbeaeafdaaGreatDoorW.PrintWords Go.Proofs.YtdbnanbeaeafdaaGreatDoorW.PrintLast Go.Proofs.YtdbnanbeaeafdaaGreatDoorW.PrintMore

set_option maxHeartbeats 8000000 in
set_option maxRecDepth 100000 in
theorem back_ok (s l : ByteArray) {w : World} (hg : Xc.Good XC glob w.heap.size w) (hs : s.size ≤ 500) (hl : l.size ≤ 100) (h : (canonB s).2 = 0) :
    Calls Tryz.prog 5 #[.string s, .string l] w fun e w' => e = .returned (.bool true) ∧ Below w.heap.size w w' := by
  have HG := Lib.hid hg
  have ca := Lib.hid (awake11 hg)
  clear hg
  obtain ⟨e1, _, nt⟩ := canon_ok h
  have hcs : canonB s = (lowerB s, 0) := Prod.ext e1 h
  have hts : (lowerB s).size ≤ 500 := by rw [lowerB_size]; exact hs
  have hys : (l ++ ⟨#[46]⟩ ++ s).size ≤ 1048576 := by
    have := join_size l s
    have e : l ++ ⟨#[46]⟩ ++ s = l ++ dotB ++ s := rfl
    rw [e]; omega
  have c1 := Lib.hid (fun (w : World) (h : Xc.Good XC glob w.heap.size w) => canon_is hcs h (by omega))
  have cT := Lib.hid (fun (w : World) (h : Xc.Good XC glob w.heap.size w) => canon_is (canon_name nt) h (by omega))
  have cU := Lib.hid (fun (w : World) (h : Xc.Good XC glob w.heap.size w) => canon_is (canon_up nt) h (by rw [upB_size]; omega))
  have cR := Lib.hid (fun (w : World) (h : Xc.Good XC glob w.heap.size w) => right_true nt h (by omega))
  have cB := Lib.hid (fun (w : World) (h : Xc.Good XC glob w.heap.size w) => below_false (s := lowerB s) (t := lowerB s) (below_no (Nat.le_refl _)) h (by omega) (by omega))
  have cY : Hid (∃ (x : ByteArray) (g : Int), (∀ (w : World) (h : Xc.Good XC glob w.heap.size w), Calls Tryz.prog 10 #[.string (l ++ ⟨#[46]⟩ ++ s)] w fun e w' => e = .returned (.tuple #[.string x, .int .i64 g]) ∧ Below w.heap.size w w') ∧
      (g = 0 → (∀ (w : World) (h : Xc.Good XC glob w.heap.size w), Calls Tryz.prog 13 #[.string x, .string (lowerB s)] w fun e w' => e = .returned (.bool true) ∧ Below w.heap.size w w') ∧
        (∀ (w : World) (h : Xc.Good XC glob w.heap.size w), Calls Tryz.prog 13 #[.string (lowerB s), .string x] w fun e w' => e = .returned (.bool false) ∧ Below w.heap.size w w'))) := by
    refine Lib.hid ⟨(canonB (l ++ ⟨#[46]⟩ ++ s)).1, (canonB (l ++ ⟨#[46]⟩ ++ s)).2, fun w h => canon_any _ h hys, fun hg => ?_⟩
    obtain ⟨b1, b2⟩ := back_plain (l := l) h hg
    have hx : (canonB (l ++ ⟨#[46]⟩ ++ s)).1.size ≤ 1048576 := by
      obtain ⟨e, _, _⟩ := canon_ok hg
      rw [e, lowerB_size]; exact hys
    exact ⟨fun w h => below_true b1 h hx (by omega), fun w h => below_false b2 h (by omega) hx⟩
  clear nt hcs e1 h
  generalize lowerB s = t at c1 cT cU cR cB cY hts
  have hconv := fun w => run_bytes_of_string (P := Tryz.prog) w 9 34 5 t Tryz.underlying9 Tryz.underlying34 Tryz.underlying5
  have h2 : ¬ (100 : Int) < (l.size : Int) := by omega
  have h3 : ¬ (500 : Int) < (s.size : Int) := by omega
  go_enter Tryz.func5, Tryz.ntmps5
  go_wp2_with (first | (go_at_call 15; refine (text15 t w2).mono ?_; rintro e w3 ⟨rfl, hb⟩; have HB3 := Lib.hid (HB2.out.trans (hb.mono HB2.out.size)); clear hb) | (go_at_call 10; refine (c1.out _ (HG.out.move glob_ro HB1.out HB1.out.size)).mono ?_; rintro e w2 ⟨rfl, hb⟩; have HB2 := Lib.hid (HB1.out.trans (hb.mono HB1.out.size)); clear hb) | (go_at_call 9; refine ca.out.mono ?_; rintro e w1 ⟨rfl, hb⟩; have HB1 := Lib.hid hb; clear hb))
  go_loopw [8, 9, 45] (fun v8 v9 i wr => ∃ k : Nat, k ≤ t.size ∧ i = .int .i64 k ∧ UpW t w3 k wr) (fun _ _ i _ => t.size - (intOf i).toNat)
  case atStart =>
    exact ⟨0, Nat.zero_le _, rfl, UpW.start t w3 _ _ (bytesRow_size t _)⟩
  case round =>
    obtain ⟨k, hk, rfl, hR⟩ := hrel
    by_cases hlt : k < t.size
    · have hcell := hR.cells k hlt
      have hfz := hR.free k hlt
      go_wp2
      all_goals go_roundw
      all_goals first | (case measure => simp [intOf]; omega) | skip
      all_goals refine ⟨k + 1, by omega, by go_num, ?_⟩
      all_goals first | (exact hR.store hlt (by assumption) (by assumption)) | (exact hR.skip hlt (by omega))
    · have hkk : k = t.size := by omega
      subst hkk
      have HR := Lib.hid hR
      have HBr := Lib.hid (HB3.out.trans (hR.below.mono HB3.out.size))
      clear hR
      obtain ⟨x, g, cy, cx⟩ := cY.out
      have CY := Lib.hid cy
      have CX := Lib.hid cx
      clear cY cy cx
      by_cases hgz : g = 0
      · have CX1 := Lib.hid (CX.out hgz).1
        have CX2 := Lib.hid (CX.out hgz).2
        subst hgz
        go_wp2_with (first | (go_at_call 13; refine (CX2.out _ (HG.out.move glob_ro HB11.out HB11.out.size)).mono ?_; rintro e w12 ⟨rfl, hb⟩; have HB12 := Lib.hid (HB11.out.trans (hb.mono HB11.out.size)); clear hb) | (go_at_call 13; refine (CX1.out _ (HG.out.move glob_ro HB10.out HB10.out.size)).mono ?_; rintro e w11 ⟨rfl, hb⟩; have HB11 := Lib.hid (HB10.out.trans (hb.mono HB10.out.size)); clear hb) | (go_at_call 10; refine (CY.out _ (HG.out.move glob_ro HB9.out HB9.out.size)).mono ?_; rintro e w10 ⟨rfl, hb⟩; have HB10 := Lib.hid (HB9.out.trans (hb.mono HB9.out.size)); clear hb) | (go_at_call 13; refine (cB.out _ (HG.out.move glob_ro HB8.out HB8.out.size)).mono ?_; rintro e w9 ⟨rfl, hb⟩; have HB9 := Lib.hid (HB8.out.trans (hb.mono HB8.out.size)); clear hb) | (go_at_call 12; refine (cR.out _ (HG.out.move glob_ro HB7.out HB7.out.size)).mono ?_; rintro e w8 ⟨rfl, hb⟩; have HB8 := Lib.hid (HB7.out.trans (hb.mono HB7.out.size)); clear hb) | (go_at_call 15; refine (text15 t w6).mono ?_; rintro e w7 ⟨rfl, hb⟩; have HB7 := Lib.hid (HB6.out.trans (hb.mono HB6.out.size)); clear hb) | (go_at_call 10; refine (cU.out _ (HG.out.move glob_ro HB5.out HB5.out.size)).mono ?_; rintro e w6 ⟨rfl, hb⟩; have HB6 := Lib.hid (HB5.out.trans (hb.mono HB5.out.size)); clear hb) | (go_at_call 10; refine (cT.out _ (HG.out.move glob_ro HB4.out HB4.out.size)).mono ?_; rintro e w5 ⟨rfl, hb⟩; have HB5 := Lib.hid (HB4.out.trans (hb.mono HB4.out.size)); have hback := (by have := Lib.run_convert_whole (P := Tryz.prog) w5 34 5 9 Tryz.underlying34 Tryz.underlying5 Tryz.underlying9 w3.heap.size 0 (upB t) ((HR4.out.move hb).bytes (Nat.le_refl _)); rwa [upB_size] at this); clear hb) | (go_at_call 15; refine (text15 t wr).mono ?_; rintro e w4 ⟨rfl, hb⟩; have HB4 := Lib.hid (HBr.out.trans (hb.mono HBr.out.size)); have HR4 := Lib.hid (HR.out.move hb); clear hb))
        all_goals go_ret
        all_goals first | exact ⟨rfl, HB12.out⟩ | exact ⟨rfl, HB10.out⟩
      · go_wp2_with (first | (go_at_call 10; refine (CY.out _ (HG.out.move glob_ro HB9.out HB9.out.size)).mono ?_; rintro e w10 ⟨rfl, hb⟩; have HB10 := Lib.hid (HB9.out.trans (hb.mono HB9.out.size)); clear hb) | (go_at_call 13; refine (cB.out _ (HG.out.move glob_ro HB8.out HB8.out.size)).mono ?_; rintro e w9 ⟨rfl, hb⟩; have HB9 := Lib.hid (HB8.out.trans (hb.mono HB8.out.size)); clear hb) | (go_at_call 12; refine (cR.out _ (HG.out.move glob_ro HB7.out HB7.out.size)).mono ?_; rintro e w8 ⟨rfl, hb⟩; have HB8 := Lib.hid (HB7.out.trans (hb.mono HB7.out.size)); clear hb) | (go_at_call 15; refine (text15 t w6).mono ?_; rintro e w7 ⟨rfl, hb⟩; have HB7 := Lib.hid (HB6.out.trans (hb.mono HB6.out.size)); clear hb) | (go_at_call 10; refine (cU.out _ (HG.out.move glob_ro HB5.out HB5.out.size)).mono ?_; rintro e w6 ⟨rfl, hb⟩; have HB6 := Lib.hid (HB5.out.trans (hb.mono HB5.out.size)); clear hb) | (go_at_call 10; refine (cT.out _ (HG.out.move glob_ro HB4.out HB4.out.size)).mono ?_; rintro e w5 ⟨rfl, hb⟩; have HB5 := Lib.hid (HB4.out.trans (hb.mono HB4.out.size)); have hback := (by have := Lib.run_convert_whole (P := Tryz.prog) w5 34 5 9 Tryz.underlying34 Tryz.underlying5 Tryz.underlying9 w3.heap.size 0 (upB t) ((HR4.out.move hb).bytes (Nat.le_refl _)); rwa [upB_size] at this); clear hb) | (go_at_call 15; refine (text15 t wr).mono ?_; rintro e w4 ⟨rfl, hb⟩; have HB4 := Lib.hid (HBr.out.trans (hb.mono HBr.out.size)); have HR4 := Lib.hid (HR.out.move hb); clear hb))
        all_goals go_ret
        all_goals exact ⟨rfl, HB10.out⟩
theorem back_all (s l : ByteArray) {w : World} (hg : Xc.Good XC glob w.heap.size w) :
    Calls Tryz.prog 5 #[.string s, .string l] w fun e w' => e = .returned (.bool true) ∧ Below w.heap.size w w' := by
  by_cases hz : s.size ≤ 500 ∧ l.size ≤ 100
  · by_cases h : (canonB s).2 = 0
    · exact back_ok s l hg hz.1 hz.2 h
    · exact back_err s l hg hz.1 hz.2 h
  · exact back_long s l hg hz
end Go.Proofs.YtdbnanbeaeafdaaGreatDoor
