/- slices.ContainsFunc at the closure of domain.Name.Below; slices.Equal of texts; domain.Name.Below. -/
import Derived.Test.YtdbnanbeaeafdaaGreatDoorDM3
import Derived.Deep.QuietTactic
import Derived.BigQuiet
namespace Go.Proofs.YtdbnanbeaeafdaaGreatDoor
open Go.RowKit Go.Xc Go.Proofs.YtdbnanbeaeafdaaGreatDoor.PDomainReads Go.Proofs.YtdbnanbeaeafdaaGreatDoorW.PrintWords Go.Proofs.YtdbnanbeaeafdaaGreatDoorW.PrintLast Go.Proofs.YtdbnanbeaeafdaaGreatDoorW.PrintMore

def neB (s : ByteArray) : Bool := !s.toList.isEmpty
theorem closure2_any (s : ByteArray) (w : World) (r : Bool) (h : neB s = r) :
    Calls Tryz.prog 41 #[.string s] w fun e w' => e = .returned (.bool r) ∧ Below w.heap.size w w' := by
  unfold neB at h
  cases hs : s.toList.isEmpty with
  | true =>
    rw [hs] at h
    subst h
    go_enter Tryz.func41, Tryz.ntmps41
    go_wp2
    go_ret
    exact ⟨rfl, Below.refl _ _⟩
  | false =>
    rw [hs] at h
    subst h
    go_enter Tryz.func41, Tryz.ntmps41
    go_wp2
    go_ret
    exact ⟨rfl, Below.refl _ _⟩
def noNe (l : List ByteArray) (k : Nat) : Prop := ∀ j, j < k → j < l.length → neB (rdOf ByteArray.empty l (j : Int)) = false
def IxPostNe (l : List ByteArray) (w : World) (e : Ending) (w' : World) : Prop := ∃ n : Int, e = .returned (.int .i64 n) ∧ ((0 ≤ n ∧ ∃ j, j < l.length ∧ neB (rdOf ByteArray.empty l (j : Int)) = true) ∨ (n = -1 ∧ noNe l l.length)) ∧ Below w.heap.size w w'

set_option maxHeartbeats 4000000 in
set_option maxRecDepth 100000 in
theorem indexFunc_ne (l : List ByteArray) (v : Value) (b : Nat) (w : World) (ho : Kd.R Kd.string 9 w b (fun _ => True) v l) (hl : l.length ≤ 1048577) :
    Calls Tryz.prog 71 #[v, .func (.func 41) #[] #[]] w (IxPostNe l w) := by
  obtain ⟨A, c, rfl⟩ := Kd.R_slice ho
  have HO := Lib.hid ho
  clear ho
  go_enter Tryz.func71, Tryz.ntmps71
  go_wp2
  go_loopw [4, 5, 8] (fun _ _ v8 wr => ∃ k : Nat, k ≤ l.length ∧ v8 = .int .i64 k ∧ Hid (noNe l k) ∧ Hid (Below w.heap.size w wr)) (fun _ _ i _ => l.length - (intOf i).toNat)
  case atStart => exact ⟨0, Nat.zero_le _, rfl, Lib.hid (fun j hj => by omega), Lib.hid (Below.refl _ _)⟩
  case round =>
    obtain ⟨k, hk, rfl, HX, HB⟩ := hrel
    by_cases hlt : k < l.length
    · obtain ⟨ad, ea, hx⟩ := Kd.at_string (Kd.R_reads' (Kd.R_below HO.out HB.out)).2.2 (k : Int) (by omega) (by omega)
      cases ea
      rw [Int.toNat_natCast] at hx
      cases hq : neB (rdOf ByteArray.empty l (k : Int)) with
      | true =>
        have c1 := Lib.hid (fun w => closure2_any (rdOf ByteArray.empty l (k : Int)) w true hq)
        have HQ := Lib.hid hq
        clear hq
        go_wp2_with (first | (go_at_call 41; refine (c1.out _).mono ?_; rintro e w1 ⟨rfl, hb1⟩; have HB1 := Lib.hid (HB.out.trans (hb1.mono HB.out.size)); clear hb1))
        go_ret
        exact ⟨_, rfl, .inl ⟨by omega, k, hlt, HQ.out⟩, HB1.out⟩
      | false =>
        have c1 := Lib.hid (fun w => closure2_any (rdOf ByteArray.empty l (k : Int)) w false hq)
        have HQ := Lib.hid hq
        clear hq
        go_wp2_with (first | (go_at_call 41; refine (c1.out _).mono ?_; rintro e w1 ⟨rfl, hb1⟩; have HB1 := Lib.hid (HB.out.trans (hb1.mono HB.out.size)); clear hb1))
        go_roundw
        case measure => simp [intOf]; omega
        case rel => exact ⟨k + 1, by omega, by go_num, Lib.hid (fun j hj hjl => by
          by_cases he : j = k
          · subst he; exact HQ.out
          · exact HX.out j (by omega) hjl), HB1⟩
    · have hkk : k = l.length := by omega
      subst hkk
      go_wp2
      go_ret
      exact ⟨_, rfl, .inr ⟨rfl, HX.out⟩, HB.out⟩
def anyNe (l : List ByteArray) : Bool := (List.range l.length).any fun j => neB (rdOf ByteArray.empty l (j : Int))
theorem contains_ne (l : List ByteArray) (v : Value) (b : Nat) (w : World) (ho : Kd.R Kd.string 9 w b (fun _ => True) v l) (hl : l.length ≤ 1048577) :
    Calls Tryz.prog 32 #[v, .func (.func 41) #[] #[]] w fun e w' => e = .returned (.bool (anyNe l)) ∧ Below w.heap.size w w' := by
  have c1 := Lib.hid (indexFunc_ne l v b w ho hl)
  clear ho
  go_enter Tryz.func32, Tryz.ntmps32
  go_wp2_with (first | (go_at_call 71; refine c1.out.mono ?_; rintro e w1 ⟨n, rfl, hn, hb⟩; have HN := Lib.hid hn; have HB := Lib.hid hb; clear hn hb))
  go_ret
  refine ⟨?_, HB.out⟩
  have key : (0 ≤ n) = (anyNe l = true) := by
    rw [eq_iff_iff]
    unfold anyNe
    rw [List.any_eq_true]
    rcases HN.out with ⟨h0, j, hj, hx⟩ | ⟨h0, hx⟩
    · exact ⟨fun _ => ⟨j, List.mem_range.2 hj, hx⟩, fun _ => h0⟩
    · refine ⟨fun h => by omega, fun ⟨j, hj, hjx⟩ => ?_⟩
      have := hx j (List.mem_range.1 hj) (List.mem_range.1 hj)
      rw [this] at hjx; cases hjx
  have e : decide (0 ≤ n) = anyNe l := by
    cases h : anyNe l with
    | true => exact decide_eq_true (key.mpr h)
    | false => exact decide_eq_false (fun h0 => by rw [key.mp h0] at h; cases h)
  rw [← e]
  rfl

def sameTo (l m : List ByteArray) (k : Nat) : Prop := ∀ j, j < k → j < l.length → (rdOf ByteArray.empty l (j : Int)).toList = (rdOf ByteArray.empty m (j : Int)).toList
def EqPost (l m : List ByteArray) (w : World) (e : Ending) (w' : World) : Prop := ∃ r : Bool, e = .returned (.bool r) ∧ (r = true ↔ l.length = m.length ∧ sameTo l m l.length) ∧ Below w.heap.size w w'
set_option maxHeartbeats 4000000 in
set_option maxRecDepth 100000 in
theorem equal_any (l m : List ByteArray) (A B : Option Addr) (c d : Nat) (w : World) (ho : ∀ wr, Below w.heap.size w wr → Kd.C Kd.string wr A l.length l) (hp : ∀ wr, Below w.heap.size w wr → Kd.C Kd.string wr B m.length m) (hl : l.length ≤ 1048577) :
    Calls Tryz.prog 42 #[.slice A l.length c, .slice B m.length d] w (EqPost l m w) := by
  have HO := Lib.hid ho
  have HP := Lib.hid hp
  clear ho hp
  by_cases hn : l.length = m.length
  · have hni : (l.length : Int) = (m.length : Int) := by omega
    go_enter Tryz.func42, Tryz.ntmps42
    go_wp2
    go_loopw [4, 5, 13] (fun _ _ v13 wr => ∃ k : Nat, k ≤ l.length ∧ v13 = .int .i64 k ∧ Hid (sameTo l m k) ∧ Hid (Below w.heap.size w wr)) (fun _ _ i _ => l.length - (intOf i).toNat)
    case atStart => exact ⟨0, Nat.zero_le _, rfl, Lib.hid (fun j hj => by omega), Lib.hid (Below.refl _ _)⟩
    case round =>
      obtain ⟨k, hk, rfl, HX, HB⟩ := hrel
      by_cases hlt : k < l.length
      · have hlt2 : k < m.length := by omega
        obtain ⟨ad, ea, hx⟩ := Kd.at_string (HO.out _ HB.out) (k : Int) (by omega) (by omega)
        cases ea
        obtain ⟨ad2, ea2, hx2⟩ := Kd.at_string (HP.out _ HB.out) (k : Int) (by omega) (by omega)
        cases ea2
        rw [Int.toNat_natCast] at hx hx2
        by_cases hq : (rdOf ByteArray.empty l (k : Int)).toList = (rdOf ByteArray.empty m (k : Int)).toList
        · go_wp2
          go_quiet (fail)
          go_wp2
          go_roundw
          case measure => simp [intOf]; omega
          case rel => exact ⟨k + 1, by omega, by go_num, Lib.hid (fun j hj hjl => by
            by_cases he : j = k
            · subst he; exact hq
            · exact HX.out j (by omega) hjl), Lib.hid (pw_below_drewN HB.out _)⟩
        · go_wp2
          go_quiet (fail)
          go_wp2
          · go_ret
            exact ⟨_, rfl, ⟨fun h => (by cases h), fun h => absurd (h.2 k hlt hlt) hq⟩, pw_below_drewN HB.out _⟩
          · rename_i hx
            exact absurd (by simpa using hx) hq
      · have hkk : k = l.length := by omega
        subst hkk
        go_wp2
        go_ret
        exact ⟨_, rfl, ⟨fun _ => ⟨hn, HX.out⟩, fun _ => rfl⟩, HB.out⟩
  · have hni : ¬ (l.length : Int) = (m.length : Int) := by omega
    go_enter Tryz.func42, Tryz.ntmps42
    go_wp2
    go_ret
    exact ⟨_, rfl, ⟨fun h => (by cases h), fun h => absurd h.1 hn⟩, Below.refl _ _⟩
theorem labels_len (s : ByteArray) (hs : s.size ≤ 1048576) : (labelsB s).length ≤ 1048577 := by
  have := labelsB_len s
  omega
set_option maxHeartbeats 4000000 in
set_option maxRecDepth 100000 in
theorem labels14_any (s : ByteArray) {w : World} (hg : Xc.Good XC glob w.heap.size w) (hs : s.size ≤ 1048576) :
    Calls Tryz.prog 14 #[.string s] w fun e w' => ∃ v, e = .returned v ∧ Kd.R Kd.string 9 w' w.heap.size (fun _ => True) v (labelsB s) ∧ Below w.heap.size w w' := by
  have c1 := Lib.hid (labels_any s hg hs)
  clear hg
  go_enter Tryz.func14, Tryz.ntmps14
  go_wp2_with (first | (go_at_call 33; refine c1.out.mono ?_; rintro e w1 ⟨v, rfl, ho, hb⟩; have HO := Lib.hid ho; have HB := Lib.hid hb; clear ho hb; obtain ⟨A, c, rfl⟩ := Kd.R_slice HO.out))
  go_ret
  exact ⟨_, rfl, HO.out, HB.out⟩
def BelowP (l m : List ByteArray) : Prop := anyNe m = true ∧ m.length < l.length ∧ sameTo (l.drop (l.length - m.length)) m m.length
def BelowPost (l m : List ByteArray) (w : World) (e : Ending) (w' : World) : Prop := ∃ r : Bool, e = .returned (.bool r) ∧ (r = true ↔ BelowP l m) ∧ Below w.heap.size w w'
set_option maxHeartbeats 4000000 in
set_option maxRecDepth 100000 in
theorem below_any (s t : ByteArray) {w : World} (hg : Xc.Good XC glob w.heap.size w) (hs : s.size ≤ 1048576) (ht : t.size ≤ 1048576) :
    Calls Tryz.prog 13 #[.string s, .string t] w (BelowPost (labelsB s) (labelsB t) w) := by
  have HG := Lib.hid hg
  have c1 := Lib.hid (labels14_any s hg hs)
  have c2 := Lib.hid (fun (w : World) (h : Xc.Good XC glob w.heap.size w) => labels14_any t h ht)
  have hl := labels_len s hs
  have hm := labels_len t ht
  clear hg
  generalize labelsB s = l at c1 hl
  generalize labelsB t = m at c2 hm
  cases hne : anyNe m with
  | false =>
    have HNE := Lib.hid hne
    clear hne
    go_enter Tryz.func13, Tryz.ntmps13
    go_wp2_with (first | (go_at_call 14; refine c1.out.mono ?_; rintro e w1 ⟨v, rfl, ho, hb⟩; have HO1 := Lib.hid ho; have HB1 := Lib.hid hb; clear ho hb; obtain ⟨A, c, rfl⟩ := Kd.R_slice HO1.out) | (go_at_call 14; refine (c2.out _ (HG.out.move glob_ro HB1.out HB1.out.size)).mono ?_; rintro e w2 ⟨v, rfl, ho, hb⟩; have HO2 := Lib.hid ho; have HB2 := Lib.hid hb; clear ho hb; obtain ⟨B, d, rfl⟩ := Kd.R_slice HO2.out) | (go_at_call 32; refine (contains_ne m _ _ _ HO2.out hm).mono ?_; rw [HNE.out]; rintro e w3 ⟨rfl, hb⟩; have HB3 := Lib.hid hb; clear hb))
    go_ret
    exact ⟨_, rfl, ⟨fun h => (by cases h), fun h => (by have := h.1; rw [HNE.out] at this; cases this)⟩, HB1.out.trans ((HB2.out.trans (HB3.out.mono HB2.out.size)).mono HB1.out.size)⟩
  | true =>
    have HNE := Lib.hid hne
    clear hne
    by_cases hlt : m.length < l.length
    · have hlt1 : ¬ (l.length : Int) ≤ (m.length : Int) := by omega
      have hw : wrap64 ((l.length : Int) - (m.length : Int)) = ((l.length - m.length : Nat) : Int) := by unfold wrap64; omega
      have p4 : 0 ≤ wrap64 ((l.length : Int) - (m.length : Int)) := by rw [hw]; omega
      have q4 : wrap64 ((l.length : Int) - (m.length : Int)) ≤ (l.length : Int) := by rw [hw]; omega
      have HW := Lib.hid hw
      clear hw
      go_enter Tryz.func13, Tryz.ntmps13
      go_wp2_with (first | (go_at_call 14; refine c1.out.mono ?_; rintro e w1 ⟨v, rfl, ho, hb⟩; have HO1 := Lib.hid ho; have HB1 := Lib.hid hb; clear ho hb; obtain ⟨A, c, rfl⟩ := Kd.R_slice HO1.out) | (go_at_call 14; refine (c2.out _ (HG.out.move glob_ro HB1.out HB1.out.size)).mono ?_; rintro e w2 ⟨v, rfl, ho, hb⟩; have HO2 := Lib.hid ho; have HB2 := Lib.hid hb; clear ho hb; obtain ⟨B, d, rfl⟩ := Kd.R_slice HO2.out) | (go_at_call 32; refine (contains_ne m _ _ _ HO2.out hm).mono ?_; rw [HNE.out]; rintro e w3 ⟨rfl, hb⟩; have HB3 := Lib.hid hb; clear hb))
      · have hcc := h
        have hC : ∀ wr, Below w3.heap.size w3 wr → Kd.C Kd.string wr A (l.drop (l.length - m.length)).length (l.drop (l.length - m.length)) := fun wr hb => by
          have hr := Kd.R_reads' (Kd.R_below HO1.out ((HB2.out.trans (HB3.out.mono HB2.out.size)).trans (hb.mono (Nat.le_trans HB2.out.size HB3.out.size))))
          have := Kd.C_drop (m := l.length - m.length) hr.2.2 (by omega) hr.2.1
          rwa [if_pos hcc] at this
        have hD : ∀ wr, Below w3.heap.size w3 wr → Kd.C Kd.string wr B m.length m := fun wr hb => (Kd.R_reads' (Kd.R_below HO2.out (HB3.out.trans (hb.mono HB3.out.size)))).2.2
        have he := equal_any (l.drop (l.length - m.length)) m A B 0 d w3 hC hD (by rw [List.length_drop]; omega)
        clear hC hD
        rw [List.length_drop] at he
        refine he.mono ?_
        rintro e w4 ⟨r, rfl, hr, hb⟩
        have HR := Lib.hid hr
        have HB4 := Lib.hid hb
        clear he hr hb
        go_wp2
        go_ret
        exact ⟨_, rfl, ⟨fun h => ⟨HNE.out, hlt, (by have := (HR.out.1 h).2; rw [List.length_drop] at this; intro j hj hjl; exact this j (by omega) hjl)⟩, fun h => HR.out.2 ⟨by rw [List.length_drop]; omega, fun j hj hjl => h.2.2 j (by rw [List.length_drop] at hj; omega) hjl⟩⟩, HB1.out.trans (((HB2.out.trans (HB3.out.mono HB2.out.size)).trans (HB4.out.mono (Nat.le_trans HB2.out.size HB3.out.size))).mono HB1.out.size)⟩
      · have hcc := h
        have hC : ∀ wr, Below w3.heap.size w3 wr → Kd.C Kd.string wr (A.map (·.add (l.length - m.length))) (l.drop (l.length - m.length)).length (l.drop (l.length - m.length)) := fun wr hb => by
          have hr := Kd.R_reads' (Kd.R_below HO1.out ((HB2.out.trans (HB3.out.mono HB2.out.size)).trans (hb.mono (Nat.le_trans HB2.out.size HB3.out.size))))
          have := Kd.C_drop (m := l.length - m.length) hr.2.2 (by omega) hr.2.1
          rw [if_neg hcc] at this
          have e1 : (l.length - m.length) * Kd.string.sz = l.length - m.length := Nat.mul_one _
          rwa [e1] at this
        have hD : ∀ wr, Below w3.heap.size w3 wr → Kd.C Kd.string wr B m.length m := fun wr hb => (Kd.R_reads' (Kd.R_below HO2.out (HB3.out.trans (hb.mono HB3.out.size)))).2.2
        have he := equal_any (l.drop (l.length - m.length)) m (A.map (·.add (l.length - m.length))) B (c - (l.length - m.length)) d w3 hC hD (by rw [List.length_drop]; omega)
        clear hC hD
        rw [List.length_drop] at he
        refine he.mono ?_
        rintro e w4 ⟨r, rfl, hr, hb⟩
        have HR := Lib.hid hr
        have HB4 := Lib.hid hb
        clear he hr hb
        go_wp2
        go_ret
        exact ⟨_, rfl, ⟨fun h => ⟨HNE.out, hlt, (by have := (HR.out.1 h).2; rw [List.length_drop] at this; intro j hj hjl; exact this j (by omega) hjl)⟩, fun h => HR.out.2 ⟨by rw [List.length_drop]; omega, fun j hj hjl => h.2.2 j (by rw [List.length_drop] at hj; omega) hjl⟩⟩, HB1.out.trans (((HB2.out.trans (HB3.out.mono HB2.out.size)).trans (HB4.out.mono (Nat.le_trans HB2.out.size HB3.out.size))).mono HB1.out.size)⟩
    · have hlt1 : (l.length : Int) ≤ (m.length : Int) := by omega
      go_enter Tryz.func13, Tryz.ntmps13
      go_wp2_with (first | (go_at_call 14; refine c1.out.mono ?_; rintro e w1 ⟨v, rfl, ho, hb⟩; have HO1 := Lib.hid ho; have HB1 := Lib.hid hb; clear ho hb; obtain ⟨A, c, rfl⟩ := Kd.R_slice HO1.out) | (go_at_call 14; refine (c2.out _ (HG.out.move glob_ro HB1.out HB1.out.size)).mono ?_; rintro e w2 ⟨v, rfl, ho, hb⟩; have HO2 := Lib.hid ho; have HB2 := Lib.hid hb; clear ho hb; obtain ⟨B, d, rfl⟩ := Kd.R_slice HO2.out) | (go_at_call 32; refine (contains_ne m _ _ _ HO2.out hm).mono ?_; rw [HNE.out]; rintro e w3 ⟨rfl, hb⟩; have HB3 := Lib.hid hb; clear hb))
      go_ret
      exact ⟨_, rfl, ⟨fun h => (by cases h), fun h => absurd h.2.1 hlt⟩, HB1.out.trans ((HB2.out.trans (HB3.out.mono HB2.out.size)).mono HB1.out.size)⟩
end Go.Proofs.YtdbnanbeaeafdaaGreatDoor
/- What stands below what; the plain facts of DomainJoins and DomainBack. -/
namespace Go.Proofs.YtdbnanbeaeafdaaGreatDoor
open Go.RowKit Go.Xc Go.Proofs.YtdbnanbeaeafdaaGreatDoor.PDomainReads Go.Proofs.YtdbnanbeaeafdaaGreatDoorW.PrintWords Go.Proofs.YtdbnanbeaeafdaaGreatDoorW.PrintLast Go.Proofs.YtdbnanbeaeafdaaGreatDoorW.PrintMore

theorem anyNe_true {l : List ByteArray} {w : ByteArray} (h : w ∈ l) (hw : w.size ≠ 0) : anyNe l = true := by
  obtain ⟨j, hj, e⟩ := rd_of_mem h
  unfold anyNe
  rw [List.any_eq_true]
  refine ⟨j, List.mem_range.2 hj, ?_⟩
  rw [e]
  unfold neB
  have := size_list w
  cases hl : w.toList with
  | nil => rw [hl] at this; exact absurd this.symm hw
  | cons a t => rfl
theorem labelsB_ne (s : ByteArray) : labelsB s ≠ [] := by
  unfold labelsB
  rw [labels_last _ (splitB_ne s)]
  split
  · rename_i h
    intro h2
    have := congrArg List.length h2
    rw [List.length_take] at this
    simp at this
    omega
  · exact splitB_ne s
theorem below_yes {t : ByteArray} (ht : IsName t) {l : List ByteArray} (hl : l ≠ []) : BelowP (l ++ labelsB t) (labelsB t) := by
  have hp : 0 < l.length := List.length_pos_iff.2 hl
  refine ⟨?_, by rw [List.length_append]; omega, ?_⟩
  · obtain ⟨w, hw⟩ := List.exists_mem_of_ne_nil _ (labelsB_ne t)
    refine anyNe_true hw ?_
    have := ht.lab w hw
    rw [okLab_iff, Bool.and_eq_true] at this
    have := of_decide_eq_true this.1
    omega
  · have : (l ++ labelsB t).length - (labelsB t).length = l.length := by rw [List.length_append]; omega
    rw [this, List.drop_left]
    exact fun j _ _ => rfl
theorem below_no {l m : List ByteArray} (h : l.length ≤ m.length) : ¬ BelowP l m := fun hb => by have := hb.2.1; omega

def upN (b : UInt8) : UInt8 := if 97 ≤ b.toNat ∧ b.toNat ≤ 122 then UInt8.ofNat (b.toNat - 32) else b
theorem upN_small (b : UInt8) (h1 : 97 ≤ b.toNat) (h2 : b.toNat ≤ 122) : ((upN b).toNat : Int) = (b.toNat : Int) - 32 := by
  unfold upN
  rw [if_pos ⟨h1, h2⟩]
  have : (UInt8.ofNat (b.toNat - 32)).toNat = b.toNat - 32 := by
    rw [UInt8.toNat_ofNat']
    omega
  rw [this]
  omega
theorem upN_other (b : UInt8) (h : ¬ (97 ≤ b.toNat ∧ b.toNat ≤ 122)) : upN b = b := by
  unfold upN
  rw [if_neg h]
def upB (s : ByteArray) : ByteArray := ⟨s.data.map upN⟩
theorem upB_size (s : ByteArray) : (upB s).size = s.size := by
  show (s.data.map upN).size = s.data.size
  simp
theorem up_list (s : ByteArray) : (upB s).data.toList = s.data.toList.map upN := by unfold upB; simp
theorem low_up {c : UInt8} (h : lowN c = c) : lowN (upN c) = c := by
  by_cases hc : 97 ≤ c.toNat ∧ c.toNat ≤ 122
  · have h1 := upN_small c hc.1 hc.2
    have h2 := lowN_great (upN c) (by omega) (by omega)
    exact UInt8.toNat_inj.1 (by omega)
  · rw [upN_other c hc]; exact h
theorem lower_up {t : ByteArray} (h : ∀ c ∈ t.data.toList, lowN c = c) : lowerB (upB t) = t := by
  apply byte_ext
  rw [lower_list, up_list, List.map_map]
  conv => rhs; rw [← List.map_id t.data.toList]
  exact List.map_congr_left (fun c hc => low_up (h c hc))
theorem plain_up {t : ByteArray} (h : ∀ c ∈ t.data.toList, c.toNat < 128) : plainB (upB t) = true := by
  rw [plainB_iff]
  intro c hc
  rw [up_list] at hc
  obtain ⟨b, hb, rfl⟩ := List.mem_map.1 hc
  have := h b hb
  by_cases hg : 97 ≤ b.toNat ∧ b.toNat ≤ 122
  · have := upN_small b hg.1 hg.2; omega
  · rw [upN_other b hg]; exact this
theorem canon_up {t : ByteArray} (h : IsName t) : canonB (upB t) = (t, 0) := by
  have e := lower_up h.low
  have := canon_mk (s := upB t) (plain_up h.plain) (by rw [e]; exact h)
  rw [e] at this
  exact this
theorem canon_err {s : ByteArray} (h : (canonB s).2 ≠ 0) : (canonB s).1 = ⟨#[]⟩ ∧ rightB s = false := by
  have h1 : rightB s = false := by unfold rightB; rw [decide_eq_false h]; rfl
  refine ⟨?_, h1⟩
  unfold canonB at h ⊢
  split
  · rfl
  · split
    · rfl
    · split
      · rfl
      · split
        · rfl
        · rename_i a b c d
          rw [if_neg a, if_neg b, if_neg c, if_neg d] at h
          exact absurd rfl h
theorem lower_dot : lowerB dotB = dotB := by kernel_rfl
theorem lower_join (u v : ByteArray) : lowerB (u ++ dotB ++ v) = lowerB u ++ dotB ++ lowerB v := by rw [lower_append, lower_append, lower_dot]
theorem plain_join {u v : ByteArray} (hu : plainB u = true) (hv : plainB v = true) : plainB (u ++ dotB ++ v) = true := by
  rw [plainB_iff] at hu hv ⊢
  intro c hc
  rcases mem_join hc with h | rfl | h
  · exact hu c h
  · decide
  · exact hv c h
/-- What DomainJoins says, plain. -/
theorem joins_plain {a b : ByteArray} (ha : (canonB a).2 = 0) (hb : (canonB b).2 = 0) (hz : a.size + b.size ≤ 250) (hp : 0 < a.size) (hl : ¬ (a[a.size - 1]'(by omega)).toNat = 46) :
    canonB (a ++ dotB ++ b) = (lowerB a ++ dotB ++ lowerB b, 0) ∧ IsName (lowerB a ++ dotB ++ lowerB b) ∧ labelsB (lowerB a ++ dotB ++ lowerB b) = labelsB (lowerB a) ++ labelsB (lowerB b) ∧ BelowP (labelsB (lowerB a ++ dotB ++ lowerB b)) (labelsB (lowerB b)) := by
  obtain ⟨_, pa, na⟩ := canon_ok ha
  obtain ⟨_, pb, nb⟩ := canon_ok hb
  have hlen : a.data.toList.length = a.size := Array.length_toList
  have hopen : labelsB (lowerB a) = splitB (lowerB a) := by
    refine labels_open (by rw [lowerB_size]; omega) ?_
    rw [lower_list, List.getLast?_map, List.getLast?_eq_getElem?, hlen, List.getElem?_eq_getElem (by omega)]
    intro h
    simp only [Option.map_some, Option.some.injEq] at h
    have e : a.data.toList[a.size - 1]'(by omega) = a[a.size - 1]'(by omega) := rfl
    rw [e] at h
    by_cases hg : 65 ≤ (a[a.size - 1]'(by omega)).toNat ∧ (a[a.size - 1]'(by omega)).toNat ≤ 90
    · have h1 := lowN_great _ hg.1 hg.2
      rw [h] at h1
      have : ((46 : UInt8).toNat : Int) = 46 := rfl
      omega
    · rw [lowN_other _ hg] at h
      exact hl (by rw [h]; rfl)
  obtain ⟨nx, lx⟩ := join_name na nb hopen (by rw [lowerB_size, lowerB_size]; omega)
  have hc := canon_mk (s := a ++ dotB ++ b) (plain_join pa pb) (by rw [lower_join]; exact nx)
  rw [lower_join] at hc
  refine ⟨hc, nx, lx, ?_⟩
  rw [lx]
  exact below_yes nb (labelsB_ne _)
/-- What DomainBack says of a longer name, plain. -/
theorem back_plain {l s : ByteArray} (hs : (canonB s).2 = 0) (hx : (canonB (l ++ dotB ++ s)).2 = 0) :
    BelowP (labelsB (canonB (l ++ dotB ++ s)).1) (labelsB (lowerB s)) ∧ ¬ BelowP (labelsB (lowerB s)) (labelsB (canonB (l ++ dotB ++ s)).1) := by
  obtain ⟨_, _, ns⟩ := canon_ok hs
  obtain ⟨e, _, nx⟩ := canon_ok hx
  rw [e, lower_join, labels_join _ (name_pos ns)]
  exact ⟨below_yes ns (splitB_ne _), below_no (by rw [List.length_append]; omega)⟩
end Go.Proofs.YtdbnanbeaeafdaaGreatDoor
/- The law DomainJoins' walk. -/
namespace Go.Proofs.YtdbnanbeaeafdaaGreatDoor
open Go.RowKit Go.Xc Go.Proofs.YtdbnanbeaeafdaaGreatDoor.PDomainReads Go.Proofs.YtdbnanbeaeafdaaGreatDoorW.PrintWords Go.Proofs.YtdbnanbeaeafdaaGreatDoorW.PrintLast Go.Proofs.YtdbnanbeaeafdaaGreatDoorW.PrintMore

theorem below_true {s t : ByteArray} (h : BelowP (labelsB s) (labelsB t)) {w : World} (hg : Xc.Good XC glob w.heap.size w) (hs : s.size ≤ 1048576) (ht : t.size ≤ 1048576) :
    Calls Tryz.prog 13 #[.string s, .string t] w fun e w' => e = .returned (.bool true) ∧ Below w.heap.size w w' := by
  refine (below_any s t hg hs ht).mono ?_
  rintro e w' ⟨r, rfl, hr, hb⟩
  rw [hr.2 h]
  exact ⟨rfl, hb⟩
theorem below_false {s t : ByteArray} (h : ¬ BelowP (labelsB s) (labelsB t)) {w : World} (hg : Xc.Good XC glob w.heap.size w) (hs : s.size ≤ 1048576) (ht : t.size ≤ 1048576) :
    Calls Tryz.prog 13 #[.string s, .string t] w fun e w' => e = .returned (.bool false) ∧ Below w.heap.size w w' := by
  refine (below_any s t hg hs ht).mono ?_
  rintro e w' ⟨r, rfl, hr, hb⟩
  cases r with
  | false => exact ⟨rfl, hb⟩
  | true => exact absurd (hr.1 rfl) h
theorem right_true {t : ByteArray} (h : IsName t) {w : World} (hg : Xc.Good XC glob w.heap.size w) (hs : t.size ≤ 1048576) :
    Calls Tryz.prog 12 #[.string t] w fun e w' => e = .returned (.bool true) ∧ Below w.heap.size w w' := by
  have := right_any t hg hs
  rwa [right_name h] at this
theorem canon_is {s x : ByteArray} {f : Int} (h : canonB s = (x, f)) {w : World} (hg : Xc.Good XC glob w.heap.size w) (hs : s.size ≤ 1048576) :
    Calls Tryz.prog 10 #[.string s] w fun e w' => e = .returned (.tuple #[.string x, .int .i64 f]) ∧ Below w.heap.size w w' := by
  have := canon_any s hg hs
  rwa [h] at this

set_option maxHeartbeats 4000000 in
set_option maxRecDepth 100000 in
/-- The first is too long. -/
theorem joins_1 (a b n m : ByteArray) (f g : Int) {w : World} (hg : Xc.Good XC glob w.heap.size w)
    (c1 : Hid (∀ (w : World), Xc.Good XC glob w.heap.size w → Calls Tryz.prog 10 #[.string a] w fun e w' => e = .returned (.tuple #[.string n, .int .i64 f]) ∧ Below w.heap.size w w'))
    (c2 : Hid (∀ (w : World), Xc.Good XC glob w.heap.size w → Calls Tryz.prog 10 #[.string b] w fun e w' => e = .returned (.tuple #[.string m, .int .i64 g]) ∧ Below w.heap.size w w'))
    (h1 : (300 : Int) < (a.size : Int)) :
    Calls Tryz.prog 4 #[.string a, .string b] w fun e w' => e = .returned (.bool true) ∧ Below w.heap.size w w' := by
  have HG := Lib.hid hg
  have ca := Lib.hid (awake11 hg)
  clear hg
  go_enter Tryz.func4, Tryz.ntmps4
  go_wp2_with (first | (go_at_call 9; refine ca.out.mono ?_; rintro e w1 ⟨rfl, hb⟩; have HB1 := Lib.hid hb; clear hb) | (go_at_call 10; refine (c2.out _ (HG.out.move glob_ro HB2.out HB2.out.size)).mono ?_; rintro e w3 ⟨rfl, hb⟩; have HB3 := Lib.hid (HB2.out.trans (hb.mono HB2.out.size)); clear hb) | (go_at_call 10; refine (c1.out _ (HG.out.move glob_ro HB1.out HB1.out.size)).mono ?_; rintro e w2 ⟨rfl, hb⟩; have HB2 := Lib.hid (HB1.out.trans (hb.mono HB1.out.size)); clear hb))
  go_ret
  exact ⟨rfl, HB3.out⟩
set_option maxHeartbeats 4000000 in
set_option maxRecDepth 100000 in
/-- The second is too long. -/
theorem joins_2 (a b n m : ByteArray) (f g : Int) {w : World} (hg : Xc.Good XC glob w.heap.size w)
    (c1 : Hid (∀ (w : World), Xc.Good XC glob w.heap.size w → Calls Tryz.prog 10 #[.string a] w fun e w' => e = .returned (.tuple #[.string n, .int .i64 f]) ∧ Below w.heap.size w w'))
    (c2 : Hid (∀ (w : World), Xc.Good XC glob w.heap.size w → Calls Tryz.prog 10 #[.string b] w fun e w' => e = .returned (.tuple #[.string m, .int .i64 g]) ∧ Below w.heap.size w w'))
    (h1 : ¬ (300 : Int) < (a.size : Int)) (h2 : (300 : Int) < (b.size : Int)) :
    Calls Tryz.prog 4 #[.string a, .string b] w fun e w' => e = .returned (.bool true) ∧ Below w.heap.size w w' := by
  have HG := Lib.hid hg
  have ca := Lib.hid (awake11 hg)
  clear hg
  go_enter Tryz.func4, Tryz.ntmps4
  go_wp2_with (first | (go_at_call 9; refine ca.out.mono ?_; rintro e w1 ⟨rfl, hb⟩; have HB1 := Lib.hid hb; clear hb) | (go_at_call 10; refine (c2.out _ (HG.out.move glob_ro HB2.out HB2.out.size)).mono ?_; rintro e w3 ⟨rfl, hb⟩; have HB3 := Lib.hid (HB2.out.trans (hb.mono HB2.out.size)); clear hb) | (go_at_call 10; refine (c1.out _ (HG.out.move glob_ro HB1.out HB1.out.size)).mono ?_; rintro e w2 ⟨rfl, hb⟩; have HB2 := Lib.hid (HB1.out.trans (hb.mono HB1.out.size)); clear hb))
  go_ret
  exact ⟨rfl, HB3.out⟩
set_option maxHeartbeats 4000000 in
set_option maxRecDepth 100000 in
/-- The first is no name. -/
theorem joins_3 (a b n m : ByteArray) (f g : Int) {w : World} (hg : Xc.Good XC glob w.heap.size w)
    (c1 : Hid (∀ (w : World), Xc.Good XC glob w.heap.size w → Calls Tryz.prog 10 #[.string a] w fun e w' => e = .returned (.tuple #[.string n, .int .i64 f]) ∧ Below w.heap.size w w'))
    (c2 : Hid (∀ (w : World), Xc.Good XC glob w.heap.size w → Calls Tryz.prog 10 #[.string b] w fun e w' => e = .returned (.tuple #[.string m, .int .i64 g]) ∧ Below w.heap.size w w'))
    (h1 : ¬ (300 : Int) < (a.size : Int)) (h2 : ¬ (300 : Int) < (b.size : Int)) (h3 : ¬ f = 0) :
    Calls Tryz.prog 4 #[.string a, .string b] w fun e w' => e = .returned (.bool true) ∧ Below w.heap.size w w' := by
  have HG := Lib.hid hg
  have ca := Lib.hid (awake11 hg)
  clear hg
  go_enter Tryz.func4, Tryz.ntmps4
  go_wp2_with (first | (go_at_call 9; refine ca.out.mono ?_; rintro e w1 ⟨rfl, hb⟩; have HB1 := Lib.hid hb; clear hb) | (go_at_call 10; refine (c2.out _ (HG.out.move glob_ro HB2.out HB2.out.size)).mono ?_; rintro e w3 ⟨rfl, hb⟩; have HB3 := Lib.hid (HB2.out.trans (hb.mono HB2.out.size)); clear hb) | (go_at_call 10; refine (c1.out _ (HG.out.move glob_ro HB1.out HB1.out.size)).mono ?_; rintro e w2 ⟨rfl, hb⟩; have HB2 := Lib.hid (HB1.out.trans (hb.mono HB1.out.size)); clear hb))
  go_ret
  exact ⟨rfl, HB3.out⟩
set_option maxHeartbeats 4000000 in
set_option maxRecDepth 100000 in
/-- The second is no name. -/
theorem joins_4 (a b n m : ByteArray) (f g : Int) {w : World} (hg : Xc.Good XC glob w.heap.size w)
    (c1 : Hid (∀ (w : World), Xc.Good XC glob w.heap.size w → Calls Tryz.prog 10 #[.string a] w fun e w' => e = .returned (.tuple #[.string n, .int .i64 f]) ∧ Below w.heap.size w w'))
    (c2 : Hid (∀ (w : World), Xc.Good XC glob w.heap.size w → Calls Tryz.prog 10 #[.string b] w fun e w' => e = .returned (.tuple #[.string m, .int .i64 g]) ∧ Below w.heap.size w w'))
    (h1 : ¬ (300 : Int) < (a.size : Int)) (h2 : ¬ (300 : Int) < (b.size : Int)) (h3 : f = 0) (h4 : ¬ g = 0) :
    Calls Tryz.prog 4 #[.string a, .string b] w fun e w' => e = .returned (.bool true) ∧ Below w.heap.size w w' := by
  have HG := Lib.hid hg
  have ca := Lib.hid (awake11 hg)
  clear hg
  go_enter Tryz.func4, Tryz.ntmps4
  go_wp2_with (first | (go_at_call 9; refine ca.out.mono ?_; rintro e w1 ⟨rfl, hb⟩; have HB1 := Lib.hid hb; clear hb) | (go_at_call 10; refine (c2.out _ (HG.out.move glob_ro HB2.out HB2.out.size)).mono ?_; rintro e w3 ⟨rfl, hb⟩; have HB3 := Lib.hid (HB2.out.trans (hb.mono HB2.out.size)); clear hb) | (go_at_call 10; refine (c1.out _ (HG.out.move glob_ro HB1.out HB1.out.size)).mono ?_; rintro e w2 ⟨rfl, hb⟩; have HB2 := Lib.hid (HB1.out.trans (hb.mono HB1.out.size)); clear hb))
  go_ret
  exact ⟨rfl, HB3.out⟩
set_option maxHeartbeats 4000000 in
set_option maxRecDepth 100000 in
/-- Both are too long. -/
theorem joins_5 (a b n m : ByteArray) (f g : Int) {w : World} (hg : Xc.Good XC glob w.heap.size w)
    (c1 : Hid (∀ (w : World), Xc.Good XC glob w.heap.size w → Calls Tryz.prog 10 #[.string a] w fun e w' => e = .returned (.tuple #[.string n, .int .i64 f]) ∧ Below w.heap.size w w'))
    (c2 : Hid (∀ (w : World), Xc.Good XC glob w.heap.size w → Calls Tryz.prog 10 #[.string b] w fun e w' => e = .returned (.tuple #[.string m, .int .i64 g]) ∧ Below w.heap.size w w'))
    (h1 : ¬ (300 : Int) < (a.size : Int)) (h2 : ¬ (300 : Int) < (b.size : Int)) (h3 : f = 0) (h4 : g = 0) (h5 : (250 : Int) < (a.size : Int) + (b.size : Int)) :
    Calls Tryz.prog 4 #[.string a, .string b] w fun e w' => e = .returned (.bool true) ∧ Below w.heap.size w w' := by
  have HG := Lib.hid hg
  have ca := Lib.hid (awake11 hg)
  clear hg
  go_enter Tryz.func4, Tryz.ntmps4
  go_wp2_with (first | (go_at_call 9; refine ca.out.mono ?_; rintro e w1 ⟨rfl, hb⟩; have HB1 := Lib.hid hb; clear hb) | (go_at_call 10; refine (c2.out _ (HG.out.move glob_ro HB2.out HB2.out.size)).mono ?_; rintro e w3 ⟨rfl, hb⟩; have HB3 := Lib.hid (HB2.out.trans (hb.mono HB2.out.size)); clear hb) | (go_at_call 10; refine (c1.out _ (HG.out.move glob_ro HB1.out HB1.out.size)).mono ?_; rintro e w2 ⟨rfl, hb⟩; have HB2 := Lib.hid (HB1.out.trans (hb.mono HB1.out.size)); clear hb))
  go_ret
  exact ⟨rfl, HB3.out⟩
set_option maxHeartbeats 4000000 in
set_option maxRecDepth 100000 in
/-- The first ends with a point. -/
theorem joins_6 (a b n m : ByteArray) (f g : Int) {w : World} (hg : Xc.Good XC glob w.heap.size w)
    (c1 : Hid (∀ (w : World), Xc.Good XC glob w.heap.size w → Calls Tryz.prog 10 #[.string a] w fun e w' => e = .returned (.tuple #[.string n, .int .i64 f]) ∧ Below w.heap.size w w'))
    (c2 : Hid (∀ (w : World), Xc.Good XC glob w.heap.size w → Calls Tryz.prog 10 #[.string b] w fun e w' => e = .returned (.tuple #[.string m, .int .i64 g]) ∧ Below w.heap.size w w'))
    (h1 : ¬ (300 : Int) < (a.size : Int)) (h2 : ¬ (300 : Int) < (b.size : Int)) (h3 : f = 0) (h4 : g = 0) (h5 : ¬ (250 : Int) < (a.size : Int) + (b.size : Int)) (j : Int) (hjw : IntKind.i64.wrap ((a.size : Int) - 1) = j) (p6 : (0 ≤ j) = True) (q6 : (j < (a.size : Int)) = True) (c7 : (bt a j == 46) = true) :
    Calls Tryz.prog 4 #[.string a, .string b] w fun e w' => e = .returned (.bool true) ∧ Below w.heap.size w w' := by
  have HG := Lib.hid hg
  have ca := Lib.hid (awake11 hg)
  clear hg
  have hx6 := bt_at a j
  go_enter Tryz.func4, Tryz.ntmps4
  go_wp2_with (first | (go_at_call 9; refine ca.out.mono ?_; rintro e w1 ⟨rfl, hb⟩; have HB1 := Lib.hid hb; clear hb) | (go_at_call 10; refine (c2.out _ (HG.out.move glob_ro HB2.out HB2.out.size)).mono ?_; rintro e w3 ⟨rfl, hb⟩; have HB3 := Lib.hid (HB2.out.trans (hb.mono HB2.out.size)); clear hb) | (go_at_call 10; refine (c1.out _ (HG.out.move glob_ro HB1.out HB1.out.size)).mono ?_; rintro e w2 ⟨rfl, hb⟩; have HB2 := Lib.hid (HB1.out.trans (hb.mono HB1.out.size)); clear hb))
  go_ret
  exact ⟨rfl, HB3.out⟩
end Go.Proofs.YtdbnanbeaeafdaaGreatDoor
/- The law DomainJoins' walk, 2. -/
namespace Go.Proofs.YtdbnanbeaeafdaaGreatDoor
open Go.RowKit Go.Xc Go.Proofs.YtdbnanbeaeafdaaGreatDoor.PDomainReads Go.Proofs.YtdbnanbeaeafdaaGreatDoorW.PrintWords Go.Proofs.YtdbnanbeaeafdaaGreatDoorW.PrintLast Go.Proofs.YtdbnanbeaeafdaaGreatDoorW.PrintMore

set_option maxHeartbeats 4000000 in
set_option maxRecDepth 100000 in
/-- Two names. -/
theorem joins_7 (a b n m x : ByteArray) (ln lm lx : List ByteArray) {w : World} (hg : Xc.Good XC glob w.heap.size w)
    (c1 : Hid (∀ (w : World), Xc.Good XC glob w.heap.size w → Calls Tryz.prog 10 #[.string a] w fun e w' => e = .returned (.tuple #[.string n, .int .i64 0]) ∧ Below w.heap.size w w'))
    (c2 : Hid (∀ (w : World), Xc.Good XC glob w.heap.size w → Calls Tryz.prog 10 #[.string b] w fun e w' => e = .returned (.tuple #[.string m, .int .i64 0]) ∧ Below w.heap.size w w'))
    (c3 : Hid (∀ (w : World), Xc.Good XC glob w.heap.size w → Calls Tryz.prog 10 #[.string (a ++ ⟨#[46]⟩ ++ b)] w fun e w' => e = .returned (.tuple #[.string x, .int .i64 0]) ∧ Below w.heap.size w w'))
    (cB : Hid (∀ (w : World), Xc.Good XC glob w.heap.size w → Calls Tryz.prog 13 #[.string x, .string m] w fun e w' => e = .returned (.bool true) ∧ Below w.heap.size w w'))
    (cx : Hid (∀ (w : World), Xc.Good XC glob w.heap.size w → Calls Tryz.prog 14 #[.string x] w fun e w' => ∃ v, e = .returned v ∧ Kd.R Kd.string 9 w' w.heap.size (fun _ => True) v lx ∧ Below w.heap.size w w')) (cn : Hid (∀ (w : World), Xc.Good XC glob w.heap.size w → Calls Tryz.prog 14 #[.string n] w fun e w' => ∃ v, e = .returned v ∧ Kd.R Kd.string 9 w' w.heap.size (fun _ => True) v ln ∧ Below w.heap.size w w')) (cm : Hid (∀ (w : World), Xc.Good XC glob w.heap.size w → Calls Tryz.prog 14 #[.string m] w fun e w' => ∃ v, e = .returned v ∧ Kd.R Kd.string 9 w' w.heap.size (fun _ => True) v lm ∧ Below w.heap.size w w'))
    (cR : Hid (∀ k : Nat, k < lx.length → ∀ (w : World), Xc.Good XC glob w.heap.size w → Calls Tryz.prog 12 #[.string (rdOf ByteArray.empty lx (k : Int))] w fun e w' => e = .returned (.bool true) ∧ Below w.heap.size w w'))
    (h1 : ¬ (300 : Int) < (a.size : Int)) (h2 : ¬ (300 : Int) < (b.size : Int)) (h5 : ¬ (250 : Int) < (a.size : Int) + (b.size : Int))
    (j : Int) (hjw : IntKind.i64.wrap ((a.size : Int) - 1) = j) (p6 : (0 ≤ j) = True) (q6 : (j < (a.size : Int)) = True) (c7 : (bt a j == 46) = false)
    (hln : ln.length ≤ 1000) (hlm : lm.length ≤ 1000) (hlx : (lx.length : Int) = (ln.length : Int) + (lm.length : Int)) :
    Calls Tryz.prog 4 #[.string a, .string b] w fun e w' => e = .returned (.bool true) ∧ Below w.heap.size w w' := by
  have HG := Lib.hid hg
  have ca := Lib.hid (awake11 hg)
  clear hg
  have hx6 := bt_at a j
  go_enter Tryz.func4, Tryz.ntmps4
  go_wp2_with (first | (go_at_call 14; refine (cx.out _ (HG.out.move glob_ro HB8.out HB8.out.size)).mono ?_; rintro e w9 ⟨v, rfl, ho, hb⟩; have HO9 := Lib.hid ho; have HB9 := Lib.hid (HB8.out.trans (hb.mono HB8.out.size)); clear ho hb; obtain ⟨A9, c9, rfl⟩ := Kd.R_slice HO9.out) | (go_at_call 14; refine (cm.out _ (HG.out.move glob_ro HB7.out HB7.out.size)).mono ?_; rintro e w8 ⟨v, rfl, ho, hb⟩; have HO8 := Lib.hid ho; have HB8 := Lib.hid (HB7.out.trans (hb.mono HB7.out.size)); clear ho hb; obtain ⟨A8, c8, rfl⟩ := Kd.R_slice HO8.out) | (go_at_call 14; refine (cn.out _ (HG.out.move glob_ro HB6.out HB6.out.size)).mono ?_; rintro e w7 ⟨v, rfl, ho, hb⟩; have HO7 := Lib.hid ho; have HB7 := Lib.hid (HB6.out.trans (hb.mono HB6.out.size)); clear ho hb; obtain ⟨A7, c7, rfl⟩ := Kd.R_slice HO7.out) | (go_at_call 14; refine (cx.out _ (HG.out.move glob_ro HB5.out HB5.out.size)).mono ?_; rintro e w6 ⟨v, rfl, ho, hb⟩; have HO6 := Lib.hid ho; have HB6 := Lib.hid (HB5.out.trans (hb.mono HB5.out.size)); clear ho hb; obtain ⟨A6, c6, rfl⟩ := Kd.R_slice HO6.out) | (go_at_call 13; refine (cB.out _ (HG.out.move glob_ro HB4.out HB4.out.size)).mono ?_; rintro e w5 ⟨rfl, hb⟩; have HB5 := Lib.hid (HB4.out.trans (hb.mono HB4.out.size)); clear hb) | (go_at_call 10; refine (c3.out _ (HG.out.move glob_ro HB3.out HB3.out.size)).mono ?_; rintro e w4 ⟨rfl, hb⟩; have HB4 := Lib.hid (HB3.out.trans (hb.mono HB3.out.size)); clear hb) | (go_at_call 10; refine (c2.out _ (HG.out.move glob_ro HB2.out HB2.out.size)).mono ?_; rintro e w3 ⟨rfl, hb⟩; have HB3 := Lib.hid (HB2.out.trans (hb.mono HB2.out.size)); clear hb) | (go_at_call 10; refine (c1.out _ (HG.out.move glob_ro HB1.out HB1.out.size)).mono ?_; rintro e w2 ⟨rfl, hb⟩; have HB2 := Lib.hid (HB1.out.trans (hb.mono HB1.out.size)); clear hb) | (go_at_call 9; refine ca.out.mono ?_; rintro e w1 ⟨rfl, hb⟩; have HB1 := Lib.hid hb; clear hb))
  go_loopw [12, 89] (fun _ v89 wr => ∃ k : Nat, k ≤ lx.length ∧ v89 = .int .i64 k ∧ Hid (Below w9.heap.size w9 wr)) (fun _ i _ => lx.length - (intOf i).toNat)
  case atStart => exact ⟨0, Nat.zero_le _, rfl, Lib.hid (Below.refl _ _)⟩
  case round =>
    obtain ⟨k, hk, rfl, HB⟩ := hrel
    by_cases hlt : k < lx.length
    · obtain ⟨ad, ea, hx⟩ := Kd.at_string (Kd.R_reads' (Kd.R_below HO9.out HB.out)).2.2 (k : Int) (by omega) (by omega)
      cases ea
      rw [Int.toNat_natCast] at hx
      have HBk := Lib.hid (HB9.out.trans (HB.out.mono HB9.out.size))
      have cr := Lib.hid (cR.out k hlt wr (HG.out.move glob_ro HBk.out HBk.out.size))
      go_wp2_with (first | (go_at_call 12; refine cr.out.mono ?_; rintro e w10 ⟨rfl, hb⟩; have HB10 := Lib.hid (HB.out.trans (hb.mono HB.out.size)); clear hb))
      go_roundw
      case measure => simp [intOf]; omega
      case rel => exact ⟨k + 1, by omega, by go_num, HB10⟩
    · have hkk : k = lx.length := by omega
      subst hkk
      go_wp2
      go_ret
      exact ⟨rfl, HB9.out.trans (HB.out.mono HB9.out.size)⟩
end Go.Proofs.YtdbnanbeaeafdaaGreatDoor
/- The law DomainJoins' walk, whole. -/
namespace Go.Proofs.YtdbnanbeaeafdaaGreatDoor
open Go.RowKit Go.Xc Go.Proofs.YtdbnanbeaeafdaaGreatDoor.PDomainReads Go.Proofs.YtdbnanbeaeafdaaGreatDoorW.PrintWords Go.Proofs.YtdbnanbeaeafdaaGreatDoorW.PrintLast Go.Proofs.YtdbnanbeaeafdaaGreatDoorW.PrintMore

theorem joins_all (a b : ByteArray) {w : World} (hg : Xc.Good XC glob w.heap.size w) (hza : a.size ≤ 1048576) (hzb : b.size ≤ 1048576) :
    Calls Tryz.prog 4 #[.string a, .string b] w fun e w' => e = .returned (.bool true) ∧ Below w.heap.size w w' := by
  have c1 : Hid (∀ (w : World), Xc.Good XC glob w.heap.size w → Calls Tryz.prog 10 #[.string a] w fun e w' => e = .returned (.tuple #[.string (canonB a).1, .int .i64 (canonB a).2]) ∧ Below w.heap.size w w') := Lib.hid (fun w h => canon_any a h hza)
  have c2 : Hid (∀ (w : World), Xc.Good XC glob w.heap.size w → Calls Tryz.prog 10 #[.string b] w fun e w' => e = .returned (.tuple #[.string (canonB b).1, .int .i64 (canonB b).2]) ∧ Below w.heap.size w w') := Lib.hid (fun w h => canon_any b h hzb)
  by_cases h1 : (300 : Int) < (a.size : Int)
  · exact joins_1 a b _ _ _ _ hg c1 c2 h1
  by_cases h2 : (300 : Int) < (b.size : Int)
  · exact joins_2 a b _ _ _ _ hg c1 c2 h1 h2
  by_cases h3 : ¬ (canonB a).2 = 0
  · exact joins_3 a b _ _ _ _ hg c1 c2 h1 h2 h3
  have h3 := Decidable.not_not.1 h3
  by_cases h4 : ¬ (canonB b).2 = 0
  · exact joins_4 a b _ _ _ _ hg c1 c2 h1 h2 h3 h4
  have h4 := Decidable.not_not.1 h4
  by_cases h5 : (250 : Int) < (a.size : Int) + (b.size : Int)
  · exact joins_5 a b _ _ _ _ hg c1 c2 h1 h2 h3 h4 h5
  obtain ⟨ea, _, na⟩ := canon_ok h3
  obtain ⟨eb, _, nb⟩ := canon_ok h4
  have hpos : 0 < a.size := by
    have := name_pos na
    rw [lowerB_size] at this
    omega
  have hjw : IntKind.i64.wrap ((a.size : Int) - 1) = ((a.size - 1 : Nat) : Int) := (i64_w _).trans (by unfold wrap64; omega)
  have p6 : (0 ≤ ((a.size - 1 : Nat) : Int)) = True := eq_true (by omega)
  have q6 : (((a.size - 1 : Nat) : Int) < (a.size : Int)) = True := eq_true (by omega)
  have hbt : bt a ((a.size - 1 : Nat) : Int) = ((a[a.size - 1]'(by omega)).toNat : Int) := bt_nat (by omega)
  by_cases hd : (a[a.size - 1]'(by omega)).toNat = 46
  · have c7 : (bt a ((a.size - 1 : Nat) : Int) == 46) = true := beq_iff_eq.mpr (by rw [hbt, hd]; rfl)
    exact joins_6 a b _ _ _ _ hg c1 c2 h1 h2 h3 h4 h5 _ hjw p6 q6 c7
  · have c7 : (bt a ((a.size - 1 : Nat) : Int) == 46) = false := beq_eq_false_iff_ne.mpr (by rw [hbt]; omega)
    obtain ⟨hc, nx, lx, hbl⟩ := joins_plain h3 h4 (by omega) hpos hd
    have h3' : canonB a = (lowerB a, 0) := Prod.ext ea h3
    have h4' : canonB b = (lowerB b, 0) := Prod.ext eb h4
    have sa : (lowerB a).size ≤ 300 := by rw [lowerB_size]; omega
    have sb : (lowerB b).size ≤ 300 := by rw [lowerB_size]; omega
    have sx : (lowerB a ++ dotB ++ lowerB b).size ≤ 1000 := by rw [join_size]; omega
    have sab : (a ++ ⟨#[46]⟩ ++ b).size ≤ 1000 := by
      have := join_size a b
      have e : a ++ ⟨#[46]⟩ ++ b = a ++ dotB ++ b := rfl
      rw [e]; omega
    have hc' : canonB (a ++ ⟨#[46]⟩ ++ b) = (lowerB a ++ dotB ++ lowerB b, 0) := hc
    have hln := labelsB_len (lowerB a)
    have hlm := labelsB_len (lowerB b)
    have hlx : ((labelsB (lowerB a ++ dotB ++ lowerB b)).length : Int) = ((labelsB (lowerB a)).length : Int) + ((labelsB (lowerB b)).length : Int) := by
      rw [lx, List.length_append]; omega
    rw [h3'] at c1
    rw [h4'] at c2
    exact joins_7 a b (lowerB a) (lowerB b) (lowerB a ++ dotB ++ lowerB b) (labelsB (lowerB a)) (labelsB (lowerB b)) (labelsB (lowerB a ++ dotB ++ lowerB b)) hg c1 c2
      (Lib.hid (fun w h => canon_is hc' h (by omega)))
      (Lib.hid (fun w h => below_true hbl h (by omega) (by omega)))
      (Lib.hid (fun w h => labels14_any _ h (by omega)))
      (Lib.hid (fun w h => labels14_any _ h (by omega)))
      (Lib.hid (fun w h => labels14_any _ h (by omega)))
      (Lib.hid (fun k hk w h => right_true (label_name nx (rd_mem hk)) h (by
        have := nx.lab _ (rd_mem hk)
        rw [okLab_iff, Bool.and_eq_true] at this
        have := of_decide_eq_true this.2
        omega)))
      h1 h2 h5 _ hjw p6 q6 c7 (by omega) (by omega) hlx
end Go.Proofs.YtdbnanbeaeafdaaGreatDoor
