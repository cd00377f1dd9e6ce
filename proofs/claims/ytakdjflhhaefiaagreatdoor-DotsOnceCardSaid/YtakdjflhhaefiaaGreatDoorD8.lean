/- The law DotsOnce's walk. -/
import Derived.Test.YtakdjflhhaefiaaGreatDoorD5
import Derived.Test.YtakdjflhhaefiaaGreatDoorD4
set_option linter.unusedVariables false
set_option linter.unusedSimpArgs false
namespace Go.Proofs.YtakdjflhhaefiaaGreatDoor
open Go.RowKit Go.Xc

theorem split_facts (s : ByteArray) (m : Int) (w1 : World) (hs : s.size < 1073741824) (hm : w1.cell? ⟨0, 0, none⟩ = some (.int .i64 m)) :
    Calls Tryz.prog 24 #[.string s, .string ⟨#[47]⟩] w1 fun e w' => e = .returned (.slice (some ⟨w1.heap.size, 0, none⟩) (stepsB s).length (stepsB s).length) ∧ Below w1.heap.size w1 w' ∧ w1.heap.size < w'.heap.size ∧ ∀ (j : Nat) x, (stepsB s)[j]? = some x → w'.cell? ⟨w1.heap.size, j, none⟩ = some (.string x) :=
  (split_any s m w1 hs hm).mono (fun e w' h => by
    obtain ⟨h1, rfl⟩ := h
    refine ⟨h1, (Below.refl _ _).alloc (Nat.le_refl _) _, by simp, fun j x hx => ?_⟩
    rw [World.cell?_alloc_at _ _ _ _ rfl]
    simp [hx])
theorem good_steps {s : ByteArray} (h : goodS s.data.toList) {x : ByteArray} (hx : x ∈ stepsB s) : (x.toList == [46]) = false ∧ (x.toList == [46, 46]) = false := by
  have hm : x.data.toList ∈ spl 47 s.data.toList := by
    rw [← steps_list]
    exact List.mem_map_of_mem hx
  have := h _ hm
  rw [ByteArray.toList_eq]
  exact ⟨beq_eq_false_iff_ne.2 this.1, beq_eq_false_iff_ne.2 this.2⟩
theorem prefix_slash (l : List UInt8) : Lib.hasPrefix l [47] = true ↔ l.head? = some 47 := by
  cases l with
  | nil => simp [Lib.hasPrefix, List.isPrefixOf]
  | cons b l => simp [Lib.hasPrefix, List.isPrefixOf]; exact ⟨fun h => h.symm, fun h => h.symm⟩

set_option maxHeartbeats 4000000 in
set_option maxRecDepth 100000 in
theorem once_small (s : ByteArray) (hs : s.size ≤ 1000) {w : World} (hg : Xc.Good XC glob w.heap.size w) (hm : ∃ m, w.cell? ⟨0, 0, none⟩ = some (.int .i64 m)) :
    Calls Tryz.prog 7 #[.string s] w fun e w' => e = .returned (.bool true) ∧ Below w.heap.size w w' := by
  obtain ⟨m, hm⟩ := hm
  have HM := Lib.hid hm
  have ca := Lib.hid (awake16 hg)
  have hrl : (mkS (remL s.data.toList)).size ≤ s.size := by rw [size_len, size_len]; exact remL_len _
  have c1 := Lib.hid (fun w => remove_any s w (by omega))
  have c2 : Hid (∀ w, Calls Tryz.prog 23 #[.string (mkS (remL s.data.toList))] w fun e w' => e = .returned (.string (mkS (remL s.data.toList))) ∧ Below w.heap.size w w') := Lib.hid (fun w => by
    have := remove_any (mkS (remL s.data.toList)) w (by omega)
    rw [mkS_list, remL_again] at this
    exact this)
  have c3 := Lib.hid (fun w => depth_any s w (by omega))
  have c4 : Hid (∀ w, Calls Tryz.prog 26 #[.string (mkS (remL s.data.toList))] w fun e w' => e = .returned (.int .i64 (depthL (remL s.data.toList) : Nat)) ∧ Below w.heap.size w w') := Lib.hid (fun w => by
    have := depth_any (mkS (remL s.data.toList)) w (by omega)
    rw [mkS_list, remL_again] at this
    exact this)
  have HSP : Hid (∀ (w1 : World), Below w.heap.size w w1 → Calls Tryz.prog 24 #[.string (mkS (remL s.data.toList)), .string ⟨#[47]⟩] w1 fun e w' => e = .returned (.slice (some ⟨w1.heap.size, 0, none⟩) (stepsB (mkS (remL s.data.toList))).length (stepsB (mkS (remL s.data.toList))).length) ∧ Below w1.heap.size w1 w' ∧ w1.heap.size < w'.heap.size ∧ ∀ (j : Nat) x, (stepsB (mkS (remL s.data.toList)))[j]? = some x → w'.cell? ⟨w1.heap.size, j, none⟩ = some (.string x)) :=
    Lib.hid (fun w1 hb => split_facts _ m w1 (by omega) (keep_cell HM.out (Nat.le_refl _) hb))
  have HGS : Hid (∀ (j : Nat) (h : j < (stepsB (mkS (remL s.data.toList))).length), ((stepsB (mkS (remL s.data.toList)))[j].toList == [46]) = false ∧ ((stepsB (mkS (remL s.data.toList)))[j].toList == [46, 46]) = false) :=
    Lib.hid (fun j h => good_steps (remL_good s.data.toList) (List.getElem_mem h))
  have HPF : Hid (Lib.hasPrefix s.data.toList [47] = true → Lib.hasPrefix (mkS (remL s.data.toList)).data.toList [47] = true) := Lib.hid (fun h => by
    rw [prefix_slash] at h ⊢
    cases hq : s.data.toList with
    | nil => rw [hq] at h; cases h
    | cons b l =>
      rw [hq] at h
      have hb : b = 47 := by simpa using h
      subst hb
      rw [mkS_list]
      exact remL_slash l)
  have hll := steps_le (mkS (remL s.data.toList))
  have hlt : ¬ (1000 : Int) < (s.size : Int) := by omega
  clear hg hm
  have c1' : Hid (∀ w, Calls Tryz.prog 23 #[.string s] w fun e w' => e = .returned (.string (mkS (remL s.data.toList))) ∧ Below w.heap.size w w') := c1
  clear c1
  generalize depthL (remL s.data.toList) = dd at c3 c4
  generalize mkS (remL s.data.toList) = r at c1' c2 c4 HSP HGS HPF hrl hll
  generalize stepsB r = l at HSP HGS hll
  have hrs : (r.size : Int) ≤ (s.size : Int) := by omega
  have e1 : (r.toList == r.toList) = true := beq_self_eq_true _
  go_enter Tryz.func7, Tryz.ntmps7
  go_wp2_with (first | (go_at_call 24; refine (HSP.out w2 HB2.out).mono ?_; rintro e w3 ⟨rfl, hb, h5, hc⟩; have HB3 := Lib.hid (HB2.out.trans (hb.mono HB2.out.size)); have HC3 := Lib.hid hc; have H5 := Lib.hid h5; clear hb h5 hc) | (go_at_call 23; refine (c1'.out _).mono ?_; rintro e w2 ⟨rfl, hb⟩; have HB2 := Lib.hid (HB1.out.trans (hb.mono HB1.out.size)); clear hb) | (go_at_call 22; refine ca.out.mono ?_; rintro e w1 ⟨rfl, hb⟩; have HB1 := Lib.hid hb; clear hb))
  go_loopw [16] (fun i wr => ∃ k : Nat, k ≤ l.length ∧ i = .int .i64 k ∧ wr = w3) (fun i _ => l.length - (intOf i).toNat)
  case atStart => exact ⟨0, Nat.zero_le _, rfl, by first | rfl | trivial⟩
  case round =>
    obtain ⟨k, hk, rfl, rfl⟩ := hrel
    by_cases hlt2 : k < l.length
    · have hx := HC3.out k l[k] (List.getElem?_eq_getElem hlt2)
      have hg1 := (HGS.out k hlt2).1
      have hg2 := (HGS.out k hlt2).2
      generalize l[k] = x at hx hg1 hg2
      go_wp2
      go_roundw
      case rel => exact ⟨k + 1, by omega, by go_num, by first | rfl | trivial⟩
      case measure => simp [intOf]; omega
    · have hkk : k = l.length := by omega
      subst hkk
      cases hA : Lib.hasPrefix s.data.toList [47] with
      | false =>
        go_wp2_with (first | (go_at_call 26; refine (c3.out w5).mono ?_; rintro e w6 ⟨rfl, hb⟩; have HB6 := Lib.hid (HB5.out.trans (hb.mono HB5.out.size)); clear hb) | (go_at_call 26; refine (c4.out w4).mono ?_; rintro e w5 ⟨rfl, hb⟩; have HB5 := Lib.hid (HB4.out.trans (hb.mono HB4.out.size)); clear hb) | (go_at_call 25; refine (Tryz.strings_HasPrefix _ _ _).mono ?_; rintro e w' ⟨rfl, hww⟩; rw [hww]; clear hww w') | (go_at_call 23; refine (c2.out _).mono ?_; rintro e w4 ⟨rfl, hb⟩; have HB4 := Lib.hid (HB3.out.trans (hb.mono HB3.out.size)); clear hb))
        go_ret
        exact ⟨rfl, HB6.out⟩
      | true =>
        have hB := HPF.out hA
        go_wp2_with (first | (go_at_call 26; refine (c3.out w5).mono ?_; rintro e w6 ⟨rfl, hb⟩; have HB6 := Lib.hid (HB5.out.trans (hb.mono HB5.out.size)); clear hb) | (go_at_call 26; refine (c4.out w4).mono ?_; rintro e w5 ⟨rfl, hb⟩; have HB5 := Lib.hid (HB4.out.trans (hb.mono HB4.out.size)); clear hb) | (go_at_call 25; refine (Tryz.strings_HasPrefix _ _ _).mono ?_; rintro e w' ⟨rfl, hww⟩; rw [hww]; clear hww w') | (go_at_call 23; refine (c2.out _).mono ?_; rintro e w4 ⟨rfl, hb⟩; have HB4 := Lib.hid (HB3.out.trans (hb.mono HB3.out.size)); clear hb))
        go_ret
        exact ⟨rfl, HB6.out⟩
theorem once_large (s : ByteArray) (hs : ¬ s.size ≤ 1000) {w : World} (hg : Xc.Good XC glob w.heap.size w) :
    Calls Tryz.prog 7 #[.string s] w fun e w' => e = .returned (.bool true) ∧ Below w.heap.size w w' := by
  have ca := Lib.hid (awake16 hg)
  have hlt : (1000 : Int) < (s.size : Int) := by omega
  clear hg
  go_enter Tryz.func7, Tryz.ntmps7
  go_wp2_with (first | (go_at_call 22; refine ca.out.mono ?_; rintro e w1 ⟨rfl, hb⟩; have HB1 := Lib.hid hb; clear hb))
  go_ret
  exact ⟨rfl, HB1.out⟩
theorem once_all (s : ByteArray) {w : World} (hg : Xc.Good XC glob w.heap.size w) (hm : ∃ m, w.cell? ⟨0, 0, none⟩ = some (.int .i64 m)) :
    Calls Tryz.prog 7 #[.string s] w fun e w' => e = .returned (.bool true) ∧ Below w.heap.size w w' := by
  by_cases hs : s.size ≤ 1000
  · exact once_small s hs hg hm
  · exact once_large s hs hg
end Go.Proofs.YtakdjflhhaefiaaGreatDoor
