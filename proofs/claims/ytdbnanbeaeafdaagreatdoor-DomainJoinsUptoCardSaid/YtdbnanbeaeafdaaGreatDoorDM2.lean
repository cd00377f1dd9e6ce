/- domain.Canon. -/
import Derived.Test.YtdbnanbeaeafdaaGreatDoorDM1
import Derived.Lib.OthersKept
import Derived.Test.YtdbnanbeaeafdaaGreatDoorXAwake
import Derived.Laws.Strings
namespace Go.Proofs.YtdbnanbeaeafdaaGreatDoor
open Go.RowKit Go.Xc Go.Proofs.YtdbnanbeaeafdaaGreatDoor.PDomainReads Go.Proofs.YtdbnanbeaeafdaaGreatDoorW.PrintWords Go.Proofs.YtdbnanbeaeafdaaGreatDoorW.PrintLast Go.Proofs.YtdbnanbeaeafdaaGreatDoorW.PrintMore

def okBytes (t : ByteArray) : Bool := t.data.toList.all fun b => byteOfB (b.toNat : Int)
def canonB (s : ByteArray) : ByteArray × Int :=
  if plainB s = false then (⟨#[]⟩, 7) else if okBytes (lowerB s) = false then (⟨#[]⟩, 6) else if sizeB (lowerB s) = false then (⟨#[]⟩, 6)
  else if anyXn (labelsB (lowerB s)) = true then (⟨#[]⟩, 7) else (lowerB s, 0)
theorem plain_lower {s : ByteArray} (h : plainB s = true) : ∀ i (hi : i < (lowerB s).size), ((lowerB s)[i]'hi).toNat < 128 := by
  intro i hi
  have hi' : i < s.size := by rw [← lowerB_size]; exact hi
  have e : (lowerB s)[i] = lowN s[i] := Array.getElem_map ..
  unfold plainB at h
  rw [List.all_eq_true] at h
  have hm : s[i] ∈ s.data.toList := by
    have : (s[i]'hi') = s.data.toList[i]'(by simpa using hi') := rfl
    rw [this]; exact List.getElem_mem _
  have h1 : (s[i]'hi').toNat < 128 := of_decide_eq_true (h _ hm)
  rw [e]
  by_cases hg : 65 ≤ (s[i]'hi').toNat ∧ (s[i]'hi').toNat ≤ 90
  · have := lowN_great _ hg.1 hg.2; omega
  · rw [lowN_other _ hg]; exact h1
def okUpto (t : ByteArray) (n : Nat) : Prop := ∀ i (h : i < t.size), i < n → byteOfB ((t[i]'h).toNat : Int) = true
theorem okBytes_true {t : ByteArray} (h : okUpto t t.size) : okBytes t = true := by
  unfold okBytes
  rw [List.all_eq_true]
  intro b hb
  obtain ⟨i, hi, rfl⟩ := List.getElem_of_mem hb
  have hi' : i < t.size := by simpa using hi
  exact h i hi' hi'
theorem okBytes_false {t : ByteArray} {n : Nat} (h : n < t.size) (hb : byteOfB ((t[n]'h).toNat : Int) = false) : okBytes t = false := by
  unfold okBytes
  rw [List.all_eq_false]
  refine ⟨t[n]'h, ?_, by rw [hb]; simp⟩
  have : (t[n]'h) = t.data.toList[n]'(by simpa using h) := rfl
  rw [this]; exact List.getElem_mem _
theorem okUpto_step {t : ByteArray} {n : Nat} (h : okUpto t n) (hp : n < t.size) (ha : byteOfB ((t[n]'hp).toNat : Int) = true) : okUpto t (n + 1) := fun i hi h' => by
  by_cases he : i = n
  · subst he; exact ha
  · exact h i hi (by omega)
end Go.Proofs.YtdbnanbeaeafdaaGreatDoor
/- domain.Canon, at every text of at most 1048576 bytes. -/
namespace Go.Proofs.YtdbnanbeaeafdaaGreatDoor
open Go.RowKit Go.Xc Go.Proofs.YtdbnanbeaeafdaaGreatDoor.PDomainReads Go.Proofs.YtdbnanbeaeafdaaGreatDoorW.PrintWords Go.Proofs.YtdbnanbeaeafdaaGreatDoorW.PrintLast Go.Proofs.YtdbnanbeaeafdaaGreatDoorW.PrintMore

theorem small_labels {t : ByteArray} (h : sizeB t = true) : ∀ j : Nat, j < (labelsB t).length → (rdOf ByteArray.empty (labelsB t) (j : Int)).size ≤ 1048576 := by
  intro j hj
  unfold sizeB allOk at h
  rw [Bool.and_eq_true, List.all_eq_true] at h
  have := h.1 j (List.mem_range.2 hj)
  unfold okLab at this
  rw [Bool.and_eq_true] at this
  have := of_decide_eq_true this.2
  omega

set_option maxHeartbeats 4000000 in
set_option maxRecDepth 100000 in
theorem canon_no (s : ByteArray) {w : World} (hp : plainB s = false) :
    Calls Tryz.prog 10 #[.string s] w fun e w' => e = .returned (.tuple #[.string ⟨#[]⟩, .int .i64 7]) ∧ Below w.heap.size w w' := by
  have c1 := Lib.hid (by have := scalar_plain s w; rwa [hp] at this : Calls Tryz.prog 28 #[.string s] w fun e w' => e = .returned (.bool false) ∧ Below w.heap.size w w')
  clear hp
  go_enter Tryz.func10, Tryz.ntmps10
  go_wp2_with (first | (go_at_call 28; refine c1.out.mono ?_; rintro e w1 ⟨rfl, hb⟩; have HB := Lib.hid hb; clear hb))
  go_ret2
  exact ⟨rfl, HB.out⟩
set_option maxHeartbeats 4000000 in
set_option maxRecDepth 100000 in
theorem canon_yes (s : ByteArray) {w : World} (hg : Xc.Good XC glob w.heap.size w) (hs : s.size ≤ 1048576) (hp : plainB s = true) :
    Calls Tryz.prog 10 #[.string s] w fun e w' => e = .returned (.tuple #[.string (canonB s).1, .int .i64 (canonB s).2]) ∧ Below w.heap.size w w' := by
  have c1 := Lib.hid (by have := scalar_plain s w; rwa [hp] at this : Calls Tryz.prog 28 #[.string s] w fun e w' => e = .returned (.bool true) ∧ Below w.heap.size w w')
  have c2 := Lib.hid (fun w => scalar_lower s w (by unfold maxLen; omega))
  have HG := Lib.hid hg
  have HA := Lib.hid (plain_lower hp)
  have hz : (lowerB s).size ≤ 1048576 := by rw [lowerB_size]; exact hs
  have HP := Lib.hid hp
  clear hg hp
  generalize ht : lowerB s = t at c2 HA hz
  have HT := Lib.hid ht
  clear ht
  go_enter Tryz.func10, Tryz.ntmps10
  go_wp2_with (first | (go_at_call 28; refine c1.out.mono ?_; rintro e w1 ⟨rfl, hb⟩; have HB := Lib.hid hb; clear hb) | (go_at_call 29; refine (c2.out _).mono ?_; rintro e w2 ⟨rfl, hb⟩; have HB2 := Lib.hid (HB.out.trans (hb.mono HB.out.size)); clear hb))
  go_loopw [5] (fun _ wr => ∃ pos : Nat, wr.heap[w2.heap.size]? = some (.stringIter t pos) ∧ Hid (Below w2.heap.size w2 wr) ∧ Hid (okUpto t pos)) (fun _ wr => t.size - wr.iterPos w2.heap.size)
  case atStart =>
    exact ⟨0, World.iter_heap w2 t 0, Lib.hid ((Below.refl _ w2).alloc (Nat.le_refl _) _), Lib.hid (show okUpto t 0 from fun i h h' => by omega)⟩
  case round =>
    obtain ⟨pos, hit, HR, HU⟩ := hrel
    have hlt2 : w2.heap.size < wr.heap.size := (Array.getElem?_eq_some_iff.1 hit).1
    by_cases hp : pos < t.size
    · have ha := HA.out pos hp
      have hnx : ∀ ty, (Instr.next (.pointer (some ⟨w2.heap.size, 0, none⟩)) true ty).run Tryz.prog wr = _ := fun ty => Lib.run_next_ascii_at wr w2.heap.size t pos ty hit hp ha
      have hit2 := Lib.iterAt_heap wr w2.heap.size t pos (pos + 1) hit
      have HR2 := Lib.hid (Lib.below_iterAt HR.out (k := w2.heap.size) (by omega) t (pos + 1))
      have HW := Lib.hid (HG.out.move glob_ro (HB2.out.trans (HR2.out.mono HB2.out.size)) (Nat.le_trans HB2.out.size HR2.out.size))
      cases hq : byteOfB ((t[pos]'hp).toNat : Int) with
      | true =>
        have c3 := Lib.hid (by have := byteOf_any ((t[pos]'hp).toNat : Int) HW.out; rwa [hq] at this : Calls Tryz.prog 30 #[.int .i32 ((t[pos]'hp).toNat : Int)] (wr.iterAt w2.heap.size t (pos + 1)) fun e w' => e = .returned (.bool true) ∧ Below (wr.iterAt w2.heap.size t (pos + 1)).heap.size (wr.iterAt w2.heap.size t (pos + 1)) w')
        have HQ := Lib.hid hq
        clear hq
        go_wp2_with (first | (go_at_call 30; refine c3.out.mono ?_; rintro e w4 ⟨rfl, hb⟩; have HB4 := Lib.hid hb; clear hb))
        have hit4 : w4.heap[w2.heap.size]? = some (.stringIter t (pos + 1)) := by rw [HB4.out.block _ (by rw [Lib.iterAt_size]; exact hlt2)]; exact hit2
        go_roundw
        case rel => exact ⟨pos + 1, hit4, Lib.hid (HR2.out.trans (HB4.out.mono HR2.out.size)), Lib.hid (okUpto_step HU.out hp HQ.out)⟩
        case measure =>
          simp only [World.iterPos, hit4, hit]
          omega
      | false =>
        have c3 := Lib.hid (by have := byteOf_any ((t[pos]'hp).toNat : Int) HW.out; rwa [hq] at this : Calls Tryz.prog 30 #[.int .i32 ((t[pos]'hp).toNat : Int)] (wr.iterAt w2.heap.size t (pos + 1)) fun e w' => e = .returned (.bool false) ∧ Below (wr.iterAt w2.heap.size t (pos + 1)).heap.size (wr.iterAt w2.heap.size t (pos + 1)) w')
        have HQ := Lib.hid (okBytes_false hp hq)
        clear hq
        go_wp2_with (first | (go_at_call 30; refine c3.out.mono ?_; rintro e w4 ⟨rfl, hb⟩; have HB4 := Lib.hid hb; clear hb))
        go_ret2
        refine ⟨?_, HB2.out.trans ((HR2.out.trans (HB4.out.mono HR2.out.size)).mono HB2.out.size)⟩
        have e : canonB s = (⟨#[]⟩, 6) := by
          unfold canonB
          rw [HT.out, HP.out, HQ.out]; rfl
        rw [e]; rfl
    · have hnx : ∀ ty, (Instr.next (.pointer (some ⟨w2.heap.size, 0, none⟩)) true ty).run Tryz.prog wr = _ := fun ty => Lib.run_next_end_at wr w2.heap.size t pos ty hit hp
      have HOK := Lib.hid (okBytes_true (t := t) (fun i hi _ => HU.out i hi (by omega)))
      have HB3 := Lib.hid (HB2.out.trans (HR.out.mono HB2.out.size))
      have HW := Lib.hid (HG.out.move glob_ro HB3.out HB3.out.size)
      cases hsz : sizeB t with
      | false =>
        have c3 := Lib.hid (by have := size_any t HW.out hz; rwa [hsz] at this : Calls Tryz.prog 31 #[.string t] wr fun e w' => e = .returned (.bool false) ∧ Below wr.heap.size wr w')
        have HS := Lib.hid hsz
        clear hsz
        go_wp2_with (first | (go_at_call 31; refine c3.out.mono ?_; rintro e w4 ⟨rfl, hb⟩; have HB4 := Lib.hid (HB3.out.trans (hb.mono HB3.out.size)); clear hb))
        go_ret2
        refine ⟨?_, HB4.out⟩
        have e : canonB s = (⟨#[]⟩, 6) := by
          unfold canonB
          rw [HT.out, HP.out, HOK.out, HS.out]; rfl
        rw [e]; rfl
      | true =>
        have c3 := Lib.hid (by have := size_any t HW.out hz; rwa [hsz] at this : Calls Tryz.prog 31 #[.string t] wr fun e w' => e = .returned (.bool true) ∧ Below wr.heap.size wr w')
        have HS := Lib.hid hsz
        have HLS := Lib.hid (small_labels hsz)
        have HLN := Lib.hid (Nat.le_trans (labelsB_len t) (Nat.succ_le_succ hz))
        clear hsz
        cases hx : anyXn (labelsB t) with
        | false =>
          have HX := Lib.hid hx
          generalize hl : labelsB t = l at hx HLS HLN
          have HL := Lib.hid hl
          have HXL := Lib.hid hx
          clear hl hx
          go_wp2_with (first | (go_at_call 31; refine c3.out.mono ?_; rintro e w4 ⟨rfl, hb⟩; have HB4 := Lib.hid (HB3.out.trans (hb.mono HB3.out.size)); clear hb) | (go_at_call 33; refine (labels_any t (HG.out.move glob_ro HB4.out HB4.out.size) hz).mono ?_; rintro e w5 ⟨v, rfl, ho, hb⟩; rw [HL.out] at ho; have HO := Lib.hid ho; have HB5 := Lib.hid (HB4.out.trans (hb.mono HB4.out.size)); clear ho hb) | (go_at_call 32; refine (contains_xn l v _ _ HO.out HLN.out HLS.out).mono ?_; rw [HXL.out]; rintro e w6 ⟨rfl, hb⟩; have HB6 := Lib.hid (HB5.out.trans (hb.mono HB5.out.size)); clear hb))
          go_ret2
          refine ⟨?_, HB6.out⟩
          have e : canonB s = (t, 0) := by
            unfold canonB
            rw [HT.out, HP.out, HOK.out, HS.out, HX.out]; rfl
          rw [e]; rfl
        | true =>
          have HX := Lib.hid hx
          generalize hl : labelsB t = l at hx HLS HLN
          have HL := Lib.hid hl
          have HXL := Lib.hid hx
          clear hl hx
          go_wp2_with (first | (go_at_call 31; refine c3.out.mono ?_; rintro e w4 ⟨rfl, hb⟩; have HB4 := Lib.hid (HB3.out.trans (hb.mono HB3.out.size)); clear hb) | (go_at_call 33; refine (labels_any t (HG.out.move glob_ro HB4.out HB4.out.size) hz).mono ?_; rintro e w5 ⟨v, rfl, ho, hb⟩; rw [HL.out] at ho; have HO := Lib.hid ho; have HB5 := Lib.hid (HB4.out.trans (hb.mono HB4.out.size)); clear ho hb) | (go_at_call 32; refine (contains_xn l v _ _ HO.out HLN.out HLS.out).mono ?_; rw [HXL.out]; rintro e w6 ⟨rfl, hb⟩; have HB6 := Lib.hid (HB5.out.trans (hb.mono HB5.out.size)); clear hb))
          go_ret2
          refine ⟨?_, HB6.out⟩
          have e : canonB s = (⟨#[]⟩, 7) := by
            unfold canonB
            rw [HT.out, HP.out, HOK.out, HS.out, HX.out]; rfl
          rw [e]; rfl
/-- Canon, at every text of at most 1048576 bytes. -/
theorem canon_any (s : ByteArray) {w : World} (hg : Xc.Good XC glob w.heap.size w) (hs : s.size ≤ 1048576) :
    Calls Tryz.prog 10 #[.string s] w fun e w' => e = .returned (.tuple #[.string (canonB s).1, .int .i64 (canonB s).2]) ∧ Below w.heap.size w w' := by
  cases hp : plainB s with
  | true => exact canon_yes s hg hs hp
  | false =>
    have e : canonB s = (⟨#[]⟩, 7) := by unfold canonB; rw [hp]; rfl
    rw [e]
    exact canon_no s hp
end Go.Proofs.YtdbnanbeaeafdaaGreatDoor
/- domain.Right. -/
namespace Go.Proofs.YtdbnanbeaeafdaaGreatDoor
open Go.RowKit Go.Xc

def rightB (s : ByteArray) : Bool := decide ((canonB s).2 = 0) && ((canonB s).1.toList == s.toList)
set_option maxHeartbeats 4000000 in
set_option maxRecDepth 100000 in
theorem right_any (s : ByteArray) {w : World} (hg : Xc.Good XC glob w.heap.size w) (hs : s.size ≤ 1048576) :
    Calls Tryz.prog 12 #[.string s] w fun e w' => e = .returned (.bool (rightB s)) ∧ Below w.heap.size w w' := by
  have c1 := Lib.hid (canon_any s hg hs)
  clear hg
  generalize ht : canonB s = t at c1
  obtain ⟨n, f⟩ := t
  have HT := Lib.hid ht
  clear ht
  by_cases hf : f = 0
  · subst hf
    go_enter Tryz.func12, Tryz.ntmps12
    go_wp2_with (first | (go_at_call 10; refine c1.out.mono ?_; rintro e w1 ⟨rfl, hb⟩; have HB := Lib.hid hb; clear hb))
    go_ret
    refine ⟨?_, HB.out⟩
    have e : rightB s = (n.toList == s.toList) := by unfold rightB; rw [HT.out]; rfl
    rw [e]; rfl
  · go_enter Tryz.func12, Tryz.ntmps12
    go_wp2_with (first | (go_at_call 10; refine c1.out.mono ?_; rintro e w1 ⟨rfl, hb⟩; have HB := Lib.hid hb; clear hb))
    go_ret
    refine ⟨?_, HB.out⟩
    have e : rightB s = false := by unfold rightB; rw [HT.out, decide_eq_false hf]; rfl
    rw [e]; rfl
end Go.Proofs.YtdbnanbeaeafdaaGreatDoor
/- The law DomainReads' walk. -/
namespace Go.Proofs.YtdbnanbeaeafdaaGreatDoor
open Go.RowKit Go.Xc Go.Proofs.YtdbnanbeaeafdaaGreatDoor.PDomainReads Go.Proofs.YtdbnanbeaeafdaaGreatDoorW.PrintWords Go.Proofs.YtdbnanbeaeafdaaGreatDoorW.PrintLast Go.Proofs.YtdbnanbeaeafdaaGreatDoorW.PrintMore

set_option maxHeartbeats 4000000 in
set_option maxRecDepth 100000 in
theorem domainReads_walk (plainLaw : ∀ s : ByteArray, s.size ≤ 1000 → ∃ k, mantrapref11_Canon.f k s = some ((canonB s).1, (canonB s).2)) (s : ByteArray) {w : World} (hg : Xc.Good XC glob w.heap.size w) :
    Calls Tryz.prog 3 #[.string s] w fun e w' => e = .returned (.bool true) ∧ Below w.heap.size w w' := by
  have HG := Lib.hid hg
  have ca := Lib.hid (awake11 hg)
  clear hg
  by_cases hs : s.size ≤ 1000
  · have c1 := Lib.hid (fun (w : World) (h : Xc.Good XC glob w.heap.size w) => canon_any s h (by omega))
    obtain ⟨k, hk⟩ := plainLaw s hs
    have c2 := Lib.hid (fun w => mantrapref11_Canon.calls k s _ _ w hk)
    have c3 := Lib.hid (fun (w : World) (h : Xc.Good XC glob w.heap.size w) => right_any s h (by omega))
    have hr : rightB s = (decide ((canonB s).2 = 0) && ((canonB s).1.toList == s.toList)) := rfl
    have HR := Lib.hid hr
    clear hk hr
    generalize canonB s = t at c1 c2 HR
    obtain ⟨n, f⟩ := t
    have hlt : ¬ (1000 : Int) < (s.size : Int) := by omega
    go_enter Tryz.func3, Tryz.ntmps3
    go_wp2_with (first | (go_at_call 9; refine ca.out.mono ?_; rintro e w1 ⟨rfl, hb⟩; have HB1 := Lib.hid hb; clear hb) | (go_at_call 10; refine (c1.out _ (HG.out.move glob_ro HB1.out HB1.out.size)).mono ?_; rintro e w2 ⟨rfl, hb⟩; have HB2 := Lib.hid (HB1.out.trans (hb.mono HB1.out.size)); clear hb) | (go_at_call 11; refine (c2.out _).mono ?_; rintro e w3 ⟨rfl, hb⟩; have HB3 := Lib.hid (HB2.out.trans (hb.mono HB2.out.size)); clear hb) | (go_at_call 12; refine (c3.out _ (HG.out.move glob_ro HB3.out HB3.out.size)).mono ?_; rintro e w4 ⟨rfl, hb⟩; have HB4 := Lib.hid (HB3.out.trans (hb.mono HB3.out.size)); clear hb))
    · rename_i hf
      go_ret
      refine ⟨?_, HB4.out⟩
      have e : (rightB s == (n.toList == s.toList)) = true := by
        rw [HR.out]; simp [hf]
      first | exact congrArg (fun b => Ending.returned (.bool b)) e | (rw [← e]; rfl)
    · rename_i hf
      go_ret
      refine ⟨?_, HB4.out⟩
      have e : (!rightB s) = true := by
        rw [HR.out, decide_eq_false hf]; rfl
      first | exact congrArg (fun b => Ending.returned (.bool b)) e | (rw [← e]; rfl)
  · have hlt : (1000 : Int) < (s.size : Int) := by omega
    go_enter Tryz.func3, Tryz.ntmps3
    go_wp2_with (first | (go_at_call 9; refine ca.out.mono ?_; rintro e w1 ⟨rfl, hb⟩; have HB1 := Lib.hid hb; clear hb))
    go_ret
    exact ⟨rfl, HB1.out⟩
end Go.Proofs.YtdbnanbeaeafdaaGreatDoor
/- The plain law of DomainReads, 1: the mirror's Plain, Lower, Has, plain, long, Split. -/
namespace Go.Proofs.YtdbnanbeaeafdaaGreatDoor
open Go.RowKit Go.Xc Go.Proofs.YtdbnanbeaeafdaaGreatDoor.PDomainReads Go.Proofs.YtdbnanbeaeafdaaGreatDoorW.PrintWords Go.Proofs.YtdbnanbeaeafdaaGreatDoorW.PrintLast Go.Proofs.YtdbnanbeaeafdaaGreatDoorW.PrintMore

theorem w64 {n : Int} (h : 0 ≤ n ∧ n ≤ 1000000) : wrap64 n = n := by unfold wrap64; omega
theorem bt_nat {s : ByteArray} {i : Nat} (h : i < s.size) : bt s (i : Int) = ((s[i]'h).toNat : Int) := by
  have := bt_at s (i : Int) (by simpa using h)
  rw [← this]; rfl
theorem ref_plain_l (s : ByteArray) (hs : s.size ≤ 1000) : ∀ (m i k : Nat), s.size = i + m → m < k → plainTo s i → mantrapref01_Plain.l0 k s (i : Int) = some (plainB s)
  | 0, i, 0, _, hk, _ => by omega
  | 0, i, k + 1, hm, _, hp => by
    unfold mantrapref01_Plain.l0
    rw [if_neg (by omega), plainB_true hp (by omega)]
  | m + 1, i, 0, _, hk, _ => by omega
  | m + 1, i, k + 1, hm, hk, hp => by
    have hi : i < s.size := by omega
    unfold mantrapref01_Plain.l0
    rw [if_pos (by omega), if_pos (by omega), bt_nat hi]
    by_cases hb : (s[i]'hi).toNat < 128
    · rw [if_neg (by omega), w64 (by omega)]
      have := ref_plain_l s hs m (i + 1) k (by omega) (by omega) (plainTo_step hp hi hb)
      exact this
    · rw [if_pos (by omega), plainB_false hi hb]
theorem ref_plain (s : ByteArray) (hs : s.size ≤ 1000) (k : Nat) (hk : 1001 ≤ k) : mantrapref01_Plain.f k s = some (plainB s) :=
  ref_plain_l s hs s.size 0 k (by omega) (by omega) (fun i h h' => by omega)

theorem ref_has_l (t : ByteArray) (c : Int) (ht : t.size ≤ 1000) : ∀ (m i k : Nat), t.size = i + m → m < k → mantrapref01_Has.l0 k t c (i : Int) = some ((t.data.toList.drop i).any fun b => decide ((b.toNat : Int) = c))
  | 0, i, 0, _, hk => by omega
  | 0, i, k + 1, hm, _ => by
    unfold mantrapref01_Has.l0
    rw [if_neg (by omega), List.drop_eq_nil_of_le (by simp; omega)]
    rfl
  | m + 1, i, 0, _, hk => by omega
  | m + 1, i, k + 1, hm, hk => by
    have hi : i < t.size := by omega
    have hd : t.data.toList.drop i = (t[i]'hi) :: t.data.toList.drop (i + 1) := List.drop_eq_getElem_cons (by simpa using hi)
    unfold mantrapref01_Has.l0
    rw [if_pos (by omega), if_pos (by omega), bt_nat hi, hd]
    by_cases hb : ((t[i]'hi).toNat : Int) = c
    · rw [if_pos hb, List.any_cons, decide_eq_true hb]; rfl
    · rw [if_neg hb, w64 (by omega), List.any_cons, decide_eq_false hb, Bool.false_or]
      exact ref_has_l t c ht m (i + 1) k (by omega) (by omega)
theorem ref_has (t : ByteArray) (c : Int) (ht : t.size ≤ 1000) (k : Nat) (hk : t.size < k) : mantrapref01_Has.f k t c = some (t.data.toList.any fun b => decide ((b.toNat : Int) = c)) :=
  ref_has_l t c ht t.size 0 k (by omega) hk
end Go.Proofs.YtdbnanbeaeafdaaGreatDoor
/- The plain law of DomainReads, 2: the mirror's Lower. -/
namespace Go.Proofs.YtdbnanbeaeafdaaGreatDoor
open Go.RowKit Go.Xc Go.Proofs.YtdbnanbeaeafdaaGreatDoor.PDomainReads Go.Proofs.YtdbnanbeaeafdaaGreatDoorW.PrintWords Go.Proofs.YtdbnanbeaeafdaaGreatDoorW.PrintLast Go.Proofs.YtdbnanbeaeafdaaGreatDoorW.PrintMore

def lowTo (s : ByteArray) (i : Nat) : List Int := ((lowerB s).data.toList.take i).map fun b => (b.toNat : Int)
theorem lowTo_succ {s : ByteArray} {i : Nat} (h : i < s.size) : lowTo s (i + 1) = lowTo s i ++ [((lowN (s[i]'h)).toNat : Int)] := by
  unfold lowTo
  have hl : i < (lowerB s).data.toList.length := by
    rw [Array.length_toList]
    have h2 : (lowerB s).data.size = s.size := lowerB_size s
    omega
  rw [List.take_succ_eq_append_getElem hl, List.map_append]
  congr 1
  have : (lowerB s).data.toList[i] = lowN (s[i]'h) := by
    rw [Array.getElem_toList]
    exact Array.getElem_map ..
  rw [this]; rfl
theorem lowTo_length (s : ByteArray) (i : Nat) : (lowTo s i).length ≤ i := by
  unfold lowTo
  simp
  omega
theorem ref_lower_l (s : ByteArray) (hs : s.size ≤ 1000) : ∀ (m i k : Nat), s.size = i + m → m < k → mantrapref01_Lower.l0 k s (lowTo s i) (i : Int) = some (strOfNums (lowTo s s.size))
  | 0, i, 0, _, hk => by omega
  | 0, i, k + 1, hm, _ => by
    have : i = s.size := by omega
    subst this
    unfold mantrapref01_Lower.l0
    rw [if_neg (by omega)]
  | m + 1, i, 0, _, hk => by omega
  | m + 1, i, k + 1, hm, hk => by
    have hi : i < s.size := by omega
    have hl := lowTo_length s i
    have ih := ref_lower_l s hs m (i + 1) k (by omega) (by omega)
    rw [lowTo_succ hi] at ih
    unfold mantrapref01_Lower.l0
    rw [if_pos (by omega), if_pos (by omega), bt_nat hi, w64 (by omega)]
    by_cases h1 : 65 ≤ (s[i]'hi).toNat
    · rw [if_pos (by omega)]
      by_cases h2 : (s[i]'hi).toNat ≤ 90
      · rw [if_pos (by omega), if_pos (by omega)]
        rw [lowN_great _ h1 h2] at ih
        rw [show (((s[i]'hi).toNat : Int) + 32) % 256 = ((s[i]'hi).toNat : Int) + 32 by omega]
        exact ih
      · rw [if_neg (by omega), if_pos (by omega)]
        rw [lowN_other _ (by omega)] at ih
        exact ih
    · rw [if_neg (by omega), if_pos (by omega)]
      rw [lowN_other _ (by omega)] at ih
      exact ih
end Go.Proofs.YtdbnanbeaeafdaaGreatDoor
/- The plain law of DomainReads, 3: the mirror's Lower, plain, long. -/
namespace Go.Proofs.YtdbnanbeaeafdaaGreatDoor
open Go.RowKit Go.Xc Go.Proofs.YtdbnanbeaeafdaaGreatDoor.PDomainReads Go.Proofs.YtdbnanbeaeafdaaGreatDoorW.PrintWords Go.Proofs.YtdbnanbeaeafdaaGreatDoorW.PrintLast Go.Proofs.YtdbnanbeaeafdaaGreatDoorW.PrintMore

theorem nums_back : ∀ l : List UInt8, (l.map fun b => (b.toNat : Int)).map (fun n => UInt8.ofNat n.toNat) = l
  | [] => rfl
  | b :: l => by
    simp only [List.map_cons, nums_back l]
    congr 1
    simp
theorem ref_lower (s : ByteArray) (hs : s.size ≤ 1000) (k : Nat) (hk : 1001 ≤ k) : mantrapref01_Lower.f k s = some (lowerB s) := by
  have h := ref_lower_l s hs s.size 0 k (by omega) (by omega)
  have h0 : lowTo s 0 = [] := by unfold lowTo; simp
  rw [h0] at h
  unfold mantrapref01_Lower.f
  refine h.trans ?_
  congr 1
  have hl : (lowerB s).data.toList.take s.size = (lowerB s).data.toList := List.take_of_length_le (by
    rw [Array.length_toList]; exact Nat.le_of_eq (lowerB_size s))
  unfold strOfNums lowTo
  rw [hl, nums_back]

def barsB : ByteArray := ⟨#[35, 47, 58, 60, 62, 63, 64, 91, 93, 94, 124, 37, 123, 125]⟩
def hasBar (c : Int) : Bool := barsB.data.toList.any fun b => decide ((b.toNat : Int) = c)
theorem bars_all : ((List.range 256).all fun c => (65 ≤ c && c ≤ 90) || (byteOfB (c : Nat) == !(decide (c < 33) || decide (126 < c) || hasBar (c : Nat) || decide (c = 92) || decide (c = 34) || decide (c = 96)))) = true := by kernel_rfl
theorem bars_at {c : Nat} (h : c < 256) (hu : ¬ (65 ≤ c ∧ c ≤ 90)) : byteOfB (c : Nat) = !(decide (c < 33) || decide (126 < c) || hasBar (c : Nat) || decide (c = 92) || decide (c = 34) || decide (c = 96)) := by
  have := List.all_eq_true.1 bars_all c (List.mem_range.2 h)
  rw [Bool.or_eq_true] at this
  rcases this with h1 | h1
  · simp at h1; omega
  · exact eq_of_beq h1
theorem ref_has_bars (c : Int) (k : Nat) (hk : 15 ≤ k) : mantrapref01_Has.f k (⟨#[35, 47, 58, 60, 62, 63, 64, 91, 93, 94, 124, 37, 123, 125]⟩ : ByteArray) c = some (hasBar c) :=
  ref_has barsB c (by decide) k (by have : barsB.size = 14 := rfl; omega)

/-- No great letter. -/
def noGreat (t : ByteArray) : Prop := ∀ i (h : i < t.size), ¬ (65 ≤ (t[i]'h).toNat ∧ (t[i]'h).toNat ≤ 90)
theorem ref_bytes_l (t : ByteArray) (hs : t.size ≤ 1000) (hg : noGreat t) : ∀ (m i k : Nat), t.size = i + m → m + 16 < k → okUpto t i → mantrapref11_plain.l0 k t (i : Int) = some (okBytes t)
  | 0, i, 0, _, hk, _ => by omega
  | 0, i, k + 1, hm, _, ho => by
    unfold mantrapref11_plain.l0
    rw [if_neg (by omega), okBytes_true (fun j hj _ => ho j hj (by omega))]
  | m + 1, i, 0, _, hk, _ => by omega
  | m + 1, i, k + 1, hm, hk, ho => by
    have hi : i < t.size := by omega
    have hgi := hg i hi
    have hb := bars_at (t[i]'hi).toNat_lt hgi
    have ih := ref_bytes_l t hs hg m (i + 1) k (by omega) (by omega)
    unfold mantrapref11_plain.l0
    rw [if_pos (by omega), if_pos (by omega), bt_nat hi, w64 (by omega), ref_has_bars _ k (by omega)]
    simp only [Option.bind_some]
    by_cases c1 : (t[i]'hi).toNat < 33
    · rw [if_pos (by omega), okBytes_false hi (by rw [hb, decide_eq_true c1]; rfl)]
    · rw [if_neg (by omega)]
      by_cases c2 : 126 < (t[i]'hi).toNat
      · rw [if_pos (by omega), okBytes_false hi (by rw [hb, decide_eq_true c2]; simp)]
      · rw [if_neg (by omega)]
        have tail : (if hasBar ((t[i]'hi).toNat : Int) = true then some false else if ((t[i]'hi).toNat : Int) = 92 then some false else if ((t[i]'hi).toNat : Int) = 34 then some false else if ((t[i]'hi).toNat : Int) = 96 then some false else mantrapref11_plain.l0 k t ((i : Int) + 1)) = some (okBytes t) := by
          by_cases c3 : hasBar ((t[i]'hi).toNat : Int) = true
          · rw [if_pos c3, okBytes_false hi (by rw [hb, c3]; simp)]
          · rw [if_neg c3]
            by_cases c4 : (t[i]'hi).toNat = 92
            · rw [if_pos (by omega), okBytes_false hi (by rw [hb, decide_eq_true c4]; simp)]
            · rw [if_neg (by omega)]
              by_cases c5 : (t[i]'hi).toNat = 34
              · rw [if_pos (by omega), okBytes_false hi (by rw [hb, decide_eq_true c5]; simp)]
              · rw [if_neg (by omega)]
                by_cases c6 : (t[i]'hi).toNat = 96
                · rw [if_pos (by omega), okBytes_false hi (by rw [hb, decide_eq_true c6]; simp)]
                · rw [if_neg (by omega)]
                  refine ih (okUpto_step ho hi ?_)
                  rw [hb, decide_eq_false c1, decide_eq_false c2, Bool.not_eq_true _ |>.mp c3, decide_eq_false c4, decide_eq_false c5, decide_eq_false c6]
                  rfl
        by_cases d1 : 65 ≤ (t[i]'hi).toNat
        · rw [if_pos (by omega), if_neg (by omega)]; exact tail
        · rw [if_neg (by omega)]; exact tail
theorem ref_bytes (t : ByteArray) (hs : t.size ≤ 1000) (hg : noGreat t) (k : Nat) (hk : 1020 ≤ k) : mantrapref11_plain.f k t = some (okBytes t) :=
  ref_bytes_l t hs hg t.size 0 k (by omega) (by omega) (fun i h h' => by omega)
end Go.Proofs.YtdbnanbeaeafdaaGreatDoor
/- The plain law of DomainReads, 4: the mirror's long, Split, Labels. -/
namespace Go.Proofs.YtdbnanbeaeafdaaGreatDoor
open Go.RowKit Go.Xc Go.Proofs.YtdbnanbeaeafdaaGreatDoor.PDomainReads Go.Proofs.YtdbnanbeaeafdaaGreatDoorW.PrintWords Go.Proofs.YtdbnanbeaeafdaaGreatDoorW.PrintLast Go.Proofs.YtdbnanbeaeafdaaGreatDoorW.PrintMore

theorem noGreat_lower (s : ByteArray) : noGreat (lowerB s) := by
  intro i hi
  have hi' : i < s.size := by rw [← lowerB_size]; exact hi
  have e : (lowerB s)[i] = lowN s[i] := Array.getElem_map ..
  rw [e]
  by_cases hg : 65 ≤ (s[i]'hi').toNat ∧ (s[i]'hi').toNat ≤ 90
  · have := lowN_great _ hg.1 hg.2; omega
  · rw [lowN_other _ hg]; exact hg

theorem ref_has_dot (c : Int) (k : Nat) (hk : 2 ≤ k) : mantrapref01_Has.f k (⟨#[46]⟩ : ByteArray) c = some (decide (c = 46)) := by
  have hz : (⟨#[46]⟩ : ByteArray).size = 1 := rfl
  refine (ref_has _ c (by rw [hz]; omega) k (by rw [hz]; omega)).trans ?_
  congr 1
  show (decide ((((46 : UInt8).toNat : Nat) : Int) = c) || false) = _
  rw [Bool.or_false]
  exact decide_eq_decide.2 ⟨fun h => h.symm, fun h => h.symm⟩
theorem ref_split_l (t : ByteArray) (hs : t.size ≤ 1000) : ∀ (m i k : Nat), t.size = i + m → m + 3 < k → mantrapref01_Split.l0 k t ⟨#[46]⟩ (partsTo t i).1 (t.extract (partsTo t i).2 i) (i : Int) = some (splitB t)
  | 0, i, 0, _, hk => by omega
  | 0, i, k + 1, hm, _ => by
    have hle := partsTo_le t i
    have : i = t.size := by omega
    subst this
    unfold mantrapref01_Split.l0
    rw [if_neg (by omega), if_pos (by omega)]
    rfl
  | m + 1, i, 0, _, hk => by omega
  | m + 1, i, k + 1, hm, hk => by
    have hi : i < t.size := by omega
    have hle := partsTo_le t i
    have ih := ref_split_l t hs m (i + 1) k (by omega) (by omega)
    unfold mantrapref01_Split.l0
    rw [if_pos (by omega), if_pos (by omega), bt_nat hi, ref_has_dot _ k (by omega)]
    simp only [Option.bind_some]
    by_cases hd : (t[i]'hi).toNat = 46
    · rw [partsTo_yes hi hd] at ih
      simp only [ByteArray.extract_same] at ih
      rw [if_pos (decide_eq_true (by omega)), if_pos (by omega), w64 (by omega)]
      exact ih
    · rw [partsTo_no hi hd] at ih
      have e : t.extract (partsTo t i).2 i ++ t.extract i (i + 1) = t.extract (partsTo t i).2 (i + 1) := by
        rw [ByteArray.extract_append_extract, Nat.min_eq_left hle.1, Nat.max_eq_right (by omega)]
      have e1 : ((i : Int)).toNat = i := Int.toNat_natCast i
      have e2 : ((i : Int) + 1).toNat = i + 1 := by omega
      rw [if_neg (by rw [decide_eq_false (by omega)]; simp), w64 (by omega), if_pos (by omega), if_pos (by omega), e1, e2, if_pos (by simp only [ByteArray.size_extract]; omega), e]
      exact ih
theorem ref_split (t : ByteArray) (hs : t.size ≤ 1000) (k : Nat) (hk : 1010 ≤ k) : mantrapref01_Split.f k t ⟨#[46]⟩ = some (splitB t) := by
  have h := ref_split_l t hs t.size 0 k (by omega) (by omega)
  have e0 : partsTo t 0 = ([], 0) := rfl
  rw [e0] at h
  simp only [ByteArray.extract_same] at h
  exact h
theorem ref_labels (t : ByteArray) (hs : t.size ≤ 1000) (k : Nat) (hk : 1010 ≤ k) : mantrapref11_Labels.f k t = some (labelsB t) := by
  have hl : (splitB t).length ≤ 1001 := by
    unfold splitB
    have := (partsTo_le t t.size).2
    simp; omega
  unfold mantrapref11_Labels.f labelsB labelsOf
  rw [ref_split t hs k hk]
  simp only [Option.bind_some]
  generalize splitB t = l at hl
  by_cases h1 : 1 < l.length
  · rw [if_pos (by omega), w64 (by omega), if_pos (by omega), if_pos (by omega)]
    by_cases h2 : (rdOf ByteArray.empty l ((l.length : Int) - 1)).toList = []
    · have e2 : ((l.length : Int) - 1).toNat = l.length - 1 := by omega
      rw [if_pos h2, if_pos (by omega), if_pos ⟨h1, by rw [h2]; rfl⟩, e2]
    · rw [if_neg h2, if_neg (fun h => h2 (List.isEmpty_iff.1 h.2))]
  · rw [if_neg (by omega), if_neg (fun h => h1 h.1)]

theorem last_list {t : ByteArray} (h : 0 < t.size) : (t.extract (t.size - 1) t.size).toList = [t[t.size - 1]'(by omega)] := by
  rw [ByteArray.toList_eq, ByteArray.data_extract, Array.toList_extract, List.extract_eq_take_drop]
  have hl : t.size - 1 < t.data.toList.length := by
    rw [Array.length_toList]; show t.size - 1 < t.size; omega
  rw [List.drop_eq_getElem_cons hl, show t.size - (t.size - 1) = 1 by omega]
  rfl
theorem trimB_eq (t : ByteArray) (hs : t.size ≤ 1000) : trimB t = if h : 0 < t.size then (if (t[t.size - 1]'(by omega)).toNat = 46 then t.extract 0 (t.size - 1) else t) else t := by
  have hz : (⟨#[46]⟩ : ByteArray).size = 1 := rfl
  unfold trimB strings_TrimSuffix.f stringslite_TrimSuffix.f stringslite_HasSuffix.f
  rw [hz]
  by_cases h : 0 < t.size
  · have hw : wrap64 ((t.size : Int) - ((1 : Nat) : Int)) = (t.size : Int) - 1 := w64 (by omega)
    have e2 : ((t.size : Int) - 1).toNat = t.size - 1 := by omega
    have ed : (⟨#[46]⟩ : ByteArray).toList = [46] := by rw [ByteArray.toList_eq]
    rw [dif_pos h, hw, if_pos (by omega), if_pos (by omega), if_pos (by omega), e2, last_list h, ed]
    simp only [Option.bind_some]
    by_cases hb : (t[t.size - 1]'(by omega)).toNat = 46
    · have hb' : (t[t.size - 1]'(by omega)) = 46 := UInt8.toNat_inj.1 hb
      rw [if_pos hb, if_pos (by rw [hb']; rfl), if_pos (by omega), if_pos (by omega)]
      rfl
    · rw [if_neg hb, if_neg]
      · rfl
      · intro hh
        have := eq_of_beq hh
        simp only [List.cons.injEq, and_true] at this
        exact hb (by rw [this]; rfl)
  · rw [dif_neg h, if_neg (by omega)]
    rfl
theorem ref_long (t : ByteArray) (hs : t.size ≤ 1000) : mantrapref11_long.f t = some ((trimB t).size : Int) := by
  rw [trimB_eq t hs]
  unfold mantrapref11_long.f
  by_cases h : 0 < t.size
  · have hb : bt t ((t.size : Int) - 1) = ((t[t.size - 1]'(by omega)).toNat : Int) := by
      rw [show (t.size : Int) - 1 = ((t.size - 1 : Nat) : Int) by omega, bt_nat (by omega)]
    rw [dif_pos h, if_pos (by omega), w64 (by omega), if_pos (by omega), if_pos (by omega), hb]
    by_cases hd : (t[t.size - 1]'(by omega)).toNat = 46
    · rw [if_pos (by omega), if_pos hd, ByteArray.size_extract]
      congr 1
      omega
    · rw [if_neg (by omega), if_neg hd]
  · rw [dif_neg h, if_neg (by omega)]
end Go.Proofs.YtdbnanbeaeafdaaGreatDoor
/- The plain law of DomainReads, 5: the mirror's Canon. -/
namespace Go.Proofs.YtdbnanbeaeafdaaGreatDoor
open Go.RowKit Go.Xc Go.Proofs.YtdbnanbeaeafdaaGreatDoor.PDomainReads Go.Proofs.YtdbnanbeaeafdaaGreatDoorW.PrintWords Go.Proofs.YtdbnanbeaeafdaaGreatDoorW.PrintLast Go.Proofs.YtdbnanbeaeafdaaGreatDoorW.PrintMore

theorem size_list (b : ByteArray) : b.toList.length = b.size := by rw [ByteArray.toList_eq]; exact Array.length_toList
theorem okLab_iff (b : ByteArray) : okLab b = (decide (1 ≤ b.size) && decide (b.size ≤ 63)) := by
  unfold okLab
  congr 1
  have := size_list b
  cases h : b.toList with
  | nil => rw [h] at this; rw [decide_eq_false (by rw [← this]; simp)]; rfl
  | cons x l => rw [h] at this; rw [decide_eq_true (by rw [← this]; simp)]; rfl
theorem xn_list : xnB.toList = ([120, 110, 45, 45] : List UInt8) := by rw [ByteArray.toList_eq]; rfl
def endB (t : ByteArray) : ByteArray × Int := if anyXn (labelsB t) = true then (⟨#[]⟩, 7) else (t, 0)
theorem anyXn_true {l : List ByteArray} {i : Nat} (h : i < l.length) (hx : isXn (rdOf ByteArray.empty l (i : Int)) = true) : anyXn l = true := by
  unfold anyXn
  rw [List.any_eq_true]
  exact ⟨i, List.mem_range.2 h, hx⟩
theorem anyXn_false {l : List ByteArray} (h : ∀ j, j < l.length → isXn (rdOf ByteArray.empty l (j : Int)) = false) : anyXn l = false := by
  unfold anyXn
  rw [List.any_eq_false]
  intro j hj
  rw [h j (List.mem_range.1 hj)]
  simp
theorem ref_l1 (t : ByteArray) (l : List ByteArray) (hl : l.length ≤ 1001) : ∀ (m i k : Nat), l.length = i + m → m < k → (∀ j, j < i → isXn (rdOf ByteArray.empty l (j : Int)) = false) → mantrapref11_Canon.l1 k t l (l.length : Int) (i : Int) = some (if anyXn l = true then ((⟨#[]⟩ : ByteArray), 7) else (t, 0))
  | 0, i, 0, _, hk, _ => by omega
  | 0, i, k + 1, hm, _, hx => by
    unfold mantrapref11_Canon.l1
    rw [if_neg (by omega), anyXn_false (fun j hj => hx j (by omega)), if_neg (by simp)]
  | m + 1, i, 0, _, hk, _ => by omega
  | m + 1, i, k + 1, hm, hk, hx => by
    have hi : i < l.length := by omega
    have ih := ref_l1 t l hl m (i + 1) k (by omega) (by omega)
    have next : isXn (rdOf ByteArray.empty l (i : Int)) = false → ∀ j, j < i + 1 → isXn (rdOf ByteArray.empty l (j : Int)) = false := by
      intro h j hj
      by_cases hji : j = i
      · subst hji; exact h
      · exact hx j (by omega)
    obtain ⟨b, hb⟩ : ∃ b, rdOf ByteArray.empty l (i : Int) = b := ⟨_, rfl⟩
    have hdef : isXn b = (decide (4 ≤ b.size) && ((b.extract 0 4).toList == xnB.toList)) := rfl
    rw [hb] at next
    unfold mantrapref11_Canon.l1
    rw [if_pos (by omega), if_pos (by omega), if_pos (by omega), hb]
    by_cases h4 : 4 ≤ b.size
    · rw [if_pos (by omega), if_pos (by omega), if_pos (by omega)]
      rw [decide_eq_true h4, Bool.true_and, xn_list] at hdef
      by_cases hp : (b.extract 0 4).toList = ([120, 110, 45, 45] : List UInt8)
      · rw [if_pos hp, anyXn_true hi (by rw [hb, hdef, hp]; rfl), if_pos rfl]
      · rw [if_neg hp, w64 (by omega)]
        exact ih (next (by rw [hdef]; exact beq_eq_false_iff_ne.2 hp))
    · rw [if_neg (by omega), w64 (by omega)]
      exact ih (next (by rw [hdef, decide_eq_false h4]; rfl))
theorem labelsB_len1 (t : ByteArray) (hs : t.size ≤ 1000) : (labelsB t).length ≤ 1001 := by
  have := labelsB_len t
  omega
theorem ref_l0 (t : ByteArray) (hs : t.size ≤ 1000) (l : List ByteArray) (hl : l.length ≤ 1001) : ∀ (m i k : Nat), l.length = i + m → m + 2000 < k → okTo l i → mantrapref11_Canon.l0 k t l (l.length : Int) (i : Int) = some (if allOk l = true then endB t else (⟨#[]⟩, 6))
  | 0, i, 0, _, hk, _ => by omega
  | 0, i, k + 1, hm, hk, hx => by
    unfold mantrapref11_Canon.l0
    rw [if_neg (by omega), ref_labels t hs k (by omega), allOk_true (fun j hj hjl => hx j (by omega) hjl), if_pos rfl]
    simp only [Option.bind_some]
    have hn := labelsB_len1 t hs
    exact ref_l1 t (labelsB t) hn (labelsB t).length 0 k (by omega) (by omega) (fun j hj => absurd hj (Nat.not_lt_zero j))
  | m + 1, i, 0, _, hk, _ => by omega
  | m + 1, i, k + 1, hm, hk, hx => by
    have hi : i < l.length := by omega
    have ih := ref_l0 t hs l hl m (i + 1) k (by omega) (by omega)
    have next : okLab (rdOf ByteArray.empty l (i : Int)) = true → okTo l (i + 1) := by
      intro h j hj hjl
      by_cases hji : j = i
      · subst hji; exact h
      · exact hx j (by omega) hjl
    obtain ⟨b, hb⟩ : ∃ b, rdOf ByteArray.empty l (i : Int) = b := ⟨_, rfl⟩
    have hdef := okLab_iff b
    rw [hb] at next
    unfold mantrapref11_Canon.l0
    rw [if_pos (by omega), if_pos (by omega), if_pos (by omega), hb]
    by_cases h1 : 1 ≤ b.size
    · rw [if_neg (by omega)]
      by_cases h2 : b.size ≤ 63
      · rw [if_neg (by omega), w64 (by omega)]
        exact ih (next (by rw [hdef, decide_eq_true h1, decide_eq_true h2]; rfl))
      · rw [if_pos (by omega), allOk_false hi (by rw [hb, hdef, decide_eq_false h2, Bool.and_false]), if_neg (by simp)]
    · rw [if_pos (by omega), allOk_false hi (by rw [hb, hdef, decide_eq_false h1]; rfl), if_neg (by simp)]
theorem j0_succ (k : Nat) (t : ByteArray) (b : Bool) : mantrapref11_Canon.j0 (k + 1) t b = if b = true then some ((⟨#[]⟩ : ByteArray), 6) else ((mantrapref11_Labels.f k t).bind fun l => mantrapref11_Canon.l0 k t l (l.length : Int) 0) := by rw [mantrapref11_Canon.j0]
theorem ref_canon (s : ByteArray) (hs : s.size ≤ 1000) (k : Nat) (hk : 4000 ≤ k) : mantrapref11_Canon.f k s = some ((canonB s).1, (canonB s).2) := by
  have hls : (lowerB s).size ≤ 1000 := by rw [lowerB_size]; exact hs
  unfold mantrapref11_Canon.f
  rw [ref_plain s hs k (by omega)]
  simp only [Option.bind_some]
  by_cases h1 : plainB s = true
  · rw [if_pos h1, ref_lower s hs k (by omega)]
    simp only [Option.bind_some]
    rw [ref_bytes (lowerB s) hls (noGreat_lower s) k (by omega)]
    simp only [Option.bind_some]
    obtain ⟨n, rfl⟩ : ∃ n, k = n + 1 := ⟨k - 1, by omega⟩
    by_cases h2 : okBytes (lowerB s) = true
    · rw [if_pos h2, ref_long (lowerB s) hls]
      simp only [Option.bind_some]
      rw [j0_succ]
      have hc : canonB s = if sizeB (lowerB s) = false then (⟨#[]⟩, 6) else endB (lowerB s) := by
        unfold canonB endB
        rw [if_neg (by rw [h1]; simp), if_neg (by rw [h2]; simp)]
      have hz : sizeB (lowerB s) = (allOk (labelsB (lowerB s)) && decide ((trimB (lowerB s)).size ≤ 253)) := rfl
      by_cases h3 : (trimB (lowerB s)).size ≤ 253
      · rw [decide_eq_true h3, Bool.and_true] at hz
        have hn := labelsB_len1 (lowerB s) hls
        have h0 := ref_l0 (lowerB s) hls (labelsB (lowerB s)) hn (labelsB (lowerB s)).length 0 n (by omega) (by omega) (fun j hj => absurd hj (Nat.not_lt_zero j))
        rw [if_neg (by rw [decide_eq_false (by omega)]; simp), ref_labels (lowerB s) hls n (by omega)]
        simp only [Option.bind_some]
        refine h0.trans ?_
        rw [hc, hz]
        cases hA : allOk (labelsB (lowerB s)) with
        | true => rfl
        | false => rfl
      · rw [decide_eq_false h3, Bool.and_false] at hz
        rw [if_pos (decide_eq_true (by omega)), hc, if_pos hz]
    · have h2' : okBytes (lowerB s) = false := by cases h : okBytes (lowerB s) with
        | true => exact absurd h h2
        | false => rfl
      have hc : canonB s = (⟨#[]⟩, 6) := by
        unfold canonB
        rw [if_neg (by rw [h1]; simp), if_pos h2']
      rw [if_neg h2, j0_succ, if_pos rfl, hc]
  · have h1' : plainB s = false := by cases h : plainB s with
      | true => exact absurd h h1
      | false => rfl
    have hc : canonB s = (⟨#[]⟩, 7) := by
      unfold canonB
      rw [if_pos h1']
    rw [if_neg h1, hc]
end Go.Proofs.YtdbnanbeaeafdaaGreatDoor
/- The law DomainReads' walk, whole. -/
namespace Go.Proofs.YtdbnanbeaeafdaaGreatDoor
open Go.RowKit Go.Xc Go.Proofs.YtdbnanbeaeafdaaGreatDoor.PDomainReads Go.Proofs.YtdbnanbeaeafdaaGreatDoorW.PrintWords Go.Proofs.YtdbnanbeaeafdaaGreatDoorW.PrintLast Go.Proofs.YtdbnanbeaeafdaaGreatDoorW.PrintMore
theorem domainReads_all (s : ByteArray) {w : World} (hg : Xc.Good XC glob w.heap.size w) :
    Calls Tryz.prog 3 #[.string s] w fun e w' => e = .returned (.bool true) ∧ Below w.heap.size w w' :=
  domainReads_walk (fun s hs => ⟨4000, ref_canon s hs 4000 (Nat.le_refl _)⟩) s hg
end Go.Proofs.YtdbnanbeaeafdaaGreatDoor
