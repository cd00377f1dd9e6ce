/- The mirror's Split, Depth, Merge; dots.Merge; the law DotsGo's walk. -/
import Derived.Test.YtakdjflhhaefiaaGreatDoorD6
import Derived.Test.YtakdjflhhaefiaaGreatDoorD5
import Derived.Test.YtakdjflhhaefiaaGreatDoorXAw
set_option linter.unusedVariables false
set_option linter.unusedSimpArgs false
namespace Go.Proofs.YtakdjflhhaefiaaGreatDoor
open Go.RowKit Go.Xc Go.Proofs.YtakdjflhhaefiaaGreatDoor.PDotsGo Go.Proofs.YtakdjflhhaefiaaGreatDoorW.PrintWords Go.Proofs.YtakdjflhhaefiaaGreatDoorW.PrintLast Go.Proofs.YtakdjflhhaefiaaGreatDoorW.PrintMore

theorem ref_has47 (c : Int) (k : Nat) (hk : 2 ≤ k) : mantrapref01_Has.f k (⟨#[47]⟩ : ByteArray) c = some (decide (c = 47)) := by
  obtain ⟨k1, rfl⟩ : ∃ k1, k = k1 + 1 + 1 := ⟨k - 2, by omega⟩
  have hsz : ((⟨#[47]⟩ : ByteArray).size : Int) = 1 := rfl
  have hb : bt (⟨#[47]⟩ : ByteArray) 0 = 47 := by
    have := bt_list (s := ⟨#[47]⟩) (i := 0) (by decide)
    exact this
  unfold mantrapref01_Has.f mantrapref01_Has.l0
  rw [hsz, if_pos (by omega), if_pos (by omega), hb]
  by_cases h : c = 47
  · rw [if_pos h.symm, decide_eq_true h]
  · rw [if_neg (fun e => h e.symm), decide_eq_false h, w64 (by omega)]
    unfold mantrapref01_Has.l0
    rw [hsz, if_neg (by omega)]
def glueP (p : List UInt8) : List (List UInt8) → List (List UInt8)
  | [] => [p]
  | h :: t => (p ++ h) :: t
theorem glueP_nil {l : List (List UInt8)} (h : l ≠ []) : glueP [] l = l := by
  cases l with
  | nil => exact absurd rfl h
  | cons a t => rfl
theorem glueP_C (p : List UInt8) (b : UInt8) {l : List (List UInt8)} (h : l ≠ []) : glueP p (glueC b l) = glueP (p ++ [b]) l := by
  cases l with
  | nil => exact absurd rfl h
  | cons a t => simp [glueP, glueC]
theorem ref_split_l (s : ByteArray) (hs : s.size ≤ 1000) : ∀ (m i k : Nat) (L : List ByteArray) (cur : ByteArray), s.size = i + m → m + 3 < k → L.length ≤ i → cur.size ≤ i →
    mantrapref01_Split.l0 k s ⟨#[47]⟩ L cur (i : Int) = some (L ++ (glueP cur.data.toList (spl 47 (s.data.toList.drop i))).map mkS)
  | 0, i, 0, L, cur, _, hk, _, _ => by omega
  | 0, i, k + 1, L, cur, hm, _, hL, _ => by
    unfold mantrapref01_Split.l0
    rw [if_neg (by omega), if_pos (by omega), List.drop_eq_nil_of_le (by rw [← size_len]; omega)]
    simp only [spl_nil, glueP, List.append_nil, List.map_cons, List.map_nil, mkS_data]
  | m + 1, i, 0, L, cur, _, hk, _, _ => by omega
  | m + 1, i, k + 1, L, cur, hm, hk, hL, hc => by
    have hi : i < s.size := by omega
    have hi' : i < s.data.toList.length := by rw [← size_len]; exact hi
    have hd : s.data.toList.drop i = s.data.toList[i] :: s.data.toList.drop (i + 1) := List.drop_eq_getElem_cons hi'
    unfold mantrapref01_Split.l0
    rw [if_pos (by omega), if_pos (by omega), ref_has47 _ k (by omega)]
    simp only [Option.bind_some]
    by_cases hb : s.data.toList[i] = 47
    · rw [if_pos (decide_eq_true ((bt_47 hi).2 hb)), if_pos (by omega), w64 (by omega)]
      have ih := ref_split_l s hs m (i + 1) k (L ++ [cur]) ⟨#[]⟩ (by omega) (by omega) (by simp; omega) (by show 0 ≤ _; omega)
      refine ih.trans ?_
      rw [hd, hb, spl_cons, if_pos rfl]
      have e : (⟨#[]⟩ : ByteArray).data.toList = [] := rfl
      rw [e, glueP_nil (spl_ne 47 _)]
      simp only [glueP, List.append_nil, List.map_cons, mkS_data]
      simp
    · have e1 : (x : Nat) → ((x : Int)).toNat = x := Int.toNat_natCast
      rw [if_neg (by simpa using fun h => hb ((bt_47 hi).1 h)), w64 (by omega), if_pos (by omega), if_pos (by omega)]
      have e2 : ((i : Int) + 1).toNat = i + 1 := by omega
      rw [e1, e2]
      have hx : (s.extract i (i + 1)).data.toList = [s.data.toList[i]] := by
        rw [ByteArray.data_extract, Array.toList_extract, List.extract_eq_take_drop, hd]
        simp
      have hxs : (s.extract i (i + 1)).size = 1 := by rw [size_len, hx]; rfl
      rw [if_pos (by omega)]
      have ih := ref_split_l s hs m (i + 1) k L (cur ++ s.extract i (i + 1)) (by omega) (by omega) (by omega) (by rw [ByteArray.size_append]; omega)
      refine ih.trans ?_
      rw [hd, spl_cons, if_neg hb, glueP_C _ _ (spl_ne 47 _), append_list, hx]
theorem ref_split (s : ByteArray) (hs : s.size ≤ 1000) (k : Nat) (hk : 1005 ≤ k) : mantrapref01_Split.f k s ⟨#[47]⟩ = some ((spl 47 s.data.toList).map mkS) := by
  unfold mantrapref01_Split.f
  have := ref_split_l s hs s.size 0 k [] ⟨#[]⟩ (by omega) (by omega) (by simp) (by show 0 ≤ _; omega)
  refine this.trans ?_
  rw [List.drop_zero]
  have e : (⟨#[]⟩ : ByteArray).data.toList = [] := rfl
  rw [e, glueP_nil (spl_ne 47 _)]
  rfl
theorem ref_depth_l (n : Nat) (hn : n ≤ 2000) (L : List ByteArray) (hL : L.length = n) : ∀ (d i k c : Nat), n = i + d → d < k → c ≤ i → mantrapref16_Depth.l0 k (c : Int) L (n : Int) (i : Int) = some ((c + cntS (L.drop i) : Nat) : Int)
  | 0, i, 0, c, _, hk, _ => by omega
  | 0, i, k + 1, c, hd, _, _ => by
    unfold mantrapref16_Depth.l0
    rw [if_neg (by omega), List.drop_eq_nil_of_le (by omega)]
    rfl
  | d + 1, i, 0, c, _, hk, _ => by omega
  | d + 1, i, k + 1, c, hd, hk, hc => by
    have hi : i < L.length := by omega
    have hdr : L.drop i = L[i] :: L.drop (i + 1) := List.drop_eq_getElem_cons hi
    have hrd : rdOf ByteArray.empty L (i : Int) = L[i] := by
      unfold rdOf
      rw [Int.toNat_natCast]
      simp [List.getD, hi]
    have hcnt : cntS (L.drop i) = (if L[i].data.toList = [] then 0 else 1) + cntS (L.drop (i + 1)) := by
      rw [hdr]
      unfold cntS
      rw [List.map_cons, List.countP_cons, Nat.add_comm]
      congr 1
      simp
    unfold mantrapref16_Depth.l0
    rw [if_pos (by omega), if_pos (by omega), if_pos (by omega), hrd, w64 (by omega), hcnt]
    by_cases hx : L[i].data.toList = []
    · rw [if_pos ((toList_nil _).2 hx), if_pos hx]
      have ih := ref_depth_l n hn L hL d (i + 1) k c (by omega) (by omega) (by omega)
      rw [Nat.zero_add]
      exact ih
    · rw [if_neg (fun h => hx ((toList_nil _).1 h)), if_neg hx, w64 (by omega)]
      have ih := ref_depth_l n hn L hL d (i + 1) k (c + 1) (by omega) (by omega) (by omega)
      rw [← Nat.add_assoc]
      exact ih
theorem ref_depth (s : ByteArray) (hs : s.size ≤ 1000) (k : Nat) (hk : 7005 ≤ k) : mantrapref16_Depth.f k s = some (depthL (remL s.data.toList) : Nat) := by
  have hlen := remL_len s.data.toList
  rw [← size_len] at hlen
  unfold mantrapref16_Depth.f
  rw [ref_remove s hs k hk]
  simp only [Option.bind_some]
  have hz : (⟨(remL s.data.toList).toArray⟩ : ByteArray).size ≤ 1000 := by rw [size_len]; show (remL s.data.toList).length ≤ _; omega
  rw [ref_split _ hz k (by omega)]
  simp only [Option.bind_some]
  have hl := spl_length (remL s.data.toList)
  have := ref_depth_l ((spl 47 (remL s.data.toList)).map mkS).length (by rw [List.length_map]; omega) ((spl 47 (remL s.data.toList)).map mkS) rfl ((spl 47 (remL s.data.toList)).map mkS).length 0 k 0 (by omega) (by rw [List.length_map]; omega) (by omega)
  refine this.trans ?_
  congr 2
  rw [List.drop_zero, Nat.zero_add]
  unfold depthL cntS
  rw [List.map_map]
  have e : ((fun b : ByteArray => b.data.toList) ∘ mkS) = id := by funext l; rfl
  rw [e, List.map_id]

/-! ## Merge -/
def mergeB (base : ByteArray) (rootless : Bool) (path : ByteArray) : ByteArray :=
  if base.toList.isEmpty = true ∧ rootless = true then ⟨#[47]⟩ ++ path else base.extract 0 (Lib.lastIndexByte base 47 + 1).toNat ++ path
theorem last_bounds (b : ByteArray) (k : Nat) : -1 ≤ Lib.lastIdx b 47 k ∧ Lib.lastIdx b 47 k < k := by
  rcases Lib.lastIdx_spec b 47 k with ⟨h, -⟩ | ⟨i, h1, h2, -, -⟩ <;> omega
theorem bt_bang {b : ByteArray} {i : Nat} (h : i < b.size) : bt b (i : Int) = ((b.data[i]!).toNat : Int) := by
  rw [bt_list h, byte_at b h]
theorem ref_merge_l (b p : ByteArray) (hb : b.size ≤ 1000) (hp : p.size ≤ 1000) : ∀ (m i k : Nat), b.size = i + m → m < k → mantrapref16_Merge.l0 k b p (Lib.lastIdx b 47 i + 1) (i : Int) = some (b.extract 0 (Lib.lastIndexByte b 47 + 1).toNat ++ p)
  | 0, i, 0, _, hk => by omega
  | 0, i, k + 1, hm, _ => by
    have h := last_bounds b i
    have hi : i = b.size := by omega
    unfold mantrapref16_Merge.l0
    have hz : (b.extract 0 (Lib.lastIdx b 47 i + 1).toNat).size ≤ 1000 := by rw [size_len, take_list, List.length_take, ← size_len]; omega
    rw [if_neg (by omega), if_pos (by omega), if_pos (by omega), if_pos (by omega), hi]
    rfl
  | m + 1, i, 0, _, hk => by omega
  | m + 1, i, k + 1, hm, hk => by
    have h := last_bounds b i
    have hi : i < b.size := by omega
    have ih := ref_merge_l b p hb hp m (i + 1) k (by omega) (by omega)
    unfold mantrapref16_Merge.l0
    rw [if_pos (by omega), if_pos (by omega), bt_bang hi, w64 (by omega)]
    by_cases hc : ((b.data[i]!).toNat : Int) = 47
    · rw [if_pos hc]
      rw [Lib.lastIdx_hit b 47 i hc] at ih
      exact ih
    · rw [if_neg hc]
      rw [Lib.lastIdx_miss b 47 i hc] at ih
      exact ih
theorem ref_merge (b : ByteArray) (r : Bool) (p : ByteArray) (hb : b.size ≤ 1000) (hp : p.size ≤ 1000) (k : Nat) (hk : 1002 ≤ k) : mantrapref16_Merge.f k b r p = some (mergeB b r p) := by
  obtain ⟨k1, rfl⟩ : ∃ k1, k = k1 + 1 := ⟨k - 1, by omega⟩
  have hl := ref_merge_l b p hb hp b.size 0 k1 (by omega) (by omega)
  have h0 : Lib.lastIdx b 47 0 + 1 = 0 := rfl
  rw [h0] at hl
  have J := fun x => (show mantrapref16_Merge.j0 (k1 + 1) b p x = _ from by rw [mantrapref16_Merge.j0])
  unfold mantrapref16_Merge.f mergeB
  by_cases he : b.toList = []
  · have he' : b.toList.isEmpty = true := by rw [he]; rfl
    rw [if_pos he, J]
    cases r with
    | true => rw [if_pos rfl, if_pos (by omega), if_pos ⟨he', rfl⟩]
    | false => rw [if_neg (by intro h; cases h), if_neg (by intro h; cases h.2)]; exact hl
  · have he' : ¬ (b.toList.isEmpty = true ∧ r = true) := fun h => he (List.isEmpty_iff.1 h.1)
    rw [if_neg he, J, if_neg (by intro h; cases h), if_neg he']
    exact hl

set_option maxHeartbeats 4000000 in
set_option maxRecDepth 100000 in
theorem merge_any (b : ByteArray) (r : Bool) (p : ByteArray) (w : World) (hb : b.size ≤ 1000000) (hp : p.size ≤ 1000000) :
    Calls Tryz.prog 29 #[.string b, .bool r, .string p] w fun e w' => e = .returned (.string (mergeB b r p)) ∧ Below w.heap.size w w' := by
  have c1 := Lib.hid (fun w => Tryz.strings_LastIndexByte b 47 (by omega) w)
  have hl := last_bounds b b.size
  have HL : Hid (Lib.lastIndexByte b 47 = Lib.lastIdx b 47 b.size) := Lib.hid rfl
  by_cases h : b.toList.isEmpty = true ∧ r = true
  · obtain ⟨h1, rfl⟩ := h
    have HM : Hid (mergeB b true p = ⟨#[47]⟩ ++ p) := Lib.hid (by unfold mergeB; rw [if_pos ⟨h1, rfl⟩])
    clear hl HL c1
    go_enter Tryz.func29, Tryz.ntmps29
    go_wp2
    go_ret
    exact ⟨by rw [HM.out]; rfl, Below.refl _ _⟩
  · have HM : Hid (mergeB b r p = b.extract 0 (Lib.lastIndexByte b 47 + 1).toNat ++ p) := Lib.hid (by unfold mergeB; rw [if_neg h])
    rw [← HL.out] at hl
    generalize Lib.lastIndexByte b 47 = z at c1 hl HM HL
    have h2 : 0 ≤ z + 1 := by omega
    have h3 : z + 1 ≤ (b.size : Int) := by omega
    have h4 : (b.extract 0 (z + 1).toNat).size + p.size ≤ 9223372036854775807 := by
      have : (b.extract 0 (z + 1).toNat).size ≤ b.size := by rw [size_len, take_list, List.length_take, ← size_len]; omega
      omega
    clear HL
    cases hem : b.toList.isEmpty with
    | true =>
      have hr : r = false := by cases r with | false => rfl | true => exact absurd ⟨hem, rfl⟩ h
      subst hr
      clear h
      go_enter Tryz.func29, Tryz.ntmps29
      go_wp2_with (first | (go_at_call 75; refine (c1.out _).mono ?_; rintro e w' ⟨rfl, rfl⟩))
      go_ret
      exact ⟨by rw [HM.out]; rfl, Below.refl _ _⟩
    | false =>
      clear h
      go_enter Tryz.func29, Tryz.ntmps29
      go_wp2_with (first | (go_at_call 75; refine (c1.out _).mono ?_; rintro e w' ⟨rfl, rfl⟩))
      go_ret
      exact ⟨by rw [HM.out]; rfl, Below.refl _ _⟩
end Go.Proofs.YtakdjflhhaefiaaGreatDoor
/- The law DotsGo's walk. -/
namespace Go.Proofs.YtakdjflhhaefiaaGreatDoor
open Go.RowKit Go.Xc Go.Proofs.YtakdjflhhaefiaaGreatDoor.PDotsGo Go.Proofs.YtakdjflhhaefiaaGreatDoorW.PrintWords Go.Proofs.YtakdjflhhaefiaaGreatDoorW.PrintLast Go.Proofs.YtakdjflhhaefiaaGreatDoorW.PrintMore

set_option maxHeartbeats 4000000 in
set_option maxRecDepth 100000 in
theorem go_small (p b : ByteArray) (r : Bool) (hp : p.size ≤ 1000) (hb : b.size ≤ 1000) {w : World} (hg : Xc.Good XC glob w.heap.size w) :
    Calls Tryz.prog 8 #[.string p, .string b, .bool r] w fun e w' => e = .returned (.bool true) ∧ Below w.heap.size w w' := by
  have ca := Lib.hid (awake16 hg)
  have c1 := Lib.hid (fun w => remove_any p w (by omega))
  have c2 := Lib.hid (fun w => mantrapref16_Remove.calls 7005 p _ w (ref_remove p hp 7005 (Nat.le_refl _)))
  have c3 := Lib.hid (fun w => depth_any p w (by omega))
  have c4 := Lib.hid (fun w => mantrapref16_Depth.calls 7005 p _ w (ref_depth p hp 7005 (Nat.le_refl _)))
  have c5 := Lib.hid (fun w => merge_any b r p w (by omega) (by omega))
  have c6 := Lib.hid (fun w => (mantrapref16_Merge.calls 1002 b r p _ w (ref_merge b r p hb hp 1002 (Nat.le_refl _))))
  have h1 : ¬ (1000 : Int) < (p.size : Int) := by omega
  have h2 : ¬ (1000 : Int) < (b.size : Int) := by omega
  clear hg
  generalize (⟨(remL p.data.toList).toArray⟩ : ByteArray) = rr at c1 c2
  generalize depthL (remL p.data.toList) = dd at c3 c4
  generalize mergeB b r p = mm at c5 c6
  have e1 : (rr.toList == rr.toList) = true := beq_self_eq_true _
  have e2 : (mm.toList == mm.toList) = true := beq_self_eq_true _
  go_enter Tryz.func8, Tryz.ntmps8
  go_wp2_with (first | (go_at_call 30; refine (c6.out _).mono ?_; rintro e w7 ⟨rfl, hb⟩; have HB7 := Lib.hid hb; clear hb) | (go_at_call 29; refine (c5.out _).mono ?_; rintro e w6 ⟨rfl, hb⟩; have HB6 := Lib.hid (HB5.out.trans (hb.mono HB5.out.size)); clear hb) | (go_at_call 28; refine (c4.out _).mono ?_; rintro e w5 ⟨rfl, hb⟩; have HB5 := Lib.hid (HB4.out.trans (hb.mono HB4.out.size)); clear hb) | (go_at_call 26; refine (c3.out _).mono ?_; rintro e w4 ⟨rfl, hb⟩; have HB4 := Lib.hid (HB3.out.trans (hb.mono HB3.out.size)); clear hb) | (go_at_call 27; refine (c2.out _).mono ?_; rintro e w3 ⟨rfl, hb⟩; have HB3 := Lib.hid (HB2.out.trans (hb.mono HB2.out.size)); clear hb) | (go_at_call 23; refine (c1.out _).mono ?_; rintro e w2 ⟨rfl, hb⟩; have HB2 := Lib.hid (HB1.out.trans (hb.mono HB1.out.size)); clear hb) | (go_at_call 22; refine ca.out.mono ?_; rintro e w1 ⟨rfl, hb⟩; have HB1 := Lib.hid hb; clear hb))
  go_ret
  refine ⟨rfl, ?_⟩
  obtain ⟨q, rfl⟩ := HB7.out
  exact (HB6.out.trans (pw_below_drewN (Below.refl _ _) q))
set_option maxHeartbeats 4000000 in
set_option maxRecDepth 100000 in
theorem go_large (p b : ByteArray) (r : Bool) (h : ¬ (p.size ≤ 1000 ∧ b.size ≤ 1000)) {w : World} (hg : Xc.Good XC glob w.heap.size w) :
    Calls Tryz.prog 8 #[.string p, .string b, .bool r] w fun e w' => e = .returned (.bool true) ∧ Below w.heap.size w w' := by
  have ca := Lib.hid (awake16 hg)
  clear hg
  by_cases hp : p.size ≤ 1000
  · have h1 : ¬ (1000 : Int) < (p.size : Int) := by omega
    have h2 : (1000 : Int) < (b.size : Int) := by omega
    clear h hp
    go_enter Tryz.func8, Tryz.ntmps8
    go_wp2_with (first | (go_at_call 22; refine ca.out.mono ?_; rintro e w1 ⟨rfl, hb⟩; have HB1 := Lib.hid hb; clear hb))
    go_ret
    exact ⟨rfl, HB1.out⟩
  · have h1 : (1000 : Int) < (p.size : Int) := by omega
    clear h hp
    go_enter Tryz.func8, Tryz.ntmps8
    go_wp2_with (first | (go_at_call 22; refine ca.out.mono ?_; rintro e w1 ⟨rfl, hb⟩; have HB1 := Lib.hid hb; clear hb))
    go_ret
    exact ⟨rfl, HB1.out⟩
theorem go_all (p b : ByteArray) (r : Bool) {w : World} (hg : Xc.Good XC glob w.heap.size w) :
    Calls Tryz.prog 8 #[.string p, .string b, .bool r] w fun e w' => e = .returned (.bool true) ∧ Below w.heap.size w w' := by
  by_cases h : p.size ≤ 1000 ∧ b.size ≤ 1000
  · exact go_small p b r h.1 h.2 hg
  · exact go_large p b r h hg
end Go.Proofs.YtakdjflhhaefiaaGreatDoor
