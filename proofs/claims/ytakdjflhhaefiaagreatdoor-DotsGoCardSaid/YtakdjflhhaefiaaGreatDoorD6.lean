/- The mirror's Remove, Split, Depth, Merge: what they are, by lists. -/
import Derived.Test.YtakdjflhhaefiaaGreatDoorD3
import Derived.Test.YtakdjflhhaefiaaGreatDoorPD1
import Derived.Laws.Strings
import Derived.Lib.Index
set_option linter.unusedVariables false
set_option linter.unusedSimpArgs false
namespace Go.Proofs.YtakdjflhhaefiaaGreatDoor
open Go.RowKit Go.Proofs.YtakdjflhhaefiaaGreatDoor.PDotsGo Go.Proofs.YtakdjflhhaefiaaGreatDoorW.PrintWords Go.Proofs.YtakdjflhhaefiaaGreatDoorW.PrintLast Go.Proofs.YtakdjflhhaefiaaGreatDoorW.PrintMore

theorem w64 {n : Int} (h : 0 ≤ n ∧ n ≤ 1000000) : wrap64 n = n := by unfold wrap64; omega
theorem bt_list {s : ByteArray} {i : Nat} (h : i < s.size) : bt s (i : Int) = ((s.data.toList[i]'(by rw [← size_len]; exact h)).toNat : Int) := by
  have := bt_at s (i : Int) (by simpa using h)
  rw [← this]; rfl
theorem bt_47 {s : ByteArray} {i : Nat} (h : i < s.size) : (bt s (i : Int) = 47) ↔ s.data.toList[i]'(by rw [← size_len]; exact h) = 47 := by
  rw [bt_list h]
  constructor
  · intro e; exact UInt8.toNat_inj.1 (by have : ((47 : UInt8).toNat : Int) = 47 := rfl; omega)
  · intro e; rw [e]; rfl
theorem begins_eq (a q : ByteArray) : mantrapref16_begins.f a q = some (Lib.hasPrefix a.data.toList q.data.toList) := by
  unfold mantrapref16_begins.f
  by_cases h : (q.size : Int) ≤ (a.size : Int)
  · rw [if_pos (by omega), if_pos (by omega), if_pos h]
    congr 1
    have hl : 0 + q.data.toList.length ≤ a.data.toList.length := by rw [← size_len, ← size_len]; omega
    have := Lib.occAt_iff_take a.data.toList q.data.toList 0 hl
    rw [ByteArray.toList_eq, ByteArray.toList_eq]
    have e : (a.extract 0 ((q.size : Int)).toNat).data.toList = (a.data.toList.drop 0).take q.data.toList.length := by
      rw [take_list, List.drop_zero, ← size_len]; rfl
    rw [e, ← this]
    unfold Lib.occAt Lib.hasPrefix
    rw [List.drop_zero]
  · rw [if_neg (by omega)]
    congr 1
    cases hp : Lib.hasPrefix a.data.toList q.data.toList with
    | false => rfl
    | true => have := hp_len hp; rw [← size_len, ← size_len] at this; omega

/-- The texts put out, put together. -/
def catL (L : List ByteArray) : List UInt8 := L.flatMap (·.data.toList)
theorem catL_append (a b : List ByteArray) : catL (a ++ b) = catL a ++ catL b := by simp [catL]
structure InvL (L : List ByteArray) (p : List UInt8) : Prop where
  each : ∀ x ∈ L, x.data.toList ≠ [] ∧ (47 : UInt8) ∉ x.data.toList.tail
  next : ∀ x ∈ L.tail, x.data.toList.head? = some 47
  rest : L = [] ∨ p = [] ∨ p.head? = some 47
theorem dropLast_tail {α : Type} (L : List α) : ∀ x ∈ L.dropLast.tail, x ∈ L.tail := by
  intro x hx
  cases L with
  | nil => simp at hx
  | cons a t =>
    cases t with
    | nil => simp at hx
    | cons b u =>
      have e : (a :: b :: u).dropLast.tail = (b :: u).dropLast := rfl
      rw [e] at hx
      exact List.dropLast_subset _ hx
theorem cat_back {L : List ByteArray} {p : List UInt8} (h : InvL L p) : catL L.dropLast = backL (catL L) := by
  rcases List.eq_nil_or_concat L with rfl | ⟨init, y, rfl⟩
  · rfl
  · rw [List.concat_eq_append] at h ⊢
    rw [List.dropLast_concat, catL_append]
    have hy := h.each y (by simp)
    have e1 : catL [y] = y.data.toList := by simp [catL]
    rw [e1]
    obtain ⟨b, t, hbt⟩ : ∃ b t, y.data.toList = b :: t := by
      cases hq : y.data.toList with
      | nil => exact absurd hq hy.1
      | cons b t => exact ⟨b, t, rfl⟩
    have ht : (47 : UInt8) ∉ t := by have := hy.2; rw [hbt] at this; exact this
    by_cases hb : b = 47
    · rw [hbt, hb, backL_slash _ _ ht]
    · have hi : init = [] := by
        cases init with
        | nil => rfl
        | cons a u =>
          have := h.next y (by simp)
          rw [hbt] at this
          simp at this
          exact absurd this hb
      subst hi
      rw [hbt, backL_none]
      · rfl
      · simp [catL]
        exact ⟨fun h => hb h.symm, ht⟩
theorem inv_back {L : List ByteArray} {p p' : List UInt8} (h : InvL L p) (hp : p' = [] ∨ p'.head? = some 47) : InvL L.dropLast p' :=
  ⟨fun x hx => h.each x (List.dropLast_subset _ hx), fun x hx => h.next x (dropLast_tail L x hx), .inr hp⟩
theorem inv_rest {L : List ByteArray} {p p' : List UInt8} (h : InvL L p) (hp : L = [] ∨ p' = [] ∨ p'.head? = some 47) : InvL L p' := ⟨h.each, h.next, hp⟩

theorem tw_le : ∀ (l : List UInt8) (j : Nat), j < (l.takeWhile (fun b => b ≠ 47)).length → ∃ h : j < l.length, l[j] ≠ 47
  | [], j, h => by simp at h
  | b :: l, j, h => by
    by_cases hb : b = 47
    · subst hb; simp at h
    · rw [List.takeWhile_cons_of_pos (by simpa using hb)] at h
      cases j with
      | zero => exact ⟨by simp, hb⟩
      | succ j =>
        obtain ⟨h1, h2⟩ := tw_le l j (by simpa using h)
        exact ⟨by simpa using h1, by simpa using h2⟩
theorem tw_end : ∀ (l : List UInt8), (l.takeWhile (fun b => b ≠ 47)).length = l.length ∨ ∃ h : (l.takeWhile (fun b => b ≠ 47)).length < l.length, l[(l.takeWhile (fun b => b ≠ 47)).length] = 47
  | [] => .inl rfl
  | b :: l => by
    by_cases hb : b = 47
    · subst hb; exact .inr ⟨by simp, by simp⟩
    · rw [List.takeWhile_cons_of_pos (by simpa using hb)]
      rcases tw_end l with h | ⟨h1, h2⟩
      · exact .inl (by rw [List.length_cons, List.length_cons, h])
      · exact .inr ⟨by simpa using h1, by simpa using h2⟩
theorem head_facts {p : List UInt8} (hp : p ≠ []) : 1 ≤ headN p ∧ headN p ≤ p.length ∧ (∀ j, 1 ≤ j → j < headN p → ∃ h : j < p.length, p[j] ≠ 47) ∧ (headN p = p.length ∨ ∃ h : headN p < p.length, p[headN p] = 47) := by
  cases p with
  | nil => exact absurd rfl hp
  | cons b l =>
    unfold headN
    rw [List.tail_cons]
    have hle : (l.takeWhile (fun b => b ≠ 47)).length ≤ l.length := (List.takeWhile_prefix _).length_le
    refine ⟨by omega, by rw [List.length_cons]; omega, fun j h1 h2 => ?_, ?_⟩
    · obtain ⟨h3, h4⟩ := tw_le l (j - 1) (by omega)
      refine ⟨by rw [List.length_cons]; omega, ?_⟩
      obtain ⟨j', rfl⟩ : ∃ j', j = j' + 1 := ⟨j - 1, by omega⟩
      simpa using h4
    · rcases tw_end l with h | ⟨h1, h2⟩
      · exact .inl (by rw [h]; rfl)
      · exact .inr ⟨by rw [List.length_cons]; omega, by simpa using h2⟩

/-- The loop that looks for the next slash. -/
theorem ref_l1 (p : ByteArray) (L : List ByteArray) (hs : p.size ≤ 2000) (hp : p.data.toList ≠ []) (hL : L.length ≤ 2000) (k : Nat) : ∀ (d i : Nat), headN p.data.toList = i + d → 1 ≤ i →
    mantrapref16_Remove.l1 (k + d + 1) p L false (i : Int) = mantrapref16_Remove.l0 k (p.extract (headN p.data.toList) p.size) (L ++ [p.extract 0 (headN p.data.toList)])
  | 0, i, hd, hi => by
    obtain ⟨f1, f2, f3, f4⟩ := head_facts hp
    have hn : headN p.data.toList = i := by omega
    rw [← size_len] at f2
    have e : ((i : Int)).toNat = i := Int.toNat_natCast i
    unfold mantrapref16_Remove.l1
    rcases f4 with h | ⟨h, h2⟩
    · rw [← size_len] at h
      rw [if_neg (by omega), if_pos (by omega), if_pos (by omega), if_pos (by omega)]
      simp only [Option.bind_some, Bool.false_eq_true, if_false]
      rw [e, hn]
    · rw [← size_len] at h
      have hb : bt p (i : Int) = 47 := by
        have := (bt_47 (s := p) (i := i) (by omega)).2
        apply this
        have e3 : p.data.toList[headN p.data.toList] = 47 := h2
        have : p.data.toList[i]'(by rw [← size_len]; omega) = p.data.toList[headN p.data.toList] := by congr 1; exact hn.symm
        rw [this]; exact e3
      rw [if_pos (by omega), if_pos (by omega), if_pos hb, if_pos (by omega), if_pos (by omega)]
      simp only [Option.bind_some, Bool.false_eq_true, if_false]
      rw [e, hn]
  | d + 1, i, hd, hi => by
    obtain ⟨f1, f2, f3, f4⟩ := head_facts hp
    obtain ⟨h1, h2⟩ := f3 i hi (by omega)
    rw [← size_len] at h1 f2
    have hb : ¬ bt p (i : Int) = 47 := fun e => h2 ((bt_47 h1).1 e)
    have ih := ref_l1 p L hs hp hL k d (i + 1) (by omega) (by omega)
    unfold mantrapref16_Remove.l1
    rw [if_pos (by omega), if_pos (by omega), if_neg hb, w64 (by omega)]
    exact ih
theorem take_minus {L : List ByteArray} (h : (L.length : Int) > 0) (hL : L.length ≤ 2000) : 0 ≤ wrap64 ((L.length : Int) - 1) ∧ wrap64 ((L.length : Int) - 1) ≤ (L.length : Int) ∧ L.take (wrap64 ((L.length : Int) - 1)).toNat = L.dropLast := by
  rw [w64 (by omega)]
  refine ⟨by omega, by omega, ?_⟩
  rw [List.dropLast_eq_take]
  congr 1
  omega
/-- With a step back. -/
theorem up_eq (k : Nat) (L : List ByteArray) (hL : L.length ≤ 2000) (q : ByteArray) :
    (if (L.length : Int) > 0 then (if 0 ≤ (wrap64 ((L.length : Int) - 1)) then (if (wrap64 ((L.length : Int) - 1)) ≤ (L.length : Int) then (mantrapref16_Remove.l0 k q (L.take ((wrap64 ((L.length : Int) - 1)) : Int).toNat)) else (none)) else (none)) else (mantrapref16_Remove.l0 k q L)) = mantrapref16_Remove.l0 k q L.dropLast := by
  by_cases h : (L.length : Int) > 0
  · obtain ⟨h1, h2, h3⟩ := take_minus h hL
    rw [if_pos h, if_pos h1, if_pos h2, h3]
  · rw [if_neg h]
    have : L = [] := List.eq_nil_of_length_eq_zero (by omega)
    rw [this]; rfl
theorem ref_l2 (n : Nat) : ∀ (d i k : Nat) (acc : ByteArray) (L : List ByteArray), L.length = n → n = i + d → d < k → acc.size + (catL (L.drop i)).length ≤ 1000000 →
    n ≤ 2000 → mantrapref16_Remove.l2 k acc L (n : Int) (i : Int) = some (acc ++ ⟨(catL (L.drop i)).toArray⟩)
  | 0, i, 0, acc, L, hn, hd, hk, _, _ => by omega
  | 0, i, k + 1, acc, L, hn, hd, hk, _, _ => by
    unfold mantrapref16_Remove.l2
    rw [if_neg (by omega), List.drop_eq_nil_of_le (by omega)]
    congr 1
    exact ext_list (by simp [catL])
  | d + 1, i, 0, acc, L, hn, hd, hk, _, _ => by omega
  | d + 1, i, k + 1, acc, L, hn, hd, hk, hsz, h2 => by
    have hi : i < L.length := by omega
    have hdr : L.drop i = L[i] :: L.drop (i + 1) := List.drop_eq_getElem_cons hi
    have hrd : rdOf ByteArray.empty L (i : Int) = L[i] := by
      unfold rdOf
      rw [Int.toNat_natCast]
      simp [List.getD, hi]
    have hc : catL (L.drop i) = L[i].data.toList ++ catL (L.drop (i + 1)) := by rw [hdr]; rfl
    rw [hc, List.length_append, ← size_len] at hsz
    have ih := ref_l2 n d (i + 1) k (acc ++ L[i]) L hn (by omega) (by omega) (by rw [ByteArray.size_append]; omega) h2
    unfold mantrapref16_Remove.l2
    rw [if_pos (by omega), if_pos (by omega), if_pos (by omega), hrd, if_pos (by omega), w64 (by omega)]
    refine ih.trans ?_
    congr 1
    exact ext_list (by rw [append_list, append_list, append_list, hc]; simp)
theorem toList_nil (p : ByteArray) : (p.toList = ([] : List UInt8)) ↔ p.data.toList = [] := by rw [ByteArray.toList_eq]

/-- The mirror's rounds are the program's. -/
theorem ref_rem : ∀ (m : Nat) (p : ByteArray) (L : List ByteArray) (k : Nat), p.size ≤ m → 7 * p.size + L.length + 5 ≤ k → InvL L p.data.toList → L.length + p.size ≤ 1001 → (catL L).length + p.size ≤ 1001 →
    mantrapref16_Remove.l0 k p L = some ⟨(rm (catL L) p.data.toList).toArray⟩
  | m, p, L, 0, _, hk, _, _, _ => by omega
  | m, p, L, k + 1, hm, hk, hI, hL, hC => by
    unfold mantrapref16_Remove.l0
    by_cases hp : p.data.toList = []
    · have hz : p.size = 0 := by rw [size_len, hp]; rfl
      rw [if_pos ((toList_nil p).2 hp), hp, rm_nil]
      have := ref_l2 L.length L.length 0 k ⟨#[]⟩ L rfl (by omega) (by omega) (by rw [List.drop_zero]; show 0 + _ ≤ _; omega) (by omega)
      rw [List.drop_zero] at this
      exact this.trans (congrArg some (ext_list (by simp)))
    · cases m with
      | zero => exact absurd (List.eq_nil_of_length_eq_zero (by rw [← size_len]; omega)) hp
      | succ m =>
        have hstep := rm_step (catL L) hp
        have hlt := step_lt (catL L) hp
        have hle := step_le (catL L) p.data.toList
        have hpos : 0 < p.size := by rw [size_len]; exact List.length_pos_iff.2 hp
        rw [← size_len] at hlt hle
        rw [if_neg (fun h => hp ((toList_nil p).1 h))]
        obtain ⟨k1, rfl⟩ : ∃ k1, k = k1 + 1 + 1 + 1 := ⟨k - 3, by omega⟩
        have fin : ∀ (k' : Nat) (p' : ByteArray) (L' : List ByteArray), k1 ≤ k' → stepL (catL L) p.data.toList = (catL L', p'.data.toList) → InvL L' p'.data.toList → L'.length ≤ L.length →
            mantrapref16_Remove.l0 k' p' L' = some ⟨(rm (catL L) p.data.toList).toArray⟩ := by
          intro k' p' L' hk' hs' hI' hL'
          rw [hs'] at hlt hle hstep
          rw [← size_len] at hlt hle
          simp only at hlt hle hstep
          rw [hstep]
          exact ref_rem m p' L' k' (by omega) (by omega) hI' (by omega) (by omega)
        have fwd : p.data.toList.head? ≠ some 47 → L = [] := fun h => by
          rcases hI.rest with h1 | h1 | h1
          · exact h1
          · exact absurd h1 hp
          · exact absurd h1 h
        have hPL : p.toList = p.data.toList := ByteArray.toList_eq p
        have hLb : L.length ≤ 2000 := by omega
        have bA : mantrapref16_begins.f p (⟨#[46, 46, 47]⟩ : ByteArray) = some (Lib.hasPrefix p.data.toList [46, 46, 47]) := begins_eq p _
        have bB : mantrapref16_begins.f p (⟨#[46, 47]⟩ : ByteArray) = some (Lib.hasPrefix p.data.toList [46, 47]) := begins_eq p _
        have bC : mantrapref16_begins.f p (⟨#[47, 46, 47]⟩ : ByteArray) = some (Lib.hasPrefix p.data.toList [47, 46, 47]) := begins_eq p _
        have bE : mantrapref16_begins.f p (⟨#[47, 46, 46, 47]⟩ : ByteArray) = some (Lib.hasPrefix p.data.toList [47, 46, 46, 47]) := begins_eq p _
        have J1 := fun x4 => (show mantrapref16_Remove.j1 (k1 + 1 + 1 + 1) p L x4 = _ from by rw [mantrapref16_Remove.j1])
        have J2 := fun x4 x30 => (show mantrapref16_Remove.j2 (k1 + 1 + 1) p L x4 x30 = _ from by rw [mantrapref16_Remove.j2])
        have J3 := fun x4 x44 => (show mantrapref16_Remove.j3 (k1 + 1) p L x4 x44 = _ from by rw [mantrapref16_Remove.j3])
        by_cases ha : Lib.hasPrefix p.data.toList [46, 46, 47] = true
        · obtain ⟨r, hr⟩ := List.isPrefixOf_iff_prefix.1 ha
          have hl := len_of ha
          have hE : Lib.hasPrefix p.data.toList [47, 46, 46, 47] = false := by rw [← hr]; simp [Lib.hasPrefix, List.isPrefixOf]
          have hF : (p.toList == [47, 46, 46]) = false := by rw [hPL, ← hr]; simp
          rw [bE, hE]
          simp only [Option.bind_some, Bool.false_eq_true, if_false]
          rw [hF, J1, bA, ha]
          simp only [Option.bind_some, if_true, Bool.false_eq_true, if_false]
          rw [if_pos (by simpa using hl)]
          have hL0 : L = [] := fwd (by rw [← hr]; simp)
          exact fin _ _ _ (by omega) (by rw [stp1 ha, drop_list]) (inv_rest hI (.inl hL0)) (Nat.le_refl _)
        · rw [Bool.not_eq_true] at ha
          by_cases hb : Lib.hasPrefix p.data.toList [46, 47] = true
          · obtain ⟨r, hr⟩ := List.isPrefixOf_iff_prefix.1 hb
            have hl := len_of hb
            have hE : Lib.hasPrefix p.data.toList [47, 46, 46, 47] = false := by rw [← hr]; simp [Lib.hasPrefix, List.isPrefixOf]
            have hF : (p.toList == [47, 46, 46]) = false := by rw [hPL, ← hr]; simp
            rw [bE, hE]
            simp only [Option.bind_some, Bool.false_eq_true, if_false]
            rw [hF, J1, bA, ha]
            simp only [Option.bind_some, if_true, Bool.false_eq_true, if_false]
            rw [bB, hb]
            simp only [Option.bind_some, if_true, Bool.false_eq_true, if_false]
            rw [if_pos (by simpa using hl)]
            have hL0 : L = [] := fwd (by rw [← hr]; simp)
            exact fin _ _ _ (by omega) (by rw [stp2 ha hb, drop_list]) (inv_rest hI (.inl hL0)) (Nat.le_refl _)
          · rw [Bool.not_eq_true] at hb
            by_cases hc : Lib.hasPrefix p.data.toList [47, 46, 47] = true
            · obtain ⟨r, hr⟩ := List.isPrefixOf_iff_prefix.1 hc
              have hl := len_of hc
              have hE : Lib.hasPrefix p.data.toList [47, 46, 46, 47] = false := by rw [← hr]; simp [Lib.hasPrefix, List.isPrefixOf]
              have hF : (p.toList == [47, 46, 46]) = false := by rw [hPL, ← hr]; simp
              have hD : ¬ p.toList = ([47, 46] : List UInt8) := by rw [hPL, ← hr]; simp
              rw [bE, hE]
              simp only [Option.bind_some, Bool.false_eq_true, if_false]
              rw [hF, J1, bA, ha]
              simp only [Option.bind_some, if_true, Bool.false_eq_true, if_false]
              rw [bB, hb]
              simp only [Option.bind_some, if_true, Bool.false_eq_true, if_false]
              rw [if_neg hD, hF, J2]
              simp only [Bool.false_eq_true, if_false]
              rw [bC, hc]
              simp only [Option.bind_some, if_true]
              rw [if_pos (by simp at hl ⊢; omega)]
              exact fin _ _ _ (by omega) (by rw [stp3 ha hb hc, drop_list]) (inv_rest hI (.inr (.inr (by rw [drop_list, ← hr]; rfl)))) (Nat.le_refl _)
            · rw [Bool.not_eq_true] at hc
              by_cases hd : p.data.toList = [47, 46]
              · have hE : Lib.hasPrefix p.data.toList [47, 46, 46, 47] = false := by rw [hd]; rfl
                have hF : (p.toList == [47, 46, 46]) = false := by rw [hPL, hd]; rfl
                rw [bE, hE]
                simp only [Option.bind_some, Bool.false_eq_true, if_false]
                rw [hF, J1, bA, ha]
                simp only [Option.bind_some, if_true, Bool.false_eq_true, if_false]
                rw [bB, hb]
                simp only [Option.bind_some, if_true, Bool.false_eq_true, if_false]
                rw [if_pos (hPL.trans hd), J2]
                simp only [if_true, Bool.false_eq_true, if_false]
                exact fin _ _ _ (by omega) (by rw [stp4 hd]) (inv_rest hI (.inr (.inr rfl))) (Nat.le_refl _)
              · have hD : ¬ p.toList = ([47, 46] : List UInt8) := fun h => hd (hPL.symm.trans h)
                by_cases he : Lib.hasPrefix p.data.toList [47, 46, 46, 47] = true
                · obtain ⟨r, hr⟩ := List.isPrefixOf_iff_prefix.1 he
                  have hl := len_of he
                  have hF : (p.toList == [47, 46, 46]) = false := by rw [hPL, ← hr]; simp
                  rw [bE, he]
                  simp only [Option.bind_some, if_true]
                  rw [J1, bA, ha]
                  simp only [Option.bind_some, if_true, Bool.false_eq_true, if_false]
                  rw [bB, hb]
                  simp only [Option.bind_some, if_true, Bool.false_eq_true, if_false]
                  rw [if_neg hD, hF, J2]
                  simp only [Bool.false_eq_true, if_false]
                  rw [bC, hc]
                  simp only [Option.bind_some, if_true, Bool.false_eq_true, if_false]
                  rw [bE, he]
                  simp only [Option.bind_some, if_true]
                  rw [if_pos (by simp at hl ⊢; omega), up_eq _ _ hLb]
                  exact fin _ _ _ (by omega) (by rw [stp5 ha hb hc hd he, drop_list, cat_back hI]) (inv_back hI (.inr (by rw [drop_list, ← hr]; rfl))) (by rw [List.length_dropLast]; omega)
                · rw [Bool.not_eq_true] at he
                  by_cases hf : p.data.toList = [47, 46, 46]
                  · have hF : (p.toList == [47, 46, 46]) = true := by rw [hPL, hf]; rfl
                    rw [bE, he]
                    simp only [Option.bind_some, Bool.false_eq_true, if_false]
                    rw [hF, J1, bA, ha]
                    simp only [Option.bind_some, if_true, Bool.false_eq_true, if_false]
                    rw [bB, hb]
                    simp only [Option.bind_some, if_true, Bool.false_eq_true, if_false]
                    rw [if_neg hD, hF, J2]
                    simp only [if_true]
                    rw [up_eq _ _ hLb]
                    exact fin _ _ _ (by omega) (by rw [stp6 hf, cat_back hI]) (inv_back hI (.inr rfl)) (by rw [List.length_dropLast]; omega)
                  · have hF : (p.toList == [47, 46, 46]) = false := by
                      rw [hPL]; exact beq_eq_false_iff_ne.2 hf
                    rw [bE, he]
                    simp only [Option.bind_some, Bool.false_eq_true, if_false]
                    rw [hF, J1, bA, ha]
                    simp only [Option.bind_some, if_true, Bool.false_eq_true, if_false]
                    rw [bB, hb]
                    simp only [Option.bind_some, if_true, Bool.false_eq_true, if_false]
                    rw [if_neg hD, hF, J2]
                    simp only [Bool.false_eq_true, if_false]
                    rw [bC, hc]
                    simp only [Option.bind_some, if_true, Bool.false_eq_true, if_false]
                    rw [bE, he]
                    simp only [Option.bind_some, if_true, Bool.false_eq_true, if_false]
                    by_cases hg : p.data.toList = [46]
                    · rw [if_pos (hPL.trans hg), J3]
                      simp only [if_true, Bool.false_eq_true, if_false]
                      exact fin _ _ _ (by omega) (by rw [stp7 (.inl hg)]) (inv_rest hI (.inr (.inl rfl))) (Nat.le_refl _)
                    · rw [if_neg (fun h => hg (hPL.symm.trans h))]
                      by_cases hh : p.data.toList = [46, 46]
                      · have hH : (p.toList == [46, 46]) = true := by rw [hPL, hh]; rfl
                        rw [hH, J3]
                        simp only [if_true, Bool.false_eq_true, if_false]
                        exact fin _ _ _ (by omega) (by rw [stp7 (.inr hh)]) (inv_rest hI (.inr (.inl rfl))) (Nat.le_refl _)
                      · have hH : (p.toList == [46, 46]) = false := by rw [hPL]; exact beq_eq_false_iff_ne.2 hh
                        rw [hH, J3]
                        simp only [Bool.false_eq_true, if_false]
                        obtain ⟨f1, f2, f3, f4⟩ := head_facts hp
                        have hst := stp8 (o := catL L) ha hb hc hd he hf hg hh
                        obtain ⟨k2, hk2⟩ : ∃ k2, k1 = k2 + (headN p.data.toList - 1) + 1 := ⟨k1 - headN p.data.toList, by rw [← size_len] at f2; omega⟩
                        have hl1 := ref_l1 p L (by omega) hp (by omega) k2 (headN p.data.toList - 1) 1 (by omega) (Nat.le_refl _)
                        rw [← hk2] at hl1
                        refine hl1.trans ?_
                        have hcat : catL (L ++ [p.extract 0 (headN p.data.toList)]) = catL L ++ p.data.toList.take (headN p.data.toList) := by
                          rw [catL_append]
                          congr 1
                          simp only [catL, List.flatMap_cons, List.flatMap_nil, List.append_nil]
                          exact take_list p _
                        rw [hst] at hstep hle hlt
                        simp only at hstep hle hlt
                        rw [hstep, ← hcat, ← drop_list]
                        rw [List.length_drop, ← size_len] at hlt
                        have hps : (p.extract (headN p.data.toList) p.size).size = p.size - headN p.data.toList := by rw [size_len, drop_list, List.length_drop, ← size_len]
                        rw [← hcat, List.length_drop, ← size_len] at hle
                        refine ref_rem m _ _ k2 (by omega) (by rw [List.length_append, hps]; simp; rw [← size_len] at f2; omega) ?_ (by rw [List.length_append, hps]; simp; omega) (by rw [hps]; omega)
                        obtain ⟨b, t, hbt⟩ : ∃ b t, p.data.toList = b :: t := by
                          cases hq : p.data.toList with
                          | nil => exact absurd hq hp
                          | cons b t => exact ⟨b, t, rfl⟩
                        refine ⟨fun x hx => ?_, fun x hx => ?_, ?_⟩
                        · rcases List.mem_append.1 hx with hx | hx
                          · exact hI.each x hx
                          · simp only [List.mem_singleton] at hx
                            subst hx
                            rw [take_list]
                            refine ⟨fun h => by have := congrArg List.length h; rw [List.length_take] at this; simp only [List.length_nil] at this; omega, fun hm => ?_⟩
                            obtain ⟨j, hj, hje⟩ := List.getElem_of_mem hm
                            rw [List.getElem_tail, List.getElem_take] at hje
                            rw [List.length_tail, List.length_take] at hj
                            obtain ⟨h3, h4⟩ := f3 (j + 1) (by omega) (by omega)
                            exact h4 hje
                        · cases hLc : L with
                          | nil => rw [hLc] at hx; simp at hx
                          | cons a u =>
                            rw [hLc] at hx
                            have e : ((a :: u) ++ [p.extract 0 (headN p.data.toList)]).tail = u ++ [p.extract 0 (headN p.data.toList)] := rfl
                            rw [e] at hx
                            rcases List.mem_append.1 hx with hx | hx
                            · exact hI.next x (by rw [hLc]; exact hx)
                            · simp only [List.mem_singleton] at hx
                              subst hx
                              rw [take_list]
                              rcases hI.rest with h1 | h1 | h1
                              · rw [hLc] at h1; cases h1
                              · exact absurd h1 hp
                              · obtain ⟨n', hn'⟩ : ∃ n', headN p.data.toList = n' + 1 := ⟨headN p.data.toList - 1, by omega⟩
                                rw [hn', hbt, List.take_succ_cons]
                                rw [hbt] at h1
                                exact h1
                        · rw [drop_list]
                          rcases f4 with h | ⟨h, h2⟩
                          · exact .inr (.inl (List.drop_eq_nil_of_le (by omega)))
                          · right; right
                            rw [List.drop_eq_getElem_cons h, h2]; rfl
theorem ref_remove (s : ByteArray) (hs : s.size ≤ 1000) (k : Nat) (hk : 7005 ≤ k) : mantrapref16_Remove.f k s = some ⟨(remL s.data.toList).toArray⟩ := by
  unfold mantrapref16_Remove.f
  have := ref_rem s.size s [] k (Nat.le_refl _) (by simp; omega) ⟨by simp, by simp, .inl rfl⟩ (by simp; omega) (by simp [catL]; omega)
  exact this
end Go.Proofs.YtakdjflhhaefiaaGreatDoor
