/- Splitting at the points, by lists: what two texts with a point between are split to. -/
import Derived.Test.YtdbnanbeaeafdaaGreatDoorDM2
set_option linter.unusedVariables false
set_option linter.unusedSimpArgs false
namespace Go.Proofs.YtdbnanbeaeafdaaGreatDoor
open Go.RowKit Go.Xc Go.Proofs.YtdbnanbeaeafdaaGreatDoor.PDomainReads Go.Proofs.YtdbnanbeaeafdaaGreatDoorW.PrintWords Go.Proofs.YtdbnanbeaeafdaaGreatDoorW.PrintLast Go.Proofs.YtdbnanbeaeafdaaGreatDoorW.PrintMore

def glue (p : List UInt8) : List (List UInt8) → List (List UInt8)
  | [] => [p]
  | h :: t => (p ++ h) :: t
def splitL : List UInt8 → List (List UInt8)
  | [] => [[]]
  | c :: l => if c = 46 then [] :: splitL l else glue [c] (splitL l)
theorem splitL_cons (c : UInt8) (l : List UInt8) : splitL (c :: l) = if c = 46 then [] :: splitL l else glue [c] (splitL l) := rfl
theorem glue_ne (p : List UInt8) (l : List (List UInt8)) : glue p l ≠ [] := by cases l <;> simp [glue]
theorem splitL_ne : ∀ l, splitL l ≠ []
  | [] => by simp [splitL]
  | c :: l => by
    unfold splitL
    split
    · simp
    · exact glue_ne _ _
theorem glue_nil {l : List (List UInt8)} (h : l ≠ []) : glue [] l = l := by
  cases l with
  | nil => exact absurd rfl h
  | cons a t => rfl
theorem glue_glue (p q : List UInt8) {l : List (List UInt8)} (h : l ≠ []) : glue p (glue q l) = glue (p ++ q) l := by
  cases l with
  | nil => exact absurd rfl h
  | cons a t => simp [glue]
theorem glue_append (p : List UInt8) {l m : List (List UInt8)} (h : l ≠ []) : glue p (l ++ m) = glue p l ++ m := by
  cases l with
  | nil => exact absurd rfl h
  | cons a t => rfl
theorem splitL_glue : ∀ (p r : List UInt8), (∀ c ∈ p, c ≠ 46) → splitL (p ++ r) = glue p (splitL r)
  | [], r, _ => (glue_nil (splitL_ne r)).symm
  | c :: p, r, h => by
    have hc : c ≠ 46 := h c List.mem_cons_self
    have ih := splitL_glue p r (fun d hd => h d (List.mem_cons_of_mem _ hd))
    show splitL (c :: (p ++ r)) = _
    rw [splitL_cons, if_neg hc, ih, glue_glue _ _ (splitL_ne r)]
    rfl
theorem splitL_dot : ∀ (u v : List UInt8), splitL (u ++ 46 :: v) = splitL u ++ splitL v
  | [], v => rfl
  | c :: u, v => by
    have ih := splitL_dot u v
    show splitL (c :: (u ++ 46 :: v)) = splitL (c :: u) ++ splitL v
    rw [splitL_cons, splitL_cons, ih]
    split
    · rfl
    · exact glue_append _ (splitL_ne u)
theorem splitL_free : ∀ (l p : List UInt8), p ∈ splitL l → ∀ c ∈ p, c ≠ 46 ∧ c ∈ l
  | [], p, h, c, hc => by
    simp [splitL] at h
    subst h
    cases hc
  | d :: l, p, h, c, hc => by
    unfold splitL at h
    split at h
    · rcases List.mem_cons.1 h with rfl | h
      · cases hc
      · exact ⟨(splitL_free l p h c hc).1, List.mem_cons_of_mem _ (splitL_free l p h c hc).2⟩
    · rename_i hd
      cases hs : splitL l with
      | nil => exact absurd hs (splitL_ne l)
      | cons a t =>
        rw [hs] at h
        rcases List.mem_cons.1 h with rfl | h
        · rcases List.mem_cons.1 hc with rfl | hc
          · exact ⟨hd, List.mem_cons_self⟩
          · have := splitL_free l a (by rw [hs]; exact List.mem_cons_self) c hc
            exact ⟨this.1, List.mem_cons_of_mem _ this.2⟩
        · have := splitL_free l p (by rw [hs]; exact List.mem_cons_of_mem _ h) c hc
          exact ⟨this.1, List.mem_cons_of_mem _ this.2⟩
/-- An empty last part: the text is empty, or ends with a point. -/
theorem splitL_last : ∀ (l : List UInt8), (splitL l).getLast? = some [] → l = [] ∨ l.getLast? = some 46
  | [], _ => Or.inl rfl
  | c :: l, h => by
    unfold splitL at h
    right
    split at h
    · rename_i hc
      subst hc
      rw [List.getLast?_cons_of_ne_nil (splitL_ne l)] at h
      rcases splitL_last l h with rfl | h2
      · rfl
      · cases l with
        | nil => cases h2
        | cons a t => rw [List.getLast?_cons_of_ne_nil (by simp)]; exact h2
    · cases hs : splitL l with
      | nil => exact absurd hs (splitL_ne l)
      | cons a t =>
        rw [hs] at h
        cases t with
        | nil => simp [glue] at h
        | cons b t =>
          have h3 : (splitL l).getLast? = some [] := by
            rw [hs, List.getLast?_cons_of_ne_nil (by simp)]
            have h4 : glue [c] (a :: b :: t) = ([c] ++ a) :: b :: t := rfl
            rw [h4, List.getLast?_cons_of_ne_nil (by simp)] at h
            exact h
          rcases splitL_last l h3 with rfl | h2
          · simp [splitL] at hs
          · cases l with
            | nil => cases h2
            | cons d u => rw [List.getLast?_cons_of_ne_nil (by simp)]; exact h2

def mkB (l : List UInt8) : ByteArray := ⟨l.toArray⟩
theorem mkB_bytes (b : ByteArray) : mkB b.data.toList = b := by unfold mkB; simp
theorem mkB_list (l : List UInt8) : (mkB l).data.toList = l := by unfold mkB; simp
theorem extract_list (s : ByteArray) (i j : Nat) : (s.extract i j).data.toList = (s.data.toList.drop i).take (j - i) := by
  rw [ByteArray.data_extract, Array.toList_extract, List.extract_eq_take_drop]
theorem parts_split (s : ByteArray) : ∀ k, k ≤ s.size → splitL s.data.toList = (partsTo s k).1.map (fun b => b.data.toList) ++ glue ((s.data.toList.drop (partsTo s k).2).take (k - (partsTo s k).2)) (splitL (s.data.toList.drop k))
  | 0, _ => by
    have : partsTo s 0 = ([], 0) := rfl
    rw [this]
    simp [glue_nil (splitL_ne _)]
  | k + 1, hk => by
    have ih := parts_split s k (by omega)
    have hle := partsTo_le s k
    have hl : k < s.data.toList.length := by rw [Array.length_toList]; show k < s.size; omega
    have hd : s.data.toList.drop k = s.data.toList[k] :: s.data.toList.drop (k + 1) := List.drop_eq_getElem_cons hl
    have hb : s.data.toList[k] = s[k]'hk := rfl
    rw [ih, hd, hb]
    by_cases h : (s[k]'hk).toNat = 46
    · have h46 : (s[k]'hk) = 46 := UInt8.toNat_inj.1 h
      rw [partsTo_yes hk h, h46]
      simp only [List.map_append, List.map_cons, List.map_nil, extract_list, Nat.sub_self, List.take_zero, glue_nil (splitL_ne _), List.append_assoc, List.cons_append, List.nil_append]
      congr 1
      show glue _ (splitL (46 :: _)) = _
      rw [splitL, if_pos rfl]
      simp [glue]
    · have h46 : (s[k]'hk) ≠ 46 := fun hh => h (by rw [hh]; rfl)
      rw [partsTo_no hk h]
      congr 1
      rw [splitL, if_neg h46, glue_glue _ _ (splitL_ne _)]
      congr 1
      have e : k + 1 - (partsTo s k).2 = (k - (partsTo s k).2) + 1 := by omega
      have hl2 : k - (partsTo s k).2 < (s.data.toList.drop (partsTo s k).2).length := by rw [List.length_drop]; omega
      rw [e, List.take_succ_eq_append_getElem hl2, List.getElem_drop]
      congr 2
      rw [← hb]
      congr 1
      omega
theorem split_list (s : ByteArray) : (splitB s).map (fun b => b.data.toList) = splitL s.data.toList := by
  have h := parts_split s s.size (Nat.le_refl _)
  have hz : s.data.toList.drop s.size = [] := List.drop_eq_nil_of_le (by rw [Array.length_toList]; exact Nat.le_refl _)
  rw [hz] at h
  rw [h]
  unfold splitB
  simp [splitL, glue, extract_list]
theorem split_eq (s : ByteArray) : splitB s = (splitL s.data.toList).map mkB := by
  rw [← split_list, List.map_map]
  have : (mkB ∘ fun b : ByteArray => b.data.toList) = id := by funext b; exact mkB_bytes b
  rw [this, List.map_id]
theorem join_list (u v : ByteArray) : (u ++ dotB ++ v).data.toList = u.data.toList ++ 46 :: v.data.toList := by
  simp [dotB]
theorem split_join (u v : ByteArray) : splitB (u ++ dotB ++ v) = splitB u ++ splitB v := by
  rw [split_eq, split_eq, split_eq, join_list, splitL_dot, List.map_append]
theorem splitB_ne (s : ByteArray) : splitB s ≠ [] := by unfold splitB; simp
theorem split_free {s w : ByteArray} (h : w ∈ splitB s) : ∀ c ∈ w.data.toList, c ≠ 46 ∧ c ∈ s.data.toList := by
  rw [split_eq] at h
  obtain ⟨p, hp, rfl⟩ := List.mem_map.1 h
  intro c hc
  rw [mkB_list] at hc
  exact splitL_free _ _ hp c hc
theorem split_one {w : ByteArray} (h : ∀ c ∈ w.data.toList, c ≠ 46) : splitB w = [w] := by
  have := splitL_glue w.data.toList [] h
  rw [List.append_nil] at this
  rw [split_eq, this]
  simp [splitL, glue, mkB_bytes]
end Go.Proofs.YtdbnanbeaeafdaaGreatDoor
/- What a name is, by its bytes and its labels; names with a point between. -/
namespace Go.Proofs.YtdbnanbeaeafdaaGreatDoor
open Go.RowKit Go.Xc Go.Proofs.YtdbnanbeaeafdaaGreatDoor.PDomainReads Go.Proofs.YtdbnanbeaeafdaaGreatDoorW.PrintWords Go.Proofs.YtdbnanbeaeafdaaGreatDoorW.PrintLast Go.Proofs.YtdbnanbeaeafdaaGreatDoorW.PrintMore

theorem rd_at {l : List ByteArray} {j : Nat} (h : j < l.length) : rdOf ByteArray.empty l (j : Int) = l[j] := by
  unfold rdOf
  rw [Int.toNat_natCast]
  simp [List.getD, h]
theorem rd_mem {l : List ByteArray} {j : Nat} (h : j < l.length) : rdOf ByteArray.empty l (j : Int) ∈ l := by
  rw [rd_at h]; exact List.getElem_mem h
theorem rd_of_mem {l : List ByteArray} {w : ByteArray} (h : w ∈ l) : ∃ j, j < l.length ∧ rdOf ByteArray.empty l (j : Int) = w := by
  obtain ⟨j, hj, rfl⟩ := List.getElem_of_mem h
  exact ⟨j, hj, rd_at hj⟩
theorem allOk_iff (l : List ByteArray) : allOk l = true ↔ ∀ w ∈ l, okLab w = true := by
  unfold allOk
  rw [List.all_eq_true]
  constructor
  · intro h w hw
    obtain ⟨j, hj, rfl⟩ := rd_of_mem hw
    exact h j (List.mem_range.2 hj)
  · intro h j hj
    exact h _ (rd_mem (List.mem_range.1 hj))
theorem anyXn_iff (l : List ByteArray) : anyXn l = false ↔ ∀ w ∈ l, isXn w = false := by
  constructor
  · intro h w hw
    obtain ⟨j, hj, rfl⟩ := rd_of_mem hw
    cases hx : isXn (rdOf ByteArray.empty l (j : Int)) with
    | false => rfl
    | true => rw [anyXn_true hj hx] at h; cases h
  · intro h
    exact anyXn_false (fun j hj => h _ (rd_mem hj))

structure IsName (t : ByteArray) : Prop where
  plain : ∀ c ∈ t.data.toList, c.toNat < 128
  low : ∀ c ∈ t.data.toList, lowN c = c
  ok : ∀ c ∈ t.data.toList, byteOfB (c.toNat : Int) = true
  lab : ∀ w ∈ labelsB t, okLab w = true
  long : (trimB t).size ≤ 253
  xn : ∀ w ∈ labelsB t, isXn w = false

theorem lowN_idem (b : UInt8) : lowN (lowN b) = lowN b := by
  by_cases hg : 65 ≤ b.toNat ∧ b.toNat ≤ 90
  · have := lowN_great b hg.1 hg.2
    rw [lowN_other (lowN b) (by omega)]
  · rw [lowN_other b hg, lowN_other b hg]
theorem lower_list (s : ByteArray) : (lowerB s).data.toList = s.data.toList.map lowN := by unfold lowerB; simp
theorem byte_ext {a b : ByteArray} (h : a.data.toList = b.data.toList) : a = b := by rw [← mkB_bytes a, ← mkB_bytes b, h]
theorem lower_fix {w : ByteArray} (h : ∀ c ∈ w.data.toList, lowN c = c) : lowerB w = w := by
  apply byte_ext
  rw [lower_list]
  conv => rhs; rw [← List.map_id w.data.toList]
  exact List.map_congr_left (fun c hc => h c hc)
theorem lower_low (s : ByteArray) : ∀ c ∈ (lowerB s).data.toList, lowN c = c := by
  intro c hc
  rw [lower_list] at hc
  obtain ⟨b, _, rfl⟩ := List.mem_map.1 hc
  exact lowN_idem b
theorem lower_idem (s : ByteArray) : lowerB (lowerB s) = lowerB s := lower_fix (lower_low s)
theorem lower_append (u v : ByteArray) : lowerB (u ++ v) = lowerB u ++ lowerB v := by
  apply byte_ext
  rw [lower_list]
  simp [lower_list]
theorem plainB_iff (s : ByteArray) : plainB s = true ↔ ∀ c ∈ s.data.toList, c.toNat < 128 := by
  unfold plainB
  rw [List.all_eq_true]
  exact ⟨fun h c hc => of_decide_eq_true (h c hc), fun h c hc => decide_eq_true (h c hc)⟩
theorem plainB_lower {s : ByteArray} (h : plainB s = true) : plainB (lowerB s) = true := by
  rw [plainB_iff] at h ⊢
  intro c hc
  rw [lower_list] at hc
  obtain ⟨b, hb, rfl⟩ := List.mem_map.1 hc
  have := h b hb
  by_cases hg : 65 ≤ b.toNat ∧ b.toNat ≤ 90
  · have := lowN_great b hg.1 hg.2; omega
  · rw [lowN_other b hg]; exact this

theorem canon_ok {s : ByteArray} (h : (canonB s).2 = 0) : (canonB s).1 = lowerB s ∧ plainB s = true ∧ IsName (lowerB s) := by
  unfold canonB at h ⊢
  by_cases h1 : plainB s = false
  · rw [if_pos h1] at h; exact absurd h (by decide)
  · rw [if_neg h1] at h ⊢
    by_cases h2 : okBytes (lowerB s) = false
    · rw [if_pos h2] at h; exact absurd h (by decide)
    · rw [if_neg h2] at h ⊢
      by_cases h3 : sizeB (lowerB s) = false
      · rw [if_pos h3] at h; exact absurd h (by decide)
      · rw [if_neg h3] at h ⊢
        by_cases h4 : anyXn (labelsB (lowerB s)) = true
        · rw [if_pos h4] at h; exact absurd h (by decide)
        · rw [if_neg h4]
          have h1' : plainB s = true := by cases hh : plainB s with
            | true => rfl
            | false => exact absurd hh h1
          have h2' : okBytes (lowerB s) = true := by cases hh : okBytes (lowerB s) with
            | true => rfl
            | false => exact absurd hh h2
          have h3' : sizeB (lowerB s) = true := by cases hh : sizeB (lowerB s) with
            | true => rfl
            | false => exact absurd hh h3
          have h4' : anyXn (labelsB (lowerB s)) = false := by cases hh : anyXn (labelsB (lowerB s)) with
            | true => exact absurd hh h4
            | false => rfl
          unfold sizeB at h3'
          rw [Bool.and_eq_true] at h3'
          refine ⟨rfl, h1', (plainB_iff _).1 (plainB_lower h1'), lower_low s, ?_, (allOk_iff _).1 h3'.1, of_decide_eq_true h3'.2, (anyXn_iff _).1 h4'⟩
          unfold okBytes at h2'
          rw [List.all_eq_true] at h2'
          exact h2'
theorem canon_mk {s : ByteArray} (hp : plainB s = true) (h : IsName (lowerB s)) : canonB s = (lowerB s, 0) := by
  have h2 : okBytes (lowerB s) = true := by unfold okBytes; rw [List.all_eq_true]; exact h.ok
  have h3 : sizeB (lowerB s) = true := by unfold sizeB; rw [(allOk_iff _).2 h.lab, decide_eq_true h.long]; rfl
  have h4 : anyXn (labelsB (lowerB s)) = false := (anyXn_iff _).2 h.xn
  unfold canonB
  rw [if_neg (by rw [hp]; simp), if_neg (by rw [h2]; simp), if_neg (by rw [h3]; simp), if_neg (by rw [h4]; simp)]
theorem canon_name {t : ByteArray} (h : IsName t) : canonB t = (t, 0) := by
  have e := lower_fix h.low
  have := canon_mk (s := t) ((plainB_iff _).2 h.plain) (by rw [e]; exact h)
  rw [e] at this
  exact this
theorem right_name {t : ByteArray} (h : IsName t) : rightB t = true := by
  unfold rightB
  rw [canon_name h]
  simp

theorem labels_last (l : List ByteArray) (hl : l ≠ []) : labelsOf l = if 1 < l.length ∧ l.getLast hl = ByteArray.empty then l.take (l.length - 1) else l := by
  unfold labelsOf
  have hp : 0 < l.length := List.length_pos_iff.2 hl
  have e : rdOf ByteArray.empty l ((l.length : Int) - 1) = l.getLast hl := by
    rw [show (l.length : Int) - 1 = ((l.length - 1 : Nat) : Int) by omega, rd_at (by omega), List.getLast_eq_getElem]
  rw [e]
  have : ((l.getLast hl).toList.isEmpty = true) = (l.getLast hl = ByteArray.empty) := by
    rw [eq_iff_iff, List.isEmpty_iff, ByteArray.toList_eq]
    constructor
    · intro h; exact byte_ext (by rw [h]; rfl)
    · intro h; rw [h]; rfl
  by_cases hc : 1 < l.length ∧ l.getLast hl = ByteArray.empty
  · rw [if_pos hc, if_pos ⟨hc.1, this.mpr hc.2⟩]
  · rw [if_neg hc, if_neg (fun h => hc ⟨h.1, this.mp h.2⟩)]
theorem split_single {l p : List UInt8} : splitL l = [p] → l = p := by
  induction l generalizing p with
  | nil => intro h; simp [splitL] at h; exact h.symm ▸ rfl
  | cons c l ih =>
    intro h
    unfold splitL at h
    split at h
    · simp only [List.cons.injEq] at h
      exact absurd h.2 (splitL_ne l)
    · cases hs : splitL l with
      | nil => exact absurd hs (splitL_ne l)
      | cons a t =>
        rw [hs] at h
        simp only [glue, List.cons.injEq] at h
        obtain ⟨h1, rfl⟩ := h
        rw [ih hs, ← h1]
        rfl
theorem labels_join (u : ByteArray) {v : ByteArray} (hv : v.size ≠ 0) : labelsB (u ++ dotB ++ v) = splitB u ++ labelsB v := by
  have hA := splitB_ne u
  have hB := splitB_ne v
  unfold labelsB
  rw [split_join, labels_last _ (by simp [hA]), labels_last _ hB, List.getLast_append_of_ne_nil (by simp [hA]) hB]
  have hp : 0 < (splitB u).length := List.length_pos_iff.2 hA
  have hq : 0 < (splitB v).length := List.length_pos_iff.2 hB
  by_cases h1 : (splitB v).getLast hB = ByteArray.empty
  · by_cases h2 : 1 < (splitB v).length
    · rw [if_pos ⟨by rw [List.length_append]; omega, h1⟩, if_pos ⟨h2, h1⟩, List.length_append, List.take_append, List.take_of_length_le (by omega)]
      congr 2
      omega
    · exfalso
      obtain ⟨b, hb⟩ : ∃ b, splitB v = [b] := List.length_eq_one_iff.1 (by omega)
      have h3 : b = ByteArray.empty := by
        have : (splitB v).getLast hB = b := by simp [hb]
        rw [← this]; exact h1
      have h4 := split_list v
      rw [hb, h3] at h4
      have h5 := split_single h4.symm
      apply hv
      have h6 : v.data.toList.length = v.size := Array.length_toList
      rw [← h6, h5]
      rfl
  · rw [if_neg (fun h => h1 h.2), if_neg (fun h => h1 h.2)]
theorem labels_open {u : ByteArray} (hu : u.size ≠ 0) (h : u.data.toList.getLast? ≠ some 46) : labelsB u = splitB u := by
  unfold labelsB
  rw [labels_last _ (splitB_ne u), if_neg]
  rintro ⟨_, h1⟩
  have h2 : (splitL u.data.toList).getLast? = some [] := by
    rw [← split_list, List.getLast?_map, List.getLast?_eq_some_getLast (splitB_ne u), h1]
    rfl
  rcases splitL_last _ h2 with h3 | h3
  · apply hu
    have h6 : u.data.toList.length = u.size := Array.length_toList
    rw [← h6, h3]
    rfl
  · exact h h3
theorem labels_sub {x w : ByteArray} (h : w ∈ labelsB x) : w ∈ splitB x := by
  unfold labelsB at h
  rw [labels_last _ (splitB_ne x)] at h
  split at h
  · exact List.mem_of_mem_take h
  · exact h
theorem trim_le (t : ByteArray) (hs : t.size ≤ 1000) : (trimB t).size ≤ t.size := by
  rw [trimB_eq t hs]
  split
  · split
    · rw [ByteArray.size_extract]; omega
    · omega
  · omega
theorem name_pos {t : ByteArray} (h : IsName t) : t.size ≠ 0 := by
  intro h0
  have : t = ByteArray.empty := byte_ext (by
    have h6 : t.data.toList.length = t.size := Array.length_toList
    rw [h0] at h6
    exact List.eq_nil_of_length_eq_zero h6)
  subst this
  have h1 := h.lab ByteArray.empty (by
    have : labelsB ByteArray.empty = [ByteArray.empty] := rfl
    rw [this]; exact List.mem_cons_self)
  rw [okLab_iff] at h1
  exact absurd h1 (by decide)
theorem mem_join {u v : ByteArray} {c : UInt8} (h : c ∈ (u ++ dotB ++ v).data.toList) : c ∈ u.data.toList ∨ c = 46 ∨ c ∈ v.data.toList := by
  rw [join_list] at h
  rcases List.mem_append.1 h with h | h
  · exact Or.inl h
  · rcases List.mem_cons.1 h with h | h
    · exact Or.inr (Or.inl h)
    · exact Or.inr (Or.inr h)
theorem byteOf_dot : byteOfB ((46 : UInt8).toNat : Int) = true := by kernel_rfl
theorem join_size (u v : ByteArray) : (u ++ dotB ++ v).size = u.size + v.size + 1 := by
  rw [ByteArray.size_append, ByteArray.size_append]
  have : dotB.size = 1 := rfl
  omega
theorem join_name {u v : ByteArray} (hu : IsName u) (hv : IsName v) (hl : labelsB u = splitB u) (hz : u.size + v.size ≤ 252) : IsName (u ++ dotB ++ v) ∧ labelsB (u ++ dotB ++ v) = labelsB u ++ labelsB v := by
  have hlab := labels_join u (name_pos hv)
  rw [← hl] at hlab
  refine ⟨⟨?_, ?_, ?_, ?_, ?_, ?_⟩, hlab⟩
  · intro c hc
    rcases mem_join hc with h | rfl | h
    · exact hu.plain c h
    · decide
    · exact hv.plain c h
  · intro c hc
    rcases mem_join hc with h | rfl | h
    · exact hu.low c h
    · rfl
    · exact hv.low c h
  · intro c hc
    rcases mem_join hc with h | rfl | h
    · exact hu.ok c h
    · exact byteOf_dot
    · exact hv.ok c h
  · rw [hlab]
    intro w hw
    rcases List.mem_append.1 hw with h | h
    · exact hu.lab w h
    · exact hv.lab w h
  · have := trim_le (u ++ dotB ++ v) (by rw [join_size]; omega)
    rw [join_size] at this
    omega
  · rw [hlab]
    intro w hw
    rcases List.mem_append.1 hw with h | h
    · exact hu.xn w h
    · exact hv.xn w h
theorem label_name {x w : ByteArray} (hx : IsName x) (hw : w ∈ labelsB x) : IsName w := by
  have hs := split_free (labels_sub hw)
  have hone : labelsB w = [w] := by
    unfold labelsB
    rw [split_one (fun c hc => (hs c hc).1)]
    rfl
  have hk := hx.lab w hw
  have hk2 := hk
  rw [okLab_iff, Bool.and_eq_true] at hk2
  have h63 := of_decide_eq_true hk2.2
  refine ⟨fun c hc => hx.plain c (hs c hc).2, fun c hc => hx.low c (hs c hc).2, fun c hc => hx.ok c (hs c hc).2, ?_, ?_, ?_⟩
  · rw [hone]
    intro y hy
    rw [List.mem_singleton.1 hy]; exact hk
  · have := trim_le w (by omega)
    omega
  · rw [hone]
    intro y hy
    rw [List.mem_singleton.1 hy]; exact hx.xn w hw
end Go.Proofs.YtdbnanbeaeafdaaGreatDoor
