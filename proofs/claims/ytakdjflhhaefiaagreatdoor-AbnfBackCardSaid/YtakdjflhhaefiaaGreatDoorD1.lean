/- Paths without points, by lists of bytes: no program stands here. -/
import Derived.Lib.LastIndexByte
import Derived.Lib.Bytealg
import Derived.Lib.Strings
import Derived.Lib.Repeat
import Derived.Lib.Join
set_option linter.unusedVariables false
set_option linter.unusedSimpArgs false
namespace Go.Proofs.YtakdjflhhaefiaaGreatDoor
open Go

/-! ## Cutting at a byte -/
def glueC (b : UInt8) : List (List UInt8) → List (List UInt8)
  | [] => [[b]]
  | h :: t => (b :: h) :: t
def spl (c : UInt8) : List UInt8 → List (List UInt8)
  | [] => [[]]
  | b :: l => if b = c then [] :: spl c l else glueC b (spl c l)
theorem spl_nil (c : UInt8) : spl c [] = [[]] := rfl
theorem spl_cons (c b : UInt8) (l : List UInt8) : spl c (b :: l) = if b = c then [] :: spl c l else glueC b (spl c l) := rfl
theorem glueC_ne (b : UInt8) (l : List (List UInt8)) : glueC b l ≠ [] := by cases l <;> simp [glueC]
theorem spl_ne (c : UInt8) : ∀ l, spl c l ≠ []
  | [] => by simp [spl]
  | b :: l => by
    unfold spl
    split
    · simp
    · exact glueC_ne _ _
theorem spl_free (c : UInt8) : ∀ (l : List UInt8) (x : List UInt8), x ∈ spl c l → c ∉ x
  | [], x, h => by simp [spl] at h; subst h; simp
  | b :: l, x, h => by
    unfold spl at h
    split at h
    · rcases List.mem_cons.1 h with rfl | h
      · simp
      · exact spl_free c l x h
    · rename_i hb
      cases hs : spl c l with
      | nil => exact absurd hs (spl_ne c l)
      | cons a t =>
        rw [hs] at h
        rcases List.mem_cons.1 h with rfl | h
        · have := spl_free c l a (by rw [hs]; exact List.mem_cons_self)
          intro hc
          rcases List.mem_cons.1 hc with rfl | hc
          · exact hb rfl
          · exact this hc
        · exact spl_free c l x (by rw [hs]; exact List.mem_cons_of_mem _ h)
theorem spl_glue (c : UInt8) : ∀ (x r : List UInt8), c ∉ x → ∀ h t, spl c r = h :: t → spl c (x ++ r) = (x ++ h) :: t
  | [], r, _, h, t, e => e
  | b :: x, r, hx, h, t, e => by
    have hb : b ≠ c := fun hh => hx (by rw [hh]; exact List.mem_cons_self)
    have ih := spl_glue c x r (fun hh => hx (List.mem_cons_of_mem _ hh)) h t e
    show spl c (b :: (x ++ r)) = _
    rw [spl_cons, if_neg hb, ih]
    rfl
theorem spl_one (c : UInt8) (x : List UInt8) (hx : c ∉ x) : spl c x = [x] := by
  have := spl_glue c x [] hx [] [] rfl
  simpa using this
theorem spl_append (c : UInt8) : ∀ (u v : List UInt8), spl c (u ++ c :: v) = spl c u ++ spl c v
  | [], v => by show spl c (c :: v) = _; rw [spl_cons, if_pos rfl]; rfl
  | b :: u, v => by
    have ih := spl_append c u v
    show spl c (b :: (u ++ c :: v)) = spl c (b :: u) ++ spl c v
    rw [spl_cons, spl_cons, ih]
    split
    · rfl
    · cases hs : spl c u with
      | nil => exact absurd hs (spl_ne c u)
      | cons a t => rfl

/-! ## Steps of a path -/
/-- Steps, each with the slash ahead of it. -/
def jn (xs : List (List UInt8)) : List UInt8 := xs.flatMap (47 :: ·)
/-- Steps with slashes between. -/
def rel : List (List UInt8) → List UInt8
  | [] => []
  | x :: xs => x ++ jn xs
theorem jn_nil : jn [] = [] := rfl
theorem jn_cons (x : List UInt8) (xs : List (List UInt8)) : jn (x :: xs) = 47 :: (x ++ jn xs) := rfl
theorem jn_rel (x : List UInt8) (xs : List (List UInt8)) : jn (x :: xs) = 47 :: rel (x :: xs) := rfl
theorem jn_append (xs ys : List (List UInt8)) : jn (xs ++ ys) = jn xs ++ jn ys := by simp [jn]
theorem rel_spl : ∀ l, rel (spl 47 l) = l
  | [] => rfl
  | b :: l => by
    have ih := rel_spl l
    rw [spl_cons]
    cases hs : spl 47 l with
    | nil => exact absurd hs (spl_ne 47 l)
    | cons a t =>
      rw [hs] at ih
      split
      · rename_i hb
        subst hb
        show [] ++ jn (a :: t) = _
        rw [jn_rel, ih]; rfl
      · show (b :: a) ++ jn t = _
        have : a ++ jn t = l := ih
        rw [List.cons_append, this]
theorem spl_rel : ∀ (xs : List (List UInt8)), xs ≠ [] → (∀ x ∈ xs, (47 : UInt8) ∉ x) → spl 47 (rel xs) = xs
  | [], h, _ => absurd rfl h
  | [x], _, hf => by
    show spl 47 (x ++ []) = _
    rw [List.append_nil]
    exact spl_one 47 x (hf x List.mem_cons_self)
  | x :: y :: r, _, hf => by
    have ih := spl_rel (y :: r) (by simp) (fun z hz => hf z (List.mem_cons_of_mem _ hz))
    show spl 47 (x ++ jn (y :: r)) = _
    rw [jn_rel, spl_append, ih, spl_one 47 x (hf x List.mem_cons_self)]
    rfl

/-! ## One step back -/
def backL (o : List UInt8) : List UInt8 := rel (spl 47 o).dropLast
theorem backL_nil : backL [] = [] := rfl
theorem backL_none {o : List UInt8} (h : (47 : UInt8) ∉ o) : backL o = [] := by
  unfold backL; rw [spl_one 47 o h]; rfl
theorem backL_slash (u v : List UInt8) (h : (47 : UInt8) ∉ v) : backL (u ++ 47 :: v) = u := by
  unfold backL
  rw [spl_append, spl_one 47 v h, List.dropLast_concat, rel_spl]
theorem slash_or (o : List UInt8) : (47 : UInt8) ∉ o ∨ ∃ u v, o = u ++ 47 :: v ∧ (47 : UInt8) ∉ v := by
  induction o with
  | nil => exact .inl (by simp)
  | cons b l ih =>
    rcases ih with h | ⟨u, v, rfl, hv⟩
    · by_cases hb : b = 47
      · subst hb; exact .inr ⟨[], l, rfl, h⟩
      · exact .inl (by simp [h]; exact fun hh => hb hh.symm)
    · exact .inr ⟨b :: u, v, rfl, hv⟩
theorem backL_spl (o : List UInt8) : spl 47 (backL o) = [[]] ∨ spl 47 (backL o) = (spl 47 o).dropLast := by
  rcases slash_or o with h | ⟨u, v, rfl, hv⟩
  · rw [backL_none h]; exact .inl rfl
  · rw [backL_slash u v hv, spl_append, spl_one 47 v hv, List.dropLast_concat]; exact .inr rfl
theorem backL_len (o : List UInt8) : (backL o).length ≤ o.length := by
  rcases slash_or o with h | ⟨u, v, rfl, hv⟩
  · rw [backL_none h]; simp
  · rw [backL_slash u v hv]; simp
theorem backL_head (o : List UInt8) (h : o = [] ∨ o.head? = some 47) : backL o = [] ∨ (backL o).head? = some 47 := by
  rcases slash_or o with h1 | ⟨u, v, rfl, hv⟩
  · rw [backL_none h1]; exact .inl rfl
  · rw [backL_slash u v hv]
    cases u with
    | nil => exact .inl rfl
    | cons a t =>
      rcases h with h | h
      · cases h
      · exact .inr (by simpa using h)

/-! ## One round of Remove -/
def headN (p : List UInt8) : Nat := (p.tail.takeWhile (fun b => b ≠ 47)).length + 1
def stepL (o p : List UInt8) : List UInt8 × List UInt8 :=
  if Lib.hasPrefix p [46, 46, 47] = true then (o, p.drop 3)
  else if Lib.hasPrefix p [46, 47] = true then (o, p.drop 2)
  else if Lib.hasPrefix p [47, 46, 47] = true then (o, p.drop 2)
  else if p = [47, 46] then (o, [47])
  else if Lib.hasPrefix p [47, 46, 46, 47] = true then (backL o, p.drop 3)
  else if p = [47, 46, 46] then (backL o, [47])
  else if p = [46] ∨ p = [46, 46] then (o, [])
  else (o ++ p.take (headN p), p.drop (headN p))
theorem hp_len {p q : List UInt8} (h : Lib.hasPrefix p q = true) : q.length ≤ p.length := by
  unfold Lib.hasPrefix at h
  exact (List.isPrefixOf_iff_prefix.1 h).length_le
theorem step_lt (o : List UInt8) {p : List UInt8} (hp : p ≠ []) : (stepL o p).2.length < p.length := by
  have hl : 0 < p.length := List.length_pos_iff.2 hp
  unfold stepL
  split
  · rename_i h; have := hp_len h; simp at this ⊢; omega
  split
  · rename_i h; have := hp_len h; simp at this ⊢; omega
  split
  · rename_i h; have := hp_len h; simp at this ⊢; omega
  split
  · rename_i h; rw [h]; simp
  split
  · rename_i h; have := hp_len h; simp at this ⊢; omega
  split
  · rename_i h; rw [h]; simp
  split
  · exact hl
  · simp [headN]; omega
theorem step_le (o p : List UInt8) : (stepL o p).1.length + (stepL o p).2.length ≤ o.length + p.length := by
  have hb := backL_len o
  unfold stepL
  split
  · (simp; try omega)
  split
  · (simp; try omega)
  split
  · (simp; try omega)
  split
  · rename_i h; rw [h]; simp
  split
  · (simp; try omega)
  split
  · rename_i h; rw [h]; (simp; try omega)
  split
  · simp
  · (simp; try omega)

def rmF : Nat → List UInt8 → List UInt8 → List UInt8
  | 0, o, _ => o
  | k + 1, o, p => if p = [] then o else rmF k (stepL o p).1 (stepL o p).2
theorem rmF_enough : ∀ (n k : Nat) (o p : List UInt8), p.length ≤ n → p.length ≤ k → rmF k o p = rmF n o p
  | 0, 0, _, _, _, _ => rfl
  | 0, k + 1, o, p, h, _ => by
    have : p = [] := List.eq_nil_of_length_eq_zero (by omega)
    subst this; simp [rmF]
  | n + 1, 0, o, p, _, h => by
    have : p = [] := List.eq_nil_of_length_eq_zero (by omega)
    subst this; simp [rmF]
  | n + 1, k + 1, o, p, h1, h2 => by
    unfold rmF
    split
    · rfl
    · rename_i hp
      have := step_lt o hp
      exact rmF_enough n k _ _ (by omega) (by omega)
def rm (o p : List UInt8) : List UInt8 := rmF p.length o p
theorem rm_nil (o : List UInt8) : rm o [] = o := rfl
theorem rm_step (o : List UInt8) {p : List UInt8} (hp : p ≠ []) : rm o p = rm (stepL o p).1 (stepL o p).2 := by
  have h := step_lt o hp
  have : rm o p = rmF (p.length + 1) o p := rmF_enough _ _ _ _ (Nat.le_refl _) (Nat.le_succ _) |>.symm
  rw [this]
  show (if p = [] then o else rmF p.length (stepL o p).1 (stepL o p).2) = _
  rw [if_neg hp]
  exact rmF_enough _ _ _ _ (Nat.le_refl _) (by omega)
theorem rmF_len : ∀ (k : Nat) (o p : List UInt8), (rmF k o p).length ≤ o.length + p.length
  | 0, o, p => by simp [rmF]
  | k + 1, o, p => by
    unfold rmF
    split
    · omega
    · have := rmF_len k (stepL o p).1 (stepL o p).2
      have := step_le o p
      omega
theorem rm_len (o p : List UInt8) : (rm o p).length ≤ o.length + p.length := rmF_len _ o p

/-! ## The rounds, step by step -/
theorem step_dot (o r : List UInt8) : stepL o (47 :: 46 :: 47 :: r) = (o, 47 :: r) := by simp [stepL, Lib.hasPrefix]
theorem step_dots (o r : List UInt8) : stepL o (47 :: 46 :: 46 :: 47 :: r) = (backL o, 47 :: r) := by simp [stepL, Lib.hasPrefix]
theorem step_dotE (o : List UInt8) : stepL o [47, 46] = (o, [47]) := by simp [stepL, Lib.hasPrefix]
theorem step_dotsE (o : List UInt8) : stepL o [47, 46, 46] = (backL o, [47]) := by simp [stepL, Lib.hasPrefix]
theorem step_relDot (o r : List UInt8) : stepL o (46 :: 47 :: r) = (o, r) := by simp [stepL, Lib.hasPrefix]
theorem step_relDots (o r : List UInt8) : stepL o (46 :: 46 :: 47 :: r) = (o, r) := by simp [stepL, Lib.hasPrefix]
theorem step_relDotE (o : List UInt8) : stepL o [46] = (o, []) := by simp [stepL, Lib.hasPrefix]
theorem step_relDotsE (o : List UInt8) : stepL o [46, 46] = (o, []) := by simp [stepL, Lib.hasPrefix]
theorem takeWhile_word (x r : List UInt8) (hx : (47 : UInt8) ∉ x) (hr : r = [] ∨ ∃ r', r = 47 :: r') : (x ++ r).takeWhile (fun b => b ≠ 47) = x := by
  induction x with
  | nil =>
    rcases hr with rfl | ⟨r', rfl⟩
    · rfl
    · simp
  | cons b x ih =>
    have hb : b ≠ 47 := fun hh => hx (by rw [hh]; exact List.mem_cons_self)
    have := ih (fun hh => hx (List.mem_cons_of_mem _ hh))
    rw [List.cons_append, List.takeWhile_cons_of_pos (by simpa using hb), this]
theorem step_word (o x r : List UInt8) (hx : (47 : UInt8) ∉ x) (h1 : x ≠ [46]) (h2 : x ≠ [46, 46]) (hr : r = [] ∨ ∃ r', r = 47 :: r') : stepL o (47 :: (x ++ r)) = (o ++ 47 :: x, r) := by
  have hn : headN (47 :: (x ++ r)) = x.length + 1 := by
    unfold headN
    rw [List.tail_cons, takeWhile_word x r hx hr]
  have e : (47 :: (x ++ r)).take (x.length + 1) = 47 :: x := by simp
  have e2 : (47 :: (x ++ r)).drop (x.length + 1) = r := by simp
  have n1 : Lib.hasPrefix (47 :: (x ++ r)) [46, 46, 47] = false := by simp [Lib.hasPrefix, List.isPrefixOf]
  have n2 : Lib.hasPrefix (47 :: (x ++ r)) [46, 47] = false := by simp [Lib.hasPrefix, List.isPrefixOf]
  have n3 : Lib.hasPrefix (47 :: (x ++ r)) [47, 46, 47] = false := by
    rcases x with _ | ⟨a, _ | ⟨b, t⟩⟩
    · rcases hr with rfl | ⟨r', rfl⟩ <;> simp [Lib.hasPrefix, List.isPrefixOf]
    · have : ¬ (46 : UInt8) = a := fun hh => h1 (by rw [hh])
      simp [Lib.hasPrefix, List.isPrefixOf, this]
    · have : ¬ (47 : UInt8) = b := fun hh => hx (by rw [hh]; simp)
      simp [Lib.hasPrefix, List.isPrefixOf, this]
  have n4 : (47 :: (x ++ r)) ≠ [47, 46] := by
    rcases x with _ | ⟨a, _ | ⟨b, t⟩⟩
    · rcases hr with rfl | ⟨r', rfl⟩ <;> simp
    · intro hh; simp at hh; exact h1 (by rw [hh.1])
    · simp
  have n5 : Lib.hasPrefix (47 :: (x ++ r)) [47, 46, 46, 47] = false := by
    rcases x with _ | ⟨a, _ | ⟨b, _ | ⟨c, t⟩⟩⟩
    · rcases hr with rfl | ⟨r', rfl⟩ <;> simp [Lib.hasPrefix, List.isPrefixOf]
    · rcases hr with rfl | ⟨r', rfl⟩ <;> simp [Lib.hasPrefix, List.isPrefixOf]
    · have : ¬ ((46 : UInt8) = a ∧ (46 : UInt8) = b) := fun hh => h2 (by rw [hh.1, ← hh.2, hh.1])
      simp only [Lib.hasPrefix, List.isPrefixOf, List.cons_append]
      simp
      intro ha hb; exact absurd ⟨ha, hb⟩ this
    · have : ¬ (47 : UInt8) = c := fun hh => hx (by rw [hh]; simp)
      simp [Lib.hasPrefix, List.isPrefixOf, this]
  have n6 : (47 :: (x ++ r)) ≠ [47, 46, 46] := by
    rcases x with _ | ⟨a, _ | ⟨b, _ | ⟨c, t⟩⟩⟩
    · rcases hr with rfl | ⟨r', rfl⟩ <;> simp
    · rcases hr with rfl | ⟨r', rfl⟩ <;> simp
    · intro hh; simp at hh; exact h2 (by rw [hh.1, hh.2.1])
    · simp
  unfold stepL
  rw [n1, n2, n3, n5, if_neg (by simp), if_neg (by simp), if_neg (by simp), if_neg n4, if_neg (by simp), if_neg n6, if_neg (by simp), hn, e, e2]
theorem step_rel (o x r : List UInt8) (hx : (47 : UInt8) ∉ x) (h0 : x ≠ []) (h1 : x ≠ [46]) (h2 : x ≠ [46, 46]) (hr : r = [] ∨ ∃ r', r = 47 :: r') : stepL o (x ++ r) = (o ++ x, r) := by
  obtain ⟨a, t, rfl⟩ : ∃ a t, x = a :: t := by cases x with | nil => exact absurd rfl h0 | cons a t => exact ⟨a, t, rfl⟩
  have ha : ¬ a = 47 := fun hh => hx (by rw [hh]; simp)
  have ha' : ¬ (47 : UInt8) = a := fun hh => ha hh.symm
  have ht : (47 : UInt8) ∉ t := fun hh => hx (List.mem_cons_of_mem _ hh)
  have hn : headN (a :: t ++ r) = t.length + 1 := by
    unfold headN
    rw [List.cons_append, List.tail_cons, takeWhile_word t r ht hr]
  have e : (a :: t ++ r).take (t.length + 1) = a :: t := by simp
  have e2 : (a :: t ++ r).drop (t.length + 1) = r := by simp
  have n1 : Lib.hasPrefix (a :: t ++ r) [46, 46, 47] = false := by
    rcases t with _ | ⟨b, _ | ⟨c, t⟩⟩
    · rcases hr with rfl | ⟨r', rfl⟩ <;> simp [Lib.hasPrefix, List.isPrefixOf]
    · have : ¬ ((46 : UInt8) = a ∧ (46 : UInt8) = b) := fun hh => h2 (by rw [hh.1, ← hh.2, hh.1])
      simp only [Lib.hasPrefix, List.isPrefixOf, List.cons_append]
      simp
      intro ha hb; exact absurd ⟨ha, hb⟩ this
    · have : ¬ (47 : UInt8) = c := fun hh => hx (by rw [hh]; simp)
      simp [Lib.hasPrefix, List.isPrefixOf, this]
  have n2 : Lib.hasPrefix (a :: t ++ r) [46, 47] = false := by
    rcases t with _ | ⟨b, t⟩
    · have : ¬ (46 : UInt8) = a := fun hh => h1 (by rw [hh])
      simp [Lib.hasPrefix, List.isPrefixOf, this]
    · have : ¬ (47 : UInt8) = b := fun hh => hx (by rw [hh]; simp)
      simp [Lib.hasPrefix, List.isPrefixOf, this]
  have n3 : Lib.hasPrefix (a :: t ++ r) [47, 46, 47] = false := by simp [Lib.hasPrefix, List.isPrefixOf, ha']
  have n4 : (a :: t ++ r) ≠ [47, 46] := by intro hh; simp at hh; exact ha hh.1
  have n5 : Lib.hasPrefix (a :: t ++ r) [47, 46, 46, 47] = false := by simp [Lib.hasPrefix, List.isPrefixOf, ha']
  have n6 : (a :: t ++ r) ≠ [47, 46, 46] := by intro hh; simp at hh; exact ha hh.1
  have n7 : ¬ ((a :: t ++ r) = [46] ∨ (a :: t ++ r) = [46, 46]) := by
    rintro (hh | hh)
    · rcases t with _ | ⟨b, t⟩
      · simp at hh; exact h1 (by rw [hh.1])
      · simp at hh
    · rcases t with _ | ⟨b, _ | ⟨c, t⟩⟩
      · rcases hr with rfl | ⟨r', rfl⟩ <;> simp at hh
      · simp at hh; exact h2 (by rw [hh.1, hh.2.1])
      · simp at hh
  unfold stepL
  rw [n1, n2, n3, n5, if_neg (by simp), if_neg (by simp), if_neg (by simp), if_neg n4, if_neg (by simp), if_neg n6, if_neg n7, hn, e, e2]

/-! ## By steps -/
def act (o x : List UInt8) : List UInt8 := if x = [46] then o else if x = [46, 46] then backL o else o ++ 47 :: x
def lastA (o x : List UInt8) : List UInt8 := if x = [46] then o ++ [47] else if x = [46, 46] then backL o ++ [47] else o ++ 47 :: x
def walkS : List UInt8 → List (List UInt8) → List UInt8
  | o, [] => o
  | o, [x] => lastA o x
  | o, x :: y :: r => walkS (act o x) (y :: r)
theorem jn_head (xs : List (List UInt8)) : jn xs = [] ∨ ∃ r', jn xs = 47 :: r' := by
  cases xs with
  | nil => exact .inl rfl
  | cons x xs => exact .inr ⟨_, rfl⟩
theorem rm_slash (o : List UInt8) : rm o [47] = o ++ [47] := by
  rw [rm_step o (by simp)]
  have := step_word o [] [] (by simp) (by simp) (by simp) (.inl rfl)
  simp only [List.append_nil] at this
  rw [this]; rfl
theorem rm_jn : ∀ (xs : List (List UInt8)) (o : List UInt8), (∀ x ∈ xs, (47 : UInt8) ∉ x) → rm o (jn xs) = walkS o xs
  | [], o, _ => rfl
  | [x], o, hf => by
    have hx := hf x List.mem_cons_self
    have e : jn [x] = 47 :: (x ++ []) := rfl
    rw [e]
    show _ = lastA o x
    unfold lastA
    by_cases h1 : x = [46]
    · subst h1
      rw [if_pos rfl, rm_step o (by simp)]
      show rm (stepL o [47, 46]).1 (stepL o [47, 46]).2 = _
      rw [step_dotE]; exact rm_slash o
    · rw [if_neg h1]
      by_cases h2 : x = [46, 46]
      · subst h2
        rw [if_pos rfl, rm_step o (by simp)]
        show rm (stepL o [47, 46, 46]).1 (stepL o [47, 46, 46]).2 = _
        rw [step_dotsE]; exact rm_slash _
      · rw [if_neg h2, rm_step o (by simp), step_word o x [] hx h1 h2 (.inl rfl)]
        rfl
  | x :: y :: r, o, hf => by
    have hx := hf x List.mem_cons_self
    have ih := fun o => rm_jn (y :: r) o (fun z hz => hf z (List.mem_cons_of_mem _ hz))
    show _ = walkS (act o x) (y :: r)
    rw [← ih, jn_cons]
    unfold act
    by_cases h1 : x = [46]
    · subst h1
      rw [if_pos rfl, rm_step o (by simp)]
      show rm (stepL o (47 :: 46 :: 47 :: (y ++ jn r))).1 (stepL o (47 :: 46 :: 47 :: (y ++ jn r))).2 = _
      rw [step_dot]; rfl
    · rw [if_neg h1]
      by_cases h2 : x = [46, 46]
      · subst h2
        rw [if_pos rfl, rm_step o (by simp)]
        show rm (stepL o (47 :: 46 :: 46 :: 47 :: (y ++ jn r))).1 (stepL o (47 :: 46 :: 46 :: 47 :: (y ++ jn r))).2 = _
        rw [step_dots]; rfl
      · rw [if_neg h2, rm_step o (by simp), step_word o x _ hx h1 h2 (jn_head (y :: r))]
def relS : List UInt8 → List (List UInt8) → List UInt8
  | o, [] => o
  | o, x :: xs => if x = [46] ∨ x = [46, 46] then relS o xs else walkS (o ++ x) xs
theorem rm_rel : ∀ (xs : List (List UInt8)) (o : List UInt8), (∀ x ∈ xs, (47 : UInt8) ∉ x) → rm o (rel xs) = relS o xs
  | [], o, _ => rfl
  | x :: xs, o, hf => by
    have hx := hf x List.mem_cons_self
    have hxs := fun z hz => hf z (List.mem_cons_of_mem x hz)
    have ih := rm_rel xs o hxs
    unfold relS
    by_cases h1 : x = [46]
    · subst h1
      rw [if_pos (.inl rfl), ← ih]
      cases xs with
      | nil =>
        show rm o [46] = _
        rw [rm_step o (by simp), step_relDotE]; rfl
      | cons y r =>
        show rm o (46 :: 47 :: (y ++ jn r)) = _
        rw [rm_step o (by simp), step_relDot]; rfl
    · by_cases h2 : x = [46, 46]
      · subst h2
        rw [if_pos (.inr rfl), ← ih]
        cases xs with
        | nil =>
          show rm o [46, 46] = _
          rw [rm_step o (by simp), step_relDotsE]; rfl
        | cons y r =>
          show rm o (46 :: 46 :: 47 :: (y ++ jn r)) = _
          rw [rm_step o (by simp), step_relDots]; rfl
      · rw [if_neg (by simp [h1, h2])]
        by_cases h0 : x = []
        · subst h0
          rw [List.append_nil]
          exact rm_jn xs o hxs
        · show rm o (x ++ jn xs) = _
          rw [rm_step o (by simp [h0]), step_rel o x _ hx h0 h1 h2 (jn_head xs)]
          exact rm_jn xs _ hxs

def remL (p : List UInt8) : List UInt8 := rm [] p
theorem remL_eq (p : List UInt8) : remL p = relS [] (spl 47 p) := by
  have := rm_rel (spl 47 p) [] (fun x hx => spl_free 47 p x hx)
  rw [rel_spl] at this
  exact this

/-! ## What is without points -/
def goodS (o : List UInt8) : Prop := ∀ x ∈ spl 47 o, x ≠ [46] ∧ x ≠ [46, 46]
theorem good_nil : goodS [] := by intro x hx; simp [spl] at hx; subst hx; simp
theorem good_add {o x : List UInt8} (h : goodS o) (hx : (47 : UInt8) ∉ x) (h1 : x ≠ [46]) (h2 : x ≠ [46, 46]) : goodS (o ++ 47 :: x) := by
  intro y hy
  rw [spl_append, spl_one 47 x hx] at hy
  rcases List.mem_append.1 hy with hy | hy
  · exact h y hy
  · simp at hy; subst hy; exact ⟨h1, h2⟩
theorem good_back {o : List UInt8} (h : goodS o) : goodS (backL o) := by
  intro y hy
  rcases backL_spl o with e | e
  · rw [e] at hy; simp at hy; subst hy; simp
  · rw [e] at hy; exact h y (List.dropLast_subset _ hy)
theorem good_walk : ∀ (xs : List (List UInt8)) (o : List UInt8), (∀ x ∈ xs, (47 : UInt8) ∉ x) → goodS o → goodS (walkS o xs)
  | [], o, _, h => h
  | [x], o, hf, h => by
    show goodS (lastA o x)
    unfold lastA
    split
    · exact good_add h (by simp) (by simp) (by simp)
    · split
      · exact good_add (good_back h) (by simp) (by simp) (by simp)
      · rename_i h1 h2; exact good_add h (hf x List.mem_cons_self) h1 h2
  | x :: y :: r, o, hf, h => by
    show goodS (walkS (act o x) (y :: r))
    refine good_walk (y :: r) _ (fun z hz => hf z (List.mem_cons_of_mem _ hz)) ?_
    unfold act
    split
    · exact h
    · split
      · exact good_back h
      · rename_i h1 h2; exact good_add h (hf x List.mem_cons_self) h1 h2
theorem good_rel : ∀ (xs : List (List UInt8)), (∀ x ∈ xs, (47 : UInt8) ∉ x) → goodS (relS [] xs)
  | [], _ => good_nil
  | x :: xs, hf => by
    have hxs := fun z hz => hf z (List.mem_cons_of_mem x hz)
    unfold relS
    split
    · exact good_rel xs hxs
    · rename_i h
      refine good_walk xs _ hxs ?_
      intro y hy
      rw [List.nil_append, spl_one 47 x (hf x List.mem_cons_self)] at hy
      simp at hy; subst hy
      exact ⟨fun hh => h (.inl hh), fun hh => h (.inr hh)⟩
theorem remL_good (p : List UInt8) : goodS (remL p) := by
  rw [remL_eq]; exact good_rel _ (fun x hx => spl_free 47 p x hx)
theorem walk_good : ∀ (xs : List (List UInt8)) (o : List UInt8), (∀ x ∈ xs, x ≠ [46] ∧ x ≠ [46, 46]) → walkS o xs = o ++ jn xs
  | [], o, _ => by simp [walkS, jn]
  | [x], o, h => by
    have := h x List.mem_cons_self
    show lastA o x = _
    unfold lastA
    rw [if_neg this.1, if_neg this.2]; simp [jn]
  | x :: y :: r, o, h => by
    have hx := h x List.mem_cons_self
    show walkS (act o x) (y :: r) = _
    rw [walk_good (y :: r) _ (fun z hz => h z (List.mem_cons_of_mem _ hz))]
    unfold act
    rw [if_neg hx.1, if_neg hx.2]; simp [jn]
theorem remL_same {s : List UInt8} (h : goodS s) : remL s = s := by
  rw [remL_eq]
  have e := rel_spl s
  unfold goodS at h
  cases hs : spl 47 s with
  | nil => exact absurd hs (spl_ne 47 s)
  | cons x xs =>
    rw [hs] at h e
    have hx := h x List.mem_cons_self
    unfold relS
    rw [if_neg (by simp [hx]), walk_good xs _ (fun z hz => h z (List.mem_cons_of_mem _ hz)), List.nil_append]
    exact e
theorem remL_again (p : List UInt8) : remL (remL p) = remL p := remL_same (remL_good p)
theorem remL_len (p : List UInt8) : (remL p).length ≤ p.length := by
  have := rm_len [] p
  rw [List.length_nil, Nat.zero_add] at this
  exact this
theorem walk_head : ∀ (xs : List (List UInt8)) (o : List UInt8), xs ≠ [] → (o = [] ∨ o.head? = some 47) → (walkS o xs).head? = some 47
  | [], o, h, _ => absurd rfl h
  | [x], o, _, h => by
    have hb := backL_head o h
    show (lastA o x).head? = some 47
    unfold lastA
    split
    · rcases h with rfl | h
      · rfl
      · cases o with | nil => rfl | cons a t => exact h
    · split
      · rcases hb with hb | hb
        · rw [hb]; rfl
        · cases hq : backL o with | nil => rfl | cons a t => rw [hq] at hb; exact hb
      · cases o with
        | nil => rfl
        | cons a t => rcases h with h | h; cases h; exact h
  | x :: y :: r, o, _, h => by
    show (walkS (act o x) (y :: r)).head? = some 47
    refine walk_head (y :: r) _ (by simp) ?_
    unfold act
    split
    · exact h
    · split
      · exact backL_head o h
      · cases o with
        | nil => exact .inr rfl
        | cons a t => rcases h with h | h; cases h; exact .inr h
theorem remL_slash (p : List UInt8) : (remL (47 :: p)).head? = some 47 := by
  have h : remL (47 :: p) = walkS [] (spl 47 p) := by
    rw [remL_eq, spl_cons, if_pos rfl]
    unfold relS
    rw [if_neg (by simp), List.nil_append]
  rw [h]
  exact walk_head _ [] (spl_ne 47 p) (.inl rfl)
theorem remL_abs (p : List UInt8) : remL (47 :: p) = walkS [] (spl 47 p) := by
  rw [remL_eq, spl_cons, if_pos rfl]
  unfold relS
  rw [if_neg (by simp), List.nil_append]

/-! ## No path climbs above its beginning -/
theorem remL_climb (p : List UInt8) : ∀ k, remL (47 :: (Lib.repeatL [46, 46, 47] k ++ p)) = remL (47 :: p)
  | 0 => rfl
  | k + 1 => by
    have ih := remL_climb p k
    rw [← ih]
    show rm [] (47 :: 46 :: 46 :: 47 :: (Lib.repeatL [46, 46, 47] k ++ p)) = _
    rw [rm_step [] (by simp), step_dots]
    rfl
theorem walk_insert : ∀ (xs : List (List UInt8)) (o : List UInt8) (i : Nat), i < xs.length → walkS o (xs.take i ++ [46] :: xs.drop i) = walkS o xs
  | [], _, _, h => by simp at h
  | x :: xs, o, 0, _ => by
    show walkS o ([46] :: x :: xs) = _
    show walkS (act o [46]) (x :: xs) = _
    unfold act
    rw [if_pos rfl]
  | [x], o, i + 1, h => by simp at h
  | x :: y :: r, o, i + 1, h => by
    have ih := walk_insert (y :: r) (act o x) i (by simpa using h)
    show walkS o (x :: ((y :: r).take i ++ [46] :: (y :: r).drop i)) = walkS (act o x) (y :: r)
    rw [← ih]
    cases hq : (y :: r).take i ++ [46] :: (y :: r).drop i with
    | nil => simp at hq
    | cons a t => rfl
theorem remL_insert (p : List UInt8) (i : Nat) (h : i < (spl 47 p).length) : remL (47 :: rel ((spl 47 p).take i ++ [46] :: (spl 47 p).drop i)) = remL (47 :: p) := by
  have hf : ∀ x ∈ (spl 47 p).take i ++ [46] :: (spl 47 p).drop i, (47 : UInt8) ∉ x := by
    intro x hx
    rcases List.mem_append.1 hx with hx | hx
    · exact spl_free 47 p x (List.mem_of_mem_take hx)
    · rcases List.mem_cons.1 hx with rfl | hx
      · simp
      · exact spl_free 47 p x (List.mem_of_mem_drop hx)
  have hne : (spl 47 p).take i ++ [46] :: (spl 47 p).drop i ≠ [] := by simp
  rw [remL_abs, remL_abs, spl_rel _ hne hf]
  exact walk_insert _ [] i h
theorem join_rel (x : List UInt8) (xs : List (List UInt8)) : Lib.join (x :: xs) [47] = rel (x :: xs) := by
  rw [Lib.join_cons]
  show x ++ _ = x ++ jn xs
  congr 1

/-- How many steps. -/
def depthL (l : List UInt8) : Nat := (spl 47 l).countP (fun x => x ≠ [])
end Go.Proofs.YtakdjflhhaefiaaGreatDoor
