/- THE EXECUTOR, 1: finite maps on numbers, the relation of values, runs that touch no world. No idea of a program stands in it. -/
import Derived.Orders
import Derived.Below
import Derived.Laws.Strings
import Derived.Laws.Slices
set_option linter.unusedVariables false
set_option linter.unusedSimpArgs false
namespace Go.Xc

/-! ### Finite maps on natural numbers -/
inductive NM (α : Type) where
  | leaf
  | node (l : NM α) (v : Option α) (r : NM α)

noncomputable def NM.get {α : Type} (t : NM α) : Nat → Option α :=
  NM.rec (motive := fun _ => Nat → Option α) (fun _ => none)
    (fun _ v _ gl gr k => Bool.rec (Bool.rec (gr (Nat.sub (Nat.div k (nat_lit 2)) (nat_lit 1))) (gl (Nat.div k (nat_lit 2))) (Nat.beq (Nat.mod k (nat_lit 2)) (nat_lit 1))) v (Nat.beq k (nat_lit 0))) t

noncomputable def NM.setF {α : Type} (n : Nat) : NM α → Nat → α → NM α :=
  Nat.rec (motive := fun _ => NM α → Nat → α → NM α) (fun t _ _ => t)
    (fun _ ih t k v => NM.rec (motive := fun _ => NM α)
       (Bool.rec (Bool.rec (.node .leaf none (ih .leaf (Nat.sub (Nat.div k (nat_lit 2)) (nat_lit 1)) v)) (.node (ih .leaf (Nat.div k (nat_lit 2)) v) none .leaf) (Nat.beq (Nat.mod k (nat_lit 2)) (nat_lit 1))) (.node .leaf (some v) .leaf) (Nat.beq k (nat_lit 0)))
       (fun l w r _ _ => Bool.rec (Bool.rec (.node l w (ih r (Nat.sub (Nat.div k (nat_lit 2)) (nat_lit 1)) v)) (.node (ih l (Nat.div k (nat_lit 2)) v) w r) (Nat.beq (Nat.mod k (nat_lit 2)) (nat_lit 1))) (.node l (some v) r) (Nat.beq k (nat_lit 0))) t) n

theorem NM.get_leaf {α : Type} (k : Nat) : (NM.leaf : NM α).get k = none := rfl
theorem NM.get_node {α : Type} (l : NM α) (v : Option α) (r : NM α) (k : Nat) :
    (NM.node l v r).get k = if k = 0 then v else if k % 2 = 1 then l.get (k / 2) else r.get (k / 2 - 1) := by
  show Bool.rec (motive := fun _ => Option α) (Bool.rec (motive := fun _ => Option α) (r.get (k / 2 - 1)) (l.get (k / 2)) (Nat.beq (k % 2) 1)) v (Nat.beq k 0) = _
  by_cases h0 : k = 0
  · subst h0; rfl
  · have e0 : Nat.beq k 0 = false := by
      cases h : Nat.beq k 0 with
      | false => rfl
      | true => exact absurd (Nat.eq_of_beq_eq_true h) h0
    rw [e0, if_neg h0]
    by_cases h1 : k % 2 = 1
    · rw [if_pos h1, h1]; rfl
    · have e1 : Nat.beq (k % 2) 1 = false := by
        cases h : Nat.beq (k % 2) 1 with
        | false => rfl
        | true => exact absurd (Nat.eq_of_beq_eq_true h) h1
      rw [e1, if_neg h1]
theorem NM.setF_zero {α : Type} (t : NM α) (k : Nat) (v : α) : NM.setF 0 t k v = t := rfl
theorem NM.setF_leaf {α : Type} (n : Nat) (k : Nat) (v : α) :
    NM.setF (n + 1) .leaf k v = if k = 0 then .node .leaf (some v) .leaf else if k % 2 = 1 then .node (NM.setF n .leaf (k / 2) v) none .leaf else .node .leaf none (NM.setF n .leaf (k / 2 - 1) v) := by
  show Bool.rec (motive := fun _ => NM α) (Bool.rec (motive := fun _ => NM α) (.node .leaf none (NM.setF n .leaf (k / 2 - 1) v)) (.node (NM.setF n .leaf (k / 2) v) none .leaf) (Nat.beq (k % 2) 1)) (.node .leaf (some v) .leaf) (Nat.beq k 0) = _
  by_cases h0 : k = 0
  · subst h0; rfl
  · have e0 : Nat.beq k 0 = false := by
      cases h : Nat.beq k 0 with
      | false => rfl
      | true => exact absurd (Nat.eq_of_beq_eq_true h) h0
    rw [e0, if_neg h0]
    by_cases h1 : k % 2 = 1
    · rw [if_pos h1, h1]; rfl
    · have e1 : Nat.beq (k % 2) 1 = false := by
        cases h : Nat.beq (k % 2) 1 with
        | false => rfl
        | true => exact absurd (Nat.eq_of_beq_eq_true h) h1
      rw [e1, if_neg h1]
theorem NM.setF_node {α : Type} (n : Nat) (l : NM α) (w : Option α) (r : NM α) (k : Nat) (v : α) :
    NM.setF (n + 1) (.node l w r) k v = if k = 0 then .node l (some v) r else if k % 2 = 1 then .node (NM.setF n l (k / 2) v) w r else .node l w (NM.setF n r (k / 2 - 1) v) := by
  show Bool.rec (motive := fun _ => NM α) (Bool.rec (motive := fun _ => NM α) (.node l w (NM.setF n r (k / 2 - 1) v)) (.node (NM.setF n l (k / 2) v) w r) (Nat.beq (k % 2) 1)) (.node l (some v) r) (Nat.beq k 0) = _
  by_cases h0 : k = 0
  · subst h0; rfl
  · have e0 : Nat.beq k 0 = false := by
      cases h : Nat.beq k 0 with
      | false => rfl
      | true => exact absurd (Nat.eq_of_beq_eq_true h) h0
    rw [e0, if_neg h0]
    by_cases h1 : k % 2 = 1
    · rw [if_pos h1, h1]; rfl
    · have e1 : Nat.beq (k % 2) 1 = false := by
        cases h : Nat.beq (k % 2) 1 with
        | false => rfl
        | true => exact absurd (Nat.eq_of_beq_eq_true h) h1
      rw [e1, if_neg h1]

theorem NM.get_setF_same {α : Type} : ∀ (n : Nat) (t : NM α) (k : Nat) (v : α), k + 1 < 2 ^ n → (NM.setF n t k v).get k = some v
  | 0, t, k, v, h => by simp at h
  | n + 1, .leaf, k, v, h => by
    rw [NM.setF_leaf]
    by_cases h0 : k = 0
    · rw [if_pos h0, NM.get_node, if_pos h0]
    · rw [if_neg h0]
      have hp : 2 ^ (n + 1) = 2 * 2 ^ n := by rw [Nat.pow_succ]; omega
      by_cases h1 : k % 2 = 1
      · rw [if_pos h1, NM.get_node, if_neg h0, if_pos h1]
        exact NM.get_setF_same n _ _ v (by omega)
      · rw [if_neg h1, NM.get_node, if_neg h0, if_neg h1]
        exact NM.get_setF_same n _ _ v (by omega)
  | n + 1, .node l w r, k, v, h => by
    rw [NM.setF_node]
    by_cases h0 : k = 0
    · rw [if_pos h0, NM.get_node, if_pos h0]
    · rw [if_neg h0]
      have hp : 2 ^ (n + 1) = 2 * 2 ^ n := by rw [Nat.pow_succ]; omega
      by_cases h1 : k % 2 = 1
      · rw [if_pos h1, NM.get_node, if_neg h0, if_pos h1]
        exact NM.get_setF_same n _ _ v (by omega)
      · rw [if_neg h1, NM.get_node, if_neg h0, if_neg h1]
        exact NM.get_setF_same n _ _ v (by omega)

theorem NM.get_setF_ne {α : Type} : ∀ (n : Nat) (t : NM α) (k k' : Nat) (v : α), k ≠ k' → (NM.setF n t k v).get k' = t.get k'
  | 0, t, k, k', v, _ => rfl
  | n + 1, .leaf, k, k', v, h => by
    rw [NM.setF_leaf]
    by_cases h0 : k = 0
    · rw [if_pos h0, NM.get_node, if_neg (by omega)]; split <;> rfl
    · rw [if_neg h0]
      by_cases h1 : k % 2 = 1
      · rw [if_pos h1, NM.get_node]
        split
        · rfl
        · split
          · exact NM.get_setF_ne n _ _ _ v (by omega)
          · rfl
      · rw [if_neg h1, NM.get_node]
        split
        · rfl
        · split
          · rfl
          · exact NM.get_setF_ne n _ _ _ v (by omega)
  | n + 1, .node l w r, k, k', v, h => by
    rw [NM.setF_node]
    by_cases h0 : k = 0
    · rw [if_pos h0, NM.get_node, NM.get_node, if_neg (show ¬ k' = 0 by omega), if_neg (show ¬ k' = 0 by omega)]
    · rw [if_neg h0]
      by_cases h1 : k % 2 = 1
      · rw [if_pos h1, NM.get_node, NM.get_node]
        split
        · rfl
        · split
          · exact NM.get_setF_ne n _ _ _ v (by omega)
          · rfl
      · rw [if_neg h1, NM.get_node, NM.get_node]
        split
        · rfl
        · split
          · rfl
          · exact NM.get_setF_ne n _ _ _ v (by omega)

noncomputable def NM.set {α : Type} (t : NM α) (k : Nat) (v : α) : NM α := NM.setF (nat_lit 30) t k v
/-- How great a key may be. -/
def bound : Nat := 1073741822
theorem NM.get_set {α : Type} (t : NM α) (k k' : Nat) (v : α) (hk : k ≤ bound) : (t.set k v).get k' = if k = k' then some v else t.get k' := by
  unfold NM.set
  by_cases h : k = k'
  · subst h; rw [if_pos rfl]; exact NM.get_setF_same 30 t k v (by unfold bound at hk; omega)
  · rw [if_neg h]; exact NM.get_setF_ne 30 t k k' v h

/-- A list, laid out as a map. -/
def NM.ofListF {α : Type} : Nat → List α → NM α
  | 0, _ => .leaf
  | _ + 1, [] => .leaf
  | n + 1, x :: xs => .node (NM.ofListF n (evens xs)) (some x) (NM.ofListF n (odds xs))
where
  evens : List α → List α
    | [] => []
    | [x] => [x]
    | x :: _ :: xs => x :: evens xs
  odds : List α → List α
    | [] => []
    | [_] => []
    | _ :: y :: xs => y :: odds xs
theorem NM.evens_get {α : Type} : ∀ (l : List α) (i : Nat), (NM.ofListF.evens l)[i]? = l[2 * i]?
  | [], i => by simp [NM.ofListF.evens]
  | [x], 0 => by simp [NM.ofListF.evens]
  | [x], i + 1 => by simp [NM.ofListF.evens]
  | x :: y :: xs, 0 => by simp [NM.ofListF.evens]
  | x :: y :: xs, i + 1 => by
    simp only [NM.ofListF.evens, List.getElem?_cons_succ, NM.evens_get xs i]
    rw [show 2 * (i + 1) = 2 * i + 1 + 1 by omega]; simp
theorem NM.odds_get {α : Type} : ∀ (l : List α) (i : Nat), (NM.ofListF.odds l)[i]? = l[2 * i + 1]?
  | [], i => by simp [NM.ofListF.odds]
  | [x], i => by simp [NM.ofListF.odds]
  | x :: y :: xs, 0 => by simp [NM.ofListF.odds]
  | x :: y :: xs, i + 1 => by
    simp only [NM.ofListF.odds, List.getElem?_cons_succ, NM.odds_get xs i]
    rw [show 2 * (i + 1) = 2 * i + 1 + 1 by omega]; simp
theorem NM.evens_len {α : Type} : ∀ (l : List α), (NM.ofListF.evens l).length ≤ l.length
  | [] => by simp [NM.ofListF.evens]
  | [x] => by simp [NM.ofListF.evens]
  | x :: y :: xs => by have := NM.evens_len xs; simp [NM.ofListF.evens]; omega
theorem NM.odds_len {α : Type} : ∀ (l : List α), (NM.ofListF.odds l).length ≤ l.length
  | [] => by simp [NM.ofListF.odds]
  | [x] => by simp [NM.ofListF.odds]
  | x :: y :: xs => by have := NM.odds_len xs; simp [NM.ofListF.odds]; omega
theorem NM.get_ofListF {α : Type} : ∀ (n : Nat) (l : List α) (k : Nat), l.length ≤ n → (NM.ofListF n l).get k = l[k]?
  | 0, l, k, h => by
    have : l = [] := List.eq_nil_of_length_eq_zero (by omega)
    subst this; simp [NM.ofListF, NM.get_leaf]
  | n + 1, [], k, h => by simp [NM.ofListF, NM.get_leaf]
  | n + 1, x :: xs, k, h => by
    have h1 := NM.evens_len xs
    have h2 := NM.odds_len xs
    simp only [List.length_cons] at h
    rw [NM.ofListF, NM.get_node]
    by_cases h0 : k = 0
    · subst h0; simp
    · rw [if_neg h0]
      obtain ⟨m, rfl⟩ : ∃ m, k = m + 1 := ⟨k - 1, by omega⟩
      rw [List.getElem?_cons_succ]
      split
      · rename_i h3
        rw [NM.get_ofListF n _ _ (by omega), NM.evens_get]
        congr 1; omega
      · rename_i h3
        rw [NM.get_ofListF n _ _ (by omega), NM.odds_get]
        congr 1; omega

/-! ### Runs that touch no world -/
def pureRun {α : Type} (P : Program) : Sem α → Option α
  | .pure a => some a
  | .program k => pureRun P (k P)
  | .mark _ k => pureRun P k
  | _ => none
theorem pureRun_run {α : Type} (P : Program) : ∀ (s : Sem α) (a : α), pureRun P s = some a → ∀ w, s.run P w = .ok a w
  | .pure b, a, h, w => by simp only [pureRun, Option.some.injEq] at h; subst h; rfl
  | .program k, a, h, w => by simp only [pureRun] at h; simp only [Sem.run]; exact pureRun_run P (k P) a h w
  | .mark m k, a, h, w => by simp only [pureRun] at h; simp only [Sem.run]; exact pureRun_run P k a h w
  | .load .., a, h, w => by simp [pureRun] at h
  | .store .., a, h, w => by simp [pureRun] at h
  | .new .., a, h, w => by simp [pureRun] at h
  | .shape .., a, h, w => by simp [pureRun] at h
  | .freeze .., a, h, w => by simp [pureRun] at h
  | .frozen .., a, h, w => by simp [pureRun] at h
  | .getObj .., a, h, w => by simp [pureRun] at h
  | .setObj .., a, h, w => by simp [pureRun] at h
  | .choose .., a, h, w => by simp [pureRun] at h
  | .sys .., a, h, w => by simp [pureRun] at h
  | .halt .., a, h, w => by simp [pureRun] at h

/-! ### The relation of values -/
/-- From here on a capacity stands for 'not known'. -/
def BIG : Nat := 1152921504606846976

/-- An abstract value, and the value for which it stands: 'ι' says which block an abstract block's number is, and how many elements it has room for, where that is not known; all numbers are below 'n'. -/
inductive VR (ι : Nat → Nat × Nat) (n : Nat) : Value → Value → Prop
  | bool (b : Bool) : VR ι n (.bool b) (.bool b)
  | int (k : IntKind) (i : Int) : VR ι n (.int k i) (.int k i)
  | string (s : ByteArray) : VR ι n (.string s) (.string s)
  | nilPtr : VR ι n (.pointer none) (.pointer none)
  | ptr (b off : Nat) (h : b < n) : VR ι n (.pointer (some ⟨b, off, none⟩)) (.pointer (some ⟨(ι b).1, off, none⟩))
  | nilSlice : VR ι n (.slice none 0 0) (.slice none 0 0)
  | slice (b off len cap cap' : Nat) (h : b < n) (hl : len ≤ cap') (hc : cap < BIG → cap' = cap) (hb : BIG ≤ cap → off = 0 → cap' = (ι b).2) :
      VR ι n (.slice (some ⟨b, off, none⟩) len cap) (.slice (some ⟨(ι b).1, off, none⟩) len cap')
  | emptyS (a : Addr) (cap' : Nat) : VR ι n (.slice (some ⟨0, 0, some 0⟩) 0 BIG) (.slice (some a) 0 cap')
  | nilMap : VR ι n (.map none) (.map none)
  | map (b : Nat) (h : b < n) : VR ι n (.map (some b)) (.map (some (ι b).1))
  | func (f : Fn) (xs ys xs' ys' : Array Value) (h1 : xs.size = xs'.size) (h2 : ys.size = ys'.size)
      (g1 : ∀ i (h : i < xs.size) (h' : i < xs'.size), VR ι n xs[i] xs'[i]) (g2 : ∀ i (h : i < ys.size) (h' : i < ys'.size), VR ι n ys[i] ys'[i]) :
      VR ι n (.func f xs ys) (.func f xs' ys')
  | nilFunc : VR ι n .nilFunc .nilFunc
  | iface (t : TypeId) (v v' : Value) (h : VR ι n v v') : VR ι n (.iface t v) (.iface t v')
  | nilIface : VR ι n .nilIface .nilIface
  | agg (xs xs' : Array Value) (h : xs.size = xs'.size) (g : ∀ i (h : i < xs.size) (h' : i < xs'.size), VR ι n xs[i] xs'[i]) : VR ι n (.agg xs) (.agg xs')
  | tuple (xs xs' : Array Value) (h : xs.size = xs'.size) (g : ∀ i (h : i < xs.size) (h' : i < xs'.size), VR ι n xs[i] xs'[i]) : VR ι n (.tuple xs) (.tuple xs')

theorem VR.mono {ι ι' : Nat → Nat × Nat} {n n' : Nat} {v v' : Value} (h : VR ι n v v') (hn : n ≤ n') (hι : ∀ k, k < n → ι' k = ι k) : VR ι' n' v v' := by
  induction h with
  | bool b => exact .bool b
  | int k i => exact .int k i
  | string s => exact .string s
  | nilPtr => exact .nilPtr
  | ptr b off h => rw [← hι b h]; exact .ptr b off (Nat.lt_of_lt_of_le h hn)
  | nilSlice => exact .nilSlice
  | slice b off len cap cap' h hl hc hb => rw [← hι b h]; exact .slice b off len cap cap' (Nat.lt_of_lt_of_le h hn) hl hc (by rw [hι b h]; exact hb)
  | emptyS a cap' => exact .emptyS a cap'
  | nilMap => exact .nilMap
  | map b h => rw [← hι b h]; exact .map b (Nat.lt_of_lt_of_le h hn)
  | func f xs ys xs' ys' h1 h2 g1 g2 i1 i2 => exact .func f xs ys xs' ys' h1 h2 i1 i2
  | nilFunc => exact .nilFunc
  | iface t v v' _ ih => exact .iface t v v' ih
  | nilIface => exact .nilIface
  | agg xs xs' h _ ih => exact .agg xs xs' h ih
  | tuple xs xs' h _ ih => exact .tuple xs xs' h ih

/-- What was below 'n' stays so: the relation at a later 'ι'' cut back to 'n'. -/
theorem VR.narrow {ι ι' : Nat → Nat × Nat} {n n' : Nat} (hι : ∀ k, k < n → ι' k = ι k) {v v0 v' : Value} (h0 : VR ι n v v0) (h : VR ι' n' v v') : VR ι n v v' := by
  induction h0 generalizing v' with
  | bool b => cases h; exact .bool b
  | int k i => cases h; exact .int k i
  | string s => cases h; exact .string s
  | nilPtr => cases h; exact .nilPtr
  | ptr b off hb => cases h; rw [hι b hb]; exact .ptr b off hb
  | nilSlice => cases h; exact .nilSlice
  | slice b off len cap cap' hb hl hc hbb =>
    cases h with
    | slice _ _ _ _ c2 hb2 hl2 hc2 hbb2 => rw [hι b hb] at *; exact .slice b off len cap c2 hb hl2 hc2 hbb2
  | emptyS a cap' => cases h; exact .emptyS _ _
  | nilMap => cases h; exact .nilMap
  | map b hb => cases h; rw [hι b hb]; exact .map b hb
  | func f xs ys xs' ys' h1 h2 g1 g2 i1 i2 =>
    cases h with
    | func _ _ _ zs zs' k1 k2 e1 e2 => exact .func f xs ys zs zs' k1 k2 (fun i hi hi' => i1 i hi (by omega) (e1 i hi hi')) (fun i hi hi' => i2 i hi (by omega) (e2 i hi hi'))
  | nilFunc => cases h; exact .nilFunc
  | iface t u u0 hu ih => cases h with | iface _ _ u' hu' => exact .iface t u u' (ih hu')
  | nilIface => cases h; exact .nilIface
  | agg xs xs0 hs g ih => cases h with | agg _ zs k e => exact .agg xs zs k fun i hi hi' => ih i hi (by omega) (e i hi hi')
  | tuple xs xs0 hs g ih => cases h with | tuple _ zs k e => exact .tuple xs zs k fun i hi hi' => ih i hi (by omega) (e i hi hi')

/-- Arrays of values, one by one. -/
def AR (ι : Nat → Nat × Nat) (n : Nat) (xs ys : Array Value) : Prop :=
  xs.size = ys.size ∧ ∀ i (h : i < xs.size) (h' : i < ys.size), VR ι n xs[i] ys[i]
theorem AR.mono {ι ι' : Nat → Nat × Nat} {n n' : Nat} {xs ys : Array Value} (h : AR ι n xs ys) (hn : n ≤ n') (hι : ∀ k, k < n → ι' k = ι k) : AR ι' n' xs ys :=
  ⟨h.1, fun i h1 h2 => (h.2 i h1 h2).mono hn hι⟩

theorem VR.undef {ι : Nat → Nat × Nat} {n : Nat} : VR ι n undef undef := .tuple #[] #[] rfl (fun i h => by simp at h)

/-- Values without an address. -/
noncomputable def plainF (n : Nat) : Value → Bool :=
  Nat.rec (motive := fun _ => Value → Bool) (fun _ => false) (fun _ ih v =>
    match v with
    | .bool _ | .int .. | .string _ | .pointer none | .nilIface | .nilFunc | .map none => true
    | .slice none 0 0 => true
    | .iface _ v => ih v
    | .agg xs => xs.toList.all ih
    | .tuple xs => xs.toList.all ih
    | _ => false) n
theorem plainF_zero (v : Value) : plainF 0 v = false := rfl
theorem plainF_succ (n : Nat) (v : Value) : plainF (n + 1) v =
    match v with
    | .bool _ | .int .. | .string _ | .pointer none | .nilIface | .nilFunc | .map none => true
    | .slice none 0 0 => true
    | .iface _ v => plainF n v
    | .agg xs => xs.toList.all (plainF n)
    | .tuple xs => xs.toList.all (plainF n)
    | _ => false := rfl
theorem array_ext_VR {xs ys : Array Value} (h : xs.size = ys.size) (g : ∀ i (h : i < xs.size) (h' : i < ys.size), ys[i] = xs[i]) : ys = xs :=
  Array.ext h.symm fun i h1 h2 => g i h2 h1
theorem plainF_eq : ∀ (n : Nat) (v v' : Value) {ι : Nat → Nat × Nat} {m : Nat}, plainF n v = true → VR ι m v v' → v' = v
  | 0, v, v', ι, m, h, _ => by simp [plainF_zero, plainF_succ] at h
  | n + 1, v, v', ι, m, h, hv => by
    cases hv with
    | bool b => rfl
    | int k i => rfl
    | string s => rfl
    | nilPtr => rfl
    | ptr b off hb => simp [plainF_zero, plainF_succ] at h
    | nilSlice => rfl
    | slice b off len cap cap' hb hl hc hbb => simp [plainF_zero, plainF_succ] at h
    | emptyS a cap' => simp [plainF_zero, plainF_succ] at h
    | nilMap => rfl
    | map b hb => simp [plainF_zero, plainF_succ] at h
    | func f xs ys xs' ys' h1 h2 g1 g2 => simp [plainF_zero, plainF_succ] at h
    | nilFunc => rfl
    | iface t u u' hu => simp only [plainF_succ] at h; rw [plainF_eq n u u' h hu]
    | nilIface => rfl
    | agg xs xs' hs g =>
      simp only [plainF_succ, List.all_eq_true, Array.mem_toList_iff] at h
      congr 1
      exact array_ext_VR hs fun i h1 h2 => plainF_eq n _ _ (h _ (Array.getElem_mem h1)) (g i h1 h2)
    | tuple xs xs' hs g =>
      simp only [plainF_succ, List.all_eq_true, Array.mem_toList_iff] at h
      congr 1
      exact array_ext_VR hs fun i h1 h2 => plainF_eq n _ _ (h _ (Array.getElem_mem h1)) (g i h1 h2)
theorem plainF_refl : ∀ (n : Nat) (v : Value) {ι : Nat → Nat × Nat} {m : Nat}, plainF n v = true → VR ι m v v
  | 0, v, ι, m, h => by simp [plainF_zero, plainF_succ] at h
  | n + 1, v, ι, m, h => by
    cases v with
    | bool b => exact .bool b
    | int k i => exact .int k i
    | float k b => simp [plainF_zero, plainF_succ] at h
    | complex k a b => simp [plainF_zero, plainF_succ] at h
    | string s => exact .string s
    | pointer a => cases a with | none => exact .nilPtr | some a => simp [plainF_zero, plainF_succ] at h
    | slice a l c =>
      rw [plainF_succ] at h
      split at h <;> first | exact .nilSlice | (simp_all; done) | (rename_i heq; simp at heq; obtain ⟨rfl, rfl, rfl⟩ := heq; exact .nilSlice)
    | map r => cases r with | none => exact .nilMap | some r => simp [plainF_zero, plainF_succ] at h
    | chan r => simp [plainF_zero, plainF_succ] at h
    | func f a b => simp [plainF_zero, plainF_succ] at h
    | nilFunc => exact .nilFunc
    | iface t u => simp only [plainF_succ] at h; exact .iface t u u (plainF_refl n u h)
    | nilIface => exact .nilIface
    | agg xs =>
      simp only [plainF_succ, List.all_eq_true, Array.mem_toList_iff] at h
      exact .agg xs xs rfl fun i h1 _ => plainF_refl n _ (h _ (Array.getElem_mem h1))
    | tuple xs =>
      simp only [plainF_succ, List.all_eq_true, Array.mem_toList_iff] at h
      exact .tuple xs xs rfl fun i h1 _ => plainF_refl n _ (h _ (Array.getElem_mem h1))
end Go.Xc
/- THE EXECUTOR, 2: what it does. It runs a function of a program at given values, on memory of its own. No proof stands in it. -/
namespace Go.Xc

structure TI where
  desc : TypeDesc
  size : Nat
  bytes : Nat
  zero : Option Value

inductive Ext where
  | indexByte
  | noEscape
  | count
  | noZero

inductive AObj where
  | ro (cs : List Value)
  | cells (cs : List Value) (elem : TypeId) (exact fz st : Bool)
  | iter (s : ByteArray) (pos : Nat)
  /-- A map over texts: its entries, in the order in which they came. -/
  | map (es : List (ByteArray × Value))
  | dead

structure AH where
  next : Nat
  low : Nat
  m : NM AObj

structure Ctx where
  P : Program
  G : Nat
  ti : Nat → Option TI
  fn : Nat → Option Func
  ext : Nat → Option Ext
  /-- Calls that are known already. -/
  sum : Nat → List Value → AH → Option (Value × AH)

abbrev Tm := NM Value

noncomputable def aget (tm : Tm) (k : Nat) : Value := (tm.get k).getD undef
noncomputable def aev (X : Ctx) (tm : Tm) : Operand → Option Value
  | .tmp t => some (aget tm t)
  | .const v => bif plainF 9 v then some v else none
  | .global g => if g < X.G then some (.pointer (some ⟨g, 0, none⟩)) else none
  | .func f => some (.func (.func f) #[] #[])

noncomputable def aevs (X : Ctx) (tm : Tm) (l : List Operand) : Option (List Value) :=
  List.rec (motive := fun _ => Option (List Value)) (some []) (fun x _ ih =>
    match aev X tm x with
    | some v => match ih with
      | some vs => some (v :: vs)
      | none => none
    | none => none) l
theorem aevs_nil (X : Ctx) (tm : Tm) : aevs X tm [] = some [] := rfl
theorem aevs_cons (X : Ctx) (tm : Tm) (x : Operand) (xs : List Operand) : aevs X tm (x :: xs) = match aev X tm x with
    | some v => match aevs X tm xs with
      | some vs => some (v :: vs)
      | none => none
    | none => none := rfl

def isAggD : TypeDesc → Bool
  | .struct _ | .array _ _ => true
  | _ => false

noncomputable def AH.alloc (H : AH) (o : AObj) : Option (Nat × AH) :=
  if H.next ≤ bound then some (H.next, ⟨H.next + 1, H.low, H.m.set H.next o⟩) else none
/-- Writes an object that is there. -/
noncomputable def AH.put (H : AH) (k : Nat) (o : AObj) : AH := ⟨H.next, bif Nat.ble H.low k then H.low else k, H.m.set k o⟩

def lget {α : Type} : List α → Nat → Option α
  | [], _ => none
  | x :: _, 0 => some x
  | _ :: xs, n + 1 => lget xs n
/-- 'n' cells from 'off' on. -/
def cut (cs : List Value) (off n : Nat) : Option (List Value) :=
  let r := (cs.drop off).take n
  if r.length = n then some r else none
/-- Cells written from 'off' on. -/
def splice (cs : List Value) (off : Nat) (new : List Value) : Option (List Value) :=
  if off + new.length ≤ cs.length then some (cs.take off ++ new ++ cs.drop (off + new.length)) else none

noncomputable def aload (H : AH) (b off n : Nat) : Option (List Value) :=
  match H.m.get b with
  | some (.ro cs) => cut cs off n
  | some (.cells cs _ _ _ _) => cut cs off n
  | _ => none

def oneCell (v : Value) : Bool := v.oneCell'

noncomputable def astore (H : AH) (b off : Nat) (new : List Value) : Option AH :=
  match H.m.get b with
  | some (.cells cs e x false st) =>
    if new.all oneCell then
      match splice cs off new with
      | some cs' => some (H.put b (.cells cs' e x false st))
      | none => none
    else none
  | _ => none

def Ctx.sz (X : Ctx) (e : TypeId) : Nat := match X.ti e with
  | some i => i.size
  | none => 0

/-! ### Operations whose operands may be addresses, and which touch no memory -/
noncomputable def anilEq (sz : Nat) : Value → Value → Option Bool
  | .pointer (some _), .pointer none => some false
  | .pointer none, .pointer (some _) => some false
  | .pointer (some a), .pointer (some b) => if sz ≠ 0 ∧ a.block = b.block ∧ a.spot = none ∧ b.spot = none then some (decide (a.off = b.off)) else none
  | _, _ => none
noncomputable def aeqD (X : Ctx) : TypeDesc → Value → Value → Option Bool
  | .pointer e, x, y => anilEq (X.sz e) x y
  | .slice _, .slice (some _) _ _, .slice none _ _ => some false
  | .slice _, .slice none _ _, .slice (some _) _ _ => some false
  | .func .., .func .., .nilFunc => some false
  | .func .., .nilFunc, .func .. => some false
  | .interface _, .nilIface, .iface _ _ => some false
  | .interface _, .iface _ _, .nilIface => some false
  | _, _, _ => none

/-- Whole numbers: the common ones by hand. -/
def aint (op : BinOp) (k : IntKind) (x : Int) (y : Int) : Option Value :=
  match op with
  | .add => some (.int k (k.wrap (x + y)))
  | .sub => some (.int k (k.wrap (x - y)))
  | .mul => some (.int k (k.wrap (x * y)))
  | .eql => some (.bool (decide (x = y)))
  | .neq => some (.bool (!decide (x = y)))
  | .and => some (.int k (k.wrap (BitVec.ofInt k.bits x &&& BitVec.ofInt k.bits y).toNat))
  | .or => some (.int k (k.wrap (BitVec.ofInt k.bits x ||| BitVec.ofInt k.bits y).toNat))
  | .lss => some (.bool (decide (x < y)))
  | .leq => some (.bool (decide (x ≤ y)))
  | .gtr => some (.bool (decide (y < x)))
  | .geq => some (.bool (decide (y ≤ x)))
  | _ => none

noncomputable def apure1 (X : Ctx) (o : Oper) (ρ : List Value) : Option Value :=
  match o.op, ρ with
  | .move _, [v] => some v
  | .assign _, [v] => some v
  | .pick _ _ _, [.bool c, a, b] => some (bif c then a else b)
  | .binOp op t _ _ _, [x, y] =>
    match x, y with
    | .int k a, .int k' b => match op with
      | .shl => if 0 ≤ b then some (.int k (k.wrap (a * ((2 ^ (min b.toNat k.bits) : Nat) : Int)))) else none
      | .shr => if 0 ≤ b then some (.int k (a.fdiv ((2 ^ (min b.toNat k.bits) : Nat) : Int))) else none
      | op => if k = k' then aint op k a b else none
    | .string a, .string b => match op with
      | .eql => some (.bool (a.data.toList == b.data.toList))
      | .neq => some (.bool !(a.data.toList == b.data.toList))
      | _ => none
    | .bool a, .bool b => match op, X.ti t with
      | .eql, some i => match i.desc with
        | .bool => some (.bool (a == b))
        | _ => none
      | _, _ => none
    | x, y =>
      match op with
      | .eql => match X.ti t with
        | some i => (aeqD X i.desc x y).map .bool
        | none => none
      | .neq => match X.ti t with
        | some i => (aeqD X i.desc x y).map fun b => .bool !b
        | none => none
      | _ => none
  | .convert s t _, [.int _ a] => match X.ti s, X.ti t with
    | some _, some i => match i.desc with
      | .int k => some (.int k (k.wrap a))
      | _ => none
    | _, _ => none
  | .unOp .not _ _, [.bool b] => some (.bool !b)
  | .extract _ ix, [.tuple vs] => lget vs.toList ix
  | .makeInterface t _, [v] => match X.ti t with
    | some i => match i.desc with
      | .interface _ => none
      | _ => some (.iface t v)
    | none => none
  | .nilCheck _, [.pointer (some a)] => some (.pointer (some a))
  | .nilCheck _, [.func (.func f) a b] => some (.func (.func f) a b)
  | .fieldAddr s _ f, [.pointer (some ⟨b, off, none⟩)] => match X.ti s with
    | some i => match i.desc with
      | .struct fields => match fields[f]? with
        | some fl => match X.ti fl.type with
          | some fi => if fi.size = 0 then none else some (.pointer (some ⟨b, off + fl.offset, none⟩))
          | none => none
        | none => none
      | _ => none
    | none => none
  | .field t _ f, [.agg cs] => match X.ti t with
    | some i => match i.desc with
      | .struct fields => match fields[f]? with
        | some fl => match X.ti fl.type with
          | some fi => bif isAggD fi.desc then some (.agg (cs.extract fl.offset (fl.offset + fi.size))) else cs[fl.offset]?
          | none => none
        | none => none
      | _ => none
    | none => none
  | .indexAddr t _ _, [x, .int _ i] => match X.ti t with
    | some ti => match ti.desc, x with
      | .array len e, .pointer (some ⟨b, off, none⟩) => if 0 ≤ i ∧ i < len then match X.ti e with
          | some ei => some (.pointer (some ⟨b, off + i.toNat * ei.size, none⟩))
          | none => none
        else none
      | .slice e, .slice (some ⟨b, off, none⟩) len _ => if 0 ≤ i ∧ i < len then match X.ti e with
          | some ei => some (.pointer (some ⟨b, off + i.toNat * ei.size, none⟩))
          | none => none
        else none
      | _, _ => none
    | none => none
  | .index t _ _, [x, .int _ i] => match X.ti t with
    | some ti => match ti.desc, x with
      | .string, .string s => if 0 ≤ i then (s.data[i.toNat]?).map fun b => .int .u8 b.toNat else none
      | .array len e, .agg cs => if 0 ≤ i ∧ i < len then match X.ti e with
          | some ei => bif isAggD ei.desc then some (.agg (cs.extract (i.toNat * ei.size) (i.toNat * ei.size + ei.size))) else cs[i.toNat * ei.size]?
          | none => none
        else none
      | _, _ => none
    | none => none
  | .makeFunc fn first captured, vs => if vs.length = first.size + captured.size then some (.func fn (vs.take first.size).toArray (vs.drop first.size).toArray) else none
  | .typeAssert _ _ t ok, [.iface t' v] => match X.ti t with
    | some i => match i.desc with
      | .interface _ => none
      | _ => if t = t' then some (bif ok then .tuple #[v, .bool true] else v)
             else bif ok then (match i.zero with | some z => bif plainF 9 z then some (.tuple #[z, .bool false]) else none | none => none) else none
    | none => none
  | _, _ => none

/-- The bounds of a slice: low, high. -/
def abounds (len : Nat) (lo hi : Option Value) : Option (Nat × Nat) :=
  match hi with
  | some (.int _ h) => if 0 ≤ h ∧ h ≤ len then
      match lo with
      | some (.int _ l) => if 0 ≤ l ∧ l ≤ h then some (l.toNat, h.toNat) else none
      | none => some (0, h.toNat)
      | _ => none
    else none
  | none =>
    match lo with
    | some (.int _ l) => if 0 ≤ l ∧ l ≤ len then some (l.toNat, len) else none
    | none => some (0, len)
    | _ => none
  | _ => none

noncomputable def aslice (X : Ctx) (t : TypeId) (x : Value) (lo hi : Option Value) : Option Value :=
  match X.ti t with
  | some ti => match ti.desc, x with
    | .string, .string s => match abounds s.size lo hi with
      | some (l, h) => some (.string (s.extract l h))
      | none => none
    | .array n e, .pointer (some ⟨b, off, none⟩) => match X.ti e, abounds n lo hi with
      | some ei, some (l, h) => if n < BIG then some (.slice (some ⟨b, if n = l then off else off + l * ei.size, none⟩) (h - l) (n - l)) else none
      | _, _ => none
    | .slice e, .slice (some ⟨b, off, none⟩) len cap => match X.ti e with
      | some ei =>
        if cap < BIG then
          -- the high bound may go up to the capacity
          match hi with
          | some _ => match abounds cap lo hi with
            | some (l, h) => some (.slice (some ⟨b, if cap = l then off else off + l * ei.size, none⟩) (h - l) (cap - l))
            | none => none
          | none => match abounds len lo none with
            | some (l, h) => some (.slice (some ⟨b, if cap = l then off else off + l * ei.size, none⟩) (h - l) (cap - l))
            | none => none
        else match abounds len lo hi with
          | some (l, h) =>
            if l = 0 then some (.slice (some ⟨b, off, none⟩) h cap)
            else if l < h ∧ 0 < ei.size then some (.slice (some ⟨b, off + l * ei.size, none⟩) (h - l) cap)
            else if l = h then some (.slice (some ⟨0, 0, some 0⟩) 0 BIG) else none
          | none => none
      | none => none
    | .slice e, .slice none 0 0 => match X.ti e, abounds 0 lo hi with
      | some _, some (0, 0) => some (.slice none 0 0)
      | _, _ => none
    | _, _ => none
  | none => none

noncomputable def allPlain : List Value → Bool
  | [] => true
  | v :: vs => bif plainF 9 v then allPlain vs else false

/-- An operation that touches no memory. -/
noncomputable def apure (X : Ctx) (tm : Tm) (o : Oper) : Option Value :=
  match o.op with
  | .move x => aev X tm x
  | .assign x => aev X tm x
  | .slice t x lo hi none =>
    match aev X tm x with
    | some xv =>
      match lo with
      | none => match hi with
        | none => aslice X t xv none none
        | some h => match aev X tm h with
          | some hv => aslice X t xv none (some hv)
          | none => none
      | some l => match aev X tm l with
        | some lv => match hi with
          | none => aslice X t xv (some lv) none
          | some h => match aev X tm h with
            | some hv => aslice X t xv (some lv) (some hv)
            | none => none
        | none => none
    | none => none
  | .build t parts =>
    match X.ti t, aevs X tm (parts.toList.map (·.2)) with
    | some i, some vs => match i.zero with
      | some z => bif plainF 9 z then
          match i.desc with
          | .struct fields => match fields.toList.mapM (fun f => (X.ti f.type).map fun fi => (f.offset, fi.size)) with
            | some places => (Instr.fill (fun k => places[k]?) z.cells ((parts.toList.map (·.1)).zip vs)).map .agg
            | none => none
          | .array _ e => match X.ti e with
            | some ei => (Instr.fill (fun k => some (k * ei.size, ei.size)) z.cells ((parts.toList.map (·.1)).zip vs)).map .agg
            | none => none
          | _ => none
        else none
      | none => none
    | _, _ => none
  | .call { callee := .builtin .len, args, argTypes } =>
    match aevs X tm args.toList, argTypes[0]? with
    | some [x], some t => match X.ti t with
      | some i => match i.desc, x with
        | .string, .string s => some (.int .i64 s.size)
        | .slice _, .slice _ n _ => some (.int .i64 n)
        | .array n _, _ => some (.int .i64 n)
        | _, _ => none
      | none => none
    | _, _ => none
  | .call { callee := .builtin .unsafeSliceData, args, .. } =>
    match aevs X tm args.toList with
    | some [.slice none 0 0] => some (.pointer none)
    | some [.slice (some ⟨b, off, none⟩) (_ + 1) _] => some (.pointer (some ⟨b, off, none⟩))
    | _ => none
  | .call _ | .load .. | .store .. | .alloc .. | .box .. | .buildSlice .. | .range .. | .next .. | .select .. => none
  | _ =>
    match aevs X tm o.op.operands.toList with
    | some vs =>
      match apure1 X o vs with
      | some v => some v
      | none =>
        bif allPlain vs then
          match pureRun X.P (execOp (fun x => (aev X tm x).getD undef) o) with
          | some (.value v) => bif plainF 9 v then some v else none
          | _ => none
        else none
    | none => none

/-! ### Operations on memory -/
inductive ARes where
  | val (v : Value) (H : AH)
  | enter (f : Nat) (args : List Value)

noncomputable def aextern (X : Ctx) (e : Ext) (f : Nat) (args : List Value) (H : AH) : Option ARes :=
  match e, args with
  | .noEscape, [v] => some (.val v H)
  | .indexByte, [.string s, .int .u8 c] => match (List.range s.size).find? fun i => s[i]! == c.toNat.toUInt8 with
    | some i => some (.val (.int .i64 i) H)
    | none => some (.val (.int .i64 (-1)) H)
  | .count, [.string s, .int .u8 c] => some (.val (.int .i64 (s.foldl (fun (n : Int) x => if x == c.toNat.toUInt8 then n + 1 else n) 0)) H)
  | .noZero, [.int .i64 n] => match X.fn f with
    | some fn => match fn.resultTypes[0]? with
      | some t => match X.ti t with
        | some i => match i.desc with
          | .slice e => match X.ti e with
            | some ei => if 0 ≤ n ∧ n ≤ 1048576 ∧ ei.size = 1 then
                match H.alloc (.cells [] e false false false) with
                | some (k, H') => some (.val (.slice (some ⟨k, 0, none⟩) n.toNat BIG) H')
                | none => none
              else none
            | none => none
          | _ => none
        | none => none
      | none => none
    | none => none
  | _, _ => none

/-- The cells of an appended value. -/
noncomputable def asrc (H : AH) (size : Nat) : Value → Option (Nat × List Value)
  | .slice (some ⟨b, off, none⟩) n _ => if n = 0 then some (0, []) else (aload H b off (n * size)).map fun c => (n, c)
  | .slice (some ⟨0, 0, some 0⟩) 0 _ => some (0, [])
  | .slice none 0 0 => some (0, [])
  | .string s => some (s.size, s.data.toList.map fun b => .int .u8 b.toNat)
  | _ => none

noncomputable def aappend (X : Ctx) (argTypes : Array TypeId) (s x : Value) (H : AH) : Option ARes :=
  match argTypes[0]?, argTypes[1]? with
  | some t, some t' => match X.ti t, X.ti t' with
    | some i, some i' => match i.desc, i'.desc with
      | _, .int _ => none
      | .slice e, _ => match X.ti e with
        | some ei => match ei.zero with
          | some z => match asrc H ei.size x with
            | some (n, new) =>
              if new.length = n * ei.size ∧ 0 < ei.size ∧ z.cells.size = ei.size then
                match s with
                | .slice none 0 0 =>
                  if n = 0 then some (.val s H)
                  else if n * ei.bytes ≤ 1073741824 ∧ n ≤ 1073741824 then
                    match H.alloc (.cells new e false false false) with
                    | some (k, H') => some (.val (.slice (some ⟨k, 0, none⟩) n BIG) H')
                    | none => none
                  else none
                | .slice (some ⟨b, off, none⟩) len cap =>
                  if n = 0 then (if len ≤ cap then some (.val s H) else none)
                  else if (len + n) * ei.bytes ≤ 1073741824 ∧ len + n ≤ 1073741824 then
                    if cap < BIG then
                      if len + n ≤ cap then
                        match astore H b (off + len * ei.size) new with
                        | some H' => some (.val (.slice (some ⟨b, off, none⟩) (len + n) cap) H')
                        | none => none
                      else
                        match (if len = 0 then some [] else aload H b off (len * ei.size)) with
                        | some old => match H.alloc (.cells (old ++ new) e false false false) with
                          | some (k, H') => some (.val (.slice (some ⟨k, 0, none⟩) (len + n) BIG) H')
                          | none => none
                        | none => none
                    else
                      match H.m.get b with
                      | some (.cells cs e' false fz st) =>
                        if off = 0 ∧ len * ei.size ≤ cs.length ∧ (fz = false ∨ len * ei.size = cs.length) ∧ e' = e ∧ new.all oneCell then
                          match (H.put b .dead).alloc (.cells (cs.take (len * ei.size) ++ new) e false fz st) with
                          | some (k, H') => some (.val (.slice (some ⟨k, 0, none⟩) (len + n) BIG) H')
                          | none => none
                        else none
                      | _ => none
                  else none
                | _ => none
              else none
            | none => none
          | none => none
        | none => none
      | _, _ => none
    | _, _ => none
  | _, _ => none

noncomputable def acopy (X : Ctx) (argTypes : Array TypeId) (d x : Value) (H : AH) : Option ARes :=
  match argTypes[0]? with
  | some t => match X.ti t with
    | some i => match i.desc with
      | .slice e => match X.ti e with
        | some ei =>
          let lens : Option (Nat × Nat) := match d, x with
            | .slice _ n _, .slice _ m _ => some (n, m)
            | .slice _ n _, .string s => some (n, s.size)
            | _, _ => none
          match lens with
          | some (dl, sl) =>
            let n := Nat.min sl dl
            if n = 0 then (match x, d with
              | .slice _ _ _, .slice _ _ _ => some (.val (.int .i64 0) H)
              | .string _, .slice _ _ _ => some (.val (.int .i64 0) H)
              | _, _ => none)
            else match d, x with
              | .slice (some ⟨b, off, none⟩) _ _, .slice (some ⟨b', off', none⟩) _ _ =>
                match aload H b' off' (n * ei.size) with
                | some new => match astore H b off new with
                  | some H' => some (.val (.int .i64 n) H')
                  | none => none
                | none => none
              | _, _ => none
          | none => none
        | none => none
      | _ => none
    | none => none
  | none => none

def asBytes : List Value → Option (List UInt8)
  | [] => some []
  | .int .u8 n :: vs => (asBytes vs).map fun bs => UInt8.ofNat n.toNat :: bs
  | _ => none

/-- A text looked for in a map. -/
def mfind : List (ByteArray × Value) → ByteArray → Option Value
  | [], _ => none
  | e :: es, s => if e.1.data.toList = s.data.toList then some e.2 else mfind es s
noncomputable def alookup (X : Ctx) (t : TypeId) (es : List (ByteArray × Value)) (s : ByteArray) (ok : Bool) : Option Value :=
  match X.ti t with
  | some i => match i.desc with
    | .map kt et => match X.ti kt, X.ti et with
      | some ki, some ei => match ki.desc with
        | .string => match mfind es s with
          | some v => some (bif ok then .tuple #[v, .bool true] else v)
          | none => match ei.zero with
            | some z => bif plainF 9 z then some (bif ok then .tuple #[z, .bool false] else z) else none
            | none => none
        | _ => none
      | _, _ => none
    | _ => none
  | none => none
noncomputable def aput1 (X : Ctx) (t : TypeId) (H : AH) (b : Nat) (s : ByteArray) (v : Value) : Option AH :=
  match X.ti t with
  | some i => match i.desc with
    | .map kt _ => match X.ti kt with
      | some ki => match ki.desc with
        | .string => match H.m.get b with
          | some (.map es) => match mfind es s with
            | none => some (H.put b (.map (es ++ [(s, v)])))
            | some _ => none
          | _ => none
        | _ => none
      | none => none
    | _ => none
  | none => none
noncomputable def alen (X : Ctx) (t : TypeId) (H : AH) (b : Nat) : Option Value :=
  match X.ti t with
  | some i => match i.desc with
    | .map _ _ => match H.m.get b with
      | some (.map es) => some (.int .i64 es.length)
      | _ => none
    | _ => none
  | none => none

noncomputable def aconvert (X : Ctx) (src dst : TypeId) (x : Value) (H : AH) : Option ARes :=
  match X.ti src, X.ti dst with
  | some si, some di => match si.desc, di.desc, x with
    | .string, .slice e, .string s => match X.ti e with
      | some ei => match ei.desc with
        | .int .u8 => if ei.size = 1 then match H.alloc (.cells (s.data.toList.map fun b => .int .u8 b.toNat) e false false true) with
            | some (k, H') => some (.val (.slice (some ⟨k, 0, none⟩) s.size BIG) H')
            | none => none
          else none
        | _ => none
      | none => none
    | .slice e, .string, .slice none 0 0 => match X.ti e with
      | some ei => match ei.desc with
        | .int .u8 => some (.val (.string .empty) H)
        | _ => none
      | none => none
    | .slice e, .string, .slice (some ⟨b, off, none⟩) len _ => match X.ti e with
      | some ei => match ei.desc with
        | .int .u8 => if len = 0 then some (.val (.string .empty) H) else match aload H b off len with
          | some cs => match asBytes cs with
            | some bs => some (.val (.string ⟨bs.toArray⟩) H)
            | none => none
          | none => none
        | _ => none
      | none => none
    | .pointer t, .unsafePointer, .pointer (some ⟨b, off, none⟩) => match X.ti t, H.m.get b with
      | some i, some (.cells cs _ _ _ _) => if i.size ≠ 0 ∧ off < cs.length then some (.val x H) else none
      | _, _ => none
    | .unsafePointer, .pointer u, .pointer (some ⟨b, off, none⟩) => match X.ti u, H.m.get b with
      | some i, some (.cells cs e _ _ _) => if i.size ≠ 0 ∧ off = 0 ∧ e = u ∧ i.size ≤ cs.length then some (.val x H) else none
      | _, _ => none
    | _, _, _ => none
  | _, _ => none

noncomputable def acallf (X : Ctx) (f : Nat) (args : List Value) (H : AH) : Option ARes :=
  match X.ext f with
  | some e => aextern X e f args H
  | none => match X.fn f with
    | some fn => bif fn.body.isSome then some (.enter f args) else none
    | none => none

noncomputable def aop (X : Ctx) (tm : Tm) (H : AH) (o : Oper) : Option ARes :=
  match apure X tm o with
  | some v => some (.val v H)
  | none =>
    match o.op with
    | .load t a => match aev X tm a, X.ti t with
      | some (.pointer (some ⟨b, off, none⟩)), some i =>
        bif isAggD i.desc then (aload H b off i.size).map fun cs => .val (.agg cs.toArray) H
        else match aload H b off 1 with
          | some [v] => some (.val v H)
          | _ => none
      | _, _ => none
    | .store t a x => match aev X tm a, aev X tm x, X.ti t with
      | some (.pointer (some ⟨b, off, none⟩)), some v, some i =>
        if v.cells.size = i.size then (astore H b off v.cells.toList).map fun H' => .val undef H' else none
      | _, _, _ => none
    | .alloc e => match X.ti e with
      | some i => match i.zero with
        | some z => bif plainF 9 z then match H.alloc (.cells z.cells.toList e true false false) with
            | some (k, H') => some (.val (.pointer (some ⟨k, 0, none⟩)) H')
            | none => none
          else none
        | none => none
      | none => none
    | .box e x => match aev X tm x with
      | some v => match H.alloc (.cells v.cells.toList e true false false) with
        | some (k, H') => some (.val (.pointer (some ⟨k, 0, none⟩)) H')
        | none => none
      | none => none
    | .buildSlice t len parts => match X.ti t, aevs X tm (parts.toList.map (·.2)) with
      | some i, some vs => match i.desc with
        | .slice e => match X.ti e with
          | some ei => match ei.zero with
            | some z =>
              bif plainF 9 z && decide (len * ei.size ≤ 16777216) && decide (len < BIG) then
                match Instr.fill (fun k => some (k * ei.size, ei.size)) (if len * ei.size = 0 then #[] else (Array.range (len * ei.size)).map (z.cells[· % z.cells.size]!)) ((parts.toList.map (·.1)).zip vs) with
                | some cells => match H.alloc (.cells cells.toList e true false false) with
                  | some (k, H') => some (.val (.slice (some ⟨k, 0, none⟩) len len) H')
                  | none => none
                | none => none
              else none
            | none => none
          | none => none
        | _ => none
      | _, _ => none
    | .makeSlice t l c => match X.ti t, aev X tm l, aev X tm c with
      | some i, some (.int .i64 ln), some (.int .i64 cp) => match i.desc with
        | .slice e => match X.ti e with
          | some ei => match ei.zero with
            | some z =>
              bif plainF 9 z && decide (0 ≤ ln) && decide (ln ≤ cp) && decide (cp ≤ 1048576) && decide (ei.bytes ≤ 1024) && decide (0 < cp.toNat * ei.size) then
                match H.alloc (.cells ((Array.range (cp.toNat * ei.size)).map (z.cells[· % z.cells.size]!)).toList e true false false) with
                | some (k, H') => some (.val (.slice (some ⟨k, 0, none⟩) ln.toNat cp.toNat) H')
                | none => none
              else none
            | none => none
          | none => none
        | _ => none
      | _, _, _ => none
    | .convert s d x => match aev X tm x with
      | some v => aconvert X s d v H
      | none => none
    | .range t x => match X.ti t, aev X tm x with
      | some i, some (.string s) => match i.desc with
        | .string => match H.alloc (.iter s 0) with
          | some (k, H') => some (.val (.pointer (some ⟨k, 0, none⟩)) H')
          | none => none
        | _ => none
      | _, _ => none
    | .next it true => match aev X tm it with
      | some (.pointer (some ⟨b, 0, none⟩)) => match H.m.get b with
        | some (.iter s pos) =>
          if pos < s.size then
            match Utf8.decode s pos with
            | (c, width) => some (.val (.tuple #[.bool true, .int .i64 pos, .int .i32 c]) (H.put b (.iter s (pos + width))))
          else some (.val (.tuple #[.bool false]) H)
        | _ => none
      | _ => none
    | .makeMap _ none => match H.alloc (.map []) with
      | some (k, H') => some (.val (.map (some k)) H')
      | none => none
    | .lookup t m x ok => match aev X tm m, aev X tm x with
      | some (.map (some b)), some (.string s) => match H.m.get b with
        | some (.map es) => match alookup X t es s ok with
          | some v => some (.val v H)
          | none => none
        | _ => none
      | _, _ => none
    | .mapUpdate t m x u => match aev X tm m, aev X tm x, aev X tm u with
      | some (.map (some b)), some (.string s), some v => match aput1 X t H b s v with
        | some H' => some (.val undef H')
        | none => none
      | _, _, _ => none
    | .call c =>
      match aevs X tm c.args.toList with
      | none => none
      | some args =>
        match c.callee with
        | .value g => match aev X tm g with
          | some (.func (.func f) first captured) => acallf X f (first.toList ++ args ++ captured.toList) H
          | _ => none
        | .invoke r name => match aev X tm r with
          | some (.iface t v) =>
            bif plainF 9 v then
              match pureRun X.P (method (X.P.types.size + Made.depth) t v name) with
              | some (f, recv) => bif plainF 9 recv then acallf X f (recv :: args) H else none
              | none => none
            else none
          | _ => none
        | .builtin b =>
          match b, args with
          | .append, [s, x] => if c.argTypes.size = 2 then aappend X c.argTypes s x H else none
          | .copy, [d, x] => acopy X c.argTypes d x H
          | .unsafeString, [.pointer p, .int .i64 n] =>
            if n = 0 then (match c.argTypes[0]? with
              | some _ => some (.val (.string .empty) H)
              | none => none)
            else match p, c.argTypes[0]? with
              | some ⟨b, off, none⟩, some pt => match X.ti pt with
                | some pi => match pi.desc with
                  | .pointer e => match X.ti e, H.m.get b with
                    | some ei, some (.cells cs e' x _ false) =>
                      if e' = e ∧ ei.size = 1 ∧ 0 ≤ n ∧ n ≤ 1073741824 then
                        match cut cs off n.toNat with
                        | some bs => match asBytes bs with
                          | some l => some (.val (.string ⟨l.toArray⟩) (H.put b (.cells cs e x true false)))
                          | none => none
                        | none => none
                      else none
                    | _, _ => none
                  | _ => none
                | none => none
              | _, _ => none
          | .len, [.map (some b)] => match c.argTypes[0]? with
            | some t => match alen X t H b with
              | some v => some (.val v H)
              | none => none
            | none => none
          | _, args =>
            bif allPlain args then
              match pureRun X.P (execOp (fun x => (aev X tm x).getD undef) o) with
              | some (.value v) => bif plainF 9 v then some (.val v H) else none
              | _ => none
            else none
    | _ => none

/-! ### The same, laid out in small pieces: what the kernel runs (XFast proves that it is the same) -/
noncomputable def kVal (H : AH) : Option Value → Option ARes
  | some v => some (.val v H)
  | none => none
/-- The quick answer, or the long way. -/
noncomputable def kOr (H : AH) (r : Option Value) (long : Option ARes) : Option ARes :=
  match r with
  | some v => some (.val v H)
  | none => long
noncomputable def k1 (X : Ctx) (tm : Tm) (x : Operand) (f : Value → Option Value) : Option Value :=
  match aev X tm x with
  | some a => f a
  | none => none
noncomputable def k2 (X : Ctx) (tm : Tm) (x y : Operand) (f : Value → Value → Option Value) : Option Value :=
  match aev X tm x with
  | some a => match aev X tm y with
    | some b => f a b
    | none => none
  | none => none
/-- The greatest number of a kind. -/
def kmax : IntKind → Nat
  | .i8 => nat_lit 127
  | .u8 => nat_lit 255
  | .i16 => nat_lit 32767
  | .u16 => nat_lit 65535
  | .i32 => nat_lit 2147483647
  | .u32 => nat_lit 4294967295
  | .i64 => nat_lit 9223372036854775807
  | .u64 => nat_lit 18446744073709551615
/-- Two numbers from 0 on, the common ways. -/
def kNat (op : BinOp) (k : IntKind) (a b : Nat) : Option Value :=
  match op with
  | .add => bif Nat.ble (Nat.add a b) (kmax k) then some (.int k (.ofNat (Nat.add a b))) else none
  | .sub => bif Nat.ble b a then (bif Nat.ble a (kmax k) then some (.int k (.ofNat (Nat.sub a b))) else none) else none
  | .eql => some (.bool (Nat.beq a b))
  | .neq => some (.bool (!Nat.beq a b))
  | .lss => some (.bool (Nat.ble (Nat.succ a) b))
  | .leq => some (.bool (Nat.ble a b))
  | .gtr => some (.bool (Nat.ble (Nat.succ b) a))
  | .geq => some (.bool (Nat.ble b a))
  | _ => none
def kIntS (op : BinOp) (k : IntKind) (a : Int) (k' : IntKind) (b : Int) : Option Value :=
  match op with
  | .shl => if 0 ≤ b then some (.int k (k.wrap (a * ((2 ^ (min b.toNat k.bits) : Nat) : Int)))) else none
  | .shr => if 0 ≤ b then some (.int k (a.fdiv ((2 ^ (min b.toNat k.bits) : Nat) : Int))) else none
  | op => if k = k' then aint op k a b else none
def kInt (op : BinOp) (k : IntKind) (a : Int) (k' : IntKind) (b : Int) : Option Value :=
  match a, b with
  | .ofNat x, .ofNat y => if k = k' then (match kNat op k x y with
      | some v => some v
      | none => kIntS op k (.ofNat x) k' (.ofNat y)) else kIntS op k (.ofNat x) k' (.ofNat y)
  | a, b => kIntS op k a k' b
def kStr (op : BinOp) (a b : ByteArray) : Option Value :=
  match op with
  | .eql => some (.bool (a.data.toList == b.data.toList))
  | .neq => some (.bool !(a.data.toList == b.data.toList))
  | _ => none
noncomputable def kNilCmp (X : Ctx) (op : BinOp) (t : TypeId) (x y : Value) : Option Value :=
  match op with
  | .eql => match X.ti t with
    | some i => (aeqD X i.desc x y).map .bool
    | none => none
  | .neq => match X.ti t with
    | some i => (aeqD X i.desc x y).map fun b => .bool !b
    | none => none
  | _ => none
noncomputable def kBin (X : Ctx) (op : BinOp) (t : TypeId) (x y : Value) : Option Value :=
  match x, y with
  | .int k a, .int k' b => kInt op k a k' b
  | .string a, .string b => kStr op a b
  | .bool _, .bool _ => none
  | x, y => kNilCmp X op t x y
def kNil : Value → Option Value
  | .pointer (some a) => some (.pointer (some a))
  | .func (.func f) a b => some (.func (.func f) a b)
  | _ => none
def kExtract (ix : Nat) : Value → Option Value
  | .tuple vs => lget vs.toList ix
  | _ => none
noncomputable def kFieldAt (X : Ctx) (i : TI) (f : Nat) (b off : Nat) : Option Value :=
  match i.desc with
  | .struct fields => match fields[f]? with
    | some fl => match X.ti fl.type with
      | some fi => if fi.size = 0 then none else some (.pointer (some ⟨b, off + fl.offset, none⟩))
      | none => none
    | none => none
  | _ => none
noncomputable def kField (X : Ctx) (s : TypeId) (f : Nat) : Value → Option Value
  | .pointer (some ⟨b, off, none⟩) => match X.ti s with
    | some i => kFieldAt X i f b off
    | none => none
  | _ => none
noncomputable def kSlot (X : Ctx) (e : TypeId) (b off : Nat) (i : Int) (len : Nat) : Option Value :=
  if 0 ≤ i ∧ i < len then match X.ti e with
    | some ei => some (.pointer (some ⟨b, off + i.toNat * ei.size, none⟩))
    | none => none
  else none
noncomputable def kIndexAt (X : Ctx) (ti : TI) (x : Value) (i : Int) : Option Value :=
  match ti.desc, x with
  | .array len e, .pointer (some ⟨b, off, none⟩) => kSlot X e b off i len
  | .slice e, .slice (some ⟨b, off, none⟩) len _ => kSlot X e b off i len
  | _, _ => none
noncomputable def kIndexAddr (X : Ctx) (t : TypeId) (x : Value) : Value → Option Value
  | .int _ i => match X.ti t with
    | some ti => kIndexAt X ti x i
    | none => none
  | _ => none
noncomputable def kIndexS (X : Ctx) (t : TypeId) : Value → Value → Option Value
  | .string s, .int _ i => match X.ti t with
    | some ti => match ti.desc with
      | .string => if 0 ≤ i then (s.data[i.toNat]?).map fun b => .int .u8 b.toNat else none
      | _ => none
    | none => none
  | _, _ => none
noncomputable def kConvI (X : Ctx) (s t : TypeId) : Value → Option Value
  | .int _ a => match X.ti s with
    | some _ => match X.ti t with
      | some i => match i.desc with
        | .int k => some (.int k (k.wrap a))
        | _ => none
      | none => none
    | none => none
  | _ => none
def kNot : Value → Option Value
  | .bool b => some (.bool !b)
  | _ => none
noncomputable def kPick (X : Ctx) (tm : Tm) (c a b : Operand) : Option Value :=
  match aev X tm c, aev X tm a, aev X tm b with
  | some (.bool c), some a, some b => some (bif c then a else b)
  | _, _, _ => none
noncomputable def lgetR (l : List Value) : Nat → Option Value :=
  List.rec (motive := fun _ => Nat → Option Value) (fun _ => none) (fun v _ ih k => Nat.rec (motive := fun _ => Option Value) (some v) (fun n _ => ih n) k) l
noncomputable def aload1 (H : AH) (off : Nat) : Option AObj → Option ARes
  | some (.ro cs) => kVal H (lgetR cs off)
  | some (.cells cs _ _ _ _) => kVal H (lgetR cs off)
  | _ => none
noncomputable def kLoadR (H : AH) (b off : Nat) (i : TI) : Option ARes :=
  bif isAggD i.desc then (aload H b off i.size).map fun cs => .val (.agg cs.toArray) H
  else aload1 H off (H.m.get b)
noncomputable def kLoad (X : Ctx) (H : AH) (t : TypeId) : Option Value → Option ARes
  | some (.pointer (some ⟨b, off, none⟩)) => match X.ti t with
    | some i => kLoadR H b off i
    | none => none
  | _ => none
noncomputable def kStore (X : Ctx) (H : AH) (t : TypeId) : Option Value → Option Value → Option ARes
  | some (.pointer (some ⟨b, off, none⟩)), some v => match X.ti t with
    | some i => if v.cells.size = i.size then (astore H b off v.cells.toList).map fun H' => .val undef H' else none
    | none => none
  | _, _ => none
noncomputable def kBox (H : AH) (e : TypeId) : Option Value → Option ARes
  | some v => match H.alloc (.cells v.cells.toList e true false false) with
    | some (k, H') => some (.val (.pointer (some ⟨k, 0, none⟩)) H')
    | none => none
  | none => none
noncomputable def kFun (X : Ctx) (H : AH) (args : List Value) : Option Value → Option ARes
  | some (.func (.func f) first captured) => acallf X f (first.toList ++ args ++ captured.toList) H
  | _ => none
noncomputable def kCall (X : Ctx) (tm : Tm) (H : AH) (g : Operand) (args : List Operand) : Option ARes :=
  match aevs X tm args with
  | some vs => kFun X H vs (aev X tm g)
  | none => none
noncomputable def kCallee (X : Ctx) (tm : Tm) (H : AH) (o : Oper) (c : Call) : Option ARes :=
  match c.callee with
  | .value g => kCall X tm H g c.args.toList
  | .invoke _ _ => aop X tm H o
  | .builtin .len => kOr H (apure X tm o) (aop X tm H o)
  | .builtin _ => aop X tm H o

noncomputable def aopK (X : Ctx) (tm : Tm) (H : AH) (o : Oper) : Option ARes :=
  match o.op with
  | .move x => kVal H (aev X tm x)
  | .assign x => kVal H (aev X tm x)
  | .load t a => kLoad X H t (aev X tm a)
  | .store t a x => kStore X H t (aev X tm a) (aev X tm x)
  | .box e x => kBox H e (aev X tm x)
  | .binOp op t x y _ => kOr H (k2 X tm x y (kBin X op t)) (aop X tm H o)
  | .fieldAddr s x f => kOr H (k1 X tm x (kField X s f)) (aop X tm H o)
  | .nilCheck x => kOr H (k1 X tm x kNil) (aop X tm H o)
  | .extract t ix => kOr H (k1 X tm t (kExtract ix)) (aop X tm H o)
  | .indexAddr t x i => kOr H (k2 X tm x i (kIndexAddr X t)) (aop X tm H o)
  | .index t x i => kOr H (k2 X tm x i (kIndexS X t)) (aop X tm H o)
  | .convert s t x => kOr H (k1 X tm x (kConvI X s t)) (aop X tm H o)
  | .unOp .not _ x => kOr H (k1 X tm x kNot) (aop X tm H o)
  | .pick c a b => kOr H (kPick X tm c a b) (aop X tm H o)
  | .call c => kCallee X tm H o c
  | _ => aop X tm H o

/-! ### The same, with all that hangs on the program alone done ahead: the kernel keeps what it has reckoned of a closed text -/
structure CE where
  f : Tm → Option Value
noncomputable def CE.app (c : CE) (tm : Tm) : Option Value := CE.rec (motive := fun _ => Option Value) (fun f => f tm) c
structure CL where
  f : Tm → Option (List Value)
noncomputable def CL.app (c : CL) (tm : Tm) : Option (List Value) := CL.rec (motive := fun _ => Option (List Value)) (fun f => f tm) c
structure CO where
  f : Tm → AH → Option ARes
noncomputable def CO.app (c : CO) (tm : Tm) (H : AH) : Option ARes := CO.rec (motive := fun _ => Option ARes) (fun f => f tm H) c

noncomputable def cev (X : Ctx) : Operand → CE
  | .tmp t => ⟨fun tm => some (aget tm t)⟩
  | .const v => bif plainF 9 v then ⟨fun _ => some v⟩ else ⟨fun _ => none⟩
  | .global g => if g < X.G then ⟨fun _ => some (.pointer (some ⟨g, 0, none⟩))⟩ else ⟨fun _ => none⟩
  | .func f => ⟨fun _ => some (.func (.func f) #[] #[])⟩
noncomputable def cCons (e : CE) (l : CL) (tm : Tm) : Option (List Value) :=
  match e.app tm with
  | some v => match l.app tm with
    | some vs => some (v :: vs)
    | none => none
  | none => none
noncomputable def cevs (X : Ctx) (l : List Operand) : CL :=
  List.rec (motive := fun _ => CL) ⟨fun _ => some []⟩ (fun x _ ih => ⟨cCons (cev X x) ih⟩) l
noncomputable def c1 (e : CE) (f : Value → Option Value) (tm : Tm) : Option Value :=
  match e.app tm with
  | some a => f a
  | none => none
noncomputable def c2 (x y : CE) (f : Value → Value → Option Value) (tm : Tm) : Option Value :=
  match x.app tm with
  | some a => match y.app tm with
    | some b => f a b
    | none => none
  | none => none
noncomputable def cPick (c a b : CE) (tm : Tm) : Option Value :=
  match c.app tm, a.app tm, b.app tm with
  | some (.bool c), some a, some b => some (bif c then a else b)
  | _, _, _ => none
noncomputable def cCall (X : Ctx) (g : CE) (args : CL) (tm : Tm) (H : AH) : Option ARes :=
  match args.app tm with
  | some vs => kFun X H vs (g.app tm)
  | none => none
noncomputable def cCallee (X : Ctx) (o : Oper) (c : Call) : CO :=
  match c.callee with
  | .value g => ⟨cCall X (cev X g) (cevs X c.args.toList)⟩
  | .invoke _ _ => ⟨fun tm H => aop X tm H o⟩
  | .builtin .len => ⟨fun tm H => kOr H (apure X tm o) (aop X tm H o)⟩
  | .builtin _ => ⟨fun tm H => aop X tm H o⟩
noncomputable def aopC (X : Ctx) (o : Oper) : CO :=
  match o.op with
  | .move x => ⟨fun tm H => kVal H ((cev X x).app tm)⟩
  | .assign x => ⟨fun tm H => kVal H ((cev X x).app tm)⟩
  | .load t a => ⟨fun tm H => kLoad X H t ((cev X a).app tm)⟩
  | .store t a x => ⟨fun tm H => kStore X H t ((cev X a).app tm) ((cev X x).app tm)⟩
  | .box e x => ⟨fun tm H => kBox H e ((cev X x).app tm)⟩
  | .binOp op t x y _ => ⟨fun tm H => kOr H (c2 (cev X x) (cev X y) (kBin X op t) tm) (aop X tm H o)⟩
  | .fieldAddr s x f => ⟨fun tm H => kOr H (c1 (cev X x) (kField X s f) tm) (aop X tm H o)⟩
  | .nilCheck x => ⟨fun tm H => kOr H (c1 (cev X x) kNil tm) (aop X tm H o)⟩
  | .extract t ix => ⟨fun tm H => kOr H (c1 (cev X t) (kExtract ix) tm) (aop X tm H o)⟩
  | .indexAddr t x i => ⟨fun tm H => kOr H (c2 (cev X x) (cev X i) (kIndexAddr X t) tm) (aop X tm H o)⟩
  | .index t x i => ⟨fun tm H => kOr H (c2 (cev X x) (cev X i) (kIndexS X t) tm) (aop X tm H o)⟩
  | .convert s t x => ⟨fun tm H => kOr H (c1 (cev X x) (kConvI X s t) tm) (aop X tm H o)⟩
  | .unOp .not _ x => ⟨fun tm H => kOr H (c1 (cev X x) kNot tm) (aop X tm H o)⟩
  | .pick c a b => ⟨fun tm H => kOr H (cPick (cev X c) (cev X a) (cev X b) tm) (aop X tm H o)⟩
  | .call c => cCallee X o c
  | _ => ⟨fun tm H => aop X tm H o⟩

/-- A guard, likewise: 'none': no guard. -/
structure CG where
  g : Option (Option Tmp × Bool)
noncomputable def cguard (ops : Array Oper) (o : Oper) : CG :=
  match o.guard with
  | none => ⟨none⟩
  | some (j, want) => ⟨some ((ops[j]?).bind (·.dst), want)⟩
noncomputable def CG.app (c : CG) (tm : Tm) : Bool := CG.rec (motive := fun _ => Bool) (fun g =>
  match g with
  | none => true
  | some (d, want) => match d with
    | some d => match aget tm d with
      | .bool b => b == want
      | _ => false
    | none => false) c

/-! ### Code -/
noncomputable def awanted (ops : Array Oper) (o : Oper) (tm : Tm) : Bool :=
  match o.guard with
  | none => true
  | some (j, want) => match (ops[j]?).bind (·.dst) with
    | some d => match aget tm d with
      | .bool b => b == want
      | _ => false
    | none => false

abbrev ACall := Nat → List Value → AH → Option (Value × AH)

/-- A result into its temporary; 'nt': how many there are. -/
noncomputable def aput (nt : Nat) (tm : Tm) : Option Tmp → Value → Option Tm
  | none, _ => some tm
  | some d, v => if d < nt then some (tm.set d v) else none

noncomputable def aoper (X : Ctx) (call : ACall) (nt : Nat) (ops : Array Oper) (o : Oper) (tm : Tm) (H : AH) : Option (Tm × AH) :=
  bif (cguard ops o).app tm then
    match (aopC X o).app tm H with
    | some (.val v H') => (aput nt tm o.dst v).map fun tm' => (tm', H')
    | some (.enter f args) => match call f args H with
      | some (v, H') => (aput nt tm o.dst v).map fun tm' => (tm', H')
      | none => none
    | none => none
  else (aput nt tm o.dst undef).map fun tm' => (tm', H)

noncomputable def alist (X : Ctx) (call : ACall) (nt : Nat) (ops : Array Oper) (l : List Oper) : Tm → AH → Option (Tm × AH) :=
  List.rec (motive := fun _ => Tm → AH → Option (Tm × AH)) (fun tm H => some (tm, H))
    (fun o _ ih tm H => match aoper X call nt ops o tm H with
      | some (tm', H') => ih tm' H'
      | none => none) l

/-! equality of states, for regions that draw their order -/
mutual
def veq : Nat → Value → Value → Bool
  | 0, _, _ => false
  | n + 1, v, w =>
    match v, w with
    | .bool a, .bool b => a == b
    | .int k a, .int k' b => decide (k = k') && decide (a = b)
    | .string a, .string b => decide (a.data.toList = b.data.toList)
    | .pointer a, .pointer b => decide (a = b)
    | .slice a l c, .slice a' l' c' => decide (a = a') && decide (l = l') && decide (c = c')
    | .map a, .map b => decide (a = b)
    | .func f a b, .func g c d => decide (f = g) && vsEq n a.toList c.toList && vsEq n b.toList d.toList
    | .nilFunc, .nilFunc => true
    | .iface t v, .iface u w => decide (t = u) && veq n v w
    | .nilIface, .nilIface => true
    | .agg a, .agg b => vsEq n a.toList b.toList
    | .tuple a, .tuple b => vsEq n a.toList b.toList
    | _, _ => false
def vsEq : Nat → List Value → List Value → Bool
  | 0, _, _ => false
  | _ + 1, [], [] => true
  | n + 1, x :: xs, y :: ys => veq n x y && vsEq n xs ys
  | _ + 1, _, _ => false
end

def oeq : AObj → AObj → Bool
  | .ro a, .ro b => vsEq 1000 a b
  | .cells a e x f s, .cells a' e' x' f' s' => vsEq 1000 a a' && decide (e = e') && x == x' && f == f' && s == s'
  | .iter s p, .iter s' p' => decide (s.data.toList = s'.data.toList) && decide (p = p')
  | .map a, .map b => decide (a.map (·.1.data.toList) = b.map (·.1.data.toList)) && vsEq 1000 (a.map (·.2)) (b.map (·.2))
  | .dead, .dead => true
  | _, _ => false

def NM.eqv {α : Type} (f : α → α → Bool) : NM α → NM α → Bool
  | .leaf, .leaf => true
  | .node l v r, .node l' v' r' => l.eqv f l' && (match v, v' with | none, none => true | some a, some b => f a b | _, _ => false) && r.eqv f r'
  | _, _ => false

def stEq (tm : Tm) (H : AH) (tm' : Tm) (H' : AH) : Bool :=
  decide (H.next = H'.next) && decide (H.low = H'.low) && NM.eqv (veq 1000) tm tm' && NM.eqv oeq H.m H'.m

/-! ### Regions that draw their order: a plan, made ahead out of the text alone -/
/-- 0: hands back a value and touches nothing; 1: reads; 2: makes a new block; 3: anything. -/
noncomputable def okind (X : Ctx) (o : Oper) : Nat :=
  match o.op with
  | .move _ => 0
  | .assign _ => 0
  | .pick .. => 0
  | .nilCheck _ => 0
  | .fieldAddr .. => 0
  | .indexAddr .. => 0
  | .index .. => 0
  | .extract .. => 0
  | .unOp .. => 0
  | .binOp .. => 0
  | .build .. => 0
  | .field .. => 0
  | .slice _ _ _ _ none => 0
  | .convert _ d _ => match X.ti d with
    | some i => match i.desc with
      | .int _ => 0
      | _ => 3
    | none => 3
  | .call { callee := .builtin .len, argTypes, .. } => match argTypes[0]? with
    | some t => match X.ti t with
      | some i => match i.desc with
        | .map _ _ => 3
        | _ => 0
      | none => 3
    | none => 3
  | .load .. => 1
  | .box .. => 2
  | .buildSlice .. => 2
  | _ => 3

/-- Sets of numbers. -/
noncomputable def mask (l : List Nat) : Nat := List.rec (motive := fun _ => Nat) (nat_lit 0) (fun k _ ih => Nat.lor (Nat.shiftLeft 1 k) ih) l
def tb (M k : Nat) : Bool := Nat.beq (Nat.land (Nat.shiftRight M k) 1) 1
def msub (a b : Nat) : Bool := Nat.beq (Nat.land a b) a
noncomputable def mAfter (o : Oper) : Nat := mask ((o.after.toList.filter (Region.binds .any)).map (·.on))
noncomputable def mLooks (ops : Array Oper) (o : Oper) : Nat := mask (o.looksAt ops)

inductive Plan where
  | done
  | bad
  | one (o : Oper) (next : Plan)
  | alt (o : Oper) (next rest : Plan)

structure MI where
  i : Nat
  o : Oper
  after : Nat
  looks : Nat
  kind : Nat

noncomputable def minfo (X : Ctx) (ops : Array Oper) : List MI := ops.toList.zipIdx.map fun p => ⟨p.2, p.1, mAfter p.1, mLooks ops p.1, okind X p.1⟩
def mready (M : Nat) (m : MI) : Bool := bif tb M m.i then false else msub m.after M
def mapart (x y : MI) : Bool :=
  (match x.o.dst with
   | none => true
   | some d => bif tb y.looks d then false else match y.o.dst with
     | none => true
     | some e => !Nat.beq d e) &&
  (match y.o.dst with
   | none => true
   | some e => !tb x.looks e)
def mfree (all : List MI) (M : Nat) (m : MI) : Bool :=
  Nat.ble m.kind 1 && all.all fun n => Nat.beq n.i m.i || tb M n.i || tb n.after m.i || (mapart m n && (Nat.beq m.kind 0 || Nat.ble n.kind 2))
noncomputable def malts (k : MI → Plan) (r : MI) (rs : List MI) : Plan :=
  List.rec (motive := fun _ => MI → Plan) (fun r => .one r.o (k r)) (fun s _ ih r => .alt r.o (k r) (ih s)) rs r
noncomputable def mplan (all : List MI) (fuel : Nat) : Nat → Plan :=
  Nat.rec (motive := fun _ => Nat → Plan) (fun M => match all.filter (mready M) with
      | [] => .done
      | _ :: _ => .bad)
    (fun _ ih M => match all.filter (mready M) with
      | [] => .done
      | r :: rs => match (r :: rs).find? (mfree all M) with
        | some m => .one m.o (ih (Nat.lor M (Nat.shiftLeft 1 m.i)))
        | none => malts (fun m => ih (Nat.lor M (Nat.shiftLeft 1 m.i))) r rs) fuel
noncomputable def aplan (X : Ctx) (ops : Array Oper) : Plan := bif Region.noSelect ops then mplan (minfo X ops) ops.size 0 else .bad

noncomputable def Plan.run (X : Ctx) (call : ACall) (nt : Nat) (ops : Array Oper) (p : Plan) : Tm → AH → Option (Tm × AH) :=
  Plan.rec (motive := fun _ => Tm → AH → Option (Tm × AH)) (fun tm H => some (tm, H)) (fun _ _ => none)
    (fun o _ ih tm H => match aoper X call nt ops o tm H with
      | some (tm', H') => ih tm' H'
      | none => none)
    (fun o _ _ ih ih2 tm H => match aoper X call nt ops o tm H with
      | some (tm1, H1) => match ih tm1 H1 with
        | some (tm', H') => match ih2 tm H with
          | some (tm2, H2) => bif stEq tm' H' tm2 H2 then some (tm', H') else none
          | none => none
        | none => none
      | none => none) p

inductive AExit where
  | normal
  | exit (id : Nat)
  | ret

noncomputable def aresults (X : Ctx) (tm : Tm) (H : AH) : List ResultVar → Option (List Value)
  | [] => some []
  | .tmp t :: rs => match aresults X tm H rs with
    | some vs => some (aget tm t :: vs)
    | none => none
  | .cell a t :: rs => match aget tm a, X.ti t with
    | .pointer (some ⟨b, off, none⟩), some i =>
      match (bif isAggD i.desc then (aload H b off i.size).map fun cs => Value.agg cs.toArray
        else match aload H b off 1 with
          | some [v] => some v
          | _ => none), aresults X tm H rs with
      | some v, some vs => some (v :: vs)
      | _, _ => none
    | _, _ => none

def packR : List Value → Value
  | [v] => v
  | vs => .tuple vs.toArray

/-- A call: the body run on the same memory; a call that wrote nothing old and hands back no address leaves the memory as it was. -/
noncomputable def acallG (X : Ctx) (run : Nat → Code → Tm → AH → Option (AExit × Tm × AH)) : ACall := fun f args H =>
  match X.fn f with
  | none => none
  | some fn => match fn.body with
    | none => none
    | some body =>
      if args.length ≤ fn.ntmps ∧ fn.ntmps ≤ bound then
        match run fn.ntmps body (NM.ofListF args.length args) ⟨H.next, H.next, H.m⟩ with
        | none => none
        | some (e, tm', H') =>
          match e with
          | .exit _ => none
          | _ => match aresults X tm' H' fn.results.toList with
            | none => none
            | some vs =>
              bif plainF 9 (packR vs) && Nat.ble H.next H'.low then some (packR vs, H)
              else some (packR vs, ⟨H'.next, bif Nat.ble H.low H'.low then H.low else H'.low, H'.m⟩)
      else none

/-- A call that is known already, or the body run. -/
noncomputable def acallB (X : Ctx) (run : Nat → Code → Tm → AH → Option (AExit × Tm × AH)) : ACall := fun f args H =>
  match X.sum f args H with
  | some r => some r
  | none => acallG X run f args H

noncomputable def acodeF (X : Ctx) (run : Nat → Code → Tm → AH → Option (AExit × Tm × AH)) (nt : Nat) (c : Code) (tm : Tm) (H : AH) : Option (AExit × Tm × AH) :=
    match c with
    | .skip => some (.normal, tm, H)
    | .region _ ops false => match alist X (acallB X run) nt ops ops.toList tm H with
      | some (tm', H') => some (.normal, tm', H')
      | none => none
    | .region _ ops true =>
      match (aplan X ops).run X (acallB X run) nt ops tm H with
      | some (tm', H') => some (.normal, tm', H')
      | none => none
    | .seq a b => match run nt a tm H with
      | some (.normal, tm', H') => run nt b tm' H'
      | r => r
    | .cond x a b => match aev X tm x with
      | some (.bool true) => run nt a tm H
      | some (.bool false) => run nt b tm H
      | _ => none
    | .block id a => match run nt a tm H with
      | some (.exit id', tm', H') => if id' = id then some (.normal, tm', H') else some (.exit id', tm', H')
      | r => r
    | .loop a => match run nt a tm H with
      | some (.normal, tm', H') => run nt (.loop a) tm' H'
      | r => r
    | .exit id => some (.exit id, tm, H)
    | .label _ => some (.normal, tm, H)
    | .ret => some (.ret, tm, H)
    | _ => none

noncomputable def acode (X : Ctx) (fuel : Nat) : Nat → Code → Tm → AH → Option (AExit × Tm × AH) :=
  Nat.rec (motive := fun _ => Nat → Code → Tm → AH → Option (AExit × Tm × AH)) (fun _ _ _ _ => none) (fun _ ih => acodeF X ih) fuel
theorem acode_zero (X : Ctx) (nt : Nat) (c : Code) (tm : Tm) (H : AH) : acode X 0 nt c tm H = none := rfl
theorem acode_succ (X : Ctx) (fuel nt : Nat) (c : Code) (tm : Tm) (H : AH) : acode X (fuel + 1) nt c tm H = acodeF X (acode X fuel) nt c tm H := rfl

/-- A function called on an empty memory but for the variables 'g'. -/
noncomputable def arun (X : Ctx) (fuel : Nat) (g : AH) (f : Nat) (args : List Value) : Option Value :=
  match acallB X (acode X fuel) f args g with
  | some (v, _) => some v
  | none => none
end Go.Xc
/- THE EXECUTOR, 3: when a state of the executor stands for a world. -/
namespace Go.Xc
open Go.RowKit

structure Ctx.Ok (X : Ctx) : Prop where
  ti : ∀ t i, X.ti t = some i → X.P.underlying t = some i.desc ∧ ∃ inf, X.P.info? t = some inf ∧ inf.size = i.size ∧ inf.bytes = i.bytes ∧ inf.zero = i.zero
  fn : ∀ f fn, X.fn f = some fn → X.P.funcs[f]? = some fn
  enter : ∀ f fn, X.fn f = some fn → fn.body.isSome = true → (fn.name == "runtime.NumGoroutine") = false
  noEscape : ∀ f, X.ext f = some .noEscape → ∀ v w, (callFunc f #[v]).run X.P w = .ok (.value v) w
  indexByte : ∀ f, X.ext f = some .indexByte → ∀ s c w, (callFunc f #[.string s, .int .u8 c]).run X.P w =
    .ok (.value (.int .i64 (match (List.range s.size).find? fun i => s[i]! == c.toNat.toUInt8 with | some i => (i : Int) | none => -1))) w
  count : ∀ f, X.ext f = some .count → ∀ s c w, (callFunc f #[.string s, .int .u8 c]).run X.P w =
    .ok (.value (.int .i64 (s.foldl (fun (n : Int) x => if x == c.toNat.toUInt8 then n + 1 else n) 0))) w
  noZero : ∀ f, X.ext f = some .noZero → ∀ fn t e, X.fn f = some fn → fn.resultTypes[0]? = some t → X.P.underlying t = some (.slice e) → ∀ (n : Int) w, 0 ≤ n → n ≤ 1048576 →
    ∃ (cap : Nat) (c : Array Value), n.toNat ≤ cap ∧ c.size = cap ∧ (callFunc f #[.int .i64 n]).run X.P w =
      .ok (.value (.slice (some ⟨w.heap.size, 0, none⟩) n.toNat cap)) ({ w with heap := w.heap.push (.cells c e), drawn := w.drawn + 2 })
  mixed : X.P.follows .mixedOrders = true

/-- The temporaries. -/
def TR (ι : Nat → Nat × Nat) (n : Nat) (tm : Tm) (tmps : Array Value) : Prop := ∀ t, VR ι n (aget tm t) (tmps.getD t undef)

def AObj.own : AObj → Bool
  | .cells .. | .iter .. | .map .. => true
  | _ => false

/-- What an object stands for. -/
def OR (X : Ctx) (N0 : Nat) (ι : Nat → Nat × Nat) (n k : Nat) (w : World) : AObj → Prop
  | .dead => True
  | .ro cs => (ι k).1 < N0 ∧ ∀ i (h : i < cs.length), ∃ v', w.cell? ⟨(ι k).1, i, none⟩ = some v' ∧ VR ι n cs[i] v'
  | .cells cs elem exact fz st => N0 ≤ (ι k).1 ∧ ∃ c fr, w.heap[(ι k).1]? = some (.cells c elem fr) ∧ cs.length ≤ c.size ∧ (exact = true → c.size = cs.length) ∧
      (exact = false → ∀ i, X.ti elem = some i → c.size = (ι k).2 * i.size) ∧ (∀ i (h : i < cs.length) (h' : i < c.size), VR ι n cs[i] c[i]) ∧
      (fr.1 ≠ fr.2 → fr.1 < fr.2 ∧ ((fz = true ∧ fr.2 ≤ cs.length) ∨ (st = true ∧ c.size ≤ fr.1)))
  | .iter s pos => N0 ≤ (ι k).1 ∧ w.heap[(ι k).1]? = some (.stringIter s pos)
  | .map es => N0 ≤ (ι k).1 ∧ ∃ c clock, w.heap[(ι k).1]? = some (.map c clock) ∧ c.size = es.length ∧
      ∀ i (h : i < es.length) (h' : i < c.size), c[i].key = .string es[i].1 ∧ VR ι n es[i].2 c[i].val

structure HR (X : Ctx) (N0 : Nat) (w0 : World) (ι : Nat → Nat × Nat) (H : AH) (w : World) : Prop where
  base : ∀ k, k < X.G → (ι k).1 = k
  lo : X.G ≤ H.next
  hi : H.next ≤ bound + 1
  top : ∀ k, H.next ≤ k → H.m.get k = none
  obj : ∀ k o, H.m.get k = some o → OR X N0 ι H.next k w o
  inj : ∀ k k' o o', H.m.get k = some o → H.m.get k' = some o' → o.own = true → o'.own = true → (ι k).1 = (ι k').1 → k = k'
  size : N0 ≤ w.heap.size
  below : Below N0 w0 w

theorem HR.lt {X : Ctx} {N0 : Nat} {w0 : World} {ι : Nat → Nat × Nat} {H : AH} {w : World} (h : HR X N0 w0 ι H w) {k : Nat} {o : AObj} (hk : H.m.get k = some o) : k < H.next :=
  Nat.lt_of_not_le fun hle => by rw [h.top k hle] at hk; cases hk

/-- What abstract steps leave of an abstract memory. -/
structure Keeps (H H' : AH) : Prop where
  next : H.next ≤ H'.next
  low : H'.low ≤ H.low
  same : ∀ k, k < H.next → k < H'.low → H'.m.get k = H.m.get k
theorem Keeps.refl (H : AH) : Keeps H H := ⟨Nat.le_refl _, Nat.le_refl _, fun _ _ _ => rfl⟩
theorem Keeps.trans {a b c : AH} (h : Keeps a b) (k : Keeps b c) : Keeps a c :=
  ⟨Nat.le_trans h.next k.next, Nat.le_trans k.low h.low, fun i h1 h2 => (k.same i (Nat.lt_of_lt_of_le h1 h.next) h2).trans (h.same i h1 (Nat.lt_of_lt_of_le h2 k.low))⟩

/-- 'ι'' goes on from 'ι'. -/
def Ext' (ι ι' : Nat → Nat × Nat) (n : Nat) : Prop := ∀ k, k < n → ι' k = ι k
theorem Ext'.refl (ι : Nat → Nat × Nat) (n : Nat) : Ext' ι ι n := fun _ _ => rfl
theorem Ext'.trans {ι ι' ι'' : Nat → Nat × Nat} {n n' : Nat} (h : Ext' ι ι' n) (k : Ext' ι' ι'' n') (hn : n ≤ n') : Ext' ι ι'' n :=
  fun i hi => (k i (Nat.lt_of_lt_of_le hi hn)).trans (h i hi)

theorem OR.congr {X : Ctx} {N0 : Nat} {ι ι' : Nat → Nat × Nat} {n n' k : Nat} {w w' : World} {o : AObj} (h : OR X N0 ι n k w o) (hn : n ≤ n') (hι : Ext' ι ι' n) (hk : k < n)
    (hw : w'.heap[(ι k).1]? = w.heap[(ι k).1]?) : OR X N0 ι' n' k w' o := by
  cases o with
  | dead => trivial
  | ro cs =>
    obtain ⟨h1, h2⟩ := h
    refine ⟨by rw [hι k hk]; exact h1, fun i hi => ?_⟩
    obtain ⟨v', hv, hr⟩ := h2 i hi
    refine ⟨v', ?_, hr.mono hn hι⟩
    rw [hι k hk]
    rw [← hv]; exact World.cell?_of_block (w := w) (a := ⟨(ι k).1, i, none⟩) hw
  | cells cs elem exact fz st =>
    obtain ⟨h1, c, fr, h2, h3, h4, h5, h6, h7⟩ := h
    refine ⟨by rw [hι k hk]; exact h1, c, fr, by rw [hι k hk, hw]; exact h2, h3, h4, by rw [hι k hk]; exact h5, fun i hi hi' => (h6 i hi hi').mono hn hι, h7⟩
  | iter s pos =>
    obtain ⟨h1, h2⟩ := h
    exact ⟨by rw [hι k hk]; exact h1, by rw [hι k hk, hw]; exact h2⟩
  | map es =>
    obtain ⟨h1, c, clock, h2, h3, h4⟩ := h
    exact ⟨by rw [hι k hk]; exact h1, c, clock, by rw [hι k hk, hw]; exact h2, h3, fun i hi hi' => ⟨(h4 i hi hi').1, (h4 i hi hi').2.mono hn hι⟩⟩

theorem OR.block_lt {X : Ctx} {N0 : Nat} {ι : Nat → Nat × Nat} {n k : Nat} {w : World} {o : AObj} (h : OR X N0 ι n k w o) (hs : N0 ≤ w.heap.size) (ho : o ≠ .dead) : (ι k).1 < w.heap.size := by
  cases o with
  | dead => exact absurd rfl ho
  | ro cs => exact Nat.lt_of_lt_of_le h.1 hs
  | cells cs elem exact fz st =>
    obtain ⟨_, c, fr, h2, _⟩ := h
    exact (Array.getElem?_eq_some_iff.1 h2).1
  | iter s pos => exact (Array.getElem?_eq_some_iff.1 h.2).1
  | map es =>
    obtain ⟨_, c, clock, h2, _⟩ := h
    exact (Array.getElem?_eq_some_iff.1 h2).1

/-- A fresh number, for a fresh block. -/
def ιset (ι : Nat → Nat × Nat) (k : Nat) (x : Nat × Nat) : Nat → Nat × Nat := fun j => if j = k then x else ι j
theorem ιset_ext (ι : Nat → Nat × Nat) (k : Nat) (x : Nat × Nat) : Ext' ι (ιset ι k x) k := fun j hj => by simp [ιset, Nat.ne_of_lt hj]
theorem ιset_same (ι : Nat → Nat × Nat) (k : Nat) (x : Nat × Nat) : ιset ι k x k = x := by simp [ιset]

/-- A draw changes nothing. -/
theorem HR.drawn {X : Ctx} {N0 : Nat} {w0 : World} {ι : Nat → Nat × Nat} {H : AH} {w : World} (h : HR X N0 w0 ι H w) (d : Nat) : HR X N0 w0 ι H { w with drawn := d } :=
  ⟨h.base, h.lo, h.hi, h.top, fun k o hk => (h.obj k o hk).congr (Nat.le_refl _) (Ext'.refl _ _) (h.lt hk) rfl, h.inj, h.size, ⟨h.below.os, h.below.tape, h.below.output, h.below.size, h.below.block⟩⟩

/-- A new block. -/
theorem HR.alloc {X : Ctx} {N0 : Nat} {w0 : World} {ι : Nat → Nat × Nat} {H H' : AH} {w : World} {k : Nat} {o : AObj} {obj : Obj} (h : HR X N0 w0 ι H w) (ha : H.alloc o = some (k, H')) (cap : Nat)
    (hnew : ∀ w', w'.heap[w.heap.size]? = some obj → OR X N0 (ιset ι H.next (w.heap.size, cap)) (H.next + 1) H.next w' o) :
    k = H.next ∧ H'.next = H.next + 1 ∧ Keeps H H' ∧ Ext' ι (ιset ι H.next (w.heap.size, cap)) H.next ∧ HR X N0 w0 (ιset ι H.next (w.heap.size, cap)) H' { w with heap := w.heap.push obj } := by
  unfold AH.alloc at ha
  split at ha
  case isFalse => cases ha
  rename_i hb
  simp only [Option.some.injEq, Prod.mk.injEq] at ha
  obtain ⟨rfl, rfl⟩ := ha
  have hget : ∀ j, (H.m.set H.next o).get j = if H.next = j then some o else H.m.get j := fun j => NM.get_set _ _ _ _ hb
  refine ⟨rfl, rfl, ⟨by simp, Nat.le_refl _, fun j hj _ => ?_⟩, ιset_ext _ _ _, ?_⟩
  · simp only [hget, if_neg (show ¬ H.next = j by omega)]
  · have hold : ∀ j, j < w.heap.size → (w.heap.push obj)[j]? = w.heap[j]? := fun j hj => by rw [Array.getElem?_push, if_neg (by omega)]
    refine ⟨fun j hj => ?_, ?_, ?_, fun j hj => ?_, fun j oj hj => ?_, fun i j oi oj hi hj o1 o2 he => ?_, ?_, ?_⟩
    · rw [ιset_ext _ _ _ j (by have := h.lo; omega)]; exact h.base j hj
    · have := h.lo; simp; omega
    · simp; exact hb
    · simp only at hj; simp only [hget]; rw [if_neg (by omega)]; exact h.top j (by omega)
    · simp only [hget] at hj
      by_cases hjn : H.next = j
      · rw [if_pos hjn] at hj; cases hj; subst hjn
        exact hnew _ (by simp)
      · rw [if_neg hjn] at hj
        have hjl := h.lt hj
        have ho := h.obj j oj hj
        by_cases hd : oj = .dead
        · subst hd; trivial
        · exact ho.congr (by simp) (ιset_ext _ _ _) hjl (hold _ (ho.block_lt h.size hd))
    · simp only [hget] at hi hj
      by_cases hin : H.next = i
      · by_cases hjn : H.next = j
        · omega
        · rw [if_neg hjn] at hj
          have hjl := h.lt hj
          rw [← hin, ιset_same, ιset_ext _ _ _ j hjl] at he
          have := (h.obj j oj hj).block_lt h.size (by rintro rfl; cases o2)
          simp only at he; omega
      · rw [if_neg hin] at hi
        have hil := h.lt hi
        by_cases hjn : H.next = j
        · rw [← hjn, ιset_same, ιset_ext _ _ _ i hil] at he
          have := (h.obj i oi hi).block_lt h.size (by rintro rfl; cases o1)
          simp only at he; omega
        · rw [if_neg hjn] at hj
          have hjl := h.lt hj
          rw [ιset_ext _ _ _ i hil, ιset_ext _ _ _ j hjl] at he
          exact h.inj i j oi oj hi hj o1 o2 he
    · simp only [Array.size_push]; have := h.size; omega
    · have hb' := h.below
      exact ⟨hb'.os, hb'.tape, hb'.output, by simp only [Array.size_push]; exact Nat.le_trans hb'.size (Nat.le_succ _), fun j hj => by
        rw [hold j (by have := h.size; omega)]; exact hb'.block j hj⟩

/-- An object of the run's own written. -/
theorem HR.put {X : Ctx} {N0 : Nat} {w0 : World} {ι : Nat → Nat × Nat} {H : AH} {w w' : World} {k : Nat} {o o' : AObj} (h : HR X N0 w0 ι H w) (hk : H.m.get k = some o) (ho : o.own = true) (ho' : o'.own = true ∨ o' = .dead)
    (hw : ∀ b, b ≠ (ι k).1 → w'.heap[b]? = w.heap[b]?) (hs : w'.heap.size = w.heap.size) (e1 : w'.os = w.os) (e2 : w'.tape = w.tape) (e3 : w'.output = w.output)
    (hnew : OR X N0 ι H.next k w' o') : Keeps H (H.put k o') ∧ HR X N0 w0 ι (H.put k o') w' := by
  have hkn := h.lt hk
  have hkb : k ≤ bound := by have := h.hi; omega
  have hget : ∀ j, (H.m.set k o').get j = if k = j then some o' else H.m.get j := fun j => NM.get_set _ _ _ _ hkb
  have hN : N0 ≤ (ι k).1 := by
    have := h.obj k o hk
    cases o with
    | cells => exact this.1
    | iter => exact this.1
    | map => exact this.1
    | _ => cases ho
  have hlow : (H.put k o').low ≤ H.low ∧ ((H.put k o').low ≤ k) := by
    unfold AH.put
    cases hb : Nat.ble H.low k with
    | true => simp only [cond_true]; exact ⟨Nat.le_refl _, Nat.le_of_ble_eq_true hb⟩
    | false =>
      have : ¬ H.low ≤ k := fun hle => by rw [Nat.ble_eq_true_of_le hle] at hb; cases hb
      simp only [cond_false]; exact ⟨by omega, Nat.le_refl _⟩
  refine ⟨⟨Nat.le_refl _, hlow.1, fun j _ hj => ?_⟩, ?_⟩
  · show (H.m.set k o').get j = _
    rw [hget, if_neg (by have := hlow.2; omega)]
  · refine ⟨h.base, h.lo, h.hi, fun j hj => ?_, fun j oj hj => ?_, fun i j oi oj hi hj o1 o2 he => ?_, by rw [hs]; exact h.size, ?_⟩
    · show (H.m.set k o').get j = none
      have hj' : H.next ≤ j := hj
      rw [hget, if_neg (by omega)]; exact h.top j hj'
    · have hj' : (H.m.set k o').get j = some oj := hj
      rw [hget] at hj'
      by_cases hjk : k = j
      · rw [if_pos hjk] at hj'; cases hj'; subst hjk; exact hnew
      · rw [if_neg hjk] at hj'
        have hr := h.obj j oj hj'
        by_cases hd : oj = .dead
        · subst hd; trivial
        · refine hr.congr (Nat.le_refl _) (Ext'.refl _ _) (h.lt hj') (hw _ fun he => ?_)
          cases oj with
          | dead => exact hd rfl
          | ro cs => have := hr.1; omega
          | cells => exact hjk (h.inj j k _ _ hj' hk rfl ho he).symm
          | iter => exact hjk (h.inj j k _ _ hj' hk rfl ho he).symm
          | map => exact hjk (h.inj j k _ _ hj' hk rfl ho he).symm
    · have hi' : (H.m.set k o').get i = some oi := hi
      have hj' : (H.m.set k o').get j = some oj := hj
      rw [hget] at hi' hj'
      by_cases hik : k = i
      · by_cases hjk : k = j
        · omega
        · rw [if_neg hjk] at hj'
          subst hik
          exact h.inj k j o oj hk hj' ho o2 he
      · rw [if_neg hik] at hi'
        by_cases hjk : k = j
        · subst hjk
          exact h.inj i k oi o hi' hk o1 ho he
        · rw [if_neg hjk] at hj'
          exact h.inj i j oi oj hi' hj' o1 o2 he
    · have hb' := h.below
      refine ⟨e1.trans hb'.os, e2.trans hb'.tape, e3.trans hb'.output, by rw [hs]; exact hb'.size, fun j hj => ?_⟩
      rw [hw j (by omega)]; exact hb'.block j hj

/-- After a call that wrote nothing old and handed back no address: the memory is as it was. -/
theorem HR.back {X : Ctx} {N0 : Nat} {w0 : World} {ι ι' : Nat → Nat × Nat} {H H' : AH} {w w' : World} (h : HR X N0 w0 ι H w) (h' : HR X N0 w0 ι' H' w') (hι : Ext' ι ι' H.next) (hn : H.next ≤ H'.next)
    (hsame : ∀ k, k < H.next → H'.m.get k = H.m.get k) : HR X N0 w0 ι H w' := by
  refine ⟨h.base, h.lo, h.hi, h.top, fun k o hk => ?_, fun i j oi oj hi hj o1 o2 he => ?_, h'.size, h'.below⟩
  · have hkl := h.lt hk
    have h1 := h.obj k o hk
    have h2 := h'.obj k o (by rw [hsame k hkl]; exact hk)
    cases o with
    | dead => trivial
    | ro cs =>
      obtain ⟨a1, a2⟩ := h1
      obtain ⟨b1, b2⟩ := h2
      refine ⟨a1, fun i hi => ?_⟩
      obtain ⟨v1, _, r1⟩ := a2 i hi
      obtain ⟨v2, c2, r2⟩ := b2 i hi
      rw [hι k hkl] at c2
      exact ⟨v2, c2, r1.narrow hι r2⟩
    | cells cs elem exact fz st =>
      obtain ⟨a1, c, fr, a2, a3, a4, a5, a6, a7⟩ := h1
      obtain ⟨b1, c', fr', b2, b3, b4, b5, b6, b7⟩ := h2
      rw [hι k hkl] at b1 b2 b5
      exact ⟨b1, c', fr', b2, b3, b4, b5, fun i hi hi' => (a6 i hi (by omega)).narrow hι (b6 i hi hi'), b7⟩
    | iter s pos =>
      obtain ⟨b1, b2⟩ := h2
      rw [hι k hkl] at b1 b2
      exact ⟨b1, b2⟩
    | map es =>
      obtain ⟨a1, c, clock, a2, a3, a4⟩ := h1
      obtain ⟨b1, c', clock', b2, b3, b4⟩ := h2
      rw [hι k hkl] at b1 b2
      exact ⟨b1, c', clock', b2, b3, fun i hi hi' => ⟨(b4 i hi hi').1, (a4 i hi (by omega)).2.narrow hι (b4 i hi hi').2⟩⟩
  · have hil := h.lt hi
    have hjl := h.lt hj
    exact h.inj i j oi oj hi hj o1 o2 he

theorem TR.mono {ι ι' : Nat → Nat × Nat} {n n' : Nat} {tm : Tm} {tmps : Array Value} (h : TR ι n tm tmps) (hn : n ≤ n') (hι : Ext' ι ι' n) : TR ι' n' tm tmps :=
  fun t => (h t).mono hn hι
theorem aget_set (tm : Tm) (d t : Nat) (v : Value) (hd : d ≤ bound) : aget (tm.set d v) t = if d = t then v else aget tm t := by
  unfold aget; rw [NM.get_set _ _ _ _ hd]; split <;> rfl
theorem TR.put {ι : Nat → Nat × Nat} {n : Nat} {tm : Tm} {tmps : Array Value} {d : Nat} {v v' : Value} (h : TR ι n tm tmps) (hd : d < tmps.size) (hb : d ≤ bound) (hv : VR ι n v v') :
    TR ι n (tm.set d v) (tmps.setIfInBounds d v') := by
  intro t
  rw [aget_set _ _ _ _ hb]
  by_cases ht : d = t
  · subst ht
    simp [hd, hv]
  · rw [if_neg ht]
    have := h t
    simpa [Array.getElem?_setIfInBounds_ne ht] using this
end Go.Xc
/- THE EXECUTOR, 4: the operations that touch no memory do what the model's do. -/
namespace Go.Xc
open Go.RowKit

/-- Lists of values, one by one. -/
inductive LR (ι : Nat → Nat × Nat) (n : Nat) : List Value → List Value → Prop
  | nil : LR ι n [] []
  | cons {v v' : Value} {vs vs' : List Value} (h : VR ι n v v') (t : LR ι n vs vs') : LR ι n (v :: vs) (v' :: vs')

theorem LR.length {ι : Nat → Nat × Nat} {n : Nat} {a b : List Value} (h : LR ι n a b) : a.length = b.length := by
  induction h with
  | nil => rfl
  | cons _ _ ih => simp [ih]
theorem LR.get {ι : Nat → Nat × Nat} {n : Nat} {a b : List Value} (h : LR ι n a b) : ∀ (i : Nat) (h1 : i < a.length) (h2 : i < b.length), VR ι n a[i] b[i] := by
  induction h with
  | nil => intro i h1; simp at h1
  | cons hv _ ih =>
    intro i h1 h2
    cases i with
    | zero => exact hv
    | succ i => exact ih i (by simpa using h1) (by simpa using h2)
theorem LR.of_get {ι : Nat → Nat × Nat} {n : Nat} : ∀ (a b : List Value), a.length = b.length → (∀ (i : Nat) (h1 : i < a.length) (h2 : i < b.length), VR ι n a[i] b[i]) → LR ι n a b
  | [], [], _, _ => .nil
  | [], _ :: _, h, _ => by simp at h
  | _ :: _, [], h, _ => by simp at h
  | x :: xs, y :: ys, h, g => .cons (g 0 (by simp) (by simp)) (LR.of_get xs ys (by simpa using h) fun i h1 h2 => g (i + 1) (by simpa using h1) (by simpa using h2))
theorem LR.mono {ι ι' : Nat → Nat × Nat} {n n' : Nat} {a b : List Value} (h : LR ι n a b) (hn : n ≤ n') (hι : Ext' ι ι' n) : LR ι' n' a b := by
  induction h with
  | nil => exact .nil
  | cons hv _ ih => exact .cons (hv.mono hn hι) ih
theorem LR.append {ι : Nat → Nat × Nat} {n : Nat} {a b c d : List Value} (h : LR ι n a b) (k : LR ι n c d) : LR ι n (a ++ c) (b ++ d) := by
  induction h with
  | nil => exact k
  | cons hv _ ih => exact .cons hv ih
theorem LR.take {ι : Nat → Nat × Nat} {n : Nat} {a b : List Value} (h : LR ι n a b) : ∀ m, LR ι n (a.take m) (b.take m) := by
  induction h with
  | nil => intro m; simp; exact .nil
  | cons hv _ ih => intro m; cases m with
    | zero => simp; exact .nil
    | succ m => simp only [List.take_succ_cons]; exact .cons hv (ih m)
theorem LR.drop {ι : Nat → Nat × Nat} {n : Nat} {a b : List Value} (h : LR ι n a b) : ∀ m, LR ι n (a.drop m) (b.drop m) := by
  induction h with
  | nil => intro m; simp; exact .nil
  | cons hv t ih => intro m; cases m with
    | zero => exact .cons hv t
    | succ m => simp only [List.drop_succ_cons]; exact ih m
theorem LR.arr {ι : Nat → Nat × Nat} {n : Nat} {a b : List Value} (h : LR ι n a b) : AR ι n a.toArray b.toArray :=
  ⟨by simp [h.length], fun i h1 h2 => by simpa using h.get i (by simpa using h1) (by simpa using h2)⟩
theorem AR.list {ι : Nat → Nat × Nat} {n : Nat} {a b : Array Value} (h : AR ι n a b) : LR ι n a.toList b.toList :=
  LR.of_get _ _ (by simp [h.1]) fun i h1 h2 => by simpa using h.2 i (by simpa using h1) (by simpa using h2)
theorem AR.get? {ι : Nat → Nat × Nat} {n : Nat} {a b : Array Value} (h : AR ι n a b) {i : Nat} {v : Value} (hv : a[i]? = some v) : ∃ v', b[i]? = some v' ∧ VR ι n v v' := by
  obtain ⟨h1, rfl⟩ := Array.getElem?_eq_some_iff.1 hv
  have h2 : i < b.size := by have := h.1; omega
  exact ⟨b[i], Array.getElem?_eq_getElem h2, h.2 i h1 h2⟩
theorem AR.extract {ι : Nat → Nat × Nat} {n : Nat} {a b : Array Value} (h : AR ι n a b) (i j : Nat) : AR ι n (a.extract i j) (b.extract i j) := by
  refine ⟨by simp [h.1], fun k h1 h2 => ?_⟩
  simp only [Array.getElem_extract]
  simp only [Array.size_extract] at h1 h2
  exact h.2 _ (by omega) (by omega)

theorem lget_eq {α : Type} : ∀ (l : List α) (i : Nat), lget l i = l[i]?
  | [], i => by simp [lget]
  | x :: xs, 0 => by simp [lget]
  | x :: xs, i + 1 => by simp [lget, lget_eq xs i]

section
variable {X : Ctx} {ι : Nat → Nat × Nat} {n : Nat} {tm : Tm} {a : Act}

theorem aev_sound (hG : X.G ≤ n) (hb : ∀ k, k < X.G → (ι k).1 = k) (hT : TR ι n tm a.tmps) {x : Operand} {v : Value} (h : aev X tm x = some v) : VR ι n v (a.eval x) := by
  cases x with
  | tmp t => simp only [aev, Option.some.injEq] at h; subst h; exact hT t
  | const c =>
    simp only [aev] at h
    cases hp : plainF 9 c with
    | true => simp only [hp, cond_true, Option.some.injEq] at h; subst h; exact plainF_refl 9 _ hp
    | false => simp [hp] at h
  | global g =>
    simp only [aev] at h
    split at h
    · rename_i hg
      simp only [Option.some.injEq] at h; subst h
      have := VR.ptr (ι := ι) (n := n) g 0 (by omega)
      rw [hb g hg] at this
      exact this
    · cases h
  | func f =>
    simp only [aev, Option.some.injEq] at h; subst h
    exact .func _ #[] #[] #[] #[] rfl rfl (fun i h => by simp at h) (fun i h => by simp at h)

theorem aevs_sound (hG : X.G ≤ n) (hb : ∀ k, k < X.G → (ι k).1 = k) (hT : TR ι n tm a.tmps) : ∀ {xs : List Operand} {vs : List Value}, aevs X tm xs = some vs → LR ι n vs (xs.map a.eval)
  | [], vs, h => by simp only [aevs_nil, Option.some.injEq] at h; subst h; exact .nil
  | x :: xs, vs, h => by
    simp only [aevs_cons] at h
    cases hx : aev X tm x with
    | none => simp [hx] at h
    | some v =>
      cases hxs : aevs X tm xs with
      | none => simp [hx, hxs] at h
      | some us =>
        simp only [hx, hxs, Option.some.injEq] at h
        subst h
        exact .cons (aev_sound hG hb hT hx) (aevs_sound hG hb hT hxs)
end

section
variable {P : Program} {ι : Nat → Nat × Nat} {n : Nat}
theorem run_v {s : Sem Value} {v : Value} {w : World} (h : s.run P w = .ok v w) : (do pure (Next.value (← s)) : Sem Next).run P w = .ok (.value v) w := by
  simp [h]

theorem eqGuard_skip (op : BinOp) (t : TypeId) (x y : Operand) {a b : Value} (h1 : ¬ (a = .nilIface ∧ b = .nilIface)) (h2 : ∀ c d, ¬ (a = .agg c ∧ b = .agg d)) : eqGuard op t x y a b = pure () := by
  unfold eqGuard
  cases op <;> first
    | rfl
    | (cases a <;> first | rfl | (cases b <;> first | rfl | exact absurd ⟨rfl, rfl⟩ h1 | exact absurd ⟨rfl, rfl⟩ (h2 _ _)))

theorem aint_sound {op : BinOp} {k : IntKind} {x y : Int} {v : Value} (t : TypeId) (h : aint op k x y = some v) (w : World) : (binOp op t (.int k x) (.int k y)).run P w = .ok v w ∧ VR ι n v v := by
  unfold aint at h
  split at h <;> simp only [Option.some.injEq, reduceCtorEq] at h
  all_goals subst h
  · exact ⟨by simp [binOp_add, Op.intArith], .int _ _⟩
  · exact ⟨by simp [binOp_sub, Op.intArith], .int _ _⟩
  · exact ⟨by simp [binOp_mul, Op.intArith], .int _ _⟩
  · exact ⟨by rw [binOp_eql]; rfl, .bool _⟩
  · exact ⟨by rw [binOp_neq]; simp only [Sem.run_pure]; congr 2, .bool _⟩
  · exact ⟨by rw [binOp_and]; rfl, .int _ _⟩
  · exact ⟨by rw [binOp_or]; rfl, .int _ _⟩
  · exact ⟨by rw [binOp_lss]; rfl, .bool _⟩
  · exact ⟨by rw [binOp_leq]; rfl, .bool _⟩
  · exact ⟨by rw [binOp_gtr]; rfl, .bool _⟩
  · exact ⟨by rw [binOp_geq]; rfl, .bool _⟩

/-- Comparisons with nil. -/
theorem aeqD_step {X : Ctx} {d : TypeDesc} {t : TypeId} {x y x' y' : Value} {b : Bool} (ht : X.P.underlying t = some d) (hX : X.Ok) (h : aeqD X d x y = some b) (hx : VR ι n x x') (hy : VR ι n y y')
    (m : Nat) (w : World) : (Op.equalIn (m + 1) t x' y').run X.P w = .ok b w ∧ ¬ (x' = .nilIface ∧ y' = .nilIface) ∧ (∀ c d, ¬ (x' = .agg c ∧ y' = .agg d)) ∧ (∀ c d, ¬ (x' = .string c ∧ y' = .string d)) := by
  unfold aeqD at h
  split at h
  · rename_i e
    generalize hg : X.sz e = sz at h
    unfold Ctx.sz at hg
    unfold anilEq at h
    split at h
    · simp only [Option.some.injEq] at h; subst h
      cases hx; cases hy
      exact ⟨by simp [Op.equalIn, run_underlying ht], by simp, by simp, by simp⟩
    · simp only [Option.some.injEq] at h; subst h
      cases hx; cases hy
      exact ⟨by simp [Op.equalIn, run_underlying ht], by simp, by simp, by simp⟩
    · rename_i p q
      by_cases hpq : sz ≠ 0 ∧ p.block = q.block ∧ p.spot = none ∧ q.spot = none
      case neg => rw [if_neg hpq] at h; cases h
      rw [if_pos hpq] at h
      simp only [Option.some.injEq] at h; subst h
      obtain ⟨hz, hpq⟩ := hpq
      cases hte : X.ti e with
      | none => simp only [hte] at hg; exact absurd hg.symm hz
      | some ei =>
      simp only [hte] at hg
      obtain ⟨_, inf, hinf, hsz, _⟩ := hX.ti e ei hte
      cases hx with
      | ptr b1 o1 h1 =>
        cases hy with
        | ptr b2 o2 h2 =>
          obtain ⟨hb, _, _⟩ := hpq
          simp only at hb
          subst hb
          have hz' : inf.size ≠ 0 := by rw [hsz, hg]; exact hz
          refine ⟨?_, by simp, by simp, by simp⟩
          simp [Op.equalIn, run_underlying ht, sizeOf, typeInfo, hinf, hz', sameAddr]
          by_cases ho : o1 = o2 <;> simp [ho]
    · cases h
  · simp only [Option.some.injEq] at h; subst h
    cases hy
    cases hx <;> exact ⟨by simp [Op.equalIn, run_underlying ht], by simp, by simp, by simp⟩
  · simp only [Option.some.injEq] at h; subst h
    cases hx
    cases hy <;> exact ⟨by simp [Op.equalIn, run_underlying ht], by simp, by simp, by simp⟩
  · simp only [Option.some.injEq] at h; subst h
    cases hy
    cases hx <;> exact ⟨by simp [Op.equalIn, run_underlying ht], by simp, by simp, by simp⟩
  · simp only [Option.some.injEq] at h; subst h
    cases hx
    cases hy <;> exact ⟨by simp [Op.equalIn, run_underlying ht], by simp, by simp, by simp⟩
  · simp only [Option.some.injEq] at h; subst h
    cases hx
    cases hy; exact ⟨by simp [Op.equalIn, run_underlying ht], by simp, by simp, by simp⟩
  · simp only [Option.some.injEq] at h; subst h
    cases hx
    cases hy; exact ⟨by simp [Op.equalIn, run_underlying ht], by simp, by simp, by simp⟩
  · cases h
end

theorem aeqD_sound {X : Ctx} {ι : Nat → Nat × Nat} {n : Nat} {d : TypeDesc} {t : TypeId} {x y x' y' : Value} {b : Bool} (ht : X.P.underlying t = some d) (hX : X.Ok) (h : aeqD X d x y = some b) (hx : VR ι n x x') (hy : VR ι n y y') (p q : Operand) (w : World) :
    (do eqGuard .eql t p q x' y'; binOp .eql t x' y' : Sem Value).run X.P w = .ok (.bool b) w ∧ (do eqGuard .neq t p q x' y'; binOp .neq t x' y' : Sem Value).run X.P w = .ok (.bool !b) w := by
  obtain ⟨h1, h2, h3, h4⟩ := aeqD_step ht hX h hx hy 9999 w
  have h5 : (Op.equal t x' y').run X.P w = .ok b w := h1
  rw [eqGuard_skip _ _ _ _ h2 h3, eqGuard_skip _ _ _ _ h2 h3]
  have hi : ∀ k a l c, ¬ (x' = .int k a ∧ y' = .int l c) := by
    rintro k a l c ⟨rfl, rfl⟩
    cases hx; cases hy
    cases d <;> simp [aeqD, anilEq] at h
  constructor
  · have : binOp .eql t x' y' = (do pure (.bool (← Op.equal t x' y')) : Sem Value) := by
      unfold aeqD anilEq at h
      cases hx <;> cases hy <;> first | rfl | (exact absurd ⟨rfl, rfl⟩ (hi _ _ _ _)) | (exact absurd ⟨rfl, rfl⟩ (h4 _ _))
    simp [this, h5]
  · have : binOp .neq t x' y' = (do pure (.bool (!(← Op.equal t x' y'))) : Sem Value) := by
      unfold aeqD anilEq at h
      cases hx <;> cases hy <;> first | rfl | (exact absurd ⟨rfl, rfl⟩ (hi _ _ _ _)) | (exact absurd ⟨rfl, rfl⟩ (h4 _ _))
    simp [this, h5]
end Go.Xc
/- THE EXECUTOR, 5: the operations that touch no memory do what the model's do. -/
namespace Go.Xc
open Go.RowKit

theorem VR.isAgg {ι : Nat → Nat × Nat} {n : Nat} {cs cs' : Array Value} (h : VR ι n (.agg cs) (.agg cs')) : AR ι n cs cs' := by
  cases h with | agg _ _ h g => exact ⟨h, g⟩

theorem run_part {X : Ctx} (hX : X.Ok) {t : TypeId} {i : TI} (ht : X.ti t = some i) {ι : Nat → Nat × Nat} {n : Nat} {cs cs' : Array Value} (hc : AR ι n cs cs') {off : Nat} {v : Value}
    (h : (bif isAggD i.desc then some (.agg (cs.extract off (off + i.size))) else cs[off]?) = some v) : ∃ v', VR ι n v v' ∧ ∀ w, (part t cs' off).run X.P w = .ok v' w := by
  obtain ⟨hd, inf, hi, hs, _⟩ := hX.ti t i ht
  cases hg : isAggD i.desc with
  | true =>
    rw [hg] at h
    simp only [cond_true, Option.some.injEq] at h; subst h
    have he := hc.extract off (off + i.size)
    refine ⟨.agg (cs'.extract off (off + i.size)), .agg _ _ he.1 he.2, fun w => ?_⟩
    have : (isAgg t).run X.P w = .ok true w := by
      unfold isAgg
      simp only [Sem.run_bind, run_underlying hd, Result.andThen_ok]
      cases hdd : i.desc <;> simp [hdd, isAggD] at hg ⊢
    simp [part, this, sizeOf, typeInfo, hi, hs]
  | false =>
    rw [hg] at h
    simp only [cond_false] at h
    obtain ⟨v', h', hr⟩ := hc.get? h
    refine ⟨v', hr, fun w => ?_⟩
    have : (isAgg t).run X.P w = .ok false w := by
      unfold isAgg
      simp only [Sem.run_bind, run_underlying hd, Result.andThen_ok]
      cases hdd : i.desc <;> simp [hdd, isAggD] at hg ⊢
    simp [part, this, h']

theorem Addr.add_none (b off k : Nat) : (⟨b, off, none⟩ : Addr).add k = ⟨b, off + k, none⟩ := by
  unfold Addr.add; split <;> simp_all

set_option maxHeartbeats 1000000 in
theorem apure1_sound {X : Ctx} (hX : X.Ok) {ι : Nat → Nat × Nat} {n : Nat} {o : Oper} {vs : List Value} {v : Value} {a : Act} (h : apure1 X o vs = some v) (hl : LR ι n vs (o.op.operands.toList.map a.eval)) :
    ∃ v', VR ι n v v' ∧ ∀ w, (execOp a.eval o).run X.P w = .ok (.value v') w := by
  unfold apure1 at h
  split at h
  · rename_i heq; rw [heq] at hl
    simp only [Op.operands, List.map_cons, List.map_nil] at hl
    simp only [Option.some.injEq] at h; subst h
    cases hl with | cons hv _ =>
    exact ⟨_, hv, fun w => by simp [execOp, heq]⟩
  · rename_i heq; rw [heq] at hl
    simp only [Op.operands, List.map_cons, List.map_nil] at hl
    simp only [Option.some.injEq] at h; subst h
    cases hl with | cons hv _ =>
    exact ⟨_, hv, fun w => by simp [execOp, heq]⟩
  · rename_i c x y bb av bv heq; rw [heq] at hl
    simp only [Op.operands, List.map_cons, List.map_nil] at hl
    simp only [Option.some.injEq] at h; subst h
    cases hl with | cons hv t =>
    cases t with | cons hx t =>
    cases t with | cons hy t =>
    generalize hc' : a.eval c = c' at hv
    cases hv with
    | bool b =>
    refine ⟨bif bb then a.eval x else a.eval y, by cases bb <;> assumption, fun w => ?_⟩
    simp only [execOp, heq, hc', asBool, Sem.run_bind, Sem.run_pure, Result.andThen_ok]
    cases bb <;> rfl
  · rename_i op t xo yo yt x y heq; rw [heq] at hl
    simp only [Op.operands, List.map_cons, List.map_nil] at hl
    cases hl with | cons hx t' =>
    cases t' with | cons hy t' =>
    split at h
    · rename_i k p k' q
      generalize hxe : a.eval xo = x' at hx
      generalize hye : a.eval yo = y' at hy
      cases hx; cases hy
      have hpow : ∀ m : Nat, ((2 ^ m : Nat) : Int) = (2 : Int) ^ m := fun m => by simp
      split at h
      · by_cases hb0 : 0 ≤ q
        case neg => rw [if_neg hb0] at h; cases h
        rw [if_pos hb0] at h
        simp only [Option.some.injEq] at h; subst h
        refine ⟨_, .int _ _, fun w => ?_⟩
        simp only [execOp, heq, hxe, hye]
        rw [eqGuard_skip _ _ _ _ (by simp) (by simp), hpow]
        simp [binOp_shl, Op.shift, show ¬ q < 0 by omega]
      · by_cases hb0 : 0 ≤ q
        case neg => rw [if_neg hb0] at h; cases h
        rw [if_pos hb0] at h
        simp only [Option.some.injEq] at h; subst h
        refine ⟨_, .int _ _, fun w => ?_⟩
        simp only [execOp, heq, hxe, hye]
        rw [eqGuard_skip _ _ _ _ (by simp) (by simp), hpow]
        simp [binOp_shr, Op.shift, show ¬ q < 0 by omega]
      split at h
      case isFalse => cases h
      rename_i hk; subst hk
      refine ⟨v, ?_⟩
      have h1 := fun w => aint_sound (P := X.P) (ι := ι) (n := n) t h w
      refine ⟨(h1 default).2, fun w => ?_⟩
      simp only [execOp, heq, hxe, hye]
      rw [eqGuard_skip _ _ _ _ (by simp) (by simp)]
      simp [(h1 w).1]
    · rename_i p q
      generalize hxe : a.eval xo = x' at hx
      generalize hye : a.eval yo = y' at hy
      cases hx; cases hy
      split at h
      · simp only [Option.some.injEq] at h; subst h
        refine ⟨_, .bool _, fun w => ?_⟩
        simp only [execOp, heq, hxe, hye]
        rw [eqGuard_skip _ _ _ _ (by simp) (by simp), binOp_string_eql]
        simp [ByteArray.toList_eq]
      · simp only [Option.some.injEq] at h; subst h
        refine ⟨_, .bool _, fun w => ?_⟩
        simp only [execOp, heq, hxe, hye]
        rw [eqGuard_skip _ _ _ _ (by simp) (by simp), binOp_string_neq]
        simp [ByteArray.toList_eq]
      · cases h
    · rename_i p q
      generalize hxe : a.eval xo = x' at hx
      generalize hye : a.eval yo = y' at hy
      cases hx; cases hy
      split at h
      case h_2 => cases h
      rename_i i hti
      split at h
      case h_2 => cases h
      rename_i hd
      simp only [Option.some.injEq] at h; subst h
      refine ⟨_, .bool _, fun w => ?_⟩
      have hu := (hX.ti _ _ hti).1
      rw [hd] at hu
      simp only [execOp, heq, hxe, hye]
      rw [eqGuard_skip _ _ _ _ (by simp) (by simp)]
      have : (Op.equal t (.bool p) (.bool q)).run X.P w = .ok (p == q) w := by
        show (Op.equalIn (9999 + 1) t (.bool p) (.bool q)).run X.P w = _
        generalize 9999 = m
        simp [Op.equalIn, run_underlying hu]
      simp [binOp, this]
    · split at h
      · cases hti : X.ti t with
        | none => simp [hti] at h
        | some i =>
          simp only [hti, Option.map_eq_some_iff] at h
          obtain ⟨b, hb, rfl⟩ := h
          refine ⟨.bool b, .bool b, fun w => ?_⟩
          have := (aeqD_sound (hX.ti t i hti).1 hX hb hx hy xo yo w).1
          simp only [execOp, heq]
          exact run_v this
      · cases hti : X.ti t with
        | none => simp [hti] at h
        | some i =>
          simp only [hti, Option.map_eq_some_iff] at h
          obtain ⟨b, hb, rfl⟩ := h
          refine ⟨.bool !b, .bool _, fun w => ?_⟩
          have := (aeqD_sound (hX.ti t i hti).1 hX hb hx hy xo yo w).2
          simp only [execOp, heq]
          exact run_v this
      · cases h
  · rename_i s t x k p heq; rw [heq] at hl
    simp only [Op.operands, List.map_cons, List.map_nil] at hl
    cases hl with | cons hx _ =>
    split at h
    case h_2 => cases h
    rename_i si i hsi hti
    split at h
    case h_2 => cases h
    rename_i kk hd
    simp only [Option.some.injEq] at h; subst h
    have hu := (hX.ti _ _ hti).1
    rw [hd] at hu
    have hus := (hX.ti _ _ hsi).1
    generalize hxe : a.eval x = x' at hx
    cases hx
    refine ⟨_, .int _ _, fun w => ?_⟩
    simp only [execOp, heq, hxe]
    refine run_v ?_
    simp [convert, run_underlying hus, run_underlying hu, Conv.intToInt]
  · rename_i s x b heq; rw [heq] at hl
    simp only [Op.operands, List.map_cons, List.map_nil] at hl
    cases hl with | cons hx _ =>
    simp only [Option.some.injEq] at h; subst h
    generalize hxe : a.eval x = x' at hx
    cases hx
    exact ⟨_, .bool _, fun w => by simp [execOp, heq, hxe, Op.unary]⟩
  · rename_i t ix vs heq; rw [heq] at hl
    simp only [Op.operands, List.map_cons, List.map_nil] at hl
    cases hl with | cons hx _ =>
    rw [lget_eq] at h
    generalize hxe : a.eval t = x' at hx
    cases hx with
    | tuple _ vs' hs g =>
    obtain ⟨v', h', hr⟩ := AR.get? (a := vs) (b := vs') ⟨hs, g⟩ (by simpa using h)
    exact ⟨v', hr, fun w => by simp [execOp, heq, hxe, Instr.extract, h']⟩
  · rename_i t x v0 heq; rw [heq] at hl
    simp only [Op.operands, List.map_cons, List.map_nil] at hl
    cases hl with | cons hx _ =>
    cases hti : X.ti t with
    | none => simp [hti] at h
    | some i =>
      simp only [hti] at h
      split at h
      · cases h
      rename_i hni
      simp only [Option.some.injEq] at h; subst h
      refine ⟨.iface t (a.eval x), .iface _ _ _ hx, fun w => ?_⟩
      simp only [execOp, heq]
      refine run_v ?_
      simp only [Instr.makeInterface, Sem.run_bind, run_underlying (hX.ti t i hti).1, Result.andThen_ok]
      all_goals (cases hdd : i.desc <;> first | rfl | exact absurd hdd (hni _))
  · rename_i x p heq; rw [heq] at hl
    simp only [Op.operands, List.map_cons, List.map_nil] at hl
    cases hl with | cons hx _ =>
    simp only [Option.some.injEq] at h; subst h
    refine ⟨a.eval x, hx, fun w => ?_⟩
    generalize hxe : a.eval x = x' at hx
    cases hx
    simp [execOp, heq, hxe]
  · rename_i x f p q heq; rw [heq] at hl
    simp only [Op.operands, List.map_cons, List.map_nil] at hl
    cases hl with | cons hx _ =>
    simp only [Option.some.injEq] at h; subst h
    refine ⟨a.eval x, hx, fun w => ?_⟩
    generalize hxe : a.eval x = x' at hx
    cases hx
    simp [execOp, heq, hxe]
  · rename_i s x f b off heq; rw [heq] at hl
    simp only [Op.operands, List.map_cons, List.map_nil] at hl
    cases hl with | cons hx _ =>
    cases hti : X.ti s with
    | none => simp [hti] at h
    | some i =>
      simp only [hti] at h
      split at h
      case h_2 => cases h
      rename_i fields hd
      cases hf : fields[f]? with
      | none => simp [hf] at h
      | some fl =>
        simp only [hf] at h
        cases hfi : X.ti fl.type with
        | none => simp [hfi] at h
        | some fi =>
          simp only [hfi] at h
          split at h
          · cases h
          rename_i hz
          simp only [Option.some.injEq] at h; subst h
          obtain ⟨_, inf, hinf, hs, _⟩ := hX.ti fl.type fi hfi
          have hz' : inf.size ≠ 0 := by rw [hs]; exact hz
          generalize hxe : a.eval x = x' at hx
          cases hx with
          | ptr _ _ hb =>
          refine ⟨_, .ptr b (off + fl.offset) hb, fun w => ?_⟩
          have hu := (hX.ti s i hti).1
          rw [hd] at hu
          simp only [execOp, heq, hxe]
          refine run_v ?_
          simp [Instr.fieldAt, run_underlying hu, hf, Instr.sureAddr, fieldPlace, sizeOf, typeInfo, hinf, hz', Addr.add_none]
  · rename_i t x f cs heq; rw [heq] at hl
    simp only [Op.operands, List.map_cons, List.map_nil] at hl
    cases hl with | cons hx _ =>
    cases hti : X.ti t with
    | none => simp [hti] at h
    | some i =>
      simp only [hti] at h
      split at h
      case h_2 => cases h
      rename_i fields hd
      cases hf : fields[f]? with
      | none => simp [hf] at h
      | some fl =>
        simp only [hf] at h
        cases hfi : X.ti fl.type with
        | none => simp [hfi] at h
        | some fi =>
          simp only [hfi] at h
          generalize hxe : a.eval x = x' at hx
          cases hx with
          | agg _ cs' hs g =>
          obtain ⟨v', hr, hp⟩ := run_part hX hfi (ι := ι) (n := n) (cs := cs) (cs' := cs') ⟨hs, g⟩ h
          refine ⟨v', hr, fun w => ?_⟩
          have hu := (hX.ti t i hti).1
          rw [hd] at hu
          simp only [execOp, heq, hxe]
          refine run_v ?_
          simp [Instr.field, run_underlying hu, hf, asAgg, hp]
  · rename_i t xo io x k ix heq; rw [heq] at hl
    simp only [Op.operands, List.map_cons, List.map_nil] at hl
    cases hl with | cons hx t' =>
    cases t' with | cons hi _ =>
    generalize hxe : a.eval xo = x' at hx
    generalize hie : a.eval io = i' at hi
    cases hi
    cases hti : X.ti t with
    | none => simp [hti] at h
    | some ti =>
      simp only [hti] at h
      have hu := (hX.ti t ti hti).1
      split at h
      · rename_i len e b off hd
        split at h
        case isFalse => cases h
        rename_i hlt
        cases hei : X.ti e with
        | none => simp [hei] at h
        | some ei =>
          simp only [hei, Option.some.injEq] at h; subst h
          obtain ⟨_, inf, hinf, hs, _⟩ := hX.ti e ei hei
          cases hx with
          | ptr _ _ hb =>
          refine ⟨_, .ptr b _ hb, fun w => ?_⟩
          rw [hd] at hu
          simp only [execOp, heq, hxe, hie]
          refine run_v ?_
          simp [Instr.indexAt, asIntOf, run_underlying hu, Instr.sureAddr, hlt, sizeOf, typeInfo, hinf, hs, Addr.add_none]
      · rename_i e b off len cap hd
        split at h
        case isFalse => cases h
        rename_i hlt
        cases hei : X.ti e with
        | none => simp [hei] at h
        | some ei =>
          simp only [hei, Option.some.injEq] at h; subst h
          obtain ⟨_, inf, hinf, hs, _⟩ := hX.ti e ei hei
          cases hx with
          | slice _ _ _ _ cap' hb hl hc hbb =>
          refine ⟨_, .ptr b _ hb, fun w => ?_⟩
          rw [hd] at hu
          simp only [execOp, heq, hxe, hie]
          refine run_v ?_
          simp [Instr.indexAt, asIntOf, run_underlying hu, hlt, sizeOf, typeInfo, hinf, hs, Addr.add_none]
      · cases h
  · rename_i t xo io x k ix heq; rw [heq] at hl
    simp only [Op.operands, List.map_cons, List.map_nil] at hl
    cases hl with | cons hx t' =>
    cases t' with | cons hi _ =>
    generalize hxe : a.eval xo = x' at hx
    generalize hie : a.eval io = i' at hi
    cases hi
    cases hti : X.ti t with
    | none => simp [hti] at h
    | some ti =>
      simp only [hti] at h
      have hu := (hX.ti t ti hti).1
      split at h
      · rename_i s hd
        split at h
        case isFalse => cases h
        rename_i h0
        simp only [Option.map_eq_some_iff] at h
        obtain ⟨bt, hbt, rfl⟩ := h
        cases hx
        refine ⟨_, .int _ _, fun w => ?_⟩
        rw [hd] at hu
        simp only [execOp, heq, hxe, hie]
        refine run_v ?_
        have hbt' : s[ix.toNat]? = some bt := by
          obtain ⟨h1, h2⟩ := Array.getElem?_eq_some_iff.1 hbt
          have h1' : ix.toNat < s.size := h1
          rw [getElem?_pos s ix.toNat h1', ← h2]; rfl
        simp [Instr.index, asIntOf, run_underlying hu, h0, hbt']
      · rename_i len e cs hd
        split at h
        case isFalse => cases h
        rename_i hlt
        cases hei : X.ti e with
        | none => simp [hei] at h
        | some ei =>
          simp only [hei] at h
          obtain ⟨_, inf, hinf, hs, _⟩ := hX.ti e ei hei
          cases hx with
          | agg _ cs' hsz g =>
          obtain ⟨v', hr, hp⟩ := run_part hX hei (ι := ι) (n := n) (cs := cs) (cs' := cs') ⟨hsz, g⟩ h
          refine ⟨v', hr, fun w => ?_⟩
          rw [hd] at hu
          simp only [execOp, heq, hxe, hie]
          refine run_v ?_
          simp [Instr.index, asIntOf, run_underlying hu, hlt, sizeOf, typeInfo, hinf, hs, hp]
      · cases h
  · rename_i fn first captured heq; rw [heq] at hl
    simp only [Op.operands, Array.toList_append, List.map_append] at hl
    split at h
    case isFalse => cases h
    rename_i hlen
    simp only [Option.some.injEq] at h; subst h
    have h1 := hl.take first.size
    have h2 := hl.drop first.size
    rw [List.take_left' (by simp)] at h1
    rw [List.drop_left' (by simp)] at h2
    refine ⟨.func fn (first.map a.eval) (captured.map a.eval), ?_, fun w => by simp [execOp, heq, Instr.makeFunc]⟩
    have e1 := h1.arr
    have e2 := h2.arr
    rw [show (first.toList.map a.eval).toArray = first.map a.eval by simp [← Array.toList_map]] at e1
    rw [show (captured.toList.map a.eval).toArray = captured.map a.eval by simp [← Array.toList_map]] at e2
    exact .func _ _ _ _ _ e1.1 e2.1 e1.2 e2.2
  · rename_i x xt t ok t' u heq; rw [heq] at hl
    simp only [Op.operands, List.map_cons, List.map_nil] at hl
    cases hl with | cons hx _ =>
    generalize hxe : a.eval x = x' at hx
    cases hx with
    | iface _ _ u' hu' =>
    cases hti : X.ti t with
    | none => simp [hti] at h
    | some i =>
      simp only [hti] at h
      obtain ⟨hu, inf, hinf, hs, _, hz0⟩ := hX.ti t i hti
      split at h
      · cases h
      rename_i hni
      have hrun : ∀ w, (Instr.typeAssert (.iface t' u') xt t ok).run X.P w = if t' = t then .ok (if ok then .tuple #[u', .bool true] else u') w
          else ((if ok then (do pure (.tuple #[← zeroValue t, .bool false]) : Sem Value) else runtimePanic (.typeAssertion (some xt) (some t') t "") : Sem Value)).run X.P w := by
        intro w
        simp only [Instr.typeAssert, Sem.run_bind, run_underlying hu, Result.andThen_ok]
        cases hdd : i.desc <;> first
          | exact absurd hdd (hni _)
          | (by_cases hte : t' = t <;> simp [hte] <;> rfl)
      split at h
      · rename_i hte
        simp only [Option.some.injEq] at h; subst h
        cases ok with
        | true =>
          refine ⟨.tuple #[u', .bool true], ?_, fun w => ?_⟩
          · refine .tuple _ _ rfl fun i h1 h2 => ?_
            match i, h1 with
            | 0, _ => exact hu'
            | 1, _ => exact .bool true
          · simp only [execOp, heq, hxe]
            refine run_v ?_
            rw [hrun w, if_pos hte.symm]; rfl
        | false =>
          refine ⟨u', hu', fun w => ?_⟩
          simp only [execOp, heq, hxe]
          refine run_v ?_
          rw [hrun w, if_pos hte.symm]; rfl
      · rename_i hte
        cases ok with
        | false => simp at h
        | true =>
          simp only [cond_true] at h
          cases hz : i.zero with
          | none => simp [hz] at h
          | some z =>
            simp only [hz] at h
            cases hp : plainF 9 z with
            | false => simp [hp] at h
            | true =>
              simp only [hp, cond_true, Option.some.injEq] at h; subst h
              refine ⟨.tuple #[z, .bool false], ?_, fun w => ?_⟩
              · refine .tuple _ _ rfl fun i h1 h2 => ?_
                match i, h1 with
                | 0, _ => exact plainF_refl 9 z hp
                | 1, _ => exact .bool false
              · simp only [execOp, heq, hxe]
                refine run_v ?_
                rw [hrun w, if_neg (fun e => hte e.symm)]
                simp [zeroValue, typeInfo, hinf, hz0, hz]
  · cases h
end Go.Xc
/- THE EXECUTOR, 6: slices of values, aggregates, lengths; all the operations that touch no memory. -/
namespace Go.Xc
open Go.RowKit

/-- Values that may lack. -/
def OV (ι : Nat → Nat × Nat) (n : Nat) : Option Value → Option Value → Prop
  | none, none => True
  | some v, some v' => VR ι n v v'
  | _, _ => False

theorem abounds_real {ι : Nat → Nat × Nat} {n : Nat} {m : Nat} {lo hi lo' hi' : Option Value} (h1 : OV ι n lo lo') (h2 : OV ι n hi hi') {r : Nat × Nat} (h : abounds m lo hi = some r) :
    abounds m lo' hi' = some r ∧ (hi = none ↔ hi' = none) := by
  have e1 : abounds m lo' hi' = abounds m lo hi ∧ (hi = none ↔ hi' = none) := by
    cases lo <;> cases lo' <;> simp only [OV] at h1
    all_goals cases hi <;> cases hi' <;> simp only [OV] at h2
    · exact ⟨rfl, Iff.rfl⟩
    · cases h2 <;> first | exact ⟨rfl, by simp⟩ | simp [abounds] at h
    · cases h1 <;> first | exact ⟨rfl, by simp⟩ | simp [abounds] at h
    · cases h1 <;> cases h2 <;> first | exact ⟨rfl, by simp⟩ | (simp [abounds] at h; done)
  exact ⟨by rw [e1.1, h], e1.2⟩

theorem sliceBounds_run {P : Program} {isS : Bool} {len cap m : Nat} {lo hi : Option Value} {l h : Nat} (hb : abounds m lo hi = some (l, h)) (hm : (hi = none → m = len) ∧ (hi ≠ none → m ≤ cap)) (w : World) :
    (Instr.sliceBounds isS len cap lo hi none).run P w = .ok (l, h, cap) w ∧ l ≤ h ∧ h ≤ m := by
  unfold abounds at hb
  split at hb
  · rename_i k hv
    have hmc : m ≤ cap := hm.2 (by simp)
    by_cases hh : 0 ≤ hv ∧ hv ≤ m
    case neg => rw [if_neg hh] at hb; cases hb
    rw [if_pos hh] at hb
    have hh2 : 0 ≤ hv ∧ hv ≤ (cap : Int) := ⟨hh.1, by omega⟩
    split at hb
    · rename_i k2 lv
      by_cases hl : 0 ≤ lv ∧ lv ≤ hv
      case neg => rw [if_neg hl] at hb; cases hb
      rw [if_pos hl] at hb
      simp only [Option.some.injEq, Prod.mk.injEq] at hb
      obtain ⟨rfl, rfl⟩ := hb
      have hl2 : 0 ≤ lv ∧ lv ≤ (hv.toNat : Int) := ⟨hl.1, by omega⟩
      refine ⟨?_, by omega, by omega⟩
      have a1 := run_sliceBound (P := P) w k hv cap (if isS = true then .sliceAcap else .sliceAlen) hh2.1 hh2.2
      have a2 := run_sliceBound (P := P) w k2 lv hv.toNat .sliceB hl2.1 hl2.2
      simp [Instr.sliceBounds, a1, a2]
    · simp only [Option.some.injEq, Prod.mk.injEq] at hb
      obtain ⟨rfl, rfl⟩ := hb
      refine ⟨?_, by omega, by omega⟩
      have a1 := run_sliceBound (P := P) w k hv cap (if isS = true then .sliceAcap else .sliceAlen) hh2.1 hh2.2
      simp [Instr.sliceBounds, a1]
    · cases hb
  · have hml : m = len := hm.1 rfl
    subst hml
    split at hb
    · rename_i k2 lv
      by_cases hl : 0 ≤ lv ∧ lv ≤ (m : Int)
      case neg => rw [if_neg hl] at hb; cases hb
      rw [if_pos hl] at hb
      simp only [Option.some.injEq, Prod.mk.injEq] at hb
      obtain ⟨rfl, rfl⟩ := hb
      refine ⟨?_, by omega, by omega⟩
      have a2 := run_sliceBound (P := P) w k2 lv m .sliceB hl.1 hl.2
      simp [Instr.sliceBounds, a2]
    · simp only [Option.some.injEq, Prod.mk.injEq] at hb
      obtain ⟨rfl, rfl⟩ := hb
      exact ⟨by simp [Instr.sliceBounds], by omega, by omega⟩
    · cases hb
  · cases hb

theorem aslice_sound {X : Ctx} (hX : X.Ok) {ι : Nat → Nat × Nat} {n : Nat} {t : TypeId} {x x' : Value} {lo hi lo' hi' : Option Value} {v : Value} (hx : VR ι n x x') (h1 : OV ι n lo lo') (h2 : OV ι n hi hi') (h : aslice X t x lo hi = some v) :
    ∃ v', VR ι n v v' ∧ ∀ w, (Instr.sliceAt t x' lo' hi' none).run X.P w = .ok v' w := by
  unfold aslice at h
  cases hti : X.ti t with
  | none => simp [hti] at h
  | some ti =>
    simp only [hti] at h
    have hu := (hX.ti t ti hti).1
    split at h
    · -- a string
      rename_i s hd
      rw [hd] at hu
      cases hb : abounds s.size lo hi with
      | none => simp [hb] at h
      | some r =>
        obtain ⟨l, hh⟩ := r
        simp only [hb, Option.some.injEq] at h; subst h
        cases hx
        obtain ⟨hb', _⟩ := abounds_real h1 h2 hb
        refine ⟨_, .string _, fun w => ?_⟩
        have hr := (sliceBounds_run (P := X.P) (isS := false) (len := s.size) (cap := s.size) hb' ⟨fun _ => rfl, fun _ => Nat.le_refl _⟩ w).1
        simp [Instr.sliceAt, Instr.slice, run_underlying hu, hr]
    · -- an array behind a pointer
      rename_i k e b off hd
      rw [hd] at hu
      cases hei : X.ti e with
      | none => simp [hei] at h
      | some ei =>
        cases hb : abounds k lo hi with
        | none => simp [hei, hb] at h
        | some r =>
          obtain ⟨l, hh⟩ := r
          simp only [hei, hb] at h
          split at h
          case isFalse => cases h
          rename_i hk
          simp only [Option.some.injEq] at h; subst h
          obtain ⟨_, inf, hinf, hs, _⟩ := hX.ti e ei hei
          cases hx with
          | ptr _ _ hbn =>
          obtain ⟨hb', _⟩ := abounds_real h1 h2 hb
          have hr := fun w => sliceBounds_run (P := X.P) (isS := false) (len := k) (cap := k) hb' ⟨fun _ => rfl, fun _ => Nat.le_refl _⟩ w
          have hle := (hr default).2
          refine ⟨_, .slice b _ (hh - l) (k - l) (k - l) hbn (by omega) (fun _ => rfl) (fun hc => by omega), fun w => ?_⟩
          simp only [Instr.sliceAt, Sem.run_bind, run_underlying hu, Result.andThen_ok, Instr.sureAddr, Sem.run_pure, (hr w).1, sizeOf, typeInfo, run_program, hinf, hs]
          congr 2
          by_cases hkl : k = l <;> simp [hkl, Addr.add_none]
    · -- a slice with an array behind it
      rename_i e b off len cap hd
      rw [hd] at hu
      have hsl : ∀ w a c, (Instr.sliceAt t (.slice a len c) lo' hi' none).run X.P w = (do
          let (l, h, m) ← Instr.sliceBounds true len c lo' hi' none
          let size ← sizeOf e
          pure (.slice (if m = l then a else a.map (·.add (l * size))) (h - l) (m - l)) : Sem Value).run X.P w := by
        intro w a c
        simp only [Instr.sliceAt, Instr.slice, Sem.run_bind, run_underlying hu, Result.andThen_ok]
      cases hei : X.ti e with
      | none => simp [hei] at h
      | some ei =>
        simp only [hei] at h
        obtain ⟨_, inf, hinf, hs, _⟩ := hX.ti e ei hei
        cases hx with
        | slice _ _ _ _ cap' hbn hl hc hbb =>
        by_cases hcb : cap < BIG
        · rw [if_pos hcb] at h
          have hcc := hc hcb
          subst hcc
          have fin : ∀ (m : Nat) (l hh : Nat), abounds m lo' hi' = some (l, hh) → ((hi' = none → m = len) ∧ (hi' ≠ none → m ≤ cap')) →
              ∃ v', VR ι n (.slice (some ⟨b, if cap' = l then off else off + l * ei.size, none⟩) (hh - l) (cap' - l)) v' ∧ ∀ w, (Instr.sliceAt t (.slice (some ⟨(ι b).1, off, none⟩) len cap') lo' hi' none).run X.P w = .ok v' w := by
            intro m l hh hb' hm
            have hr := fun w => sliceBounds_run (P := X.P) (isS := true) (len := len) (cap := cap') hb' hm w
            have hle := (hr default).2
            have hhc : hh ≤ cap' := by
              by_cases hn : hi' = none
              · have := hm.1 hn; omega
              · have := hm.2 hn; omega
            refine ⟨_, .slice b _ (hh - l) (cap' - l) (cap' - l) hbn (by omega) (fun _ => rfl) (fun hcx => by omega), fun w => ?_⟩
            rw [hsl]
            simp only [Sem.run_bind, (hr w).1, Result.andThen_ok, Sem.run_pure, sizeOf, typeInfo, run_program, hinf, hs]
            congr 2
            by_cases hkl : cap' = l <;> simp [hkl, Addr.add_none]
          cases hi with
          | some hv =>
            simp only at h
            cases hb : abounds cap' lo (some hv) with
            | none => simp [hb] at h
            | some r =>
              obtain ⟨l, hh⟩ := r
              simp only [hb, Option.some.injEq] at h; subst h
              obtain ⟨hb', hiff⟩ := abounds_real h1 h2 hb
              exact fin cap' l hh hb' ⟨(fun e => by have := hiff.2 e; cases this), fun _ => Nat.le_refl _⟩
          | none =>
            simp only at h
            cases hb : abounds len lo none with
            | none => simp [hb] at h
            | some r =>
              obtain ⟨l, hh⟩ := r
              simp only [hb, Option.some.injEq] at h; subst h
              obtain ⟨hb', hiff⟩ := abounds_real h1 h2 hb
              exact fin len l hh hb' ⟨fun _ => rfl, fun _ => hl⟩
        · rw [if_neg hcb] at h
          cases hb : abounds len lo hi with
          | none => simp [hb] at h
          | some r =>
            obtain ⟨l, hh⟩ := r
            simp only [hb] at h
            obtain ⟨hb', hiff⟩ := abounds_real h1 h2 hb
            have hr := fun w => sliceBounds_run (P := X.P) (isS := true) (len := len) (cap := cap') hb' ⟨fun _ => rfl, fun _ => hl⟩ w
            have hle := (hr default).2
            by_cases hl0 : l = 0
            · rw [if_pos hl0] at h
              simp only [Option.some.injEq] at h; subst h
              subst hl0
              refine ⟨.slice (some ⟨(ι b).1, off, none⟩) hh cap', .slice b off hh cap cap' hbn (by omega) hc hbb, fun w => ?_⟩
              rw [hsl]
              simp only [Sem.run_bind, (hr w).1, Result.andThen_ok, Sem.run_pure, sizeOf, typeInfo, run_program, hinf, hs]
              congr 2
              simp [Addr.add_none]
            · rw [if_neg hl0] at h
              by_cases hlt : l < hh ∧ 0 < ei.size
              · rw [if_pos hlt] at h
                simp only [Option.some.injEq] at h; subst h
                refine ⟨.slice (some ⟨(ι b).1, off + l * ei.size, none⟩) (hh - l) (cap' - l), .slice b _ (hh - l) cap (cap' - l) hbn (by omega) (fun hx => absurd hx hcb) (fun _ he => ?_), fun w => ?_⟩
                · have : 0 < l * ei.size := Nat.mul_pos (by omega) hlt.2
                  omega
                · rw [hsl]
                  simp only [Sem.run_bind, (hr w).1, Result.andThen_ok, Sem.run_pure, sizeOf, typeInfo, run_program, hinf, hs]
                  congr 2
                  simp [show ¬ cap' = l by omega, Addr.add_none]
              · rw [if_neg hlt] at h
                by_cases hlh : l = hh
                · rw [if_pos hlh] at h
                  simp only [Option.some.injEq] at h; subst h
                  subst hlh
                  refine ⟨.slice (some (if cap' = l then ⟨(ι b).1, off, none⟩ else ⟨(ι b).1, off + l * ei.size, none⟩)) 0 (cap' - l), .emptyS _ _, fun w => ?_⟩
                  rw [hsl]
                  simp only [Sem.run_bind, (hr w).1, Result.andThen_ok, Sem.run_pure, sizeOf, typeInfo, run_program, hinf, hs]
                  congr 2
                  · by_cases hkl : cap' = l <;> simp [hkl, Addr.add_none]
                  · omega
                · rw [if_neg hlh] at h; cases h
    · -- a nil slice
      rename_i e hd
      rw [hd] at hu
      split at h
      case h_2 => cases h
      rename_i ei hei hb
      simp only [Option.some.injEq] at h; subst h
      cases hx
      obtain ⟨_, inf, hinf, hs, _⟩ := hX.ti e ei hei
      obtain ⟨hb', _⟩ := abounds_real h1 h2 hb
      refine ⟨_, .nilSlice, fun w => ?_⟩
      have hr := (sliceBounds_run (P := X.P) (isS := true) (len := 0) (cap := 0) hb' ⟨fun _ => rfl, fun _ => Nat.le_refl _⟩ w).1
      simp [Instr.sliceAt, Instr.slice, run_underlying hu, hr, sizeOf, typeInfo, hinf]
    · cases h

/-! ### Aggregates -/
theorem fold_AR {ι : Nat → Nat × Nat} {n : Nat} (off : Nat) : ∀ (l l' : List (Value × Nat)) (cs cs' : Array Value), l.length = l'.length → (∀ (i : Nat) (h1 : i < l.length) (h2 : i < l'.length), VR ι n l[i].1 l'[i].1 ∧ l[i].2 = l'[i].2) → AR ι n cs cs' →
    AR ι n (l.foldl (fun cs (c, j) => cs.setIfInBounds (off + j) c) cs) (l'.foldl (fun cs (c, j) => cs.setIfInBounds (off + j) c) cs')
  | [], [], cs, cs', _, _, hc => hc
  | [], _ :: _, _, _, h, _, _ => by simp at h
  | _ :: _, [], _, _, h, _, _ => by simp at h
  | (v, j) :: l, (v', j') :: l', cs, cs', h, g, hc => by
    have g0 := g 0 (by simp) (by simp)
    simp only [List.getElem_cons_zero] at g0
    obtain ⟨gv, rfl⟩ := g0
    simp only [List.foldl_cons]
    refine fold_AR off l l' _ _ (by simpa using h) (fun i h1 h2 => g (i + 1) (by simpa using h1) (by simpa using h2)) ?_
    refine ⟨by simp [hc.1], fun i h1 h2 => ?_⟩
    have h1' : i < cs.size := by simpa using h1
    have h2' : i < cs'.size := by simpa using h2
    rw [Array.getElem_setIfInBounds h1', Array.getElem_setIfInBounds h2']
    by_cases hij : off + j = i
    · simp [hij, gv]
    · simp [hij]; exact hc.2 i h1' h2'

theorem VR.cells {ι : Nat → Nat × Nat} {n : Nat} {v v' : Value} (h : VR ι n v v') : AR ι n v.cells v'.cells := by
  cases h <;> first
    | (rename_i hs g; exact ⟨hs, g⟩)
    | (refine ⟨rfl, fun i h1 h2 => ?_⟩
       simp only [Value.cells, List.size_toArray, List.length_cons, List.length_nil] at h1
       obtain rfl : i = 0 := by omega
       first | exact .bool _ | exact .int _ _ | exact .string _ | exact .nilPtr | exact .ptr _ _ ‹_› | exact .nilSlice | exact .slice _ _ _ _ _ ‹_› ‹_› ‹_› ‹_› | exact .emptyS _ _ | exact .nilMap | exact .map _ ‹_›
             | exact .func _ _ _ _ _ ‹_› ‹_› ‹_› ‹_› | exact .nilFunc | exact .iface _ _ _ ‹_› | exact .nilIface | exact .tuple _ _ ‹_› ‹_›)

theorem fill_AR {ι : Nat → Nat × Nat} {n : Nat} (place : Nat → Option (Nat × Nat)) : ∀ (ks : List Nat) (vs vs' : List Value) (cs cs' out : Array Value), LR ι n vs vs' → AR ι n cs cs' →
    Instr.fill place cs (ks.zip vs) = some out → ∃ out', Instr.fill place cs' (ks.zip vs') = some out' ∧ AR ι n out out'
  | [], vs, vs', cs, cs', out, _, hc, h => by
    simp only [List.zip_nil_left, Instr.fill, Option.some.injEq] at h ⊢; subst h; exact ⟨_, rfl, hc⟩
  | k :: ks, _, _, cs, cs', out, .nil, hc, h => by
    simp only [List.zip_nil_right, Instr.fill, Option.some.injEq] at h ⊢; subst h; exact ⟨_, rfl, hc⟩
  | k :: ks, v :: vs, v' :: vs', cs, cs', out, .cons hv ht, hc, h => by
    simp only [List.zip_cons_cons, Instr.fill] at h ⊢
    cases hp : place k with
    | none => simp [hp] at h
    | some p =>
      obtain ⟨off, size⟩ := p
      have hcs := hv.cells
      simp only [hp] at h ⊢
      rw [← hcs.1, ← hc.1]
      split at h
      · cases h
      rename_i hcond
      rw [if_neg hcond]
      refine fill_AR place ks vs vs' _ _ out ht ?_ h
      have := fold_AR (ι := ι) (n := n) off v.cells.zipIdx.toList v'.cells.zipIdx.toList cs cs' (by simp [hcs.1]) (fun i h1 h2 => by
        simp only [Array.toList_zipIdx, List.getElem_zipIdx, Array.getElem_toList]
        simp only [Array.toList_zipIdx, List.length_zipIdx, Array.length_toList] at h1 h2
        exact ⟨hcs.2 i h1 h2, trivial⟩) hc
      simpa only [Array.foldl_toList] using this
end Go.Xc
/- THE EXECUTOR, 7: all the operations that touch no memory. -/
namespace Go.Xc
open Go.RowKit

theorem run_places {X : Ctx} (hX : X.Ok) (w : World) : ∀ (l : List Field) (places : List (Nat × Nat)), l.mapM (fun f => (X.ti f.type).map fun fi => (f.offset, fi.size)) = some places →
    (l.mapM (fun f => do pure (f.offset, ← sizeOf f.type) : Field → Sem (Nat × Nat))).run X.P w = .ok places w
  | [], places, h => by simp at h; subst h; simp
  | f :: l, places, h => by
    simp only [List.mapM_cons, Option.bind_eq_bind, Option.bind_eq_some_iff, Option.map_eq_some_iff, Option.pure_def, Option.some.injEq] at h
    obtain ⟨p, ⟨fi, hfi, rfl⟩, ps, hps, rfl⟩ := h
    obtain ⟨_, inf, hinf, hs, _⟩ := hX.ti _ fi hfi
    have ih := run_places hX w l ps hps
    simp only [List.mapM_cons, Sem.run_bind, sizeOf, typeInfo, run_program, Result.andThen_ok, hinf, Sem.run_pure, hs]
    simp only [sizeOf, typeInfo] at ih
    rw [ih]
    rfl

theorem allPlain_eq {ι : Nat → Nat × Nat} {n : Nat} : ∀ {vs vs' : List Value}, allPlain vs = true → LR ι n vs vs' → vs' = vs
  | [], _, _, .nil => rfl
  | v :: vs, _ :: _, h, .cons hv ht => by
    simp only [allPlain] at h
    cases hp : plainF 9 v with
    | false => simp [hp] at h
    | true =>
      simp only [hp, cond_true] at h
      rw [plainF_eq 9 _ _ hp hv, allPlain_eq h ht]

theorem aevs_get {X : Ctx} {tm : Tm} : ∀ {xs : List Operand} {vs : List Value}, aevs X tm xs = some vs → vs = xs.map (fun x => (aev X tm x).getD undef)
  | [], vs, h => by simp only [aevs_nil, Option.some.injEq] at h; subst h; rfl
  | x :: xs, vs, h => by
    simp only [aevs_cons] at h
    cases hx : aev X tm x with
    | none => simp [hx] at h
    | some v =>
      cases hxs : aevs X tm xs with
      | none => simp [hx, hxs] at h
      | some us =>
        simp only [hx, hxs, Option.some.injEq] at h
        subst h
        rw [aevs_get hxs]; simp [hx]

theorem sliceData_some (A : Array TypeId) (T : TypeId) (p : Addr) (l c : Nat) (hc : c ≠ 0) : Builtin.unsafeSliceData_ A T #[.slice (some p) l c] = pure (.pointer (some p)) := by
  show ite (c ≠ 0) _ _ = _
  exact if_pos hc
theorem sliceData_none (A : Array TypeId) (T : TypeId) (l c : Nat) : Builtin.unsafeSliceData_ A T #[.slice none l c] = pure (.pointer none) := rfl

theorem zip_parts (parts : Array (Nat × Operand)) (f : Operand → Value) : (parts.map fun (i, x) => (i, f x)).toList = (parts.toList.map (·.1)).zip ((parts.toList.map (·.2)).map f) := by
  simp only [Array.toList_map, List.map_map]
  induction parts.toList with
  | nil => rfl
  | cons p ps ih => simp [ih]

set_option maxHeartbeats 1000000 in
theorem apure_sound {X : Ctx} (hX : X.Ok) {ι : Nat → Nat × Nat} {n : Nat} {tm : Tm} {o : Oper} {v : Value} {a : Act} (hG : X.G ≤ n) (hb : ∀ k, k < X.G → (ι k).1 = k) (hT : TR ι n tm a.tmps) (h : apure X tm o = some v) :
    ∃ v', VR ι n v v' ∧ ∀ w, (execOp a.eval o).run X.P w = .ok (.value v') w := by
  unfold apure at h
  split at h
  · rename_i x heq
    exact ⟨_, aev_sound hG hb hT h, fun w => by simp [execOp, heq]⟩
  · rename_i x heq
    exact ⟨_, aev_sound hG hb hT h, fun w => by simp [execOp, heq]⟩
  · -- slices
    rename_i t x lo hi heq
    have fin : ∀ {xv : Value} {lv hv : Option Value}, aev X tm x = some xv → OV ι n lv (lo.map a.eval) → OV ι n hv (hi.map a.eval) → aslice X t xv lv hv = some v →
        ∃ v', VR ι n v v' ∧ ∀ w, (execOp a.eval o).run X.P w = .ok (.value v') w := by
      intro xv lv hv hx h1 h2 h
      obtain ⟨v', hr, hrun⟩ := aslice_sound hX (aev_sound hG hb hT hx) h1 h2 h
      exact ⟨v', hr, fun w => by simp only [execOp, heq]; exact run_v (hrun w)⟩
    cases hx : aev X tm x with
    | none => simp [hx] at h
    | some xv =>
      simp only [hx] at h
      cases lo with
      | none =>
        cases hi with
        | none => exact fin (lv := none) (hv := none) hx trivial trivial h
        | some hh =>
          cases hhv : aev X tm hh with
          | none => simp [hhv] at h
          | some hv => simp only [hhv] at h; exact fin (lv := none) (hv := some hv) hx trivial (aev_sound hG hb hT hhv) h
      | some ll =>
        cases hlv : aev X tm ll with
        | none => simp [hlv] at h
        | some lv =>
          simp only [hlv] at h
          cases hi with
          | none => exact fin (lv := some lv) (hv := none) hx (aev_sound hG hb hT hlv) trivial h
          | some hh =>
            cases hhv : aev X tm hh with
            | none => simp [hhv] at h
            | some hv => simp only [hhv] at h; exact fin (lv := some lv) (hv := some hv) hx (aev_sound hG hb hT hlv) (aev_sound hG hb hT hhv) h
  · -- aggregates
    rename_i t parts heq
    cases hti : X.ti t with
    | none => simp [hti] at h
    | some i =>
      cases hvs : aevs X tm (parts.toList.map (·.2)) with
      | none => simp [hti, hvs] at h
      | some vs =>
        simp only [hti, hvs] at h
        obtain ⟨hu, inf, hinf, hs, _, hz0⟩ := hX.ti t i hti
        have hl := aevs_sound hG hb hT hvs
        cases hz : i.zero with
        | none => simp [hz] at h
        | some z =>
          simp only [hz] at h
          cases hp : plainF 9 z with
          | false => simp [hp] at h
          | true =>
            simp only [hp, cond_true] at h
            have hzr : AR ι n z.cells z.cells := (plainF_refl (ι := ι) (m := n) 9 z hp).cells
            have hzv : ∀ w, (zeroValue t).run X.P w = .ok z w := fun w => by simp [zeroValue, typeInfo, hinf, hz0, hz]
            split at h
            · rename_i fields hd
              rw [hd] at hu
              cases hpl : fields.toList.mapM (fun f => (X.ti f.type).map fun fi => (f.offset, fi.size)) with
              | none => simp [hpl] at h
              | some places =>
                simp only [hpl, Option.map_eq_some_iff] at h
                obtain ⟨out, hf, rfl⟩ := h
                obtain ⟨out', hf', hr⟩ := fill_AR (fun k => places[k]?) _ vs _ _ _ _ hl hzr hf
                refine ⟨.agg out', .agg _ _ hr.1 hr.2, fun w => ?_⟩
                simp only [execOp, heq]
                refine run_v ?_
                have hmp := run_places hX w fields.toList places hpl
                have : (fields.mapM (fun f => do pure (f.offset, ← sizeOf f.type) : Field → Sem (Nat × Nat))).run X.P w = .ok places.toArray w := by
                  rw [← Array.toArray_toList (xs := fields), List.mapM_toArray]
                  simp only [Sem.run_map, hmp, Result.andThen_ok]
                simp only [Instr.build, Sem.run_bind, hzv, Result.andThen_ok, run_underlying hu, this]
                rw [zip_parts]
                simp only [List.getElem?_toArray, hf', Sem.run_pure]
            · rename_i k e hd
              rw [hd] at hu
              cases hei : X.ti e with
              | none => simp [hei] at h
              | some ei =>
                simp only [hei, Option.map_eq_some_iff] at h
                obtain ⟨out, hf, rfl⟩ := h
                obtain ⟨_, einf, heinf, hes, _⟩ := hX.ti e ei hei
                obtain ⟨out', hf', hr⟩ := fill_AR (fun k => some (k * ei.size, ei.size)) _ vs _ _ _ _ hl hzr hf
                refine ⟨.agg out', .agg _ _ hr.1 hr.2, fun w => ?_⟩
                simp only [execOp, heq]
                refine run_v ?_
                simp only [Instr.build, Sem.run_bind, hzv, Result.andThen_ok, run_underlying hu, sizeOf, typeInfo, run_program, heinf, Sem.run_pure, hes]
                rw [zip_parts]
                simp only [hf', Sem.run_pure]
            · cases h
  · -- lengths
    rename_i args argTypes heq
    cases hvs : aevs X tm args.toList with
    | none => simp [hvs] at h
    | some vs =>
      have hl := aevs_sound hG hb hT hvs
      rw [hvs] at h
      split at h
      case h_2 => cases h
      rename_i x t hxe hat
      simp only [Option.some.injEq] at hxe; subst hxe
      have hargs : args.map a.eval = #[(args.map a.eval)[0]!] ∧ VR ι n x (args.map a.eval)[0]! := by
        cases hl' : args.toList with
        | nil => rw [hl'] at hl; cases hl
        | cons y ys =>
          rw [hl'] at hl
          cases hl with | cons hv ht =>
          cases ys with
          | cons _ _ => cases ht
          | nil =>
            have : args = #[y] := by rw [← Array.toArray_toList (xs := args), hl']
            subst this
            exact ⟨by simp, by simpa using hv⟩
      obtain ⟨ha, hv⟩ := hargs
      generalize (args.map a.eval)[0]! = x' at ha hv
      cases hti : X.ti t with
      | none => simp [hti] at h
      | some i =>
        simp only [hti] at h
        have hu := (hX.ti t i hti).1
        have hrun : ∀ w, (execOp a.eval o).run X.P w = (do pure (Next.value (← Builtin.len_ argTypes o.type #[x'])) : Sem Next).run X.P w := by
          intro w
          simp only [execOp, heq, resolve, invoke, builtin, ha, Sem.run_bind, Sem.run_pure, Result.andThen_ok]
        split at h
        · rename_i s hd
          simp only [Option.some.injEq] at h; subst h
          rw [hd] at hu
          cases hv
          exact ⟨_, .int _ _, fun w => by rw [hrun]; exact run_v (by simp [Builtin.len_, hat, run_underlying hu, goInt])⟩
        · rename_i e a0 k c hd
          simp only [Option.some.injEq] at h; subst h
          rw [hd] at hu
          cases hv <;> exact ⟨_, .int _ _, fun w => by rw [hrun]; exact run_v (by simp [Builtin.len_, hat, run_underlying hu, goInt])⟩
        · rename_i k e hd
          simp only [Option.some.injEq] at h; subst h
          rw [hd] at hu
          exact ⟨_, .int _ _, fun w => by rw [hrun]; exact run_v (by simp [Builtin.len_, hat, run_underlying hu, goInt])⟩
        · cases h
  · -- a slice's first place
    rename_i args argTypes heq
    have harg : ∀ {x : Value}, aevs X tm args.toList = some [x] → ∃ x', args.map a.eval = #[x'] ∧ VR ι n x x' := by
      intro x hvs
      have hl := aevs_sound hG hb hT hvs
      cases hl' : args.toList with
      | nil => rw [hl'] at hl; cases hl
      | cons y ys =>
        rw [hl'] at hl
        cases hl with | cons hv ht =>
        cases ys with
        | cons _ _ => cases ht
        | nil =>
          have : args = #[y] := by rw [← Array.toArray_toList (xs := args), hl']
          subst this
          exact ⟨_, by simp, hv⟩
    have hrun : ∀ {x' : Value} (w : World), args.map a.eval = #[x'] → (execOp a.eval o).run X.P w = (do pure (Next.value (← Builtin.unsafeSliceData_ argTypes o.type #[x'])) : Sem Next).run X.P w := by
      intro x' w ha
      simp only [execOp, heq, resolve, invoke, builtin, ha, Sem.run_bind, Sem.run_pure, Result.andThen_ok]
    split at h
    · rename_i hvs
      simp only [Option.some.injEq] at h; subst h
      obtain ⟨x', ha, hv⟩ := harg hvs
      cases hv
      exact ⟨_, .nilPtr, fun w => by rw [hrun w ha]; exact run_v (by rw [sliceData_none]; rfl)⟩
    · rename_i b off k c hvs
      simp only [Option.some.injEq] at h; subst h
      obtain ⟨x', ha, hv⟩ := harg hvs
      cases hv with
      | slice _ _ _ _ cap' hbn hl hc hbb =>
      exact ⟨_, .ptr b off hbn, fun w => by rw [hrun w ha]; exact run_v (by rw [sliceData_some _ _ _ _ _ (by omega)]; rfl)⟩
    · cases h
  · cases h
  · cases h
  · cases h
  · cases h
  · cases h
  · cases h
  · cases h
  · cases h
  · cases h
  · -- the rest
    rename_i hne1 hne2 hne3 hne4 hne5 hne6 hne7 hne8 hne9 hne10 hne11 hne12 hne13 hne14 hne15
    cases hvs : aevs X tm o.op.operands.toList with
    | none => simp [hvs] at h
    | some vs =>
      simp only [hvs] at h
      have hl := aevs_sound hG hb hT hvs
      cases h1 : apure1 X o vs with
      | some u =>
        simp only [h1, Option.some.injEq] at h; subst h
        exact apure1_sound hX h1 hl
      | none =>
        simp only [h1] at h
        cases hp : allPlain vs with
        | false => simp [hp] at h
        | true =>
          simp only [hp, cond_true] at h
          split at h
          case h_2 => cases h
          rename_i u hrun
          cases hpu : plainF 9 u with
          | false => simp [hpu] at h
          | true =>
            simp only [hpu, cond_true, Option.some.injEq] at h; subst h
            refine ⟨u, plainF_refl 9 u hpu, fun w => ?_⟩
            have heq : execOp a.eval o = execOp (fun x => (aev X tm x).getD undef) o := by
              refine execOp_congr o (fun cs b hsel => ?_) fun x hx => ?_
              · exact absurd hsel (by first | exact hne15 cs b | exact hne14 cs b | exact hne13 cs b | exact hne12 cs b | exact hne11 cs b)
              · have e1 := allPlain_eq hp hl
                have e2 := aevs_get hvs
                rw [e2] at e1
                have hx' : x ∈ o.op.operands.toList := by simpa using hx
                exact List.map_inj_left.1 e1 x hx'
            rw [heq]
            exact pureRun_run X.P _ _ hrun w
end Go.Xc
