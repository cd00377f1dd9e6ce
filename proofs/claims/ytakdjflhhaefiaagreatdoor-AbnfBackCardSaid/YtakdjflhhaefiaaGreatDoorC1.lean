/- abnf.Parse, abnf.Parts.Text in plain Lean; what is put together again is the text. -/
import Derived.Test.YtakdjflhhaefiaaGreatDoorB7
import Derived.Lib.LastIndexByte
set_option linter.unusedVariables false
set_option linter.unusedSimpArgs false
namespace Go.Proofs.YtakdjflhhaefiaaGreatDoor
open Go.RowKit Go.Proofs.YtakdjflhhaefiaaGreatDoor.PDotsGo Go.Proofs.YtakdjflhhaefiaaGreatDoorW.PrintWords Go.Proofs.YtakdjflhhaefiaaGreatDoorW.PrintLast Go.Proofs.YtakdjflhhaefiaaGreatDoorW.PrintMore

def E0 : ByteArray := ⟨#[]⟩
def PR.zero : PR := ⟨E0, false, E0, false, E0, false, E0, false, E0, E0, false, E0, false⟩
def colB (s : ByteArray) : Bool := decide (0 ≤ anyI s) && (bt s (anyI s) == 58)
def scS (s : ByteArray) : ByteArray := bif colB s then s.extract 0 (anyI s).toNat else E0
def reS (s : ByteArray) : ByteArray := bif colB s then s.extract ((anyI s).toNat + 1) s.size else s
def lastC (s : ByteArray) : Bool := decide (Lib.lastIndexByte s 93 < Lib.lastIndexByte s 58)
def auS (s : ByteArray) : ByteArray := bif cut3 s 64 then cut2 s 64 else s
def auU (s : ByteArray) (p : PR) : PR := bif cut3 s 64 then { p with ha := true, us := cut1 s 64, hu := true } else { p with ha := true }
def auH (s : ByteArray) (p : PR) : PR := bif lastC s then { p with ho := s.extract 0 (Lib.lastIndexByte s 58).toNat, po := s.extract ((Lib.lastIndexByte s 58).toNat + 1) s.size, hp := true } else { p with ho := s }
def auP (s : ByteArray) (p : PR) : PR := auH (auS s) (auU s p)
def auOk (p : PR) : Bool := isB p.us ⟨#[58]⟩ && (hostB p.ho && allB digR p.po)
def slI (r : ByteArray) : Nat := (Lib.indexByte (r ++ ⟨#[47]⟩).data.toList 47).toNat
/-- What stands ahead of the query: an authority, if there is one, and the path. -/
def fore (s : ByteArray) (p : PR) : PR × Bool :=
  bif Lib.hasPrefix s.data.toList [47, 47] then
    ({ auP ((tpB s ⟨#[47, 47]⟩).extract 0 (slI (tpB s ⟨#[47, 47]⟩))) p with pa := (tpB s ⟨#[47, 47]⟩).extract (slI (tpB s ⟨#[47, 47]⟩)) (tpB s ⟨#[47, 47]⟩).size },
      auOk (auP ((tpB s ⟨#[47, 47]⟩).extract 0 (slI (tpB s ⟨#[47, 47]⟩))) p))
  else ({ p with pa := s }, true)
def chkB (p : PR) (ok : Bool) : Bool := ok && (pathB p.pa p.ha p.hs && (isB p.qu ⟨#[58, 64, 47, 63]⟩ && isB p.fr ⟨#[58, 64, 47, 63]⟩))
def p0 (s r : ByteArray) : PR := { PR.zero with sc := scS s, hs := colB s, fr := cut2 r 35, hf := cut3 r 35, qu := cut2 (cut1 r 35) 63, hq := cut3 (cut1 r 35) 63 }
def midR (s : ByteArray) : PR × Bool := fore (cut1 (cut1 (reS s) 35) 63) (p0 s (reS s))
def parseR (s : ByteArray) : PR × Int :=
  if 4096 < s.size then (PR.zero, 3)
  else bif colB s && !schemeB (scS s) then (PR.zero, 5)
  else bif chkB (midR s).1 (midR s).2 then ((midR s).1, 0) else (PR.zero, 11)

def oneL (b : Bool) (l : List UInt8) : List UInt8 := bif b then l else []
def foreL (p : PR) : List UInt8 :=
  oneL p.ha [47, 47] ++ (oneL (p.ha && p.hu) (p.us.data.toList ++ [64]) ++ (oneL p.ha p.ho.data.toList ++ (oneL (p.ha && p.hp) (58 :: p.po.data.toList) ++ p.pa.data.toList)))
def textL (p : PR) : List UInt8 := oneL p.hs (p.sc.data.toList ++ [58]) ++ (foreL p ++ (oneL p.hq (63 :: p.qu.data.toList) ++ oneL p.hf (35 :: p.fr.data.toList)))
def textB (p : PR) : ByteArray := ⟨(textL p).toArray⟩

theorem ba_ext {a b : ByteArray} (h : a.data.toList = b.data.toList) : a = b := by
  cases a; cases b; simp only [ByteArray.mk.injEq]; exact Array.toList_inj.1 h
theorem ba_mk (a : ByteArray) : (⟨a.data.toList.toArray⟩ : ByteArray) = a := ba_ext (by simp)
theorem ba_extract (s : ByteArray) (i j : Nat) : (s.extract i j).data.toList = (s.data.toList.take j).drop i := by
  simp [ByteArray.data_extract, Array.toList_extract, List.extract_eq_take_drop, List.drop_take]
theorem ba_size (s : ByteArray) : s.size = s.data.toList.length := rfl

theorem ib_split {c : UInt8} : ∀ {a b : List UInt8}, c ∉ a → Lib.indexByte (a ++ c :: b) c = (a.length : Int)
  | [], b, _ => by simp [Lib.indexByte]
  | x :: a, b, h => by
    have h1 : (x == c) = false := by simpa using fun e => h (by simp [e])
    have ih := ib_split (a := a) (b := b) (fun hm => h (List.mem_cons_of_mem _ hm))
    rw [List.cons_append, Lib.indexByte, h1, ih]
    rw [if_neg Bool.false_ne_true, if_neg (by simp)]
    simp
theorem ib_no {c : UInt8} : ∀ {l : List UInt8}, c ∉ l → Lib.indexByte l c = -1
  | [], _ => rfl
  | x :: a, h => by
    have h1 : (x == c) = false := by simpa using fun e => h (by simp [e])
    have ih := ib_no (l := a) (fun hm => h (List.mem_cons_of_mem _ hm))
    rw [Lib.indexByte, h1, ih]; rfl
theorem cut_hit {c : UInt8} {a b : List UInt8} (h : c ∉ a) : Lib.cut (a ++ c :: b) [c] = (a, b, true) := by
  unfold Lib.cut
  rw [Lib.index_one, ib_split h, if_pos (by omega)]
  simp
theorem cut_no {c : UInt8} {l : List UInt8} (h : c ∉ l) : Lib.cut l [c] = (l, [], false) := by
  unfold Lib.cut
  rw [Lib.index_one, ib_no h, if_neg (by omega)]
theorem cut_yes (t : ByteArray) (c : UInt8) (h : cut3 t c = true) : t.data.toList = (cut1 t c).data.toList ++ c :: (cut2 t c).data.toList ∧ c ∉ (cut1 t c).data.toList := by
  by_cases hm : c ∈ t.data.toList
  · obtain ⟨a, b, hl, ha⟩ := List.eq_append_cons_of_mem hm
    unfold cut1 cut2
    rw [hl, cut_hit ha]
    exact ⟨rfl, ha⟩
  · unfold cut3 at h
    rw [cut_no hm] at h
    cases h
theorem cut_out (t : ByteArray) (c : UInt8) (h : c ∉ t.data.toList) : cut1 t c = t ∧ cut2 t c = E0 ∧ cut3 t c = false := by
  unfold cut1 cut2 cut3
  rw [cut_no h]
  exact ⟨ba_mk t, rfl, rfl⟩
theorem cut_none (t : ByteArray) (c : UInt8) (h : cut3 t c = false) : c ∉ t.data.toList := by
  intro hm
  obtain ⟨a, b, hl, ha⟩ := List.eq_append_cons_of_mem hm
  unfold cut3 at h
  rw [hl, cut_hit ha] at h
  cases h
theorem cut1_clean (t : ByteArray) (c : UInt8) : c ∉ (cut1 t c).data.toList := by
  cases h : cut3 t c with
  | true => exact (cut_yes t c h).2
  | false => rw [(cut_out t c (cut_none t c h)).1]; exact cut_none t c h
/-- Cut, put together. -/
theorem cut_back (t : ByteArray) (c : UInt8) : t.data.toList = (cut1 t c).data.toList ++ oneL (cut3 t c) (c :: (cut2 t c).data.toList) := by
  cases h : cut3 t c with
  | true => exact (cut_yes t c h).1
  | false => rw [(cut_out t c (cut_none t c h)).1]; simp [oneL]
theorem cut_sub (t : ByteArray) (c : UInt8) : ∀ x ∈ (cut1 t c).data.toList, x ∈ t.data.toList := by
  intro x hx
  rw [cut_back t c]
  exact List.mem_append_left _ hx

/-! ### the first sign -/
theorem any_split {ch : List UInt8} {c : UInt8} : ∀ {a b : List UInt8}, (∀ x ∈ a, ch.contains x = false) → ch.contains c = true → Lib.indexAny (a ++ c :: b) ch = (a.length : Int)
  | [], b, _, h => by rw [List.nil_append, Lib.indexAny, if_pos h]; rfl
  | x :: a, b, h, hc => by
    have ih := any_split (a := a) (b := b) (fun y hy => h y (List.mem_cons_of_mem _ hy)) hc
    rw [List.cons_append, Lib.indexAny, h x (List.mem_cons_self ..), ih, if_neg Bool.false_ne_true, if_neg (by simp)]
    simp
theorem any_no {ch : List UInt8} : ∀ {l : List UInt8}, (∀ x ∈ l, ch.contains x = false) → Lib.indexAny l ch = -1
  | [], _ => rfl
  | x :: a, h => by
    have ih := any_no (l := a) (fun y hy => h y (List.mem_cons_of_mem _ hy))
    rw [Lib.indexAny, h x (List.mem_cons_self ..), ih]; rfl
theorem first_any (ch : List UInt8) : ∀ l : List UInt8, (∀ x ∈ l, ch.contains x = false) ∨ ∃ a c b, l = a ++ c :: b ∧ (∀ x ∈ a, ch.contains x = false) ∧ ch.contains c = true
  | [] => .inl (by simp)
  | x :: l => by
    cases hx : ch.contains x with
    | true => exact .inr ⟨[], x, l, rfl, by simp, hx⟩
    | false =>
      rcases first_any ch l with h | ⟨a, c, b, hl, ha, hc⟩
      · exact .inl (by intro y hy; rcases List.mem_cons.1 hy with rfl | hy; exact hx; exact h y hy)
      · exact .inr ⟨x :: a, c, b, by rw [hl]; rfl, by intro y hy; rcases List.mem_cons.1 hy with rfl | hy; exact hx; exact ha y hy, hc⟩
def four : List UInt8 := [58, 47, 63, 35]
theorem bt_list (s : ByteArray) (a b : List UInt8) (c : UInt8) (h : s.data.toList = a ++ c :: b) : bt s (a.length : Int) = (c.toNat : Int) := by
  have hlt : a.length < s.size := by rw [ba_size, h]; simp
  rw [← bt_nt hlt]
  have h2 := Lib.data_getElem? s a.length hlt
  rw [h] at h2
  simp at h2
  rw [← h2]
theorem col_true (s : ByteArray) (a b : List UInt8) (h : s.data.toList = a ++ 58 :: b) (ha : ∀ x ∈ a, four.contains x = false) : colB s = true ∧ scS s = ⟨a.toArray⟩ ∧ reS s = ⟨b.toArray⟩ ∧ anyI s = (a.length : Int) := by
  have hi : anyI s = (a.length : Int) := by
    unfold anyI; rw [h]; exact any_split ha (by decide)
  have hc : colB s = true := by
    unfold colB
    rw [hi, bt_list s a b 58 h]
    simp
  refine ⟨hc, ?_, ?_, hi⟩
  · unfold scS
    rw [hc, hi]
    apply ba_ext
    show (s.extract 0 _).data.toList = _
    rw [ba_extract, h]; simp
  · unfold reS
    rw [hc, hi]
    apply ba_ext
    show (s.extract _ _).data.toList = _
    rw [ba_extract, ba_size, h]
    rw [List.take_length]
    simp [List.drop_append]
theorem col_spec (s : ByteArray) (h : colB s = true) : ∃ a b, s.data.toList = a ++ 58 :: b ∧ (∀ x ∈ a, four.contains x = false) := by
  rcases first_any four s.data.toList with hn | ⟨a, c, b, hl, ha, hc⟩
  · exfalso
    have hi : anyI s = -1 := any_no hn
    unfold colB at h
    rw [hi] at h
    simp at h
  · have hi : anyI s = (a.length : Int) := by
      show Lib.indexAny s.data.toList four = _
      rw [hl]; exact any_split ha hc
    unfold colB at h
    rw [hi, bt_list s a b c hl] at h
    have h58 : (c.toNat : Int) = 58 := by simpa using h
    have : c = 58 := UInt8.toNat_inj.1 (by simpa using (by omega : c.toNat = 58))
    subst this
    exact ⟨a, b, hl, ha⟩
theorem anyI_range (s : ByteArray) : anyI s = -1 ∨ (0 ≤ anyI s ∧ anyI s < s.size) := by
  rcases first_any four s.data.toList with hn | ⟨a, c, b, hl, ha, hc⟩
  · exact .inl (any_no hn)
  · have hi : anyI s = (a.length : Int) := by
      show Lib.indexAny s.data.toList four = _
      rw [hl]; exact any_split ha hc
    have : a.length < s.size := by rw [ba_size, hl]; simp
    right; omega
theorem col_false (s : ByteArray) (h : colB s = false) : scS s = E0 ∧ reS s = s := by
  unfold scS reS; rw [h]; exact ⟨rfl, rfl⟩
/-- The scheme, and what stands behind, put together. -/
theorem col_back (s : ByteArray) : s.data.toList = oneL (colB s) ((scS s).data.toList ++ [58]) ++ (reS s).data.toList := by
  cases h : colB s with
  | true =>
    obtain ⟨a, b, hl, ha⟩ := col_spec s h
    obtain ⟨-, h1, h2, -⟩ := col_true s a b hl ha
    rw [h1, h2, hl]; simp [oneL]
  | false =>
    rw [(col_false s h).2]; simp [oneL]
/-- A text cut short behind its scheme, at the end, has the same scheme. -/
theorem col_cut (s t : ByteArray) (y z : List UInt8) (hr : (reS s).data.toList = y ++ z) (ht : t.data.toList = oneL (colB s) ((scS s).data.toList ++ [58]) ++ y) : colB t = colB s ∧ scS t = scS s ∧ reS t = ⟨y.toArray⟩ := by
  cases h : colB s with
  | true =>
    obtain ⟨a, b, hl, ha⟩ := col_spec s h
    obtain ⟨-, h1, h2, -⟩ := col_true s a b hl ha
    rw [h, h1] at ht
    have ht2 : t.data.toList = a ++ 58 :: y := by rw [ht]; simp [oneL]
    obtain ⟨g0, g1, g2, -⟩ := col_true t a y ht2 ha
    exact ⟨g0, by rw [g1, h1], g2⟩
  | false =>
    rw [h] at ht
    have ht2 : t.data.toList = y := by rw [ht]; simp [oneL]
    have hs := (col_false s h).2
    rw [hs] at hr
    have hc : colB t = false := by
      cases hc : colB t with
      | false => rfl
      | true =>
        obtain ⟨a, b, hl, ha⟩ := col_spec t hc
        rw [ht2] at hl
        have := (col_true s a (b ++ z) (by rw [hr, hl]; simp) ha).1
        rw [h] at this; cases this
    refine ⟨hc, ?_, ?_⟩
    · rw [(col_false t hc).1, (col_false s h).1]
    · rw [(col_false t hc).2]; exact ba_ext (by rw [ht2])

/-! ### the authority, and the path -/
theorem last_at (s : ByteArray) (h : lastC s = true) : s.data.toList = (s.extract 0 (Lib.lastIndexByte s 58).toNat).data.toList ++ 58 :: (s.extract ((Lib.lastIndexByte s 58).toNat + 1) s.size).data.toList ∧ 0 ≤ Lib.lastIndexByte s 58 ∧ Lib.lastIndexByte s 58 < s.size := by
  have h0 : Lib.lastIndexByte s 93 < Lib.lastIndexByte s 58 := of_decide_eq_true h
  have h1 : -1 ≤ Lib.lastIndexByte s 93 := by
    rcases Lib.lastIndexByte_spec s 93 with ⟨e, _⟩ | ⟨i, _, e, _⟩ <;> omega
  rcases Lib.lastIndexByte_spec s 58 with ⟨e, _⟩ | ⟨i, hi, e, hc, _⟩
  · omega
  · rw [e, ba_extract, ba_extract, ba_size, List.take_length]
    have hi2 : i < s.data.toList.length := by rw [← ba_size]; exact hi
    have hb : s.data.toList[i]'hi2 = 58 := by
      have h3 : s.data[i]! = s.data.toList[i]'hi2 := by
        rw [getElem!_pos s.data i (by simpa using hi2)]; simp
      rw [h3] at hc
      exact UInt8.toNat_inj.1 (by simpa using (by omega : (s.data.toList[i]'hi2).toNat = 58))
    refine ⟨?_, by omega, by omega⟩
    simp only [Int.toNat_natCast, List.drop_zero]
    rw [← hb, List.getElem_cons_drop, List.take_append_drop]
/-- How an authority is written. -/
def auL (p : PR) : List UInt8 := oneL p.hu (p.us.data.toList ++ [64]) ++ (p.ho.data.toList ++ oneL p.hp (58 :: p.po.data.toList))
theorem au_back (s : ByteArray) (p : PR) (h1 : p.hu = false) (h2 : p.hp = false) : auL (auP s p) = s.data.toList ∧ (auP s p).ha = true := by
  unfold auP
  have hU : (auU s p).hp = false ∧ (auU s p).hu = cut3 s 64 ∧ (auU s p).ha = true ∧ (cut3 s 64 = true → (auU s p).us = cut1 s 64) := by
    unfold auU
    cases h : cut3 s 64 <;> simp [h1, h2]
  have hA : ∀ t : ByteArray, auL (auH t (auU s p)) = oneL (cut3 s 64) ((auU s p).us.data.toList ++ [64]) ++ t.data.toList ∧ (auH t (auU s p)).ha = true := by
    intro t
    unfold auH
    cases h : lastC t with
    | true =>
      refine ⟨?_, hU.2.2.1⟩
      show oneL (auU s p).hu _ ++ (_ ++ oneL true _) = _
      rw [hU.2.1]
      congr 1
      exact (last_at t h).1.symm
    | false =>
      refine ⟨?_, hU.2.2.1⟩
      show oneL (auU s p).hu _ ++ (_ ++ oneL (auU s p).hp _) = _
      rw [hU.2.1, hU.1]
      simp [oneL]
  refine ⟨(hA _).1.trans ?_, (hA _).2⟩
  cases h : cut3 s 64 with
  | true =>
    rw [hU.2.2.2 h]
    have := (cut_yes s 64 h).1
    unfold auS
    rw [h]
    rw [this]
    simp [oneL, cut_hit]
  | false =>
    unfold auS
    rw [h]; simp [oneL]
theorem au_keeps (s : ByteArray) (p : PR) : (auP s p).sc = p.sc ∧ (auP s p).hs = p.hs ∧ (auP s p).qu = p.qu ∧ (auP s p).hq = p.hq ∧ (auP s p).fr = p.fr ∧ (auP s p).hf = p.hf := by
  unfold auP auH auU
  cases lastC (auS s) <;> cases cut3 s 64 <;> simp
theorem sl_take (r : ByteArray) : (r.extract 0 (slI r)).data.toList ++ (r.extract (slI r) r.size).data.toList = r.data.toList := by
  rw [ba_extract, ba_extract, ba_size, List.take_length, List.drop_zero, List.take_append_drop]
theorem tp_back (s : ByteArray) (h : Lib.hasPrefix s.data.toList [47, 47] = true) : s.data.toList = 47 :: 47 :: (tpB s ⟨#[47, 47]⟩).data.toList := by
  unfold tpB Lib.trimPrefix
  have h2 : Lib.hasPrefix s.data.toList (⟨#[47, 47]⟩ : ByteArray).data.toList = true := h
  rw [if_pos h2]
  obtain ⟨t, ht⟩ := List.isPrefixOf_iff_prefix.1 h
  rw [← ht]; rfl
theorem fore_back (s : ByteArray) (p : PR) (h1 : p.hu = false) (h2 : p.hp = false) (h3 : p.ha = false) : foreL (fore s p).1 = s.data.toList := by
  unfold fore
  cases h : Lib.hasPrefix s.data.toList [47, 47] with
  | true =>
    have ht := tp_back s h
    generalize tpB s ⟨#[47, 47]⟩ = r at ht
    obtain ⟨ha, hb⟩ := au_back (r.extract 0 (slI r)) p h1 h2
    have hs := sl_take r
    show foreL { auP (r.extract 0 (slI r)) p with pa := r.extract (slI r) r.size } = _
    generalize auP (r.extract 0 (slI r)) p = q at ha hb
    unfold foreL
    show oneL q.ha _ ++ (oneL (q.ha && q.hu) _ ++ (oneL q.ha _ ++ (oneL (q.ha && q.hp) _ ++ _))) = _
    rw [hb, ht, ← hs, ← ha]
    simp [oneL, auL]
  | false =>
    show oneL p.ha _ ++ (oneL (p.ha && p.hu) _ ++ (oneL p.ha _ ++ (oneL (p.ha && p.hp) _ ++ _))) = _
    rw [h3]
    simp [oneL]
theorem fore_keeps (s : ByteArray) (p : PR) : (fore s p).1.sc = p.sc ∧ (fore s p).1.hs = p.hs ∧ (fore s p).1.qu = p.qu ∧ (fore s p).1.hq = p.hq ∧ (fore s p).1.fr = p.fr ∧ (fore s p).1.hf = p.hf := by
  unfold fore
  cases h : Lib.hasPrefix s.data.toList [47, 47] with
  | true =>
    obtain ⟨e1, e2, e3, e4, e5, e6⟩ := au_keeps ((tpB s ⟨#[47, 47]⟩).extract 0 (slI (tpB s ⟨#[47, 47]⟩))) p
    dsimp only [cond_true]
    generalize auP ((tpB s ⟨#[47, 47]⟩).extract 0 (slI (tpB s ⟨#[47, 47]⟩))) p = q at *
    exact ⟨e1, e2, e3, e4, e5, e6⟩
  | false =>
    dsimp only [cond_false]
    exact ⟨rfl, rfl, rfl, rfl, rfl, rfl⟩
/-- The rest of the parts, taken apart from what stands ahead of the query. -/
def PR.rest (p : PR) (fr : ByteArray) (hf : Bool) (qu : ByteArray) (hq : Bool) : PR := { p with fr := fr, hf := hf, qu := qu, hq := hq }
theorem fore_rest (s : ByteArray) (p : PR) (fr : ByteArray) (hf : Bool) (qu : ByteArray) (hq : Bool) : fore s (p.rest fr hf qu hq) = ((fore s p).1.rest fr hf qu hq, (fore s p).2) := by
  unfold fore
  cases h : Lib.hasPrefix s.data.toList [47, 47] with
  | true =>
    unfold auP auH auU PR.rest
    generalize tpB s ⟨#[47, 47]⟩ = r
    generalize hx : r.extract 0 (slI r) = a
    cases lastC (auS a) <;> cases cut3 a 64 <;> rfl
  | false => rfl

/-! ### the whole -/
theorem parse_ok (s : ByteArray) (p : PR) (h : parseR s = (p, 0)) : s.size ≤ 4096 ∧ (colB s && !schemeB (scS s)) = false ∧ (midR s).1 = p ∧ chkB (midR s).1 (midR s).2 = true := by
  unfold parseR at h
  split at h
  · have := congrArg Prod.snd h; simp at this
  · rename_i hz
    cases hc : (colB s && !schemeB (scS s)) with
    | true => rw [hc] at h; have := congrArg Prod.snd h; simp at this
    | false =>
      rw [hc] at h
      cases hk : chkB (midR s).1 (midR s).2 with
      | false => rw [hk] at h; have := congrArg Prod.snd h; simp at this
      | true => rw [hk] at h; exact ⟨by omega, rfl, congrArg Prod.fst h, rfl⟩
theorem ok_parse (s : ByteArray) (hz : s.size ≤ 4096) (h1 : (colB s && !schemeB (scS s)) = false) (h2 : chkB (midR s).1 (midR s).2 = true) : parseR s = ((midR s).1, 0) := by
  unfold parseR
  rw [if_neg (by omega), h1, h2]; rfl
theorem mid_text (s : ByteArray) : textL (midR s).1 = s.data.toList := by
  have hk := fore_keeps (cut1 (cut1 (reS s) 35) 63) (p0 s (reS s))
  have hb := fore_back (cut1 (cut1 (reS s) 35) 63) (p0 s (reS s)) rfl rfl rfl
  unfold textL midR
  rw [hb, hk.1, hk.2.1, hk.2.2.1, hk.2.2.2.1, hk.2.2.2.2.1, hk.2.2.2.2.2]
  show oneL (colB s) ((scS s).data.toList ++ [58]) ++ (_ ++ (oneL (cut3 (cut1 (reS s) 35) 63) (63 :: (cut2 (cut1 (reS s) 35) 63).data.toList) ++ oneL (cut3 (reS s) 35) (35 :: (cut2 (reS s) 35).data.toList))) = _
  rw [← List.append_assoc (cut1 (cut1 (reS s) 35) 63).data.toList, ← cut_back, ← cut_back, ← col_back]
theorem text_back (s : ByteArray) (p : PR) (h : parseR s = (p, 0)) : textB p = s := by
  obtain ⟨-, -, h1, -⟩ := parse_ok s p h
  rw [← h1]
  apply ba_ext
  show (textL (midR s).1).toArray.toList = _
  rw [mid_text]
theorem isB_empty (of : ByteArray) : isB E0 of = true := by
  unfold isB; exact isFrom_end (by decide)
/-- The fragment less. -/
theorem less_frag (s : ByteArray) (p : PR) (h : parseR s = (p, 0)) : parseR (textB { p with fr := E0, hf := false }) = ({ p with fr := E0, hf := false }, 0) := by
  obtain ⟨hz, hc, h1, hk⟩ := parse_ok s p h
  have hm := mid_text s
  have hks := fore_keeps (cut1 (cut1 (reS s) 35) 63) (p0 s (reS s))
  have hp' : ({ p with fr := E0, hf := false } : PR) = (midR s).1.rest E0 false p.qu p.hq := by rw [← h1]; rfl
  generalize ht : textB { p with fr := E0, hf := false } = t
  have htl : t.data.toList = oneL (colB s) ((scS s).data.toList ++ [58]) ++ (cut1 (reS s) 35).data.toList := by
    rw [← ht]
    show textL { p with fr := E0, hf := false } = _
    rw [← h1]
    have hb := fore_back (cut1 (cut1 (reS s) 35) 63) (p0 s (reS s)) rfl rfl rfl
    unfold midR
    unfold textL
    show oneL (fore _ _).1.hs ((fore _ _).1.sc.data.toList ++ [58]) ++ (foreL (fore _ _).1 ++ (oneL (fore _ _).1.hq (63 :: (fore _ _).1.qu.data.toList) ++ oneL false _)) = _
    rw [hb, hks.1, hks.2.1, hks.2.2.1, hks.2.2.2.1]
    show oneL (colB s) ((scS s).data.toList ++ [58]) ++ (_ ++ (oneL (cut3 (cut1 (reS s) 35) 63) (63 :: (cut2 (cut1 (reS s) 35) 63).data.toList) ++ [])) = _
    rw [List.append_nil, ← cut_back]
  obtain ⟨e1, e2, e3⟩ := col_cut s t _ _ (cut_back (reS s) 35) htl
  rw [ba_mk] at e3
  obtain ⟨f1, f2, f3⟩ := cut_out (cut1 (reS s) 35) 35 (cut1_clean _ _)
  have hmt : midR t = ((midR s).1.rest E0 false p.qu p.hq, (midR s).2) := by
    have hq1 : p.qu = cut2 (cut1 (reS s) 35) 63 := by rw [← h1]; exact hks.2.2.1
    have hq2 : p.hq = cut3 (cut1 (reS s) 35) 63 := by rw [← h1]; exact hks.2.2.2.1
    rw [hq1, hq2]
    unfold midR
    rw [← fore_rest]
    have hp0 : p0 t (reS t) = (p0 s (reS s)).rest E0 false (cut2 (cut1 (reS s) 35) 63) (cut3 (cut1 (reS s) 35) 63) := by
      unfold p0
      rw [e1, e2, e3, f1, f2, f3]; rfl
    rw [hp0, e3, f1]
  rw [hp']
  have hx := ok_parse t ?_ ?_ ?_
  · rw [hx, hmt]
  · have : s.data.toList.length = t.data.toList.length + (oneL (cut3 (reS s) 35) (35 :: (cut2 (reS s) 35).data.toList)).length := by
      rw [htl, List.length_append, Nat.add_assoc, ← @List.length_append _ (cut1 (reS s) 35).data.toList, ← cut_back, ← List.length_append, ← col_back]
    rw [ba_size] at hz ⊢
    omega
  · rw [e1, e2]; exact hc
  · rw [hmt]
    unfold chkB at hk ⊢
    simp only [Bool.and_eq_true] at hk ⊢
    exact ⟨hk.1, hk.2.1, by show isB p.qu _ = true; rw [← h1]; exact hk.2.2.1, isB_empty _⟩
/-- The query less, where there is no fragment. -/
theorem less_query (s : ByteArray) (p : PR) (h : parseR s = (p, 0)) (h0 : p.hf = false) (h00 : p.fr = E0) : parseR (textB { p with qu := E0, hq := false }) = ({ p with qu := E0, hq := false }, 0) := by
  obtain ⟨hz, hc, h1, hk⟩ := parse_ok s p h
  have hks := fore_keeps (cut1 (cut1 (reS s) 35) 63) (p0 s (reS s))
  have hp' : ({ p with qu := E0, hq := false } : PR) = (midR s).1.rest E0 false E0 false := by
    rw [← h1]
    have g1 : (midR s).1.hf = false := by rw [h1]; exact h0
    have g2 : (midR s).1.fr = E0 := by rw [h1]; exact h00
    generalize (midR s).1 = q at g1 g2
    cases q
    simp only at g1 g2
    subst g1 g2
    rfl
  have hf0 : cut3 (reS s) 35 = false := by
    have : (midR s).1.hf = cut3 (reS s) 35 := hks.2.2.2.2.2
    rw [← this, h1]; exact h0
  obtain ⟨d1, d2, d3⟩ := cut_out (reS s) 35 (cut_none _ _ hf0)
  generalize ht : textB { p with qu := E0, hq := false } = t
  have htl : t.data.toList = oneL (colB s) ((scS s).data.toList ++ [58]) ++ (cut1 (reS s) 63).data.toList := by
    rw [← ht, hp']
    have hb := fore_back (cut1 (cut1 (reS s) 35) 63) (p0 s (reS s)) rfl rfl rfl
    show textL _ = _
    unfold midR
    unfold textL
    show oneL (fore _ _).1.hs ((fore _ _).1.sc.data.toList ++ [58]) ++ (foreL (fore _ _).1 ++ (oneL false _ ++ oneL false _)) = _
    rw [hb, hks.1, hks.2.1, d1]
    show oneL (colB s) ((scS s).data.toList ++ [58]) ++ (_ ++ ([] ++ [])) = _
    simp
  obtain ⟨e1, e2, e3⟩ := col_cut s t _ _ (cut_back (reS s) 63) htl
  rw [ba_mk] at e3
  obtain ⟨f1, f2, f3⟩ := cut_out (cut1 (reS s) 63) 63 (cut1_clean _ _)
  obtain ⟨g1, g2, g3⟩ := cut_out (cut1 (reS s) 63) 35 (fun hm => cut_none _ _ hf0 (cut_sub _ _ _ hm))
  have hmt : midR t = ((midR s).1.rest E0 false E0 false, (midR s).2) := by
    unfold midR
    rw [← fore_rest]
    have hp0 : p0 t (reS t) = (p0 s (reS s)).rest E0 false E0 false := by
      unfold p0
      rw [e1, e2, e3, g1, g2, g3, f2, f3]; rfl
    rw [hp0, e3, g1, f1, d1]
  rw [hp']
  have hx := ok_parse t ?_ ?_ ?_
  · rw [hx, hmt]
  · have : s.data.toList.length = t.data.toList.length + (oneL (cut3 (reS s) 63) (63 :: (cut2 (reS s) 63).data.toList)).length := by
      rw [htl, List.length_append, Nat.add_assoc, ← @List.length_append _ (cut1 (reS s) 63).data.toList, ← cut_back, ← List.length_append, ← col_back]
    rw [ba_size] at hz ⊢
    omega
  · rw [e1, e2]; exact hc
  · rw [hmt]
    unfold chkB at hk ⊢
    simp only [Bool.and_eq_true] at hk ⊢
    exact ⟨hk.1, hk.2.1, isB_empty _, isB_empty _⟩
end Go.Proofs.YtakdjflhhaefiaaGreatDoor
