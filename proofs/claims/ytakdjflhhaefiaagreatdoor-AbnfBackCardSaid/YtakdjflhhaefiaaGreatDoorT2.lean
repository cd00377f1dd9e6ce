/- abnf.Parts.Text: the walk. -/
import Derived.Test.YtakdjflhhaefiaaGreatDoorT1
import Derived.Test.YtakdjflhhaefiaaGreatDoorC1
set_option linter.unusedVariables false
set_option linter.unusedSimpArgs false
namespace Go.Proofs.YtakdjflhhaefiaaGreatDoor
open Go.RowKit
/-- The state of Text: the parts in their block, the builder behind it. -/
def TxAt (w0 : World) (p : PR) (l : List UInt8) (W : World) : Prop :=
  Lib.IsBuilderF 95 5 (w0.heap.size + 1) (w0.heap.size + 1) (Lib.byteCells l) W ∧ Below (w0.heap.size + 1) (w0.alloc (.cells p.row 40)) W
theorem TxAt.at {w0 : World} {p : PR} {l : List UInt8} {W : World} (h : TxAt w0 p l W) : PAt w0.heap.size p W :=
  (h.2.block w0.heap.size (Nat.lt_succ_self _)).trans (World.alloc_heap_new w0 _)
theorem TxAt.start (w : World) (p : PR) : TxAt w p [] ((w.alloc (.cells p.row 40)).alloc (.cells #[.pointer none, .slice none 0 0] 95)) := by
  have h := Lib.fresh_isBuilder 95 5 (w.alloc (.cells p.row 40))
  rw [World.size_alloc] at h
  exact ⟨Lib.IsBuilderF.of h, (Below.refl _ _).alloc (by simp) _⟩
theorem TxAt.below {w0 : World} {p : PR} {l : List UInt8} {W : World} (h : TxAt w0 p l W) : Below w0.heap.size w0 W :=
  ((Below.refl _ w0).alloc (Nat.le_refl _) _).trans (h.2.mono (Nat.le_succ _))
theorem put_tx (w0 : World) (p : PR) (l : List UInt8) (is : Bool) (ps : List ByteArray) (W : World) (T n g : Nat) (h : TxAt w0 p l W) (hgW : W.heap.size = g) (hT : T ≠ 5) (hn : ps.length = n) (hn9 : n ≤ 9) (hl : l.length ≤ 1000000) (hp : ∀ x ∈ ps, x.size ≤ 1000000) :
    Calls Tryz.prog 70 #[.bool is, .slice (some ⟨g, 0, none⟩) n n, .pointer (some ⟨w0.heap.size + 1, 0, none⟩)] (W.alloc (.cells (ps.map Value.string).toArray T)) fun e w' => e = .returned (.tuple #[]) ∧ TxAt w0 p (l ++ catL is ps) w' := by
  subst hgW
  have hlt := (bf_far h.1).2
  have hb : Below (w0.heap.size + 1) (w0.alloc (.cells p.row 40)) (W.alloc (.cells (ps.map Value.string).toArray T)) := h.2.alloc (by omega) _
  have hg : (W.alloc (.cells (ps.map Value.string).toArray T)).heap[W.heap.size]? = some (.cells (ps.map Value.string).toArray T (0, 0)) := World.alloc_heap_new _ _
  cases is with
  | true =>
    refine (put_yes _ _ _ T n l ps _ (h.1.alloc _) (by simp; omega) hg hT (by omega) hn hn9 hl hp).mono ?_
    rintro e w' ⟨he, h1, h2, h3⟩
    exact ⟨he, h1, hb.trans h2⟩
  | false =>
    refine (put_no _ _ T n ps _ hg hn hn9).mono ?_
    rintro e w' ⟨he, hw⟩
    subst hw
    exact ⟨he, by simpa [catL] using h.1.alloc _, hb⟩
theorem catL_le (is : Bool) (a b : ByteArray) : (catL is [a, b]).length ≤ a.size + b.size ∧ (catL is [a]).length ≤ a.size := by
  cases is <;> simp [catL]
def PR.small (p : PR) : Prop := p.sc.size ≤ 10000 ∧ p.us.size ≤ 10000 ∧ p.ho.size ≤ 10000 ∧ p.po.size ≤ 10000 ∧ p.pa.size ≤ 10000 ∧ p.qu.size ≤ 10000 ∧ p.fr.size ≤ 10000
set_option maxHeartbeats 4000000 in
set_option maxRecDepth 100000 in
theorem text_false (p : PR) (w : World) (hz : p.small) (hha : p.ha = false) : Calls Tryz.prog 20 #[.agg p.row] w fun e w' => e = .returned (.string (textB p)) ∧ Below w.heap.size w w' := by
  obtain ⟨z0, z2, z4, z6, z8, z9, z11⟩ := hz
  have HX0 := Lib.hid (TxAt.start w p)
  have hl0 : ([] : List UInt8).length ≤ 0 := Nat.le_refl 0
  obtain ⟨L1, hL1⟩ : ∃ L, Hid ([] ++ catL p.hs [p.sc, ⟨#[58]⟩] = L) := ⟨_, Lib.hid rfl⟩
  have hl1 : L1.length ≤ 20000 := by
    rw [← hL1.out, List.length_append]
    have h1 := (catL_le p.hs p.sc ⟨#[58]⟩).1
    have h2 : (⟨#[58]⟩ : ByteArray).size = 1 := rfl
    have h3 : (⟨#[47, 47]⟩ : ByteArray).size = 2 := rfl
    have h4 : (⟨#[64]⟩ : ByteArray).size = 1 := rfl
    have h5 : (⟨#[63]⟩ : ByteArray).size = 1 := rfl
    have h6 : (⟨#[35]⟩ : ByteArray).size = 1 := rfl
    omega
  obtain ⟨L2, hL2⟩ : ∃ L, Hid (L1 ++ catL false [⟨#[47, 47]⟩] = L) := ⟨_, Lib.hid rfl⟩
  have hl2 : L2.length ≤ 40000 := by
    rw [← hL2.out, List.length_append]
    have h1 := (catL_le false ⟨#[47, 47]⟩ p.sc).2
    have h2 : (⟨#[58]⟩ : ByteArray).size = 1 := rfl
    have h3 : (⟨#[47, 47]⟩ : ByteArray).size = 2 := rfl
    have h4 : (⟨#[64]⟩ : ByteArray).size = 1 := rfl
    have h5 : (⟨#[63]⟩ : ByteArray).size = 1 := rfl
    have h6 : (⟨#[35]⟩ : ByteArray).size = 1 := rfl
    omega
  obtain ⟨L3, hL3⟩ : ∃ L, Hid (L2 ++ catL false [p.us, ⟨#[64]⟩] = L) := ⟨_, Lib.hid rfl⟩
  have hl3 : L3.length ≤ 60000 := by
    rw [← hL3.out, List.length_append]
    have h1 := (catL_le false p.us ⟨#[64]⟩).1
    have h2 : (⟨#[58]⟩ : ByteArray).size = 1 := rfl
    have h3 : (⟨#[47, 47]⟩ : ByteArray).size = 2 := rfl
    have h4 : (⟨#[64]⟩ : ByteArray).size = 1 := rfl
    have h5 : (⟨#[63]⟩ : ByteArray).size = 1 := rfl
    have h6 : (⟨#[35]⟩ : ByteArray).size = 1 := rfl
    omega
  obtain ⟨L4, hL4⟩ : ∃ L, Hid (L3 ++ catL false [p.ho] = L) := ⟨_, Lib.hid rfl⟩
  have hl4 : L4.length ≤ 80000 := by
    rw [← hL4.out, List.length_append]
    have h1 := (catL_le false p.ho p.sc).2
    have h2 : (⟨#[58]⟩ : ByteArray).size = 1 := rfl
    have h3 : (⟨#[47, 47]⟩ : ByteArray).size = 2 := rfl
    have h4 : (⟨#[64]⟩ : ByteArray).size = 1 := rfl
    have h5 : (⟨#[63]⟩ : ByteArray).size = 1 := rfl
    have h6 : (⟨#[35]⟩ : ByteArray).size = 1 := rfl
    omega
  obtain ⟨L5, hL5⟩ : ∃ L, Hid (L4 ++ catL false [⟨#[58]⟩, p.po] = L) := ⟨_, Lib.hid rfl⟩
  have hl5 : L5.length ≤ 100000 := by
    rw [← hL5.out, List.length_append]
    have h1 := (catL_le false ⟨#[58]⟩ p.po).1
    have h2 : (⟨#[58]⟩ : ByteArray).size = 1 := rfl
    have h3 : (⟨#[47, 47]⟩ : ByteArray).size = 2 := rfl
    have h4 : (⟨#[64]⟩ : ByteArray).size = 1 := rfl
    have h5 : (⟨#[63]⟩ : ByteArray).size = 1 := rfl
    have h6 : (⟨#[35]⟩ : ByteArray).size = 1 := rfl
    omega
  obtain ⟨L6, hL6⟩ : ∃ L, Hid (L5 ++ catL true [p.pa] = L) := ⟨_, Lib.hid rfl⟩
  have hl6 : L6.length ≤ 120000 := by
    rw [← hL6.out, List.length_append]
    have h1 := (catL_le true p.pa p.sc).2
    have h2 : (⟨#[58]⟩ : ByteArray).size = 1 := rfl
    have h3 : (⟨#[47, 47]⟩ : ByteArray).size = 2 := rfl
    have h4 : (⟨#[64]⟩ : ByteArray).size = 1 := rfl
    have h5 : (⟨#[63]⟩ : ByteArray).size = 1 := rfl
    have h6 : (⟨#[35]⟩ : ByteArray).size = 1 := rfl
    omega
  obtain ⟨L7, hL7⟩ : ∃ L, Hid (L6 ++ catL p.hq [⟨#[63]⟩, p.qu] = L) := ⟨_, Lib.hid rfl⟩
  have hl7 : L7.length ≤ 140000 := by
    rw [← hL7.out, List.length_append]
    have h1 := (catL_le p.hq ⟨#[63]⟩ p.qu).1
    have h2 : (⟨#[58]⟩ : ByteArray).size = 1 := rfl
    have h3 : (⟨#[47, 47]⟩ : ByteArray).size = 2 := rfl
    have h4 : (⟨#[64]⟩ : ByteArray).size = 1 := rfl
    have h5 : (⟨#[63]⟩ : ByteArray).size = 1 := rfl
    have h6 : (⟨#[35]⟩ : ByteArray).size = 1 := rfl
    omega
  obtain ⟨L8, hL8⟩ : ∃ L, Hid (L7 ++ catL p.hf [⟨#[35]⟩, p.fr] = L) := ⟨_, Lib.hid rfl⟩
  have hl8 : L8.length ≤ 160000 := by
    rw [← hL8.out, List.length_append]
    have h1 := (catL_le p.hf ⟨#[35]⟩ p.fr).1
    have h2 : (⟨#[58]⟩ : ByteArray).size = 1 := rfl
    have h3 : (⟨#[47, 47]⟩ : ByteArray).size = 2 := rfl
    have h4 : (⟨#[64]⟩ : ByteArray).size = 1 := rfl
    have h5 : (⟨#[63]⟩ : ByteArray).size = 1 := rfl
    have h6 : (⟨#[35]⟩ : ByteArray).size = 1 := rfl
    omega
  have HT : Hid (textB p = ⟨L8.toArray⟩) := Lib.hid (by
    rw [← hL8.out, ← hL7.out, ← hL6.out, ← hL5.out, ← hL4.out, ← hL3.out, ← hL2.out, ← hL1.out]
    unfold textB textL foreL oneL catL
    rw [hha]
    cases p.hs <;> cases p.hu <;> cases p.hp <;> cases p.hq <;> cases p.hf <;> simp)
  have c1 := HX0.out.at.c1
  have c0 := HX0.out.at.c0
  go_enter Tryz.func20, Tryz.ntmps20
  go_wp2_with (first | (go_at_call 72; refine (Tryz.Builder_String_any_k (w.heap.size + 1) (w.heap.size + 1) L8 w8 HX8.out.1 (by have := (bf_far HX8.out.1).2; omega)).mono ?_; rintro e w9 ⟨rfl, -, hb, -⟩; have HB9 := Lib.hid (HX8.out.below.trans (hb.mono (Nat.le_succ _))); clear hb) | (go_at_call 70; refine (put_tx w p L7 p.hf [⟨#[35]⟩, p.fr] w7 9 2 w7.heap.size HX7.out rfl (by decide) rfl (by decide) (by omega) (by intro x hx; simp only [List.mem_cons, List.not_mem_nil, or_false] at hx; rcases hx with rfl | rfl <;> first | exact (by decide) | omega)).mono ?_; rintro e w8 ⟨rfl, hx⟩; rw [hL8.out] at hx; have HX8 := Lib.hid hx; clear hx) | (go_at_call 70; refine (put_tx w p L6 p.hq [⟨#[63]⟩, p.qu] w6 9 2 w6.heap.size HX6.out rfl (by decide) rfl (by decide) (by omega) (by intro x hx; simp only [List.mem_cons, List.not_mem_nil, or_false] at hx; rcases hx with rfl | rfl <;> first | exact (by decide) | omega)).mono ?_; rintro e w7 ⟨rfl, hx⟩; rw [hL7.out] at hx; have HX7 := Lib.hid hx; clear hx; have c12_7 := HX7.out.at.c12; have c11_7 := HX7.out.at.c11) | (go_at_call 70; refine (put_tx w p L5 true [p.pa] w5 9 1 w5.heap.size HX5.out rfl (by decide) rfl (by decide) (by omega) (by intro x hx; simp only [List.mem_cons, List.not_mem_nil, or_false] at hx; subst hx <;> first | exact (by decide) | omega)).mono ?_; rintro e w6 ⟨rfl, hx⟩; rw [hL6.out] at hx; have HX6 := Lib.hid hx; clear hx; have c10_6 := HX6.out.at.c10; have c9_6 := HX6.out.at.c9) | (go_at_call 70; refine (put_tx w p L4 false [⟨#[58]⟩, p.po] w4 9 2 w4.heap.size HX4.out rfl (by decide) rfl (by decide) (by omega) (by intro x hx; simp only [List.mem_cons, List.not_mem_nil, or_false] at hx; rcases hx with rfl | rfl <;> first | exact (by decide) | omega)).mono ?_; rintro e w5 ⟨rfl, hx⟩; rw [hL5.out] at hx; have HX5 := Lib.hid hx; clear hx; have c8_5 := HX5.out.at.c8) | (go_at_call 70; refine (put_tx w p L3 false [p.ho] w3 9 1 w3.heap.size HX3.out rfl (by decide) rfl (by decide) (by omega) (by intro x hx; simp only [List.mem_cons, List.not_mem_nil, or_false] at hx; subst hx <;> first | exact (by decide) | omega)).mono ?_; rintro e w4 ⟨rfl, hx⟩; rw [hL4.out] at hx; have HX4 := Lib.hid hx; clear hx; have c5_4 := HX4.out.at.c5; rw [hha] at c5_4; have c6_4 := HX4.out.at.c6) | (go_at_call 70; refine (put_tx w p L2 false [p.us, ⟨#[64]⟩] w2 9 2 w2.heap.size HX2.out rfl (by decide) rfl (by decide) (by omega) (by intro x hx; simp only [List.mem_cons, List.not_mem_nil, or_false] at hx; rcases hx with rfl | rfl <;> first | exact (by decide) | omega)).mono ?_; rintro e w3 ⟨rfl, hx⟩; rw [hL3.out] at hx; have HX3 := Lib.hid hx; clear hx; have c5_3 := HX3.out.at.c5; rw [hha] at c5_3; have c4_3 := HX3.out.at.c4) | (go_at_call 70; refine (put_tx w p L1 false [⟨#[47, 47]⟩] w1 9 1 w1.heap.size HX1.out rfl (by decide) rfl (by decide) (by omega) (by intro x hx; simp only [List.mem_cons, List.not_mem_nil, or_false] at hx; subst hx <;> first | exact (by decide) | omega)).mono ?_; rintro e w2 ⟨rfl, hx⟩; rw [hL2.out] at hx; have HX2 := Lib.hid hx; clear hx; have c5_2 := HX2.out.at.c5; rw [hha] at c5_2; have c2_2 := HX2.out.at.c2) | (go_at_call 70; refine (put_tx w p [] p.hs [p.sc, ⟨#[58]⟩] ((w.alloc (.cells p.row 40)).alloc (.cells #[.pointer none, .slice none 0 0] 95)) 9 2 (w.heap.size + 1 + 1) HX0.out (by simp) (by decide) rfl (by decide) (by omega) (by intro x hx; simp only [List.mem_cons, List.not_mem_nil, or_false] at hx; rcases hx with rfl | rfl <;> first | exact (by decide) | omega)).mono ?_; rintro e w1 ⟨rfl, hx⟩; rw [hL1.out] at hx; have HX1 := Lib.hid hx; clear hx; have c5_1 := HX1.out.at.c5; rw [hha] at c5_1))
  go_ret
  exact ⟨by rw [HT.out] <;> rfl, HB9.out⟩
set_option maxHeartbeats 4000000 in
set_option maxRecDepth 100000 in
theorem text_true (p : PR) (w : World) (hz : p.small) (hha : p.ha = true) : Calls Tryz.prog 20 #[.agg p.row] w fun e w' => e = .returned (.string (textB p)) ∧ Below w.heap.size w w' := by
  obtain ⟨z0, z2, z4, z6, z8, z9, z11⟩ := hz
  have HX0 := Lib.hid (TxAt.start w p)
  have hl0 : ([] : List UInt8).length ≤ 0 := Nat.le_refl 0
  obtain ⟨L1, hL1⟩ : ∃ L, Hid ([] ++ catL p.hs [p.sc, ⟨#[58]⟩] = L) := ⟨_, Lib.hid rfl⟩
  have hl1 : L1.length ≤ 20000 := by
    rw [← hL1.out, List.length_append]
    have h1 := (catL_le p.hs p.sc ⟨#[58]⟩).1
    have h2 : (⟨#[58]⟩ : ByteArray).size = 1 := rfl
    have h3 : (⟨#[47, 47]⟩ : ByteArray).size = 2 := rfl
    have h4 : (⟨#[64]⟩ : ByteArray).size = 1 := rfl
    have h5 : (⟨#[63]⟩ : ByteArray).size = 1 := rfl
    have h6 : (⟨#[35]⟩ : ByteArray).size = 1 := rfl
    omega
  obtain ⟨L2, hL2⟩ : ∃ L, Hid (L1 ++ catL true [⟨#[47, 47]⟩] = L) := ⟨_, Lib.hid rfl⟩
  have hl2 : L2.length ≤ 40000 := by
    rw [← hL2.out, List.length_append]
    have h1 := (catL_le true ⟨#[47, 47]⟩ p.sc).2
    have h2 : (⟨#[58]⟩ : ByteArray).size = 1 := rfl
    have h3 : (⟨#[47, 47]⟩ : ByteArray).size = 2 := rfl
    have h4 : (⟨#[64]⟩ : ByteArray).size = 1 := rfl
    have h5 : (⟨#[63]⟩ : ByteArray).size = 1 := rfl
    have h6 : (⟨#[35]⟩ : ByteArray).size = 1 := rfl
    omega
  obtain ⟨L3, hL3⟩ : ∃ L, Hid (L2 ++ catL p.hu [p.us, ⟨#[64]⟩] = L) := ⟨_, Lib.hid rfl⟩
  have hl3 : L3.length ≤ 60000 := by
    rw [← hL3.out, List.length_append]
    have h1 := (catL_le p.hu p.us ⟨#[64]⟩).1
    have h2 : (⟨#[58]⟩ : ByteArray).size = 1 := rfl
    have h3 : (⟨#[47, 47]⟩ : ByteArray).size = 2 := rfl
    have h4 : (⟨#[64]⟩ : ByteArray).size = 1 := rfl
    have h5 : (⟨#[63]⟩ : ByteArray).size = 1 := rfl
    have h6 : (⟨#[35]⟩ : ByteArray).size = 1 := rfl
    omega
  obtain ⟨L4, hL4⟩ : ∃ L, Hid (L3 ++ catL true [p.ho] = L) := ⟨_, Lib.hid rfl⟩
  have hl4 : L4.length ≤ 80000 := by
    rw [← hL4.out, List.length_append]
    have h1 := (catL_le true p.ho p.sc).2
    have h2 : (⟨#[58]⟩ : ByteArray).size = 1 := rfl
    have h3 : (⟨#[47, 47]⟩ : ByteArray).size = 2 := rfl
    have h4 : (⟨#[64]⟩ : ByteArray).size = 1 := rfl
    have h5 : (⟨#[63]⟩ : ByteArray).size = 1 := rfl
    have h6 : (⟨#[35]⟩ : ByteArray).size = 1 := rfl
    omega
  obtain ⟨L5, hL5⟩ : ∃ L, Hid (L4 ++ catL p.hp [⟨#[58]⟩, p.po] = L) := ⟨_, Lib.hid rfl⟩
  have hl5 : L5.length ≤ 100000 := by
    rw [← hL5.out, List.length_append]
    have h1 := (catL_le p.hp ⟨#[58]⟩ p.po).1
    have h2 : (⟨#[58]⟩ : ByteArray).size = 1 := rfl
    have h3 : (⟨#[47, 47]⟩ : ByteArray).size = 2 := rfl
    have h4 : (⟨#[64]⟩ : ByteArray).size = 1 := rfl
    have h5 : (⟨#[63]⟩ : ByteArray).size = 1 := rfl
    have h6 : (⟨#[35]⟩ : ByteArray).size = 1 := rfl
    omega
  obtain ⟨L6, hL6⟩ : ∃ L, Hid (L5 ++ catL true [p.pa] = L) := ⟨_, Lib.hid rfl⟩
  have hl6 : L6.length ≤ 120000 := by
    rw [← hL6.out, List.length_append]
    have h1 := (catL_le true p.pa p.sc).2
    have h2 : (⟨#[58]⟩ : ByteArray).size = 1 := rfl
    have h3 : (⟨#[47, 47]⟩ : ByteArray).size = 2 := rfl
    have h4 : (⟨#[64]⟩ : ByteArray).size = 1 := rfl
    have h5 : (⟨#[63]⟩ : ByteArray).size = 1 := rfl
    have h6 : (⟨#[35]⟩ : ByteArray).size = 1 := rfl
    omega
  obtain ⟨L7, hL7⟩ : ∃ L, Hid (L6 ++ catL p.hq [⟨#[63]⟩, p.qu] = L) := ⟨_, Lib.hid rfl⟩
  have hl7 : L7.length ≤ 140000 := by
    rw [← hL7.out, List.length_append]
    have h1 := (catL_le p.hq ⟨#[63]⟩ p.qu).1
    have h2 : (⟨#[58]⟩ : ByteArray).size = 1 := rfl
    have h3 : (⟨#[47, 47]⟩ : ByteArray).size = 2 := rfl
    have h4 : (⟨#[64]⟩ : ByteArray).size = 1 := rfl
    have h5 : (⟨#[63]⟩ : ByteArray).size = 1 := rfl
    have h6 : (⟨#[35]⟩ : ByteArray).size = 1 := rfl
    omega
  obtain ⟨L8, hL8⟩ : ∃ L, Hid (L7 ++ catL p.hf [⟨#[35]⟩, p.fr] = L) := ⟨_, Lib.hid rfl⟩
  have hl8 : L8.length ≤ 160000 := by
    rw [← hL8.out, List.length_append]
    have h1 := (catL_le p.hf ⟨#[35]⟩ p.fr).1
    have h2 : (⟨#[58]⟩ : ByteArray).size = 1 := rfl
    have h3 : (⟨#[47, 47]⟩ : ByteArray).size = 2 := rfl
    have h4 : (⟨#[64]⟩ : ByteArray).size = 1 := rfl
    have h5 : (⟨#[63]⟩ : ByteArray).size = 1 := rfl
    have h6 : (⟨#[35]⟩ : ByteArray).size = 1 := rfl
    omega
  have HT : Hid (textB p = ⟨L8.toArray⟩) := Lib.hid (by
    rw [← hL8.out, ← hL7.out, ← hL6.out, ← hL5.out, ← hL4.out, ← hL3.out, ← hL2.out, ← hL1.out]
    unfold textB textL foreL oneL catL
    rw [hha]
    cases p.hs <;> cases p.hu <;> cases p.hp <;> cases p.hq <;> cases p.hf <;> simp)
  have c1 := HX0.out.at.c1
  have c0 := HX0.out.at.c0
  go_enter Tryz.func20, Tryz.ntmps20
  go_wp2_with (first | (go_at_call 72; refine (Tryz.Builder_String_any_k (w.heap.size + 1) (w.heap.size + 1) L8 w8 HX8.out.1 (by have := (bf_far HX8.out.1).2; omega)).mono ?_; rintro e w9 ⟨rfl, -, hb, -⟩; have HB9 := Lib.hid (HX8.out.below.trans (hb.mono (Nat.le_succ _))); clear hb) | (go_at_call 70; refine (put_tx w p L7 p.hf [⟨#[35]⟩, p.fr] w7 9 2 w7.heap.size HX7.out rfl (by decide) rfl (by decide) (by omega) (by intro x hx; simp only [List.mem_cons, List.not_mem_nil, or_false] at hx; rcases hx with rfl | rfl <;> first | exact (by decide) | omega)).mono ?_; rintro e w8 ⟨rfl, hx⟩; rw [hL8.out] at hx; have HX8 := Lib.hid hx; clear hx) | (go_at_call 70; refine (put_tx w p L6 p.hq [⟨#[63]⟩, p.qu] w6 9 2 w6.heap.size HX6.out rfl (by decide) rfl (by decide) (by omega) (by intro x hx; simp only [List.mem_cons, List.not_mem_nil, or_false] at hx; rcases hx with rfl | rfl <;> first | exact (by decide) | omega)).mono ?_; rintro e w7 ⟨rfl, hx⟩; rw [hL7.out] at hx; have HX7 := Lib.hid hx; clear hx; have c12_7 := HX7.out.at.c12; have c11_7 := HX7.out.at.c11) | (go_at_call 70; refine (put_tx w p L5 true [p.pa] w5 9 1 w5.heap.size HX5.out rfl (by decide) rfl (by decide) (by omega) (by intro x hx; simp only [List.mem_cons, List.not_mem_nil, or_false] at hx; subst hx <;> first | exact (by decide) | omega)).mono ?_; rintro e w6 ⟨rfl, hx⟩; rw [hL6.out] at hx; have HX6 := Lib.hid hx; clear hx; have c10_6 := HX6.out.at.c10; have c9_6 := HX6.out.at.c9) | (go_at_call 70; refine (put_tx w p L4 p.hp [⟨#[58]⟩, p.po] w4 9 2 w4.heap.size HX4.out rfl (by decide) rfl (by decide) (by omega) (by intro x hx; simp only [List.mem_cons, List.not_mem_nil, or_false] at hx; rcases hx with rfl | rfl <;> first | exact (by decide) | omega)).mono ?_; rintro e w5 ⟨rfl, hx⟩; rw [hL5.out] at hx; have HX5 := Lib.hid hx; clear hx; have c8_5 := HX5.out.at.c8) | (go_at_call 70; refine (put_tx w p L3 true [p.ho] w3 9 1 w3.heap.size HX3.out rfl (by decide) rfl (by decide) (by omega) (by intro x hx; simp only [List.mem_cons, List.not_mem_nil, or_false] at hx; subst hx <;> first | exact (by decide) | omega)).mono ?_; rintro e w4 ⟨rfl, hx⟩; rw [hL4.out] at hx; have HX4 := Lib.hid hx; clear hx; have c5_4 := HX4.out.at.c5; rw [hha] at c5_4; have c7_4 := HX4.out.at.c7; have c6_4 := HX4.out.at.c6) | (go_at_call 70; refine (put_tx w p L2 p.hu [p.us, ⟨#[64]⟩] w2 9 2 w2.heap.size HX2.out rfl (by decide) rfl (by decide) (by omega) (by intro x hx; simp only [List.mem_cons, List.not_mem_nil, or_false] at hx; rcases hx with rfl | rfl <;> first | exact (by decide) | omega)).mono ?_; rintro e w3 ⟨rfl, hx⟩; rw [hL3.out] at hx; have HX3 := Lib.hid hx; clear hx; have c5_3 := HX3.out.at.c5; rw [hha] at c5_3; have c4_3 := HX3.out.at.c4) | (go_at_call 70; refine (put_tx w p L1 true [⟨#[47, 47]⟩] w1 9 1 w1.heap.size HX1.out rfl (by decide) rfl (by decide) (by omega) (by intro x hx; simp only [List.mem_cons, List.not_mem_nil, or_false] at hx; subst hx <;> first | exact (by decide) | omega)).mono ?_; rintro e w2 ⟨rfl, hx⟩; rw [hL2.out] at hx; have HX2 := Lib.hid hx; clear hx; have c5_2 := HX2.out.at.c5; rw [hha] at c5_2; have c3_2 := HX2.out.at.c3; have c2_2 := HX2.out.at.c2) | (go_at_call 70; refine (put_tx w p [] p.hs [p.sc, ⟨#[58]⟩] ((w.alloc (.cells p.row 40)).alloc (.cells #[.pointer none, .slice none 0 0] 95)) 9 2 (w.heap.size + 1 + 1) HX0.out (by simp) (by decide) rfl (by decide) (by omega) (by intro x hx; simp only [List.mem_cons, List.not_mem_nil, or_false] at hx; rcases hx with rfl | rfl <;> first | exact (by decide) | omega)).mono ?_; rintro e w1 ⟨rfl, hx⟩; rw [hL1.out] at hx; have HX1 := Lib.hid hx; clear hx; have c5_1 := HX1.out.at.c5; rw [hha] at c5_1))
  go_ret
  exact ⟨by rw [HT.out] <;> rfl, HB9.out⟩
theorem text_any (p : PR) (w : World) (hz : p.small) : Calls Tryz.prog 20 #[.agg p.row] w fun e w' => e = .returned (.string (textB p)) ∧ Below w.heap.size w w' := by
  cases hha : p.ha with
  | true => exact text_true p w hz hha
  | false => exact text_false p w hz hha
end Go.Proofs.YtakdjflhhaefiaaGreatDoor
