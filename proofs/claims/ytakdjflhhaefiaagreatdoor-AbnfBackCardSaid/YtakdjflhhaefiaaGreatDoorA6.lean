/- (*six.reader).step: what it does to the reader, but for the pieces' values. -/
import Derived.Test.YtakdjflhhaefiaaGreatDoorAB
import Derived.Maps.AppendAt
import Derived.Deep.AppendLies
import Derived.Deep.RegionLaw
import Derived.Deep.RegionHeld3
set_option linter.unusedVariables false
set_option linter.unusedSimpArgs false
namespace Go.Proofs.YtakdjflhhaefiaaGreatDoor
open Go.RowKit Go.Proofs.YtakdjflhhaefiaaGreatDoor.PDotsGo Go.Proofs.YtakdjflhhaefiaaGreatDoorW.PrintWords Go.Proofs.YtakdjflhhaefiaaGreatDoorW.PrintLast Go.Proofs.YtakdjflhhaefiaaGreatDoorW.PrintMore

def wordB (t : ByteArray) : ByteArray := ⟨(Lib.cut t.data.toList [58]).1.toArray⟩
def restB (t : ByteArray) : ByteArray := ⟨(Lib.cut t.data.toList [58]).2.1.toArray⟩
def moreB (t : ByteArray) : Bool := (Lib.cut t.data.toList [58]).2.2
structure StR where
  ok : Bool
  rest : ByteArray
  n : Nat
  gap : Int
  ended : Bool
def stepR (t : ByteArray) (n : Nat) (g : Int) : StR :=
  if Lib.hasPrefix t.data.toList [58] = true then (if 0 ≤ g then ⟨false, t, n, g, false⟩ else ⟨true, t.extract 1 t.size, n, n, (t.extract 1 t.size).toList.isEmpty⟩)
  else if (strictB (wordB t) && !moreB t) = true then ⟨true, ⟨#[]⟩, n + 2, g, true⟩
  else ⟨pieceB (wordB t) && (!moreB t || !(restB t).toList.isEmpty), restB t, n + 1, g, !moreB t⟩

/-- The reader in memory. -/
def RdAt (b : Nat) (t : ByteArray) (n : Nat) (g : Int) (e : Bool) (w : World) : Prop :=
  ∃ (v : Value) (xs : List Int), w.heap[b]? = some (.cells #[.string t, v, .int .i64 g, .bool e] 112 (0, 0)) ∧ w.ownsRow (b + 1) 113 1 v n (xs.map (Value.int .u16))
theorem own_slice {w : World} {base : Nat} {e : TypeId} {v : Value} {n : Nat} {xs : List Value} (h : w.ownsRow base e 1 v n xs) : ∃ A c, v = .slice A n c := by
  rcases h.2 with ⟨rfl, rfl⟩ | ⟨g, cap, cur, rfl, _⟩
  · exact ⟨none, 0, rfl⟩
  · exact ⟨_, cap, rfl⟩
theorem own_set {w : World} {base b j : Nat} {e : TypeId} {v u : Value} {n : Nat} {xs : List Value} (h : w.ownsRow base e 1 v n xs) (hb : b < base) : (w.setCell ⟨b, j, none⟩ u).ownsRow base e 1 v n xs := by
  refine ⟨h.1, ?_⟩
  rcases h.2 with h2 | ⟨g, cap, cur, hv, hg, hr, h3⟩
  · exact .inl h2
  · exact .inr ⟨g, cap, cur, hv, hg, (Below.heap_setCell w ⟨b, j, none⟩ u g (by simp; omega)).trans hr, h3⟩
theorem own_below {w w' : World} {base : Nat} {e : TypeId} {v : Value} {n : Nat} {xs : List Value} (h : w.ownsRow base e 1 v n xs) (hb : Below w.heap.size w w') : w'.ownsRow base e 1 v n xs := by
  refine ⟨h.1, ?_⟩
  rcases h.2 with h2 | ⟨g, cap, cur, hv, hg, hr, h3⟩
  · exact .inl h2
  · exact .inr ⟨g, cap, cur, hv, hg, (hb.block g (Array.getElem?_eq_some_iff.1 hr).1).trans hr, h3⟩

theorem row3 {W : World} {b t j : Nat} {cs cs' : Array Value} (u : Value) (h : W.heap[b]? = some (.cells cs t (0, 0))) (hc : cs.setIfInBounds j u = cs') : (W.setCell ⟨b, j, none⟩ u).heap[b]? = some (.cells cs' t (0, 0)) := by
  rw [← hc]; exact row_setAt u h
theorem row_drew {W : World} {b : Nat} {o : Obj} (h : W.heap[b]? = some o) : W.drew.heap[b]? = some o := h
theorem colon_rowA {b : Nat} {t : ByteArray} {g : Int} {v : Value}  {w : World} (hrow : w.heap[b]? = some (.cells #[.string t, v, .int .i64 g, .bool false] 112 (0, 0)))  (t' : ByteArray) (g' : Int) (e' : Bool) :
  (((w.setCell ⟨b, 2, none⟩ (.int .i64 g')).setCell ⟨b, 0, none⟩ (.string t')).setCell ⟨b, 3, none⟩ (.bool e')).drew.heap[b]? = some (.cells #[.string t', v, .int .i64 g', .bool e'] 112 (0, 0)) :=
  row_drew (row3 _ (row3 _ (row3 _ hrow rfl) rfl) rfl)
theorem colon_own {b : Nat} {n : Nat}  {v : Value} {xs : List Value} {w : World} (hown : w.ownsRow (b + 1) 113 1 v n xs) (u1 u2 u3 : Value) (j1 j2 j3 : Nat) : (((w.setCell ⟨b, j1, none⟩ u1).setCell ⟨b, j2, none⟩ u2).setCell ⟨b, j3, none⟩ u3).drew.ownsRow (b + 1) 113 1 v n xs :=
  (own_set (own_set (own_set hown (Nat.lt_succ_self b)) (Nat.lt_succ_self b)) (Nat.lt_succ_self b)).drew
theorem colon_below {b : Nat} {w : World}  (u1 u2 u3 : Value) (j1 j2 j3 : Nat) : Below b w (((w.setCell ⟨b, j1, none⟩ u1).setCell ⟨b, j2, none⟩ u2).setCell ⟨b, j3, none⟩ u3).drew :=
  ((((Below.refl b w).setCell (p := ⟨b, j1, none⟩) (Nat.le_refl b) _).setCell (p := ⟨b, j2, none⟩) (Nat.le_refl b) _).setCell (p := ⟨b, j3, none⟩) (Nat.le_refl b) _).drew
theorem colon_end {b : Nat} {t' : ByteArray} {n : Nat} {g' : Int} {e' : Bool} {v : Value} {xs : List Int} {w W : World} (h1 : W.heap[b]? = some (.cells #[.string t', v, .int .i64 g', .bool e'] 112 (0, 0))) (h2 : W.ownsRow (b + 1) 113 1 v n (xs.map (Value.int .u16))) (h3 : Below b w W) :
  RdAt b t' n g' e' W ∧ Below b w W := ⟨⟨v, xs, h1, h2⟩, h3⟩

set_option maxHeartbeats 4000000 in
set_option maxRecDepth 100000 in
theorem step_colonNo (b : Nat) (t : ByteArray) (n : Nat) (g : Int) (w : World) (h : RdAt b t n g false w) (hp : Lib.hasPrefix t.data.toList [58] = true) (hg : 0 ≤ g) :
    Calls Tryz.prog 89 #[.pointer (some ⟨b, 0, none⟩)] w fun e w' => e = .returned (.bool false) ∧ RdAt b t n g false w' ∧ Below b w w' := by
  have H := Lib.hid h
  obtain ⟨v, xs, hrow, -⟩ := h
  have c0 := row_cellAt 0 hrow
  have c2 := row_cellAt 2 hrow
  clear hrow
  simp only [List.getElem?_toArray, List.getElem?_cons_zero, List.getElem?_cons_succ] at c0 c2
  go_enter Tryz.func89, Tryz.ntmps89
  go_wp2_with (first | (go_at_call 25; refine (Tryz.strings_HasPrefix _ _ _).mono ?_; rintro e w' ⟨rfl, hww⟩; rw [hww]; clear hww w'))
  go_ret
  exact ⟨rfl, H.out, Below.refl _ _⟩
set_option maxHeartbeats 400000 in
set_option maxRecDepth 100000 in
theorem step_colon (b : Nat) (t : ByteArray) (n : Nat) (g : Int) (w : World) (h : RdAt b t n g false w) (hp : Lib.hasPrefix t.data.toList [58] = true) (hg : ¬ 0 ≤ g) (hn : n ≤ 100) :
    Calls Tryz.prog 89 #[.pointer (some ⟨b, 0, none⟩)] w fun e w' => e = .returned (.bool true) ∧ RdAt b (t.extract 1 t.size) n n (t.extract 1 t.size).toList.isEmpty w' ∧ Below b w w' := by
  obtain ⟨v, xs, hrow, hown⟩ := h
  obtain ⟨A, c, rfl⟩ := own_slice hown
  have c0 := row_cellAt 0 hrow
  have c1 := row_cellAt 1 hrow
  have c2 := row_cellAt 2 hrow
  have c3 := row_cellAt 3 hrow
  have f0 := row_freeAt 0 hrow
  have f2 := row_freeAt 2 hrow
  have f3 := row_freeAt 3 hrow
  have HROW := Lib.hid hrow
  have HOWN := Lib.hid hown
  have h1 : (1 : Int) ≤ (t.size : Int) := len_of hp
  clear hrow hown
  simp only [List.getElem?_toArray, List.getElem?_cons_zero, List.getElem?_cons_succ] at c0 c1 c2 c3
  go_enter Tryz.func89, Tryz.ntmps89
  go_wp2_with (first | (go_at_call 25; refine (Tryz.strings_HasPrefix _ _ _).mono ?_; rintro e w' ⟨rfl, hww⟩; rw [hww]; clear hww w'))
  go_region_with (fail)
  all_goals go_simp
  all_goals go_wp2
  all_goals go_ret
  all_goals exact ⟨rfl, colon_end (v := .slice A n c) (xs := xs) (colon_rowA (t := t) (g := g) HROW.out _ _ _) (colon_own HOWN.out _ _ _ _ _ _) (colon_below _ _ _ _ _ _)⟩
end Go.Proofs.YtakdjflhhaefiaaGreatDoor
