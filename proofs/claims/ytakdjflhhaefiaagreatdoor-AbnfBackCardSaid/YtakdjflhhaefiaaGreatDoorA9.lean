/- six.Parse: whether a text is an address. -/
import Derived.Test.YtakdjflhhaefiaaGreatDoorA8
import Derived.Deep.LoopGhost
set_option linter.unusedVariables false
set_option linter.unusedSimpArgs false
namespace Go.Proofs.YtakdjflhhaefiaaGreatDoor
open Go.RowKit Go.Proofs.YtakdjflhhaefiaaGreatDoor.PDotsGo Go.Proofs.YtakdjflhhaefiaaGreatDoorW.PrintWords Go.Proofs.YtakdjflhhaefiaaGreatDoorW.PrintLast Go.Proofs.YtakdjflhhaefiaaGreatDoorW.PrintMore

theorem cut_len1 (s sep : List UInt8) : (Lib.cut s sep).1.length ≤ s.length := by
  unfold Lib.cut
  split
  · exact (List.take_sublist _ _).length_le
  · exact Nat.le_refl _
theorem cut_len2 (s : List UInt8) (c : UInt8) (h : (Lib.cut s [c]).2.2 = true) : (Lib.cut s [c]).2.1.length < s.length := by
  by_cases e : 0 ≤ Lib.index s [c]
  · have h1 := Lib.index_room s [c] e
    unfold Lib.cut
    rw [if_pos e]
    simp only [List.length_drop, List.length_cons, List.length_nil] at h1 ⊢
    omega
  · unfold Lib.cut at h
    rw [if_neg e] at h
    cases h
theorem word_size (t : ByteArray) : (wordB t).size ≤ t.size := by
  rw [size_len, size_len]
  exact cut_len1 t.data.toList [58]
theorem rest_size (t : ByteArray) (h : moreB t = true) : (restB t).size < t.size := by
  rw [size_len, size_len]
  exact cut_len2 t.data.toList 58 h

theorem step_any (b : Nat) (t : ByteArray) (n : Nat) (g : Int) (w : World) (h : RdAt b t n g false w) (hn : n ≤ 100) (ht : t.size ≤ 1000000) (hv : VarsOk w) :
    Calls Tryz.prog 89 #[.pointer (some ⟨b, 0, none⟩)] w fun e w' => e = .returned (.bool (stepR t n g).ok) ∧ RdAt b (stepR t n g).rest (stepR t n g).n (stepR t n g).gap (stepR t n g).ended w' ∧ Below b w w' := by
  have hw : (wordB t).size ≤ 1000000 := Nat.le_trans (word_size t) ht
  unfold stepR
  cases hp : Lib.hasPrefix t.data.toList [58] with
  | true =>
    by_cases hg : 0 ≤ g
    · rw [if_pos rfl, if_pos hg]
      exact step_colonNo b t n g w h hp hg
    · rw [if_pos rfl, if_neg hg]
      exact step_colon b t n g w h hp hg hn
  | false =>
    rw [if_neg (by simp)]
    cases hs : (strictB (wordB t) && !moreB t) with
    | true =>
      rw [if_pos rfl]
      exact step_strict b t n g w h hp hs hn ht hv hw
    | false =>
      rw [if_neg (by simp)]
      exact step_piece b t n g w h hp hs hn ht hv hw

/-- What remains to be read is less, and so on. -/
theorem step_less (t : ByteArray) (n : Nat) (g : Int) (hok : (stepR t n g).ok = true) (he : (stepR t n g).ended = false) : (stepR t n g).rest.size < t.size := by
  unfold stepR at hok he ⊢
  cases hp : Lib.hasPrefix t.data.toList [58] with
  | true =>
    rw [hp, if_pos rfl] at hok he
    rw [if_pos rfl]
    by_cases hg : 0 ≤ g
    · rw [if_pos hg] at hok; cases hok
    · rw [if_neg hg]
      have := len_of hp
      show (t.extract 1 t.size).size < t.size
      rw [ByteArray.size_extract]
      simp at this
      omega
  | false =>
    rw [hp, if_neg (by simp)] at hok he
    rw [if_neg (by simp)]
    cases hs : (strictB (wordB t) && !moreB t) with
    | true => rw [hs, if_pos rfl] at he; cases he
    | false =>
      rw [hs, if_neg (by simp)] at he
      rw [if_neg (by simp)]
      exact rest_size t (by revert he; cases moreB t <;> simp)
theorem step_n (t : ByteArray) (n : Nat) (g : Int) (hn : n ≤ 8) (hg : g < 0 ∨ (0 ≤ g ∧ g ≤ n)) : (stepR t n g).n ≤ n + 2 ∧ ((stepR t n g).gap < 0 ∨ (0 ≤ (stepR t n g).gap ∧ (stepR t n g).gap ≤ (stepR t n g).n)) ∧ (stepR t n g).rest.size ≤ t.size := by
  unfold stepR
  split
  · split
    · exact ⟨by simp, hg, Nat.le_refl _⟩
    · refine ⟨by simp, .inr ⟨by simp, by simp⟩, ?_⟩
      show (t.extract 1 t.size).size ≤ t.size
      rw [ByteArray.size_extract]; omega
  · split
    · exact ⟨by simp, by rcases hg with h | h; exact .inl h; exact .inr ⟨h.1, by show g ≤ ((n + 2 : Nat) : Int); omega⟩, Nat.zero_le _⟩
    · refine ⟨by simp, by rcases hg with h | h; exact .inl h; exact .inr ⟨h.1, by show g ≤ ((n + 1 : Nat) : Int); omega⟩, ?_⟩
      show (restB t).size ≤ t.size
      cases h : moreB t with
      | true => exact Nat.le_of_lt (rest_size t h)
      | false =>
        have : (restB t).size = 0 := by
          unfold moreB at h
          unfold restB
          rw [size_len]
          revert h
          unfold Lib.cut
          split
          · intro h; cases h
          · intro h; rfl
        omega

/-- From some point of the text on. -/
def sixFrom : Nat → ByteArray → Nat → Int → Bool → Bool
  | 0, _, _, _, _ => false
  | k + 1, t, n, g, e => if e then !((decide (g < 0) && !decide (n = 8)) || (!decide (g < 0) && decide (8 ≤ n))) else if (stepR t n g).ok && !decide (8 < (stepR t n g).n) then sixFrom k (stepR t n g).rest (stepR t n g).n (stepR t n g).gap (stepR t n g).ended else false
def sixB (s : ByteArray) : Bool :=
  if Lib.hasPrefix s.data.toList [58] && !Lib.hasPrefix s.data.toList [58, 58] then false
  else sixFrom (s.size + 2) (if Lib.hasPrefix s.data.toList [58] then s.extract 1 s.size else s) 0 (-1) false
end Go.Proofs.YtakdjflhhaefiaaGreatDoor
