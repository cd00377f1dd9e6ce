/- strings.Split at "/", by lists. -/
import Derived.Test.YtakdjflhhaefiaaGreatDoorD2
import Derived.Lib.Split
import Derived.Lib.CountLaws
import Derived.Lib.IndexMore
set_option linter.unusedVariables false
set_option linter.unusedSimpArgs false
namespace Go.Proofs.YtakdjflhhaefiaaGreatDoor
open Go.RowKit

theorem occ_slash {l : List UInt8} {j : Nat} (hj : j < l.length) (h : l[j] = 47) : Lib.occAt l [47] j = true := by
  unfold Lib.occAt
  rw [List.drop_eq_getElem_cons hj, h]
  rfl
theorem index_slash (l : List UInt8) : (Lib.index l [47] = -1 ∧ (47 : UInt8) ∉ l) ∨ ∃ i : Nat, Lib.index l [47] = i ∧ i < l.length ∧ l = l.take i ++ 47 :: l.drop (i + 1) ∧ (47 : UInt8) ∉ l.take i := by
  rcases Lib.index_spec l [47] with ⟨h1, h2⟩ | ⟨i, h1, h2, h3, h4⟩
  · refine .inl ⟨h1, fun hm => ?_⟩
    obtain ⟨j, hj, he⟩ := List.getElem_of_mem hm
    have := h2 j (by omega)
    rw [occ_slash hj he] at this
    cases this
  · have hlt : i < l.length := by
      rcases Lib.occAt_room h3 with h | h
      · simp at h; omega
      · cases h
    have hi : l[i] = 47 := by
      have := Lib.occAt_head (c := 47) (t := []) rfl h3
      rw [List.getElem?_eq_getElem hlt] at this
      exact Option.some.inj this
    refine .inr ⟨i, h1, hlt, ?_, fun hm => ?_⟩
    · conv => lhs; rw [← List.take_append_drop i l, List.drop_eq_getElem_cons hlt, hi]
    · obtain ⟨j, hj, he⟩ := List.getElem_of_mem hm
      rw [List.length_take] at hj
      rw [List.getElem_take] at he
      have := h4 j (by omega)
      rw [occ_slash (by omega) he] at this
      cases this
theorem split_spl : ∀ (n : Nat) (l : List UInt8), l.length ≤ n → Lib.splitK [47] 0 (Lib.count l [47]) l = spl 47 l ∧ Lib.count l [47] + 1 = (spl 47 l).length
  | n, l, hn => by
    rcases index_slash l with ⟨h1, h2⟩ | ⟨i, h1, h2, h3, h4⟩
    · rw [Lib.count_miss h1, spl_one 47 l h2]
      exact ⟨rfl, rfl⟩
    · have hc := Lib.count_hit (sub := [47]) (by simp) h1
      have hd : (l.drop (i + [(47 : UInt8)].length)) = l.drop (i + 1) := rfl
      have hs : spl 47 l = l.take i :: spl 47 (l.drop (i + 1)) := by
        conv => lhs; rw [h3]
        rw [spl_append, spl_one 47 _ h4]
        rfl
      have hlen : (l.drop (i + 1)).length ≤ n - 1 := by rw [List.length_drop]; omega
      cases n with
      | zero => omega
      | succ n =>
        obtain ⟨e1, e2⟩ := split_spl n (l.drop (i + 1)) (by simpa using hlen)
        rw [hd] at hc
        refine ⟨?_, by rw [hc, hs, List.length_cons, ← e2]; omega⟩
        rw [hc, hs, ← e1, Nat.add_comm, Lib.splitK, h1, if_neg (by intro h; have := eq_of_beq h; omega)]
        rfl
def stepsB (s : ByteArray) : List ByteArray := Lib.splitB ⟨#[47]⟩ 0 (Lib.countB s ⟨#[47]⟩) s
theorem steps_list (s : ByteArray) : (stepsB s).map (·.data.toList) = spl 47 s.data.toList := by
  unfold stepsB
  rw [Lib.splitB_data]
  exact (split_spl _ _ (Nat.le_refl _)).1
theorem steps_len (s : ByteArray) : (stepsB s).length = Lib.countB s ⟨#[47]⟩ + 1 := by
  have h := steps_list s
  have h2 := (split_spl _ s.data.toList (Nat.le_refl _)).2
  rw [← h, List.length_map] at h2
  exact h2.symm
theorem steps_le (s : ByteArray) : (stepsB s).length ≤ s.size + 1 := by
  unfold stepsB
  have h2 := (split_spl _ s.data.toList (Nat.le_refl _)).2
  have h3 : ∀ l, (spl 47 l).length ≤ l.length + 1 := by
    intro l
    induction l with
    | nil => simp [spl]
    | cons b l ih =>
      rw [spl_cons]
      split
      · simp; omega
      · cases hs : spl 47 l with
        | nil => exact absurd hs (spl_ne 47 l)
        | cons a t => rw [hs] at ih; simp [glueC] at ih ⊢; omega
  have := steps_list s
  have e := congrArg List.length this
  rw [List.length_map] at e
  have := h3 s.data.toList
  unfold stepsB at e
  rw [e, size_len]; exact this
theorem split_any (s : ByteArray) (m : Int) (w : World) (hs : s.size < 1073741824) (hm : w.cell? ⟨0, 0, none⟩ = some (.int .i64 m)) :
    Calls Tryz.prog 24 #[.string s, .string ⟨#[47]⟩] w fun e w' => e = .returned (.slice (some ⟨w.heap.size, 0, none⟩) (stepsB s).length (stepsB s).length) ∧ w' = w.alloc (.cells ((stepsB s).map Value.string).toArray 9) := by
  rw [steps_len]
  exact Tryz.strings_Split s ⟨#[47]⟩ m w (by omega) hm (by decide)
end Go.Proofs.YtakdjflhhaefiaaGreatDoor
