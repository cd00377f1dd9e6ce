/- dots.Remove, at every text. -/
import Derived.Test.YtakdjflhhaefiaaGreatDoorChecked
import Derived.WalkKit
import Derived.Lib.OthersKept
import Derived.Lib.Hide
import Derived.Laws.IdiomStrings
import Derived.IntWalk
import Derived.Below
import Derived.Deep.RegionWith
import Derived.Deep.RegionHeld3
import Derived.Laws.Strings
import Derived.Laws.NewBlocks
import Derived.Test.YtakdjflhhaefiaaGreatDoorD1
import Derived.Test.YtakdjflhhaefiaaGreatDoorSH1
set_option linter.unusedVariables false
set_option linter.unusedSimpArgs false
namespace Go.Proofs.YtakdjflhhaefiaaGreatDoor
open Go.RowKit

/-- One step back, as the program takes it. -/
def backB (o : ByteArray) : ByteArray := o.extract 0 (max 0 (Lib.lastIndexByte o 47)).toNat

set_option maxHeartbeats 2000000 in
set_option maxRecDepth 100000 in
theorem back_any (b : Nat) (o : ByteArray) (w : World) (ho : o.size < 1073741824) (hc : w.cell? ⟨b, 0, none⟩ = some (.string o)) (hf : w.frozen? ⟨b, 0, none⟩ = false) :
    Calls Tryz.prog 74 #[.pointer (some ⟨b, 0, none⟩)] w fun e w' => (∃ v, e = .returned v) ∧ w'.cell? ⟨b, 0, none⟩ = some (.string (backB o)) ∧ w'.frozen? ⟨b, 0, none⟩ = false ∧ ∀ base, base ≤ b → Below base w w' := by
  have c1 := Lib.hid (fun w => Tryz.strings_LastIndexByte o 47 (by omega) w)
  have HZ : Hid (backB o = o.extract 0 (max 0 (Lib.lastIndexByte o 47)).toNat) := Lib.hid rfl
  have h1 : Lib.lastIndexByte o 47 ≤ o.size := by
    rcases Lib.lastIndexByte_spec o 47 with ⟨hz, -⟩ | ⟨i, hi, hz, -, -⟩ <;> rw [hz] <;> omega
  generalize Lib.lastIndexByte o 47 = z at c1 HZ h1
  have h2 : 0 ≤ max 0 z := by omega
  have h3 : max 0 z ≤ (o.size : Int) := by omega
  clear h1 ho
  go_enter Tryz.func74, Tryz.ntmps74
  go_wp2
  go_region_with (first | (go_at_call 75; refine (c1.out _).mono ?_; rintro e w' ⟨rfl, rfl⟩))
  all_goals go_end0
  all_goals rw [HZ.out]
  all_goals exact ⟨⟨_, rfl⟩, World.cell?_setCell_same _ _ _ hc, by show (w.setCell _ _).frozen? _ = false; rw [World.frozen?_setCell]; exact hf, fun base hb => ((Below.refl base w).setCell hb _).drew⟩

def lenV : Value → Nat
  | .string s => s.size
  | _ => 0
theorem size_len (b : ByteArray) : b.size = b.data.toList.length := Array.length_toList.symm
theorem ext_list {a b : ByteArray} (h : a.data.toList = b.data.toList) : a = b := ByteArray.ext (Array.ext' h)
theorem drop_list (p : ByteArray) (k : Nat) : (p.extract k p.size).data.toList = p.data.toList.drop k := by
  rw [ByteArray.data_extract, Array.toList_extract, List.extract_eq_take_drop, List.take_of_length_le]
  rw [List.length_drop, size_len]
  exact Nat.le_refl _
theorem take_list (p : ByteArray) (k : Nat) : (p.extract 0 k).data.toList = p.data.toList.take k := by
  rw [ByteArray.data_extract, Array.toList_extract, List.extract_eq_take_drop]
  simp
theorem append_list (a b : ByteArray) : (a ++ b).data.toList = a.data.toList ++ b.data.toList := by simp
theorem byte_at (s : ByteArray) {j : Nat} (h : j < s.size) : s.data[j]! = s.data.toList[j]'(by rw [← size_len]; exact h) := by
  have h' : j < s.data.size := h
  rw [getElem!_pos s.data j h']
  rfl
theorem ne_of_beq_false {a b : List UInt8} (h : (a == b) = false) : a ≠ b := fun e => by rw [e] at h; simp at h
/-- The step back, by lists. -/
theorem backB_list (o : ByteArray) : (backB o).data.toList = backL o.data.toList := by
  unfold backB
  rw [take_list]
  rcases Lib.lastIndexByte_spec o 47 with ⟨hz, hn⟩ | ⟨i, hi, hz, hc, hn⟩
  · rw [hz, backL_none]
    · rfl
    · intro hm
      obtain ⟨j, hj, he⟩ := List.getElem_of_mem hm
      have hj' : j < o.size := by rw [size_len]; exact hj
      refine hn j hj' ?_
      rw [byte_at o hj', he]; rfl
  · have hi' : i < o.data.toList.length := by rw [← size_len]; exact hi
    have e : o.data.toList = o.data.toList.take i ++ 47 :: o.data.toList.drop (i + 1) := by
      have hb : o.data.toList[i] = 47 := by
        rw [byte_at o hi] at hc
        exact UInt8.toNat_inj.1 (by have : ((47 : UInt8).toNat : Int) = 47 := rfl; omega)
      conv => lhs; rw [← List.take_append_drop i o.data.toList, List.drop_eq_getElem_cons hi', hb]
    have hno : (47 : UInt8) ∉ o.data.toList.drop (i + 1) := by
      intro hm
      obtain ⟨j, hj, he⟩ := List.getElem_of_mem hm
      rw [List.getElem_drop] at he
      have hj' : i + 1 + j < o.size := by rw [List.length_drop, ← size_len] at hj; omega
      refine hn (i + 1 + j) (by omega) hj' ?_
      rw [byte_at o hj', he]; rfl
    rw [hz]
    have e2 : (max 0 (i : Int)).toNat = i := by omega
    rw [e2]
    conv => rhs; rw [e]
    rw [backL_slash _ _ hno]

structure RmW (s : ByteArray) (w wr : World) (o p : ByteArray) : Prop where
  same : rm o.data.toList p.data.toList = remL s.data.toList
  size : o.size + p.size ≤ s.size
  below : Below w.heap.size w wr
theorem RmW.step {s o p o' p' : ByteArray} {w wr wr' : World} (h : RmW s w wr o p) (hp : p.data.toList ≠ []) (e1 : o'.data.toList = (stepL o.data.toList p.data.toList).1) (e2 : p'.data.toList = (stepL o.data.toList p.data.toList).2) (hb : Below w.heap.size wr wr') : RmW s w wr' o' p' ∧ p'.size < p.size := by
  have h1 := step_le o.data.toList p.data.toList
  have h2 := step_lt o.data.toList hp
  have h3 := h.size
  rw [← e1, ← e2, ← size_len, ← size_len, ← size_len, ← size_len] at h1
  rw [← e2, ← size_len, ← size_len] at h2
  refine ⟨⟨?_, by omega, h.below.trans hb⟩, h2⟩
  rw [e1, e2, ← rm_step _ hp]; exact h.same

/-! The rounds, test by test. -/
section
variable {o L : List UInt8}
theorem stp1 (ha : Lib.hasPrefix L [46, 46, 47] = true) : stepL o L = (o, L.drop 3) := by unfold stepL; rw [if_pos ha]
theorem stp2 (ha : Lib.hasPrefix L [46, 46, 47] = false) (hb : Lib.hasPrefix L [46, 47] = true) : stepL o L = (o, L.drop 2) := by unfold stepL; rw [ha, hb]; rfl
theorem stp3 (ha : Lib.hasPrefix L [46, 46, 47] = false) (hb : Lib.hasPrefix L [46, 47] = false) (hc : Lib.hasPrefix L [47, 46, 47] = true) : stepL o L = (o, L.drop 2) := by unfold stepL; rw [ha, hb, hc]; rfl
theorem stp4 (hd : L = [47, 46]) : stepL o L = (o, [47]) := by rw [hd, step_dotE]
theorem stp5 (ha : Lib.hasPrefix L [46, 46, 47] = false) (hb : Lib.hasPrefix L [46, 47] = false) (hc : Lib.hasPrefix L [47, 46, 47] = false) (hd : L ≠ [47, 46]) (he : Lib.hasPrefix L [47, 46, 46, 47] = true) : stepL o L = (backL o, L.drop 3) := by unfold stepL; rw [ha, hb, hc, he, if_neg hd]; rfl
theorem stp6 (hd : L = [47, 46, 46]) : stepL o L = (backL o, [47]) := by rw [hd, step_dotsE]
theorem stp7 (hd : L = [46] ∨ L = [46, 46]) : stepL o L = (o, []) := by rcases hd with h | h <;> rw [h]; exact step_relDotE o; exact step_relDotsE o
theorem stp8 (ha : Lib.hasPrefix L [46, 46, 47] = false) (hb : Lib.hasPrefix L [46, 47] = false) (hc : Lib.hasPrefix L [47, 46, 47] = false) (hd : L ≠ [47, 46]) (he : Lib.hasPrefix L [47, 46, 46, 47] = false) (hf : L ≠ [47, 46, 46]) (hg : L ≠ [46]) (hh : L ≠ [46, 46]) : stepL o L = (o ++ L.take (headN L), L.drop (headN L)) := by unfold stepL; simp [ha, hb, hc, hd, he, hf, hg, hh]
end
theorem indexByte_end : ∀ l : List UInt8, Lib.indexByte (l ++ [47]) 47 = ((l.takeWhile (fun b => b ≠ 47)).length : Nat)
  | [] => rfl
  | b :: l => by
    have ih := indexByte_end l
    rw [List.cons_append, Lib.indexByte]
    by_cases hb : b = 47
    · subst hb; rfl
    · rw [if_neg (by simpa using hb), ih, List.takeWhile_cons_of_pos (by simpa using hb)]
      rw [if_neg (by intro h; have := eq_of_beq h; omega)]
      rw [List.length_cons]; omega
theorem len_of {p : ByteArray} {q : List UInt8} (h : Lib.hasPrefix p.data.toList q = true) : (q.length : Int) ≤ (p.size : Int) := by
  have := hp_len h
  rw [size_len]; omega

set_option maxHeartbeats 4000000 in
set_option maxRecDepth 100000 in
theorem remove_any (s : ByteArray) (w : World) (hs : s.size < 1073741824) :
    Calls Tryz.prog 23 #[.string s] w fun e w' => e = .returned (.string ⟨(remL s.data.toList).toArray⟩) ∧ Below w.heap.size w w' := by
  go_enter Tryz.func23, Tryz.ntmps23
  go_wp2
  go_loopw [0] (fun v0 wr => ∃ o p : ByteArray, v0 = .string p ∧ wr.cell? ⟨w.heap.size, 0, none⟩ = some (.string o) ∧ wr.frozen? ⟨w.heap.size, 0, none⟩ = false ∧ Hid (RmW s w wr o p)) (fun v0 _ => lenV v0)
  case atStart =>
    refine ⟨⟨#[]⟩, s, rfl, World.cell?_alloc_at _ _ _ _ rfl, World.frozen?_alloc_at _ _ _ _ rfl, Lib.hid ⟨rfl, (by show 0 + s.size ≤ s.size; omega), (Below.refl _ _).alloc (Nat.le_refl _) _⟩⟩
  case round =>
    obtain ⟨o, p, rfl, hc, hf, HR⟩ := hrel
    have hos : o.size < 1073741824 := by have := HR.out.size; omega
    have hps : p.size < 1073741824 := by have := HR.out.size; omega
    have HPL : Hid (p.toList = p.data.toList) := Lib.hid (ByteArray.toList_eq p)
    have HSE : Hid (∀ b, p.toList.isEmpty = b → p.data.toList.isEmpty = b) := Lib.hid (fun b h => by rw [← h, ByteArray.toList_eq])
    cases hem : p.toList.isEmpty with
    | true =>
      have HE : Hid (p.data.toList = []) := Lib.hid (List.isEmpty_iff.1 (HSE.out _ hem))
      have hem' : (!p.toList.isEmpty) = false := by rw [hem]; rfl
      clear hem
      go_wp2
      go_ret
      refine ⟨?_, HR.out.below⟩
      have := HR.out.same
      rw [HE.out, rm_nil] at this
      rw [← this]
      rfl
    | false =>
      have HN : Hid (p.data.toList ≠ []) := Lib.hid (fun h => by have := HSE.out _ hem; rw [h] at this; cases this)
      have hem' : (!p.toList.isEmpty) = true := by rw [hem]; rfl
      clear hem
      have HST : Hid (∀ o' p' wr', o'.data.toList = (stepL o.data.toList p.data.toList).1 → p'.data.toList = (stepL o.data.toList p.data.toList).2 → Below w.heap.size wr wr' → RmW s w wr' o' p' ∧ p'.size < p.size) := Lib.hid (fun o' p' wr' => HR.out.step HN.out)
      cases ha : Lib.hasPrefix p.data.toList [46, 46, 47] with
      | true =>
        have hl : (3 : Int) ≤ (p.size : Int) := len_of ha
        go_wp2_with (first | (go_at_call 74; refine (back_any _ o _ hos hc hf).mono ?_; rintro e w5 ⟨⟨v, rfl⟩, hc5, hf5, hb5⟩; have HB5 := Lib.hid (hb5 _ (Nat.le_refl _)); clear hb5) | (go_at_call 25; refine (Tryz.strings_HasPrefix _ _ _).mono ?_; rintro e w' ⟨rfl, hww⟩; rw [hww]; clear hww w'))
        go_roundw
        case rel => exact ⟨o, _, rfl, hc, hf, Lib.hid (HST.out o (p.extract 3 p.size) wr (by rw [stp1 ha]) (by rw [stp1 ha]; exact drop_list p 3) (Below.refl _ _)).1⟩
        case measure => exact (HST.out o (p.extract 3 p.size) wr (by rw [stp1 ha]) (by rw [stp1 ha]; exact drop_list p 3) (Below.refl _ _)).2
      | false =>
        cases hb : Lib.hasPrefix p.data.toList [46, 47] with
        | true =>
          have hl : (2 : Int) ≤ (p.size : Int) := len_of hb
          go_wp2_with (first | (go_at_call 74; refine (back_any _ o _ hos hc hf).mono ?_; rintro e w5 ⟨⟨v, rfl⟩, hc5, hf5, hb5⟩; have HB5 := Lib.hid (hb5 _ (Nat.le_refl _)); clear hb5) | (go_at_call 25; refine (Tryz.strings_HasPrefix _ _ _).mono ?_; rintro e w' ⟨rfl, hww⟩; rw [hww]; clear hww w'))
          go_roundw
          case rel => exact ⟨o, _, rfl, hc, hf, Lib.hid (HST.out o (p.extract 2 p.size) wr (by rw [stp2 ha hb]) (by rw [stp2 ha hb]; exact drop_list p 2) (Below.refl _ _)).1⟩
          case measure => exact (HST.out o (p.extract 2 p.size) wr (by rw [stp2 ha hb]) (by rw [stp2 ha hb]; exact drop_list p 2) (Below.refl _ _)).2
        | false =>
          cases hc1 : Lib.hasPrefix p.data.toList [47, 46, 47] with
          | true =>
            have hl : (2 : Int) ≤ (p.size : Int) := by have := len_of hc1; simp at this; omega
            go_wp2_with (first | (go_at_call 74; refine (back_any _ o _ hos hc hf).mono ?_; rintro e w5 ⟨⟨v, rfl⟩, hc5, hf5, hb5⟩; have HB5 := Lib.hid (hb5 _ (Nat.le_refl _)); clear hb5) | (go_at_call 25; refine (Tryz.strings_HasPrefix _ _ _).mono ?_; rintro e w' ⟨rfl, hww⟩; rw [hww]; clear hww w'))
            go_roundw
            case rel => exact ⟨o, _, rfl, hc, hf, Lib.hid (HST.out o (p.extract 2 p.size) wr (by rw [stp3 ha hb hc1]) (by rw [stp3 ha hb hc1]; exact drop_list p 2) (Below.refl _ _)).1⟩
            case measure => exact (HST.out o (p.extract 2 p.size) wr (by rw [stp3 ha hb hc1]) (by rw [stp3 ha hb hc1]; exact drop_list p 2) (Below.refl _ _)).2
          | false =>
            cases hd : (p.toList == [47, 46]) with
            | true =>
              have HD := Lib.hid (HPL.out.symm.trans (eq_of_beq hd))
              go_wp2_with (first | (go_at_call 74; refine (back_any _ o _ hos hc hf).mono ?_; rintro e w5 ⟨⟨v, rfl⟩, hc5, hf5, hb5⟩; have HB5 := Lib.hid (hb5 _ (Nat.le_refl _)); clear hb5) | (go_at_call 25; refine (Tryz.strings_HasPrefix _ _ _).mono ?_; rintro e w' ⟨rfl, hww⟩; rw [hww]; clear hww w'))
              go_roundw
              case rel => exact ⟨o, _, rfl, hc, hf, Lib.hid (HST.out o ⟨#[47]⟩ wr (by rw [stp4 HD.out]) (by rw [stp4 HD.out]) (Below.refl _ _)).1⟩
              case measure => exact (HST.out o ⟨#[47]⟩ wr (by rw [stp4 HD.out]) (by rw [stp4 HD.out]) (Below.refl _ _)).2
            | false =>
              cases he : Lib.hasPrefix p.data.toList [47, 46, 46, 47] with
              | true =>
                have hl : (3 : Int) ≤ (p.size : Int) := by have := len_of he; simp at this; omega
                have HD : Hid (p.data.toList ≠ [47, 46]) := Lib.hid (fun h => by have := ne_of_beq_false hd; rw [HPL.out] at this; exact this h)
                go_wp2_with (first | (go_at_call 74; refine (back_any _ o _ hos hc hf).mono ?_; rintro e w5 ⟨⟨v, rfl⟩, hc5, hf5, hb5⟩; have HB5 := Lib.hid (hb5 _ (Nat.le_refl _)); clear hb5) | (go_at_call 25; refine (Tryz.strings_HasPrefix _ _ _).mono ?_; rintro e w' ⟨rfl, hww⟩; rw [hww]; clear hww w'))
                go_roundw
                case rel => exact ⟨(backB o), _, rfl, hc5, hf5, Lib.hid (HST.out (backB o) (p.extract 3 p.size) w5 (by rw [stp5 ha hb hc1 HD.out he]; exact backB_list o) (by rw [stp5 ha hb hc1 HD.out he]; exact drop_list p 3) HB5.out).1⟩
                case measure => exact (HST.out (backB o) (p.extract 3 p.size) w5 (by rw [stp5 ha hb hc1 HD.out he]; exact backB_list o) (by rw [stp5 ha hb hc1 HD.out he]; exact drop_list p 3) HB5.out).2
              | false =>
                cases hf1 : (p.toList == [47, 46, 46]) with
                | true =>
                  have HD := Lib.hid (HPL.out.symm.trans (eq_of_beq hf1))
                  go_wp2_with (first | (go_at_call 74; refine (back_any _ o _ hos hc hf).mono ?_; rintro e w5 ⟨⟨v, rfl⟩, hc5, hf5, hb5⟩; have HB5 := Lib.hid (hb5 _ (Nat.le_refl _)); clear hb5) | (go_at_call 25; refine (Tryz.strings_HasPrefix _ _ _).mono ?_; rintro e w' ⟨rfl, hww⟩; rw [hww]; clear hww w'))
                  go_roundw
                  case rel => exact ⟨(backB o), _, rfl, hc5, hf5, Lib.hid (HST.out (backB o) ⟨#[47]⟩ w5 (by rw [stp6 HD.out]; exact backB_list o) (by rw [stp6 HD.out]) HB5.out).1⟩
                  case measure => exact (HST.out (backB o) ⟨#[47]⟩ w5 (by rw [stp6 HD.out]; exact backB_list o) (by rw [stp6 HD.out]) HB5.out).2
                | false =>
                  cases hg : (p.toList == [46]) with
                  | true =>
                    have HD := Lib.hid (HPL.out.symm.trans (eq_of_beq hg))
                    go_wp2_with (first | (go_at_call 74; refine (back_any _ o _ hos hc hf).mono ?_; rintro e w5 ⟨⟨v, rfl⟩, hc5, hf5, hb5⟩; have HB5 := Lib.hid (hb5 _ (Nat.le_refl _)); clear hb5) | (go_at_call 25; refine (Tryz.strings_HasPrefix _ _ _).mono ?_; rintro e w' ⟨rfl, hww⟩; rw [hww]; clear hww w'))
                    go_roundw
                    case rel => exact ⟨o, _, rfl, hc, hf, Lib.hid (HST.out o ⟨#[]⟩ wr (by rw [stp7 (.inl HD.out)]) (by rw [stp7 (.inl HD.out)]) (Below.refl _ _)).1⟩
                    case measure => exact (HST.out o ⟨#[]⟩ wr (by rw [stp7 (.inl HD.out)]) (by rw [stp7 (.inl HD.out)]) (Below.refl _ _)).2
                  | false =>
                    cases hh : (p.toList == [46, 46]) with
                    | true =>
                      have HD := Lib.hid (HPL.out.symm.trans (eq_of_beq hh))
                      go_wp2_with (first | (go_at_call 74; refine (back_any _ o _ hos hc hf).mono ?_; rintro e w5 ⟨⟨v, rfl⟩, hc5, hf5, hb5⟩; have HB5 := Lib.hid (hb5 _ (Nat.le_refl _)); clear hb5) | (go_at_call 25; refine (Tryz.strings_HasPrefix _ _ _).mono ?_; rintro e w' ⟨rfl, hww⟩; rw [hww]; clear hww w'))
                      go_roundw
                      case rel => exact ⟨o, _, rfl, hc, hf, Lib.hid (HST.out o ⟨#[]⟩ wr (by rw [stp7 (.inr HD.out)]) (by rw [stp7 (.inr HD.out)]) (Below.refl _ _)).1⟩
                      case measure => exact (HST.out o ⟨#[]⟩ wr (by rw [stp7 (.inr HD.out)]) (by rw [stp7 (.inr HD.out)]) (Below.refl _ _)).2
                    | false =>
                      have H8 : Hid (stepL o.data.toList p.data.toList = (o.data.toList ++ p.data.toList.take (headN p.data.toList), p.data.toList.drop (headN p.data.toList))) := Lib.hid (stp8 ha hb hc1 (fun h => by have := ne_of_beq_false hd; rw [HPL.out] at this; exact this h) he (fun h => by have := ne_of_beq_false hf1; rw [HPL.out] at this; exact this h) (fun h => by have := ne_of_beq_false hg; rw [HPL.out] at this; exact this h) (fun h => by have := ne_of_beq_false hh; rw [HPL.out] at this; exact this h))
                      obtain ⟨z, hz⟩ : ∃ z : Nat, headN p.data.toList = z + 1 := ⟨_, rfl⟩
                      have hzl : (z : Int) + 1 ≤ (p.size : Int) := by
                        have h1 : (p.data.toList.tail.takeWhile (fun b => b ≠ 47)).length ≤ p.data.toList.tail.length := (List.takeWhile_prefix _).length_le
                        have h2 : 0 < p.data.toList.length := List.length_pos_iff.2 HN.out
                        rw [List.length_tail] at h1
                        unfold headN at hz
                        rw [size_len]; omega
                      have h1p : (1 : Int) ≤ (p.size : Int) := by omega
                      have CI : Hid (∀ w, Calls Tryz.prog 59 #[.string (p.extract 1 p.size ++ ⟨#[47]⟩), .int .u8 47] w fun e w' => e = .returned (.int .i64 (z : Int)) ∧ w' = w) := Lib.hid (fun w => by
                        have := Tryz.strings_IndexByte (p.extract 1 p.size ++ ⟨#[47]⟩) 47 w
                        rw [append_list, drop_list] at this
                        have e : Lib.indexByte (p.data.toList.drop 1 ++ (⟨#[47]⟩ : ByteArray).data.toList) (47 : Int).toNat.toUInt8 = (z : Int) := by
                          have h3 := indexByte_end (p.data.toList.drop 1)
                          rw [List.drop_one] at h3
                          rw [List.drop_one]
                          refine Eq.trans h3 ?_
                          unfold headN at hz
                          omega
                        rw [e] at this
                        exact this)
                      have HZ := Lib.hid hz
                      clear hz
                      go_wp2_with (first | (go_at_call 59; refine (CI.out _).mono ?_; rintro e w' ⟨rfl, hww⟩; rw [hww]; clear hww w') | (go_at_call 25; refine (Tryz.strings_HasPrefix _ _ _).mono ?_; rintro e w' ⟨rfl, hww⟩; rw [hww]; clear hww w'))
                      have hz0 : (0 : Int) ≤ (z : Int) + 1 := by omega
                      go_region_with (fail)
                      go_simp
                      have HX : Hid (∀ wr', Below w.heap.size wr wr' → RmW s w wr' (o ++ p.extract 0 (z + 1)) (p.extract (z + 1) p.size) ∧ (p.extract (z + 1) p.size).size < p.size) := Lib.hid (fun wr' hb => HST.out _ _ wr' (by rw [H8.out, append_list, take_list, HZ.out]) (by rw [H8.out, drop_list, HZ.out]) hb)
                      go_wp2
                      go_roundw
                      case rel =>
                        refine ⟨o ++ p.extract 0 (z + 1), _, rfl, World.cell?_setCell_same _ _ _ hc, ?_, Lib.hid (HX.out _ ((Below.refl w.heap.size wr).setCell (p := ⟨w.heap.size, 0, none⟩) (Nat.le_refl _) (.string (o ++ p.extract 0 (z + 1)))).drew).1⟩
                        show (wr.setCell _ _).frozen? _ = false
                        rw [World.frozen?_setCell]; exact hf
                      case measure => exact (HX.out wr (Below.refl _ _)).2
end Go.Proofs.YtakdjflhhaefiaaGreatDoor
