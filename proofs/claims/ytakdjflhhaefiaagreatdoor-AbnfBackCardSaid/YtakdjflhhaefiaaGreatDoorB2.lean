/- abnf: all, with its three functions; scheme, future: at every text. -/
import Derived.Test.YtakdjflhhaefiaaGreatDoorB1
set_option linter.unusedVariables false
set_option linter.unusedSimpArgs false
namespace Go.Proofs.YtakdjflhhaefiaaGreatDoor
open Go.RowKit Go.Proofs.YtakdjflhhaefiaaGreatDoor.PDotsGo Go.Proofs.YtakdjflhhaefiaaGreatDoorW.PrintWords Go.Proofs.YtakdjflhhaefiaaGreatDoorW.PrintLast Go.Proofs.YtakdjflhhaefiaaGreatDoorW.PrintMore

def schR (r : Int) : Bool := alpR r || digR r || (r == 43 || r == 45 || r == 46)
def hexR (r : Int) : Bool := decide (0 ≤ hexV r)
def allB (f : Int → Bool) (s : ByteArray) : Bool := s.data.toList.all (fun b => f (b.toNat : Int))
theorem dig_high (r : Int) (h : 128 ≤ r) : digR r = false := by
  unfold digR; rw [decide_eq_false (show ¬ r ≤ 57 by omega), Bool.and_false]
theorem alp_high (r : Int) (h : 128 ≤ r) : alpR r = false := by
  unfold alpR; rw [decide_eq_false (show ¬ r ≤ 122 by omega), decide_eq_false (show ¬ r ≤ 90 by omega), Bool.and_false, Bool.and_false]; rfl
theorem sch_high (r : Int) (h : 128 ≤ r) : schR r = false := by
  unfold schR; rw [alp_high r h, dig_high r h, beq_eq_false_iff_ne.2 (show r ≠ 43 by omega), beq_eq_false_iff_ne.2 (show r ≠ 45 by omega), beq_eq_false_iff_ne.2 (show r ≠ 46 by omega)]; rfl
theorem hex_high (r : Int) (h : 128 ≤ r) : hexR r = false := by
  unfold hexR hexV
  rw [if_neg (by omega), if_neg (by omega), if_neg (by omega)]; rfl
set_option maxHeartbeats 1000000 in
theorem sch_calls (r : Int) (w : World) : Calls Tryz.prog 121 #[.int .i32 r] w fun e w' => e = .returned (.bool (schR r)) ∧ Below w.heap.size w w' := by
  have ca := Lib.hid (alp_calls r w)
  have cd := Lib.hid (fun w1 => dig_calls r w1)
  have HP : Hid (schR r = (alpR r || digR r || (r == 43 || r == 45 || r == 46))) := Lib.hid rfl
  cases hal : alpR r with
  | true =>
    rw [hal] at ca
    have HF : Hid (schR r = true) := Lib.hid (by rw [HP.out, hal]; rfl)
    clear hal
    go_enter Tryz.func121, Tryz.ntmps121
    go_wp2_with (first | (go_at_call 119; refine ca.out.mono ?_; rintro e w1 ⟨rfl, hb⟩; have HB1 := Lib.hid hb; clear hb))
    go_ret
    exact ⟨by rw [HF.out] <;> rfl, HB1.out⟩
  | false =>
    rw [hal] at ca
    cases hdi : digR r with
    | true =>
      rw [hdi] at cd
      have HF : Hid (schR r = true) := Lib.hid (by rw [HP.out, hal, hdi]; rfl)
      clear hal hdi
      go_enter Tryz.func121, Tryz.ntmps121
      go_wp2_with (first | (go_at_call 122; refine (cd.out _).mono ?_; rintro e w2 ⟨rfl, hb⟩; have HB2 := Lib.hid (HB1.out.trans (hb.mono HB1.out.size)); clear hb) | (go_at_call 119; refine ca.out.mono ?_; rintro e w1 ⟨rfl, hb⟩; have HB1 := Lib.hid hb; clear hb))
      go_ret
      exact ⟨by rw [HF.out] <;> rfl, HB2.out⟩
    | false =>
      rw [hdi] at cd
      have HG : Hid (schR r = (r == 43 || r == 45 || r == 46)) := Lib.hid (by rw [HP.out, hal, hdi]; rfl)
      clear hal hdi HP
      go_enter Tryz.func121, Tryz.ntmps121
      go_wp2_with (first | (go_at_call 122; refine (cd.out _).mono ?_; rintro e w2 ⟨rfl, hb⟩; have HB2 := Lib.hid (HB1.out.trans (hb.mono HB1.out.size)); clear hb) | (go_at_call 119; refine ca.out.mono ?_; rintro e w1 ⟨rfl, hb⟩; have HB1 := Lib.hid hb; clear hb))
      all_goals go_ret
      all_goals exact ⟨by rw [HG.out]; first | rfl | (simp [*]; done), HB2.out⟩
theorem hx_calls (r : Int) (w : World) : Calls Tryz.prog 179 #[.int .i32 r] w fun e w' => e = .returned (.bool (hexR r)) ∧ Below w.heap.size w w' := by
  have ca := Lib.hid (hex_calls r w)
  have HP : Hid (hexR r = decide (0 ≤ hexV r)) := Lib.hid rfl
  generalize hexV r = v at ca HP
  go_enter Tryz.func179, Tryz.ntmps179
  go_wp2_with (first | (go_at_call 150; refine ca.out.mono ?_; rintro e w1 ⟨rfl, hb⟩; have HB1 := Lib.hid hb; clear hb))
  go_ret
  exact ⟨by rw [HP.out] <;> rfl, HB1.out⟩
set_option maxHeartbeats 2000000 in
theorem all_dig (s : ByteArray) (w : World) :
    Calls Tryz.prog 120 #[.string s, .func (.func 122) #[] #[]] w fun e w' => e = .returned (.bool (allB digR s)) ∧ Below w.heap.size w w' := by
  go_enter Tryz.func120, Tryz.ntmps120
  go_wp2
  go_loopw [] (fun wr => ∃ pos : Nat, wr.heap[w.heap.size]? = some (.stringIter s pos) ∧ Hid (Below w.heap.size w wr) ∧ Hid (upTo (fun b => digR (b.toNat : Int)) s pos)) (fun wr => s.size - wr.iterPos w.heap.size)
  case atStart =>
    exact ⟨0, World.iter_heap w s 0, Lib.hid ((Below.refl _ w).alloc (Nat.le_refl _) _), Lib.hid (fun i hi h => by omega)⟩
  case round =>
    obtain ⟨pos, hit, HB, HU⟩ := hrel
    have hlt2 : w.heap.size < wr.heap.size := (Array.getElem?_eq_some_iff.1 hit).1
    by_cases hp : pos < s.size
    · by_cases ha : (s[pos]'hp).toNat < 128
      · have hnx : ∀ ty, (Instr.next (.pointer (some ⟨w.heap.size, 0, none⟩)) true ty).run Tryz.prog wr = _ := fun ty => Lib.run_next_ascii_at wr w.heap.size s pos ty hit hp ha
        have hit2 := Lib.iterAt_heap wr w.heap.size s pos (pos + 1) hit
        have HB2 := Lib.hid (Lib.below_iterAt HB.out (k := w.heap.size) (by omega) s (pos + 1))
        have c1 := Lib.hid (dig_calls ((s[pos]'hp).toNat : Int) (wr.iterAt w.heap.size s (pos + 1)))
        cases hd : digR ((s[pos]'hp).toNat : Int) with
        | true =>
          rw [hd] at c1
          have HD : Hid (digR ((s[pos]'hp).toNat : Int) = true) := Lib.hid hd
          clear hd
          go_wp2_with (first | (go_at_call 122; refine c1.out.mono ?_; rintro e w3 ⟨rfl, hb⟩; have HB3 := Lib.hid hb; clear hb))
          have hit4 : w3.heap[w.heap.size]? = some (.stringIter s (pos + 1)) := by rw [HB3.out.block _ (by rw [Lib.iterAt_size]; exact hlt2)]; exact hit2
          go_roundw
          case rel => exact ⟨pos + 1, hit4, Lib.hid (HB2.out.trans (HB3.out.mono HB2.out.size)), Lib.hid (upTo_step HU.out hp HD.out)⟩
          case measure =>
            simp only [World.iterPos, hit4, hit]
            omega
        | false =>
          rw [hd] at c1
          have HF : Hid (allB digR s = false) := Lib.hid (all_not (p := fun b => digR (b.toNat : Int)) hp hd)
          clear hd
          go_wp2_with (first | (go_at_call 122; refine c1.out.mono ?_; rintro e w3 ⟨rfl, hb⟩; have HB3 := Lib.hid hb; clear hb))
          go_ret
          exact ⟨by rw [HF.out] <;> rfl, HB2.out.trans (HB3.out.mono HB2.out.size)⟩
      · have hnx : ∀ ty, (Instr.next (.pointer (some ⟨w.heap.size, 0, none⟩)) true ty).run Tryz.prog wr = _ := fun ty => Lib.run_next_any_at wr w.heap.size s pos ty hit hp
        have hhigh : 128 ≤ ((Utf8.decode s pos).1 : Int) := by
          have := (decode_high s pos hp (by omega)).1
          omega
        have HB2 := Lib.hid (Lib.below_iterAt HB.out (k := w.heap.size) (by omega) s (pos + (Utf8.decode s pos).2))
        have c1 := Lib.hid (dig_calls ((Utf8.decode s pos).1 : Int) (wr.iterAt w.heap.size s (pos + (Utf8.decode s pos).2)))
        have hdr : digR ((Utf8.decode s pos).1 : Int) = false := dig_high _ hhigh
        rw [hdr] at c1
        have HF : Hid (allB digR s = false) := Lib.hid (all_not (p := fun b => digR (b.toNat : Int)) hp (dig_high _ (by omega)))
        clear hdr hhigh
        go_wp2_with (first | (go_at_call 122; refine c1.out.mono ?_; rintro e w3 ⟨rfl, hb⟩; have HB3 := Lib.hid hb; clear hb))
        go_ret
        exact ⟨by rw [HF.out] <;> rfl, HB2.out.trans (HB3.out.mono HB2.out.size)⟩
    · have hnx : ∀ ty, (Instr.next (.pointer (some ⟨w.heap.size, 0, none⟩)) true ty).run Tryz.prog wr = _ := fun ty => Lib.run_next_end_at wr w.heap.size s pos ty hit hp
      have HF : Hid (allB digR s = true) := Lib.hid (upTo_all HU.out (by omega))
      go_wp2
      go_ret
      exact ⟨by rw [HF.out] <;> rfl, HB.out⟩
set_option maxHeartbeats 2000000 in
theorem all_sch (s : ByteArray) (w : World) :
    Calls Tryz.prog 120 #[.string s, .func (.func 121) #[] #[]] w fun e w' => e = .returned (.bool (allB schR s)) ∧ Below w.heap.size w w' := by
  go_enter Tryz.func120, Tryz.ntmps120
  go_wp2
  go_loopw [] (fun wr => ∃ pos : Nat, wr.heap[w.heap.size]? = some (.stringIter s pos) ∧ Hid (Below w.heap.size w wr) ∧ Hid (upTo (fun b => schR (b.toNat : Int)) s pos)) (fun wr => s.size - wr.iterPos w.heap.size)
  case atStart =>
    exact ⟨0, World.iter_heap w s 0, Lib.hid ((Below.refl _ w).alloc (Nat.le_refl _) _), Lib.hid (fun i hi h => by omega)⟩
  case round =>
    obtain ⟨pos, hit, HB, HU⟩ := hrel
    have hlt2 : w.heap.size < wr.heap.size := (Array.getElem?_eq_some_iff.1 hit).1
    by_cases hp : pos < s.size
    · by_cases ha : (s[pos]'hp).toNat < 128
      · have hnx : ∀ ty, (Instr.next (.pointer (some ⟨w.heap.size, 0, none⟩)) true ty).run Tryz.prog wr = _ := fun ty => Lib.run_next_ascii_at wr w.heap.size s pos ty hit hp ha
        have hit2 := Lib.iterAt_heap wr w.heap.size s pos (pos + 1) hit
        have HB2 := Lib.hid (Lib.below_iterAt HB.out (k := w.heap.size) (by omega) s (pos + 1))
        have c1 := Lib.hid (sch_calls ((s[pos]'hp).toNat : Int) (wr.iterAt w.heap.size s (pos + 1)))
        cases hd : schR ((s[pos]'hp).toNat : Int) with
        | true =>
          rw [hd] at c1
          have HD : Hid (schR ((s[pos]'hp).toNat : Int) = true) := Lib.hid hd
          clear hd
          go_wp2_with (first | (go_at_call 121; refine c1.out.mono ?_; rintro e w3 ⟨rfl, hb⟩; have HB3 := Lib.hid hb; clear hb))
          have hit4 : w3.heap[w.heap.size]? = some (.stringIter s (pos + 1)) := by rw [HB3.out.block _ (by rw [Lib.iterAt_size]; exact hlt2)]; exact hit2
          go_roundw
          case rel => exact ⟨pos + 1, hit4, Lib.hid (HB2.out.trans (HB3.out.mono HB2.out.size)), Lib.hid (upTo_step HU.out hp HD.out)⟩
          case measure =>
            simp only [World.iterPos, hit4, hit]
            omega
        | false =>
          rw [hd] at c1
          have HF : Hid (allB schR s = false) := Lib.hid (all_not (p := fun b => schR (b.toNat : Int)) hp hd)
          clear hd
          go_wp2_with (first | (go_at_call 121; refine c1.out.mono ?_; rintro e w3 ⟨rfl, hb⟩; have HB3 := Lib.hid hb; clear hb))
          go_ret
          exact ⟨by rw [HF.out] <;> rfl, HB2.out.trans (HB3.out.mono HB2.out.size)⟩
      · have hnx : ∀ ty, (Instr.next (.pointer (some ⟨w.heap.size, 0, none⟩)) true ty).run Tryz.prog wr = _ := fun ty => Lib.run_next_any_at wr w.heap.size s pos ty hit hp
        have hhigh : 128 ≤ ((Utf8.decode s pos).1 : Int) := by
          have := (decode_high s pos hp (by omega)).1
          omega
        have HB2 := Lib.hid (Lib.below_iterAt HB.out (k := w.heap.size) (by omega) s (pos + (Utf8.decode s pos).2))
        have c1 := Lib.hid (sch_calls ((Utf8.decode s pos).1 : Int) (wr.iterAt w.heap.size s (pos + (Utf8.decode s pos).2)))
        have hdr : schR ((Utf8.decode s pos).1 : Int) = false := sch_high _ hhigh
        rw [hdr] at c1
        have HF : Hid (allB schR s = false) := Lib.hid (all_not (p := fun b => schR (b.toNat : Int)) hp (sch_high _ (by omega)))
        clear hdr hhigh
        go_wp2_with (first | (go_at_call 121; refine c1.out.mono ?_; rintro e w3 ⟨rfl, hb⟩; have HB3 := Lib.hid hb; clear hb))
        go_ret
        exact ⟨by rw [HF.out] <;> rfl, HB2.out.trans (HB3.out.mono HB2.out.size)⟩
    · have hnx : ∀ ty, (Instr.next (.pointer (some ⟨w.heap.size, 0, none⟩)) true ty).run Tryz.prog wr = _ := fun ty => Lib.run_next_end_at wr w.heap.size s pos ty hit hp
      have HF : Hid (allB schR s = true) := Lib.hid (upTo_all HU.out (by omega))
      go_wp2
      go_ret
      exact ⟨by rw [HF.out] <;> rfl, HB.out⟩
set_option maxHeartbeats 2000000 in
theorem all_hex (s : ByteArray) (w : World) :
    Calls Tryz.prog 120 #[.string s, .func (.func 179) #[] #[]] w fun e w' => e = .returned (.bool (allB hexR s)) ∧ Below w.heap.size w w' := by
  go_enter Tryz.func120, Tryz.ntmps120
  go_wp2
  go_loopw [] (fun wr => ∃ pos : Nat, wr.heap[w.heap.size]? = some (.stringIter s pos) ∧ Hid (Below w.heap.size w wr) ∧ Hid (upTo (fun b => hexR (b.toNat : Int)) s pos)) (fun wr => s.size - wr.iterPos w.heap.size)
  case atStart =>
    exact ⟨0, World.iter_heap w s 0, Lib.hid ((Below.refl _ w).alloc (Nat.le_refl _) _), Lib.hid (fun i hi h => by omega)⟩
  case round =>
    obtain ⟨pos, hit, HB, HU⟩ := hrel
    have hlt2 : w.heap.size < wr.heap.size := (Array.getElem?_eq_some_iff.1 hit).1
    by_cases hp : pos < s.size
    · by_cases ha : (s[pos]'hp).toNat < 128
      · have hnx : ∀ ty, (Instr.next (.pointer (some ⟨w.heap.size, 0, none⟩)) true ty).run Tryz.prog wr = _ := fun ty => Lib.run_next_ascii_at wr w.heap.size s pos ty hit hp ha
        have hit2 := Lib.iterAt_heap wr w.heap.size s pos (pos + 1) hit
        have HB2 := Lib.hid (Lib.below_iterAt HB.out (k := w.heap.size) (by omega) s (pos + 1))
        have c1 := Lib.hid (hx_calls ((s[pos]'hp).toNat : Int) (wr.iterAt w.heap.size s (pos + 1)))
        cases hd : hexR ((s[pos]'hp).toNat : Int) with
        | true =>
          rw [hd] at c1
          have HD : Hid (hexR ((s[pos]'hp).toNat : Int) = true) := Lib.hid hd
          clear hd
          go_wp2_with (first | (go_at_call 179; refine c1.out.mono ?_; rintro e w3 ⟨rfl, hb⟩; have HB3 := Lib.hid hb; clear hb))
          have hit4 : w3.heap[w.heap.size]? = some (.stringIter s (pos + 1)) := by rw [HB3.out.block _ (by rw [Lib.iterAt_size]; exact hlt2)]; exact hit2
          go_roundw
          case rel => exact ⟨pos + 1, hit4, Lib.hid (HB2.out.trans (HB3.out.mono HB2.out.size)), Lib.hid (upTo_step HU.out hp HD.out)⟩
          case measure =>
            simp only [World.iterPos, hit4, hit]
            omega
        | false =>
          rw [hd] at c1
          have HF : Hid (allB hexR s = false) := Lib.hid (all_not (p := fun b => hexR (b.toNat : Int)) hp hd)
          clear hd
          go_wp2_with (first | (go_at_call 179; refine c1.out.mono ?_; rintro e w3 ⟨rfl, hb⟩; have HB3 := Lib.hid hb; clear hb))
          go_ret
          exact ⟨by rw [HF.out] <;> rfl, HB2.out.trans (HB3.out.mono HB2.out.size)⟩
      · have hnx : ∀ ty, (Instr.next (.pointer (some ⟨w.heap.size, 0, none⟩)) true ty).run Tryz.prog wr = _ := fun ty => Lib.run_next_any_at wr w.heap.size s pos ty hit hp
        have hhigh : 128 ≤ ((Utf8.decode s pos).1 : Int) := by
          have := (decode_high s pos hp (by omega)).1
          omega
        have HB2 := Lib.hid (Lib.below_iterAt HB.out (k := w.heap.size) (by omega) s (pos + (Utf8.decode s pos).2))
        have c1 := Lib.hid (hx_calls ((Utf8.decode s pos).1 : Int) (wr.iterAt w.heap.size s (pos + (Utf8.decode s pos).2)))
        have hdr : hexR ((Utf8.decode s pos).1 : Int) = false := hex_high _ hhigh
        rw [hdr] at c1
        have HF : Hid (allB hexR s = false) := Lib.hid (all_not (p := fun b => hexR (b.toNat : Int)) hp (hex_high _ (by omega)))
        clear hdr hhigh
        go_wp2_with (first | (go_at_call 179; refine c1.out.mono ?_; rintro e w3 ⟨rfl, hb⟩; have HB3 := Lib.hid hb; clear hb))
        go_ret
        exact ⟨by rw [HF.out] <;> rfl, HB2.out.trans (HB3.out.mono HB2.out.size)⟩
    · have hnx : ∀ ty, (Instr.next (.pointer (some ⟨w.heap.size, 0, none⟩)) true ty).run Tryz.prog wr = _ := fun ty => Lib.run_next_end_at wr w.heap.size s pos ty hit hp
      have HF : Hid (allB hexR s = true) := Lib.hid (upTo_all HU.out (by omega))
      go_wp2
      go_ret
      exact ⟨by rw [HF.out] <;> rfl, HB.out⟩
end Go.Proofs.YtakdjflhhaefiaaGreatDoor
