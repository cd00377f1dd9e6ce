/- four.Strict, (four.Addr).Bytes, six.piece: at every text. -/
import Derived.Test.YtakdjflhhaefiaaGreatDoorAA
import Derived.Laws.OwnMore
set_option linter.unusedVariables false
set_option linter.unusedSimpArgs false
namespace Go.Proofs.YtakdjflhhaefiaaGreatDoor
open Go.RowKit Go.Proofs.YtakdjflhhaefiaaGreatDoor.PDotsGo Go.Proofs.YtakdjflhhaefiaaGreatDoorW.PrintWords Go.Proofs.YtakdjflhhaefiaaGreatDoorW.PrintLast Go.Proofs.YtakdjflhhaefiaaGreatDoorW.PrintMore

theorem part_size (s : ByteArray) : ∀ k, ∀ x ∈ (partsTo s k).1, x.size ≤ s.size
  | 0, x, h => by simp [partsTo] at h
  | k + 1, x, h => by
    unfold partsTo at h
    split at h
    · rcases List.mem_append.1 h with h | h
      · exact part_size s k x h
      · simp at h; subst h
        rw [ByteArray.size_extract]; omega
    · exact part_size s k x h
theorem splitB_size {s x : ByteArray} (h : x ∈ splitB s) : x.size ≤ s.size := by
  unfold splitB at h
  rcases List.mem_append.1 h with h | h
  · exact part_size s _ x h
  · simp at h; subst h
    rw [ByteArray.size_extract]; omega
theorem rd_at {l : List ByteArray} {j : Nat} (h : j < l.length) : rdOf ByteArray.empty l (j : Int) = l[j] := by
  unfold rdOf
  rw [Int.toNat_natCast]
  simp [List.getD, h]

def strictB (s : ByteArray) : Bool := decide ((splitB s).length = 4) && (splitB s).all decB
set_option maxHeartbeats 4000000 in
set_option maxRecDepth 100000 in
theorem strict_any (s : ByteArray) (w : World) (hs : s.size ≤ 1000000) (hv : VarsOk w) :
    Calls Tryz.prog 144 #[.string s] w fun e w' => ∃ v : Int, e = .returned (.tuple #[.int .u32 v, .bool (strictB s)]) ∧ Below w.heap.size w w' := by
  have HV := Lib.hid hv
  have c1 := Lib.hid (split_dot s w (by omega))
  have HS : Hid (∀ x ∈ splitB s, x.size ≤ 1000000) := Lib.hid (fun x hx => Nat.le_trans (splitB_size hx) hs)
  have HE : Hid (strictB s = (decide ((splitB s).length = 4) && (splitB s).all decB)) := Lib.hid rfl
  clear hv
  generalize splitB s = l at c1 HS HE
  by_cases h4 : l.length = 4
  · have h4i : (l.length : Int) = 4 := by omega
    have HE4 : Hid (strictB s = l.all decB) := Lib.hid (by rw [HE.out, decide_eq_true h4]; rfl)
    go_enter Tryz.func144, Tryz.ntmps144
    go_wp2_with (first | (go_at_call 99; refine c1.out.mono ?_; rintro e w1 ⟨v, rfl, ho, hb⟩; have HO := Lib.hid ho; have HB0 := Lib.hid hb; clear ho hb; obtain ⟨A, c, rfl⟩ := Kd.R_slice HO.out))
    go_loopw [5, 17] (fun v5 v17 wr => ∃ (k : Nat) (z : Int), k ≤ l.length ∧ v5 = .int .u32 z ∧ v17 = .int .i64 k ∧ Hid (∀ (j : Nat) (h : j < l.length), j < k → decB l[j] = true) ∧ Hid (Below w1.heap.size w1 wr)) (fun _ i _ => l.length - (intOf i).toNat)
    case atStart => exact ⟨0, 0, Nat.zero_le _, rfl, rfl, Lib.hid (fun j h hj => by omega), Lib.hid (Below.refl _ _)⟩
    case round =>
      obtain ⟨k, z, hk, rfl, rfl, HX, HB⟩ := hrel
      by_cases hlt : k < l.length
      · obtain ⟨ad, ea, hx⟩ := Kd.at_string (Kd.R_reads' (Kd.R_below HO.out HB.out)).2.2 (k : Int) (by omega) (by omega)
        cases ea
        rw [Int.toNat_natCast, rd_at hlt] at hx
        have HBW := Lib.hid (HB0.out.trans (HB.out.mono HB0.out.size))
        have cd := Lib.hid (decimal_any l[k] wr (HS.out _ (List.getElem_mem hlt)) (HV.out.move (Nat.le_refl _) HBW.out))
        cases hd : decB l[k] with
        | true =>
          rw [hd] at cd
          have HD := Lib.hid hd
          clear hd
          go_wp2_with (first | (go_at_call 172; refine cd.out.mono ?_; rintro e w3 ⟨n, rfl, hb⟩; have HB3 := Lib.hid hb; clear hb))
          go_roundw
          case rel =>
            refine ⟨k + 1, _, by omega, rfl, by go_num, Lib.hid (fun j hj hjk => ?_), Lib.hid (HB.out.trans (HB3.out.mono HB.out.size))⟩
            by_cases he : j = k
            · subst he; exact HD.out
            · exact HX.out j hj (by omega)
          case measure => simp [intOf]; omega
        | false =>
          rw [hd] at cd
          have HF : Hid (strictB s = false) := Lib.hid (by rw [HE4.out, List.all_eq_false]; exact ⟨l[k], List.getElem_mem hlt, by rw [hd]; simp⟩)
          clear hd
          go_wp2_with (first | (go_at_call 172; refine cd.out.mono ?_; rintro e w3 ⟨n, rfl, hb⟩; have HB3 := Lib.hid hb; clear hb))
          go_ret2
          exact ⟨0, by rw [HF.out]; rfl, HBW.out.trans (HB3.out.mono HBW.out.size)⟩
      · have hkk : k = l.length := by omega
        subst hkk
        have HF : Hid (strictB s = true) := Lib.hid (by
          rw [HE4.out, List.all_eq_true]
          intro x hx
          obtain ⟨j, hj, rfl⟩ := List.getElem_of_mem hx
          exact HX.out j hj hj)
        go_wp2
        go_ret2
        exact ⟨z, by rw [HF.out]; rfl, HB0.out.trans (HB.out.mono HB0.out.size)⟩
  · have h4i : ¬ (l.length : Int) = 4 := by omega
    have HF : Hid (strictB s = false) := Lib.hid (by rw [HE.out, decide_eq_false h4]; rfl)
    go_enter Tryz.func144, Tryz.ntmps144
    go_wp2_with (first | (go_at_call 99; refine c1.out.mono ?_; rintro e w1 ⟨v, rfl, ho, hb⟩; have HO := Lib.hid ho; have HB0 := Lib.hid hb; clear ho hb; obtain ⟨A, c, rfl⟩ := Kd.R_slice HO.out))
    go_ret2
    exact ⟨0, by rw [HF.out]; rfl, HB0.out⟩

set_option maxHeartbeats 2000000 in
theorem bytes_any (a : Int) (w : World) : Calls Tryz.prog 145 #[.int .u32 a] w fun e w' => ∃ b0 b1 b2 b3 : Int, e = .returned (.agg #[.int .u8 b0, .int .u8 b1, .int .u8 b2, .int .u8 b3]) ∧ Below w.heap.size w w' := by
  go_enter Tryz.func145, Tryz.ntmps145
  go_wp2
  refine bodyPost_ret (v := .agg #[.int .u8 (a / 16777216 % 256), .int .u8 (a / 65536 % 256), .int .u8 (a / 256 % 256), .int .u8 (a % 256)]) (results_cell_row (P := Tryz.prog) (fn := Tryz.f145) (p := 2) (ty := 149) rfl _ _ w.heap.size 149 #[.int .u8 (a / 16777216 % 256), .int .u8 (a / 65536 % 256), .int .u8 (a / 256 % 256), .int .u8 (a % 256)] (0, 0) _ rfl (World.alloc_heap_new w _) Tryz.underlying149 rfl (by kernel_rfl)) rfl ?_
  exact ⟨_, _, _, _, rfl, (Below.refl _ w).alloc (Nat.le_refl _) _⟩

/-- A piece of one to four hexadecimal digits. -/
def hexB (b : UInt8) : Bool := decide (0 ≤ hexV (b.toNat : Int))
def pieceB (s : ByteArray) : Bool := !s.toList.isEmpty && !decide (4 < s.size) && s.data.toList.all hexB
set_option maxHeartbeats 4000000 in
theorem piece_any (s : ByteArray) (w : World) :
    Calls Tryz.prog 146 #[.string s] w fun e w' => ∃ v : Int, e = .returned (.tuple #[.int .u16 v, .bool (pieceB s)]) ∧ Below w.heap.size w w' := by
  cases hem : s.toList.isEmpty with
  | true =>
    have HF : Hid (pieceB s = false) := Lib.hid (by unfold pieceB; rw [hem]; rfl)
    go_enter Tryz.func146, Tryz.ntmps146
    go_wp2
    go_ret2
    exact ⟨0, by rw [HF.out]; rfl, Below.refl _ _⟩
  | false =>
    by_cases h4 : 4 < s.size
    · have h4i : (4 : Int) < (s.size : Int) := by omega
      have HF : Hid (pieceB s = false) := Lib.hid (by unfold pieceB; rw [decide_eq_true h4, Bool.not_true, Bool.and_false]; rfl)
      go_enter Tryz.func146, Tryz.ntmps146
      go_wp2
      go_ret2
      exact ⟨0, by rw [HF.out]; rfl, Below.refl _ _⟩
    · have h4i : ¬ (4 : Int) < (s.size : Int) := by omega
      have HE : Hid (pieceB s = s.data.toList.all hexB) := Lib.hid (by unfold pieceB; rw [hem, decide_eq_false h4]; rfl)
      go_enter Tryz.func146, Tryz.ntmps146
      go_wp2
      go_loopw [4] (fun v4 wr => ∃ (pos : Nat) (z : Int), v4 = .int .i64 z ∧ wr.heap[w.heap.size]? = some (.stringIter s pos) ∧ Hid (Below w.heap.size w wr) ∧ Hid (upTo hexB s pos)) (fun _ wr => s.size - wr.iterPos w.heap.size)
      case atStart =>
        exact ⟨0, 0, rfl, World.iter_heap w s 0, Lib.hid ((Below.refl _ w).alloc (Nat.le_refl _) _), Lib.hid (fun i hi h => by omega)⟩
      case round =>
        obtain ⟨pos, z, rfl, hit, HB, HU⟩ := hrel
        have hlt2 : w.heap.size < wr.heap.size := (Array.getElem?_eq_some_iff.1 hit).1
        by_cases hp : pos < s.size
        · by_cases ha : (s[pos]'hp).toNat < 128
          · have hnx : ∀ ty, (Instr.next (.pointer (some ⟨w.heap.size, 0, none⟩)) true ty).run Tryz.prog wr = _ := fun ty => Lib.run_next_ascii_at wr w.heap.size s pos ty hit hp ha
            have hit2 := Lib.iterAt_heap wr w.heap.size s pos (pos + 1) hit
            have HB2 := Lib.hid (Lib.below_iterAt HB.out (k := w.heap.size) (by omega) s (pos + 1))
            have c1 := Lib.hid (hex_calls ((s[pos]'hp).toNat : Int) (wr.iterAt w.heap.size s (pos + 1)))
            have HH : Hid (hexB (s[pos]'hp) = decide (0 ≤ hexV ((s[pos]'hp).toNat : Int))) := Lib.hid rfl
            generalize hexV ((s[pos]'hp).toNat : Int) = hv at c1 HH
            by_cases hneg : hv < 0
            · have HF : Hid (pieceB s = false) := Lib.hid (by rw [HE.out]; exact all_not hp (by rw [HH.out, decide_eq_false (by omega)]))
              go_wp2_with (first | (go_at_call 150; refine c1.out.mono ?_; rintro e w3 ⟨rfl, hb⟩; have HB3 := Lib.hid hb; clear hb))
              go_ret2
              exact ⟨0, by rw [HF.out]; rfl, HB2.out.trans (HB3.out.mono HB2.out.size)⟩
            · have HD : Hid (hexB (s[pos]'hp) = true) := Lib.hid (by rw [HH.out, decide_eq_true (by omega)])
              go_wp2_with (first | (go_at_call 150; refine c1.out.mono ?_; rintro e w3 ⟨rfl, hb⟩; have HB3 := Lib.hid hb; clear hb))
              have hit4 : w3.heap[w.heap.size]? = some (.stringIter s (pos + 1)) := by rw [HB3.out.block _ (by rw [Lib.iterAt_size]; exact hlt2)]; exact hit2
              go_roundw
              case rel => exact ⟨pos + 1, _, rfl, hit4, Lib.hid (HB2.out.trans (HB3.out.mono HB2.out.size)), Lib.hid (upTo_step HU.out hp HD.out)⟩
              case measure =>
                simp only [World.iterPos, hit4, hit]
                omega
          · have hnx : ∀ ty, (Instr.next (.pointer (some ⟨w.heap.size, 0, none⟩)) true ty).run Tryz.prog wr = _ := fun ty => Lib.run_next_any_at wr w.heap.size s pos ty hit hp
            have hhigh : 128 ≤ ((Utf8.decode s pos).1 : Int) := by
              have := (decode_high s pos hp (by omega)).1
              omega
            have HB2 := Lib.hid (Lib.below_iterAt HB.out (k := w.heap.size) (by omega) s (pos + (Utf8.decode s pos).2))
            have c1 := Lib.hid (hex_calls ((Utf8.decode s pos).1 : Int) (wr.iterAt w.heap.size s (pos + (Utf8.decode s pos).2)))
            have hdr : hexV ((Utf8.decode s pos).1 : Int) = -1 := by
              unfold hexV
              rw [if_neg (by omega), if_neg (by omega), if_neg (by omega)]
            rw [hdr] at c1
            have HF : Hid (pieceB s = false) := Lib.hid (by
              rw [HE.out]
              refine all_not hp ?_
              unfold hexB hexV
              rw [if_neg (by omega), if_neg (by omega), if_neg (by omega)]
              rfl)
            clear hdr hhigh
            go_wp2_with (first | (go_at_call 150; refine c1.out.mono ?_; rintro e w3 ⟨rfl, hb⟩; have HB3 := Lib.hid hb; clear hb))
            go_ret2
            exact ⟨0, by rw [HF.out]; rfl, HB2.out.trans (HB3.out.mono HB2.out.size)⟩
        · have hnx : ∀ ty, (Instr.next (.pointer (some ⟨w.heap.size, 0, none⟩)) true ty).run Tryz.prog wr = _ := fun ty => Lib.run_next_end_at wr w.heap.size s pos ty hit hp
          have HF : Hid (pieceB s = true) := Lib.hid (by rw [HE.out]; exact upTo_all HU.out (by omega))
          go_wp2
          go_ret2
          exact ⟨_, by rw [HF.out]; rfl, HB.out⟩
end Go.Proofs.YtakdjflhhaefiaaGreatDoor
/- six.of, at any eight numbers. -/
set_option linter.unusedVariables false
set_option linter.unusedSimpArgs false
namespace Go.Proofs.YtakdjflhhaefiaaGreatDoor
open Go.RowKit Go.Proofs.YtakdjflhhaefiaaGreatDoor.PDotsGo Go.Proofs.YtakdjflhhaefiaaGreatDoorW.PrintWords Go.Proofs.YtakdjflhhaefiaaGreatDoorW.PrintLast Go.Proofs.YtakdjflhhaefiaaGreatDoorW.PrintMore

theorem row_setAt {W : World} {b t j : Nat} {cs : Array Value} (u : Value) (h : W.heap[b]? = some (.cells cs t (0, 0))) : (W.setCell ⟨b, j, none⟩ u).heap[b]? = some (.cells (cs.setIfInBounds j u) t (0, 0)) := by
  obtain ⟨hlt, hx⟩ := Array.getElem?_eq_some_iff.1 h
  show (W.heap.modify b _)[b]? = _
  rw [Array.getElem?_eq_getElem (by rw [Array.size_modify]; exact hlt), Array.getElem_modify_self, hx]
  rfl
theorem row_cellAt {W : World} {b t : Nat} (j : Nat) {cs : Array Value} (h : W.heap[b]? = some (.cells cs t (0, 0))) : W.cell? ⟨b, j, none⟩ = cs[j]? := by
  simp [World.cell?, h]
theorem row_freeAt {W : World} {b t : Nat} (j : Nat) {cs : Array Value} (h : W.heap[b]? = some (.cells cs t (0, 0))) : W.frozen? ⟨b, j, none⟩ = false := by
  simp [World.frozen?, h]
theorem index_0 (x0 x1 x2 x3 x4 x5 x6 x7 : Int) (w : World) : (Instr.index 114 (.agg #[.int .u16 x0, .int .u16 x1, .int .u16 x2, .int .u16 x3, .int .u16 x4, .int .u16 x5, .int .u16 x6, .int .u16 x7]) (.int .i64 0)).run Tryz.prog w = .ok (.int .u16 x0) w := by
  simp [Instr.index, run_underlying Tryz.underlying114, asIntOf, go_sem]
theorem index_1 (x0 x1 x2 x3 x4 x5 x6 x7 : Int) (w : World) : (Instr.index 114 (.agg #[.int .u16 x0, .int .u16 x1, .int .u16 x2, .int .u16 x3, .int .u16 x4, .int .u16 x5, .int .u16 x6, .int .u16 x7]) (.int .i64 1)).run Tryz.prog w = .ok (.int .u16 x1) w := by
  simp [Instr.index, run_underlying Tryz.underlying114, asIntOf, go_sem]
theorem index_2 (x0 x1 x2 x3 x4 x5 x6 x7 : Int) (w : World) : (Instr.index 114 (.agg #[.int .u16 x0, .int .u16 x1, .int .u16 x2, .int .u16 x3, .int .u16 x4, .int .u16 x5, .int .u16 x6, .int .u16 x7]) (.int .i64 2)).run Tryz.prog w = .ok (.int .u16 x2) w := by
  simp [Instr.index, run_underlying Tryz.underlying114, asIntOf, go_sem]
theorem index_3 (x0 x1 x2 x3 x4 x5 x6 x7 : Int) (w : World) : (Instr.index 114 (.agg #[.int .u16 x0, .int .u16 x1, .int .u16 x2, .int .u16 x3, .int .u16 x4, .int .u16 x5, .int .u16 x6, .int .u16 x7]) (.int .i64 3)).run Tryz.prog w = .ok (.int .u16 x3) w := by
  simp [Instr.index, run_underlying Tryz.underlying114, asIntOf, go_sem]
theorem index_4 (x0 x1 x2 x3 x4 x5 x6 x7 : Int) (w : World) : (Instr.index 114 (.agg #[.int .u16 x0, .int .u16 x1, .int .u16 x2, .int .u16 x3, .int .u16 x4, .int .u16 x5, .int .u16 x6, .int .u16 x7]) (.int .i64 4)).run Tryz.prog w = .ok (.int .u16 x4) w := by
  simp [Instr.index, run_underlying Tryz.underlying114, asIntOf, go_sem]
theorem index_5 (x0 x1 x2 x3 x4 x5 x6 x7 : Int) (w : World) : (Instr.index 114 (.agg #[.int .u16 x0, .int .u16 x1, .int .u16 x2, .int .u16 x3, .int .u16 x4, .int .u16 x5, .int .u16 x6, .int .u16 x7]) (.int .i64 5)).run Tryz.prog w = .ok (.int .u16 x5) w := by
  simp [Instr.index, run_underlying Tryz.underlying114, asIntOf, go_sem]
theorem index_6 (x0 x1 x2 x3 x4 x5 x6 x7 : Int) (w : World) : (Instr.index 114 (.agg #[.int .u16 x0, .int .u16 x1, .int .u16 x2, .int .u16 x3, .int .u16 x4, .int .u16 x5, .int .u16 x6, .int .u16 x7]) (.int .i64 6)).run Tryz.prog w = .ok (.int .u16 x6) w := by
  simp [Instr.index, run_underlying Tryz.underlying114, asIntOf, go_sem]
theorem index_7 (x0 x1 x2 x3 x4 x5 x6 x7 : Int) (w : World) : (Instr.index 114 (.agg #[.int .u16 x0, .int .u16 x1, .int .u16 x2, .int .u16 x3, .int .u16 x4, .int .u16 x5, .int .u16 x6, .int .u16 x7]) (.int .i64 7)).run Tryz.prog w = .ok (.int .u16 x7) w := by
  simp [Instr.index, run_underlying Tryz.underlying114, asIntOf, go_sem]
set_option maxHeartbeats 4000000 in
set_option maxRecDepth 100000 in
theorem of_any (x0 x1 x2 x3 x4 x5 x6 x7 : Int) (w : World) :
    Calls Tryz.prog 90 #[.agg #[.int .u16 x0, .int .u16 x1, .int .u16 x2, .int .u16 x3, .int .u16 x4, .int .u16 x5, .int .u16 x6, .int .u16 x7]] w fun e w' => ∃ hi lo : Int, e = .returned (.agg #[.int .u64 hi, .int .u64 lo]) ∧ Below w.heap.size w w' := by
  go_enter Tryz.func90, Tryz.ntmps90
  go_wp2
  go_loopw [7] (fun v7 wr => ∃ (i hi lo : Int), (i = 0 ∨ i = 1 ∨ i = 2 ∨ i = 3 ∨ i = 4 ∨ i = 5 ∨ i = 6 ∨ i = 7 ∨ i = 8) ∧ v7 = .int .i64 i ∧ wr.heap[w.heap.size + 1 + 1]? = some (.cells #[.int .u64 hi, .int .u64 lo] 64 (0, 0)) ∧ wr.heap[w.heap.size + 1]? = some (.cells #[.int .u64 0, .int .u64 0] 64 (0, 0)) ∧ Hid (Below w.heap.size w wr)) (fun i _ => 8 - (intOf i).toNat)
  case atStart =>
    refine ⟨0, 0, 0, by omega, rfl, ?_, ?_, Lib.hid ((((Below.refl _ w).alloc (Nat.le_refl _) _).alloc (by simp) _).alloc (by simp; omega) _)⟩
    · have := World.alloc_heap_new ((w.alloc (.cells #[.int .u16 x0, .int .u16 x1, .int .u16 x2, .int .u16 x3, .int .u16 x4, .int .u16 x5, .int .u16 x6, .int .u16 x7] 114)).alloc (.cells #[.int .u64 0, .int .u64 0] 64)) (.cells #[.int .u64 0, .int .u64 0] 64)
      rwa [World.size_alloc, World.size_alloc] at this
    · exact (Below.heap_alloc _ _ _ (by simp)).trans (by have := World.alloc_heap_new (w.alloc (.cells #[.int .u16 x0, .int .u16 x1, .int .u16 x2, .int .u16 x3, .int .u16 x4, .int .u16 x5, .int .u16 x6, .int .u16 x7] 114)) (.cells #[.int .u64 0, .int .u64 0] 64); rwa [World.size_alloc] at this)
  case round =>
    obtain ⟨i, hi, lo, hk8, rfl, hrow, hres, HB⟩ := hrel
    have h0 : wr.cell? ⟨w.heap.size + 1 + 1, 0, none⟩ = some (.int .u64 hi) := row_cellAt 0 hrow
    have h1 : wr.cell? ⟨w.heap.size + 1 + 1, 1, none⟩ = some (.int .u64 lo) := row_cellAt 1 hrow
    have f0 : wr.frozen? ⟨w.heap.size + 1 + 1, 0, none⟩ = false := row_freeAt 0 hrow
    have f1 : wr.frozen? ⟨w.heap.size + 1 + 1, 1, none⟩ = false := row_freeAt 1 hrow
    have g0 : wr.frozen? ⟨w.heap.size + 1, 0, none⟩ = false := row_freeAt 0 hres
    have g1 : wr.frozen? ⟨w.heap.size + 1, 1, none⟩ = false := row_freeAt 1 hres
    have e0 : wr.cell? ⟨w.heap.size + 1, 0, none⟩ = some (.int .u64 0) := row_cellAt 0 hres
    have e1 : wr.cell? ⟨w.heap.size + 1, 1, none⟩ = some (.int .u64 0) := row_cellAt 1 hres
    have hset0 : Hid (∀ u, (wr.setCell ⟨w.heap.size + 1 + 1, 0, none⟩ (.int .u64 u)).heap[w.heap.size + 1 + 1]? = some (.cells #[.int .u64 u, .int .u64 lo] 64 (0, 0))) := Lib.hid (fun u => row_setAt _ hrow)
    have hset1 : Hid (∀ u, (wr.setCell ⟨w.heap.size + 1 + 1, 1, none⟩ (.int .u64 u)).heap[w.heap.size + 1 + 1]? = some (.cells #[.int .u64 hi, .int .u64 u] 64 (0, 0))) := Lib.hid (fun u => row_setAt _ hrow)
    have hoth : Hid (∀ (j : Nat) (u : Value), (wr.setCell ⟨w.heap.size + 1 + 1, j, none⟩ u).heap[w.heap.size + 1]? = some (.cells #[.int .u64 0, .int .u64 0] 64 (0, 0))) := Lib.hid (fun j u => (Below.heap_setCell wr ⟨w.heap.size + 1 + 1, j, none⟩ u _ (by simp)).trans hres)
    have HROW := Lib.hid hrow
    have HRES := Lib.hid hres
    clear hrow hres
    rcases hk8 with rfl | rfl | rfl | rfl | rfl | rfl | rfl | rfl | rfl
    · have hix := fun w => index_0 x0 x1 x2 x3 x4 x5 x6 x7 w
      go_wp2
      go_roundw
      case rel => exact ⟨1, _, _, by omega, rfl, hset0.out _, hoth.out _ _, Lib.hid (HB.out.setCell (p := ⟨w.heap.size + 1 + 1, 0, none⟩) (by simp; omega) _)⟩
      case measure => simp [intOf]
    · have hix := fun w => index_1 x0 x1 x2 x3 x4 x5 x6 x7 w
      go_wp2
      go_roundw
      case rel => exact ⟨2, _, _, by omega, rfl, hset0.out _, hoth.out _ _, Lib.hid (HB.out.setCell (p := ⟨w.heap.size + 1 + 1, 0, none⟩) (by simp; omega) _)⟩
      case measure => simp [intOf]
    · have hix := fun w => index_2 x0 x1 x2 x3 x4 x5 x6 x7 w
      go_wp2
      go_roundw
      case rel => exact ⟨3, _, _, by omega, rfl, hset0.out _, hoth.out _ _, Lib.hid (HB.out.setCell (p := ⟨w.heap.size + 1 + 1, 0, none⟩) (by simp; omega) _)⟩
      case measure => simp [intOf]
    · have hix := fun w => index_3 x0 x1 x2 x3 x4 x5 x6 x7 w
      go_wp2
      go_roundw
      case rel => exact ⟨4, _, _, by omega, rfl, hset0.out _, hoth.out _ _, Lib.hid (HB.out.setCell (p := ⟨w.heap.size + 1 + 1, 0, none⟩) (by simp; omega) _)⟩
      case measure => simp [intOf]
    · have hix := fun w => index_4 x0 x1 x2 x3 x4 x5 x6 x7 w
      go_wp2
      go_roundw
      case rel => exact ⟨5, _, _, by omega, rfl, hset1.out _, hoth.out _ _, Lib.hid (HB.out.setCell (p := ⟨w.heap.size + 1 + 1, 1, none⟩) (by simp; omega) _)⟩
      case measure => simp [intOf]
    · have hix := fun w => index_5 x0 x1 x2 x3 x4 x5 x6 x7 w
      go_wp2
      go_roundw
      case rel => exact ⟨6, _, _, by omega, rfl, hset1.out _, hoth.out _ _, Lib.hid (HB.out.setCell (p := ⟨w.heap.size + 1 + 1, 1, none⟩) (by simp; omega) _)⟩
      case measure => simp [intOf]
    · have hix := fun w => index_6 x0 x1 x2 x3 x4 x5 x6 x7 w
      go_wp2
      go_roundw
      case rel => exact ⟨7, _, _, by omega, rfl, hset1.out _, hoth.out _ _, Lib.hid (HB.out.setCell (p := ⟨w.heap.size + 1 + 1, 1, none⟩) (by simp; omega) _)⟩
      case measure => simp [intOf]
    · have hix := fun w => index_7 x0 x1 x2 x3 x4 x5 x6 x7 w
      go_wp2
      go_roundw
      case rel => exact ⟨8, _, _, by omega, rfl, hset1.out _, hoth.out _ _, Lib.hid (HB.out.setCell (p := ⟨w.heap.size + 1 + 1, 1, none⟩) (by simp; omega) _)⟩
      case measure => simp [intOf]
    · go_wp2
      refine bodyPost_ret (v := .agg #[.int .u64 hi, .int .u64 lo]) (results_cell_row (P := Tryz.prog) (fn := Tryz.f90) (p := 2) (ty := 64) rfl _ _ (w.heap.size + 1) 64 #[.int .u64 hi, .int .u64 lo] (0, 0) _ rfl (row_setAt (.int .u64 lo) (row_setAt (.int .u64 hi) HRES.out)) Tryz.underlying64 rfl (by kernel_rfl)) rfl ?_
      exact ⟨_, _, rfl, (HB.out.setCell (p := ⟨w.heap.size + 1, 0, none⟩) (by simp) _).setCell (p := ⟨w.heap.size + 1, 1, none⟩) (by simp) _⟩
end Go.Proofs.YtakdjflhhaefiaaGreatDoor
