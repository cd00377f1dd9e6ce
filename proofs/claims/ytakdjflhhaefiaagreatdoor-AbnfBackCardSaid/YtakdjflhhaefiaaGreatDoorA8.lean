/- (*six.reader).step: an address of four bytes. -/
import Derived.Test.YtakdjflhhaefiaaGreatDoorA7
import Derived.Lib.Repeat
set_option linter.unusedVariables false
set_option linter.unusedSimpArgs false
namespace Go.Proofs.YtakdjflhhaefiaaGreatDoor
open Go.RowKit Go.Proofs.YtakdjflhhaefiaaGreatDoor.PDotsGo Go.Proofs.YtakdjflhhaefiaaGreatDoorW.PrintWords Go.Proofs.YtakdjflhhaefiaaGreatDoorW.PrintLast Go.Proofs.YtakdjflhhaefiaaGreatDoorW.PrintMore

/-- append of a row of numbers, as one step of a region that draws. -/
theorem step_app16 {ops : Array Oper} {o : Oper} {a : Act} {w : World} {K : Act → World → Prop} {Q : Exit → Act → World → Prop} {E : Prop}
    (hg : o.guard = none) (s x : Operand) (hop : o.op = Op.call { callee := Callee.builtin Builtin.append, args := #[s, x], argTypes := #[110, 110] })
    (v : Value) (n : Nat) (xs : List Value) (hs : a.eval s = v) (base : Nat) (hown : w.ownsRow base 113 1 v n xs)
    (ad : Addr) (m c : Nat) (news : List Value) (hx : a.eval x = .slice (some ad) m c) (hl : news.length = m) (hc : ∀ j u, news[j]? = some u → w.cell? (ad.add j) = some u) (h1 : ∀ u ∈ news, u.oneCell' = true)
    (hn : n + m ≤ 1000000) (hbase : base ≤ w.heap.size)
    (hK : ∀ v' w', w'.ownsRow base 113 1 v' (n + m) (xs ++ news) → w.grownBy w' v.ownBlock → K (a.put o.dst v') w') :
    if Region.wanted o (yielded ops a.tmps) = true then Oper.wp Tryz.prog o a w K Q else E := by
  have hw : Region.wanted o (yielded ops a.tmps) = true := by simp [Region.wanted, hg]
  rw [if_pos hw]
  obtain ⟨i0, hi, hzz⟩ := Option.map_eq_some_iff.1 info113
  simp only [Prod.mk.injEq] at hzz
  obtain ⟨hz0, hz1, hz2⟩ := hzz
  obtain ⟨v', w', hr, ho, hgr, -, -⟩ := run_append_own_at (P := Tryz.prog) w base 110 o.type 113 i0 (.int .u16 0) 1 2 Tryz.underlying110 hi hz0 hz1 hz2 rfl (by decide) v n xs hown ad m c news (by omega) hc h1 (by unfold maxLen; omega) (by omega) hbase
  unfold Oper.wp execOp
  simp only [hop, resolve, invoke, builtin, Sem.run_bind, Sem.run_pure, Result.andThen_ok, List.map_toArray, List.map_cons, List.map_nil, hs, hx, hr]
  exact hK v' w' ho hgr

theorem news2 (X : World) (x y : Int) : ∀ (j : Nat) u, [Value.int .u16 x, Value.int .u16 y][j]? = some u → (X.alloc (.cells #[.int .u16 x, .int .u16 y] 113)).drew.cell? ((⟨X.heap.size, 0, none⟩ : Addr).add j) = some u := by
  intro j u h
  have := World.news_of_block (cs := #[Value.int .u16 x, Value.int .u16 y]) (t := 113) (fr := (0, 0)) (heap_alloc_new X (.cells #[.int .u16 x, .int .u16 y] 113)) j u h
  exact this
theorem ones2 (x y : Int) : ∀ u ∈ [Value.int .u16 x, Value.int .u16 y], u.oneCell' = true := by
  intro u hu
  simp at hu
  rcases hu with rfl | rfl <;> rfl
set_option maxHeartbeats 4000000 in
set_option maxRecDepth 100000 in
theorem step_strict (b : Nat) (t : ByteArray) (n : Nat) (g : Int) (w : World) (h : RdAt b t n g false w) (hp : Lib.hasPrefix t.data.toList [58] = false) (hs : (strictB (wordB t) && !moreB t) = true) (hn : n ≤ 100) (ht : t.size ≤ 1000000) (hv : VarsOk w) (hw : (wordB t).size ≤ 1000000) :
    Calls Tryz.prog 89 #[.pointer (some ⟨b, 0, none⟩)] w fun e w' => e = .returned (.bool true) ∧ RdAt b ⟨#[]⟩ (n + 2) g true w' ∧ Below b w w' := by
  obtain ⟨v, xs, hrow, hown⟩ := h
  obtain ⟨A, c, rfl⟩ := own_slice hown
  have c0 := row_cellAt 0 hrow
  simp only [List.getElem?_toArray, List.getElem?_cons_zero, List.getElem?_cons_succ] at c0
  have hbw : b < w.heap.size := (Array.getElem?_eq_some_iff.1 hrow).1
  have HROW := Lib.hid hrow
  have HOWN := Lib.hid hown
  have HV := Lib.hid hv
  have CC := Lib.hid (cut_colon t w ht hv)
  have CS := Lib.hid (fun m => strict_any (wordB t) (w.drewN m) hw (hv.drawn m))
  clear hrow hown hv
  rw [Bool.and_eq_true] at hs
  rw [hs.1] at CS
  have hm : moreB t = false := by have := hs.2; revert this; cases moreB t <;> simp
  rw [hm] at CC
  generalize wordB t = wd at CC CS hw hs
  generalize restB t = rs at CC
  clear hs hm
  go_enter Tryz.func89, Tryz.ntmps89
  go_wp2_with (first | (go_at_call 145; refine (bytes_any _ _).mono ?_; rintro e w2 ⟨b0, b1, b2, b3, rfl, hb⟩; have HB2 := Lib.hid (HB1.out.trans (hb.mono HB1.out.size)); clear hb; have HR2 := Lib.hid (row_below HROW.out HB2.out); have d1 := row_cellAt 1 HR2.out; have d0 := row_freeAt 0 HR2.out; have d1f := row_freeAt 1 HR2.out; have d3 := row_freeAt 3 HR2.out; have d0c := row_cellAt 0 HR2.out; have d3c := row_cellAt 3 HR2.out; simp only [List.getElem?_toArray, List.getElem?_cons_zero, List.getElem?_cons_succ] at d1 d0c d3c) | (go_at_call 144; refine (CS.out _).mono ?_; rintro e w1 ⟨sv, rfl, hb⟩; have HB1 := Lib.hid ((pw_below_drewN (Below.refl _ w) m).trans hb); clear hb) | (go_at_call 58; refine CC.out.mono ?_; rintro e w' ⟨rfl, m, hww⟩; rw [hww]; clear hww w') | (go_at_call 25; refine (Tryz.strings_HasPrefix _ _ _).mono ?_; rintro e w' ⟨rfl, hww⟩; rw [hww]; clear hww w'))
  have HBX : Hid (Below w.heap.size w (w2.alloc (.cells #[.int .u8 b0, .int .u8 b1, .int .u8 b2, .int .u8 b3] 149))) := Lib.hid (HB2.out.alloc HB2.out.size _)
  have hXB : (w2.alloc (.cells #[.int .u8 b0, .int .u8 b1, .int .u8 b2, .int .u8 b3] 149)).heap[w2.heap.size]? = some (.cells #[.int .u8 b0, .int .u8 b1, .int .u8 b2, .int .u8 b3] 149 (0, 0)) := World.alloc_heap_new _ _
  have hz2 : w.heap.size ≤ w2.heap.size ∧ w2.heap.size < (w2.alloc (.cells #[.int .u8 b0, .int .u8 b1, .int .u8 b2, .int .u8 b3] 149)).heap.size := ⟨HB2.out.size, by simp⟩
  clear d0 d1 d1f d3 d0c d3c
  generalize w2.alloc (.cells #[.int .u8 b0, .int .u8 b1, .int .u8 b2, .int .u8 b3] 149) = X at *
  have HRX := Lib.hid (row_below HROW.out HBX.out)
  have x1 := row_cellAt 1 HRX.out
  have x0 := row_cellAt 0 HRX.out
  have x3 := row_cellAt 3 HRX.out
  have f0 := row_freeAt 0 HRX.out
  have f1 := row_freeAt 1 HRX.out
  have f3 := row_freeAt 3 HRX.out
  have y0 := row_cellAt 0 hXB
  have y1 := row_cellAt 1 hXB
  have y2 := row_cellAt 2 hXB
  have y3 := row_cellAt 3 hXB
  clear hXB
  simp only [List.getElem?_toArray, List.getElem?_cons_zero, List.getElem?_cons_succ] at x0 x1 x3 y0 y1 y2 y3
  generalize w2.heap.size = z2 at *
  have HNE : Hid (some z2 ≠ (Value.slice A n c).ownBlock) := Lib.hid (fun e => by have := (HOWN.out.lt z2 e.symm).2; omega)
  have hzb : z2 ≠ b := by omega
  have hbz : b ≠ z2 := by omega
  have hbX : b < X.heap.size := Nat.lt_of_lt_of_le hbw HBX.out.size
  have xa : ∀ o, (X.alloc o).cell? ⟨b, 1, none⟩ = some (.slice A n c) := fun o => (World.cell?_alloc_past _ _ _ hbX).trans x1
  have hXS : b + 1 ≤ X.heap.size := Nat.le_trans hbw HBX.out.size
  refine wp_region_noPanic ?_
  refine wp_region_held_drew (S := (fun w' => w'.cell? ⟨z2, 0, none⟩ = some (.int .u8 b0) ∧ w'.cell? ⟨z2, 1, none⟩ = some (.int .u8 b1) ∧ w'.cell? ⟨z2, 2, none⟩ = some (.int .u8 b2) ∧ w'.cell? ⟨z2, 3, none⟩ = some (.int .u8 b3))) (by kernel_rfl) ?_ (fun hHeld => ?_)
  · (try dsimp only); go_keep
  refine wpAnyH_take (i := 0) (v := ?_) rfl (by kernel_rfl) (by kernel_rfl) (by kernel_rfl) (fun _ _ _ h => h) (Or.inl ⟨by rfl, ?_⟩) (by assumption) ?_
  rotate_left
  · (intro w9 hSw; (try dsimp only at hSw); go_simp; try (all_goals with_reducible rfl))
  try simp only [Act.put, List.setIfInBounds_toArray, List.set_cons_zero, List.set_cons_succ]
  refine wpAnyH_take (i := 1) (v := ?_) rfl (by kernel_rfl) (by kernel_rfl) (by kernel_rfl) (fun _ _ _ h => h) (Or.inl ⟨by rfl, ?_⟩) (by assumption) ?_
  rotate_left
  · (intro w9 hSw; (try dsimp only at hSw); go_simp; try (all_goals with_reducible rfl))
  try simp only [Act.put, List.setIfInBounds_toArray, List.set_cons_zero, List.set_cons_succ]
  refine wpAnyH_take (i := 2) (v := ?_) rfl (by kernel_rfl) (by kernel_rfl) (by kernel_rfl) (fun _ _ _ h => h) (Or.inl ⟨by rfl, ?_⟩) (by assumption) ?_
  rotate_left
  · (intro w9 hSw; (try dsimp only at hSw); go_simp; try (all_goals with_reducible rfl))
  try simp only [Act.put, List.setIfInBounds_toArray, List.set_cons_zero, List.set_cons_succ]
  refine wpAnyH_take (i := 3) (v := ?_) rfl (by kernel_rfl) (by kernel_rfl) (by kernel_rfl) (fun _ _ _ h => h) (Or.inl ⟨by rfl, ?_⟩) (by assumption) ?_
  rotate_left
  · (intro w9 hSw; (try dsimp only at hSw); go_simp; try (all_goals with_reducible rfl))
  try simp only [Act.put, List.setIfInBounds_toArray, List.set_cons_zero, List.set_cons_succ]
  refine wpAnyH_take (i := 5) (v := ?_) rfl (by kernel_rfl) (by kernel_rfl) (by kernel_rfl) (fun _ _ _ h => h) (Or.inl ⟨by rfl, ?_⟩) (by assumption) ?_
  rotate_left
  · (intro w9 hSw; (try dsimp only at hSw); go_simp; try (all_goals with_reducible rfl))
  try simp only [Act.put, List.setIfInBounds_toArray, List.set_cons_zero, List.set_cons_succ]
  refine wpAnyH_take (i := 6) (v := ?_) rfl (by kernel_rfl) (by kernel_rfl) (by kernel_rfl) (fun _ _ _ h => h) (Or.inl ⟨by rfl, ?_⟩) (by assumption) ?_
  rotate_left
  · (intro w9 hSw; (try dsimp only at hSw); go_simp; try (all_goals with_reducible rfl))
  try simp only [Act.put, List.setIfInBounds_toArray, List.set_cons_zero, List.set_cons_succ]
  refine wpAnyH_take (i := 7) (v := ?_) rfl (by kernel_rfl) (by kernel_rfl) (by kernel_rfl) (fun _ _ _ h => h) (Or.inl ⟨by rfl, ?_⟩) (by assumption) ?_
  rotate_left
  · (intro w9 hSw; (try dsimp only at hSw); go_simp; try (all_goals with_reducible rfl))
  try simp only [Act.put, List.setIfInBounds_toArray, List.set_cons_zero, List.set_cons_succ]
  refine wpAnyH_take (i := 8) (v := ?_) rfl (by kernel_rfl) (by kernel_rfl) (by kernel_rfl) (fun _ _ _ h => h) (Or.inl ⟨by rfl, ?_⟩) (by assumption) ?_
  rotate_left
  · (intro w9 hSw; (try dsimp only at hSw); go_simp; try (all_goals with_reducible rfl))
  try simp only [Act.put, List.setIfInBounds_toArray, List.set_cons_zero, List.set_cons_succ]
  refine wpAnyH_take (i := 9) (v := ?_) rfl (by kernel_rfl) (by kernel_rfl) (by kernel_rfl) (fun _ _ _ h => h) (Or.inl ⟨by rfl, ?_⟩) (by assumption) ?_
  rotate_left
  · (intro w9 hSw; (try dsimp only at hSw); go_simp; try (all_goals with_reducible rfl))
  try simp only [Act.put, List.setIfInBounds_toArray, List.set_cons_zero, List.set_cons_succ]
  refine wpAnyH_take (i := 10) (v := ?_) rfl (by kernel_rfl) (by kernel_rfl) (by kernel_rfl) (fun _ _ _ h => h) (Or.inl ⟨by rfl, ?_⟩) (by assumption) ?_
  rotate_left
  · (intro w9 hSw; (try dsimp only at hSw); go_simp; try (all_goals with_reducible rfl))
  try simp only [Act.put, List.setIfInBounds_toArray, List.set_cons_zero, List.set_cons_succ]
  refine wpAnyH_take (i := 11) (v := ?_) rfl (by kernel_rfl) (by kernel_rfl) (by kernel_rfl) (fun _ _ _ h => h) (Or.inl ⟨by rfl, ?_⟩) (by assumption) ?_
  rotate_left
  · (intro w9 hSw; (try dsimp only at hSw); go_simp; try (all_goals with_reducible rfl))
  try simp only [Act.put, List.setIfInBounds_toArray, List.set_cons_zero, List.set_cons_succ]
  refine wpAnyH_take (i := 12) (v := ?_) rfl (by kernel_rfl) (by kernel_rfl) (by kernel_rfl) (fun _ _ _ h => h) (Or.inl ⟨by rfl, ?_⟩) (by assumption) ?_
  rotate_left
  · (intro w9 hSw; (try dsimp only at hSw); go_simp; try (all_goals with_reducible rfl))
  try simp only [Act.put, List.setIfInBounds_toArray, List.set_cons_zero, List.set_cons_succ]
  refine wpAnyH_take (i := 13) (v := ?_) rfl (by kernel_rfl) (by kernel_rfl) (by kernel_rfl) (fun _ _ _ h => h) (Or.inl ⟨by rfl, ?_⟩) (by assumption) ?_
  rotate_left
  · (intro w9 hSw; (try dsimp only at hSw); go_simp; try (all_goals with_reducible rfl))
  try simp only [Act.put, List.setIfInBounds_toArray, List.set_cons_zero, List.set_cons_succ]
  refine wpAnyH_take (i := 14) (v := ?_) rfl (by kernel_rfl) (by kernel_rfl) (by kernel_rfl) (fun _ _ _ h => h) (Or.inl ⟨by rfl, ?_⟩) (by assumption) ?_
  rotate_left
  · (intro w9 hSw; (try dsimp only at hSw); go_simp; try (all_goals with_reducible rfl))
  try simp only [Act.put, List.setIfInBounds_toArray, List.set_cons_zero, List.set_cons_succ]
  refine wpAnyH_take (i := 15) (v := ?_) rfl (by kernel_rfl) (by kernel_rfl) (by kernel_rfl) (fun _ _ _ h => h) (Or.inl ⟨by rfl, ?_⟩) (by assumption) ?_
  rotate_left
  · (intro w9 hSw; (try dsimp only at hSw); go_simp; try (all_goals with_reducible rfl))
  try simp only [Act.put, List.setIfInBounds_toArray, List.set_cons_zero, List.set_cons_succ]
  refine wpAnyH_take (i := 16) (v := ?_) rfl (by kernel_rfl) (by kernel_rfl) (by kernel_rfl) (fun _ _ _ h => h) (Or.inl ⟨by rfl, ?_⟩) (by assumption) ?_
  rotate_left
  · (intro w9 hSw; (try dsimp only at hSw); go_simp; try (all_goals with_reducible rfl))
  try simp only [Act.put, List.setIfInBounds_toArray, List.set_cons_zero, List.set_cons_succ]
  refine wpAnyH_take (i := 17) (v := ?_) rfl (by kernel_rfl) (by kernel_rfl) (by kernel_rfl) (fun _ _ _ h => h) (Or.inl ⟨by rfl, ?_⟩) (by assumption) ?_
  rotate_left
  · (intro w9 hSw; (try dsimp only at hSw); go_simp; try (all_goals with_reducible rfl))
  try simp only [Act.put, List.setIfInBounds_toArray, List.set_cons_zero, List.set_cons_succ]
  refine wpAnyH_take (i := 18) (v := ?_) rfl (by kernel_rfl) (by kernel_rfl) (by kernel_rfl) (fun _ _ _ h => h) (Or.inl ⟨by rfl, ?_⟩) (by assumption) ?_
  rotate_left
  · (intro w9 hSw; (try dsimp only at hSw); go_simp; try (all_goals with_reducible rfl))
  try simp only [Act.put, List.setIfInBounds_toArray, List.set_cons_zero, List.set_cons_succ]
  refine wpAnyH_take (i := 19) (v := ?_) rfl (by kernel_rfl) (by kernel_rfl) (by kernel_rfl) (fun _ _ _ h => h) (Or.inl ⟨by rfl, ?_⟩) (by assumption) ?_
  rotate_left
  · (intro w9 hSw; (try dsimp only at hSw); go_simp; try (all_goals with_reducible rfl))
  try simp only [Act.put, List.setIfInBounds_toArray, List.set_cons_zero, List.set_cons_succ]
  refine wpAnyH_take (i := 20) (v := ?_) rfl (by kernel_rfl) (by kernel_rfl) (by kernel_rfl) (fun _ _ _ h => h) (Or.inl ⟨by rfl, ?_⟩) (by assumption) ?_
  rotate_left
  · (intro w9 hSw; (try dsimp only at hSw); go_simp; try (all_goals with_reducible rfl))
  try simp only [Act.put, List.setIfInBounds_toArray, List.set_cons_zero, List.set_cons_succ]
  refine wpAnyH_ready (rs := [4, 21]) (by kernel_rfl) (by simp) ?_
  refine AllReadyH.cons rfl (fun K hK => ?_) ?_
  · go_simp
    refine hK.out _ _ ?_ (fun hHeld => ?_)
    · (try dsimp only); go_keep
    clear hK K
    try simp only [Act.put, List.setIfInBounds_toArray, List.set_cons_zero, List.set_cons_succ]
    refine wpAnyH_ready (rs := [21]) (by kernel_rfl) (by simp) ?_
    refine AllReadyH.cons rfl (fun K hK => ?_) ?_
    · go_simp
      refine hK.out _ _ ?_ (fun hHeld => ?_)
      · (try dsimp only); go_keep
      clear hK K
      try simp only [Act.put, List.setIfInBounds_toArray, List.set_cons_zero, List.set_cons_succ]
      refine wpAnyH_ready (rs := [22]) (by kernel_rfl) (by simp) ?_
      refine AllReadyH.cons rfl (fun K hK => ?_) ?_
      · (refine step_app16 rfl (.tmp 70) (.tmp 87) rfl (.slice A n c) n (xs.map (Value.int .u16)) rfl (b + 1) ?_ ⟨X.heap.size, 0, none⟩ 2 2 [.int .u16 (bits BinOp.or IntKind.u16 (IntKind.u16.wrap (IntKind.u16.wrap b0 * 256)) (IntKind.u16.wrap b1)), .int .u16 (bits BinOp.or IntKind.u16 (IntKind.u16.wrap (IntKind.u16.wrap b2 * 256)) (IntKind.u16.wrap b3))] rfl ?_ ?_ ?_ ?_ ?_ ?_; (focus (exact ((own_below HOWN.out HBX.out).alloc _).drew)); (focus (rfl)); (focus (exact news2 X _ _)); (focus (exact ones2 _ _)); (focus (omega)); (focus (exact Nat.le_trans hXS (by simp))); intro v3 w3 ho hg3; have hb3 : Below (b + 1) w w3 := Below.grown (((HBX.out.mono hbw).alloc hXS _).drew) hg3 (Nat.le_trans hXS (by simp)) (fun k e => ((own_below HOWN.out HBX.out).lt k e).1); have HB3 := Lib.hid hb3; have q0 := (hg3.cell_far ⟨z2, 0, none⟩ (Nat.lt_trans hz2.2 (by simp)) HNE.out).trans ((World.cell?_alloc_past _ _ _ hz2.2).trans y0); have q1 := (hg3.cell_far ⟨z2, 1, none⟩ (Nat.lt_trans hz2.2 (by simp)) HNE.out).trans ((World.cell?_alloc_past _ _ _ hz2.2).trans y1); have q2 := (hg3.cell_far ⟨z2, 2, none⟩ (Nat.lt_trans hz2.2 (by simp)) HNE.out).trans ((World.cell?_alloc_past _ _ _ hz2.2).trans y2); have q3 := (hg3.cell_far ⟨z2, 3, none⟩ (Nat.lt_trans hz2.2 (by simp)) HNE.out).trans ((World.cell?_alloc_past _ _ _ hz2.2).trans y3); clear hb3 hg3; obtain ⟨A3, c3, rfl⟩ := own_slice ho; have HO3 := Lib.hid ho; clear ho; have HR3 := Lib.hid ((HB3.out.block b (Nat.lt_succ_self b)).trans HROW.out); have e1 := row_cellAt 1 HR3.out; have e0 := row_freeAt 0 HR3.out; have e1f := row_freeAt 1 HR3.out; have e3 := row_freeAt 3 HR3.out; have e0c := row_cellAt 0 HR3.out; have e3c := row_cellAt 3 HR3.out; simp only [List.getElem?_toArray, List.getElem?_cons_zero, List.getElem?_cons_succ] at e1 e0c e3c)
        refine hK.out _ _ ?_ (fun hHeld => ?_)
        · (try dsimp only); go_keep
        clear hK K
        try simp only [Act.put, List.setIfInBounds_toArray, List.set_cons_zero, List.set_cons_succ]
        refine wpAnyH_take (i := 23) (v := ?_) rfl (by kernel_rfl) (by kernel_rfl) (by kernel_rfl) (fun _ _ _ h => h) (Or.inl ⟨by rfl, ?_⟩) (by assumption) ?_
        rotate_left
        · (intro w9 hSw; (try dsimp only at hSw); go_simp; try (all_goals with_reducible rfl))
        try simp only [Act.put, List.setIfInBounds_toArray, List.set_cons_zero, List.set_cons_succ]
        refine wpAnyH_take (i := 24) (v := ?_) rfl (by kernel_rfl) (by kernel_rfl) (by kernel_rfl) (fun _ _ _ h => h) (Or.inl ⟨by rfl, ?_⟩) (by assumption) ?_
        rotate_left
        · (intro w9 hSw; (try dsimp only at hSw); go_simp; try (all_goals with_reducible rfl))
        try simp only [Act.put, List.setIfInBounds_toArray, List.set_cons_zero, List.set_cons_succ]
        refine wpAnyH_ready (rs := [25]) (by kernel_rfl) (by simp) ?_
        refine AllReadyH.cons rfl (fun K hK => ?_) ?_
        · go_simp
          refine hK.out _ _ ?_ (fun hHeld => ?_)
          · (try dsimp only); go_keep
          clear hK K
          try simp only [Act.put, List.setIfInBounds_toArray, List.set_cons_zero, List.set_cons_succ]
          refine wpAnyH_done (by kernel_rfl) ?_ _
          refine NoPanic.normal ?_
          go_wp2
          go_ret
          exact ⟨rfl, piece_end (xs := xs) (ys := [_, _]) HR3.out HO3.out (by rw [List.map_append]; rfl) HB3.out⟩
        exact AllReadyH.nil
      exact AllReadyH.nil
    exact AllReadyH.nil
  refine AllReadyH.cons rfl (fun K hK => ?_) ?_
  · go_simp
    refine hK.out _ _ ?_ (fun hHeld => ?_)
    · (try dsimp only); go_keep
    clear hK K
    try simp only [Act.put, List.setIfInBounds_toArray, List.set_cons_zero, List.set_cons_succ]
    refine wpAnyH_ready (rs := [4]) (by kernel_rfl) (by simp) ?_
    refine AllReadyH.cons rfl (fun K hK => ?_) ?_
    · go_simp
      refine hK.out _ _ ?_ (fun hHeld => ?_)
      · (try dsimp only); go_keep
      clear hK K
      try simp only [Act.put, List.setIfInBounds_toArray, List.set_cons_zero, List.set_cons_succ]
      refine wpAnyH_ready (rs := [22]) (by kernel_rfl) (by simp) ?_
      refine AllReadyH.cons rfl (fun K hK => ?_) ?_
      · (refine step_app16 rfl (.tmp 70) (.tmp 87) rfl (.slice A n c) n (xs.map (Value.int .u16)) rfl (b + 1) ?_ ⟨X.heap.size, 0, none⟩ 2 2 [.int .u16 (bits BinOp.or IntKind.u16 (IntKind.u16.wrap (IntKind.u16.wrap b0 * 256)) (IntKind.u16.wrap b1)), .int .u16 (bits BinOp.or IntKind.u16 (IntKind.u16.wrap (IntKind.u16.wrap b2 * 256)) (IntKind.u16.wrap b3))] rfl ?_ ?_ ?_ ?_ ?_ ?_; (focus (exact ((own_below HOWN.out HBX.out).alloc _).drew)); (focus (rfl)); (focus (exact news2 X _ _)); (focus (exact ones2 _ _)); (focus (omega)); (focus (exact Nat.le_trans hXS (by simp))); intro v3 w3 ho hg3; have hb3 : Below (b + 1) w w3 := Below.grown (((HBX.out.mono hbw).alloc hXS _).drew) hg3 (Nat.le_trans hXS (by simp)) (fun k e => ((own_below HOWN.out HBX.out).lt k e).1); have HB3 := Lib.hid hb3; have q0 := (hg3.cell_far ⟨z2, 0, none⟩ (Nat.lt_trans hz2.2 (by simp)) HNE.out).trans ((World.cell?_alloc_past _ _ _ hz2.2).trans y0); have q1 := (hg3.cell_far ⟨z2, 1, none⟩ (Nat.lt_trans hz2.2 (by simp)) HNE.out).trans ((World.cell?_alloc_past _ _ _ hz2.2).trans y1); have q2 := (hg3.cell_far ⟨z2, 2, none⟩ (Nat.lt_trans hz2.2 (by simp)) HNE.out).trans ((World.cell?_alloc_past _ _ _ hz2.2).trans y2); have q3 := (hg3.cell_far ⟨z2, 3, none⟩ (Nat.lt_trans hz2.2 (by simp)) HNE.out).trans ((World.cell?_alloc_past _ _ _ hz2.2).trans y3); clear hb3 hg3; obtain ⟨A3, c3, rfl⟩ := own_slice ho; have HO3 := Lib.hid ho; clear ho; have HR3 := Lib.hid ((HB3.out.block b (Nat.lt_succ_self b)).trans HROW.out); have e1 := row_cellAt 1 HR3.out; have e0 := row_freeAt 0 HR3.out; have e1f := row_freeAt 1 HR3.out; have e3 := row_freeAt 3 HR3.out; have e0c := row_cellAt 0 HR3.out; have e3c := row_cellAt 3 HR3.out; simp only [List.getElem?_toArray, List.getElem?_cons_zero, List.getElem?_cons_succ] at e1 e0c e3c)
        refine hK.out _ _ ?_ (fun hHeld => ?_)
        · (try dsimp only); go_keep
        clear hK K
        try simp only [Act.put, List.setIfInBounds_toArray, List.set_cons_zero, List.set_cons_succ]
        refine wpAnyH_take (i := 23) (v := ?_) rfl (by kernel_rfl) (by kernel_rfl) (by kernel_rfl) (fun _ _ _ h => h) (Or.inl ⟨by rfl, ?_⟩) (by assumption) ?_
        rotate_left
        · (intro w9 hSw; (try dsimp only at hSw); go_simp; try (all_goals with_reducible rfl))
        try simp only [Act.put, List.setIfInBounds_toArray, List.set_cons_zero, List.set_cons_succ]
        refine wpAnyH_take (i := 24) (v := ?_) rfl (by kernel_rfl) (by kernel_rfl) (by kernel_rfl) (fun _ _ _ h => h) (Or.inl ⟨by rfl, ?_⟩) (by assumption) ?_
        rotate_left
        · (intro w9 hSw; (try dsimp only at hSw); go_simp; try (all_goals with_reducible rfl))
        try simp only [Act.put, List.setIfInBounds_toArray, List.set_cons_zero, List.set_cons_succ]
        refine wpAnyH_ready (rs := [25]) (by kernel_rfl) (by simp) ?_
        refine AllReadyH.cons rfl (fun K hK => ?_) ?_
        · go_simp
          refine hK.out _ _ ?_ (fun hHeld => ?_)
          · (try dsimp only); go_keep
          clear hK K
          try simp only [Act.put, List.setIfInBounds_toArray, List.set_cons_zero, List.set_cons_succ]
          refine wpAnyH_done (by kernel_rfl) ?_ _
          refine NoPanic.normal ?_
          go_wp2
          go_ret
          exact ⟨rfl, piece_end (xs := xs) (ys := [_, _]) HR3.out HO3.out (by rw [List.map_append]; rfl) HB3.out⟩
        exact AllReadyH.nil
      exact AllReadyH.nil
    exact AllReadyH.nil
  exact AllReadyH.nil
end Go.Proofs.YtakdjflhhaefiaaGreatDoor
