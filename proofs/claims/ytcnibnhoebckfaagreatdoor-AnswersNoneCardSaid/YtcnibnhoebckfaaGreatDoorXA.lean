/- resolve.authority, which draws its order, at every two references' parts: out of its text by the kit's tactics. -/
import Derived.Test.YtcnibnhoebckfaaGreatDoorXT7
import Derived.WalkKit
import Derived.Lib.Hide
import Derived.Deep.RegionHeld3
import Derived.Laws.Rows
namespace Go.Proofs.YtcnibnhoebckfaaGreatDoor
set_option linter.unusedVariables false
set_option linter.unusedSimpArgs false
open Go.Xc Go.RowKit
set_option maxHeartbeats 4000000 in
set_option maxRecDepth 100000 in
theorem auth_any (t0 t2 t4 t6 t8 t9 t11 f0 f2 f4 f6 f8 f9 f11 : ByteArray) (t1 t3 t5 t7 t10 t12 f1 f3 f5 f7 f10 f12 : Bool) (w : World) :
    Calls Tryz.prog 225 #[.agg #[.string t0, .bool t1, .string t2, .bool t3, .string t4, .bool t5, .string t6, .bool t7, .string t8, .string t9, .bool t10, .string t11, .bool t12], .agg #[.string f0, .bool f1, .string f2, .bool f3, .string f4, .bool f5, .string f6, .bool f7, .string f8, .string f9, .bool f10, .string f11, .bool f12]] w fun e w' => e = .returned (.agg #[.string t0, .bool t1, .string f2, .bool f3, .string f4, .bool f5, .string f6, .bool f7, .string t8, .string t9, .bool t10, .string t11, .bool t12]) ∧ Below w.heap.size w w' := by
  go_enter Tryz.func225, Tryz.ntmps225
  go_wp2
  go_region_held3 (fun w' => w'.cell? ⟨w.heap.size + 1, 5, none⟩ = some (.bool f5) ∧ w'.cell? ⟨w.heap.size + 1, 2, none⟩ = some (.string f2) ∧ w'.cell? ⟨w.heap.size + 1, 3, none⟩ = some (.bool f3) ∧ w'.cell? ⟨w.heap.size + 1, 4, none⟩ = some (.string f4) ∧ w'.cell? ⟨w.heap.size + 1, 6, none⟩ = some (.string f6) ∧ w'.cell? ⟨w.heap.size + 1, 7, none⟩ = some (.bool f7)) (go_keep) (fail)
  go_wp2
  refine bodyPost_ret (v := .agg #[.string t0, .bool t1, .string f2, .bool f3, .string f4, .bool f5, .string f6, .bool f7, .string t8, .string t9, .bool t10, .string t11, .bool t12]) (results_cell_row (P := Tryz.prog) (fn := Tryz.f225) (p := 4) (ty := 115) rfl _ _ (w.heap.size + 1 + 1) 115 #[.string t0, .bool t1, .string f2, .bool f3, .string f4, .bool f5, .string f6, .bool f7, .string t8, .string t9, .bool t10, .string t11, .bool t12] (0, 0) _ rfl ?_ Tryz.underlying115 rfl (by kernel_rfl)) rfl ?_
  · show (((w.heap.push _).push _).push _)[w.heap.size + 1 + 1]? = _
    rw [Array.getElem?_push, if_pos (by simp)]
  · refine ⟨rfl, ?_⟩
    exact ((((Below.refl _ w).alloc (Nat.le_refl _) _).alloc (by simp) _).alloc (by simp; omega) _).drew

/-- A call known by a proof of its own, kept. -/
theorem keptC {T : Tab} (hT : Kept T) (f : Nat) (args : List Value) (v : Value) (h : ∀ w, Calls Tryz.prog f args.toArray w fun e w' => e = .returned v ∧ Below w.heap.size w w') : Kept ((f, .plain args v) :: T) := by
  refine Tab.Ok.cons (fun N0 w0 hg hp ha H ι w args' hH hl => ?_) hT
  obtain rfl := allPlain_eq ha hl
  refine (h w).mono ?_
  rintro e w' ⟨rfl, hb⟩
  exact ⟨ι, v, rfl, Ext'.refl _ _, Keeps.refl _, plainF_refl 9 _ hp, hH.onward hb⟩
noncomputable def XA_1 : Tab := (225, .plain [.agg #[.string ⟨#[104,116,116,112]⟩, .bool true, .string ⟨#[]⟩, .bool false, .string ⟨#[]⟩, .bool false, .string ⟨#[]⟩, .bool false, .string ⟨#[103]⟩, .string ⟨#[]⟩, .bool false, .string ⟨#[]⟩, .bool false], .agg #[.string ⟨#[104,116,116,112]⟩, .bool true, .string ⟨#[]⟩, .bool false, .string ⟨#[97]⟩, .bool true, .string ⟨#[]⟩, .bool false, .string ⟨#[47,98,47,99,47,100,59,112]⟩, .string ⟨#[113]⟩, .bool true, .string ⟨#[]⟩, .bool false]] (.agg #[.string ⟨#[104,116,116,112]⟩, .bool true, .string ⟨#[]⟩, .bool false, .string ⟨#[97]⟩, .bool true, .string ⟨#[]⟩, .bool false, .string ⟨#[103]⟩, .string ⟨#[]⟩, .bool false, .string ⟨#[]⟩, .bool false])) :: XT7
theorem XA_1_ok : Kept XA_1 := keptC XT7_ok _ _ _ (fun w => auth_any _ _ _ _ _ _ _ _ _ _ _ _ _ _ _ _ _ _ _ _ _ _ _ _ _ _ w)
noncomputable def XA_2 : Tab := (225, .plain [.agg #[.string ⟨#[104,116,116,112]⟩, .bool true, .string ⟨#[]⟩, .bool false, .string ⟨#[]⟩, .bool false, .string ⟨#[]⟩, .bool false, .string ⟨#[]⟩, .string ⟨#[121]⟩, .bool true, .string ⟨#[]⟩, .bool false], .agg #[.string ⟨#[104,116,116,112]⟩, .bool true, .string ⟨#[]⟩, .bool false, .string ⟨#[97]⟩, .bool true, .string ⟨#[]⟩, .bool false, .string ⟨#[47,98,47,99,47,100,59,112]⟩, .string ⟨#[113]⟩, .bool true, .string ⟨#[]⟩, .bool false]] (.agg #[.string ⟨#[104,116,116,112]⟩, .bool true, .string ⟨#[]⟩, .bool false, .string ⟨#[97]⟩, .bool true, .string ⟨#[]⟩, .bool false, .string ⟨#[]⟩, .string ⟨#[121]⟩, .bool true, .string ⟨#[]⟩, .bool false])) :: XA_1
theorem XA_2_ok : Kept XA_2 := keptC XA_1_ok _ _ _ (fun w => auth_any _ _ _ _ _ _ _ _ _ _ _ _ _ _ _ _ _ _ _ _ _ _ _ _ _ _ w)
noncomputable def XA : Tab := XA_2
theorem XA_ok : Kept XA := XA_2_ok
end Go.Proofs.YtcnibnhoebckfaaGreatDoor
