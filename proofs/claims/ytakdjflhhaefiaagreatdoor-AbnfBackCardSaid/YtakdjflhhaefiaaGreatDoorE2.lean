/- abnf.Parts.Right, where it is right. -/
import Derived.Test.YtakdjflhhaefiaaGreatDoorT2
set_option linter.unusedVariables false
set_option linter.unusedSimpArgs false
namespace Go.Proofs.YtakdjflhhaefiaaGreatDoor
open Go.RowKit Go.Proofs.YtakdjflhhaefiaaGreatDoor.PDotsGo Go.Proofs.YtakdjflhhaefiaaGreatDoorW.PrintWords Go.Proofs.YtakdjflhhaefiaaGreatDoorW.PrintLast Go.Proofs.YtakdjflhhaefiaaGreatDoorW.PrintMore
/-- What Parse is proved to do. -/
def ParseDoes : Prop := ∀ (s : ByteArray) (w : World), VarsOk w → Calls Tryz.prog 18 #[.string s] w fun e w' => e = .returned (.tuple #[.agg (parseR s).1.row, .int .i64 (parseR s).2]) ∧ Below w.heap.size w w'
set_option maxHeartbeats 4000000 in
set_option maxRecDepth 100000 in
theorem right_ok (PD : ParseDoes) (p : PR) (w : World) (hz : p.small) (hv : VarsOk w) (hok : parseR (textB p) = (p, 0)) : Calls Tryz.prog 21 #[.agg p.row] w fun e w' => e = .returned (.bool true) ∧ Below w.heap.size w w' := by
  have CT := Lib.hid (fun w1 => text_any p w1 hz)
  have CP := Lib.hid (fun w1 hv1 => PD (textB p) w1 hv1)
  rw [hok] at CP
  have HP : Hid (PAt w.heap.size p (w.alloc (.cells p.row 40))) := Lib.hid (World.alloc_heap_new w _)
  have HB0 : Hid (Below w.heap.size w (w.alloc (.cells p.row 40))) := Lib.hid ((Below.refl _ w).alloc (Nat.le_refl _) _)
  have HV := Lib.hid hv
  have a0 := HP.out.c0; have a1 := HP.out.c1; have a2 := HP.out.c2; have a3 := HP.out.c3; have a4 := HP.out.c4; have a5 := HP.out.c5; have a6 := HP.out.c6; have a7 := HP.out.c7; have a8 := HP.out.c8; have a9 := HP.out.c9; have a10 := HP.out.c10; have a11 := HP.out.c11; have a12 := HP.out.c12
  clear hok hz hv
  go_enter Tryz.func21, Tryz.ntmps21
  go_wp2_with (first | (go_at_call 18; refine (CP.out _ (HV.out.move (Nat.le_refl _) HB1.out)).mono ?_; rintro e w2 ⟨he, hb⟩; (have he2 : e = .returned (.tuple #[.agg #[.string p.sc, .bool p.hs, .string p.us, .bool p.hu, .string p.ho, .bool p.ha, .string p.po, .bool p.hp, .string p.pa, .string p.qu, .bool p.hq, .string p.fr, .bool p.hf], .int .i64 0]) := he); subst he2; clear he; have HB2 := Lib.hid (HB1.out.trans (hb.mono HB1.out.size)); have HP2 := Lib.hid (HP1.out.move hb); have b0 : ∀ o, (w2.alloc o).cell? ⟨w.heap.size, 0, none⟩ = some (.string p.sc) := fun o => (World.cell?_alloc_past _ _ _ HP2.out.lt).trans HP2.out.c0; have b1 : ∀ o, (w2.alloc o).cell? ⟨w.heap.size, 1, none⟩ = some (.bool p.hs) := fun o => (World.cell?_alloc_past _ _ _ HP2.out.lt).trans HP2.out.c1; have b2 : ∀ o, (w2.alloc o).cell? ⟨w.heap.size, 2, none⟩ = some (.string p.us) := fun o => (World.cell?_alloc_past _ _ _ HP2.out.lt).trans HP2.out.c2; have b3 : ∀ o, (w2.alloc o).cell? ⟨w.heap.size, 3, none⟩ = some (.bool p.hu) := fun o => (World.cell?_alloc_past _ _ _ HP2.out.lt).trans HP2.out.c3; have b4 : ∀ o, (w2.alloc o).cell? ⟨w.heap.size, 4, none⟩ = some (.string p.ho) := fun o => (World.cell?_alloc_past _ _ _ HP2.out.lt).trans HP2.out.c4; have b5 : ∀ o, (w2.alloc o).cell? ⟨w.heap.size, 5, none⟩ = some (.bool p.ha) := fun o => (World.cell?_alloc_past _ _ _ HP2.out.lt).trans HP2.out.c5; have b6 : ∀ o, (w2.alloc o).cell? ⟨w.heap.size, 6, none⟩ = some (.string p.po) := fun o => (World.cell?_alloc_past _ _ _ HP2.out.lt).trans HP2.out.c6; have b7 : ∀ o, (w2.alloc o).cell? ⟨w.heap.size, 7, none⟩ = some (.bool p.hp) := fun o => (World.cell?_alloc_past _ _ _ HP2.out.lt).trans HP2.out.c7; have b8 : ∀ o, (w2.alloc o).cell? ⟨w.heap.size, 8, none⟩ = some (.string p.pa) := fun o => (World.cell?_alloc_past _ _ _ HP2.out.lt).trans HP2.out.c8; have b9 : ∀ o, (w2.alloc o).cell? ⟨w.heap.size, 9, none⟩ = some (.string p.qu) := fun o => (World.cell?_alloc_past _ _ _ HP2.out.lt).trans HP2.out.c9; have b10 : ∀ o, (w2.alloc o).cell? ⟨w.heap.size, 10, none⟩ = some (.bool p.hq) := fun o => (World.cell?_alloc_past _ _ _ HP2.out.lt).trans HP2.out.c10; have b11 : ∀ o, (w2.alloc o).cell? ⟨w.heap.size, 11, none⟩ = some (.string p.fr) := fun o => (World.cell?_alloc_past _ _ _ HP2.out.lt).trans HP2.out.c11; have b12 : ∀ o, (w2.alloc o).cell? ⟨w.heap.size, 12, none⟩ = some (.bool p.hf) := fun o => (World.cell?_alloc_past _ _ _ HP2.out.lt).trans HP2.out.c12; clear hb) | (go_at_call 20; refine (CT.out _).mono ?_; rintro e w1 ⟨rfl, hb⟩; have HB1 := Lib.hid (HB0.out.trans (hb.mono HB0.out.size)); have HP1 := Lib.hid (HP.out.move hb); clear hb))
  go_ret
  exact ⟨rfl, HB2.out.alloc HB2.out.size _⟩
end Go.Proofs.YtakdjflhhaefiaaGreatDoor
