/- The layers' own examples, out of whatever world holds the laid variables. -/
import Derived.Test.YtakdjflhhaefiaaGreatDoorXL
import Derived.Test.YtakdjflhhaefiaaGreatDoorXT8
namespace Go.Proofs.YtakdjflhhaefiaaGreatDoor
open Go.Xc Go.RowKit

theorem awake12 {w : World} (hg : Xc.Good XC glob w.heap.size w) : Calls Tryz.prog 11 #[] w fun e w' => e = .returned (.bool true) ∧ Below w.heap.size w w' :=
  known XT8_ok (args := []) (f := 11) (v := .bool true) (by simp [XT8, XT8_4, XT8_3, XT8_2, XT8_1, XT7, XT7_5, XT7_4, XT7_3, XT7_2, XT7_1]) rfl rfl hg
theorem awake15 {w : World} (hg : Xc.Good XC glob w.heap.size w) : Calls Tryz.prog 17 #[] w fun e w' => e = .returned (.bool true) ∧ Below w.heap.size w w' :=
  known XT8_ok (args := []) (f := 17) (v := .bool true) (by simp [XT8, XT8_4, XT8_3, XT8_2, XT8_1, XT7, XT7_5, XT7_4, XT7_3, XT7_2, XT7_1]) rfl rfl hg
theorem awake16 {w : World} (hg : Xc.Good XC glob w.heap.size w) : Calls Tryz.prog 22 #[] w fun e w' => e = .returned (.bool true) ∧ Below w.heap.size w w' :=
  known XT8_ok (args := []) (f := 22) (v := .bool true) (by simp [XT8, XT8_4, XT8_3, XT8_2, XT8_1, XT7, XT7_5, XT7_4, XT7_3, XT7_2, XT7_1]) rfl rfl hg
end Go.Proofs.YtakdjflhhaefiaaGreatDoor
