/- THE LAYERS' OWN EXAMPLES, OUT OF WHATEVER WORLD HOLDS THE LAID VARIABLES. -/
import Derived.Test.YtdbnanbeaeafdaaGreatDoorXL
import Derived.Test.YtdbnanbeaeafdaaGreatDoorXT7
namespace Go.Proofs.YtdbnanbeaeafdaaGreatDoor
open Go.Xc Go.RowKit

theorem awake11 {w : World} (hg : Good XC glob w.heap.size w) : Calls Tryz.prog 9 #[] w fun e w' => e = .returned (.bool true) ∧ Below w.heap.size w w' :=
  known XT7_ok (args := []) (f := 9) (v := .bool true) (by simp [XT7, XT7_7, XT7_6, XT7_5, XT7_4, XT7_3, XT7_2, XT7_1]) rfl rfl hg
theorem awake12 {w : World} (hg : Good XC glob w.heap.size w) : Calls Tryz.prog 16 #[] w fun e w' => e = .returned (.bool true) ∧ Below w.heap.size w w' :=
  known XT7_ok (args := []) (f := 16) (v := .bool true) (by simp [XT7, XT7_7, XT7_6, XT7_5, XT7_4, XT7_3, XT7_2, XT7_1]) rfl rfl hg
theorem awake14 {w : World} (hg : Good XC glob w.heap.size w) : Calls Tryz.prog 22 #[] w fun e w' => e = .returned (.bool true) ∧ Below w.heap.size w w' :=
  known XT7_ok (args := []) (f := 22) (v := .bool true) (by simp [XT7, XT7_7, XT7_6, XT7_5, XT7_4, XT7_3, XT7_2, XT7_1]) rfl rfl hg
end Go.Proofs.YtdbnanbeaeafdaaGreatDoor
