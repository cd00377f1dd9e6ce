/- The two closed laws, out of whatever world holds the laid variables. -/
import Derived.Test.YtcnibnhoebckfaaGreatDoorXL
import Derived.Test.YtcnibnhoebckfaaGreatDoorXT10
namespace Go.Proofs.YtcnibnhoebckfaaGreatDoor
open Go.Xc Go.RowKit

theorem cacheNone_runs {w : World} (hg : Xc.Good XC glob w.heap.size w) : Calls Tryz.prog 3 #[] w fun e w' => e = .returned (.bool true) ∧ Below w.heap.size w w' :=
  known XT10_ok (args := []) (f := 3) (v := .bool true) (by simp [XT10, XT10_6, XT10_5, XT10_4, XT10_3, XT10_2, XT10_1]) rfl rfl hg
theorem answersNone_runs {w : World} (hg : Xc.Good XC glob w.heap.size w) : Calls Tryz.prog 4 #[] w fun e w' => e = .returned (.bool true) ∧ Below w.heap.size w w' :=
  known XT10_ok (args := []) (f := 4) (v := .bool true) (by simp [XT10, XT10_6, XT10_5, XT10_4, XT10_3, XT10_2, XT10_1]) rfl rfl hg
end Go.Proofs.YtcnibnhoebckfaaGreatDoor
