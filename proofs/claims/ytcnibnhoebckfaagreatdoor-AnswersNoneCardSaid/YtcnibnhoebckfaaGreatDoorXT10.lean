/- KNOWN CALLS: layers 19 to 21; the two laws -/
import Derived.Test.YtcnibnhoebckfaaGreatDoorXT9
namespace Go.Proofs.YtcnibnhoebckfaaGreatDoor
open Go.Xc
theorem XT10_1_r : arun (XC.with XT9) 100000 glob 20 [] = some (.bool true) := by kernel_rfl
noncomputable def XT10_1 : Tab := (20, .plain [] (.bool true)) :: XT9
theorem XT10_1_ok : Kept XT10_1 := kept XT9_ok _ _ _ _ XT10_1_r
theorem XT10_2_r : arun (XC.with XT10_1) 100000 glob 6 [] = some (.bool true) := by kernel_rfl
noncomputable def XT10_2 : Tab := (6, .plain [] (.bool true)) :: XT10_1
theorem XT10_2_ok : Kept XT10_2 := kept XT10_1_ok _ _ _ _ XT10_2_r
theorem XT10_3_r : arun (XC.with XT10_2) 100000 glob 27 [] = some (.bool true) := by kernel_rfl
noncomputable def XT10_3 : Tab := (27, .plain [] (.bool true)) :: XT10_2
theorem XT10_3_ok : Kept XT10_3 := kept XT10_2_ok _ _ _ _ XT10_3_r
theorem XT10_4_r : arun (XC.with XT10_3) 100000 glob 3 [] = some (.bool true) := by kernel_rfl
noncomputable def XT10_4 : Tab := (3, .plain [] (.bool true)) :: XT10_3
theorem XT10_4_ok : Kept XT10_4 := kept XT10_3_ok _ _ _ _ XT10_4_r
theorem XT10_5_r : arun (XC.with XT10_4) 100000 glob 14 [] = some (.bool true) := by kernel_rfl
noncomputable def XT10_5 : Tab := (14, .plain [] (.bool true)) :: XT10_4
theorem XT10_5_ok : Kept XT10_5 := kept XT10_4_ok _ _ _ _ XT10_5_r
theorem XT10_6_r : arun (XC.with XT10_5) 100000 glob 4 [] = some (.bool true) := by kernel_rfl
noncomputable def XT10_6 : Tab := (4, .plain [] (.bool true)) :: XT10_5
theorem XT10_6_ok : Kept XT10_6 := kept XT10_5_ok _ _ _ _ XT10_6_r
noncomputable def XT10 : Tab := XT10_6
theorem XT10_ok : Kept XT10 := XT10_6_ok
end Go.Proofs.YtcnibnhoebckfaaGreatDoor
