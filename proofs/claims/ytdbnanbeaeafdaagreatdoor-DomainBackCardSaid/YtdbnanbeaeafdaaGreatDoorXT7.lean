/- KNOWN CALLS: layers 11 to 14 -/
import Derived.Test.YtdbnanbeaeafdaaGreatDoorXT6
namespace Go.Proofs.YtdbnanbeaeafdaaGreatDoor
open Go.Xc
theorem XT7_1_r : arun (XC.with XT6) 100000 glob 9 [] = some (.bool true) := by kernel_rfl
noncomputable def XT7_1 : Tab := (9, .plain [] (.bool true)) :: XT6
theorem XT7_1_ok : Kept XT7_1 := kept XT6_ok _ _ _ _ XT7_1_r
theorem XT7_2_r : arun (XC.with XT7_1) 100000 glob 43 [] = some (.bool true) := by kernel_rfl
noncomputable def XT7_2 : Tab := (43, .plain [] (.bool true)) :: XT7_1
theorem XT7_2_ok : Kept XT7_2 := kept XT7_1_ok _ _ _ _ XT7_2_r
theorem XT7_3_r : arun (XC.with XT7_2) 100000 glob 16 [] = some (.bool true) := by kernel_rfl
noncomputable def XT7_3 : Tab := (16, .plain [] (.bool true)) :: XT7_2
theorem XT7_3_ok : Kept XT7_3 := kept XT7_2_ok _ _ _ _ XT7_3_r
theorem XT7_4_r : arun (XC.with XT7_3) 100000 glob 126 [] = some (.bool true) := by kernel_rfl
noncomputable def XT7_4 : Tab := (126, .plain [] (.bool true)) :: XT7_3
theorem XT7_4_ok : Kept XT7_4 := kept XT7_3_ok _ _ _ _ XT7_4_r
theorem XT7_5_r : arun (XC.with XT7_4) 100000 glob 90 [] = some (.bool true) := by kernel_rfl
noncomputable def XT7_5 : Tab := (90, .plain [] (.bool true)) :: XT7_4
theorem XT7_5_ok : Kept XT7_5 := kept XT7_4_ok _ _ _ _ XT7_5_r
theorem XT7_6_r : arun (XC.with XT7_5) 100000 glob 59 [] = some (.bool true) := by kernel_rfl
noncomputable def XT7_6 : Tab := (59, .plain [] (.bool true)) :: XT7_5
theorem XT7_6_ok : Kept XT7_6 := kept XT7_5_ok _ _ _ _ XT7_6_r
theorem XT7_7_r : arun (XC.with XT7_6) 100000 glob 22 [] = some (.bool true) := by kernel_rfl
noncomputable def XT7_7 : Tab := (22, .plain [] (.bool true)) :: XT7_6
theorem XT7_7_ok : Kept XT7_7 := kept XT7_6_ok _ _ _ _ XT7_7_r
noncomputable def XT7 : Tab := XT7_7
theorem XT7_ok : Kept XT7 := XT7_7_ok
end Go.Proofs.YtdbnanbeaeafdaaGreatDoor
