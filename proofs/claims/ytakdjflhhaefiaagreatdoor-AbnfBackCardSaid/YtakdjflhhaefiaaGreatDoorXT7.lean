/- KNOWN CALLS: layers 11 to 14 -/
import Derived.Test.YtakdjflhhaefiaaGreatDoorXT6
namespace Go.Proofs.YtakdjflhhaefiaaGreatDoor
open Go.Xc
theorem XT7_1_r : arun (XC.with XT6) 100000 glob 36 [] = some (.bool true) := by kernel_rfl
noncomputable def XT7_1 : Tab := (36, .plain [] (.bool true)) :: XT6
theorem XT7_1_ok : Kept XT7_1 := kept XT6_ok _ _ _ _ XT7_1_r
theorem XT7_2_r : arun (XC.with XT7_1) 100000 glob 11 [] = some (.bool true) := by kernel_rfl
noncomputable def XT7_2 : Tab := (11, .plain [] (.bool true)) :: XT7_1
theorem XT7_2_ok : Kept XT7_2 := kept XT7_1_ok _ _ _ _ XT7_2_r
theorem XT7_3_r : arun (XC.with XT7_2) 100000 glob 192 [] = some (.bool true) := by kernel_rfl
noncomputable def XT7_3 : Tab := (192, .plain [] (.bool true)) :: XT7_2
theorem XT7_3_ok : Kept XT7_3 := kept XT7_2_ok _ _ _ _ XT7_3_r
theorem XT7_4_r : arun (XC.with XT7_3) 100000 glob 157 [] = some (.bool true) := by kernel_rfl
noncomputable def XT7_4 : Tab := (157, .plain [] (.bool true)) :: XT7_3
theorem XT7_4_ok : Kept XT7_4 := kept XT7_3_ok _ _ _ _ XT7_4_r
theorem XT7_5_r : arun (XC.with XT7_4) 100000 glob 55 [] = some (.bool true) := by kernel_rfl
noncomputable def XT7_5 : Tab := (55, .plain [] (.bool true)) :: XT7_4
theorem XT7_5_ok : Kept XT7_5 := kept XT7_4_ok _ _ _ _ XT7_5_r
noncomputable def XT7 : Tab := XT7_5
theorem XT7_ok : Kept XT7 := XT7_5_ok
end Go.Proofs.YtakdjflhhaefiaaGreatDoor
