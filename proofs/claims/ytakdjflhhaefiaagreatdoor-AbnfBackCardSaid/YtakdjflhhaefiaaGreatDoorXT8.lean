/- KNOWN CALLS: layers 15, 16 -/
import Derived.Test.YtakdjflhhaefiaaGreatDoorXT7
namespace Go.Proofs.YtakdjflhhaefiaaGreatDoor
open Go.Xc
theorem XT8_1_r : arun (XC.with XT7) 100000 glob 17 [] = some (.bool true) := by kernel_rfl
noncomputable def XT8_1 : Tab := (17, .plain [] (.bool true)) :: XT7
theorem XT8_1_ok : Kept XT8_1 := kept XT7_ok _ _ _ _ XT8_1_r
theorem XT8_2_r : arun (XC.with XT8_1) 100000 glob 73 [] = some (.bool true) := by kernel_rfl
noncomputable def XT8_2 : Tab := (73, .plain [] (.bool true)) :: XT8_1
theorem XT8_2_ok : Kept XT8_2 := kept XT8_1_ok _ _ _ _ XT8_2_r
theorem XT8_3_r : arun (XC.with XT8_2) 100000 glob 22 [] = some (.bool true) := by kernel_rfl
noncomputable def XT8_3 : Tab := (22, .plain [] (.bool true)) :: XT8_2
theorem XT8_3_ok : Kept XT8_3 := kept XT8_2_ok _ _ _ _ XT8_3_r
theorem XT8_4_r : arun (XC.with XT8_3) 100000 glob 81 [] = some (.bool true) := by kernel_rfl
noncomputable def XT8_4 : Tab := (81, .plain [] (.bool true)) :: XT8_3
theorem XT8_4_ok : Kept XT8_4 := kept XT8_3_ok _ _ _ _ XT8_4_r
noncomputable def XT8 : Tab := XT8_4
theorem XT8_ok : Kept XT8 := XT8_4_ok
end Go.Proofs.YtakdjflhhaefiaaGreatDoor
