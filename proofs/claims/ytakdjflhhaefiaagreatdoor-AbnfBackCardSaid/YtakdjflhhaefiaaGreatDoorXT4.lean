/- KNOWN CALLS: layer 9 -/
import Derived.Test.YtakdjflhhaefiaaGreatDoorXT3
namespace Go.Proofs.YtakdjflhhaefiaaGreatDoor
open Go.Xc
theorem XT4_1_r : arun (XC.with XT3) 100000 glob 183 [] = some (.bool true) := by kernel_rfl
noncomputable def XT4_1 : Tab := (183, .plain [] (.bool true)) :: XT3
theorem XT4_1_ok : Kept XT4_1 := kept XT3_ok _ _ _ _ XT4_1_r
noncomputable def XT4 : Tab := XT4_1
theorem XT4_ok : Kept XT4 := XT4_1_ok
end Go.Proofs.YtakdjflhhaefiaaGreatDoor
