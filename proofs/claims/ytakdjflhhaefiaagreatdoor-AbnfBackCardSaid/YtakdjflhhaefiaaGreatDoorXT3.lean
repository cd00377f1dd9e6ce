/- KNOWN CALLS: the tries own examples -/
import Derived.Test.YtakdjflhhaefiaaGreatDoorXT2
namespace Go.Proofs.YtakdjflhhaefiaaGreatDoor
open Go.Xc
theorem XT3_1_r : arun (XC.with XT2) 100000 glob 234 [] = some (.bool true) := by kernel_rfl
noncomputable def XT3_1 : Tab := (234, .plain [] (.bool true)) :: XT2
theorem XT3_1_ok : Kept XT3_1 := kept XT2_ok _ _ _ _ XT3_1_r
noncomputable def XT3 : Tab := XT3_1
theorem XT3_ok : Kept XT3 := XT3_1_ok
end Go.Proofs.YtakdjflhhaefiaaGreatDoor
