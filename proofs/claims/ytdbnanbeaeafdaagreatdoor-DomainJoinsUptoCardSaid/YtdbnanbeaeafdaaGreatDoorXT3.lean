/- KNOWN CALLS: the tries own examples -/
import Derived.Test.YtdbnanbeaeafdaaGreatDoorXT2
namespace Go.Proofs.YtdbnanbeaeafdaaGreatDoor
open Go.Xc
theorem XT3_1_r : arun (XC.with XT2) 100000 glob 195 [] = some (.bool true) := by kernel_rfl
def XT3_1 : Tab := (195, .plain [] (.bool true)) :: XT2
theorem XT3_1_ok : Kept XT3_1 := kept XT2_ok _ _ _ _ XT3_1_r
def XT3 : Tab := XT3_1
theorem XT3_ok : Kept XT3 := XT3_1_ok
end Go.Proofs.YtdbnanbeaeafdaaGreatDoor
