/- KNOWN CALLS: layer 9 -/
import Derived.Test.YtdbnanbeaeafdaaGreatDoorXT3
namespace Go.Proofs.YtdbnanbeaeafdaaGreatDoor
open Go.Xc
theorem XT4_1_r : arun (XC.with XT3) 100000 glob 108 [] = some (.bool true) := by kernel_rfl
def XT4_1 : Tab := (108, .plain [] (.bool true)) :: XT3
theorem XT4_1_ok : Kept XT4_1 := kept XT3_ok _ _ _ _ XT4_1_r
def XT4 : Tab := XT4_1
theorem XT4_ok : Kept XT4 := XT4_1_ok
end Go.Proofs.YtdbnanbeaeafdaaGreatDoor
