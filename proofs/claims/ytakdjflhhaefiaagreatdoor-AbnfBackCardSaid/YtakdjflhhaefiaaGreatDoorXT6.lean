/- KNOWN CALLS: layer 10 -/
import Derived.Test.YtakdjflhhaefiaaGreatDoorXT5
namespace Go.Proofs.YtakdjflhhaefiaaGreatDoor
open Go.Xc
theorem XT6_1_r : arun (XC.with XT5) 100000 glob 142 [] = some (.bool true) := by kernel_rfl
noncomputable def XT6_1 : Tab := (142, .plain [] (.bool true)) :: XT5
theorem XT6_1_ok : Kept XT6_1 := kept XT5_ok _ _ _ _ XT6_1_r
noncomputable def XT6 : Tab := XT6_1
theorem XT6_ok : Kept XT6 := XT6_1_ok
end Go.Proofs.YtakdjflhhaefiaaGreatDoor
