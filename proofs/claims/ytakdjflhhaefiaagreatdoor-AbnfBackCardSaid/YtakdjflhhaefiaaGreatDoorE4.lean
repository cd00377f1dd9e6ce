/- AbnfBack: the law, from any good world. -/
import Derived.Test.YtakdjflhhaefiaaGreatDoorE3
import Derived.Test.YtakdjflhhaefiaaGreatDoorC8
import Derived.Test.YtakdjflhhaefiaaGreatDoorD0
namespace Go.Proofs.YtakdjflhhaefiaaGreatDoor
open Go.RowKit
theorem back_all (s : ByteArray) {w : World} (hg : Xc.Good XC glob w.heap.size w) (hv : VarsOk w) :
    Calls Tryz.prog 6 #[.string s] w fun e w' => e = .returned (.bool true) ∧ Below w.heap.size w w' :=
  back_with (fun s w h => parse_any s w h) s hg hv
end Go.Proofs.YtakdjflhhaefiaaGreatDoor
