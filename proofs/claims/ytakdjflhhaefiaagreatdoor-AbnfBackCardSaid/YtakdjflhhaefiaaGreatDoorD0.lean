/- internal/bytealg's variable holds a whole number in every world of the program's shape. -/
import Derived.Test.YtakdjflhhaefiaaGreatDoorChecked
import Derived.Shelf.LaysM
namespace Go.Proofs.YtakdjflhhaefiaaGreatDoor
theorem max_of_shape {w : World} (h : w.ShapedOpen Tryz.prog) : ∃ m, w.cell? ⟨0, 0, none⟩ = some (.int .i64 m) :=
  Go.Proofs.cell_of_shapedOpen_int (zero := #[.int .i64 0]) (t := 3) h (of_decide_eq_true (by kernel_rfl)) (by kernel_rfl) rfl (by kernel_rfl) (by kernel_rfl) Tryz.underlying3
end Go.Proofs.YtakdjflhhaefiaaGreatDoor
