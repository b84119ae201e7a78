/-
  The world's shape gives MaxLen's cell.
-/
import Derived.Test.YthcfnaglgoaikaaGreatReserved
import Derived.Shelf.Vars
namespace Go.Proofs.YthcfnaglgoaikaaGreat
open Go.RowKit

theorem hasMax_of {w : World} (h : w.ShapedOpen Tryz.prog) : HasMax w :=
  Go.Proofs.cell_of_shapedOpen_int (g := 0) (zero := #[.int .i64 0]) (t := 3) h (of_decide_eq_true (by kernel_rfl)) (by kernel_rfl) rfl (by kernel_rfl) (by kernel_rfl) Tryz.underlying3

end Go.Proofs.YthcfnaglgoaikaaGreat
