/-
  TopTriangles: two more facts of the row, of the program.
-/
import Derived.Test.YtnbcneiicnepcaaGreatDoorRows
import Derived.HandedShaped
import Derived.ProofKit
import Derived.Stop.Joined
import Derived.SevenTiedAt
namespace Go.Proofs.YtnbcneiicnepcaaGreatDoor.topTriangles
open Go.ChangeShapes Go.WideShapes Go.ChangeAt Go.RowKit

theorem j12 : (Rows.topTrianglesRow.recurses == Tryz.pinned.checked.prog.recurses 3) = true := by kernel_rfl
theorem j13 : (Rows.topTrianglesRow.named == Tryz.pinned.checked.prog.varsNamed 3) = true := by kernel_rfl

end Go.Proofs.YtnbcneiicnepcaaGreatDoor.topTriangles
