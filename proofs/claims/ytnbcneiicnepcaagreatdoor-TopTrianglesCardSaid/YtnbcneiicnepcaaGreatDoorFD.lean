/-
  TopTriangles: two facts of the row, of the program.
-/
import Derived.Test.YtnbcneiicnepcaaGreatDoorRows
import Derived.HandedShaped
import Derived.ProofKit
import Derived.Stop.Joined
import Derived.SevenTiedAt
namespace Go.Proofs.YtnbcneiicnepcaaGreatDoor.topTriangles
open Go.ChangeShapes Go.WideShapes Go.ChangeAt Go.RowKit

theorem j10 : (Rows.topTrianglesRow.inPlace == Tryz.pinned.checked.prog.inPlace 3) = true := by kernel_rfl
theorem j11 : (Rows.topTrianglesRow.unfollowed == Tryz.pinned.checked.prog.unfollowed 3) = true := by kernel_rfl

end Go.Proofs.YtnbcneiicnepcaaGreatDoor.topTriangles
