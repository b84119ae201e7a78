/-
  TopTriangles: the facts that join the row and the program.
-/
import Derived.Test.YtnbcneiicnepcaaGreatDoorFD
import Derived.Test.YtnbcneiicnepcaaGreatDoorFE
import Derived.HandedShaped
import Derived.ProofKit
import Derived.Stop.Joined
import Derived.SevenTiedAt
namespace Go.Proofs.YtnbcneiicnepcaaGreatDoor.topTriangles
open Go.ChangeShapes Go.WideShapes Go.ChangeAt Go.RowKit

theorem closed : joinedFacts Tryz.pinned.checked.prog 3 Tryz.f3 Rows.topTrianglesSpec Rows.topTrianglesRow = true := by
  unfold joinedFacts
  simp only [j10, j11, j12, j13, Bool.and_true]
  kernel_rfl

end Go.Proofs.YtnbcneiicnepcaaGreatDoor.topTriangles
