/-
  TopTriangles: what the program looks at (for the card).
-/
import Derived.Test.YtnbcneiicnepcaaGreatDoorRows
import Derived.Test.YtnbcneiicnepcaaGreatDoorTie
import Derived.Test.YtnbcneiicnepcaaGreatDoorCards
import Derived.SevenTiedAt
namespace Go.Proofs.YtnbcneiicnepcaaGreatDoor.topTriangles
open Go

theorem c2 : true = Tryz.pinned.checked.prog.looks [] := by kernel_rfl

end Go.Proofs.YtnbcneiicnepcaaGreatDoor.topTriangles
