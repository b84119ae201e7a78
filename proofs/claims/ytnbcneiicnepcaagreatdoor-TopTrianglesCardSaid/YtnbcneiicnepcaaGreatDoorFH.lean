/-
  TopTriangles: facts for the card (main, the function by its name, no stand-in).
-/
import Derived.Test.YtnbcneiicnepcaaGreatDoorRows
import Derived.Test.YtnbcneiicnepcaaGreatDoorTie
import Derived.Test.YtnbcneiicnepcaaGreatDoorCards
import Derived.SevenTiedAt
namespace Go.Proofs.YtnbcneiicnepcaaGreatDoor.topTriangles
open Go

theorem c1 : Tryz.pinned.checked.prog.mainIs = some (true, "4dcc733dfb26750ec528f66a3f080b1d0dbab10bb80c4e0be93c5d1bc52bdab9".toList) := by kernel_rfl
theorem c4 : ([25].all fun u => !Tryz.prog.wantsStandIn u) = true := by kernel_rfl
theorem c5 : Tryz.prog.funcNamed "graphdb/graphdbtop.TopTriangles" = some 3 := by kernel_rfl
theorem c6 : Rows.topTrianglesRow.wfByText (OpenSpec.ofChange Rows.topTrianglesSpec) = true := by kernel_rfl

end Go.Proofs.YtnbcneiicnepcaaGreatDoor.topTriangles
