/-
  DERIVED. GIVEN WITH THE SEED: THE CARDS: each row of YtnbcneiicnepcaaGreatDoorRows.lean that lists a variable, with what it lists TIED to the program's text (the seventh form; the later family's looks); each row that meets fmt, with fmt's text TOLD by the authors' own Lean function (tested against real Go, not proved from fmt's source: count such statements apart). THE CARD IS WHAT COUNTS. Prove the row's statement (the work); the ties are given (YtnbcneiicnepcaaGreatDoorTie.lean); close each card by the builder's one call (the guide's Derived/Test/ToyasCard.lean, 'card_holds'). Laid BY PROGRAM, IN A SANDBOX (cutbox-door.mjs). By AI agents, Wed Nov 11 2026. No macro, syntax, notation, axiom, sorry.
-/
import Derived.Test.YtnbcneiicnepcaaGreatDoorRows
import GoSem.ClaimSeven
namespace Go.Proofs.YtnbcneiicnepcaaGreatDoor
namespace Rows

/-- THE TIED CARD OF 'graphdbtop.TopTriangles'. -/
def topTrianglesCard : Claim7 := { stood := { row := topTrianglesRow, standIns := [], harness := (true, "4dcc733dfb26750ec528f66a3f080b1d0dbab10bb80c4e0be93c5d1bc52bdab9"), looks := true }, kinds := [], alts := [], laidByText := true, laidKinds := [.data, .data, .data, .data, .data, .pinned], laidTests := true, laidLooks := .later }
def TopTrianglesCardSaid : Prop := Claim7.holds Tryz.pinned (.plain (OpenSpec.ofChange topTrianglesSpec)) topTrianglesCard

/-- THE SECOND FORM's CARD OF 'graphdbtop.TopTriangles'. -/
def topTrianglesUptoCard : Claim7 := { stood := { row := topTrianglesUptoRow, standIns := [], harness := (true, "4dcc733dfb26750ec528f66a3f080b1d0dbab10bb80c4e0be93c5d1bc52bdab9"), looks := true }, kinds := [], alts := [], laidByText := true, laidKinds := [.data, .data, .data, .data, .data, .pinned], laidTests := true, laidLooks := .later }
def TopTrianglesUptoCardSaid : Prop := Claim7.holds Tryz.pinned (.plain (OpenSpec.upto topTrianglesSpec)) topTrianglesUptoCard
end Rows
end Go.Proofs.YtnbcneiicnepcaaGreatDoor
