/-
  DERIVED. GIVEN WITH THE SEED: THE CARDS: each row of YtfoipbjhaiimlaaGreatDoorRows.lean that lists a variable, with what it lists TIED to the program's text (the seventh form; the later family's looks); each row that meets fmt, with fmt's text TOLD by the authors' own Lean function (tested against real Go, not proved from fmt's source: count such statements apart). THE CARD IS WHAT COUNTS. Prove the row's statement (the work); the ties are given (YtfoipbjhaiimlaaGreatDoorTie.lean); close each card by the builder's one call (the guide's Derived/Test/ToyasCard.lean, 'card_holds'). Laid BY PROGRAM, IN A SANDBOX (cutbox-door.mjs). By AI agents, Wed Nov 11 2026. No macro, syntax, notation, axiom, sorry.
-/
import Derived.Test.YtfoipbjhaiimlaaGreatDoorRows
import GoSem.ClaimSeven
namespace Go.Proofs.YtfoipbjhaiimlaaGreatDoor
namespace Rows

/-- THE TIED CARD OF 'graphdblaw31.CoverPrograms'. -/
def coverProgramsCard : Claim7 := { stood := { row := coverProgramsRow, standIns := [], harness := (true, "98df3f91f2a827442b591c0e3a703aa631d566f476e1d098bdd1453a0f4ebc70"), looks := false }, kinds := [], alts := [], laidByText := true, laidKinds := [.data], laidTests := true, laidLooks := .later }
def CoverProgramsCardSaid : Prop := Claim7.holds Tryz.pinned (.plain (OpenSpec.ofChange coverProgramsSpec)) coverProgramsCard

/-- THE TIED CARD OF 'graphdblaw31.CoverBounds'. -/
def coverBoundsCard : Claim7 := { stood := { row := coverBoundsRow, standIns := [], harness := (true, "98df3f91f2a827442b591c0e3a703aa631d566f476e1d098bdd1453a0f4ebc70"), looks := false }, kinds := [], alts := [], laidByText := true, laidKinds := [.data], laidTests := true, laidLooks := .later }
def CoverBoundsCardSaid : Prop := Claim7.holds Tryz.pinned (.plain (OpenSpec.ofChange coverBoundsSpec)) coverBoundsCard

/-- THE SECOND FORM's CARD OF 'graphdblaw31.CoverPrograms'. -/
def coverProgramsUptoCard : Claim7 := { stood := { row := coverProgramsUptoRow, standIns := [], harness := (true, "98df3f91f2a827442b591c0e3a703aa631d566f476e1d098bdd1453a0f4ebc70"), looks := false }, kinds := [], alts := [], laidByText := true, laidKinds := [.data], laidTests := true, laidLooks := .later }
def CoverProgramsUptoCardSaid : Prop := Claim7.holds Tryz.pinned (.plain (OpenSpec.upto coverProgramsSpec)) coverProgramsUptoCard

/-- THE SECOND FORM's CARD OF 'graphdblaw31.CoverBounds'. -/
def coverBoundsUptoCard : Claim7 := { stood := { row := coverBoundsUptoRow, standIns := [], harness := (true, "98df3f91f2a827442b591c0e3a703aa631d566f476e1d098bdd1453a0f4ebc70"), looks := false }, kinds := [], alts := [], laidByText := true, laidKinds := [.data], laidTests := true, laidLooks := .later }
def CoverBoundsUptoCardSaid : Prop := Claim7.holds Tryz.pinned (.plain (OpenSpec.upto coverBoundsSpec)) coverBoundsUptoCard
end Rows
end Go.Proofs.YtfoipbjhaiimlaaGreatDoor
