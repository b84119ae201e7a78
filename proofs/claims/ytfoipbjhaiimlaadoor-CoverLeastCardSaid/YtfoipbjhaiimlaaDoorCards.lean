/-
  DERIVED. GIVEN WITH THE SEED: THE CARDS: each row of YtfoipbjhaiimlaaDoorRows.lean that lists a variable, with what it lists TIED to the program's text (the seventh form; the later family's looks); each row that meets fmt, with fmt's text TOLD by the authors' own Lean function (tested against real Go, not proved from fmt's source: count such statements apart). THE CARD IS WHAT COUNTS. Prove the row's statement (the work); the ties are given (YtfoipbjhaiimlaaDoorTie.lean); close each card by the builder's one call (the guide's Derived/Test/ToyasCard.lean, 'card_holds'). Laid BY PROGRAM, IN A SANDBOX (cutbox-door.mjs). By AI agents, Wed Nov 11 2026. No macro, syntax, notation, axiom, sorry.
-/
import Derived.Test.YtfoipbjhaiimlaaDoorRows
import GoSem.ClaimSeven
namespace Go.Proofs.YtfoipbjhaiimlaaDoor
namespace Rows

/-- THE TIED CARD OF 'graphdblaw31.CoverChecks'. -/
def coverChecksCard : Claim7 := { stood := { row := coverChecksRow, standIns := [], harness := (true, "bb95aa6e90f6328e412f3ffeeda5d8def093f81df064b52585cdff1672cd5392"), looks := false }, kinds := [], alts := [], laidByText := true, laidKinds := [.data], laidTests := true, laidLooks := .later }
def CoverChecksCardSaid : Prop := Claim7.holds Tryd.pinned (.plain (OpenSpec.ofChange coverChecksSpec)) coverChecksCard

/-- THE TIED CARD OF 'graphdblaw31.CoverFits'. -/
def coverFitsCard : Claim7 := { stood := { row := coverFitsRow, standIns := [], harness := (true, "bb95aa6e90f6328e412f3ffeeda5d8def093f81df064b52585cdff1672cd5392"), looks := false }, kinds := [], alts := [], laidByText := true, laidKinds := [.data], laidTests := true, laidLooks := .later }
def CoverFitsCardSaid : Prop := Claim7.holds Tryd.pinned (.plain (OpenSpec.ofChange coverFitsSpec)) coverFitsCard

/-- THE TIED CARD OF 'graphdblaw31.CoverLeast'. -/
def coverLeastCard : Claim7 := { stood := { row := coverLeastRow, standIns := [], harness := (true, "bb95aa6e90f6328e412f3ffeeda5d8def093f81df064b52585cdff1672cd5392"), looks := false }, kinds := [], alts := [], laidByText := true, laidKinds := [.data], laidTests := true, laidLooks := .later }
def CoverLeastCardSaid : Prop := Claim7.holds Tryd.pinned (.plain (OpenSpec.ofChange coverLeastSpec)) coverLeastCard

/-- THE TIED CARD OF 'graphdblaw31.CoverGreatest'. -/
def coverGreatestCard : Claim7 := { stood := { row := coverGreatestRow, standIns := [], harness := (true, "bb95aa6e90f6328e412f3ffeeda5d8def093f81df064b52585cdff1672cd5392"), looks := false }, kinds := [], alts := [], laidByText := true, laidKinds := [.data], laidTests := true, laidLooks := .later }
def CoverGreatestCardSaid : Prop := Claim7.holds Tryd.pinned (.plain (OpenSpec.ofChange coverGreatestSpec)) coverGreatestCard

/-- THE SECOND FORM's CARD OF 'graphdblaw31.CoverChecks'. -/
def coverChecksUptoCard : Claim7 := { stood := { row := coverChecksUptoRow, standIns := [], harness := (true, "bb95aa6e90f6328e412f3ffeeda5d8def093f81df064b52585cdff1672cd5392"), looks := false }, kinds := [], alts := [], laidByText := true, laidKinds := [.data], laidTests := true, laidLooks := .later }
def CoverChecksUptoCardSaid : Prop := Claim7.holds Tryd.pinned (.plain (OpenSpec.upto coverChecksSpec)) coverChecksUptoCard

/-- THE SECOND FORM's CARD OF 'graphdblaw31.CoverFits'. -/
def coverFitsUptoCard : Claim7 := { stood := { row := coverFitsUptoRow, standIns := [], harness := (true, "bb95aa6e90f6328e412f3ffeeda5d8def093f81df064b52585cdff1672cd5392"), looks := false }, kinds := [], alts := [], laidByText := true, laidKinds := [.data], laidTests := true, laidLooks := .later }
def CoverFitsUptoCardSaid : Prop := Claim7.holds Tryd.pinned (.plain (OpenSpec.upto coverFitsSpec)) coverFitsUptoCard

/-- THE SECOND FORM's CARD OF 'graphdblaw31.CoverLeast'. -/
def coverLeastUptoCard : Claim7 := { stood := { row := coverLeastUptoRow, standIns := [], harness := (true, "bb95aa6e90f6328e412f3ffeeda5d8def093f81df064b52585cdff1672cd5392"), looks := false }, kinds := [], alts := [], laidByText := true, laidKinds := [.data], laidTests := true, laidLooks := .later }
def CoverLeastUptoCardSaid : Prop := Claim7.holds Tryd.pinned (.plain (OpenSpec.upto coverLeastSpec)) coverLeastUptoCard

/-- THE SECOND FORM's CARD OF 'graphdblaw31.CoverGreatest'. -/
def coverGreatestUptoCard : Claim7 := { stood := { row := coverGreatestUptoRow, standIns := [], harness := (true, "bb95aa6e90f6328e412f3ffeeda5d8def093f81df064b52585cdff1672cd5392"), looks := false }, kinds := [], alts := [], laidByText := true, laidKinds := [.data], laidTests := true, laidLooks := .later }
def CoverGreatestUptoCardSaid : Prop := Claim7.holds Tryd.pinned (.plain (OpenSpec.upto coverGreatestSpec)) coverGreatestUptoCard
end Rows
end Go.Proofs.YtfoipbjhaiimlaaDoor
