/-
  DERIVED. GIVEN WITH THE SEED: THE CARDS: each row of YtankjfiaajpfoaaDoorRows.lean that lists a variable, with what it lists TIED to the program's text (the seventh form; the later family's looks); each row that meets fmt, with fmt's text TOLD by the authors' own Lean function (tested against real Go, not proved from fmt's source: count such statements apart). THE CARD IS WHAT COUNTS. Prove the row's statement (the work); the ties are given (YtankjfiaajpfoaaDoorTie.lean); close each card by the builder's one call (the guide's Derived/Test/ToyasCard.lean, 'card_holds'). Laid BY PROGRAM, IN A SANDBOX (cutbox-door.mjs). By AI agents, Wed Nov 11 2026. No macro, syntax, notation, axiom, sorry.
-/
import Derived.Test.YtankjfiaajpfoaaDoorRows
import GoSem.ClaimSeven
namespace Go.Proofs.YtankjfiaajpfoaaDoor
namespace Rows

/-- THE TIED CARD OF 'graphdblaw02.NatPows'. -/
def natPowsCard : Claim7 := { stood := { row := natPowsRow, standIns := [], harness := (true, "5449669041e19ff581ebfd4fe400c7ecdcca709a17f5378b3333fc9e70396721"), looks := false }, kinds := [], alts := [], laidByText := true, laidKinds := [.data, .data, .data], laidTests := true, laidLooks := .later }
def NatPowsCardSaid : Prop := Claim7.holds Tryd.pinned (.plain (OpenSpec.ofChange natPowsSpec)) natPowsCard

/-- THE TIED CARD OF 'graphdblaw02.NatSteps'. -/
def natStepsCard : Claim7 := { stood := { row := natStepsRow, standIns := [], harness := (true, "5449669041e19ff581ebfd4fe400c7ecdcca709a17f5378b3333fc9e70396721"), looks := false }, kinds := [], alts := [], laidByText := true, laidKinds := [.data, .data, .data], laidTests := true, laidLooks := .later }
def NatStepsCardSaid : Prop := Claim7.holds Tryd.pinned (.plain (OpenSpec.ofChange natStepsSpec)) natStepsCard

/-- THE TIED CARD OF 'graphdblaw02.NatTexts'. -/
def natTextsCard : Claim7 := { stood := { row := natTextsRow, standIns := [], harness := (true, "5449669041e19ff581ebfd4fe400c7ecdcca709a17f5378b3333fc9e70396721"), looks := false }, kinds := [], alts := [], laidByText := true, laidKinds := [.data, .data, .data], laidTests := true, laidLooks := .later }
def NatTextsCardSaid : Prop := Claim7.holds Tryd.pinned (.plain (OpenSpec.ofChange natTextsSpec)) natTextsCard

/-- THE TIED CARD OF 'graphdblaw02.NatRing'. -/
def natRingCard : Claim7 := { stood := { row := natRingRow, standIns := [], harness := (true, "5449669041e19ff581ebfd4fe400c7ecdcca709a17f5378b3333fc9e70396721"), looks := false }, kinds := [], alts := [], laidByText := true, laidKinds := [.data, .data, .data], laidTests := true, laidLooks := .later }
def NatRingCardSaid : Prop := Claim7.holds Tryd.pinned (.plain (OpenSpec.ofChange natRingSpec)) natRingCard

/-- THE TIED CARD OF 'graphdblaw02.NatOrders'. -/
def natOrdersCard : Claim7 := { stood := { row := natOrdersRow, standIns := [], harness := (true, "5449669041e19ff581ebfd4fe400c7ecdcca709a17f5378b3333fc9e70396721"), looks := false }, kinds := [], alts := [], laidByText := true, laidKinds := [.data, .data, .data], laidTests := true, laidLooks := .later }
def NatOrdersCardSaid : Prop := Claim7.holds Tryd.pinned (.plain (OpenSpec.ofChange natOrdersSpec)) natOrdersCard

/-- THE TIED CARD OF 'graphdblaw02.NatBack'. -/
def natBackCard : Claim7 := { stood := { row := natBackRow, standIns := [], harness := (true, "5449669041e19ff581ebfd4fe400c7ecdcca709a17f5378b3333fc9e70396721"), looks := false }, kinds := [], alts := [], laidByText := true, laidKinds := [.data, .data, .data], laidTests := true, laidLooks := .later }
def NatBackCardSaid : Prop := Claim7.holds Tryd.pinned (.plain (OpenSpec.ofChange natBackSpec)) natBackCard

/-- THE TIED CARD OF 'graphdblaw02.NatTells'. -/
def natTellsCard : Claim7 := { stood := { row := natTellsRow, standIns := [], harness := (true, "5449669041e19ff581ebfd4fe400c7ecdcca709a17f5378b3333fc9e70396721"), looks := false }, kinds := [], alts := [], laidByText := true, laidKinds := [.data, .data, .data], laidTests := true, laidLooks := .later }
def NatTellsCardSaid : Prop := Claim7.holds Tryd.pinned (.plain (OpenSpec.ofChange natTellsSpec)) natTellsCard

/-- THE SECOND FORM's CARD OF 'graphdblaw02.NatPows'. -/
def natPowsUptoCard : Claim7 := { stood := { row := natPowsUptoRow, standIns := [], harness := (true, "5449669041e19ff581ebfd4fe400c7ecdcca709a17f5378b3333fc9e70396721"), looks := false }, kinds := [], alts := [], laidByText := true, laidKinds := [.data, .data, .data], laidTests := true, laidLooks := .later }
def NatPowsUptoCardSaid : Prop := Claim7.holds Tryd.pinned (.plain (OpenSpec.upto natPowsSpec)) natPowsUptoCard

/-- THE SECOND FORM's CARD OF 'graphdblaw02.NatSteps'. -/
def natStepsUptoCard : Claim7 := { stood := { row := natStepsUptoRow, standIns := [], harness := (true, "5449669041e19ff581ebfd4fe400c7ecdcca709a17f5378b3333fc9e70396721"), looks := false }, kinds := [], alts := [], laidByText := true, laidKinds := [.data, .data, .data], laidTests := true, laidLooks := .later }
def NatStepsUptoCardSaid : Prop := Claim7.holds Tryd.pinned (.plain (OpenSpec.upto natStepsSpec)) natStepsUptoCard

/-- THE SECOND FORM's CARD OF 'graphdblaw02.NatTexts'. -/
def natTextsUptoCard : Claim7 := { stood := { row := natTextsUptoRow, standIns := [], harness := (true, "5449669041e19ff581ebfd4fe400c7ecdcca709a17f5378b3333fc9e70396721"), looks := false }, kinds := [], alts := [], laidByText := true, laidKinds := [.data, .data, .data], laidTests := true, laidLooks := .later }
def NatTextsUptoCardSaid : Prop := Claim7.holds Tryd.pinned (.plain (OpenSpec.upto natTextsSpec)) natTextsUptoCard

/-- THE SECOND FORM's CARD OF 'graphdblaw02.NatRing'. -/
def natRingUptoCard : Claim7 := { stood := { row := natRingUptoRow, standIns := [], harness := (true, "5449669041e19ff581ebfd4fe400c7ecdcca709a17f5378b3333fc9e70396721"), looks := false }, kinds := [], alts := [], laidByText := true, laidKinds := [.data, .data, .data], laidTests := true, laidLooks := .later }
def NatRingUptoCardSaid : Prop := Claim7.holds Tryd.pinned (.plain (OpenSpec.upto natRingSpec)) natRingUptoCard

/-- THE SECOND FORM's CARD OF 'graphdblaw02.NatOrders'. -/
def natOrdersUptoCard : Claim7 := { stood := { row := natOrdersUptoRow, standIns := [], harness := (true, "5449669041e19ff581ebfd4fe400c7ecdcca709a17f5378b3333fc9e70396721"), looks := false }, kinds := [], alts := [], laidByText := true, laidKinds := [.data, .data, .data], laidTests := true, laidLooks := .later }
def NatOrdersUptoCardSaid : Prop := Claim7.holds Tryd.pinned (.plain (OpenSpec.upto natOrdersSpec)) natOrdersUptoCard

/-- THE SECOND FORM's CARD OF 'graphdblaw02.NatBack'. -/
def natBackUptoCard : Claim7 := { stood := { row := natBackUptoRow, standIns := [], harness := (true, "5449669041e19ff581ebfd4fe400c7ecdcca709a17f5378b3333fc9e70396721"), looks := false }, kinds := [], alts := [], laidByText := true, laidKinds := [.data, .data, .data], laidTests := true, laidLooks := .later }
def NatBackUptoCardSaid : Prop := Claim7.holds Tryd.pinned (.plain (OpenSpec.upto natBackSpec)) natBackUptoCard

/-- THE SECOND FORM's CARD OF 'graphdblaw02.NatTells'. -/
def natTellsUptoCard : Claim7 := { stood := { row := natTellsUptoRow, standIns := [], harness := (true, "5449669041e19ff581ebfd4fe400c7ecdcca709a17f5378b3333fc9e70396721"), looks := false }, kinds := [], alts := [], laidByText := true, laidKinds := [.data, .data, .data], laidTests := true, laidLooks := .later }
def NatTellsUptoCardSaid : Prop := Claim7.holds Tryd.pinned (.plain (OpenSpec.upto natTellsSpec)) natTellsUptoCard
end Rows
end Go.Proofs.YtankjfiaajpfoaaDoor
