/-
  DERIVED. GIVEN WITH THE SEED: THE CARDS: each row of YtifbaegnkodneaaDoorRows.lean that lists a variable, with what it lists TIED to the program's text (the seventh form; the later family's looks); each row that meets fmt, with fmt's text TOLD by the authors' own Lean function (tested against real Go, not proved from fmt's source: count such statements apart). THE CARD IS WHAT COUNTS. Prove the row's statement (the work); the ties are given (YtifbaegnkodneaaDoorTie.lean); close each card by the builder's one call (the guide's Derived/Test/ToyasCard.lean, 'card_holds'). Laid BY PROGRAM, IN A SANDBOX (cutbox-door.mjs). By AI agents, Wed Nov 11 2026. No macro, syntax, notation, axiom, sorry.
-/
import Derived.Test.YtifbaegnkodneaaDoorRows
import GoSem.ClaimSeven
namespace Go.Proofs.YtifbaegnkodneaaDoor
namespace Rows

/-- THE TIED CARD OF 'graphdblaw30.SimplexReads'. -/
def simplexReadsCard : Claim7 := { stood := { row := simplexReadsRow, standIns := [], harness := (true, "dfd2c61595e3955062dcfd3d9cc6adee7af6c587c53f4296e50fe43d90ac35e3"), looks := false }, kinds := [], alts := [], laidByText := true, laidKinds := [.data], laidTests := true, laidLooks := .later }
def SimplexReadsCardSaid : Prop := Claim7.holds Tryd.pinned (.plain (OpenSpec.ofChange simplexReadsSpec)) simplexReadsCard

/-- THE TIED CARD OF 'graphdblaw30.SimplexSolve'. -/
def simplexSolveCard : Claim7 := { stood := { row := simplexSolveRow, standIns := [], harness := (true, "dfd2c61595e3955062dcfd3d9cc6adee7af6c587c53f4296e50fe43d90ac35e3"), looks := false }, kinds := [], alts := [], laidByText := true, laidKinds := [.data], laidTests := true, laidLooks := .later }
def SimplexSolveCardSaid : Prop := Claim7.holds Tryd.pinned (.plain (OpenSpec.ofChange simplexSolveSpec)) simplexSolveCard

/-- THE TIED CARD OF 'graphdblaw30.SimplexBest'. -/
def simplexBestCard : Claim7 := { stood := { row := simplexBestRow, standIns := [], harness := (true, "dfd2c61595e3955062dcfd3d9cc6adee7af6c587c53f4296e50fe43d90ac35e3"), looks := false }, kinds := [], alts := [], laidByText := true, laidKinds := [.data], laidTests := true, laidLooks := .later }
def SimplexBestCardSaid : Prop := Claim7.holds Tryd.pinned (.plain (OpenSpec.ofChange simplexBestSpec)) simplexBestCard

/-- THE TIED CARD OF 'graphdblaw30.SimplexDuality'. -/
def simplexDualityCard : Claim7 := { stood := { row := simplexDualityRow, standIns := [], harness := (true, "dfd2c61595e3955062dcfd3d9cc6adee7af6c587c53f4296e50fe43d90ac35e3"), looks := false }, kinds := [], alts := [], laidByText := true, laidKinds := [.data], laidTests := true, laidLooks := .later }
def SimplexDualityCardSaid : Prop := Claim7.holds Tryd.pinned (.plain (OpenSpec.ofChange simplexDualitySpec)) simplexDualityCard

/-- THE TIED CARD OF 'graphdblaw30.SimplexTwice'. -/
def simplexTwiceCard : Claim7 := { stood := { row := simplexTwiceRow, standIns := [], harness := (true, "dfd2c61595e3955062dcfd3d9cc6adee7af6c587c53f4296e50fe43d90ac35e3"), looks := false }, kinds := [], alts := [], laidByText := true, laidKinds := [.data], laidTests := true, laidLooks := .later }
def SimplexTwiceCardSaid : Prop := Claim7.holds Tryd.pinned (.plain (OpenSpec.ofChange simplexTwiceSpec)) simplexTwiceCard

/-- THE TIED CARD OF 'graphdblaw30.SimplexScaled'. -/
def simplexScaledCard : Claim7 := { stood := { row := simplexScaledRow, standIns := [], harness := (true, "dfd2c61595e3955062dcfd3d9cc6adee7af6c587c53f4296e50fe43d90ac35e3"), looks := false }, kinds := [], alts := [], laidByText := true, laidKinds := [.data], laidTests := true, laidLooks := .later }
def SimplexScaledCardSaid : Prop := Claim7.holds Tryd.pinned (.plain (OpenSpec.ofChange simplexScaledSpec)) simplexScaledCard

/-- THE SECOND FORM's CARD OF 'graphdblaw30.SimplexReads'. -/
def simplexReadsUptoCard : Claim7 := { stood := { row := simplexReadsUptoRow, standIns := [], harness := (true, "dfd2c61595e3955062dcfd3d9cc6adee7af6c587c53f4296e50fe43d90ac35e3"), looks := false }, kinds := [], alts := [], laidByText := true, laidKinds := [.data], laidTests := true, laidLooks := .later }
def SimplexReadsUptoCardSaid : Prop := Claim7.holds Tryd.pinned (.plain (OpenSpec.upto simplexReadsSpec)) simplexReadsUptoCard

/-- THE SECOND FORM's CARD OF 'graphdblaw30.SimplexSolve'. -/
def simplexSolveUptoCard : Claim7 := { stood := { row := simplexSolveUptoRow, standIns := [], harness := (true, "dfd2c61595e3955062dcfd3d9cc6adee7af6c587c53f4296e50fe43d90ac35e3"), looks := false }, kinds := [], alts := [], laidByText := true, laidKinds := [.data], laidTests := true, laidLooks := .later }
def SimplexSolveUptoCardSaid : Prop := Claim7.holds Tryd.pinned (.plain (OpenSpec.upto simplexSolveSpec)) simplexSolveUptoCard

/-- THE SECOND FORM's CARD OF 'graphdblaw30.SimplexBest'. -/
def simplexBestUptoCard : Claim7 := { stood := { row := simplexBestUptoRow, standIns := [], harness := (true, "dfd2c61595e3955062dcfd3d9cc6adee7af6c587c53f4296e50fe43d90ac35e3"), looks := false }, kinds := [], alts := [], laidByText := true, laidKinds := [.data], laidTests := true, laidLooks := .later }
def SimplexBestUptoCardSaid : Prop := Claim7.holds Tryd.pinned (.plain (OpenSpec.upto simplexBestSpec)) simplexBestUptoCard

/-- THE SECOND FORM's CARD OF 'graphdblaw30.SimplexDuality'. -/
def simplexDualityUptoCard : Claim7 := { stood := { row := simplexDualityUptoRow, standIns := [], harness := (true, "dfd2c61595e3955062dcfd3d9cc6adee7af6c587c53f4296e50fe43d90ac35e3"), looks := false }, kinds := [], alts := [], laidByText := true, laidKinds := [.data], laidTests := true, laidLooks := .later }
def SimplexDualityUptoCardSaid : Prop := Claim7.holds Tryd.pinned (.plain (OpenSpec.upto simplexDualitySpec)) simplexDualityUptoCard

/-- THE SECOND FORM's CARD OF 'graphdblaw30.SimplexTwice'. -/
def simplexTwiceUptoCard : Claim7 := { stood := { row := simplexTwiceUptoRow, standIns := [], harness := (true, "dfd2c61595e3955062dcfd3d9cc6adee7af6c587c53f4296e50fe43d90ac35e3"), looks := false }, kinds := [], alts := [], laidByText := true, laidKinds := [.data], laidTests := true, laidLooks := .later }
def SimplexTwiceUptoCardSaid : Prop := Claim7.holds Tryd.pinned (.plain (OpenSpec.upto simplexTwiceSpec)) simplexTwiceUptoCard

/-- THE SECOND FORM's CARD OF 'graphdblaw30.SimplexScaled'. -/
def simplexScaledUptoCard : Claim7 := { stood := { row := simplexScaledUptoRow, standIns := [], harness := (true, "dfd2c61595e3955062dcfd3d9cc6adee7af6c587c53f4296e50fe43d90ac35e3"), looks := false }, kinds := [], alts := [], laidByText := true, laidKinds := [.data], laidTests := true, laidLooks := .later }
def SimplexScaledUptoCardSaid : Prop := Claim7.holds Tryd.pinned (.plain (OpenSpec.upto simplexScaledSpec)) simplexScaledUptoCard
end Rows
end Go.Proofs.YtifbaegnkodneaaDoor
