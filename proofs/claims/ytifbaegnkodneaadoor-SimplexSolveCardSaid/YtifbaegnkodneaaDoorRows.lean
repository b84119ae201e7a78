/-
  NARROWER THAN 'FOR EVERY INPUT', by the rows' own cells (each row's printed sentence says how): SimplexReads: laid · SimplexSolve: laid · SimplexBest: laid · SimplexDuality: laid · SimplexTwice: laid · SimplexScaled: laid.
  DERIVED. THE GIVEN ROWS OF THIS SEAT. 6 by the template 'for every input the law returns true; each argument reads behind the call as it read before'; 0 by the template 'total and deterministic' (their statements: YtifbaegnkodneaaDoorTotals.lean).
  GIVEN WITH THE SEED: the statements are not yours to turn. If you find one false, say at which input.
  Laid BY PROGRAM, IN A SANDBOX (cutbox-rows.mjs): the forced cells as the released guide's own fill.sh prints them over the translation 08676b451de8d205… (all of the seat's roots in one cut). By AI agents, Wed Nov 11 2026. No macro, syntax, notation, axiom, sorry.
-/
import Derived.Test.YtifbaegnkodneaaDoorChecked
import GoSem.Claim
import GoSem.ClaimJoined
import GoSem.ClaimMapViews
import Derived.JoinedTies
import Derived.KernelRfl
namespace Go.Proofs.YtifbaegnkodneaaDoor
/- THE CELL 'sum', in the pinned program and in every row, IS THE sha256 OF THE DUMP (.gsa) THAT YtifbaegnkodneaaDoorProg.lean LOADS. Nothing in Lean hashes anything: it is a label: what it is worth is what the hold of that sum in a sandbox is worth. -/
noncomputable def Tryd.pinned : Pinned := { name := "ytifbaegnkodneaadoor", sum := "08676b451de8d2051d1d0f857ca271d5a8e49ad1e98a816275655fac5f9f0f84", checked := Tryd.checked }
namespace Rows
def none {H : Type} : Left H := { results := [], args := [] }

/- WHAT THE LISTED PACKAGE-LEVEL VARIABLES READ AS WHEN THE CALL BEGINS. Each datum BY PROGRAM (the guide's laid-datum.mjs) off the statement by which the dump's own 'gosem.cut.vars' lays the variable. In a bare row this is a premise. The card (YtifbaegnkodneaaDoorCards.lean) ties it to the program's text. -/
def laid_graphdb_frac_zero {H : Type} : DataW H := .agg [.lit (.int .i64 0), .lit (.int .i64 1)]

/-- 'graphdblaw30.SimplexReads': WHATEVER THE INPUT: true; the input reads as it did. -/
def simplexReadsSpec : ChangeSpec := { name := "simplexReads", fn := fun _ => fun
  | [d1, d2] => { results := [.lit (.bool true)], args := [d1, d2] }
  | _ => none }
def simplexReadsRow : OpenClaim := { program := "ytifbaegnkodneaadoor", sum := "08676b451de8d2051d1d0f857ca271d5a8e49ad1e98a816275655fac5f9f0f84", func := "graphdb/graphdblaw30.SimplexReads", spec := "simplexReads", inPlace := ["math/bits.Add64", "math/bits.Sub64"], named := ["graphdb/frac.zero", "math/bits.divideError", "math/bits.overflowError"], apart := false, laid := [("graphdb/frac.zero", laid_graphdb_frac_zero)] }
def SimplexReadsSaid : Prop := simplexReadsRow.holds Tryd.pinned (OpenSpec.ofChange simplexReadsSpec)

/-- ITS FALSE NEIGHBOUR: 'it returns false'. Refute it at one input. -/
def simplexReadsWrong : ChangeSpec := { name := "simplexReads", fn := fun _ => fun
  | [d1, d2] => { results := [.lit (.bool false)], args := [d1, d2] }
  | _ => none }
def SimplexReadsWrongFalsely : Prop := simplexReadsRow.holds Tryd.pinned (OpenSpec.ofChange simplexReadsWrong)

/-- 'graphdblaw30.SimplexSolve': WHATEVER THE INPUT: true; the input reads as it did. -/
def simplexSolveSpec : ChangeSpec := { name := "simplexSolve", fn := fun _ => fun
  | [d] => { results := [.lit (.bool true)], args := [d] }
  | _ => none }
def simplexSolveRow : OpenClaim := { program := "ytifbaegnkodneaadoor", sum := "08676b451de8d2051d1d0f857ca271d5a8e49ad1e98a816275655fac5f9f0f84", func := "graphdb/graphdblaw30.SimplexSolve", spec := "simplexSolve", inPlace := ["math/bits.Add64", "math/bits.Sub64"], named := ["graphdb/frac.zero", "math/bits.divideError", "math/bits.overflowError"], apart := false, laid := [("graphdb/frac.zero", laid_graphdb_frac_zero)] }
def SimplexSolveSaid : Prop := simplexSolveRow.holds Tryd.pinned (OpenSpec.ofChange simplexSolveSpec)

/-- ITS FALSE NEIGHBOUR: 'it returns false'. Refute it at one input. -/
def simplexSolveWrong : ChangeSpec := { name := "simplexSolve", fn := fun _ => fun
  | [d] => { results := [.lit (.bool false)], args := [d] }
  | _ => none }
def SimplexSolveWrongFalsely : Prop := simplexSolveRow.holds Tryd.pinned (OpenSpec.ofChange simplexSolveWrong)

/-- 'graphdblaw30.SimplexBest': WHATEVER THE INPUT: true; the input reads as it did. -/
def simplexBestSpec : ChangeSpec := { name := "simplexBest", fn := fun _ => fun
  | [d1, d2] => { results := [.lit (.bool true)], args := [d1, d2] }
  | _ => none }
def simplexBestRow : OpenClaim := { program := "ytifbaegnkodneaadoor", sum := "08676b451de8d2051d1d0f857ca271d5a8e49ad1e98a816275655fac5f9f0f84", func := "graphdb/graphdblaw30.SimplexBest", spec := "simplexBest", inPlace := ["math/bits.Add64", "math/bits.Sub64"], named := ["graphdb/frac.zero", "math/bits.divideError", "math/bits.overflowError"], apart := false, laid := [("graphdb/frac.zero", laid_graphdb_frac_zero)] }
def SimplexBestSaid : Prop := simplexBestRow.holds Tryd.pinned (OpenSpec.ofChange simplexBestSpec)

/-- ITS FALSE NEIGHBOUR: 'it returns false'. Refute it at one input. -/
def simplexBestWrong : ChangeSpec := { name := "simplexBest", fn := fun _ => fun
  | [d1, d2] => { results := [.lit (.bool false)], args := [d1, d2] }
  | _ => none }
def SimplexBestWrongFalsely : Prop := simplexBestRow.holds Tryd.pinned (OpenSpec.ofChange simplexBestWrong)

/-- 'graphdblaw30.SimplexDuality': WHATEVER THE INPUT: true; the input reads as it did. -/
def simplexDualitySpec : ChangeSpec := { name := "simplexDuality", fn := fun _ => fun
  | [d] => { results := [.lit (.bool true)], args := [d] }
  | _ => none }
def simplexDualityRow : OpenClaim := { program := "ytifbaegnkodneaadoor", sum := "08676b451de8d2051d1d0f857ca271d5a8e49ad1e98a816275655fac5f9f0f84", func := "graphdb/graphdblaw30.SimplexDuality", spec := "simplexDuality", inPlace := ["math/bits.Add64", "math/bits.Sub64"], named := ["graphdb/frac.zero", "math/bits.divideError", "math/bits.overflowError"], apart := false, laid := [("graphdb/frac.zero", laid_graphdb_frac_zero)] }
def SimplexDualitySaid : Prop := simplexDualityRow.holds Tryd.pinned (OpenSpec.ofChange simplexDualitySpec)

/-- ITS FALSE NEIGHBOUR: 'it returns false'. Refute it at one input. -/
def simplexDualityWrong : ChangeSpec := { name := "simplexDuality", fn := fun _ => fun
  | [d] => { results := [.lit (.bool false)], args := [d] }
  | _ => none }
def SimplexDualityWrongFalsely : Prop := simplexDualityRow.holds Tryd.pinned (OpenSpec.ofChange simplexDualityWrong)

/-- 'graphdblaw30.SimplexTwice': WHATEVER THE INPUT: true; the input reads as it did. -/
def simplexTwiceSpec : ChangeSpec := { name := "simplexTwice", fn := fun _ => fun
  | [d] => { results := [.lit (.bool true)], args := [d] }
  | _ => none }
def simplexTwiceRow : OpenClaim := { program := "ytifbaegnkodneaadoor", sum := "08676b451de8d2051d1d0f857ca271d5a8e49ad1e98a816275655fac5f9f0f84", func := "graphdb/graphdblaw30.SimplexTwice", spec := "simplexTwice", inPlace := ["math/bits.Add64", "math/bits.Sub64"], named := ["graphdb/frac.zero", "math/bits.divideError", "math/bits.overflowError"], apart := false, laid := [("graphdb/frac.zero", laid_graphdb_frac_zero)] }
def SimplexTwiceSaid : Prop := simplexTwiceRow.holds Tryd.pinned (OpenSpec.ofChange simplexTwiceSpec)

/-- ITS FALSE NEIGHBOUR: 'it returns false'. Refute it at one input. -/
def simplexTwiceWrong : ChangeSpec := { name := "simplexTwice", fn := fun _ => fun
  | [d] => { results := [.lit (.bool false)], args := [d] }
  | _ => none }
def SimplexTwiceWrongFalsely : Prop := simplexTwiceRow.holds Tryd.pinned (OpenSpec.ofChange simplexTwiceWrong)

/-- 'graphdblaw30.SimplexScaled': WHATEVER THE INPUT: true; the input reads as it did. -/
def simplexScaledSpec : ChangeSpec := { name := "simplexScaled", fn := fun _ => fun
  | [d1, d2] => { results := [.lit (.bool true)], args := [d1, d2] }
  | _ => none }
def simplexScaledRow : OpenClaim := { program := "ytifbaegnkodneaadoor", sum := "08676b451de8d2051d1d0f857ca271d5a8e49ad1e98a816275655fac5f9f0f84", func := "graphdb/graphdblaw30.SimplexScaled", spec := "simplexScaled", inPlace := ["math/bits.Add64", "math/bits.Sub64"], named := ["graphdb/frac.zero", "math/bits.divideError", "math/bits.overflowError"], apart := false, laid := [("graphdb/frac.zero", laid_graphdb_frac_zero)] }
def SimplexScaledSaid : Prop := simplexScaledRow.holds Tryd.pinned (OpenSpec.ofChange simplexScaledSpec)

/-- ITS FALSE NEIGHBOUR: 'it returns false'. Refute it at one input. -/
def simplexScaledWrong : ChangeSpec := { name := "simplexScaled", fn := fun _ => fun
  | [d1, d2] => { results := [.lit (.bool false)], args := [d1, d2] }
  | _ => none }
def SimplexScaledWrongFalsely : Prop := simplexScaledRow.holds Tryd.pinned (OpenSpec.ofChange simplexScaledWrong)

/- THE SECOND FORM. 'bulk': how many values and letters a reading holds, each counted each time it is reached (what is shared counts as often as it is met; a slice's spare places count too). A statement '..UptoSaid' is the law's where the arguments, and the package variables that the reading takes, are together of bulk at most 1048576: NARROWER than '..Said'. Prove '..Said' where nothing that the law and all that it calls make is longer than what came in: it says more and counts as full. Else prove '..UptoSaid'. A law counts once. -/
mutual
def uptoBulk {H : Type} : DataW H → Nat
  | .lit (.string bytes) => bytes.length + 1
  | .lit _ => 1
  | .nil => 1
  | .ptr d => uptoBulk d + 1
  | .slice elems spare => uptoBulkAll elems + uptoBulkAll spare + 1
  | .agg parts => uptoBulkAll parts + 1
  | .iface _ d => uptoBulk d + 1
  | .map entries => uptoBulkEntries entries + 1
  | .held _ => 1
def uptoBulkAll {H : Type} : List (DataW H) → Nat
  | [] => 0
  | d :: r => uptoBulk d + uptoBulkAll r
def uptoBulkEntries {H : Type} : List (Lit × DataW H) → Nat
  | [] => 0
  | x :: r => uptoBulkEntry x + uptoBulkEntries r
def uptoBulkEntry {H : Type} : Lit × DataW H → Nat
  | (.string bytes, d) => bytes.length + uptoBulk d + 1
  | (_, d) => uptoBulk d + 1
 end
def uptoSmall : (H : Type) → List (DataW H) → Bool := fun _ ds => decide (uptoBulkAll ds ≤ 1048576)
def OpenSpec.upto (s : _root_.Go.ChangeSpec) : _root_.Go.OpenSpec := { _root_.Go.OpenSpec.ofChange s with cond := some uptoSmall }

/-- 'graphdblaw30.SimplexReads', WHERE WHAT IT READS IS OF BULK AT MOST 1048576: true; the input reads as it did. -/
def simplexReadsUptoRow : OpenClaim := { program := "ytifbaegnkodneaadoor", sum := "08676b451de8d2051d1d0f857ca271d5a8e49ad1e98a816275655fac5f9f0f84", func := "graphdb/graphdblaw30.SimplexReads", spec := "simplexReads", inPlace := ["math/bits.Add64", "math/bits.Sub64"], named := ["graphdb/frac.zero", "math/bits.divideError", "math/bits.overflowError"], apart := false, laid := [("graphdb/frac.zero", laid_graphdb_frac_zero)], narrowed := true }
def SimplexReadsUptoSaid : Prop := simplexReadsUptoRow.holds Tryd.pinned (OpenSpec.upto simplexReadsSpec)

/-- 'graphdblaw30.SimplexSolve', WHERE WHAT IT READS IS OF BULK AT MOST 1048576: true; the input reads as it did. -/
def simplexSolveUptoRow : OpenClaim := { program := "ytifbaegnkodneaadoor", sum := "08676b451de8d2051d1d0f857ca271d5a8e49ad1e98a816275655fac5f9f0f84", func := "graphdb/graphdblaw30.SimplexSolve", spec := "simplexSolve", inPlace := ["math/bits.Add64", "math/bits.Sub64"], named := ["graphdb/frac.zero", "math/bits.divideError", "math/bits.overflowError"], apart := false, laid := [("graphdb/frac.zero", laid_graphdb_frac_zero)], narrowed := true }
def SimplexSolveUptoSaid : Prop := simplexSolveUptoRow.holds Tryd.pinned (OpenSpec.upto simplexSolveSpec)

/-- 'graphdblaw30.SimplexBest', WHERE WHAT IT READS IS OF BULK AT MOST 1048576: true; the input reads as it did. -/
def simplexBestUptoRow : OpenClaim := { program := "ytifbaegnkodneaadoor", sum := "08676b451de8d2051d1d0f857ca271d5a8e49ad1e98a816275655fac5f9f0f84", func := "graphdb/graphdblaw30.SimplexBest", spec := "simplexBest", inPlace := ["math/bits.Add64", "math/bits.Sub64"], named := ["graphdb/frac.zero", "math/bits.divideError", "math/bits.overflowError"], apart := false, laid := [("graphdb/frac.zero", laid_graphdb_frac_zero)], narrowed := true }
def SimplexBestUptoSaid : Prop := simplexBestUptoRow.holds Tryd.pinned (OpenSpec.upto simplexBestSpec)

/-- 'graphdblaw30.SimplexDuality', WHERE WHAT IT READS IS OF BULK AT MOST 1048576: true; the input reads as it did. -/
def simplexDualityUptoRow : OpenClaim := { program := "ytifbaegnkodneaadoor", sum := "08676b451de8d2051d1d0f857ca271d5a8e49ad1e98a816275655fac5f9f0f84", func := "graphdb/graphdblaw30.SimplexDuality", spec := "simplexDuality", inPlace := ["math/bits.Add64", "math/bits.Sub64"], named := ["graphdb/frac.zero", "math/bits.divideError", "math/bits.overflowError"], apart := false, laid := [("graphdb/frac.zero", laid_graphdb_frac_zero)], narrowed := true }
def SimplexDualityUptoSaid : Prop := simplexDualityUptoRow.holds Tryd.pinned (OpenSpec.upto simplexDualitySpec)

/-- 'graphdblaw30.SimplexTwice', WHERE WHAT IT READS IS OF BULK AT MOST 1048576: true; the input reads as it did. -/
def simplexTwiceUptoRow : OpenClaim := { program := "ytifbaegnkodneaadoor", sum := "08676b451de8d2051d1d0f857ca271d5a8e49ad1e98a816275655fac5f9f0f84", func := "graphdb/graphdblaw30.SimplexTwice", spec := "simplexTwice", inPlace := ["math/bits.Add64", "math/bits.Sub64"], named := ["graphdb/frac.zero", "math/bits.divideError", "math/bits.overflowError"], apart := false, laid := [("graphdb/frac.zero", laid_graphdb_frac_zero)], narrowed := true }
def SimplexTwiceUptoSaid : Prop := simplexTwiceUptoRow.holds Tryd.pinned (OpenSpec.upto simplexTwiceSpec)

/-- 'graphdblaw30.SimplexScaled', WHERE WHAT IT READS IS OF BULK AT MOST 1048576: true; the input reads as it did. -/
def simplexScaledUptoRow : OpenClaim := { program := "ytifbaegnkodneaadoor", sum := "08676b451de8d2051d1d0f857ca271d5a8e49ad1e98a816275655fac5f9f0f84", func := "graphdb/graphdblaw30.SimplexScaled", spec := "simplexScaled", inPlace := ["math/bits.Add64", "math/bits.Sub64"], named := ["graphdb/frac.zero", "math/bits.divideError", "math/bits.overflowError"], apart := false, laid := [("graphdb/frac.zero", laid_graphdb_frac_zero)], narrowed := true }
def SimplexScaledUptoSaid : Prop := simplexScaledUptoRow.holds Tryd.pinned (OpenSpec.upto simplexScaledSpec)

end Rows
end Go.Proofs.YtifbaegnkodneaaDoor
