/-
  NARROWER THAN 'FOR EVERY INPUT', by the rows' own cells (each row's printed sentence says how): CoverChecks: laid · CoverFits: laid · CoverLeast: laid · CoverGreatest: laid.
  DERIVED. THE GIVEN ROWS OF THIS SEAT. 4 by the template 'for every input the law returns true; each argument reads behind the call as it read before'; 0 by the template 'total and deterministic' (their statements: YtfoipbjhaiimlaaDoorTotals.lean).
  GIVEN WITH THE SEED: the statements are not yours to turn. If you find one false, say at which input.
  Laid BY PROGRAM, IN A SANDBOX (cutbox-rows.mjs): the forced cells as the released guide's own fill.sh prints them over the translation 44f2c179c6d8b439… (all of the seat's roots in one cut). By AI agents, Wed Nov 11 2026. No macro, syntax, notation, axiom, sorry.
-/
import Derived.Test.YtfoipbjhaiimlaaDoorChecked
import GoSem.Claim
import GoSem.ClaimJoined
import GoSem.ClaimMapViews
import Derived.JoinedTies
import Derived.KernelRfl
namespace Go.Proofs.YtfoipbjhaiimlaaDoor
/- THE CELL 'sum', in the pinned program and in every row, IS THE sha256 OF THE DUMP (.gsa) THAT YtfoipbjhaiimlaaDoorProg.lean LOADS. Nothing in Lean hashes anything: it is a label: what it is worth is what the hold of that sum in a sandbox is worth. -/
noncomputable def Tryd.pinned : Pinned := { name := "ytfoipbjhaiimlaadoor", sum := "44f2c179c6d8b4390c36b3abac6a12ca6633ac89cb5e42e3ff6bc2020cd17fc9", checked := Tryd.checked }
namespace Rows
def none {H : Type} : Left H := { results := [], args := [] }

/- WHAT THE LISTED PACKAGE-LEVEL VARIABLES READ AS WHEN THE CALL BEGINS. Each datum BY PROGRAM (the guide's laid-datum.mjs) off the statement by which the dump's own 'gosem.cut.vars' lays the variable. In a bare row this is a premise. The card (YtfoipbjhaiimlaaDoorCards.lean) ties it to the program's text. -/
def laid_graphdb_frac_zero {H : Type} : DataW H := .agg [.lit (.int .i64 0), .lit (.int .i64 1)]

/-- 'graphdblaw31.CoverChecks': WHATEVER THE INPUT: true; the input reads as it did. -/
def coverChecksSpec : ChangeSpec := { name := "coverChecks", fn := fun _ => fun
  | [d1, d2] => { results := [.lit (.bool true)], args := [d1, d2] }
  | _ => none }
def coverChecksRow : OpenClaim := { program := "ytfoipbjhaiimlaadoor", sum := "44f2c179c6d8b4390c36b3abac6a12ca6633ac89cb5e42e3ff6bc2020cd17fc9", func := "graphdb/graphdblaw31.CoverChecks", spec := "coverChecks", inPlace := ["math/bits.Add64", "math/bits.Sub64"], unfollowed := true, recurses := true, named := ["graphdb/frac.zero", "math/bits.divideError", "math/bits.overflowError"], apart := false, laid := [("graphdb/frac.zero", laid_graphdb_frac_zero)] }
def CoverChecksSaid : Prop := coverChecksRow.holds Tryd.pinned (OpenSpec.ofChange coverChecksSpec)

/-- ITS FALSE NEIGHBOUR: 'it returns false'. Refute it at one input. -/
def coverChecksWrong : ChangeSpec := { name := "coverChecks", fn := fun _ => fun
  | [d1, d2] => { results := [.lit (.bool false)], args := [d1, d2] }
  | _ => none }
def CoverChecksWrongFalsely : Prop := coverChecksRow.holds Tryd.pinned (OpenSpec.ofChange coverChecksWrong)

/-- 'graphdblaw31.CoverFits': WHATEVER THE INPUT: true; the input reads as it did. -/
def coverFitsSpec : ChangeSpec := { name := "coverFits", fn := fun _ => fun
  | [d1, d2, d3] => { results := [.lit (.bool true)], args := [d1, d2, d3] }
  | _ => none }
def coverFitsRow : OpenClaim := { program := "ytfoipbjhaiimlaadoor", sum := "44f2c179c6d8b4390c36b3abac6a12ca6633ac89cb5e42e3ff6bc2020cd17fc9", func := "graphdb/graphdblaw31.CoverFits", spec := "coverFits", inPlace := ["math/bits.Add64", "math/bits.Sub64"], unfollowed := true, recurses := true, named := ["graphdb/frac.zero", "math/bits.divideError", "math/bits.overflowError"], apart := false, laid := [("graphdb/frac.zero", laid_graphdb_frac_zero)] }
def CoverFitsSaid : Prop := coverFitsRow.holds Tryd.pinned (OpenSpec.ofChange coverFitsSpec)

/-- ITS FALSE NEIGHBOUR: 'it returns false'. Refute it at one input. -/
def coverFitsWrong : ChangeSpec := { name := "coverFits", fn := fun _ => fun
  | [d1, d2, d3] => { results := [.lit (.bool false)], args := [d1, d2, d3] }
  | _ => none }
def CoverFitsWrongFalsely : Prop := coverFitsRow.holds Tryd.pinned (OpenSpec.ofChange coverFitsWrong)

/-- 'graphdblaw31.CoverLeast': WHATEVER THE INPUT: true; the input reads as it did. -/
def coverLeastSpec : ChangeSpec := { name := "coverLeast", fn := fun _ => fun
  | [d1, d2] => { results := [.lit (.bool true)], args := [d1, d2] }
  | _ => none }
def coverLeastRow : OpenClaim := { program := "ytfoipbjhaiimlaadoor", sum := "44f2c179c6d8b4390c36b3abac6a12ca6633ac89cb5e42e3ff6bc2020cd17fc9", func := "graphdb/graphdblaw31.CoverLeast", spec := "coverLeast", inPlace := ["math/bits.Add64", "math/bits.Sub64"], unfollowed := true, recurses := true, named := ["graphdb/frac.zero", "math/bits.divideError", "math/bits.overflowError"], apart := false, laid := [("graphdb/frac.zero", laid_graphdb_frac_zero)] }
def CoverLeastSaid : Prop := coverLeastRow.holds Tryd.pinned (OpenSpec.ofChange coverLeastSpec)

/-- ITS FALSE NEIGHBOUR: 'it returns false'. Refute it at one input. -/
def coverLeastWrong : ChangeSpec := { name := "coverLeast", fn := fun _ => fun
  | [d1, d2] => { results := [.lit (.bool false)], args := [d1, d2] }
  | _ => none }
def CoverLeastWrongFalsely : Prop := coverLeastRow.holds Tryd.pinned (OpenSpec.ofChange coverLeastWrong)

/-- 'graphdblaw31.CoverGreatest': WHATEVER THE INPUT: true; the input reads as it did. -/
def coverGreatestSpec : ChangeSpec := { name := "coverGreatest", fn := fun _ => fun
  | [d1, d2, d3] => { results := [.lit (.bool true)], args := [d1, d2, d3] }
  | _ => none }
def coverGreatestRow : OpenClaim := { program := "ytfoipbjhaiimlaadoor", sum := "44f2c179c6d8b4390c36b3abac6a12ca6633ac89cb5e42e3ff6bc2020cd17fc9", func := "graphdb/graphdblaw31.CoverGreatest", spec := "coverGreatest", inPlace := ["math/bits.Add64", "math/bits.Sub64"], unfollowed := true, recurses := true, named := ["graphdb/frac.zero", "math/bits.divideError", "math/bits.overflowError"], apart := false, laid := [("graphdb/frac.zero", laid_graphdb_frac_zero)] }
def CoverGreatestSaid : Prop := coverGreatestRow.holds Tryd.pinned (OpenSpec.ofChange coverGreatestSpec)

/-- ITS FALSE NEIGHBOUR: 'it returns false'. Refute it at one input. -/
def coverGreatestWrong : ChangeSpec := { name := "coverGreatest", fn := fun _ => fun
  | [d1, d2, d3] => { results := [.lit (.bool false)], args := [d1, d2, d3] }
  | _ => none }
def CoverGreatestWrongFalsely : Prop := coverGreatestRow.holds Tryd.pinned (OpenSpec.ofChange coverGreatestWrong)

/- THE SECOND FORM. 'bulk': how many values and letters a reading holds, each counted each time it is reached (what is shared counts as often as it is met; a slice's spare places count too). A statement '..UptoSaid' is the law's where the arguments, and the package variables that the reading takes, are together of bulk at most 1048576: NARROWER than '..Said'. Prove '..Said' where nothing that the law and all that it calls make is longer than what came in: it says more and counts as full. Else prove '..UptoSaid'. A law counts once. -/
mutual
def uptoBulk {H : Type} : DataW H → Nat
  | .lit (.string bytes) => bytes.length + 1
  | .lit _ => 1
  | .nil => 1
  | .ptr d => uptoBulk d + 1
  | .slice elems spare => uptoBulkAll elems + uptoBulkAll spare + 1
  | .agg parts => uptoBulkAll parts + 1
  | .iface _ d => uptoBulk d + 1
  | .map entries => uptoBulkEntries entries + 1
  | .held _ => 1
def uptoBulkAll {H : Type} : List (DataW H) → Nat
  | [] => 0
  | d :: r => uptoBulk d + uptoBulkAll r
def uptoBulkEntries {H : Type} : List (Lit × DataW H) → Nat
  | [] => 0
  | x :: r => uptoBulkEntry x + uptoBulkEntries r
def uptoBulkEntry {H : Type} : Lit × DataW H → Nat
  | (.string bytes, d) => bytes.length + uptoBulk d + 1
  | (_, d) => uptoBulk d + 1
 end
def uptoSmall : (H : Type) → List (DataW H) → Bool := fun _ ds => decide (uptoBulkAll ds ≤ 1048576)
def OpenSpec.upto (s : _root_.Go.ChangeSpec) : _root_.Go.OpenSpec := { _root_.Go.OpenSpec.ofChange s with cond := some uptoSmall }

/-- 'graphdblaw31.CoverChecks', WHERE WHAT IT READS IS OF BULK AT MOST 1048576: true; the input reads as it did. -/
def coverChecksUptoRow : OpenClaim := { program := "ytfoipbjhaiimlaadoor", sum := "44f2c179c6d8b4390c36b3abac6a12ca6633ac89cb5e42e3ff6bc2020cd17fc9", func := "graphdb/graphdblaw31.CoverChecks", spec := "coverChecks", inPlace := ["math/bits.Add64", "math/bits.Sub64"], unfollowed := true, recurses := true, named := ["graphdb/frac.zero", "math/bits.divideError", "math/bits.overflowError"], apart := false, laid := [("graphdb/frac.zero", laid_graphdb_frac_zero)], narrowed := true }
def CoverChecksUptoSaid : Prop := coverChecksUptoRow.holds Tryd.pinned (OpenSpec.upto coverChecksSpec)

/-- 'graphdblaw31.CoverFits', WHERE WHAT IT READS IS OF BULK AT MOST 1048576: true; the input reads as it did. -/
def coverFitsUptoRow : OpenClaim := { program := "ytfoipbjhaiimlaadoor", sum := "44f2c179c6d8b4390c36b3abac6a12ca6633ac89cb5e42e3ff6bc2020cd17fc9", func := "graphdb/graphdblaw31.CoverFits", spec := "coverFits", inPlace := ["math/bits.Add64", "math/bits.Sub64"], unfollowed := true, recurses := true, named := ["graphdb/frac.zero", "math/bits.divideError", "math/bits.overflowError"], apart := false, laid := [("graphdb/frac.zero", laid_graphdb_frac_zero)], narrowed := true }
def CoverFitsUptoSaid : Prop := coverFitsUptoRow.holds Tryd.pinned (OpenSpec.upto coverFitsSpec)

/-- 'graphdblaw31.CoverLeast', WHERE WHAT IT READS IS OF BULK AT MOST 1048576: true; the input reads as it did. -/
def coverLeastUptoRow : OpenClaim := { program := "ytfoipbjhaiimlaadoor", sum := "44f2c179c6d8b4390c36b3abac6a12ca6633ac89cb5e42e3ff6bc2020cd17fc9", func := "graphdb/graphdblaw31.CoverLeast", spec := "coverLeast", inPlace := ["math/bits.Add64", "math/bits.Sub64"], unfollowed := true, recurses := true, named := ["graphdb/frac.zero", "math/bits.divideError", "math/bits.overflowError"], apart := false, laid := [("graphdb/frac.zero", laid_graphdb_frac_zero)], narrowed := true }
def CoverLeastUptoSaid : Prop := coverLeastUptoRow.holds Tryd.pinned (OpenSpec.upto coverLeastSpec)

/-- 'graphdblaw31.CoverGreatest', WHERE WHAT IT READS IS OF BULK AT MOST 1048576: true; the input reads as it did. -/
def coverGreatestUptoRow : OpenClaim := { program := "ytfoipbjhaiimlaadoor", sum := "44f2c179c6d8b4390c36b3abac6a12ca6633ac89cb5e42e3ff6bc2020cd17fc9", func := "graphdb/graphdblaw31.CoverGreatest", spec := "coverGreatest", inPlace := ["math/bits.Add64", "math/bits.Sub64"], unfollowed := true, recurses := true, named := ["graphdb/frac.zero", "math/bits.divideError", "math/bits.overflowError"], apart := false, laid := [("graphdb/frac.zero", laid_graphdb_frac_zero)], narrowed := true }
def CoverGreatestUptoSaid : Prop := coverGreatestUptoRow.holds Tryd.pinned (OpenSpec.upto coverGreatestSpec)

end Rows
end Go.Proofs.YtfoipbjhaiimlaaDoor
