/-
  NARROWER THAN 'FOR EVERY INPUT', by the rows' own cells (each row's printed sentence says how): CoverPrograms: laid · CoverBounds: loops, laid.
  DERIVED. THE GIVEN ROWS OF THIS SEAT. 2 by the template 'for every input the law returns true; each argument reads behind the call as it read before'; 0 by the template 'total and deterministic' (their statements: YtfoipbjhaiimlaaGreatDoorTotals.lean).
  GIVEN WITH THE SEED: the statements are not yours to turn. If you find one false, say at which input.
  Laid BY PROGRAM, IN A SANDBOX (cutbox-rows.mjs): the forced cells as the released guide's own fill.sh prints them over the translation 87485625c6967aba… (all of the seat's roots in one cut). By AI agents, Wed Nov 11 2026. No macro, syntax, notation, axiom, sorry.
-/
import Derived.Test.YtfoipbjhaiimlaaGreatDoorChecked
import GoSem.Claim
import GoSem.ClaimJoined
import GoSem.ClaimMapViews
import Derived.JoinedTies
import Derived.KernelRfl
namespace Go.Proofs.YtfoipbjhaiimlaaGreatDoor
/- THE CELL 'sum', in the pinned program and in every row, IS THE sha256 OF THE DUMP (.gsa) THAT YtfoipbjhaiimlaaGreatDoorProg.lean LOADS. Nothing in Lean hashes anything: it is a label: what it is worth is what the hold of that sum in a sandbox is worth. -/
noncomputable def Tryz.pinned : Pinned := { name := "ytfoipbjhaiimlaagreatdoor", sum := "87485625c6967aba8872f777bb0352c9eba445927d244dc6da3c82a2183fecb4", checked := Tryz.checked }
namespace Rows
def none {H : Type} : Left H := { results := [], args := [] }

/- WHAT THE LISTED PACKAGE-LEVEL VARIABLES READ AS WHEN THE CALL BEGINS. Each datum BY PROGRAM (the guide's laid-datum.mjs) off the statement by which the dump's own 'gosem.cut.vars' lays the variable. In a bare row this is a premise. The card (YtfoipbjhaiimlaaGreatDoorCards.lean) ties it to the program's text. -/
def laid_graphdb_frac_zero {H : Type} : DataW H := .agg [.lit (.int .i64 0), .lit (.int .i64 1)]

/-- 'graphdblaw31.CoverPrograms': WHATEVER THE INPUT: true; the input reads as it did. -/
def coverProgramsSpec : ChangeSpec := { name := "coverPrograms", fn := fun _ => fun
  | [d] => { results := [.lit (.bool true)], args := [d] }
  | _ => none }
def coverProgramsRow : OpenClaim := { program := "ytfoipbjhaiimlaagreatdoor", sum := "87485625c6967aba8872f777bb0352c9eba445927d244dc6da3c82a2183fecb4", func := "graphdb/graphdblaw31.CoverPrograms", spec := "coverPrograms", inPlace := ["math/bits.Add64", "math/bits.Sub64"], unfollowed := true, recurses := true, named := ["graphdb/frac.zero", "math/bits.divideError", "math/bits.overflowError"], apart := false, laid := [("graphdb/frac.zero", laid_graphdb_frac_zero)] }
def CoverProgramsSaid : Prop := coverProgramsRow.holds Tryz.pinned (OpenSpec.ofChange coverProgramsSpec)

/-- ITS FALSE NEIGHBOUR: 'it returns false'. Refute it at one input. -/
def coverProgramsWrong : ChangeSpec := { name := "coverPrograms", fn := fun _ => fun
  | [d] => { results := [.lit (.bool false)], args := [d] }
  | _ => none }
def CoverProgramsWrongFalsely : Prop := coverProgramsRow.holds Tryz.pinned (OpenSpec.ofChange coverProgramsWrong)

/-- 'graphdblaw31.CoverBounds': WHATEVER THE INPUT: true; the input reads as it did. -/
def coverBoundsSpec : ChangeSpec := { name := "coverBounds", fn := fun _ => fun
  | [d1, d2] => { results := [.lit (.bool true)], args := [d1, d2] }
  | _ => none }
def coverBoundsRow : OpenClaim := { program := "ytfoipbjhaiimlaagreatdoor", sum := "87485625c6967aba8872f777bb0352c9eba445927d244dc6da3c82a2183fecb4", func := "graphdb/graphdblaw31.CoverBounds", spec := "coverBounds", inPlace := ["math/bits.Add64", "math/bits.Sub64"], unfollowed := true, recurses := true, named := ["graphdb/frac.zero", "math/bits.divideError", "math/bits.overflowError"], loops := true, apart := false, laid := [("graphdb/frac.zero", laid_graphdb_frac_zero)] }
def CoverBoundsSaid : Prop := coverBoundsRow.holds Tryz.pinned (OpenSpec.ofChange coverBoundsSpec)

/-- ITS FALSE NEIGHBOUR: 'it returns false'. Refute it at one input. -/
def coverBoundsWrong : ChangeSpec := { name := "coverBounds", fn := fun _ => fun
  | [d1, d2] => { results := [.lit (.bool false)], args := [d1, d2] }
  | _ => none }
def CoverBoundsWrongFalsely : Prop := coverBoundsRow.holds Tryz.pinned (OpenSpec.ofChange coverBoundsWrong)

/- THE SECOND FORM. 'bulk': how many values and letters a reading holds, each counted each time it is reached (what is shared counts as often as it is met; a slice's spare places count too). A statement '..UptoSaid' is the law's where the arguments, and the package variables that the reading takes, are together of bulk at most 1048576: NARROWER than '..Said'. Prove '..Said' where nothing that the law and all that it calls make is longer than what came in: it says more and counts as full. Else prove '..UptoSaid'. A law counts once. -/
mutual
def uptoBulk {H : Type} : DataW H → Nat
  | .lit (.string bytes) => bytes.length + 1
  | .lit _ => 1
  | .nil => 1
  | .ptr d => uptoBulk d + 1
  | .slice elems spare => uptoBulkAll elems + uptoBulkAll spare + 1
  | .agg parts => uptoBulkAll parts + 1
  | .iface _ d => uptoBulk d + 1
  | .map entries => uptoBulkEntries entries + 1
  | .held _ => 1
def uptoBulkAll {H : Type} : List (DataW H) → Nat
  | [] => 0
  | d :: r => uptoBulk d + uptoBulkAll r
def uptoBulkEntries {H : Type} : List (Lit × DataW H) → Nat
  | [] => 0
  | x :: r => uptoBulkEntry x + uptoBulkEntries r
def uptoBulkEntry {H : Type} : Lit × DataW H → Nat
  | (.string bytes, d) => bytes.length + uptoBulk d + 1
  | (_, d) => uptoBulk d + 1
 end
def uptoSmall : (H : Type) → List (DataW H) → Bool := fun _ ds => decide (uptoBulkAll ds ≤ 1048576)
def OpenSpec.upto (s : _root_.Go.ChangeSpec) : _root_.Go.OpenSpec := { _root_.Go.OpenSpec.ofChange s with cond := some uptoSmall }

/-- 'graphdblaw31.CoverPrograms', WHERE WHAT IT READS IS OF BULK AT MOST 1048576: true; the input reads as it did. -/
def coverProgramsUptoRow : OpenClaim := { program := "ytfoipbjhaiimlaagreatdoor", sum := "87485625c6967aba8872f777bb0352c9eba445927d244dc6da3c82a2183fecb4", func := "graphdb/graphdblaw31.CoverPrograms", spec := "coverPrograms", inPlace := ["math/bits.Add64", "math/bits.Sub64"], unfollowed := true, recurses := true, named := ["graphdb/frac.zero", "math/bits.divideError", "math/bits.overflowError"], apart := false, laid := [("graphdb/frac.zero", laid_graphdb_frac_zero)], narrowed := true }
def CoverProgramsUptoSaid : Prop := coverProgramsUptoRow.holds Tryz.pinned (OpenSpec.upto coverProgramsSpec)

/-- 'graphdblaw31.CoverBounds', WHERE WHAT IT READS IS OF BULK AT MOST 1048576: true; the input reads as it did. -/
def coverBoundsUptoRow : OpenClaim := { program := "ytfoipbjhaiimlaagreatdoor", sum := "87485625c6967aba8872f777bb0352c9eba445927d244dc6da3c82a2183fecb4", func := "graphdb/graphdblaw31.CoverBounds", spec := "coverBounds", inPlace := ["math/bits.Add64", "math/bits.Sub64"], unfollowed := true, recurses := true, named := ["graphdb/frac.zero", "math/bits.divideError", "math/bits.overflowError"], loops := true, apart := false, laid := [("graphdb/frac.zero", laid_graphdb_frac_zero)], narrowed := true }
def CoverBoundsUptoSaid : Prop := coverBoundsUptoRow.holds Tryz.pinned (OpenSpec.upto coverBoundsSpec)

end Rows
end Go.Proofs.YtfoipbjhaiimlaaGreatDoor
