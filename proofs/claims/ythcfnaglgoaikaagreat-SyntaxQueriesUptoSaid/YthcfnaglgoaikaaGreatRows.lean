/-
  NARROWER THAN 'FOR EVERY INPUT', by the rows' own cells (each row's printed sentence says how): SyntaxPaths: loops · SyntaxClauses: loops · SyntaxQueries: loops.
  DERIVED. THE GIVEN ROWS OF THIS SEAT. 3 by the template 'for every input the law returns true; each argument reads behind the call as it read before'; 0 by the template 'total and deterministic' (their statements: YthcfnaglgoaikaaGreatTotals.lean).
  GIVEN WITH THE SEED: the statements are not yours to turn. If you find one false, say at which input.
  Laid BY PROGRAM, IN A SANDBOX (cutbox-rows.mjs): the forced cells as the released guide's own fill.sh prints them over the translation d1536075ee06b940… (all of the seat's roots in one cut). By AI agents, Wed Nov 11 2026. No macro, syntax, notation, axiom, sorry.
-/
import Derived.Test.YthcfnaglgoaikaaGreatChecked
import GoSem.Claim
import GoSem.ClaimJoined
import GoSem.ClaimMapViews
import Derived.JoinedTies
import Derived.KernelRfl
namespace Go.Proofs.YthcfnaglgoaikaaGreat
/- THE CELL 'sum', in the pinned program and in every row, IS THE sha256 OF THE DUMP (.gsa) THAT YthcfnaglgoaikaaGreatProg.lean LOADS. Nothing in Lean hashes anything: it is a label: what it is worth is what the hold of that sum in a sandbox is worth. -/
noncomputable def Tryz.pinned : Pinned := { name := "ythcfnaglgoaikaagreat", sum := "d1536075ee06b940958f7f56430f31872a068654bfddf532e091b5166ec9e515", checked := Tryz.checked }
namespace Rows
def none {H : Type} : Left H := { results := [], args := [] }

/-- 'graphdblaw18.SyntaxPaths': WHATEVER THE INPUT: true; the input reads as it did. -/
def syntaxPathsSpec : ChangeSpec := { name := "syntaxPaths", fn := fun _ => fun
  | [d1, d2] => { results := [.lit (.bool true)], args := [d1, d2] }
  | _ => none }
def syntaxPathsRow : OpenClaim := { program := "ythcfnaglgoaikaagreat", sum := "d1536075ee06b940958f7f56430f31872a068654bfddf532e091b5166ec9e515", func := "graphdb/graphdblaw18.SyntaxPaths", spec := "syntaxPaths", inPlace := ["internal/bytealg.IndexByteString", "internal/bytealg.IndexString"], unfollowed := true, recurses := true, named := ["internal/bytealg.MaxLen"], loops := true, apart := false }
def SyntaxPathsSaid : Prop := syntaxPathsRow.holds Tryz.pinned (OpenSpec.ofChange syntaxPathsSpec)

/-- ITS FALSE NEIGHBOUR: 'it returns false'. Refute it at one input. -/
def syntaxPathsWrong : ChangeSpec := { name := "syntaxPaths", fn := fun _ => fun
  | [d1, d2] => { results := [.lit (.bool false)], args := [d1, d2] }
  | _ => none }
def SyntaxPathsWrongFalsely : Prop := syntaxPathsRow.holds Tryz.pinned (OpenSpec.ofChange syntaxPathsWrong)

/-- 'graphdblaw18.SyntaxClauses': WHATEVER THE INPUT: true; the input reads as it did. -/
def syntaxClausesSpec : ChangeSpec := { name := "syntaxClauses", fn := fun _ => fun
  | [d] => { results := [.lit (.bool true)], args := [d] }
  | _ => none }
def syntaxClausesRow : OpenClaim := { program := "ythcfnaglgoaikaagreat", sum := "d1536075ee06b940958f7f56430f31872a068654bfddf532e091b5166ec9e515", func := "graphdb/graphdblaw18.SyntaxClauses", spec := "syntaxClauses", inPlace := ["internal/bytealg.IndexByteString", "internal/bytealg.IndexString"], unfollowed := true, recurses := true, named := ["internal/bytealg.MaxLen"], loops := true, apart := false }
def SyntaxClausesSaid : Prop := syntaxClausesRow.holds Tryz.pinned (OpenSpec.ofChange syntaxClausesSpec)

/-- ITS FALSE NEIGHBOUR: 'it returns false'. Refute it at one input. -/
def syntaxClausesWrong : ChangeSpec := { name := "syntaxClauses", fn := fun _ => fun
  | [d] => { results := [.lit (.bool false)], args := [d] }
  | _ => none }
def SyntaxClausesWrongFalsely : Prop := syntaxClausesRow.holds Tryz.pinned (OpenSpec.ofChange syntaxClausesWrong)

/-- 'graphdblaw18.SyntaxQueries': WHATEVER THE INPUT: true; the input reads as it did. -/
def syntaxQueriesSpec : ChangeSpec := { name := "syntaxQueries", fn := fun _ => fun
  | [d] => { results := [.lit (.bool true)], args := [d] }
  | _ => none }
def syntaxQueriesRow : OpenClaim := { program := "ythcfnaglgoaikaagreat", sum := "d1536075ee06b940958f7f56430f31872a068654bfddf532e091b5166ec9e515", func := "graphdb/graphdblaw18.SyntaxQueries", spec := "syntaxQueries", inPlace := ["internal/bytealg.IndexByteString", "internal/bytealg.IndexString"], unfollowed := true, recurses := true, named := ["internal/bytealg.MaxLen"], loops := true, apart := false }
def SyntaxQueriesSaid : Prop := syntaxQueriesRow.holds Tryz.pinned (OpenSpec.ofChange syntaxQueriesSpec)

/-- ITS FALSE NEIGHBOUR: 'it returns false'. Refute it at one input. -/
def syntaxQueriesWrong : ChangeSpec := { name := "syntaxQueries", fn := fun _ => fun
  | [d] => { results := [.lit (.bool false)], args := [d] }
  | _ => none }
def SyntaxQueriesWrongFalsely : Prop := syntaxQueriesRow.holds Tryz.pinned (OpenSpec.ofChange syntaxQueriesWrong)

/- THE SECOND FORM. 'bulk': how many values and letters a reading holds, each counted each time it is reached (what is shared counts as often as it is met; a slice's spare places count too). A statement '..UptoSaid' is the law's where the arguments, and the package variables that the reading takes, are together of bulk at most 1048576: NARROWER than '..Said'. Prove '..Said' where nothing that the law and all that it calls make is longer than what came in: it says more and counts as full. Else prove '..UptoSaid'. A law counts once. -/
mutual
def uptoBulk {H : Type} : DataW H → Nat
  | .lit (.string bytes) => bytes.length + 1
  | .lit _ => 1
  | .nil => 1
  | .ptr d => uptoBulk d + 1
  | .slice elems spare => uptoBulkAll elems + uptoBulkAll spare + 1
  | .agg parts => uptoBulkAll parts + 1
  | .iface _ d => uptoBulk d + 1
  | .map entries => uptoBulkEntries entries + 1
  | .held _ => 1
def uptoBulkAll {H : Type} : List (DataW H) → Nat
  | [] => 0
  | d :: r => uptoBulk d + uptoBulkAll r
def uptoBulkEntries {H : Type} : List (Lit × DataW H) → Nat
  | [] => 0
  | x :: r => uptoBulkEntry x + uptoBulkEntries r
def uptoBulkEntry {H : Type} : Lit × DataW H → Nat
  | (.string bytes, d) => bytes.length + uptoBulk d + 1
  | (_, d) => uptoBulk d + 1
 end
def uptoSmall : (H : Type) → List (DataW H) → Bool := fun _ ds => decide (uptoBulkAll ds ≤ 1048576)
def OpenSpec.upto (s : _root_.Go.ChangeSpec) : _root_.Go.OpenSpec := { _root_.Go.OpenSpec.ofChange s with cond := some uptoSmall }

/-- 'graphdblaw18.SyntaxPaths', WHERE WHAT IT READS IS OF BULK AT MOST 1048576: true; the input reads as it did. -/
def syntaxPathsUptoRow : OpenClaim := { program := "ythcfnaglgoaikaagreat", sum := "d1536075ee06b940958f7f56430f31872a068654bfddf532e091b5166ec9e515", func := "graphdb/graphdblaw18.SyntaxPaths", spec := "syntaxPaths", inPlace := ["internal/bytealg.IndexByteString", "internal/bytealg.IndexString"], unfollowed := true, recurses := true, named := ["internal/bytealg.MaxLen"], loops := true, apart := false, narrowed := true }
def SyntaxPathsUptoSaid : Prop := syntaxPathsUptoRow.holds Tryz.pinned (OpenSpec.upto syntaxPathsSpec)

/-- 'graphdblaw18.SyntaxClauses', WHERE WHAT IT READS IS OF BULK AT MOST 1048576: true; the input reads as it did. -/
def syntaxClausesUptoRow : OpenClaim := { program := "ythcfnaglgoaikaagreat", sum := "d1536075ee06b940958f7f56430f31872a068654bfddf532e091b5166ec9e515", func := "graphdb/graphdblaw18.SyntaxClauses", spec := "syntaxClauses", inPlace := ["internal/bytealg.IndexByteString", "internal/bytealg.IndexString"], unfollowed := true, recurses := true, named := ["internal/bytealg.MaxLen"], loops := true, apart := false, narrowed := true }
def SyntaxClausesUptoSaid : Prop := syntaxClausesUptoRow.holds Tryz.pinned (OpenSpec.upto syntaxClausesSpec)

/-- 'graphdblaw18.SyntaxQueries', WHERE WHAT IT READS IS OF BULK AT MOST 1048576: true; the input reads as it did. -/
def syntaxQueriesUptoRow : OpenClaim := { program := "ythcfnaglgoaikaagreat", sum := "d1536075ee06b940958f7f56430f31872a068654bfddf532e091b5166ec9e515", func := "graphdb/graphdblaw18.SyntaxQueries", spec := "syntaxQueries", inPlace := ["internal/bytealg.IndexByteString", "internal/bytealg.IndexString"], unfollowed := true, recurses := true, named := ["internal/bytealg.MaxLen"], loops := true, apart := false, narrowed := true }
def SyntaxQueriesUptoSaid : Prop := syntaxQueriesUptoRow.holds Tryz.pinned (OpenSpec.upto syntaxQueriesSpec)

end Rows
end Go.Proofs.YthcfnaglgoaikaaGreat
