/-
  NARROWER THAN 'FOR EVERY INPUT', by the rows' own cells (each row's printed sentence says how): BindScopes: loops · BindChecks: loops · BindUses: loops · BindOnce: loops · BindPrefix: loops · BindColumns: loops.
  DERIVED. THE GIVEN ROWS OF THIS SEAT. 6 by the template 'for every input the law returns true; each argument reads behind the call as it read before'; 0 by the template 'total and deterministic' (their statements: YtgjljfbohpnfcaaGreatTotals.lean).
  GIVEN WITH THE SEED: the statements are not yours to turn. If you find one false, say at which input.
  Laid BY PROGRAM, IN A SANDBOX (cutbox-rows.mjs): the forced cells as the released guide's own fill.sh prints them over the translation 0e286db49d3eef24… (all of the seat's roots in one cut). By AI agents, Wed Nov 11 2026. No macro, syntax, notation, axiom, sorry.
-/
import Derived.Test.YtgjljfbohpnfcaaGreatChecked
import GoSem.Claim
import GoSem.ClaimJoined
import GoSem.ClaimMapViews
import Derived.JoinedTies
import Derived.KernelRfl
namespace Go.Proofs.YtgjljfbohpnfcaaGreat
/- THE CELL 'sum', in the pinned program and in every row, IS THE sha256 OF THE DUMP (.gsa) THAT YtgjljfbohpnfcaaGreatProg.lean LOADS. Nothing in Lean hashes anything: it is a label: what it is worth is what the hold of that sum in a sandbox is worth. -/
noncomputable def Tryz.pinned : Pinned := { name := "ytgjljfbohpnfcaagreat", sum := "0e286db49d3eef240f435d6d4e8460d0fb39a983bfefdf0b377d05c7b8e1447b", checked := Tryz.checked }
namespace Rows
def none {H : Type} : Left H := { results := [], args := [] }

/-- 'graphdblaw21.BindScopes': WHATEVER THE INPUT: true; the input reads as it did. -/
def bindScopesSpec : ChangeSpec := { name := "bindScopes", fn := fun _ => fun
  | [d1, d2] => { results := [.lit (.bool true)], args := [d1, d2] }
  | _ => none }
def bindScopesRow : OpenClaim := { program := "ytgjljfbohpnfcaagreat", sum := "0e286db49d3eef240f435d6d4e8460d0fb39a983bfefdf0b377d05c7b8e1447b", func := "graphdb/graphdblaw21.BindScopes", spec := "bindScopes", inPlace := ["internal/bytealg.IndexByteString", "internal/bytealg.IndexString"], unfollowed := true, recurses := true, named := ["internal/bytealg.MaxLen"], loops := true, apart := false }
def BindScopesSaid : Prop := bindScopesRow.holds Tryz.pinned (OpenSpec.ofChange bindScopesSpec)

/-- ITS FALSE NEIGHBOUR: 'it returns false'. Refute it at one input. -/
def bindScopesWrong : ChangeSpec := { name := "bindScopes", fn := fun _ => fun
  | [d1, d2] => { results := [.lit (.bool false)], args := [d1, d2] }
  | _ => none }
def BindScopesWrongFalsely : Prop := bindScopesRow.holds Tryz.pinned (OpenSpec.ofChange bindScopesWrong)

/-- 'graphdblaw21.BindChecks': WHATEVER THE INPUT: true; the input reads as it did. -/
def bindChecksSpec : ChangeSpec := { name := "bindChecks", fn := fun _ => fun
  | [d] => { results := [.lit (.bool true)], args := [d] }
  | _ => none }
def bindChecksRow : OpenClaim := { program := "ytgjljfbohpnfcaagreat", sum := "0e286db49d3eef240f435d6d4e8460d0fb39a983bfefdf0b377d05c7b8e1447b", func := "graphdb/graphdblaw21.BindChecks", spec := "bindChecks", inPlace := ["internal/bytealg.IndexByteString", "internal/bytealg.IndexString"], unfollowed := true, recurses := true, named := ["internal/bytealg.MaxLen"], loops := true, apart := false }
def BindChecksSaid : Prop := bindChecksRow.holds Tryz.pinned (OpenSpec.ofChange bindChecksSpec)

/-- ITS FALSE NEIGHBOUR: 'it returns false'. Refute it at one input. -/
def bindChecksWrong : ChangeSpec := { name := "bindChecks", fn := fun _ => fun
  | [d] => { results := [.lit (.bool false)], args := [d] }
  | _ => none }
def BindChecksWrongFalsely : Prop := bindChecksRow.holds Tryz.pinned (OpenSpec.ofChange bindChecksWrong)

/-- 'graphdblaw21.BindUses': WHATEVER THE INPUT: true; the input reads as it did. -/
def bindUsesSpec : ChangeSpec := { name := "bindUses", fn := fun _ => fun
  | [d] => { results := [.lit (.bool true)], args := [d] }
  | _ => none }
def bindUsesRow : OpenClaim := { program := "ytgjljfbohpnfcaagreat", sum := "0e286db49d3eef240f435d6d4e8460d0fb39a983bfefdf0b377d05c7b8e1447b", func := "graphdb/graphdblaw21.BindUses", spec := "bindUses", inPlace := ["internal/bytealg.IndexByteString", "internal/bytealg.IndexString"], unfollowed := true, recurses := true, named := ["internal/bytealg.MaxLen"], loops := true, apart := false }
def BindUsesSaid : Prop := bindUsesRow.holds Tryz.pinned (OpenSpec.ofChange bindUsesSpec)

/-- ITS FALSE NEIGHBOUR: 'it returns false'. Refute it at one input. -/
def bindUsesWrong : ChangeSpec := { name := "bindUses", fn := fun _ => fun
  | [d] => { results := [.lit (.bool false)], args := [d] }
  | _ => none }
def BindUsesWrongFalsely : Prop := bindUsesRow.holds Tryz.pinned (OpenSpec.ofChange bindUsesWrong)

/-- 'graphdblaw21.BindOnce': WHATEVER THE INPUT: true; the input reads as it did. -/
def bindOnceSpec : ChangeSpec := { name := "bindOnce", fn := fun _ => fun
  | [d1, d2] => { results := [.lit (.bool true)], args := [d1, d2] }
  | _ => none }
def bindOnceRow : OpenClaim := { program := "ytgjljfbohpnfcaagreat", sum := "0e286db49d3eef240f435d6d4e8460d0fb39a983bfefdf0b377d05c7b8e1447b", func := "graphdb/graphdblaw21.BindOnce", spec := "bindOnce", inPlace := ["internal/bytealg.IndexByteString", "internal/bytealg.IndexString"], unfollowed := true, recurses := true, named := ["internal/bytealg.MaxLen"], loops := true, apart := false }
def BindOnceSaid : Prop := bindOnceRow.holds Tryz.pinned (OpenSpec.ofChange bindOnceSpec)

/-- ITS FALSE NEIGHBOUR: 'it returns false'. Refute it at one input. -/
def bindOnceWrong : ChangeSpec := { name := "bindOnce", fn := fun _ => fun
  | [d1, d2] => { results := [.lit (.bool false)], args := [d1, d2] }
  | _ => none }
def BindOnceWrongFalsely : Prop := bindOnceRow.holds Tryz.pinned (OpenSpec.ofChange bindOnceWrong)

/-- 'graphdblaw21.BindPrefix': WHATEVER THE INPUT: true; the input reads as it did. -/
def bindPrefixSpec : ChangeSpec := { name := "bindPrefix", fn := fun _ => fun
  | [d1, d2] => { results := [.lit (.bool true)], args := [d1, d2] }
  | _ => none }
def bindPrefixRow : OpenClaim := { program := "ytgjljfbohpnfcaagreat", sum := "0e286db49d3eef240f435d6d4e8460d0fb39a983bfefdf0b377d05c7b8e1447b", func := "graphdb/graphdblaw21.BindPrefix", spec := "bindPrefix", inPlace := ["internal/bytealg.IndexByteString", "internal/bytealg.IndexString"], unfollowed := true, recurses := true, named := ["internal/bytealg.MaxLen"], loops := true, apart := false }
def BindPrefixSaid : Prop := bindPrefixRow.holds Tryz.pinned (OpenSpec.ofChange bindPrefixSpec)

/-- ITS FALSE NEIGHBOUR: 'it returns false'. Refute it at one input. -/
def bindPrefixWrong : ChangeSpec := { name := "bindPrefix", fn := fun _ => fun
  | [d1, d2] => { results := [.lit (.bool false)], args := [d1, d2] }
  | _ => none }
def BindPrefixWrongFalsely : Prop := bindPrefixRow.holds Tryz.pinned (OpenSpec.ofChange bindPrefixWrong)

/-- 'graphdblaw21.BindColumns': WHATEVER THE INPUT: true; the input reads as it did. -/
def bindColumnsSpec : ChangeSpec := { name := "bindColumns", fn := fun _ => fun
  | [d] => { results := [.lit (.bool true)], args := [d] }
  | _ => none }
def bindColumnsRow : OpenClaim := { program := "ytgjljfbohpnfcaagreat", sum := "0e286db49d3eef240f435d6d4e8460d0fb39a983bfefdf0b377d05c7b8e1447b", func := "graphdb/graphdblaw21.BindColumns", spec := "bindColumns", inPlace := ["internal/bytealg.IndexByteString", "internal/bytealg.IndexString"], unfollowed := true, recurses := true, named := ["internal/bytealg.MaxLen"], loops := true, apart := false }
def BindColumnsSaid : Prop := bindColumnsRow.holds Tryz.pinned (OpenSpec.ofChange bindColumnsSpec)

/-- ITS FALSE NEIGHBOUR: 'it returns false'. Refute it at one input. -/
def bindColumnsWrong : ChangeSpec := { name := "bindColumns", fn := fun _ => fun
  | [d] => { results := [.lit (.bool false)], args := [d] }
  | _ => none }
def BindColumnsWrongFalsely : Prop := bindColumnsRow.holds Tryz.pinned (OpenSpec.ofChange bindColumnsWrong)

/- THE SECOND FORM. 'bulk': how many values and letters a reading holds, each counted each time it is reached (what is shared counts as often as it is met; a slice's spare places count too). A statement '..UptoSaid' is the law's where the arguments, and the package variables that the reading takes, are together of bulk at most 1048576: NARROWER than '..Said'. Prove '..Said' where nothing that the law and all that it calls make is longer than what came in: it says more and counts as full. Else prove '..UptoSaid'. A law counts once. -/
mutual
def uptoBulk {H : Type} : DataW H → Nat
  | .lit (.string bytes) => bytes.length + 1
  | .lit _ => 1
  | .nil => 1
  | .ptr d => uptoBulk d + 1
  | .slice elems spare => uptoBulkAll elems + uptoBulkAll spare + 1
  | .agg parts => uptoBulkAll parts + 1
  | .iface _ d => uptoBulk d + 1
  | .map entries => uptoBulkEntries entries + 1
  | .held _ => 1
def uptoBulkAll {H : Type} : List (DataW H) → Nat
  | [] => 0
  | d :: r => uptoBulk d + uptoBulkAll r
def uptoBulkEntries {H : Type} : List (Lit × DataW H) → Nat
  | [] => 0
  | x :: r => uptoBulkEntry x + uptoBulkEntries r
def uptoBulkEntry {H : Type} : Lit × DataW H → Nat
  | (.string bytes, d) => bytes.length + uptoBulk d + 1
  | (_, d) => uptoBulk d + 1
 end
def uptoSmall : (H : Type) → List (DataW H) → Bool := fun _ ds => decide (uptoBulkAll ds ≤ 1048576)
def OpenSpec.upto (s : _root_.Go.ChangeSpec) : _root_.Go.OpenSpec := { _root_.Go.OpenSpec.ofChange s with cond := some uptoSmall }

/-- 'graphdblaw21.BindScopes', WHERE WHAT IT READS IS OF BULK AT MOST 1048576: true; the input reads as it did. -/
def bindScopesUptoRow : OpenClaim := { program := "ytgjljfbohpnfcaagreat", sum := "0e286db49d3eef240f435d6d4e8460d0fb39a983bfefdf0b377d05c7b8e1447b", func := "graphdb/graphdblaw21.BindScopes", spec := "bindScopes", inPlace := ["internal/bytealg.IndexByteString", "internal/bytealg.IndexString"], unfollowed := true, recurses := true, named := ["internal/bytealg.MaxLen"], loops := true, apart := false, narrowed := true }
def BindScopesUptoSaid : Prop := bindScopesUptoRow.holds Tryz.pinned (OpenSpec.upto bindScopesSpec)

/-- 'graphdblaw21.BindChecks', WHERE WHAT IT READS IS OF BULK AT MOST 1048576: true; the input reads as it did. -/
def bindChecksUptoRow : OpenClaim := { program := "ytgjljfbohpnfcaagreat", sum := "0e286db49d3eef240f435d6d4e8460d0fb39a983bfefdf0b377d05c7b8e1447b", func := "graphdb/graphdblaw21.BindChecks", spec := "bindChecks", inPlace := ["internal/bytealg.IndexByteString", "internal/bytealg.IndexString"], unfollowed := true, recurses := true, named := ["internal/bytealg.MaxLen"], loops := true, apart := false, narrowed := true }
def BindChecksUptoSaid : Prop := bindChecksUptoRow.holds Tryz.pinned (OpenSpec.upto bindChecksSpec)

/-- 'graphdblaw21.BindUses', WHERE WHAT IT READS IS OF BULK AT MOST 1048576: true; the input reads as it did. -/
def bindUsesUptoRow : OpenClaim := { program := "ytgjljfbohpnfcaagreat", sum := "0e286db49d3eef240f435d6d4e8460d0fb39a983bfefdf0b377d05c7b8e1447b", func := "graphdb/graphdblaw21.BindUses", spec := "bindUses", inPlace := ["internal/bytealg.IndexByteString", "internal/bytealg.IndexString"], unfollowed := true, recurses := true, named := ["internal/bytealg.MaxLen"], loops := true, apart := false, narrowed := true }
def BindUsesUptoSaid : Prop := bindUsesUptoRow.holds Tryz.pinned (OpenSpec.upto bindUsesSpec)

/-- 'graphdblaw21.BindOnce', WHERE WHAT IT READS IS OF BULK AT MOST 1048576: true; the input reads as it did. -/
def bindOnceUptoRow : OpenClaim := { program := "ytgjljfbohpnfcaagreat", sum := "0e286db49d3eef240f435d6d4e8460d0fb39a983bfefdf0b377d05c7b8e1447b", func := "graphdb/graphdblaw21.BindOnce", spec := "bindOnce", inPlace := ["internal/bytealg.IndexByteString", "internal/bytealg.IndexString"], unfollowed := true, recurses := true, named := ["internal/bytealg.MaxLen"], loops := true, apart := false, narrowed := true }
def BindOnceUptoSaid : Prop := bindOnceUptoRow.holds Tryz.pinned (OpenSpec.upto bindOnceSpec)

/-- 'graphdblaw21.BindPrefix', WHERE WHAT IT READS IS OF BULK AT MOST 1048576: true; the input reads as it did. -/
def bindPrefixUptoRow : OpenClaim := { program := "ytgjljfbohpnfcaagreat", sum := "0e286db49d3eef240f435d6d4e8460d0fb39a983bfefdf0b377d05c7b8e1447b", func := "graphdb/graphdblaw21.BindPrefix", spec := "bindPrefix", inPlace := ["internal/bytealg.IndexByteString", "internal/bytealg.IndexString"], unfollowed := true, recurses := true, named := ["internal/bytealg.MaxLen"], loops := true, apart := false, narrowed := true }
def BindPrefixUptoSaid : Prop := bindPrefixUptoRow.holds Tryz.pinned (OpenSpec.upto bindPrefixSpec)

/-- 'graphdblaw21.BindColumns', WHERE WHAT IT READS IS OF BULK AT MOST 1048576: true; the input reads as it did. -/
def bindColumnsUptoRow : OpenClaim := { program := "ytgjljfbohpnfcaagreat", sum := "0e286db49d3eef240f435d6d4e8460d0fb39a983bfefdf0b377d05c7b8e1447b", func := "graphdb/graphdblaw21.BindColumns", spec := "bindColumns", inPlace := ["internal/bytealg.IndexByteString", "internal/bytealg.IndexString"], unfollowed := true, recurses := true, named := ["internal/bytealg.MaxLen"], loops := true, apart := false, narrowed := true }
def BindColumnsUptoSaid : Prop := bindColumnsUptoRow.holds Tryz.pinned (OpenSpec.upto bindColumnsSpec)

end Rows
end Go.Proofs.YtgjljfbohpnfcaaGreat
