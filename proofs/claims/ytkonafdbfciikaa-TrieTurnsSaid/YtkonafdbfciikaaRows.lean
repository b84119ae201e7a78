/-
  No cell of these rows narrows 'for every input' (looked for: loops, veiled, ifaces, maps, wideKeys, modest, calm, conditions, laid).
  DERIVED. THE GIVEN ROWS OF THIS SEAT. 7 by the template 'for every input the law returns true; each argument reads behind the call as it read before'; 0 by the template 'total and deterministic' (their statements: YtkonafdbfciikaaTotals.lean).
  GIVEN WITH THE SEED: the statements are not yours to turn. If you find one false, say at which input.
  Laid BY PROGRAM, IN A SANDBOX (cutbox-rows.mjs): the forced cells as the released guide's own fill.sh prints them over the translation 472109642e244dc0… (all of the seat's roots in one cut). By AI agents, Wed Nov 11 2026. No macro, syntax, notation, axiom, sorry.
-/
import Derived.Test.YtkonafdbfciikaaChecked
import GoSem.Claim
import GoSem.ClaimJoined
import GoSem.ClaimMapViews
import Derived.JoinedTies
import Derived.KernelRfl
namespace Go.Proofs.Ytkonafdbfciikaa
/- THE CELL 'sum', in the pinned program and in every row, IS THE sha256 OF THE DUMP (.gsa) THAT YtkonafdbfciikaaProg.lean LOADS. Nothing in Lean hashes anything: it is a label: what it is worth is what the hold of that sum in a sandbox is worth. -/
noncomputable def Try.pinned : Pinned := { name := "ytkonafdbfciikaa", sum := "472109642e244dc0cccd3158978766191cf448b0ddf60d6890f1eabc626d0d5d", checked := Try.checked }
namespace Rows
def none {H : Type} : Left H := { results := [], args := [] }

/-- 'graphdblaw14.TrieWalks': WHATEVER THE INPUT: true; the input reads as it did. -/
def trieWalksSpec : ChangeSpec := { name := "trieWalks", fn := fun _ => fun
  | [d1, d2] => { results := [.lit (.bool true)], args := [d1, d2] }
  | _ => none }
def trieWalksRow : OpenClaim := { program := "ytkonafdbfciikaa", sum := "472109642e244dc0cccd3158978766191cf448b0ddf60d6890f1eabc626d0d5d", func := "graphdb/graphdblaw14.TrieWalks", spec := "trieWalks", unfollowed := true, recurses := true, apart := false }
def TrieWalksSaid : Prop := trieWalksRow.holds Try.pinned (OpenSpec.ofChange trieWalksSpec)

/-- ITS FALSE NEIGHBOUR: 'it returns false'. Refute it at one input. -/
def trieWalksWrong : ChangeSpec := { name := "trieWalks", fn := fun _ => fun
  | [d1, d2] => { results := [.lit (.bool false)], args := [d1, d2] }
  | _ => none }
def TrieWalksWrongFalsely : Prop := trieWalksRow.holds Try.pinned (OpenSpec.ofChange trieWalksWrong)

/-- 'graphdblaw14.TrieBack': WHATEVER THE INPUT: true; the input reads as it did. -/
def trieBackSpec : ChangeSpec := { name := "trieBack", fn := fun _ => fun
  | [d1, d2] => { results := [.lit (.bool true)], args := [d1, d2] }
  | _ => none }
def trieBackRow : OpenClaim := { program := "ytkonafdbfciikaa", sum := "472109642e244dc0cccd3158978766191cf448b0ddf60d6890f1eabc626d0d5d", func := "graphdb/graphdblaw14.TrieBack", spec := "trieBack", unfollowed := true, recurses := true, apart := false }
def TrieBackSaid : Prop := trieBackRow.holds Try.pinned (OpenSpec.ofChange trieBackSpec)

/-- ITS FALSE NEIGHBOUR: 'it returns false'. Refute it at one input. -/
def trieBackWrong : ChangeSpec := { name := "trieBack", fn := fun _ => fun
  | [d1, d2] => { results := [.lit (.bool false)], args := [d1, d2] }
  | _ => none }
def TrieBackWrongFalsely : Prop := trieBackRow.holds Try.pinned (OpenSpec.ofChange trieBackWrong)

/-- 'graphdblaw14.TrieSeeks': WHATEVER THE INPUT: true; the input reads as it did. -/
def trieSeeksSpec : ChangeSpec := { name := "trieSeeks", fn := fun _ => fun
  | [d1, d2] => { results := [.lit (.bool true)], args := [d1, d2] }
  | _ => none }
def trieSeeksRow : OpenClaim := { program := "ytkonafdbfciikaa", sum := "472109642e244dc0cccd3158978766191cf448b0ddf60d6890f1eabc626d0d5d", func := "graphdb/graphdblaw14.TrieSeeks", spec := "trieSeeks", unfollowed := true, recurses := true, apart := false }
def TrieSeeksSaid : Prop := trieSeeksRow.holds Try.pinned (OpenSpec.ofChange trieSeeksSpec)

/-- ITS FALSE NEIGHBOUR: 'it returns false'. Refute it at one input. -/
def trieSeeksWrong : ChangeSpec := { name := "trieSeeks", fn := fun _ => fun
  | [d1, d2] => { results := [.lit (.bool false)], args := [d1, d2] }
  | _ => none }
def TrieSeeksWrongFalsely : Prop := trieSeeksRow.holds Try.pinned (OpenSpec.ofChange trieSeeksWrong)

/-- 'graphdblaw14.TrieSteps': WHATEVER THE INPUT: true; the input reads as it did. -/
def trieStepsSpec : ChangeSpec := { name := "trieSteps", fn := fun _ => fun
  | [d1, d2, d3] => { results := [.lit (.bool true)], args := [d1, d2, d3] }
  | _ => none }
def trieStepsRow : OpenClaim := { program := "ytkonafdbfciikaa", sum := "472109642e244dc0cccd3158978766191cf448b0ddf60d6890f1eabc626d0d5d", func := "graphdb/graphdblaw14.TrieSteps", spec := "trieSteps", unfollowed := true, recurses := true, apart := false }
def TrieStepsSaid : Prop := trieStepsRow.holds Try.pinned (OpenSpec.ofChange trieStepsSpec)

/-- ITS FALSE NEIGHBOUR: 'it returns false'. Refute it at one input. -/
def trieStepsWrong : ChangeSpec := { name := "trieSteps", fn := fun _ => fun
  | [d1, d2, d3] => { results := [.lit (.bool false)], args := [d1, d2, d3] }
  | _ => none }
def TrieStepsWrongFalsely : Prop := trieStepsRow.holds Try.pinned (OpenSpec.ofChange trieStepsWrong)

/-- 'graphdblaw14.TrieReads': WHATEVER THE INPUT: true; the input reads as it did. -/
def trieReadsSpec : ChangeSpec := { name := "trieReads", fn := fun _ => fun
  | [d1, d2] => { results := [.lit (.bool true)], args := [d1, d2] }
  | _ => none }
def trieReadsRow : OpenClaim := { program := "ytkonafdbfciikaa", sum := "472109642e244dc0cccd3158978766191cf448b0ddf60d6890f1eabc626d0d5d", func := "graphdb/graphdblaw14.TrieReads", spec := "trieReads", unfollowed := true, recurses := true, apart := false }
def TrieReadsSaid : Prop := trieReadsRow.holds Try.pinned (OpenSpec.ofChange trieReadsSpec)

/-- ITS FALSE NEIGHBOUR: 'it returns false'. Refute it at one input. -/
def trieReadsWrong : ChangeSpec := { name := "trieReads", fn := fun _ => fun
  | [d1, d2] => { results := [.lit (.bool false)], args := [d1, d2] }
  | _ => none }
def TrieReadsWrongFalsely : Prop := trieReadsRow.holds Try.pinned (OpenSpec.ofChange trieReadsWrong)

/-- 'graphdblaw14.TrieTells': WHATEVER THE INPUT: true; the input reads as it did. -/
def trieTellsSpec : ChangeSpec := { name := "trieTells", fn := fun _ => fun
  | [d1, d2, d3] => { results := [.lit (.bool true)], args := [d1, d2, d3] }
  | _ => none }
def trieTellsRow : OpenClaim := { program := "ytkonafdbfciikaa", sum := "472109642e244dc0cccd3158978766191cf448b0ddf60d6890f1eabc626d0d5d", func := "graphdb/graphdblaw14.TrieTells", spec := "trieTells", unfollowed := true, recurses := true, apart := false }
def TrieTellsSaid : Prop := trieTellsRow.holds Try.pinned (OpenSpec.ofChange trieTellsSpec)

/-- ITS FALSE NEIGHBOUR: 'it returns false'. Refute it at one input. -/
def trieTellsWrong : ChangeSpec := { name := "trieTells", fn := fun _ => fun
  | [d1, d2, d3] => { results := [.lit (.bool false)], args := [d1, d2, d3] }
  | _ => none }
def TrieTellsWrongFalsely : Prop := trieTellsRow.holds Try.pinned (OpenSpec.ofChange trieTellsWrong)

/-- 'graphdblaw14.TrieTurns': WHATEVER THE INPUT: true; the input reads as it did. -/
def trieTurnsSpec : ChangeSpec := { name := "trieTurns", fn := fun _ => fun
  | [d1, d2] => { results := [.lit (.bool true)], args := [d1, d2] }
  | _ => none }
def trieTurnsRow : OpenClaim := { program := "ytkonafdbfciikaa", sum := "472109642e244dc0cccd3158978766191cf448b0ddf60d6890f1eabc626d0d5d", func := "graphdb/graphdblaw14.TrieTurns", spec := "trieTurns", unfollowed := true, recurses := true, apart := false }
def TrieTurnsSaid : Prop := trieTurnsRow.holds Try.pinned (OpenSpec.ofChange trieTurnsSpec)

/-- ITS FALSE NEIGHBOUR: 'it returns false'. Refute it at one input. -/
def trieTurnsWrong : ChangeSpec := { name := "trieTurns", fn := fun _ => fun
  | [d1, d2] => { results := [.lit (.bool false)], args := [d1, d2] }
  | _ => none }
def TrieTurnsWrongFalsely : Prop := trieTurnsRow.holds Try.pinned (OpenSpec.ofChange trieTurnsWrong)

/- THE SECOND FORM. 'bulk': how many values and letters a reading holds, each counted each time it is reached (what is shared counts as often as it is met; a slice's spare places count too). A statement '..UptoSaid' is the law's where the arguments, and the package variables that the reading takes, are together of bulk at most 1048576: NARROWER than '..Said'. Prove '..Said' where nothing that the law and all that it calls make is longer than what came in: it says more and counts as full. Else prove '..UptoSaid'. A law counts once. -/
mutual
def uptoBulk {H : Type} : DataW H → Nat
  | .lit (.string bytes) => bytes.length + 1
  | .lit _ => 1
  | .nil => 1
  | .ptr d => uptoBulk d + 1
  | .slice elems spare => uptoBulkAll elems + uptoBulkAll spare + 1
  | .agg parts => uptoBulkAll parts + 1
  | .iface _ d => uptoBulk d + 1
  | .map entries => uptoBulkEntries entries + 1
  | .held _ => 1
def uptoBulkAll {H : Type} : List (DataW H) → Nat
  | [] => 0
  | d :: r => uptoBulk d + uptoBulkAll r
def uptoBulkEntries {H : Type} : List (Lit × DataW H) → Nat
  | [] => 0
  | x :: r => uptoBulkEntry x + uptoBulkEntries r
def uptoBulkEntry {H : Type} : Lit × DataW H → Nat
  | (.string bytes, d) => bytes.length + uptoBulk d + 1
  | (_, d) => uptoBulk d + 1
 end
def uptoSmall : (H : Type) → List (DataW H) → Bool := fun _ ds => decide (uptoBulkAll ds ≤ 1048576)
def OpenSpec.upto (s : _root_.Go.ChangeSpec) : _root_.Go.OpenSpec := { _root_.Go.OpenSpec.ofChange s with cond := some uptoSmall }

/-- 'graphdblaw14.TrieWalks', WHERE WHAT IT READS IS OF BULK AT MOST 1048576: true; the input reads as it did. -/
def trieWalksUptoRow : OpenClaim := { program := "ytkonafdbfciikaa", sum := "472109642e244dc0cccd3158978766191cf448b0ddf60d6890f1eabc626d0d5d", func := "graphdb/graphdblaw14.TrieWalks", spec := "trieWalks", unfollowed := true, recurses := true, apart := false, narrowed := true }
def TrieWalksUptoSaid : Prop := trieWalksUptoRow.holds Try.pinned (OpenSpec.upto trieWalksSpec)

/-- 'graphdblaw14.TrieBack', WHERE WHAT IT READS IS OF BULK AT MOST 1048576: true; the input reads as it did. -/
def trieBackUptoRow : OpenClaim := { program := "ytkonafdbfciikaa", sum := "472109642e244dc0cccd3158978766191cf448b0ddf60d6890f1eabc626d0d5d", func := "graphdb/graphdblaw14.TrieBack", spec := "trieBack", unfollowed := true, recurses := true, apart := false, narrowed := true }
def TrieBackUptoSaid : Prop := trieBackUptoRow.holds Try.pinned (OpenSpec.upto trieBackSpec)

/-- 'graphdblaw14.TrieSeeks', WHERE WHAT IT READS IS OF BULK AT MOST 1048576: true; the input reads as it did. -/
def trieSeeksUptoRow : OpenClaim := { program := "ytkonafdbfciikaa", sum := "472109642e244dc0cccd3158978766191cf448b0ddf60d6890f1eabc626d0d5d", func := "graphdb/graphdblaw14.TrieSeeks", spec := "trieSeeks", unfollowed := true, recurses := true, apart := false, narrowed := true }
def TrieSeeksUptoSaid : Prop := trieSeeksUptoRow.holds Try.pinned (OpenSpec.upto trieSeeksSpec)

/-- 'graphdblaw14.TrieSteps', WHERE WHAT IT READS IS OF BULK AT MOST 1048576: true; the input reads as it did. -/
def trieStepsUptoRow : OpenClaim := { program := "ytkonafdbfciikaa", sum := "472109642e244dc0cccd3158978766191cf448b0ddf60d6890f1eabc626d0d5d", func := "graphdb/graphdblaw14.TrieSteps", spec := "trieSteps", unfollowed := true, recurses := true, apart := false, narrowed := true }
def TrieStepsUptoSaid : Prop := trieStepsUptoRow.holds Try.pinned (OpenSpec.upto trieStepsSpec)

/-- 'graphdblaw14.TrieReads', WHERE WHAT IT READS IS OF BULK AT MOST 1048576: true; the input reads as it did. -/
def trieReadsUptoRow : OpenClaim := { program := "ytkonafdbfciikaa", sum := "472109642e244dc0cccd3158978766191cf448b0ddf60d6890f1eabc626d0d5d", func := "graphdb/graphdblaw14.TrieReads", spec := "trieReads", unfollowed := true, recurses := true, apart := false, narrowed := true }
def TrieReadsUptoSaid : Prop := trieReadsUptoRow.holds Try.pinned (OpenSpec.upto trieReadsSpec)

/-- 'graphdblaw14.TrieTells', WHERE WHAT IT READS IS OF BULK AT MOST 1048576: true; the input reads as it did. -/
def trieTellsUptoRow : OpenClaim := { program := "ytkonafdbfciikaa", sum := "472109642e244dc0cccd3158978766191cf448b0ddf60d6890f1eabc626d0d5d", func := "graphdb/graphdblaw14.TrieTells", spec := "trieTells", unfollowed := true, recurses := true, apart := false, narrowed := true }
def TrieTellsUptoSaid : Prop := trieTellsUptoRow.holds Try.pinned (OpenSpec.upto trieTellsSpec)

/-- 'graphdblaw14.TrieTurns', WHERE WHAT IT READS IS OF BULK AT MOST 1048576: true; the input reads as it did. -/
def trieTurnsUptoRow : OpenClaim := { program := "ytkonafdbfciikaa", sum := "472109642e244dc0cccd3158978766191cf448b0ddf60d6890f1eabc626d0d5d", func := "graphdb/graphdblaw14.TrieTurns", spec := "trieTurns", unfollowed := true, recurses := true, apart := false, narrowed := true }
def TrieTurnsUptoSaid : Prop := trieTurnsUptoRow.holds Try.pinned (OpenSpec.upto trieTurnsSpec)

end Rows
end Go.Proofs.Ytkonafdbfciikaa
