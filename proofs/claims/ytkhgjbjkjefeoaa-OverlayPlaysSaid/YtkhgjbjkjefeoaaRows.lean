/-
  No cell of these rows narrows 'for every input' (looked for: loops, veiled, ifaces, maps, wideKeys, modest, calm, conditions, laid).
  DERIVED. THE GIVEN ROWS OF THIS SEAT. 5 by the template 'for every input the law returns true; each argument reads behind the call as it read before'; 0 by the template 'total and deterministic' (their statements: YtkhgjbjkjefeoaaTotals.lean).
  GIVEN WITH THE SEED: the statements are not yours to turn. If you find one false, say at which input.
  Laid BY PROGRAM, IN A SANDBOX (cutbox-rows.mjs): the forced cells as the released guide's own fill.sh prints them over the translation 49470d0e39e6c892… (all of the seat's roots in one cut). By AI agents, Wed Nov 11 2026. No macro, syntax, notation, axiom, sorry.
-/
import Derived.Test.YtkhgjbjkjefeoaaChecked
import GoSem.Claim
import GoSem.ClaimJoined
import GoSem.ClaimMapViews
import Derived.JoinedTies
import Derived.KernelRfl
namespace Go.Proofs.Ytkhgjbjkjefeoaa
/- THE CELL 'sum', in the pinned program and in every row, IS THE sha256 OF THE DUMP (.gsa) THAT YtkhgjbjkjefeoaaProg.lean LOADS. Nothing in Lean hashes anything: it is a label: what it is worth is what the hold of that sum in a sandbox is worth. -/
noncomputable def Try.pinned : Pinned := { name := "ytkhgjbjkjefeoaa", sum := "49470d0e39e6c892fdbd854a05120a04ddacd8226e469952f014edd7053a49ef", checked := Try.checked }
namespace Rows
def none {H : Type} : Left H := { results := [], args := [] }

/-- 'graphdblaw13.OverlayWrites': WHATEVER THE INPUT: true; the input reads as it did. -/
def overlayWritesSpec : ChangeSpec := { name := "overlayWrites", fn := fun _ => fun
  | [d1, d2, d3] => { results := [.lit (.bool true)], args := [d1, d2, d3] }
  | _ => none }
def overlayWritesRow : OpenClaim := { program := "ytkhgjbjkjefeoaa", sum := "49470d0e39e6c892fdbd854a05120a04ddacd8226e469952f014edd7053a49ef", func := "graphdb/graphdblaw13.OverlayWrites", spec := "overlayWrites", inPlace := ["slices.overlaps[int]", "slices.overlaps[graphdb/api.Adj]"], unfollowed := true, recurses := true, apart := false }
def OverlayWritesSaid : Prop := overlayWritesRow.holds Try.pinned (OpenSpec.ofChange overlayWritesSpec)

/-- ITS FALSE NEIGHBOUR: 'it returns false'. Refute it at one input. -/
def overlayWritesWrong : ChangeSpec := { name := "overlayWrites", fn := fun _ => fun
  | [d1, d2, d3] => { results := [.lit (.bool false)], args := [d1, d2, d3] }
  | _ => none }
def OverlayWritesWrongFalsely : Prop := overlayWritesRow.holds Try.pinned (OpenSpec.ofChange overlayWritesWrong)

/-- 'graphdblaw13.OverlayBack': WHATEVER THE INPUT: true; the input reads as it did. -/
def overlayBackSpec : ChangeSpec := { name := "overlayBack", fn := fun _ => fun
  | [d1, d2, d3] => { results := [.lit (.bool true)], args := [d1, d2, d3] }
  | _ => none }
def overlayBackRow : OpenClaim := { program := "ytkhgjbjkjefeoaa", sum := "49470d0e39e6c892fdbd854a05120a04ddacd8226e469952f014edd7053a49ef", func := "graphdb/graphdblaw13.OverlayBack", spec := "overlayBack", inPlace := ["slices.overlaps[int]", "slices.overlaps[graphdb/api.Adj]"], unfollowed := true, recurses := true, apart := false }
def OverlayBackSaid : Prop := overlayBackRow.holds Try.pinned (OpenSpec.ofChange overlayBackSpec)

/-- ITS FALSE NEIGHBOUR: 'it returns false'. Refute it at one input. -/
def overlayBackWrong : ChangeSpec := { name := "overlayBack", fn := fun _ => fun
  | [d1, d2, d3] => { results := [.lit (.bool false)], args := [d1, d2, d3] }
  | _ => none }
def OverlayBackWrongFalsely : Prop := overlayBackRow.holds Try.pinned (OpenSpec.ofChange overlayBackWrong)

/-- 'graphdblaw13.OverlayPlays': WHATEVER THE INPUT: true; the input reads as it did. -/
def overlayPlaysSpec : ChangeSpec := { name := "overlayPlays", fn := fun _ => fun
  | [d1, d2] => { results := [.lit (.bool true)], args := [d1, d2] }
  | _ => none }
def overlayPlaysRow : OpenClaim := { program := "ytkhgjbjkjefeoaa", sum := "49470d0e39e6c892fdbd854a05120a04ddacd8226e469952f014edd7053a49ef", func := "graphdb/graphdblaw13.OverlayPlays", spec := "overlayPlays", inPlace := ["slices.overlaps[int]", "slices.overlaps[graphdb/api.Adj]"], unfollowed := true, recurses := true, apart := false }
def OverlayPlaysSaid : Prop := overlayPlaysRow.holds Try.pinned (OpenSpec.ofChange overlayPlaysSpec)

/-- ITS FALSE NEIGHBOUR: 'it returns false'. Refute it at one input. -/
def overlayPlaysWrong : ChangeSpec := { name := "overlayPlays", fn := fun _ => fun
  | [d1, d2] => { results := [.lit (.bool false)], args := [d1, d2] }
  | _ => none }
def OverlayPlaysWrongFalsely : Prop := overlayPlaysRow.holds Try.pinned (OpenSpec.ofChange overlayPlaysWrong)

/-- 'graphdblaw13.OverlayReads': WHATEVER THE INPUT: true; the input reads as it did. -/
def overlayReadsSpec : ChangeSpec := { name := "overlayReads", fn := fun _ => fun
  | [d1, d2] => { results := [.lit (.bool true)], args := [d1, d2] }
  | _ => none }
def overlayReadsRow : OpenClaim := { program := "ytkhgjbjkjefeoaa", sum := "49470d0e39e6c892fdbd854a05120a04ddacd8226e469952f014edd7053a49ef", func := "graphdb/graphdblaw13.OverlayReads", spec := "overlayReads", inPlace := ["slices.overlaps[int]", "slices.overlaps[graphdb/api.Adj]"], unfollowed := true, recurses := true, apart := false }
def OverlayReadsSaid : Prop := overlayReadsRow.holds Try.pinned (OpenSpec.ofChange overlayReadsSpec)

/-- ITS FALSE NEIGHBOUR: 'it returns false'. Refute it at one input. -/
def overlayReadsWrong : ChangeSpec := { name := "overlayReads", fn := fun _ => fun
  | [d1, d2] => { results := [.lit (.bool false)], args := [d1, d2] }
  | _ => none }
def OverlayReadsWrongFalsely : Prop := overlayReadsRow.holds Try.pinned (OpenSpec.ofChange overlayReadsWrong)

/-- 'graphdblaw13.OverlayRows': WHATEVER THE INPUT: true; the input reads as it did. -/
def overlayRowsSpec : ChangeSpec := { name := "overlayRows", fn := fun _ => fun
  | [d] => { results := [.lit (.bool true)], args := [d] }
  | _ => none }
def overlayRowsRow : OpenClaim := { program := "ytkhgjbjkjefeoaa", sum := "49470d0e39e6c892fdbd854a05120a04ddacd8226e469952f014edd7053a49ef", func := "graphdb/graphdblaw13.OverlayRows", spec := "overlayRows", inPlace := ["slices.overlaps[int]", "slices.overlaps[graphdb/api.Adj]"], unfollowed := true, recurses := true, apart := false }
def OverlayRowsSaid : Prop := overlayRowsRow.holds Try.pinned (OpenSpec.ofChange overlayRowsSpec)

/-- ITS FALSE NEIGHBOUR: 'it returns false'. Refute it at one input. -/
def overlayRowsWrong : ChangeSpec := { name := "overlayRows", fn := fun _ => fun
  | [d] => { results := [.lit (.bool false)], args := [d] }
  | _ => none }
def OverlayRowsWrongFalsely : Prop := overlayRowsRow.holds Try.pinned (OpenSpec.ofChange overlayRowsWrong)

/- THE SECOND FORM. 'bulk': how many values and letters a reading holds, each counted each time it is reached (what is shared counts as often as it is met; a slice's spare places count too). A statement '..UptoSaid' is the law's where the arguments, and the package variables that the reading takes, are together of bulk at most 1048576: NARROWER than '..Said'. Prove '..Said' where nothing that the law and all that it calls make is longer than what came in: it says more and counts as full. Else prove '..UptoSaid'. A law counts once. -/
mutual
def uptoBulk {H : Type} : DataW H → Nat
  | .lit (.string bytes) => bytes.length + 1
  | .lit _ => 1
  | .nil => 1
  | .ptr d => uptoBulk d + 1
  | .slice elems spare => uptoBulkAll elems + uptoBulkAll spare + 1
  | .agg parts => uptoBulkAll parts + 1
  | .iface _ d => uptoBulk d + 1
  | .map entries => uptoBulkEntries entries + 1
  | .held _ => 1
def uptoBulkAll {H : Type} : List (DataW H) → Nat
  | [] => 0
  | d :: r => uptoBulk d + uptoBulkAll r
def uptoBulkEntries {H : Type} : List (Lit × DataW H) → Nat
  | [] => 0
  | x :: r => uptoBulkEntry x + uptoBulkEntries r
def uptoBulkEntry {H : Type} : Lit × DataW H → Nat
  | (.string bytes, d) => bytes.length + uptoBulk d + 1
  | (_, d) => uptoBulk d + 1
 end
def uptoSmall : (H : Type) → List (DataW H) → Bool := fun _ ds => decide (uptoBulkAll ds ≤ 1048576)
def OpenSpec.upto (s : _root_.Go.ChangeSpec) : _root_.Go.OpenSpec := { _root_.Go.OpenSpec.ofChange s with cond := some uptoSmall }

/-- 'graphdblaw13.OverlayWrites', WHERE WHAT IT READS IS OF BULK AT MOST 1048576: true; the input reads as it did. -/
def overlayWritesUptoRow : OpenClaim := { program := "ytkhgjbjkjefeoaa", sum := "49470d0e39e6c892fdbd854a05120a04ddacd8226e469952f014edd7053a49ef", func := "graphdb/graphdblaw13.OverlayWrites", spec := "overlayWrites", inPlace := ["slices.overlaps[int]", "slices.overlaps[graphdb/api.Adj]"], unfollowed := true, recurses := true, apart := false, narrowed := true }
def OverlayWritesUptoSaid : Prop := overlayWritesUptoRow.holds Try.pinned (OpenSpec.upto overlayWritesSpec)

/-- 'graphdblaw13.OverlayBack', WHERE WHAT IT READS IS OF BULK AT MOST 1048576: true; the input reads as it did. -/
def overlayBackUptoRow : OpenClaim := { program := "ytkhgjbjkjefeoaa", sum := "49470d0e39e6c892fdbd854a05120a04ddacd8226e469952f014edd7053a49ef", func := "graphdb/graphdblaw13.OverlayBack", spec := "overlayBack", inPlace := ["slices.overlaps[int]", "slices.overlaps[graphdb/api.Adj]"], unfollowed := true, recurses := true, apart := false, narrowed := true }
def OverlayBackUptoSaid : Prop := overlayBackUptoRow.holds Try.pinned (OpenSpec.upto overlayBackSpec)

/-- 'graphdblaw13.OverlayPlays', WHERE WHAT IT READS IS OF BULK AT MOST 1048576: true; the input reads as it did. -/
def overlayPlaysUptoRow : OpenClaim := { program := "ytkhgjbjkjefeoaa", sum := "49470d0e39e6c892fdbd854a05120a04ddacd8226e469952f014edd7053a49ef", func := "graphdb/graphdblaw13.OverlayPlays", spec := "overlayPlays", inPlace := ["slices.overlaps[int]", "slices.overlaps[graphdb/api.Adj]"], unfollowed := true, recurses := true, apart := false, narrowed := true }
def OverlayPlaysUptoSaid : Prop := overlayPlaysUptoRow.holds Try.pinned (OpenSpec.upto overlayPlaysSpec)

/-- 'graphdblaw13.OverlayReads', WHERE WHAT IT READS IS OF BULK AT MOST 1048576: true; the input reads as it did. -/
def overlayReadsUptoRow : OpenClaim := { program := "ytkhgjbjkjefeoaa", sum := "49470d0e39e6c892fdbd854a05120a04ddacd8226e469952f014edd7053a49ef", func := "graphdb/graphdblaw13.OverlayReads", spec := "overlayReads", inPlace := ["slices.overlaps[int]", "slices.overlaps[graphdb/api.Adj]"], unfollowed := true, recurses := true, apart := false, narrowed := true }
def OverlayReadsUptoSaid : Prop := overlayReadsUptoRow.holds Try.pinned (OpenSpec.upto overlayReadsSpec)

/-- 'graphdblaw13.OverlayRows', WHERE WHAT IT READS IS OF BULK AT MOST 1048576: true; the input reads as it did. -/
def overlayRowsUptoRow : OpenClaim := { program := "ytkhgjbjkjefeoaa", sum := "49470d0e39e6c892fdbd854a05120a04ddacd8226e469952f014edd7053a49ef", func := "graphdb/graphdblaw13.OverlayRows", spec := "overlayRows", inPlace := ["slices.overlaps[int]", "slices.overlaps[graphdb/api.Adj]"], unfollowed := true, recurses := true, apart := false, narrowed := true }
def OverlayRowsUptoSaid : Prop := overlayRowsUptoRow.holds Try.pinned (OpenSpec.upto overlayRowsSpec)

end Rows
end Go.Proofs.Ytkhgjbjkjefeoaa
