/-
  No cell of these rows narrows 'for every input' (looked for: loops, veiled, ifaces, maps, wideKeys, modest, calm, conditions, laid).
  DERIVED. THE GIVEN ROWS OF THIS SEAT. 6 by the template 'for every input the law returns true; each argument reads behind the call as it read before'; 0 by the template 'total and deterministic' (their statements: YtpbgnnaaobamfaaTotals.lean).
  GIVEN WITH THE SEED: the statements are not yours to turn. If you find one false, say at which input.
  Laid BY PROGRAM, IN A SANDBOX (cutbox-rows.mjs): the forced cells as the released guide's own fill.sh prints them over the translation af94d786ac53972c… (all of the seat's roots in one cut). By AI agents, Wed Nov 11 2026. No macro, syntax, notation, axiom, sorry.
-/
import Derived.Test.YtpbgnnaaobamfaaChecked
import GoSem.Claim
import GoSem.ClaimJoined
import GoSem.ClaimMapViews
import Derived.JoinedTies
import Derived.KernelRfl
namespace Go.Proofs.Ytpbgnnaaobamfaa
/- THE CELL 'sum', in the pinned program and in every row, IS THE sha256 OF THE DUMP (.gsa) THAT YtpbgnnaaobamfaaProg.lean LOADS. Nothing in Lean hashes anything: it is a label: what it is worth is what the hold of that sum in a sandbox is worth. -/
noncomputable def Try.pinned : Pinned := { name := "ytpbgnnaaobamfaa", sum := "af94d786ac53972c44b71173d6709afc2f6f57fba795728d96d8d75aa701da0e", checked := Try.checked }
namespace Rows
def none {H : Type} : Left H := { results := [], args := [] }

/-- 'graphdblaw33.LeapfrogMeet': WHATEVER THE INPUT: true; the input reads as it did. -/
def leapfrogMeetSpec : ChangeSpec := { name := "leapfrogMeet", fn := fun _ => fun
  | [d] => { results := [.lit (.bool true)], args := [d] }
  | _ => none }
def leapfrogMeetRow : OpenClaim := { program := "ytpbgnnaaobamfaa", sum := "af94d786ac53972c44b71173d6709afc2f6f57fba795728d96d8d75aa701da0e", func := "graphdb/graphdblaw33.LeapfrogMeet", spec := "leapfrogMeet", unfollowed := true, recurses := true, apart := false }
def LeapfrogMeetSaid : Prop := leapfrogMeetRow.holds Try.pinned (OpenSpec.ofChange leapfrogMeetSpec)

/-- ITS FALSE NEIGHBOUR: 'it returns false'. Refute it at one input. -/
def leapfrogMeetWrong : ChangeSpec := { name := "leapfrogMeet", fn := fun _ => fun
  | [d] => { results := [.lit (.bool false)], args := [d] }
  | _ => none }
def LeapfrogMeetWrongFalsely : Prop := leapfrogMeetRow.holds Try.pinned (OpenSpec.ofChange leapfrogMeetWrong)

/-- 'graphdblaw33.LeapfrogMeets': WHATEVER THE INPUT: true; the input reads as it did. -/
def leapfrogMeetsSpec : ChangeSpec := { name := "leapfrogMeets", fn := fun _ => fun
  | [d] => { results := [.lit (.bool true)], args := [d] }
  | _ => none }
def leapfrogMeetsRow : OpenClaim := { program := "ytpbgnnaaobamfaa", sum := "af94d786ac53972c44b71173d6709afc2f6f57fba795728d96d8d75aa701da0e", func := "graphdb/graphdblaw33.LeapfrogMeets", spec := "leapfrogMeets", unfollowed := true, recurses := true, apart := false }
def LeapfrogMeetsSaid : Prop := leapfrogMeetsRow.holds Try.pinned (OpenSpec.ofChange leapfrogMeetsSpec)

/-- ITS FALSE NEIGHBOUR: 'it returns false'. Refute it at one input. -/
def leapfrogMeetsWrong : ChangeSpec := { name := "leapfrogMeets", fn := fun _ => fun
  | [d] => { results := [.lit (.bool false)], args := [d] }
  | _ => none }
def LeapfrogMeetsWrongFalsely : Prop := leapfrogMeetsRow.holds Try.pinned (OpenSpec.ofChange leapfrogMeetsWrong)

/-- 'graphdblaw33.LeapfrogRight': WHATEVER THE INPUT: true; the input reads as it did. -/
def leapfrogRightSpec : ChangeSpec := { name := "leapfrogRight", fn := fun _ => fun
  | [d1, d2, d3] => { results := [.lit (.bool true)], args := [d1, d2, d3] }
  | _ => none }
def leapfrogRightRow : OpenClaim := { program := "ytpbgnnaaobamfaa", sum := "af94d786ac53972c44b71173d6709afc2f6f57fba795728d96d8d75aa701da0e", func := "graphdb/graphdblaw33.LeapfrogRight", spec := "leapfrogRight", unfollowed := true, recurses := true, apart := false }
def LeapfrogRightSaid : Prop := leapfrogRightRow.holds Try.pinned (OpenSpec.ofChange leapfrogRightSpec)

/-- ITS FALSE NEIGHBOUR: 'it returns false'. Refute it at one input. -/
def leapfrogRightWrong : ChangeSpec := { name := "leapfrogRight", fn := fun _ => fun
  | [d1, d2, d3] => { results := [.lit (.bool false)], args := [d1, d2, d3] }
  | _ => none }
def LeapfrogRightWrongFalsely : Prop := leapfrogRightRow.holds Try.pinned (OpenSpec.ofChange leapfrogRightWrong)

/-- 'graphdblaw33.LeapfrogTriangle': WHATEVER THE INPUT: true; the input reads as it did. -/
def leapfrogTriangleSpec : ChangeSpec := { name := "leapfrogTriangle", fn := fun _ => fun
  | [d1, d2, d3] => { results := [.lit (.bool true)], args := [d1, d2, d3] }
  | _ => none }
def leapfrogTriangleRow : OpenClaim := { program := "ytpbgnnaaobamfaa", sum := "af94d786ac53972c44b71173d6709afc2f6f57fba795728d96d8d75aa701da0e", func := "graphdb/graphdblaw33.LeapfrogTriangle", spec := "leapfrogTriangle", unfollowed := true, recurses := true, apart := false }
def LeapfrogTriangleSaid : Prop := leapfrogTriangleRow.holds Try.pinned (OpenSpec.ofChange leapfrogTriangleSpec)

/-- ITS FALSE NEIGHBOUR: 'it returns false'. Refute it at one input. -/
def leapfrogTriangleWrong : ChangeSpec := { name := "leapfrogTriangle", fn := fun _ => fun
  | [d1, d2, d3] => { results := [.lit (.bool false)], args := [d1, d2, d3] }
  | _ => none }
def LeapfrogTriangleWrongFalsely : Prop := leapfrogTriangleRow.holds Try.pinned (OpenSpec.ofChange leapfrogTriangleWrong)

/-- 'graphdblaw33.LeapfrogJoin': WHATEVER THE INPUT: true; the input reads as it did. -/
def leapfrogJoinSpec : ChangeSpec := { name := "leapfrogJoin", fn := fun _ => fun
  | [d1, d2, d3, d4] => { results := [.lit (.bool true)], args := [d1, d2, d3, d4] }
  | _ => none }
def leapfrogJoinRow : OpenClaim := { program := "ytpbgnnaaobamfaa", sum := "af94d786ac53972c44b71173d6709afc2f6f57fba795728d96d8d75aa701da0e", func := "graphdb/graphdblaw33.LeapfrogJoin", spec := "leapfrogJoin", unfollowed := true, recurses := true, apart := false }
def LeapfrogJoinSaid : Prop := leapfrogJoinRow.holds Try.pinned (OpenSpec.ofChange leapfrogJoinSpec)

/-- ITS FALSE NEIGHBOUR: 'it returns false'. Refute it at one input. -/
def leapfrogJoinWrong : ChangeSpec := { name := "leapfrogJoin", fn := fun _ => fun
  | [d1, d2, d3, d4] => { results := [.lit (.bool false)], args := [d1, d2, d3, d4] }
  | _ => none }
def LeapfrogJoinWrongFalsely : Prop := leapfrogJoinRow.holds Try.pinned (OpenSpec.ofChange leapfrogJoinWrong)

/-- 'graphdblaw33.LeapfrogSteps': WHATEVER THE INPUT: true; the input reads as it did. -/
def leapfrogStepsSpec : ChangeSpec := { name := "leapfrogSteps", fn := fun _ => fun
  | [d1, d2, d3] => { results := [.lit (.bool true)], args := [d1, d2, d3] }
  | _ => none }
def leapfrogStepsRow : OpenClaim := { program := "ytpbgnnaaobamfaa", sum := "af94d786ac53972c44b71173d6709afc2f6f57fba795728d96d8d75aa701da0e", func := "graphdb/graphdblaw33.LeapfrogSteps", spec := "leapfrogSteps", unfollowed := true, recurses := true, apart := false }
def LeapfrogStepsSaid : Prop := leapfrogStepsRow.holds Try.pinned (OpenSpec.ofChange leapfrogStepsSpec)

/-- ITS FALSE NEIGHBOUR: 'it returns false'. Refute it at one input. -/
def leapfrogStepsWrong : ChangeSpec := { name := "leapfrogSteps", fn := fun _ => fun
  | [d1, d2, d3] => { results := [.lit (.bool false)], args := [d1, d2, d3] }
  | _ => none }
def LeapfrogStepsWrongFalsely : Prop := leapfrogStepsRow.holds Try.pinned (OpenSpec.ofChange leapfrogStepsWrong)

/- THE SECOND FORM. 'bulk': how many values and letters a reading holds, each counted each time it is reached (what is shared counts as often as it is met; a slice's spare places count too). A statement '..UptoSaid' is the law's where the arguments, and the package variables that the reading takes, are together of bulk at most 1048576: NARROWER than '..Said'. Prove '..Said' where nothing that the law and all that it calls make is longer than what came in: it says more and counts as full. Else prove '..UptoSaid'. A law counts once. -/
mutual
def uptoBulk {H : Type} : DataW H → Nat
  | .lit (.string bytes) => bytes.length + 1
  | .lit _ => 1
  | .nil => 1
  | .ptr d => uptoBulk d + 1
  | .slice elems spare => uptoBulkAll elems + uptoBulkAll spare + 1
  | .agg parts => uptoBulkAll parts + 1
  | .iface _ d => uptoBulk d + 1
  | .map entries => uptoBulkEntries entries + 1
  | .held _ => 1
def uptoBulkAll {H : Type} : List (DataW H) → Nat
  | [] => 0
  | d :: r => uptoBulk d + uptoBulkAll r
def uptoBulkEntries {H : Type} : List (Lit × DataW H) → Nat
  | [] => 0
  | x :: r => uptoBulkEntry x + uptoBulkEntries r
def uptoBulkEntry {H : Type} : Lit × DataW H → Nat
  | (.string bytes, d) => bytes.length + uptoBulk d + 1
  | (_, d) => uptoBulk d + 1
 end
def uptoSmall : (H : Type) → List (DataW H) → Bool := fun _ ds => decide (uptoBulkAll ds ≤ 1048576)
def OpenSpec.upto (s : _root_.Go.ChangeSpec) : _root_.Go.OpenSpec := { _root_.Go.OpenSpec.ofChange s with cond := some uptoSmall }

/-- 'graphdblaw33.LeapfrogMeet', WHERE WHAT IT READS IS OF BULK AT MOST 1048576: true; the input reads as it did. -/
def leapfrogMeetUptoRow : OpenClaim := { program := "ytpbgnnaaobamfaa", sum := "af94d786ac53972c44b71173d6709afc2f6f57fba795728d96d8d75aa701da0e", func := "graphdb/graphdblaw33.LeapfrogMeet", spec := "leapfrogMeet", unfollowed := true, recurses := true, apart := false, narrowed := true }
def LeapfrogMeetUptoSaid : Prop := leapfrogMeetUptoRow.holds Try.pinned (OpenSpec.upto leapfrogMeetSpec)

/-- 'graphdblaw33.LeapfrogMeets', WHERE WHAT IT READS IS OF BULK AT MOST 1048576: true; the input reads as it did. -/
def leapfrogMeetsUptoRow : OpenClaim := { program := "ytpbgnnaaobamfaa", sum := "af94d786ac53972c44b71173d6709afc2f6f57fba795728d96d8d75aa701da0e", func := "graphdb/graphdblaw33.LeapfrogMeets", spec := "leapfrogMeets", unfollowed := true, recurses := true, apart := false, narrowed := true }
def LeapfrogMeetsUptoSaid : Prop := leapfrogMeetsUptoRow.holds Try.pinned (OpenSpec.upto leapfrogMeetsSpec)

/-- 'graphdblaw33.LeapfrogRight', WHERE WHAT IT READS IS OF BULK AT MOST 1048576: true; the input reads as it did. -/
def leapfrogRightUptoRow : OpenClaim := { program := "ytpbgnnaaobamfaa", sum := "af94d786ac53972c44b71173d6709afc2f6f57fba795728d96d8d75aa701da0e", func := "graphdb/graphdblaw33.LeapfrogRight", spec := "leapfrogRight", unfollowed := true, recurses := true, apart := false, narrowed := true }
def LeapfrogRightUptoSaid : Prop := leapfrogRightUptoRow.holds Try.pinned (OpenSpec.upto leapfrogRightSpec)

/-- 'graphdblaw33.LeapfrogTriangle', WHERE WHAT IT READS IS OF BULK AT MOST 1048576: true; the input reads as it did. -/
def leapfrogTriangleUptoRow : OpenClaim := { program := "ytpbgnnaaobamfaa", sum := "af94d786ac53972c44b71173d6709afc2f6f57fba795728d96d8d75aa701da0e", func := "graphdb/graphdblaw33.LeapfrogTriangle", spec := "leapfrogTriangle", unfollowed := true, recurses := true, apart := false, narrowed := true }
def LeapfrogTriangleUptoSaid : Prop := leapfrogTriangleUptoRow.holds Try.pinned (OpenSpec.upto leapfrogTriangleSpec)

/-- 'graphdblaw33.LeapfrogJoin', WHERE WHAT IT READS IS OF BULK AT MOST 1048576: true; the input reads as it did. -/
def leapfrogJoinUptoRow : OpenClaim := { program := "ytpbgnnaaobamfaa", sum := "af94d786ac53972c44b71173d6709afc2f6f57fba795728d96d8d75aa701da0e", func := "graphdb/graphdblaw33.LeapfrogJoin", spec := "leapfrogJoin", unfollowed := true, recurses := true, apart := false, narrowed := true }
def LeapfrogJoinUptoSaid : Prop := leapfrogJoinUptoRow.holds Try.pinned (OpenSpec.upto leapfrogJoinSpec)

/-- 'graphdblaw33.LeapfrogSteps', WHERE WHAT IT READS IS OF BULK AT MOST 1048576: true; the input reads as it did. -/
def leapfrogStepsUptoRow : OpenClaim := { program := "ytpbgnnaaobamfaa", sum := "af94d786ac53972c44b71173d6709afc2f6f57fba795728d96d8d75aa701da0e", func := "graphdb/graphdblaw33.LeapfrogSteps", spec := "leapfrogSteps", unfollowed := true, recurses := true, apart := false, narrowed := true }
def LeapfrogStepsUptoSaid : Prop := leapfrogStepsUptoRow.holds Try.pinned (OpenSpec.upto leapfrogStepsSpec)

end Rows
end Go.Proofs.Ytpbgnnaaobamfaa
