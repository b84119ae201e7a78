/-
  layer 18: what a path pattern is held against, in plain words.
-/
import Derived.Test.YthcfnaglgoaikaaGreatSD
import Derived.Test.YthcfnaglgoaikaaGreatS10
namespace Go.Proofs.YthcfnaglgoaikaaGreat
open Go.RowKit
set_option linter.unusedSimpArgs false
set_option linter.unusedVariables false

def hopN (e : EdgePat) : Int := if e.mode = 0 then 1 else min (max e.hi 0) 13
def hopL : Int → List EdgePat → Int
  | n, [] => n
  | n, e :: r => hopL (n + hopN e) r
theorem hopN_in (e : EdgePat) : 0 ≤ hopN e ∧ hopN e ≤ 13 := by unfold hopN; split <;> omega
theorem hopL_ge : ∀ (l : List EdgePat) (n : Int), n ≤ hopL n l
  | [], n => Int.le_refl _
  | e :: r, n => by have := hopL_ge r (n + hopN e); have := hopN_in e; rw [hopL]; omega
theorem hopL_drop {n : Int} {l : List EdgePat} {i : Nat} (h : i < l.length) : hopL n (l.drop i) = hopL (n + hopN (ix l i)) (l.drop (i + 1)) := by
  rw [List.drop_eq_getElem_cons h, hopL, ix_lt h]
def longB (p : PathPat) : Bool := decide (p.nodes = []) || decide (6 < p.edges.length) || decide (12 < hopL 0 p.edges)
def hopB (e : EdgePat) : Bool := decide (1 ≤ e.dir ∧ e.dir ≤ 3 ∧ 0 ≤ e.mode ∧ e.mode ≤ 5) && (if e.mode = 0 then decide (e.lo = 0 ∧ e.hi = 0) else decide (0 ≤ e.lo ∧ e.lo ≤ e.hi ∧ 1 ≤ e.hi ∧ e.hi ≤ 6) && decide (e.props = []))
def creB (e : EdgePat) : Bool := decide (e.mode = 0 ∧ e.types.length = 1 ∧ ¬ e.dir = 3)
def risesB (l : List ByteArray) : Bool := decide (∀ i, i < l.length - 1 → Op.bytesLess (ix l i).toList (ix l (i + 1)).toList = true)
def keysL (l : List PropPat) : List ByteArray := l.map (·.key)
def freeB (s : ByteArray) : Bool := decide (s = ⟨#[]⟩) || wordB s
def edgeN (e : EdgePat) : NodePat := ⟨e.var, e.types, e.props⟩
/-- The parts of a path pattern as they are written. -/
def partsL : List NodePat → List EdgePat → List NodePat
  | [], _ => []
  | n :: ns, [] => n :: partsL ns []
  | n :: ns, e :: es => n :: edgeN e :: partsL ns es
def partOK (x : NodePat) : Bool := freeB x.var && x.labels.all wordB && (keysL x.props).all wordB
def partUp (x : NodePat) : Bool := risesB x.labels && risesB (keysL x.props)
def errQ : List PropPat → Int
  | [] => 0
  | q :: r => if checkE q.e ≠ 0 then checkE q.e else errQ r
def aggQ (l : List PropPat) : Bool := l.any fun q => aggE q.e
def errPs : List NodePat → Int
  | [] => 0
  | x :: r => if errQ x.props ≠ 0 then errQ x.props else errPs r
def aggPs (l : List NodePat) : Bool := l.any fun x => aggQ x.props
def pathE (p : PathPat) (create : Bool) : Int :=
  if longB p = true then 4 else if ¬ p.nodes.length = p.edges.length + 1 ∨ p.edges.all hopB = false then 1
  else if freeB p.var = false then 6 else if (partsL p.nodes p.edges).all partOK = false then 6 else if (partsL p.nodes p.edges).all partUp = false then 26
  else if errPs (partsL p.nodes p.edges) ≠ 0 then errPs (partsL p.nodes p.edges) else if aggPs (partsL p.nodes p.edges) = true then 9
  else if create = true ∧ p.edges.all creB = false then 1 else 0

/-- What memory gives: no text or list is longer than a machine's count. -/
def WfQ (q : PropPat) : Prop := q.key.size ≤ maxLen ∧ WfE q.e
def WfN (n : NodePat) : Prop := n.var.size ≤ maxLen ∧ (n.labels.length ≤ maxLen ∧ ∀ s ∈ n.labels, s.size ≤ maxLen) ∧ n.props.length ≤ 1048576 ∧ ∀ q ∈ n.props, WfQ q
def WfG (e : EdgePat) : Prop := WfN (edgeN e)
def WfP (p : PathPat) : Prop := p.var.size ≤ maxLen ∧ (p.nodes.length ≤ 1048576 ∧ ∀ n ∈ p.nodes, WfN n) ∧ p.edges.length ≤ maxLen ∧ ∀ e ∈ p.edges, WfG e

theorem all_drop {α : Type} [Inhabited α] {f : α → Bool} {l : List α} {i : Nat} (h : i < l.length) : (l.drop i).all f = (f (ix l i) && (l.drop (i + 1)).all f) := by
  rw [List.drop_eq_getElem_cons h, List.all_cons, ix_lt h]
theorem any_drop {α : Type} [Inhabited α] {f : α → Bool} {l : List α} {i : Nat} (h : i < l.length) : (l.drop i).any f = (f (ix l i) || (l.drop (i + 1)).any f) := by
  rw [List.drop_eq_getElem_cons h, List.any_cons, ix_lt h]
theorem errQ_drop {l : List PropPat} {i : Nat} (h : i < l.length) : errQ (l.drop i) = if checkE (ix l i).e ≠ 0 then checkE (ix l i).e else errQ (l.drop (i + 1)) := by
  rw [List.drop_eq_getElem_cons h, errQ, ix_lt h]
theorem errPs_drop {l : List NodePat} {i : Nat} (h : i < l.length) : errPs (l.drop i) = if errQ (ix l i).props ≠ 0 then errQ (ix l i).props else errPs (l.drop (i + 1)) := by
  rw [List.drop_eq_getElem_cons h, errPs, ix_lt h]
end Go.Proofs.YthcfnaglgoaikaaGreat
