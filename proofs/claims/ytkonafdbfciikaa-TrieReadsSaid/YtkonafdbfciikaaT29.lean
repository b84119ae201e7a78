/-
  layer 14: the rows of a trie, the program's side.
-/
import Derived.Test.YtkonafdbfciikaaT28
import Derived.Test.YtkonafdbfciikaaAmI
namespace Go.Proofs.Ytkonafdbfciikaa
open Go.RowKit
set_option linter.unusedSimpArgs false
set_option linter.unusedVariables false
set_option maxRecDepth 100000

def sClip : List AV → Option (Prop × AV) := spec1 (fun (l : List Int) => l.length ≤ 1000000) (fun l => .slice 1 true (encRows l))
theorem clipP : PureOK Try.prog G0 60 sClip := by
  refine pureX1 (C := CE) sigCE mixCE Try.func60 rfl rfl rfl (by kernel_rfl) (by decide) (fun l hl => ?_)
  simp [aev, cav, look, acallPure, abin, abinN, abinP, abinI, abinS, aun, aconv, afield, afieldAddr, aindexAddr, aindex, aslice, alow, ahigh, abuild, abuildGo, cellsOf, splice, fieldTy, alen, apick, amax, amin, aload, headV, aparts, abuildSlice, elParts, abytesStr, astore, amake, aappend, aclear, anew, arith, aresults, aresList, ares, spec0, spec1, spec2, spec3, spec4, eqCells, eqCell]

def fW : FuncId := 59
def caps : List AV := [.ptr 0 1 1 0 0, .ptr 1 1 1 0 0, .ptr 2 1 1 0 0]
def oB (n : Nat) : Blk := ⟨22, 1, [[.own 3 n]], true, false⟩
def fB : Blk := ⟨74, 1, [[.fn fW caps]], true, false⟩
def walkF (t : Trie) (k a z : Nat) (p : List Int) : List (List Int) := ((rng a z).flatMap (subF (t.levels.drop k))).map (p ++ ·)
def tOf (b : Blk) : Trie := ((decRows b.rows : List Trie).head?).getD ⟨[]⟩
def nOf : AV → Nat
  | .int _ v => v.toNat
  | _ => 0
structure WalkPre (D : Nat) (t : Trie) (k a z : Nat) (p : List Int) (R : List (List Int)) : Prop where
  small : SmallT t ∧ IntsT t
  valid : ValidT t
  deep : t.levels.length ≤ k + D
  group : GroupAt t k a z
  path : p.length = k
  few : R.length + ((rng a z).flatMap (subF (t.levels.drop k))).length ≤ 1000000
structure WalkAt (D : Nat) (a0 a1 a2 pv : AV) (b0 b1 b3 : Blk) (rest : List Blk) : Prop where
  e0 : a0 = .int .i64 (nOf a0)
  e1 : a1 = .int .i64 (nOf a1)
  e2 : a2 = .int .i64 (nOf a2)
  ep : ∃ f, pv = .slice 1 f (encRows (Enc.dec pv : List Int))
  eb0 : b0 = TB (tOf b0)
  eb3 : b3 = rB 35 (encRows (decRows b3.rows : List (List Int)))
  eb1 : b1 = oB (decRows b3.rows : List (List Int)).length
  er : ∀ b ∈ rest, b.deep = true
  pre : WalkPre D (tOf b0) (nOf a0) (nOf a1) (nOf a2) (Enc.dec pv) (decRows b3.rows)
def sWalk (D : Nat) : List AV → List Blk → Option (Prop × AV × List Blk) := fun args H => match args, H with
  | [a0, a1, a2, pv, c0, c1, c2], b0 :: b1 :: b2 :: b3 :: rest => some (WalkAt D a0 a1 a2 pv b0 b1 b3 rest ∧ [c0, c1, c2] = caps ∧ b2 = fB, .tup [], b0 :: oB (decRows b3.rows ++ walkF (tOf b0) (nOf a0) (nOf a1) (nOf a2) (Enc.dec pv)).length :: b2 :: rB 35 (encRows (decRows b3.rows ++ walkF (tOf b0) (nOf a0) (nOf a1) (nOf a2) (Enc.dec pv))) :: rest)
  | _, _ => none
@[simp] theorem tOf_TB (t : Trie) : tOf (TB t) = t := by
  have e : (TB t).rows = encRows [t] := rfl
  unfold tOf
  rw [e, decRows_enc]
  rfl
theorem dec_sl (f : Bool) (p : List Int) : (Enc.dec (.slice 1 f (encRows p)) : List Int) = p := by
  have e : (.slice 1 false (encRows p) : AV) = Enc.enc p := rfl
  cases f with
  | false => rw [e]; exact Enc.dec_enc p
  | true =>
    have : (Enc.dec (.slice 1 true (encRows p)) : List Int) = Enc.dec (.slice 1 false (encRows p)) := rfl
    rw [this, e]; exact Enc.dec_enc p
/-- What a call comes to. -/
theorem walk_meet {D : Nat} {t : Trie} {k a z : Nat} {p : List Int} {R : List (List Int)} (h : WalkPre D t k a z p R) (f : Bool) {rest : List Blk} (hr : ∀ b ∈ rest, b.deep = true) :
    ∃ ob : Prop, ob ∧ sWalk D [.int .i64 k, .int .i64 a, .int .i64 z, .slice 1 f (encRows p), .ptr 0 1 1 0 0, .ptr 1 1 1 0 0, .ptr 2 1 1 0 0] (TB t :: oB R.length :: fB :: rB 35 (encRows R) :: rest) = some (ob, .tup [], TB t :: oB (R ++ walkF t k a z p).length :: fB :: rB 35 (encRows (R ++ walkF t k a z p)) :: rest) := by
  have e1 : (decRows (rB 35 (encRows R)).rows : List (List Int)) = R := decRows_enc R
  refine ⟨WalkAt D (.int .i64 k) (.int .i64 a) (.int .i64 z) (.slice 1 f (encRows p)) (TB t) (oB R.length) (rB 35 (encRows R)) rest ∧ [.ptr 0 1 1 0 0, .ptr 1 1 1 0 0, .ptr 2 1 1 0 0] = caps ∧ fB = fB, ?_, ?_⟩
  case refine_2 =>
    unfold sWalk
    dsimp only
    rw [e1, tOf_TB, dec_sl]
    rfl
  refine ⟨⟨rfl, rfl, rfl, ⟨f, by rw [dec_sl]⟩, by rw [tOf_TB], by rw [e1], by rw [e1], hr, ?_⟩, rfl, rfl⟩
  rw [tOf_TB, e1, dec_sl]
  exact h
theorem walk_inv {D : Nat} {args : List AV} {H : List Blk} {ob : Prop} {r : AV} {H' : List Blk} (h : sWalk D args H = some (ob, r, H')) (hob : ob) : ∃ (t : Trie) (k a z : Nat) (p : List Int) (R : List (List Int)) (f : Bool) (rest : List Blk), WalkPre D t k a z p R ∧ (∀ b ∈ rest, b.deep = true) ∧ args = [.int .i64 k, .int .i64 a, .int .i64 z, .slice 1 f (encRows p), .ptr 0 1 1 0 0, .ptr 1 1 1 0 0, .ptr 2 1 1 0 0] ∧ H = TB t :: oB R.length :: fB :: rB 35 (encRows R) :: rest ∧ r = .tup [] ∧ H' = TB t :: oB (R ++ walkF t k a z p).length :: fB :: rB 35 (encRows (R ++ walkF t k a z p)) :: rest := by
  unfold sWalk at h
  split at h
  · rename_i a0 a1 a2 pv c0 c1 c2 b0 b1 b2 b3 rest
    simp only [Option.some.injEq, Prod.mk.injEq] at h
    obtain ⟨h1, h2, h3⟩ := h
    rw [← h1] at hob
    obtain ⟨q, hc, hf⟩ := hob
    obtain ⟨f, hp⟩ := q.ep
    refine ⟨tOf b0, nOf a0, nOf a1, nOf a2, Enc.dec pv, decRows b3.rows, f, rest, q.pre, q.er, ?_, ?_, h2.symm, ?_⟩
    · unfold caps at hc
      simp only [List.cons.injEq, and_true] at hc
      obtain ⟨c1, c2, c3⟩ := hc
      rw [← q.e0, ← q.e1, ← q.e2, ← hp, c1, c2, c3]
    · rw [← q.eb0, ← q.eb3, ← q.eb1, hf]
    · rw [← h3, ← q.eb0, hf]
  · cases h
end Go.Proofs.Ytkonafdbfciikaa
