/-
  layer 14: relations and tries compared.
-/
import Derived.Test.YtkonafdbfciikaaT42
namespace Go.Proofs.Ytkonafdbfciikaa
open Go.RowKit
set_option linter.unusedSimpArgs false
set_option linter.unusedVariables false
set_option maxRecDepth 100000

def sameB (a b : Rela) : Bool := decide (a.arity = b.arity) && decide (a.rows = b.rows)
theorem sameB_refl (a : Rela) : sameB a a = true := by simp [sameB]
def sSame : List AV → Option (Prop × AV) := spec2 (fun (a b : Rela) => SmallRs a.rows ∧ SmallRs b.rows) (fun a b => .bool (sameB a b))
noncomputable def CSm : Ctx := mkC Try.prog G0 [(22, .pure sSameRows)]
@[simp] theorem CSm_P : CSm.P = Try.prog := rfl
@[simp] theorem CSm_1 : CSm.S 22 = .pure sSameRows := rfl
theorem mixCSm : CSm.P.follows .mixedOrders = true := mixed
theorem sigCSm : SigOK CSm := sigOK_cons (entryPure sameRowsR Try.func22 rfl (by decide)) (sigOK_nil _ _)
set_option maxHeartbeats 8000000 in
theorem sameR : PureOK Try.prog G0 41 sSame := by
  refine pure2 (C := CSm) sigCSm mixCSm Try.func41 rfl rfl rfl (by kernel_rfl) (by decide) (fun a b ⟨ha, hb⟩ => ?_)
  obtain ⟨a1, a2⟩ := a
  obtain ⟨b1, b2⟩ := b
  simp only at ha hb
  rcases em2 (a1 = b1) with h | h
  · simp [aev, cav, look, acallPure, abin, abinN, abinP, abinI, abinS, aun, aconv, afield, afieldAddr, aindexAddr, aindex, aslice, alow, ahigh, abuild, abuildGo, cellsOf, splice, fieldTy, alen, apick, amax, amin, aload, headV, aparts, abuildSlice, elParts, abytesStr, astore, amake, aappend, aclear, anew, arith, aresults, aresList, ares, spec0, spec1, spec2, spec3, spec4, eqCells, eqCell, sSameRows, ha, hb, h, sameB]
  · simp [aev, cav, look, acallPure, abin, abinN, abinP, abinI, abinS, aun, aconv, afield, afieldAddr, aindexAddr, aindex, aslice, alow, ahigh, abuild, abuildGo, cellsOf, splice, fieldTy, alen, apick, amax, amin, aload, headV, aparts, abuildSlice, elParts, abytesStr, astore, amake, aappend, aclear, anew, arith, aresults, aresList, ares, spec0, spec1, spec2, spec3, spec4, eqCells, eqCell, sSameRows, ha, hb, h, sameB]

noncomputable def CSt : Ctx := mkC Try.prog G0 [(58, .pure sEq)]
@[simp] theorem CSt_P : CSt.P = Try.prog := rfl
@[simp] theorem CSt_1 : CSt.S 58 = .pure sEq := rfl
theorem mixCSt : CSt.P.follows .mixedOrders = true := mixed
theorem sigCSt : SigOK CSt := sigOK_cons (entryPure intsR Try.func58 rfl (by decide)) (sigOK_nil _ _)
def TinyT (t : Trie) : Prop := t.levels.length ≤ 1000000 ∧ ∀ x ∈ t.levels, SmallR x.keys ∧ SmallR x.first
def sSameT : List AV → Option (Prop × AV) := spec2 (fun (a b : Trie) => a = b ∧ TinyT a) (fun _ _ => .bool true)
set_option maxHeartbeats 8000000 in
theorem sameTrieR : PureOK Try.prog G0 43 sSameT := by
  refine pure2 (C := CSt) sigCSt mixCSt Try.func43 rfl rfl rfl (by kernel_rfl) (by decide) (fun a b ⟨hab, hT⟩ => ?_)
  subst hab
  have hl := hT.1
  simp [aev, cav, look, acallPure, abin, abinN, abinP, abinI, abinS, aun, aconv, afield, afieldAddr, aindexAddr, aindex, aslice, alow, ahigh, abuild, abuildGo, cellsOf, splice, fieldTy, alen, apick, amax, amin, aload, headV, aparts, abuildSlice, elParts, abytesStr, astore, amake, aappend, aclear, anew, arith, aresults, aresList, ares, spec0, spec1, spec2, spec3, spec4, eqCells, eqCell]
  refine loop_rule (C := CSt) sigCSt mixCSt (fun i : Nat => ⟨[(2, .ptr 0 1 1 0 0), (3, .ptr 1 1 1 0 0), (5, .int .i64 i)], [TB a, TB a]⟩) (fun i => i ≤ a.levels.length) (fun i => a.levels.length - i) (by kernel_rfl) ⟨0, Nat.zero_le _, weak_eq (by simp) (by simp [TB])⟩ (fun i hi => ?_)
  by_cases hil : i < a.levels.length
  · have i1 : I64 ((i : Int) + 1) := by unfold I64; omega
    obtain ⟨s1, s2⟩ := hT.2 _ (ix_mem hil)
    simp [aev, cav, look, acallPure, abin, abinN, abinP, abinI, abinS, aun, aconv, afield, afieldAddr, aindexAddr, aindex, aslice, alow, ahigh, abuild, abuildGo, cellsOf, splice, fieldTy, alen, apick, amax, amin, aload, headV, aparts, abuildSlice, elParts, abytesStr, astore, amake, aappend, aclear, anew, arith, aresults, aresList, ares, spec0, spec1, spec2, spec3, spec4, eqCells, eqCell, TB, sEq, hil, rowAt_enc hil, s1, s2, i1]
    exact ⟨i + 1, by omega, by omega, weak_keep 2 (by simp) (by simp) (by simp [AV.clean, AV.clean1]) (by simp) (by simp [TB])⟩
  · simp [aev, cav, look, acallPure, abin, abinN, abinP, abinI, abinS, aun, aconv, afield, afieldAddr, aindexAddr, aindex, aslice, alow, ahigh, abuild, abuildGo, cellsOf, splice, fieldTy, alen, apick, amax, amin, aload, headV, aparts, abuildSlice, elParts, abytesStr, astore, amake, aappend, aclear, anew, arith, aresults, aresList, ares, spec0, spec1, spec2, spec3, spec4, eqCells, eqCell, TB, hil]
end Go.Proofs.Ytkonafdbfciikaa
