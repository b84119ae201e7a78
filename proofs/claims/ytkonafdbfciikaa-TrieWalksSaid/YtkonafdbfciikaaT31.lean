/-
  layer 14: the rows of a trie, the program's side.
-/
import Derived.Test.YtkonafdbfciikaaT30
namespace Go.Proofs.Ytkonafdbfciikaa
open Go.RowKit
set_option linter.unusedSimpArgs false
set_option linter.unusedVariables false
set_option maxRecDepth 100000

theorem sigCW8 : SigOK (CWk 8) := sigCWk (walkN 8)
set_option maxHeartbeats 16000000 in
theorem rowsP : PureOK Try.prog G0 23 sRows := by
  refine pureH1 (C := CWk 8) sigCW8 (mixCWk 8) Try.func23 rfl rfl rfl [4, 6] (by kernel_rfl) (by decide) (fun t hT => ?_)
  by_cases hv : ValidT t
  case neg =>
    have e : rowsF t = [] := by unfold rowsF; rw [if_neg hv]
    simp [aev, cav, look, acallPure, abin, abinN, abinP, abinI, abinS, aun, aconv, afield, afieldAddr, aindexAddr, aindex, aslice, alow, ahigh, abuild, abuildGo, cellsOf, splice, fieldTy, alen, apick, amax, amin, aload, headV, aparts, abuildSlice, elParts, abytesStr, astore, amake, aappend, aclear, anew, arith, aresults, aresList, ares, spec0, spec1, spec2, spec3, spec4, eqCells, eqCell, sValid, hT, hT.1, hT.2, validB_no hv, e]
  have e : rowsF t = rowsU t := by unfold rowsF; rw [if_pos hv]
  have ev := validB_yes hv
  have h0 : 0 < t.levels.length := hv.1
  have hl := hT.1.1
  obtain ⟨x1, x2⟩ := hT.1.2 _ (ix_mem h0)
  simp [aev, cav, look, acallPure, abin, abinN, abinP, abinI, abinS, aun, aconv, afield, afieldAddr, aindexAddr, aindex, aslice, alow, ahigh, abuild, abuildGo, cellsOf, splice, fieldTy, alen, apick, amax, amin, aload, headV, aparts, abuildSlice, elParts, abytesStr, astore, amake, aappend, aclear, anew, arith, aresults, aresList, ares, spec0, spec1, spec2, spec3, spec4, eqCells, eqCell, sValid, hT, hT.1, hT.2, ev]
  refine AW_alloc1 (by decide) rfl rfl rfl rfl (by kernel_rfl) ?_
  simp [aev, cav, look, acallPure, abin, abinN, abinP, abinI, abinS, aun, aconv, afield, afieldAddr, aindexAddr, aindex, aslice, alow, ahigh, abuild, abuildGo, cellsOf, splice, fieldTy, alen, apick, amax, amin, aload, headV, aparts, abuildSlice, elParts, abytesStr, astore, amake, aappend, aclear, anew, arith, aresults, aresList, ares, spec0, spec1, spec2, spec3, spec4, eqCells, eqCell]
  refine AW.weak (weak_nilcell 1 0 0 1 35 rfl rfl rfl (by decide)) ?_
  refine AW_regionF sigCW8 (mixCWk 8) [.read, .pure, .read, .pure, .pure, .read, .pure, .eff] [[],[],[1],[1,2],[2,1,3],[3,1,2,4],[4,2,1,3,5],[5,3,1,2,4,6,0]] (by kernel_rfl) (by kernel_rfl) (by kernel_rfl) (by kernel_rfl) ?_
  have hfew := sub_few hv hT.1 h0 (a := 0) (z := (ix t.levels 0).keys.length) (Nat.zero_le _) (Nat.le_refl _)
  have hpre : WalkPre 8 t 0 0 (ix t.levels 0).keys.length [] [] := ⟨hT, hv, by have := hv.2.1; omega, group_root hv, rfl, by simpa using hfew⟩
  obtain ⟨ob, hob, hcall⟩ := walk_meet (rest := []) hpre true (fun b hb => by cases hb)
  have hout : ([] : List (List Int)) ++ walkF t 0 0 (ix t.levels 0).keys.length [] = rowsU t := by
    unfold walkF rowsU
    rw [List.drop_zero]
    simp
  rw [hout] at hcall
  have hn : ((0 : Nat) : Int) = 0 := rfl
  have hen : encRows ([] : List Int) = [] := rfl
  have hen2 : encRows ([] : List (List Int)) = [] := rfl
  rw [hn, hen, hen2] at hcall
  simp only [TB, oB, fB, caps, rB, VB, fW, List.length_nil] at hcall
  simp [aev, cav, look, acallPure, abin, abinN, abinP, abinI, abinS, aun, aconv, afield, afieldAddr, aindexAddr, aindex, aslice, alow, ahigh, abuild, abuildGo, cellsOf, splice, fieldTy, alen, apick, amax, amin, aload, headV, aparts, abuildSlice, elParts, abytesStr, astore, amake, aappend, aclear, anew, arith, aresults, aresList, ares, spec0, spec1, spec2, spec3, spec4, eqCells, eqCell, h0, rowAt_enc h0, hcall, hob, e]
end Go.Proofs.Ytkonafdbfciikaa
