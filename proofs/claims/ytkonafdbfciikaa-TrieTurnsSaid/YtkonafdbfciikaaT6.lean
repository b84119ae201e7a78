/-
  layer 14: Key and Up.
-/
import Derived.Test.YtkonafdbfciikaaT5
import Derived.Test.YtkonafdbfciikaaAmG
namespace Go.Proofs.Ytkonafdbfciikaa
open Go.RowKit
set_option linter.unusedSimpArgs false
set_option linter.unusedVariables false
set_option maxRecDepth 100000

theorem fineB_iff {t : Trie} {c : Cursor} : fineB t c = true ↔ FineT t c := by
  by_cases h : FineT t c
  · rw [fineB_yes h]; exact ⟨fun _ => h, fun _ => rfl⟩
  · rw [fineB_no h]; exact ⟨fun h2 => (Bool.false_ne_true h2).elim, fun h2 => absurd h2 h⟩
noncomputable def CK1 : Ctx := mkC Try.prog G0 [(48, .pure sFine), (63, .pure sFits)]
@[simp] theorem CK1_P : CK1.P = Try.prog := rfl
@[simp] theorem CK1_1 : CK1.S 48 = .pure sFine := rfl
@[simp] theorem CK1_2 : CK1.S 63 = .pure sFits := rfl
theorem mixCK1 : CK1.P.follows .mixedOrders = true := mixed
theorem sigCK1 : SigOK CK1 := sigOK_cons (entryPure fineP Try.func48 rfl (by decide)) (sigOK_cons (entryPure fitsR Try.func63 rfl (by decide)) (sigOK_nil _ _))
noncomputable def sKey : List AV → Option (Prop × AV) := spec2 (fun (t : Trie) (c : Cursor) => (SmallT t ∧ IntsT t) ∧ SmallC c) (fun t c => pairB (keyF t c))
set_option maxHeartbeats 8000000 in
theorem keyP : PureOK Try.prog G0 16 sKey := by
  refine pure2 (C := CK1) sigCK1 mixCK1 Try.func16 rfl rfl rfl (by kernel_rfl) (by decide) (fun t c ⟨hT, hC⟩ => ?_)
  by_cases hF : FineT t c
  case neg =>
    have e := fineB_no hF
    have hK : keyF t c = (0, false) := by unfold keyF; rw [if_neg (fun h => hF h.1)]
    simp [aev, cav, look, acallPure, abin, abinN, abinP, abinI, abinS, aun, aconv, afield, afieldAddr, aindexAddr, aindex, aslice, alow, ahigh, abuild, abuildGo, cellsOf, splice, fieldTy, alen, apick, amax, amin, aload, headV, aparts, abuildSlice, elParts, abytesStr, astore, amake, aappend, aclear, anew, arith, aresults, aresList, ares, spec0, spec1, spec2, spec3, spec4, eqCells, eqCell, sFine, hT, hT.1, hC, e, hK]
  have e := fineB_yes hF
  rcases em2 (c.at_ = []) with h0 | h0
  · have hK : keyF t c = (0, false) := by unfold keyF; rw [if_neg (fun h => h.2 (of_eq_true h0))]
    simp [aev, cav, look, acallPure, abin, abinN, abinP, abinI, abinS, aun, aconv, afield, afieldAddr, aindexAddr, aindex, aslice, alow, ahigh, abuild, abuildGo, cellsOf, splice, fieldTy, alen, apick, amax, amin, aload, headV, aparts, abuildSlice, elParts, abytesStr, astore, amake, aappend, aclear, anew, arith, aresults, aresList, ares, spec0, spec1, spec2, spec3, spec4, eqCells, eqCell, sFine, hT, hT.1, hC, e, hK, h0]
  have h0 := of_eq_false h0
  obtain ⟨f1, f2, f3, f4⟩ := fine_last hF h0
  have hn : 0 < c.at_.length := List.length_pos_iff.2 h0
  have hc1 := hC.1
  obtain ⟨n, hne⟩ : ∃ n, n = c.at_.length - 1 := ⟨_, rfl⟩
  have hK : keyF t c = (ix (ix t.levels n).keys (ix c.at_ n).toNat, true) := by unfold keyF; rw [if_pos ⟨hF, h0⟩, hne]
  rw [← hne] at f1 f2 f3
  have hn2 : n < c.at_.length := by omega
  have e0 : (c.at_.length : Int) - 1 = n := by omega
  have i1 : I64 (n : Int) := by unfold I64; omega
  obtain ⟨g, hge⟩ : ∃ g : Nat, ix c.at_ n = g := ⟨(ix c.at_ n).toNat, by omega⟩
  have g1 : g < (ix t.levels n).keys.length := by omega
  simp [aev, cav, look, acallPure, abin, abinN, abinP, abinI, abinS, aun, aconv, afield, afieldAddr, aindexAddr, aindex, aslice, alow, ahigh, abuild, abuildGo, cellsOf, splice, fieldTy, alen, apick, amax, amin, aload, headV, aparts, abuildSlice, elParts, abytesStr, astore, amake, aappend, aclear, anew, arith, aresults, aresList, ares, spec0, spec1, spec2, spec3, spec4, eqCells, eqCell, sFine, hT, hT.1, hC, e, hK, h0, e0, i1, f1, hn2, rowAt_enc f1, rowAt_enc hn2, hge, g1, rowAt_enc g1]
set_option maxHeartbeats 8000000 in
theorem keyR : PureOK Try.prog G0 28 sKey := by
  refine pure2 (C := CK1) sigCK1 mixCK1 Try.func28 rfl rfl rfl (by kernel_rfl) (by decide) (fun t c ⟨hT, hC⟩ => ?_)
  by_cases hF : FineT t c
  case neg =>
    have e := fineB_no hF
    have hK : keyF t c = (0, false) := by unfold keyF; rw [if_neg (fun h => hF h.1)]
    simp [aev, cav, look, acallPure, abin, abinN, abinP, abinI, abinS, aun, aconv, afield, afieldAddr, aindexAddr, aindex, aslice, alow, ahigh, abuild, abuildGo, cellsOf, splice, fieldTy, alen, apick, amax, amin, aload, headV, aparts, abuildSlice, elParts, abytesStr, astore, amake, aappend, aclear, anew, arith, aresults, aresList, ares, spec0, spec1, spec2, spec3, spec4, eqCells, eqCell, sFits, hT, hT.1, hC, e, hK]
  have e := fineB_yes hF
  rcases em2 (c.at_ = []) with h0 | h0
  · have hK : keyF t c = (0, false) := by unfold keyF; rw [if_neg (fun h => h.2 (of_eq_true h0))]
    simp [aev, cav, look, acallPure, abin, abinN, abinP, abinI, abinS, aun, aconv, afield, afieldAddr, aindexAddr, aindex, aslice, alow, ahigh, abuild, abuildGo, cellsOf, splice, fieldTy, alen, apick, amax, amin, aload, headV, aparts, abuildSlice, elParts, abytesStr, astore, amake, aappend, aclear, anew, arith, aresults, aresList, ares, spec0, spec1, spec2, spec3, spec4, eqCells, eqCell, sFits, hT, hT.1, hC, e, hK, h0]
  have h0 := of_eq_false h0
  obtain ⟨f1, f2, f3, f4⟩ := fine_last hF h0
  have hn : 0 < c.at_.length := List.length_pos_iff.2 h0
  have hc1 := hC.1
  obtain ⟨n, hne⟩ : ∃ n, n = c.at_.length - 1 := ⟨_, rfl⟩
  have hK : keyF t c = (ix (ix t.levels n).keys (ix c.at_ n).toNat, true) := by unfold keyF; rw [if_pos ⟨hF, h0⟩, hne]
  rw [← hne] at f1 f2 f3
  have hn2 : n < c.at_.length := by omega
  have e0 : (c.at_.length : Int) - 1 = n := by omega
  have i1 : I64 (n : Int) := by unfold I64; omega
  obtain ⟨g, hge⟩ : ∃ g : Nat, ix c.at_ n = g := ⟨(ix c.at_ n).toNat, by omega⟩
  have g1 : g < (ix t.levels n).keys.length := by omega
  simp [aev, cav, look, acallPure, abin, abinN, abinP, abinI, abinS, aun, aconv, afield, afieldAddr, aindexAddr, aindex, aslice, alow, ahigh, abuild, abuildGo, cellsOf, splice, fieldTy, alen, apick, amax, amin, aload, headV, aparts, abuildSlice, elParts, abytesStr, astore, amake, aappend, aclear, anew, arith, aresults, aresList, ares, spec0, spec1, spec2, spec3, spec4, eqCells, eqCell, sFits, hT, hT.1, hC, e, hK, h0, e0, i1, f1, hn2, rowAt_enc f1, rowAt_enc hn2, hge, g1, rowAt_enc g1]

def bI (l : List Int) : Blk := ⟨3, 1, encRows l, true, true⟩
noncomputable def sClone : List AV → List Blk → Option (Prop × AV × List Blk) := genNew (nspec1 (fun (l : List Int) => l.length ≤ 1000000) (fun l => .own 0 l.length) fun l => [bI l])
set_option maxHeartbeats 8000000 in
theorem cloneP : GenOK Try.prog G0 52 sClone := by
  refine new1 (C := CE) sigCE mixCE Try.func52 rfl rfl rfl (by kernel_rfl) (by decide) (fun l => [0]) (by simp) (fun l => ⟨by simp [okR, ok2, AV.clean1], by simp [bI]⟩) (fun l hl => ?_)
  by_cases h : l = []
  · simp [aev, cav, look, acallPure, abin, abinN, abinP, abinI, abinS, aun, aconv, afield, afieldAddr, aindexAddr, aindex, aslice, alow, ahigh, abuild, abuildGo, cellsOf, splice, fieldTy, alen, apick, amax, amin, aload, headV, aparts, abuildSlice, elParts, abytesStr, astore, amake, aappend, aclear, anew, arith, aresults, aresList, ares, spec0, spec1, spec2, spec3, spec4, eqCells, eqCell, h]
    exact ⟨wEnd_nil 2 1 3 rfl (by decide) (by simp [aev, cav, look, acallPure, abin, abinN, abinP, abinI, abinS, aun, aconv, afield, afieldAddr, aindexAddr, aindex, aslice, alow, ahigh, abuild, abuildGo, cellsOf, splice, fieldTy, alen, apick, amax, amin, aload, headV, aparts, abuildSlice, elParts, abytesStr, astore, amake, aappend, aclear, anew, arith, aresults, aresList, ares, spec0, spec1, spec2, spec3, spec4, eqCells, eqCell, h, bI]), wEnd_here (by simp [aev, cav, look, acallPure, abin, abinN, abinP, abinI, abinS, aun, aconv, afield, afieldAddr, aindexAddr, aindex, aslice, alow, ahigh, abuild, abuildGo, cellsOf, splice, fieldTy, alen, apick, amax, amin, aload, headV, aparts, abuildSlice, elParts, abytesStr, astore, amake, aappend, aclear, anew, arith, aresults, aresList, ares, spec0, spec1, spec2, spec3, spec4, eqCells, eqCell, h, bI])⟩
  · simp [aev, cav, look, acallPure, abin, abinN, abinP, abinI, abinS, aun, aconv, afield, afieldAddr, aindexAddr, aindex, aslice, alow, ahigh, abuild, abuildGo, cellsOf, splice, fieldTy, alen, apick, amax, amin, aload, headV, aparts, abuildSlice, elParts, abytesStr, astore, amake, aappend, aclear, anew, arith, aresults, aresList, ares, spec0, spec1, spec2, spec3, spec4, eqCells, eqCell, h]
    exact ⟨(by first | omega | (unfold I64; omega)), wEnd_here (by simp [aev, cav, look, acallPure, abin, abinN, abinP, abinI, abinS, aun, aconv, afield, afieldAddr, aindexAddr, aindex, aslice, alow, ahigh, abuild, abuildGo, cellsOf, splice, fieldTy, alen, apick, amax, amin, aload, headV, aparts, abuildSlice, elParts, abytesStr, astore, amake, aappend, aclear, anew, arith, aresults, aresList, ares, spec0, spec1, spec2, spec3, spec4, eqCells, eqCell, h, bI])⟩

/-- The first n open levels, in new memory. -/
noncomputable def CC1 : Ctx := mkC Try.prog G0 [(52, .gen sClone)]
@[simp] theorem CC1_P : CC1.P = Try.prog := rfl
@[simp] theorem CC1_1 : CC1.S 52 = .gen sClone := rfl
theorem mixCC1 : CC1.P.follows .mixedOrders = true := mixed
theorem sigCC1 : SigOK CC1 := sigOK_cons (entryGen cloneP Try.func52 rfl (by decide)) (sigOK_nil _ _)
noncomputable def sCopied : List AV → List Blk → Option (Prop × AV × List Blk) := genNew (nspec2 (fun (c : Cursor) (n : Int) => 0 ≤ n ∧ n ≤ c.at_.length ∧ n ≤ c.end_.length ∧ n ≤ 1000000) (fun c n => .agg [.own 0 n.toNat, .own 1 n.toNat]) fun c n => [bI (c.at_.take n.toNat), bI (c.end_.take n.toNat)])
set_option maxHeartbeats 8000000 in
theorem copiedP : GenOK Try.prog G0 50 sCopied := by
  refine newH2 (C := CC1) sigCC1 mixCC1 Try.func50 rfl rfl rfl [1] (by kernel_rfl) (by decide) (fun c n => [2, 3]) (by simp) (fun c n => ⟨by simp [okR, ok2, AV.clean1], by simp [bI]⟩) (fun c n ⟨h1, h2, h3, h4⟩ => ?_)
  obtain ⟨m, rfl⟩ : ∃ m : Nat, n = m := ⟨n.toNat, by omega⟩
  have g1 : m ≤ c.at_.length := by omega
  have g2 : m ≤ c.end_.length := by omega
  have g3 : min m c.at_.length ≤ 1000000 := by omega
  have g4 : min m c.end_.length ≤ 1000000 := by omega
  simp [aev, cav, look, acallPure, abin, abinN, abinP, abinI, abinS, aun, aconv, afield, afieldAddr, aindexAddr, aindex, aslice, alow, ahigh, abuild, abuildGo, cellsOf, splice, fieldTy, alen, apick, amax, amin, aload, headV, aparts, abuildSlice, elParts, abytesStr, astore, amake, aappend, aclear, anew, arith, aresults, aresList, ares, spec0, spec1, spec2, spec3, spec4, eqCells, eqCell, sClone, bI, g1, g2, g3, g4]
  refine AW_regionF sigCC1 mixCC1 [.pure, .read, .pure, .pure, .eff, .pure, .read, .pure, .pure, .eff, .pure, .eff] [[],[0],[],[2,0,1],[1,0,2,3],[],[5],[],[7,5,6],[3,2,0,1,4,6,5,7,8],[8,7,5,6,9,3,2,0,1,4],[4,1,0,2,3,9,6,5,7,8,10]] (by kernel_rfl) (by kernel_rfl) (by kernel_rfl) (by kernel_rfl) ?_
  simp [aev, cav, look, acallPure, abin, abinN, abinP, abinI, abinS, aun, aconv, afield, afieldAddr, aindexAddr, aindex, aslice, alow, ahigh, abuild, abuildGo, cellsOf, splice, fieldTy, alen, apick, amax, amin, aload, headV, aparts, abuildSlice, elParts, abytesStr, astore, amake, aappend, aclear, anew, arith, aresults, aresList, ares, spec0, spec1, spec2, spec3, spec4, eqCells, eqCell, sClone, bI, g1, g2, g3, g4, encRows_take]
  exact ⟨by omega, wEnd_here (by simp [aev, cav, look, acallPure, abin, abinN, abinP, abinI, abinS, aun, aconv, afield, afieldAddr, aindexAddr, aindex, aslice, alow, ahigh, abuild, abuildGo, cellsOf, splice, fieldTy, alen, apick, amax, amin, aload, headV, aparts, abuildSlice, elParts, abytesStr, astore, amake, aappend, aclear, anew, arith, aresults, aresList, ares, spec0, spec1, spec2, spec3, spec4, eqCells, eqCell, bI])⟩
end Go.Proofs.Ytkonafdbfciikaa
