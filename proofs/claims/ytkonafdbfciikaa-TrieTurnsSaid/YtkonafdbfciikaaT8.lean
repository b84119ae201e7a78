/-
  layer 14: the cursor moves, the reference's side.
-/
import Derived.Test.YtkonafdbfciikaaT7
namespace Go.Proofs.Ytkonafdbfciikaa
open Go.RowKit
set_option linter.unusedSimpArgs false
set_option linter.unusedVariables false
set_option maxRecDepth 100000

def sMvR : List AV → Option (Prop × AV) := spec2 (fun (c : Cursor) (x : Int) => SmallC c ∧ c.at_ ≠ []) (fun c x => Enc.enc (mvC c x))
set_option maxHeartbeats 8000000 in
theorem movedR : PureOK Try.prog G0 64 sMvR := by
  refine pure2 (C := CE) sigCE mixCE Try.func64 rfl rfl rfl (by kernel_rfl) (by decide) (fun c x ⟨⟨a1, a2, _, _⟩, h0⟩ => ?_)
  have hp : 0 < c.at_.length := List.length_pos_iff.2 h0
  obtain ⟨n, hn⟩ : ∃ n, c.at_.length = n + 1 := ⟨c.at_.length - 1, by omega⟩
  have hnc : n < c.at_.length := by omega
  have i0 : I64 (n : Int) := by unfold I64; omega
  simp [aev, cav, look, acallPure, abin, abinN, abinP, abinI, abinS, aun, aconv, afield, afieldAddr, aindexAddr, aindex, aslice, alow, ahigh, abuild, abuildGo, cellsOf, splice, fieldTy, alen, apick, amax, amin, aload, headV, aparts, abuildSlice, elParts, abytesStr, astore, amake, aappend, aclear, anew, arith, aresults, aresList, ares, spec0, spec1, spec2, spec3, spec4, eqCells, eqCell, hn, hnc, i0, rowAt_enc hnc, mvC, h0] <;> omega

noncomputable def CR1 : Ctx := mkC Try.prog G0 [(63, .pure sFits), (64, .pure sMvR)]
@[simp] theorem CR1_P : CR1.P = Try.prog := rfl
@[simp] theorem CR1_1 : CR1.S 63 = .pure sFits := rfl
@[simp] theorem CR1_2 : CR1.S 64 = .pure sMvR := rfl
theorem mixCR1 : CR1.P.follows .mixedOrders = true := mixed
theorem sigCR1 : SigOK CR1 := sigOK_cons (entryPure fitsR Try.func63 rfl (by decide)) (sigOK_cons (entryPure movedR Try.func64 rfl (by decide)) (sigOK_nil _ _))

set_option maxHeartbeats 8000000 in
theorem upR : PureOK Try.prog G0 31 (sCur upF) := by
  refine pureH2 (C := CR1) sigCR1 mixCR1 Try.func31 rfl rfl rfl [4] (by kernel_rfl) (by decide) (fun t c ⟨hT, hC⟩ => ?_)
  by_cases hF : FineT t c
  case neg =>
    have e := fineB_no hF
    have hK : upF t c = (C0, false) := by unfold upF; rw [if_neg (fun h => hF h.1)]
    simp [aev, cav, look, acallPure, abin, abinN, abinP, abinI, abinS, aun, aconv, afield, afieldAddr, aindexAddr, aindex, aslice, alow, ahigh, abuild, abuildGo, cellsOf, splice, fieldTy, alen, apick, amax, amin, aload, headV, aparts, abuildSlice, elParts, abytesStr, astore, amake, aappend, aclear, anew, arith, aresults, aresList, ares, spec0, spec1, spec2, spec3, spec4, eqCells, eqCell, sFits, hT, hT.1, hC, e, hK, C0]
  have e := fineB_yes hF
  rcases em2 (c.at_ = []) with h0 | h0
  · have hK : upF t c = (C0, false) := by unfold upF; rw [if_neg (fun h => h.2 (of_eq_true h0))]
    simp [aev, cav, look, acallPure, abin, abinN, abinP, abinI, abinS, aun, aconv, afield, afieldAddr, aindexAddr, aindex, aslice, alow, ahigh, abuild, abuildGo, cellsOf, splice, fieldTy, alen, apick, amax, amin, aload, headV, aparts, abuildSlice, elParts, abytesStr, astore, amake, aappend, aclear, anew, arith, aresults, aresList, ares, spec0, spec1, spec2, spec3, spec4, eqCells, eqCell, sFits, hT, hT.1, hC, e, hK, h0, C0]
  have h0 := of_eq_false h0
  obtain ⟨n, g, e1, e2, f1, f2, f3, f4, f5⟩ := fine_facts hF h0
  have hC1 := hC.1
  have b1 : n ≤ 999999 := by omega
  have i0 : I64 (n : Int) := by unfold I64; omega
  have n1 : ((n : Int) + 1 = 0) = False := eq_false (by omega)
  have hK : upF t c = (⟨c.at_.take n, c.end_.take n⟩, true) := by unfold upF; rw [if_pos ⟨hF, h0⟩, e1, Nat.add_sub_cancel]
  simp [aev, cav, look, acallPure, abin, abinN, abinP, abinI, abinS, aun, aconv, afield, afieldAddr, aindexAddr, aindex, aslice, alow, ahigh, abuild, abuildGo, cellsOf, splice, fieldTy, alen, apick, amax, amin, aload, headV, aparts, abuildSlice, elParts, abytesStr, astore, amake, aappend, aclear, anew, arith, aresults, aresList, ares, spec0, spec1, spec2, spec3, spec4, eqCells, eqCell, sFits, hT, hT.1, hC, e, hK, h0, e1, e2, i0, n1]
  refine AW_regionF sigCR1 mixCR1 [.read, .pure, .read, .pure, .pure, .eff, .read, .pure, .read, .pure, .pure, .eff, .pure, .eff, .pure] [[],[],[1],[],[3,1,2],[2,1,3,4,0],[],[],[7],[],[9,7,8],[0,4,3,1,2,5,8,7,9,10,6],[6,10,9,7,8,11,0,4,3,1,2,5],[5,2,1,3,4,0,11,8,7,9,10,6,12],[12,6,10,9,7,8,11,0,4,3,1,2,5,13]] (by kernel_rfl) (by kernel_rfl) (by kernel_rfl) (by kernel_rfl) ?_
  simp [aev, cav, look, acallPure, abin, abinN, abinP, abinI, abinS, aun, aconv, afield, afieldAddr, aindexAddr, aindex, aslice, alow, ahigh, abuild, abuildGo, cellsOf, splice, fieldTy, alen, apick, amax, amin, aload, headV, aparts, abuildSlice, elParts, abytesStr, astore, amake, aappend, aclear, anew, arith, aresults, aresList, ares, spec0, spec1, spec2, spec3, spec4, eqCells, eqCell, e1, e2, i0, encRows_take] <;> omega
set_option maxHeartbeats 8000000 in
theorem nextR : PureOK Try.prog G0 32 (sCur nextF) := by
  refine pure2 (C := CR1) sigCR1 mixCR1 Try.func32 rfl rfl rfl (by kernel_rfl) (by decide) (fun t c ⟨hT, hC⟩ => ?_)
  by_cases hF : FineT t c
  case neg =>
    have e := fineB_no hF
    have hK : nextF t c = (C0, false) := by unfold nextF; rw [if_neg (fun h => hF h.1)]
    simp [aev, cav, look, acallPure, abin, abinN, abinP, abinI, abinS, aun, aconv, afield, afieldAddr, aindexAddr, aindex, aslice, alow, ahigh, abuild, abuildGo, cellsOf, splice, fieldTy, alen, apick, amax, amin, aload, headV, aparts, abuildSlice, elParts, abytesStr, astore, amake, aappend, aclear, anew, arith, aresults, aresList, ares, spec0, spec1, spec2, spec3, spec4, eqCells, eqCell, sFits, hT, hT.1, hC, e, hK, C0]
  have e := fineB_yes hF
  rcases em2 (c.at_ = []) with h0 | h0
  · have hK : nextF t c = (C0, false) := by unfold nextF; rw [if_neg (fun h => h.2 (of_eq_true h0))]
    have z : c.at_.length = 0 := by rw [of_eq_true h0]; rfl
    have i0 : I64 (-1 : Int) := by unfold I64; omega
    simp [aev, cav, look, acallPure, abin, abinN, abinP, abinI, abinS, aun, aconv, afield, afieldAddr, aindexAddr, aindex, aslice, alow, ahigh, abuild, abuildGo, cellsOf, splice, fieldTy, alen, apick, amax, amin, aload, headV, aparts, abuildSlice, elParts, abytesStr, astore, amake, aappend, aclear, anew, arith, aresults, aresList, ares, spec0, spec1, spec2, spec3, spec4, eqCells, eqCell, sFits, hT, hT.1, hC, e, hK, h0, z, i0, C0]
  have h0 := of_eq_false h0
  obtain ⟨n, g, e1, e2, f1, f2, f3, f4, f5⟩ := fine_facts hF h0
  have hnc : n < c.at_.length := by omega
  have hne : n < c.end_.length := by omega
  have hC1 := hC.1
  have n1 : ((n : Int) + 1 = 0) = False := eq_false (by omega)
  have n2 : ¬ (n : Int) < 0 := by omega
  have i0 : I64 (n : Int) := by unfold I64; omega
  have hk := (hT.1.2 _ (ix_mem f1)).1
  have i1 : I64 ((g : Int) + 1) := by unfold I64; omega
  have hK : nextF t c = movedF c ((g : Int) + 1) := by unfold nextF; rw [if_pos ⟨hF, h0⟩, e1, Nat.add_sub_cancel, f2]
  by_cases hl : ix c.end_ n ≤ (g : Int) + 1
  · have hF : movedF c ((g : Int) + 1) = (C0, false) := by unfold movedF; rw [e1, Nat.add_sub_cancel, if_pos hl]
    simp [aev, cav, look, acallPure, abin, abinN, abinP, abinI, abinS, aun, aconv, afield, afieldAddr, aindexAddr, aindex, aslice, alow, ahigh, abuild, abuildGo, cellsOf, splice, fieldTy, alen, apick, amax, amin, aload, headV, aparts, abuildSlice, elParts, abytesStr, astore, amake, aappend, aclear, anew, arith, aresults, aresList, ares, spec0, spec1, spec2, spec3, spec4, eqCells, eqCell, sFits, sMvR, hT, hT.1, hC, e, hK, h0, e1, e2, hnc, rowAt_enc hnc, hne, rowAt_enc hne, f2, i0, i1, n1, n2, hF, hl, C0] <;> omega
  · have hF : movedF c ((g : Int) + 1) = (mvC c ((g : Int) + 1), true) := by unfold movedF; rw [e1, Nat.add_sub_cancel, if_neg hl]
    simp [aev, cav, look, acallPure, abin, abinN, abinP, abinI, abinS, aun, aconv, afield, afieldAddr, aindexAddr, aindex, aslice, alow, ahigh, abuild, abuildGo, cellsOf, splice, fieldTy, alen, apick, amax, amin, aload, headV, aparts, abuildSlice, elParts, abytesStr, astore, amake, aappend, aclear, anew, arith, aresults, aresList, ares, spec0, spec1, spec2, spec3, spec4, eqCells, eqCell, sFits, sMvR, hT, hT.1, hC, e, hK, h0, e1, e2, hnc, rowAt_enc hnc, hne, rowAt_enc hne, f2, i0, i1, n1, n2, hF, hl, C0] <;> omega
set_option maxHeartbeats 8000000 in
theorem downR : PureOK Try.prog G0 29 (sCur downF) := by
  refine pure2 (C := CR1) sigCR1 mixCR1 Try.func29 rfl rfl rfl (by kernel_rfl) (by decide) (fun t c ⟨hT, hC⟩ => ?_)
  by_cases hF : FineT t c
  case neg =>
    have e := fineB_no hF
    have hK : downF t c = (C0, false) := by unfold downF; rw [if_neg (fun h => hF h.1)]
    simp [aev, cav, look, acallPure, abin, abinN, abinP, abinI, abinS, aun, aconv, afield, afieldAddr, aindexAddr, aindex, aslice, alow, ahigh, abuild, abuildGo, cellsOf, splice, fieldTy, alen, apick, amax, amin, aload, headV, aparts, abuildSlice, elParts, abytesStr, astore, amake, aappend, aclear, anew, arith, aresults, aresList, ares, spec0, spec1, spec2, spec3, spec4, eqCells, eqCell, sFits, hT, hT.1, hC, e, hK, C0]
  have e := fineB_yes hF
  have hle := hF.2.2.1
  obtain ⟨n, hn⟩ : ∃ n, n = c.at_.length := ⟨_, rfl⟩
  have hne : c.end_.length = n := by rw [hn]; exact hF.2.1.symm
  by_cases h1 : t.levels.length = n
  · have hK : downF t c = (C0, false) := by unfold downF; rw [if_neg (fun h => by have := h.2.1; omega)]
    simp [aev, cav, look, acallPure, abin, abinN, abinP, abinI, abinS, aun, aconv, afield, afieldAddr, aindexAddr, aindex, aslice, alow, ahigh, abuild, abuildGo, cellsOf, splice, fieldTy, alen, apick, amax, amin, aload, headV, aparts, abuildSlice, elParts, abytesStr, astore, amake, aappend, aclear, anew, arith, aresults, aresList, ares, spec0, spec1, spec2, spec3, spec4, eqCells, eqCell, sFits, hT, hT.1, hC, e, hK, C0, ← hn, h1]
  have h1' : ((n : Int) = t.levels.length) = False := eq_false (by omega)
  have h1'' : (n = t.levels.length) = False := eq_false (by omega)
  have hlt : n < t.levels.length := by omega
  have hv := hF.1
  have hst : ∀ j, j < n → StepOK t c j := fun j hj => hF.2.2.2 j (by omega)
  obtain ⟨hg, hg2⟩ := grp_in hv hlt hst
  have hf := (valid_first hv hlt).2
  obtain ⟨x1, x2⟩ := hT.1.2 _ (ix_mem hlt)
  obtain ⟨g, hge⟩ : ∃ g, g = grp c n := ⟨_, rfl⟩
  rw [← hge] at hg
  have g1 : g < (ix t.levels n).first.length := by omega
  have i2 : I64 ((g : Int) + 1) := by unfold I64; omega
  have e4 : ((g : Int) + 1).toNat = g + 1 := by omega
  have e5 : (0 : Int) ≤ (g : Int) + 1 := by omega
  have e6 : (g : Int) + 1 < (ix t.levels n).first.length := by omega
  obtain ⟨a, ha⟩ : ∃ a, sibA t c n = a := ⟨_, rfl⟩
  obtain ⟨z, hz⟩ : ∃ z, sibZ t c n = z := ⟨_, rfl⟩
  have r1 : ix (ix t.levels n).first g = a := by rw [← ha]; unfold sibA; rw [hge]
  have r2 : ix (ix t.levels n).first (g + 1) = z := by rw [← hz]; unfold sibZ; rw [hge]
  have hC1 := hC.1
  have b1 : n ≤ 1000000 := by omega
  by_cases hn0 : n = 0
  · have g0 : g = 0 := by rw [hge]; unfold grp; rw [if_pos hn0]
    have p1 : (0 < n) = False := eq_false (by omega)
    rw [g0] at g1 hg r1 r2
    simp only [Nat.zero_add] at hg r2
    have j1 : I64 (1 : Int) := by unfold I64; omega
    have j2 : (1 : Int) < (ix t.levels n).first.length := by omega
    rcases em2 (a = z) with h2 | h2
    · have hK : downF t c = (C0, false) := by unfold downF; rw [if_neg (fun h => h.2.2 (by rw [← hn, ha, hz]; exact of_eq_true h2))]
      simp [aev, cav, look, acallPure, abin, abinN, abinP, abinI, abinS, aun, aconv, afield, afieldAddr, aindexAddr, aindex, aslice, alow, ahigh, abuild, abuildGo, cellsOf, splice, fieldTy, alen, apick, amax, amin, aload, headV, aparts, abuildSlice, elParts, abytesStr, astore, amake, aappend, aclear, anew, arith, aresults, aresList, ares, spec0, spec1, spec2, spec3, spec4, eqCells, eqCell, sFits, hT, hT.1, hC, e, hK, C0, ← hn, h1', h1'', hlt, rowAt_enc hlt, g1, rowAt_enc g1, hg, rowAt_enc hg, j1, j2, r1, r2, h2, p1] <;> omega
    · have hK : downF t c = (⟨c.at_ ++ [a], c.end_ ++ [z]⟩, true) := by unfold downF; rw [← hn, ha, hz, if_pos ⟨hF, hlt, of_eq_false h2⟩]
      simp [aev, cav, look, acallPure, abin, abinN, abinP, abinI, abinS, aun, aconv, afield, afieldAddr, aindexAddr, aindex, aslice, alow, ahigh, abuild, abuildGo, cellsOf, splice, fieldTy, alen, apick, amax, amin, aload, headV, aparts, abuildSlice, elParts, abytesStr, astore, amake, aappend, aclear, anew, arith, aresults, aresList, ares, spec0, spec1, spec2, spec3, spec4, eqCells, eqCell, sFits, hT, hT.1, hC, e, hK, C0, ← hn, hne, h1', h1'', hlt, rowAt_enc hlt, g1, rowAt_enc g1, hg, rowAt_enc hg, j1, j2, r1, r2, h2, p1] <;> omega
  · have p1 : (0 < n) = True := eq_true (by omega)
    have hn1 : n - 1 < c.at_.length := by omega
    have hat : 0 ≤ ix c.at_ (n - 1) := hg2.resolve_left hn0
    have eg : g = (ix c.at_ (n - 1)).toNat := by rw [hge]; unfold grp; rw [if_neg hn0]
    have hix : ix c.at_ (n - 1) = g := by omega
    have i1 : I64 ((n : Int) - 1) := by unfold I64; omega
    have q1 : ((n : Int) - 1).toNat = n - 1 := by omega
    have q2 : (0 : Int) ≤ (n : Int) - 1 := by omega
    have q3 : (n : Int) - 1 < c.at_.length := by omega
    have q4 : (n : Int) - 1 < n := by omega
    have q5 : n - 1 < n := by omega
    rcases em2 (a = z) with h2 | h2
    · have hK : downF t c = (C0, false) := by unfold downF; rw [if_neg (fun h => h.2.2 (by rw [← hn, ha, hz]; exact of_eq_true h2))]
      simp [aev, cav, look, acallPure, abin, abinN, abinP, abinI, abinS, aun, aconv, afield, afieldAddr, aindexAddr, aindex, aslice, alow, ahigh, abuild, abuildGo, cellsOf, splice, fieldTy, alen, apick, amax, amin, aload, headV, aparts, abuildSlice, elParts, abytesStr, astore, amake, aappend, aclear, anew, arith, aresults, aresList, ares, spec0, spec1, spec2, spec3, spec4, eqCells, eqCell, sFits, hT, hT.1, hC, e, hK, C0, ← hn, h1', h1'', hlt, rowAt_enc hlt, hn1, rowAt_enc hn1, hix, i1, q1, q2, q3, q4, q5, g1, rowAt_enc g1, hg, rowAt_enc hg, i2, e4, e5, e6, r1, r2, h2, p1] <;> omega
    · have hK : downF t c = (⟨c.at_ ++ [a], c.end_ ++ [z]⟩, true) := by unfold downF; rw [← hn, ha, hz, if_pos ⟨hF, hlt, of_eq_false h2⟩]
      simp [aev, cav, look, acallPure, abin, abinN, abinP, abinI, abinS, aun, aconv, afield, afieldAddr, aindexAddr, aindex, aslice, alow, ahigh, abuild, abuildGo, cellsOf, splice, fieldTy, alen, apick, amax, amin, aload, headV, aparts, abuildSlice, elParts, abytesStr, astore, amake, aappend, aclear, anew, arith, aresults, aresList, ares, spec0, spec1, spec2, spec3, spec4, eqCells, eqCell, sFits, hT, hT.1, hC, e, hK, C0, ← hn, hne, h1', h1'', hlt, rowAt_enc hlt, hn1, rowAt_enc hn1, hix, i1, q1, q2, q3, q4, q5, g1, rowAt_enc g1, hg, rowAt_enc hg, i2, e4, e5, e6, r1, r2, h2, p1] <;> omega
end Go.Proofs.Ytkonafdbfciikaa
