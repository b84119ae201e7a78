/-
  layer 18: SyntaxClauses.
-/
import Derived.Test.YthcfnaglgoaikaaGreatU1
namespace Go.Proofs.YthcfnaglgoaikaaGreat
open Go.RowKit
set_option linter.unusedSimpArgs false
set_option linter.unusedVariables false
set_option maxRecDepth 100000

section
variable {m : Int}
noncomputable def CPr (m : Int) : Ctx := mkC Tryz.prog (G m) [(9, .pure sPathS), (36, .pure sChk), (70, .pure sWd), (71, .pure sSetE), (59, .pure sWs)]
@[simp] theorem CPr_P (m : Int) : (CPr m).P = Tryz.prog := rfl
@[simp] theorem CPr_1 (m : Int) : (CPr m).S 9 = .pure sPathS := rfl
@[simp] theorem CPr_2 (m : Int) : (CPr m).S 36 = .pure sChk := rfl
@[simp] theorem CPr_3 (m : Int) : (CPr m).S 70 = .pure sWd := rfl
@[simp] theorem CPr_4 (m : Int) : (CPr m).S 71 = .pure sSetE := rfl
@[simp] theorem CPr_5 (m : Int) : (CPr m).S 59 = .pure sWs := rfl
theorem mixCPr (m : Int) : (CPr m).P.follows .mixedOrders = true := mixed
theorem sigCPr (m : Int) : SigOK (CPr m) := sigOK_cons (entryPure checkPathR Tryz.func9 rfl (by decide)) (sigOK_cons (entryPure checkR Tryz.func36 rfl (by decide)) (sigOK_cons (entryPure wordR Tryz.func70 rfl (by decide)) (sigOK_cons (entryPure setR Tryz.func71 rfl (by decide)) (sigOK_cons (entryPure wsR Tryz.func59 rfl (by decide)) (sigOK_nil _ _)))))
def sParts : List AV → Option (Prop × AV) := spec1 (fun (c : Clause) => WfCS c) (fun c => .int .i64 (partsC c))
set_option maxHeartbeats 16000000 in
theorem partsR : PureOK Tryz.prog (G m) 45 sParts := by
  refine pure1 (C := CPr m) (sigCPr m) (mixCPr m) Tryz.func45 rfl rfl rfl (by kernel_rfl) (by decide) (fun c ⟨⟨⟨l1, w1⟩, ⟨l2, w2⟩, w3, ⟨l4, w4⟩, ⟨l5, w5⟩, ⟨l6, w6⟩, l7⟩, wp⟩ => ?_)
  have l1' := maxLen_le l1
  have l2' := maxLen_le l2
  have l4' := maxLen_le l4
  have l5' := maxLen_le l5
  have l6' := maxLen_le l6
  have l7' := maxLen_le l7
  obtain ⟨R, hR⟩ : ∃ R, R = partsC c := ⟨_, rfl⟩
  rw [← hR]
  simp [aev, cav, look, acallPure, abin, abinN, abinP, abinI, abinS, aun, aconv, afield, afieldAddr, aindexAddr, aindex, aslice, alow, ahigh, abuild, abuildGo, cellsOf, splice, fieldTy, alen, apick, amax, amin, aload, headV, aparts, abuildSlice, elParts, abytesStr, astore, amake, aappend, anew, arith, aresults, aresList, ares, spec0, spec1, spec2, spec3, spec4, eqCells, eqCell]
  refine loop_rule (C := CPr m) (sigCPr m) (mixCPr m) (fun i : Nat => ⟨[(1, .ptr 0 1 21 0 0), (3, .int .i64 i)], [CB c]⟩) (fun i => i ≤ c.paths.length ∧ (c.paths.drop i).foldl (pathS c.kind) 0 = c.paths.foldl (pathS c.kind) 0) (fun i => c.paths.length - i) (by kernel_rfl) ⟨0, by simp, weak_slots (by simp)⟩ (fun i ⟨hi, hs⟩ => ?_)
  by_cases hlt : i < c.paths.length
  · have i1 : I64 ((i : Int) + 1) := by unfold I64; omega
    have w := wp _ (ix_mem hlt)
    rw [foldl_drop hlt] at hs
    by_cases h0 : pathE (ix c.paths i) (decide (c.kind = 5)) = 0
    · have e0 : pathS c.kind 0 (ix c.paths i) = 0 := by unfold pathS; rw [h0]; rfl
      rw [e0] at hs
      simp [aev, cav, look, acallPure, abin, abinN, abinP, abinI, abinS, aun, aconv, afield, afieldAddr, aindexAddr, aindex, aslice, alow, ahigh, abuild, abuildGo, cellsOf, splice, fieldTy, alen, apick, amax, amin, aload, headV, aparts, abuildSlice, elParts, abytesStr, astore, amake, aappend, anew, arith, aresults, aresList, ares, spec0, spec1, spec2, spec3, spec4, eqCells, eqCell, CB, hlt, rowAt_enc hlt, sPathS, w, i1, h0]
      exact ⟨i + 1, ⟨by omega, hs⟩, by omega, weak_slots (by simp)⟩
    · have e0 : pathS c.kind 0 (ix c.paths i) = pathE (ix c.paths i) (decide (c.kind = 5)) := rfl
      rw [e0, keep_foldl (kPath c.kind) h0] at hs
      have hr := pc1 hs.symm h0
      rw [← hR] at hr
      simp [aev, cav, look, acallPure, abin, abinN, abinP, abinI, abinS, aun, aconv, afield, afieldAddr, aindexAddr, aindex, aslice, alow, ahigh, abuild, abuildGo, cellsOf, splice, fieldTy, alen, apick, amax, amin, aload, headV, aparts, abuildSlice, elParts, abytesStr, astore, amake, aappend, anew, arith, aresults, aresList, ares, spec0, spec1, spec2, spec3, spec4, eqCells, eqCell, CB, hlt, rowAt_enc hlt, sPathS, w, h0, hr]
  rw [List.drop_eq_nil_of_le (by omega), List.foldl_nil] at hs
  have hA : c.wh.foldl exprS 0 = partsA c := by unfold partsA; rw [← hs]
  simp [aev, cav, look, acallPure, abin, abinN, abinP, abinI, abinS, aun, aconv, afield, afieldAddr, aindexAddr, aindex, aslice, alow, ahigh, abuild, abuildGo, cellsOf, splice, fieldTy, alen, apick, amax, amin, aload, headV, aparts, abuildSlice, elParts, abytesStr, astore, amake, aappend, anew, arith, aresults, aresList, ares, spec0, spec1, spec2, spec3, spec4, eqCells, eqCell, CB, hlt]
  refine loop_rule (C := CPr m) (sigCPr m) (mixCPr m) (fun i : Nat => ⟨[(1, .ptr 0 1 21 0 0), (5, .int .i64 i)], [CB c]⟩) (fun i => i ≤ c.wh.length ∧ (c.wh.drop i).foldl exprS 0 = partsA c) (fun i => c.wh.length - i) (by kernel_rfl) ⟨0, ⟨by omega, hA⟩, weak_slots (by simp [CB])⟩ (fun i ⟨hi, hs⟩ => ?_)
  by_cases hlt : i < c.wh.length
  · have i1 : I64 ((i : Int) + 1) := by unfold I64; omega
    have w := w2 _ (ix_mem hlt)
    rw [foldl_drop hlt] at hs
    have e0 : exprS 0 (ix c.wh i) = checkE (ix c.wh i) := rfl
    rw [e0] at hs
    by_cases h0 : checkE (ix c.wh i) = 0
    · rw [h0] at hs
      simp [aev, cav, look, acallPure, abin, abinN, abinP, abinI, abinS, aun, aconv, afield, afieldAddr, aindexAddr, aindex, aslice, alow, ahigh, abuild, abuildGo, cellsOf, splice, fieldTy, alen, apick, amax, amin, aload, headV, aparts, abuildSlice, elParts, abytesStr, astore, amake, aappend, anew, arith, aresults, aresList, ares, spec0, spec1, spec2, spec3, spec4, eqCells, eqCell, CB, hlt, rowAt_enc hlt, sChk, w, i1, h0]
      exact ⟨i + 1, ⟨by omega, hs⟩, by omega, weak_slots (by simp)⟩
    · rw [keep_foldl kExpr h0] at hs
      have hr := pc2 hs.symm h0
      rw [← hR] at hr
      simp [aev, cav, look, acallPure, abin, abinN, abinP, abinI, abinS, aun, aconv, afield, afieldAddr, aindexAddr, aindex, aslice, alow, ahigh, abuild, abuildGo, cellsOf, splice, fieldTy, alen, apick, amax, amin, aload, headV, aparts, abuildSlice, elParts, abytesStr, astore, amake, aappend, anew, arith, aresults, aresList, ares, spec0, spec1, spec2, spec3, spec4, eqCells, eqCell, CB, hlt, rowAt_enc hlt, sChk, w, h0, hr]
  rw [List.drop_eq_nil_of_le (by omega), List.foldl_nil] at hs
  have hB : (c.kind = 2) = False ∨ ((c.kind = 2) = True ∧ ¬ checkE c.e = 0) ∨ ((c.kind = 2) = True ∧ checkE c.e = 0 ∧ wordB c.name = false) ∨ ((c.kind = 2) = True ∧ checkE c.e = 0 ∧ wordB c.name = true) := by
    rcases em2 (c.kind = 2) with h | h
    · by_cases h1 : checkE c.e = 0
      · cases h2 : wordB c.name
        · exact .inr (.inr (.inl ⟨h, h1, rfl⟩))
        · exact .inr (.inr (.inr ⟨h, h1, rfl⟩))
      · exact .inr (.inl ⟨h, h1⟩)
    · exact .inl h
  have pb : (c.kind = 2) = True → partsB c = addE (addE 0 (checkE c.e)) (needE c.name) := fun h => by unfold partsB; rw [if_pos (of_eq_true h), ← hs]
  rcases hB with hk | ⟨hk, h1⟩ | ⟨hk, h1, h2⟩ | ⟨hk, h1, h2⟩
  case' inr.inl =>
    have hr : R = checkE c.e := by rw [hR]; exact pc3 (by rw [pb hk, add_zero, keep_add h1]) h1
    simp [aev, cav, look, acallPure, abin, abinN, abinP, abinI, abinS, aun, aconv, afield, afieldAddr, aindexAddr, aindex, aslice, alow, ahigh, abuild, abuildGo, cellsOf, splice, fieldTy, alen, apick, amax, amin, aload, headV, aparts, abuildSlice, elParts, abytesStr, astore, amake, aappend, anew, arith, aresults, aresList, ares, spec0, spec1, spec2, spec3, spec4, eqCells, eqCell, CB, hlt, sChk, w3, hk, h1, hr]
  case' inr.inr.inl =>
    have hr : R = 6 := by rw [hR]; exact pc3 (by rw [pb hk, add_zero, h1, add_zero]; unfold needE; rw [h2]; simp) (by decide)
    simp [aev, cav, look, acallPure, abin, abinN, abinP, abinI, abinS, aun, aconv, afield, afieldAddr, aindexAddr, aindex, aslice, alow, ahigh, abuild, abuildGo, cellsOf, splice, fieldTy, alen, apick, amax, amin, aload, headV, aparts, abuildSlice, elParts, abytesStr, astore, amake, aappend, anew, arith, aresults, aresList, ares, spec0, spec1, spec2, spec3, spec4, eqCells, eqCell, CB, hlt, sChk, sWd, w3, hk, h1, h2, hr]
  case' inl =>
    have hz : partsB c = 0 := by unfold partsB; rw [if_neg (of_eq_false hk), ← hs]
    have h1 : True := trivial
    have h2 : True := trivial
  case' inr.inr.inr =>
    have hz : partsB c = 0 := by rw [pb hk, add_zero, h1, add_zero]; unfold needE; rw [h2]; simp
  all_goals
    simp [aev, cav, look, acallPure, abin, abinN, abinP, abinI, abinS, aun, aconv, afield, afieldAddr, aindexAddr, aindex, aslice, alow, ahigh, abuild, abuildGo, cellsOf, splice, fieldTy, alen, apick, amax, amin, aload, headV, aparts, abuildSlice, elParts, abytesStr, astore, amake, aappend, anew, arith, aresults, aresList, ares, spec0, spec1, spec2, spec3, spec4, eqCells, eqCell, CB, hlt, sChk, sWd, w3, hk, h1, h2]
    refine loop_rule (C := CPr m) (sigCPr m) (mixCPr m) (fun i : Nat => ⟨[(1, .ptr 0 1 21 0 0), (8, .int .i64 i)], [CB c]⟩) (fun i => i ≤ c.items.length ∧ (c.items.drop i).foldl itemS 0 = c.items.foldl itemS (partsB c)) (fun i => c.items.length - i) (by kernel_rfl) ⟨0, ⟨by omega, by rw [hz]; rfl⟩, weak_slots (by simp [CB])⟩ (fun i ⟨hi, hs⟩ => ?_)
    by_cases hlt : i < c.items.length
    · have i1 : I64 ((i : Int) + 1) := by unfold I64; omega
      have w := w4 _ (ix_mem hlt)
      rw [foldl_drop hlt] at hs
      have e0 : itemS 0 (ix c.items i) = addE (checkE (ix c.items i).e) (needE (ix c.items i).as_) := rfl
      rw [e0] at hs
      by_cases h0 : checkE (ix c.items i).e = 0
      · rw [h0, add_zero] at hs
        cases hw : wordB (ix c.items i).as_
        · have hn : needE (ix c.items i).as_ = 6 := by unfold needE; rw [hw]; simp
          rw [hn, keep_foldl kItem (by decide)] at hs
          have hr := pc4 hs.symm (by decide)
          rw [← hR] at hr
          simp [aev, cav, look, acallPure, abin, abinN, abinP, abinI, abinS, aun, aconv, afield, afieldAddr, aindexAddr, aindex, aslice, alow, ahigh, abuild, abuildGo, cellsOf, splice, fieldTy, alen, apick, amax, amin, aload, headV, aparts, abuildSlice, elParts, abytesStr, astore, amake, aappend, anew, arith, aresults, aresList, ares, spec0, spec1, spec2, spec3, spec4, eqCells, eqCell, CB, hlt, rowAt_enc hlt, sChk, sWd, w, h0, hw, hr]
        · have hn : needE (ix c.items i).as_ = 0 := by unfold needE; rw [hw]; simp
          rw [hn] at hs
          simp [aev, cav, look, acallPure, abin, abinN, abinP, abinI, abinS, aun, aconv, afield, afieldAddr, aindexAddr, aindex, aslice, alow, ahigh, abuild, abuildGo, cellsOf, splice, fieldTy, alen, apick, amax, amin, aload, headV, aparts, abuildSlice, elParts, abytesStr, astore, amake, aappend, anew, arith, aresults, aresList, ares, spec0, spec1, spec2, spec3, spec4, eqCells, eqCell, CB, hlt, rowAt_enc hlt, sChk, sWd, w, i1, h0, hw]
          exact ⟨i + 1, ⟨by omega, hs⟩, by omega, weak_slots (by simp)⟩
      · rw [keep_add h0, keep_foldl kItem h0] at hs
        have hr := pc4 hs.symm h0
        rw [← hR] at hr
        simp [aev, cav, look, acallPure, abin, abinN, abinP, abinI, abinS, aun, aconv, afield, afieldAddr, aindexAddr, aindex, aslice, alow, ahigh, abuild, abuildGo, cellsOf, splice, fieldTy, alen, apick, amax, amin, aload, headV, aparts, abuildSlice, elParts, abytesStr, astore, amake, aappend, anew, arith, aresults, aresList, ares, spec0, spec1, spec2, spec3, spec4, eqCells, eqCell, CB, hlt, rowAt_enc hlt, sChk, w, h0, hr]
    rw [List.drop_eq_nil_of_le (by omega), List.foldl_nil] at hs
    simp [aev, cav, look, acallPure, abin, abinN, abinP, abinI, abinS, aun, aconv, afield, afieldAddr, aindexAddr, aindex, aslice, alow, ahigh, abuild, abuildGo, cellsOf, splice, fieldTy, alen, apick, amax, amin, aload, headV, aparts, abuildSlice, elParts, abytesStr, astore, amake, aappend, anew, arith, aresults, aresList, ares, spec0, spec1, spec2, spec3, spec4, eqCells, eqCell, CB, hlt]
    refine loop_rule (C := CPr m) (sigCPr m) (mixCPr m) (fun i : Nat => ⟨[(1, .ptr 0 1 21 0 0), (10, .int .i64 i)], [CB c]⟩) (fun i => i ≤ c.order.length ∧ (c.order.drop i).foldl sortS 0 = c.order.foldl sortS (c.items.foldl itemS (partsB c))) (fun i => c.order.length - i) (by kernel_rfl) ⟨0, ⟨by omega, by rw [← hs]; rfl⟩, weak_slots (by simp [CB])⟩ (fun i ⟨hi, hs⟩ => ?_)
    by_cases hlt : i < c.order.length
    · have i1 : I64 ((i : Int) + 1) := by unfold I64; omega
      have w := w5 _ (ix_mem hlt)
      rw [foldl_drop hlt] at hs
      have e0 : sortS 0 (ix c.order i) = checkE (ix c.order i).e := rfl
      rw [e0] at hs
      by_cases h0 : checkE (ix c.order i).e = 0
      · rw [h0] at hs
        simp [aev, cav, look, acallPure, abin, abinN, abinP, abinI, abinS, aun, aconv, afield, afieldAddr, aindexAddr, aindex, aslice, alow, ahigh, abuild, abuildGo, cellsOf, splice, fieldTy, alen, apick, amax, amin, aload, headV, aparts, abuildSlice, elParts, abytesStr, astore, amake, aappend, anew, arith, aresults, aresList, ares, spec0, spec1, spec2, spec3, spec4, eqCells, eqCell, CB, hlt, rowAt_enc hlt, sChk, w, i1, h0]
        exact ⟨i + 1, ⟨by omega, hs⟩, by omega, weak_slots (by simp)⟩
      · rw [keep_foldl kSort h0] at hs
        have hr := pc5 hs.symm h0
        rw [← hR] at hr
        simp [aev, cav, look, acallPure, abin, abinN, abinP, abinI, abinS, aun, aconv, afield, afieldAddr, aindexAddr, aindex, aslice, alow, ahigh, abuild, abuildGo, cellsOf, splice, fieldTy, alen, apick, amax, amin, aload, headV, aparts, abuildSlice, elParts, abytesStr, astore, amake, aappend, anew, arith, aresults, aresList, ares, spec0, spec1, spec2, spec3, spec4, eqCells, eqCell, CB, hlt, rowAt_enc hlt, sChk, w, h0, hr]
    rw [List.drop_eq_nil_of_le (by omega), List.foldl_nil] at hs
    simp [aev, cav, look, acallPure, abin, abinN, abinP, abinI, abinS, aun, aconv, afield, afieldAddr, aindexAddr, aindex, aslice, alow, ahigh, abuild, abuildGo, cellsOf, splice, fieldTy, alen, apick, amax, amin, aload, headV, aparts, abuildSlice, elParts, abytesStr, astore, amake, aappend, anew, arith, aresults, aresList, ares, spec0, spec1, spec2, spec3, spec4, eqCells, eqCell, CB, hlt]
    refine loop_rule (C := CPr m) (sigCPr m) (mixCPr m) (fun i : Nat => ⟨[(1, .ptr 0 1 21 0 0), (12, .int .i64 i)], [CB c]⟩) (fun i => i ≤ c.sets.length ∧ (c.sets.drop i).foldl setS 0 = c.sets.foldl setS (c.order.foldl sortS (c.items.foldl itemS (partsB c)))) (fun i => c.sets.length - i) (by kernel_rfl) ⟨0, ⟨by omega, by rw [← hs]; rfl⟩, weak_slots (by simp [CB])⟩ (fun i ⟨hi, hs⟩ => ?_)
    by_cases hlt : i < c.sets.length
    · have i1 : I64 ((i : Int) + 1) := by unfold I64; omega
      have w := w6 _ (ix_mem hlt)
      rw [foldl_drop hlt] at hs
      have e0 : setS 0 (ix c.sets i) = setE (ix c.sets i) := rfl
      rw [e0] at hs
      by_cases h0 : setE (ix c.sets i) = 0
      · rw [h0] at hs
        simp [aev, cav, look, acallPure, abin, abinN, abinP, abinI, abinS, aun, aconv, afield, afieldAddr, aindexAddr, aindex, aslice, alow, ahigh, abuild, abuildGo, cellsOf, splice, fieldTy, alen, apick, amax, amin, aload, headV, aparts, abuildSlice, elParts, abytesStr, astore, amake, aappend, anew, arith, aresults, aresList, ares, spec0, spec1, spec2, spec3, spec4, eqCells, eqCell, CB, hlt, rowAt_enc hlt, sSetE, w, i1, h0]
        exact ⟨i + 1, ⟨by omega, hs⟩, by omega, weak_slots (by simp)⟩
      · rw [keep_foldl kSet h0] at hs
        have hr := pc6 hs.symm h0
        rw [← hR] at hr
        simp [aev, cav, look, acallPure, abin, abinN, abinP, abinI, abinS, aun, aconv, afield, afieldAddr, aindexAddr, aindex, aslice, alow, ahigh, abuild, abuildGo, cellsOf, splice, fieldTy, alen, apick, amax, amin, aload, headV, aparts, abuildSlice, elParts, abytesStr, astore, amake, aappend, anew, arith, aresults, aresList, ares, spec0, spec1, spec2, spec3, spec4, eqCells, eqCell, CB, hlt, rowAt_enc hlt, sSetE, w, h0, hr]
    rw [List.drop_eq_nil_of_le (by omega), List.foldl_nil] at hs
    obtain ⟨NW, hNW⟩ : ∃ b, b = c.names.all wordB := ⟨_, rfl⟩
    have hr : R = if NW = true then 0 else 6 := by rw [hR, hNW]; unfold partsC; rw [← hs, names_fold]
    rw [hr]
    cases NW <;> simp [aev, cav, look, acallPure, abin, abinN, abinP, abinI, abinS, aun, aconv, afield, afieldAddr, aindexAddr, aindex, aslice, alow, ahigh, abuild, abuildGo, cellsOf, splice, fieldTy, alen, apick, amax, amin, aload, headV, aparts, abuildSlice, elParts, abytesStr, astore, amake, aappend, anew, arith, aresults, aresList, ares, spec0, spec1, spec2, spec3, spec4, eqCells, eqCell, CB, hlt, sWs, l7, ← hNW]

noncomputable def CCc (m : Int) : Ctx := mkC Tryz.prog (G m) [(43, .pure sUnused), (44, .pure sCounts), (45, .pure sParts)]
@[simp] theorem CCc_P (m : Int) : (CCc m).P = Tryz.prog := rfl
@[simp] theorem CCc_1 (m : Int) : (CCc m).S 43 = .pure sUnused := rfl
@[simp] theorem CCc_2 (m : Int) : (CCc m).S 44 = .pure sCounts := rfl
@[simp] theorem CCc_3 (m : Int) : (CCc m).S 45 = .pure sParts := rfl
theorem mixCCc (m : Int) : (CCc m).P.follows .mixedOrders = true := mixed
theorem sigCCc (m : Int) : SigOK (CCc m) := sigOK_cons (entryPure unusedR Tryz.func43 rfl (by decide)) (sigOK_cons (entryPure countsR Tryz.func44 rfl (by decide)) (sigOK_cons (entryPure partsR Tryz.func45 rfl (by decide)) (sigOK_nil _ _)))
def sClauseS : List AV → Option (Prop × AV) := spec1 (fun (c : Clause) => WfCS c) (fun c => .int .i64 (clauseE c))
set_option maxHeartbeats 8000000 in
theorem clauseR : PureOK Tryz.prog (G m) 11 sClauseS := by
  refine pure1 (C := CCc m) (sigCCc m) (mixCCc m) Tryz.func11 rfl rfl rfl (by kernel_rfl) (by decide) (fun c hw => ?_)
  by_cases k1 : c.kind < 1
  · simp [aev, cav, look, acallPure, abin, abinN, abinP, abinI, abinS, aun, aconv, afield, afieldAddr, aindexAddr, aindex, aslice, alow, ahigh, abuild, abuildGo, cellsOf, splice, fieldTy, alen, apick, amax, amin, aload, headV, aparts, abuildSlice, elParts, abytesStr, astore, amake, aappend, anew, arith, aresults, aresList, ares, spec0, spec1, spec2, spec3, spec4, eqCells, eqCell, clauseE, k1]
  by_cases k2 : 8 < c.kind
  · simp [aev, cav, look, acallPure, abin, abinN, abinP, abinI, abinS, aun, aconv, afield, afieldAddr, aindexAddr, aindex, aslice, alow, ahigh, abuild, abuildGo, cellsOf, splice, fieldTy, alen, apick, amax, amin, aload, headV, aparts, abuildSlice, elParts, abytesStr, astore, amake, aappend, anew, arith, aresults, aresList, ares, spec0, spec1, spec2, spec3, spec4, eqCells, eqCell, clauseE, k1, k2]
  have hst := stray_eq c
  cases hu : unusedB c
  case false =>
    have hst : strayB c = true := by rw [hst, hu]; rfl
    simp [aev, cav, look, acallPure, abin, abinN, abinP, abinI, abinS, aun, aconv, afield, afieldAddr, aindexAddr, aindex, aslice, alow, ahigh, abuild, abuildGo, cellsOf, splice, fieldTy, alen, apick, amax, amin, aload, headV, aparts, abuildSlice, elParts, abytesStr, astore, amake, aappend, anew, arith, aresults, aresList, ares, spec0, spec1, spec2, spec3, spec4, eqCells, eqCell, clauseE, sUnused, k1, k2, hu, hst]
  by_cases s1 : c.skip < -1
  · have hst : strayB c = true := by rw [hst]; simp [rangeB, s1]
    simp [aev, cav, look, acallPure, abin, abinN, abinP, abinI, abinS, aun, aconv, afield, afieldAddr, aindexAddr, aindex, aslice, alow, ahigh, abuild, abuildGo, cellsOf, splice, fieldTy, alen, apick, amax, amin, aload, headV, aparts, abuildSlice, elParts, abytesStr, astore, amake, aappend, anew, arith, aresults, aresList, ares, spec0, spec1, spec2, spec3, spec4, eqCells, eqCell, clauseE, sUnused, k1, k2, hu, hst, s1]
  by_cases s2 : 1000000000000000 < c.skip
  · have hst : strayB c = true := by rw [hst]; simp [rangeB, s2]
    simp [aev, cav, look, acallPure, abin, abinN, abinP, abinI, abinS, aun, aconv, afield, afieldAddr, aindexAddr, aindex, aslice, alow, ahigh, abuild, abuildGo, cellsOf, splice, fieldTy, alen, apick, amax, amin, aload, headV, aparts, abuildSlice, elParts, abytesStr, astore, amake, aappend, anew, arith, aresults, aresList, ares, spec0, spec1, spec2, spec3, spec4, eqCells, eqCell, clauseE, sUnused, k1, k2, hu, hst, s1, s2]
  by_cases s3 : c.limit < -1
  · have hst : strayB c = true := by rw [hst]; simp [rangeB, s3]
    simp [aev, cav, look, acallPure, abin, abinN, abinP, abinI, abinS, aun, aconv, afield, afieldAddr, aindexAddr, aindex, aslice, alow, ahigh, abuild, abuildGo, cellsOf, splice, fieldTy, alen, apick, amax, amin, aload, headV, aparts, abuildSlice, elParts, abytesStr, astore, amake, aappend, anew, arith, aresults, aresList, ares, spec0, spec1, spec2, spec3, spec4, eqCells, eqCell, clauseE, sUnused, k1, k2, hu, hst, s1, s2, s3]
  by_cases s4 : 1000000000000000 < c.limit
  · have hst : strayB c = true := by rw [hst]; simp [rangeB, s4]
    simp [aev, cav, look, acallPure, abin, abinN, abinP, abinI, abinS, aun, aconv, afield, afieldAddr, aindexAddr, aindex, aslice, alow, ahigh, abuild, abuildGo, cellsOf, splice, fieldTy, alen, apick, amax, amin, aload, headV, aparts, abuildSlice, elParts, abytesStr, astore, amake, aappend, anew, arith, aresults, aresList, ares, spec0, spec1, spec2, spec3, spec4, eqCells, eqCell, clauseE, sUnused, k1, k2, hu, hst, s1, s2, s3, s4]
  have hst : strayB c = false := by rw [hst, hu]; simp [rangeB, s1, s2, s3, s4]
  cases hc : crowdB c <;> simp [aev, cav, look, acallPure, abin, abinN, abinP, abinI, abinS, aun, aconv, afield, afieldAddr, aindexAddr, aindex, aslice, alow, ahigh, abuild, abuildGo, cellsOf, splice, fieldTy, alen, apick, amax, amin, aload, headV, aparts, abuildSlice, elParts, abytesStr, astore, amake, aappend, anew, arith, aresults, aresList, ares, spec0, spec1, spec2, spec3, spec4, eqCells, eqCell, clauseE, sUnused, sCounts, sParts, hw, k1, k2, hu, hst, s1, s2, s3, s4, hc]

noncomputable def CLc (m : Int) : Ctx := mkC Tryz.prog (G m) [(6, .pure sMany), (7, .pure sLives), (10, .pure sClause), (11, .pure sClauseS)]
@[simp] theorem CLc_P (m : Int) : (CLc m).P = Tryz.prog := rfl
@[simp] theorem CLc_1 (m : Int) : (CLc m).S 6 = .pure sMany := rfl
@[simp] theorem CLc_2 (m : Int) : (CLc m).S 7 = .pure sLives := rfl
@[simp] theorem CLc_3 (m : Int) : (CLc m).S 10 = .pure sClause := rfl
@[simp] theorem CLc_4 (m : Int) : (CLc m).S 11 = .pure sClauseS := rfl
theorem mixCLc (m : Int) : (CLc m).P.follows .mixedOrders = true := mixed
theorem sigCLc (m : Int) : SigOK (CLc m) := sigOK_cons (entryPure manyR Tryz.func6 rfl (by decide)) (sigOK_cons (entryPure livesP Tryz.func7 rfl (by decide)) (sigOK_cons (entryPure clauseP Tryz.func10 rfl (by decide)) (sigOK_cons (entryPure clauseR Tryz.func11 rfl (by decide)) (sigOK_nil _ _))))
theorem lawClauses : PureOK Tryz.prog (G m) 4 (spec1 (fun (c : Clause) => WfCS c) fun _ => .bool true) := by
  refine pure1 (C := CLc m) (sigCLc m) (mixCLc m) Tryz.func4 rfl rfl rfl (by kernel_rfl) (by decide) (fun c hw => ?_)
  by_cases h : 3000 < manyE c <;> simp [aev, cav, look, acallPure, abin, abinN, abinP, abinI, abinS, aun, aconv, afield, afieldAddr, aindexAddr, aindex, aslice, alow, ahigh, abuild, abuildGo, cellsOf, splice, fieldTy, alen, apick, amax, amin, aload, headV, aparts, abuildSlice, elParts, abytesStr, astore, amake, aappend, anew, arith, aresults, aresList, ares, spec0, spec1, spec2, spec3, spec4, eqCells, eqCell, sMany, sLives, sClause, sClauseS, hw, hw.1, h]
end
end Go.Proofs.YthcfnaglgoaikaaGreat
