/-
  layer 18: SyntaxPaths.
-/
import Derived.Test.YthcfnaglgoaikaaGreatR3
import Derived.Test.YthcfnaglgoaikaaGreatS18
import Derived.Test.YthcfnaglgoaikaaGreatSQ
import Derived.Test.YthcfnaglgoaikaaGreatShape
namespace Go.Proofs.YthcfnaglgoaikaaGreat
open Go.RowKit
set_option linter.unusedSimpArgs false
set_option linter.unusedVariables false
set_option maxRecDepth 100000

theorem any_drop' {l : List Expr} {i : Nat} (h : i < l.length) : (l.drop i).any aggE = (aggE (ix l i) || (l.drop (i + 1)).any aggE) := any_drop h
section
variable {m : Int}
noncomputable def CRp (m : Int) : Ctx := mkC Tryz.prog (G m) [(35, .pure sShape), (18, .pure sProps), (36, .pure sChk), (37, .pure sHasA)]
@[simp] theorem CRp_P (m : Int) : (CRp m).P = Tryz.prog := rfl
@[simp] theorem CRp_1 (m : Int) : (CRp m).S 35 = .pure sShape := rfl
@[simp] theorem CRp_2 (m : Int) : (CRp m).S 18 = .pure sProps := rfl
@[simp] theorem CRp_3 (m : Int) : (CRp m).S 36 = .pure sChk := rfl
@[simp] theorem CRp_4 (m : Int) : (CRp m).S 37 = .pure sHasA := rfl
theorem mixCRp (m : Int) : (CRp m).P.follows .mixedOrders = true := mixed
theorem sigCRp (m : Int) : SigOK (CRp m) := sigOK_cons (entryPure shapeR Tryz.func35 rfl (by decide)) (sigOK_cons (entryPure propsR Tryz.func18 rfl (by decide)) (sigOK_cons (entryPure checkR Tryz.func36 rfl (by decide)) (sigOK_cons (entryPure hasR Tryz.func37 rfl (by decide)) (sigOK_nil _ _))))
def sPathS : List AV → Option (Prop × AV) := spec2 (fun (p : PathPat) (_ : Bool) => WfPS p) (fun p c => .int .i64 (pathE p c))
set_option maxHeartbeats 16000000 in
theorem checkPathR : PureOK Tryz.prog (G m) 9 sPathS := by
  refine pure2 (C := CRp m) (sigCRp m) (mixCRp m) Tryz.func9 rfl rfl rfl (by kernel_rfl) (by decide) (fun p c hps => ?_)
  have hps2 := hps
  obtain ⟨wp, hb⟩ := hps2
  have wp2 := wp
  obtain ⟨wv, ⟨wn, wN⟩, we, wE⟩ := wp2
  have we' := maxLen_le we
  rw [pathE_shape]
  by_cases hsh : shapeE p = 0
  case neg => simp [aev, cav, look, acallPure, abin, abinN, abinP, abinI, abinS, aun, aconv, afield, afieldAddr, aindexAddr, aindex, aslice, alow, ahigh, abuild, abuildGo, cellsOf, splice, fieldTy, alen, apick, amax, amin, aload, headV, aparts, abuildSlice, elParts, abytesStr, astore, amake, aappend, anew, arith, aresults, aresList, ares, spec0, spec1, spec2, spec3, spec4, eqCells, eqCell, sShape, wp, hsh]
  obtain ⟨X, hX⟩ : ∃ X, X = exprsL (partsL p.nodes p.edges) := ⟨_, rfl⟩
  have hXw : ∀ e ∈ X, WfE e := by rw [hX]; exact exprsL_wf (partsL_wf _ _ wN wE)
  have hXl : X.length ≤ 1048576 := by have := exprsL_len p.nodes p.edges; rw [← hX] at this; omega
  obtain ⟨CR, hCR⟩ : ∃ b, b = p.edges.all creB := ⟨_, rfl⟩
  obtain ⟨AG, hAG⟩ : ∃ b, b = X.any aggE := ⟨_, rfl⟩
  rw [← hX, ← hCR, ← hAG]
  simp [aev, cav, look, acallPure, abin, abinN, abinP, abinI, abinS, aun, aconv, afield, afieldAddr, aindexAddr, aindex, aslice, alow, ahigh, abuild, abuildGo, cellsOf, splice, fieldTy, alen, apick, amax, amin, aload, headV, aparts, abuildSlice, elParts, abytesStr, astore, amake, aappend, anew, arith, aresults, aresList, ares, spec0, spec1, spec2, spec3, spec4, eqCells, eqCell, sShape, sProps, wp, hps, hsh, ← hX]
  refine loop_rule (C := CRp m) (sigCRp m) (mixCRp m) (fun i : Nat => ⟨[(1, .bool c), (2, .ptr 0 1 3 0 0), (6, Enc.enc X), (7, .int .i64 i)], [PB p]⟩) (fun i => i ≤ X.length ∧ errX (X.drop i) = errX X) (fun i => X.length - i) (by kernel_rfl) ⟨0, by simp, weak_slots (by simp [PB])⟩ (fun i ⟨hi, hs⟩ => ?_)
  by_cases hlt : i < X.length
  · have i1 : I64 ((i : Int) + 1) := by unfold I64; omega
    have w := hXw _ (ix_mem hlt)
    rw [errX_drop hlt] at hs
    by_cases h0 : checkE (ix X i) = 0
    · rw [if_neg (by simp [h0])] at hs
      simp [aev, cav, look, acallPure, abin, abinN, abinP, abinI, abinS, aun, aconv, afield, afieldAddr, aindexAddr, aindex, aslice, alow, ahigh, abuild, abuildGo, cellsOf, splice, fieldTy, alen, apick, amax, amin, aload, headV, aparts, abuildSlice, elParts, abytesStr, astore, amake, aappend, anew, arith, aresults, aresList, ares, spec0, spec1, spec2, spec3, spec4, eqCells, eqCell, PB, hlt, rowAt_enc hlt, sChk, w, h0, i1]
      exact ⟨i + 1, ⟨by omega, hs⟩, by omega, weak_slots (by simp)⟩
    · rw [if_pos h0] at hs
      simp [aev, cav, look, acallPure, abin, abinN, abinP, abinI, abinS, aun, aconv, afield, afieldAddr, aindexAddr, aindex, aslice, alow, ahigh, abuild, abuildGo, cellsOf, splice, fieldTy, alen, apick, amax, amin, aload, headV, aparts, abuildSlice, elParts, abytesStr, astore, amake, aappend, anew, arith, aresults, aresList, ares, spec0, spec1, spec2, spec3, spec4, eqCells, eqCell, PB, hlt, rowAt_enc hlt, sChk, w, h0, hsh, ← hs]
  rw [List.drop_eq_nil_of_le (by omega), errX] at hs
  simp [aev, cav, look, acallPure, abin, abinN, abinP, abinI, abinS, aun, aconv, afield, afieldAddr, aindexAddr, aindex, aslice, alow, ahigh, abuild, abuildGo, cellsOf, splice, fieldTy, alen, apick, amax, amin, aload, headV, aparts, abuildSlice, elParts, abytesStr, astore, amake, aappend, anew, arith, aresults, aresList, ares, spec0, spec1, spec2, spec3, spec4, eqCells, eqCell, PB, hlt, hsh, ← hs]
  refine loop_rule (C := CRp m) (sigCRp m) (mixCRp m) (fun i : Nat => ⟨[(1, .bool c), (2, .ptr 0 1 3 0 0), (6, Enc.enc X), (9, .int .i64 i)], [PB p]⟩) (fun i => i ≤ X.length ∧ (X.drop i).any aggE = AG) (fun i => X.length - i) (by kernel_rfl) ⟨0, ⟨by omega, by rw [hAG]; rfl⟩, weak_slots (by simp [PB])⟩ (fun i ⟨hi, hg⟩ => ?_)
  by_cases hlt : i < X.length
  · have i1 : I64 ((i : Int) + 1) := by unfold I64; omega
    have w := hXw _ (ix_mem hlt)
    rw [any_drop' hlt] at hg
    cases h0 : aggE (ix X i)
    · rw [h0, Bool.false_or] at hg
      simp [aev, cav, look, acallPure, abin, abinN, abinP, abinI, abinS, aun, aconv, afield, afieldAddr, aindexAddr, aindex, aslice, alow, ahigh, abuild, abuildGo, cellsOf, splice, fieldTy, alen, apick, amax, amin, aload, headV, aparts, abuildSlice, elParts, abytesStr, astore, amake, aappend, anew, arith, aresults, aresList, ares, spec0, spec1, spec2, spec3, spec4, eqCells, eqCell, PB, hlt, rowAt_enc hlt, sHasA, w, h0, i1]
      exact ⟨i + 1, ⟨by omega, hg⟩, by omega, weak_slots (by simp)⟩
    · rw [h0, Bool.true_or] at hg
      simp [aev, cav, look, acallPure, abin, abinN, abinP, abinI, abinS, aun, aconv, afield, afieldAddr, aindexAddr, aindex, aslice, alow, ahigh, abuild, abuildGo, cellsOf, splice, fieldTy, alen, apick, amax, amin, aload, headV, aparts, abuildSlice, elParts, abytesStr, astore, amake, aappend, anew, arith, aresults, aresList, ares, spec0, spec1, spec2, spec3, spec4, eqCells, eqCell, PB, hlt, rowAt_enc hlt, sHasA, w, h0, hsh, ← hs, ← hg]
  rw [List.drop_eq_nil_of_le (by omega), List.any_nil] at hg
  simp [aev, cav, look, acallPure, abin, abinN, abinP, abinI, abinS, aun, aconv, afield, afieldAddr, aindexAddr, aindex, aslice, alow, ahigh, abuild, abuildGo, cellsOf, splice, fieldTy, alen, apick, amax, amin, aload, headV, aparts, abuildSlice, elParts, abytesStr, astore, amake, aappend, anew, arith, aresults, aresList, ares, spec0, spec1, spec2, spec3, spec4, eqCells, eqCell, PB, hlt, hsh, ← hs, ← hg]
  refine loop_rule (C := CRp m) (sigCRp m) (mixCRp m) (fun i : Nat => ⟨[(1, .bool c), (2, .ptr 0 1 3 0 0), (10, .int .i64 i)], [PB p]⟩) (fun i => i ≤ p.edges.length ∧ (c = true → (p.edges.drop i).all creB = CR)) (fun i => p.edges.length - i) (by kernel_rfl) ⟨0, ⟨by omega, fun _ => by rw [hCR]; rfl⟩, weak_slots (by simp [PB])⟩ (fun i ⟨hi, hc⟩ => ?_)
  by_cases hlt : i < p.edges.length
  · have i1 : I64 ((i : Int) + 1) := by unfold I64; omega
    rw [all_drop hlt] at hc
    cases c
    · simp [aev, cav, look, acallPure, abin, abinN, abinP, abinI, abinS, aun, aconv, afield, afieldAddr, aindexAddr, aindex, aslice, alow, ahigh, abuild, abuildGo, cellsOf, splice, fieldTy, alen, apick, amax, amin, aload, headV, aparts, abuildSlice, elParts, abytesStr, astore, amake, aappend, anew, arith, aresults, aresList, ares, spec0, spec1, spec2, spec3, spec4, eqCells, eqCell, PB, hlt, rowAt_enc hlt, i1]
      exact ⟨i + 1, by omega, by omega, weak_keep 1 (by simp) (by simp) (by simp [AV.clean, AV.clean1]) (by simp) (by simp [PB])⟩
    have hc := hc rfl
    rcases em2 ((ix p.edges i).mode = 0) with h1 | h1
    case inr =>
      have hB : creB (ix p.edges i) = false := by simp [creB, h1]
      rw [hB, Bool.false_and] at hc
      simp [aev, cav, look, acallPure, abin, abinN, abinP, abinI, abinS, aun, aconv, afield, afieldAddr, aindexAddr, aindex, aslice, alow, ahigh, abuild, abuildGo, cellsOf, splice, fieldTy, alen, apick, amax, amin, aload, headV, aparts, abuildSlice, elParts, abytesStr, astore, amake, aappend, anew, arith, aresults, aresList, ares, spec0, spec1, spec2, spec3, spec4, eqCells, eqCell, PB, hlt, rowAt_enc hlt, h1, hsh, ← hs, ← hg, ← hc]
    by_cases h2 : (ix p.edges i).types.length = 1
    case neg =>
      have h2' : ¬ ((ix p.edges i).types.length : Int) = 1 := by omega
      have hB : creB (ix p.edges i) = false := by simp [creB, h2]
      rw [hB, Bool.false_and] at hc
      simp [aev, cav, look, acallPure, abin, abinN, abinP, abinI, abinS, aun, aconv, afield, afieldAddr, aindexAddr, aindex, aslice, alow, ahigh, abuild, abuildGo, cellsOf, splice, fieldTy, alen, apick, amax, amin, aload, headV, aparts, abuildSlice, elParts, abytesStr, astore, amake, aappend, anew, arith, aresults, aresList, ares, spec0, spec1, spec2, spec3, spec4, eqCells, eqCell, PB, hlt, rowAt_enc hlt, h1, h2, h2', hsh, ← hs, ← hg, ← hc]
    rcases em2 ((ix p.edges i).dir = 3) with h3 | h3
    case inl =>
      have hB : creB (ix p.edges i) = false := by simp [creB, h3]
      rw [hB, Bool.false_and] at hc
      simp [aev, cav, look, acallPure, abin, abinN, abinP, abinI, abinS, aun, aconv, afield, afieldAddr, aindexAddr, aindex, aslice, alow, ahigh, abuild, abuildGo, cellsOf, splice, fieldTy, alen, apick, amax, amin, aload, headV, aparts, abuildSlice, elParts, abytesStr, astore, amake, aappend, anew, arith, aresults, aresList, ares, spec0, spec1, spec2, spec3, spec4, eqCells, eqCell, PB, hlt, rowAt_enc hlt, h1, h2, h3, hsh, ← hs, ← hg, ← hc]
    have hB : creB (ix p.edges i) = true := by simp [creB, h1, h2, h3]
    rw [hB, Bool.true_and] at hc
    simp [aev, cav, look, acallPure, abin, abinN, abinP, abinI, abinS, aun, aconv, afield, afieldAddr, aindexAddr, aindex, aslice, alow, ahigh, abuild, abuildGo, cellsOf, splice, fieldTy, alen, apick, amax, amin, aload, headV, aparts, abuildSlice, elParts, abytesStr, astore, amake, aappend, anew, arith, aresults, aresList, ares, spec0, spec1, spec2, spec3, spec4, eqCells, eqCell, PB, hlt, rowAt_enc hlt, h1, h2, h3, i1]
    exact ⟨i + 1, ⟨by omega, hc⟩, by omega, weak_keep 1 (by simp) (by simp) (by simp [AV.clean, AV.clean1]) (by simp) (by simp [PB])⟩
  cases c
  · simp [aev, cav, look, acallPure, abin, abinN, abinP, abinI, abinS, aun, aconv, afield, afieldAddr, aindexAddr, aindex, aslice, alow, ahigh, abuild, abuildGo, cellsOf, splice, fieldTy, alen, apick, amax, amin, aload, headV, aparts, abuildSlice, elParts, abytesStr, astore, amake, aappend, anew, arith, aresults, aresList, ares, spec0, spec1, spec2, spec3, spec4, eqCells, eqCell, PB, hlt, hsh, ← hs, ← hg]
  · have hc := hc rfl
    rw [List.drop_eq_nil_of_le (by omega), List.all_nil] at hc
    simp [aev, cav, look, acallPure, abin, abinN, abinP, abinI, abinS, aun, aconv, afield, afieldAddr, aindexAddr, aindex, aslice, alow, ahigh, abuild, abuildGo, cellsOf, splice, fieldTy, alen, apick, amax, amin, aload, headV, aparts, abuildSlice, elParts, abytesStr, astore, amake, aappend, anew, arith, aresults, aresList, ares, spec0, spec1, spec2, spec3, spec4, eqCells, eqCell, PB, hlt, hsh, ← hs, ← hg, ← hc]

def sLives : List AV → Option (Prop × AV) := spec0 (.bool true)
noncomputable def CLp (m : Int) : Ctx := mkC Tryz.prog (G m) [(6, .pure sMany), (7, .pure sLives), (8, .pure sPathC), (9, .pure sPathS)]
@[simp] theorem CLp_P (m : Int) : (CLp m).P = Tryz.prog := rfl
@[simp] theorem CLp_1 (m : Int) : (CLp m).S 6 = .pure sMany := rfl
@[simp] theorem CLp_2 (m : Int) : (CLp m).S 7 = .pure sLives := rfl
@[simp] theorem CLp_3 (m : Int) : (CLp m).S 8 = .pure sPathC := rfl
@[simp] theorem CLp_4 (m : Int) : (CLp m).S 9 = .pure sPathS := rfl
theorem mixCLp (m : Int) : (CLp m).P.follows .mixedOrders = true := mixed
theorem sigCLp (m : Int) : SigOK (CLp m) := sigOK_cons (entryPure manyR Tryz.func6 rfl (by decide)) (sigOK_cons (entryPure livesP Tryz.func7 rfl (by decide)) (sigOK_cons (entryPure checkPathP Tryz.func8 rfl (by decide)) (sigOK_cons (entryPure checkPathR Tryz.func9 rfl (by decide)) (sigOK_nil _ _))))
theorem lawPaths : PureOK Tryz.prog (G m) 3 (spec2 (fun (p : PathPat) (_ : Bool) => WfPS p) fun _ _ => .bool true) := by
  refine pure2 (C := CLp m) (sigCLp m) (mixCLp m) Tryz.func3 rfl rfl rfl (by kernel_rfl) (by decide) (fun p c hp => ?_)
  have m1 : 1 ≤ maxLen := by unfold maxLen; omega
  have wz : WfE (.mk 0 (.mk 0 0 0 ByteArray.empty []) ByteArray.empty false []) := wfE0 _ _ _ (by decide)
  have hw : WfCS ⟨0, false, false, [p], [], .mk 0 (.mk 0 0 0 ByteArray.empty []) ByteArray.empty false [], ByteArray.empty, [], [], 0, 0, [], []⟩ := by
    refine ⟨⟨⟨by simpa using m1, fun x hx => ?_⟩, ⟨by simp, by simp⟩, wz, ⟨by simp, by simp⟩, ⟨by simp, by simp⟩, ⟨by simp, by simp⟩, by simp⟩, fun x hx => ?_⟩
    · simp at hx; subst hx; exact hp.1
    · simp at hx; subst hx; exact hp
  obtain ⟨k, hk⟩ : ∃ k, k = manyE ⟨0, false, false, [p], [], .mk 0 (.mk 0 0 0 ByteArray.empty []) ByteArray.empty false [], ByteArray.empty, [], [], 0, 0, [], []⟩ := ⟨_, rfl⟩
  by_cases h : 3000 < k <;> simp [aev, cav, look, acallPure, abin, abinN, abinP, abinI, abinS, aun, aconv, afield, afieldAddr, aindexAddr, aindex, aslice, alow, ahigh, abuild, abuildGo, cellsOf, splice, fieldTy, alen, apick, amax, amin, aload, headV, aparts, abuildSlice, elParts, abytesStr, astore, amake, aappend, anew, arith, aresults, aresList, ares, spec0, spec1, spec2, spec3, spec4, eqCells, eqCell, sMany, sLives, sPathC, sPathS, dec_lit, map_unc, hw, hp, hp.1, ← hk, h]
end
end Go.Proofs.YthcfnaglgoaikaaGreat
