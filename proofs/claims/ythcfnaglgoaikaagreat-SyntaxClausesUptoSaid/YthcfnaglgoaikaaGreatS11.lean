/-
  layer 18: the check of an expression and of its operands.
-/
import Derived.Test.YthcfnaglgoaikaaGreatS10
namespace Go.Proofs.YthcfnaglgoaikaaGreat
open Go.RowKit
set_option linter.unusedSimpArgs false
set_option linter.unusedVariables false
set_option maxRecDepth 100000

section
variable {m : Int}
def sSpare : List AV → Option (Prop × AV) := spec1 (fun (_ : Expr) => True) (fun e => .bool (spareB e))
def sConst : List AV → Option (Prop × AV) := spec1 (fun (v : Val) => WfV v) (fun v => .bool (constB v))
def sNless : List AV → Option (Prop × AV) := spec1 (fun (_ : Expr) => True) (fun e => .bool (namelessB e))
def sSelf : List AV → Option (Prop × AV) := spec2 (fun (e : Expr) (_ : Bool) => WfV e.v) (fun e w => .int .i64 (selfE e w))
def sVis (n : Nat) : List AV → Option (Prop × AV) := spec2 (fun (e : Expr) (_ : Bool) => WfE e ∧ SizeOf.sizeOf e ≤ n) (fun e w => .int .i64 (visitE e w))
def sVisA : List AV → Option (Prop × AV) := spec2 (fun (e : Expr) (_ : Bool) => WfE e) (fun e w => .int .i64 (visitE e w))
noncomputable def CVs (m : Int) (n : Nat) : Ctx := mkC Tryz.prog (G m) [(73, .pure sOp), (74, .pure sSpare), (75, .pure sConst), (76, .pure sNless), (49, .pure (sVis n))]
@[simp] theorem CVs_P (m : Int) (n : Nat) : (CVs m n).P = Tryz.prog := rfl
@[simp] theorem CVs_1 (m : Int) (n : Nat) : (CVs m n).S 73 = .pure sOp := rfl
@[simp] theorem CVs_2 (m : Int) (n : Nat) : (CVs m n).S 74 = .pure sSpare := rfl
@[simp] theorem CVs_3 (m : Int) (n : Nat) : (CVs m n).S 75 = .pure sConst := rfl
@[simp] theorem CVs_4 (m : Int) (n : Nat) : (CVs m n).S 76 = .pure sNless := rfl
@[simp] theorem CVs_5 (m : Int) (n : Nat) : (CVs m n).S 49 = .pure (sVis n) := rfl
theorem mixCVs (m : Int) (n : Nat) : (CVs m n).P.follows .mixedOrders = true := mixed
theorem sigCVs {n : Nat} (h : PureOK Tryz.prog (G m) 49 (sVis n)) : SigOK (CVs m n) := sigOK_cons (entryPure operP Tryz.func73 rfl (by decide)) (sigOK_cons (entryPure spareP Tryz.func74 rfl (by decide)) (sigOK_cons (entryPure constP Tryz.func75 rfl (by decide)) (sigOK_cons (entryPure namelessP Tryz.func76 rfl (by decide)) (sigOK_cons (entryPure h Tryz.func49 rfl (by decide)) (sigOK_nil _ _)))))

set_option maxHeartbeats 8000000 in
theorem visitPn : ∀ n : Nat, PureOK Tryz.prog (G m) 49 (sVis n)
  | 0 => pure2_none fun e w h => by have := exp_pos e; omega
  | n + 1 => by
    refine pure2 (C := CVs m n) (sigCVs (visitPn n)) (mixCVs m n) Tryz.func49 rfl rfl rfl (by kernel_rfl) (by decide) (fun e w ⟨hw, hn⟩ => ?_)
    have hl := hw.len'
    have hv := hw.val
    rw [visitE_eq]
    rcases em2 (e.op < 1) with g1 | g1
    · simp [aev, cav, look, acallPure, abin, abinN, abinP, abinI, abinS, aun, aconv, afield, afieldAddr, aindexAddr, aindex, aslice, alow, ahigh, abuild, abuildGo, cellsOf, splice, fieldTy, alen, apick, amax, amin, aload, headV, aparts, abuildSlice, elParts, abytesStr, astore, amake, aappend, anew, arith, aresults, aresList, ares, spec0, spec1, spec2, spec3, spec4, eqCells, eqCell, selfE, g1]
    rcases em2 (24 < e.op) with g2 | g2
    · simp [aev, cav, look, acallPure, abin, abinN, abinP, abinI, abinS, aun, aconv, afield, afieldAddr, aindexAddr, aindex, aslice, alow, ahigh, abuild, abuildGo, cellsOf, splice, fieldTy, alen, apick, amax, amin, aload, headV, aparts, abuildSlice, elParts, abytesStr, astore, amake, aappend, anew, arith, aresults, aresList, ares, spec0, spec1, spec2, spec3, spec4, eqCells, eqCell, selfE, g1, g2]
    cases ho : operB e
    · simp [aev, cav, look, acallPure, abin, abinN, abinP, abinI, abinS, aun, aconv, afield, afieldAddr, aindexAddr, aindex, aslice, alow, ahigh, abuild, abuildGo, cellsOf, splice, fieldTy, alen, apick, amax, amin, aload, headV, aparts, abuildSlice, elParts, abytesStr, astore, amake, aappend, anew, arith, aresults, aresList, ares, spec0, spec1, spec2, spec3, spec4, eqCells, eqCell, sOp, selfE, g1, g2, ho]
    cases hs : spareB e
    · simp [aev, cav, look, acallPure, abin, abinN, abinP, abinI, abinS, aun, aconv, afield, afieldAddr, aindexAddr, aindex, aslice, alow, ahigh, abuild, abuildGo, cellsOf, splice, fieldTy, alen, apick, amax, amin, aload, headV, aparts, abuildSlice, elParts, abytesStr, astore, amake, aappend, anew, arith, aresults, aresList, ares, spec0, spec1, spec2, spec3, spec4, eqCells, eqCell, sOp, sSpare, selfE, g1, g2, ho, hs]
    rcases em2 (e.op = 24) with c24 | c24
    · have c1 : (e.op = 1) = False := eq_false (by have : e.op = 24 := by rw [c24]; trivial
                                                   omega)
      cases hnl : namelessB e
      case true => simp [aev, cav, look, acallPure, abin, abinN, abinP, abinI, abinS, aun, aconv, afield, afieldAddr, aindexAddr, aindex, aslice, alow, ahigh, abuild, abuildGo, cellsOf, splice, fieldTy, alen, apick, amax, amin, aload, headV, aparts, abuildSlice, elParts, abytesStr, astore, amake, aappend, anew, arith, aresults, aresList, ares, spec0, spec1, spec2, spec3, spec4, eqCells, eqCell, sOp, sSpare, sConst, sNless, selfE, g1, g2, ho, hs, hv, c1, hnl]
      cases w
      case true => simp [aev, cav, look, acallPure, abin, abinN, abinP, abinI, abinS, aun, aconv, afield, afieldAddr, aindexAddr, aindex, aslice, alow, ahigh, abuild, abuildGo, cellsOf, splice, fieldTy, alen, apick, amax, amin, aload, headV, aparts, abuildSlice, elParts, abytesStr, astore, amake, aappend, anew, arith, aresults, aresList, ares, spec0, spec1, spec2, spec3, spec4, eqCells, eqCell, sOp, sSpare, sConst, sNless, selfE, g1, g2, ho, hs, hv, c1, c24, hnl]
      have hself : selfE e false = 0 := by simp [selfE, g1, g2, ho, hs, c1, c24, hnl]
      simp [aev, cav, look, acallPure, abin, abinN, abinP, abinI, abinS, aun, aconv, afield, afieldAddr, aindexAddr, aindex, aslice, alow, ahigh, abuild, abuildGo, cellsOf, splice, fieldTy, alen, apick, amax, amin, aload, headV, aparts, abuildSlice, elParts, abytesStr, astore, amake, aappend, anew, arith, aresults, aresList, ares, spec0, spec1, spec2, spec3, spec4, eqCells, eqCell, sOp, sSpare, sConst, sNless, hself, g1, g2, ho, hs, hv, c1, c24, hnl]
      refine loop_rule (C := CVs m n) (sigCVs (visitPn n)) (mixCVs m n) (fun i : Nat => ⟨[(1, .bool false), (2, .ptr 0 1 9 0 0), (44, Enc.enc e.kids), (45, .int .i64 e.kids.length), (46, .int .i64 i)], [EB e]⟩) (fun i => i ≤ e.kids.length ∧ visitL (e.kids.drop i) true = visitL e.kids true) (fun i => e.kids.length - i) (by kernel_rfl) ⟨0, by simp, weak_slots (by simp)⟩ (fun i ⟨hi, hs⟩ => ?_)
      by_cases hlt : i < e.kids.length
      · have i1 : I64 ((i : Int) + 1) := by unfold I64; omega
        have w1 := hw.kid _ (ix_mem hlt)
        have w2 : SizeOf.sizeOf (ix e.kids i) ≤ n := by have := exp_mem (ix_mem hlt); omega
        rw [visitL_drop hlt] at hs
        by_cases h0 : visitE (ix e.kids i) true = 0
        · rw [if_neg (by simp [h0])] at hs
          simp [aev, cav, look, acallPure, abin, abinN, abinP, abinI, abinS, aun, aconv, afield, afieldAddr, aindexAddr, aindex, aslice, alow, ahigh, abuild, abuildGo, cellsOf, splice, fieldTy, alen, apick, amax, amin, aload, headV, aparts, abuildSlice, elParts, abytesStr, astore, amake, aappend, anew, arith, aresults, aresList, ares, spec0, spec1, spec2, spec3, spec4, eqCells, eqCell, EB, hlt, rowAt_enc hlt, sVis, w1, w2, hself, h0, i1, c24]
          exact ⟨i + 1, ⟨by omega, hs⟩, by omega, weak_keep 1 (by simp) (by simp) (by simp [AV.clean, AV.clean1]) (by simp) (by simp)⟩
        · rw [if_pos h0] at hs
          simp [aev, cav, look, acallPure, abin, abinN, abinP, abinI, abinS, aun, aconv, afield, afieldAddr, aindexAddr, aindex, aslice, alow, ahigh, abuild, abuildGo, cellsOf, splice, fieldTy, alen, apick, amax, amin, aload, headV, aparts, abuildSlice, elParts, abytesStr, astore, amake, aappend, anew, arith, aresults, aresList, ares, spec0, spec1, spec2, spec3, spec4, eqCells, eqCell, EB, hlt, rowAt_enc hlt, sVis, w1, w2, hself, h0, i1, ← hs, c24]
      · rw [List.drop_eq_nil_of_le (by omega), visitL] at hs
        simp [aev, cav, look, acallPure, abin, abinN, abinP, abinI, abinS, aun, aconv, afield, afieldAddr, aindexAddr, aindex, aslice, alow, ahigh, abuild, abuildGo, cellsOf, splice, fieldTy, alen, apick, amax, amin, aload, headV, aparts, abuildSlice, elParts, abytesStr, astore, amake, aappend, anew, arith, aresults, aresList, ares, spec0, spec1, spec2, spec3, spec4, eqCells, eqCell, EB, hlt, ← hs, hself, c24]
    have hself : namelessB e = false → (e.op = 1 → constB e.v = true) → selfE e w = 0 := by
      intro hnl hcc
      unfold selfE
      rw [if_neg (by rw [g1, g2, ho, hs]; simp), if_neg (by intro h; rw [hcc h.1] at h; simp at h), if_neg (by rw [hnl]; simp), if_neg (by rw [c24]; simp)]
    rcases em2 (e.op = 1) with c1 | c1
    · cases hcb : constB e.v
      · simp [aev, cav, look, acallPure, abin, abinN, abinP, abinI, abinS, aun, aconv, afield, afieldAddr, aindexAddr, aindex, aslice, alow, ahigh, abuild, abuildGo, cellsOf, splice, fieldTy, alen, apick, amax, amin, aload, headV, aparts, abuildSlice, elParts, abytesStr, astore, amake, aappend, anew, arith, aresults, aresList, ares, spec0, spec1, spec2, spec3, spec4, eqCells, eqCell, sOp, sSpare, sConst, selfE, g1, g2, ho, hs, hv, c1, hcb]
      cases hnl : namelessB e
      case true => simp [aev, cav, look, acallPure, abin, abinN, abinP, abinI, abinS, aun, aconv, afield, afieldAddr, aindexAddr, aindex, aslice, alow, ahigh, abuild, abuildGo, cellsOf, splice, fieldTy, alen, apick, amax, amin, aload, headV, aparts, abuildSlice, elParts, abytesStr, astore, amake, aappend, anew, arith, aresults, aresList, ares, spec0, spec1, spec2, spec3, spec4, eqCells, eqCell, sOp, sSpare, sConst, sNless, selfE, g1, g2, ho, hs, hv, c1, hcb, hnl]
      have hse := hself hnl (fun _ => hcb)
      simp [aev, cav, look, acallPure, abin, abinN, abinP, abinI, abinS, aun, aconv, afield, afieldAddr, aindexAddr, aindex, aslice, alow, ahigh, abuild, abuildGo, cellsOf, splice, fieldTy, alen, apick, amax, amin, aload, headV, aparts, abuildSlice, elParts, abytesStr, astore, amake, aappend, anew, arith, aresults, aresList, ares, spec0, spec1, spec2, spec3, spec4, eqCells, eqCell, sOp, sSpare, sConst, sNless, hse, g1, g2, ho, hs, hv, c1, c24, hcb, hnl]
      cases w
      case false =>
        refine loop_rule (C := CVs m n) (sigCVs (visitPn n)) (mixCVs m n) (fun i : Nat => ⟨[(1, .bool false), (2, .ptr 0 1 9 0 0), (44, Enc.enc e.kids), (45, .int .i64 e.kids.length), (46, .int .i64 i)], [EB e]⟩) (fun i => i ≤ e.kids.length ∧ visitL (e.kids.drop i) false = visitL e.kids false) (fun i => e.kids.length - i) (by kernel_rfl) ⟨0, by simp, weak_slots (by simp)⟩ (fun i ⟨hi, hs⟩ => ?_)
        by_cases hlt : i < e.kids.length
        · have i1 : I64 ((i : Int) + 1) := by unfold I64; omega
          have w1 := hw.kid _ (ix_mem hlt)
          have w2 : SizeOf.sizeOf (ix e.kids i) ≤ n := by have := exp_mem (ix_mem hlt); omega
          rw [visitL_drop hlt] at hs
          by_cases h0 : visitE (ix e.kids i) false = 0
          · rw [if_neg (by simp [h0])] at hs
            simp [aev, cav, look, acallPure, abin, abinN, abinP, abinI, abinS, aun, aconv, afield, afieldAddr, aindexAddr, aindex, aslice, alow, ahigh, abuild, abuildGo, cellsOf, splice, fieldTy, alen, apick, amax, amin, aload, headV, aparts, abuildSlice, elParts, abytesStr, astore, amake, aappend, anew, arith, aresults, aresList, ares, spec0, spec1, spec2, spec3, spec4, eqCells, eqCell, EB, hlt, rowAt_enc hlt, sVis, w1, w2, hse, h0, i1, c24]
            exact ⟨i + 1, ⟨by omega, hs⟩, by omega, weak_keep 1 (by simp) (by simp) (by simp [AV.clean, AV.clean1]) (by simp) (by simp)⟩
          · rw [if_pos h0] at hs
            simp [aev, cav, look, acallPure, abin, abinN, abinP, abinI, abinS, aun, aconv, afield, afieldAddr, aindexAddr, aindex, aslice, alow, ahigh, abuild, abuildGo, cellsOf, splice, fieldTy, alen, apick, amax, amin, aload, headV, aparts, abuildSlice, elParts, abytesStr, astore, amake, aappend, anew, arith, aresults, aresList, ares, spec0, spec1, spec2, spec3, spec4, eqCells, eqCell, EB, hlt, rowAt_enc hlt, sVis, w1, w2, hse, h0, i1, ← hs, c24]
        · rw [List.drop_eq_nil_of_le (by omega), visitL] at hs
          simp [aev, cav, look, acallPure, abin, abinN, abinP, abinI, abinS, aun, aconv, afield, afieldAddr, aindexAddr, aindex, aslice, alow, ahigh, abuild, abuildGo, cellsOf, splice, fieldTy, alen, apick, amax, amin, aload, headV, aparts, abuildSlice, elParts, abytesStr, astore, amake, aappend, anew, arith, aresults, aresList, ares, spec0, spec1, spec2, spec3, spec4, eqCells, eqCell, EB, hlt, ← hs, hse, c24]
      case true =>
        refine loop_rule (C := CVs m n) (sigCVs (visitPn n)) (mixCVs m n) (fun i : Nat => ⟨[(1, .bool true), (2, .ptr 0 1 9 0 0), (44, Enc.enc e.kids), (45, .int .i64 e.kids.length), (46, .int .i64 i)], [EB e]⟩) (fun i => i ≤ e.kids.length ∧ visitL (e.kids.drop i) true = visitL e.kids true) (fun i => e.kids.length - i) (by kernel_rfl) ⟨0, by simp, weak_slots (by simp)⟩ (fun i ⟨hi, hs⟩ => ?_)
        by_cases hlt : i < e.kids.length
        · have i1 : I64 ((i : Int) + 1) := by unfold I64; omega
          have w1 := hw.kid _ (ix_mem hlt)
          have w2 : SizeOf.sizeOf (ix e.kids i) ≤ n := by have := exp_mem (ix_mem hlt); omega
          rw [visitL_drop hlt] at hs
          by_cases h0 : visitE (ix e.kids i) true = 0
          · rw [if_neg (by simp [h0])] at hs
            simp [aev, cav, look, acallPure, abin, abinN, abinP, abinI, abinS, aun, aconv, afield, afieldAddr, aindexAddr, aindex, aslice, alow, ahigh, abuild, abuildGo, cellsOf, splice, fieldTy, alen, apick, amax, amin, aload, headV, aparts, abuildSlice, elParts, abytesStr, astore, amake, aappend, anew, arith, aresults, aresList, ares, spec0, spec1, spec2, spec3, spec4, eqCells, eqCell, EB, hlt, rowAt_enc hlt, sVis, w1, w2, hse, h0, i1, c24]
            exact ⟨i + 1, ⟨by omega, hs⟩, by omega, weak_keep 1 (by simp) (by simp) (by simp [AV.clean, AV.clean1]) (by simp) (by simp)⟩
          · rw [if_pos h0] at hs
            simp [aev, cav, look, acallPure, abin, abinN, abinP, abinI, abinS, aun, aconv, afield, afieldAddr, aindexAddr, aindex, aslice, alow, ahigh, abuild, abuildGo, cellsOf, splice, fieldTy, alen, apick, amax, amin, aload, headV, aparts, abuildSlice, elParts, abytesStr, astore, amake, aappend, anew, arith, aresults, aresList, ares, spec0, spec1, spec2, spec3, spec4, eqCells, eqCell, EB, hlt, rowAt_enc hlt, sVis, w1, w2, hse, h0, i1, ← hs, c24]
        · rw [List.drop_eq_nil_of_le (by omega), visitL] at hs
          simp [aev, cav, look, acallPure, abin, abinN, abinP, abinI, abinS, aun, aconv, afield, afieldAddr, aindexAddr, aindex, aslice, alow, ahigh, abuild, abuildGo, cellsOf, splice, fieldTy, alen, apick, amax, amin, aload, headV, aparts, abuildSlice, elParts, abytesStr, astore, amake, aappend, anew, arith, aresults, aresList, ares, spec0, spec1, spec2, spec3, spec4, eqCells, eqCell, EB, hlt, ← hs, hse, c24]
    · cases hnl : namelessB e
      case true => simp [aev, cav, look, acallPure, abin, abinN, abinP, abinI, abinS, aun, aconv, afield, afieldAddr, aindexAddr, aindex, aslice, alow, ahigh, abuild, abuildGo, cellsOf, splice, fieldTy, alen, apick, amax, amin, aload, headV, aparts, abuildSlice, elParts, abytesStr, astore, amake, aappend, anew, arith, aresults, aresList, ares, spec0, spec1, spec2, spec3, spec4, eqCells, eqCell, sOp, sSpare, sConst, sNless, selfE, g1, g2, ho, hs, hv, c1, hnl]
      have hse := hself hnl (fun h => by rw [c1] at h; exact h.elim)
      simp [aev, cav, look, acallPure, abin, abinN, abinP, abinI, abinS, aun, aconv, afield, afieldAddr, aindexAddr, aindex, aslice, alow, ahigh, abuild, abuildGo, cellsOf, splice, fieldTy, alen, apick, amax, amin, aload, headV, aparts, abuildSlice, elParts, abytesStr, astore, amake, aappend, anew, arith, aresults, aresList, ares, spec0, spec1, spec2, spec3, spec4, eqCells, eqCell, sOp, sSpare, sConst, sNless, hse, g1, g2, ho, hs, hv, c1, c24, hnl]
      cases w
      case false =>
        refine loop_rule (C := CVs m n) (sigCVs (visitPn n)) (mixCVs m n) (fun i : Nat => ⟨[(1, .bool false), (2, .ptr 0 1 9 0 0), (44, Enc.enc e.kids), (45, .int .i64 e.kids.length), (46, .int .i64 i)], [EB e]⟩) (fun i => i ≤ e.kids.length ∧ visitL (e.kids.drop i) false = visitL e.kids false) (fun i => e.kids.length - i) (by kernel_rfl) ⟨0, by simp, weak_slots (by simp)⟩ (fun i ⟨hi, hs⟩ => ?_)
        by_cases hlt : i < e.kids.length
        · have i1 : I64 ((i : Int) + 1) := by unfold I64; omega
          have w1 := hw.kid _ (ix_mem hlt)
          have w2 : SizeOf.sizeOf (ix e.kids i) ≤ n := by have := exp_mem (ix_mem hlt); omega
          rw [visitL_drop hlt] at hs
          by_cases h0 : visitE (ix e.kids i) false = 0
          · rw [if_neg (by simp [h0])] at hs
            simp [aev, cav, look, acallPure, abin, abinN, abinP, abinI, abinS, aun, aconv, afield, afieldAddr, aindexAddr, aindex, aslice, alow, ahigh, abuild, abuildGo, cellsOf, splice, fieldTy, alen, apick, amax, amin, aload, headV, aparts, abuildSlice, elParts, abytesStr, astore, amake, aappend, anew, arith, aresults, aresList, ares, spec0, spec1, spec2, spec3, spec4, eqCells, eqCell, EB, hlt, rowAt_enc hlt, sVis, w1, w2, hse, h0, i1, c24]
            exact ⟨i + 1, ⟨by omega, hs⟩, by omega, weak_keep 1 (by simp) (by simp) (by simp [AV.clean, AV.clean1]) (by simp) (by simp)⟩
          · rw [if_pos h0] at hs
            simp [aev, cav, look, acallPure, abin, abinN, abinP, abinI, abinS, aun, aconv, afield, afieldAddr, aindexAddr, aindex, aslice, alow, ahigh, abuild, abuildGo, cellsOf, splice, fieldTy, alen, apick, amax, amin, aload, headV, aparts, abuildSlice, elParts, abytesStr, astore, amake, aappend, anew, arith, aresults, aresList, ares, spec0, spec1, spec2, spec3, spec4, eqCells, eqCell, EB, hlt, rowAt_enc hlt, sVis, w1, w2, hse, h0, i1, ← hs, c24]
        · rw [List.drop_eq_nil_of_le (by omega), visitL] at hs
          simp [aev, cav, look, acallPure, abin, abinN, abinP, abinI, abinS, aun, aconv, afield, afieldAddr, aindexAddr, aindex, aslice, alow, ahigh, abuild, abuildGo, cellsOf, splice, fieldTy, alen, apick, amax, amin, aload, headV, aparts, abuildSlice, elParts, abytesStr, astore, amake, aappend, anew, arith, aresults, aresList, ares, spec0, spec1, spec2, spec3, spec4, eqCells, eqCell, EB, hlt, ← hs, hse, c24]
      case true =>
        refine loop_rule (C := CVs m n) (sigCVs (visitPn n)) (mixCVs m n) (fun i : Nat => ⟨[(1, .bool true), (2, .ptr 0 1 9 0 0), (44, Enc.enc e.kids), (45, .int .i64 e.kids.length), (46, .int .i64 i)], [EB e]⟩) (fun i => i ≤ e.kids.length ∧ visitL (e.kids.drop i) true = visitL e.kids true) (fun i => e.kids.length - i) (by kernel_rfl) ⟨0, by simp, weak_slots (by simp)⟩ (fun i ⟨hi, hs⟩ => ?_)
        by_cases hlt : i < e.kids.length
        · have i1 : I64 ((i : Int) + 1) := by unfold I64; omega
          have w1 := hw.kid _ (ix_mem hlt)
          have w2 : SizeOf.sizeOf (ix e.kids i) ≤ n := by have := exp_mem (ix_mem hlt); omega
          rw [visitL_drop hlt] at hs
          by_cases h0 : visitE (ix e.kids i) true = 0
          · rw [if_neg (by simp [h0])] at hs
            simp [aev, cav, look, acallPure, abin, abinN, abinP, abinI, abinS, aun, aconv, afield, afieldAddr, aindexAddr, aindex, aslice, alow, ahigh, abuild, abuildGo, cellsOf, splice, fieldTy, alen, apick, amax, amin, aload, headV, aparts, abuildSlice, elParts, abytesStr, astore, amake, aappend, anew, arith, aresults, aresList, ares, spec0, spec1, spec2, spec3, spec4, eqCells, eqCell, EB, hlt, rowAt_enc hlt, sVis, w1, w2, hse, h0, i1, c24]
            exact ⟨i + 1, ⟨by omega, hs⟩, by omega, weak_keep 1 (by simp) (by simp) (by simp [AV.clean, AV.clean1]) (by simp) (by simp)⟩
          · rw [if_pos h0] at hs
            simp [aev, cav, look, acallPure, abin, abinN, abinP, abinI, abinS, aun, aconv, afield, afieldAddr, aindexAddr, aindex, aslice, alow, ahigh, abuild, abuildGo, cellsOf, splice, fieldTy, alen, apick, amax, amin, aload, headV, aparts, abuildSlice, elParts, abytesStr, astore, amake, aappend, anew, arith, aresults, aresList, ares, spec0, spec1, spec2, spec3, spec4, eqCells, eqCell, EB, hlt, rowAt_enc hlt, sVis, w1, w2, hse, h0, i1, ← hs, c24]
        · rw [List.drop_eq_nil_of_le (by omega), visitL] at hs
          simp [aev, cav, look, acallPure, abin, abinN, abinP, abinI, abinS, aun, aconv, afield, afieldAddr, aindexAddr, aindex, aslice, alow, ahigh, abuild, abuildGo, cellsOf, splice, fieldTy, alen, apick, amax, amin, aload, headV, aparts, abuildSlice, elParts, abytesStr, astore, amake, aappend, anew, arith, aresults, aresList, ares, spec0, spec1, spec2, spec3, spec4, eqCells, eqCell, EB, hlt, ← hs, hse, c24]
theorem visitP : PureOK Tryz.prog (G m) 49 sVisA := pure2_all (fun e _ => SizeOf.sizeOf e) fun n => visitPn n

def sDpA : List AV → Option (Prop × AV) := spec1 (fun (e : Expr) => WfE e) (fun e => .int .i64 (depthE e))
def sSzA : List AV → Option (Prop × AV) := spec1 (fun (e : Expr) => WfE e) (fun e => .int .i64 (sizeE e))
def sHasA : List AV → Option (Prop × AV) := spec1 (fun (e : Expr) => WfE e) (fun e => .bool (aggE e))
def sChk : List AV → Option (Prop × AV) := spec1 (fun (e : Expr) => WfE e) (fun e => .int .i64 (checkE e))
noncomputable def CCk (m : Int) : Ctx := mkC Tryz.prog (G m) [(48, .pure sDpA), (23, .pure sSzA), (49, .pure sVisA)]
@[simp] theorem CCk_P (m : Int) : (CCk m).P = Tryz.prog := rfl
@[simp] theorem CCk_1 (m : Int) : (CCk m).S 48 = .pure sDpA := rfl
@[simp] theorem CCk_2 (m : Int) : (CCk m).S 23 = .pure sSzA := rfl
@[simp] theorem CCk_3 (m : Int) : (CCk m).S 49 = .pure sVisA := rfl
theorem mixCCk (m : Int) : (CCk m).P.follows .mixedOrders = true := mixed
theorem sigCCk (m : Int) : SigOK (CCk m) := sigOK_cons (entryPure depthP_ Tryz.func48 rfl (by decide)) (sigOK_cons (entryPure sizeP_ Tryz.func23 rfl (by decide)) (sigOK_cons (entryPure visitP Tryz.func49 rfl (by decide)) (sigOK_nil _ _)))
theorem checkP : PureOK Tryz.prog (G m) 20 sChk := by
  refine pure1 (C := CCk m) (sigCCk m) (mixCCk m) Tryz.func20 rfl rfl rfl (by kernel_rfl) (by decide) (fun e hw => ?_)
  by_cases h1 : 24 < depthE e
  · simp [aev, cav, look, acallPure, abin, abinN, abinP, abinI, abinS, aun, aconv, afield, afieldAddr, aindexAddr, aindex, aslice, alow, ahigh, abuild, abuildGo, cellsOf, splice, fieldTy, alen, apick, amax, amin, aload, headV, aparts, abuildSlice, elParts, abytesStr, astore, amake, aappend, anew, arith, aresults, aresList, ares, spec0, spec1, spec2, spec3, spec4, eqCells, eqCell, sDpA, hw, checkE, h1]
  by_cases h2 : 300 < sizeE e
  · simp [aev, cav, look, acallPure, abin, abinN, abinP, abinI, abinS, aun, aconv, afield, afieldAddr, aindexAddr, aindex, aslice, alow, ahigh, abuild, abuildGo, cellsOf, splice, fieldTy, alen, apick, amax, amin, aload, headV, aparts, abuildSlice, elParts, abytesStr, astore, amake, aappend, anew, arith, aresults, aresList, ares, spec0, spec1, spec2, spec3, spec4, eqCells, eqCell, sDpA, sSzA, hw, checkE, h1, h2]
  · simp [aev, cav, look, acallPure, abin, abinN, abinP, abinI, abinS, aun, aconv, afield, afieldAddr, aindexAddr, aindex, aslice, alow, ahigh, abuild, abuildGo, cellsOf, splice, fieldTy, alen, apick, amax, amin, aload, headV, aparts, abuildSlice, elParts, abytesStr, astore, amake, aappend, anew, arith, aresults, aresList, ares, spec0, spec1, spec2, spec3, spec4, eqCells, eqCell, sDpA, sSzA, sVisA, hw, checkE, h1, h2]

noncomputable def CRv (m : Int) (n : Nat) : Ctx := mkC Tryz.prog (G m) [(82, .pure sSelf), (63, .pure (sVis n))]
@[simp] theorem CRv_P (m : Int) (n : Nat) : (CRv m n).P = Tryz.prog := rfl
@[simp] theorem CRv_1 (m : Int) (n : Nat) : (CRv m n).S 82 = .pure sSelf := rfl
@[simp] theorem CRv_2 (m : Int) (n : Nat) : (CRv m n).S 63 = .pure (sVis n) := rfl
theorem mixCRv (m : Int) (n : Nat) : (CRv m n).P.follows .mixedOrders = true := mixed
theorem sigCRv {n : Nat} (h : PureOK Tryz.prog (G m) 63 (sVis n)) : SigOK (CRv m n) := sigOK_cons (entryPure selfR Tryz.func82 rfl (by decide)) (sigOK_cons (entryPure h Tryz.func63 rfl (by decide)) (sigOK_nil _ _))
set_option maxHeartbeats 8000000 in
theorem visitRn : ∀ n : Nat, PureOK Tryz.prog (G m) 63 (sVis n)
  | 0 => pure2_none fun e w h => by have := exp_pos e; omega
  | n + 1 => by
    refine pure2 (C := CRv m n) (sigCRv (visitRn n)) (mixCRv m n) Tryz.func63 rfl rfl rfl (by kernel_rfl) (by decide) (fun e w ⟨hw, hn⟩ => ?_)
    have hl := hw.len'
    have hv := hw.val
    rw [visitE_eq]
    by_cases hse : selfE e w = 0
    case neg => simp [aev, cav, look, acallPure, abin, abinN, abinP, abinI, abinS, aun, aconv, afield, afieldAddr, aindexAddr, aindex, aslice, alow, ahigh, abuild, abuildGo, cellsOf, splice, fieldTy, alen, apick, amax, amin, aload, headV, aparts, abuildSlice, elParts, abytesStr, astore, amake, aappend, anew, arith, aresults, aresList, ares, spec0, spec1, spec2, spec3, spec4, eqCells, eqCell, sSelf, hv, hse]
    simp [aev, cav, look, acallPure, abin, abinN, abinP, abinI, abinS, aun, aconv, afield, afieldAddr, aindexAddr, aindex, aslice, alow, ahigh, abuild, abuildGo, cellsOf, splice, fieldTy, alen, apick, amax, amin, aload, headV, aparts, abuildSlice, elParts, abytesStr, astore, amake, aappend, anew, arith, aresults, aresList, ares, spec0, spec1, spec2, spec3, spec4, eqCells, eqCell, sSelf, hv, hse]
    rcases em2 (e.op = 24) with c24 | c24 <;> simp only [c24, decide_true, decide_false, Bool.or_true, Bool.or_false] <;> cases w
    · refine loop_rule (C := CRv m n) (sigCRv (visitRn n)) (mixCRv m n) (fun i : Nat => ⟨[(1, .bool false), (2, .ptr 0 1 9 0 0), (6, .int .i64 i)], [EB e]⟩) (fun i => i ≤ e.kids.length ∧ visitL (e.kids.drop i) true = visitL e.kids true) (fun i => e.kids.length - i) (by kernel_rfl) ⟨0, by simp, weak_slots (by simp)⟩ (fun i ⟨hi, hs⟩ => ?_)
      by_cases hlt : i < e.kids.length
      · have i1 : I64 ((i : Int) + 1) := by unfold I64; omega
        have w1 := hw.kid _ (ix_mem hlt)
        have w2 : SizeOf.sizeOf (ix e.kids i) ≤ n := by have := exp_mem (ix_mem hlt); omega
        rw [visitL_drop hlt] at hs
        by_cases h0 : visitE (ix e.kids i) true = 0
        · rw [if_neg (by simp [h0])] at hs
          simp [aev, cav, look, acallPure, abin, abinN, abinP, abinI, abinS, aun, aconv, afield, afieldAddr, aindexAddr, aindex, aslice, alow, ahigh, abuild, abuildGo, cellsOf, splice, fieldTy, alen, apick, amax, amin, aload, headV, aparts, abuildSlice, elParts, abytesStr, astore, amake, aappend, anew, arith, aresults, aresList, ares, spec0, spec1, spec2, spec3, spec4, eqCells, eqCell, EB, hlt, rowAt_enc hlt, sVis, w1, w2, hse, h0, i1, c24]
          exact ⟨i + 1, ⟨by omega, hs⟩, by omega, weak_slots (by simp)⟩
        · rw [if_pos h0] at hs
          simp [aev, cav, look, acallPure, abin, abinN, abinP, abinI, abinS, aun, aconv, afield, afieldAddr, aindexAddr, aindex, aslice, alow, ahigh, abuild, abuildGo, cellsOf, splice, fieldTy, alen, apick, amax, amin, aload, headV, aparts, abuildSlice, elParts, abytesStr, astore, amake, aappend, anew, arith, aresults, aresList, ares, spec0, spec1, spec2, spec3, spec4, eqCells, eqCell, EB, hlt, rowAt_enc hlt, sVis, w1, w2, hse, h0, i1, ← hs, c24]
      · rw [List.drop_eq_nil_of_le (by omega), visitL] at hs
        simp [aev, cav, look, acallPure, abin, abinN, abinP, abinI, abinS, aun, aconv, afield, afieldAddr, aindexAddr, aindex, aslice, alow, ahigh, abuild, abuildGo, cellsOf, splice, fieldTy, alen, apick, amax, amin, aload, headV, aparts, abuildSlice, elParts, abytesStr, astore, amake, aappend, anew, arith, aresults, aresList, ares, spec0, spec1, spec2, spec3, spec4, eqCells, eqCell, EB, hlt, ← hs, hse, c24]
    · refine loop_rule (C := CRv m n) (sigCRv (visitRn n)) (mixCRv m n) (fun i : Nat => ⟨[(1, .bool true), (2, .ptr 0 1 9 0 0), (6, .int .i64 i)], [EB e]⟩) (fun i => i ≤ e.kids.length ∧ visitL (e.kids.drop i) true = visitL e.kids true) (fun i => e.kids.length - i) (by kernel_rfl) ⟨0, by simp, weak_slots (by simp)⟩ (fun i ⟨hi, hs⟩ => ?_)
      by_cases hlt : i < e.kids.length
      · have i1 : I64 ((i : Int) + 1) := by unfold I64; omega
        have w1 := hw.kid _ (ix_mem hlt)
        have w2 : SizeOf.sizeOf (ix e.kids i) ≤ n := by have := exp_mem (ix_mem hlt); omega
        rw [visitL_drop hlt] at hs
        by_cases h0 : visitE (ix e.kids i) true = 0
        · rw [if_neg (by simp [h0])] at hs
          simp [aev, cav, look, acallPure, abin, abinN, abinP, abinI, abinS, aun, aconv, afield, afieldAddr, aindexAddr, aindex, aslice, alow, ahigh, abuild, abuildGo, cellsOf, splice, fieldTy, alen, apick, amax, amin, aload, headV, aparts, abuildSlice, elParts, abytesStr, astore, amake, aappend, anew, arith, aresults, aresList, ares, spec0, spec1, spec2, spec3, spec4, eqCells, eqCell, EB, hlt, rowAt_enc hlt, sVis, w1, w2, hse, h0, i1, c24]
          exact ⟨i + 1, ⟨by omega, hs⟩, by omega, weak_slots (by simp)⟩
        · rw [if_pos h0] at hs
          simp [aev, cav, look, acallPure, abin, abinN, abinP, abinI, abinS, aun, aconv, afield, afieldAddr, aindexAddr, aindex, aslice, alow, ahigh, abuild, abuildGo, cellsOf, splice, fieldTy, alen, apick, amax, amin, aload, headV, aparts, abuildSlice, elParts, abytesStr, astore, amake, aappend, anew, arith, aresults, aresList, ares, spec0, spec1, spec2, spec3, spec4, eqCells, eqCell, EB, hlt, rowAt_enc hlt, sVis, w1, w2, hse, h0, i1, ← hs, c24]
      · rw [List.drop_eq_nil_of_le (by omega), visitL] at hs
        simp [aev, cav, look, acallPure, abin, abinN, abinP, abinI, abinS, aun, aconv, afield, afieldAddr, aindexAddr, aindex, aslice, alow, ahigh, abuild, abuildGo, cellsOf, splice, fieldTy, alen, apick, amax, amin, aload, headV, aparts, abuildSlice, elParts, abytesStr, astore, amake, aappend, anew, arith, aresults, aresList, ares, spec0, spec1, spec2, spec3, spec4, eqCells, eqCell, EB, hlt, ← hs, hse, c24]
    · refine loop_rule (C := CRv m n) (sigCRv (visitRn n)) (mixCRv m n) (fun i : Nat => ⟨[(1, .bool false), (2, .ptr 0 1 9 0 0), (6, .int .i64 i)], [EB e]⟩) (fun i => i ≤ e.kids.length ∧ visitL (e.kids.drop i) false = visitL e.kids false) (fun i => e.kids.length - i) (by kernel_rfl) ⟨0, by simp, weak_slots (by simp)⟩ (fun i ⟨hi, hs⟩ => ?_)
      by_cases hlt : i < e.kids.length
      · have i1 : I64 ((i : Int) + 1) := by unfold I64; omega
        have w1 := hw.kid _ (ix_mem hlt)
        have w2 : SizeOf.sizeOf (ix e.kids i) ≤ n := by have := exp_mem (ix_mem hlt); omega
        rw [visitL_drop hlt] at hs
        by_cases h0 : visitE (ix e.kids i) false = 0
        · rw [if_neg (by simp [h0])] at hs
          simp [aev, cav, look, acallPure, abin, abinN, abinP, abinI, abinS, aun, aconv, afield, afieldAddr, aindexAddr, aindex, aslice, alow, ahigh, abuild, abuildGo, cellsOf, splice, fieldTy, alen, apick, amax, amin, aload, headV, aparts, abuildSlice, elParts, abytesStr, astore, amake, aappend, anew, arith, aresults, aresList, ares, spec0, spec1, spec2, spec3, spec4, eqCells, eqCell, EB, hlt, rowAt_enc hlt, sVis, w1, w2, hse, h0, i1, c24]
          exact ⟨i + 1, ⟨by omega, hs⟩, by omega, weak_slots (by simp)⟩
        · rw [if_pos h0] at hs
          simp [aev, cav, look, acallPure, abin, abinN, abinP, abinI, abinS, aun, aconv, afield, afieldAddr, aindexAddr, aindex, aslice, alow, ahigh, abuild, abuildGo, cellsOf, splice, fieldTy, alen, apick, amax, amin, aload, headV, aparts, abuildSlice, elParts, abytesStr, astore, amake, aappend, anew, arith, aresults, aresList, ares, spec0, spec1, spec2, spec3, spec4, eqCells, eqCell, EB, hlt, rowAt_enc hlt, sVis, w1, w2, hse, h0, i1, ← hs, c24]
      · rw [List.drop_eq_nil_of_le (by omega), visitL] at hs
        simp [aev, cav, look, acallPure, abin, abinN, abinP, abinI, abinS, aun, aconv, afield, afieldAddr, aindexAddr, aindex, aslice, alow, ahigh, abuild, abuildGo, cellsOf, splice, fieldTy, alen, apick, amax, amin, aload, headV, aparts, abuildSlice, elParts, abytesStr, astore, amake, aappend, anew, arith, aresults, aresList, ares, spec0, spec1, spec2, spec3, spec4, eqCells, eqCell, EB, hlt, ← hs, hse, c24]
    · refine loop_rule (C := CRv m n) (sigCRv (visitRn n)) (mixCRv m n) (fun i : Nat => ⟨[(1, .bool true), (2, .ptr 0 1 9 0 0), (6, .int .i64 i)], [EB e]⟩) (fun i => i ≤ e.kids.length ∧ visitL (e.kids.drop i) true = visitL e.kids true) (fun i => e.kids.length - i) (by kernel_rfl) ⟨0, by simp, weak_slots (by simp)⟩ (fun i ⟨hi, hs⟩ => ?_)
      by_cases hlt : i < e.kids.length
      · have i1 : I64 ((i : Int) + 1) := by unfold I64; omega
        have w1 := hw.kid _ (ix_mem hlt)
        have w2 : SizeOf.sizeOf (ix e.kids i) ≤ n := by have := exp_mem (ix_mem hlt); omega
        rw [visitL_drop hlt] at hs
        by_cases h0 : visitE (ix e.kids i) true = 0
        · rw [if_neg (by simp [h0])] at hs
          simp [aev, cav, look, acallPure, abin, abinN, abinP, abinI, abinS, aun, aconv, afield, afieldAddr, aindexAddr, aindex, aslice, alow, ahigh, abuild, abuildGo, cellsOf, splice, fieldTy, alen, apick, amax, amin, aload, headV, aparts, abuildSlice, elParts, abytesStr, astore, amake, aappend, anew, arith, aresults, aresList, ares, spec0, spec1, spec2, spec3, spec4, eqCells, eqCell, EB, hlt, rowAt_enc hlt, sVis, w1, w2, hse, h0, i1, c24]
          exact ⟨i + 1, ⟨by omega, hs⟩, by omega, weak_slots (by simp)⟩
        · rw [if_pos h0] at hs
          simp [aev, cav, look, acallPure, abin, abinN, abinP, abinI, abinS, aun, aconv, afield, afieldAddr, aindexAddr, aindex, aslice, alow, ahigh, abuild, abuildGo, cellsOf, splice, fieldTy, alen, apick, amax, amin, aload, headV, aparts, abuildSlice, elParts, abytesStr, astore, amake, aappend, anew, arith, aresults, aresList, ares, spec0, spec1, spec2, spec3, spec4, eqCells, eqCell, EB, hlt, rowAt_enc hlt, sVis, w1, w2, hse, h0, i1, ← hs, c24]
      · rw [List.drop_eq_nil_of_le (by omega), visitL] at hs
        simp [aev, cav, look, acallPure, abin, abinN, abinP, abinI, abinS, aun, aconv, afield, afieldAddr, aindexAddr, aindex, aslice, alow, ahigh, abuild, abuildGo, cellsOf, splice, fieldTy, alen, apick, amax, amin, aload, headV, aparts, abuildSlice, elParts, abytesStr, astore, amake, aappend, anew, arith, aresults, aresList, ares, spec0, spec1, spec2, spec3, spec4, eqCells, eqCell, EB, hlt, ← hs, hse, c24]
theorem visitR : PureOK Tryz.prog (G m) 63 sVisA := pure2_all (fun e _ => SizeOf.sizeOf e) fun n => visitRn n
noncomputable def CCr (m : Int) : Ctx := mkC Tryz.prog (G m) [(62, .pure sDpA), (17, .pure sSzA), (63, .pure sVisA)]
@[simp] theorem CCr_P (m : Int) : (CCr m).P = Tryz.prog := rfl
@[simp] theorem CCr_1 (m : Int) : (CCr m).S 62 = .pure sDpA := rfl
@[simp] theorem CCr_2 (m : Int) : (CCr m).S 17 = .pure sSzA := rfl
@[simp] theorem CCr_3 (m : Int) : (CCr m).S 63 = .pure sVisA := rfl
theorem mixCCr (m : Int) : (CCr m).P.follows .mixedOrders = true := mixed
theorem sigCCr (m : Int) : SigOK (CCr m) := sigOK_cons (entryPure depthR_ Tryz.func62 rfl (by decide)) (sigOK_cons (entryPure sizeR_ Tryz.func17 rfl (by decide)) (sigOK_cons (entryPure visitR Tryz.func63 rfl (by decide)) (sigOK_nil _ _)))
theorem checkR : PureOK Tryz.prog (G m) 36 sChk := by
  refine pure1 (C := CCr m) (sigCCr m) (mixCCr m) Tryz.func36 rfl rfl rfl (by kernel_rfl) (by decide) (fun e hw => ?_)
  by_cases h1 : 24 < depthE e
  · simp [aev, cav, look, acallPure, abin, abinN, abinP, abinI, abinS, aun, aconv, afield, afieldAddr, aindexAddr, aindex, aslice, alow, ahigh, abuild, abuildGo, cellsOf, splice, fieldTy, alen, apick, amax, amin, aload, headV, aparts, abuildSlice, elParts, abytesStr, astore, amake, aappend, anew, arith, aresults, aresList, ares, spec0, spec1, spec2, spec3, spec4, eqCells, eqCell, sDpA, hw, checkE, h1]
  by_cases h2 : 300 < sizeE e
  · simp [aev, cav, look, acallPure, abin, abinN, abinP, abinI, abinS, aun, aconv, afield, afieldAddr, aindexAddr, aindex, aslice, alow, ahigh, abuild, abuildGo, cellsOf, splice, fieldTy, alen, apick, amax, amin, aload, headV, aparts, abuildSlice, elParts, abytesStr, astore, amake, aappend, anew, arith, aresults, aresList, ares, spec0, spec1, spec2, spec3, spec4, eqCells, eqCell, sDpA, sSzA, hw, checkE, h1, h2]
  · simp [aev, cav, look, acallPure, abin, abinN, abinP, abinI, abinS, aun, aconv, afield, afieldAddr, aindexAddr, aindex, aslice, alow, ahigh, abuild, abuildGo, cellsOf, splice, fieldTy, alen, apick, amax, amin, aload, headV, aparts, abuildSlice, elParts, abytesStr, astore, amake, aappend, anew, arith, aresults, aresList, ares, spec0, spec1, spec2, spec3, spec4, eqCells, eqCell, sDpA, sSzA, sVisA, hw, checkE, h1, h2]
end
end Go.Proofs.YthcfnaglgoaikaaGreat
