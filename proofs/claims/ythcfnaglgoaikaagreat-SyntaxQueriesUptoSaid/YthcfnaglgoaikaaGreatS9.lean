/-
  layer 18: aggregates within an expression.
-/
import Derived.Test.YthcfnaglgoaikaaGreatS8
namespace Go.Proofs.YthcfnaglgoaikaaGreat
open Go.RowKit
set_option linter.unusedSimpArgs false
set_option linter.unusedVariables false
set_option maxRecDepth 100000

mutual
def aggE : Expr → Bool
  | .mk o _ _ _ k => decide (o = 24) || aggL k
def aggL : List Expr → Bool
  | [] => false
  | e :: r => aggE e || aggL r
end
theorem aggE_eq (e : Expr) : aggE e = (decide (e.op = 24) || aggL e.kids) := by cases e; rw [aggE]; rfl
/-- Where the first one is that holds an aggregate. -/
def aggAt : List Expr → Nat → Int
  | [], _ => -1
  | e :: r, i => if aggE e = true then i else aggAt r (i + 1)
theorem aggAt_iff : ∀ (l : List Expr) (i : Nat), decide (0 ≤ aggAt l i) = aggL l
  | [], i => by simp [aggAt, aggL]
  | e :: r, i => by
    rw [aggAt, aggL]
    cases h : aggE e
    · simpa using aggAt_iff r (i + 1)
    · simp
theorem aggAt_drop {l : List Expr} {i k : Nat} (h : i < l.length) : aggAt (l.drop i) k = if aggE (ix l i) = true then (k : Int) else aggAt (l.drop (i + 1)) (k + 1) := by
  rw [List.drop_eq_getElem_cons h, aggAt, ix_lt h]
def KidsOK (n : Nat) (l : List Expr) : Prop := l.length ≤ maxLen ∧ ∀ x ∈ l, WfE x ∧ SizeOf.sizeOf x ≤ n

section
variable {m : Int}
def sHa (n : Nat) : List AV → Option (Prop × AV) := spec1 (fun (e : Expr) => WfE e ∧ SizeOf.sizeOf e ≤ n) (fun e => .bool (aggE e))
noncomputable def CHa (m : Int) (f n : Nat) : Ctx := mkC Tryz.prog (G m) [(f, .pure (sHa n))]
@[simp] theorem CHa_P (m : Int) (f n : Nat) : (CHa m f n).P = Tryz.prog := rfl
@[simp] theorem CHa_1 (m : Int) (n : Nat) : (CHa m 22 n).S 22 = .pure (sHa n) := rfl
@[simp] theorem CHa_2 (m : Int) (n : Nat) : (CHa m 37 n).S 37 = .pure (sHa n) := rfl
theorem mixCHa (m : Int) (f n : Nat) : (CHa m f n).P.follows .mixedOrders = true := mixed
set_option maxHeartbeats 4000000 in
theorem idxE {n : Nat} (ih : PureOK Tryz.prog (G m) 22 (sHa n)) : PureOK Tryz.prog (G m) 77 (spec2 (fun (l : List Expr) (_ : FnV 22) => KidsOK n l) (fun l _ => .int .i64 (aggAt l 0))) := by
  have sig : SigOK (CHa m 22 n) := sigOK_cons (entryPure ih Tryz.func22 rfl (by decide)) (sigOK_nil _ _)
  refine pure2 (C := CHa m 22 n) sig (mixCHa m _ n) Tryz.func77 rfl rfl rfl (by kernel_rfl) (by decide) (fun l f ⟨hl, hx⟩ => ?_)
  have hl' : l.length ≤ 9223372036854775807 := by unfold maxLen at hl; omega
  simp [aev, cav, look, acallPure, abin, abinN, abinP, abinI, abinS, aun, aconv, afield, afieldAddr, aindexAddr, aindex, aslice, alow, ahigh, abuild, abuildGo, cellsOf, splice, fieldTy, alen, apick, amax, amin, aload, headV, aparts, abuildSlice, elParts, abytesStr, astore, amake, aappend, anew, arith, aresults, aresList, ares, spec0, spec1, spec2, spec3, spec4, eqCells, eqCell]
  refine loop_rule (C := CHa m 22 n) sig (mixCHa m _ n) (fun i : Nat => ⟨[(0, Enc.enc l), (1, .fn 22 []), (7, .int .i64 l.length), (8, .int .i64 i)], []⟩) (fun i => i ≤ l.length ∧ aggAt (l.drop i) i = aggAt l 0) (fun i => l.length - i) (by kernel_rfl) ⟨0, by simp, weak_slots (by simp)⟩ (fun i ⟨hi, hs⟩ => ?_)
  by_cases hlt : i < l.length
  · have i1 : I64 ((i : Int) + 1) := by unfold I64; omega
    obtain ⟨w1, w2⟩ := hx _ (ix_mem hlt)
    rw [aggAt_drop hlt] at hs
    cases h3 : aggE (ix l i)
    · rw [if_neg (by simp [h3])] at hs
      simp [aev, cav, look, acallPure, abin, abinN, abinP, abinI, abinS, aun, aconv, afield, afieldAddr, aindexAddr, aindex, aslice, alow, ahigh, abuild, abuildGo, cellsOf, splice, fieldTy, alen, apick, amax, amin, aload, headV, aparts, abuildSlice, elParts, abytesStr, astore, amake, aappend, anew, arith, aresults, aresList, ares, spec0, spec1, spec2, spec3, spec4, eqCells, eqCell, hlt, rowAt_enc hlt, sHa, w1, w2, h3, i1]
      exact ⟨i + 1, ⟨by omega, hs⟩, by omega, weak_slots (by simp)⟩
    · rw [if_pos h3] at hs
      simp [aev, cav, look, acallPure, abin, abinN, abinP, abinI, abinS, aun, aconv, afield, afieldAddr, aindexAddr, aindex, aslice, alow, ahigh, abuild, abuildGo, cellsOf, splice, fieldTy, alen, apick, amax, amin, aload, headV, aparts, abuildSlice, elParts, abytesStr, astore, amake, aappend, anew, arith, aresults, aresList, ares, spec0, spec1, spec2, spec3, spec4, eqCells, eqCell, hlt, rowAt_enc hlt, sHa, w1, w2, h3, ← hs]
  · rw [List.drop_eq_nil_of_le (by omega), aggAt] at hs
    simp [aev, cav, look, acallPure, abin, abinN, abinP, abinI, abinS, aun, aconv, afield, afieldAddr, aindexAddr, aindex, aslice, alow, ahigh, abuild, abuildGo, cellsOf, splice, fieldTy, alen, apick, amax, amin, aload, headV, aparts, abuildSlice, elParts, abytesStr, astore, amake, aappend, anew, arith, aresults, aresList, ares, spec0, spec1, spec2, spec3, spec4, eqCells, eqCell, hlt, ← hs]

def sIdxE (n : Nat) : List AV → Option (Prop × AV) := spec2 (fun (l : List Expr) (_ : FnV 22) => KidsOK n l) (fun l _ => .int .i64 (aggAt l 0))
def sConE (n : Nat) : List AV → Option (Prop × AV) := spec2 (fun (l : List Expr) (_ : FnV 22) => KidsOK n l) (fun l _ => .bool (aggL l))
noncomputable def CCo (m : Int) (n : Nat) : Ctx := mkC Tryz.prog (G m) [(77, .pure (sIdxE n)), (50, .pure (sConE n))]
@[simp] theorem CCo_P (m : Int) (n : Nat) : (CCo m n).P = Tryz.prog := rfl
@[simp] theorem CCo_1 (m : Int) (n : Nat) : (CCo m n).S 77 = .pure (sIdxE n) := rfl
@[simp] theorem CCo_2 (m : Int) (n : Nat) : (CCo m n).S 50 = .pure (sConE n) := rfl
theorem conE {n : Nat} (ih : PureOK Tryz.prog (G m) 22 (sHa n)) : PureOK Tryz.prog (G m) 50 (sConE n) := by
  have sig : SigOK (mkC Tryz.prog (G m) [(77, .pure (sIdxE n))]) := sigOK_cons (entryPure (idxE ih) Tryz.func77 rfl (by decide)) (sigOK_nil _ _)
  refine pure2 (C := mkC Tryz.prog (G m) [(77, .pure (sIdxE n))]) sig mixed Tryz.func50 rfl rfl rfl (by kernel_rfl) (by decide) (fun l f hx => ?_)
  simp [aev, cav, look, acallPure, abin, abinN, abinP, abinI, abinS, aun, aconv, afield, afieldAddr, aindexAddr, aindex, aslice, alow, ahigh, abuild, abuildGo, cellsOf, splice, fieldTy, alen, apick, amax, amin, aload, headV, aparts, abuildSlice, elParts, abytesStr, astore, amake, aappend, anew, arith, aresults, aresList, ares, spec0, spec1, spec2, spec3, spec4, eqCells, eqCell, sIdxE, hx, aggAt_iff]

set_option maxHeartbeats 4000000 in
theorem hasPn : ∀ n : Nat, PureOK Tryz.prog (G m) 22 (sHa n)
  | 0 => pure1_none fun e h => by have := exp_pos e; omega
  | n + 1 => by
    have sig : SigOK (mkC Tryz.prog (G m) [(50, .pure (sConE n))]) := sigOK_cons (entryPure (conE (hasPn n)) Tryz.func50 rfl (by decide)) (sigOK_nil _ _)
    refine pure1 (C := mkC Tryz.prog (G m) [(50, .pure (sConE n))]) sig mixed Tryz.func22 rfl rfl rfl (by kernel_rfl) (by decide) (fun e ⟨hw, hn⟩ => ?_)
    have hk : KidsOK n e.kids := ⟨hw.len, fun x hx => ⟨hw.kid x hx, by have := exp_mem hx; omega⟩⟩
    rw [aggE_eq]
    rcases em2 (e.op = 24) with h | h <;> simp [aev, cav, look, acallPure, abin, abinN, abinP, abinI, abinS, aun, aconv, afield, afieldAddr, aindexAddr, aindex, aslice, alow, ahigh, abuild, abuildGo, cellsOf, splice, fieldTy, alen, apick, amax, amin, aload, headV, aparts, abuildSlice, elParts, abytesStr, astore, amake, aappend, anew, arith, aresults, aresList, ares, spec0, spec1, spec2, spec3, spec4, eqCells, eqCell, sConE, h, hk]
theorem hasP : PureOK Tryz.prog (G m) 22 (spec1 (fun (e : Expr) => WfE e) (fun e => .bool (aggE e))) := pure1_all (fun e => SizeOf.sizeOf e) fun n => hasPn n

theorem aggL_drop {l : List Expr} {i : Nat} (h : i < l.length) : aggL (l.drop i) = (aggE (ix l i) || aggL (l.drop (i + 1))) := by
  rw [List.drop_eq_getElem_cons h, aggL, ix_lt h]
set_option maxHeartbeats 4000000 in
theorem hasRn : ∀ n : Nat, PureOK Tryz.prog (G m) 37 (sHa n)
  | 0 => pure1_none fun e h => by have := exp_pos e; omega
  | n + 1 => by
    have sig : SigOK (CHa m 37 n) := sigOK_cons (entryPure (hasRn n) Tryz.func37 rfl (by decide)) (sigOK_nil _ _)
    refine pure1 (C := CHa m 37 n) sig (mixCHa m _ n) Tryz.func37 rfl rfl rfl (by kernel_rfl) (by decide) (fun e ⟨hw, hn⟩ => ?_)
    have hl := hw.len'
    rw [aggE_eq]
    rcases em2 (e.op = 24) with h | h
    · simp [aev, cav, look, acallPure, abin, abinN, abinP, abinI, abinS, aun, aconv, afield, afieldAddr, aindexAddr, aindex, aslice, alow, ahigh, abuild, abuildGo, cellsOf, splice, fieldTy, alen, apick, amax, amin, aload, headV, aparts, abuildSlice, elParts, abytesStr, astore, amake, aappend, anew, arith, aresults, aresList, ares, spec0, spec1, spec2, spec3, spec4, eqCells, eqCell, h]
    simp [aev, cav, look, acallPure, abin, abinN, abinP, abinI, abinS, aun, aconv, afield, afieldAddr, aindexAddr, aindex, aslice, alow, ahigh, abuild, abuildGo, cellsOf, splice, fieldTy, alen, apick, amax, amin, aload, headV, aparts, abuildSlice, elParts, abytesStr, astore, amake, aappend, anew, arith, aresults, aresList, ares, spec0, spec1, spec2, spec3, spec4, eqCells, eqCell, h]
    refine loop_rule (C := CHa m 37 n) sig (mixCHa m _ n) (fun i : Nat => ⟨[(1, .ptr 0 1 9 0 0), (3, .int .i64 i)], [EB e]⟩) (fun i => i ≤ e.kids.length ∧ aggL (e.kids.drop i) = aggL e.kids) (fun i => e.kids.length - i) (by kernel_rfl) ⟨0, by simp, weak_slots (by simp)⟩ (fun i ⟨hi, hs⟩ => ?_)
    by_cases hlt : i < e.kids.length
    · have i1 : I64 ((i : Int) + 1) := by unfold I64; omega
      have w1 := hw.kid _ (ix_mem hlt)
      have w2 : SizeOf.sizeOf (ix e.kids i) ≤ n := by have := exp_mem (ix_mem hlt); omega
      rw [aggL_drop hlt] at hs
      cases h3 : aggE (ix e.kids i)
      · rw [h3, Bool.false_or] at hs
        simp [aev, cav, look, acallPure, abin, abinN, abinP, abinI, abinS, aun, aconv, afield, afieldAddr, aindexAddr, aindex, aslice, alow, ahigh, abuild, abuildGo, cellsOf, splice, fieldTy, alen, apick, amax, amin, aload, headV, aparts, abuildSlice, elParts, abytesStr, astore, amake, aappend, anew, arith, aresults, aresList, ares, spec0, spec1, spec2, spec3, spec4, eqCells, eqCell, EB, hlt, rowAt_enc hlt, sHa, w1, w2, h3, i1]
        exact ⟨i + 1, ⟨by omega, hs⟩, by omega, weak_slots (by simp)⟩
      · rw [h3, Bool.true_or] at hs
        simp [aev, cav, look, acallPure, abin, abinN, abinP, abinI, abinS, aun, aconv, afield, afieldAddr, aindexAddr, aindex, aslice, alow, ahigh, abuild, abuildGo, cellsOf, splice, fieldTy, alen, apick, amax, amin, aload, headV, aparts, abuildSlice, elParts, abytesStr, astore, amake, aappend, anew, arith, aresults, aresList, ares, spec0, spec1, spec2, spec3, spec4, eqCells, eqCell, EB, hlt, rowAt_enc hlt, sHa, w1, w2, h3, ← hs]
    · rw [List.drop_eq_nil_of_le (by omega), aggL] at hs
      simp [aev, cav, look, acallPure, abin, abinN, abinP, abinI, abinS, aun, aconv, afield, afieldAddr, aindexAddr, aindex, aslice, alow, ahigh, abuild, abuildGo, cellsOf, splice, fieldTy, alen, apick, amax, amin, aload, headV, aparts, abuildSlice, elParts, abytesStr, astore, amake, aappend, anew, arith, aresults, aresList, ares, spec0, spec1, spec2, spec3, spec4, eqCells, eqCell, EB, hlt, ← hs, h]
theorem hasR : PureOK Tryz.prog (G m) 37 (spec1 (fun (e : Expr) => WfE e) (fun e => .bool (aggE e))) := pure1_all (fun e => SizeOf.sizeOf e) fun n => hasRn n
end
end Go.Proofs.YthcfnaglgoaikaaGreat
