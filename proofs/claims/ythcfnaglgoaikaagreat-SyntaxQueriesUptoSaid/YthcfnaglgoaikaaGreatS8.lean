/-
  layer 18: sizes and depths, as the program and the reference add them up.
-/
import Derived.Test.YthcfnaglgoaikaaGreatS7
namespace Go.Proofs.YthcfnaglgoaikaaGreat
open Go.RowKit
set_option linter.unusedSimpArgs false
set_option linter.unusedVariables false
set_option maxRecDepth 100000

inductive WfE : Expr → Prop
  | mk (o : Int) (v : Val) (n : ByteArray) (d : Bool) (k : List Expr) (hv : WfV v) (hn : n.size ≤ maxLen) (hl : k.length ≤ maxLen) (h : ∀ x ∈ k, WfE x) : WfE (.mk o v n d k)
theorem WfE.val {e : Expr} (h : WfE e) : WfV e.v := by cases h; assumption
theorem WfE.str {e : Expr} (h : WfE e) : e.name.size ≤ maxLen := by cases h; assumption
theorem WfE.len {e : Expr} (h : WfE e) : e.kids.length ≤ maxLen := by cases h; assumption
theorem WfE.kid {e : Expr} (h : WfE e) : ∀ x ∈ e.kids, WfE x := by cases h; assumption
theorem exp_mem {e x : Expr} (h : x ∈ e.kids) : SizeOf.sizeOf x < SizeOf.sizeOf e := by
  cases e with
  | mk o v n d k =>
    have := List.sizeOf_lt_of_mem h
    simp at this ⊢
    omega
theorem exp_pos (e : Expr) : 0 < SizeOf.sizeOf e := by cases e; simp; omega
theorem WfE.len' {e : Expr} (h : WfE e) : e.kids.length ≤ 9223372036854775807 := by have := h.len; unfold maxLen at this; omega

mutual
def sizeE : Expr → Int
  | .mk _ _ _ _ k => sizeL 1 k
def sizeL : Int → List Expr → Int
  | n, [] => n
  | n, e :: r => sizeL (w64 (n + sizeE e)) r
end
theorem sizeE_eq (e : Expr) : sizeE e = sizeL 1 e.kids := by cases e; rw [sizeE]; rfl
theorem sizeL_drop {n : Int} {l : List Expr} {i : Nat} (h : i < l.length) : sizeL n (l.drop i) = sizeL (w64 (n + sizeE (ix l i))) (l.drop (i + 1)) := by
  rw [List.drop_eq_getElem_cons h, sizeL, ix_lt h]
mutual
def depthE : Expr → Int
  | .mk _ _ _ _ k => w64 (depthL 0 k + 1)
def depthL : Int → List Expr → Int
  | n, [] => n
  | n, e :: r => depthL (max n (depthE e)) r
end
theorem depthE_eq (e : Expr) : depthE e = w64 (depthL 0 e.kids + 1) := by cases e; rw [depthE]; rfl
theorem depthL_drop {n : Int} {l : List Expr} {i : Nat} (h : i < l.length) : depthL n (l.drop i) = depthL (max n (depthE (ix l i))) (l.drop (i + 1)) := by
  rw [List.drop_eq_getElem_cons h, depthL, ix_lt h]

def EB (e : Expr) : Blk := ⟨33, 9, [[.int .i64 e.op, .int .i64 e.v.kind, .int .i64 e.v.n, .int .i64 e.v.d, .str e.v.s, .slice 5 false (encRows e.v.l), .str e.name, .bool e.dist, .slice 9 false (encRows e.kids)]], true, true⟩
def sSz (n : Nat) : List AV → Option (Prop × AV) := spec1 (fun (e : Expr) => WfE e ∧ SizeOf.sizeOf e ≤ n) (fun e => .int .i64 (sizeE e))
section
variable {m : Int}
noncomputable def CSz (m : Int) (f n : Nat) : Ctx := mkC Tryz.prog (G m) [(f, .pure (sSz n))]
@[simp] theorem CSz_P (m : Int) (f n : Nat) : (CSz m f n).P = Tryz.prog := rfl
@[simp] theorem CSz_1 (m : Int) (n : Nat) : (CSz m 17 n).S 17 = .pure (sSz n) := rfl
@[simp] theorem CSz_2 (m : Int) (n : Nat) : (CSz m 23 n).S 23 = .pure (sSz n) := rfl
theorem mixCSz (m : Int) (f n : Nat) : (CSz m f n).P.follows .mixedOrders = true := mixed

set_option maxHeartbeats 4000000 in
theorem sizeRn : ∀ n : Nat, PureOK Tryz.prog (G m) 17 (sSz n)
  | 0 => pure1_none fun e h => by have := exp_pos e; omega
  | n + 1 => by
    have sig : SigOK (CSz m 17 n) := sigOK_cons (entryPure (sizeRn n) Tryz.func17 rfl (by decide)) (sigOK_nil _ _)
    refine pure1 (C := CSz m 17 n) sig (mixCSz m _ n) Tryz.func17 rfl rfl rfl (by kernel_rfl) (by decide) (fun e ⟨hw, hn⟩ => ?_)
    have hl := hw.len'
    rw [sizeE_eq]
    simp [aev, cav, look, acallPure, abin, abinN, abinP, abinI, abinS, aun, aconv, afield, afieldAddr, aindexAddr, aindex, aslice, alow, ahigh, abuild, abuildGo, cellsOf, splice, fieldTy, alen, apick, amax, amin, aload, headV, aparts, abuildSlice, elParts, abytesStr, astore, amake, aappend, anew, arith, aresults, aresList, ares, spec0, spec1, spec2, spec3, spec4, eqCells, eqCell]
    refine loop_rule (C := CSz m 17 n) sig (mixCSz m _ n) (fun p : Nat × Int => ⟨[(1, .ptr 0 1 9 0 0), (3, .int .i64 p.2), (4, .int .i64 p.1)], [EB e]⟩) (fun p => p.1 ≤ e.kids.length ∧ sizeL p.2 (e.kids.drop p.1) = sizeL 1 e.kids) (fun p => e.kids.length - p.1) (by kernel_rfl) ⟨(0, 1), ⟨by simp, by simp⟩, weak_slots (by simp)⟩ (fun ⟨i, a⟩ ⟨hi, hs⟩ => ?_)
    simp only at hi hs ⊢
    by_cases hlt : i < e.kids.length
    · have i1 : I64 ((i : Int) + 1) := by unfold I64; omega
      have w1 := hw.kid _ (ix_mem hlt)
      have w2 : SizeOf.sizeOf (ix e.kids i) ≤ n := by have := exp_mem (ix_mem hlt); omega
      simp [aev, cav, look, acallPure, abin, abinN, abinP, abinI, abinS, aun, aconv, afield, afieldAddr, aindexAddr, aindex, aslice, alow, ahigh, abuild, abuildGo, cellsOf, splice, fieldTy, alen, apick, amax, amin, aload, headV, aparts, abuildSlice, elParts, abytesStr, astore, amake, aappend, anew, arith, aresults, aresList, ares, spec0, spec1, spec2, spec3, spec4, eqCells, eqCell, EB, hlt, rowAt_enc hlt, sSz, w1, w2, i1]
      refine ⟨i + 1, w64 (a + sizeE (ix e.kids i)), ⟨by omega, ?_⟩, by omega, weak_slots (by simp)⟩
      rw [← hs, sizeL_drop hlt]
    · rw [List.drop_eq_nil_of_le (by omega), sizeL] at hs
      simp [aev, cav, look, acallPure, abin, abinN, abinP, abinI, abinS, aun, aconv, afield, afieldAddr, aindexAddr, aindex, aslice, alow, ahigh, abuild, abuildGo, cellsOf, splice, fieldTy, alen, apick, amax, amin, aload, headV, aparts, abuildSlice, elParts, abytesStr, astore, amake, aappend, anew, arith, aresults, aresList, ares, spec0, spec1, spec2, spec3, spec4, eqCells, eqCell, EB, hlt, hs]
theorem sizeR_ : PureOK Tryz.prog (G m) 17 (spec1 (fun (e : Expr) => WfE e) (fun e => .int .i64 (sizeE e))) := pure1_all (fun e => SizeOf.sizeOf e) fun n => sizeRn n

set_option maxHeartbeats 4000000 in
theorem sizePn : ∀ n : Nat, PureOK Tryz.prog (G m) 23 (sSz n)
  | 0 => pure1_none fun e h => by have := exp_pos e; omega
  | n + 1 => by
    have sig : SigOK (CSz m 23 n) := sigOK_cons (entryPure (sizePn n) Tryz.func23 rfl (by decide)) (sigOK_nil _ _)
    refine pure1 (C := CSz m 23 n) sig (mixCSz m _ n) Tryz.func23 rfl rfl rfl (by kernel_rfl) (by decide) (fun e ⟨hw, hn⟩ => ?_)
    have hl := hw.len'
    rw [sizeE_eq]
    simp [aev, cav, look, acallPure, abin, abinN, abinP, abinI, abinS, aun, aconv, afield, afieldAddr, aindexAddr, aindex, aslice, alow, ahigh, abuild, abuildGo, cellsOf, splice, fieldTy, alen, apick, amax, amin, aload, headV, aparts, abuildSlice, elParts, abytesStr, astore, amake, aappend, anew, arith, aresults, aresList, ares, spec0, spec1, spec2, spec3, spec4, eqCells, eqCell]
    refine loop_rule (C := CSz m 23 n) sig (mixCSz m _ n) (fun p : Nat × Int => ⟨[(1, .ptr 0 1 9 0 0), (3, .int .i64 p.2), (7, Enc.enc e.kids), (8, .int .i64 e.kids.length), (9, .int .i64 p.1)], [EB e]⟩) (fun p => p.1 ≤ e.kids.length ∧ sizeL p.2 (e.kids.drop p.1) = sizeL 1 e.kids) (fun p => e.kids.length - p.1) (by kernel_rfl) ⟨(0, 1), ⟨by simp, by simp⟩, weak_slots (by simp)⟩ (fun ⟨i, a⟩ ⟨hi, hs⟩ => ?_)
    simp only at hi hs ⊢
    by_cases hlt : i < e.kids.length
    · have i1 : I64 ((i : Int) + 1) := by unfold I64; omega
      have w1 := hw.kid _ (ix_mem hlt)
      have w2 : SizeOf.sizeOf (ix e.kids i) ≤ n := by have := exp_mem (ix_mem hlt); omega
      simp [aev, cav, look, acallPure, abin, abinN, abinP, abinI, abinS, aun, aconv, afield, afieldAddr, aindexAddr, aindex, aslice, alow, ahigh, abuild, abuildGo, cellsOf, splice, fieldTy, alen, apick, amax, amin, aload, headV, aparts, abuildSlice, elParts, abytesStr, astore, amake, aappend, anew, arith, aresults, aresList, ares, spec0, spec1, spec2, spec3, spec4, eqCells, eqCell, EB, hlt, rowAt_enc hlt, sSz, w1, w2, i1]
      refine ⟨i + 1, w64 (a + sizeE (ix e.kids i)), ⟨by omega, ?_⟩, by omega, weak_keep 1 (by simp) (by simp) (by simp [AV.clean, AV.clean1]) (by simp) (by simp)⟩
      rw [← hs, sizeL_drop hlt]
    · rw [List.drop_eq_nil_of_le (by omega), sizeL] at hs
      simp [aev, cav, look, acallPure, abin, abinN, abinP, abinI, abinS, aun, aconv, afield, afieldAddr, aindexAddr, aindex, aslice, alow, ahigh, abuild, abuildGo, cellsOf, splice, fieldTy, alen, apick, amax, amin, aload, headV, aparts, abuildSlice, elParts, abytesStr, astore, amake, aappend, anew, arith, aresults, aresList, ares, spec0, spec1, spec2, spec3, spec4, eqCells, eqCell, EB, hlt, hs]
theorem sizeP_ : PureOK Tryz.prog (G m) 23 (spec1 (fun (e : Expr) => WfE e) (fun e => .int .i64 (sizeE e))) := pure1_all (fun e => SizeOf.sizeOf e) fun n => sizePn n

def sDp (n : Nat) : List AV → Option (Prop × AV) := spec1 (fun (e : Expr) => WfE e ∧ SizeOf.sizeOf e ≤ n) (fun e => .int .i64 (depthE e))
noncomputable def CDp (m : Int) (f n : Nat) : Ctx := mkC Tryz.prog (G m) [(f, .pure (sDp n))]
@[simp] theorem CDp_P (m : Int) (f n : Nat) : (CDp m f n).P = Tryz.prog := rfl
@[simp] theorem CDp_1 (m : Int) (n : Nat) : (CDp m 62 n).S 62 = .pure (sDp n) := rfl
@[simp] theorem CDp_2 (m : Int) (n : Nat) : (CDp m 48 n).S 48 = .pure (sDp n) := rfl
theorem mixCDp (m : Int) (f n : Nat) : (CDp m f n).P.follows .mixedOrders = true := mixed
set_option maxHeartbeats 4000000 in
theorem depthPn : ∀ n : Nat, PureOK Tryz.prog (G m) 48 (sDp n)
  | 0 => pure1_none fun e h => by have := exp_pos e; omega
  | n + 1 => by
    have sig : SigOK (CDp m 48 n) := sigOK_cons (entryPure (depthPn n) Tryz.func48 rfl (by decide)) (sigOK_nil _ _)
    refine pure1 (C := CDp m 48 n) sig (mixCDp m _ n) Tryz.func48 rfl rfl rfl (by kernel_rfl) (by decide) (fun e ⟨hw, hn⟩ => ?_)
    have hl := hw.len'
    rw [depthE_eq]
    simp [aev, cav, look, acallPure, abin, abinN, abinP, abinI, abinS, aun, aconv, afield, afieldAddr, aindexAddr, aindex, aslice, alow, ahigh, abuild, abuildGo, cellsOf, splice, fieldTy, alen, apick, amax, amin, aload, headV, aparts, abuildSlice, elParts, abytesStr, astore, amake, aappend, anew, arith, aresults, aresList, ares, spec0, spec1, spec2, spec3, spec4, eqCells, eqCell]
    refine loop_rule (C := CDp m 48 n) sig (mixCDp m _ n) (fun p : Nat × Int => ⟨[(1, .ptr 0 1 9 0 0), (3, .int .i64 p.2), (7, Enc.enc e.kids), (8, .int .i64 e.kids.length), (9, .int .i64 p.1)], [EB e]⟩) (fun p => p.1 ≤ e.kids.length ∧ depthL p.2 (e.kids.drop p.1) = depthL 0 e.kids) (fun p => e.kids.length - p.1) (by kernel_rfl) ⟨(0, 0), ⟨by simp, by simp⟩, weak_slots (by simp)⟩ (fun ⟨i, a⟩ ⟨hi, hs⟩ => ?_)
    simp only at hi hs ⊢
    by_cases hlt : i < e.kids.length
    · have i1 : I64 ((i : Int) + 1) := by unfold I64; omega
      have w1 := hw.kid _ (ix_mem hlt)
      have w2 : SizeOf.sizeOf (ix e.kids i) ≤ n := by have := exp_mem (ix_mem hlt); omega
      have hmax : (if a < depthE (ix e.kids i) then depthE (ix e.kids i) else a) = max a (depthE (ix e.kids i)) := by split <;> omega
      simp [aev, cav, look, acallPure, abin, abinN, abinP, abinI, abinS, aun, aconv, afield, afieldAddr, aindexAddr, aindex, aslice, alow, ahigh, abuild, abuildGo, cellsOf, splice, fieldTy, alen, apick, amax, amin, aload, headV, aparts, abuildSlice, elParts, abytesStr, astore, amake, aappend, anew, arith, aresults, aresList, ares, spec0, spec1, spec2, spec3, spec4, eqCells, eqCell, EB, hlt, rowAt_enc hlt, sDp, w1, w2, i1]
      rw [hmax]
      refine ⟨i + 1, max a (depthE (ix e.kids i)), ⟨by omega, ?_⟩, by omega, weak_keep 1 (by simp) (by simp) (by simp [AV.clean, AV.clean1]) (by simp) (by simp)⟩
      rw [← hs, depthL_drop hlt]
    · rw [List.drop_eq_nil_of_le (by omega), depthL] at hs
      simp [aev, cav, look, acallPure, abin, abinN, abinP, abinI, abinS, aun, aconv, afield, afieldAddr, aindexAddr, aindex, aslice, alow, ahigh, abuild, abuildGo, cellsOf, splice, fieldTy, alen, apick, amax, amin, aload, headV, aparts, abuildSlice, elParts, abytesStr, astore, amake, aappend, anew, arith, aresults, aresList, ares, spec0, spec1, spec2, spec3, spec4, eqCells, eqCell, EB, hlt, hs]
theorem depthP_ : PureOK Tryz.prog (G m) 48 (spec1 (fun (e : Expr) => WfE e) (fun e => .int .i64 (depthE e))) := pure1_all (fun e => SizeOf.sizeOf e) fun n => depthPn n

set_option maxHeartbeats 4000000 in
theorem depthRn : ∀ n : Nat, PureOK Tryz.prog (G m) 62 (sDp n)
  | 0 => pure1_none fun e h => by have := exp_pos e; omega
  | n + 1 => by
    have sig : SigOK (CDp m 62 n) := sigOK_cons (entryPure (depthRn n) Tryz.func62 rfl (by decide)) (sigOK_nil _ _)
    refine pure1 (C := CDp m 62 n) sig (mixCDp m _ n) Tryz.func62 rfl rfl rfl (by kernel_rfl) (by decide) (fun e ⟨hw, hn⟩ => ?_)
    have hl := hw.len'
    rw [depthE_eq]
    simp [aev, cav, look, acallPure, abin, abinN, abinP, abinI, abinS, aun, aconv, afield, afieldAddr, aindexAddr, aindex, aslice, alow, ahigh, abuild, abuildGo, cellsOf, splice, fieldTy, alen, apick, amax, amin, aload, headV, aparts, abuildSlice, elParts, abytesStr, astore, amake, aappend, anew, arith, aresults, aresList, ares, spec0, spec1, spec2, spec3, spec4, eqCells, eqCell]
    refine loop_rule (C := CDp m 62 n) sig (mixCDp m _ n) (fun p : Nat × Int => ⟨[(1, .ptr 0 1 9 0 0), (3, .int .i64 p.2), (4, .int .i64 p.1)], [EB e]⟩) (fun p => p.1 ≤ e.kids.length ∧ depthL p.2 (e.kids.drop p.1) = depthL 0 e.kids) (fun p => e.kids.length - p.1) (by kernel_rfl) ⟨(0, 0), ⟨by simp, by simp⟩, weak_slots (by simp)⟩ (fun ⟨i, a⟩ ⟨hi, hs⟩ => ?_)
    simp only at hi hs ⊢
    by_cases hlt : i < e.kids.length
    · have i1 : I64 ((i : Int) + 1) := by unfold I64; omega
      have w1 := hw.kid _ (ix_mem hlt)
      have w2 : SizeOf.sizeOf (ix e.kids i) ≤ n := by have := exp_mem (ix_mem hlt); omega
      rw [depthL_drop hlt] at hs
      by_cases hd : a < depthE (ix e.kids i)
      · rw [show max a (depthE (ix e.kids i)) = depthE (ix e.kids i) by omega] at hs
        simp [aev, cav, look, acallPure, abin, abinN, abinP, abinI, abinS, aun, aconv, afield, afieldAddr, aindexAddr, aindex, aslice, alow, ahigh, abuild, abuildGo, cellsOf, splice, fieldTy, alen, apick, amax, amin, aload, headV, aparts, abuildSlice, elParts, abytesStr, astore, amake, aappend, anew, arith, aresults, aresList, ares, spec0, spec1, spec2, spec3, spec4, eqCells, eqCell, EB, hlt, rowAt_enc hlt, sDp, w1, w2, i1, hd]
        exact ⟨i + 1, depthE (ix e.kids i), ⟨by omega, hs⟩, by omega, weak_slots (by simp)⟩
      · rw [show max a (depthE (ix e.kids i)) = a by omega] at hs
        simp [aev, cav, look, acallPure, abin, abinN, abinP, abinI, abinS, aun, aconv, afield, afieldAddr, aindexAddr, aindex, aslice, alow, ahigh, abuild, abuildGo, cellsOf, splice, fieldTy, alen, apick, amax, amin, aload, headV, aparts, abuildSlice, elParts, abytesStr, astore, amake, aappend, anew, arith, aresults, aresList, ares, spec0, spec1, spec2, spec3, spec4, eqCells, eqCell, EB, hlt, rowAt_enc hlt, sDp, w1, w2, i1, hd]
        exact ⟨i + 1, a, ⟨by omega, hs⟩, by omega, weak_slots (by simp)⟩
    · rw [List.drop_eq_nil_of_le (by omega), depthL] at hs
      simp [aev, cav, look, acallPure, abin, abinN, abinP, abinI, abinS, aun, aconv, afield, afieldAddr, aindexAddr, aindex, aslice, alow, ahigh, abuild, abuildGo, cellsOf, splice, fieldTy, alen, apick, amax, amin, aload, headV, aparts, abuildSlice, elParts, abytesStr, astore, amake, aappend, anew, arith, aresults, aresList, ares, spec0, spec1, spec2, spec3, spec4, eqCells, eqCell, EB, hlt, hs]
theorem depthR_ : PureOK Tryz.prog (G m) 62 (spec1 (fun (e : Expr) => WfE e) (fun e => .int .i64 (depthE e))) := pure1_all (fun e => SizeOf.sizeOf e) fun n => depthRn n
end
end Go.Proofs.YthcfnaglgoaikaaGreat
