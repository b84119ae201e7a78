/-
  layer 18: SyntaxParts: the operands of a valid expression are valid.
-/
import Derived.Test.YthcfnaglgoaikaaLA
namespace Go.Proofs.Ythcfnaglgoaikaa
open Go.RowKit
set_option linter.unusedSimpArgs false
set_option linter.unusedVariables false
set_option maxRecDepth 100000

mutual
def sizeN : Expr → Nat
  | .mk _ _ _ _ k => sizesN k + 1
def sizesN : List Expr → Nat
  | [] => 0
  | e :: r => sizeN e + sizesN r
end
mutual
def depthN : Expr → Nat
  | .mk _ _ _ _ k => depthsN k + 1
def depthsN : List Expr → Nat
  | [] => 0
  | e :: r => max (depthN e) (depthsN r)
end
mutual
theorem size_bulk : ∀ e : Expr, sizeN e ≤ bulkE e
  | .mk o v n d k => by have := sizes_bulk k; rw [sizeN, bulkE]; omega
theorem sizes_bulk : ∀ l : List Expr, sizesN l ≤ bulkEs l
  | [] => Nat.le_refl _
  | e :: r => by have := size_bulk e; have := sizes_bulk r; rw [sizesN, bulkEs]; omega
end
mutual
theorem depth_size : ∀ e : Expr, depthN e ≤ sizeN e
  | .mk o v n d k => by have := depths_size k; rw [depthN, sizeN]; omega
theorem depths_size : ∀ l : List Expr, depthsN l ≤ sizesN l
  | [] => Nat.le_refl _
  | e :: r => by have := depth_size e; have := depths_size r; rw [depthsN, sizesN]; omega
end
mutual
theorem size_real : ∀ e : Expr, sizeN e ≤ 1048576 → sizeE e = sizeN e
  | .mk o v n d k, h => by
    rw [sizeN] at h
    have := sizeL_real k 1 (by omega) (by omega)
    rw [sizeE, sizeN, this]
    omega
theorem sizeL_real : ∀ (l : List Expr) (n : Int), 1 ≤ n → n + sizesN l ≤ 1048577 → sizeL n l = n + sizesN l
  | [], n, _, _ => by rw [sizeL, sizesN]; omega
  | e :: r, n, h0, h => by
    rw [sizesN] at h
    have h1 := size_real e (by omega)
    have h2 : w64 (n + sizeE e) = n + sizeN e := by rw [h1]; exact w64_in (by unfold I64; omega)
    rw [sizeL, h2, sizeL_real r _ (by omega) (by omega), sizesN]
    omega
end
mutual
theorem depth_real : ∀ e : Expr, sizeN e ≤ 1048576 → depthE e = depthN e
  | .mk o v n d k, h => by
    rw [sizeN] at h
    have h1 := depthL_real k 0 (by omega) (by omega)
    have h2 := depths_size k
    rw [depthE, depthN, h1, w64_in (by unfold I64; omega)]
    omega
theorem depthL_real : ∀ (l : List Expr) (n : Int), 0 ≤ n → sizesN l ≤ 1048576 → depthL n l = max n (depthsN l)
  | [], n, _, _ => by rw [depthL, depthsN]; omega
  | e :: r, n, h0, h => by
    rw [sizesN] at h
    have h1 := depth_real e (by omega)
    rw [depthL, h1, depthL_real r _ (by omega) (by omega), depthsN]
    omega
end
theorem kid_size {x : Expr} : ∀ {l : List Expr}, x ∈ l → sizeN x ≤ sizesN l ∧ depthN x ≤ depthsN l
  | y :: r, h => by
    rw [sizesN, depthsN]
    rcases List.mem_cons.1 h with rfl | h
    · omega
    · have := kid_size h; omega
theorem sizeN_eq (e : Expr) : sizeN e = sizesN e.kids + 1 := by cases e; rw [sizeN]; rfl
theorem depthN_eq (e : Expr) : depthN e = depthsN e.kids + 1 := by cases e; rw [depthN]; rfl
theorem self_mono {e : Expr} (h : selfE e true = 0) : selfE e false = 0 ∧ ¬ e.op = 24 := by
  unfold selfE at h ⊢
  split at h
  · cases h
  · split at h
    · cases h
    · split at h
      · cases h
      · split at h
        · cases h
        · rename_i h1 h2 h3 h4
          refine ⟨by rw [if_neg h1, if_neg h2, if_neg h3, if_neg (by simp)], fun h5 => h4 ⟨h5, rfl⟩⟩
mutual
theorem visit_mono : ∀ e : Expr, visitE e true = 0 → visitE e false = 0
  | .mk o v n d k, h => by
    rw [visitE] at h ⊢
    by_cases h1 : selfE (.mk o v n d k) true = 0
    · obtain ⟨h2, h3⟩ := self_mono h1
      rw [if_neg (by simp [h1]), Bool.true_or] at h
      rw [if_neg (by simp [h2])]
      have h4 : decide (o = 24) = false := decide_eq_false h3
      rw [h4, Bool.false_or]
      exact visitL_mono k h
    · rw [if_pos h1] at h
      exact absurd h h1
theorem visitL_mono : ∀ l : List Expr, visitL l true = 0 → visitL l false = 0
  | [], h => rfl
  | e :: r, h => by
    rw [visitL] at h ⊢
    by_cases h1 : visitE e true = 0
    · rw [if_neg (by simp [h1])] at h
      rw [if_neg (by simp [visit_mono e h1])]
      exact visitL_mono r h
    · rw [if_pos h1] at h
      exact absurd h h1
end
theorem visitL_kid {w : Bool} {x : Expr} : ∀ {l : List Expr}, visitL l w = 0 → x ∈ l → visitE x w = 0
  | y :: r, h, hx => by
    rw [visitL] at h
    by_cases h1 : visitE y w = 0
    · rw [if_neg (by simp [h1])] at h
      rcases List.mem_cons.1 hx with rfl | hx
      · exact h1
      · exact visitL_kid h hx
    · rw [if_pos h1] at h
      exact absurd h h1
theorem kid_valid {e x : Expr} (hs : sizeN e ≤ 1048576) (h : checkE e = 0) (hx : x ∈ e.kids) : checkE x = 0 := by
  have h1 := kid_size hx
  have h2 := sizeN_eq e
  have h3 := depthN_eq e
  have h4 := size_real e hs
  have h5 := depth_real e hs
  have h6 := size_real x (by omega)
  have h7 := depth_real x (by omega)
  unfold checkE at h ⊢
  split at h
  · cases h
  · split at h
    · cases h
    · rw [if_neg (by omega), if_neg (by omega)]
      rw [visitE_eq] at h
      by_cases h8 : selfE e false = 0
      · rw [if_neg (by simp [h8]), Bool.false_or] at h
        have h9 := visitL_kid h hx
        cases hd : decide (e.op = 24)
        · rw [hd] at h9; exact h9
        · rw [hd] at h9; exact visit_mono x h9
      · rw [if_pos h8] at h
        exact absurd h h8

section
variable {m : Int}
set_option maxHeartbeats 8000000 in
theorem lawParts : PureOK Try.prog (G m) 5 (spec1 (fun (e : Expr) => WfE e ∧ bulkE e ≤ 1048576) fun _ => .bool true) := by
  refine pure1 (C := CXp m) (sigCXp m) (mixCXp m) Try.func5 rfl rfl rfl (by kernel_rfl) (by decide) (fun e ⟨hw, hb⟩ => ?_)
  have hl := hw.len'
  have hsz : sizeN e ≤ 1048576 := by have := size_bulk e; omega
  by_cases h : 3000 < sizeE e
  · simp [aev, cav, look, acallPure, abin, abinN, abinP, abinI, abinS, aun, aconv, afield, afieldAddr, aindexAddr, aindex, aslice, alow, ahigh, abuild, abuildGo, cellsOf, splice, fieldTy, alen, apick, amax, amin, aload, headV, aparts, abuildSlice, elParts, abytesStr, astore, amake, aappend, anew, arith, aresults, aresList, ares, spec0, spec1, spec2, spec3, spec4, eqCells, eqCell, sSzA, sLives, hw, h]
  have h1 : (1 : Int) = 1 := rfl
  rcases em2 (checkE e = 0) with hc | hc <;> simp [aev, cav, look, acallPure, abin, abinN, abinP, abinI, abinS, aun, aconv, afield, afieldAddr, aindexAddr, aindex, aslice, alow, ahigh, abuild, abuildGo, cellsOf, splice, fieldTy, alen, apick, amax, amin, aload, headV, aparts, abuildSlice, elParts, abytesStr, astore, amake, aappend, anew, arith, aresults, aresList, ares, spec0, spec1, spec2, spec3, spec4, eqCells, eqCell, sSzA, sChk, sHasA, sLives, hw, h, hc]
  · refine loop_rule (C := CXp m) (sigCXp m) (mixCXp m) (fun q : Nat × Int × HopF => ⟨[(1, .ptr 0 1 9 0 0), (3, .bool true), (4, .int .i64 q.2.1), (5, .bool q.2.2.v), (6, .int .i64 q.1)], [EB e]⟩) (fun q => q.1 ≤ e.kids.length ∧ sizeL q.2.1 (e.kids.drop q.1) = sizeE e ∧ (q.2.2.v || aggL (e.kids.drop q.1)) = aggE e) (fun q => e.kids.length - q.1) (by kernel_rfl) ⟨(0, 1, ⟨decide (e.op = 24)⟩), ⟨by omega, by rw [sizeE_eq]; rfl, by rw [aggE_eq]; rfl⟩, weak_slots (by simp)⟩ (fun ⟨i, n, ⟨a⟩⟩ ⟨hi, hs, ha⟩ => ?_)
    simp only at hi hs ha ⊢
    by_cases hlt : i < e.kids.length
    · have i1 : I64 ((i : Int) + 1) := by unfold I64; omega
      have w1 := hw.kid _ (ix_mem hlt)
      have k0 : checkE e = 0 → checkE (ix e.kids i) = 0 := fun h => kid_valid hsz h (ix_mem hlt)
      rw [sizeL_drop hlt] at hs
      rw [aggL_drop hlt] at ha
      have hx : true = false ∨ checkE (ix e.kids i) = 0 := by first | exact .inr (k0 (of_eq_true hc)) | exact .inl rfl
      rcases hx with hx | hx
      · cases a
        · rw [Bool.false_or] at ha
          first | (cases hx; done) | (simp [aev, cav, look, acallPure, abin, abinN, abinP, abinI, abinS, aun, aconv, afield, afieldAddr, aindexAddr, aindex, aslice, alow, ahigh, abuild, abuildGo, cellsOf, splice, fieldTy, alen, apick, amax, amin, aload, headV, aparts, abuildSlice, elParts, abytesStr, astore, amake, aappend, anew, arith, aresults, aresList, ares, spec0, spec1, spec2, spec3, spec4, eqCells, eqCell, EB, hlt, rowAt_enc hlt, sChk, sSzA, sHasA, w1, i1]; exact ⟨i + 1, w64 (n + sizeE (ix e.kids i)), ⟨aggE (ix e.kids i)⟩, ⟨by omega, hs, ha⟩, by omega, weak_slots (by simp)⟩)
        · rw [Bool.true_or] at ha
          first | (cases hx; done) | (simp [aev, cav, look, acallPure, abin, abinN, abinP, abinI, abinS, aun, aconv, afield, afieldAddr, aindexAddr, aindex, aslice, alow, ahigh, abuild, abuildGo, cellsOf, splice, fieldTy, alen, apick, amax, amin, aload, headV, aparts, abuildSlice, elParts, abytesStr, astore, amake, aappend, anew, arith, aresults, aresList, ares, spec0, spec1, spec2, spec3, spec4, eqCells, eqCell, EB, hlt, rowAt_enc hlt, sChk, sSzA, sHasA, w1, i1]; exact ⟨i + 1, w64 (n + sizeE (ix e.kids i)), ⟨true⟩, ⟨by omega, hs, by rw [Bool.true_or]; exact ha⟩, by omega, weak_slots (by simp)⟩)
      · cases a
        · rw [Bool.false_or] at ha
          simp [aev, cav, look, acallPure, abin, abinN, abinP, abinI, abinS, aun, aconv, afield, afieldAddr, aindexAddr, aindex, aslice, alow, ahigh, abuild, abuildGo, cellsOf, splice, fieldTy, alen, apick, amax, amin, aload, headV, aparts, abuildSlice, elParts, abytesStr, astore, amake, aappend, anew, arith, aresults, aresList, ares, spec0, spec1, spec2, spec3, spec4, eqCells, eqCell, EB, hlt, rowAt_enc hlt, sChk, sSzA, sHasA, w1, i1, hx]
          exact ⟨i + 1, w64 (n + sizeE (ix e.kids i)), ⟨aggE (ix e.kids i)⟩, ⟨by omega, hs, ha⟩, by omega, weak_slots (by simp)⟩
        · rw [Bool.true_or] at ha
          simp [aev, cav, look, acallPure, abin, abinN, abinP, abinI, abinS, aun, aconv, afield, afieldAddr, aindexAddr, aindex, aslice, alow, ahigh, abuild, abuildGo, cellsOf, splice, fieldTy, alen, apick, amax, amin, aload, headV, aparts, abuildSlice, elParts, abytesStr, astore, amake, aappend, anew, arith, aresults, aresList, ares, spec0, spec1, spec2, spec3, spec4, eqCells, eqCell, EB, hlt, rowAt_enc hlt, sChk, sSzA, sHasA, w1, i1, hx]
          exact ⟨i + 1, w64 (n + sizeE (ix e.kids i)), ⟨true⟩, ⟨by omega, hs, by rw [Bool.true_or]; exact ha⟩, by omega, weak_slots (by simp)⟩
    · rw [List.drop_eq_nil_of_le (by omega), sizeL] at hs
      rw [List.drop_eq_nil_of_le (by omega), aggL, Bool.or_false] at ha
      simp [aev, cav, look, acallPure, abin, abinN, abinP, abinI, abinS, aun, aconv, afield, afieldAddr, aindexAddr, aindex, aslice, alow, ahigh, abuild, abuildGo, cellsOf, splice, fieldTy, alen, apick, amax, amin, aload, headV, aparts, abuildSlice, elParts, abytesStr, astore, amake, aappend, anew, arith, aresults, aresList, ares, spec0, spec1, spec2, spec3, spec4, eqCells, eqCell, EB, hlt, sSzA, sHasA, sLives, hw, hs, ha]
  · refine loop_rule (C := CXp m) (sigCXp m) (mixCXp m) (fun q : Nat × Int × HopF => ⟨[(1, .ptr 0 1 9 0 0), (3, .bool false), (4, .int .i64 q.2.1), (5, .bool q.2.2.v), (6, .int .i64 q.1)], [EB e]⟩) (fun q => q.1 ≤ e.kids.length ∧ sizeL q.2.1 (e.kids.drop q.1) = sizeE e ∧ (q.2.2.v || aggL (e.kids.drop q.1)) = aggE e) (fun q => e.kids.length - q.1) (by kernel_rfl) ⟨(0, 1, ⟨decide (e.op = 24)⟩), ⟨by omega, by rw [sizeE_eq]; rfl, by rw [aggE_eq]; rfl⟩, weak_slots (by simp)⟩ (fun ⟨i, n, ⟨a⟩⟩ ⟨hi, hs, ha⟩ => ?_)
    simp only at hi hs ha ⊢
    by_cases hlt : i < e.kids.length
    · have i1 : I64 ((i : Int) + 1) := by unfold I64; omega
      have w1 := hw.kid _ (ix_mem hlt)
      have k0 : checkE e = 0 → checkE (ix e.kids i) = 0 := fun h => kid_valid hsz h (ix_mem hlt)
      rw [sizeL_drop hlt] at hs
      rw [aggL_drop hlt] at ha
      have hx : false = false ∨ checkE (ix e.kids i) = 0 := by first | exact .inr (k0 (of_eq_true hc)) | exact .inl rfl
      rcases hx with hx | hx
      · cases a
        · rw [Bool.false_or] at ha
          first | (cases hx; done) | (simp [aev, cav, look, acallPure, abin, abinN, abinP, abinI, abinS, aun, aconv, afield, afieldAddr, aindexAddr, aindex, aslice, alow, ahigh, abuild, abuildGo, cellsOf, splice, fieldTy, alen, apick, amax, amin, aload, headV, aparts, abuildSlice, elParts, abytesStr, astore, amake, aappend, anew, arith, aresults, aresList, ares, spec0, spec1, spec2, spec3, spec4, eqCells, eqCell, EB, hlt, rowAt_enc hlt, sChk, sSzA, sHasA, w1, i1]; exact ⟨i + 1, w64 (n + sizeE (ix e.kids i)), ⟨aggE (ix e.kids i)⟩, ⟨by omega, hs, ha⟩, by omega, weak_slots (by simp)⟩)
        · rw [Bool.true_or] at ha
          first | (cases hx; done) | (simp [aev, cav, look, acallPure, abin, abinN, abinP, abinI, abinS, aun, aconv, afield, afieldAddr, aindexAddr, aindex, aslice, alow, ahigh, abuild, abuildGo, cellsOf, splice, fieldTy, alen, apick, amax, amin, aload, headV, aparts, abuildSlice, elParts, abytesStr, astore, amake, aappend, anew, arith, aresults, aresList, ares, spec0, spec1, spec2, spec3, spec4, eqCells, eqCell, EB, hlt, rowAt_enc hlt, sChk, sSzA, sHasA, w1, i1]; exact ⟨i + 1, w64 (n + sizeE (ix e.kids i)), ⟨true⟩, ⟨by omega, hs, by rw [Bool.true_or]; exact ha⟩, by omega, weak_slots (by simp)⟩)
      · cases a
        · rw [Bool.false_or] at ha
          simp [aev, cav, look, acallPure, abin, abinN, abinP, abinI, abinS, aun, aconv, afield, afieldAddr, aindexAddr, aindex, aslice, alow, ahigh, abuild, abuildGo, cellsOf, splice, fieldTy, alen, apick, amax, amin, aload, headV, aparts, abuildSlice, elParts, abytesStr, astore, amake, aappend, anew, arith, aresults, aresList, ares, spec0, spec1, spec2, spec3, spec4, eqCells, eqCell, EB, hlt, rowAt_enc hlt, sChk, sSzA, sHasA, w1, i1, hx]
          exact ⟨i + 1, w64 (n + sizeE (ix e.kids i)), ⟨aggE (ix e.kids i)⟩, ⟨by omega, hs, ha⟩, by omega, weak_slots (by simp)⟩
        · rw [Bool.true_or] at ha
          simp [aev, cav, look, acallPure, abin, abinN, abinP, abinI, abinS, aun, aconv, afield, afieldAddr, aindexAddr, aindex, aslice, alow, ahigh, abuild, abuildGo, cellsOf, splice, fieldTy, alen, apick, amax, amin, aload, headV, aparts, abuildSlice, elParts, abytesStr, astore, amake, aappend, anew, arith, aresults, aresList, ares, spec0, spec1, spec2, spec3, spec4, eqCells, eqCell, EB, hlt, rowAt_enc hlt, sChk, sSzA, sHasA, w1, i1, hx]
          exact ⟨i + 1, w64 (n + sizeE (ix e.kids i)), ⟨true⟩, ⟨by omega, hs, by rw [Bool.true_or]; exact ha⟩, by omega, weak_slots (by simp)⟩
    · rw [List.drop_eq_nil_of_le (by omega), sizeL] at hs
      rw [List.drop_eq_nil_of_le (by omega), aggL, Bool.or_false] at ha
      simp [aev, cav, look, acallPure, abin, abinN, abinP, abinI, abinS, aun, aconv, afield, afieldAddr, aindexAddr, aindex, aslice, alow, ahigh, abuild, abuildGo, cellsOf, splice, fieldTy, alen, apick, amax, amin, aload, headV, aparts, abuildSlice, elParts, abytesStr, astore, amake, aappend, anew, arith, aresults, aresList, ares, spec0, spec1, spec2, spec3, spec4, eqCells, eqCell, EB, hlt, sSzA, sHasA, sLives, hw, hs, ha]
end
end Go.Proofs.Ythcfnaglgoaikaa
