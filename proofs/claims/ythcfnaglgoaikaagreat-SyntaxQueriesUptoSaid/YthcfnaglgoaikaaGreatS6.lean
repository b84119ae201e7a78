/-
  layer 18: functions' and aggregates' names; what an expression is without its operands.
-/
import Derived.Test.YthcfnaglgoaikaaGreatS5
namespace Go.Proofs.YthcfnaglgoaikaaGreat
open Go.RowKit
set_option linter.unusedSimpArgs false
set_option linter.unusedVariables false
set_option maxRecDepth 100000

/-- The functions of one operand, by name. -/
def One (s : ByteArray) : Prop := s = ⟨#[105, 100]⟩ ∨ s = ⟨#[116, 121, 112, 101]⟩ ∨ s = ⟨#[108, 97, 98, 101, 108, 115]⟩ ∨ s = ⟨#[115, 105, 122, 101]⟩ ∨ s = ⟨#[108, 101, 110, 103, 116, 104]⟩ ∨ s = ⟨#[110, 111, 100, 101, 115]⟩ ∨ s = ⟨#[101, 100, 103, 101, 115]⟩ ∨ s = ⟨#[102, 105, 114, 115, 116]⟩ ∨ s = ⟨#[108, 97, 115, 116]⟩ ∨ s = ⟨#[115, 116, 97, 114, 116]⟩ ∨ s = ⟨#[101, 110, 100]⟩ ∨ s = ⟨#[97, 98, 115]⟩ ∨ s = ⟨#[116, 101, 120, 116]⟩
instance (s : ByteArray) : Decidable (One s) := by unfold One; infer_instance
def coal : ByteArray := ⟨#[99, 111, 97, 108, 101, 115, 99, 101]⟩
def arLo (s : ByteArray) : Int := if One s then 1 else if s = coal then 2 else 0
def arHi (s : ByteArray) : Int := if One s then 1 else if s = coal then 4 else 0
def Agg (s : ByteArray) : Prop := s = ⟨#[99, 111, 117, 110, 116]⟩ ∨ s = ⟨#[115, 117, 109]⟩ ∨ s = ⟨#[109, 105, 110]⟩ ∨ s = ⟨#[109, 97, 120]⟩ ∨ s = ⟨#[97, 118, 103]⟩ ∨ s = ⟨#[99, 111, 108, 108, 101, 99, 116]⟩
instance (s : ByteArray) : Decidable (Agg s) := by unfold Agg; infer_instance
theorem arHi_lo (s : ByteArray) : arHi s = 0 ↔ arLo s = 0 := by
  unfold arHi arLo
  split
  · simp
  · split <;> simp

section
variable {m : Int}
set_option maxHeartbeats 4000000 in
theorem arityP : PureOK Tryz.prog (G m) 19 (spec1 (fun (_ : ByteArray) => True) (fun s => .tup [.int .i64 (arLo s), .int .i64 (arHi s)])) := by
  refine pure1 (C := CE m) (sigCE m) (mixCE m) Tryz.func19 rfl rfl rfl (by kernel_rfl) (by decide) (fun s _ => ?_)
  by_cases h : One s
  · have l1 : arLo s = 1 := by rw [arLo, if_pos h]
    have l2 : arHi s = 1 := by rw [arHi, if_pos h]
    rw [l1, l2]
    unfold One at h
    rcases h with h | h | h | h | h | h | h | h | h | h | h | h | h <;> subst h <;> simp [aev, cav, look, acallPure, abin, abinN, abinP, abinI, abinS, aun, aconv, afield, afieldAddr, aindexAddr, aindex, aslice, alow, ahigh, abuild, abuildGo, cellsOf, splice, fieldTy, alen, apick, amax, amin, aload, headV, aparts, abuildSlice, elParts, abytesStr, astore, amake, aappend, anew, arith, aresults, aresList, ares, spec0, spec1, spec2, spec3, spec4, eqCells, eqCell]
  · by_cases hc : s = coal
    · have l1 : arLo s = 2 := by rw [arLo, if_neg h, if_pos hc]
      have l2 : arHi s = 4 := by rw [arHi, if_neg h, if_pos hc]
      rw [l1, l2]
      unfold coal at hc
      subst hc
      simp [aev, cav, look, acallPure, abin, abinN, abinP, abinI, abinS, aun, aconv, afield, afieldAddr, aindexAddr, aindex, aslice, alow, ahigh, abuild, abuildGo, cellsOf, splice, fieldTy, alen, apick, amax, amin, aload, headV, aparts, abuildSlice, elParts, abytesStr, astore, amake, aappend, anew, arith, aresults, aresList, ares, spec0, spec1, spec2, spec3, spec4, eqCells, eqCell]
    · have l1 : arLo s = 0 := by rw [arLo, if_neg h, if_neg hc]
      have l2 : arHi s = 0 := by rw [arHi, if_neg h, if_neg hc]
      rw [l1, l2]
      unfold One at h
      unfold coal at hc
      simp only [not_or] at h
      obtain ⟨n1, n2, n3, n4, n5, n6, n7, n8, n9, n10, n11, n12, n13⟩ := h
      simp [aev, cav, look, acallPure, abin, abinN, abinP, abinI, abinS, aun, aconv, afield, afieldAddr, aindexAddr, aindex, aslice, alow, ahigh, abuild, abuildGo, cellsOf, splice, fieldTy, alen, apick, amax, amin, aload, headV, aparts, abuildSlice, elParts, abytesStr, astore, amake, aappend, anew, arith, aresults, aresList, ares, spec0, spec1, spec2, spec3, spec4, eqCells, eqCell, n1, n2, n3, n4, n5, n6, n7, n8, n9, n10, n11, n12, n13, hc]
set_option maxHeartbeats 4000000 in
theorem arityR : PureOK Tryz.prog (G m) 94 (spec1 (fun (_ : ByteArray) => True) (fun s => .tup [.int .i64 (arLo s), .int .i64 (arHi s)])) := by
  refine pure1 (C := CE m) (sigCE m) (mixCE m) Tryz.func94 rfl rfl rfl (by kernel_rfl) (by decide) (fun s _ => ?_)
  by_cases h : One s
  · have l1 : arLo s = 1 := by rw [arLo, if_pos h]
    have l2 : arHi s = 1 := by rw [arHi, if_pos h]
    rw [l1, l2]
    unfold One at h
    rcases h with h | h | h | h | h | h | h | h | h | h | h | h | h <;> subst h <;> simp [aev, cav, look, acallPure, abin, abinN, abinP, abinI, abinS, aun, aconv, afield, afieldAddr, aindexAddr, aindex, aslice, alow, ahigh, abuild, abuildGo, cellsOf, splice, fieldTy, alen, apick, amax, amin, aload, headV, aparts, abuildSlice, elParts, abytesStr, astore, amake, aappend, anew, arith, aresults, aresList, ares, spec0, spec1, spec2, spec3, spec4, eqCells, eqCell]
  · by_cases hc : s = coal
    · have l1 : arLo s = 2 := by rw [arLo, if_neg h, if_pos hc]
      have l2 : arHi s = 4 := by rw [arHi, if_neg h, if_pos hc]
      rw [l1, l2]
      unfold coal at hc
      subst hc
      simp [aev, cav, look, acallPure, abin, abinN, abinP, abinI, abinS, aun, aconv, afield, afieldAddr, aindexAddr, aindex, aslice, alow, ahigh, abuild, abuildGo, cellsOf, splice, fieldTy, alen, apick, amax, amin, aload, headV, aparts, abuildSlice, elParts, abytesStr, astore, amake, aappend, anew, arith, aresults, aresList, ares, spec0, spec1, spec2, spec3, spec4, eqCells, eqCell]
    · have l1 : arLo s = 0 := by rw [arLo, if_neg h, if_neg hc]
      have l2 : arHi s = 0 := by rw [arHi, if_neg h, if_neg hc]
      rw [l1, l2]
      unfold One at h
      unfold coal at hc
      simp only [not_or] at h
      obtain ⟨n1, n2, n3, n4, n5, n6, n7, n8, n9, n10, n11, n12, n13⟩ := h
      simp [aev, cav, look, acallPure, abin, abinN, abinP, abinI, abinS, aun, aconv, afield, afieldAddr, aindexAddr, aindex, aslice, alow, ahigh, abuild, abuildGo, cellsOf, splice, fieldTy, alen, apick, amax, amin, aload, headV, aparts, abuildSlice, elParts, abytesStr, astore, amake, aappend, anew, arith, aresults, aresList, ares, spec0, spec1, spec2, spec3, spec4, eqCells, eqCell, n1, n2, n3, n4, n5, n6, n7, n8, n9, n10, n11, n12, n13, hc]
set_option maxHeartbeats 4000000 in
theorem aggP : PureOK Tryz.prog (G m) 21 (spec1 (fun (_ : ByteArray) => True) (fun s => .bool (decide (Agg s)))) := by
  refine pure1 (C := CE m) (sigCE m) (mixCE m) Tryz.func21 rfl rfl rfl (by kernel_rfl) (by decide) (fun s _ => ?_)
  by_cases h : Agg s
  · rw [decide_eq_true h]
    unfold Agg at h
    rcases h with h | h | h | h | h | h <;> subst h <;> simp [aev, cav, look, acallPure, abin, abinN, abinP, abinI, abinS, aun, aconv, afield, afieldAddr, aindexAddr, aindex, aslice, alow, ahigh, abuild, abuildGo, cellsOf, splice, fieldTy, alen, apick, amax, amin, aload, headV, aparts, abuildSlice, elParts, abytesStr, astore, amake, aappend, anew, arith, aresults, aresList, ares, spec0, spec1, spec2, spec3, spec4, eqCells, eqCell]
  · rw [decide_eq_false h]
    unfold Agg at h
    simp only [not_or] at h
    obtain ⟨n1, n2, n3, n4, n5, n6⟩ := h
    simp [aev, cav, look, acallPure, abin, abinN, abinP, abinI, abinS, aun, aconv, afield, afieldAddr, aindexAddr, aindex, aslice, alow, ahigh, abuild, abuildGo, cellsOf, splice, fieldTy, alen, apick, amax, amin, aload, headV, aparts, abuildSlice, elParts, abytesStr, astore, amake, aappend, anew, arith, aresults, aresList, ares, spec0, spec1, spec2, spec3, spec4, eqCells, eqCell, n1, n2, n3, n4, n5, n6]
set_option maxHeartbeats 4000000 in
theorem aggR : PureOK Tryz.prog (G m) 93 (spec1 (fun (_ : ByteArray) => True) (fun s => .bool (decide (Agg s)))) := by
  refine pure1 (C := CE m) (sigCE m) (mixCE m) Tryz.func93 rfl rfl rfl (by kernel_rfl) (by decide) (fun s _ => ?_)
  by_cases h : Agg s
  · rw [decide_eq_true h]
    unfold Agg at h
    rcases h with h | h | h | h | h | h <;> subst h <;> simp [aev, cav, look, acallPure, abin, abinN, abinP, abinI, abinS, aun, aconv, afield, afieldAddr, aindexAddr, aindex, aslice, alow, ahigh, abuild, abuildGo, cellsOf, splice, fieldTy, alen, apick, amax, amin, aload, headV, aparts, abuildSlice, elParts, abytesStr, astore, amake, aappend, anew, arith, aresults, aresList, ares, spec0, spec1, spec2, spec3, spec4, eqCells, eqCell]
  · rw [decide_eq_false h]
    unfold Agg at h
    simp only [not_or] at h
    obtain ⟨n1, n2, n3, n4, n5, n6⟩ := h
    simp [aev, cav, look, acallPure, abin, abinN, abinP, abinI, abinS, aun, aconv, afield, afieldAddr, aindexAddr, aindex, aslice, alow, ahigh, abuild, abuildGo, cellsOf, splice, fieldTy, alen, apick, amax, amin, aload, headV, aparts, abuildSlice, elParts, abytesStr, astore, amake, aappend, anew, arith, aresults, aresList, ares, spec0, spec1, spec2, spec3, spec4, eqCells, eqCell, n1, n2, n3, n4, n5, n6]
def namedB (o : Int) : Bool := decide (o = 2) || decide (o = 3) || decide (o = 4) || decide (o = 23) || decide (o = 24)
theorem namedR : PureOK Tryz.prog (G m) 91 (spec1 (fun (_ : Int) => True) (fun o => .bool (namedB o))) := by
  refine pure1 (C := CE m) (sigCE m) (mixCE m) Tryz.func91 rfl rfl rfl (by kernel_rfl) (by decide) (fun o _ => ?_)
  by_cases h2 : o = 2
  · simp [aev, cav, look, acallPure, abin, abinN, abinP, abinI, abinS, aun, aconv, afield, afieldAddr, aindexAddr, aindex, aslice, alow, ahigh, abuild, abuildGo, cellsOf, splice, fieldTy, alen, apick, amax, amin, aload, headV, aparts, abuildSlice, elParts, abytesStr, astore, amake, aappend, anew, arith, aresults, aresList, ares, spec0, spec1, spec2, spec3, spec4, eqCells, eqCell, namedB, h2]
  by_cases h3 : o = 3
  · simp [aev, cav, look, acallPure, abin, abinN, abinP, abinI, abinS, aun, aconv, afield, afieldAddr, aindexAddr, aindex, aslice, alow, ahigh, abuild, abuildGo, cellsOf, splice, fieldTy, alen, apick, amax, amin, aload, headV, aparts, abuildSlice, elParts, abytesStr, astore, amake, aappend, anew, arith, aresults, aresList, ares, spec0, spec1, spec2, spec3, spec4, eqCells, eqCell, namedB, h3]
  by_cases h4 : o = 4
  · simp [aev, cav, look, acallPure, abin, abinN, abinP, abinI, abinS, aun, aconv, afield, afieldAddr, aindexAddr, aindex, aslice, alow, ahigh, abuild, abuildGo, cellsOf, splice, fieldTy, alen, apick, amax, amin, aload, headV, aparts, abuildSlice, elParts, abytesStr, astore, amake, aappend, anew, arith, aresults, aresList, ares, spec0, spec1, spec2, spec3, spec4, eqCells, eqCell, namedB, h4]
  by_cases h5 : o = 23
  · simp [aev, cav, look, acallPure, abin, abinN, abinP, abinI, abinS, aun, aconv, afield, afieldAddr, aindexAddr, aindex, aslice, alow, ahigh, abuild, abuildGo, cellsOf, splice, fieldTy, alen, apick, amax, amin, aload, headV, aparts, abuildSlice, elParts, abytesStr, astore, amake, aappend, anew, arith, aresults, aresList, ares, spec0, spec1, spec2, spec3, spec4, eqCells, eqCell, namedB, h5]
  simp [aev, cav, look, acallPure, abin, abinN, abinP, abinI, abinS, aun, aconv, afield, afieldAddr, aindexAddr, aindex, aslice, alow, ahigh, abuild, abuildGo, cellsOf, splice, fieldTy, alen, apick, amax, amin, aload, headV, aparts, abuildSlice, elParts, abytesStr, astore, amake, aappend, anew, arith, aresults, aresList, ares, spec0, spec1, spec2, spec3, spec4, eqCells, eqCell, namedB, h2, h3, h4, h5]
def operB (e : Expr) : Bool :=
  if e.op = 1 ∨ e.op = 2 then decide ((e.kids.length : Int) = 0)
  else if e.op = 3 ∨ e.op = 4 ∨ e.op = 5 ∨ e.op = 6 ∨ e.op = 21 then decide ((e.kids.length : Int) = 1)
  else if e.op = 22 then decide ((e.kids.length : Int) ≤ 16)
  else if e.op = 23 then decide (arLo e.name = 0) || (decide (arLo e.name ≤ (e.kids.length : Int)) && decide ((e.kids.length : Int) ≤ arHi e.name))
  else if e.op = 24 then decide ((e.kids.length : Int) = 1) || (decide ((e.kids.length : Int) = 0) && decide (e.name = ⟨#[99, 111, 117, 110, 116]⟩) && !e.dist)
  else decide ((e.kids.length : Int) = 2)
def sAr : List AV → Option (Prop × AV) := spec1 (fun (_ : ByteArray) => True) (fun s => .tup [.int .i64 (arLo s), .int .i64 (arHi s)])
noncomputable def CA (m : Int) : Ctx := mkC Tryz.prog (G m) [(19, .pure sAr), (94, .pure sAr)]
@[simp] theorem CA_P (m : Int) : (CA m).P = Tryz.prog := rfl
@[simp] theorem CA_1 (m : Int) : (CA m).S 19 = .pure sAr := rfl
@[simp] theorem CA_2 (m : Int) : (CA m).S 94 = .pure sAr := rfl
theorem sigCA (m : Int) : SigOK (CA m) := sigOK_cons (entryPure arityP Tryz.func19 rfl (by decide)) (sigOK_cons (entryPure arityR Tryz.func94 rfl (by decide)) (sigOK_nil _ _))
theorem mixCA (m : Int) : (CA m).P.follows .mixedOrders = true := mixed
set_option maxHeartbeats 8000000 in
theorem operP : PureOK Tryz.prog (G m) 73 (spec1 (fun (_ : Expr) => True) (fun e => .bool (operB e))) := by
  refine pure1 (C := CA m) (sigCA m) (mixCA m) Tryz.func73 rfl rfl rfl (by kernel_rfl) (by decide) (fun e _ => ?_)
  by_cases h : e.op = 1
  · have f1 : (e.op = 1) = True := eq_true h
    have f2 : (e.op = 2) = False := eq_false (by omega)
    have f3 : (e.op = 3) = False := eq_false (by omega)
    have f4 : (e.op = 4) = False := eq_false (by omega)
    have f5 : (e.op = 5) = False := eq_false (by omega)
    have f6 : (e.op = 6) = False := eq_false (by omega)
    have f21 : (e.op = 21) = False := eq_false (by omega)
    have f22 : (e.op = 22) = False := eq_false (by omega)
    have f23 : (e.op = 23) = False := eq_false (by omega)
    have f24 : (e.op = 24) = False := eq_false (by omega)
    simp [aev, cav, look, acallPure, abin, abinN, abinP, abinI, abinS, aun, aconv, afield, afieldAddr, aindexAddr, aindex, aslice, alow, ahigh, abuild, abuildGo, cellsOf, splice, fieldTy, alen, apick, amax, amin, aload, headV, aparts, abuildSlice, elParts, abytesStr, astore, amake, aappend, anew, arith, aresults, aresList, ares, spec0, spec1, spec2, spec3, spec4, eqCells, eqCell, operB, f1, f2, f3, f4, f5, f6, f21, f22, f23, f24]
  by_cases h : e.op = 2
  · have f1 : (e.op = 1) = False := eq_false (by omega)
    have f2 : (e.op = 2) = True := eq_true h
    have f3 : (e.op = 3) = False := eq_false (by omega)
    have f4 : (e.op = 4) = False := eq_false (by omega)
    have f5 : (e.op = 5) = False := eq_false (by omega)
    have f6 : (e.op = 6) = False := eq_false (by omega)
    have f21 : (e.op = 21) = False := eq_false (by omega)
    have f22 : (e.op = 22) = False := eq_false (by omega)
    have f23 : (e.op = 23) = False := eq_false (by omega)
    have f24 : (e.op = 24) = False := eq_false (by omega)
    simp [aev, cav, look, acallPure, abin, abinN, abinP, abinI, abinS, aun, aconv, afield, afieldAddr, aindexAddr, aindex, aslice, alow, ahigh, abuild, abuildGo, cellsOf, splice, fieldTy, alen, apick, amax, amin, aload, headV, aparts, abuildSlice, elParts, abytesStr, astore, amake, aappend, anew, arith, aresults, aresList, ares, spec0, spec1, spec2, spec3, spec4, eqCells, eqCell, operB, f1, f2, f3, f4, f5, f6, f21, f22, f23, f24]
  by_cases h : e.op = 3
  · have f1 : (e.op = 1) = False := eq_false (by omega)
    have f2 : (e.op = 2) = False := eq_false (by omega)
    have f3 : (e.op = 3) = True := eq_true h
    have f4 : (e.op = 4) = False := eq_false (by omega)
    have f5 : (e.op = 5) = False := eq_false (by omega)
    have f6 : (e.op = 6) = False := eq_false (by omega)
    have f21 : (e.op = 21) = False := eq_false (by omega)
    have f22 : (e.op = 22) = False := eq_false (by omega)
    have f23 : (e.op = 23) = False := eq_false (by omega)
    have f24 : (e.op = 24) = False := eq_false (by omega)
    simp [aev, cav, look, acallPure, abin, abinN, abinP, abinI, abinS, aun, aconv, afield, afieldAddr, aindexAddr, aindex, aslice, alow, ahigh, abuild, abuildGo, cellsOf, splice, fieldTy, alen, apick, amax, amin, aload, headV, aparts, abuildSlice, elParts, abytesStr, astore, amake, aappend, anew, arith, aresults, aresList, ares, spec0, spec1, spec2, spec3, spec4, eqCells, eqCell, operB, f1, f2, f3, f4, f5, f6, f21, f22, f23, f24]
  by_cases h : e.op = 4
  · have f1 : (e.op = 1) = False := eq_false (by omega)
    have f2 : (e.op = 2) = False := eq_false (by omega)
    have f3 : (e.op = 3) = False := eq_false (by omega)
    have f4 : (e.op = 4) = True := eq_true h
    have f5 : (e.op = 5) = False := eq_false (by omega)
    have f6 : (e.op = 6) = False := eq_false (by omega)
    have f21 : (e.op = 21) = False := eq_false (by omega)
    have f22 : (e.op = 22) = False := eq_false (by omega)
    have f23 : (e.op = 23) = False := eq_false (by omega)
    have f24 : (e.op = 24) = False := eq_false (by omega)
    simp [aev, cav, look, acallPure, abin, abinN, abinP, abinI, abinS, aun, aconv, afield, afieldAddr, aindexAddr, aindex, aslice, alow, ahigh, abuild, abuildGo, cellsOf, splice, fieldTy, alen, apick, amax, amin, aload, headV, aparts, abuildSlice, elParts, abytesStr, astore, amake, aappend, anew, arith, aresults, aresList, ares, spec0, spec1, spec2, spec3, spec4, eqCells, eqCell, operB, f1, f2, f3, f4, f5, f6, f21, f22, f23, f24]
  by_cases h : e.op = 5
  · have f1 : (e.op = 1) = False := eq_false (by omega)
    have f2 : (e.op = 2) = False := eq_false (by omega)
    have f3 : (e.op = 3) = False := eq_false (by omega)
    have f4 : (e.op = 4) = False := eq_false (by omega)
    have f5 : (e.op = 5) = True := eq_true h
    have f6 : (e.op = 6) = False := eq_false (by omega)
    have f21 : (e.op = 21) = False := eq_false (by omega)
    have f22 : (e.op = 22) = False := eq_false (by omega)
    have f23 : (e.op = 23) = False := eq_false (by omega)
    have f24 : (e.op = 24) = False := eq_false (by omega)
    simp [aev, cav, look, acallPure, abin, abinN, abinP, abinI, abinS, aun, aconv, afield, afieldAddr, aindexAddr, aindex, aslice, alow, ahigh, abuild, abuildGo, cellsOf, splice, fieldTy, alen, apick, amax, amin, aload, headV, aparts, abuildSlice, elParts, abytesStr, astore, amake, aappend, anew, arith, aresults, aresList, ares, spec0, spec1, spec2, spec3, spec4, eqCells, eqCell, operB, f1, f2, f3, f4, f5, f6, f21, f22, f23, f24]
  by_cases h : e.op = 6
  · have f1 : (e.op = 1) = False := eq_false (by omega)
    have f2 : (e.op = 2) = False := eq_false (by omega)
    have f3 : (e.op = 3) = False := eq_false (by omega)
    have f4 : (e.op = 4) = False := eq_false (by omega)
    have f5 : (e.op = 5) = False := eq_false (by omega)
    have f6 : (e.op = 6) = True := eq_true h
    have f21 : (e.op = 21) = False := eq_false (by omega)
    have f22 : (e.op = 22) = False := eq_false (by omega)
    have f23 : (e.op = 23) = False := eq_false (by omega)
    have f24 : (e.op = 24) = False := eq_false (by omega)
    simp [aev, cav, look, acallPure, abin, abinN, abinP, abinI, abinS, aun, aconv, afield, afieldAddr, aindexAddr, aindex, aslice, alow, ahigh, abuild, abuildGo, cellsOf, splice, fieldTy, alen, apick, amax, amin, aload, headV, aparts, abuildSlice, elParts, abytesStr, astore, amake, aappend, anew, arith, aresults, aresList, ares, spec0, spec1, spec2, spec3, spec4, eqCells, eqCell, operB, f1, f2, f3, f4, f5, f6, f21, f22, f23, f24]
  by_cases h : e.op = 21
  · have f1 : (e.op = 1) = False := eq_false (by omega)
    have f2 : (e.op = 2) = False := eq_false (by omega)
    have f3 : (e.op = 3) = False := eq_false (by omega)
    have f4 : (e.op = 4) = False := eq_false (by omega)
    have f5 : (e.op = 5) = False := eq_false (by omega)
    have f6 : (e.op = 6) = False := eq_false (by omega)
    have f21 : (e.op = 21) = True := eq_true h
    have f22 : (e.op = 22) = False := eq_false (by omega)
    have f23 : (e.op = 23) = False := eq_false (by omega)
    have f24 : (e.op = 24) = False := eq_false (by omega)
    simp [aev, cav, look, acallPure, abin, abinN, abinP, abinI, abinS, aun, aconv, afield, afieldAddr, aindexAddr, aindex, aslice, alow, ahigh, abuild, abuildGo, cellsOf, splice, fieldTy, alen, apick, amax, amin, aload, headV, aparts, abuildSlice, elParts, abytesStr, astore, amake, aappend, anew, arith, aresults, aresList, ares, spec0, spec1, spec2, spec3, spec4, eqCells, eqCell, operB, f1, f2, f3, f4, f5, f6, f21, f22, f23, f24]
  by_cases h : e.op = 22
  · have f1 : (e.op = 1) = False := eq_false (by omega)
    have f2 : (e.op = 2) = False := eq_false (by omega)
    have f3 : (e.op = 3) = False := eq_false (by omega)
    have f4 : (e.op = 4) = False := eq_false (by omega)
    have f5 : (e.op = 5) = False := eq_false (by omega)
    have f6 : (e.op = 6) = False := eq_false (by omega)
    have f21 : (e.op = 21) = False := eq_false (by omega)
    have f22 : (e.op = 22) = True := eq_true h
    have f23 : (e.op = 23) = False := eq_false (by omega)
    have f24 : (e.op = 24) = False := eq_false (by omega)
    simp [aev, cav, look, acallPure, abin, abinN, abinP, abinI, abinS, aun, aconv, afield, afieldAddr, aindexAddr, aindex, aslice, alow, ahigh, abuild, abuildGo, cellsOf, splice, fieldTy, alen, apick, amax, amin, aload, headV, aparts, abuildSlice, elParts, abytesStr, astore, amake, aappend, anew, arith, aresults, aresList, ares, spec0, spec1, spec2, spec3, spec4, eqCells, eqCell, operB, f1, f2, f3, f4, f5, f6, f21, f22, f23, f24]
  by_cases h : e.op = 23
  · have f1 : (e.op = 1) = False := eq_false (by omega)
    have f2 : (e.op = 2) = False := eq_false (by omega)
    have f3 : (e.op = 3) = False := eq_false (by omega)
    have f4 : (e.op = 4) = False := eq_false (by omega)
    have f5 : (e.op = 5) = False := eq_false (by omega)
    have f6 : (e.op = 6) = False := eq_false (by omega)
    have f21 : (e.op = 21) = False := eq_false (by omega)
    have f22 : (e.op = 22) = False := eq_false (by omega)
    have f23 : (e.op = 23) = True := eq_true h
    have f24 : (e.op = 24) = False := eq_false (by omega)
    by_cases a0 : arLo e.name = 0
    · have a1 := (arHi_lo e.name).2 a0
      simp [aev, cav, look, acallPure, abin, abinN, abinP, abinI, abinS, aun, aconv, afield, afieldAddr, aindexAddr, aindex, aslice, alow, ahigh, abuild, abuildGo, cellsOf, splice, fieldTy, alen, apick, amax, amin, aload, headV, aparts, abuildSlice, elParts, abytesStr, astore, amake, aappend, anew, arith, aresults, aresList, ares, spec0, spec1, spec2, spec3, spec4, eqCells, eqCell, operB, sAr, f1, f2, f3, f4, f5, f6, f21, f22, f23, f24, a0, a1]
    · have a1 : ¬ arHi e.name = 0 := fun h => a0 ((arHi_lo e.name).1 h)
      by_cases a2 : arLo e.name ≤ (e.kids.length : Int) <;> by_cases a3 : (e.kids.length : Int) ≤ arHi e.name <;> simp [aev, cav, look, acallPure, abin, abinN, abinP, abinI, abinS, aun, aconv, afield, afieldAddr, aindexAddr, aindex, aslice, alow, ahigh, abuild, abuildGo, cellsOf, splice, fieldTy, alen, apick, amax, amin, aload, headV, aparts, abuildSlice, elParts, abytesStr, astore, amake, aappend, anew, arith, aresults, aresList, ares, spec0, spec1, spec2, spec3, spec4, eqCells, eqCell, operB, sAr, f1, f2, f3, f4, f5, f6, f21, f22, f23, f24, a0, a1, a2, a3]
  by_cases h : e.op = 24
  · have f1 : (e.op = 1) = False := eq_false (by omega)
    have f2 : (e.op = 2) = False := eq_false (by omega)
    have f3 : (e.op = 3) = False := eq_false (by omega)
    have f4 : (e.op = 4) = False := eq_false (by omega)
    have f5 : (e.op = 5) = False := eq_false (by omega)
    have f6 : (e.op = 6) = False := eq_false (by omega)
    have f21 : (e.op = 21) = False := eq_false (by omega)
    have f22 : (e.op = 22) = False := eq_false (by omega)
    have f23 : (e.op = 23) = False := eq_false (by omega)
    have f24 : (e.op = 24) = True := eq_true h
    by_cases a0 : e.kids.length = 1
    · simp [aev, cav, look, acallPure, abin, abinN, abinP, abinI, abinS, aun, aconv, afield, afieldAddr, aindexAddr, aindex, aslice, alow, ahigh, abuild, abuildGo, cellsOf, splice, fieldTy, alen, apick, amax, amin, aload, headV, aparts, abuildSlice, elParts, abytesStr, astore, amake, aappend, anew, arith, aresults, aresList, ares, spec0, spec1, spec2, spec3, spec4, eqCells, eqCell, operB, f1, f2, f3, f4, f5, f6, f21, f22, f23, f24, a0]
    · have a0' : ¬ (e.kids.length : Int) = 1 := by omega
      by_cases a1 : e.kids.length = 0
      · have a1' : (e.kids.length : Int) = 0 := by omega
        have a2 : e.kids = [] := List.length_eq_zero_iff.1 a1
        by_cases a3 : e.name = ⟨#[99, 111, 117, 110, 116]⟩ <;> cases a4 : e.dist <;> simp [aev, cav, look, acallPure, abin, abinN, abinP, abinI, abinS, aun, aconv, afield, afieldAddr, aindexAddr, aindex, aslice, alow, ahigh, abuild, abuildGo, cellsOf, splice, fieldTy, alen, apick, amax, amin, aload, headV, aparts, abuildSlice, elParts, abytesStr, astore, amake, aappend, anew, arith, aresults, aresList, ares, spec0, spec1, spec2, spec3, spec4, eqCells, eqCell, operB, f1, f2, f3, f4, f5, f6, f21, f22, f23, f24, a2, a3, a4]
      · have a1' : ¬ (e.kids.length : Int) = 0 := by omega
        have a2 : ¬ e.kids = [] := fun h => a1 (by rw [h]; rfl)
        simp [aev, cav, look, acallPure, abin, abinN, abinP, abinI, abinS, aun, aconv, afield, afieldAddr, aindexAddr, aindex, aslice, alow, ahigh, abuild, abuildGo, cellsOf, splice, fieldTy, alen, apick, amax, amin, aload, headV, aparts, abuildSlice, elParts, abytesStr, astore, amake, aappend, anew, arith, aresults, aresList, ares, spec0, spec1, spec2, spec3, spec4, eqCells, eqCell, operB, f1, f2, f3, f4, f5, f6, f21, f22, f23, f24, a0, a0', a1, a1', a2]
  have f1 : (e.op = 1) = False := eq_false (by assumption)
  have f2 : (e.op = 2) = False := eq_false (by assumption)
  have f3 : (e.op = 3) = False := eq_false (by assumption)
  have f4 : (e.op = 4) = False := eq_false (by assumption)
  have f5 : (e.op = 5) = False := eq_false (by assumption)
  have f6 : (e.op = 6) = False := eq_false (by assumption)
  have f21 : (e.op = 21) = False := eq_false (by assumption)
  have f22 : (e.op = 22) = False := eq_false (by assumption)
  have f23 : (e.op = 23) = False := eq_false (by assumption)
  have f24 : (e.op = 24) = False := eq_false (by assumption)
  simp [aev, cav, look, acallPure, abin, abinN, abinP, abinI, abinS, aun, aconv, afield, afieldAddr, aindexAddr, aindex, aslice, alow, ahigh, abuild, abuildGo, cellsOf, splice, fieldTy, alen, apick, amax, amin, aload, headV, aparts, abuildSlice, elParts, abytesStr, astore, amake, aappend, anew, arith, aresults, aresList, ares, spec0, spec1, spec2, spec3, spec4, eqCells, eqCell, operB, f1, f2, f3, f4, f5, f6, f21, f22, f23, f24]
set_option maxHeartbeats 8000000 in
theorem operR : PureOK Tryz.prog (G m) 90 (spec1 (fun (_ : Expr) => True) (fun e => .bool (operB e))) := by
  refine pure1 (C := CA m) (sigCA m) (mixCA m) Tryz.func90 rfl rfl rfl (by kernel_rfl) (by decide) (fun e _ => ?_)
  by_cases h : e.op = 1
  · have f1 : (e.op = 1) = True := eq_true h
    have f2 : (e.op = 2) = False := eq_false (by omega)
    have f3 : (e.op = 3) = False := eq_false (by omega)
    have f4 : (e.op = 4) = False := eq_false (by omega)
    have f5 : (e.op = 5) = False := eq_false (by omega)
    have f6 : (e.op = 6) = False := eq_false (by omega)
    have f21 : (e.op = 21) = False := eq_false (by omega)
    have f22 : (e.op = 22) = False := eq_false (by omega)
    have f23 : (e.op = 23) = False := eq_false (by omega)
    have f24 : (e.op = 24) = False := eq_false (by omega)
    simp [aev, cav, look, acallPure, abin, abinN, abinP, abinI, abinS, aun, aconv, afield, afieldAddr, aindexAddr, aindex, aslice, alow, ahigh, abuild, abuildGo, cellsOf, splice, fieldTy, alen, apick, amax, amin, aload, headV, aparts, abuildSlice, elParts, abytesStr, astore, amake, aappend, anew, arith, aresults, aresList, ares, spec0, spec1, spec2, spec3, spec4, eqCells, eqCell, operB, f1, f2, f3, f4, f5, f6, f21, f22, f23, f24]
  by_cases h : e.op = 2
  · have f1 : (e.op = 1) = False := eq_false (by omega)
    have f2 : (e.op = 2) = True := eq_true h
    have f3 : (e.op = 3) = False := eq_false (by omega)
    have f4 : (e.op = 4) = False := eq_false (by omega)
    have f5 : (e.op = 5) = False := eq_false (by omega)
    have f6 : (e.op = 6) = False := eq_false (by omega)
    have f21 : (e.op = 21) = False := eq_false (by omega)
    have f22 : (e.op = 22) = False := eq_false (by omega)
    have f23 : (e.op = 23) = False := eq_false (by omega)
    have f24 : (e.op = 24) = False := eq_false (by omega)
    simp [aev, cav, look, acallPure, abin, abinN, abinP, abinI, abinS, aun, aconv, afield, afieldAddr, aindexAddr, aindex, aslice, alow, ahigh, abuild, abuildGo, cellsOf, splice, fieldTy, alen, apick, amax, amin, aload, headV, aparts, abuildSlice, elParts, abytesStr, astore, amake, aappend, anew, arith, aresults, aresList, ares, spec0, spec1, spec2, spec3, spec4, eqCells, eqCell, operB, f1, f2, f3, f4, f5, f6, f21, f22, f23, f24]
  by_cases h : e.op = 3
  · have f1 : (e.op = 1) = False := eq_false (by omega)
    have f2 : (e.op = 2) = False := eq_false (by omega)
    have f3 : (e.op = 3) = True := eq_true h
    have f4 : (e.op = 4) = False := eq_false (by omega)
    have f5 : (e.op = 5) = False := eq_false (by omega)
    have f6 : (e.op = 6) = False := eq_false (by omega)
    have f21 : (e.op = 21) = False := eq_false (by omega)
    have f22 : (e.op = 22) = False := eq_false (by omega)
    have f23 : (e.op = 23) = False := eq_false (by omega)
    have f24 : (e.op = 24) = False := eq_false (by omega)
    simp [aev, cav, look, acallPure, abin, abinN, abinP, abinI, abinS, aun, aconv, afield, afieldAddr, aindexAddr, aindex, aslice, alow, ahigh, abuild, abuildGo, cellsOf, splice, fieldTy, alen, apick, amax, amin, aload, headV, aparts, abuildSlice, elParts, abytesStr, astore, amake, aappend, anew, arith, aresults, aresList, ares, spec0, spec1, spec2, spec3, spec4, eqCells, eqCell, operB, f1, f2, f3, f4, f5, f6, f21, f22, f23, f24]
  by_cases h : e.op = 4
  · have f1 : (e.op = 1) = False := eq_false (by omega)
    have f2 : (e.op = 2) = False := eq_false (by omega)
    have f3 : (e.op = 3) = False := eq_false (by omega)
    have f4 : (e.op = 4) = True := eq_true h
    have f5 : (e.op = 5) = False := eq_false (by omega)
    have f6 : (e.op = 6) = False := eq_false (by omega)
    have f21 : (e.op = 21) = False := eq_false (by omega)
    have f22 : (e.op = 22) = False := eq_false (by omega)
    have f23 : (e.op = 23) = False := eq_false (by omega)
    have f24 : (e.op = 24) = False := eq_false (by omega)
    simp [aev, cav, look, acallPure, abin, abinN, abinP, abinI, abinS, aun, aconv, afield, afieldAddr, aindexAddr, aindex, aslice, alow, ahigh, abuild, abuildGo, cellsOf, splice, fieldTy, alen, apick, amax, amin, aload, headV, aparts, abuildSlice, elParts, abytesStr, astore, amake, aappend, anew, arith, aresults, aresList, ares, spec0, spec1, spec2, spec3, spec4, eqCells, eqCell, operB, f1, f2, f3, f4, f5, f6, f21, f22, f23, f24]
  by_cases h : e.op = 5
  · have f1 : (e.op = 1) = False := eq_false (by omega)
    have f2 : (e.op = 2) = False := eq_false (by omega)
    have f3 : (e.op = 3) = False := eq_false (by omega)
    have f4 : (e.op = 4) = False := eq_false (by omega)
    have f5 : (e.op = 5) = True := eq_true h
    have f6 : (e.op = 6) = False := eq_false (by omega)
    have f21 : (e.op = 21) = False := eq_false (by omega)
    have f22 : (e.op = 22) = False := eq_false (by omega)
    have f23 : (e.op = 23) = False := eq_false (by omega)
    have f24 : (e.op = 24) = False := eq_false (by omega)
    simp [aev, cav, look, acallPure, abin, abinN, abinP, abinI, abinS, aun, aconv, afield, afieldAddr, aindexAddr, aindex, aslice, alow, ahigh, abuild, abuildGo, cellsOf, splice, fieldTy, alen, apick, amax, amin, aload, headV, aparts, abuildSlice, elParts, abytesStr, astore, amake, aappend, anew, arith, aresults, aresList, ares, spec0, spec1, spec2, spec3, spec4, eqCells, eqCell, operB, f1, f2, f3, f4, f5, f6, f21, f22, f23, f24]
  by_cases h : e.op = 6
  · have f1 : (e.op = 1) = False := eq_false (by omega)
    have f2 : (e.op = 2) = False := eq_false (by omega)
    have f3 : (e.op = 3) = False := eq_false (by omega)
    have f4 : (e.op = 4) = False := eq_false (by omega)
    have f5 : (e.op = 5) = False := eq_false (by omega)
    have f6 : (e.op = 6) = True := eq_true h
    have f21 : (e.op = 21) = False := eq_false (by omega)
    have f22 : (e.op = 22) = False := eq_false (by omega)
    have f23 : (e.op = 23) = False := eq_false (by omega)
    have f24 : (e.op = 24) = False := eq_false (by omega)
    simp [aev, cav, look, acallPure, abin, abinN, abinP, abinI, abinS, aun, aconv, afield, afieldAddr, aindexAddr, aindex, aslice, alow, ahigh, abuild, abuildGo, cellsOf, splice, fieldTy, alen, apick, amax, amin, aload, headV, aparts, abuildSlice, elParts, abytesStr, astore, amake, aappend, anew, arith, aresults, aresList, ares, spec0, spec1, spec2, spec3, spec4, eqCells, eqCell, operB, f1, f2, f3, f4, f5, f6, f21, f22, f23, f24]
  by_cases h : e.op = 21
  · have f1 : (e.op = 1) = False := eq_false (by omega)
    have f2 : (e.op = 2) = False := eq_false (by omega)
    have f3 : (e.op = 3) = False := eq_false (by omega)
    have f4 : (e.op = 4) = False := eq_false (by omega)
    have f5 : (e.op = 5) = False := eq_false (by omega)
    have f6 : (e.op = 6) = False := eq_false (by omega)
    have f21 : (e.op = 21) = True := eq_true h
    have f22 : (e.op = 22) = False := eq_false (by omega)
    have f23 : (e.op = 23) = False := eq_false (by omega)
    have f24 : (e.op = 24) = False := eq_false (by omega)
    simp [aev, cav, look, acallPure, abin, abinN, abinP, abinI, abinS, aun, aconv, afield, afieldAddr, aindexAddr, aindex, aslice, alow, ahigh, abuild, abuildGo, cellsOf, splice, fieldTy, alen, apick, amax, amin, aload, headV, aparts, abuildSlice, elParts, abytesStr, astore, amake, aappend, anew, arith, aresults, aresList, ares, spec0, spec1, spec2, spec3, spec4, eqCells, eqCell, operB, f1, f2, f3, f4, f5, f6, f21, f22, f23, f24]
  by_cases h : e.op = 22
  · have f1 : (e.op = 1) = False := eq_false (by omega)
    have f2 : (e.op = 2) = False := eq_false (by omega)
    have f3 : (e.op = 3) = False := eq_false (by omega)
    have f4 : (e.op = 4) = False := eq_false (by omega)
    have f5 : (e.op = 5) = False := eq_false (by omega)
    have f6 : (e.op = 6) = False := eq_false (by omega)
    have f21 : (e.op = 21) = False := eq_false (by omega)
    have f22 : (e.op = 22) = True := eq_true h
    have f23 : (e.op = 23) = False := eq_false (by omega)
    have f24 : (e.op = 24) = False := eq_false (by omega)
    simp [aev, cav, look, acallPure, abin, abinN, abinP, abinI, abinS, aun, aconv, afield, afieldAddr, aindexAddr, aindex, aslice, alow, ahigh, abuild, abuildGo, cellsOf, splice, fieldTy, alen, apick, amax, amin, aload, headV, aparts, abuildSlice, elParts, abytesStr, astore, amake, aappend, anew, arith, aresults, aresList, ares, spec0, spec1, spec2, spec3, spec4, eqCells, eqCell, operB, f1, f2, f3, f4, f5, f6, f21, f22, f23, f24]
  by_cases h : e.op = 23
  · have f1 : (e.op = 1) = False := eq_false (by omega)
    have f2 : (e.op = 2) = False := eq_false (by omega)
    have f3 : (e.op = 3) = False := eq_false (by omega)
    have f4 : (e.op = 4) = False := eq_false (by omega)
    have f5 : (e.op = 5) = False := eq_false (by omega)
    have f6 : (e.op = 6) = False := eq_false (by omega)
    have f21 : (e.op = 21) = False := eq_false (by omega)
    have f22 : (e.op = 22) = False := eq_false (by omega)
    have f23 : (e.op = 23) = True := eq_true h
    have f24 : (e.op = 24) = False := eq_false (by omega)
    by_cases a0 : arLo e.name = 0
    · have a1 := (arHi_lo e.name).2 a0
      simp [aev, cav, look, acallPure, abin, abinN, abinP, abinI, abinS, aun, aconv, afield, afieldAddr, aindexAddr, aindex, aslice, alow, ahigh, abuild, abuildGo, cellsOf, splice, fieldTy, alen, apick, amax, amin, aload, headV, aparts, abuildSlice, elParts, abytesStr, astore, amake, aappend, anew, arith, aresults, aresList, ares, spec0, spec1, spec2, spec3, spec4, eqCells, eqCell, operB, sAr, f1, f2, f3, f4, f5, f6, f21, f22, f23, f24, a0, a1]
    · have a1 : ¬ arHi e.name = 0 := fun h => a0 ((arHi_lo e.name).1 h)
      by_cases a2 : arLo e.name ≤ (e.kids.length : Int) <;> by_cases a3 : (e.kids.length : Int) ≤ arHi e.name <;> simp [aev, cav, look, acallPure, abin, abinN, abinP, abinI, abinS, aun, aconv, afield, afieldAddr, aindexAddr, aindex, aslice, alow, ahigh, abuild, abuildGo, cellsOf, splice, fieldTy, alen, apick, amax, amin, aload, headV, aparts, abuildSlice, elParts, abytesStr, astore, amake, aappend, anew, arith, aresults, aresList, ares, spec0, spec1, spec2, spec3, spec4, eqCells, eqCell, operB, sAr, f1, f2, f3, f4, f5, f6, f21, f22, f23, f24, a0, a1, a2, a3]
  by_cases h : e.op = 24
  · have f1 : (e.op = 1) = False := eq_false (by omega)
    have f2 : (e.op = 2) = False := eq_false (by omega)
    have f3 : (e.op = 3) = False := eq_false (by omega)
    have f4 : (e.op = 4) = False := eq_false (by omega)
    have f5 : (e.op = 5) = False := eq_false (by omega)
    have f6 : (e.op = 6) = False := eq_false (by omega)
    have f21 : (e.op = 21) = False := eq_false (by omega)
    have f22 : (e.op = 22) = False := eq_false (by omega)
    have f23 : (e.op = 23) = False := eq_false (by omega)
    have f24 : (e.op = 24) = True := eq_true h
    by_cases a0 : e.kids.length = 1
    · simp [aev, cav, look, acallPure, abin, abinN, abinP, abinI, abinS, aun, aconv, afield, afieldAddr, aindexAddr, aindex, aslice, alow, ahigh, abuild, abuildGo, cellsOf, splice, fieldTy, alen, apick, amax, amin, aload, headV, aparts, abuildSlice, elParts, abytesStr, astore, amake, aappend, anew, arith, aresults, aresList, ares, spec0, spec1, spec2, spec3, spec4, eqCells, eqCell, operB, f1, f2, f3, f4, f5, f6, f21, f22, f23, f24, a0]
    · have a0' : ¬ (e.kids.length : Int) = 1 := by omega
      by_cases a1 : e.kids.length = 0
      · have a1' : (e.kids.length : Int) = 0 := by omega
        have a2 : e.kids = [] := List.length_eq_zero_iff.1 a1
        by_cases a3 : e.name = ⟨#[99, 111, 117, 110, 116]⟩ <;> cases a4 : e.dist <;> simp [aev, cav, look, acallPure, abin, abinN, abinP, abinI, abinS, aun, aconv, afield, afieldAddr, aindexAddr, aindex, aslice, alow, ahigh, abuild, abuildGo, cellsOf, splice, fieldTy, alen, apick, amax, amin, aload, headV, aparts, abuildSlice, elParts, abytesStr, astore, amake, aappend, anew, arith, aresults, aresList, ares, spec0, spec1, spec2, spec3, spec4, eqCells, eqCell, operB, f1, f2, f3, f4, f5, f6, f21, f22, f23, f24, a2, a3, a4]
      · have a1' : ¬ (e.kids.length : Int) = 0 := by omega
        have a2 : ¬ e.kids = [] := fun h => a1 (by rw [h]; rfl)
        simp [aev, cav, look, acallPure, abin, abinN, abinP, abinI, abinS, aun, aconv, afield, afieldAddr, aindexAddr, aindex, aslice, alow, ahigh, abuild, abuildGo, cellsOf, splice, fieldTy, alen, apick, amax, amin, aload, headV, aparts, abuildSlice, elParts, abytesStr, astore, amake, aappend, anew, arith, aresults, aresList, ares, spec0, spec1, spec2, spec3, spec4, eqCells, eqCell, operB, f1, f2, f3, f4, f5, f6, f21, f22, f23, f24, a0, a0', a1, a1', a2]
  have f1 : (e.op = 1) = False := eq_false (by assumption)
  have f2 : (e.op = 2) = False := eq_false (by assumption)
  have f3 : (e.op = 3) = False := eq_false (by assumption)
  have f4 : (e.op = 4) = False := eq_false (by assumption)
  have f5 : (e.op = 5) = False := eq_false (by assumption)
  have f6 : (e.op = 6) = False := eq_false (by assumption)
  have f21 : (e.op = 21) = False := eq_false (by assumption)
  have f22 : (e.op = 22) = False := eq_false (by assumption)
  have f23 : (e.op = 23) = False := eq_false (by assumption)
  have f24 : (e.op = 24) = False := eq_false (by assumption)
  simp [aev, cav, look, acallPure, abin, abinN, abinP, abinI, abinS, aun, aconv, afield, afieldAddr, aindexAddr, aindex, aslice, alow, ahigh, abuild, abuildGo, cellsOf, splice, fieldTy, alen, apick, amax, amin, aload, headV, aparts, abuildSlice, elParts, abytesStr, astore, amake, aappend, anew, arith, aresults, aresList, ares, spec0, spec1, spec2, spec3, spec4, eqCells, eqCell, operB, f1, f2, f3, f4, f5, f6, f21, f22, f23, f24]
end
end Go.Proofs.YthcfnaglgoaikaaGreat
