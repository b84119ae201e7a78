/-
  layer 18: what an expression is without its operands. Printed by gen7.py.
-/
import Derived.Test.YthcfnaglgoaikaaGreatS6
namespace Go.Proofs.YthcfnaglgoaikaaGreat
open Go.RowKit
set_option linter.unusedSimpArgs false
set_option linter.unusedVariables false
set_option maxRecDepth 100000

theorem em2 (p : Prop) : (p = True) ∨ (p = False) := by
  by_cases h : p
  · exact .inl (eq_true h)
  · exact .inr (eq_false h)
def spareB (e : Expr) : Bool := (decide (e.op = 1) || zeroV e.v) && (namedB e.op || decide (e.name = ⟨#[]⟩)) && (decide (e.op = 24) || !e.dist)
def constB (v : Val) : Bool := zeroV v || ((decide (v.kind = 1) || decide (v.kind = 2) || decide (v.kind = 4)) && okR v 8)
def namelessB (e : Expr) : Bool :=
  if e.op = 2 ∨ e.op = 3 ∨ e.op = 4 then !wordB e.name else if e.op = 23 then decide (arLo e.name = 0) else if e.op = 24 then !decide (Agg e.name) else false

section
variable {m : Int}
def sZ : List AV → Option (Prop × AV) := spec1 (fun (_ : Val) => True) (fun v => .bool (zeroV v))
def sVal : List AV → Option (Prop × AV) := spec1 (fun (v : Val) => WfV v ∧ (v.kind = 1 ∨ v.kind = 2 ∨ v.kind = 4)) (fun v => .bool (okR v 8))
def sWord : List AV → Option (Prop × AV) := spec1 (fun (_ : ByteArray) => True) (fun s => .bool (wordB s))
def sAgg : List AV → Option (Prop × AV) := spec1 (fun (_ : ByteArray) => True) (fun s => .bool (decide (Agg s)))
noncomputable def CS (m : Int) : Ctx := mkC Tryz.prog (G m) [(84, .pure sZ), (88, .pure sVal), (29, .pure sWord), (19, .pure sAr), (21, .pure sAgg)]
@[simp] theorem CS_P (m : Int) : (CS m).P = Tryz.prog := rfl
@[simp] theorem CS_1 (m : Int) : (CS m).S 84 = .pure sZ := rfl
@[simp] theorem CS_2 (m : Int) : (CS m).S 88 = .pure sVal := rfl
@[simp] theorem CS_3 (m : Int) : (CS m).S 29 = .pure sWord := rfl
@[simp] theorem CS_4 (m : Int) : (CS m).S 19 = .pure sAr := rfl
@[simp] theorem CS_5 (m : Int) : (CS m).S 21 = .pure sAgg := rfl
theorem sigCS (m : Int) : SigOK (CS m) := sigOK_cons (entryPure blankP Tryz.func84 rfl (by decide)) (sigOK_cons (entryPure vP Tryz.func88 rfl (by decide)) (sigOK_cons (entryPure wordP Tryz.func29 rfl (by decide)) (sigOK_cons (entryPure arityP Tryz.func19 rfl (by decide)) (sigOK_cons (entryPure aggP Tryz.func21 rfl (by decide)) (sigOK_nil _ _)))))
theorem mixCS (m : Int) : (CS m).P.follows .mixedOrders = true := mixed

set_option maxHeartbeats 8000000 in
theorem spareP : PureOK Tryz.prog (G m) 74 (spec1 (fun (_ : Expr) => True) (fun e => .bool (spareB e))) := by
  refine pure1 (C := CS m) (sigCS m) (mixCS m) Tryz.func74 rfl rfl rfl (by kernel_rfl) (by decide) (fun e _ => ?_)
  by_cases h : e.op = 1
  · skip
    have f1 : (e.op = 1) = True := eq_true h
    have f2 : (e.op = 2) = False := eq_false (by omega)
    have f3 : (e.op = 3) = False := eq_false (by omega)
    have f4 : (e.op = 4) = False := eq_false (by omega)
    have f23 : (e.op = 23) = False := eq_false (by omega)
    have f24 : (e.op = 24) = False := eq_false (by omega)
    rcases em2 (e.name = ⟨#[]⟩) with hn | hn <;> cases hd : e.dist <;> simp [aev, cav, look, acallPure, abin, abinN, abinP, abinI, abinS, aun, aconv, afield, afieldAddr, aindexAddr, aindex, aslice, alow, ahigh, abuild, abuildGo, cellsOf, splice, fieldTy, alen, apick, amax, amin, aload, headV, aparts, abuildSlice, elParts, abytesStr, astore, amake, aappend, anew, arith, aresults, aresList, ares, spec0, spec1, spec2, spec3, spec4, eqCells, eqCell, spareB, namedB, sZ, f1, f2, f3, f4, f23, f24, hn, hd]
  by_cases h : e.op = 2
  · skip
    have f1 : (e.op = 1) = False := eq_false (by omega)
    have f2 : (e.op = 2) = True := eq_true h
    have f3 : (e.op = 3) = False := eq_false (by omega)
    have f4 : (e.op = 4) = False := eq_false (by omega)
    have f23 : (e.op = 23) = False := eq_false (by omega)
    have f24 : (e.op = 24) = False := eq_false (by omega)
    cases hz : zeroV e.v <;> cases hd : e.dist <;> simp [aev, cav, look, acallPure, abin, abinN, abinP, abinI, abinS, aun, aconv, afield, afieldAddr, aindexAddr, aindex, aslice, alow, ahigh, abuild, abuildGo, cellsOf, splice, fieldTy, alen, apick, amax, amin, aload, headV, aparts, abuildSlice, elParts, abytesStr, astore, amake, aappend, anew, arith, aresults, aresList, ares, spec0, spec1, spec2, spec3, spec4, eqCells, eqCell, spareB, namedB, sZ, f1, f2, f3, f4, f23, f24, hz, hd]
  by_cases h : e.op = 3
  · skip
    have f1 : (e.op = 1) = False := eq_false (by omega)
    have f2 : (e.op = 2) = False := eq_false (by omega)
    have f3 : (e.op = 3) = True := eq_true h
    have f4 : (e.op = 4) = False := eq_false (by omega)
    have f23 : (e.op = 23) = False := eq_false (by omega)
    have f24 : (e.op = 24) = False := eq_false (by omega)
    cases hz : zeroV e.v <;> cases hd : e.dist <;> simp [aev, cav, look, acallPure, abin, abinN, abinP, abinI, abinS, aun, aconv, afield, afieldAddr, aindexAddr, aindex, aslice, alow, ahigh, abuild, abuildGo, cellsOf, splice, fieldTy, alen, apick, amax, amin, aload, headV, aparts, abuildSlice, elParts, abytesStr, astore, amake, aappend, anew, arith, aresults, aresList, ares, spec0, spec1, spec2, spec3, spec4, eqCells, eqCell, spareB, namedB, sZ, f1, f2, f3, f4, f23, f24, hz, hd]
  by_cases h : e.op = 4
  · skip
    have f1 : (e.op = 1) = False := eq_false (by omega)
    have f2 : (e.op = 2) = False := eq_false (by omega)
    have f3 : (e.op = 3) = False := eq_false (by omega)
    have f4 : (e.op = 4) = True := eq_true h
    have f23 : (e.op = 23) = False := eq_false (by omega)
    have f24 : (e.op = 24) = False := eq_false (by omega)
    cases hz : zeroV e.v <;> cases hd : e.dist <;> simp [aev, cav, look, acallPure, abin, abinN, abinP, abinI, abinS, aun, aconv, afield, afieldAddr, aindexAddr, aindex, aslice, alow, ahigh, abuild, abuildGo, cellsOf, splice, fieldTy, alen, apick, amax, amin, aload, headV, aparts, abuildSlice, elParts, abytesStr, astore, amake, aappend, anew, arith, aresults, aresList, ares, spec0, spec1, spec2, spec3, spec4, eqCells, eqCell, spareB, namedB, sZ, f1, f2, f3, f4, f23, f24, hz, hd]
  by_cases h : e.op = 23
  · skip
    have f1 : (e.op = 1) = False := eq_false (by omega)
    have f2 : (e.op = 2) = False := eq_false (by omega)
    have f3 : (e.op = 3) = False := eq_false (by omega)
    have f4 : (e.op = 4) = False := eq_false (by omega)
    have f23 : (e.op = 23) = True := eq_true h
    have f24 : (e.op = 24) = False := eq_false (by omega)
    cases hz : zeroV e.v <;> cases hd : e.dist <;> simp [aev, cav, look, acallPure, abin, abinN, abinP, abinI, abinS, aun, aconv, afield, afieldAddr, aindexAddr, aindex, aslice, alow, ahigh, abuild, abuildGo, cellsOf, splice, fieldTy, alen, apick, amax, amin, aload, headV, aparts, abuildSlice, elParts, abytesStr, astore, amake, aappend, anew, arith, aresults, aresList, ares, spec0, spec1, spec2, spec3, spec4, eqCells, eqCell, spareB, namedB, sZ, f1, f2, f3, f4, f23, f24, hz, hd]
  by_cases h : e.op = 24
  · skip
    have f1 : (e.op = 1) = False := eq_false (by omega)
    have f2 : (e.op = 2) = False := eq_false (by omega)
    have f3 : (e.op = 3) = False := eq_false (by omega)
    have f4 : (e.op = 4) = False := eq_false (by omega)
    have f23 : (e.op = 23) = False := eq_false (by omega)
    have f24 : (e.op = 24) = True := eq_true h
    cases hz : zeroV e.v <;> simp [aev, cav, look, acallPure, abin, abinN, abinP, abinI, abinS, aun, aconv, afield, afieldAddr, aindexAddr, aindex, aslice, alow, ahigh, abuild, abuildGo, cellsOf, splice, fieldTy, alen, apick, amax, amin, aload, headV, aparts, abuildSlice, elParts, abytesStr, astore, amake, aappend, anew, arith, aresults, aresList, ares, spec0, spec1, spec2, spec3, spec4, eqCells, eqCell, spareB, namedB, sZ, f1, f2, f3, f4, f23, f24, hz]
  have f1 : (e.op = 1) = False := eq_false (by assumption)
  have f2 : (e.op = 2) = False := eq_false (by assumption)
  have f3 : (e.op = 3) = False := eq_false (by assumption)
  have f4 : (e.op = 4) = False := eq_false (by assumption)
  have f23 : (e.op = 23) = False := eq_false (by assumption)
  have f24 : (e.op = 24) = False := eq_false (by assumption)
  cases hz : zeroV e.v <;> rcases em2 (e.name = ⟨#[]⟩) with hn | hn <;> cases hd : e.dist <;> simp [aev, cav, look, acallPure, abin, abinN, abinP, abinI, abinS, aun, aconv, afield, afieldAddr, aindexAddr, aindex, aslice, alow, ahigh, abuild, abuildGo, cellsOf, splice, fieldTy, alen, apick, amax, amin, aload, headV, aparts, abuildSlice, elParts, abytesStr, astore, amake, aappend, anew, arith, aresults, aresList, ares, spec0, spec1, spec2, spec3, spec4, eqCells, eqCell, spareB, namedB, sZ, f1, f2, f3, f4, f23, f24, hz, hn, hd]

set_option maxHeartbeats 8000000 in
theorem constP : PureOK Tryz.prog (G m) 75 (spec1 (fun (v : Val) => WfV v) (fun v => .bool (constB v))) := by
  refine pure1 (C := CS m) (sigCS m) (mixCS m) Tryz.func75 rfl rfl rfl (by kernel_rfl) (by decide) (fun v hw => ?_)
  cases hz : zeroV v
  · rcases em2 (v.kind = 1) with h1 | h1
    · simp [aev, cav, look, acallPure, abin, abinN, abinP, abinI, abinS, aun, aconv, afield, afieldAddr, aindexAddr, aindex, aslice, alow, ahigh, abuild, abuildGo, cellsOf, splice, fieldTy, alen, apick, amax, amin, aload, headV, aparts, abuildSlice, elParts, abytesStr, astore, amake, aappend, anew, arith, aresults, aresList, ares, spec0, spec1, spec2, spec3, spec4, eqCells, eqCell, constB, sZ, sVal, hz, hw, h1]
    rcases em2 (v.kind = 2) with h2 | h2
    · simp [aev, cav, look, acallPure, abin, abinN, abinP, abinI, abinS, aun, aconv, afield, afieldAddr, aindexAddr, aindex, aslice, alow, ahigh, abuild, abuildGo, cellsOf, splice, fieldTy, alen, apick, amax, amin, aload, headV, aparts, abuildSlice, elParts, abytesStr, astore, amake, aappend, anew, arith, aresults, aresList, ares, spec0, spec1, spec2, spec3, spec4, eqCells, eqCell, constB, sZ, sVal, hz, hw, h1, h2]
    rcases em2 (v.kind = 4) with h4 | h4 <;> simp [aev, cav, look, acallPure, abin, abinN, abinP, abinI, abinS, aun, aconv, afield, afieldAddr, aindexAddr, aindex, aslice, alow, ahigh, abuild, abuildGo, cellsOf, splice, fieldTy, alen, apick, amax, amin, aload, headV, aparts, abuildSlice, elParts, abytesStr, astore, amake, aappend, anew, arith, aresults, aresList, ares, spec0, spec1, spec2, spec3, spec4, eqCells, eqCell, constB, sZ, sVal, hz, hw, h1, h2, h4]
  · simp [aev, cav, look, acallPure, abin, abinN, abinP, abinI, abinS, aun, aconv, afield, afieldAddr, aindexAddr, aindex, aslice, alow, ahigh, abuild, abuildGo, cellsOf, splice, fieldTy, alen, apick, amax, amin, aload, headV, aparts, abuildSlice, elParts, abytesStr, astore, amake, aappend, anew, arith, aresults, aresList, ares, spec0, spec1, spec2, spec3, spec4, eqCells, eqCell, constB, sZ, hz]

set_option maxHeartbeats 8000000 in
theorem namelessP : PureOK Tryz.prog (G m) 76 (spec1 (fun (_ : Expr) => True) (fun e => .bool (namelessB e))) := by
  refine pure1 (C := CS m) (sigCS m) (mixCS m) Tryz.func76 rfl rfl rfl (by kernel_rfl) (by decide) (fun e _ => ?_)
  by_cases h : e.op = 1
  · skip
    have f1 : (e.op = 1) = True := eq_true h
    have f2 : (e.op = 2) = False := eq_false (by omega)
    have f3 : (e.op = 3) = False := eq_false (by omega)
    have f4 : (e.op = 4) = False := eq_false (by omega)
    have f23 : (e.op = 23) = False := eq_false (by omega)
    have f24 : (e.op = 24) = False := eq_false (by omega)
    simp [aev, cav, look, acallPure, abin, abinN, abinP, abinI, abinS, aun, aconv, afield, afieldAddr, aindexAddr, aindex, aslice, alow, ahigh, abuild, abuildGo, cellsOf, splice, fieldTy, alen, apick, amax, amin, aload, headV, aparts, abuildSlice, elParts, abytesStr, astore, amake, aappend, anew, arith, aresults, aresList, ares, spec0, spec1, spec2, spec3, spec4, eqCells, eqCell, namelessB, sWord, sAr, sAgg, f1, f2, f3, f4, f23, f24]
  by_cases h : e.op = 2
  · skip
    have f1 : (e.op = 1) = False := eq_false (by omega)
    have f2 : (e.op = 2) = True := eq_true h
    have f3 : (e.op = 3) = False := eq_false (by omega)
    have f4 : (e.op = 4) = False := eq_false (by omega)
    have f23 : (e.op = 23) = False := eq_false (by omega)
    have f24 : (e.op = 24) = False := eq_false (by omega)
    simp [aev, cav, look, acallPure, abin, abinN, abinP, abinI, abinS, aun, aconv, afield, afieldAddr, aindexAddr, aindex, aslice, alow, ahigh, abuild, abuildGo, cellsOf, splice, fieldTy, alen, apick, amax, amin, aload, headV, aparts, abuildSlice, elParts, abytesStr, astore, amake, aappend, anew, arith, aresults, aresList, ares, spec0, spec1, spec2, spec3, spec4, eqCells, eqCell, namelessB, sWord, sAr, sAgg, f1, f2, f3, f4, f23, f24]
  by_cases h : e.op = 3
  · skip
    have f1 : (e.op = 1) = False := eq_false (by omega)
    have f2 : (e.op = 2) = False := eq_false (by omega)
    have f3 : (e.op = 3) = True := eq_true h
    have f4 : (e.op = 4) = False := eq_false (by omega)
    have f23 : (e.op = 23) = False := eq_false (by omega)
    have f24 : (e.op = 24) = False := eq_false (by omega)
    simp [aev, cav, look, acallPure, abin, abinN, abinP, abinI, abinS, aun, aconv, afield, afieldAddr, aindexAddr, aindex, aslice, alow, ahigh, abuild, abuildGo, cellsOf, splice, fieldTy, alen, apick, amax, amin, aload, headV, aparts, abuildSlice, elParts, abytesStr, astore, amake, aappend, anew, arith, aresults, aresList, ares, spec0, spec1, spec2, spec3, spec4, eqCells, eqCell, namelessB, sWord, sAr, sAgg, f1, f2, f3, f4, f23, f24]
  by_cases h : e.op = 4
  · skip
    have f1 : (e.op = 1) = False := eq_false (by omega)
    have f2 : (e.op = 2) = False := eq_false (by omega)
    have f3 : (e.op = 3) = False := eq_false (by omega)
    have f4 : (e.op = 4) = True := eq_true h
    have f23 : (e.op = 23) = False := eq_false (by omega)
    have f24 : (e.op = 24) = False := eq_false (by omega)
    simp [aev, cav, look, acallPure, abin, abinN, abinP, abinI, abinS, aun, aconv, afield, afieldAddr, aindexAddr, aindex, aslice, alow, ahigh, abuild, abuildGo, cellsOf, splice, fieldTy, alen, apick, amax, amin, aload, headV, aparts, abuildSlice, elParts, abytesStr, astore, amake, aappend, anew, arith, aresults, aresList, ares, spec0, spec1, spec2, spec3, spec4, eqCells, eqCell, namelessB, sWord, sAr, sAgg, f1, f2, f3, f4, f23, f24]
  by_cases h : e.op = 23
  · skip
    have f1 : (e.op = 1) = False := eq_false (by omega)
    have f2 : (e.op = 2) = False := eq_false (by omega)
    have f3 : (e.op = 3) = False := eq_false (by omega)
    have f4 : (e.op = 4) = False := eq_false (by omega)
    have f23 : (e.op = 23) = True := eq_true h
    have f24 : (e.op = 24) = False := eq_false (by omega)
    simp [aev, cav, look, acallPure, abin, abinN, abinP, abinI, abinS, aun, aconv, afield, afieldAddr, aindexAddr, aindex, aslice, alow, ahigh, abuild, abuildGo, cellsOf, splice, fieldTy, alen, apick, amax, amin, aload, headV, aparts, abuildSlice, elParts, abytesStr, astore, amake, aappend, anew, arith, aresults, aresList, ares, spec0, spec1, spec2, spec3, spec4, eqCells, eqCell, namelessB, sWord, sAr, sAgg, f1, f2, f3, f4, f23, f24]
  by_cases h : e.op = 24
  · skip
    have f1 : (e.op = 1) = False := eq_false (by omega)
    have f2 : (e.op = 2) = False := eq_false (by omega)
    have f3 : (e.op = 3) = False := eq_false (by omega)
    have f4 : (e.op = 4) = False := eq_false (by omega)
    have f23 : (e.op = 23) = False := eq_false (by omega)
    have f24 : (e.op = 24) = True := eq_true h
    simp [aev, cav, look, acallPure, abin, abinN, abinP, abinI, abinS, aun, aconv, afield, afieldAddr, aindexAddr, aindex, aslice, alow, ahigh, abuild, abuildGo, cellsOf, splice, fieldTy, alen, apick, amax, amin, aload, headV, aparts, abuildSlice, elParts, abytesStr, astore, amake, aappend, anew, arith, aresults, aresList, ares, spec0, spec1, spec2, spec3, spec4, eqCells, eqCell, namelessB, sWord, sAr, sAgg, f1, f2, f3, f4, f23, f24]
  have f1 : (e.op = 1) = False := eq_false (by assumption)
  have f2 : (e.op = 2) = False := eq_false (by assumption)
  have f3 : (e.op = 3) = False := eq_false (by assumption)
  have f4 : (e.op = 4) = False := eq_false (by assumption)
  have f23 : (e.op = 23) = False := eq_false (by assumption)
  have f24 : (e.op = 24) = False := eq_false (by assumption)
  simp [aev, cav, look, acallPure, abin, abinN, abinP, abinI, abinS, aun, aconv, afield, afieldAddr, aindexAddr, aindex, aslice, alow, ahigh, abuild, abuildGo, cellsOf, splice, fieldTy, alen, apick, amax, amin, aload, headV, aparts, abuildSlice, elParts, abytesStr, astore, amake, aappend, anew, arith, aresults, aresList, ares, spec0, spec1, spec2, spec3, spec4, eqCells, eqCell, namelessB, sWord, sAr, sAgg, f1, f2, f3, f4, f23, f24]
end
end Go.Proofs.YthcfnaglgoaikaaGreat
