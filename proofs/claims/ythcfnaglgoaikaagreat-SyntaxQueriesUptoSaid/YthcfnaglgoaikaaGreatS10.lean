/-
  layer 18: the check of an expression. Printed by gen10.py.
-/
import Derived.Test.YthcfnaglgoaikaaGreatS9
namespace Go.Proofs.YthcfnaglgoaikaaGreat
open Go.RowKit
set_option linter.unusedSimpArgs false
set_option linter.unusedVariables false
set_option maxRecDepth 100000

def selfE (e : Expr) (w : Bool) : Int :=
  if e.op < 1 ∨ 24 < e.op ∨ operB e = false ∨ spareB e = false then 1 else if e.op = 1 ∧ constB e.v = false then 8 else if namelessB e = true then 6 else if e.op = 24 ∧ w = true then 9 else 0
mutual
def visitE : Expr → Bool → Int
  | .mk o v n d k, w => if selfE (.mk o v n d k) w ≠ 0 then selfE (.mk o v n d k) w else visitL k (w || decide (o = 24))
def visitL : List Expr → Bool → Int
  | [], _ => 0
  | e :: r, w => if visitE e w ≠ 0 then visitE e w else visitL r w
end
theorem visitE_eq (e : Expr) (w : Bool) : visitE e w = if selfE e w ≠ 0 then selfE e w else visitL e.kids (w || decide (e.op = 24)) := by cases e; rw [visitE]; rfl
theorem visitL_drop {w : Bool} {l : List Expr} {i : Nat} (h : i < l.length) : visitL (l.drop i) w = if visitE (ix l i) w ≠ 0 then visitE (ix l i) w else visitL (l.drop (i + 1)) w := by
  rw [List.drop_eq_getElem_cons h, visitL, ix_lt h]
theorem eta_d {e : Expr} {d : Bool} (h : e.dist = d) : Expr.mk e.op e.v e.name d e.kids = e := by rw [← h]; exact e.eta
def checkE (e : Expr) : Int := if 24 < depthE e then 5 else if 300 < sizeE e then 4 else visitE e false

section
variable {m : Int}
def sOp : List AV → Option (Prop × AV) := spec1 (fun (_ : Expr) => True) (fun e => .bool (operB e))
def sNm : List AV → Option (Prop × AV) := spec1 (fun (_ : Int) => True) (fun o => .bool (namedB o))
def sVal1 : List AV → Option (Prop × AV) := spec1 (fun (v : Val) => WfV v) (fun v => .bool (okR v 8))
noncomputable def CSe (m : Int) : Ctx := mkC Tryz.prog (G m) [(90, .pure sOp), (91, .pure sNm), (85, .pure sZ), (92, .pure sVal1), (70, .pure sWord), (94, .pure sAr), (93, .pure sAgg)]
@[simp] theorem CSe_P (m : Int) : (CSe m).P = Tryz.prog := rfl
@[simp] theorem CSe_1 (m : Int) : (CSe m).S 90 = .pure sOp := rfl
@[simp] theorem CSe_2 (m : Int) : (CSe m).S 91 = .pure sNm := rfl
@[simp] theorem CSe_3 (m : Int) : (CSe m).S 85 = .pure sZ := rfl
@[simp] theorem CSe_4 (m : Int) : (CSe m).S 92 = .pure sVal1 := rfl
@[simp] theorem CSe_5 (m : Int) : (CSe m).S 70 = .pure sWord := rfl
@[simp] theorem CSe_6 (m : Int) : (CSe m).S 94 = .pure sAr := rfl
@[simp] theorem CSe_7 (m : Int) : (CSe m).S 93 = .pure sAgg := rfl
theorem sigCSe (m : Int) : SigOK (CSe m) := sigOK_cons (entryPure operR Tryz.func90 rfl (by decide)) (sigOK_cons (entryPure namedR Tryz.func91 rfl (by decide)) (sigOK_cons (entryPure zeroR Tryz.func85 rfl (by decide)) (sigOK_cons (entryPure vR Tryz.func92 rfl (by decide)) (sigOK_cons (entryPure wordR Tryz.func70 rfl (by decide)) (sigOK_cons (entryPure arityR Tryz.func94 rfl (by decide)) (sigOK_cons (entryPure aggR Tryz.func93 rfl (by decide)) (sigOK_nil _ _)))))))
theorem mixCSe (m : Int) : (CSe m).P.follows .mixedOrders = true := mixed

set_option maxHeartbeats 16000000 in
theorem selfR : PureOK Tryz.prog (G m) 82 (spec2 (fun (e : Expr) (_ : Bool) => WfV e.v) (fun e w => .int .i64 (selfE e w))) := by
  refine pure2 (C := CSe m) (sigCSe m) (mixCSe m) Tryz.func82 rfl rfl rfl (by kernel_rfl) (by decide) (fun e w hw => ?_)
  by_cases h : e.op = 1
  · skip
    have f1 : (e.op = 1) = True := eq_true h
    have f2 : (e.op = 2) = False := eq_false (by omega)
    have f3 : (e.op = 3) = False := eq_false (by omega)
    have f4 : (e.op = 4) = False := eq_false (by omega)
    have f23 : (e.op = 23) = False := eq_false (by omega)
    have f24 : (e.op = 24) = False := eq_false (by omega)
    have g1 : (e.op < 1) = False := eq_false (by omega)
    have g2 : (24 < e.op) = False := eq_false (by omega)
    cases ho : operB e
    · simp [aev, cav, look, acallPure, abin, abinN, abinP, abinI, abinS, aun, aconv, afield, afieldAddr, aindexAddr, aindex, aslice, alow, ahigh, abuild, abuildGo, cellsOf, splice, fieldTy, alen, apick, amax, amin, aload, headV, aparts, abuildSlice, elParts, abytesStr, astore, amake, aappend, anew, arith, aresults, aresList, ares, spec0, spec1, spec2, spec3, spec4, eqCells, eqCell, selfE, spareB, constB, namelessB, namedB, sOp, sNm, sZ, sVal1, sWord, sAgg, sAr, g1, g2, ho, hw, f1, f2, f3, f4, f23, f24]
    rcases em2 (e.name = ⟨#[]⟩) with hn | hn <;> cases hd : e.dist <;> cases hz : zeroV e.v <;> cases hv : okR e.v 8 <;> rcases em2 (e.v.kind = 1) with h1 | h1 <;> rcases em2 (e.v.kind = 2) with h2 | h2 <;> rcases em2 (e.v.kind = 4) with h4 | h4 <;> simp [aev, cav, look, acallPure, abin, abinN, abinP, abinI, abinS, aun, aconv, afield, afieldAddr, aindexAddr, aindex, aslice, alow, ahigh, abuild, abuildGo, cellsOf, splice, fieldTy, alen, apick, amax, amin, aload, headV, aparts, abuildSlice, elParts, abytesStr, astore, amake, aappend, anew, arith, aresults, aresList, ares, spec0, spec1, spec2, spec3, spec4, eqCells, eqCell, selfE, spareB, constB, namelessB, namedB, sOp, sNm, sZ, sVal1, sWord, sAgg, sAr, g1, g2, ho, hw, f1, f2, f3, f4, f23, f24, hn, hd, eta_d hd, hz, hv, h1, h2, h4]
  by_cases h : e.op = 2
  · skip
    have f1 : (e.op = 1) = False := eq_false (by omega)
    have f2 : (e.op = 2) = True := eq_true h
    have f3 : (e.op = 3) = False := eq_false (by omega)
    have f4 : (e.op = 4) = False := eq_false (by omega)
    have f23 : (e.op = 23) = False := eq_false (by omega)
    have f24 : (e.op = 24) = False := eq_false (by omega)
    have g1 : (e.op < 1) = False := eq_false (by omega)
    have g2 : (24 < e.op) = False := eq_false (by omega)
    cases ho : operB e
    · simp [aev, cav, look, acallPure, abin, abinN, abinP, abinI, abinS, aun, aconv, afield, afieldAddr, aindexAddr, aindex, aslice, alow, ahigh, abuild, abuildGo, cellsOf, splice, fieldTy, alen, apick, amax, amin, aload, headV, aparts, abuildSlice, elParts, abytesStr, astore, amake, aappend, anew, arith, aresults, aresList, ares, spec0, spec1, spec2, spec3, spec4, eqCells, eqCell, selfE, spareB, constB, namelessB, namedB, sOp, sNm, sZ, sVal1, sWord, sAgg, sAr, g1, g2, ho, hw, f1, f2, f3, f4, f23, f24]
    rcases em2 (e.name = ⟨#[]⟩) with hn | hn <;> cases hd : e.dist <;> cases hz : zeroV e.v <;> cases hb : wordB e.name <;> simp [aev, cav, look, acallPure, abin, abinN, abinP, abinI, abinS, aun, aconv, afield, afieldAddr, aindexAddr, aindex, aslice, alow, ahigh, abuild, abuildGo, cellsOf, splice, fieldTy, alen, apick, amax, amin, aload, headV, aparts, abuildSlice, elParts, abytesStr, astore, amake, aappend, anew, arith, aresults, aresList, ares, spec0, spec1, spec2, spec3, spec4, eqCells, eqCell, selfE, spareB, constB, namelessB, namedB, sOp, sNm, sZ, sVal1, sWord, sAgg, sAr, g1, g2, ho, hw, f1, f2, f3, f4, f23, f24, hn, hd, eta_d hd, hz, hb]
  by_cases h : e.op = 3
  · skip
    have f1 : (e.op = 1) = False := eq_false (by omega)
    have f2 : (e.op = 2) = False := eq_false (by omega)
    have f3 : (e.op = 3) = True := eq_true h
    have f4 : (e.op = 4) = False := eq_false (by omega)
    have f23 : (e.op = 23) = False := eq_false (by omega)
    have f24 : (e.op = 24) = False := eq_false (by omega)
    have g1 : (e.op < 1) = False := eq_false (by omega)
    have g2 : (24 < e.op) = False := eq_false (by omega)
    cases ho : operB e
    · simp [aev, cav, look, acallPure, abin, abinN, abinP, abinI, abinS, aun, aconv, afield, afieldAddr, aindexAddr, aindex, aslice, alow, ahigh, abuild, abuildGo, cellsOf, splice, fieldTy, alen, apick, amax, amin, aload, headV, aparts, abuildSlice, elParts, abytesStr, astore, amake, aappend, anew, arith, aresults, aresList, ares, spec0, spec1, spec2, spec3, spec4, eqCells, eqCell, selfE, spareB, constB, namelessB, namedB, sOp, sNm, sZ, sVal1, sWord, sAgg, sAr, g1, g2, ho, hw, f1, f2, f3, f4, f23, f24]
    rcases em2 (e.name = ⟨#[]⟩) with hn | hn <;> cases hd : e.dist <;> cases hz : zeroV e.v <;> cases hb : wordB e.name <;> simp [aev, cav, look, acallPure, abin, abinN, abinP, abinI, abinS, aun, aconv, afield, afieldAddr, aindexAddr, aindex, aslice, alow, ahigh, abuild, abuildGo, cellsOf, splice, fieldTy, alen, apick, amax, amin, aload, headV, aparts, abuildSlice, elParts, abytesStr, astore, amake, aappend, anew, arith, aresults, aresList, ares, spec0, spec1, spec2, spec3, spec4, eqCells, eqCell, selfE, spareB, constB, namelessB, namedB, sOp, sNm, sZ, sVal1, sWord, sAgg, sAr, g1, g2, ho, hw, f1, f2, f3, f4, f23, f24, hn, hd, eta_d hd, hz, hb]
  by_cases h : e.op = 4
  · skip
    have f1 : (e.op = 1) = False := eq_false (by omega)
    have f2 : (e.op = 2) = False := eq_false (by omega)
    have f3 : (e.op = 3) = False := eq_false (by omega)
    have f4 : (e.op = 4) = True := eq_true h
    have f23 : (e.op = 23) = False := eq_false (by omega)
    have f24 : (e.op = 24) = False := eq_false (by omega)
    have g1 : (e.op < 1) = False := eq_false (by omega)
    have g2 : (24 < e.op) = False := eq_false (by omega)
    cases ho : operB e
    · simp [aev, cav, look, acallPure, abin, abinN, abinP, abinI, abinS, aun, aconv, afield, afieldAddr, aindexAddr, aindex, aslice, alow, ahigh, abuild, abuildGo, cellsOf, splice, fieldTy, alen, apick, amax, amin, aload, headV, aparts, abuildSlice, elParts, abytesStr, astore, amake, aappend, anew, arith, aresults, aresList, ares, spec0, spec1, spec2, spec3, spec4, eqCells, eqCell, selfE, spareB, constB, namelessB, namedB, sOp, sNm, sZ, sVal1, sWord, sAgg, sAr, g1, g2, ho, hw, f1, f2, f3, f4, f23, f24]
    rcases em2 (e.name = ⟨#[]⟩) with hn | hn <;> cases hd : e.dist <;> cases hz : zeroV e.v <;> cases hb : wordB e.name <;> simp [aev, cav, look, acallPure, abin, abinN, abinP, abinI, abinS, aun, aconv, afield, afieldAddr, aindexAddr, aindex, aslice, alow, ahigh, abuild, abuildGo, cellsOf, splice, fieldTy, alen, apick, amax, amin, aload, headV, aparts, abuildSlice, elParts, abytesStr, astore, amake, aappend, anew, arith, aresults, aresList, ares, spec0, spec1, spec2, spec3, spec4, eqCells, eqCell, selfE, spareB, constB, namelessB, namedB, sOp, sNm, sZ, sVal1, sWord, sAgg, sAr, g1, g2, ho, hw, f1, f2, f3, f4, f23, f24, hn, hd, eta_d hd, hz, hb]
  by_cases h : e.op = 23
  · skip
    have f1 : (e.op = 1) = False := eq_false (by omega)
    have f2 : (e.op = 2) = False := eq_false (by omega)
    have f3 : (e.op = 3) = False := eq_false (by omega)
    have f4 : (e.op = 4) = False := eq_false (by omega)
    have f23 : (e.op = 23) = True := eq_true h
    have f24 : (e.op = 24) = False := eq_false (by omega)
    have g1 : (e.op < 1) = False := eq_false (by omega)
    have g2 : (24 < e.op) = False := eq_false (by omega)
    cases ho : operB e
    · simp [aev, cav, look, acallPure, abin, abinN, abinP, abinI, abinS, aun, aconv, afield, afieldAddr, aindexAddr, aindex, aslice, alow, ahigh, abuild, abuildGo, cellsOf, splice, fieldTy, alen, apick, amax, amin, aload, headV, aparts, abuildSlice, elParts, abytesStr, astore, amake, aappend, anew, arith, aresults, aresList, ares, spec0, spec1, spec2, spec3, spec4, eqCells, eqCell, selfE, spareB, constB, namelessB, namedB, sOp, sNm, sZ, sVal1, sWord, sAgg, sAr, g1, g2, ho, hw, f1, f2, f3, f4, f23, f24]
    by_cases ha : arLo e.name = 0
    · have hb := (arHi_lo e.name).2 ha
      rcases em2 (e.name = ⟨#[]⟩) with hn | hn <;> cases hd : e.dist <;> cases hz : zeroV e.v <;> simp [aev, cav, look, acallPure, abin, abinN, abinP, abinI, abinS, aun, aconv, afield, afieldAddr, aindexAddr, aindex, aslice, alow, ahigh, abuild, abuildGo, cellsOf, splice, fieldTy, alen, apick, amax, amin, aload, headV, aparts, abuildSlice, elParts, abytesStr, astore, amake, aappend, anew, arith, aresults, aresList, ares, spec0, spec1, spec2, spec3, spec4, eqCells, eqCell, selfE, spareB, constB, namelessB, namedB, sOp, sNm, sZ, sVal1, sWord, sAgg, sAr, g1, g2, ho, hw, f1, f2, f3, f4, f23, f24, hn, hd, eta_d hd, hz, ha, hb]
    · have hb : ¬ arHi e.name = 0 := fun h => ha ((arHi_lo e.name).1 h)
      rcases em2 (e.name = ⟨#[]⟩) with hn | hn <;> cases hd : e.dist <;> cases hz : zeroV e.v <;> simp [aev, cav, look, acallPure, abin, abinN, abinP, abinI, abinS, aun, aconv, afield, afieldAddr, aindexAddr, aindex, aslice, alow, ahigh, abuild, abuildGo, cellsOf, splice, fieldTy, alen, apick, amax, amin, aload, headV, aparts, abuildSlice, elParts, abytesStr, astore, amake, aappend, anew, arith, aresults, aresList, ares, spec0, spec1, spec2, spec3, spec4, eqCells, eqCell, selfE, spareB, constB, namelessB, namedB, sOp, sNm, sZ, sVal1, sWord, sAgg, sAr, g1, g2, ho, hw, f1, f2, f3, f4, f23, f24, hn, hd, eta_d hd, hz, ha, hb]
  by_cases h : e.op = 24
  · skip
    have f1 : (e.op = 1) = False := eq_false (by omega)
    have f2 : (e.op = 2) = False := eq_false (by omega)
    have f3 : (e.op = 3) = False := eq_false (by omega)
    have f4 : (e.op = 4) = False := eq_false (by omega)
    have f23 : (e.op = 23) = False := eq_false (by omega)
    have f24 : (e.op = 24) = True := eq_true h
    have g1 : (e.op < 1) = False := eq_false (by omega)
    have g2 : (24 < e.op) = False := eq_false (by omega)
    cases ho : operB e
    · simp [aev, cav, look, acallPure, abin, abinN, abinP, abinI, abinS, aun, aconv, afield, afieldAddr, aindexAddr, aindex, aslice, alow, ahigh, abuild, abuildGo, cellsOf, splice, fieldTy, alen, apick, amax, amin, aload, headV, aparts, abuildSlice, elParts, abytesStr, astore, amake, aappend, anew, arith, aresults, aresList, ares, spec0, spec1, spec2, spec3, spec4, eqCells, eqCell, selfE, spareB, constB, namelessB, namedB, sOp, sNm, sZ, sVal1, sWord, sAgg, sAr, g1, g2, ho, hw, f1, f2, f3, f4, f23, f24]
    rcases em2 (e.name = ⟨#[]⟩) with hn | hn <;> cases hd : e.dist <;> by_cases ha : Agg e.name <;> cases hz : zeroV e.v <;> cases w <;> simp [aev, cav, look, acallPure, abin, abinN, abinP, abinI, abinS, aun, aconv, afield, afieldAddr, aindexAddr, aindex, aslice, alow, ahigh, abuild, abuildGo, cellsOf, splice, fieldTy, alen, apick, amax, amin, aload, headV, aparts, abuildSlice, elParts, abytesStr, astore, amake, aappend, anew, arith, aresults, aresList, ares, spec0, spec1, spec2, spec3, spec4, eqCells, eqCell, selfE, spareB, constB, namelessB, namedB, sOp, sNm, sZ, sVal1, sWord, sAgg, sAr, g1, g2, ho, hw, f1, f2, f3, f4, f23, f24, hn, hd, eta_d hd, hz, ha]
  have f1 : (e.op = 1) = False := eq_false (by assumption)
  have f2 : (e.op = 2) = False := eq_false (by assumption)
  have f3 : (e.op = 3) = False := eq_false (by assumption)
  have f4 : (e.op = 4) = False := eq_false (by assumption)
  have f23 : (e.op = 23) = False := eq_false (by assumption)
  have f24 : (e.op = 24) = False := eq_false (by assumption)
  rcases em2 (e.op < 1) with g1 | g1
  · simp [aev, cav, look, acallPure, abin, abinN, abinP, abinI, abinS, aun, aconv, afield, afieldAddr, aindexAddr, aindex, aslice, alow, ahigh, abuild, abuildGo, cellsOf, splice, fieldTy, alen, apick, amax, amin, aload, headV, aparts, abuildSlice, elParts, abytesStr, astore, amake, aappend, anew, arith, aresults, aresList, ares, spec0, spec1, spec2, spec3, spec4, eqCells, eqCell, selfE, g1]
  rcases em2 (24 < e.op) with g2 | g2
  · simp [aev, cav, look, acallPure, abin, abinN, abinP, abinI, abinS, aun, aconv, afield, afieldAddr, aindexAddr, aindex, aslice, alow, ahigh, abuild, abuildGo, cellsOf, splice, fieldTy, alen, apick, amax, amin, aload, headV, aparts, abuildSlice, elParts, abytesStr, astore, amake, aappend, anew, arith, aresults, aresList, ares, spec0, spec1, spec2, spec3, spec4, eqCells, eqCell, selfE, g1, g2]
  cases ho : operB e
  · simp [aev, cav, look, acallPure, abin, abinN, abinP, abinI, abinS, aun, aconv, afield, afieldAddr, aindexAddr, aindex, aslice, alow, ahigh, abuild, abuildGo, cellsOf, splice, fieldTy, alen, apick, amax, amin, aload, headV, aparts, abuildSlice, elParts, abytesStr, astore, amake, aappend, anew, arith, aresults, aresList, ares, spec0, spec1, spec2, spec3, spec4, eqCells, eqCell, selfE, spareB, constB, namelessB, namedB, sOp, sNm, sZ, sVal1, sWord, sAgg, sAr, g1, g2, ho, hw, f1, f2, f3, f4, f23, f24]
  rcases em2 (e.name = ⟨#[]⟩) with hn | hn <;> cases hd : e.dist <;> cases hz : zeroV e.v <;> simp [aev, cav, look, acallPure, abin, abinN, abinP, abinI, abinS, aun, aconv, afield, afieldAddr, aindexAddr, aindex, aslice, alow, ahigh, abuild, abuildGo, cellsOf, splice, fieldTy, alen, apick, amax, amin, aload, headV, aparts, abuildSlice, elParts, abytesStr, astore, amake, aappend, anew, arith, aresults, aresList, ares, spec0, spec1, spec2, spec3, spec4, eqCells, eqCell, selfE, spareB, constB, namelessB, namedB, sOp, sNm, sZ, sVal1, sWord, sAgg, sAr, g1, g2, ho, hw, f1, f2, f3, f4, f23, f24, hn, hd, eta_d hd, hz]

end
end Go.Proofs.YthcfnaglgoaikaaGreat