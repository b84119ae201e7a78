/-
  layer 18: SyntaxNames and SyntaxExprs.
-/
import Derived.Test.YthcfnaglgoaikaaS18
import Derived.Test.YthcfnaglgoaikaaS11
import Derived.Test.YthcfnaglgoaikaaSE
import Derived.Test.YthcfnaglgoaikaaShape
namespace Go.Proofs.Ythcfnaglgoaikaa
open Go.RowKit
set_option linter.unusedSimpArgs false
set_option linter.unusedVariables false
set_option maxRecDepth 100000

section
variable {m : Int}
def sLives : List AV → Option (Prop × AV) := spec0 (.bool true)
noncomputable def CNm (m : Int) : Ctx := mkC Try.prog (G m) [(7, .pure sAr), (8, .pure sAr), (9, .pure sAgg), (10, .pure sAgg), (11, .pure sLives)]
@[simp] theorem CNm_P (m : Int) : (CNm m).P = Try.prog := rfl
@[simp] theorem CNm_1 (m : Int) : (CNm m).S 7 = .pure sAr := rfl
@[simp] theorem CNm_2 (m : Int) : (CNm m).S 8 = .pure sAr := rfl
@[simp] theorem CNm_3 (m : Int) : (CNm m).S 9 = .pure sAgg := rfl
@[simp] theorem CNm_4 (m : Int) : (CNm m).S 10 = .pure sAgg := rfl
@[simp] theorem CNm_5 (m : Int) : (CNm m).S 11 = .pure sLives := rfl
theorem mixCNm (m : Int) : (CNm m).P.follows .mixedOrders = true := mixed
theorem sigCNm (m : Int) : SigOK (CNm m) := sigOK_cons (entryPure arityP Try.func7 rfl (by decide)) (sigOK_cons (entryPure arityR Try.func8 rfl (by decide)) (sigOK_cons (entryPure aggP Try.func9 rfl (by decide)) (sigOK_cons (entryPure aggR Try.func10 rfl (by decide)) (sigOK_cons (entryPure livesP Try.func11 rfl (by decide)) (sigOK_nil _ _)))))
theorem lawNames : PureOK Try.prog (G m) 3 (spec1 (fun (_ : ByteArray) => True) fun _ => .bool true) := by
  refine pure1 (C := CNm m) (sigCNm m) (mixCNm m) Try.func3 rfl rfl rfl (by kernel_rfl) (by decide) (fun s _ => ?_)
  simp [aev, cav, look, acallPure, abin, abinN, abinP, abinI, abinS, aun, aconv, afield, afieldAddr, aindexAddr, aindex, aslice, alow, ahigh, abuild, abuildGo, cellsOf, splice, fieldTy, alen, apick, amax, amin, aload, headV, aparts, abuildSlice, elParts, abytesStr, astore, amake, aappend, anew, arith, aresults, aresList, ares, spec0, spec1, spec2, spec3, spec4, eqCells, eqCell, sAr, sAgg, sLives]

noncomputable def CXp (m : Int) : Ctx := mkC Try.prog (G m) [(12, .pure sSzA), (13, .pure sChk), (14, .pure sChk), (15, .pure sHasA), (16, .pure sHasA), (17, .pure sSzA), (11, .pure sLives)]
@[simp] theorem CXp_P (m : Int) : (CXp m).P = Try.prog := rfl
@[simp] theorem CXp_1 (m : Int) : (CXp m).S 12 = .pure sSzA := rfl
@[simp] theorem CXp_2 (m : Int) : (CXp m).S 13 = .pure sChk := rfl
@[simp] theorem CXp_3 (m : Int) : (CXp m).S 14 = .pure sChk := rfl
@[simp] theorem CXp_4 (m : Int) : (CXp m).S 15 = .pure sHasA := rfl
@[simp] theorem CXp_5 (m : Int) : (CXp m).S 16 = .pure sHasA := rfl
@[simp] theorem CXp_6 (m : Int) : (CXp m).S 17 = .pure sSzA := rfl
@[simp] theorem CXp_7 (m : Int) : (CXp m).S 11 = .pure sLives := rfl
theorem mixCXp (m : Int) : (CXp m).P.follows .mixedOrders = true := mixed
theorem sigCXp (m : Int) : SigOK (CXp m) := sigOK_cons (entryPure sizeR_ Try.func12 rfl (by decide)) (sigOK_cons (entryPure checkP Try.func13 rfl (by decide)) (sigOK_cons (entryPure checkR Try.func14 rfl (by decide)) (sigOK_cons (entryPure hasP Try.func15 rfl (by decide)) (sigOK_cons (entryPure hasR Try.func16 rfl (by decide)) (sigOK_cons (entryPure sizeP_ Try.func17 rfl (by decide)) (sigOK_cons (entryPure livesP Try.func11 rfl (by decide)) (sigOK_nil _ _)))))))
theorem lawExprs : PureOK Try.prog (G m) 4 (spec1 (fun (e : Expr) => WfE e) fun _ => .bool true) := by
  refine pure1 (C := CXp m) (sigCXp m) (mixCXp m) Try.func4 rfl rfl rfl (by kernel_rfl) (by decide) (fun e hw => ?_)
  by_cases h : 3000 < sizeE e
  · simp [aev, cav, look, acallPure, abin, abinN, abinP, abinI, abinS, aun, aconv, afield, afieldAddr, aindexAddr, aindex, aslice, alow, ahigh, abuild, abuildGo, cellsOf, splice, fieldTy, alen, apick, amax, amin, aload, headV, aparts, abuildSlice, elParts, abytesStr, astore, amake, aappend, anew, arith, aresults, aresList, ares, spec0, spec1, spec2, spec3, spec4, eqCells, eqCell, sSzA, sLives, hw, h]
  · simp [aev, cav, look, acallPure, abin, abinN, abinP, abinI, abinS, aun, aconv, afield, afieldAddr, aindexAddr, aindex, aslice, alow, ahigh, abuild, abuildGo, cellsOf, splice, fieldTy, alen, apick, amax, amin, aload, headV, aparts, abuildSlice, elParts, abytesStr, astore, amake, aappend, anew, arith, aresults, aresList, ares, spec0, spec1, spec2, spec3, spec4, eqCells, eqCell, sSzA, sChk, sHasA, sLives, hw, h]
end
end Go.Proofs.Ythcfnaglgoaikaa
