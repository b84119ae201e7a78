/-
  layer 14: the law of a trie's rows.
-/
import Derived.Test.YtkonafdbfciikaaT34
namespace Go.Proofs.Ytkonafdbfciikaa
open Go.RowKit
set_option linter.unusedSimpArgs false
set_option linter.unusedVariables false
set_option maxRecDepth 100000

theorem rise_ix {l : List (List Int)} (h : Rise l) : RisesR l := fun i hi => by
  have h2 := List.pairwise_iff_getElem.1 h i (i + 1) (by omega) hi (by omega)
  rwa [← ix_lt, ← ix_lt] at h2
/-- What a relation of few rows is. -/
theorem of_few {n : Int} {l : List (List Int)} (hf : FewR l) : ofF n l = (⟨0, []⟩, 1) ∨ ∃ m : Nat, n = m ∧ Fit (sortedF l) m ∧ (sortedF l).length ≤ 120 ∧ ofF n l = (⟨m, sortedF l⟩, 0) ∧ checkF ⟨m, sortedF l⟩ = 0 ∧ buildF ⟨m, sortedF l⟩ = (⟨levelsF (sortedF l) m⟩, 0) := by
  by_cases hw : WideR n l
  · right
    have h1 := sortedF_len l
    have h2 := hf.1
    obtain ⟨w1, w2, w3⟩ := hw
    obtain ⟨m, rfl⟩ : ∃ m : Nat, n = m := ⟨n.toNat, by omega⟩
    have hr := rise_ix (sortedF_rise l)
    have hla : LenAll (sortedF l) m := fun x hx => w3 x ((sortedF_mem l x).1 hx)
    have hc : checkF ⟨m, sortedF l⟩ = 0 := by
      unfold checkF
      rw [if_pos ⟨w1, w2, hla⟩, if_neg (by show ¬ 20000 < (sortedF l).length; omega), if_pos hr]
    refine ⟨m, rfl, ⟨by omega, by omega, by omega, fun i hi => ?_, hr⟩, by omega, ?_, hc, ?_⟩
    · have := hla _ (ix_mem hi)
      omega
    · unfold ofF
      rw [if_pos ⟨w1, w2, w3⟩, if_neg (by omega)]
    · unfold buildF
      rw [if_pos hc]
      rfl
  · left
    unfold ofF
    rw [if_neg hw]
noncomputable def CBk : Ctx := mkC Try.prog G0 [(10, .pure sSmall), (11, .pure sAlive), (19, .pure sOf), (13, .pure sBuild), (20, .pure sValid), (21, .pure sCheck), (23, .pure sRows), (22, .pure sSameRows)]
@[simp] theorem CBk_P : CBk.P = Try.prog := rfl
@[simp] theorem CBk_1 : CBk.S 10 = .pure sSmall := rfl
@[simp] theorem CBk_2 : CBk.S 11 = .pure sAlive := rfl
@[simp] theorem CBk_3 : CBk.S 19 = .pure sOf := rfl
@[simp] theorem CBk_4 : CBk.S 13 = .pure sBuild := rfl
@[simp] theorem CBk_5 : CBk.S 20 = .pure sValid := rfl
@[simp] theorem CBk_6 : CBk.S 21 = .pure sCheck := rfl
@[simp] theorem CBk_7 : CBk.S 23 = .pure sRows := rfl
@[simp] theorem CBk_8 : CBk.S 22 = .pure sSameRows := rfl
theorem mixCBk : CBk.P.follows .mixedOrders = true := mixed
theorem sigCBk : SigOK CBk := sigOK_cons (entryPure smallL Try.func10 rfl (by decide)) (sigOK_cons (entryPure aliveP Try.func11 rfl (by decide)) (sigOK_cons (entryPure ofP Try.func19 rfl (by decide)) (sigOK_cons (entryPure buildP Try.func13 rfl (by decide))
  (sigOK_cons (entryPure validP Try.func20 rfl (by decide)) (sigOK_cons (entryPure checkP Try.func21 rfl (by decide)) (sigOK_cons (entryPure rowsP Try.func23 rfl (by decide)) (sigOK_cons (entryPure sameRowsR Try.func22 rfl (by decide)) (sigOK_nil _ _))))))))
set_option maxHeartbeats 16000000 in
theorem lawBack : PureOK Try.prog G0 4 (spec2 (fun (n : Int) (l : List (List Int)) => l.length ≤ maxLen) fun _ _ => .bool true) := by
  refine pure2 (C := CBk) sigCBk mixCBk Try.func4 rfl rfl rfl (by kernel_rfl) (by decide) (fun n l hl => ?_)
  by_cases hf : FewR l
  case neg => simp [aev, cav, look, acallPure, abin, abinN, abinP, abinI, abinS, aun, aconv, afield, afieldAddr, aindexAddr, aindex, aslice, alow, ahigh, abuild, abuildGo, cellsOf, splice, fieldTy, alen, apick, amax, amin, aload, headV, aparts, abuildSlice, elParts, abytesStr, astore, amake, aappend, aclear, anew, arith, aresults, aresList, ares, spec0, spec1, spec2, spec3, spec4, eqCells, eqCell, sSmall, sAlive, hl, fewB_no hf]
  have e0 := fewB_yes hf
  have hS := few_small hf
  rcases of_few (n := n) hf with he | ⟨m, rfl, hF, h120, he, hc, hb⟩
  · simp [aev, cav, look, acallPure, abin, abinN, abinP, abinI, abinS, aun, aconv, afield, afieldAddr, aindexAddr, aindex, aslice, alow, ahigh, abuild, abuildGo, cellsOf, splice, fieldTy, alen, apick, amax, amin, aload, headV, aparts, abuildSlice, elParts, abytesStr, astore, amake, aappend, aclear, anew, arith, aresults, aresList, ares, spec0, spec1, spec2, spec3, spec4, eqCells, eqCell, sSmall, sAlive, sOf, hl, e0, hS, he]
  · have hrS : SmallRs (sortedF l) := ⟨by omega, fun y hy => hS.2 y ((sortedF_mem l y).1 hy)⟩
    have hT : SmallT ⟨levelsF (sortedF l) m⟩ ∧ IntsT ⟨levelsF (sortedF l) m⟩ := by have := build_small ⟨m, sortedF l⟩ (by show (sortedF l).length ≤ _; omega); rwa [hb] at this
    have hv := build_valid hF
    have hvb := validB_yes hv
    have hR : rowsF ⟨levelsF (sortedF l) m⟩ = sortedF l := by unfold rowsF; rw [if_pos hv, build_rows hF]
    simp [aev, cav, look, acallPure, abin, abinN, abinP, abinI, abinS, aun, aconv, afield, afieldAddr, aindexAddr, aindex, aslice, alow, ahigh, abuild, abuildGo, cellsOf, splice, fieldTy, alen, apick, amax, amin, aload, headV, aparts, abuildSlice, elParts, abytesStr, astore, amake, aappend, aclear, anew, arith, aresults, aresList, ares, spec0, spec1, spec2, spec3, spec4, eqCells, eqCell, sSmall, sAlive, sOf, sBuild, sValid, sCheck, sRows, sSameRows, hl, e0, hS, he, hrS, hT, hT.1, hT.2, hvb, hR, hc, hb]
end Go.Proofs.Ytkonafdbfciikaa
