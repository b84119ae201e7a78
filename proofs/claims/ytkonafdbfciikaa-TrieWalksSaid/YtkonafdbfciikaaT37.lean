/-
  layer 14: the law's onward.
-/
import Derived.Test.YtkonafdbfciikaaT36
namespace Go.Proofs.Ytkonafdbfciikaa
open Go.RowKit
set_option linter.unusedSimpArgs false
set_option linter.unusedVariables false
set_option maxRecDepth 100000

noncomputable def COn : Ctx := mkC Try.prog G0 [(14, .pure (sCur downF)), (25, .pure (sCur nextF)), (30, .pure (sCur upF))]
@[simp] theorem COn_P : COn.P = Try.prog := rfl
@[simp] theorem COn_1 : COn.S 14 = .pure (sCur downF) := rfl
@[simp] theorem COn_2 : COn.S 25 = .pure (sCur nextF) := rfl
@[simp] theorem COn_3 : COn.S 30 = .pure (sCur upF) := rfl
theorem mixCOn : COn.P.follows .mixedOrders = true := mixed
theorem sigCOn : SigOK COn := sigOK_cons (entryPure downP Try.func14 rfl (by decide)) (sigOK_cons (entryPure nextP Try.func25 rfl (by decide)) (sigOK_cons (entryPure upP Try.func30 rfl (by decide)) (sigOK_nil _ _)))
theorem up_small {t : Trie} {c : Cursor} (h : SmallC c) : SmallC (upF t c).1 := by
  unfold upF
  split
  · obtain ⟨h1, h2, h3, h4⟩ := h
    exact ⟨by show _ ≤ _; rw [List.length_take]; omega, by show _ ≤ _; rw [List.length_take]; omega, fun v hv => h3 v (List.mem_of_mem_take hv), fun v hv => h4 v (List.mem_of_mem_take hv)⟩
  · exact small_C (.inl rfl)
set_option maxHeartbeats 16000000 in
theorem onwardL : PureOK Try.prog G0 18 (sCur onF) := by
  refine pure2 (C := COn) sigCOn mixCOn Try.func18 rfl rfl rfl (by kernel_rfl) (by decide) (fun t c ⟨hT, hC⟩ => ?_)
  obtain ⟨d, b, hd⟩ : ∃ d b, downF t c = (d, b) := ⟨_, _, rfl⟩
  cases b with
  | true =>
    have e : onF t c = (d, true) := by unfold onF; rw [hd, if_pos rfl]
    simp [aev, cav, look, acallPure, abin, abinN, abinP, abinI, abinS, aun, aconv, afield, afieldAddr, aindexAddr, aindex, aslice, alow, ahigh, abuild, abuildGo, cellsOf, splice, fieldTy, alen, apick, amax, amin, aload, headV, aparts, abuildSlice, elParts, abytesStr, astore, amake, aappend, aclear, anew, arith, aresults, aresList, ares, spec0, spec1, spec2, spec3, spec4, eqCells, eqCell, sCur, hT, hC, hd, e]
  | false =>
    obtain ⟨r, br, hr⟩ : ∃ d b, climb t 20 c = (d, b) := ⟨_, _, rfl⟩
    have e : onF t c = (r, br) := by unfold onF; rw [hd, if_neg (by simp), hr]
    simp [aev, cav, look, acallPure, abin, abinN, abinP, abinI, abinS, aun, aconv, afield, afieldAddr, aindexAddr, aindex, aslice, alow, ahigh, abuild, abuildGo, cellsOf, splice, fieldTy, alen, apick, amax, amin, aload, headV, aparts, abuildSlice, elParts, abytesStr, astore, amake, aappend, aclear, anew, arith, aresults, aresList, ares, spec0, spec1, spec2, spec3, spec4, eqCells, eqCell, sCur, hT, hC, hd, e]
    refine loop_rule (C := COn) sigCOn mixCOn (fun q : Nat × Cursor => ⟨[(2, .ptr 0 1 1 0 0), (3, .ptr 1 1 2 0 0), (4, .ptr 2 1 2 0 0), (5, .bool false), (20, .int .i64 q.1)], [TB t, CB q.2, ZC]⟩) (fun q => q.1 ≤ 20 ∧ SmallC q.2 ∧ climb t (20 - q.1) q.2 = (r, br)) (fun q => 20 - q.1) (by kernel_rfl) ⟨(0, c), ⟨Nat.zero_le _, hC, hr⟩, weak_keep 3 (by simp) (by simp) (by simp [AV.clean, AV.clean1]) (by simp) (by simp [TB, CB, ZC])⟩ (fun ⟨q, c'⟩ ⟨h1, h2, h3⟩ => ?_)
    simp only at h1 h2 h3 ⊢
    by_cases hq : q < 20
    · have hq' : (q : Int) < 20 := by omega
      have i1 : I64 ((q : Int) + 1) := by unfold I64; omega
      rw [show 20 - q = (20 - (q + 1)) + 1 by omega, climb] at h3
      obtain ⟨x, bx, hx⟩ : ∃ d b, nextF t c' = (d, b) := ⟨_, _, rfl⟩
      rw [hx] at h3
      cases bx with
      | true =>
        rw [if_pos rfl] at h3
        injection h3 with e1 e2
        simp only at e1
        subst e1 e2
        simp [aev, cav, look, acallPure, abin, abinN, abinP, abinI, abinS, aun, aconv, afield, afieldAddr, aindexAddr, aindex, aslice, alow, ahigh, abuild, abuildGo, cellsOf, splice, fieldTy, alen, apick, amax, amin, aload, headV, aparts, abuildSlice, elParts, abytesStr, astore, amake, aappend, aclear, anew, arith, aresults, aresList, ares, spec0, spec1, spec2, spec3, spec4, eqCells, eqCell, sCur, TB, CB, ZC, hT, h2, hq', hx]
      | false =>
        rw [if_neg (by simp)] at h3
        have hus := up_small (t := t) h2
        obtain ⟨u, bu, hu⟩ : ∃ d b, upF t c' = (d, b) := ⟨_, _, rfl⟩
        rw [hu] at h3 hus
        cases bu with
        | true =>
          rw [if_pos rfl] at h3
          simp [aev, cav, look, acallPure, abin, abinN, abinP, abinI, abinS, aun, aconv, afield, afieldAddr, aindexAddr, aindex, aslice, alow, ahigh, abuild, abuildGo, cellsOf, splice, fieldTy, alen, apick, amax, amin, aload, headV, aparts, abuildSlice, elParts, abytesStr, astore, amake, aappend, aclear, anew, arith, aresults, aresList, ares, spec0, spec1, spec2, spec3, spec4, eqCells, eqCell, sCur, TB, CB, ZC, hT, h2, hq', hx, hu, i1]
          exact ⟨q + 1, u, ⟨by omega, hus, h3⟩, by omega, weak_keep 3 (by simp) (by simp) (by simp [AV.clean, AV.clean1]) (by simp) (by simp [TB, CB, ZC])⟩
        | false =>
          rw [if_neg (by simp)] at h3
          injection h3 with e1 e2
          subst e1 e2
          simp [aev, cav, look, acallPure, abin, abinN, abinP, abinI, abinS, aun, aconv, afield, afieldAddr, aindexAddr, aindex, aslice, alow, ahigh, abuild, abuildGo, cellsOf, splice, fieldTy, alen, apick, amax, amin, aload, headV, aparts, abuildSlice, elParts, abytesStr, astore, amake, aappend, aclear, anew, arith, aresults, aresList, ares, spec0, spec1, spec2, spec3, spec4, eqCells, eqCell, sCur, TB, CB, ZC, hT, h2, hq', hx, hu, C0]
    · have hq' : ¬ (q : Int) < 20 := by omega
      rw [show 20 - q = 0 by omega, climb] at h3
      injection h3 with e1 e2
      subst e1 e2
      simp [aev, cav, look, acallPure, abin, abinN, abinP, abinI, abinS, aun, aconv, afield, afieldAddr, aindexAddr, aindex, aslice, alow, ahigh, abuild, abuildGo, cellsOf, splice, fieldTy, alen, apick, amax, amin, aload, headV, aparts, abuildSlice, elParts, abytesStr, astore, amake, aappend, aclear, anew, arith, aresults, aresList, ares, spec0, spec1, spec2, spec3, spec4, eqCells, eqCell, TB, CB, ZC, hq', C0]
end Go.Proofs.Ytkonafdbfciikaa
