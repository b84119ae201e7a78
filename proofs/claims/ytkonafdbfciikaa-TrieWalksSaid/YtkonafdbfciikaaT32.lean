/-
  layer 14: the law of what is read from a trie.
-/
import Derived.Test.YtkonafdbfciikaaT31
namespace Go.Proofs.Ytkonafdbfciikaa
open Go.RowKit
set_option linter.unusedSimpArgs false
set_option linter.unusedVariables false
set_option maxRecDepth 100000

theorem child_small {t : Trie} {p : List Int} (h : SmallT t) : SmallR (childF t p) := by
  show _ ≤ _
  unfold childF
  split
  · rename_i hv
    split
    · rename_i a z _
      have := (h.2 _ (ix_mem hv.2)).1
      unfold segL
      simp
      omega
    · exact Nat.zero_le _
  · exact Nat.zero_le _
theorem rows_small {t : Trie} (h : SmallT t) : SmallRs (rowsF t) := by
  unfold rowsF
  split
  · rename_i hv
    have h0 : 0 < t.levels.length := hv.1
    have hfew := sub_few hv h h0 (a := 0) (z := (ix t.levels 0).keys.length) (Nat.zero_le _) (Nat.le_refl _)
    rw [List.drop_zero] at hfew
    refine ⟨hfew, fun r hr => ?_⟩
    unfold rowsU at hr
    rw [List.mem_flatMap] at hr
    obtain ⟨j, _, hj⟩ := hr
    have ht := valid_tree hv (t.levels.length - 1) 0 (by omega)
    rw [List.drop_zero] at ht
    have := sub_row ht hj
    have h8 := hv.2.1
    show _ ≤ _
    omega
  · exact ⟨Nat.zero_le _, fun r hr => by cases hr⟩
noncomputable def CRd : Ctx := mkC Try.prog G0 [(27, .pure sTame), (11, .pure sAlive), (20, .pure sValid), (34, .pure sValidR), (23, .pure sRows), (35, .pure sRows), (36, .pure sChild), (37, .pure sChild), (17, .pure sCmp), (22, .pure sSameRows)]
@[simp] theorem CRd_P : CRd.P = Try.prog := rfl
@[simp] theorem CRd_1 : CRd.S 27 = .pure sTame := rfl
@[simp] theorem CRd_2 : CRd.S 11 = .pure sAlive := rfl
@[simp] theorem CRd_3 : CRd.S 20 = .pure sValid := rfl
@[simp] theorem CRd_4 : CRd.S 34 = .pure sValidR := rfl
@[simp] theorem CRd_5 : CRd.S 23 = .pure sRows := rfl
@[simp] theorem CRd_6 : CRd.S 35 = .pure sRows := rfl
@[simp] theorem CRd_7 : CRd.S 36 = .pure sChild := rfl
@[simp] theorem CRd_8 : CRd.S 37 = .pure sChild := rfl
@[simp] theorem CRd_9 : CRd.S 17 = .pure sCmp := rfl
@[simp] theorem CRd_10 : CRd.S 22 = .pure sSameRows := rfl
theorem mixCRd : CRd.P.follows .mixedOrders = true := mixed
theorem sigCRd : SigOK CRd := sigOK_cons (entryPure tameL Try.func27 rfl (by decide)) (sigOK_cons (entryPure aliveP Try.func11 rfl (by decide)) (sigOK_cons (entryPure validP Try.func20 rfl (by decide)) (sigOK_cons (entryPure validR Try.func34 rfl (by decide))
  (sigOK_cons (entryPure rowsP Try.func23 rfl (by decide)) (sigOK_cons (entryPure rowsR Try.func35 rfl (by decide)) (sigOK_cons (entryPure childP Try.func36 rfl (by decide)) (sigOK_cons (entryPure childR Try.func37 rfl (by decide))
  (sigOK_cons (entryPure cmpR Try.func17 rfl (by decide)) (sigOK_cons (entryPure sameRowsR Try.func22 rfl (by decide)) (sigOK_nil _ _))))))))))
set_option maxHeartbeats 16000000 in
theorem lawReads : PureOK Try.prog G0 7 (spec2 (fun (t : Trie) (p : List Int) => WfTrie t ∧ WfI p) fun _ _ => .bool true) := by
  refine pure2 (C := CRd) sigCRd mixCRd Try.func7 rfl rfl rfl (by kernel_rfl) (by decide) (fun t p ⟨hT, hp⟩ => ?_)
  by_cases ht : TameT t
  case neg => simp [aev, cav, look, acallPure, abin, abinN, abinP, abinI, abinS, aun, aconv, afield, afieldAddr, aindexAddr, aindex, aslice, alow, ahigh, abuild, abuildGo, cellsOf, splice, fieldTy, alen, apick, amax, amin, aload, headV, aparts, abuildSlice, elParts, abytesStr, astore, amake, aappend, aclear, anew, arith, aresults, aresList, ares, spec0, spec1, spec2, spec3, spec4, eqCells, eqCell, sTame, sAlive, hT, tameB_no ht]
  have e0 := tameB_yes ht
  by_cases h1 : 12 < p.length
  · have h1' : (12 : Int) < p.length := by omega
    simp [aev, cav, look, acallPure, abin, abinN, abinP, abinI, abinS, aun, aconv, afield, afieldAddr, aindexAddr, aindex, aslice, alow, ahigh, abuild, abuildGo, cellsOf, splice, fieldTy, alen, apick, amax, amin, aload, headV, aparts, abuildSlice, elParts, abytesStr, astore, amake, aappend, aclear, anew, arith, aresults, aresList, ares, spec0, spec1, spec2, spec3, spec4, eqCells, eqCell, sTame, sAlive, hT, e0, h1']
  have h1' : ¬ (12 : Int) < p.length := by omega
  have hS := tame_small ht hT
  have hpl : p.length ≤ 1000000 := by omega
  have s1 := child_small (p := p) hS.1
  have s2 := rows_small hS.1
  have s3 := cmpL_refl (childF t p)
  simp [aev, cav, look, acallPure, abin, abinN, abinP, abinI, abinS, aun, aconv, afield, afieldAddr, aindexAddr, aindex, aslice, alow, ahigh, abuild, abuildGo, cellsOf, splice, fieldTy, alen, apick, amax, amin, aload, headV, aparts, abuildSlice, elParts, abytesStr, astore, amake, aappend, aclear, anew, arith, aresults, aresList, ares, spec0, spec1, spec2, spec3, spec4, eqCells, eqCell, sTame, sAlive, sValid, sValidR, sRows, sChild, sCmp, sSameRows, hT, e0, h1', hS, hS.1, hS.2, hpl, s1, s2, s3]
end Go.Proofs.Ytkonafdbfciikaa
