/-
  layer 14: the law of columns turned back.
-/
import Derived.Test.YtkonafdbfciikaaT45
import Derived.Test.YtkonafdbfciikaaT21
namespace Go.Proofs.Ytkonafdbfciikaa
open Go.RowKit
set_option linter.unusedSimpArgs false
set_option linter.unusedVariables false
set_option maxRecDepth 100000

noncomputable def CTu : Ctx := mkC Try.prog G0 [(10, .pure sSmall), (11, .pure sAlive), (38, .pure sPermute), (41, .pure sSame)]
@[simp] theorem CTu_P : CTu.P = Try.prog := rfl
@[simp] theorem CTu_1 : CTu.S 10 = .pure sSmall := rfl
@[simp] theorem CTu_2 : CTu.S 11 = .pure sAlive := rfl
@[simp] theorem CTu_3 : CTu.S 38 = .pure sPermute := rfl
@[simp] theorem CTu_4 : CTu.S 41 = .pure sSame := rfl
theorem mixCTu : CTu.P.follows .mixedOrders = true := mixed
theorem sigCTu : SigOK CTu := sigOK_cons (entryPure smallL Try.func10 rfl (by decide)) (sigOK_cons (entryPure aliveP Try.func11 rfl (by decide)) (sigOK_cons (entryPure permuteP Try.func38 rfl (by decide)) (sigOK_cons (entryPure sameR Try.func41 rfl (by decide)) (sigOK_nil _ _))))
set_option maxHeartbeats 32000000 in
theorem lawTurns : PureOK Try.prog G0 9 (spec2 (fun (r : Rela) (o : List Int) => r.rows.length ≤ maxLen) fun _ _ => .bool true) := by
  refine pureH2 (C := CTu) sigCTu mixCTu Try.func9 rfl rfl rfl [14] (by kernel_rfl) (by decide) (fun r o hl => ?_)
  obtain ⟨n, rows⟩ := r
  simp only at hl
  by_cases hf : FewR rows
  case neg => simp [aev, cav, look, acallPure, abin, abinN, abinP, abinI, abinS, aun, aconv, afield, afieldAddr, aindexAddr, aindex, aslice, alow, ahigh, abuild, abuildGo, cellsOf, splice, fieldTy, alen, apick, amax, amin, aload, headV, aparts, abuildSlice, elParts, abytesStr, astore, amake, aappend, aclear, anew, arith, aresults, aresList, ares, spec0, spec1, spec2, spec3, spec4, eqCells, eqCell, sSmall, sAlive, hl, fewB_no hf]
  have e0 := fewB_yes hf
  have hS := few_small hf
  by_cases h1 : 12 < o.length
  · have h1' : (12 : Int) < o.length := by omega
    simp [aev, cav, look, acallPure, abin, abinN, abinP, abinI, abinS, aun, aconv, afield, afieldAddr, aindexAddr, aindex, aslice, alow, ahigh, abuild, abuildGo, cellsOf, splice, fieldTy, alen, apick, amax, amin, aload, headV, aparts, abuildSlice, elParts, abytesStr, astore, amake, aappend, aclear, anew, arith, aresults, aresList, ares, spec0, spec1, spec2, spec3, spec4, eqCells, eqCell, sSmall, sAlive, hl, e0, h1']
  have h1' : ¬ (12 : Int) < o.length := by omega
  have hO : SmallR o := by show _ ≤ _; omega
  have s2 := permF_small (r := ⟨n, rows⟩) hS hO
  obtain ⟨p, e, q2⟩ : ∃ a b, permF ⟨n, rows⟩ o = (a, b) := ⟨_, _, rfl⟩
  rw [q2] at s2
  simp only at s2
  rcases em2 (e = 0) with he | he
  case inr => simp [aev, cav, look, acallPure, abin, abinN, abinP, abinI, abinS, aun, aconv, afield, afieldAddr, aindexAddr, aindex, aslice, alow, ahigh, abuild, abuildGo, cellsOf, splice, fieldTy, alen, apick, amax, amin, aload, headV, aparts, abuildSlice, elParts, abytesStr, astore, amake, aappend, aclear, anew, arith, aresults, aresList, ares, spec0, spec1, spec2, spec3, spec4, eqCells, eqCell, sSmall, sAlive, sPermute, hl, e0, h1', hS, hO, q2, he]
  have he' := of_eq_true he
  subst he'
  obtain ⟨m, hom, hp, hbk, hpl⟩ := turn_rel q2
  obtain ⟨pa, pr⟩ := p
  simp only at hpl s2
  have hB : SmallR (backO o m) := by show _ ≤ _; rw [backO_len]; omega
  have hom' : (o.length : Int) = m := by omega
  have hm12 : m ≤ 12 := by omega
  have hm12' : ¬ (12 : Int) < m := by omega
  have eP0 : bK (backQ o m 0) = ⟨3, 1, List.replicate m [.int .i64 0], true, true⟩ := by
    have h : backQ o m 0 = List.replicate m 0 := rfl
    unfold bK
    rw [h, encRows_rep]
  simp [aev, cav, look, acallPure, abin, abinN, abinP, abinI, abinS, aun, aconv, afield, afieldAddr, aindexAddr, aindex, aslice, alow, ahigh, abuild, abuildGo, cellsOf, splice, fieldTy, alen, apick, amax, amin, aload, headV, aparts, abuildSlice, elParts, abytesStr, astore, amake, aappend, aclear, anew, arith, aresults, aresList, ares, spec0, spec1, spec2, spec3, spec4, eqCells, eqCell, sSmall, sAlive, sPermute, hl, e0, h1', hS, hO, q2, hom, hom', hm12']
  repeat (refine And.intro (by omega) ?_)
  refine loop_ruleH (C := CTu) sigCTu mixCTu [14] (fun q : Nat => ⟨[(1, Enc.enc o), (2, .ptr 0 1 2 0 0), (5, .ptr 1 1 2 0 0), (7, .own 2 m), (34, Enc.enc o), (35, .int .i64 m), (36, .int .i64 q)], [RB ⟨n, rows⟩, RB ⟨pa, pr⟩, bK (backQ o m q)]⟩) (fun q => q ≤ m) (fun q => m - q) (by kernel_rfl) ⟨0, Nat.zero_le _, weak_eq (by simp [hom]) (by rw [eP0]; simp [RB])⟩ (fun q hq => ?_)
  have hbl := backQ_len o m q
  by_cases hqm : q < m
  · have hqo : q < o.length := by omega
    have i1 : I64 ((q : Int) + 1) := by unfold I64; omega
    obtain ⟨p1, p2⟩ := perm_mem hp (ix_mem hqo)
    have n1 : ¬ ix o q < 0 := by omega
    have n2 : ¬ (m : Int) ≤ ix o q := by omega
    have p4 : (ix o q).toNat < m := by omega
    have eB : backQ o m (q + 1) = (backQ o m q).set (ix o q).toNat q := rfl
    generalize hQ : backQ o m q = Q at *
    have p5 : (ix o q).toNat < Q.length := by omega
    simp [aev, cav, look, acallPure, abin, abinN, abinP, abinI, abinS, aun, aconv, afield, afieldAddr, aindexAddr, aindex, aslice, alow, ahigh, abuild, abuildGo, cellsOf, splice, fieldTy, alen, apick, amax, amin, aload, headV, aparts, abuildSlice, elParts, abytesStr, astore, amake, aappend, aclear, anew, arith, aresults, aresList, ares, spec0, spec1, spec2, spec3, spec4, eqCells, eqCell, RB, bK, hqm, hqo, rowAt_enc hqo, n1, n2, p1, p2, p4, i1, hbl, p5, rowAt_enc p5]
    exact ⟨q + 1, by omega, by omega, weak_eq (by simp) (by simp [eB])⟩
  · have hqe : q = m := by omega
    subst hqe
    have eO : backQ o q q = backO o q := rfl
    rw [eO] at hbl
    simp [aev, cav, look, acallPure, abin, abinN, abinP, abinI, abinS, aun, aconv, afield, afieldAddr, aindexAddr, aindex, aslice, alow, ahigh, abuild, abuildGo, cellsOf, splice, fieldTy, alen, apick, amax, amin, aload, headV, aparts, abuildSlice, elParts, abytesStr, astore, amake, aappend, aclear, anew, arith, aresults, aresList, ares, spec0, spec1, spec2, spec3, spec4, eqCells, eqCell, RB, bK, hqm, eO]
    refine AW.weak (weak_view 7) ?_
    refine AW_regionS sigCTu mixCTu (by kernel_rfl) ?_
    simp [aev, cav, look, acallPure, abin, abinN, abinP, abinI, abinS, aun, aconv, afield, afieldAddr, aindexAddr, aindex, aslice, alow, ahigh, abuild, abuildGo, cellsOf, splice, fieldTy, alen, apick, amax, amin, aload, headV, aparts, abuildSlice, elParts, abytesStr, astore, amake, aappend, aclear, anew, arith, aresults, aresList, ares, spec0, spec1, spec2, spec3, spec4, eqCells, eqCell, sAlive, sPermute, sSame, s2, hS, hB, hbk, hbl, hpl, sameB_refl]
end Go.Proofs.Ytkonafdbfciikaa
