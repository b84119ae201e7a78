/-
  layer 18: SyntaxQueries.
-/
import Derived.Test.YthcfnaglgoaikaaGreatR5
namespace Go.Proofs.YthcfnaglgoaikaaGreat
open Go.RowKit
set_option linter.unusedSimpArgs false
set_option linter.unusedVariables false
set_option maxRecDepth 100000

theorem any_drop2 {l : List Clause} {i : Nat} (h : i < l.length) : (l.drop i).any updB = (updB (ix l i) || (l.drop (i + 1)).any updB) := any_drop h
section
variable {m : Int}
noncomputable def CQr (m : Int) : Ctx := mkC Tryz.prog (G m) [(11, .pure sClauseS)]
@[simp] theorem CQr_P (m : Int) : (CQr m).P = Tryz.prog := rfl
@[simp] theorem CQr_1 (m : Int) : (CQr m).S 11 = .pure sClauseS := rfl
theorem mixCQr (m : Int) : (CQr m).P.follows .mixedOrders = true := mixed
theorem sigCQr (m : Int) : SigOK (CQr m) := sigOK_cons (entryPure clauseR Tryz.func11 rfl (by decide)) (sigOK_nil _ _)
def sQueryS : List AV → Option (Prop × AV) := spec1 (fun (q : Query) => WfQS q) (fun q => pairA (queryE q))
set_option maxHeartbeats 8000000 in
theorem queryR : PureOK Tryz.prog (G m) 14 sQueryS := by
  refine pure1 (C := CQr m) (sigCQr m) (mixCQr m) Tryz.func14 rfl rfl rfl (by kernel_rfl) (by decide) (fun q ⟨hl, hw⟩ => ?_)
  rcases em2 (q.clauses = []) with h1 | h1
  · have hq : queryE q = (0, 4) := by unfold queryE; rw [if_pos (.inl (of_eq_true h1))]
    simp [aev, cav, look, acallPure, abin, abinN, abinP, abinI, abinS, aun, aconv, afield, afieldAddr, aindexAddr, aindex, aslice, alow, ahigh, abuild, abuildGo, cellsOf, splice, fieldTy, alen, apick, amax, amin, aload, headV, aparts, abuildSlice, elParts, abytesStr, astore, amake, aappend, anew, arith, aresults, aresList, ares, spec0, spec1, spec2, spec3, spec4, eqCells, eqCell, h1, hq]
  by_cases h2 : 12 < q.clauses.length
  · have hq : queryE q = (0, 4) := by unfold queryE; rw [if_pos (.inr h2)]
    have h2' : (12 : Int) < q.clauses.length := by omega
    simp [aev, cav, look, acallPure, abin, abinN, abinP, abinI, abinS, aun, aconv, afield, afieldAddr, aindexAddr, aindex, aslice, alow, ahigh, abuild, abuildGo, cellsOf, splice, fieldTy, alen, apick, amax, amin, aload, headV, aparts, abuildSlice, elParts, abytesStr, astore, amake, aappend, anew, arith, aresults, aresList, ares, spec0, spec1, spec2, spec3, spec4, eqCells, eqCell, h1, h2', hq]
  have hq : queryE q = goQ q.clauses.length q.clauses 0 := by unfold queryE; rw [if_neg (by rintro (h | h); exact of_eq_false h1 h; exact h2 h)]
  have h2' : ¬ (12 : Int) < q.clauses.length := by omega
  simp [aev, cav, look, acallPure, abin, abinN, abinP, abinI, abinS, aun, aconv, afield, afieldAddr, aindexAddr, aindex, aslice, alow, ahigh, abuild, abuildGo, cellsOf, splice, fieldTy, alen, apick, amax, amin, aload, headV, aparts, abuildSlice, elParts, abytesStr, astore, amake, aappend, anew, arith, aresults, aresList, ares, spec0, spec1, spec2, spec3, spec4, eqCells, eqCell, h1, h2', hq]
  refine loop_rule (C := CQr m) (sigCQr m) (mixCQr m) (fun i : Nat => ⟨[(1, .ptr 0 1 1 0 0), (4, .int .i64 q.clauses.length), (5, .int .i64 i)], [QB q]⟩) (fun i => i ≤ q.clauses.length ∧ goQ q.clauses.length (q.clauses.drop i) i = goQ q.clauses.length q.clauses 0) (fun i => q.clauses.length - i) (by kernel_rfl) ⟨0, by simp, weak_slots (by simp)⟩ (fun i ⟨hi, hs⟩ => ?_)
  by_cases hlt : i < q.clauses.length
  · have i1 : I64 ((i : Int) + 1) := by unfold I64; omega
    have i2 : I64 ((q.clauses.length : Int) - 1) := by unfold I64; omega
    have w := hw _ (ix_mem hlt)
    rw [goQ_drop hlt] at hs
    by_cases hc : clauseE (ix q.clauses i) = 0
    case neg =>
      rw [if_pos hc] at hs
      simp [aev, cav, look, acallPure, abin, abinN, abinP, abinI, abinS, aun, aconv, afield, afieldAddr, aindexAddr, aindex, aslice, alow, ahigh, abuild, abuildGo, cellsOf, splice, fieldTy, alen, apick, amax, amin, aload, headV, aparts, abuildSlice, elParts, abytesStr, astore, amake, aappend, anew, arith, aresults, aresList, ares, spec0, spec1, spec2, spec3, spec4, eqCells, eqCell, QB, hlt, rowAt_enc hlt, sClauseS, w, hc, ← hs]
    rw [if_neg (by simp [hc])] at hs
    by_cases hlast : i + 1 = q.clauses.length
    · have e1 : ((i : Int) = (q.clauses.length : Int) - 1) = True := eq_true (by omega)
      have e2 : ((i : Int) < (q.clauses.length : Int) - 1) = False := eq_false (by omega)
      by_cases hk : (ix q.clauses i).kind ≤ 3
      · rw [if_pos (.inr ⟨hlast, hk⟩)] at hs
        simp [aev, cav, look, acallPure, abin, abinN, abinP, abinI, abinS, aun, aconv, afield, afieldAddr, aindexAddr, aindex, aslice, alow, ahigh, abuild, abuildGo, cellsOf, splice, fieldTy, alen, apick, amax, amin, aload, headV, aparts, abuildSlice, elParts, abytesStr, astore, amake, aappend, anew, arith, aresults, aresList, ares, spec0, spec1, spec2, spec3, spec4, eqCells, eqCell, QB, hlt, rowAt_enc hlt, sClauseS, w, hc, e1, e2, i2, hk, ← hs]
      · rw [if_neg (by simp [hlast, hk])] at hs
        simp [aev, cav, look, acallPure, abin, abinN, abinP, abinI, abinS, aun, aconv, afield, afieldAddr, aindexAddr, aindex, aslice, alow, ahigh, abuild, abuildGo, cellsOf, splice, fieldTy, alen, apick, amax, amin, aload, headV, aparts, abuildSlice, elParts, abytesStr, astore, amake, aappend, anew, arith, aresults, aresList, ares, spec0, spec1, spec2, spec3, spec4, eqCells, eqCell, QB, hlt, rowAt_enc hlt, sClauseS, w, hc, e1, e2, i2, hk, i1]
        exact ⟨i + 1, ⟨by omega, hs⟩, by omega, weak_keep 1 (by simp) (by simp) (by simp [AV.clean, AV.clean1]) (by simp) (by simp [QB])⟩
    · have e1 : ((i : Int) = (q.clauses.length : Int) - 1) = False := eq_false (by omega)
      have e2 : ((i : Int) < (q.clauses.length : Int) - 1) = True := eq_true (by omega)
      rcases em2 ((ix q.clauses i).kind = 4) with hk | hk
      · rw [if_pos (.inl ⟨hlast, of_eq_true hk⟩)] at hs
        simp [aev, cav, look, acallPure, abin, abinN, abinP, abinI, abinS, aun, aconv, afield, afieldAddr, aindexAddr, aindex, aslice, alow, ahigh, abuild, abuildGo, cellsOf, splice, fieldTy, alen, apick, amax, amin, aload, headV, aparts, abuildSlice, elParts, abytesStr, astore, amake, aappend, anew, arith, aresults, aresList, ares, spec0, spec1, spec2, spec3, spec4, eqCells, eqCell, QB, hlt, rowAt_enc hlt, sClauseS, w, hc, e1, e2, i2, hk, ← hs]
      · rw [if_neg (by rintro (⟨_, h⟩ | ⟨h, _⟩); exact of_eq_false hk h; exact hlast h)] at hs
        simp [aev, cav, look, acallPure, abin, abinN, abinP, abinI, abinS, aun, aconv, afield, afieldAddr, aindexAddr, aindex, aslice, alow, ahigh, abuild, abuildGo, cellsOf, splice, fieldTy, alen, apick, amax, amin, aload, headV, aparts, abuildSlice, elParts, abytesStr, astore, amake, aappend, anew, arith, aresults, aresList, ares, spec0, spec1, spec2, spec3, spec4, eqCells, eqCell, QB, hlt, rowAt_enc hlt, sClauseS, w, hc, e1, e2, i2, hk, i1]
        exact ⟨i + 1, ⟨by omega, hs⟩, by omega, weak_keep 1 (by simp) (by simp) (by simp [AV.clean, AV.clean1]) (by simp) (by simp [QB])⟩
  · rw [List.drop_eq_nil_of_le (by omega), goQ] at hs
    simp [aev, cav, look, acallPure, abin, abinN, abinP, abinI, abinS, aun, aconv, afield, afieldAddr, aindexAddr, aindex, aslice, alow, ahigh, abuild, abuildGo, cellsOf, splice, fieldTy, alen, apick, amax, amin, aload, headV, aparts, abuildSlice, elParts, abytesStr, astore, amake, aappend, anew, arith, aresults, aresList, ares, spec0, spec1, spec2, spec3, spec4, eqCells, eqCell, QB, hlt, ← hs]
set_option maxHeartbeats 8000000 in
theorem updatingR : PureOK Tryz.prog (G m) 16 sUpg := by
  refine pure1 (C := CE m) (sigCE m) (mixCE m) Tryz.func16 rfl rfl rfl (by kernel_rfl) (by decide) (fun q hl => ?_)
  have hl' := maxLen_le hl
  obtain ⟨R, hR⟩ : ∃ R, R = q.clauses.any updB := ⟨_, rfl⟩
  rw [← hR]
  simp [aev, cav, look, acallPure, abin, abinN, abinP, abinI, abinS, aun, aconv, afield, afieldAddr, aindexAddr, aindex, aslice, alow, ahigh, abuild, abuildGo, cellsOf, splice, fieldTy, alen, apick, amax, amin, aload, headV, aparts, abuildSlice, elParts, abytesStr, astore, amake, aappend, anew, arith, aresults, aresList, ares, spec0, spec1, spec2, spec3, spec4, eqCells, eqCell]
  refine loop_rule (C := CE m) (sigCE m) (mixCE m) (fun i : Nat => ⟨[(1, .ptr 0 1 1 0 0), (3, .int .i64 i)], [QB q]⟩) (fun i => i ≤ q.clauses.length ∧ (q.clauses.drop i).any updB = R) (fun i => q.clauses.length - i) (by kernel_rfl) ⟨0, ⟨by omega, by rw [hR]; rfl⟩, weak_slots (by simp)⟩ (fun i ⟨hi, hs⟩ => ?_)
  by_cases hlt : i < q.clauses.length
  · have i1 : I64 ((i : Int) + 1) := by unfold I64; omega
    rw [any_drop2 hlt] at hs
    by_cases h5 : 5 ≤ (ix q.clauses i).kind
    · by_cases h8 : (ix q.clauses i).kind ≤ 8
      · have hu : updB (ix q.clauses i) = true := by simp [updB, h5, h8]
        rw [hu, Bool.true_or] at hs
        simp [aev, cav, look, acallPure, abin, abinN, abinP, abinI, abinS, aun, aconv, afield, afieldAddr, aindexAddr, aindex, aslice, alow, ahigh, abuild, abuildGo, cellsOf, splice, fieldTy, alen, apick, amax, amin, aload, headV, aparts, abuildSlice, elParts, abytesStr, astore, amake, aappend, anew, arith, aresults, aresList, ares, spec0, spec1, spec2, spec3, spec4, eqCells, eqCell, QB, hlt, rowAt_enc hlt, h5, h8, ← hs]
      · have hu : updB (ix q.clauses i) = false := by simp [updB, h5, h8]
        rw [hu, Bool.false_or] at hs
        simp [aev, cav, look, acallPure, abin, abinN, abinP, abinI, abinS, aun, aconv, afield, afieldAddr, aindexAddr, aindex, aslice, alow, ahigh, abuild, abuildGo, cellsOf, splice, fieldTy, alen, apick, amax, amin, aload, headV, aparts, abuildSlice, elParts, abytesStr, astore, amake, aappend, anew, arith, aresults, aresList, ares, spec0, spec1, spec2, spec3, spec4, eqCells, eqCell, QB, hlt, rowAt_enc hlt, h5, h8, i1]
        exact ⟨i + 1, ⟨by omega, hs⟩, by omega, weak_slots (by simp)⟩
    · have hu : updB (ix q.clauses i) = false := by simp [updB, h5]
      rw [hu, Bool.false_or] at hs
      simp [aev, cav, look, acallPure, abin, abinN, abinP, abinI, abinS, aun, aconv, afield, afieldAddr, aindexAddr, aindex, aslice, alow, ahigh, abuild, abuildGo, cellsOf, splice, fieldTy, alen, apick, amax, amin, aload, headV, aparts, abuildSlice, elParts, abytesStr, astore, amake, aappend, anew, arith, aresults, aresList, ares, spec0, spec1, spec2, spec3, spec4, eqCells, eqCell, QB, hlt, rowAt_enc hlt, h5, i1]
      exact ⟨i + 1, ⟨by omega, hs⟩, by omega, weak_slots (by simp)⟩
  · rw [List.drop_eq_nil_of_le (by omega), List.any_nil] at hs
    simp [aev, cav, look, acallPure, abin, abinN, abinP, abinI, abinS, aun, aconv, afield, afieldAddr, aindexAddr, aindex, aslice, alow, ahigh, abuild, abuildGo, cellsOf, splice, fieldTy, alen, apick, amax, amin, aload, headV, aparts, abuildSlice, elParts, abytesStr, astore, amake, aappend, anew, arith, aresults, aresList, ares, spec0, spec1, spec2, spec3, spec4, eqCells, eqCell, QB, hlt, ← hs]

noncomputable def CLq (m : Int) : Ctx := mkC Tryz.prog (G m) [(12, .pure sLight), (7, .pure sLives), (13, .pure sQuery), (14, .pure sQueryS), (15, .pure sUpg), (16, .pure sUpg)]
@[simp] theorem CLq_P (m : Int) : (CLq m).P = Tryz.prog := rfl
@[simp] theorem CLq_1 (m : Int) : (CLq m).S 12 = .pure sLight := rfl
@[simp] theorem CLq_2 (m : Int) : (CLq m).S 7 = .pure sLives := rfl
@[simp] theorem CLq_3 (m : Int) : (CLq m).S 13 = .pure sQuery := rfl
@[simp] theorem CLq_4 (m : Int) : (CLq m).S 14 = .pure sQueryS := rfl
@[simp] theorem CLq_5 (m : Int) : (CLq m).S 15 = .pure sUpg := rfl
@[simp] theorem CLq_6 (m : Int) : (CLq m).S 16 = .pure sUpg := rfl
theorem mixCLq (m : Int) : (CLq m).P.follows .mixedOrders = true := mixed
theorem sigCLq (m : Int) : SigOK (CLq m) := sigOK_cons (entryPure lightR Tryz.func12 rfl (by decide)) (sigOK_cons (entryPure livesP Tryz.func7 rfl (by decide)) (sigOK_cons (entryPure queryP Tryz.func13 rfl (by decide)) (sigOK_cons (entryPure queryR Tryz.func14 rfl (by decide)) (sigOK_cons (entryPure updatingP Tryz.func15 rfl (by decide)) (sigOK_cons (entryPure updatingR Tryz.func16 rfl (by decide)) (sigOK_nil _ _))))))
theorem lawQueries : PureOK Tryz.prog (G m) 5 (spec1 (fun (q : Query) => WfQS q) fun _ => .bool true) := by
  refine pure1 (C := CLq m) (sigCLq m) (mixCLq m) Tryz.func5 rfl rfl rfl (by kernel_rfl) (by decide) (fun q hq => ?_)
  have hq' : WfQy q := ⟨hq.1, fun x hx => (hq.2 x hx).1⟩
  obtain ⟨a, e, hQ⟩ : ∃ a e, queryE q = (a, e) := ⟨_, _, rfl⟩
  obtain ⟨R, hR⟩ : ∃ R, R = q.clauses.any updB := ⟨_, rfl⟩
  cases hL : lightB q
  · simp [aev, cav, look, acallPure, abin, abinN, abinP, abinI, abinS, aun, aconv, afield, afieldAddr, aindexAddr, aindex, aslice, alow, ahigh, abuild, abuildGo, cellsOf, splice, fieldTy, alen, apick, amax, amin, aload, headV, aparts, abuildSlice, elParts, abytesStr, astore, amake, aappend, anew, arith, aresults, aresList, ares, spec0, spec1, spec2, spec3, spec4, eqCells, eqCell, sLight, sLives, hq, hL]
  · simp [aev, cav, look, acallPure, abin, abinN, abinP, abinI, abinS, aun, aconv, afield, afieldAddr, aindexAddr, aindex, aslice, alow, ahigh, abuild, abuildGo, cellsOf, splice, fieldTy, alen, apick, amax, amin, aload, headV, aparts, abuildSlice, elParts, abytesStr, astore, amake, aappend, anew, arith, aresults, aresList, ares, spec0, spec1, spec2, spec3, spec4, eqCells, eqCell, sLight, sLives, sQuery, sQueryS, sUpg, hq, hq', hq.1, hL, hQ, ← hR]
end
end Go.Proofs.YthcfnaglgoaikaaGreat
