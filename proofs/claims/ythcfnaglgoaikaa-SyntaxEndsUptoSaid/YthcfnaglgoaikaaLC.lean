/-
  layer 18: SyntaxEnds: a valid query that ends with RETURN cannot be continued.
-/
import Derived.Test.YthcfnaglgoaikaaLA
import Derived.Test.YthcfnaglgoaikaaR1
import Derived.Test.YthcfnaglgoaikaaSQ
namespace Go.Proofs.Ythcfnaglgoaikaa
open Go.RowKit
set_option linter.unusedSimpArgs false
set_option linter.unusedVariables false
set_option maxRecDepth 100000

theorem goQ_end {c : Clause} {n : Nat} : ∀ (l : List Clause) (i : Nat), i + l.length = n → (hl : l ≠ []) → (goQ n l i).2 = 0 → (l.getLast hl).kind = 4 → goQ (n + 1) (l ++ [c]) i = ((n : Int) - 1, 26)
  | [], i, _, hl, _, _ => absurd rfl hl
  | x :: r, i, hn, hl, h, hk => by
    rw [goQ] at h
    by_cases h1 : clauseE x = 0
    · rw [if_neg (by simp [h1])] at h
      by_cases h2 : (¬ i + 1 = n ∧ x.kind = 4) ∨ (i + 1 = n ∧ x.kind ≤ 3)
      · rw [if_pos h2] at h
        cases h
      · rw [if_neg h2] at h
        rw [List.cons_append, goQ, if_neg (by simp [h1])]
        simp only [List.length_cons] at hn
        cases r with
        | nil =>
          simp only [List.length_nil] at hn
          simp only [List.getLast_singleton] at hk
          rw [if_pos (.inl ⟨by omega, hk⟩)]
          congr 1
          omega
        | cons y r =>
          simp only [List.length_cons] at hn
          rw [if_neg (by
            rintro (⟨_, h3⟩ | ⟨h3, _⟩)
            · exact h2 (.inl ⟨by omega, h3⟩)
            · omega)]
          refine goQ_end (y :: r) (i + 1) (by simp only [List.length_cons]; omega) (by simp) h ?_
          rwa [List.getLast_cons (by simp)] at hk
    · rw [if_pos h1] at h
      exact absurd h h1
theorem getLast_ix {α : Type} [Inhabited α] {l : List α} (h : l ≠ []) : l.getLast h = ix l (l.length - 1) := by
  have h1 : 0 < l.length := List.length_pos_iff.2 h
  rw [List.getLast_eq_getElem, ix_lt (by omega)]
theorem ends {q : Query} {c : Clause} (h0 : q.clauses ≠ []) (h1 : q.clauses.length < 12) (hk : (ix q.clauses (q.clauses.length - 1)).kind = 4) (hq : (queryE q).2 = 0) : queryE ⟨q.clauses ++ [c]⟩ = ((q.clauses.length : Int) - 1, 26) := by
  have hn : 0 < q.clauses.length := List.length_pos_iff.2 h0
  unfold queryE at hq ⊢
  rw [if_neg (by rintro (h | h); exact h0 h; omega)] at hq
  have e : (⟨q.clauses ++ [c]⟩ : Query).clauses = q.clauses ++ [c] := rfl
  rw [e, if_neg (by
    rintro (h | h)
    · simp at h
    · simp only [List.length_append, List.length_singleton] at h; omega)]
  simp only [List.length_append, List.length_singleton]
  exact goQ_end q.clauses 0 (by omega) h0 hq (by rw [getLast_ix]; exact hk)

section
variable {m : Int}
noncomputable def CEn (m : Int) : Ctx := mkC Try.prog (G m) [(18, .pure sLight), (19, .pure sMany), (20, .pure sQuery), (21, .pure sClause), (11, .pure sLives)]
@[simp] theorem CEn_P (m : Int) : (CEn m).P = Try.prog := rfl
@[simp] theorem CEn_1 (m : Int) : (CEn m).S 18 = .pure sLight := rfl
@[simp] theorem CEn_2 (m : Int) : (CEn m).S 19 = .pure sMany := rfl
@[simp] theorem CEn_3 (m : Int) : (CEn m).S 20 = .pure sQuery := rfl
@[simp] theorem CEn_4 (m : Int) : (CEn m).S 21 = .pure sClause := rfl
@[simp] theorem CEn_5 (m : Int) : (CEn m).S 11 = .pure sLives := rfl
theorem mixCEn (m : Int) : (CEn m).P.follows .mixedOrders = true := mixed
theorem sigCEn (m : Int) : SigOK (CEn m) := sigOK_cons (entryPure lightR Try.func18 rfl (by decide)) (sigOK_cons (entryPure manyR Try.func19 rfl (by decide)) (sigOK_cons (entryPure queryP Try.func20 rfl (by decide)) (sigOK_cons (entryPure clauseP Try.func21 rfl (by decide)) (sigOK_cons (entryPure livesP Try.func11 rfl (by decide)) (sigOK_nil _ _)))))
set_option maxHeartbeats 16000000 in
theorem lawEnds : PureOK Try.prog (G m) 6 (spec2 (fun (q : Query) (c : Clause) => (WfQS q ∧ q.clauses.length ≤ 1048576) ∧ WfCS c) fun _ _ => .bool true) := by
  refine pure2 (C := CEn m) (sigCEn m) (mixCEn m) Try.func6 rfl rfl rfl (by kernel_rfl) (by decide) (fun q c ⟨⟨hq, hl⟩, hc⟩ => ?_)
  have hq' : WfQy q := ⟨hq.1, fun x hx => (hq.2 x hx).1⟩
  cases hL : lightB q
  · simp [aev, cav, look, acallPure, abin, abinN, abinP, abinI, abinS, aun, aconv, afield, afieldAddr, aindexAddr, aindex, aslice, alow, ahigh, abuild, abuildGo, cellsOf, splice, fieldTy, alen, apick, amax, amin, aload, headV, aparts, abuildSlice, elParts, abytesStr, astore, amake, aappend, anew, arith, aresults, aresList, ares, spec0, spec1, spec2, spec3, spec4, eqCells, eqCell, sLight, sLives, hq, hL]
  by_cases hM : 3000 < manyE c
  · simp [aev, cav, look, acallPure, abin, abinN, abinP, abinI, abinS, aun, aconv, afield, afieldAddr, aindexAddr, aindex, aslice, alow, ahigh, abuild, abuildGo, cellsOf, splice, fieldTy, alen, apick, amax, amin, aload, headV, aparts, abuildSlice, elParts, abytesStr, astore, amake, aappend, anew, arith, aresults, aresList, ares, spec0, spec1, spec2, spec3, spec4, eqCells, eqCell, sLight, sMany, sLives, hq, hc, hL, hM]
  rcases em2 (q.clauses = []) with h0 | h0
  · simp [aev, cav, look, acallPure, abin, abinN, abinP, abinI, abinS, aun, aconv, afield, afieldAddr, aindexAddr, aindex, aslice, alow, ahigh, abuild, abuildGo, cellsOf, splice, fieldTy, alen, apick, amax, amin, aload, headV, aparts, abuildSlice, elParts, abytesStr, astore, amake, aappend, anew, arith, aresults, aresList, ares, spec0, spec1, spec2, spec3, spec4, eqCells, eqCell, sLight, sMany, sLives, hq, hc, hL, hM, h0]
  have h0' : q.clauses ≠ [] := of_eq_false h0
  have hn : 0 < q.clauses.length := List.length_pos_iff.2 h0'
  by_cases h12 : (12 : Int) ≤ q.clauses.length
  · simp [aev, cav, look, acallPure, abin, abinN, abinP, abinI, abinS, aun, aconv, afield, afieldAddr, aindexAddr, aindex, aslice, alow, ahigh, abuild, abuildGo, cellsOf, splice, fieldTy, alen, apick, amax, amin, aload, headV, aparts, abuildSlice, elParts, abytesStr, astore, amake, aappend, anew, arith, aresults, aresList, ares, spec0, spec1, spec2, spec3, spec4, eqCells, eqCell, sLight, sMany, sLives, hq, hc, hL, hM, h0, h12]
  have i0 : I64 ((q.clauses.length : Int) - 1) := by unfold I64; omega
  have i1 : I64 ((q.clauses.length : Int) + 1) := by unfold I64; omega
  have e1 : ((q.clauses.length : Int) - 1).toNat = q.clauses.length - 1 := by omega
  have e2 : q.clauses.length - 1 < q.clauses.length := by omega
  have e3 : (0 : Int) ≤ (q.clauses.length : Int) - 1 := by omega
  have e4 : (q.clauses.length : Int) - 1 < q.clauses.length := by omega
  have e5 : ((1 : Int) ≤ q.clauses.length) = True := eq_true (by omega)
  rcases em2 ((ix q.clauses (q.clauses.length - 1)).kind = 4) with h4 | h4
  case inr => simp [aev, cav, look, acallPure, abin, abinN, abinP, abinI, abinS, aun, aconv, afield, afieldAddr, aindexAddr, aindex, aslice, alow, ahigh, abuild, abuildGo, cellsOf, splice, fieldTy, alen, apick, amax, amin, aload, headV, aparts, abuildSlice, elParts, abytesStr, astore, amake, aappend, anew, arith, aresults, aresList, ares, spec0, spec1, spec2, spec3, spec4, eqCells, eqCell, sLight, sMany, sLives, hq, hc, hL, hM, h0, h12, i0, e1, e2, e3, e4, e5, rowAt_enc e2, h4]
  obtain ⟨a, e, hQ⟩ : ∃ a e, queryE q = (a, e) := ⟨_, _, rfl⟩
  by_cases he : e = 0
  case neg => simp [aev, cav, look, acallPure, abin, abinN, abinP, abinI, abinS, aun, aconv, afield, afieldAddr, aindexAddr, aindex, aslice, alow, ahigh, abuild, abuildGo, cellsOf, splice, fieldTy, alen, apick, amax, amin, aload, headV, aparts, abuildSlice, elParts, abytesStr, astore, amake, aappend, anew, arith, aresults, aresList, ares, spec0, spec1, spec2, spec3, spec4, eqCells, eqCell, sLight, sMany, sQuery, sLives, hq, hq', hc, hL, hM, h0, h12, i0, e1, e2, e3, e4, e5, rowAt_enc e2, h4, hQ, he]
  by_cases hC : clauseE c = 0
  case neg => simp [aev, cav, look, acallPure, abin, abinN, abinP, abinI, abinS, aun, aconv, afield, afieldAddr, aindexAddr, aindex, aslice, alow, ahigh, abuild, abuildGo, cellsOf, splice, fieldTy, alen, apick, amax, amin, aload, headV, aparts, abuildSlice, elParts, abytesStr, astore, amake, aappend, anew, arith, aresults, aresList, ares, spec0, spec1, spec2, spec3, spec4, eqCells, eqCell, sLight, sMany, sQuery, sClause, sLives, hq, hq', hc, hc.1, hL, hM, h0, h12, i0, e1, e2, e3, e4, e5, rowAt_enc e2, h4, hQ, he, hC]
  have hend := ends (c := c) h0' (by omega) (of_eq_true h4) (by rw [hQ]; exact he)
  have hrow : encRows q.clauses ++ [Enc.cells c] = encRows (q.clauses ++ [c]) := by rw [encRows_append]; rfl
  rw [cells_Clause] at hrow
  have hw : WfQy ⟨q.clauses ++ [c]⟩ := ⟨by simp [maxLen]; omega, fun x hx => by
    rcases List.mem_append.1 hx with h | h
    · exact hq'.2 x h
    · simp at h; subst h; exact hc.1⟩
  simp [aev, cav, look, acallPure, abin, abinN, abinP, abinI, abinS, aun, aconv, afield, afieldAddr, aindexAddr, aindex, aslice, alow, ahigh, abuild, abuildGo, cellsOf, splice, fieldTy, alen, apick, amax, amin, aload, headV, aparts, abuildSlice, elParts, abytesStr, astore, amake, aappend, anew, arith, aresults, aresList, ares, spec0, spec1, spec2, spec3, spec4, eqCells, eqCell, sLight, sMany, sQuery, sClause, sLives, hq, hq', hc, hc.1, hL, hM, h0, h12, i0, i1, e1, e2, e3, e4, e5, rowAt_enc e2, h4, hQ, he, hC, hrow, hend, hw]
  exact ⟨⟨by omega, by omega, by omega⟩, ⟨by omega, by omega⟩, by omega, by omega⟩
end
end Go.Proofs.Ythcfnaglgoaikaa
