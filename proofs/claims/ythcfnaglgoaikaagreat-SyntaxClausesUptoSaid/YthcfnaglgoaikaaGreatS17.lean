/-
  layer 18: the check of a query, the program's side.
-/
import Derived.Test.YthcfnaglgoaikaaGreatS16
namespace Go.Proofs.YthcfnaglgoaikaaGreat
open Go.RowKit
set_option linter.unusedSimpArgs false
set_option linter.unusedVariables false
set_option maxRecDepth 100000

def goQ (n : Nat) : List Clause → Nat → Int × Int
  | [], _ => (0, 0)
  | c :: r, i => if clauseE c ≠ 0 then (i, clauseE c) else if (¬ i + 1 = n ∧ c.kind = 4) ∨ (i + 1 = n ∧ c.kind ≤ 3) then (i, 26) else goQ n r (i + 1)
theorem goQ_drop {n : Nat} {l : List Clause} {i : Nat} (h : i < l.length) : goQ n (l.drop i) i = if clauseE (ix l i) ≠ 0 then ((i : Int), clauseE (ix l i)) else if (¬ i + 1 = n ∧ (ix l i).kind = 4) ∨ (i + 1 = n ∧ (ix l i).kind ≤ 3) then ((i : Int), 26) else goQ n (l.drop (i + 1)) (i + 1) := by
  rw [List.drop_eq_getElem_cons h, goQ, ix_lt h]
def queryE (q : Query) : Int × Int := if q.clauses = [] ∨ 12 < q.clauses.length then (0, 4) else goQ q.clauses.length q.clauses 0
def pairA (p : Int × Int) : AV := .tup [.int .i64 p.1, .int .i64 p.2]
@[simp] theorem pairA_mk (a b : Int) : pairA (a, b) = .tup [.int .i64 a, .int .i64 b] := rfl
def WfQy (q : Query) : Prop := q.clauses.length ≤ maxLen ∧ ∀ c ∈ q.clauses, WfC c
def QB (q : Query) : Blk := ⟨48, 1, [[.slice 21 false (encRows q.clauses)]], true, true⟩

section
variable {m : Int}
noncomputable def CQu (m : Int) : Ctx := mkC Tryz.prog (G m) [(10, .pure sClause), (46, .pure sCoC)]
@[simp] theorem CQu_P (m : Int) : (CQu m).P = Tryz.prog := rfl
@[simp] theorem CQu_1 (m : Int) : (CQu m).S 10 = .pure sClause := rfl
@[simp] theorem CQu_2 (m : Int) : (CQu m).S 46 = .pure sCoC := rfl
theorem mixCQu (m : Int) : (CQu m).P.follows .mixedOrders = true := mixed
theorem sigCQu (m : Int) : SigOK (CQu m) := sigOK_cons (entryPure clauseP Tryz.func10 rfl (by decide)) (sigOK_cons (entryPure coC Tryz.func46 rfl (by decide)) (sigOK_nil _ _))
def sUpg : List AV → Option (Prop × AV) := spec1 (fun (q : Query) => q.clauses.length ≤ maxLen) (fun q => .bool (q.clauses.any updB))
theorem updatingP : PureOK Tryz.prog (G m) 15 sUpg := by
  refine pure1 (C := CQu m) (sigCQu m) (mixCQu m) Tryz.func15 rfl rfl rfl (by kernel_rfl) (by decide) (fun q hl => ?_)
  simp [aev, cav, look, acallPure, abin, abinN, abinP, abinI, abinS, aun, aconv, afield, afieldAddr, aindexAddr, aindex, aslice, alow, ahigh, abuild, abuildGo, cellsOf, splice, fieldTy, alen, apick, amax, amin, aload, headV, aparts, abuildSlice, elParts, abytesStr, astore, amake, aappend, anew, arith, aresults, aresList, ares, spec0, spec1, spec2, spec3, spec4, eqCells, eqCell, sCoC, hl]
def sQuery : List AV → Option (Prop × AV) := spec1 (fun (q : Query) => WfQy q) (fun q => pairA (queryE q))
set_option maxHeartbeats 8000000 in
theorem queryP : PureOK Tryz.prog (G m) 13 sQuery := by
  refine pure1 (C := CQu m) (sigCQu m) (mixCQu m) Tryz.func13 rfl rfl rfl (by kernel_rfl) (by decide) (fun q ⟨hl, hw⟩ => ?_)
  rcases em2 (q.clauses = []) with h1 | h1
  · have hq : queryE q = (0, 4) := by unfold queryE; rw [if_pos (.inl (of_eq_true h1))]
    simp [aev, cav, look, acallPure, abin, abinN, abinP, abinI, abinS, aun, aconv, afield, afieldAddr, aindexAddr, aindex, aslice, alow, ahigh, abuild, abuildGo, cellsOf, splice, fieldTy, alen, apick, amax, amin, aload, headV, aparts, abuildSlice, elParts, abytesStr, astore, amake, aappend, anew, arith, aresults, aresList, ares, spec0, spec1, spec2, spec3, spec4, eqCells, eqCell, h1, hq]
  by_cases h2 : 12 < q.clauses.length
  · have hq : queryE q = (0, 4) := by unfold queryE; rw [if_pos (.inr h2)]
    have h2' : (12 : Int) < q.clauses.length := by omega
    simp [aev, cav, look, acallPure, abin, abinN, abinP, abinI, abinS, aun, aconv, afield, afieldAddr, aindexAddr, aindex, aslice, alow, ahigh, abuild, abuildGo, cellsOf, splice, fieldTy, alen, apick, amax, amin, aload, headV, aparts, abuildSlice, elParts, abytesStr, astore, amake, aappend, anew, arith, aresults, aresList, ares, spec0, spec1, spec2, spec3, spec4, eqCells, eqCell, h1, h2', hq]
  have hq : queryE q = goQ q.clauses.length q.clauses 0 := by unfold queryE; rw [if_neg (by rintro (h | h); exact of_eq_false h1 h; exact h2 h)]
  have h2' : ¬ (12 : Int) < q.clauses.length := by omega
  simp [aev, cav, look, acallPure, abin, abinN, abinP, abinI, abinS, aun, aconv, afield, afieldAddr, aindexAddr, aindex, aslice, alow, ahigh, abuild, abuildGo, cellsOf, splice, fieldTy, alen, apick, amax, amin, aload, headV, aparts, abuildSlice, elParts, abytesStr, astore, amake, aappend, anew, arith, aresults, aresList, ares, spec0, spec1, spec2, spec3, spec4, eqCells, eqCell, h1, h2', hq]
  refine loop_rule (C := CQu m) (sigCQu m) (mixCQu m) (fun i : Nat => ⟨[(1, .ptr 0 1 1 0 0), (19, Enc.enc q.clauses), (20, .int .i64 q.clauses.length), (21, .int .i64 i)], [QB q]⟩) (fun i => i ≤ q.clauses.length ∧ goQ q.clauses.length (q.clauses.drop i) i = goQ q.clauses.length q.clauses 0) (fun i => q.clauses.length - i) (by kernel_rfl) ⟨0, by simp, weak_slots (by simp)⟩ (fun i ⟨hi, hs⟩ => ?_)
  by_cases hlt : i < q.clauses.length
  · have i1 : I64 ((i : Int) + 1) := by unfold I64; omega
    have i2 : I64 ((q.clauses.length : Int) - 1) := by unfold I64; omega
    have w := hw _ (ix_mem hlt)
    rw [goQ_drop hlt] at hs
    by_cases hc : clauseE (ix q.clauses i) = 0
    case neg =>
      rw [if_pos hc] at hs
      simp [aev, cav, look, acallPure, abin, abinN, abinP, abinI, abinS, aun, aconv, afield, afieldAddr, aindexAddr, aindex, aslice, alow, ahigh, abuild, abuildGo, cellsOf, splice, fieldTy, alen, apick, amax, amin, aload, headV, aparts, abuildSlice, elParts, abytesStr, astore, amake, aappend, anew, arith, aresults, aresList, ares, spec0, spec1, spec2, spec3, spec4, eqCells, eqCell, QB, hlt, rowAt_enc hlt, sClause, w, hc, ← hs]
    rw [if_neg (by simp [hc])] at hs
    by_cases hlast : i + 1 = q.clauses.length
    · have e1 : ((i : Int) = (q.clauses.length : Int) - 1) = True := eq_true (by omega)
      by_cases hk : (ix q.clauses i).kind ≤ 3
      · rw [if_pos (.inr ⟨hlast, hk⟩)] at hs
        simp [aev, cav, look, acallPure, abin, abinN, abinP, abinI, abinS, aun, aconv, afield, afieldAddr, aindexAddr, aindex, aslice, alow, ahigh, abuild, abuildGo, cellsOf, splice, fieldTy, alen, apick, amax, amin, aload, headV, aparts, abuildSlice, elParts, abytesStr, astore, amake, aappend, anew, arith, aresults, aresList, ares, spec0, spec1, spec2, spec3, spec4, eqCells, eqCell, QB, hlt, rowAt_enc hlt, sClause, w, hc, e1, i2, hk, ← hs]
      · rw [if_neg (by simp [hlast, hk])] at hs
        simp [aev, cav, look, acallPure, abin, abinN, abinP, abinI, abinS, aun, aconv, afield, afieldAddr, aindexAddr, aindex, aslice, alow, ahigh, abuild, abuildGo, cellsOf, splice, fieldTy, alen, apick, amax, amin, aload, headV, aparts, abuildSlice, elParts, abytesStr, astore, amake, aappend, anew, arith, aresults, aresList, ares, spec0, spec1, spec2, spec3, spec4, eqCells, eqCell, QB, hlt, rowAt_enc hlt, sClause, w, hc, e1, i2, hk, i1]
        exact ⟨i + 1, ⟨by omega, hs⟩, by omega, weak_keep 1 (by simp) (by simp) (by simp [AV.clean, AV.clean1]) (by simp) (by simp [QB])⟩
    · have e1 : ((i : Int) = (q.clauses.length : Int) - 1) = False := eq_false (by omega)
      rcases em2 ((ix q.clauses i).kind = 4) with hk | hk
      · rw [if_pos (.inl ⟨hlast, of_eq_true hk⟩)] at hs
        simp [aev, cav, look, acallPure, abin, abinN, abinP, abinI, abinS, aun, aconv, afield, afieldAddr, aindexAddr, aindex, aslice, alow, ahigh, abuild, abuildGo, cellsOf, splice, fieldTy, alen, apick, amax, amin, aload, headV, aparts, abuildSlice, elParts, abytesStr, astore, amake, aappend, anew, arith, aresults, aresList, ares, spec0, spec1, spec2, spec3, spec4, eqCells, eqCell, QB, hlt, rowAt_enc hlt, sClause, w, hc, e1, i2, hk, ← hs]
      · rw [if_neg (by rintro (⟨_, h⟩ | ⟨h, _⟩); exact of_eq_false hk h; exact hlast h)] at hs
        simp [aev, cav, look, acallPure, abin, abinN, abinP, abinI, abinS, aun, aconv, afield, afieldAddr, aindexAddr, aindex, aslice, alow, ahigh, abuild, abuildGo, cellsOf, splice, fieldTy, alen, apick, amax, amin, aload, headV, aparts, abuildSlice, elParts, abytesStr, astore, amake, aappend, anew, arith, aresults, aresList, ares, spec0, spec1, spec2, spec3, spec4, eqCells, eqCell, QB, hlt, rowAt_enc hlt, sClause, w, hc, e1, i2, hk, i1]
        exact ⟨i + 1, ⟨by omega, hs⟩, by omega, weak_keep 1 (by simp) (by simp) (by simp [AV.clean, AV.clean1]) (by simp) (by simp [QB])⟩
  · rw [List.drop_eq_nil_of_le (by omega), goQ] at hs
    simp [aev, cav, look, acallPure, abin, abinN, abinP, abinI, abinS, aun, aconv, afield, afieldAddr, aindexAddr, aindex, aslice, alow, ahigh, abuild, abuildGo, cellsOf, splice, fieldTy, alen, apick, amax, amin, aload, headV, aparts, abuildSlice, elParts, abytesStr, astore, amake, aappend, anew, arith, aresults, aresList, ares, spec0, spec1, spec2, spec3, spec4, eqCells, eqCell, QB, hlt, ← hs]
end
end Go.Proofs.YthcfnaglgoaikaaGreat
