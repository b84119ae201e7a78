/-
  Texts joined: G2 G3 G4 G5 G6 G7 G8 G9 G10 G11 G12 G13 G14 G15 G16 G17.
-/
import Derived.Test.YtifbaegnkodneaaDoorJ1
/-
  layer 30: the small functions, on both sides.
-/
namespace Go.Proofs.YtifbaegnkodneaaDoor
open Go.RowKit
set_option linter.unusedSimpArgs false
set_option linter.unusedVariables false
set_option maxRecDepth 100000

theorem zeroP : PureOK Tryd.prog G0 39 (spec0 (Enc.enc F01)) := by
  refine pure0 (C := CE) sigCE mixCE Tryd.func39 rfl rfl rfl (by kernel_rfl) ?_
  simp [aev, cav, look, acallPure, abin, abinN, abinP, abinI, abinS, aun, aconv, afield, afieldAddr, aindexAddr, aindex, aslice, alow, ahigh, abuild, abuildGo, cellsOf, splice, fieldTy, alen, apick, amax, amin, aload, headV, aparts, abuildSlice, elParts, abytesStr, astore, amake, aappend, aclear, anew, arith, aresults, aresList, ares, spec0, spec1, spec2, spec3, spec4, eqCells, eqCell, F01]
theorem zeroR : PureOK Tryd.prog G0 53 (spec0 (Enc.enc F01)) := by
  refine pure0 (C := CE) sigCE mixCE Tryd.func53 rfl rfl rfl (by kernel_rfl) ?_
  simp [aev, cav, look, acallPure, abin, abinN, abinP, abinI, abinS, aun, aconv, afield, afieldAddr, aindexAddr, aindex, aslice, alow, ahigh, abuild, abuildGo, cellsOf, splice, fieldTy, alen, apick, amax, amin, aload, headV, aparts, abuildSlice, elParts, abytesStr, astore, amake, aappend, aclear, anew, arith, aresults, aresList, ares, spec0, spec1, spec2, spec3, spec4, eqCells, eqCell, F01]
def sNeg : List AV → Option (Prop × AV) := spec1 (fun (_ : Fr) => True) (fun a => Enc.enc (negF a))
theorem negP : PureOK Tryd.prog G0 30 sNeg := by
  refine pure1 (C := CE) sigCE mixCE Tryd.func30 rfl rfl rfl (by kernel_rfl) (by decide) (fun a _ => ?_)
  have e : negF a = ⟨IntKind.wrap .i64 (-a.N), a.D⟩ := rfl
  simp [aev, cav, look, acallPure, abin, abinN, abinP, abinI, abinS, aun, aconv, afield, afieldAddr, aindexAddr, aindex, aslice, alow, ahigh, abuild, abuildGo, cellsOf, splice, fieldTy, alen, apick, amax, amin, aload, headV, aparts, abuildSlice, elParts, abytesStr, astore, amake, aappend, aclear, anew, arith, aresults, aresList, ares, spec0, spec1, spec2, spec3, spec4, eqCells, eqCell, e]
theorem negR : PureOK Tryd.prog G0 31 sNeg := by
  refine pure1 (C := CE) sigCE mixCE Tryd.func31 rfl rfl rfl (by kernel_rfl) (by decide) (fun a _ => ?_)
  have e : negF a = ⟨IntKind.wrap .i64 (-a.N), a.D⟩ := rfl
  simp [aev, cav, look, acallPure, abin, abinN, abinP, abinI, abinS, aun, aconv, afield, afieldAddr, aindexAddr, aindex, aslice, alow, ahigh, abuild, abuildGo, cellsOf, splice, fieldTy, alen, apick, amax, amin, aload, headV, aparts, abuildSlice, elParts, abytesStr, astore, amake, aappend, aclear, anew, arith, aresults, aresList, ares, spec0, spec1, spec2, spec3, spec4, eqCells, eqCell, e]
def sAllV : List AV → Option (Prop × AV) := spec1 (fun (l : List Fr) => l.length ≤ 1000) (fun l => .bool (decide (AllV l)))
theorem allV_upto {l : List Fr} {k : Nat} (h : ∀ j, j < k → ValidF (ix l j)) (hk : l.length ≤ k) : AllV l := fun f hf => by
  obtain ⟨j, hj, rfl⟩ := List.getElem_of_mem hf
  have := h j (by omega)
  rwa [ix_lt hj] at this
noncomputable def CVa : Ctx := mkC Tryd.prog G0 [(34, .pure sValidF), (23, .pure sValidF)]
@[simp] theorem CVa_P : CVa.P = Tryd.prog := rfl
@[simp] theorem CVa_G : CVa.G = G0 := rfl
@[simp] theorem CVa_1 : CVa.S 34 = .pure sValidF := rfl
@[simp] theorem CVa_2 : CVa.S 23 = .pure sValidF := rfl
theorem mixCVa : CVa.P.follows .mixedOrders = true := mixed
theorem sigCVa : SigOK CVa := sigOK_cons (entryPure (validP) Tryd.func34 rfl (by decide)) (sigOK_cons (entryPure (validR) Tryd.func23 rfl (by decide)) (sigOK_nil _ _))
set_option maxHeartbeats 4000000 in
theorem allVP : PureOK Tryd.prog G0 32 sAllV := by
  refine pure1 (C := CVa) sigCVa mixCVa Tryd.func32 rfl rfl rfl (by kernel_rfl) (by decide) (fun l hl => ?_)
  simp [aev, cav, look, acallPure, abin, abinN, abinP, abinI, abinS, aun, aconv, afield, afieldAddr, aindexAddr, aindex, aslice, alow, ahigh, abuild, abuildGo, cellsOf, splice, fieldTy, alen, apick, amax, amin, aload, headV, aparts, abuildSlice, elParts, abytesStr, astore, amake, aappend, aclear, anew, arith, aresults, aresList, ares, spec0, spec1, spec2, spec3, spec4, eqCells, eqCell]
  refine loop_rule (C := CVa) sigCVa mixCVa (fun q : Nat × List Blk => ⟨[(2, .bool false), (5, Enc.enc l), (6, .int .i64 l.length), (7, .int .i64 q.1)], q.2⟩) (fun q => q.1 ≤ l.length ∧ ∀ j, j < q.1 → ValidF (ix l j)) (fun q => l.length - q.1) (by kernel_rfl) ⟨(0, []), ⟨by simp, fun j hj => by simp at hj⟩, weak_eq (by simp) rfl⟩ (fun ⟨k, Z⟩ ⟨hk, hv⟩ => ?_)
  simp only at hk hv ⊢
  by_cases hlt : k < l.length
  · have i1 : I64 ((k : Int) + 1) := by unfold I64; omega
    by_cases hV : ValidF (ix l k)
    · simp [aev, cav, look, acallPure, abin, abinN, abinP, abinI, abinS, aun, aconv, afield, afieldAddr, aindexAddr, aindex, aslice, alow, ahigh, abuild, abuildGo, cellsOf, splice, fieldTy, alen, apick, amax, amin, aload, headV, aparts, abuildSlice, elParts, abytesStr, astore, amake, aappend, aclear, anew, arith, aresults, aresList, ares, spec0, spec1, spec2, spec3, spec4, eqCells, eqCell, sValidF, hlt, rowAt_enc hlt, hV, i1]
      exact ⟨k + 1, ⟨by omega, fun j hj => by
        rcases Nat.lt_or_eq_of_le (Nat.le_of_lt_succ hj) with h | h
        · exact hv j h
        · subst h; exact hV⟩, by omega, _, weak_eq (by simp) rfl⟩
    · have no : ¬ AllV l := fun h => hV (h _ (ix_mem hlt))
      simp [aev, cav, look, acallPure, abin, abinN, abinP, abinI, abinS, aun, aconv, afield, afieldAddr, aindexAddr, aindex, aslice, alow, ahigh, abuild, abuildGo, cellsOf, splice, fieldTy, alen, apick, amax, amin, aload, headV, aparts, abuildSlice, elParts, abytesStr, astore, amake, aappend, aclear, anew, arith, aresults, aresList, ares, spec0, spec1, spec2, spec3, spec4, eqCells, eqCell, sValidF, hlt, rowAt_enc hlt, hV, i1, no]
  · have yes : AllV l := allV_upto hv (by omega)
    simp [aev, cav, look, acallPure, abin, abinN, abinP, abinI, abinS, aun, aconv, afield, afieldAddr, aindexAddr, aindex, aslice, alow, ahigh, abuild, abuildGo, cellsOf, splice, fieldTy, alen, apick, amax, amin, aload, headV, aparts, abuildSlice, elParts, abytesStr, astore, amake, aappend, aclear, anew, arith, aresults, aresList, ares, spec0, spec1, spec2, spec3, spec4, eqCells, eqCell, hlt, yes]
set_option maxHeartbeats 4000000 in
theorem allVR : PureOK Tryd.prog G0 33 sAllV := by
  refine pure1 (C := CVa) sigCVa mixCVa Tryd.func33 rfl rfl rfl (by kernel_rfl) (by decide) (fun l hl => ?_)
  simp [aev, cav, look, acallPure, abin, abinN, abinP, abinI, abinS, aun, aconv, afield, afieldAddr, aindexAddr, aindex, aslice, alow, ahigh, abuild, abuildGo, cellsOf, splice, fieldTy, alen, apick, amax, amin, aload, headV, aparts, abuildSlice, elParts, abytesStr, astore, amake, aappend, aclear, anew, arith, aresults, aresList, ares, spec0, spec1, spec2, spec3, spec4, eqCells, eqCell]
  refine loop_rule (C := CVa) sigCVa mixCVa (fun q : Nat => ⟨[(0, Enc.enc l), (2, .bool false), (3, .int .i64 q)], []⟩) (fun q => q ≤ l.length ∧ ∀ j, j < q → ValidF (ix l j)) (fun q => l.length - q) (by kernel_rfl) ⟨0, ⟨by simp, fun j hj => by simp at hj⟩, weak_eq (by simp) rfl⟩ (fun k ⟨hk, hv⟩ => ?_)
  by_cases hlt : k < l.length
  · have i1 : I64 ((k : Int) + 1) := by unfold I64; omega
    by_cases hV : ValidF (ix l k)
    · simp [aev, cav, look, acallPure, abin, abinN, abinP, abinI, abinS, aun, aconv, afield, afieldAddr, aindexAddr, aindex, aslice, alow, ahigh, abuild, abuildGo, cellsOf, splice, fieldTy, alen, apick, amax, amin, aload, headV, aparts, abuildSlice, elParts, abytesStr, astore, amake, aappend, aclear, anew, arith, aresults, aresList, ares, spec0, spec1, spec2, spec3, spec4, eqCells, eqCell, sValidF, hlt, rowAt_enc hlt, hV, i1]
      exact ⟨k + 1, ⟨by omega, fun j hj => by
        rcases Nat.lt_or_eq_of_le (Nat.le_of_lt_succ hj) with h | h
        · exact hv j h
        · subst h; exact hV⟩, by omega, weak_eq (by simp) rfl⟩
    · have no : ¬ AllV l := fun h => hV (h _ (ix_mem hlt))
      simp [aev, cav, look, acallPure, abin, abinN, abinP, abinI, abinS, aun, aconv, afield, afieldAddr, aindexAddr, aindex, aslice, alow, ahigh, abuild, abuildGo, cellsOf, splice, fieldTy, alen, apick, amax, amin, aload, headV, aparts, abuildSlice, elParts, abytesStr, astore, amake, aappend, aclear, anew, arith, aresults, aresList, ares, spec0, spec1, spec2, spec3, spec4, eqCells, eqCell, sValidF, hlt, rowAt_enc hlt, hV, i1, no]
  · have yes : AllV l := allV_upto hv (by omega)
    simp [aev, cav, look, acallPure, abin, abinN, abinP, abinI, abinS, aun, aconv, afield, afieldAddr, aindexAddr, aindex, aslice, alow, ahigh, abuild, abuildGo, cellsOf, splice, fieldTy, alen, apick, amax, amin, aload, headV, aparts, abuildSlice, elParts, abytesStr, astore, amake, aappend, aclear, anew, arith, aresults, aresList, ares, spec0, spec1, spec2, spec3, spec4, eqCells, eqCell, hlt, yes]

/-! ### Check -/
def sCheckF : List AV → Option (Prop × AV) := spec1 SmallL (fun l => .int .i64 (checkF l))
noncomputable def CCk : Ctx := mkC Tryd.prog G0 [(32, .pure sAllV), (33, .pure sAllV)]
@[simp] theorem CCk_P : CCk.P = Tryd.prog := rfl
@[simp] theorem CCk_G : CCk.G = G0 := rfl
@[simp] theorem CCk_1 : CCk.S 32 = .pure sAllV := rfl
@[simp] theorem CCk_2 : CCk.S 33 = .pure sAllV := rfl
theorem mixCCk : CCk.P.follows .mixedOrders = true := mixed
theorem sigCCk : SigOK CCk := sigOK_cons (entryPure (allVP) Tryd.func32 rfl (by decide)) (sigOK_cons (entryPure (allVR) Tryd.func33 rfl (by decide)) (sigOK_nil _ _))
theorem rows_upto {n : Nat} {l : List (List Fr)} {k : Nat} (h : ∀ j, j < k → (ix l j).length = n ∧ AllV (ix l j)) (hk : l.length ≤ k) : RowsV n l := fun f hf => by
  obtain ⟨j, hj, rfl⟩ := List.getElem_of_mem hf
  have := h j (by omega)
  rwa [ix_lt hj] at this
def CB (l : Lin) : Blk := ⟨25, 3, [[.slice 1 false (encRows l.A), .slice 2 false (encRows l.B), .slice 2 false (encRows l.C)]], true, true⟩
set_option maxHeartbeats 8000000 in
theorem checkP : PureOK Tryd.prog G0 15 sCheckF := by
  refine pure1 (C := CCk) sigCCk mixCCk Tryd.func15 rfl rfl rfl (by kernel_rfl) (by decide) (fun l hs => ?_)
  have sa := hs.a
  have sb := hs.b
  have sc := hs.c
  by_cases h1 : 12 < l.C.length
  · have h1' : (12 : Int) < l.C.length := by omega
    have e : checkF l = 4 := if_pos (.inl h1)
    simp [aev, cav, look, acallPure, abin, abinN, abinP, abinI, abinS, aun, aconv, afield, afieldAddr, aindexAddr, aindex, aslice, alow, ahigh, abuild, abuildGo, cellsOf, splice, fieldTy, alen, apick, amax, amin, aload, headV, aparts, abuildSlice, elParts, abytesStr, astore, amake, aappend, aclear, anew, arith, aresults, aresList, ares, spec0, spec1, spec2, spec3, spec4, eqCells, eqCell, h1', e]
  have h1' : ¬ (12 : Int) < l.C.length := by omega
  by_cases h2 : 24 < l.A.length
  · have h2' : (24 : Int) < l.A.length := by omega
    have e : checkF l = 4 := if_pos (.inr h2)
    simp [aev, cav, look, acallPure, abin, abinN, abinP, abinI, abinS, aun, aconv, afield, afieldAddr, aindexAddr, aindex, aslice, alow, ahigh, abuild, abuildGo, cellsOf, splice, fieldTy, alen, apick, amax, amin, aload, headV, aparts, abuildSlice, elParts, abytesStr, astore, amake, aappend, aclear, anew, arith, aresults, aresList, ares, spec0, spec1, spec2, spec3, spec4, eqCells, eqCell, h1', h2', e]
  have h2' : ¬ (24 : Int) < l.A.length := by omega
  have e0 : checkF l = if l.C = [] ∨ l.B.length ≠ l.A.length ∨ ¬ AllV l.B ∨ ¬ AllV l.C ∨ ¬ RowsV l.C.length l.A then 1 else 0 := if_neg (by omega)
  by_cases h3 : l.C = []
  · have e : checkF l = 1 := by rw [e0, if_pos (.inl h3)]
    simp [aev, cav, look, acallPure, abin, abinN, abinP, abinI, abinS, aun, aconv, afield, afieldAddr, aindexAddr, aindex, aslice, alow, ahigh, abuild, abuildGo, cellsOf, splice, fieldTy, alen, apick, amax, amin, aload, headV, aparts, abuildSlice, elParts, abytesStr, astore, amake, aappend, aclear, anew, arith, aresults, aresList, ares, spec0, spec1, spec2, spec3, spec4, eqCells, eqCell, h1', h2', h3, e]
  by_cases h4 : l.B.length = l.A.length
  case neg =>
    have h4' : ¬ (l.B.length : Int) = l.A.length := by omega
    have e : checkF l = 1 := by rw [e0, if_pos (.inr (.inl h4))]
    simp [aev, cav, look, acallPure, abin, abinN, abinP, abinI, abinS, aun, aconv, afield, afieldAddr, aindexAddr, aindex, aslice, alow, ahigh, abuild, abuildGo, cellsOf, splice, fieldTy, alen, apick, amax, amin, aload, headV, aparts, abuildSlice, elParts, abytesStr, astore, amake, aappend, aclear, anew, arith, aresults, aresList, ares, spec0, spec1, spec2, spec3, spec4, eqCells, eqCell, h1', h2', h3, h4, h4', e]
  by_cases h5 : AllV l.B
  case neg =>
    have e : checkF l = 1 := by rw [e0, if_pos (.inr (.inr (.inl h5)))]
    simp [aev, cav, look, acallPure, abin, abinN, abinP, abinI, abinS, aun, aconv, afield, afieldAddr, aindexAddr, aindex, aslice, alow, ahigh, abuild, abuildGo, cellsOf, splice, fieldTy, alen, apick, amax, amin, aload, headV, aparts, abuildSlice, elParts, abytesStr, astore, amake, aappend, aclear, anew, arith, aresults, aresList, ares, spec0, spec1, spec2, spec3, spec4, eqCells, eqCell, sAllV, h1', h2', h3, h4, h5, e, sa, sb, sc]
  by_cases h6 : AllV l.C
  case neg =>
    have e : checkF l = 1 := by rw [e0, if_pos (.inr (.inr (.inr (.inl h6))))]
    simp [aev, cav, look, acallPure, abin, abinN, abinP, abinI, abinS, aun, aconv, afield, afieldAddr, aindexAddr, aindex, aslice, alow, ahigh, abuild, abuildGo, cellsOf, splice, fieldTy, alen, apick, amax, amin, aload, headV, aparts, abuildSlice, elParts, abytesStr, astore, amake, aappend, aclear, anew, arith, aresults, aresList, ares, spec0, spec1, spec2, spec3, spec4, eqCells, eqCell, sAllV, h1', h2', h3, h4, h5, h6, e, sa, sb, sc]
  simp [aev, cav, look, acallPure, abin, abinN, abinP, abinI, abinS, aun, aconv, afield, afieldAddr, aindexAddr, aindex, aslice, alow, ahigh, abuild, abuildGo, cellsOf, splice, fieldTy, alen, apick, amax, amin, aload, headV, aparts, abuildSlice, elParts, abytesStr, astore, amake, aappend, aclear, anew, arith, aresults, aresList, ares, spec0, spec1, spec2, spec3, spec4, eqCells, eqCell, sAllV, h1', h2', h3, h4, h5, h6, sa, sb, sc]
  refine loop_rule (C := CCk) sigCCk mixCCk (fun q : Nat => ⟨[(1, .ptr 0 1 3 0 0), (2, .int .i64 0), (41, Enc.enc l.A), (42, .int .i64 l.A.length), (43, .int .i64 q)], [CB l]⟩) (fun q => q ≤ l.A.length ∧ ∀ j, j < q → (ix l.A j).length = l.C.length ∧ AllV (ix l.A j)) (fun q => l.A.length - q) (by kernel_rfl) ⟨0, ⟨by simp, fun j hj => by simp at hj⟩, weak_eq (by simp) rfl⟩ (fun k ⟨hk, hv⟩ => ?_)
  by_cases hlt : k < l.A.length
  · have i1 : I64 ((k : Int) + 1) := by unfold I64; omega
    have sr := hs.r _ (ix_mem hlt)
    by_cases h7 : (ix l.A k).length = l.C.length
    case neg =>
      have h7' : ¬ ((ix l.A k).length : Int) = l.C.length := by omega
      have no : ¬ RowsV l.C.length l.A := fun h => h7 (h _ (ix_mem hlt)).1
      have e : checkF l = 1 := by rw [e0, if_pos (.inr (.inr (.inr (.inr no))))]
      simp [aev, cav, look, acallPure, abin, abinN, abinP, abinI, abinS, aun, aconv, afield, afieldAddr, aindexAddr, aindex, aslice, alow, ahigh, abuild, abuildGo, cellsOf, splice, fieldTy, alen, apick, amax, amin, aload, headV, aparts, abuildSlice, elParts, abytesStr, astore, amake, aappend, aclear, anew, arith, aresults, aresList, ares, spec0, spec1, spec2, spec3, spec4, eqCells, eqCell, CB, hlt, rowAt_enc hlt, h7', e]
    by_cases h8 : AllV (ix l.A k)
    · simp [aev, cav, look, acallPure, abin, abinN, abinP, abinI, abinS, aun, aconv, afield, afieldAddr, aindexAddr, aindex, aslice, alow, ahigh, abuild, abuildGo, cellsOf, splice, fieldTy, alen, apick, amax, amin, aload, headV, aparts, abuildSlice, elParts, abytesStr, astore, amake, aappend, aclear, anew, arith, aresults, aresList, ares, spec0, spec1, spec2, spec3, spec4, eqCells, eqCell, CB, sAllV, hlt, rowAt_enc hlt, h7, h8, sc, i1]
      exact ⟨k + 1, ⟨by omega, fun j hj => by
        rcases Nat.lt_or_eq_of_le (Nat.le_of_lt_succ hj) with h | h
        · exact hv j h
        · subst h; exact ⟨h7, h8⟩⟩, by omega, weak_eq (by simp) rfl⟩
    · have no : ¬ RowsV l.C.length l.A := fun h => h8 (h _ (ix_mem hlt)).2
      have e : checkF l = 1 := by rw [e0, if_pos (.inr (.inr (.inr (.inr no))))]
      simp [aev, cav, look, acallPure, abin, abinN, abinP, abinI, abinS, aun, aconv, afield, afieldAddr, aindexAddr, aindex, aslice, alow, ahigh, abuild, abuildGo, cellsOf, splice, fieldTy, alen, apick, amax, amin, aload, headV, aparts, abuildSlice, elParts, abytesStr, astore, amake, aappend, aclear, anew, arith, aresults, aresList, ares, spec0, spec1, spec2, spec3, spec4, eqCells, eqCell, CB, sAllV, hlt, rowAt_enc hlt, h7, h8, sc, e]
  · have yes : RowsV l.C.length l.A := rows_upto hv (by omega)
    have e : checkF l = 0 := by
      rw [e0, if_neg]
      rintro (h | h | h | h | h)
      · exact h3 h
      · exact h h4
      · exact h h5
      · exact h h6
      · exact h yes
    simp [aev, cav, look, acallPure, abin, abinN, abinP, abinI, abinS, aun, aconv, afield, afieldAddr, aindexAddr, aindex, aslice, alow, ahigh, abuild, abuildGo, cellsOf, splice, fieldTy, alen, apick, amax, amin, aload, headV, aparts, abuildSlice, elParts, abytesStr, astore, amake, aappend, aclear, anew, arith, aresults, aresList, ares, spec0, spec1, spec2, spec3, spec4, eqCells, eqCell, CB, hlt, e]
set_option maxHeartbeats 8000000 in
theorem checkR : PureOK Tryd.prog G0 16 sCheckF := by
  refine pure1 (C := CCk) sigCCk mixCCk Tryd.func16 rfl rfl rfl (by kernel_rfl) (by decide) (fun l hs => ?_)
  have sa := hs.a
  have sb := hs.b
  have sc := hs.c
  by_cases h1 : 12 < l.C.length
  · have h1' : (12 : Int) < l.C.length := by omega
    have e : checkF l = 4 := if_pos (.inl h1)
    simp [aev, cav, look, acallPure, abin, abinN, abinP, abinI, abinS, aun, aconv, afield, afieldAddr, aindexAddr, aindex, aslice, alow, ahigh, abuild, abuildGo, cellsOf, splice, fieldTy, alen, apick, amax, amin, aload, headV, aparts, abuildSlice, elParts, abytesStr, astore, amake, aappend, aclear, anew, arith, aresults, aresList, ares, spec0, spec1, spec2, spec3, spec4, eqCells, eqCell, h1', e]
  have h1' : ¬ (12 : Int) < l.C.length := by omega
  by_cases h2 : 24 < l.A.length
  · have h2' : (24 : Int) < l.A.length := by omega
    have e : checkF l = 4 := if_pos (.inr h2)
    simp [aev, cav, look, acallPure, abin, abinN, abinP, abinI, abinS, aun, aconv, afield, afieldAddr, aindexAddr, aindex, aslice, alow, ahigh, abuild, abuildGo, cellsOf, splice, fieldTy, alen, apick, amax, amin, aload, headV, aparts, abuildSlice, elParts, abytesStr, astore, amake, aappend, aclear, anew, arith, aresults, aresList, ares, spec0, spec1, spec2, spec3, spec4, eqCells, eqCell, h1', h2', e]
  have h2' : ¬ (24 : Int) < l.A.length := by omega
  have e0 : checkF l = if l.C = [] ∨ l.B.length ≠ l.A.length ∨ ¬ AllV l.B ∨ ¬ AllV l.C ∨ ¬ RowsV l.C.length l.A then 1 else 0 := if_neg (by omega)
  by_cases h3 : l.C = []
  · have e : checkF l = 1 := by rw [e0, if_pos (.inl h3)]
    simp [aev, cav, look, acallPure, abin, abinN, abinP, abinI, abinS, aun, aconv, afield, afieldAddr, aindexAddr, aindex, aslice, alow, ahigh, abuild, abuildGo, cellsOf, splice, fieldTy, alen, apick, amax, amin, aload, headV, aparts, abuildSlice, elParts, abytesStr, astore, amake, aappend, aclear, anew, arith, aresults, aresList, ares, spec0, spec1, spec2, spec3, spec4, eqCells, eqCell, h1', h2', h3, e]
  by_cases h4 : l.B.length = l.A.length
  case neg =>
    have h4' : ¬ (l.B.length : Int) = l.A.length := by omega
    have e : checkF l = 1 := by rw [e0, if_pos (.inr (.inl h4))]
    simp [aev, cav, look, acallPure, abin, abinN, abinP, abinI, abinS, aun, aconv, afield, afieldAddr, aindexAddr, aindex, aslice, alow, ahigh, abuild, abuildGo, cellsOf, splice, fieldTy, alen, apick, amax, amin, aload, headV, aparts, abuildSlice, elParts, abytesStr, astore, amake, aappend, aclear, anew, arith, aresults, aresList, ares, spec0, spec1, spec2, spec3, spec4, eqCells, eqCell, h1', h2', h3, h4, h4', e]
  by_cases h5 : AllV l.B
  case neg =>
    have e : checkF l = 1 := by rw [e0, if_pos (.inr (.inr (.inl h5)))]
    simp [aev, cav, look, acallPure, abin, abinN, abinP, abinI, abinS, aun, aconv, afield, afieldAddr, aindexAddr, aindex, aslice, alow, ahigh, abuild, abuildGo, cellsOf, splice, fieldTy, alen, apick, amax, amin, aload, headV, aparts, abuildSlice, elParts, abytesStr, astore, amake, aappend, aclear, anew, arith, aresults, aresList, ares, spec0, spec1, spec2, spec3, spec4, eqCells, eqCell, sAllV, h1', h2', h3, h4, h5, e, sa, sb, sc]
  by_cases h6 : AllV l.C
  case neg =>
    have e : checkF l = 1 := by rw [e0, if_pos (.inr (.inr (.inr (.inl h6))))]
    simp [aev, cav, look, acallPure, abin, abinN, abinP, abinI, abinS, aun, aconv, afield, afieldAddr, aindexAddr, aindex, aslice, alow, ahigh, abuild, abuildGo, cellsOf, splice, fieldTy, alen, apick, amax, amin, aload, headV, aparts, abuildSlice, elParts, abytesStr, astore, amake, aappend, aclear, anew, arith, aresults, aresList, ares, spec0, spec1, spec2, spec3, spec4, eqCells, eqCell, sAllV, h1', h2', h3, h4, h5, h6, e, sa, sb, sc]
  simp [aev, cav, look, acallPure, abin, abinN, abinP, abinI, abinS, aun, aconv, afield, afieldAddr, aindexAddr, aindex, aslice, alow, ahigh, abuild, abuildGo, cellsOf, splice, fieldTy, alen, apick, amax, amin, aload, headV, aparts, abuildSlice, elParts, abytesStr, astore, amake, aappend, aclear, anew, arith, aresults, aresList, ares, spec0, spec1, spec2, spec3, spec4, eqCells, eqCell, sAllV, h1', h2', h3, h4, h5, h6, sa, sb, sc]
  refine loop_rule (C := CCk) sigCCk mixCCk (fun q : Nat => ⟨[(1, .ptr 0 1 3 0 0), (2, .int .i64 0), (3, .int .i64 q)], [CB l]⟩) (fun q => q ≤ l.A.length ∧ ∀ j, j < q → (ix l.A j).length = l.C.length ∧ AllV (ix l.A j)) (fun q => l.A.length - q) (by kernel_rfl) ⟨0, ⟨by simp, fun j hj => by simp at hj⟩, weak_eq (by simp) rfl⟩ (fun k ⟨hk, hv⟩ => ?_)
  by_cases hlt : k < l.A.length
  · have i1 : I64 ((k : Int) + 1) := by unfold I64; omega
    have sr := hs.r _ (ix_mem hlt)
    by_cases h7 : (ix l.A k).length = l.C.length
    case neg =>
      have h7' : ¬ ((ix l.A k).length : Int) = l.C.length := by omega
      have no : ¬ RowsV l.C.length l.A := fun h => h7 (h _ (ix_mem hlt)).1
      have e : checkF l = 1 := by rw [e0, if_pos (.inr (.inr (.inr (.inr no))))]
      simp [aev, cav, look, acallPure, abin, abinN, abinP, abinI, abinS, aun, aconv, afield, afieldAddr, aindexAddr, aindex, aslice, alow, ahigh, abuild, abuildGo, cellsOf, splice, fieldTy, alen, apick, amax, amin, aload, headV, aparts, abuildSlice, elParts, abytesStr, astore, amake, aappend, aclear, anew, arith, aresults, aresList, ares, spec0, spec1, spec2, spec3, spec4, eqCells, eqCell, CB, hlt, rowAt_enc hlt, h7', e]
    by_cases h8 : AllV (ix l.A k)
    · simp [aev, cav, look, acallPure, abin, abinN, abinP, abinI, abinS, aun, aconv, afield, afieldAddr, aindexAddr, aindex, aslice, alow, ahigh, abuild, abuildGo, cellsOf, splice, fieldTy, alen, apick, amax, amin, aload, headV, aparts, abuildSlice, elParts, abytesStr, astore, amake, aappend, aclear, anew, arith, aresults, aresList, ares, spec0, spec1, spec2, spec3, spec4, eqCells, eqCell, CB, sAllV, hlt, rowAt_enc hlt, h7, h8, sc, i1]
      exact ⟨k + 1, ⟨by omega, fun j hj => by
        rcases Nat.lt_or_eq_of_le (Nat.le_of_lt_succ hj) with h | h
        · exact hv j h
        · subst h; exact ⟨h7, h8⟩⟩, by omega, weak_eq (by simp) rfl⟩
    · have no : ¬ RowsV l.C.length l.A := fun h => h8 (h _ (ix_mem hlt)).2
      have e : checkF l = 1 := by rw [e0, if_pos (.inr (.inr (.inr (.inr no))))]
      simp [aev, cav, look, acallPure, abin, abinN, abinP, abinI, abinS, aun, aconv, afield, afieldAddr, aindexAddr, aindex, aslice, alow, ahigh, abuild, abuildGo, cellsOf, splice, fieldTy, alen, apick, amax, amin, aload, headV, aparts, abuildSlice, elParts, abytesStr, astore, amake, aappend, aclear, anew, arith, aresults, aresList, ares, spec0, spec1, spec2, spec3, spec4, eqCells, eqCell, CB, sAllV, hlt, rowAt_enc hlt, h7, h8, sc, e]
  · have yes : RowsV l.C.length l.A := rows_upto hv (by omega)
    have e : checkF l = 0 := by
      rw [e0, if_neg]
      rintro (h | h | h | h | h)
      · exact h3 h
      · exact h h4
      · exact h h5
      · exact h h6
      · exact h yes
    simp [aev, cav, look, acallPure, abin, abinN, abinP, abinI, abinS, aun, aconv, afield, afieldAddr, aindexAddr, aindex, aslice, alow, ahigh, abuild, abuildGo, cellsOf, splice, fieldTy, alen, apick, amax, amin, aload, headV, aparts, abuildSlice, elParts, abytesStr, astore, amake, aappend, aclear, anew, arith, aresults, aresList, ares, spec0, spec1, spec2, spec3, spec4, eqCells, eqCell, CB, hlt, e]

/-! ### The sum of products -/
theorem ix_drop_cons {α : Type} [Inhabited α] {l : List α} {k : Nat} (h : k < l.length) : l.drop k = ix l k :: l.drop (k + 1) := by rw [List.drop_eq_getElem_cons h, ix_lt h]
theorem dot_step {s : Fr} {a x : List Fr} {k : Nat} (h : k < a.length) (h' : k < x.length) : dotO s (a.drop k) (x.drop k) = match mulO (ix a k) (ix x k) with | some p => (match addO s p with | some t => dotO t (a.drop (k + 1)) (x.drop (k + 1)) | none => none) | none => none := by
  rw [ix_drop_cons h, ix_drop_cons h', dotO]
  rfl
theorem dot_end {s : Fr} {a x : List Fr} {k : Nat} (h : a.length ≤ k) : dotO s (a.drop k) (x.drop k) = some s := by
  rw [List.drop_eq_nil_of_le h]
  cases x.drop k <;> rfl
def sDot : List AV → Option (Prop × AV) := spec2 (fun (a x : List Fr) => a.length ≤ 1000 ∧ a.length = x.length) (fun a x => .tup [Enc.enc (ofO (dotO F01 a x)).1, .bool (ofO (dotO F01 a x)).2])
noncomputable def CDo : Ctx := mkC Tryd.prog G0 [(39, .pure (spec0 (Enc.enc F01))), (51, .pure sMulF), (52, .pure sAddF), (53, .pure (spec0 (Enc.enc F01))), (26, .pure sMulF), (54, .pure sAddF)]
@[simp] theorem CDo_P : CDo.P = Tryd.prog := rfl
@[simp] theorem CDo_G : CDo.G = G0 := rfl
@[simp] theorem CDo_1 : CDo.S 39 = .pure (spec0 (Enc.enc F01)) := rfl
@[simp] theorem CDo_2 : CDo.S 51 = .pure sMulF := rfl
@[simp] theorem CDo_3 : CDo.S 52 = .pure sAddF := rfl
@[simp] theorem CDo_4 : CDo.S 53 = .pure (spec0 (Enc.enc F01)) := rfl
@[simp] theorem CDo_5 : CDo.S 26 = .pure sMulF := rfl
@[simp] theorem CDo_6 : CDo.S 54 = .pure sAddF := rfl
theorem mixCDo : CDo.P.follows .mixedOrders = true := mixed
theorem sigCDo : SigOK CDo := sigOK_cons (entryPure (zeroP) Tryd.func39 rfl (by decide)) (sigOK_cons (entryPure (mulP) Tryd.func51 rfl (by decide)) (sigOK_cons (entryPure (addP) Tryd.func52 rfl (by decide)) (sigOK_cons (entryPure (zeroR) Tryd.func53 rfl (by decide)) (sigOK_cons (entryPure (mulR) Tryd.func26 rfl (by decide)) (sigOK_cons (entryPure (addR) Tryd.func54 rfl (by decide)) (sigOK_nil _ _))))))
def FB (s : Fr) : Blk := ⟨29, 2, [[.int .i64 s.N, .int .i64 s.D]], true, true⟩
set_option maxHeartbeats 8000000 in
theorem dotP : PureOK Tryd.prog G0 28 sDot := by
  refine pureH2 (C := CDo) sigCDo mixCDo Tryd.func28 rfl rfl rfl [5] (by kernel_rfl) (by decide) (fun a x ⟨hl, hx⟩ => ?_)
  obtain ⟨R, hR⟩ : ∃ R, ofO (dotO F01 a x) = R := ⟨_, rfl⟩
  rw [hR]
  simp [aev, cav, look, acallPure, abin, abinN, abinP, abinI, abinS, aun, aconv, afield, afieldAddr, aindexAddr, aindex, aslice, alow, ahigh, abuild, abuildGo, cellsOf, splice, fieldTy, alen, apick, amax, amin, aload, headV, aparts, abuildSlice, elParts, abytesStr, astore, amake, aappend, aclear, anew, arith, aresults, aresList, ares, spec0, spec1, spec2, spec3, spec4, eqCells, eqCell, F01]
  refine loop_ruleH (C := CDo) sigCDo mixCDo [5] (fun q : Nat × Fr × List Blk => ⟨[(0, Enc.enc a), (1, Enc.enc x), (4, .ptr 0 1 2 0 0), (6, .ptr 1 1 2 0 0), (11, Enc.enc a), (12, .int .i64 a.length), (13, .int .i64 q.1)], FB F00 :: FB q.2.1 :: q.2.2⟩) (fun q => q.1 ≤ a.length ∧ ofO (dotO q.2.1 (a.drop q.1) (x.drop q.1)) = R) (fun q => a.length - q.1) (by kernel_rfl) ⟨(0, F01, []), ⟨by simp, hR⟩, weak_eq (by simp) (by simp [FB, F00, F01])⟩ (fun ⟨k, s, Z⟩ ⟨hk, hv⟩ => ?_)
  simp only at hk hv ⊢
  by_cases hlt : k < a.length
  · have hltx : k < x.length := by omega
    have i1 : I64 ((k : Int) + 1) := by unfold I64; omega
    rw [dot_step hlt hltx] at hv
    have em := mul_ofO (ix a k) (ix x k)
    simp [aev, cav, look, acallPure, abin, abinN, abinP, abinI, abinS, aun, aconv, afield, afieldAddr, aindexAddr, aindex, aslice, alow, ahigh, abuild, abuildGo, cellsOf, splice, fieldTy, alen, apick, amax, amin, aload, headV, aparts, abuildSlice, elParts, abytesStr, astore, amake, aappend, aclear, anew, arith, aresults, aresList, ares, spec0, spec1, spec2, spec3, spec4, eqCells, eqCell, FB, hlt]
    refine AW_regionF sigCDo mixCDo [.pure, .pure, .pure, .read, .pure, .pure, .pure, .read, .read, .pure, .pure, .pure, .eff, .eff, .pure] [[],[],[1,0],[0,1,2],[],[],[5,4],[4,5,6],[6,5,4,7,2,1,0,3],[3,0,1,2,7,4,5,6,8],[8,6,5,4,7,2,1,0,3,9],[8,6,5,4,7,2,1,0,3,9],[],[9,3,0,1,2,7,4,5,6,8,10,12],[12,10,13,9,3,0,1,2,7,4,5,6,8,11]] (by kernel_rfl) (by kernel_rfl) (by kernel_rfl) (by kernel_rfl) ?_
    cases hm : mulO (ix a k) (ix x k) with
    | none =>
      rw [hm] at hv em
      simp [aev, cav, look, acallPure, abin, abinN, abinP, abinI, abinS, aun, aconv, afield, afieldAddr, aindexAddr, aindex, aslice, alow, ahigh, abuild, abuildGo, cellsOf, splice, fieldTy, alen, apick, amax, amin, aload, headV, aparts, abuildSlice, elParts, abytesStr, astore, amake, aappend, aclear, anew, arith, aresults, aresList, ares, spec0, spec1, spec2, spec3, spec4, eqCells, eqCell, sMulF, hlt, rowAt_enc hlt, hltx, rowAt_enc hltx, em, F00, ← hv, ofO]
    | some p =>
      rw [hm] at hv em
      have ea := add_ofO s p
      cases hq : addO s p with
      | none =>
        simp only [hq] at hv
        rw [hq] at ea
        simp [aev, cav, look, acallPure, abin, abinN, abinP, abinI, abinS, aun, aconv, afield, afieldAddr, aindexAddr, aindex, aslice, alow, ahigh, abuild, abuildGo, cellsOf, splice, fieldTy, alen, apick, amax, amin, aload, headV, aparts, abuildSlice, elParts, abytesStr, astore, amake, aappend, aclear, anew, arith, aresults, aresList, ares, spec0, spec1, spec2, spec3, spec4, eqCells, eqCell, sMulF, sAddF, hlt, rowAt_enc hlt, hltx, rowAt_enc hltx, em, ea, F00, ← hv, ofO]
      | some t =>
        simp only [hq] at hv
        rw [hq] at ea
        simp [aev, cav, look, acallPure, abin, abinN, abinP, abinI, abinS, aun, aconv, afield, afieldAddr, aindexAddr, aindex, aslice, alow, ahigh, abuild, abuildGo, cellsOf, splice, fieldTy, alen, apick, amax, amin, aload, headV, aparts, abuildSlice, elParts, abytesStr, astore, amake, aappend, aclear, anew, arith, aresults, aresList, ares, spec0, spec1, spec2, spec3, spec4, eqCells, eqCell, sMulF, sAddF, hlt, rowAt_enc hlt, hltx, rowAt_enc hltx, em, ea, ofO, F00, i1]
        exact ⟨k + 1, t, ⟨by omega, hv⟩, by omega, Z ++ [FB p], weak_eq (by simp) (by simp [FB, F00])⟩
  · rw [dot_end (by omega)] at hv
    simp [aev, cav, look, acallPure, abin, abinN, abinP, abinI, abinS, aun, aconv, afield, afieldAddr, aindexAddr, aindex, aslice, alow, ahigh, abuild, abuildGo, cellsOf, splice, fieldTy, alen, apick, amax, amin, aload, headV, aparts, abuildSlice, elParts, abytesStr, astore, amake, aappend, aclear, anew, arith, aresults, aresList, ares, spec0, spec1, spec2, spec3, spec4, eqCells, eqCell, FB, hlt, ← hv, ofO]
set_option maxHeartbeats 8000000 in
theorem dotR : PureOK Tryd.prog G0 29 sDot := by
  refine pureH2 (C := CDo) sigCDo mixCDo Tryd.func29 rfl rfl rfl [5] (by kernel_rfl) (by decide) (fun a x ⟨hl, hx⟩ => ?_)
  obtain ⟨R, hR⟩ : ∃ R, ofO (dotO F01 a x) = R := ⟨_, rfl⟩
  rw [hR]
  simp [aev, cav, look, acallPure, abin, abinN, abinP, abinI, abinS, aun, aconv, afield, afieldAddr, aindexAddr, aindex, aslice, alow, ahigh, abuild, abuildGo, cellsOf, splice, fieldTy, alen, apick, amax, amin, aload, headV, aparts, abuildSlice, elParts, abytesStr, astore, amake, aappend, aclear, anew, arith, aresults, aresList, ares, spec0, spec1, spec2, spec3, spec4, eqCells, eqCell, F01]
  refine loop_ruleH (C := CDo) sigCDo mixCDo [5] (fun q : Nat × Fr × List Blk => ⟨[(0, Enc.enc a), (1, Enc.enc x), (4, .ptr 0 1 2 0 0), (6, .ptr 1 1 2 0 0), (7, .int .i64 q.1)], FB F00 :: FB q.2.1 :: q.2.2⟩) (fun q => q.1 ≤ a.length ∧ ofO (dotO q.2.1 (a.drop q.1) (x.drop q.1)) = R) (fun q => a.length - q.1) (by kernel_rfl) ⟨(0, F01, []), ⟨by simp, hR⟩, weak_eq (by simp) (by simp [FB, F00, F01])⟩ (fun ⟨k, s, Z⟩ ⟨hk, hv⟩ => ?_)
  simp only at hk hv ⊢
  by_cases hlt : k < a.length
  · have hltx : k < x.length := by omega
    have i1 : I64 ((k : Int) + 1) := by unfold I64; omega
    rw [dot_step hlt hltx] at hv
    have em := mul_ofO (ix a k) (ix x k)
    simp [aev, cav, look, acallPure, abin, abinN, abinP, abinI, abinS, aun, aconv, afield, afieldAddr, aindexAddr, aindex, aslice, alow, ahigh, abuild, abuildGo, cellsOf, splice, fieldTy, alen, apick, amax, amin, aload, headV, aparts, abuildSlice, elParts, abytesStr, astore, amake, aappend, aclear, anew, arith, aresults, aresList, ares, spec0, spec1, spec2, spec3, spec4, eqCells, eqCell, FB, hlt]
    refine AW_regionF sigCDo mixCDo [.pure, .pure, .pure, .read, .pure, .pure, .pure, .read, .read, .pure, .pure, .pure, .eff, .eff, .pure] [[],[],[1,0],[0,1,2],[],[],[5,4],[4,5,6],[6,5,4,7,2,1,0,3],[3,0,1,2,7,4,5,6,8],[8,6,5,4,7,2,1,0,3,9],[8,6,5,4,7,2,1,0,3,9],[],[9,3,0,1,2,7,4,5,6,8,10,12],[12,10,13,9,3,0,1,2,7,4,5,6,8,11]] (by kernel_rfl) (by kernel_rfl) (by kernel_rfl) (by kernel_rfl) ?_
    cases hm : mulO (ix a k) (ix x k) with
    | none =>
      rw [hm] at hv em
      obtain ⟨r, f, ea⟩ := pair_of (addF s F00)
      simp only [F00] at ea
      cases f <;> simp [aev, cav, look, acallPure, abin, abinN, abinP, abinI, abinS, aun, aconv, afield, afieldAddr, aindexAddr, aindex, aslice, alow, ahigh, abuild, abuildGo, cellsOf, splice, fieldTy, alen, apick, amax, amin, aload, headV, aparts, abuildSlice, elParts, abytesStr, astore, amake, aappend, aclear, anew, arith, aresults, aresList, ares, spec0, spec1, spec2, spec3, spec4, eqCells, eqCell, sMulF, sAddF, hlt, rowAt_enc hlt, hltx, rowAt_enc hltx, em, F00, ← hv, ofO, ea]
    | some p =>
      rw [hm] at hv em
      have ea := add_ofO s p
      cases hq : addO s p with
      | none =>
        simp only [hq] at hv
        rw [hq] at ea
        simp [aev, cav, look, acallPure, abin, abinN, abinP, abinI, abinS, aun, aconv, afield, afieldAddr, aindexAddr, aindex, aslice, alow, ahigh, abuild, abuildGo, cellsOf, splice, fieldTy, alen, apick, amax, amin, aload, headV, aparts, abuildSlice, elParts, abytesStr, astore, amake, aappend, aclear, anew, arith, aresults, aresList, ares, spec0, spec1, spec2, spec3, spec4, eqCells, eqCell, sMulF, sAddF, hlt, rowAt_enc hlt, hltx, rowAt_enc hltx, em, ea, F00, ← hv, ofO]
      | some t =>
        simp only [hq] at hv
        rw [hq] at ea
        simp [aev, cav, look, acallPure, abin, abinN, abinP, abinI, abinS, aun, aconv, afield, afieldAddr, aindexAddr, aindex, aslice, alow, ahigh, abuild, abuildGo, cellsOf, splice, fieldTy, alen, apick, amax, amin, aload, headV, aparts, abuildSlice, elParts, abytesStr, astore, amake, aappend, aclear, anew, arith, aresults, aresList, ares, spec0, spec1, spec2, spec3, spec4, eqCells, eqCell, sMulF, sAddF, hlt, rowAt_enc hlt, hltx, rowAt_enc hltx, em, ea, ofO, F00, i1]
        exact ⟨k + 1, t, ⟨by omega, hv⟩, by omega, Z ++ [FB p, FB t], weak_eq (by simp) (by simp [FB, F00])⟩
  · rw [dot_end (by omega)] at hv
    simp [aev, cav, look, acallPure, abin, abinN, abinP, abinI, abinS, aun, aconv, afield, afieldAddr, aindexAddr, aindex, aslice, alow, ahigh, abuild, abuildGo, cellsOf, splice, fieldTy, alen, apick, amax, amin, aload, headV, aparts, abuildSlice, elParts, abytesStr, astore, amake, aappend, aclear, anew, arith, aresults, aresList, ares, spec0, spec1, spec2, spec3, spec4, eqCells, eqCell, FB, hlt, ← hv, ofO]

/-! ### Value -/
noncomputable def CVl : Ctx := mkC Tryd.prog G0 [(28, .pure sDot), (29, .pure sDot), (15, .pure sCheckF), (16, .pure sCheckF), (34, .pure sValidF), (33, .pure sAllV), (35, .pure sCmpF), (24, .pure sCmpF), (30, .pure sNeg), (31, .pure sNeg)]
@[simp] theorem CVl_P : CVl.P = Tryd.prog := rfl
@[simp] theorem CVl_G : CVl.G = G0 := rfl
@[simp] theorem CVl_1 : CVl.S 28 = .pure sDot := rfl
@[simp] theorem CVl_2 : CVl.S 29 = .pure sDot := rfl
@[simp] theorem CVl_3 : CVl.S 15 = .pure sCheckF := rfl
@[simp] theorem CVl_4 : CVl.S 16 = .pure sCheckF := rfl
@[simp] theorem CVl_5 : CVl.S 34 = .pure sValidF := rfl
@[simp] theorem CVl_6 : CVl.S 33 = .pure sAllV := rfl
@[simp] theorem CVl_7 : CVl.S 35 = .pure sCmpF := rfl
@[simp] theorem CVl_8 : CVl.S 24 = .pure sCmpF := rfl
@[simp] theorem CVl_9 : CVl.S 30 = .pure sNeg := rfl
@[simp] theorem CVl_10 : CVl.S 31 = .pure sNeg := rfl
theorem mixCVl : CVl.P.follows .mixedOrders = true := mixed
theorem sigCVl : SigOK CVl := sigOK_cons (entryPure (dotP) Tryd.func28 rfl (by decide)) (sigOK_cons (entryPure (dotR) Tryd.func29 rfl (by decide)) (sigOK_cons (entryPure (checkP) Tryd.func15 rfl (by decide)) (sigOK_cons (entryPure (checkR) Tryd.func16 rfl (by decide)) (sigOK_cons (entryPure (validP) Tryd.func34 rfl (by decide)) (sigOK_cons (entryPure (allVR) Tryd.func33 rfl (by decide)) (sigOK_cons (entryPure (cmpP) Tryd.func35 rfl (by decide)) (sigOK_cons (entryPure (cmpR) Tryd.func24 rfl (by decide)) (sigOK_cons (entryPure (negP) Tryd.func30 rfl (by decide)) (sigOK_cons (entryPure (negR) Tryd.func31 rfl (by decide)) (sigOK_nil _ _))))))))))
def sValueF : List AV → Option (Prop × AV) := spec2 (fun (l : Lin) (x : List Fr) => l.C.length ≤ 1000) (fun l x => .tup [Enc.enc (valueF l x).1, .bool (valueF l x).2])
set_option maxHeartbeats 4000000 in
theorem valueP : PureOK Tryd.prog G0 11 sValueF := by
  refine pure2 (C := CVl) sigCVl mixCVl Tryd.func11 rfl rfl rfl (by kernel_rfl) (by decide) (fun l x hl => ?_)
  by_cases h : x.length = l.C.length
  · have e : valueF l x = ofO (dotO F01 l.C x) := if_pos h
    obtain ⟨r, f, hr⟩ := pair_of (ofO (dotO F01 l.C x))
    simp [aev, cav, look, acallPure, abin, abinN, abinP, abinI, abinS, aun, aconv, afield, afieldAddr, aindexAddr, aindex, aslice, alow, ahigh, abuild, abuildGo, cellsOf, splice, fieldTy, alen, apick, amax, amin, aload, headV, aparts, abuildSlice, elParts, abytesStr, astore, amake, aappend, aclear, anew, arith, aresults, aresList, ares, spec0, spec1, spec2, spec3, spec4, eqCells, eqCell, sDot, h, hl, e, hr]
  · have h' : ¬ (x.length : Int) = l.C.length := by omega
    have e : valueF l x = (F00, false) := if_neg h
    simp [aev, cav, look, acallPure, abin, abinN, abinP, abinI, abinS, aun, aconv, afield, afieldAddr, aindexAddr, aindex, aslice, alow, ahigh, abuild, abuildGo, cellsOf, splice, fieldTy, alen, apick, amax, amin, aload, headV, aparts, abuildSlice, elParts, abytesStr, astore, amake, aappend, aclear, anew, arith, aresults, aresList, ares, spec0, spec1, spec2, spec3, spec4, eqCells, eqCell, h, h', e, F00]
set_option maxHeartbeats 4000000 in
theorem valueR : PureOK Tryd.prog G0 12 sValueF := by
  refine pure2 (C := CVl) sigCVl mixCVl Tryd.func12 rfl rfl rfl (by kernel_rfl) (by decide) (fun l x hl => ?_)
  by_cases h : x.length = l.C.length
  · have e : valueF l x = ofO (dotO F01 l.C x) := if_pos h
    obtain ⟨r, f, hr⟩ := pair_of (ofO (dotO F01 l.C x))
    simp [aev, cav, look, acallPure, abin, abinN, abinP, abinI, abinS, aun, aconv, afield, afieldAddr, aindexAddr, aindex, aslice, alow, ahigh, abuild, abuildGo, cellsOf, splice, fieldTy, alen, apick, amax, amin, aload, headV, aparts, abuildSlice, elParts, abytesStr, astore, amake, aappend, aclear, anew, arith, aresults, aresList, ares, spec0, spec1, spec2, spec3, spec4, eqCells, eqCell, sDot, h, hl, e, hr]
  · have h' : ¬ (x.length : Int) = l.C.length := by omega
    have e : valueF l x = (F00, false) := if_neg h
    simp [aev, cav, look, acallPure, abin, abinN, abinP, abinI, abinS, aun, aconv, afield, afieldAddr, aindexAddr, aindex, aslice, alow, ahigh, abuild, abuildGo, cellsOf, splice, fieldTy, alen, apick, amax, amin, aload, headV, aparts, abuildSlice, elParts, abytesStr, astore, amake, aappend, aclear, anew, arith, aresults, aresList, ares, spec0, spec1, spec2, spec3, spec4, eqCells, eqCell, h, h', e, F00]
end Go.Proofs.YtifbaegnkodneaaDoor

/-
  layer 30: Feasible, on both sides.
-/
namespace Go.Proofs.YtifbaegnkodneaaDoor
open Go.RowKit
set_option linter.unusedSimpArgs false
set_option linter.unusedVariables false
set_option maxRecDepth 100000

open Classical in
theorem feas_no {l : Lin} {x : List Fr} (h : ¬ FeasP l x) : feasB l x = false := decide_eq_false h
open Classical in
theorem feas_yes {l : Lin} {x : List Fr} (h : FeasP l x) : feasB l x = true := decide_eq_true h
noncomputable def sFeas : List AV → Option (Prop × AV) := spec2 (fun (l : Lin) (x : List Fr) => SmallL l ∧ x.length ≤ 1000) (fun l x => .bool (feasB l x))
theorem con_cmp {x a : List Fr} {b s : Fr} (h : dotO F01 a x = some s) : ConOK x a b ↔ ¬ cmpF s b < 0 := by
  refine ⟨fun ⟨t, h1, h2⟩ => ?_, fun h2 => ⟨s, h, h2⟩⟩
  rw [h] at h1
  injection h1 with h1
  rw [h1]; exact h2
set_option maxHeartbeats 8000000 in
theorem feasibleP : PureOK Tryd.prog G0 17 sFeas := by
  refine pureH2 (C := CVl) sigCVl mixCVl Tryd.func17 rfl rfl rfl [] (by kernel_rfl) (by decide) (fun l x ⟨hs, hx⟩ => ?_)
  by_cases h1 : checkF l = 0
  case neg =>
    have e := feas_no (l := l) (x := x) (fun h => h1 h.1)
    have cb : (⟨25, 3, [[.slice 1 false (encRows l.A), .slice 2 false (encRows l.B), .slice 2 false (encRows l.C)]], true, true⟩ : Blk) = CB l := rfl
    simp [aev, cav, look, acallPure, abin, abinN, abinP, abinI, abinS, aun, aconv, afield, afieldAddr, aindexAddr, aindex, aslice, alow, ahigh, abuild, abuildGo, cellsOf, splice, fieldTy, alen, apick, amax, amin, aload, headV, aparts, abuildSlice, elParts, abytesStr, astore, amake, aappend, aclear, anew, arith, aresults, aresList, ares, spec0, spec1, spec2, spec3, spec4, eqCells, eqCell, sCheckF, hs, h1, e]
  by_cases h2 : x.length = l.C.length
  case neg =>
    have h2' : ¬ (x.length : Int) = l.C.length := by omega
    have e := feas_no (l := l) (x := x) (fun h => h2 h.2.1)
    simp [aev, cav, look, acallPure, abin, abinN, abinP, abinI, abinS, aun, aconv, afield, afieldAddr, aindexAddr, aindex, aslice, alow, ahigh, abuild, abuildGo, cellsOf, splice, fieldTy, alen, apick, amax, amin, aload, headV, aparts, abuildSlice, elParts, abytesStr, astore, amake, aappend, aclear, anew, arith, aresults, aresList, ares, spec0, spec1, spec2, spec3, spec4, eqCells, eqCell, sCheckF, hs, h1, h2', e]
  obtain ⟨k1, k2, k3, k4, k5, k6, k7⟩ := check_zero h1
  simp [aev, cav, look, acallPure, abin, abinN, abinP, abinI, abinS, aun, aconv, afield, afieldAddr, aindexAddr, aindex, aslice, alow, ahigh, abuild, abuildGo, cellsOf, splice, fieldTy, alen, apick, amax, amin, aload, headV, aparts, abuildSlice, elParts, abytesStr, astore, amake, aappend, aclear, anew, arith, aresults, aresList, ares, spec0, spec1, spec2, spec3, spec4, eqCells, eqCell, sCheckF, hs, h1, h2]
  refine loop_ruleH (C := CVl) sigCVl mixCVl [] (fun q : Nat × List Blk => ⟨[(1, Enc.enc x), (2, .ptr 0 1 3 0 0), (4, .bool false), (22, Enc.enc x), (23, .int .i64 x.length), (24, .int .i64 q.1)], CB l :: q.2⟩) (fun q => q.1 ≤ x.length ∧ ∀ j, j < q.1 → ValidF (ix x j) ∧ ¬ (ix x j).N < 0) (fun q => x.length - q.1) (by kernel_rfl) ⟨(0, []), ⟨by simp, fun j hj => by simp at hj⟩, weak_eq (by simp [h2]) (by simp [CB])⟩ (fun ⟨k, Z⟩ ⟨hk, hv⟩ => ?_)
  simp only at hk hv ⊢
  by_cases hlt : k < x.length
  · have i1 : I64 ((k : Int) + 1) := by unfold I64; omega
    by_cases hV : ValidF (ix x k)
    case neg =>
      have e := feas_no (l := l) (x := x) (fun h => hV (h.2.2.1 _ (ix_mem hlt)).1)
      simp [aev, cav, look, acallPure, abin, abinN, abinP, abinI, abinS, aun, aconv, afield, afieldAddr, aindexAddr, aindex, aslice, alow, ahigh, abuild, abuildGo, cellsOf, splice, fieldTy, alen, apick, amax, amin, aload, headV, aparts, abuildSlice, elParts, abytesStr, astore, amake, aappend, aclear, anew, arith, aresults, aresList, ares, spec0, spec1, spec2, spec3, spec4, eqCells, eqCell, CB, sValidF, hlt, rowAt_enc hlt, hV, e]
    by_cases hN : (ix x k).N < 0
    · have e := feas_no (l := l) (x := x) (fun h => (h.2.2.1 _ (ix_mem hlt)).2 hN)
      simp [aev, cav, look, acallPure, abin, abinN, abinP, abinI, abinS, aun, aconv, afield, afieldAddr, aindexAddr, aindex, aslice, alow, ahigh, abuild, abuildGo, cellsOf, splice, fieldTy, alen, apick, amax, amin, aload, headV, aparts, abuildSlice, elParts, abytesStr, astore, amake, aappend, aclear, anew, arith, aresults, aresList, ares, spec0, spec1, spec2, spec3, spec4, eqCells, eqCell, CB, sValidF, hlt, rowAt_enc hlt, hV, hN, e]
    · simp [aev, cav, look, acallPure, abin, abinN, abinP, abinI, abinS, aun, aconv, afield, afieldAddr, aindexAddr, aindex, aslice, alow, ahigh, abuild, abuildGo, cellsOf, splice, fieldTy, alen, apick, amax, amin, aload, headV, aparts, abuildSlice, elParts, abytesStr, astore, amake, aappend, aclear, anew, arith, aresults, aresList, ares, spec0, spec1, spec2, spec3, spec4, eqCells, eqCell, CB, sValidF, hlt, rowAt_enc hlt, hV, hN, i1]
      exact ⟨k + 1, ⟨by omega, fun j hj => by
        rcases Nat.lt_or_eq_of_le (Nat.le_of_lt_succ hj) with h | h
        · exact ⟨(hv j h).1, Int.not_lt.1 (hv j h).2⟩
        · subst h; exact ⟨hV, Int.not_lt.1 hN⟩⟩, by omega, Z ++ [FB (ix x k)], weak_eq (by simp) (by simp [FB])⟩
  have hall : ∀ f ∈ x, ValidF f ∧ ¬ f.N < 0 := fun f hf => by
    obtain ⟨j, hj, rfl⟩ := List.getElem_of_mem hf
    have := hv j (by omega)
    rwa [ix_lt hj] at this
  simp [aev, cav, look, acallPure, abin, abinN, abinP, abinI, abinS, aun, aconv, afield, afieldAddr, aindexAddr, aindex, aslice, alow, ahigh, abuild, abuildGo, cellsOf, splice, fieldTy, alen, apick, amax, amin, aload, headV, aparts, abuildSlice, elParts, abytesStr, astore, amake, aappend, aclear, anew, arith, aresults, aresList, ares, spec0, spec1, spec2, spec3, spec4, eqCells, eqCell, CB, hlt]
  refine loop_ruleH (C := CVl) sigCVl mixCVl [] (fun q : Nat × List Blk => ⟨[(1, Enc.enc x), (2, .ptr 0 1 3 0 0), (4, .bool false), (38, Enc.enc l.A), (39, .int .i64 l.A.length), (40, .int .i64 q.1)], CB l :: q.2⟩) (fun q => q.1 ≤ l.A.length ∧ ∀ j, j < q.1 → ConOK x (ix l.A j) (ix l.B j)) (fun q => l.A.length - q.1) (by kernel_rfl) ⟨(0, Z), ⟨by simp, fun j hj => by simp at hj⟩, weak_eq (by simp) (by simp [CB])⟩ (fun ⟨i, Y⟩ ⟨hi, hc⟩ => ?_)
  simp only at hi hc ⊢
  by_cases hil : i < l.A.length
  · have i1 : I64 ((i : Int) + 1) := by unfold I64; omega
    have hib : i < l.B.length := by omega
    have hrow := (k7 _ (ix_mem hil)).1
    have d1 : (ix l.A i).length ≤ 1000 := by omega
    have d2 : (ix l.A i).length = x.length := by omega
    cases hd : dotO F01 (ix l.A i) x with
    | none =>
      have e := feas_no (l := l) (x := x) (fun h => by
        obtain ⟨s, h3, _⟩ := h.2.2.2 i hil
        rw [hd] at h3; cases h3)
      simp [aev, cav, look, acallPure, abin, abinN, abinP, abinI, abinS, aun, aconv, afield, afieldAddr, aindexAddr, aindex, aslice, alow, ahigh, abuild, abuildGo, cellsOf, splice, fieldTy, alen, apick, amax, amin, aload, headV, aparts, abuildSlice, elParts, abytesStr, astore, amake, aappend, aclear, anew, arith, aresults, aresList, ares, spec0, spec1, spec2, spec3, spec4, eqCells, eqCell, CB, sDot, hil, rowAt_enc hil, d1, d2, hx, hd, ofO, F00, e]
    | some s =>
      have hcon := con_cmp (b := ix l.B i) hd
      by_cases hn : cmpF s (ix l.B i) < 0
      · have e := feas_no (l := l) (x := x) (fun h => (hcon.1 (h.2.2.2 i hil)) hn)
        simp [aev, cav, look, acallPure, abin, abinN, abinP, abinI, abinS, aun, aconv, afield, afieldAddr, aindexAddr, aindex, aslice, alow, ahigh, abuild, abuildGo, cellsOf, splice, fieldTy, alen, apick, amax, amin, aload, headV, aparts, abuildSlice, elParts, abytesStr, astore, amake, aappend, aclear, anew, arith, aresults, aresList, ares, spec0, spec1, spec2, spec3, spec4, eqCells, eqCell, CB, sDot, sCmpF, hil, rowAt_enc hil, hib, rowAt_enc hib, d1, d2, hx, hd, ofO, hn, e]
      · simp [aev, cav, look, acallPure, abin, abinN, abinP, abinI, abinS, aun, aconv, afield, afieldAddr, aindexAddr, aindex, aslice, alow, ahigh, abuild, abuildGo, cellsOf, splice, fieldTy, alen, apick, amax, amin, aload, headV, aparts, abuildSlice, elParts, abytesStr, astore, amake, aappend, aclear, anew, arith, aresults, aresList, ares, spec0, spec1, spec2, spec3, spec4, eqCells, eqCell, CB, sDot, sCmpF, hil, rowAt_enc hil, hib, rowAt_enc hib, d1, d2, hx, hd, ofO, hn, i1]
        exact ⟨i + 1, ⟨by omega, fun j hj => by
          rcases Nat.lt_or_eq_of_le (Nat.le_of_lt_succ hj) with h | h
          · exact hc j h
          · subst h; exact hcon.2 hn⟩, by omega, Y ++ [FB s], weak_eq (by simp) (by simp [FB])⟩
  · have e := feas_yes (l := l) (x := x) ⟨h1, h2, hall, fun j hj => hc j (by omega)⟩
    simp [aev, cav, look, acallPure, abin, abinN, abinP, abinI, abinS, aun, aconv, afield, afieldAddr, aindexAddr, aindex, aslice, alow, ahigh, abuild, abuildGo, cellsOf, splice, fieldTy, alen, apick, amax, amin, aload, headV, aparts, abuildSlice, elParts, abytesStr, astore, amake, aappend, aclear, anew, arith, aresults, aresList, ares, spec0, spec1, spec2, spec3, spec4, eqCells, eqCell, CB, hil, e]
set_option maxHeartbeats 8000000 in
theorem feasibleR : PureOK Tryd.prog G0 18 sFeas := by
  refine pureH2 (C := CVl) sigCVl mixCVl Tryd.func18 rfl rfl rfl [] (by kernel_rfl) (by decide) (fun l x ⟨hs, hx⟩ => ?_)
  by_cases h1 : checkF l = 0
  case neg =>
    have e := feas_no (l := l) (x := x) (fun h => h1 h.1)
    have cb : (⟨25, 3, [[.slice 1 false (encRows l.A), .slice 2 false (encRows l.B), .slice 2 false (encRows l.C)]], true, true⟩ : Blk) = CB l := rfl
    simp [aev, cav, look, acallPure, abin, abinN, abinP, abinI, abinS, aun, aconv, afield, afieldAddr, aindexAddr, aindex, aslice, alow, ahigh, abuild, abuildGo, cellsOf, splice, fieldTy, alen, apick, amax, amin, aload, headV, aparts, abuildSlice, elParts, abytesStr, astore, amake, aappend, aclear, anew, arith, aresults, aresList, ares, spec0, spec1, spec2, spec3, spec4, eqCells, eqCell, sCheckF, hs, h1, e]
  by_cases h2 : x.length = l.C.length
  case neg =>
    have h2' : ¬ (x.length : Int) = l.C.length := by omega
    have e := feas_no (l := l) (x := x) (fun h => h2 h.2.1)
    simp [aev, cav, look, acallPure, abin, abinN, abinP, abinI, abinS, aun, aconv, afield, afieldAddr, aindexAddr, aindex, aslice, alow, ahigh, abuild, abuildGo, cellsOf, splice, fieldTy, alen, apick, amax, amin, aload, headV, aparts, abuildSlice, elParts, abytesStr, astore, amake, aappend, aclear, anew, arith, aresults, aresList, ares, spec0, spec1, spec2, spec3, spec4, eqCells, eqCell, sCheckF, hs, h1, h2', e]
  obtain ⟨k1, k2, k3, k4, k5, k6, k7⟩ := check_zero h1
  by_cases hA : AllV x
  case neg =>
    have e := feas_no (l := l) (x := x) (fun h => hA fun f hf => (h.2.2.1 f hf).1)
    simp [aev, cav, look, acallPure, abin, abinN, abinP, abinI, abinS, aun, aconv, afield, afieldAddr, aindexAddr, aindex, aslice, alow, ahigh, abuild, abuildGo, cellsOf, splice, fieldTy, alen, apick, amax, amin, aload, headV, aparts, abuildSlice, elParts, abytesStr, astore, amake, aappend, aclear, anew, arith, aresults, aresList, ares, spec0, spec1, spec2, spec3, spec4, eqCells, eqCell, sCheckF, sAllV, hs, hx, h1, h2, hA, e]
    omega
  simp [aev, cav, look, acallPure, abin, abinN, abinP, abinI, abinS, aun, aconv, afield, afieldAddr, aindexAddr, aindex, aslice, alow, ahigh, abuild, abuildGo, cellsOf, splice, fieldTy, alen, apick, amax, amin, aload, headV, aparts, abuildSlice, elParts, abytesStr, astore, amake, aappend, aclear, anew, arith, aresults, aresList, ares, spec0, spec1, spec2, spec3, spec4, eqCells, eqCell, sCheckF, sAllV, hs, hx, h1, h2, hA]
  refine ⟨by omega, ?_⟩
  refine loop_ruleH (C := CVl) sigCVl mixCVl [] (fun q : Nat => ⟨[(1, Enc.enc x), (2, .ptr 0 1 3 0 0), (4, .bool false), (5, .int .i64 q)], [CB l]⟩) (fun q => q ≤ x.length ∧ ∀ j, j < q → ValidF (ix x j) ∧ ¬ (ix x j).N < 0) (fun q => x.length - q) (by kernel_rfl) ⟨0, ⟨by simp, fun j hj => by simp at hj⟩, weak_eq (by simp) (by simp [CB])⟩ (fun k ⟨hk, hv⟩ => ?_)
  by_cases hlt : k < x.length
  · have i1 : I64 ((k : Int) + 1) := by unfold I64; omega
    have hV := hA _ (ix_mem hlt)
    by_cases hN : (ix x k).N < 0
    · have e := feas_no (l := l) (x := x) (fun h => (h.2.2.1 _ (ix_mem hlt)).2 hN)
      simp [aev, cav, look, acallPure, abin, abinN, abinP, abinI, abinS, aun, aconv, afield, afieldAddr, aindexAddr, aindex, aslice, alow, ahigh, abuild, abuildGo, cellsOf, splice, fieldTy, alen, apick, amax, amin, aload, headV, aparts, abuildSlice, elParts, abytesStr, astore, amake, aappend, aclear, anew, arith, aresults, aresList, ares, spec0, spec1, spec2, spec3, spec4, eqCells, eqCell, CB, hlt, rowAt_enc hlt, hN, e]
    · simp [aev, cav, look, acallPure, abin, abinN, abinP, abinI, abinS, aun, aconv, afield, afieldAddr, aindexAddr, aindex, aslice, alow, ahigh, abuild, abuildGo, cellsOf, splice, fieldTy, alen, apick, amax, amin, aload, headV, aparts, abuildSlice, elParts, abytesStr, astore, amake, aappend, aclear, anew, arith, aresults, aresList, ares, spec0, spec1, spec2, spec3, spec4, eqCells, eqCell, CB, hlt, rowAt_enc hlt, hN, i1]
      exact ⟨k + 1, ⟨by omega, fun j hj => by
        rcases Nat.lt_or_eq_of_le (Nat.le_of_lt_succ hj) with h | h
        · exact ⟨(hv j h).1, Int.not_lt.1 (hv j h).2⟩
        · subst h; exact ⟨hV, Int.not_lt.1 hN⟩⟩, by omega, weak_eq (by simp) (by simp [CB])⟩
  have hall : ∀ f ∈ x, ValidF f ∧ ¬ f.N < 0 := fun f hf => by
    obtain ⟨j, hj, rfl⟩ := List.getElem_of_mem hf
    have := hv j (by omega)
    rwa [ix_lt hj] at this
  simp [aev, cav, look, acallPure, abin, abinN, abinP, abinI, abinS, aun, aconv, afield, afieldAddr, aindexAddr, aindex, aslice, alow, ahigh, abuild, abuildGo, cellsOf, splice, fieldTy, alen, apick, amax, amin, aload, headV, aparts, abuildSlice, elParts, abytesStr, astore, amake, aappend, aclear, anew, arith, aresults, aresList, ares, spec0, spec1, spec2, spec3, spec4, eqCells, eqCell, CB, hlt]
  refine loop_ruleH (C := CVl) sigCVl mixCVl [] (fun q : Nat × List Blk => ⟨[(1, Enc.enc x), (2, .ptr 0 1 3 0 0), (4, .bool false), (6, .int .i64 q.1)], CB l :: q.2⟩) (fun q => q.1 ≤ l.A.length ∧ ∀ j, j < q.1 → ConOK x (ix l.A j) (ix l.B j)) (fun q => l.A.length - q.1) (by kernel_rfl) ⟨(0, []), ⟨by simp, fun j hj => by simp at hj⟩, weak_eq (by simp) (by simp [CB])⟩ (fun ⟨i, Y⟩ ⟨hi, hc⟩ => ?_)
  simp only at hi hc ⊢
  by_cases hil : i < l.A.length
  · have i1 : I64 ((i : Int) + 1) := by unfold I64; omega
    have hib : i < l.B.length := by omega
    have hrow := (k7 _ (ix_mem hil)).1
    have d1 : (ix l.A i).length ≤ 1000 := by omega
    have d2 : (ix l.A i).length = x.length := by omega
    cases hd : dotO F01 (ix l.A i) x with
    | none =>
      have e := feas_no (l := l) (x := x) (fun h => by
        obtain ⟨s, h3, _⟩ := h.2.2.2 i hil
        rw [hd] at h3; cases h3)
      simp [aev, cav, look, acallPure, abin, abinN, abinP, abinI, abinS, aun, aconv, afield, afieldAddr, aindexAddr, aindex, aslice, alow, ahigh, abuild, abuildGo, cellsOf, splice, fieldTy, alen, apick, amax, amin, aload, headV, aparts, abuildSlice, elParts, abytesStr, astore, amake, aappend, aclear, anew, arith, aresults, aresList, ares, spec0, spec1, spec2, spec3, spec4, eqCells, eqCell, CB, sDot, hil, rowAt_enc hil, d1, d2, hx, hd, ofO, F00, e]
    | some s =>
      have hcon := con_cmp (b := ix l.B i) hd
      by_cases hn : cmpF s (ix l.B i) < 0
      · have e := feas_no (l := l) (x := x) (fun h => (hcon.1 (h.2.2.2 i hil)) hn)
        simp [aev, cav, look, acallPure, abin, abinN, abinP, abinI, abinS, aun, aconv, afield, afieldAddr, aindexAddr, aindex, aslice, alow, ahigh, abuild, abuildGo, cellsOf, splice, fieldTy, alen, apick, amax, amin, aload, headV, aparts, abuildSlice, elParts, abytesStr, astore, amake, aappend, aclear, anew, arith, aresults, aresList, ares, spec0, spec1, spec2, spec3, spec4, eqCells, eqCell, CB, sDot, sCmpF, hil, rowAt_enc hil, hib, rowAt_enc hib, d1, d2, hx, hd, ofO, hn, e]
      · simp [aev, cav, look, acallPure, abin, abinN, abinP, abinI, abinS, aun, aconv, afield, afieldAddr, aindexAddr, aindex, aslice, alow, ahigh, abuild, abuildGo, cellsOf, splice, fieldTy, alen, apick, amax, amin, aload, headV, aparts, abuildSlice, elParts, abytesStr, astore, amake, aappend, aclear, anew, arith, aresults, aresList, ares, spec0, spec1, spec2, spec3, spec4, eqCells, eqCell, CB, sDot, sCmpF, hil, rowAt_enc hil, hib, rowAt_enc hib, d1, d2, hx, hd, ofO, hn, i1]
        exact ⟨i + 1, ⟨by omega, fun j hj => by
          rcases Nat.lt_or_eq_of_le (Nat.le_of_lt_succ hj) with h | h
          · exact hc j h
          · subst h; exact hcon.2 hn⟩, by omega, Y ++ [FB s], weak_eq (by simp) (by simp [FB])⟩
  · have e := feas_yes (l := l) (x := x) ⟨h1, h2, hall, fun j hj => hc j (by omega)⟩
    simp [aev, cav, look, acallPure, abin, abinN, abinP, abinI, abinS, aun, aconv, afield, afieldAddr, aindexAddr, aindex, aslice, alow, ahigh, abuild, abuildGo, cellsOf, splice, fieldTy, alen, apick, amax, amin, aload, headV, aparts, abuildSlice, elParts, abytesStr, astore, amake, aappend, aclear, anew, arith, aresults, aresList, ares, spec0, spec1, spec2, spec3, spec4, eqCells, eqCell, CB, hil, e]
end Go.Proofs.YtifbaegnkodneaaDoor

/-
  layer 30: Dual, the program's side.
-/
namespace Go.Proofs.YtifbaegnkodneaaDoor
open Go.RowKit
set_option linter.unusedSimpArgs false
set_option linter.unusedVariables false
set_option maxRecDepth 100000

def ZLB : Blk := ⟨25, 3, [[.slice 1 true [], .slice 2 true [], .slice 2 true []]], true, true⟩
def DLB (a b c : Nat) : Blk := ⟨25, 3, [[.own 3 a, .own 4 b, .own 5 c]], true, false⟩
def R1B (l : List (List Fr)) : Blk := ⟨23, 1, encRows l, true, true⟩
def R2B (l : List Fr) : Blk := ⟨29, 2, encRows l, true, true⟩
def rowJ (l : Lin) (j : Nat) : List Fr := l.A.map fun a => negF (ix a j)
def rowsJ (l : Lin) (k : Nat) : List (List Fr) := (List.range k).map (rowJ l)
theorem dualL_eq (l : Lin) : dualL l = ⟨rowsJ l l.C.length, l.C.map negF, l.B.map negF⟩ := rfl
def rowK (l : Lin) (j i : Nat) : List Fr := (l.A.take i).map fun a => negF (ix a j)
theorem rowK_succ {l : Lin} {j i : Nat} (h : i < l.A.length) : rowK l j (i + 1) = rowK l j i ++ [negF (ix (ix l.A i) j)] := by unfold rowK; rw [List.take_succ_eq_append_getElem h, List.map_append, ix_lt h]; rfl
theorem rowK_len {l : Lin} {j i : Nat} (h : i ≤ l.A.length) : (rowK l j i).length = i := by unfold rowK; rw [List.length_map, List.length_take]; omega
theorem rowK_all (l : Lin) (j : Nat) : rowK l j l.A.length = rowJ l j := by unfold rowK rowJ; rw [List.take_length]
theorem rowK_nil (l : Lin) (j : Nat) : rowK l j 0 = [] := rfl
def negK (l : List Fr) (k : Nat) : List Fr := (l.take k).map negF
theorem negK_succ {l : List Fr} {k : Nat} (h : k < l.length) : negK l (k + 1) = negK l k ++ [negF (ix l k)] := by unfold negK; rw [List.take_succ_eq_append_getElem h, List.map_append, ix_lt h]; rfl
theorem negK_len {l : List Fr} {k : Nat} (h : k ≤ l.length) : (negK l k).length = k := by unfold negK; rw [List.length_map, List.length_take]; omega
theorem negK_all (l : List Fr) : negK l l.length = l.map negF := by unfold negK; rw [List.take_length]
theorem negK_nil (l : List Fr) : negK l 0 = [] := rfl
theorem scal22 : isScalT CVl 22 = false := by show isScalT ⟨Tryd.prog, fun _ => .no, G0⟩ 22 = false; kernel_rfl
theorem rowsJ_succ (l : Lin) (k : Nat) : rowsJ l (k + 1) = rowsJ l k ++ [rowJ l k] := by unfold rowsJ; rw [List.range_succ, List.map_append]; rfl
@[simp] theorem rows_snoc_rows (l : List (List Fr)) (x : List Fr) : encRows l ++ [[.slice 2 false (encRows x)]] = encRows (l ++ [x]) := by rw [encRows_append]; rfl
theorem small_dual {l : Lin} (h : SmallL l) : SmallL (dualL l) := ⟨by rw [dualL_eq]; simp [rowsJ]; exact h.c, by rw [dualL_eq]; simp; exact h.c, by rw [dualL_eq]; simp; exact h.b, fun r hr => by
  rw [dualL_eq] at hr
  simp only [rowsJ] at hr
  obtain ⟨j, _, rfl⟩ := List.mem_map.1 hr
  simp [rowJ]; exact h.a⟩
def sDual : List AV → Option (Prop × AV) := spec1 SmallL (fun l => .tup [Enc.enc (dualF l).1, .int .i64 (dualF l).2])
set_option maxHeartbeats 16000000 in
theorem dualP : PureOK Tryd.prog G0 13 sDual := by
  refine pureH1 (C := CVl) sigCVl mixCVl Tryd.func13 rfl rfl rfl [15, 20] (by kernel_rfl) (by decide) (fun l hs => ?_)
  by_cases h1 : checkF l = 0
  case neg =>
    have e : dualF l = (L00, checkF l) := if_pos h1
    simp [aev, cav, look, acallPure, abin, abinN, abinP, abinI, abinS, aun, aconv, afield, afieldAddr, aindexAddr, aindex, aslice, alow, ahigh, abuild, abuildGo, cellsOf, splice, fieldTy, alen, apick, amax, amin, aload, headV, aparts, abuildSlice, elParts, abytesStr, astore, amake, aappend, aclear, anew, arith, aresults, aresList, ares, spec0, spec1, spec2, spec3, spec4, eqCells, eqCell, sCheckF, hs, h1, e, L00]
  have sD := small_dual hs
  obtain ⟨k1, k2, k3, k4, k5, k6, k7⟩ := check_zero h1
  obtain ⟨D, ec, hD⟩ : ∃ D ec, dualF l = (D, ec) := ⟨_, _, rfl⟩
  simp [aev, cav, look, acallPure, abin, abinN, abinP, abinI, abinS, aun, aconv, afield, afieldAddr, aindexAddr, aindex, aslice, alow, ahigh, abuild, abuildGo, cellsOf, splice, fieldTy, alen, apick, amax, amin, aload, headV, aparts, abuildSlice, elParts, abytesStr, astore, amake, aappend, aclear, anew, arith, aresults, aresList, ares, spec0, spec1, spec2, spec3, spec4, eqCells, eqCell, sCheckF, hs, h1, hD]
  refine AW.weak (weak_nilcell 2 0 0 1 23 rfl rfl rfl (by decide)) ?_
  refine AW.weak (weak_nilcell 2 0 1 2 29 rfl rfl rfl (by decide)) ?_
  refine AW.weak (weak_nilcell 2 0 2 2 29 rfl rfl rfl (by decide)) ?_
  refine loop_ruleH (C := CVl) sigCVl mixCVl [15, 20] (fun j : Nat => ⟨[(1, .ptr 0 1 3 0 0), (2, .ptr 1 1 3 0 0), (5, .ptr 2 1 3 0 0), (21, Enc.enc l.C), (22, .int .i64 l.C.length), (23, .int .i64 j)], [CB l, ZLB, DLB j j 0, R1B (rowsJ l j), R2B (negK l.C j), R2B []]⟩) (fun j => j ≤ l.C.length) (fun j => l.C.length - j) (by kernel_rfl) ⟨0, by simp, weak_eq (by simp) (by simp [CB, ZLB, DLB, R1B, R2B, rowsJ, negK])⟩ (fun j hj => ?_)
  by_cases hlt : j < l.C.length
  · have i1 : I64 ((j : Int) + 1) := by unfold I64; omega
    simp [aev, cav, look, acallPure, abin, abinN, abinP, abinI, abinS, aun, aconv, afield, afieldAddr, aindexAddr, aindex, aslice, alow, ahigh, abuild, abuildGo, cellsOf, splice, fieldTy, alen, apick, amax, amin, aload, headV, aparts, abuildSlice, elParts, abytesStr, astore, amake, aappend, aclear, anew, arith, aresults, aresList, ares, spec0, spec1, spec2, spec3, spec4, eqCells, eqCell, CB, ZLB, DLB, R1B, R2B, hlt, rowAt_enc hlt]
    refine AW.weak (weak_nil 8 2 29 rfl (by decide)) ?_
    refine loop_ruleH (C := CVl) sigCVl mixCVl [15, 20] (fun i : Nat => ⟨[(1, .ptr 0 1 3 0 0), (2, .ptr 1 1 3 0 0), (5, .ptr 2 1 3 0 0), (6, .int .i64 j), (7, .ptr 6 1 2 0 0), (8, .own 7 i), (21, Enc.enc l.C), (22, .int .i64 l.C.length), (23, .int .i64 j), (29, Enc.enc l.A), (30, .int .i64 l.A.length), (31, .int .i64 i)], [CB l, ZLB, DLB j j 0, R1B (rowsJ l j), R2B (negK l.C j), R2B [], FB (ix l.C j), R2B (rowK l j i)]⟩) (fun i => i ≤ l.A.length) (fun i => l.A.length - i) (by kernel_rfl) ⟨0, by simp, weak_eq (by simp) (by simp [CB, ZLB, DLB, R1B, R2B, FB, rowK])⟩ (fun i hi => ?_)
    by_cases hil : i < l.A.length
    · have i2 : I64 ((i : Int) + 1) := by unfold I64; omega
      have hrow := (k7 _ (ix_mem hil)).1
      have hjr : j < (ix l.A i).length := by omega
      have hmin := rowK_len (j := j) (show i ≤ l.A.length by omega)
      simp [aev, cav, look, acallPure, abin, abinN, abinP, abinI, abinS, aun, aconv, afield, afieldAddr, aindexAddr, aindex, aslice, alow, ahigh, abuild, abuildGo, cellsOf, splice, fieldTy, alen, apick, amax, amin, aload, headV, aparts, abuildSlice, elParts, abytesStr, astore, amake, aappend, aclear, anew, arith, aresults, aresList, ares, spec0, spec1, spec2, spec3, spec4, eqCells, eqCell, CB, ZLB, DLB, R1B, R2B, FB, sNeg, hil, rowAt_enc hil, hjr, rowAt_enc hjr, hmin, i2]
      refine ⟨⟨by omega, by omega⟩, i + 1, by omega, by omega, weak_eq (by simp) ?_⟩
      rw [rowK_succ hil]
    · have hie : i = l.A.length := by omega
      have hrl : (rowJ l j).length = l.A.length := by unfold rowJ; simp
      subst hie
      rw [rowK_all]
      have hmj := negK_len (l := l.C) (show j ≤ l.C.length by omega)
      have hrj : (rowsJ l j).length = j := by unfold rowsJ; simp
      simp [aev, cav, look, acallPure, abin, abinN, abinP, abinI, abinS, aun, aconv, afield, afieldAddr, aindexAddr, aindex, aslice, alow, ahigh, abuild, abuildGo, cellsOf, splice, fieldTy, alen, apick, amax, amin, aload, headV, aparts, abuildSlice, elParts, abytesStr, astore, amake, aappend, aclear, anew, arith, aresults, aresList, ares, spec0, spec1, spec2, spec3, spec4, eqCells, eqCell, CB, ZLB, DLB, R1B, R2B, FB, sNeg, hil, hrl, hmj, hrj, scal22]
      refine ⟨⟨by omega, by omega⟩, ?_⟩
      refine AW_regionF sigCVl mixCVl [.pure, .read, .read, .read, .read, .eff, .pure, .eff] [[],[0],[],[2],[2,3],[3,2,4,0,1],[5,4,3,2,1,0],[0,1,2,3,4,5,6]] (by kernel_rfl) (by kernel_rfl) (by kernel_rfl) (by kernel_rfl) ?_
      simp [aev, cav, look, acallPure, abin, abinN, abinP, abinI, abinS, aun, aconv, afield, afieldAddr, aindexAddr, aindex, aslice, alow, ahigh, abuild, abuildGo, cellsOf, splice, fieldTy, alen, apick, amax, amin, aload, headV, aparts, abuildSlice, elParts, abytesStr, astore, amake, aappend, aclear, anew, arith, aresults, aresList, ares, spec0, spec1, spec2, spec3, spec4, eqCells, eqCell, sNeg, hmj, i1]
      refine ⟨⟨by omega, by omega⟩, j + 1, by omega, by omega, weak_keep 6 (by simp) (by simp) (by simp [AV.clean, AV.clean1]) ?_ ?_⟩
      · simp [AV.clean, AV.clean1]
      · rw [negK_succ hlt, rowsJ_succ]
        simp [CB, ZLB, DLB, R1B, R2B]
  · have hje : j = l.C.length := by omega
    subst hje
    rw [negK_all]
    have hrj : (rowsJ l l.C.length).length = l.C.length := by unfold rowsJ; simp
    simp [aev, cav, look, acallPure, abin, abinN, abinP, abinI, abinS, aun, aconv, afield, afieldAddr, aindexAddr, aindex, aslice, alow, ahigh, abuild, abuildGo, cellsOf, splice, fieldTy, alen, apick, amax, amin, aload, headV, aparts, abuildSlice, elParts, abytesStr, astore, amake, aappend, aclear, anew, arith, aresults, aresList, ares, spec0, spec1, spec2, spec3, spec4, eqCells, eqCell, CB, ZLB, DLB, R1B, R2B, hlt]
    refine loop_ruleH (C := CVl) sigCVl mixCVl [15, 20] (fun q : Nat × List Blk => ⟨[(1, .ptr 0 1 3 0 0), (2, .ptr 1 1 3 0 0), (5, .ptr 2 1 3 0 0), (59, Enc.enc l.B), (60, .int .i64 l.B.length), (61, .int .i64 q.1)], CB l :: ZLB :: DLB l.C.length l.C.length q.1 :: R1B (rowsJ l l.C.length) :: R2B (l.C.map negF) :: R2B (negK l.B q.1) :: q.2⟩) (fun q => q.1 ≤ l.B.length) (fun q => l.B.length - q.1) (by kernel_rfl) ⟨(0, []), by simp, weak_eq (by simp) (by simp [CB, ZLB, DLB, R1B, R2B, negK])⟩ (fun ⟨i, Z⟩ hi => ?_)
    simp only at hi ⊢
    by_cases hil : i < l.B.length
    · have i2 : I64 ((i : Int) + 1) := by unfold I64; omega
      have hmi := negK_len (l := l.B) (show i ≤ l.B.length by omega)
      simp [aev, cav, look, acallPure, abin, abinN, abinP, abinI, abinS, aun, aconv, afield, afieldAddr, aindexAddr, aindex, aslice, alow, ahigh, abuild, abuildGo, cellsOf, splice, fieldTy, alen, apick, amax, amin, aload, headV, aparts, abuildSlice, elParts, abytesStr, astore, amake, aappend, aclear, anew, arith, aresults, aresList, ares, spec0, spec1, spec2, spec3, spec4, eqCells, eqCell, CB, ZLB, DLB, R1B, R2B, hil, rowAt_enc hil]
      refine AW_regionF sigCVl mixCVl [.pure, .read, .read, .read, .read, .eff, .pure, .eff] [[],[0],[],[2],[2,3],[3,2,4,0,1],[5,4,3,2,1,0],[0,1,2,3,4,5,6]] (by kernel_rfl) (by kernel_rfl) (by kernel_rfl) (by kernel_rfl) ?_
      simp [aev, cav, look, acallPure, abin, abinN, abinP, abinI, abinS, aun, aconv, afield, afieldAddr, aindexAddr, aindex, aslice, alow, ahigh, abuild, abuildGo, cellsOf, splice, fieldTy, alen, apick, amax, amin, aload, headV, aparts, abuildSlice, elParts, abytesStr, astore, amake, aappend, aclear, anew, arith, aresults, aresList, ares, spec0, spec1, spec2, spec3, spec4, eqCells, eqCell, sNeg, hmi, i2]
      refine ⟨⟨by omega, by omega⟩, i + 1, by omega, by omega, Z ++ [FB (ix l.B i)], weak_eq (by simp) ?_⟩
      rw [negK_succ hil]
      simp [CB, ZLB, DLB, R1B, R2B, FB]
    · have hie : i = l.B.length := by omega
      subst hie
      rw [negK_all]
      have eD : (⟨rowsJ l l.C.length, l.C.map negF, l.B.map negF⟩ : Lin) = dualL l := (dualL_eq l).symm
      by_cases h2 : checkF (dualL l) = 0
      · have e : dualF l = (dualL l, 0) := by unfold dualF; rw [if_neg (by simp [h1]), if_neg (by simp [h2])]
        rw [hD] at e
        injection e with e1 e2
        subst e1 e2
        simp [aev, cav, look, acallPure, abin, abinN, abinP, abinI, abinS, aun, aconv, afield, afieldAddr, aindexAddr, aindex, aslice, alow, ahigh, abuild, abuildGo, cellsOf, splice, fieldTy, alen, apick, amax, amin, aload, headV, aparts, abuildSlice, elParts, abytesStr, astore, amake, aappend, aclear, anew, arith, aresults, aresList, ares, spec0, spec1, spec2, spec3, spec4, eqCells, eqCell, CB, ZLB, DLB, R1B, R2B, sCheckF, hil, hrj, eD, sD, h2]
        simp [dualL_eq]
      · have e : dualF l = (L00, checkF (dualL l)) := by unfold dualF; rw [if_neg (by simp [h1]), if_pos h2]
        rw [hD] at e
        injection e with e1 e2
        subst e1 e2
        simp [aev, cav, look, acallPure, abin, abinN, abinP, abinI, abinS, aun, aconv, afield, afieldAddr, aindexAddr, aindex, aslice, alow, ahigh, abuild, abuildGo, cellsOf, splice, fieldTy, alen, apick, amax, amin, aload, headV, aparts, abuildSlice, elParts, abytesStr, astore, amake, aappend, aclear, anew, arith, aresults, aresList, ares, spec0, spec1, spec2, spec3, spec4, eqCells, eqCell, CB, ZLB, DLB, R1B, R2B, sCheckF, hil, hrj, eD, sD, h2, L00]
        simp [dualL_eq]
end Go.Proofs.YtifbaegnkodneaaDoor

/-
  layer 30: Dual, the reference's side.
-/
namespace Go.Proofs.YtifbaegnkodneaaDoor
open Go.RowKit
set_option linter.unusedSimpArgs false
set_option linter.unusedVariables false
set_option maxRecDepth 100000

set_option maxHeartbeats 16000000 in
theorem dualR : PureOK Tryd.prog G0 14 sDual := by
  refine pureH1 (C := CVl) sigCVl mixCVl Tryd.func14 rfl rfl rfl [14, 18] (by kernel_rfl) (by decide) (fun l hs => ?_)
  by_cases h1 : checkF l = 0
  case neg =>
    have e : dualF l = (L00, checkF l) := if_pos h1
    simp [aev, cav, look, acallPure, abin, abinN, abinP, abinI, abinS, aun, aconv, afield, afieldAddr, aindexAddr, aindex, aslice, alow, ahigh, abuild, abuildGo, cellsOf, splice, fieldTy, alen, apick, amax, amin, aload, headV, aparts, abuildSlice, elParts, abytesStr, astore, amake, aappend, aclear, anew, arith, aresults, aresList, ares, spec0, spec1, spec2, spec3, spec4, eqCells, eqCell, sCheckF, hs, h1, e, L00]
  have sD := small_dual hs
  obtain ⟨k1, k2, k3, k4, k5, k6, k7⟩ := check_zero h1
  obtain ⟨D, ec, hD⟩ : ∃ D ec, dualF l = (D, ec) := ⟨_, _, rfl⟩
  simp [aev, cav, look, acallPure, abin, abinN, abinP, abinI, abinS, aun, aconv, afield, afieldAddr, aindexAddr, aindex, aslice, alow, ahigh, abuild, abuildGo, cellsOf, splice, fieldTy, alen, apick, amax, amin, aload, headV, aparts, abuildSlice, elParts, abytesStr, astore, amake, aappend, aclear, anew, arith, aresults, aresList, ares, spec0, spec1, spec2, spec3, spec4, eqCells, eqCell, sCheckF, hs, h1, hD]
  refine AW.weak (weak_nilcell 2 0 0 1 23 rfl rfl rfl (by decide)) ?_
  refine AW.weak (weak_nilcell 2 0 1 2 29 rfl rfl rfl (by decide)) ?_
  refine AW.weak (weak_nilcell 2 0 2 2 29 rfl rfl rfl (by decide)) ?_
  refine loop_ruleH (C := CVl) sigCVl mixCVl [14, 18] (fun j : Nat => ⟨[(1, .ptr 0 1 3 0 0), (2, .ptr 1 1 3 0 0), (5, .ptr 2 1 3 0 0), (6, .int .i64 j)], [CB l, ZLB, DLB j j 0, R1B (rowsJ l j), R2B (negK l.C j), R2B []]⟩) (fun j => j ≤ l.C.length) (fun j => l.C.length - j) (by kernel_rfl) ⟨0, by simp, weak_eq (by simp) (by simp [CB, ZLB, DLB, R1B, R2B, rowsJ, negK])⟩ (fun j hj => ?_)
  by_cases hlt : j < l.C.length
  · have i1 : I64 ((j : Int) + 1) := by unfold I64; omega
    simp [aev, cav, look, acallPure, abin, abinN, abinP, abinI, abinS, aun, aconv, afield, afieldAddr, aindexAddr, aindex, aslice, alow, ahigh, abuild, abuildGo, cellsOf, splice, fieldTy, alen, apick, amax, amin, aload, headV, aparts, abuildSlice, elParts, abytesStr, astore, amake, aappend, aclear, anew, arith, aresults, aresList, ares, spec0, spec1, spec2, spec3, spec4, eqCells, eqCell, CB, ZLB, DLB, R1B, R2B, hlt, rowAt_enc hlt]
    refine AW.weak (weak_nil 7 2 29 rfl (by decide)) ?_
    refine loop_ruleH (C := CVl) sigCVl mixCVl [14, 18] (fun i : Nat => ⟨[(1, .ptr 0 1 3 0 0), (2, .ptr 1 1 3 0 0), (5, .ptr 2 1 3 0 0), (6, .int .i64 j), (7, .own 6 i), (8, .int .i64 i)], [CB l, ZLB, DLB j j 0, R1B (rowsJ l j), R2B (negK l.C j), R2B [], R2B (rowK l j i)]⟩) (fun i => i ≤ l.A.length) (fun i => l.A.length - i) (by kernel_rfl) ⟨0, by simp, weak_eq (by simp) (by simp [CB, ZLB, DLB, R1B, R2B, FB, rowK])⟩ (fun i hi => ?_)
    by_cases hil : i < l.A.length
    · have i2 : I64 ((i : Int) + 1) := by unfold I64; omega
      have hrow := (k7 _ (ix_mem hil)).1
      have hjr : j < (ix l.A i).length := by omega
      have hmin := rowK_len (j := j) (show i ≤ l.A.length by omega)
      simp [aev, cav, look, acallPure, abin, abinN, abinP, abinI, abinS, aun, aconv, afield, afieldAddr, aindexAddr, aindex, aslice, alow, ahigh, abuild, abuildGo, cellsOf, splice, fieldTy, alen, apick, amax, amin, aload, headV, aparts, abuildSlice, elParts, abytesStr, astore, amake, aappend, aclear, anew, arith, aresults, aresList, ares, spec0, spec1, spec2, spec3, spec4, eqCells, eqCell, CB, ZLB, DLB, R1B, R2B, FB, sNeg, hil, rowAt_enc hil, hjr, rowAt_enc hjr, hmin, i2]
      refine ⟨⟨by omega, by omega⟩, i + 1, by omega, by omega, weak_eq (by simp) ?_⟩
      rw [rowK_succ hil]
    · have hie : i = l.A.length := by omega
      have hrl : (rowJ l j).length = l.A.length := by unfold rowJ; simp
      subst hie
      rw [rowK_all]
      have hmj := negK_len (l := l.C) (show j ≤ l.C.length by omega)
      have hrj : (rowsJ l j).length = j := by unfold rowsJ; simp
      simp [aev, cav, look, acallPure, abin, abinN, abinP, abinI, abinS, aun, aconv, afield, afieldAddr, aindexAddr, aindex, aslice, alow, ahigh, abuild, abuildGo, cellsOf, splice, fieldTy, alen, apick, amax, amin, aload, headV, aparts, abuildSlice, elParts, abytesStr, astore, amake, aappend, aclear, anew, arith, aresults, aresList, ares, spec0, spec1, spec2, spec3, spec4, eqCells, eqCell, CB, ZLB, DLB, R1B, R2B, FB, sNeg, hil, hrl, hmj, hrj, scal22]
      refine ⟨⟨by omega, by omega⟩, ?_⟩
      refine AW_regionF sigCVl mixCVl [.pure, .read, .pure, .read, .pure, .pure, .read, .read, .read, .eff, .pure, .eff] [[],[0],[],[2],[],[4,2,3],[3,2,4,5],[5,4,2,3,6],[6,3,2,4,5,7],[7,5,4,2,3,6,8,0,1],[9,8,7,6,5,4,3,2,1,0],[0,1,2,3,4,5,6,7,8,9,10]] (by kernel_rfl) (by kernel_rfl) (by kernel_rfl) (by kernel_rfl) ?_
      simp [aev, cav, look, acallPure, abin, abinN, abinP, abinI, abinS, aun, aconv, afield, afieldAddr, aindexAddr, aindex, aslice, alow, ahigh, abuild, abuildGo, cellsOf, splice, fieldTy, alen, apick, amax, amin, aload, headV, aparts, abuildSlice, elParts, abytesStr, astore, amake, aappend, aclear, anew, arith, aresults, aresList, ares, spec0, spec1, spec2, spec3, spec4, eqCells, eqCell, sNeg, hmj, i1, hlt, rowAt_enc hlt]
      refine ⟨⟨by omega, by omega⟩, j + 1, by omega, by omega, weak_keep 6 (by simp) (by simp) (by simp [AV.clean, AV.clean1]) ?_ ?_⟩
      · simp [AV.clean, AV.clean1]
      · rw [negK_succ hlt, rowsJ_succ]
        simp [CB, ZLB, DLB, R1B, R2B]
  · have hje : j = l.C.length := by omega
    subst hje
    rw [negK_all]
    have hrj : (rowsJ l l.C.length).length = l.C.length := by unfold rowsJ; simp
    simp [aev, cav, look, acallPure, abin, abinN, abinP, abinI, abinS, aun, aconv, afield, afieldAddr, aindexAddr, aindex, aslice, alow, ahigh, abuild, abuildGo, cellsOf, splice, fieldTy, alen, apick, amax, amin, aload, headV, aparts, abuildSlice, elParts, abytesStr, astore, amake, aappend, aclear, anew, arith, aresults, aresList, ares, spec0, spec1, spec2, spec3, spec4, eqCells, eqCell, CB, ZLB, DLB, R1B, R2B, hlt]
    refine loop_ruleH (C := CVl) sigCVl mixCVl [14, 18] (fun q : Nat × List Blk => ⟨[(1, .ptr 0 1 3 0 0), (2, .ptr 1 1 3 0 0), (5, .ptr 2 1 3 0 0), (9, .int .i64 q.1)], CB l :: ZLB :: DLB l.C.length l.C.length q.1 :: R1B (rowsJ l l.C.length) :: R2B (l.C.map negF) :: R2B (negK l.B q.1) :: q.2⟩) (fun q => q.1 ≤ l.B.length) (fun q => l.B.length - q.1) (by kernel_rfl) ⟨(0, []), by simp, weak_eq (by simp) (by simp [CB, ZLB, DLB, R1B, R2B, negK])⟩ (fun ⟨i, Z⟩ hi => ?_)
    simp only at hi ⊢
    by_cases hil : i < l.B.length
    · have i2 : I64 ((i : Int) + 1) := by unfold I64; omega
      have hmi := negK_len (l := l.B) (show i ≤ l.B.length by omega)
      simp [aev, cav, look, acallPure, abin, abinN, abinP, abinI, abinS, aun, aconv, afield, afieldAddr, aindexAddr, aindex, aslice, alow, ahigh, abuild, abuildGo, cellsOf, splice, fieldTy, alen, apick, amax, amin, aload, headV, aparts, abuildSlice, elParts, abytesStr, astore, amake, aappend, aclear, anew, arith, aresults, aresList, ares, spec0, spec1, spec2, spec3, spec4, eqCells, eqCell, CB, ZLB, DLB, R1B, R2B, hil, rowAt_enc hil]
      refine AW_regionF sigCVl mixCVl [.pure, .read, .pure, .read, .pure, .pure, .read, .read, .read, .eff, .pure, .eff] [[],[0],[],[2],[],[4,2,3],[3,2,4,5],[5,4,2,3,6],[6,3,2,4,5,7],[7,5,4,2,3,6,8,0,1],[9,8,7,6,5,4,3,2,1,0],[0,1,2,3,4,5,6,7,8,9,10]] (by kernel_rfl) (by kernel_rfl) (by kernel_rfl) (by kernel_rfl) ?_
      simp [aev, cav, look, acallPure, abin, abinN, abinP, abinI, abinS, aun, aconv, afield, afieldAddr, aindexAddr, aindex, aslice, alow, ahigh, abuild, abuildGo, cellsOf, splice, fieldTy, alen, apick, amax, amin, aload, headV, aparts, abuildSlice, elParts, abytesStr, astore, amake, aappend, aclear, anew, arith, aresults, aresList, ares, spec0, spec1, spec2, spec3, spec4, eqCells, eqCell, sNeg, hmi, i2, hil, rowAt_enc hil]
      refine ⟨⟨by omega, by omega⟩, i + 1, by omega, by omega, Z, weak_eq (by simp) ?_⟩
      rw [negK_succ hil]
    · have hie : i = l.B.length := by omega
      subst hie
      rw [negK_all]
      have eD : (⟨rowsJ l l.C.length, l.C.map negF, l.B.map negF⟩ : Lin) = dualL l := (dualL_eq l).symm
      by_cases h2 : checkF (dualL l) = 0
      · have e : dualF l = (dualL l, 0) := by unfold dualF; rw [if_neg (by simp [h1]), if_neg (by simp [h2])]
        rw [hD] at e
        injection e with e1 e2
        subst e1 e2
        simp [aev, cav, look, acallPure, abin, abinN, abinP, abinI, abinS, aun, aconv, afield, afieldAddr, aindexAddr, aindex, aslice, alow, ahigh, abuild, abuildGo, cellsOf, splice, fieldTy, alen, apick, amax, amin, aload, headV, aparts, abuildSlice, elParts, abytesStr, astore, amake, aappend, aclear, anew, arith, aresults, aresList, ares, spec0, spec1, spec2, spec3, spec4, eqCells, eqCell, CB, ZLB, DLB, R1B, R2B, sCheckF, hil, hrj, eD, sD, h2]
        simp [dualL_eq]
      · have e : dualF l = (L00, checkF (dualL l)) := by unfold dualF; rw [if_neg (by simp [h1]), if_pos h2]
        rw [hD] at e
        injection e with e1 e2
        subst e1 e2
        simp [aev, cav, look, acallPure, abin, abinN, abinP, abinI, abinS, aun, aconv, afield, afieldAddr, aindexAddr, aindex, aslice, alow, ahigh, abuild, abuildGo, cellsOf, splice, fieldTy, alen, apick, amax, amin, aload, headV, aparts, abuildSlice, elParts, abytesStr, astore, amake, aappend, aclear, anew, arith, aresults, aresList, ares, spec0, spec1, spec2, spec3, spec4, eqCells, eqCell, CB, ZLB, DLB, R1B, R2B, sCheckF, hil, hrj, eD, sD, h2, L00]
        simp [dualL_eq]
end Go.Proofs.YtifbaegnkodneaaDoor

/-
  layer 30: equality of lists and programs; small inputs; the examples' parts.
-/
namespace Go.Proofs.YtifbaegnkodneaaDoor
open Go.RowKit
set_option linter.unusedSimpArgs false
set_option linter.unusedVariables false
set_option maxRecDepth 100000

theorem fr_eq {a b : Fr} : a = b ↔ a.N = b.N ∧ a.D = b.D := by
  refine ⟨fun h => by rw [h]; exact ⟨rfl, rfl⟩, fun h => ?_⟩
  obtain ⟨n, d⟩ := a
  obtain ⟨n', d'⟩ := b
  obtain ⟨rfl, rfl⟩ := h
  rfl
theorem list_eq_upto {α : Type} [Inhabited α] {a b : List α} (hl : a.length = b.length) {k : Nat} (h : ∀ j, j < k → ix a j = ix b j) (hk : a.length ≤ k) : a = b := by
  refine List.ext_getElem hl fun j h1 h2 => ?_
  have := h j (by omega)
  rwa [ix_lt h1, ix_lt h2] at this
def sFracs : List AV → Option (Prop × AV) := spec2 (fun (a _ : List Fr) => a.length ≤ 1000) (fun a b => .bool (decide (a = b)))
set_option maxHeartbeats 4000000 in
theorem fracsR : PureOK Tryd.prog G0 22 sFracs := by
  refine pure2 (C := CE) sigCE mixCE Tryd.func22 rfl rfl rfl (by kernel_rfl) (by decide) (fun a b hl => ?_)
  by_cases h1 : a.length = b.length
  case neg =>
    have h1' : ¬ (a.length : Int) = b.length := by omega
    have no : ¬ a = b := fun h => h1 (by rw [h])
    simp [aev, cav, look, acallPure, abin, abinN, abinP, abinI, abinS, aun, aconv, afield, afieldAddr, aindexAddr, aindex, aslice, alow, ahigh, abuild, abuildGo, cellsOf, splice, fieldTy, alen, apick, amax, amin, aload, headV, aparts, abuildSlice, elParts, abytesStr, astore, amake, aappend, aclear, anew, arith, aresults, aresList, ares, spec0, spec1, spec2, spec3, spec4, eqCells, eqCell, h1', no]
  obtain ⟨r, hr⟩ : ∃ r, decide (a = b) = r := ⟨_, rfl⟩
  rw [hr]
  simp [aev, cav, look, acallPure, abin, abinN, abinP, abinI, abinS, aun, aconv, afield, afieldAddr, aindexAddr, aindex, aslice, alow, ahigh, abuild, abuildGo, cellsOf, splice, fieldTy, alen, apick, amax, amin, aload, headV, aparts, abuildSlice, elParts, abytesStr, astore, amake, aappend, aclear, anew, arith, aresults, aresList, ares, spec0, spec1, spec2, spec3, spec4, eqCells, eqCell, h1]
  refine loop_rule (C := CE) sigCE mixCE (fun q : Nat => ⟨[(0, Enc.enc a), (1, Enc.enc b), (5, .int .i64 q)], []⟩) (fun q => q ≤ a.length ∧ ∀ j, j < q → ix a j = ix b j) (fun q => a.length - q) (by kernel_rfl) ⟨0, ⟨by simp, fun j hj => by simp at hj⟩, weak_eq (by simp) rfl⟩ (fun k ⟨hk, hv⟩ => ?_)
  by_cases hlt : k < a.length
  · have hltb : k < b.length := by omega
    have i1 : I64 ((k : Int) + 1) := by unfold I64; omega
    by_cases h2 : (ix a k).N = (ix b k).N
    case neg =>
      have no : ¬ a = b := fun h => h2 (by rw [h])
      have hr0 : r = false := by rw [← hr]; exact decide_eq_false no
      simp [aev, cav, look, acallPure, abin, abinN, abinP, abinI, abinS, aun, aconv, afield, afieldAddr, aindexAddr, aindex, aslice, alow, ahigh, abuild, abuildGo, cellsOf, splice, fieldTy, alen, apick, amax, amin, aload, headV, aparts, abuildSlice, elParts, abytesStr, astore, amake, aappend, aclear, anew, arith, aresults, aresList, ares, spec0, spec1, spec2, spec3, spec4, eqCells, eqCell, hlt, rowAt_enc hlt, hltb, rowAt_enc hltb, h2, hr0]
    by_cases h3 : (ix a k).D = (ix b k).D
    case neg =>
      have no : ¬ a = b := fun h => h3 (by rw [h])
      have hr0 : r = false := by rw [← hr]; exact decide_eq_false no
      simp [aev, cav, look, acallPure, abin, abinN, abinP, abinI, abinS, aun, aconv, afield, afieldAddr, aindexAddr, aindex, aslice, alow, ahigh, abuild, abuildGo, cellsOf, splice, fieldTy, alen, apick, amax, amin, aload, headV, aparts, abuildSlice, elParts, abytesStr, astore, amake, aappend, aclear, anew, arith, aresults, aresList, ares, spec0, spec1, spec2, spec3, spec4, eqCells, eqCell, hlt, rowAt_enc hlt, hltb, rowAt_enc hltb, h2, h3, hr0]
    simp [aev, cav, look, acallPure, abin, abinN, abinP, abinI, abinS, aun, aconv, afield, afieldAddr, aindexAddr, aindex, aslice, alow, ahigh, abuild, abuildGo, cellsOf, splice, fieldTy, alen, apick, amax, amin, aload, headV, aparts, abuildSlice, elParts, abytesStr, astore, amake, aappend, aclear, anew, arith, aresults, aresList, ares, spec0, spec1, spec2, spec3, spec4, eqCells, eqCell, hlt, rowAt_enc hlt, hltb, rowAt_enc hltb, h2, h3, i1]
    exact ⟨k + 1, ⟨by omega, fun j hj => by
      rcases Nat.lt_or_eq_of_le (Nat.le_of_lt_succ hj) with h | h
      · exact hv j h
      · subst h; exact fr_eq.2 ⟨h2, h3⟩⟩, by omega, weak_eq (by simp) rfl⟩
  · have yes : a = b := list_eq_upto h1 hv (by omega)
    have hr1 : r = true := by rw [← hr]; exact decide_eq_true yes
    simp [aev, cav, look, acallPure, abin, abinN, abinP, abinI, abinS, aun, aconv, afield, afieldAddr, aindexAddr, aindex, aslice, alow, ahigh, abuild, abuildGo, cellsOf, splice, fieldTy, alen, apick, amax, amin, aload, headV, aparts, abuildSlice, elParts, abytesStr, astore, amake, aappend, aclear, anew, arith, aresults, aresList, ares, spec0, spec1, spec2, spec3, spec4, eqCells, eqCell, hlt, hr1]
def LinEq (a b : Lin) : Prop := a.A = b.A ∧ a.B = b.B ∧ a.C = b.C
instance (a b : Lin) : Decidable (LinEq a b) := inferInstanceAs (Decidable (_ ∧ _))
def sSameL : List AV → Option (Prop × AV) := spec2 (fun (a _ : Lin) => SmallL a) (fun a b => .bool (decide (LinEq a b)))
noncomputable def CFs : Ctx := mkC Tryd.prog G0 [(22, .pure sFracs)]
@[simp] theorem CFs_P : CFs.P = Tryd.prog := rfl
@[simp] theorem CFs_G : CFs.G = G0 := rfl
@[simp] theorem CFs_1 : CFs.S 22 = .pure sFracs := rfl
theorem mixCFs : CFs.P.follows .mixedOrders = true := mixed
theorem sigCFs : SigOK CFs := sigOK_cons (entryPure (fracsR) Tryd.func22 rfl (by decide)) (sigOK_nil _ _)
set_option maxHeartbeats 4000000 in
theorem sameR : PureOK Tryd.prog G0 19 sSameL := by
  refine pure2 (C := CFs) sigCFs mixCFs Tryd.func19 rfl rfl rfl (by kernel_rfl) (by decide) (fun a b hs => ?_)
  have sa := hs.a
  have sb := hs.b
  have sc := hs.c
  by_cases h1 : a.A.length = b.A.length
  case neg =>
    have h1' : ¬ (a.A.length : Int) = b.A.length := by omega
    have no : ¬ LinEq a b := fun h => h1 (by rw [h.1])
    simp [aev, cav, look, acallPure, abin, abinN, abinP, abinI, abinS, aun, aconv, afield, afieldAddr, aindexAddr, aindex, aslice, alow, ahigh, abuild, abuildGo, cellsOf, splice, fieldTy, alen, apick, amax, amin, aload, headV, aparts, abuildSlice, elParts, abytesStr, astore, amake, aappend, aclear, anew, arith, aresults, aresList, ares, spec0, spec1, spec2, spec3, spec4, eqCells, eqCell, h1', no]
  obtain ⟨r, hr⟩ : ∃ r, decide (LinEq a b) = r := ⟨_, rfl⟩
  rw [hr]
  simp [aev, cav, look, acallPure, abin, abinN, abinP, abinI, abinS, aun, aconv, afield, afieldAddr, aindexAddr, aindex, aslice, alow, ahigh, abuild, abuildGo, cellsOf, splice, fieldTy, alen, apick, amax, amin, aload, headV, aparts, abuildSlice, elParts, abytesStr, astore, amake, aappend, aclear, anew, arith, aresults, aresList, ares, spec0, spec1, spec2, spec3, spec4, eqCells, eqCell, h1]
  refine loop_rule (C := CFs) sigCFs mixCFs (fun q : Nat => ⟨[(2, .ptr 0 1 3 0 0), (3, .ptr 1 1 3 0 0), (5, .int .i64 q)], [CB a, CB b]⟩) (fun q => q ≤ a.A.length ∧ ∀ j, j < q → ix a.A j = ix b.A j) (fun q => a.A.length - q) (by kernel_rfl) ⟨0, ⟨by simp, fun j hj => by simp at hj⟩, weak_eq (by simp) (by simp [CB])⟩ (fun k ⟨hk, hv⟩ => ?_)
  by_cases hlt : k < a.A.length
  · have hltb : k < b.A.length := by omega
    have i1 : I64 ((k : Int) + 1) := by unfold I64; omega
    have sr := hs.r _ (ix_mem hlt)
    by_cases h2 : ix a.A k = ix b.A k
    case neg =>
      have no : ¬ LinEq a b := fun h => h2 (by rw [h.1])
      have hr0 : r = false := by rw [← hr]; exact decide_eq_false no
      simp [aev, cav, look, acallPure, abin, abinN, abinP, abinI, abinS, aun, aconv, afield, afieldAddr, aindexAddr, aindex, aslice, alow, ahigh, abuild, abuildGo, cellsOf, splice, fieldTy, alen, apick, amax, amin, aload, headV, aparts, abuildSlice, elParts, abytesStr, astore, amake, aappend, aclear, anew, arith, aresults, aresList, ares, spec0, spec1, spec2, spec3, spec4, eqCells, eqCell, CB, sFracs, hlt, rowAt_enc hlt, hltb, rowAt_enc hltb, sr, h2, hr0]
    have h2' : (ix a.A k = ix b.A k) = True := eq_true h2
    simp [aev, cav, look, acallPure, abin, abinN, abinP, abinI, abinS, aun, aconv, afield, afieldAddr, aindexAddr, aindex, aslice, alow, ahigh, abuild, abuildGo, cellsOf, splice, fieldTy, alen, apick, amax, amin, aload, headV, aparts, abuildSlice, elParts, abytesStr, astore, amake, aappend, aclear, anew, arith, aresults, aresList, ares, spec0, spec1, spec2, spec3, spec4, eqCells, eqCell, CB, sFracs, hlt, rowAt_enc hlt, hltb, rowAt_enc hltb, sr, h2', i1]
    exact ⟨k + 1, ⟨by omega, fun j hj => by
      rcases Nat.lt_or_eq_of_le (Nat.le_of_lt_succ hj) with h | h
      · exact hv j h
      · subst h; exact h2⟩, by omega, weak_eq (by simp) (by simp [CB])⟩
  · have yes : a.A = b.A := list_eq_upto h1 hv (by omega)
    rcases em2 (a.B = b.B) with h3 | h3
    · rcases em2 (a.C = b.C) with h4 | h4
      · have hr1 : r = true := by rw [← hr]; exact decide_eq_true ⟨yes, of_eq_true h3, of_eq_true h4⟩
        simp [aev, cav, look, acallPure, abin, abinN, abinP, abinI, abinS, aun, aconv, afield, afieldAddr, aindexAddr, aindex, aslice, alow, ahigh, abuild, abuildGo, cellsOf, splice, fieldTy, alen, apick, amax, amin, aload, headV, aparts, abuildSlice, elParts, abytesStr, astore, amake, aappend, aclear, anew, arith, aresults, aresList, ares, spec0, spec1, spec2, spec3, spec4, eqCells, eqCell, CB, sFracs, hlt, sb, sc, h3, h4, hr1]
      · have hr1 : r = false := by rw [← hr]; exact decide_eq_false fun h => of_eq_false h4 h.2.2
        simp [aev, cav, look, acallPure, abin, abinN, abinP, abinI, abinS, aun, aconv, afield, afieldAddr, aindexAddr, aindex, aslice, alow, ahigh, abuild, abuildGo, cellsOf, splice, fieldTy, alen, apick, amax, amin, aload, headV, aparts, abuildSlice, elParts, abytesStr, astore, amake, aappend, aclear, anew, arith, aresults, aresList, ares, spec0, spec1, spec2, spec3, spec4, eqCells, eqCell, CB, sFracs, hlt, sb, sc, h3, h4, hr1]
    · have hr1 : r = false := by rw [← hr]; exact decide_eq_false fun h => of_eq_false h3 h.2.1
      simp [aev, cav, look, acallPure, abin, abinN, abinP, abinI, abinS, aun, aconv, afield, afieldAddr, aindexAddr, aindex, aslice, alow, ahigh, abuild, abuildGo, cellsOf, splice, fieldTy, alen, apick, amax, amin, aload, headV, aparts, abuildSlice, elParts, abytesStr, astore, amake, aappend, aclear, anew, arith, aresults, aresList, ares, spec0, spec1, spec2, spec3, spec4, eqCells, eqCell, CB, sFracs, hlt, sb, sc, h3, hr1]

def FewL (l : Lin) : Prop := l.A.length ≤ 30 ∧ l.B.length ≤ 30 ∧ l.C.length ≤ 30 ∧ ∀ r ∈ l.A, r.length ≤ 30
instance (l : Lin) : Decidable (FewL l) := inferInstanceAs (Decidable (_ ∧ _ ∧ _ ∧ _))
theorem few_small {l : Lin} (h : FewL l) : SmallL l := ⟨by have := h.1; omega, by have := h.2.1; omega, by have := h.2.2.1; omega, fun r hr => by have := h.2.2.2 r hr; omega⟩
def sFew : List AV → Option (Prop × AV) := spec1 (fun (_ : Lin) => True) (fun l => .bool (decide (FewL l)))
set_option maxHeartbeats 4000000 in
theorem fewP : PureOK Tryd.prog G0 9 sFew := by
  refine pure1 (C := CE) sigCE mixCE Tryd.func9 rfl rfl rfl (by kernel_rfl) (by decide) (fun l _ => ?_)
  obtain ⟨r, hr⟩ : ∃ r, decide (FewL l) = r := ⟨_, rfl⟩
  rw [hr]
  by_cases h1 : 30 < l.A.length
  · have h1' : (30 : Int) < l.A.length := by omega
    have hr0 : r = false := by rw [← hr]; exact decide_eq_false fun h => by have := h.1; omega
    simp [aev, cav, look, acallPure, abin, abinN, abinP, abinI, abinS, aun, aconv, afield, afieldAddr, aindexAddr, aindex, aslice, alow, ahigh, abuild, abuildGo, cellsOf, splice, fieldTy, alen, apick, amax, amin, aload, headV, aparts, abuildSlice, elParts, abytesStr, astore, amake, aappend, aclear, anew, arith, aresults, aresList, ares, spec0, spec1, spec2, spec3, spec4, eqCells, eqCell, h1', hr0]
  have h1' : ¬ (30 : Int) < l.A.length := by omega
  by_cases h2 : 30 < l.B.length
  · have h2' : (30 : Int) < l.B.length := by omega
    have hr0 : r = false := by rw [← hr]; exact decide_eq_false fun h => by have := h.2.1; omega
    simp [aev, cav, look, acallPure, abin, abinN, abinP, abinI, abinS, aun, aconv, afield, afieldAddr, aindexAddr, aindex, aslice, alow, ahigh, abuild, abuildGo, cellsOf, splice, fieldTy, alen, apick, amax, amin, aload, headV, aparts, abuildSlice, elParts, abytesStr, astore, amake, aappend, aclear, anew, arith, aresults, aresList, ares, spec0, spec1, spec2, spec3, spec4, eqCells, eqCell, h1', h2', hr0]
  have h2' : ¬ (30 : Int) < l.B.length := by omega
  by_cases h3 : 30 < l.C.length
  · have h3' : (30 : Int) < l.C.length := by omega
    have hr0 : r = false := by rw [← hr]; exact decide_eq_false fun h => by have := h.2.2.1; omega
    simp [aev, cav, look, acallPure, abin, abinN, abinP, abinI, abinS, aun, aconv, afield, afieldAddr, aindexAddr, aindex, aslice, alow, ahigh, abuild, abuildGo, cellsOf, splice, fieldTy, alen, apick, amax, amin, aload, headV, aparts, abuildSlice, elParts, abytesStr, astore, amake, aappend, aclear, anew, arith, aresults, aresList, ares, spec0, spec1, spec2, spec3, spec4, eqCells, eqCell, h1', h2', h3', hr0]
  have h3' : ¬ (30 : Int) < l.C.length := by omega
  simp [aev, cav, look, acallPure, abin, abinN, abinP, abinI, abinS, aun, aconv, afield, afieldAddr, aindexAddr, aindex, aslice, alow, ahigh, abuild, abuildGo, cellsOf, splice, fieldTy, alen, apick, amax, amin, aload, headV, aparts, abuildSlice, elParts, abytesStr, astore, amake, aappend, aclear, anew, arith, aresults, aresList, ares, spec0, spec1, spec2, spec3, spec4, eqCells, eqCell, h1', h2', h3']
  refine loop_rule (C := CE) sigCE mixCE (fun q : Nat => ⟨[(1, .ptr 0 1 3 0 0), (3, .int .i64 q)], [CB l]⟩) (fun q => q ≤ l.A.length ∧ ∀ j, j < q → (ix l.A j).length ≤ 30) (fun q => l.A.length - q) (by kernel_rfl) ⟨0, ⟨by simp, fun j hj => by simp at hj⟩, weak_eq (by simp) (by simp [CB])⟩ (fun k ⟨hk, hv⟩ => ?_)
  by_cases hlt : k < l.A.length
  · have i1 : I64 ((k : Int) + 1) := by unfold I64; omega
    by_cases h4 : 30 < (ix l.A k).length
    · have h4' : (30 : Int) < (ix l.A k).length := by omega
      have hr0 : r = false := by rw [← hr]; exact decide_eq_false fun h => by have := h.2.2.2 _ (ix_mem hlt); omega
      simp [aev, cav, look, acallPure, abin, abinN, abinP, abinI, abinS, aun, aconv, afield, afieldAddr, aindexAddr, aindex, aslice, alow, ahigh, abuild, abuildGo, cellsOf, splice, fieldTy, alen, apick, amax, amin, aload, headV, aparts, abuildSlice, elParts, abytesStr, astore, amake, aappend, aclear, anew, arith, aresults, aresList, ares, spec0, spec1, spec2, spec3, spec4, eqCells, eqCell, CB, hlt, rowAt_enc hlt, h4', hr0]
    · have h4' : ¬ (30 : Int) < (ix l.A k).length := by omega
      simp [aev, cav, look, acallPure, abin, abinN, abinP, abinI, abinS, aun, aconv, afield, afieldAddr, aindexAddr, aindex, aslice, alow, ahigh, abuild, abuildGo, cellsOf, splice, fieldTy, alen, apick, amax, amin, aload, headV, aparts, abuildSlice, elParts, abytesStr, astore, amake, aappend, aclear, anew, arith, aresults, aresList, ares, spec0, spec1, spec2, spec3, spec4, eqCells, eqCell, CB, hlt, rowAt_enc hlt, h4', i1]
      exact ⟨k + 1, ⟨by omega, fun j hj => by
        rcases Nat.lt_or_eq_of_le (Nat.le_of_lt_succ hj) with h | h
        · exact hv j h
        · subst h; omega⟩, by omega, weak_eq (by simp) (by simp [CB])⟩
  · have hr1 : r = true := by
      rw [← hr]
      refine decide_eq_true ⟨by omega, by omega, by omega, fun f hf => ?_⟩
      obtain ⟨j, hj, rfl⟩ := List.getElem_of_mem hf
      have := hv j (by omega)
      rwa [ix_lt hj] at this
    simp [aev, cav, look, acallPure, abin, abinN, abinP, abinI, abinS, aun, aconv, afield, afieldAddr, aindexAddr, aindex, aslice, alow, ahigh, abuild, abuildGo, cellsOf, splice, fieldTy, alen, apick, amax, amin, aload, headV, aparts, abuildSlice, elParts, abytesStr, astore, amake, aappend, aclear, anew, arith, aresults, aresList, ares, spec0, spec1, spec2, spec3, spec4, eqCells, eqCell, CB, hlt, hr1]
def sWhole : List AV → Option (Prop × AV) := spec1 (fun (_ : Int) => True) (fun n => Enc.enc (⟨n, 1⟩ : Fr))
theorem wholeP : PureOK Tryd.prog G0 25 sWhole := by
  refine pure1 (C := CE) sigCE mixCE Tryd.func25 rfl rfl rfl (by kernel_rfl) (by decide) (fun n _ => ?_)
  simp [aev, cav, look, acallPure, abin, abinN, abinP, abinI, abinS, aun, aconv, afield, afieldAddr, aindexAddr, aindex, aslice, alow, ahigh, abuild, abuildGo, cellsOf, splice, fieldTy, alen, apick, amax, amin, aload, headV, aparts, abuildSlice, elParts, abytesStr, astore, amake, aappend, aclear, anew, arith, aresults, aresList, ares, spec0, spec1, spec2, spec3, spec4, eqCells, eqCell]
def triL : Lin := ⟨[[F11, F11, F01], [F01, F11, F11], [F11, F01, F11]], [F11, F11, F11], [F11, F11, F11]⟩
noncomputable def CTr : Ctx := mkC Tryd.prog G0 [(25, .pure sWhole)]
@[simp] theorem CTr_P : CTr.P = Tryd.prog := rfl
@[simp] theorem CTr_G : CTr.G = G0 := rfl
@[simp] theorem CTr_1 : CTr.S 25 = .pure sWhole := rfl
theorem mixCTr : CTr.P.follows .mixedOrders = true := mixed
theorem sigCTr : SigOK CTr := sigOK_cons (entryPure (wholeP) Tryd.func25 rfl (by decide)) (sigOK_nil _ _)
theorem triP : PureOK Tryd.prog G0 27 (spec0 (Enc.enc triL)) := by
  refine pure0 (C := CTr) sigCTr mixCTr Tryd.func27 rfl rfl rfl (by kernel_rfl) ?_
  have s22 : isScalT CTr 22 = false := by show isScalT ⟨Tryd.prog, fun _ => .no, G0⟩ 22 = false; kernel_rfl
  have s23 : isScalT CTr 23 = true := by show isScalT ⟨Tryd.prog, fun _ => .no, G0⟩ 23 = true; kernel_rfl
  simp [aev, cav, look, acallPure, abin, abinN, abinP, abinI, abinS, aun, aconv, afield, afieldAddr, aindexAddr, aindex, aslice, alow, ahigh, abuild, abuildGo, cellsOf, splice, fieldTy, alen, apick, amax, amin, aload, headV, aparts, abuildSlice, elParts, abytesStr, astore, amake, aappend, aclear, anew, arith, aresults, aresList, ares, spec0, spec1, spec2, spec3, spec4, eqCells, eqCell, sWhole, s22, s23, triL, F11, F01, abuildSlice, aparts]
end Go.Proofs.YtifbaegnkodneaaDoor

/-
  layer 30: the tableau, in plain words, and how it lies in the call's blocks.
-/
namespace Go.Proofs.YtifbaegnkodneaaDoor
open Go.RowKit
set_option linter.unusedSimpArgs false
set_option linter.unusedVariables false
set_option maxRecDepth 100000

structure Tab where
  n : Nat
  m : Nat
  rows : List (List Fr)
  cost : List Fr
  basis : List Int
  over : Bool
def Tab.w (t : Tab) : Nat := t.n + t.m
/-- a minus f times b; none: too great. -/
def mnO (a f b : Fr) : Option Fr := match mulO f b with
  | some p => subO a p
  | none => none
def mnP (a f b : Fr) : Fr × Bool := match mnO a f b with
  | some d => (d, false)
  | none => (F01, true)
def dvP (a p : Fr) : Fr × Bool := match divO a p with
  | some q => (q, false)
  | none => (F01, true)
/-- The first k elements new. -/
def mixF (k : Nat) (g : Nat → Fr) (row : List Fr) : List Fr := (List.range row.length).map fun j => if j < k then g j else ix row j
def anyK (k : Nat) (g : Nat → Bool) : Bool := (List.range k).any g
theorem anyK_succ (k : Nat) (g : Nat → Bool) : anyK (k + 1) g = (anyK k g || g k) := by unfold anyK; rw [List.range_succ, List.any_append]; simp
theorem anyK_zero (g : Nat → Bool) : anyK 0 g = false := rfl
theorem mixF_len (k : Nat) (g : Nat → Fr) (row : List Fr) : (mixF k g row).length = row.length := by unfold mixF; simp
theorem mixF_ix {k j : Nat} {g : Nat → Fr} {row : List Fr} (h : j < row.length) : ix (mixF k g row) j = if j < k then g j else ix row j := by
  rw [ix_lt (by rw [mixF_len]; exact h)]
  unfold mixF
  rw [List.getElem_map, List.getElem_range]
theorem mixF_zero (g : Nat → Fr) (row : List Fr) : mixF 0 g row = row := by
  refine List.ext_getElem (mixF_len _ _ _) fun j h1 h2 => ?_
  have := mixF_ix (k := 0) (g := g) h2
  rw [ix_lt h1, if_neg (Nat.not_lt_zero j), ix_lt h2] at this
  exact this
theorem mixF_set {k : Nat} {g : Nat → Fr} {row : List Fr} {v : Fr} (hv : v = g k) (h : k < row.length) : (mixF k g row).set k v = mixF (k + 1) g row := by
  refine List.ext_getElem (by rw [List.length_set, mixF_len, mixF_len]) fun j h1 h2 => ?_
  rw [mixF_len] at h2
  have e1 := mixF_ix (k := k) (g := g) h2
  have e2 := mixF_ix (k := k + 1) (g := g) h2
  rw [ix_lt (by rw [mixF_len]; exact h2)] at e1 e2
  rw [List.getElem_set, e1, e2]
  by_cases hjk : k = j
  · subst hjk
    rw [if_pos rfl, if_pos (Nat.lt_succ_self k)]
    exact hv
  · rw [if_neg hjk]
    by_cases hj : j < k
    · rw [if_pos hj, if_pos (by omega)]
    · rw [if_neg hj, if_neg (by omega)]
def clrR (row : List Fr) (f : Fr) (by_ : List Fr) : List Fr := mixF row.length (fun j => (mnP (ix row j) f (ix by_ j)).1) row
def clrB (row : List Fr) (f : Fr) (by_ : List Fr) : Bool := anyK row.length fun j => (mnP (ix row j) f (ix by_ j)).2
def dvR (row : List Fr) (p : Fr) : List Fr := mixF row.length (fun j => (dvP (ix row j) p).1) row
def dvB (row : List Fr) (p : Fr) : Bool := anyK row.length fun j => (dvP (ix row j) p).2
theorem clrR_len (row : List Fr) (f : Fr) (b : List Fr) : (clrR row f b).length = row.length := mixF_len _ _ _
theorem dvR_len (row : List Fr) (p : Fr) : (dvR row p).length = row.length := mixF_len _ _ _

/-! ### Where it lies -/
structure Lay where
  p : Nat
  q : Nat
  c : Option Nat
  r : List Nat
def cC (c : Option Nat) (n : Nat) : AV := match c with
  | none => .slice 2 true []
  | some c => .own c n
def setC (c : Option Nat) (b : List Fr) (H : List Blk) : List Blk := match c with
  | none => H
  | some c => H.set c (R2B b)
def tC (L : Lay) (t : Tab) : List AV := [.int .i64 t.n, .int .i64 t.m, .own L.q L.r.length, cC L.c t.cost.length] ++ t.basis.map (.int .i64 ·) ++ [.bool t.over]
def tB (L : Lay) (t : Tab) : Blk := ⟨54, 29, [tC L t], true, false⟩
def qB (L : Lay) (N : Nat) : Blk := ⟨23, 1, L.r.map fun l => [.own l N], true, false⟩
def setR : List Nat → List (List Fr) → List Blk → List Blk
  | l :: ls, r :: rs, H => (setR ls rs H).set l (R2B r)
  | _, _, H => H
def putT (L : Lay) (t : Tab) (K : List Blk) : List Blk := setR L.r t.rows (setC L.c t.cost ((K.set L.p (tB L t)).set L.q (qB L (t.w + 1))))
structure Lens (L : Lay) (K : List Blk) : Prop where
  p : L.p < K.length
  q : L.q < K.length
  c : ∀ c, L.c = some c → c < K.length
  r : ∀ l ∈ L.r, l < K.length
  pq : L.p ≠ L.q
  pc : L.c ≠ some L.p
  qc : L.c ≠ some L.q
  pr : L.p ∉ L.r
  qr : L.q ∉ L.r
  cr : ∀ c, L.c = some c → c ∉ L.r
  nd : L.r.Nodup
  cl : ∀ b ∈ K, b.deep = true ∨ ∀ r ∈ b.rows, ∀ c ∈ r, c.cleanF K.length = true
structure Shape (L : Lay) (t : Tab) : Prop where
  m : t.rows.length = t.m
  r : L.r.length = t.m
  n1 : 1 ≤ t.n
  n12 : t.n ≤ 12
  m24 : t.m ≤ 24
  row : ∀ r ∈ t.rows, r.length = t.w + 1
  cost : (L.c = none ∧ t.cost = []) ∨ ((∃ c, L.c = some c) ∧ t.cost.length = t.w + 1)
  bas : t.basis.length = 24
  b64 : ∀ b ∈ t.basis, 0 ≤ b ∧ b ≤ 1000
/-- The same while the rows are laid. -/
structure Shape0 (L : Lay) (t : Tab) : Prop where
  m : t.rows.length = L.r.length
  r : L.r.length ≤ t.m
  n1 : 1 ≤ t.n
  n12 : t.n ≤ 12
  m24 : t.m ≤ 24
  row : ∀ r ∈ t.rows, r.length = t.w + 1
  cost : (L.c = none ∧ t.cost = []) ∨ ((∃ c, L.c = some c) ∧ t.cost.length = t.w + 1)
  bas : t.basis.length = 24
  b64 : ∀ b ∈ t.basis, 0 ≤ b ∧ b ≤ 1000
theorem Shape.to0 {L : Lay} {t : Tab} (s : Shape L t) : Shape0 L t := ⟨by rw [s.m, s.r], by rw [s.r]; exact Nat.le_refl _, s.n1, s.n12, s.m24, s.row, s.cost, s.bas, s.b64⟩
theorem Shape0.full {L : Lay} {t : Tab} (s : Shape0 L t) (h : L.r.length = t.m) : Shape L t := ⟨by rw [s.m, h], h, s.n1, s.n12, s.m24, s.row, s.cost, s.bas, s.b64⟩
theorem setR_len : ∀ (ls : List Nat) (rs : List (List Fr)) (H : List Blk), (setR ls rs H).length = H.length
  | [], _, _ => rfl
  | _ :: _, [], _ => rfl
  | l :: ls, r :: rs, H => by rw [setR, List.length_set, setR_len]
theorem setR_out : ∀ {ls : List Nat} {rs : List (List Fr)} {H : List Blk} {k : Nat}, k ∉ ls → (setR ls rs H)[k]? = H[k]?
  | [], _, _, _, _ => rfl
  | _ :: _, [], _, _, _ => rfl
  | l :: ls, r :: rs, H, k, h => by
    rw [setR, List.getElem?_set_ne (fun e => h (by rw [← e]; exact List.mem_cons_self)), setR_out (fun e => h (List.mem_cons_of_mem _ e))]
theorem setR_in : ∀ {ls : List Nat} {rs : List (List Fr)} {H : List Blk} {i : Nat}, ls.Nodup → ls.length = rs.length → (∀ l ∈ ls, l < H.length) → i < ls.length → (setR ls rs H)[ix ls i]? = some (R2B (ix rs i))
  | [], _, _, _, _, _, _, h => by simp at h
  | _ :: _, [], _, _, _, h, _, _ => by simp at h
  | l :: ls, r :: rs, H, 0, hn, hl, hb, hi => by
    show (setR (l :: ls) (r :: rs) H)[l]? = some (R2B r)
    rw [setR, List.getElem?_set_self (by rw [setR_len]; exact hb l List.mem_cons_self)]
  | l :: ls, r :: rs, H, i + 1, hn, hl, hb, hi => by
    have hi' : i < ls.length := by simpa using hi
    have e1 : ix (l :: ls) (i + 1) = ix ls i := rfl
    have e2 : ix (r :: rs) (i + 1) = ix rs i := rfl
    rw [e1, e2, setR, List.getElem?_set_ne (fun e => (List.nodup_cons.1 hn).1 (by rw [e]; exact ix_mem hi'))]
    exact setR_in (List.nodup_cons.1 hn).2 (by simpa using hl) (fun l hl => hb l (List.mem_cons_of_mem _ hl)) hi'
theorem setR_app : ∀ {ls : List Nat} {rs : List (List Fr)} {H X : List Blk}, (∀ l ∈ ls, l < H.length) → setR ls rs (H ++ X) = setR ls rs H ++ X
  | [], _, _, _, _ => rfl
  | _ :: _, [], _, _, _ => rfl
  | l :: ls, r :: rs, H, X, h => by
    rw [setR, setR_app (fun l hl => h l (List.mem_cons_of_mem _ hl)), List.set_append_left _ _ (by rw [setR_len]; exact h l List.mem_cons_self), setR]
theorem setR_comm : ∀ {ls : List Nat} {rs : List (List Fr)} {H : List Blk} {k : Nat} {b : Blk}, k ∉ ls → setR ls rs (H.set k b) = (setR ls rs H).set k b
  | [], _, _, _, _, _ => rfl
  | _ :: _, [], _, _, _, _ => rfl
  | l :: ls, r :: rs, H, k, b, h => by
    rw [setR, setR, setR_comm (fun e => h (List.mem_cons_of_mem _ e)), List.set_comm _ _ (fun e => h (by rw [e]; exact List.mem_cons_self))]
theorem setR_set : ∀ {ls : List Nat} {rs : List (List Fr)} {H : List Blk} {i : Nat} {x : List Fr}, ls.Nodup → ls.length = rs.length → i < ls.length → (setR ls rs H).set (ix ls i) (R2B x) = setR ls (rs.set i x) H
  | [], _, _, _, _, _, _, h => by simp at h
  | _ :: _, [], _, _, _, _, h, _ => by simp at h
  | l :: ls, r :: rs, H, 0, x, hn, hl, hi => by
    show (setR (l :: ls) (r :: rs) H).set l (R2B x) = setR (l :: ls) (x :: rs) H
    rw [setR, setR, List.set_set]
  | l :: ls, r :: rs, H, i + 1, x, hn, hl, hi => by
    have hi' : i < ls.length := by simpa using hi
    have e1 : ix (l :: ls) (i + 1) = ix ls i := rfl
    rw [e1, List.set_cons_succ, setR, setR, List.set_comm _ _ (fun e => (List.nodup_cons.1 hn).1 (by rw [e]; exact ix_mem hi')), setR_set (List.nodup_cons.1 hn).2 (by simpa using hl) hi']
theorem setR_twice : ∀ {ls : List Nat} {rs rs' : List (List Fr)} {H : List Blk}, ls.Nodup → rs.length = ls.length → rs'.length = ls.length → setR ls rs (setR ls rs' H) = setR ls rs H
  | [], _, _, _, _, _, _ => rfl
  | l :: ls, [], _, _, _, h, _ => by simp at h
  | l :: ls, r :: rs, [], _, _, _, h => by simp at h
  | l :: ls, r :: rs, r' :: rs', H, hn, h1, h2 => by
    rw [setR, setR, setR, setR_comm (List.nodup_cons.1 hn).1, setR_twice (List.nodup_cons.1 hn).2 (by simpa using h1) (by simpa using h2), List.set_set]

theorem setC_len (c : Option Nat) (b : List Fr) (H : List Blk) : (setC c b H).length = H.length := by cases c <;> simp [setC]
theorem setC_out {c : Option Nat} {b : List Fr} {H : List Blk} {k : Nat} (h : c ≠ some k) : (setC c b H)[k]? = H[k]? := by
  cases c with
  | none => rfl
  | some c => exact List.getElem?_set_ne (fun e => h (by rw [e]))
theorem setC_comm {c : Option Nat} {b : List Fr} {H : List Blk} {k : Nat} (h : c ≠ some k) (x : Blk) : setC c b (H.set k x) = (setC c b H).set k x := by
  cases c with
  | none => rfl
  | some c => exact List.set_comm _ _ (fun e => h (by rw [e]))
theorem setC_twice (c : Option Nat) (b b' : List Fr) (H : List Blk) : setC c b (setC c b' H) = setC c b H := by
  cases c with
  | none => rfl
  | some c => exact List.set_set ..
theorem setC_app {c : Option Nat} {b : List Fr} {H X : List Blk} (h : ∀ k, c = some k → k < H.length) : setC c b (H ++ X) = setC c b H ++ X := by
  cases c with
  | none => rfl
  | some c => exact List.set_append_left _ _ (h c rfl)
theorem setC_mem {c : Option Nat} {b : List Fr} {H : List Blk} {x : Blk} (h : x ∈ setC c b H) : x ∈ H ∨ x.deep = true := by
  cases c with
  | none => exact .inl h
  | some c => exact (List.mem_or_eq_of_mem_set h).imp id (fun e => by rw [e]; rfl)
theorem setR_setC : ∀ {ls : List Nat} {rs : List (List Fr)} {H : List Blk} {c : Option Nat} {b : List Fr}, (∀ k, c = some k → k ∉ ls) → setR ls rs (setC c b H) = setC c b (setR ls rs H)
  | ls, rs, H, none, b, h => rfl
  | ls, rs, H, some c, b, h => setR_comm (h c rfl)

section
variable {L : Lay} {K X : List Blk} {t t' : Tab}
theorem put_len (L : Lay) (t : Tab) (K : List Blk) : (putT L t K).length = K.length := by unfold putT; rw [setR_len, setC_len, List.length_set, List.length_set]
theorem put_p (h : Lens L K) (t : Tab) : (putT L t K)[L.p]? = some (tB L t) := by
  unfold putT
  rw [setR_out h.pr, setC_out h.pc, List.getElem?_set_ne h.pq.symm, List.getElem?_set_self h.p]
theorem put_q (h : Lens L K) (t : Tab) : (putT L t K)[L.q]? = some (qB L (t.w + 1)) := by
  unfold putT
  rw [setR_out h.qr, setC_out h.qc, List.getElem?_set_self (by rw [List.length_set]; exact h.q)]
theorem put_c (h : Lens L K) (t : Tab) {c : Nat} (hc : L.c = some c) : (putT L t K)[c]? = some (R2B t.cost) := by
  unfold putT
  rw [setR_out (h.cr c hc), hc]
  exact List.getElem?_set_self (by rw [List.length_set, List.length_set]; exact h.c c hc)
theorem put_r (h : Lens L K) (s : L.r.length = t.rows.length) {i : Nat} (hi : i < L.r.length) : (putT L t K)[ix L.r i]? = some (R2B (ix t.rows i)) := by
  unfold putT
  exact setR_in h.nd s (fun l hl => by rw [setC_len, List.length_set, List.length_set]; exact h.r l hl) hi
theorem put_set_p (h : Lens L K) (hr : t'.rows = t.rows) (hc : t'.cost = t.cost) (hw : t'.w = t.w) : (putT L t K).set L.p (tB L t') = putT L t' K := by
  unfold putT
  rw [← setR_comm h.pr, ← setC_comm h.pc, List.set_comm _ _ h.pq.symm, List.set_set, hr, hc, hw]
theorem put_set_r (h : Lens L K) (s : L.r.length = t.rows.length) {i : Nat} (hi : i < L.r.length) (x : List Fr) : (putT L t K).set (ix L.r i) (R2B x) = putT L { t with rows := t.rows.set i x } K := by
  unfold putT
  rw [setR_set h.nd s hi]
  rfl
theorem put_set_c (h : Lens L K) {c : Nat} (hc : L.c = some c) (x : List Fr) (hx : x.length = t.cost.length) : (putT L t K).set c (R2B x) = putT L { t with cost := x } K := by
  have this : tB L { t with cost := x } = tB L t := by unfold tB tC; simp [hx]
  unfold putT
  rw [← setR_comm (h.cr c hc), this, hc]
  show setR _ _ (List.set (List.set _ _ _) _ _) = _
  rw [List.set_set]
  rfl
theorem put_app (h : Lens L K) (t : Tab) (X : List Blk) : putT L t (K ++ X) = putT L t K ++ X := by
  unfold putT
  rw [List.set_append_left _ _ h.p, List.set_append_left _ _ (by rw [List.length_set]; exact h.q), setC_app (fun c hc => by rw [List.length_set, List.length_set]; exact h.c c hc), setR_app (fun l hl => by rw [setC_len, List.length_set, List.length_set]; exact h.r l hl)]
theorem put_put (h : Lens L K) (s : t.rows.length = L.r.length) (s' : t'.rows.length = L.r.length) : putT L t (putT L t' K) = putT L t K := by
  unfold putT
  rw [← setR_comm h.pr, ← setR_comm h.qr, ← setR_setC h.cr, setR_twice h.nd s s']
  congr 1
  rw [← setC_comm h.pc, ← setC_comm h.qc, setC_twice, List.set_comm _ _ h.pq.symm, List.set_set, List.set_set]
theorem setR_mem : ∀ {ls : List Nat} {rs : List (List Fr)} {H : List Blk} {b : Blk}, b ∈ setR ls rs H → b ∈ H ∨ b.deep = true
  | [], _, _, _, h => .inl h
  | _ :: _, [], _, _, h => .inl h
  | l :: ls, r :: rs, H, b, h => by
    rw [setR] at h
    rcases List.mem_or_eq_of_mem_set h with h | h
    · exact setR_mem h
    · rw [h]; exact .inr rfl
theorem put_clean (h : Lens L K) (t : Tab) : ∀ b ∈ putT L t K, b.deep = true ∨ ∀ r ∈ b.rows, ∀ c ∈ r, c.cleanF K.length = true := by
  intro b hb
  unfold putT at hb
  rcases setR_mem hb with hb | hb
  case inr => exact .inl hb
  rcases setC_mem hb with hb | hb
  case inr => exact .inl hb
  rcases List.mem_or_eq_of_mem_set hb with hb | hb
  case inr =>
    rw [hb]
    refine .inr fun r hr c hc => ?_
    simp only [qB] at hr
    obtain ⟨l, hl, rfl⟩ := List.mem_map.1 hr
    rw [List.mem_singleton] at hc
    subst hc
    have := h.r l hl
    simp [AV.cleanF, AV.clean2, AV.clean1, this]
  rcases List.mem_or_eq_of_mem_set hb with hb | hb
  case inr =>
    rw [hb]
    refine .inr fun r hr c hc => ?_
    simp only [tB, List.mem_singleton] at hr
    subst hr
    have hq := h.q
    have hcc := h.c
    unfold tC at hc
    simp only [List.mem_append, List.mem_cons, List.not_mem_nil, or_false, List.mem_map] at hc
    rcases hc with (((rfl | rfl | rfl | rfl) | ⟨b, _, rfl⟩) | rfl)
    case inl.inl.inr.inr.inr =>
      cases hcL : L.c with
      | none => simp [cC, AV.cleanF, AV.clean2, AV.clean1]
      | some c => simp [cC, AV.cleanF, AV.clean2, AV.clean1, hcc c hcL]
    all_goals simp [AV.cleanF, AV.clean2, AV.clean1, hq]
  exact h.cl b hb
end

/-! ### Contracts that change such a tableau -/
open Classical in
/-- Whatever fits: args, blocks; then a result and blocks. -/
noncomputable def anyG {Γ : Type} (a : Γ → List AV) (h : Γ → List Blk) (pre : Γ → Prop) (res : Γ → AV) (h' : Γ → List Blk) : List AV → List Blk → Option (Prop × AV × List Blk) := fun args H =>
  if hx : ∃ γ, pre γ ∧ a γ = args ∧ h γ = H then some (True, res hx.choose, h' hx.choose) else none
theorem anyG_at {Γ : Type} {a : Γ → List AV} {h : Γ → List Blk} {pre : Γ → Prop} {res : Γ → AV} {h' : Γ → List Blk} (inj : ∀ γ γ', pre γ → pre γ' → a γ = a γ' → h γ = h γ' → res γ = res γ' ∧ h' γ = h' γ') {γ : Γ} (hp : pre γ) : anyG a h pre res h' (a γ) (h γ) = some (True, res γ, h' γ) := by
  have hx : ∃ δ, pre δ ∧ a δ = a γ ∧ h δ = h γ := ⟨γ, hp, rfl, rfl⟩
  unfold anyG
  rw [dif_pos hx]
  obtain ⟨h1, h2, h3⟩ := hx.choose_spec
  obtain ⟨e1, e2⟩ := inj _ _ h1 hp h2 h3
  rw [e1, e2]
theorem anyG_inv {Γ : Type} {a : Γ → List AV} {h : Γ → List Blk} {pre : Γ → Prop} {res : Γ → AV} {h' : Γ → List Blk} {args : List AV} {H : List Blk} {ob : Prop} {r : AV} {H' : List Blk} (e : anyG a h pre res h' args H = some (ob, r, H')) : ∃ γ, pre γ ∧ a γ = args ∧ h γ = H ∧ res γ = r ∧ h' γ = H' := by
  unfold anyG at e
  split at e
  · rename_i hx
    injection e with e; injection e with e1 e2; injection e2 with e2 e3
    obtain ⟨h1, h2, h3⟩ := hx.choose_spec
    exact ⟨_, h1, h2, h3, e2, e3⟩
  · cases e
theorem encFr_inj {a b : List Fr} (h : R2B a = R2B b) : a = b := by
  unfold R2B at h
  injection h with h1 h2 h3
  have := congrArg (fun l => l.map (Enc.unc : List AV → Fr)) h3
  simpa [map_unc] using this
/-- What lies there, and where, can be read off. -/
theorem put_inj0 {L L' : Lay} {t t' : Tab} {K K' : List Blk} (h : Lens L K) (h' : Lens L' K') (s : Shape0 L t) (s' : Shape0 L' t') (hp : L.p = L'.p) (e : putT L t K = putT L' t' K') : L = L' ∧ t = t' ∧ ∀ u : Tab, u.rows.length = L.r.length → putT L u K = putT L' u K' := by
  have e1 := put_p h t
  rw [e, hp, put_p h' t'] at e1
  injection e1 with e1
  have e2 : tC L' t' = tC L t := by unfold tB at e1; injection e1 with _ _ e1; simpa using e1
  have hb : t'.basis.length = t.basis.length := by rw [s.bas, s'.bas]
  unfold tC at e2
  simp only [List.cons_append, List.nil_append, List.cons.injEq, AV.int.injEq, AV.own.injEq, true_and] at e2
  obtain ⟨f1, f2, ⟨f3, f4⟩, f56, f7⟩ := e2
  have f5 : L'.c = L.c := by
    cases h1 : L.c with
    | none =>
      cases h2 : L'.c with
      | none => rfl
      | some c => rw [h1, h2] at f56; cases f56
    | some c =>
      cases h2 : L'.c with
      | none => rw [h1, h2] at f56; cases f56
      | some c' => rw [h1, h2] at f56; injection f56 with f56; rw [f56]
  have f8 := List.append_inj f7 (by simp [hb])
  have f9 : t'.basis = t.basis := by
    have := f8.1
    refine List.ext_getElem hb fun j h1 h2 => ?_
    have := congrArg (fun l : List AV => l[j]?) this
    simp [h1, h2] at this
    exact this
  have f10 : t'.over = t.over := by simpa using f8.2
  have n1 : t'.n = t.n := by omega
  have n2 : t'.m = t.m := by omega
  have hw : t'.w = t.w := by unfold Tab.w; rw [n1, n2]
  have e3 := put_q h t
  rw [e, ← f3, put_q h' t'] at e3
  injection e3 with e3
  have f11 : L'.r = L.r := by
    unfold qB at e3
    injection e3 with _ _ e3
    refine List.ext_getElem f4 fun j h1 h2 => ?_
    have := congrArg (fun l : List (List AV) => l[j]?) e3
    simp [h1, h2] at this
    exact this.1
  have f12 : t'.cost = t.cost := by
    rcases s.cost with ⟨h1, h2⟩ | ⟨⟨c, h1⟩, h2⟩
    · rcases s'.cost with ⟨h3, h4⟩ | ⟨⟨c', h3⟩, h4⟩
      · rw [h2, h4]
      · rw [f5, h1] at h3; cases h3
    · have e4 := put_c h t h1
      rw [e, put_c h' t' (f5.trans h1)] at e4
      injection e4 with e4
      exact encFr_inj e4
  have f13 : t'.rows = t.rows := by
    refine List.ext_getElem (by rw [s.m, s'.m, f11]) fun j h1 h2 => ?_
    have hj : j < L.r.length := by rw [← s.m]; exact h2
    have e5 := put_r h s.m.symm hj
    rw [e, ← f11, put_r h' s'.m.symm (by rw [f11]; exact hj)] at e5
    injection e5 with e5
    have := encFr_inj e5
    rwa [ix_lt h1, ix_lt h2] at this
  have eL : L = L' := by
    obtain ⟨p, q, c, r⟩ := L
    obtain ⟨p', q', c', r'⟩ := L'
    simp only at hp f3 f5 f11
    subst hp f3 f5 f11
    rfl
  have et : t = t' := by
    obtain ⟨n, m, rows, cost, basis, over⟩ := t
    obtain ⟨n', m', rows', cost', basis', over'⟩ := t'
    simp only at n1 n2 f13 f12 f9 f10
    subst n1 n2 f13 f12 f9 f10
    rfl
  refine ⟨eL, et, fun u hu => ?_⟩
  subst eL et
  have hr : t.rows.length = L.r.length := s.m
  rw [← put_put h hu hr, e, put_put h' hu hr]
theorem put_inj {L L' : Lay} {t t' : Tab} {K K' : List Blk} (h : Lens L K) (h' : Lens L' K') (s : Shape L t) (s' : Shape L' t') (hp : L.p = L'.p) (e : putT L t K = putT L' t' K') : L = L' ∧ t = t' ∧ ∀ u : Tab, u.rows.length = L.r.length → putT L u K = putT L' u K' := put_inj0 h h' s.to0 s'.to0 hp e
end Go.Proofs.YtifbaegnkodneaaDoor

/-
  layer 30: the tableau's small methods, the program's side.
-/
namespace Go.Proofs.YtifbaegnkodneaaDoor
open Go.RowKit
set_option linter.unusedSimpArgs false
set_option linter.unusedVariables false
set_option maxRecDepth 100000

section
variable {L : Lay} {K : List Blk} {t : Tab}
theorem ptake {α : Type} {l : List α} {n : Nat} (h : l.length = n) (X : List α) (j : Nat) : (l ++ X)[n + j]? = X[j]? := by rw [List.getElem?_append_right (by omega), h, Nat.add_sub_cancel_left]
/-- What can be read of a tableau and of the locals behind it. -/
structure GetT (L : Lay) (t : Tab) (K : List Blk) : Prop where
  p : ∀ X, (putT L t K ++ X)[L.p]? = some ⟨54, 29, [tC L t], true, false⟩
  q : ∀ X, (putT L t K ++ X)[L.q]? = some ⟨23, 1, L.r.map fun l => [.own l (t.w + 1)], true, false⟩
  c : ∀ X c, L.c = some c → (putT L t K ++ X)[c]? = some ⟨29, 2, encRows t.cost, true, true⟩
  r : ∀ X i, i < t.m → (putT L t K ++ X)[ix L.r i]? = some ⟨29, 2, encRows (ix t.rows i), true, true⟩
  l0 : ∀ X, (putT L t K ++ X)[K.length]? = X[0]?
  l : ∀ X j, (putT L t K ++ X)[K.length + j]? = X[j]?
  sl0 : ∀ X b, (putT L t K ++ X).set K.length b = putT L t K ++ X.set 0 b
  sl : ∀ X j b, (putT L t K ++ X).set (K.length + j) b = putT L t K ++ X.set j b
  sp : ∀ X t', t'.rows = t.rows → t'.cost = t.cost → t'.w = t.w → (putT L t K ++ X).set L.p ⟨54, 29, [tC L t'], true, false⟩ = putT L t' K ++ X
  sc : ∀ X c x, L.c = some c → x.length = t.cost.length → (putT L t K ++ X).set c ⟨29, 2, encRows x, true, true⟩ = putT L { t with cost := x } K ++ X
  sr : ∀ X i x, i < t.m → (putT L t K ++ X).set (ix L.r i) ⟨29, 2, encRows x, true, true⟩ = putT L { t with rows := t.rows.set i x } K ++ X
theorem getT (h : Lens L K) (s : Shape L t) : GetT L t K where
  p X := by rw [List.getElem?_append_left (by rw [put_len]; exact h.p)]; exact put_p h t
  q X := by rw [List.getElem?_append_left (by rw [put_len]; exact h.q)]; exact put_q h t
  c X c hc := by rw [List.getElem?_append_left (by rw [put_len]; exact h.c c hc)]; exact put_c h t hc
  r X i hi := by
    have hi' : i < L.r.length := by rw [s.r]; exact hi
    rw [List.getElem?_append_left (by rw [put_len]; exact h.r _ (ix_mem hi'))]; exact put_r h (by rw [s.r, s.m]) hi'
  l0 X := by have := ptake (put_len L t K) X 0; simpa using this
  l X j := ptake (put_len L t K) X j
  sl0 X b := by rw [List.set_append_right _ _ (by rw [put_len]; omega), put_len, Nat.sub_self]
  sl X j b := by rw [List.set_append_right _ _ (by rw [put_len]; omega), put_len, Nat.add_sub_cancel_left]
  sp X t' h1 h2 h3 := by rw [List.set_append_left _ _ (by rw [put_len]; exact h.p)]; congr 1; exact put_set_p h h1 h2 h3
  sc X c x hc hx := by rw [List.set_append_left _ _ (by rw [put_len]; exact h.c c hc)]; congr 1; exact put_set_c h hc x hx
  sr X i x hi := by
    have hi' : i < L.r.length := by rw [s.r]; exact hi
    rw [List.set_append_left _ _ (by rw [put_len]; exact h.r _ (ix_mem hi'))]; congr 1; exact put_set_r h (by rw [s.r, s.m]) hi' x
/-- The same while the rows are laid. -/
structure Get0 (L : Lay) (t : Tab) (K : List Blk) : Prop where
  p : ∀ X, (putT L t K ++ X)[L.p]? = some ⟨54, 29, [tC L t], true, false⟩
  q : ∀ X, (putT L t K ++ X)[L.q]? = some ⟨23, 1, L.r.map fun l => [.own l (t.w + 1)], true, false⟩
  l0 : ∀ X, (putT L t K ++ X)[K.length]? = X[0]?
  l : ∀ X j, (putT L t K ++ X)[K.length + j]? = X[j]?
  sl0 : ∀ X b, (putT L t K ++ X).set K.length b = putT L t K ++ X.set 0 b
  sl : ∀ X j b, (putT L t K ++ X).set (K.length + j) b = putT L t K ++ X.set j b
  sp : ∀ X t', t'.rows = t.rows → t'.cost = t.cost → t'.w = t.w → (putT L t K ++ X).set L.p ⟨54, 29, [tC L t'], true, false⟩ = putT L t' K ++ X
theorem get0 (h : Lens L K) : Get0 L t K where
  p X := by rw [List.getElem?_append_left (by rw [put_len]; exact h.p)]; exact put_p h t
  q X := by rw [List.getElem?_append_left (by rw [put_len]; exact h.q)]; exact put_q h t
  l0 X := by have := ptake (put_len L t K) X 0; simpa using this
  l X j := ptake (put_len L t K) X j
  sl0 X b := by rw [List.set_append_right _ _ (by rw [put_len]; omega), put_len, Nat.sub_self]
  sl X j b := by rw [List.set_append_right _ _ (by rw [put_len]; omega), put_len, Nat.add_sub_cancel_left]
  sp X t' h1 h2 h3 := by rw [List.set_append_left _ _ (by rw [put_len]; exact h.p)]; congr 1; exact put_set_p h h1 h2 h3
theorem tC_len (s : t.basis.length = 24) : (tC L t).length = 29 := by unfold tC; simp [s]
theorem tC_0 : (tC L t)[0]? = some (.int .i64 t.n) := rfl
theorem tC_1 : (tC L t)[1]? = some (.int .i64 t.m) := rfl
theorem tC_2 : (tC L t)[2]? = some (.own L.q L.r.length) := rfl
theorem tC_3 : (tC L t)[3]? = some (cC L.c t.cost.length) := rfl
theorem tC_28 (s : t.basis.length = 24) : (tC L t)[28]? = some (.bool t.over) := by
  unfold tC
  rw [List.getElem?_append_right (by simp [s])]
  simp [s]
theorem tC_b (s : t.basis.length = 24) {i : Nat} (h : i < 24) : (tC L t)[4 + i]? = some (.int .i64 (ix t.basis i)) := by
  unfold tC
  rw [List.getElem?_append_left (by simp [s]; omega), List.getElem?_append_right (by simp), ix_lt (by omega)]
  simp [s, h]
theorem tC_so (s : t.basis.length = 24) (b : Bool) : List.take 28 (tC L t) ++ AV.bool b :: List.drop 29 (tC L t) = tC L { t with over := b } := by
  rw [List.drop_eq_nil_of_le (by rw [tC_len s]; omega)]
  unfold tC
  rw [List.take_append_of_le_length (by simp [s])]
  rw [List.take_of_length_le (by simp [s])]
theorem tC_sb (s : t.basis.length = 24) {i : Nat} (h : i < 24) (b : Int) : List.take (4 + i) (tC L t) ++ AV.int .i64 b :: List.drop (4 + i + 1) (tC L t) = tC L { t with basis := t.basis.set i b } := by
  have h1 : List.take (4 + i) (tC L t) ++ AV.int .i64 b :: List.drop (4 + i + 1) (tC L t) = (tC L t).set (4 + i) (.int .i64 b) := by
    rw [List.set_eq_take_append_cons_drop, if_pos (by rw [tC_len s]; omega)]
  rw [h1]
  unfold tC
  rw [List.set_append_left _ _ (by simp [s]; omega), List.set_append_right _ _ (by simp)]
  simp [List.map_set]
end
end Go.Proofs.YtifbaegnkodneaaDoor

/-
  layer 30: a minus f times b; a row of zeros; whether a variable is artificial.
-/
namespace Go.Proofs.YtifbaegnkodneaaDoor
open Go.RowKit
set_option linter.unusedSimpArgs false
set_option linter.unusedVariables false
set_option maxRecDepth 100000

theorem cells_inj {a b : Fr} (h : (Enc.enc a : AV) = Enc.enc b) : a = b := by
  have := congrArg (Enc.dec : AV → Fr) h
  simpa [Enc.dec_enc] using this
abbrev TKx (α : Type) := Lay × Tab × List Blk × α
def preT {α : Type} (p : Lay → Tab → α → Prop) : TKx α → Prop := fun γ => Lens γ.1 γ.2.2.1 ∧ Shape γ.1 γ.2.1 ∧ p γ.1 γ.2.1 γ.2.2.2
def blkT {α : Type} : TKx α → List Blk := fun γ => putT γ.1 γ.2.1 γ.2.2.1
/-- Such a contract: the arguments a tableau and what x says; the result; the new tableau. -/
noncomputable def tabG {α : Type} (a : Lay → Tab → α → List AV) (p : Lay → Tab → α → Prop) (res : Tab → α → AV) (nw : Tab → α → Tab) : List AV → List Blk → Option (Prop × AV × List Blk) :=
  anyG (fun γ : TKx α => .ptr γ.1.p 1 29 0 0 :: a γ.1 γ.2.1 γ.2.2.2) blkT (preT p) (fun γ => res γ.2.1 γ.2.2.2) (fun γ => putT γ.1 (nw γ.2.1 γ.2.2.2) γ.2.2.1)
structure TabOK {α : Type} (a : Lay → Tab → α → List AV) (p : Lay → Tab → α → Prop) (nw : Tab → α → Tab) : Prop where
  inj : ∀ {L t K x x'}, Lens L K → Shape L t → p L t x → p L t x' → a L t x = a L t x' → x = x'
  rows : ∀ {L t x}, Shape L t → p L t x → (nw t x).rows.length = t.m
theorem tabG_at {α : Type} {a : Lay → Tab → α → List AV} {p : Lay → Tab → α → Prop} {res : Tab → α → AV} {nw : Tab → α → Tab} (ok : TabOK a p nw) {L : Lay} {t : Tab} {K : List Blk} {x : α} (h : Lens L K) (s : Shape L t) (hp : p L t x) :
    tabG a p res nw (.ptr L.p 1 29 0 0 :: a L t x) (putT L t K) = some (True, res t x, putT L (nw t x) K) := by
  refine anyG_at (a := fun γ : TKx α => .ptr γ.1.p 1 29 0 0 :: a γ.1 γ.2.1 γ.2.2.2) (h := blkT) (pre := preT p) (res := fun γ => res γ.2.1 γ.2.2.2) (h' := fun γ => putT γ.1 (nw γ.2.1 γ.2.2.2) γ.2.2.1) ?_ (γ := (L, t, K, x)) ⟨h, s, hp⟩
  rintro ⟨L1, t1, K1, x1⟩ ⟨L2, t2, K2, x2⟩ ⟨h1, s1, p1⟩ ⟨h2, s2, p2⟩ ea eh
  simp only [List.cons.injEq, AV.ptr.injEq, and_true] at ea
  obtain ⟨e1, e2, e3⟩ := put_inj h1 h2 s1 s2 ea.1 eh
  simp only at e1 e2
  subst e1 e2
  have ex := ok.inj h1 s1 p1 p2 ea.2
  simp only at ex
  subst ex
  exact ⟨rfl, e3 _ (by rw [ok.rows s1 p1, s1.r])⟩
theorem tabG_inv {α : Type} {a : Lay → Tab → α → List AV} {p : Lay → Tab → α → Prop} {res : Tab → α → AV} {nw : Tab → α → Tab} {args : List AV} {H : List Blk} {ob : Prop} {r : AV} {H' : List Blk} (e : tabG a p res nw args H = some (ob, r, H')) :
    ∃ L t K x, Lens L K ∧ Shape L t ∧ p L t x ∧ args = .ptr L.p 1 29 0 0 :: a L t x ∧ H = putT L t K ∧ r = res t x ∧ H' = putT L (nw t x) K := by
  obtain ⟨⟨L, t, K, x⟩, ⟨h1, h2, h3⟩, e1, e2, e3, e4⟩ := anyG_inv e
  exact ⟨L, t, K, x, h1, h2, h3, e1.symm, e2.symm, e3.symm, e4.symm⟩
/-- The end of such a function. -/
theorem tab_drop {L : Lay} {t' : Tab} {K X : List Blk} (h : Lens L K) {r : AV} (hr : r.cleanF K.length = true) : dropT K.length (putT L t' K ++ X) r (putT L t' K) :=
  ⟨K.length, Nat.le_refl _, by rw [show K.length = (putT L t' K).length by rw [put_len], List.take_left], hr, put_clean h t'⟩

theorem clean1_mono {m n : Nat} (h : m ≤ n) {v : AV} (hv : v.clean1 m = true) : v.clean1 n = true := by
  cases v <;> simp [AV.clean1] at hv ⊢ <;> omega
theorem clean2_cases (v : AV) : (∃ f cs, v = .fn f cs) ∨ ∀ n, v.clean2 n = v.clean1 n := by
  cases v <;> first | exact .inr fun _ => rfl | exact .inl ⟨_, _, rfl⟩
theorem clean2_mono {m n : Nat} (h : m ≤ n) {v : AV} (hv : v.clean2 m = true) : v.clean2 n = true := by
  rcases clean2_cases v with ⟨f, cs, rfl⟩ | e
  · have hv : cs.all (AV.clean1 m) = true := hv
    show cs.all (AV.clean1 n) = true
    exact List.all_eq_true.2 fun c hc => clean1_mono h (List.all_eq_true.1 hv c hc)
  · rw [e] at hv ⊢
    exact clean1_mono h hv
theorem cleanF_cases (v : AV) : (∃ cs, v = .agg cs) ∨ (∃ cs, v = .tup cs) ∨ ∀ n, v.cleanF n = v.clean2 n := by
  cases v <;> first | exact .inr (.inr fun _ => rfl) | exact .inl ⟨_, rfl⟩ | exact .inr (.inl ⟨_, rfl⟩)
theorem cleanF_mono {m n : Nat} (h : m ≤ n) {v : AV} (hv : v.cleanF m = true) : v.cleanF n = true := by
  rcases cleanF_cases v with ⟨cs, rfl⟩ | ⟨cs, rfl⟩ | e
  · have hv : cs.all (AV.clean2 m) = true := hv
    show cs.all (AV.clean2 n) = true
    exact List.all_eq_true.2 fun c hc => clean2_mono h (List.all_eq_true.1 hv c hc)
  · have hv : cs.all (AV.clean2 m) = true := hv
    show cs.all (AV.clean2 n) = true
    exact List.all_eq_true.2 fun c hc => clean2_mono h (List.all_eq_true.1 hv c hc)
  · rw [e] at hv ⊢
    exact clean2_mono h hv
theorem Lens.app {L : Lay} {K X : List Blk} (h : Lens L K) (hX : ∀ b ∈ X, b.deep = true) : Lens L (K ++ X) where
  p := by have := h.p; rw [List.length_append]; omega
  q := by have := h.q; rw [List.length_append]; omega
  c c hc := by have := h.c c hc; rw [List.length_append]; omega
  r l hl := by have := h.r l hl; rw [List.length_append]; omega
  pq := h.pq
  pc := h.pc
  qc := h.qc
  pr := h.pr
  qr := h.qr
  cr := h.cr
  nd := h.nd
  cl b hb := by
    rcases List.mem_append.1 hb with hb | hb
    · exact (h.cl b hb).imp id fun h1 r hr c hc => cleanF_mono (by rw [List.length_append]; omega) (h1 r hr c hc)
    · exact .inl (hX b hb)
/-- A call of such a function, the caller's locals behind. -/
theorem tabG_call {α : Type} {a : Lay → Tab → α → List AV} {p : Lay → Tab → α → Prop} {res : Tab → α → AV} {nw : Tab → α → Tab} (ok : TabOK a p nw) {L : Lay} {t : Tab} {K : List Blk} {x : α} (h : Lens L K) (s : Shape L t) (hp : p L t x) (X : List Blk) (hX : ∀ b ∈ X, b.deep = true) :
    tabG a p res nw (.ptr L.p 1 29 0 0 :: a L t x) (putT L t K ++ X) = some (True, res t x, putT L (nw t x) K ++ X) := by
  rw [← put_app h, ← put_app h]
  exact tabG_at ok (h.app hX) s hp

/-! ### minus -/
def aMinus : Lay → Tab → Fr × Fr × Fr → List AV := fun _ _ x => [Enc.enc x.1, Enc.enc x.2.1, Enc.enc x.2.2]
def orT (t : Tab) (b : Bool) : Tab := { t with over := t.over || b }
noncomputable def gMinus := tabG aMinus (fun _ _ _ => True) (fun _ x => Enc.enc (mnP x.1 x.2.1 x.2.2).1) (fun t x => orT t (mnP x.1 x.2.1 x.2.2).2)
theorem okMinus : TabOK aMinus (fun _ _ _ => True) (fun t x => orT t (mnP x.1 x.2.1 x.2.2).2) where
  inj := fun {L t K x x'} _ _ _ _ e => by
    obtain ⟨a, b, c⟩ := x
    obtain ⟨a', b', c'⟩ := x'
    unfold aMinus at e
    simp only [List.cons.injEq, and_true] at e
    rw [cells_inj e.1, cells_inj e.2.1, cells_inj e.2.2]
  rows := fun s _ => s.m
noncomputable def CMn : Ctx := mkC Tryd.prog G0 [(51, .pure sMulF), (86, .pure sSubF), (39, .pure (spec0 (Enc.enc F01)))]
@[simp] theorem CMn_P : CMn.P = Tryd.prog := rfl
@[simp] theorem CMn_G : CMn.G = G0 := rfl
@[simp] theorem CMn_1 : CMn.S 51 = .pure sMulF := rfl
@[simp] theorem CMn_2 : CMn.S 86 = .pure sSubF := rfl
@[simp] theorem CMn_3 : CMn.S 39 = .pure (spec0 (Enc.enc F01)) := rfl
theorem mixCMn : CMn.P.follows .mixedOrders = true := mixed
theorem sigCMn : SigOK CMn := sigOK_cons (entryPure (mulP) Tryd.func51 rfl (by decide)) (sigOK_cons (entryPure (subP) Tryd.func86 rfl (by decide)) (sigOK_cons (entryPure (zeroP) Tryd.func39 rfl (by decide)) (sigOK_nil _ _)))
theorem rngO_in {n d : Int} {p : Fr} (h : toO (rngF n d) = some p) : InR p.N ∧ InR p.D := by
  unfold toO rngF at h
  by_cases h4 : InR n ∧ InR d
  · rw [if_pos h4, if_pos rfl] at h
    injection h with h
    subst h
    exact h4
  · rw [if_neg h4] at h
    simp at h
theorem mulO_I64 {a b p : Fr} (h : mulO a b = some p) : I64 p.N := by
  unfold mulO mulF at h
  split at h
  · have := (rngO_in h).1
    unfold InR at this
    unfold I64
    omega
  · simp [toO] at h
theorem orT_true (t : Tab) : orT t true = { t with over := true } := by unfold orT; rw [Bool.or_true]
theorem orT_false (t : Tab) : orT t false = t := by unfold orT; rw [Bool.or_false]
set_option maxHeartbeats 16000000 in
theorem minusTP : GenOK Tryd.prog G0 81 gMinus := by
  refine gen_of_avcD (C := CMn) sigCMn mixCMn [] Tryd.func81 rfl rfl rfl (by kernel_rfl) (fun avs H ob r H' hp hob => ?_)
  obtain ⟨L, t, K, ⟨a, f, b⟩, hL, hS, _, rfl, rfl, rfl, rfl⟩ := tabG_inv hp
  clear hp hob ob
  refine ⟨(by show 4 ≤ _; decide), ?_⟩
  have G := getT hL hS
  have gp := G.p
  have gl0 := G.l0
  have gl := G.l
  have sl0 := G.sl0
  have sl := G.sl
  have bs := hS.bas
  simp only [aMinus]
  have em := mul_ofO f b
  have sp := fun X => G.sp X { t with over := true } rfl rfl rfl
  have ts := tC_so (L := L) bs true
  cases hm : mulO f b with
  | none =>
    have e1 : mnP a f b = (F01, true) := by unfold mnP mnO; rw [hm]
    rw [hm] at em
    simp [aev, cav, look, acallPure, abin, abinN, abinP, abinI, abinS, aun, aconv, afield, afieldAddr, aindexAddr, aindex, aslice, alow, ahigh, abuild, abuildGo, cellsOf, splice, fieldTy, alen, apick, amax, amin, aload, headV, aparts, abuildSlice, elParts, abytesStr, astore, amake, aappend, aclear, anew, arith, aresults, aresList, ares, spec0, spec1, spec2, spec3, spec4, eqCells, eqCell, argsρ, put_len, gl0, gl, sl0, sl, gp, sp, ts, sMulF, em, ofO, F00, F01, e1, orT_true]
    exact tab_drop hL (by simp [AV.cleanF, AV.clean2, AV.clean1])
  | some p =>
    rw [hm] at em
    have hI := mulO_I64 hm
    have es := sub_ofO a p
    cases hs : subO a p with
    | none =>
      have e1 : mnP a f b = (F01, true) := by unfold mnP mnO; rw [hm]; simp only; rw [hs]
      rw [hs] at es
      simp [aev, cav, look, acallPure, abin, abinN, abinP, abinI, abinS, aun, aconv, afield, afieldAddr, aindexAddr, aindex, aslice, alow, ahigh, abuild, abuildGo, cellsOf, splice, fieldTy, alen, apick, amax, amin, aload, headV, aparts, abuildSlice, elParts, abytesStr, astore, amake, aappend, aclear, anew, arith, aresults, aresList, ares, spec0, spec1, spec2, spec3, spec4, eqCells, eqCell, argsρ, put_len, gl0, gl, sl0, sl, gp, sp, ts, sMulF, sSubF, em, es, hI, ofO, F00, F01, e1, orT_true]
      exact tab_drop hL (by simp [AV.cleanF, AV.clean2, AV.clean1])
    | some d =>
      have e1 : mnP a f b = (d, false) := by unfold mnP mnO; rw [hm]; simp only; rw [hs]
      rw [hs] at es
      simp [aev, cav, look, acallPure, abin, abinN, abinP, abinI, abinS, aun, aconv, afield, afieldAddr, aindexAddr, aindex, aslice, alow, ahigh, abuild, abuildGo, cellsOf, splice, fieldTy, alen, apick, amax, amin, aload, headV, aparts, abuildSlice, elParts, abytesStr, astore, amake, aappend, aclear, anew, arith, aresults, aresList, ares, spec0, spec1, spec2, spec3, spec4, eqCells, eqCell, argsρ, put_len, gl0, gl, sl0, sl, gp, sp, ts, sMulF, sSubF, em, es, hI, ofO, F00, F01, e1, orT_false]
      exact tab_drop hL (by simp [AV.cleanF, AV.clean2, AV.clean1])

/-! ### A row less a multiple of another -/
theorem nodup_inj {l : List Nat} (h : l.Nodup) {a b : Nat} (ha : a < l.length) (hb : b < l.length) (e : l[a] = l[b]) : a = b := by
  have hp := List.pairwise_iff_getElem.1 h
  rcases Nat.lt_trichotomy a b with c | c | c
  · exact absurd e (hp a b ha hb c)
  · exact c
  · exact absurd e.symm (hp b a hb ha c)
def tgtI (L : Lay) : Option Nat → Nat
  | some k => ix L.r k
  | none => L.c.getD 0
structure ClrX where
  tgt : Option Nat
  f : Fr
  i : Nat
def aClear : Lay → Tab → ClrX → List AV := fun L t x => [.own (tgtI L x.tgt) (t.w + 1), Enc.enc x.f, .own (ix L.r x.i) (t.w + 1)]
structure PreClr (L : Lay) (t : Tab) (x : ClrX) : Prop where
  i : x.i < t.m
  row : ∀ k, x.tgt = some k → k < t.m ∧ k ≠ x.i
  cost : x.tgt = none → t.cost.length = t.w + 1
def tgtR (t : Tab) : Option Nat → List Fr
  | some k => ix t.rows k
  | none => t.cost
def setTgt (t : Tab) (g : Option Nat) (r : List Fr) : Tab := match g with
  | some k => { t with rows := t.rows.set k r }
  | none => { t with cost := r }
/-- After k elements. -/
def clrK (t : Tab) (x : ClrX) (k : Nat) : Tab := orT (setTgt t x.tgt (mixF k (fun j => (mnP (ix (tgtR t x.tgt) j) x.f (ix (ix t.rows x.i) j)).1) (tgtR t x.tgt))) (anyK k fun j => (mnP (ix (tgtR t x.tgt) j) x.f (ix (ix t.rows x.i) j)).2)
def clrT (t : Tab) (x : ClrX) : Tab := clrK t x (t.w + 1)
noncomputable def gClear := tabG aClear PreClr (fun _ _ => .tup []) clrT
theorem setTgt_rows (t : Tab) (g : Option Nat) (r : List Fr) : (setTgt t g r).rows.length = t.rows.length := by cases g <;> simp [setTgt]
theorem okClear : TabOK aClear PreClr clrT where
  inj := fun {L t K x x'} hL hS h h' e => by
    obtain ⟨g, f, i⟩ := x
    obtain ⟨g', f', i'⟩ := x'
    unfold aClear at e
    simp only [List.cons.injEq, AV.own.injEq, and_true] at e
    obtain ⟨e1, e2, e3⟩ := e
    have ii : ∀ {a b : Nat}, a < L.r.length → b < L.r.length → ix L.r a = ix L.r b → a = b := fun ha hb hab => by
      rw [ix_lt ha, ix_lt hb] at hab
      exact nodup_inj hL.nd ha hb hab
    have hi := h.i
    have hi' := h'.i
    have er := hS.r
    have e3 := ii (by rw [er]; exact hi) (by rw [er]; exact hi') e3
    have eg : g = g' := by
      cases g with
      | none =>
        cases g' with
        | none => rfl
        | some k' =>
          rcases hS.cost with ⟨h1, h2⟩ | ⟨⟨c, h1⟩, h2⟩
          · have := h.cost rfl
            rw [h2] at this
            simp at this
          · have e1 : L.c.getD 0 = ix L.r k' := e1
            rw [h1] at e1
            exact absurd (by rw [show c = ix L.r k' from e1]; exact ix_mem (by rw [er]; exact (h'.row k' rfl).1)) (hL.cr c h1)
      | some k =>
        cases g' with
        | none =>
          rcases hS.cost with ⟨h1, h2⟩ | ⟨⟨c, h1⟩, h2⟩
          · have := h'.cost rfl
            rw [h2] at this
            simp at this
          · have e1 : ix L.r k = L.c.getD 0 := e1
            rw [h1] at e1
            exact absurd (by rw [show c = ix L.r k from e1.symm]; exact ix_mem (by rw [er]; exact (h.row k rfl).1)) (hL.cr c h1)
        | some k' => rw [ii (by rw [er]; exact (h.row k rfl).1) (by rw [er]; exact (h'.row k' rfl).1) e1]
    rw [eg, cells_inj e2, e3]
  rows := fun {L t x} s h => by
    show (setTgt t x.tgt _).rows.length = t.m
    rw [setTgt_rows]
    exact s.m
end Go.Proofs.YtifbaegnkodneaaDoor

/-
  layer 30: clear — a row less a multiple of another.
-/
namespace Go.Proofs.YtifbaegnkodneaaDoor
open Go.RowKit
set_option linter.unusedSimpArgs false
set_option linter.unusedVariables false
set_option maxRecDepth 100000

section
variable {L : Lay} {K : List Blk} {t : Tab}
theorem cost_some (hS : Shape L t) (h : t.cost.length = t.w + 1) : ∃ c, L.c = some c := by
  rcases hS.cost with ⟨h1, h2⟩ | ⟨h1, _⟩
  · rw [h2] at h
    simp at h
  · exact h1
theorem tgt_get (hL : Lens L K) (hS : Shape L t) {g : Option Nat} (hg : ∀ k, g = some k → k < t.m) (hn : g = none → t.cost.length = t.w + 1) (X : List Blk) : (putT L t K ++ X)[tgtI L g]? = some ⟨29, 2, encRows (tgtR t g), true, true⟩ := by
  cases g with
  | none =>
    obtain ⟨c, hc⟩ := cost_some hS (hn rfl)
    show (putT L t K ++ X)[L.c.getD 0]? = _
    rw [hc]
    exact (getT hL hS).c X c hc
  | some k => exact (getT hL hS).r X k (hg k rfl)
theorem tgt_set (hL : Lens L K) (hS : Shape L t) {g : Option Nat} (hg : ∀ k, g = some k → k < t.m) (hn : g = none → t.cost.length = t.w + 1) (X : List Blk) (r : List Fr) (hr : r.length = t.w + 1) : (putT L t K ++ X).set (tgtI L g) ⟨29, 2, encRows r, true, true⟩ = putT L (setTgt t g r) K ++ X := by
  cases g with
  | none =>
    obtain ⟨c, hc⟩ := cost_some hS (hn rfl)
    show (putT L t K ++ X).set (L.c.getD 0) _ = _
    rw [hc]
    exact (getT hL hS).sc X c r hc (by rw [hr, hn rfl])
  | some k => exact (getT hL hS).sr X k r (hg k rfl)
theorem shape_or (hS : Shape L t) (b : Bool) : Shape L (orT t b) := ⟨hS.m, hS.r, hS.n1, hS.n12, hS.m24, hS.row, hS.cost, hS.bas, hS.b64⟩
theorem shape_tgt (hS : Shape L t) {g : Option Nat} (hn : g = none → t.cost.length = t.w + 1) {r : List Fr} (hr : r.length = t.w + 1) : Shape L (setTgt t g r) := by
  cases g with
  | none => exact ⟨hS.m, hS.r, hS.n1, hS.n12, hS.m24, hS.row, .inr ⟨cost_some hS (hn rfl), hr⟩, hS.bas, hS.b64⟩
  | some k => exact ⟨by show (t.rows.set k r).length = t.m; rw [List.length_set]; exact hS.m, hS.r, hS.n1, hS.n12, hS.m24, fun x hx => (List.mem_or_eq_of_mem_set hx).elim (hS.row x) (fun e => by rw [e]; exact hr), hS.cost, hS.bas, hS.b64⟩
theorem tgtR_len {x : ClrX} (hS : Shape L t) (h : PreClr L t x) : (tgtR t x.tgt).length = t.w + 1 := by
  cases hg : x.tgt with
  | none => exact h.cost hg
  | some k =>
    have hk := (h.row k hg).1
    exact hS.row _ (ix_mem (by rw [hS.m]; exact hk))
theorem clrK_shape {x : ClrX} (hS : Shape L t) (h : PreClr L t x) (k : Nat) : Shape L (clrK t x k) :=
  shape_or (shape_tgt hS h.cost (by rw [mixF_len, tgtR_len hS h])) _
theorem clrK_tgt {x : ClrX} (hS : Shape L t) (h : PreClr L t x) (k : Nat) : tgtR (clrK t x k) x.tgt = mixF k (fun j => (mnP (ix (tgtR t x.tgt) j) x.f (ix (ix t.rows x.i) j)).1) (tgtR t x.tgt) := by
  unfold clrK
  cases hg : x.tgt with
  | none => rfl
  | some q =>
    show ix (t.rows.set q _) q = _
    rw [ix_lt (by rw [List.length_set, hS.m]; exact (h.row q hg).1), List.getElem_set_self]
theorem clrK_by {x : ClrX} (hS : Shape L t) (h : PreClr L t x) (k : Nat) : ix (clrK t x k).rows x.i = ix t.rows x.i := by
  unfold clrK
  cases hg : x.tgt with
  | none => rfl
  | some q =>
    have hi := h.i
    show ix (t.rows.set q _) x.i = _
    rw [ix_lt (by rw [List.length_set, hS.m]; exact hi), List.getElem_set_ne (h.row q hg).2, ix_lt (by rw [hS.m]; exact hi)]
theorem clrK_zero (x : ClrX) : clrK t x 0 = t := by
  unfold clrK
  rw [mixF_zero, anyK_zero, orT_false]
  cases hg : x.tgt with
  | none => rfl
  | some q =>
    show { t with rows := t.rows.set q (ix t.rows q) } = t
    by_cases hq : q < t.rows.length
    · rw [ix_lt hq, List.set_getElem_self]
    · rw [List.set_eq_of_length_le (by omega)]
theorem clrK_succ {x : ClrX} (hS : Shape L t) (h : PreClr L t x) {k : Nat} (hk : k < t.w + 1) :
    setTgt (orT (clrK t x k) (mnP (ix (tgtR t x.tgt) k) x.f (ix (ix t.rows x.i) k)).2) x.tgt ((mixF k (fun j => (mnP (ix (tgtR t x.tgt) j) x.f (ix (ix t.rows x.i) j)).1) (tgtR t x.tgt)).set k (mnP (ix (tgtR t x.tgt) k) x.f (ix (ix t.rows x.i) k)).1) = clrK t x (k + 1) := by
  rw [mixF_set (g := fun j => (mnP (ix (tgtR t x.tgt) j) x.f (ix (ix t.rows x.i) j)).1) (v := (mnP (ix (tgtR t x.tgt) k) x.f (ix (ix t.rows x.i) k)).1) rfl (by rw [tgtR_len hS h]; exact hk)]
  unfold clrK
  rw [anyK_succ]
  cases hg : x.tgt with
  | none => unfold setTgt orT; simp [Bool.or_assoc]
  | some q => unfold setTgt orT; simp [Bool.or_assoc]
end
theorem minus_call {L : Lay} {K : List Blk} {t : Tab} (hL : Lens L K) (hS : Shape L t) (a f b : Fr) (X : List Blk) (hX : ∀ b ∈ X, b.deep = true) : gMinus [.ptr L.p 1 29 0 0, .agg [.int .i64 a.N, .int .i64 a.D], .agg [.int .i64 f.N, .int .i64 f.D], .agg [.int .i64 b.N, .int .i64 b.D]] (putT L t K ++ X) = some (True, .agg [.int .i64 (mnP a f b).1.N, .int .i64 (mnP a f b).1.D], putT L (orT t (mnP a f b).2) K ++ X) :=
  tabG_call okMinus (x := (a, f, b)) hL hS trivial X hX
noncomputable def CCl : Ctx := mkC Tryd.prog G0 [(51, .pure sMulF), (81, .gen gMinus)]
@[simp] theorem CCl_P : CCl.P = Tryd.prog := rfl
@[simp] theorem CCl_G : CCl.G = G0 := rfl
@[simp] theorem CCl_1 : CCl.S 51 = .pure sMulF := rfl
@[simp] theorem CCl_2 : CCl.S 81 = .gen gMinus := rfl
theorem mixCCl : CCl.P.follows .mixedOrders = true := mixed
theorem sigCCl : SigOK CCl := sigOK_cons (entryPure (mulP) Tryd.func51 rfl (by decide)) (sigOK_cons (entryGen (minusTP) Tryd.func81 rfl (by decide)) (sigOK_nil _ _))
set_option maxHeartbeats 16000000 in
theorem clearTP : GenOK Tryd.prog G0 62 gClear := by
  refine gen_of_avcD (C := CCl) sigCCl mixCCl [4] Tryd.func62 rfl rfl rfl (by kernel_rfl) (fun avs H ob r H' hp hob => ?_)
  obtain ⟨L, t, K, x, hL, hS, hx, rfl, rfl, rfl, rfl⟩ := tabG_inv hp
  clear hp hob ob
  refine ⟨(by show 4 ≤ _; decide), ?_⟩
  simp only [aClear]
  have G := getT hL hS
  have gl0 := G.l0
  have gl := G.l
  have hw : t.w ≤ 36 := by have := hS.n12; have := hS.m24; unfold Tab.w; omega
  simp [aev, cav, look, acallPure, abin, abinN, abinP, abinI, abinS, aun, aconv, afield, afieldAddr, aindexAddr, aindex, aslice, alow, ahigh, abuild, abuildGo, cellsOf, splice, fieldTy, alen, apick, amax, amin, aload, headV, aparts, abuildSlice, elParts, abytesStr, astore, amake, aappend, aclear, anew, arith, aresults, aresList, ares, spec0, spec1, spec2, spec3, spec4, eqCells, eqCell, argsρ, put_len, gl0, gl]
  refine loop_ruleH (C := CCl) sigCCl mixCCl [4] (fun k : Nat => ⟨[(0, .ptr L.p 1 29 0 0), (1, .own (tgtI L x.tgt) (t.w + 1)), (3, .own (ix L.r x.i) (t.w + 1)), (6, .ptr K.length 1 2 0 0), (10, .int .i64 ((t.w : Int) + 1)), (11, .int .i64 k)], putT L (clrK t x k) K ++ [FB x.f]⟩) (fun k => k ≤ t.w + 1) (fun k => t.w + 1 - k) (by kernel_rfl) ⟨0, by simp, weak_eq (by simp) (by rw [clrK_zero]; rfl)⟩ (fun k hk => ?_)
  have hS' := clrK_shape hS hx k
  have G := getT hL hS'
  have gl0 := G.l0
  have gl := G.l
  by_cases hkl : k < t.w + 1
  · have i2 : I64 ((k : Int) + 1) := by unfold I64; omega
    have hkl' : (k : Int) < (t.w : Int) + 1 := by omega
    have ww : (clrK t x k).w = t.w := by unfold clrK; cases x.tgt <;> rfl
    have hcost : x.tgt = none → (clrK t x k).cost.length = (clrK t x k).w + 1 := fun hg => by
      have := hx.cost hg
      unfold clrK orT setTgt
      rw [hg]
      show (mixF _ _ _).length = _
      rw [mixF_len]
      exact this
    have tg := tgt_get (g := x.tgt) hL hS' (fun q hq => by have := (hx.row q hq).1; unfold clrK; cases x.tgt <;> exact this) hcost
    rw [clrK_tgt hS hx] at tg
    have gr := G.r
    have gi := fun X => gr X x.i (by have := hx.i; unfold clrK; cases x.tgt <;> exact this)
    simp only [clrK_by hS hx] at gi
    simp [aev, cav, look, acallPure, abin, abinN, abinP, abinI, abinS, aun, aconv, afield, afieldAddr, aindexAddr, aindex, aslice, alow, ahigh, abuild, abuildGo, cellsOf, splice, fieldTy, alen, apick, amax, amin, aload, headV, aparts, abuildSlice, elParts, abytesStr, astore, amake, aappend, aclear, anew, arith, aresults, aresList, ares, spec0, spec1, spec2, spec3, spec4, eqCells, eqCell, FB, put_len, gl0, gl, hkl', tg, gi]
    refine AW_regionF sigCCl mixCCl [.pure, .pure, .pure, .pure, .pure, .pure, .read, .read, .pure, .pure, .pure, .read, .eff, .pure, .eff] [[],[],[],[],[],[4,3],[3,4,5],[],[],[],[9,8],[8,9,10],[10,9,8,11,7,5,4,3,6,2],[12,11,10,9,8,7,6,5,4,3,2,1,0],[0,1,2,3,4,5,6,7,8,9,10,11,12,13]] (by kernel_rfl) (by kernel_rfl) (by kernel_rfl) (by kernel_rfl) ?_
    have hrow : (ix t.rows x.i).length = t.w + 1 := hS.row _ (ix_mem (by rw [hS.m]; exact hx.i))
    have hm1 := mixF_len k (fun j => (mnP (ix (tgtR t x.tgt) j) x.f (ix (ix t.rows x.i) j)).1) (tgtR t x.tgt)
    have hm2 := tgtR_len hS hx
    have hmx := mixF_ix (k := k) (g := fun j => (mnP (ix (tgtR t x.tgt) j) x.f (ix (ix t.rows x.i) j)).1) (show k < (tgtR t x.tgt).length by omega)
    rw [if_neg (Nat.lt_irrefl k)] at hmx
    have hcall := minus_call hL hS' (ix (tgtR t x.tgt) k) x.f (ix (ix t.rows x.i) k) [FB x.f] (by simp [FB])
    simp only [FB] at hcall
    obtain ⟨M, hM⟩ : ∃ M, mnP (ix (tgtR t x.tgt) k) x.f (ix (ix t.rows x.i) k) = M := ⟨_, rfl⟩
    have hstep := clrK_succ hS hx hkl
    rw [hM] at hcall hstep
    have hSo := shape_or hS' M.2
    have tgm : ∀ q, x.tgt = some q → q < (clrK t x k).m := fun q hq => by have := (hx.row q hq).1; unfold clrK; cases x.tgt <;> exact this
    have tg2 : ∀ X, (putT L (orT (clrK t x k) M.2) K ++ X)[tgtI L x.tgt]? = some ⟨29, 2, encRows (mixF k (fun j => (mnP (ix (tgtR t x.tgt) j) x.f (ix (ix t.rows x.i) j)).1) (tgtR t x.tgt)), true, true⟩ := fun X => by
      rw [tgt_get (g := x.tgt) hL hSo tgm hcost, ← clrK_tgt hS hx k]
      cases x.tgt <;> rfl
    have ts2 := fun X r hr => tgt_set (g := x.tgt) hL hSo tgm hcost X r hr
    simp [aev, cav, look, acallPure, abin, abinN, abinP, abinI, abinS, aun, aconv, afield, afieldAddr, aindexAddr, aindex, aslice, alow, ahigh, abuild, abuildGo, cellsOf, splice, fieldTy, alen, apick, amax, amin, aload, headV, aparts, abuildSlice, elParts, abytesStr, astore, amake, aappend, aclear, anew, arith, aresults, aresList, ares, spec0, spec1, spec2, spec3, spec4, eqCells, eqCell, FB, put_len, gl0, gl, hkl', tg, gi, hrow, hm1, hm2, hmx, rowAt_enc, hkl, hcall, tg2, i2]
    refine ⟨k + 1, by omega, by omega, weak_eq (by simp) ?_⟩
    rw [ts2 _ _ (by rw [List.length_set, hm1, hm2]; exact congrArg (· + 1) ww.symm), hstep]
  · have hke : k = t.w + 1 := by omega
    subst hke
    simp [aev, cav, look, acallPure, abin, abinN, abinP, abinI, abinS, aun, aconv, afield, afieldAddr, aindexAddr, aindex, aslice, alow, ahigh, abuild, abuildGo, cellsOf, splice, fieldTy, alen, apick, amax, amin, aload, headV, aparts, abuildSlice, elParts, abytesStr, astore, amake, aappend, aclear, anew, arith, aresults, aresList, ares, spec0, spec1, spec2, spec3, spec4, eqCells, eqCell, put_len, gl0, gl]
    exact tab_drop hL (by simp [AV.cleanF, AV.clean2, AV.clean1])
end Go.Proofs.YtifbaegnkodneaaDoor

/-
  layer 30: empty — a row of zeros; whether a variable is artificial.
-/
namespace Go.Proofs.YtifbaegnkodneaaDoor
open Go.RowKit
set_option linter.unusedSimpArgs false
set_option linter.unusedVariables false
set_option maxRecDepth 100000

section
variable {L : Lay} {t : Tab}
theorem tC_e0 (h : 0 < (tC L t).length) : (tC L t)[0]'h = .int .i64 t.n := rfl
theorem tC_e1 (h : 1 < (tC L t).length) : (tC L t)[1]'h = .int .i64 t.m := rfl
theorem tC_e2 (h : 2 < (tC L t).length) : (tC L t)[2]'h = .own L.q L.r.length := rfl
theorem tC_e3 (h : 3 < (tC L t).length) : (tC L t)[3]'h = cC L.c t.cost.length := rfl
end
theorem tab_drop0 {L : Lay} {t' : Tab} {K : List Blk} (h : Lens L K) {r : AV} (hr : r.cleanF K.length = true) : dropT K.length (putT L t' K) r (putT L t' K) := by
  have := tab_drop (X := []) h (t' := t') hr
  rwa [List.append_nil] at this
theorem shape_w {L : Lay} {t : Tab} (hS : Shape L t) : w64 ((t.n : Int) + t.m) = t.w := by
  have := hS.n12
  have := hS.m24
  rw [w64_in (by unfold I64; omega)]
  unfold Tab.w
  omega
/-! ### artificial -/
def aArt : Lay → Tab → Nat → List AV := fun _ _ i => [.int .i64 i]
noncomputable def gArt := tabG aArt (fun _ t i => i < t.m) (fun t i => .bool (decide ((t.w : Int) ≤ ix t.basis i))) (fun t _ => t)
theorem okArt : TabOK aArt (fun _ t i => i < t.m) (fun t _ => t) where
  inj := fun {L t K x x'} _ _ _ _ e => by
    unfold aArt at e
    simp only [List.cons.injEq, AV.int.injEq, and_true, true_and] at e
    omega
  rows := fun s _ => s.m
theorem art_call {L : Lay} {K : List Blk} {t : Tab} (hL : Lens L K) (hS : Shape L t) {i : Nat} (hi : i < t.m) (X : List Blk) (hX : ∀ b ∈ X, b.deep = true) : gArt [.ptr L.p 1 29 0 0, .int .i64 i] (putT L t K ++ X) = some (True, .bool (decide ((t.w : Int) ≤ ix t.basis i)), putT L t K ++ X) :=
  tabG_call okArt (x := i) hL hS hi X hX
noncomputable def CEm : Ctx := mkC Tryd.prog G0 [(39, .pure (spec0 (Enc.enc F01)))]
@[simp] theorem CEm_P : CEm.P = Tryd.prog := rfl
@[simp] theorem CEm_G : CEm.G = G0 := rfl
@[simp] theorem CEm_1 : CEm.S 39 = .pure (spec0 (Enc.enc F01)) := rfl
theorem mixCEm : CEm.P.follows .mixedOrders = true := mixed
theorem sigCEm : SigOK CEm := sigOK_cons (entryPure (zeroP) Tryd.func39 rfl (by decide)) (sigOK_nil _ _)
set_option maxHeartbeats 16000000 in
theorem artTP : GenOK Tryd.prog G0 61 gArt := by
  refine gen_of_avcD (C := CEm) sigCEm mixCEm [1] Tryd.func61 rfl rfl rfl (by kernel_rfl) (fun avs H ob r H' hp hob => ?_)
  obtain ⟨L, t, K, i, hL, hS, hi, rfl, rfl, rfl, rfl⟩ := tabG_inv hp
  clear hp hob ob
  refine ⟨(by show 2 ≤ _; decide), ?_⟩
  simp only [aArt]
  have G := getT hL hS
  have gp := G.p []
  rw [List.append_nil] at gp
  have bs := hS.bas
  have h24 : i < 24 := by have := hS.m24; omega
  have hb := tC_b (L := L) bs h24
  have hw : t.w ≤ 36 := by have := hS.n12; have := hS.m24; unfold Tab.w; omega
  have hl := tC_len (L := L) bs
  simp [aev, cav, look, acallPure, abin, abinN, abinP, abinI, abinS, aun, aconv, afield, afieldAddr, aindexAddr, aindex, aslice, alow, ahigh, abuild, abuildGo, cellsOf, splice, fieldTy, alen, apick, amax, amin, aload, headV, aparts, abuildSlice, elParts, abytesStr, astore, amake, aappend, aclear, anew, arith, aresults, aresList, ares, spec0, spec1, spec2, spec3, spec4, eqCells, eqCell, argsρ, put_len, gp]
  refine AW_regionF sigCEm mixCEm [.pure, .pure, .pure, .pure, .pure, .read, .pure, .pure, .pure, .read, .pure, .pure, .pure, .read, .pure, .pure, .pure] [[],[],[0],[0,2],[1,2,0,3],[3,0,2,1,4],[],[6],[6,7],[7,6,8],[],[10],[10,11],[11,10,12],[12,10,11,13,8,6,7,9],[9,7,6,8,13,11,10,12,14,4,1,2,0,3,5],[5,3,0,2,1,4,14,12,10,11,13,8,6,7,9,15]] (by kernel_rfl) (by kernel_rfl) (by kernel_rfl) (by kernel_rfl) ?_
  simp [aev, cav, look, acallPure, abin, abinN, abinP, abinI, abinS, aun, aconv, afield, afieldAddr, aindexAddr, aindex, aslice, alow, ahigh, abuild, abuildGo, cellsOf, splice, fieldTy, alen, apick, amax, amin, aload, headV, aparts, abuildSlice, elParts, abytesStr, astore, amake, aappend, aclear, anew, arith, aresults, aresList, ares, spec0, spec1, spec2, spec3, spec4, eqCells, eqCell, gp, hb, hl, h24, tC_e0, tC_e1, put_len, shape_w hS]
  exact ⟨by omega, by omega, tab_drop0 hL (by simp [AV.cleanF, AV.clean2, AV.clean1])⟩
  done
theorem shape_w0 {L : Lay} {t : Tab} (hS : Shape0 L t) : w64 ((t.n : Int) + t.m) = t.w := by
  have := hS.n12
  have := hS.m24
  rw [w64_in (by unfold I64; omega)]
  unfold Tab.w
  omega
/-! ### empty -/
abbrev EmX := Lay × Tab × List Blk
def preE : EmX → Prop := fun γ => Lens γ.1 γ.2.2 ∧ Shape0 γ.1 γ.2.1
def rowE (t : Tab) : List Fr := List.replicate (t.w + 1) F01
noncomputable def gEmpty : List AV → List Blk → Option (Prop × AV × List Blk) :=
  anyG (fun γ : EmX => [.ptr γ.1.p 1 29 0 0]) (fun γ => putT γ.1 γ.2.1 γ.2.2) preE (fun γ => .own γ.2.2.length (γ.2.1.w + 1)) (fun γ => putT γ.1 γ.2.1 γ.2.2 ++ [R2B (rowE γ.2.1)])
theorem empty_at {L : Lay} {t : Tab} {K : List Blk} (hL : Lens L K) (hS : Shape0 L t) : gEmpty [.ptr L.p 1 29 0 0] (putT L t K) = some (True, .own K.length (t.w + 1), putT L t K ++ [R2B (rowE t)]) := by
  refine anyG_at (a := fun γ : EmX => [.ptr γ.1.p 1 29 0 0]) (h := fun γ : EmX => putT γ.1 γ.2.1 γ.2.2) (pre := preE) (res := fun γ => .own γ.2.2.length (γ.2.1.w + 1)) (h' := fun γ => putT γ.1 γ.2.1 γ.2.2 ++ [R2B (rowE γ.2.1)]) ?_ (γ := (L, t, K)) ⟨hL, hS⟩
  rintro ⟨L1, t1, K1⟩ ⟨L2, t2, K2⟩ ⟨h1, s1⟩ ⟨h2, s2⟩ ea eh
  simp only [List.cons.injEq, AV.ptr.injEq, and_true] at ea
  obtain ⟨e1, e2, e3⟩ := put_inj0 h1 h2 s1 s2 ea eh
  simp only at e1 e2
  subst e1 e2
  have el : K1.length = K2.length := by
    have := congrArg List.length eh
    simpa [put_len] using this
  refine ⟨by simp only [el], ?_⟩
  simp only [e3 t1 s1.m]
theorem empty_inv {args : List AV} {H : List Blk} {ob : Prop} {r : AV} {H' : List Blk} (e : gEmpty args H = some (ob, r, H')) :
    ∃ L t K, Lens L K ∧ Shape0 L t ∧ args = [.ptr L.p 1 29 0 0] ∧ H = putT L t K ∧ r = .own K.length (t.w + 1) ∧ H' = putT L t K ++ [R2B (rowE t)] := by
  obtain ⟨⟨L, t, K⟩, ⟨h1, h2⟩, e1, e2, e3, e4⟩ := anyG_inv e
  exact ⟨L, t, K, h1, h2, e1.symm, e2.symm, e3.symm, e4.symm⟩
theorem empty_call {L : Lay} {t : Tab} {K : List Blk} (hL : Lens L K) (hS : Shape0 L t) (X : List Blk) (hX : ∀ b ∈ X, b.deep = true) : gEmpty [.ptr L.p 1 29 0 0] (putT L t K ++ X) = some (True, .own (K.length + X.length) (t.w + 1), putT L t K ++ (X ++ [R2B (rowE t)])) := by
  have := empty_at (hL.app hX) hS
  rw [put_app hL, List.length_append, List.append_assoc] at this
  exact this
theorem tab_keep {L : Lay} {t' : Tab} {K X : List Blk} (h : Lens L K) (hX : ∀ b ∈ X, b.deep = true) {r : AV} (hr : r.cleanF (K.length + X.length) = true) : dropT K.length (putT L t' K ++ X) r (putT L t' K ++ X) :=
  ⟨K.length + X.length, Nat.le_add_right _ _, by rw [show K.length + X.length = (putT L t' K ++ X).length by rw [List.length_append, put_len], List.take_length], hr, fun b hb => by
    rcases List.mem_append.1 hb with hb | hb
    · exact (put_clean h t' b hb).imp id fun h1 r hr c hc => cleanF_mono (Nat.le_add_right _ _) (h1 r hr c hc)
    · exact .inl (hX b hb)⟩
theorem enc_rep (n : Nat) (a : Fr) : encRows (List.replicate n a) = List.replicate n (Enc.cells a) := by unfold encRows; rw [List.map_replicate]
theorem rowE_eq (t : Tab) : mixF (t.w + 1) (fun _ => F01) (List.replicate (t.w + 1) F00) = rowE t := by
  refine List.ext_getElem (by rw [mixF_len]; simp [rowE]) fun j h1 h2 => ?_
  rw [mixF_len, List.length_replicate] at h1
  have := mixF_ix (k := t.w + 1) (g := fun _ => F01) (row := List.replicate (t.w + 1) F00) (j := j) (by simpa using h1)
  rw [ix_lt (by rw [mixF_len]; simpa using h1), if_pos h1] at this
  rw [this]
  exact (List.getElem_replicate (a := F01) (n := t.w + 1) (h := h2)).symm
set_option maxHeartbeats 16000000 in
theorem emptyTP : GenOK Tryd.prog G0 60 gEmpty := by
  refine gen_of_avcD (C := CEm) sigCEm mixCEm [1] Tryd.func60 rfl rfl rfl (by kernel_rfl) (fun avs H ob r H' hp hob => ?_)
  obtain ⟨L, t, K, hL, hS, rfl, rfl, rfl, rfl⟩ := empty_inv hp
  clear hp hob ob
  refine ⟨(by show 1 ≤ _; decide), ?_⟩
  have G := get0 (t := t) hL
  have gp0 := G.p []
  rw [List.append_nil] at gp0
  have gp := G.p
  have gl0 := G.l0
  have gl := G.l
  have sl0 := G.sl0
  have hw : t.w ≤ 36 := by have := hS.n12; have := hS.m24; unfold Tab.w; omega
  have hl := tC_len (L := L) hS.bas
  have i1 : w64 ((t.w : Int) + 1) = (t.w : Int) + 1 := w64_in (by unfold I64; omega)
  simp [aev, cav, look, acallPure, abin, abinN, abinP, abinI, abinS, aun, aconv, afield, afieldAddr, aindexAddr, aindex, aslice, alow, ahigh, abuild, abuildGo, cellsOf, splice, fieldTy, alen, apick, amax, amin, aload, headV, aparts, abuildSlice, elParts, abytesStr, astore, amake, aappend, aclear, anew, arith, aresults, aresList, ares, spec0, spec1, spec2, spec3, spec4, eqCells, eqCell, argsρ, put_len]
  refine AW_regionF sigCEm mixCEm [.pure, .pure, .pure, .read, .pure, .pure, .pure, .read, .pure, .pure, .eff, .pure] [[],[0],[0,1],[1,0,2],[],[4],[4,5],[5,4,6],[6,4,5,7,2,0,1,3],[3,1,0,2,7,5,4,6,8],[8,6,4,5,7,2,0,1,3,9],[9,3,1,0,2,7,5,4,6,8,10]] (by kernel_rfl) (by kernel_rfl) (by kernel_rfl) (by kernel_rfl) ?_
  simp [aev, cav, look, acallPure, abin, abinN, abinP, abinI, abinS, aun, aconv, afield, afieldAddr, aindexAddr, aindex, aslice, alow, ahigh, abuild, abuildGo, cellsOf, splice, fieldTy, alen, apick, amax, amin, aload, headV, aparts, abuildSlice, elParts, abytesStr, astore, amake, aappend, aclear, anew, arith, aresults, aresList, ares, spec0, spec1, spec2, spec3, spec4, eqCells, eqCell, gp0, hl, tC_e0, tC_e1, put_len, shape_w0 hS, i1]
  have e0 : putT L t K ++ [⟨29, 2, List.replicate (t.w + 1) [.int .i64 0, .int .i64 0], true, true⟩] = putT L t K ++ [R2B (mixF 0 (fun _ => F01) (List.replicate (t.w + 1) F00))] := by rw [mixF_zero]; unfold R2B; rw [enc_rep]; rfl
  refine ⟨⟨by omega, by omega, by omega⟩, ?_⟩
  refine loop_ruleH (C := CEm) sigCEm mixCEm [1] (fun k : Nat => ⟨[(3, .own K.length (t.w + 1)), (17, .int .i64 ((t.w : Int) + 1)), (18, .int .i64 k)], putT L t K ++ [R2B (mixF k (fun _ => F01) (List.replicate (t.w + 1) F00))]⟩) (fun k => k ≤ t.w + 1) (fun k => t.w + 1 - k) (by kernel_rfl) ⟨0, by simp, weak_eq (by simp) e0⟩ (fun k hk => ?_)
  have hm := mixF_len k (fun _ => F01) (List.replicate (t.w + 1) F00)
  rw [List.length_replicate] at hm
  by_cases hkl : k < t.w + 1
  · have hkl' : (k : Int) < (t.w : Int) + 1 := by omega
    have i2 : I64 ((k : Int) + 1) := by unfold I64; omega
    simp [aev, cav, look, acallPure, abin, abinN, abinP, abinI, abinS, aun, aconv, afield, afieldAddr, aindexAddr, aindex, aslice, alow, ahigh, abuild, abuildGo, cellsOf, splice, fieldTy, alen, apick, amax, amin, aload, headV, aparts, abuildSlice, elParts, abytesStr, astore, amake, aappend, aclear, anew, arith, aresults, aresList, ares, spec0, spec1, spec2, spec3, spec4, eqCells, eqCell, R2B, put_len, gl0, sl0, hkl', hkl, hm, i2, rowAt_enc]
    refine ⟨k + 1, by omega, by omega, weak_eq (by simp) ?_⟩
    rw [mixF_set (g := fun _ => F01) (v := F01) rfl (by rw [List.length_replicate]; exact hkl)]
  · have hke : k = t.w + 1 := by omega
    subst hke
    rw [rowE_eq]
    simp [aev, cav, look, acallPure, abin, abinN, abinP, abinI, abinS, aun, aconv, afield, afieldAddr, aindexAddr, aindex, aslice, alow, ahigh, abuild, abuildGo, cellsOf, splice, fieldTy, alen, apick, amax, amin, aload, headV, aparts, abuildSlice, elParts, abytesStr, astore, amake, aappend, aclear, anew, arith, aresults, aresList, ares, spec0, spec1, spec2, spec3, spec4, eqCells, eqCell, put_len]
    exact tab_keep hL (by simp [R2B]) (by simp [AV.cleanF, AV.clean2, AV.clean1])
end Go.Proofs.YtifbaegnkodneaaDoor

/-
  layer 30: leaving — the row that leaves.
-/
namespace Go.Proofs.YtifbaegnkodneaaDoor
open Go.RowKit
set_option linter.unusedSimpArgs false
set_option linter.unusedVariables false
set_option maxRecDepth 100000

/-- Whether row k, at ratio r, goes ahead of s at low. -/
def lvTest (t : Tab) (s : Int) (low : Fr) (k : Nat) (r : Fr) : Prop := s < 0 ∨ cmpF r low < 0 ∨ (cmpF r low = 0 ∧ ix t.basis k < ix t.basis s.toNat)
instance (t : Tab) (s : Int) (low : Fr) (k : Nat) (r : Fr) : Decidable (lvTest t s low k r) := inferInstanceAs (Decidable (_ ∨ _ ∨ (_ ∧ _)))
/-- The best of the first k rows; none: too great. -/
def lvK (t : Tab) (j : Nat) : Nat → Option (Int × Fr)
  | 0 => some (-1, F00)
  | k + 1 => match lvK t j k with
    | none => none
    | some (s, low) => if (ix (ix t.rows k) j).N ≤ 0 then some (s, low) else match divO (ix (ix t.rows k) t.w) (ix (ix t.rows k) j) with
      | none => none
      | some r => if lvTest t s low k r then some ((k : Int), r) else some (s, low)
theorem lvK_none {t : Tab} {j k : Nat} (h : lvK t j k = none) : ∀ n, lvK t j (k + n) = none
  | 0 => h
  | n + 1 => by
    show lvK t j ((k + n) + 1) = none
    unfold lvK
    rw [lvK_none h n]
theorem lvK_s {t : Tab} {j : Nat} : ∀ {k : Nat} {s : Int} {low : Fr}, lvK t j k = some (s, low) → s = -1 ∨ (0 ≤ s ∧ s < k)
  | 0, s, low, h => by unfold lvK at h; injection h with h; injection h with h1 h2; exact .inl h1.symm
  | k + 1, s, low, h => by
    unfold lvK at h
    cases h1 : lvK t j k with
    | none => rw [h1] at h; cases h
    | some p =>
      obtain ⟨s', low'⟩ := p
      have ih := lvK_s h1
      rw [h1] at h
      simp only at h
      split at h
      · injection h with h; injection h with h2 h3; omega
      · split at h
        · cases h
        · split at h
          · injection h with h; injection h with h2 h3; omega
          · injection h with h; injection h with h2 h3; omega
theorem lvK_succ {t : Tab} {j k : Nat} {s : Int} {low : Fr} (h : lvK t j k = some (s, low)) : lvK t j (k + 1) = if (ix (ix t.rows k) j).N ≤ 0 then some (s, low) else match divO (ix (ix t.rows k) t.w) (ix (ix t.rows k) j) with
      | none => none
      | some r => if lvTest t s low k r then some ((k : Int), r) else some (s, low) := by
  conv => { lhs; unfold lvK; rw [h] }
/-- The row; -1 for none. Whether it was too great. -/
def leavF (t : Tab) (j : Nat) : Int × Bool := match lvK t j t.m with
  | none => (-1, true)
  | some (s, _) => (s, false)
def aJ : Lay → Tab → Nat → List AV := fun _ _ i => [.int .i64 i]
noncomputable def gLeav := tabG aJ (fun _ t j => j < t.w) (fun t j => .int .i64 (leavF t j).1) (fun t j => orT t (leavF t j).2)
theorem okLeav : TabOK aJ (fun _ t j => j < t.w) (fun t j => orT t (leavF t j).2) where
  inj := fun {L t K x x'} _ _ _ _ e => by
    unfold aJ at e
    simp only [List.cons.injEq, AV.int.injEq, and_true, true_and] at e
    omega
  rows := fun s _ => s.m
theorem leav_call {L : Lay} {K : List Blk} {t : Tab} (hL : Lens L K) (hS : Shape L t) {j : Nat} (hj : j < t.w) (X : List Blk) (hX : ∀ b ∈ X, b.deep = true) : gLeav [.ptr L.p 1 29 0 0, .int .i64 j] (putT L t K ++ X) = some (True, .int .i64 (leavF t j).1, putT L (orT t (leavF t j).2) K ++ X) :=
  tabG_call okLeav (x := j) hL hS hj X hX
theorem rowAt_q {L : Lay} {N k : Nat} (h : k < L.r.length) : rowAt (L.r.map fun l => [AV.own l N]) k = [.own (ix L.r k) N] := by
  rw [rowAt_get (by simpa using h), List.getElem_map, ix_lt h]
noncomputable def CLv : Ctx := mkC Tryd.prog G0 [(87, .pure sDivF), (35, .pure sCmpF)]
@[simp] theorem CLv_P : CLv.P = Tryd.prog := rfl
@[simp] theorem CLv_G : CLv.G = G0 := rfl
@[simp] theorem CLv_1 : CLv.S 87 = .pure sDivF := rfl
@[simp] theorem CLv_2 : CLv.S 35 = .pure sCmpF := rfl
theorem mixCLv : CLv.P.follows .mixedOrders = true := mixed
theorem sigCLv : SigOK CLv := sigOK_cons (entryPure (divP) Tryd.func87 rfl (by decide)) (sigOK_cons (entryPure (cmpP) Tryd.func35 rfl (by decide)) (sigOK_nil _ _))
set_option maxHeartbeats 16000000 in
theorem leavTP : GenOK Tryd.prog G0 82 gLeav := by
  refine gen_of_avcD (C := CLv) sigCLv mixCLv [7, 12, 13] Tryd.func82 rfl rfl rfl (by kernel_rfl) (fun avs H ob r H' hp hob => ?_)
  obtain ⟨L, t, K, j, hL, hS, hj, rfl, rfl, rfl, rfl⟩ := tabG_inv hp
  clear hp hob ob
  refine ⟨(by show 2 ≤ _; decide), ?_⟩
  simp only [aJ]
  have G := getT hL hS
  have gp := G.p
  have gq := G.q
  have gr := G.r
  have gl0 := G.l0
  have gl := G.l
  have sl0 := G.sl0
  have sl := G.sl
  have bs := hS.bas
  have hr := hS.r
  have hw : t.w ≤ 36 := by have := hS.n12; have := hS.m24; unfold Tab.w; omega
  have h24 := hS.m24
  have hl := tC_len (L := L) bs
  have sp := fun X => G.sp X { t with over := true } rfl rfl rfl
  have ts := tC_so (L := L) bs true
  simp [aev, cav, look, acallPure, abin, abinN, abinP, abinI, abinS, aun, aconv, afield, afieldAddr, aindexAddr, aindex, aslice, alow, ahigh, abuild, abuildGo, cellsOf, splice, fieldTy, alen, apick, amax, amin, aload, headV, aparts, abuildSlice, elParts, abytesStr, astore, amake, aappend, aclear, anew, arith, aresults, aresList, ares, spec0, spec1, spec2, spec3, spec4, eqCells, eqCell, argsρ, put_len, gp, gq, hl, tC_e2, hr]
  refine loop_ruleH (C := CLv) sigCLv mixCLv [7, 12, 13] (fun q : Nat × Int × Fr × List Blk => ⟨[(0, .ptr L.p 1 29 0 0), (1, .int .i64 j), (4, .int .i64 0), (5, .int .i64 q.2.1), (6, .ptr K.length 1 2 0 0), (15, .own L.q t.m), (16, .int .i64 t.m), (17, .int .i64 q.1)], putT L t K ++ (FB q.2.2.1 :: q.2.2.2)⟩) (fun q => q.1 ≤ t.m ∧ lvK t j q.1 = some (q.2.1, q.2.2.1)) (fun q => t.m - q.1) (by kernel_rfl) ⟨(0, -1, F00, []), ⟨by simp, rfl⟩, weak_eq (by simp) (by simp [FB, F00])⟩ (fun ⟨k, s, low, Z⟩ ⟨hk, hv⟩ => ?_)
  simp only at hk hv ⊢
  by_cases hkl : k < t.m
  · have hkl' : (k : Int) < (t.m : Int) := by omega
    have i2 : I64 ((k : Int) + 1) := by unfold I64; omega
    have hkr : k < L.r.length := by omega
    have hrow : (ix t.rows k).length = t.w + 1 := hS.row _ (ix_mem (by rw [hS.m]; exact hkl))
    have grk := fun X => gr X k hkl
    have hjw : j < t.w + 1 := by omega
    have hvS := lvK_succ hv
    by_cases hN : (ix (ix t.rows k) j).N ≤ 0
    · rw [if_pos hN] at hvS
      simp [aev, cav, look, acallPure, abin, abinN, abinP, abinI, abinS, aun, aconv, afield, afieldAddr, aindexAddr, aindex, aslice, alow, ahigh, abuild, abuildGo, cellsOf, splice, fieldTy, alen, apick, amax, amin, aload, headV, aparts, abuildSlice, elParts, abytesStr, astore, amake, aappend, aclear, anew, arith, aresults, aresList, ares, spec0, spec1, spec2, spec3, spec4, eqCells, eqCell, FB, put_len, gl0, gl, hkl, gq, hr, hkr, rowAt_q, grk, hrow, hjw, rowAt_enc, hN, i2]
      exact ⟨by omega, k + 1, s, low, ⟨by omega, hvS⟩, by omega, Z, weak_eq (by simp) rfl⟩
    rw [if_neg hN] at hvS
    simp [aev, cav, look, acallPure, abin, abinN, abinP, abinI, abinS, aun, aconv, afield, afieldAddr, aindexAddr, aindex, aslice, alow, ahigh, abuild, abuildGo, cellsOf, splice, fieldTy, alen, apick, amax, amin, aload, headV, aparts, abuildSlice, elParts, abytesStr, astore, amake, aappend, aclear, anew, arith, aresults, aresList, ares, spec0, spec1, spec2, spec3, spec4, eqCells, eqCell, FB, put_len, gl0, gl, hkl, gq, hr, hkr, rowAt_q, grk, hrow, hjw, rowAt_enc, hN]
    refine ⟨by omega, ?_⟩
    have em := div_ofO (ix (ix t.rows k) t.w) (ix (ix t.rows k) j)
    have hww := shape_w hS
    have htw : t.w < t.w + 1 := by omega
    refine AW_regionF sigCLv mixCLv [.pure, .pure, .pure, .pure, .read, .pure, .pure, .pure, .read, .pure, .pure, .read, .pure, .pure, .pure, .read, .read, .pure, .pure, .pure, .eff, .eff, .pure] [[],[],[1],[1,2],[2,1,3],[],[5],[5,6],[6,5,7],[7,5,6,8,3,1,2,4],[4,2,1,3,8,6,5,7,9,0],[0,9,7,5,6,8,3,1,2,4,10],[],[],[13,12],[12,13,14],[14,13,12,15,10,4,2,1,3,8,6,5,7,9,0,11],[11,0,9,7,5,6,8,3,1,2,4,10,15,12,13,14,16],[16,14,13,12,15,10,4,2,1,3,8,6,5,7,9,0,11,17],[16,14,13,12,15,10,4,2,1,3,8,6,5,7,9,0,11,17],[],[17,11,0,9,7,5,6,8,3,1,2,4,10,15,12,13,14,16,18,20],[20,18,21,17,11,0,9,7,5,6,8,3,1,2,4,10,15,12,13,14,16,19]] (by kernel_rfl) (by kernel_rfl) (by kernel_rfl) (by kernel_rfl) ?_
    cases hd : divO (ix (ix t.rows k) t.w) (ix (ix t.rows k) j) with
    | none =>
      rw [hd] at hvS em
      simp [aev, cav, look, acallPure, abin, abinN, abinP, abinI, abinS, aun, aconv, afield, afieldAddr, aindexAddr, aindex, aslice, alow, ahigh, abuild, abuildGo, cellsOf, splice, fieldTy, alen, apick, amax, amin, aload, headV, aparts, abuildSlice, elParts, abytesStr, astore, amake, aappend, aclear, anew, arith, aresults, aresList, ares, spec0, spec1, spec2, spec3, spec4, eqCells, eqCell, FB, put_len, gl0, gl, sl0, sl, gp, hl, tC_e0, tC_e1, hww, grk, hrow, hjw, htw, rowAt_enc, sDivF, em, ofO, F00, sp, ts]
      have e1 : leavF t j = (-1, true) := by
        unfold leavF
        have := lvK_none hvS (t.m - (k + 1))
        rw [show k + 1 + (t.m - (k + 1)) = t.m by omega] at this
        rw [this]
      rw [e1, orT_true]
      exact ⟨by omega, by omega, rfl, tab_drop hL (by simp [AV.cleanF, AV.clean2, AV.clean1])⟩
    | some r =>
      rw [hd] at hvS em
      simp [aev, cav, look, acallPure, abin, abinN, abinP, abinI, abinS, aun, aconv, afield, afieldAddr, aindexAddr, aindex, aslice, alow, ahigh, abuild, abuildGo, cellsOf, splice, fieldTy, alen, apick, amax, amin, aload, headV, aparts, abuildSlice, elParts, abytesStr, astore, amake, aappend, aclear, anew, arith, aresults, aresList, ares, spec0, spec1, spec2, spec3, spec4, eqCells, eqCell, FB, put_len, gl0, gl, sl0, sl, gp, hl, tC_e0, tC_e1, hww, grk, hrow, hjw, htw, rowAt_enc, sDivF, sCmpF, em, ofO]
      refine ⟨by omega, by omega, ?_⟩
      simp only at hvS
      obtain ⟨c, hc⟩ : ∃ c, cmpF r low = c := ⟨_, rfl⟩
      have hb24 : k < 24 := by omega
      have hbk := tC_b (L := L) bs hb24
      have hL1 : ∀ {s : Int}, s < 0 → lvTest t s low k r := fun h => .inl h
      have hL2 : ∀ {s : Int}, c < 0 → lvTest t s low k r := fun h => .inr (.inl (by rw [hc]; exact h))
      have hL3 : ∀ {n : Nat}, c = 0 → ix t.basis k < ix t.basis n → lvTest t n low k r := fun h h' => .inr (.inr ⟨by rw [hc]; exact h, by rw [Int.toNat_natCast]; exact h'⟩)
      have hL4 : ∀ {n : Nat}, ¬ c < 0 → (c = 0 → ¬ ix t.basis k < ix t.basis n) → ¬ lvTest t n low k r := fun h h' => by
        unfold lvTest
        rw [hc, Int.toNat_natCast]
        rintro (h1 | h1 | ⟨h1, h2⟩)
        · omega
        · exact h h1
        · exact h' h1 h2
      simp only [hc]
      refine AW_regionF sigCLv mixCLv [.pure, .pure, .pure, .pure, .pure, .pure, .pure, .pure, .pure, .pure, .pure, .pure, .pure, .pure, .pure, .read, .pure, .pure, .pure, .pure, .pure, .read, .pure, .pure, .pure] [[],[0],[0,1],[1,0,2],[2,0,1,3],[3,4,1,0,2],[2,0,1,4,3,5],[5,3,4,1,0,2,6],[6,2,0,1,4,3,5,7],[7,5,3,4,1,0,2,6,8],[8,6,2,0,1,4,3,5,7,9],[8,6,2,0,1,4,3,5,7,9],[9,7,5,3,4,1,0,2,6,8,10],[10,8,6,2,0,1,4,3,5,7,9,12],[11,12,9,7,5,3,4,1,0,2,6,8,10,13],[13,10,8,6,2,0,1,4,3,5,7,9,12,11,14],[8,6,2,0,1,4,3,5,7,9],[8,6,2,0,1,4,3,5,7,9],[9,7,5,3,4,1,0,2,6,8,16],[16,8,6,2,0,1,4,3,5,7,9,18],[17,18,9,7,5,3,4,1,0,2,6,8,16,19],[19,16,8,6,2,0,1,4,3,5,7,9,18,17,20],[20,17,18,16,19,21,14,11,12,9,7,5,3,4,1,0,2,6,8,10,13,15],[15,13,10,12,11,14,21,19,16,18,17,20,22,8,6,2,0,1,4,3,5,7,9],[9,7,8,22,20,17,18,16,19,21,14,11,12,10,13,15,23,5,3,4,1,0,2,6]] (by kernel_rfl) (by kernel_rfl) (by kernel_rfl) (by kernel_rfl) ?_
      rcases lvK_s hv with hs | ⟨hs, hsk⟩
      · subst hs
        rw [if_pos (hL1 (by decide))] at hvS
        simp [aev, cav, look, acallPure, abin, abinN, abinP, abinI, abinS, aun, aconv, afield, afieldAddr, aindexAddr, aindex, aslice, alow, ahigh, abuild, abuildGo, cellsOf, splice, fieldTy, alen, apick, amax, amin, aload, headV, aparts, abuildSlice, elParts, abytesStr, astore, amake, aappend, aclear, anew, arith, aresults, aresList, ares, spec0, spec1, spec2, spec3, spec4, eqCells, eqCell]
        refine AW_regionF sigCLv mixCLv [.pure, .read, .pure, .eff] [[],[],[0],[0,2,1]] (by kernel_rfl) (by kernel_rfl) (by kernel_rfl) (by kernel_rfl) ?_
        simp [aev, cav, look, acallPure, abin, abinN, abinP, abinI, abinS, aun, aconv, afield, afieldAddr, aindexAddr, aindex, aslice, alow, ahigh, abuild, abuildGo, cellsOf, splice, fieldTy, alen, apick, amax, amin, aload, headV, aparts, abuildSlice, elParts, abytesStr, astore, amake, aappend, aclear, anew, arith, aresults, aresList, ares, spec0, spec1, spec2, spec3, spec4, eqCells, eqCell, FB, put_len, gl0, gl, sl0, sl, i2]
        exact ⟨k + 1, k, r, ⟨by omega, hvS⟩, by omega, Z ++ [FB r], weak_eq (by simp) (by simp [FB])⟩
      · obtain ⟨sn, rfl⟩ : ∃ n : Nat, s = n := ⟨s.toNat, by omega⟩
        have hns : ¬ ((sn : Int) < 0) := by omega
        have hs24 : sn < 24 := by omega
        have hbs := tC_b (L := L) bs hs24
        rcases Int.lt_trichotomy c 0 with h1 | h1 | h1
        · rw [if_pos (hL2 h1)] at hvS
          simp [aev, cav, look, acallPure, abin, abinN, abinP, abinI, abinS, aun, aconv, afield, afieldAddr, aindexAddr, aindex, aslice, alow, ahigh, abuild, abuildGo, cellsOf, splice, fieldTy, alen, apick, amax, amin, aload, headV, aparts, abuildSlice, elParts, abytesStr, astore, amake, aappend, aclear, anew, arith, aresults, aresList, ares, spec0, spec1, spec2, spec3, spec4, eqCells, eqCell, h1, hns]
          refine AW_regionF sigCLv mixCLv [.pure, .read, .pure, .eff] [[],[],[0],[0,2,1]] (by kernel_rfl) (by kernel_rfl) (by kernel_rfl) (by kernel_rfl) ?_
          simp [aev, cav, look, acallPure, abin, abinN, abinP, abinI, abinS, aun, aconv, afield, afieldAddr, aindexAddr, aindex, aslice, alow, ahigh, abuild, abuildGo, cellsOf, splice, fieldTy, alen, apick, amax, amin, aload, headV, aparts, abuildSlice, elParts, abytesStr, astore, amake, aappend, aclear, anew, arith, aresults, aresList, ares, spec0, spec1, spec2, spec3, spec4, eqCells, eqCell, FB, put_len, gl0, gl, sl0, sl, i2]
          exact ⟨k + 1, k, r, ⟨by omega, hvS⟩, by omega, Z ++ [FB r], weak_eq (by simp) (by simp [FB])⟩
        · subst h1
          by_cases h2 : ix t.basis k < ix t.basis sn
          · rw [if_pos (hL3 rfl h2)] at hvS
            simp [aev, cav, look, acallPure, abin, abinN, abinP, abinI, abinS, aun, aconv, afield, afieldAddr, aindexAddr, aindex, aslice, alow, ahigh, abuild, abuildGo, cellsOf, splice, fieldTy, alen, apick, amax, amin, aload, headV, aparts, abuildSlice, elParts, abytesStr, astore, amake, aappend, aclear, anew, arith, aresults, aresList, ares, spec0, spec1, spec2, spec3, spec4, eqCells, eqCell, hns, gp, hl, hbk, hbs, hb24, hs24, h2]
            refine ⟨by omega, by omega, by omega, by omega, ?_⟩
            refine AW_regionF sigCLv mixCLv [.pure, .read, .pure, .eff] [[],[],[0],[0,2,1]] (by kernel_rfl) (by kernel_rfl) (by kernel_rfl) (by kernel_rfl) ?_
            simp [aev, cav, look, acallPure, abin, abinN, abinP, abinI, abinS, aun, aconv, afield, afieldAddr, aindexAddr, aindex, aslice, alow, ahigh, abuild, abuildGo, cellsOf, splice, fieldTy, alen, apick, amax, amin, aload, headV, aparts, abuildSlice, elParts, abytesStr, astore, amake, aappend, aclear, anew, arith, aresults, aresList, ares, spec0, spec1, spec2, spec3, spec4, eqCells, eqCell, FB, put_len, gl0, gl, sl0, sl, i2]
            exact ⟨k + 1, k, r, ⟨by omega, hvS⟩, by omega, Z ++ [FB r], weak_eq (by simp) (by simp [FB])⟩
          · rw [if_neg (hL4 (by omega) (fun _ => h2))] at hvS
            simp [aev, cav, look, acallPure, abin, abinN, abinP, abinI, abinS, aun, aconv, afield, afieldAddr, aindexAddr, aindex, aslice, alow, ahigh, abuild, abuildGo, cellsOf, splice, fieldTy, alen, apick, amax, amin, aload, headV, aparts, abuildSlice, elParts, abytesStr, astore, amake, aappend, aclear, anew, arith, aresults, aresList, ares, spec0, spec1, spec2, spec3, spec4, eqCells, eqCell, hns, gp, hl, hbk, hbs, hb24, hs24, h2, i2]
            refine ⟨by omega, by omega, by omega, by omega, ?_⟩
            exact ⟨k + 1, sn, low, ⟨by omega, hvS⟩, by omega, Z ++ [FB r], weak_eq (by simp) (by simp [FB])⟩
        · have h3 : ¬ c < 0 := by omega
          have h4 : ¬ c = 0 := by omega
          rw [if_neg (hL4 (by omega) (fun h => absurd h h4))] at hvS
          simp [aev, cav, look, acallPure, abin, abinN, abinP, abinI, abinS, aun, aconv, afield, afieldAddr, aindexAddr, aindex, aslice, alow, ahigh, abuild, abuildGo, cellsOf, splice, fieldTy, alen, apick, amax, amin, aload, headV, aparts, abuildSlice, elParts, abytesStr, astore, amake, aappend, aclear, anew, arith, aresults, aresList, ares, spec0, spec1, spec2, spec3, spec4, eqCells, eqCell, hns, h3, h4, i2]
          exact ⟨k + 1, sn, low, ⟨by omega, hvS⟩, by omega, Z ++ [FB r], weak_eq (by simp) (by simp [FB])⟩
  · have hke : k = t.m := by omega
    subst hke
    have e1 : leavF t j = (s, false) := by unfold leavF; rw [hv]
    rw [e1, orT_false]
    simp [aev, cav, look, acallPure, abin, abinN, abinP, abinI, abinS, aun, aconv, afield, afieldAddr, aindexAddr, aindex, aslice, alow, ahigh, abuild, abuildGo, cellsOf, splice, fieldTy, alen, apick, amax, amin, aload, headV, aparts, abuildSlice, elParts, abytesStr, astore, amake, aappend, aclear, anew, arith, aresults, aresList, ares, spec0, spec1, spec2, spec3, spec4, eqCells, eqCell, put_len]
    exact tab_drop hL (by simp [AV.cleanF, AV.clean2, AV.clean1])
end Go.Proofs.YtifbaegnkodneaaDoor

/-
  layer 30: pivot.
-/
namespace Go.Proofs.YtifbaegnkodneaaDoor
open Go.RowKit
set_option linter.unusedSimpArgs false
set_option linter.unusedVariables false
set_option maxRecDepth 100000

theorem clear_call {L : Lay} {K : List Blk} {t : Tab} (hL : Lens L K) (hS : Shape L t) {g : Option Nat} {f : Fr} {i : Nat} (hp : PreClr L t ⟨g, f, i⟩) (X : List Blk) (hX : ∀ b ∈ X, b.deep = true) : gClear [.ptr L.p 1 29 0 0, .own (tgtI L g) (t.w + 1), .agg [.int .i64 f.N, .int .i64 f.D], .own (ix L.r i) (t.w + 1)] (putT L t K ++ X) = some (True, .tup [], putT L (clrT t ⟨g, f, i⟩) K ++ X) :=
  tabG_call okClear (x := ⟨g, f, i⟩) hL hS hp X hX
section
variable {t : Tab}
theorem clrK_n (x : ClrX) (k : Nat) : (clrK t x k).n = t.n := by unfold clrK; cases x.tgt <;> rfl
theorem clrK_m (x : ClrX) (k : Nat) : (clrK t x k).m = t.m := by unfold clrK; cases x.tgt <;> rfl
theorem clrK_w (x : ClrX) (k : Nat) : (clrK t x k).w = t.w := by unfold Tab.w; rw [clrK_n, clrK_m]
theorem clrK_bas (x : ClrX) (k : Nat) : (clrK t x k).basis = t.basis := by unfold clrK; cases x.tgt <;> rfl
theorem clrK_cost (x : ClrX) (k : Nat) : (clrK t x k).cost.length = t.cost.length := by
  unfold clrK
  cases h : x.tgt with
  | none => exact mixF_len _ _ _
  | some q => rfl
/-- Row i divided by its element j, the first k of it. -/
def pvK (t : Tab) (i j k : Nat) : Tab := orT (setTgt t (some i) (mixF k (fun c => (dvP (ix (ix t.rows i) c) (ix (ix t.rows i) j)).1) (ix t.rows i))) (anyK k fun c => (dvP (ix (ix t.rows i) c) (ix (ix t.rows i) j)).2)
def elim1 (t : Tab) (i j r : Nat) : Tab := if r ≠ i ∧ (ix (ix t.rows r) j).N ≠ 0 then clrT t ⟨some r, ix (ix t.rows r) j, i⟩ else t
def elimK (t : Tab) (i j : Nat) : Nat → Tab
  | 0 => t
  | k + 1 => elim1 (elimK t i j k) i j k
def elimC (t : Tab) (i j : Nat) : Tab := if t.cost ≠ [] ∧ (ix t.cost j).N ≠ 0 then clrT t ⟨none, ix t.cost j, i⟩ else t
def elimT (t : Tab) (i j : Nat) : Tab := elimC (elimK (pvK t i j (t.w + 1)) i j t.m) i j
def pivF (t : Tab) (i j : Nat) : Tab := { elimT t i j with basis := (elimT t i j).basis.set i j }
theorem pvK_n (i j k : Nat) : (pvK t i j k).n = t.n := rfl
theorem pvK_m (i j k : Nat) : (pvK t i j k).m = t.m := rfl
theorem elim1_n (i j r : Nat) : (elim1 t i j r).n = t.n := by unfold elim1; split; exact clrK_n _ _; rfl
theorem elim1_m (i j r : Nat) : (elim1 t i j r).m = t.m := by unfold elim1; split; exact clrK_m _ _; rfl
theorem elim1_bas (i j r : Nat) : (elim1 t i j r).basis = t.basis := by unfold elim1; split; exact clrK_bas _ _; rfl
theorem elim1_cost (i j r : Nat) : (elim1 t i j r).cost.length = t.cost.length := by unfold elim1; split; exact clrK_cost _ _; rfl
theorem elimK_n (i j : Nat) : ∀ k, (elimK t i j k).n = t.n
  | 0 => rfl
  | k + 1 => (elim1_n i j k).trans (elimK_n i j k)
theorem elimK_m (i j : Nat) : ∀ k, (elimK t i j k).m = t.m
  | 0 => rfl
  | k + 1 => (elim1_m i j k).trans (elimK_m i j k)
theorem elimK_bas (i j : Nat) : ∀ k, (elimK t i j k).basis = t.basis
  | 0 => rfl
  | k + 1 => (elim1_bas i j k).trans (elimK_bas i j k)
theorem elimK_cost (i j : Nat) : ∀ k, (elimK t i j k).cost.length = t.cost.length
  | 0 => rfl
  | k + 1 => (elim1_cost i j k).trans (elimK_cost i j k)
theorem elimC_n (i j : Nat) : (elimC t i j).n = t.n := by unfold elimC; split; exact clrK_n _ _; rfl
theorem elimC_m (i j : Nat) : (elimC t i j).m = t.m := by unfold elimC; split; exact clrK_m _ _; rfl
theorem elimC_bas (i j : Nat) : (elimC t i j).basis = t.basis := by unfold elimC; split; exact clrK_bas _ _; rfl
theorem elimC_cost (i j : Nat) : (elimC t i j).cost.length = t.cost.length := by unfold elimC; split; exact clrK_cost _ _; rfl
theorem pivF_n (i j : Nat) : (pivF t i j).n = t.n := by show (elimT t i j).n = t.n; unfold elimT; rw [elimC_n, elimK_n]; rfl
theorem pivF_m (i j : Nat) : (pivF t i j).m = t.m := by show (elimT t i j).m = t.m; unfold elimT; rw [elimC_m, elimK_m]; rfl
theorem pivF_w (i j : Nat) : (pivF t i j).w = t.w := by unfold Tab.w; rw [pivF_n, pivF_m]
theorem pivF_bas (i j : Nat) : (pivF t i j).basis = t.basis.set i j := by show (elimT t i j).basis.set i j = _; unfold elimT; rw [elimC_bas, elimK_bas]; rfl
theorem pivF_cost (i j : Nat) : (pivF t i j).cost.length = t.cost.length := by show (elimT t i j).cost.length = _; unfold elimT; rw [elimC_cost, elimK_cost]; rfl
end
section
variable {L : Lay} {t : Tab}
theorem pvK_shape (hS : Shape L t) {i : Nat} (hi : i < t.m) (j k : Nat) : Shape L (pvK t i j k) :=
  shape_or (shape_tgt hS (fun h => by cases h) (by rw [mixF_len]; exact hS.row _ (ix_mem (by rw [hS.m]; exact hi)))) _
theorem elim1_pre {i j r : Nat} (hr : r < t.m) (hi : i < t.m) (h : r ≠ i) (f : Fr) : PreClr L t ⟨some r, f, i⟩ := ⟨hi, fun k hk => by injection hk with hk; subst hk; exact ⟨hr, h⟩, fun h => by cases h⟩
theorem elim1_shape (hS : Shape L t) {i r : Nat} (hi : i < t.m) (hr : r < t.m) (j : Nat) : Shape L (elim1 t i j r) := by
  unfold elim1
  split
  · rename_i h
    exact clrK_shape hS (elim1_pre (j := j) hr hi h.1 _) _
  · exact hS
theorem elimK_shape (hS : Shape L t) {i : Nat} (hi : i < t.m) (j : Nat) : ∀ {k}, k ≤ t.m → Shape L (elimK t i j k)
  | 0, _ => hS
  | k + 1, h => elim1_shape (elimK_shape hS hi j (by omega)) (by rw [elimK_m]; exact hi) (by rw [elimK_m]; omega) j
theorem elimC_pre {i : Nat} (hS : Shape L t) (hi : i < t.m) (h : t.cost ≠ []) (f : Fr) : PreClr L t ⟨none, f, i⟩ := ⟨hi, fun k hk => (by cases hk), fun _ => (hS.cost.resolve_left (fun h' => h h'.2)).2⟩
theorem elimC_shape (hS : Shape L t) {i : Nat} (hi : i < t.m) (j : Nat) : Shape L (elimC t i j) := by
  unfold elimC
  split
  · rename_i h
    exact clrK_shape hS (elimC_pre hS hi h.1 _) _
  · exact hS
theorem elimT_shape (hS : Shape L t) {i : Nat} (hi : i < t.m) (j : Nat) : Shape L (elimT t i j) :=
  elimC_shape (elimK_shape (pvK_shape hS hi j _) hi j (by rw [pvK_m]; exact Nat.le_refl _)) (by rw [elimK_m]; exact hi) j
theorem shape_bas (hS : Shape L t) (i : Nat) {j : Int} (h : 0 ≤ j ∧ j ≤ 1000) : Shape L { t with basis := t.basis.set i j } :=
  ⟨hS.m, hS.r, hS.n1, hS.n12, hS.m24, hS.row, hS.cost, by show (t.basis.set i j).length = 24; rw [List.length_set]; exact hS.bas, fun b hb => (List.mem_or_eq_of_mem_set hb).elim (hS.b64 b) (fun e => by rw [e]; exact h)⟩
theorem shape_w36 (hS : Shape L t) : t.w ≤ 36 := by
  have := hS.n12
  have := hS.m24
  unfold Tab.w
  omega
theorem pivF_shape (hS : Shape L t) {i j : Nat} (hi : i < t.m) (hj : j < t.w) : Shape L (pivF t i j) := shape_bas (elimT_shape hS hi j) i (by have := shape_w36 hS; omega)
end
structure PrePiv (L : Lay) (t : Tab) (x : Nat × Nat) : Prop where
  i : x.1 < t.m
  j : x.2 < t.w
def aIJ : Lay → Tab → Nat × Nat → List AV := fun _ _ x => [.int .i64 x.1, .int .i64 x.2]
noncomputable def gPiv := tabG aIJ PrePiv (fun _ _ => .tup []) (fun t x => pivF t x.1 x.2)
theorem okPiv : TabOK aIJ PrePiv (fun t x => pivF t x.1 x.2) where
  inj := fun {L t K x x'} _ _ _ _ e => by
    obtain ⟨a, b⟩ := x
    obtain ⟨a', b'⟩ := x'
    unfold aIJ at e
    simp only [List.cons.injEq, AV.int.injEq, and_true, true_and] at e
    obtain ⟨e1, e2⟩ := e
    congr 1 <;> omega
  rows := fun {L t x} s h => by rw [(pivF_shape s h.i h.j).m, pivF_m]
theorem piv_call {L : Lay} {K : List Blk} {t : Tab} (hL : Lens L K) (hS : Shape L t) {i j : Nat} (hi : i < t.m) (hj : j < t.w) (X : List Blk) (hX : ∀ b ∈ X, b.deep = true) : gPiv [.ptr L.p 1 29 0 0, .int .i64 i, .int .i64 j] (putT L t K ++ X) = some (True, .tup [], putT L (pivF t i j) K ++ X) :=
  tabG_call okPiv (x := (i, j)) hL hS ⟨hi, hj⟩ X hX
end Go.Proofs.YtifbaegnkodneaaDoor

/-
  layer 30: pivot, the program's side.
-/
namespace Go.Proofs.YtifbaegnkodneaaDoor
open Go.RowKit
set_option linter.unusedSimpArgs false
set_option linter.unusedVariables false
set_option maxRecDepth 100000

theorem dvP_eq (a p : Fr) : dvP a p = match divO a p with
  | some q => (q, false)
  | none => (F01, true) := rfl
theorem pvK_zero {t : Tab} (i j : Nat) : pvK t i j 0 = t := by
  unfold pvK
  rw [mixF_zero, anyK_zero, orT_false]
  show { t with rows := t.rows.set i (ix t.rows i) } = t
  by_cases hq : i < t.rows.length
  · rw [ix_lt hq, List.set_getElem_self]
  · rw [List.set_eq_of_length_le (by omega)]
theorem pvK_row {L : Lay} {t : Tab} (hS : Shape L t) {i : Nat} (hi : i < t.m) (j k : Nat) : ix (pvK t i j k).rows i = mixF k (fun c => (dvP (ix (ix t.rows i) c) (ix (ix t.rows i) j)).1) (ix t.rows i) := by
  show ix (t.rows.set i _) i = _
  rw [ix_lt (by rw [List.length_set, hS.m]; exact hi), List.getElem_set_self]
theorem pvK_succ {L : Lay} {t : Tab} (hS : Shape L t) {i j k : Nat} (hi : i < t.m) (hk : k < t.w + 1) :
    setTgt (orT (pvK t i j k) (dvP (ix (ix t.rows i) k) (ix (ix t.rows i) j)).2) (some i) ((mixF k (fun c => (dvP (ix (ix t.rows i) c) (ix (ix t.rows i) j)).1) (ix t.rows i)).set k (dvP (ix (ix t.rows i) k) (ix (ix t.rows i) j)).1) = pvK t i j (k + 1) := by
  have hrow : (ix t.rows i).length = t.w + 1 := hS.row _ (ix_mem (by rw [hS.m]; exact hi))
  rw [mixF_set (g := fun c => (dvP (ix (ix t.rows i) c) (ix (ix t.rows i) j)).1) (v := (dvP (ix (ix t.rows i) k) (ix (ix t.rows i) j)).1) rfl (by rw [hrow]; exact hk)]
  unfold pvK
  rw [anyK_succ]
  unfold setTgt orT
  simp [Bool.or_assoc]
section
variable {L : Lay} {t : Tab} {K : List Blk} (G : GetT L t K)
include G
theorem GetT.p0 : (putT L t K)[L.p]? = some ⟨54, 29, [tC L t], true, false⟩ := by have := G.p []; rwa [List.append_nil] at this
theorem GetT.q0 : (putT L t K)[L.q]? = some ⟨23, 1, L.r.map fun l => [.own l (t.w + 1)], true, false⟩ := by have := G.q []; rwa [List.append_nil] at this
theorem GetT.c0 {c : Nat} (hc : L.c = some c) : (putT L t K)[c]? = some ⟨29, 2, encRows t.cost, true, true⟩ := by have := G.c [] c hc; rwa [List.append_nil] at this
theorem GetT.r0 {i : Nat} (hi : i < t.m) : (putT L t K)[ix L.r i]? = some ⟨29, 2, encRows (ix t.rows i), true, true⟩ := by have := G.r [] i hi; rwa [List.append_nil] at this
end
theorem piv_fin {L : Lay} {t V : Tab} {K : List Blk} {i j : Nat} (hL : Lens L K) (hS : Shape L V) (hi : i < 24) (hV : elimT t i j = V) (Z : List Blk) :
    dropT K.length ((putT L V K ++ Z).set L.p ⟨54, 29, [List.take (4 + i) (tC L V) ++ AV.int .i64 j :: List.drop (4 + i + 1) (tC L V)], true, false⟩) (AV.tup []) (putT L (pivF t i j) K) := by
  rw [tC_sb hS.bas hi j, (getT hL hS).sp Z { V with basis := V.basis.set i j } rfl rfl rfl]
  have : pivF t i j = { V with basis := V.basis.set i j } := by rw [← hV]; rfl
  rw [this]
  exact tab_drop hL (by simp [AV.cleanF, AV.clean2, AV.clean1])
noncomputable def CPv : Ctx := mkC Tryd.prog G0 [(87, .pure sDivF), (39, .pure (spec0 (Enc.enc F01))), (62, .gen gClear)]
@[simp] theorem CPv_P : CPv.P = Tryd.prog := rfl
@[simp] theorem CPv_G : CPv.G = G0 := rfl
@[simp] theorem CPv_1 : CPv.S 87 = .pure sDivF := rfl
@[simp] theorem CPv_2 : CPv.S 39 = .pure (spec0 (Enc.enc F01)) := rfl
@[simp] theorem CPv_3 : CPv.S 62 = .gen gClear := rfl
theorem mixCPv : CPv.P.follows .mixedOrders = true := mixed
theorem sigCPv : SigOK CPv := sigOK_cons (entryPure (divP) Tryd.func87 rfl (by decide)) (sigOK_cons (entryPure (zeroP) Tryd.func39 rfl (by decide)) (sigOK_cons (entryGen (clearTP) Tryd.func62 rfl (by decide)) (sigOK_nil _ _)))
set_option maxHeartbeats 16000000 in
theorem pivTP : GenOK Tryd.prog G0 83 gPiv := by
  refine gen_of_avcD (C := CPv) sigCPv mixCPv [8, 15, 18] Tryd.func83 rfl rfl rfl (by kernel_rfl) (fun avs H ob r H' hp hob => ?_)
  obtain ⟨L, t, K, ⟨i, j⟩, hL, hS, ⟨hi, hj⟩, rfl, rfl, rfl, rfl⟩ := tabG_inv hp
  clear hp hob ob
  refine ⟨(by show 3 ≤ _; decide), ?_⟩
  simp only at hi hj
  simp only [aIJ]
  have G := getT hL hS
  have gp := G.p
  have gq := G.q
  have gri := fun X => G.r X i hi
  have hl := tC_len (L := L) hS.bas
  have hr := hS.r
  have hw := shape_w36 hS
  have hir : i < L.r.length := by omega
  have hjw : j < t.w + 1 := by omega
  have h24 := hS.m24
  have hrow : (ix t.rows i).length = t.w + 1 := hS.row _ (ix_mem (by rw [hS.m]; exact hi))
  have gp0 := G.p0
  have gq0 := G.q0
  have gri0 := G.r0 hi
  simp [aev, cav, look, acallPure, abin, abinN, abinP, abinI, abinS, aun, aconv, afield, afieldAddr, aindexAddr, aindex, aslice, alow, ahigh, abuild, abuildGo, cellsOf, splice, fieldTy, alen, apick, amax, amin, aload, headV, aparts, abuildSlice, elParts, abytesStr, astore, amake, aappend, aclear, anew, arith, aresults, aresList, ares, spec0, spec1, spec2, spec3, spec4, eqCells, eqCell, argsρ, put_len, gp, gq, gp0, gq0, gri0, hl, tC_e2, hr, hi, hir, rowAt_q, gri, hrow, hjw, rowAt_enc]
  refine ⟨by omega, ?_⟩
  have hS1 := fun k => pvK_shape hS hi j k
  refine loop_ruleH (C := CPv) sigCPv mixCPv [8, 15, 18] (fun q : Nat × List Blk => ⟨[(0, .ptr L.p 1 29 0 0), (1, .int .i64 i), (2, .int .i64 j), (6, .ptr K.length 1 2 0 0), (30, .own (ix L.r i) (t.w + 1)), (31, .int .i64 ((t.w : Int) + 1)), (32, .int .i64 q.1)], putT L (pvK t i j q.1) K ++ (FB (ix (ix t.rows i) j) :: q.2)⟩) (fun q => q.1 ≤ t.w + 1 ∧ ∀ b ∈ q.2, b.deep = true) (fun q => t.w + 1 - q.1) (by kernel_rfl) ⟨(0, []), ⟨by simp, by simp⟩, weak_eq (by simp) (by rw [pvK_zero]; rfl)⟩ (fun ⟨k, Z⟩ ⟨hk, hZ⟩ => ?_)
  simp only at hk hZ ⊢
  by_cases hkl : k < t.w + 1
  · have hkl' : (k : Int) < (t.w : Int) + 1 := by omega
    have i2 : I64 ((k : Int) + 1) := by unfold I64; omega
    have hstep := pvK_succ hS (j := j) hi hkl
    obtain ⟨g, hg⟩ : ∃ g, (fun c => (dvP (ix (ix t.rows i) c) (ix (ix t.rows i) j)).1) = g := ⟨_, rfl⟩
    have hR := pvK_row hS hi j k
    rw [hg] at hR hstep
    have hmx := mixF_ix (k := k) (g := g) (show k < (ix t.rows i).length by omega)
    rw [if_neg (Nat.lt_irrefl k)] at hmx
    have hml := mixF_len k g (ix t.rows i)
    have hm1 : (pvK t i j k).m = t.m := rfl
    have hw1 : (pvK t i j k).w = t.w := rfl
    obtain ⟨T, hT⟩ : ∃ T, pvK t i j k = T := ⟨_, rfl⟩
    have hST := hS1 k
    rw [hT] at hR hm1 hw1 hST hstep
    rw [hT]
    have G1 := getT hL hST
    have p1 := G1.p
    have q1 : ∀ X, (putT L T K ++ X)[L.q]? = some ⟨23, 1, L.r.map fun l => [.own l (t.w + 1)], true, false⟩ := fun X => by rw [G1.q X, hw1]
    have r1 : ∀ X, (putT L T K ++ X)[ix L.r i]? = some ⟨29, 2, encRows (mixF k g (ix t.rows i)), true, true⟩ := fun X => by rw [G1.r X i (by omega), hR]
    have l1 := G1.l0
    have m1 := G1.l
    have sl1 := G1.sl0
    have sm1 := G1.sl
    have n1 := tC_len (L := L) hST.bas
    have sr1 := G1.sr
    have hj0 : ix (ix t.rows i) j = ix (ix t.rows i) j := rfl
    have em := div_ofO (ix (ix t.rows i) k) (ix (ix t.rows i) j)
    cases hd : divO (ix (ix t.rows i) k) (ix (ix t.rows i) j) with
    | none =>
      have e1 : dvP (ix (ix t.rows i) k) (ix (ix t.rows i) j) = (F01, true) := by rw [dvP_eq, hd]
      rw [hd] at em
      rw [e1] at hstep
      simp only at hstep
      have hSo := shape_or hST true
      have G2 := getT hL hSo
      have p2 := G2.p
      have q2 : ∀ X, (putT L (orT T true) K ++ X)[L.q]? = some ⟨23, 1, L.r.map fun l => [.own l (t.w + 1)], true, false⟩ := fun X => by rw [G2.q X, ← hw1]; rfl
      have r2 : ∀ X, (putT L (orT T true) K ++ X)[ix L.r i]? = some ⟨29, 2, encRows (mixF k g (ix t.rows i)), true, true⟩ := fun X => by rw [G2.r X i (show i < T.m by omega), ← hR]; rfl
      have l2 := G2.l0
      have m2 := G2.l
      have sl2 := G2.sl0
      have sm2 := G2.sl
      have n2 := tC_len (L := L) hSo.bas
      have sp : ∀ X, (putT L T K ++ X).set L.p ⟨54, 29, [tC L (orT T true)], true, false⟩ = putT L (orT T true) K ++ X := fun X => G1.sp X (orT T true) rfl rfl rfl
      have ts : List.take 28 (tC L T) ++ AV.bool true :: List.drop 29 (tC L T) = tC L (orT T true) := by rw [tC_so hST.bas true, orT_true]
      have hstep2 := fun X => (G2.sr X i ((mixF k g (ix t.rows i)).set k F01) (show i < T.m by omega)).trans (congrArg (fun u => putT L u K ++ X) hstep)
      simp [aev, cav, look, acallPure, abin, abinN, abinP, abinI, abinS, aun, aconv, afield, afieldAddr, aindexAddr, aindex, aslice, alow, ahigh, abuild, abuildGo, cellsOf, splice, fieldTy, alen, apick, amax, amin, aload, headV, aparts, abuildSlice, elParts, abytesStr, astore, amake, aappend, aclear, anew, arith, aresults, aresList, ares, spec0, spec1, spec2, spec3, spec4, eqCells, eqCell, FB, put_len, hkl', hkl, r1, hml, hrow, hmx, rowAt_enc, p1, l1, m1, sl1, sm1, n1, sDivF, em, ofO, F00, sp, ts, l2, m2, sl2, sm2]
      refine AW_regionF sigCPv mixCPv [.pure, .pure, .pure, .read, .pure, .pure, .read, .pure, .read, .pure, .eff] [[],[0],[0,1],[1,0,2],[],[4,2,0,1,3],[3,1,0,2,4,5],[],[],[8,7,5,4,2,0,1,3,6],[6,3,1,0,2,4,5,7,8,9]] (by kernel_rfl) (by kernel_rfl) (by kernel_rfl) (by kernel_rfl) ?_
      have hr' : L.r.length = T.m := by omega
      simp [aev, cav, look, acallPure, abin, abinN, abinP, abinI, abinS, aun, aconv, afield, afieldAddr, aindexAddr, aindex, aslice, alow, ahigh, abuild, abuildGo, cellsOf, splice, fieldTy, alen, apick, amax, amin, aload, headV, aparts, abuildSlice, elParts, abytesStr, astore, amake, aappend, aclear, anew, arith, aresults, aresList, ares, spec0, spec1, spec2, spec3, spec4, eqCells, eqCell, FB, put_len, p2, q2, r2, l2, m2, sl2, sm2, n2, tC_e2, show (orT T true).m = t.m from hm1, hr, hi, hir, hkl, rowAt_q, hml, hrow, hmx, rowAt_enc, i2]
      exact ⟨by omega, k + 1, Z ++ [FB (ix (ix t.rows i) k), FB F01], ⟨by omega, (by
        intro b hb
        rcases List.mem_append.1 hb with hb | hb
        · exact hZ b hb
        · simp at hb
          rcases hb with rfl | rfl <;> rfl)⟩, by omega, weak_eq (by simp) ((hstep2 _).trans (by simp [FB]))⟩
    | some d =>
      have e1 : dvP (ix (ix t.rows i) k) (ix (ix t.rows i) j) = (d, false) := by rw [dvP_eq, hd]
      rw [hd] at em
      rw [e1, orT_false] at hstep
      simp only at hstep
      have hstep2 := fun X => (G1.sr X i ((mixF k g (ix t.rows i)).set k d) (show i < T.m by omega)).trans (congrArg (fun u => putT L u K ++ X) hstep)
      simp [aev, cav, look, acallPure, abin, abinN, abinP, abinI, abinS, aun, aconv, afield, afieldAddr, aindexAddr, aindex, aslice, alow, ahigh, abuild, abuildGo, cellsOf, splice, fieldTy, alen, apick, amax, amin, aload, headV, aparts, abuildSlice, elParts, abytesStr, astore, amake, aappend, aclear, anew, arith, aresults, aresList, ares, spec0, spec1, spec2, spec3, spec4, eqCells, eqCell, FB, put_len, hkl', hkl, r1, hml, hrow, hmx, rowAt_enc, p1, l1, m1, sl1, sm1, n1, sDivF, em, ofO]
      refine AW_regionF sigCPv mixCPv [.pure, .pure, .pure, .read, .pure, .pure, .read, .pure, .read, .pure, .eff] [[],[0],[0,1],[1,0,2],[],[4,2,0,1,3],[3,1,0,2,4,5],[],[],[8,7,5,4,2,0,1,3,6],[6,3,1,0,2,4,5,7,8,9]] (by kernel_rfl) (by kernel_rfl) (by kernel_rfl) (by kernel_rfl) ?_
      simp [aev, cav, look, acallPure, abin, abinN, abinP, abinI, abinS, aun, aconv, afield, afieldAddr, aindexAddr, aindex, aslice, alow, ahigh, abuild, abuildGo, cellsOf, splice, fieldTy, alen, apick, amax, amin, aload, headV, aparts, abuildSlice, elParts, abytesStr, astore, amake, aappend, aclear, anew, arith, aresults, aresList, ares, spec0, spec1, spec2, spec3, spec4, eqCells, eqCell, FB, put_len, p1, q1, r1, l1, m1, sl1, sm1, n1, tC_e2, hm1, hr, hi, hir, hkl, rowAt_q, hml, hrow, hmx, rowAt_enc, i2]
      exact ⟨by omega, k + 1, Z ++ [FB (ix (ix t.rows i) k), FB d], ⟨by omega, (by
        intro b hb
        rcases List.mem_append.1 hb with hb | hb
        · exact hZ b hb
        · simp at hb
          rcases hb with rfl | rfl <;> rfl)⟩, by omega, weak_eq (by simp) ((hstep2 _).trans (by simp [FB]))⟩
  · have hke : k = t.w + 1 := by omega
    subst hke
    have hST := hS1 (t.w + 1)
    have hm1 : (pvK t i j (t.w + 1)).m = t.m := rfl
    have hw1 : (pvK t i j (t.w + 1)).w = t.w := rfl
    have hcl : (pvK t i j (t.w + 1)).cost = t.cost := rfl
    obtain ⟨T, hT⟩ : ∃ T, pvK t i j (t.w + 1) = T := ⟨_, rfl⟩
    rw [hT] at hm1 hw1 hST hcl
    rw [hT]
    have G1 := getT hL hST
    have p1 := G1.p
    have q1 : ∀ X, (putT L T K ++ X)[L.q]? = some ⟨23, 1, L.r.map fun l => [.own l (t.w + 1)], true, false⟩ := fun X => by rw [G1.q X, hw1]
    have n1 := tC_len (L := L) hST.bas
    simp [aev, cav, look, acallPure, abin, abinN, abinP, abinI, abinS, aun, aconv, afield, afieldAddr, aindexAddr, aindex, aslice, alow, ahigh, abuild, abuildGo, cellsOf, splice, fieldTy, alen, apick, amax, amin, aload, headV, aparts, abuildSlice, elParts, abytesStr, astore, amake, aappend, aclear, anew, arith, aresults, aresList, ares, spec0, spec1, spec2, spec3, spec4, eqCells, eqCell, put_len, p1, n1, tC_e2, hr]
    refine loop_ruleH (C := CPv) sigCPv mixCPv [8, 15, 18] (fun q : Nat × List Blk => ⟨[(0, .ptr L.p 1 29 0 0), (1, .int .i64 i), (2, .int .i64 j), (63, .own L.q t.m), (64, .int .i64 t.m), (65, .int .i64 q.1)], putT L (elimK T i j q.1) K ++ q.2⟩) (fun q => q.1 ≤ t.m ∧ ∀ b ∈ q.2, b.deep = true) (fun q => t.m - q.1) (by kernel_rfl) ⟨(0, FB (ix (ix t.rows i) j) :: Z), ⟨by simp, by simpa [FB] using hZ⟩, weak_eq (by simp) rfl⟩ (fun ⟨k, Z⟩ ⟨hk, hZ⟩ => ?_)
    simp only at hk hZ ⊢
    have hSU := elimK_shape hST (show i < T.m by omega) j (show k ≤ T.m by omega)
    have hmU := (elimK_m (t := T) i j k).trans hm1
    have hwU : (elimK T i j k).w = t.w := by rw [← hw1]; unfold Tab.w; rw [elimK_n, elimK_m]
    by_cases hkl : k < t.m
    · have hkl' : (k : Int) < (t.m : Int) := by omega
      have i2 : I64 ((k : Int) + 1) := by unfold I64; omega
      have hU : elimK T i j (k + 1) = elim1 (elimK T i j k) i j k := rfl
      obtain ⟨U, hUU⟩ : ∃ U, elimK T i j k = U := ⟨_, rfl⟩
      rw [hUU] at hSU hmU hwU hU
      rw [hUU]
      have G2 := getT hL hSU
      have p2 := G2.p
      have q2 : ∀ X, (putT L U K ++ X)[L.q]? = some ⟨23, 1, L.r.map fun l => [.own l (t.w + 1)], true, false⟩ := fun X => by rw [G2.q X, hwU]
      have r2 := fun X => G2.r X k (by omega)
      have l2 := G2.l0
      have m2 := G2.l
      have sl2 := G2.sl0
      have sm2 := G2.sl
      have n2 := tC_len (L := L) hSU.bas
      have hkr : k < L.r.length := by omega
      have hrk : (ix U.rows k).length = t.w + 1 := by rw [← hwU]; exact hSU.row _ (ix_mem (by rw [hSU.m]; omega))
      by_cases hki : k = i
      · have hU : elimK T i j (k + 1) = U := by rw [hU]; exact if_neg (fun h => h.1 hki)
        subst hki
        simp [aev, cav, look, acallPure, abin, abinN, abinP, abinI, abinS, aun, aconv, afield, afieldAddr, aindexAddr, aindex, aslice, alow, ahigh, abuild, abuildGo, cellsOf, splice, fieldTy, alen, apick, amax, amin, aload, headV, aparts, abuildSlice, elParts, abytesStr, astore, amake, aappend, aclear, anew, arith, aresults, aresList, ares, spec0, spec1, spec2, spec3, spec4, eqCells, eqCell, FB, put_len, hkl', hkl, q2, r2, hr, hkr, rowAt_q, hrk, hjw, rowAt_enc, l2, m2, sl2, sm2, i2]
        exact ⟨by omega, k + 1, Z ++ [FB (ix (ix U.rows k) j)], ⟨by omega, (by
          intro b hb
          rcases List.mem_append.1 hb with hb | hb
          · exact hZ b hb
          · rw [List.mem_singleton] at hb
            rw [hb]
            rfl)⟩, by omega, weak_eq (by simp) (by rw [hU]; simp [FB])⟩
      have hki' : ¬ (k : Int) = i := by omega
      by_cases hN : (ix (ix U.rows k) j).N = 0
      · have hU : elimK T i j (k + 1) = U := by rw [hU]; exact if_neg (fun h => h.2 hN)
        simp [aev, cav, look, acallPure, abin, abinN, abinP, abinI, abinS, aun, aconv, afield, afieldAddr, aindexAddr, aindex, aslice, alow, ahigh, abuild, abuildGo, cellsOf, splice, fieldTy, alen, apick, amax, amin, aload, headV, aparts, abuildSlice, elParts, abytesStr, astore, amake, aappend, aclear, anew, arith, aresults, aresList, ares, spec0, spec1, spec2, spec3, spec4, eqCells, eqCell, FB, put_len, hkl', hkl, q2, r2, hr, hkr, rowAt_q, hrk, hjw, rowAt_enc, l2, m2, sl2, sm2, hki', hN, i2]
        exact ⟨by omega, k + 1, Z ++ [FB (ix (ix U.rows k) j)], ⟨by omega, (by
          intro b hb
          rcases List.mem_append.1 hb with hb | hb
          · exact hZ b hb
          · rw [List.mem_singleton] at hb
            rw [hb]
            rfl)⟩, by omega, weak_eq (by simp) (by rw [hU]; simp [FB, hN])⟩
      have hU : elimK T i j (k + 1) = clrT U ⟨some k, ix (ix U.rows k) j, i⟩ := by rw [hU]; exact if_pos ⟨hki, hN⟩
      simp [aev, cav, look, acallPure, abin, abinN, abinP, abinI, abinS, aun, aconv, afield, afieldAddr, aindexAddr, aindex, aslice, alow, ahigh, abuild, abuildGo, cellsOf, splice, fieldTy, alen, apick, amax, amin, aload, headV, aparts, abuildSlice, elParts, abytesStr, astore, amake, aappend, aclear, anew, arith, aresults, aresList, ares, spec0, spec1, spec2, spec3, spec4, eqCells, eqCell, FB, put_len, hkl', hkl, q2, r2, hr, hkr, rowAt_q, hrk, hjw, rowAt_enc, l2, m2, sl2, sm2, hki', hN]
      refine ⟨by omega, ?_⟩
      have hcall := clear_call (g := some k) (f := ix (ix U.rows k) j) (i := i) hL hSU (elim1_pre (j := j) (by omega) (by omega) hki _) (Z ++ [FB (ix (ix U.rows k) j)]) (by
          intro b hb
          rcases List.mem_append.1 hb with hb | hb
          · exact hZ b hb
          · rw [List.mem_singleton] at hb
            rw [hb]
            rfl)
      simp only [tgtI, hwU, ← hU, FB] at hcall
      have ri2 := fun X => G2.r X i (by omega)
      refine AW_regionF sigCPv mixCPv [.pure, .pure, .read, .pure, .pure, .pure, .read, .pure, .pure, .read, .eff] [[],[],[],[],[3],[3,4],[4,3,5],[],[7,5,3,4,6],[6,4,3,5,7,8],[8,7,5,3,4,6,9,2,1,0]] (by kernel_rfl) (by kernel_rfl) (by kernel_rfl) (by kernel_rfl) ?_
      simp [aev, cav, look, acallPure, abin, abinN, abinP, abinI, abinS, aun, aconv, afield, afieldAddr, aindexAddr, aindex, aslice, alow, ahigh, abuild, abuildGo, cellsOf, splice, fieldTy, alen, apick, amax, amin, aload, headV, aparts, abuildSlice, elParts, abytesStr, astore, amake, aappend, aclear, anew, arith, aresults, aresList, ares, spec0, spec1, spec2, spec3, spec4, eqCells, eqCell, FB, put_len, p2, n2, tC_e2, q2, hmU, hr, hi, hir, rowAt_q, l2, m2, hcall, i2]
      exact ⟨k + 1, Z ++ [FB (ix (ix U.rows k) j)], ⟨by omega, (by
          intro b hb
          rcases List.mem_append.1 hb with hb | hb
          · exact hZ b hb
          · rw [List.mem_singleton] at hb
            rw [hb]
            rfl)⟩, by omega, weak_eq (by simp) (by simp [FB])⟩
    · have hke : k = t.m := by omega
      subst hke
      have hUT : elimT t i j = elimC (elimK T i j t.m) i j := by unfold elimT; rw [hT]
      have hcU := (elimK_cost (t := T) i j t.m).trans (congrArg List.length hcl)
      obtain ⟨U, hUU⟩ : ∃ U, elimK T i j t.m = U := ⟨_, rfl⟩
      rw [hUU] at hSU hmU hwU hUT hcU
      rw [hUU]
      have G2 := getT hL hSU
      have p2 := G2.p
      have q2 : ∀ X, (putT L U K ++ X)[L.q]? = some ⟨23, 1, L.r.map fun l => [.own l (t.w + 1)], true, false⟩ := fun X => by rw [G2.q X, hwU]
      have l2 := G2.l0
      have m2 := G2.l
      have c2 := G2.c
      have n2 := tC_len (L := L) hSU.bas
      have h24i : i < 24 := by omega
      by_cases hc0 : U.cost = []
      · have hV : elimT t i j = U := by rw [hUT]; exact if_neg (fun h => h.1 hc0)
        have hcn : L.c = none := hSU.cost.elim (fun h => h.1) (fun h => by rw [hc0] at h; have := h.2; simp at this)
        simp [aev, cav, look, acallPure, abin, abinN, abinP, abinI, abinS, aun, aconv, afield, afieldAddr, aindexAddr, aindex, aslice, alow, ahigh, abuild, abuildGo, cellsOf, splice, fieldTy, alen, apick, amax, amin, aload, headV, aparts, abuildSlice, elParts, abytesStr, astore, amake, aappend, aclear, anew, arith, aresults, aresList, ares, spec0, spec1, spec2, spec3, spec4, eqCells, eqCell, put_len, p2, n2, tC_e3, hcn, cC]
        exact ⟨by omega, by omega, piv_fin hL hSU h24i hV Z⟩
      obtain ⟨⟨cc, hcc⟩, hcl2⟩ := hSU.cost.resolve_left (fun h => hc0 h.2)
      have c2 := fun X => c2 X cc hcc
      rw [hwU] at hcl2
      by_cases hN : (ix U.cost j).N = 0
      · have hV : elimT t i j = U := by rw [hUT]; exact if_neg (fun h => h.2 hN)
        simp [aev, cav, look, acallPure, abin, abinN, abinP, abinI, abinS, aun, aconv, afield, afieldAddr, aindexAddr, aindex, aslice, alow, ahigh, abuild, abuildGo, cellsOf, splice, fieldTy, alen, apick, amax, amin, aload, headV, aparts, abuildSlice, elParts, abytesStr, astore, amake, aappend, aclear, anew, arith, aresults, aresList, ares, spec0, spec1, spec2, spec3, spec4, eqCells, eqCell, put_len, p2, n2, tC_e3, hcc, cC, hcl2, c2, hjw, rowAt_enc, hN]
        exact ⟨by omega, by omega, by omega, piv_fin hL hSU h24i hV Z⟩
      have hV : elimT t i j = clrT U ⟨none, ix U.cost j, i⟩ := by rw [hUT]; exact if_pos ⟨hc0, hN⟩
      have hcall := clear_call (g := none) (f := ix U.cost j) (i := i) hL hSU (elimC_pre hSU (by omega) hc0 _) Z hZ
      simp only [tgtI, hwU, ← hV, hcc, Option.getD_some] at hcall
      simp [aev, cav, look, acallPure, abin, abinN, abinP, abinI, abinS, aun, aconv, afield, afieldAddr, aindexAddr, aindex, aslice, alow, ahigh, abuild, abuildGo, cellsOf, splice, fieldTy, alen, apick, amax, amin, aload, headV, aparts, abuildSlice, elParts, abytesStr, astore, amake, aappend, aclear, anew, arith, aresults, aresList, ares, spec0, spec1, spec2, spec3, spec4, eqCells, eqCell, put_len, p2, n2, tC_e3, hcc, cC, hcl2, c2, hjw, rowAt_enc, hN]
      refine ⟨by omega, ?_⟩
      refine AW_regionF sigCPv mixCPv [.pure, .pure, .pure, .pure, .read, .pure, .pure, .pure, .read, .pure, .pure, .read, .pure, .pure, .pure, .read, .pure, .pure, .read, .eff] [[],[],[1],[1,2],[2,1,3],[],[5],[5,6],[6,5,7],[],[9,7,5,6,8],[8,6,5,7,9,10],[],[12],[12,13],[13,12,14],[],[16,14,12,13,15],[15,13,12,14,16,17],[17,16,14,12,13,15,18,10,9,7,5,6,8,11,3,1,2,4,0]] (by kernel_rfl) (by kernel_rfl) (by kernel_rfl) (by kernel_rfl) ?_
      have hSV := elimT_shape hS hi j
      obtain ⟨V, hVV⟩ : ∃ V, elimT t i j = V := ⟨_, rfl⟩
      rw [hVV] at hSV hcall
      have p3 := (getT hL hSV).p
      have n3 := tC_len (L := L) hSV.bas
      simp [aev, cav, look, acallPure, abin, abinN, abinP, abinI, abinS, aun, aconv, afield, afieldAddr, aindexAddr, aindex, aslice, alow, ahigh, abuild, abuildGo, cellsOf, splice, fieldTy, alen, apick, amax, amin, aload, headV, aparts, abuildSlice, elParts, abytesStr, astore, amake, aappend, aclear, anew, arith, aresults, aresList, ares, spec0, spec1, spec2, spec3, spec4, eqCells, eqCell, put_len, p2, n2, tC_e2, tC_e3, hcc, cC, hcl2, c2, q2, hmU, hr, hi, hir, rowAt_q, hjw, rowAt_enc, hcall, p3, n3]
      exact ⟨by omega, by omega, by omega, piv_fin hL hSV h24i hVV Z⟩
end Go.Proofs.YtifbaegnkodneaaDoor

/-
  layer 30: phase — pivots until nothing enters.
-/
namespace Go.Proofs.YtifbaegnkodneaaDoor
open Go.RowKit
set_option linter.unusedSimpArgs false
set_option linter.unusedVariables false
set_option maxRecDepth 100000

theorem tC_e28 {L : Lay} {t : Tab} (s : t.basis.length = 24) (h : 28 < (tC L t).length) : (tC L t)[28]'h = .bool t.over := by
  have := tC_28 (L := L) s
  rw [List.getElem?_eq_getElem h] at this
  injection this
/-- The first of the first k columns whose cost is below zero. -/
def entK (t : Tab) : Nat → Option Nat
  | 0 => none
  | k + 1 => match entK t k with
    | some j => some j
    | none => if (ix t.cost k).N < 0 then some k else none
def enterF (t : Tab) : Option Nat := entK t t.w
theorem entK_mono {t : Tab} {k j : Nat} (h : entK t k = some j) : ∀ n, entK t (k + n) = some j
  | 0 => h
  | n + 1 => by
    show entK t ((k + n) + 1) = some j
    unfold entK
    rw [entK_mono h n]
theorem entK_succ {t : Tab} {k : Nat} (h : entK t k = none) : entK t (k + 1) = if (ix t.cost k).N < 0 then some k else none := by
  conv => { lhs; unfold entK; rw [h] }
def stepF (t : Tab) : (Bool × Tab) ⊕ Tab :=
  if t.over then .inl (true, t) else match enterF t with
  | none => .inl (true, t)
  | some j => if (leavF t j).2 then .inl (true, orT t true) else if (leavF t j).1 < 0 then .inl (false, t) else .inr (pivF t (leavF t j).1.toNat j)
def runF : Nat → Tab → Option (Bool × Tab)
  | 0, _ => none
  | n + 1, t => match stepF t with
    | .inl r => some r
    | .inr t' => runF n t'
theorem runF_more : ∀ {n : Nat} {t : Tab} {r : Bool × Tab} (k : Nat), runF n t = some r → runF (n + k) t = some r
  | 0, _, _, _, h => by cases h
  | n + 1, t, r, k, h => by
    rw [show n + 1 + k = (n + k) + 1 by omega]
    unfold runF at h ⊢
    cases hs : stepF t with
    | inl q => rw [hs] at h; exact h
    | inr t' => rw [hs] at h; exact runF_more k h
def Halts (t : Tab) : Prop := ∃ r, ∃ n, runF n t = some r
open Classical in
noncomputable def phaseF (t : Tab) : Bool × Tab := if h : Halts t then h.choose else (false, t)
theorem phaseF_eq {t : Tab} {n : Nat} {r : Bool × Tab} (h : runF n t = some r) : phaseF t = r := by
  have hx : Halts t := ⟨r, n, h⟩
  unfold phaseF
  rw [dif_pos hx]
  obtain ⟨k, hk⟩ := hx.choose_spec
  have h1 := runF_more k h
  have h2 := runF_more n hk
  rw [show k + n = n + k by omega, h1] at h2
  injection h2 with h2
  exact h2.symm
theorem leavF_in (t : Tab) (j : Nat) (h : ¬ (leavF t j).1 < 0) : ∃ i : Nat, i < t.m ∧ (leavF t j).1 = i := by
  unfold leavF at h ⊢
  cases h1 : lvK t j t.m with
  | none => rw [h1] at h; simp at h
  | some p =>
    obtain ⟨s, low⟩ := p
    rw [h1] at h
    simp only at h ⊢
    have := lvK_s h1
    exact ⟨s.toNat, by omega, by omega⟩
theorem entK_lt {t : Tab} : ∀ {k j : Nat}, entK t k = some j → j < k
  | 0, _, h => by cases h
  | k + 1, j, h => by
    cases h1 : entK t k with
    | some i =>
      have := entK_lt h1
      unfold entK at h
      rw [h1] at h
      injection h with h
      omega
    | none =>
      rw [entK_succ h1] at h
      split at h
      · injection h with h; omega
      · cases h
/-- What a phase leaves as it was. -/
structure Kin (t u : Tab) : Prop where
  n : u.n = t.n
  m : u.m = t.m
  cost : u.cost.length = t.cost.length
theorem Kin.w {t u : Tab} (h : Kin t u) : u.w = t.w := by unfold Tab.w; rw [h.n, h.m]
theorem Kin.refl (t : Tab) : Kin t t := ⟨rfl, rfl, rfl⟩
theorem Kin.trans {t u v : Tab} (h : Kin t u) (h' : Kin u v) : Kin t v := ⟨h'.n.trans h.n, h'.m.trans h.m, h'.cost.trans h.cost⟩
theorem kin_piv (t : Tab) (i j : Nat) : Kin t (pivF t i j) := ⟨pivF_n i j, pivF_m i j, pivF_cost i j⟩
theorem kin_or (t : Tab) (b : Bool) : Kin t (orT t b) := ⟨rfl, rfl, rfl⟩
theorem stepF_shape {L : Lay} {t : Tab} (hS : Shape L t) : match stepF t with
    | .inl r => Shape L r.2 ∧ Kin t r.2
    | .inr u => Shape L u ∧ Kin t u := by
  unfold stepF
  split
  · rename_i q h
    split at h
    · injection h with h; subst h; exact ⟨hS, Kin.refl t⟩
    · split at h
      · injection h with h; subst h; exact ⟨hS, Kin.refl t⟩
      · split at h
        · injection h with h; subst h; exact ⟨shape_or hS true, kin_or t true⟩
        · split at h
          · injection h with h; subst h; exact ⟨hS, Kin.refl t⟩
          · cases h
  · rename_i u h
    split at h
    · cases h
    · split at h
      · cases h
      · rename_i j hj
        split at h
        · cases h
        · split at h
          · cases h
          · rename_i hn
            injection h with h
            obtain ⟨i, hi, hii⟩ := leavF_in t j hn
            subst h
            rw [hii]
            exact ⟨pivF_shape hS (by simpa using hi) (entK_lt hj), kin_piv t _ j⟩
theorem runF_shape {L : Lay} : ∀ {n : Nat} {t : Tab} {r : Bool × Tab}, Shape L t → runF n t = some r → Shape L r.2 ∧ Kin t r.2
  | 0, _, _, _, h => by cases h
  | n + 1, t, r, hS, h => by
    have hs := stepF_shape hS
    unfold runF at h
    cases h1 : stepF t with
    | inl q =>
      rw [h1] at h hs
      injection h with h
      subst h
      exact hs
    | inr u =>
      rw [h1] at h hs
      have := runF_shape hs.1 h
      exact ⟨this.1, hs.2.trans this.2⟩
theorem phaseF_shape {L : Lay} {t : Tab} (hS : Shape L t) (h : Halts t) : Shape L (phaseF t).2 ∧ Kin t (phaseF t).2 := by
  obtain ⟨r, n, hn⟩ := h
  rw [phaseF_eq hn]
  exact runF_shape hS hn
structure PrePh (L : Lay) (t : Tab) (_ : Unit) : Prop where
  c : t.cost.length = t.w + 1
  h : Halts t
noncomputable def gPhase := tabG (fun _ _ (_ : Unit) => []) PrePh (fun t _ => .bool (phaseF t).1) (fun t _ => (phaseF t).2)
theorem okPhase : TabOK (fun _ _ (_ : Unit) => []) PrePh (fun t _ => (phaseF t).2) where
  inj := fun _ _ _ _ _ => rfl
  rows := fun {L t x} s h => by
    obtain ⟨h1, h2⟩ := phaseF_shape s h.h
    rw [h1.m, h2.m]
theorem phase_call {L : Lay} {K : List Blk} {t : Tab} (hL : Lens L K) (hS : Shape L t) (hc : t.cost.length = t.w + 1) (hh : Halts t) (X : List Blk) (hX : ∀ b ∈ X, b.deep = true) : gPhase [.ptr L.p 1 29 0 0] (putT L t K ++ X) = some (True, .bool (phaseF t).1, putT L (phaseF t).2 K ++ X) :=
  tabG_call okPhase (x := ()) hL hS ⟨hc, hh⟩ X hX
noncomputable def CPh : Ctx := mkC Tryd.prog G0 [(82, .gen gLeav), (83, .gen gPiv)]
@[simp] theorem CPh_P : CPh.P = Tryd.prog := rfl
@[simp] theorem CPh_G : CPh.G = G0 := rfl
@[simp] theorem CPh_1 : CPh.S 82 = .gen gLeav := rfl
@[simp] theorem CPh_2 : CPh.S 83 = .gen gPiv := rfl
theorem mixCPh : CPh.P.follows .mixedOrders = true := mixed
theorem sigCPh : SigOK CPh := sigOK_cons (entryGen (leavTP) Tryd.func82 rfl (by decide)) (sigOK_cons (entryGen (pivTP) Tryd.func83 rfl (by decide)) (sigOK_nil _ _))
set_option maxHeartbeats 16000000 in
theorem phaseTP : GenOK Tryd.prog G0 63 gPhase := by
  refine gen_of_avcD (C := CPh) sigCPh mixCPh [2] Tryd.func63 rfl rfl rfl (by kernel_rfl) (fun avs H ob r H' hp hob => ?_)
  obtain ⟨L, t, K, x, hL, hS, ⟨hct, hh⟩, rfl, rfl, rfl, rfl⟩ := tabG_inv hp
  clear hp hob ob
  refine ⟨(by show 1 ≤ _; decide), ?_⟩
  obtain ⟨R, n, hn⟩ := hh
  rw [phaseF_eq hn]
  simp [aev, cav, look, acallPure, abin, abinN, abinP, abinI, abinS, aun, aconv, afield, afieldAddr, aindexAddr, aindex, aslice, alow, ahigh, abuild, abuildGo, cellsOf, splice, fieldTy, alen, apick, amax, amin, aload, headV, aparts, abuildSlice, elParts, abytesStr, astore, amake, aappend, aclear, anew, arith, aresults, aresList, ares, spec0, spec1, spec2, spec3, spec4, eqCells, eqCell, argsρ, put_len]
  refine loop_ruleH (C := CPh) sigCPh mixCPh [2] (fun q : Nat × Tab => ⟨[(0, .ptr L.p 1 29 0 0), (2, .bool false)], putT L q.2 K⟩) (fun q => runF q.1 q.2 = some R ∧ Shape L q.2 ∧ Kin t q.2) (fun q => q.1) (by kernel_rfl) ⟨(n, t), ⟨hn, hS, Kin.refl t⟩, weak_eq (by simp) rfl⟩ (fun ⟨n, U⟩ ⟨hn, hSU, hK⟩ => ?_)
  simp only at hn hSU hK ⊢
  have G1 := getT hL hSU
  have p1 := G1.p0
  have n1 := tC_len (L := L) hSU.bas
  have hw := shape_w36 hSU
  have hcU : U.cost.length = U.w + 1 := by rw [hK.cost, hct, hK.w]
  cases n with
  | zero => cases hn
  | succ n =>
    unfold runF at hn
    by_cases ho : U.over = true
    · have hs : stepF U = .inl (true, U) := if_pos ho
      rw [hs] at hn
      injection hn with hn
      subst hn
      simp [aev, cav, look, acallPure, abin, abinN, abinP, abinI, abinS, aun, aconv, afield, afieldAddr, aindexAddr, aindex, aslice, alow, ahigh, abuild, abuildGo, cellsOf, splice, fieldTy, alen, apick, amax, amin, aload, headV, aparts, abuildSlice, elParts, abytesStr, astore, amake, aappend, aclear, anew, arith, aresults, aresList, ares, spec0, spec1, spec2, spec3, spec4, eqCells, eqCell, put_len, p1, n1, tC_e28 hSU.bas, ho]
      exact tab_drop0 hL (by simp [AV.cleanF, AV.clean2, AV.clean1])
    have ho' : U.over = false := by simpa using ho
    have hs : stepF U = match enterF U with
      | none => .inl (true, U)
      | some j => if (leavF U j).2 then .inl (true, orT U true) else if (leavF U j).1 < 0 then .inl (false, U) else .inr (pivF U (leavF U j).1.toNat j) := if_neg ho
    rw [hs] at hn
    simp [aev, cav, look, acallPure, abin, abinN, abinP, abinI, abinS, aun, aconv, afield, afieldAddr, aindexAddr, aindex, aslice, alow, ahigh, abuild, abuildGo, cellsOf, splice, fieldTy, alen, apick, amax, amin, aload, headV, aparts, abuildSlice, elParts, abytesStr, astore, amake, aappend, aclear, anew, arith, aresults, aresList, ares, spec0, spec1, spec2, spec3, spec4, eqCells, eqCell, put_len, p1, n1, tC_e28 hSU.bas, ho']
    refine AW_regionF sigCPh mixCPh [.pure, .pure, .pure, .read, .pure, .pure, .pure, .read, .pure, .pure] [[],[0],[0,1],[1,0,2],[],[4],[4,5],[5,4,6],[6,4,5,7,2,0,1,3],[]] (by kernel_rfl) (by kernel_rfl) (by kernel_rfl) (by kernel_rfl) ?_
    simp [aev, cav, look, acallPure, abin, abinN, abinP, abinI, abinS, aun, aconv, afield, afieldAddr, aindexAddr, aindex, aslice, alow, ahigh, abuild, abuildGo, cellsOf, splice, fieldTy, alen, apick, amax, amin, aload, headV, aparts, abuildSlice, elParts, abytesStr, astore, amake, aappend, aclear, anew, arith, aresults, aresList, ares, spec0, spec1, spec2, spec3, spec4, eqCells, eqCell, put_len, p1, n1, tC_e0, tC_e1, shape_w hSU]
    refine loop_ruleH (C := CPh) sigCPh mixCPh [2] (fun j : Nat => ⟨[(0, .ptr L.p 1 29 0 0), (2, .bool false), (18, .int .i64 U.w), (19, .int .i64 j)], putT L U K⟩) (fun j => j ≤ U.w ∧ entK U j = none) (fun j => U.w - j) (by kernel_rfl) ⟨0, ⟨by simp, rfl⟩, weak_eq (by simp) rfl⟩ (fun j ⟨hj, he⟩ => ?_)
    by_cases hjl : j < U.w
    · have hjl' : (j : Int) < U.w := by omega
      have i2 : I64 ((j : Int) + 1) := by unfold I64; omega
      obtain ⟨cc, hcc⟩ := cost_some hSU hcU
      have c1 := G1.c0 hcc
      have hjc : j < U.w + 1 := by omega
      have he2 := entK_succ he
      by_cases hN : (ix U.cost j).N < 0
      · rw [if_pos hN] at he2
        have hent : enterF U = some j := by
          have := entK_mono he2 (U.w - (j + 1))
          rwa [show j + 1 + (U.w - (j + 1)) = U.w by omega] at this
        rw [hent] at hn
        simp only at hn
        have hNp : ¬ 0 ≤ (ix U.cost j).N := by omega
        have hcall := leav_call hL hSU hjl [] (by simp)
        simp only [List.append_nil] at hcall
        obtain ⟨sv, ov, hv⟩ : ∃ sv ov, leavF U j = (sv, ov) := ⟨_, _, rfl⟩
        have hin := leavF_in U j
        rw [hv] at hn hcall hin
        cases ov with
        | true =>
          rw [if_pos rfl] at hn
          injection hn with hn
          subst hn
          have hSo := shape_or hSU true
          have p2 := (getT hL hSo).p0
          have n2 := tC_len (L := L) hSo.bas
          have e2 := tC_e28 (L := L) hSo.bas
          rw [show (orT U true).over = true by rw [orT_true]] at e2
          simp [aev, cav, look, acallPure, abin, abinN, abinP, abinI, abinS, aun, aconv, afield, afieldAddr, aindexAddr, aindex, aslice, alow, ahigh, abuild, abuildGo, cellsOf, splice, fieldTy, alen, apick, amax, amin, aload, headV, aparts, abuildSlice, elParts, abytesStr, astore, amake, aappend, aclear, anew, arith, aresults, aresList, ares, spec0, spec1, spec2, spec3, spec4, eqCells, eqCell, put_len, p1, n1, tC_e3, hcc, cC, c1, hcU, hjl, hjc, rowAt_enc, hNp, hcall, p2, n2, e2]
          exact ⟨by omega, tab_drop0 hL (by simp [AV.cleanF, AV.clean2, AV.clean1])⟩
        | false =>
          rw [if_neg (by simp)] at hn
          simp only [orT_false] at hcall
          by_cases hsn : sv < 0
          · rw [if_pos hsn] at hn
            injection hn with hn
            subst hn
            simp [aev, cav, look, acallPure, abin, abinN, abinP, abinI, abinS, aun, aconv, afield, afieldAddr, aindexAddr, aindex, aslice, alow, ahigh, abuild, abuildGo, cellsOf, splice, fieldTy, alen, apick, amax, amin, aload, headV, aparts, abuildSlice, elParts, abytesStr, astore, amake, aappend, aclear, anew, arith, aresults, aresList, ares, spec0, spec1, spec2, spec3, spec4, eqCells, eqCell, put_len, p1, n1, tC_e3, hcc, cC, c1, hcU, hjl, hjc, rowAt_enc, hNp, hcall, tC_e28 hSU.bas, ho', hsn]
            exact ⟨by omega, tab_drop0 hL (by simp [AV.cleanF, AV.clean2, AV.clean1])⟩
          · rw [if_neg hsn] at hn
            obtain ⟨i, hi, hii⟩ := hin hsn
            simp only at hii
            subst hii
            simp only [Int.toNat_natCast] at hn
            have hpc := piv_call hL hSU hi hjl [] (by simp)
            simp only [List.append_nil] at hpc
            simp [aev, cav, look, acallPure, abin, abinN, abinP, abinI, abinS, aun, aconv, afield, afieldAddr, aindexAddr, aindex, aslice, alow, ahigh, abuild, abuildGo, cellsOf, splice, fieldTy, alen, apick, amax, amin, aload, headV, aparts, abuildSlice, elParts, abytesStr, astore, amake, aappend, aclear, anew, arith, aresults, aresList, ares, spec0, spec1, spec2, spec3, spec4, eqCells, eqCell, put_len, p1, n1, tC_e3, hcc, cC, c1, hcU, hjl, hjc, rowAt_enc, hNp, hcall, tC_e28 hSU.bas, ho', hsn, hpc]
            exact ⟨by omega, n, pivF U i j, ⟨hn, pivF_shape hSU hi hjl, hK.trans (kin_piv U i j)⟩, by omega, weak_eq (by simp) rfl⟩
      · rw [if_neg hN] at he2
        have hNp : 0 ≤ (ix U.cost j).N := by omega
        simp [aev, cav, look, acallPure, abin, abinN, abinP, abinI, abinS, aun, aconv, afield, afieldAddr, aindexAddr, aindex, aslice, alow, ahigh, abuild, abuildGo, cellsOf, splice, fieldTy, alen, apick, amax, amin, aload, headV, aparts, abuildSlice, elParts, abytesStr, astore, amake, aappend, aclear, anew, arith, aresults, aresList, ares, spec0, spec1, spec2, spec3, spec4, eqCells, eqCell, put_len, p1, n1, tC_e3, hcc, cC, c1, hcU, hjl, hjc, rowAt_enc, hNp, i2]
        exact ⟨by omega, j + 1, ⟨by omega, he2⟩, by omega, weak_eq (by simp) rfl⟩
    · have hje : j = U.w := by omega
      subst hje
      have hent : enterF U = none := he
      rw [hent] at hn
      injection hn with hn
      subst hn
      simp [aev, cav, look, acallPure, abin, abinN, abinP, abinI, abinS, aun, aconv, afield, afieldAddr, aindexAddr, aindex, aslice, alow, ahigh, abuild, abuildGo, cellsOf, splice, fieldTy, alen, apick, amax, amin, aload, headV, aparts, abuildSlice, elParts, abytesStr, astore, amake, aappend, aclear, anew, arith, aresults, aresList, ares, spec0, spec1, spec2, spec3, spec4, eqCells, eqCell, put_len]
      exact tab_drop0 hL (by simp [AV.cleanF, AV.clean2, AV.clean1])
end Go.Proofs.YtifbaegnkodneaaDoor

/-
  layer 30: replace — an artificial variable leaves.
-/
namespace Go.Proofs.YtifbaegnkodneaaDoor
open Go.RowKit
set_option linter.unusedSimpArgs false
set_option linter.unusedVariables false
set_option maxRecDepth 100000

/-- The first of the first k columns that is not zero in row i. -/
def colK (t : Tab) (i : Nat) : Nat → Option Nat
  | 0 => none
  | k + 1 => match colK t i k with
    | some j => some j
    | none => if (ix (ix t.rows i) k).N ≠ 0 then some k else none
theorem colK_mono {t : Tab} {i k j : Nat} (h : colK t i k = some j) : ∀ n, colK t i (k + n) = some j
  | 0 => h
  | n + 1 => by
    show colK t i ((k + n) + 1) = some j
    unfold colK
    rw [colK_mono h n]
theorem colK_succ {t : Tab} {i k : Nat} (h : colK t i k = none) : colK t i (k + 1) = if (ix (ix t.rows i) k).N ≠ 0 then some k else none := by
  conv => { lhs; unfold colK; rw [h] }
theorem colK_lt {t : Tab} {i : Nat} : ∀ {k j : Nat}, colK t i k = some j → j < k
  | 0, _, h => by cases h
  | k + 1, j, h => by
    cases h1 : colK t i k with
    | some i' =>
      have := colK_lt h1
      unfold colK at h
      rw [h1] at h
      injection h with h
      omega
    | none =>
      rw [colK_succ h1] at h
      split at h
      · injection h with h; omega
      · cases h
def repF (t : Tab) (i : Nat) : Tab := if (t.w : Int) ≤ ix t.basis i ∧ t.over = false then match colK t i t.w with
  | none => t
  | some j => pivF t i j else t
theorem repF_shape {L : Lay} {t : Tab} (hS : Shape L t) {i : Nat} (hi : i < t.m) : Shape L (repF t i) ∧ Kin t (repF t i) := by
  unfold repF
  split
  · split
    · exact ⟨hS, Kin.refl t⟩
    · rename_i j hj
      exact ⟨pivF_shape hS hi (colK_lt hj), kin_piv t i j⟩
  · exact ⟨hS, Kin.refl t⟩
noncomputable def gRep := tabG aJ (fun _ t i => i < t.m) (fun _ _ => .tup []) repF
theorem okRep : TabOK aJ (fun _ t i => i < t.m) repF where
  inj := fun {L t K x x'} _ _ _ _ e => by
    unfold aJ at e
    simp only [List.cons.injEq, AV.int.injEq, and_true, true_and] at e
    omega
  rows := fun {L t x} s h => by
    obtain ⟨h1, h2⟩ := repF_shape s h
    rw [h1.m, h2.m]
theorem rep_call {L : Lay} {K : List Blk} {t : Tab} (hL : Lens L K) (hS : Shape L t) {i : Nat} (hi : i < t.m) (X : List Blk) (hX : ∀ b ∈ X, b.deep = true) : gRep [.ptr L.p 1 29 0 0, .int .i64 i] (putT L t K ++ X) = some (True, .tup [], putT L (repF t i) K ++ X) :=
  tabG_call okRep (x := i) hL hS hi X hX
noncomputable def CRp : Ctx := mkC Tryd.prog G0 [(61, .gen gArt), (83, .gen gPiv)]
@[simp] theorem CRp_P : CRp.P = Tryd.prog := rfl
@[simp] theorem CRp_G : CRp.G = G0 := rfl
@[simp] theorem CRp_1 : CRp.S 61 = .gen gArt := rfl
@[simp] theorem CRp_2 : CRp.S 83 = .gen gPiv := rfl
theorem mixCRp : CRp.P.follows .mixedOrders = true := mixed
theorem sigCRp : SigOK CRp := sigOK_cons (entryGen (artTP) Tryd.func61 rfl (by decide)) (sigOK_cons (entryGen (pivTP) Tryd.func83 rfl (by decide)) (sigOK_nil _ _))
set_option maxHeartbeats 16000000 in
theorem repTP : GenOK Tryd.prog G0 64 gRep := by
  refine gen_of_avcD (C := CRp) sigCRp mixCRp [1] Tryd.func64 rfl rfl rfl (by kernel_rfl) (fun avs H ob r H' hp hob => ?_)
  obtain ⟨L, t, K, i, hL, hS, hi, rfl, rfl, rfl, rfl⟩ := tabG_inv hp
  clear hp hob ob
  refine ⟨(by show 2 ≤ _; decide), ?_⟩
  simp only [aJ]
  have G1 := getT hL hS
  have p1 := G1.p0
  have q1 := G1.q0
  have r1 := G1.r0 hi
  have n1 := tC_len (L := L) hS.bas
  have hr := hS.r
  have hir : i < L.r.length := by omega
  have hw := shape_w36 hS
  have hrow : (ix t.rows i).length = t.w + 1 := hS.row _ (ix_mem (by rw [hS.m]; exact hi))
  have hart := art_call hL hS hi [] (by simp)
  simp only [List.append_nil] at hart
  by_cases ha : (t.w : Int) ≤ ix t.basis i
  case neg =>
    have e1 : repF t i = t := if_neg (fun h => ha h.1)
    rw [e1]
    simp [aev, cav, look, acallPure, abin, abinN, abinP, abinI, abinS, aun, aconv, afield, afieldAddr, aindexAddr, aindex, aslice, alow, ahigh, abuild, abuildGo, cellsOf, splice, fieldTy, alen, apick, amax, amin, aload, headV, aparts, abuildSlice, elParts, abytesStr, astore, amake, aappend, aclear, anew, arith, aresults, aresList, ares, spec0, spec1, spec2, spec3, spec4, eqCells, eqCell, argsρ, put_len, hart, ha]
    exact tab_drop0 hL (by simp [AV.cleanF, AV.clean2, AV.clean1])
  by_cases ho : t.over = false
  case neg =>
    have e1 : repF t i = t := if_neg (fun h => ho h.2)
    have ho' : t.over = true := by simpa using ho
    rw [e1]
    simp [aev, cav, look, acallPure, abin, abinN, abinP, abinI, abinS, aun, aconv, afield, afieldAddr, aindexAddr, aindex, aslice, alow, ahigh, abuild, abuildGo, cellsOf, splice, fieldTy, alen, apick, amax, amin, aload, headV, aparts, abuildSlice, elParts, abytesStr, astore, amake, aappend, aclear, anew, arith, aresults, aresList, ares, spec0, spec1, spec2, spec3, spec4, eqCells, eqCell, argsρ, put_len, hart, ha, p1, n1, tC_e28 hS.bas, ho']
    exact tab_drop0 hL (by simp [AV.cleanF, AV.clean2, AV.clean1])
  have e1 : repF t i = match colK t i t.w with
    | none => t
    | some j => pivF t i j := if_pos ⟨ha, ho⟩
  rw [e1]
  simp [aev, cav, look, acallPure, abin, abinN, abinP, abinI, abinS, aun, aconv, afield, afieldAddr, aindexAddr, aindex, aslice, alow, ahigh, abuild, abuildGo, cellsOf, splice, fieldTy, alen, apick, amax, amin, aload, headV, aparts, abuildSlice, elParts, abytesStr, astore, amake, aappend, aclear, anew, arith, aresults, aresList, ares, spec0, spec1, spec2, spec3, spec4, eqCells, eqCell, argsρ, put_len, hart, ha, p1, n1, tC_e28 hS.bas, ho]
  refine AW_regionF sigCRp mixCRp [.pure, .pure, .pure, .read, .pure, .pure, .pure, .read, .pure, .pure] [[],[0],[0,1],[1,0,2],[],[4],[4,5],[5,4,6],[6,4,5,7,2,0,1,3],[]] (by kernel_rfl) (by kernel_rfl) (by kernel_rfl) (by kernel_rfl) ?_
  simp [aev, cav, look, acallPure, abin, abinN, abinP, abinI, abinS, aun, aconv, afield, afieldAddr, aindexAddr, aindex, aslice, alow, ahigh, abuild, abuildGo, cellsOf, splice, fieldTy, alen, apick, amax, amin, aload, headV, aparts, abuildSlice, elParts, abytesStr, astore, amake, aappend, aclear, anew, arith, aresults, aresList, ares, spec0, spec1, spec2, spec3, spec4, eqCells, eqCell, put_len, p1, n1, tC_e0, tC_e1, shape_w hS]
  refine loop_ruleH (C := CRp) sigCRp mixCRp [1] (fun j : Nat => ⟨[(0, .ptr L.p 1 29 0 0), (1, .int .i64 i), (23, .int .i64 t.w), (24, .int .i64 j)], putT L t K⟩) (fun j => j ≤ t.w ∧ colK t i j = none) (fun j => t.w - j) (by kernel_rfl) ⟨0, ⟨by simp, rfl⟩, weak_eq (by simp) rfl⟩ (fun j ⟨hj, he⟩ => ?_)
  by_cases hjl : j < t.w
  · have hjl' : (j : Int) < t.w := by omega
    have i2 : I64 ((j : Int) + 1) := by unfold I64; omega
    have hjc : j < t.w + 1 := by omega
    have he2 := colK_succ he
    by_cases hN : (ix (ix t.rows i) j).N = 0
    · rw [if_neg (fun h => h hN)] at he2
      simp [aev, cav, look, acallPure, abin, abinN, abinP, abinI, abinS, aun, aconv, afield, afieldAddr, aindexAddr, aindex, aslice, alow, ahigh, abuild, abuildGo, cellsOf, splice, fieldTy, alen, apick, amax, amin, aload, headV, aparts, abuildSlice, elParts, abytesStr, astore, amake, aappend, aclear, anew, arith, aresults, aresList, ares, spec0, spec1, spec2, spec3, spec4, eqCells, eqCell, put_len, p1, n1, tC_e2, q1, hr, hi, hir, rowAt_q, r1, hrow, hjl, hjc, rowAt_enc, hN, i2]
      exact ⟨by omega, j + 1, ⟨by omega, he2⟩, by omega, weak_eq (by simp) rfl⟩
    · rw [if_pos hN] at he2
      have hent : colK t i t.w = some j := by
        have := colK_mono he2 (t.w - (j + 1))
        rwa [show j + 1 + (t.w - (j + 1)) = t.w by omega] at this
      rw [hent]
      have hpc := piv_call hL hS hi hjl [] (by simp)
      simp only [List.append_nil] at hpc
      simp [aev, cav, look, acallPure, abin, abinN, abinP, abinI, abinS, aun, aconv, afield, afieldAddr, aindexAddr, aindex, aslice, alow, ahigh, abuild, abuildGo, cellsOf, splice, fieldTy, alen, apick, amax, amin, aload, headV, aparts, abuildSlice, elParts, abytesStr, astore, amake, aappend, aclear, anew, arith, aresults, aresList, ares, spec0, spec1, spec2, spec3, spec4, eqCells, eqCell, put_len, p1, n1, tC_e2, q1, hr, hi, hir, rowAt_q, r1, hrow, hjl, hjc, rowAt_enc, hN, hpc]
      exact ⟨by omega, tab_drop0 hL (by simp [AV.cleanF, AV.clean2, AV.clean1])⟩
  · have hje : j = t.w := by omega
    subst hje
    rw [he]
    simp [aev, cav, look, acallPure, abin, abinN, abinP, abinI, abinS, aun, aconv, afield, afieldAddr, aindexAddr, aindex, aslice, alow, ahigh, abuild, abuildGo, cellsOf, splice, fieldTy, alen, apick, amax, amin, aload, headV, aparts, abuildSlice, elParts, abytesStr, astore, amake, aappend, aclear, anew, arith, aresults, aresList, ares, spec0, spec1, spec2, spec3, spec4, eqCells, eqCell, put_len]
    exact tab_drop0 hL (by simp [AV.cleanF, AV.clean2, AV.clean1])
end Go.Proofs.YtifbaegnkodneaaDoor

/-
  layer 30: a new row of costs; what first computes.
-/
namespace Go.Proofs.YtifbaegnkodneaaDoor
open Go.RowKit
set_option linter.unusedSimpArgs false
set_option linter.unusedVariables false
set_option maxRecDepth 100000

/-- The costs in the block that comes next. -/
def newC (L : Lay) (K : List Blk) : Lay := { L with c := some K.length }
def outN (L : Lay) (t : Tab) (K : List Blk) (u : Tab) : List Blk := (putT L { u with cost := t.cost } K ++ [R2B u.cost]).set L.p ⟨54, 29, [tC (newC L K) u], true, false⟩
def baseN (L : Lay) (t : Tab) (K : List Blk) : List Blk := setC L.c t.cost K ++ [R2B []]
section
variable {L : Lay} {t u : Tab} {K X : List Blk}
theorem baseN_len : (baseN L t K).length = K.length + 1 := by unfold baseN; rw [List.length_append, setC_len]; rfl
theorem outN_eq (hL : Lens L K) : outN L t K u = putT (newC L K) u (baseN L t K) := by
  have hp := hL.p
  have hq := hL.q
  unfold outN putT baseN newC
  simp only
  rw [List.set_append_left _ _ (by rw [setR_len, setC_len, List.length_set, List.length_set]; exact hp), ← setR_comm hL.pr, ← setC_comm hL.pc, List.set_comm _ _ hL.pq.symm, List.set_set]
  rw [List.set_append_left _ _ (by rw [setC_len]; exact hp), List.set_append_left _ _ (by rw [List.length_set, setC_len]; exact hq)]
  rw [setC_comm hL.qc, setC_comm hL.pc]
  show _ = setR L.r u.rows (List.set _ _ _)
  rw [List.set_append_right _ _ (by rw [List.length_set, List.length_set, setC_len]; exact Nat.le_refl _), List.length_set, List.length_set, setC_len, Nat.sub_self]
  rw [← setR_app (fun l hl => by rw [List.length_set, List.length_set, setC_len]; exact hL.r l hl)]
  rfl
theorem newC_lens (hL : Lens L K) : Lens (newC L K) (baseN L t K) := by
  have hp := hL.p
  have hq := hL.q
  refine ⟨by rw [baseN_len]; show L.p < _; omega, by rw [baseN_len]; show L.q < _; omega, fun c hc => by rw [baseN_len]; injection hc with hc; omega, fun l hl => by rw [baseN_len]; have := hL.r l hl; omega, hL.pq, ?_, ?_, hL.pr, hL.qr, ?_, hL.nd, fun b hb => ?_⟩
  · intro h; injection h with h; exact absurd h.symm (Nat.ne_of_lt hp)
  · intro h; injection h with h; exact absurd h.symm (Nat.ne_of_lt hq)
  · intro c hc hl
    injection hc with hc
    have := hL.r c hl
    omega
  · rw [baseN_len]
    rcases List.mem_append.1 hb with hb | hb
    · rcases setC_mem hb with hb | hb
      · exact (hL.cl b hb).imp id fun h1 r hr c hc => cleanF_mono (by omega) (h1 r hr c hc)
      · exact .inl hb
    · rw [List.mem_singleton] at hb
      rw [hb]
      exact .inl rfl
theorem newC_shape (hS : Shape L u) (hc : u.cost.length = u.w + 1) : Shape (newC L K) u := ⟨hS.m, hS.r, hS.n1, hS.n12, hS.m24, hS.row, .inr ⟨⟨_, rfl⟩, hc⟩, hS.bas, hS.b64⟩
theorem shape_cost (hS : Shape L t) {x : List Fr} (hx : x.length = t.w + 1) : Shape (newC L K) { t with cost := x } := ⟨hS.m, hS.r, hS.n1, hS.n12, hS.m24, hS.row, .inr ⟨⟨_, rfl⟩, hx⟩, hS.bas, hS.b64⟩
theorem tC_sc {w : Nat} (x : List Fr) (hx : x.length = w) : List.take 3 (tC L t) ++ AV.own K.length w :: List.drop 4 (tC L t) = tC (newC L K) { t with cost := x } := by
  unfold tC newC cC
  simp [hx]
theorem tC_sn (hc : L.c = none) (M : List Blk) : List.take 3 (tC (newC L M) t) ++ AV.slice 2 true [] :: List.drop 4 (tC (newC L M) t) = tC L { t with cost := [] } := by
  unfold tC newC
  rw [hc]
  rfl
/-- The costs are given up. -/
theorem old_cost (hL : Lens L K) (hc : L.c = none) : (putT (newC L K) u (K ++ [R2B []])).set L.p ⟨54, 29, [tC L { u with cost := [] }], true, false⟩ = putT L { u with cost := [] } K ++ [R2B u.cost] := by
  have hp := hL.p
  have hq := hL.q
  unfold putT newC
  simp only
  rw [List.set_append_left _ _ hp, List.set_append_left _ _ (by rw [List.length_set]; exact hq)]
  show (setR L.r u.rows (List.set _ _ _)).set _ _ = _
  rw [List.set_append_right _ _ (by rw [List.length_set, List.length_set]; exact Nat.le_refl _), List.length_set, List.length_set, Nat.sub_self]
  rw [setR_app (fun l hl => by rw [List.length_set, List.length_set]; exact hL.r l hl)]
  rw [List.set_append_left _ _ (by rw [setR_len, List.length_set, List.length_set]; exact hp), ← setR_comm hL.pr, List.set_comm _ _ hL.pq.symm, List.set_set]
  rw [hc]
  rfl
end
/-! ### first -/
def artP (t : Tab) (k : Nat) : Bool := decide ((t.w : Int) ≤ ix t.basis k)
def f1K (t : Tab) : Nat → Tab
  | 0 => { t with cost := rowE t }
  | k + 1 => if artP t k then clrT (f1K t k) ⟨none, F11, k⟩ else f1K t k
def f1T (t : Tab) : Tab := f1K t t.m
def repK (t : Tab) : Nat → Tab
  | 0 => t
  | k + 1 => repF (repK t k) k
noncomputable def firstF (t : Tab) : Bool × Tab :=
  if anyK t.m (artP t) = false ∨ (f1T t).over = true then (true, f1T t)
  else if (phaseF (f1T t)).2.over = true then (true, (phaseF (f1T t)).2)
  else if (ix (phaseF (f1T t)).2.cost t.w).N < 0 then (false, (phaseF (f1T t)).2)
  else (true, repK { (phaseF (f1T t)).2 with cost := [] } t.m)
def HaltsF (t : Tab) : Prop := ¬ (anyK t.m (artP t) = false ∨ (f1T t).over = true) → Halts (f1T t)
section
variable {L : Lay} {t : Tab} {K : List Blk}
theorem rowE_len (t : Tab) : (rowE t).length = t.w + 1 := List.length_replicate
theorem f1K_same (t : Tab) : ∀ k, (f1K t k).n = t.n ∧ (f1K t k).m = t.m ∧ (f1K t k).cost.length = t.w + 1 ∧ (f1K t k).basis = t.basis
  | 0 => ⟨rfl, rfl, rowE_len t, rfl⟩
  | k + 1 => by
    obtain ⟨h1, h2, h3, h4⟩ := f1K_same t k
    unfold f1K
    split
    · exact ⟨(clrK_n _ _).trans h1, (clrK_m _ _).trans h2, (clrK_cost _ _).trans h3, (clrK_bas _ _).trans h4⟩
    · exact ⟨h1, h2, h3, h4⟩
theorem f1K_w (t : Tab) (k : Nat) : (f1K t k).w = t.w := by unfold Tab.w; rw [(f1K_same t k).1, (f1K_same t k).2.1]
theorem f1K_pre {k : Nat} (hk : k < t.m) : PreClr L (f1K t k) ⟨none, F11, k⟩ := ⟨by rw [(f1K_same t k).2.1]; exact hk, fun q hq => (by cases hq), fun _ => by rw [(f1K_same t k).2.2.1, f1K_w]⟩
theorem f1K_shape (hS : Shape L t) : ∀ {k}, k ≤ t.m → Shape (newC L K) (f1K t k)
  | 0, _ => shape_cost hS (rowE_len t)
  | k + 1, h => by
    unfold f1K
    split
    · exact clrK_shape (f1K_shape hS (by omega)) (f1K_pre (by omega)) _
    · exact f1K_shape hS (by omega)
theorem repK_shape (hS : Shape L t) : ∀ {k}, k ≤ t.m → Shape L (repK t k) ∧ Kin t (repK t k)
  | 0, _ => ⟨hS, Kin.refl t⟩
  | k + 1, h => by
    obtain ⟨h1, h2⟩ := repK_shape hS (k := k) (by omega)
    obtain ⟨h3, h4⟩ := repF_shape h1 (i := k) (by rw [h2.m]; omega)
    exact ⟨h3, h2.trans h4⟩
end
abbrev FiX := Lay × Tab × List Blk
def preFi : FiX → Prop := fun γ => Lens γ.1 γ.2.2 ∧ Shape γ.1 γ.2.1 ∧ γ.2.1.cost = [] ∧ HaltsF γ.2.1
open Classical in
noncomputable def outFi (L : Lay) (t : Tab) (K : List Blk) : List Blk := if (firstF t).2.cost = [] then putT L (firstF t).2 K else outN L t K (firstF t).2
noncomputable def gFirst : List AV → List Blk → Option (Prop × AV × List Blk) :=
  anyG (fun γ : FiX => [.ptr γ.1.p 1 29 0 0]) (fun γ => putT γ.1 γ.2.1 γ.2.2) preFi (fun γ => .bool (firstF γ.2.1).1) (fun γ => outFi γ.1 γ.2.1 γ.2.2)
theorem firstF_same {L : Lay} {t : Tab} (hS : Shape L t) (hh : HaltsF t) : (firstF t).2.rows.length = t.m ∧ (firstF t).2.n = t.n ∧ (firstF t).2.m = t.m := by
  have h1 := f1K_shape (K := []) hS (Nat.le_refl t.m)
  have h2 := f1K_same t t.m
  unfold firstF
  split
  · exact ⟨by rw [show (true, f1T t).2 = f1K t t.m from rfl, h1.m, h2.2.1], h2.1, h2.2.1⟩
  · rename_i hn
    obtain ⟨h3, h4⟩ := phaseF_shape h1 (hh hn)
    split
    · exact ⟨h3.m.trans (h4.m.trans h2.2.1), h4.n.trans h2.1, h4.m.trans h2.2.1⟩
    · split
      · exact ⟨h3.m.trans (h4.m.trans h2.2.1), h4.n.trans h2.1, h4.m.trans h2.2.1⟩
      · have hS3 : Shape { L with c := none } { (phaseF (f1T t)).2 with cost := [] } := ⟨h3.m, h3.r, h3.n1, h3.n12, h3.m24, h3.row, .inl ⟨rfl, rfl⟩, h3.bas, h3.b64⟩
        have hm3 : (phaseF (f1T t)).2.m = t.m := h4.m.trans h2.2.1
        obtain ⟨h5, h6⟩ := repK_shape hS3 (k := t.m) (by show t.m ≤ (phaseF (f1T t)).2.m; omega)
        exact ⟨h5.m.trans (h6.m.trans hm3), h6.n.trans (h4.n.trans h2.1), h6.m.trans hm3⟩
theorem first_at {L : Lay} {t : Tab} {K : List Blk} (hL : Lens L K) (hS : Shape L t) (hc : t.cost = []) (hh : HaltsF t) : gFirst [.ptr L.p 1 29 0 0] (putT L t K) = some (True, .bool (firstF t).1, outFi L t K) := by
  refine anyG_at (a := fun γ : FiX => [.ptr γ.1.p 1 29 0 0]) (h := fun γ : FiX => putT γ.1 γ.2.1 γ.2.2) (pre := preFi) (res := fun γ => .bool (firstF γ.2.1).1) (h' := fun γ => outFi γ.1 γ.2.1 γ.2.2) ?_ (γ := (L, t, K)) ⟨hL, hS, hc, hh⟩
  rintro ⟨L1, t1, K1⟩ ⟨L2, t2, K2⟩ ⟨h1, s1, c1, hh1⟩ ⟨h2, s2, c2, _⟩ ea eh
  simp only [List.cons.injEq, AV.ptr.injEq, and_true] at ea
  obtain ⟨e1, e2, e3⟩ := put_inj h1 h2 s1 s2 ea eh
  simp only at e1 e2
  subst e1 e2
  have el : K1.length = K2.length := by
    have := congrArg List.length eh
    simpa [put_len] using this
  have hr := (firstF_same s1 hh1).1
  refine ⟨rfl, ?_⟩
  show outFi L1 t1 K1 = outFi L1 t1 K2
  unfold outFi outN newC
  rw [el, e3 (firstF t1).2 (by rw [hr, s1.r]), e3 { (firstF t1).2 with cost := t1.cost } (by show (firstF t1).2.rows.length = _; rw [hr, s1.r])]
theorem first_inv {args : List AV} {H : List Blk} {ob : Prop} {r : AV} {H' : List Blk} (e : gFirst args H = some (ob, r, H')) :
    ∃ L t K, Lens L K ∧ Shape L t ∧ t.cost = [] ∧ HaltsF t ∧ args = [.ptr L.p 1 29 0 0] ∧ H = putT L t K ∧ r = .bool (firstF t).1 ∧ H' = outFi L t K := by
  obtain ⟨⟨L, t, K⟩, ⟨h1, h2, h3, h4⟩, e1, e2, e3, e4⟩ := anyG_inv e
  exact ⟨L, t, K, h1, h2, h3, h4, e1.symm, e2.symm, e3.symm, e4.symm⟩
end Go.Proofs.YtifbaegnkodneaaDoor
