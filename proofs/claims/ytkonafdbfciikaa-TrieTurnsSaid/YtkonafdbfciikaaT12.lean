/-
  layer 14: which relations are checked.
-/
import Derived.Test.YtkonafdbfciikaaT11
namespace Go.Proofs.Ytkonafdbfciikaa
open Go.RowKit
set_option linter.unusedSimpArgs false
set_option linter.unusedVariables false
set_option maxRecDepth 100000

def LenAll (rows : List (List Int)) (n : Int) : Prop := ∀ r ∈ rows, (r.length : Int) = n
open Classical in
noncomputable def lenB (rows : List (List Int)) (n : Int) : Bool := decide (LenAll rows n)
open Classical in
theorem lenB_yes {rows : List (List Int)} {n : Int} (h : LenAll rows n) : lenB rows n = true := by unfold lenB; exact decide_eq_true h
open Classical in
theorem lenB_no {rows : List (List Int)} {n : Int} (h : ¬ LenAll rows n) : lenB rows n = false := by unfold lenB; exact decide_eq_false h

def sClos : List AV → Option (Prop × AV)
  | [a, .iptr [.int .i64 n]] => some (nrmV a = Enc.enc (Enc.dec a : List Int) ∧ SmallR (Enc.dec a : List Int), .bool (decide (((Enc.dec a : List Int).length : Int) = n)))
  | _ => none
@[simp] theorem sClos_eq (a : AV) (n : Int) : sClos [a, .iptr [.int .i64 n]] = some (nrmV a = Enc.enc (Enc.dec a : List Int) ∧ SmallR (Enc.dec a : List Int), .bool (decide (((Enc.dec a : List Int).length : Int) = n))) := rfl
theorem closP : PureOK Try.prog G0 73 sClos :=
  pure_of (C := CE) sigCE mixCE Try.func73 rfl rfl rfl (by kernel_rfl) fun avs ob r hp hob => by
    unfold sClos at hp
    split at hp
    · rename_i a n
      injection hp with hp; injection hp with e1 e2; subst e1 e2
      refine ⟨Nat.le_of_ble_eq_true rfl, ?_⟩
      obtain ⟨h1, h2⟩ := hob
      generalize (Enc.dec a : List Int) = l at h1 h2 ⊢
      have hl : l.length ≤ 1000000 := h2
      show avc CE _ 0 _ ⟨[(0, nrmV a), (1, .iptr [.int .i64 n])], []⟩ _
      rw [h1]
      simp [aev, cav, look, acallPure, abin, abinN, abinP, abinI, abinS, aun, aconv, afield, afieldAddr, aindexAddr, aindex, aslice, alow, ahigh, abuild, abuildGo, cellsOf, splice, fieldTy, alen, apick, amax, amin, aload, headV, aparts, abuildSlice, elParts, abytesStr, astore, amake, aappend, aclear, anew, arith, aresults, aresList, ares, spec0, spec1, spec2, spec3, spec4, eqCells, eqCell]
    · cases hp
noncomputable def CA1 : Ctx := mkC Try.prog G0 [(73, .pure sClos)]
@[simp] theorem CA1_P : CA1.P = Try.prog := rfl
@[simp] theorem CA1_1 : CA1.S 73 = .pure sClos := rfl
theorem mixCA1 : CA1.P.follows .mixedOrders = true := mixed
theorem sigCA1 : SigOK CA1 := sigOK_cons (entryPure closP Try.func73 rfl (by decide)) (sigOK_nil _ _)
noncomputable def sAll : List AV → Option (Prop × AV)
  | [a, .fn f [.iptr [.int .i64 n]]] => if f = 73 then some (nrmV a = Enc.enc (Enc.dec a : List (List Int)) ∧ SmallRs (Enc.dec a : List (List Int)), .bool (lenB (Enc.dec a) n)) else none
  | _ => none
@[simp] theorem sAll_eq (a : AV) (n : Int) : sAll [a, .fn 73 [.iptr [.int .i64 n]]] = some (nrmV a = Enc.enc (Enc.dec a : List (List Int)) ∧ SmallRs (Enc.dec a : List (List Int)), .bool (lenB (Enc.dec a) n)) := rfl
set_option maxHeartbeats 8000000 in
theorem allP : PureOK Try.prog G0 72 sAll :=
  pure_of (C := CA1) sigCA1 mixCA1 Try.func72 rfl rfl rfl (by kernel_rfl) fun avs ob r hp hob => by
    unfold sAll at hp
    split at hp
    · rename_i a f n
      split at hp
      · rename_i hf
        subst hf
        injection hp with hp; injection hp with e1 e2; subst e1 e2
        refine ⟨Nat.le_of_ble_eq_true rfl, ?_⟩
        obtain ⟨h1, h2⟩ := hob
        generalize (Enc.dec a : List (List Int)) = l at h1 h2 ⊢
        obtain ⟨hl, hl2⟩ := h2
        show avc CA1 _ 0 _ ⟨[(0, nrmV a), (1, .fn 73 [.iptr [.int .i64 n]])], []⟩ _
        rw [h1]
        simp [aev, cav, look, acallPure, abin, abinN, abinP, abinI, abinS, aun, aconv, afield, afieldAddr, aindexAddr, aindex, aslice, alow, ahigh, abuild, abuildGo, cellsOf, splice, fieldTy, alen, apick, amax, amin, aload, headV, aparts, abuildSlice, elParts, abytesStr, astore, amake, aappend, aclear, anew, arith, aresults, aresList, ares, spec0, spec1, spec2, spec3, spec4, eqCells, eqCell]
        refine loop_rule (C := CA1) sigCA1 mixCA1 (fun i : Nat => ⟨[(1, .fn 73 [.iptr [.int .i64 n]]), (7, Enc.enc l), (8, .int .i64 l.length), (9, .int .i64 i)], []⟩) (fun i => i ≤ l.length ∧ ∀ j, j < i → ((ix l j).length : Int) = n) (fun i => l.length - i) (by kernel_rfl) ⟨0, ⟨by omega, fun j hj => by omega⟩, weak_slots (by simp)⟩ (fun i ⟨h3, h4⟩ => ?_)
        by_cases hi : i < l.length
        · have i1 : I64 ((i : Int) + 1) := by unfold I64; omega
          have sa := hl2 _ (ix_mem hi)
          rcases em2 (((ix l i).length : Int) = n) with e | e
          · simp [aev, cav, look, acallPure, abin, abinN, abinP, abinI, abinS, aun, aconv, afield, afieldAddr, aindexAddr, aindex, aslice, alow, ahigh, abuild, abuildGo, cellsOf, splice, fieldTy, alen, apick, amax, amin, aload, headV, aparts, abuildSlice, elParts, abytesStr, astore, amake, aappend, aclear, anew, arith, aresults, aresList, ares, spec0, spec1, spec2, spec3, spec4, eqCells, eqCell, hi, rowAt_enc hi, sa, e, i1]
            exact ⟨i + 1, ⟨by omega, fun j hj => by
              rcases Nat.lt_or_eq_of_le (Nat.le_of_lt_succ hj) with h | rfl
              · exact h4 j h
              · exact of_eq_true e⟩, by omega, weak_slots (by simp)⟩
          · have hB : lenB l n = false := lenB_no fun h => of_eq_false e (h _ (ix_mem hi))
            simp [aev, cav, look, acallPure, abin, abinN, abinP, abinI, abinS, aun, aconv, afield, afieldAddr, aindexAddr, aindex, aslice, alow, ahigh, abuild, abuildGo, cellsOf, splice, fieldTy, alen, apick, amax, amin, aload, headV, aparts, abuildSlice, elParts, abytesStr, astore, amake, aappend, aclear, anew, arith, aresults, aresList, ares, spec0, spec1, spec2, spec3, spec4, eqCells, eqCell, hi, rowAt_enc hi, sa, e, hB]
        · have hB : lenB l n = true := lenB_yes fun r hr => by
            obtain ⟨j, hj, rfl⟩ := List.getElem_of_mem hr
            rw [← ix_lt hj]
            exact h4 j (by omega)
          simp [aev, cav, look, acallPure, abin, abinN, abinP, abinI, abinS, aun, aconv, afield, afieldAddr, aindexAddr, aindex, aslice, alow, ahigh, abuild, abuildGo, cellsOf, splice, fieldTy, alen, apick, amax, amin, aload, headV, aparts, abuildSlice, elParts, abytesStr, astore, amake, aappend, aclear, anew, arith, aresults, aresList, ares, spec0, spec1, spec2, spec3, spec4, eqCells, eqCell, hi, hB]
      · cases hp
    · cases hp

def WideR (n : Int) (rows : List (List Int)) : Prop := 1 ≤ n ∧ n ≤ 8 ∧ LenAll rows n
open Classical in
noncomputable def shapeF (n : Int) (rows : List (List Int)) : Int := if WideR n rows then 0 else 1
noncomputable def CP1 : Ctx := mkC Try.prog G0 [(72, .pure sAll)]
@[simp] theorem CP1_P : CP1.P = Try.prog := rfl
@[simp] theorem CP1_1 : CP1.S 72 = .pure sAll := rfl
theorem mixCP1 : CP1.P.follows .mixedOrders = true := mixed
theorem sigCP1 : SigOK CP1 := sigOK_cons (entryPure allP Try.func72 rfl (by decide)) (sigOK_nil _ _)
noncomputable def sShape : List AV → Option (Prop × AV) := spec2 (fun (n : Int) (l : List (List Int)) => SmallRs l) (fun n l => .int .i64 (shapeF n l))
set_option maxHeartbeats 8000000 in
theorem shapeP : PureOK Try.prog G0 51 sShape := by
  refine pure2 (C := CP1) sigCP1 mixCP1 Try.func51 rfl rfl rfl (by kernel_rfl) (by decide) (fun n l hl => ?_)
  by_cases h1 : n < 1
  · have e : shapeF n l = 1 := by unfold shapeF; rw [if_neg (fun h => by have := h.1; omega)]
    simp [aev, cav, look, acallPure, abin, abinN, abinP, abinI, abinS, aun, aconv, afield, afieldAddr, aindexAddr, aindex, aslice, alow, ahigh, abuild, abuildGo, cellsOf, splice, fieldTy, alen, apick, amax, amin, aload, headV, aparts, abuildSlice, elParts, abytesStr, astore, amake, aappend, aclear, anew, arith, aresults, aresList, ares, spec0, spec1, spec2, spec3, spec4, eqCells, eqCell, h1, e]
  by_cases h2 : 8 < n
  · have e : shapeF n l = 1 := by unfold shapeF; rw [if_neg (fun h => by have := h.2.1; omega)]
    simp [aev, cav, look, acallPure, abin, abinN, abinP, abinI, abinS, aun, aconv, afield, afieldAddr, aindexAddr, aindex, aslice, alow, ahigh, abuild, abuildGo, cellsOf, splice, fieldTy, alen, apick, amax, amin, aload, headV, aparts, abuildSlice, elParts, abytesStr, astore, amake, aappend, aclear, anew, arith, aresults, aresList, ares, spec0, spec1, spec2, spec3, spec4, eqCells, eqCell, h1, h2, e]
  by_cases h3 : LenAll l n
  · have e : shapeF n l = 0 := by unfold shapeF; rw [if_pos ⟨by omega, by omega, h3⟩]
    simp [aev, cav, look, acallPure, abin, abinN, abinP, abinI, abinS, aun, aconv, afield, afieldAddr, aindexAddr, aindex, aslice, alow, ahigh, abuild, abuildGo, cellsOf, splice, fieldTy, alen, apick, amax, amin, aload, headV, aparts, abuildSlice, elParts, abytesStr, astore, amake, aappend, aclear, anew, arith, aresults, aresList, ares, spec0, spec1, spec2, spec3, spec4, eqCells, eqCell, h1, h2, hl, lenB_yes h3, e]
  · have e : shapeF n l = 1 := by unfold shapeF; rw [if_neg (fun h => h3 h.2.2)]
    simp [aev, cav, look, acallPure, abin, abinN, abinP, abinI, abinS, aun, aconv, afield, afieldAddr, aindexAddr, aindex, aslice, alow, ahigh, abuild, abuildGo, cellsOf, splice, fieldTy, alen, apick, amax, amin, aload, headV, aparts, abuildSlice, elParts, abytesStr, astore, amake, aappend, aclear, anew, arith, aresults, aresList, ares, spec0, spec1, spec2, spec3, spec4, eqCells, eqCell, h1, h2, hl, lenB_no h3, e]

open Classical in
noncomputable def sWide : List AV → Option (Prop × AV) := spec2 (fun (n : Int) (l : List (List Int)) => SmallRs l) (fun n l => .bool (decide (WideR n l)))
set_option maxHeartbeats 8000000 in
open Classical in
theorem wideR : PureOK Try.prog G0 45 sWide := by
  refine pure2 (C := CE) sigCE mixCE Try.func45 rfl rfl rfl (by kernel_rfl) (by decide) (fun n l ⟨hl, hl2⟩ => ?_)
  simp [aev, cav, look, acallPure, abin, abinN, abinP, abinI, abinS, aun, aconv, afield, afieldAddr, aindexAddr, aindex, aslice, alow, ahigh, abuild, abuildGo, cellsOf, splice, fieldTy, alen, apick, amax, amin, aload, headV, aparts, abuildSlice, elParts, abytesStr, astore, amake, aappend, aclear, anew, arith, aresults, aresList, ares, spec0, spec1, spec2, spec3, spec4, eqCells, eqCell]
  refine loop_rule (C := CE) sigCE mixCE (fun i : Nat => ⟨[(0, .int .i64 n), (1, Enc.enc l), (5, .int .i64 i)], []⟩) (fun i => i ≤ l.length ∧ ∀ j, j < i → ((ix l j).length : Int) = n) (fun i => l.length - i) (by kernel_rfl) ⟨0, ⟨by omega, fun j hj => by omega⟩, weak_slots (by simp)⟩ (fun i ⟨h3, h4⟩ => ?_)
  by_cases hi : i < l.length
  · have i1 : I64 ((i : Int) + 1) := by unfold I64; omega
    rcases em2 (((ix l i).length : Int) = n) with e | e
    · simp [aev, cav, look, acallPure, abin, abinN, abinP, abinI, abinS, aun, aconv, afield, afieldAddr, aindexAddr, aindex, aslice, alow, ahigh, abuild, abuildGo, cellsOf, splice, fieldTy, alen, apick, amax, amin, aload, headV, aparts, abuildSlice, elParts, abytesStr, astore, amake, aappend, aclear, anew, arith, aresults, aresList, ares, spec0, spec1, spec2, spec3, spec4, eqCells, eqCell, hi, rowAt_enc hi, e, i1]
      exact ⟨i + 1, ⟨by omega, fun j hj => by
        rcases Nat.lt_or_eq_of_le (Nat.le_of_lt_succ hj) with h | rfl
        · exact h4 j h
        · exact of_eq_true e⟩, by omega, weak_slots (by simp)⟩
    · have hB : WideR n l = False := eq_false fun h => of_eq_false e (h.2.2 _ (ix_mem hi))
      simp [aev, cav, look, acallPure, abin, abinN, abinP, abinI, abinS, aun, aconv, afield, afieldAddr, aindexAddr, aindex, aslice, alow, ahigh, abuild, abuildGo, cellsOf, splice, fieldTy, alen, apick, amax, amin, aload, headV, aparts, abuildSlice, elParts, abytesStr, astore, amake, aappend, aclear, anew, arith, aresults, aresList, ares, spec0, spec1, spec2, spec3, spec4, eqCells, eqCell, hi, rowAt_enc hi, e, hB]
  · have hL : LenAll l n := fun r hr => by
      obtain ⟨j, hj, rfl⟩ := List.getElem_of_mem hr
      rw [← ix_lt hj]
      exact h4 j (by omega)
    by_cases h1 : 1 ≤ n
    · by_cases h2 : n ≤ 8
      · have hB : WideR n l = True := eq_true ⟨h1, h2, hL⟩
        simp [aev, cav, look, acallPure, abin, abinN, abinP, abinI, abinS, aun, aconv, afield, afieldAddr, aindexAddr, aindex, aslice, alow, ahigh, abuild, abuildGo, cellsOf, splice, fieldTy, alen, apick, amax, amin, aload, headV, aparts, abuildSlice, elParts, abytesStr, astore, amake, aappend, aclear, anew, arith, aresults, aresList, ares, spec0, spec1, spec2, spec3, spec4, eqCells, eqCell, hi, h1, h2, hB]
      · have hB : WideR n l = False := eq_false fun h => h2 h.2.1
        simp [aev, cav, look, acallPure, abin, abinN, abinP, abinI, abinS, aun, aconv, afield, afieldAddr, aindexAddr, aindex, aslice, alow, ahigh, abuild, abuildGo, cellsOf, splice, fieldTy, alen, apick, amax, amin, aload, headV, aparts, abuildSlice, elParts, abytesStr, astore, amake, aappend, aclear, anew, arith, aresults, aresList, ares, spec0, spec1, spec2, spec3, spec4, eqCells, eqCell, hi, h1, h2, hB]
    · have hB : WideR n l = False := eq_false fun h => h1 h.1
      simp [aev, cav, look, acallPure, abin, abinN, abinP, abinI, abinS, aun, aconv, afield, afieldAddr, aindexAddr, aindex, aslice, alow, ahigh, abuild, abuildGo, cellsOf, splice, fieldTy, alen, apick, amax, amin, aload, headV, aparts, abuildSlice, elParts, abytesStr, astore, amake, aappend, aclear, anew, arith, aresults, aresList, ares, spec0, spec1, spec2, spec3, spec4, eqCells, eqCell, hi, h1, hB]

/-- The rows rise. -/
def RisesR (l : List (List Int)) : Prop := ∀ i, i + 1 < l.length → cmpL (ix l i) (ix l (i + 1)) < 0
open Classical in
noncomputable def checkF (r : Rela) : Int := if WideR r.arity r.rows then (if 20000 < r.rows.length then 4 else if RisesR r.rows then 0 else 26) else 1
noncomputable def CK2 : Ctx := mkC Try.prog G0 [(51, .pure sShape), (54, .pure sCmp), (45, .pure sWide), (17, .pure sCmp)]
@[simp] theorem CK2_P : CK2.P = Try.prog := rfl
@[simp] theorem CK2_1 : CK2.S 51 = .pure sShape := rfl
@[simp] theorem CK2_2 : CK2.S 54 = .pure sCmp := rfl
@[simp] theorem CK2_3 : CK2.S 45 = .pure sWide := rfl
@[simp] theorem CK2_4 : CK2.S 17 = .pure sCmp := rfl
theorem mixCK2 : CK2.P.follows .mixedOrders = true := mixed
theorem sigCK2 : SigOK CK2 := sigOK_cons (entryPure shapeP Try.func51 rfl (by decide)) (sigOK_cons (entryPure compareP Try.func54 rfl (by decide)) (sigOK_cons (entryPure wideR Try.func45 rfl (by decide)) (sigOK_cons (entryPure cmpR Try.func17 rfl (by decide)) (sigOK_nil _ _))))
def RB (r : Rela) : Blk := ⟨26, 2, [[.int .i64 r.arity, .slice 1 false (encRows r.rows)]], true, true⟩
noncomputable def sCheck : List AV → Option (Prop × AV) := spec1 (fun (r : Rela) => SmallRs r.rows) (fun r => .int .i64 (checkF r))
set_option maxHeartbeats 8000000 in
theorem checkP : PureOK Try.prog G0 21 sCheck := by
  refine pure1 (C := CK2) sigCK2 mixCK2 Try.func21 rfl rfl rfl (by kernel_rfl) (by decide) (fun r hr => ?_)
  have hl := hr.1
  have hl2 := hr.2
  by_cases hw : WideR r.arity r.rows
  case neg =>
    have e : checkF r = 1 := by unfold checkF; rw [if_neg hw]
    have e2 : shapeF r.arity r.rows = 1 := by unfold shapeF; rw [if_neg hw]
    simp [aev, cav, look, acallPure, abin, abinN, abinP, abinI, abinS, aun, aconv, afield, afieldAddr, aindexAddr, aindex, aslice, alow, ahigh, abuild, abuildGo, cellsOf, splice, fieldTy, alen, apick, amax, amin, aload, headV, aparts, abuildSlice, elParts, abytesStr, astore, amake, aappend, aclear, anew, arith, aresults, aresList, ares, spec0, spec1, spec2, spec3, spec4, eqCells, eqCell, sShape, sWide, hr, hw, e, e2]
  have e2 : shapeF r.arity r.rows = 0 := by unfold shapeF; rw [if_pos hw]
  by_cases hb : 20000 < r.rows.length
  · have hb' : (20000 : Int) < r.rows.length := by omega
    have e : checkF r = 4 := by unfold checkF; rw [if_pos hw, if_pos hb]
    simp [aev, cav, look, acallPure, abin, abinN, abinP, abinI, abinS, aun, aconv, afield, afieldAddr, aindexAddr, aindex, aslice, alow, ahigh, abuild, abuildGo, cellsOf, splice, fieldTy, alen, apick, amax, amin, aload, headV, aparts, abuildSlice, elParts, abytesStr, astore, amake, aappend, aclear, anew, arith, aresults, aresList, ares, spec0, spec1, spec2, spec3, spec4, eqCells, eqCell, sShape, sWide, hr, hw, e, e2, hb, hb']
  have hb' : ¬ (20000 : Int) < r.rows.length := by omega
  simp [aev, cav, look, acallPure, abin, abinN, abinP, abinI, abinS, aun, aconv, afield, afieldAddr, aindexAddr, aindex, aslice, alow, ahigh, abuild, abuildGo, cellsOf, splice, fieldTy, alen, apick, amax, amin, aload, headV, aparts, abuildSlice, elParts, abytesStr, astore, amake, aappend, aclear, anew, arith, aresults, aresList, ares, spec0, spec1, spec2, spec3, spec4, eqCells, eqCell, sShape, sWide, hr, hw, e2, hb, hb']
  refine loop_rule (C := CK2) sigCK2 mixCK2 (fun i : Nat => ⟨[(1, .ptr 0 1 2 0 0), (4, .int .i64 ((i : Int) + 1))], [RB r]⟩) (fun i => (i = 0 ∨ i < r.rows.length) ∧ ∀ j, j < i → cmpL (ix r.rows j) (ix r.rows (j + 1)) < 0) (fun i => r.rows.length - i) (by kernel_rfl) ⟨0, ⟨.inl rfl, fun j hj => by omega⟩, weak_slots (by simp [RB])⟩ (fun i ⟨h3, h4⟩ => ?_)
  by_cases hi : i + 1 < r.rows.length
  · have hi' : (i : Int) + 1 < r.rows.length := by omega
    have hi0 : i < r.rows.length := by omega
    have i1 : I64 ((i : Int) + 1 + 1) := by unfold I64; omega
    have i2 : I64 (i : Int) := by unfold I64; omega
    have j4 : ((i : Int) + 1).toNat = i + 1 := by omega
    have j5 : (0 : Int) ≤ (i : Int) + 1 := by omega
    have sa := hl2 _ (ix_mem hi0)
    have sb := hl2 _ (ix_mem hi)
    by_cases hc : cmpL (ix r.rows i) (ix r.rows (i + 1)) < 0
    · have hc' : ¬ 0 ≤ cmpL (ix r.rows i) (ix r.rows (i + 1)) := by omega
      simp [aev, cav, look, acallPure, abin, abinN, abinP, abinI, abinS, aun, aconv, afield, afieldAddr, aindexAddr, aindex, aslice, alow, ahigh, abuild, abuildGo, cellsOf, splice, fieldTy, alen, apick, amax, amin, aload, headV, aparts, abuildSlice, elParts, abytesStr, astore, amake, aappend, aclear, anew, arith, aresults, aresList, ares, spec0, spec1, spec2, spec3, spec4, eqCells, eqCell, RB, sCmp, hi, hi', hi0, i1, i2, j4, j5, rowAt_enc hi, rowAt_enc hi0, sa, sb, hc, hc']
      exact ⟨i + 1, ⟨.inr hi, fun j hj => by
        rcases Nat.lt_or_eq_of_le (Nat.le_of_lt_succ hj) with h | rfl
        · exact h4 j h
        · exact hc⟩, by omega, weak_slots (by simp)⟩
    · have hc' : 0 ≤ cmpL (ix r.rows i) (ix r.rows (i + 1)) := by omega
      have e : checkF r = 26 := by unfold checkF; rw [if_pos hw, if_neg hb, if_neg (fun h => hc (h i hi))]
      simp [aev, cav, look, acallPure, abin, abinN, abinP, abinI, abinS, aun, aconv, afield, afieldAddr, aindexAddr, aindex, aslice, alow, ahigh, abuild, abuildGo, cellsOf, splice, fieldTy, alen, apick, amax, amin, aload, headV, aparts, abuildSlice, elParts, abytesStr, astore, amake, aappend, aclear, anew, arith, aresults, aresList, ares, spec0, spec1, spec2, spec3, spec4, eqCells, eqCell, RB, sCmp, hi, hi', hi0, i1, i2, j4, j5, rowAt_enc hi, rowAt_enc hi0, sa, sb, hc, hc', e]
  · have hi' : ¬ (i : Int) + 1 < r.rows.length := by omega
    have hR : RisesR r.rows := fun j hj => h4 j (by omega)
    have e : checkF r = 0 := by unfold checkF; rw [if_pos hw, if_neg hb, if_pos hR]
    simp [aev, cav, look, acallPure, abin, abinN, abinP, abinI, abinS, aun, aconv, afield, afieldAddr, aindexAddr, aindex, aslice, alow, ahigh, abuild, abuildGo, cellsOf, splice, fieldTy, alen, apick, amax, amin, aload, headV, aparts, abuildSlice, elParts, abytesStr, astore, amake, aappend, aclear, anew, arith, aresults, aresList, ares, spec0, spec1, spec2, spec3, spec4, eqCells, eqCell, RB, hi', e]
set_option maxHeartbeats 8000000 in
theorem checkR : PureOK Try.prog G0 42 sCheck := by
  refine pure1 (C := CK2) sigCK2 mixCK2 Try.func42 rfl rfl rfl (by kernel_rfl) (by decide) (fun r hr => ?_)
  have hl := hr.1
  have hl2 := hr.2
  by_cases hw : WideR r.arity r.rows
  case neg =>
    have e : checkF r = 1 := by unfold checkF; rw [if_neg hw]
    have e2 : shapeF r.arity r.rows = 1 := by unfold shapeF; rw [if_neg hw]
    simp [aev, cav, look, acallPure, abin, abinN, abinP, abinI, abinS, aun, aconv, afield, afieldAddr, aindexAddr, aindex, aslice, alow, ahigh, abuild, abuildGo, cellsOf, splice, fieldTy, alen, apick, amax, amin, aload, headV, aparts, abuildSlice, elParts, abytesStr, astore, amake, aappend, aclear, anew, arith, aresults, aresList, ares, spec0, spec1, spec2, spec3, spec4, eqCells, eqCell, sShape, sWide, hr, hw, e, e2]
  have e2 : shapeF r.arity r.rows = 0 := by unfold shapeF; rw [if_pos hw]
  by_cases hb : 20000 < r.rows.length
  · have hb' : (20000 : Int) < r.rows.length := by omega
    have e : checkF r = 4 := by unfold checkF; rw [if_pos hw, if_pos hb]
    simp [aev, cav, look, acallPure, abin, abinN, abinP, abinI, abinS, aun, aconv, afield, afieldAddr, aindexAddr, aindex, aslice, alow, ahigh, abuild, abuildGo, cellsOf, splice, fieldTy, alen, apick, amax, amin, aload, headV, aparts, abuildSlice, elParts, abytesStr, astore, amake, aappend, aclear, anew, arith, aresults, aresList, ares, spec0, spec1, spec2, spec3, spec4, eqCells, eqCell, sShape, sWide, hr, hw, e, e2, hb, hb']
  have hb' : ¬ (20000 : Int) < r.rows.length := by omega
  simp [aev, cav, look, acallPure, abin, abinN, abinP, abinI, abinS, aun, aconv, afield, afieldAddr, aindexAddr, aindex, aslice, alow, ahigh, abuild, abuildGo, cellsOf, splice, fieldTy, alen, apick, amax, amin, aload, headV, aparts, abuildSlice, elParts, abytesStr, astore, amake, aappend, aclear, anew, arith, aresults, aresList, ares, spec0, spec1, spec2, spec3, spec4, eqCells, eqCell, sShape, sWide, hr, hw, e2, hb, hb']
  refine loop_rule (C := CK2) sigCK2 mixCK2 (fun i : Nat => ⟨[(1, .ptr 0 1 2 0 0), (3, .int .i64 ((i : Int) + 1))], [RB r]⟩) (fun i => (i = 0 ∨ i < r.rows.length) ∧ ∀ j, j < i → cmpL (ix r.rows j) (ix r.rows (j + 1)) < 0) (fun i => r.rows.length - i) (by kernel_rfl) ⟨0, ⟨.inl rfl, fun j hj => by omega⟩, weak_slots (by simp [RB])⟩ (fun i ⟨h3, h4⟩ => ?_)
  by_cases hi : i + 1 < r.rows.length
  · have hi' : (i : Int) + 1 < r.rows.length := by omega
    have hi0 : i < r.rows.length := by omega
    have i1 : I64 ((i : Int) + 1 + 1) := by unfold I64; omega
    have i2 : I64 (i : Int) := by unfold I64; omega
    have j4 : ((i : Int) + 1).toNat = i + 1 := by omega
    have j5 : (0 : Int) ≤ (i : Int) + 1 := by omega
    have sa := hl2 _ (ix_mem hi0)
    have sb := hl2 _ (ix_mem hi)
    by_cases hc : cmpL (ix r.rows i) (ix r.rows (i + 1)) < 0
    · have hc' : ¬ 0 ≤ cmpL (ix r.rows i) (ix r.rows (i + 1)) := by omega
      simp [aev, cav, look, acallPure, abin, abinN, abinP, abinI, abinS, aun, aconv, afield, afieldAddr, aindexAddr, aindex, aslice, alow, ahigh, abuild, abuildGo, cellsOf, splice, fieldTy, alen, apick, amax, amin, aload, headV, aparts, abuildSlice, elParts, abytesStr, astore, amake, aappend, aclear, anew, arith, aresults, aresList, ares, spec0, spec1, spec2, spec3, spec4, eqCells, eqCell, RB, sCmp, hi, hi', hi0, i1, i2, j4, j5, rowAt_enc hi, rowAt_enc hi0, sa, sb, hc, hc']
      exact ⟨i + 1, ⟨.inr hi, fun j hj => by
        rcases Nat.lt_or_eq_of_le (Nat.le_of_lt_succ hj) with h | rfl
        · exact h4 j h
        · exact hc⟩, by omega, weak_slots (by simp)⟩
    · have hc' : 0 ≤ cmpL (ix r.rows i) (ix r.rows (i + 1)) := by omega
      have e : checkF r = 26 := by unfold checkF; rw [if_pos hw, if_neg hb, if_neg (fun h => hc (h i hi))]
      simp [aev, cav, look, acallPure, abin, abinN, abinP, abinI, abinS, aun, aconv, afield, afieldAddr, aindexAddr, aindex, aslice, alow, ahigh, abuild, abuildGo, cellsOf, splice, fieldTy, alen, apick, amax, amin, aload, headV, aparts, abuildSlice, elParts, abytesStr, astore, amake, aappend, aclear, anew, arith, aresults, aresList, ares, spec0, spec1, spec2, spec3, spec4, eqCells, eqCell, RB, sCmp, hi, hi', hi0, i1, i2, j4, j5, rowAt_enc hi, rowAt_enc hi0, sa, sb, hc, hc', e]
  · have hi' : ¬ (i : Int) + 1 < r.rows.length := by omega
    have hR : RisesR r.rows := fun j hj => h4 j (by omega)
    have e : checkF r = 0 := by unfold checkF; rw [if_pos hw, if_neg hb, if_pos hR]
    simp [aev, cav, look, acallPure, abin, abinN, abinP, abinI, abinS, aun, aconv, afield, afieldAddr, aindexAddr, aindex, aslice, alow, ahigh, abuild, abuildGo, cellsOf, splice, fieldTy, alen, apick, amax, amin, aload, headV, aparts, abuildSlice, elParts, abytesStr, astore, amake, aappend, aclear, anew, arith, aresults, aresList, ares, spec0, spec1, spec2, spec3, spec4, eqCells, eqCell, RB, hi', e]
end Go.Proofs.Ytkonafdbfciikaa
