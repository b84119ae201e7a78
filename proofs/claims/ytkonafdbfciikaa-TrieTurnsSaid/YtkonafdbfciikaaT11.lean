/-
  layer 14: rows compared.
-/
import Derived.Test.YtkonafdbfciikaaT10
namespace Go.Proofs.Ytkonafdbfciikaa
open Go.RowKit
set_option linter.unusedSimpArgs false
set_option linter.unusedVariables false
set_option maxRecDepth 100000

/-- Two rows compared, place by place. -/
def cmpL : List Int → List Int → Int
  | [], [] => 0
  | [], _ :: _ => -1
  | _ :: _, [] => 1
  | a :: r, b :: q => if a < b then -1 else if b < a then 1 else cmpL r q
theorem cmpL_refl : ∀ a, cmpL a a = 0
  | [] => rfl
  | a :: r => by rw [cmpL, if_neg (Int.lt_irrefl a), if_neg (Int.lt_irrefl a), cmpL_refl r]
theorem cmpL_eq : ∀ {a b : List Int}, cmpL a b = 0 → a = b
  | [], [], _ => rfl
  | [], _ :: _, h => by cases h
  | _ :: _, [], h => by cases h
  | a :: r, b :: q, h => by
    rw [cmpL] at h
    split at h
    · cases h
    · split at h
      · cases h
      · rw [cmpL_eq h, show a = b by omega]
theorem cmpL_range : ∀ (a b : List Int), cmpL a b = -1 ∨ cmpL a b = 0 ∨ cmpL a b = 1
  | [], [] => .inr (.inl rfl)
  | [], _ :: _ => .inl rfl
  | _ :: _, [] => .inr (.inr rfl)
  | a :: r, b :: q => by
    rw [cmpL]
    split
    · exact .inl rfl
    · split
      · exact .inr (.inr rfl)
      · exact cmpL_range r q
theorem cmpL_swap : ∀ (a b : List Int), cmpL b a = - cmpL a b
  | [], [] => rfl
  | [], _ :: _ => rfl
  | _ :: _, [] => rfl
  | a :: r, b :: q => by
    rw [cmpL, cmpL]
    by_cases h1 : a < b
    · rw [if_pos h1, if_neg (by omega), if_pos h1]; rfl
    · by_cases h2 : b < a
      · rw [if_pos h2, if_neg h1, if_pos h2]
      · rw [if_neg h1, if_neg h2, if_neg h2, if_neg h1, cmpL_swap r q]
theorem cmpL_trans : ∀ {a b c : List Int}, cmpL a b < 0 → cmpL b c < 0 → cmpL a c < 0
  | [], [], _, h, _ => by cases h
  | [], _ :: _, [], _, h => by cases h
  | [], _ :: _, _ :: _, _, _ => by show (-1 : Int) < 0; decide
  | _ :: _, [], _, h, _ => by cases h
  | _ :: _, _ :: _, [], _, h => by cases h
  | a :: r, b :: q, c :: s, h1, h2 => by
    rw [cmpL] at h1 h2 ⊢
    split at h1
    · split at h2
      · rw [if_pos (by omega)]; decide
      · split at h2
        · cases h2
        · rw [if_pos (by omega)]; decide
    · split at h1
      · cases h1
      · split at h2
        · rw [if_pos (by omega)]; decide
        · split at h2
          · cases h2
          · rw [if_neg (by omega), if_neg (by omega)]
            exact cmpL_trans h1 h2
theorem cmpL_drop {a b : List Int} {i : Nat} (ha : i < a.length) (hb : i < b.length) : cmpL (a.drop i) (b.drop i) = if ix a i < ix b i then -1 else if ix b i < ix a i then 1 else cmpL (a.drop (i + 1)) (b.drop (i + 1)) := by
  rw [List.drop_eq_getElem_cons ha, List.drop_eq_getElem_cons hb, cmpL, ix_lt ha, ix_lt hb]
theorem cmpL_left {a b : List Int} {i : Nat} (ha : i < a.length) (hb : b.length ≤ i) : cmpL (a.drop i) (b.drop i) = 1 := by
  rw [List.drop_eq_getElem_cons ha, List.drop_eq_nil_of_le hb, cmpL]
theorem cmpL_right {a b : List Int} {i : Nat} (ha : a.length ≤ i) (hb : i < b.length) : cmpL (a.drop i) (b.drop i) = -1 := by
  rw [List.drop_eq_getElem_cons hb, List.drop_eq_nil_of_le ha, cmpL]
theorem cmpL_none {a b : List Int} {i : Nat} (ha : a.length ≤ i) (hb : b.length ≤ i) : cmpL (a.drop i) (b.drop i) = 0 := by
  rw [List.drop_eq_nil_of_le hb, List.drop_eq_nil_of_le ha, cmpL]

def SmallR (l : List Int) : Prop := l.length ≤ 1000000
def sCmp : List AV → Option (Prop × AV) := spec2 (fun (a b : List Int) => SmallR a ∧ SmallR b) (fun a b => .int .i64 (cmpL a b))
set_option maxHeartbeats 8000000 in
theorem cmpR : PureOK Try.prog G0 17 sCmp := by
  refine pure2 (C := CE) sigCE mixCE Try.func17 rfl rfl rfl (by kernel_rfl) (by decide) (fun a b ⟨ha, hb⟩ => ?_)
  unfold SmallR at ha hb
  simp [aev, cav, look, acallPure, abin, abinN, abinP, abinI, abinS, aun, aconv, afield, afieldAddr, aindexAddr, aindex, aslice, alow, ahigh, abuild, abuildGo, cellsOf, splice, fieldTy, alen, apick, amax, amin, aload, headV, aparts, abuildSlice, elParts, abytesStr, astore, amake, aappend, aclear, anew, arith, aresults, aresList, ares, spec0, spec1, spec2, spec3, spec4, eqCells, eqCell]
  refine loop_rule (C := CE) sigCE mixCE (fun i : Nat => ⟨[(0, Enc.enc a), (1, Enc.enc b), (5, .int .i64 i)], []⟩) (fun i => i ≤ a.length ∧ i ≤ b.length ∧ cmpL (a.drop i) (b.drop i) = cmpL a b) (fun i => a.length - i) (by kernel_rfl) ⟨0, ⟨by omega, by omega, rfl⟩, weak_slots (by simp)⟩ (fun i ⟨h1, h2, h3⟩ => ?_)
  by_cases ia : i < a.length
  · by_cases ib : i < b.length
    · have i1 : I64 ((i : Int) + 1) := by unfold I64; omega
      rw [cmpL_drop ia ib] at h3
      by_cases x1 : ix a i < ix b i
      · rw [if_pos x1] at h3
        simp [aev, cav, look, acallPure, abin, abinN, abinP, abinI, abinS, aun, aconv, afield, afieldAddr, aindexAddr, aindex, aslice, alow, ahigh, abuild, abuildGo, cellsOf, splice, fieldTy, alen, apick, amax, amin, aload, headV, aparts, abuildSlice, elParts, abytesStr, astore, amake, aappend, aclear, anew, arith, aresults, aresList, ares, spec0, spec1, spec2, spec3, spec4, eqCells, eqCell, ia, ib, rowAt_enc ia, rowAt_enc ib, x1, ← h3]
      · by_cases x2 : ix b i < ix a i
        · rw [if_neg x1, if_pos x2] at h3
          simp [aev, cav, look, acallPure, abin, abinN, abinP, abinI, abinS, aun, aconv, afield, afieldAddr, aindexAddr, aindex, aslice, alow, ahigh, abuild, abuildGo, cellsOf, splice, fieldTy, alen, apick, amax, amin, aload, headV, aparts, abuildSlice, elParts, abytesStr, astore, amake, aappend, aclear, anew, arith, aresults, aresList, ares, spec0, spec1, spec2, spec3, spec4, eqCells, eqCell, ia, ib, rowAt_enc ia, rowAt_enc ib, x1, x2, ← h3]
        · rw [if_neg x1, if_neg x2] at h3
          simp [aev, cav, look, acallPure, abin, abinN, abinP, abinI, abinS, aun, aconv, afield, afieldAddr, aindexAddr, aindex, aslice, alow, ahigh, abuild, abuildGo, cellsOf, splice, fieldTy, alen, apick, amax, amin, aload, headV, aparts, abuildSlice, elParts, abytesStr, astore, amake, aappend, aclear, anew, arith, aresults, aresList, ares, spec0, spec1, spec2, spec3, spec4, eqCells, eqCell, ia, ib, rowAt_enc ia, rowAt_enc ib, x1, x2, i1]
          exact ⟨i + 1, ⟨by omega, by omega, h3⟩, by omega, weak_slots (by simp)⟩
    · rw [cmpL_left ia (by omega)] at h3
      have l1 : ¬ a.length < b.length := by omega
      have l2 : b.length < a.length := by omega
      simp [aev, cav, look, acallPure, abin, abinN, abinP, abinI, abinS, aun, aconv, afield, afieldAddr, aindexAddr, aindex, aslice, alow, ahigh, abuild, abuildGo, cellsOf, splice, fieldTy, alen, apick, amax, amin, aload, headV, aparts, abuildSlice, elParts, abytesStr, astore, amake, aappend, aclear, anew, arith, aresults, aresList, ares, spec0, spec1, spec2, spec3, spec4, eqCells, eqCell, ia, ib, l1, l2, ← h3]
  · by_cases ib : i < b.length
    · rw [cmpL_right (by omega) ib] at h3
      have l1 : a.length < b.length := by omega
      simp [aev, cav, look, acallPure, abin, abinN, abinP, abinI, abinS, aun, aconv, afield, afieldAddr, aindexAddr, aindex, aslice, alow, ahigh, abuild, abuildGo, cellsOf, splice, fieldTy, alen, apick, amax, amin, aload, headV, aparts, abuildSlice, elParts, abytesStr, astore, amake, aappend, aclear, anew, arith, aresults, aresList, ares, spec0, spec1, spec2, spec3, spec4, eqCells, eqCell, ia, ib, l1, ← h3]
    · rw [cmpL_none (by omega) (by omega)] at h3
      have l1 : ¬ a.length < b.length := by omega
      have l2 : ¬ b.length < a.length := by omega
      simp [aev, cav, look, acallPure, abin, abinN, abinP, abinI, abinS, aun, aconv, afield, afieldAddr, aindexAddr, aindex, aslice, alow, ahigh, abuild, abuildGo, cellsOf, splice, fieldTy, alen, apick, amax, amin, aload, headV, aparts, abuildSlice, elParts, abytesStr, astore, amake, aappend, aclear, anew, arith, aresults, aresList, ares, spec0, spec1, spec2, spec3, spec4, eqCells, eqCell, ia, ib, l1, l2, ← h3]

def cmp1 (a b : Int) : Int := if a < b then -1 else if b < a then 1 else 0
def sCmp1 : List AV → Option (Prop × AV) := spec2 (fun (_ _ : Int) => True) (fun a b => .int .i64 (cmp1 a b))
theorem cmp1P : PureOK Try.prog G0 76 sCmp1 := by
  refine pure2 (C := CL1) sigCL1 mixCL1 Try.func76 rfl rfl rfl (by kernel_rfl) (by decide) (fun a b _ => ?_)
  by_cases x1 : a < b
  · have e : cmp1 a b = -1 := by unfold cmp1; rw [if_pos x1]
    simp [aev, cav, look, acallPure, abin, abinN, abinP, abinI, abinS, aun, aconv, afield, afieldAddr, aindexAddr, aindex, aslice, alow, ahigh, abuild, abuildGo, cellsOf, splice, fieldTy, alen, apick, amax, amin, aload, headV, aparts, abuildSlice, elParts, abytesStr, astore, amake, aappend, aclear, anew, arith, aresults, aresList, ares, spec0, spec1, spec2, spec3, spec4, eqCells, eqCell, isNaNs, x1, e]
  · by_cases x2 : b < a
    · have e : cmp1 a b = 1 := by unfold cmp1; rw [if_neg x1, if_pos x2]
      simp [aev, cav, look, acallPure, abin, abinN, abinP, abinI, abinS, aun, aconv, afield, afieldAddr, aindexAddr, aindex, aslice, alow, ahigh, abuild, abuildGo, cellsOf, splice, fieldTy, alen, apick, amax, amin, aload, headV, aparts, abuildSlice, elParts, abytesStr, astore, amake, aappend, aclear, anew, arith, aresults, aresList, ares, spec0, spec1, spec2, spec3, spec4, eqCells, eqCell, isNaNs, x1, x2, e]
    · have e : cmp1 a b = 0 := by unfold cmp1; rw [if_neg x1, if_neg x2]
      simp [aev, cav, look, acallPure, abin, abinN, abinP, abinI, abinS, aun, aconv, afield, afieldAddr, aindexAddr, aindex, aslice, alow, ahigh, abuild, abuildGo, cellsOf, splice, fieldTy, alen, apick, amax, amin, aload, headV, aparts, abuildSlice, elParts, abytesStr, astore, amake, aappend, aclear, anew, arith, aresults, aresList, ares, spec0, spec1, spec2, spec3, spec4, eqCells, eqCell, isNaNs, x1, x2, e]
noncomputable def CC2 : Ctx := mkC Try.prog G0 [(76, .pure sCmp1)]
@[simp] theorem CC2_P : CC2.P = Try.prog := rfl
@[simp] theorem CC2_1 : CC2.S 76 = .pure sCmp1 := rfl
theorem mixCC2 : CC2.P.follows .mixedOrders = true := mixed
theorem sigCC2 : SigOK CC2 := sigOK_cons (entryPure cmp1P Try.func76 rfl (by decide)) (sigOK_nil _ _)
set_option maxHeartbeats 8000000 in
theorem compareP : PureOK Try.prog G0 54 sCmp := by
  refine pure2 (C := CC2) sigCC2 mixCC2 Try.func54 rfl rfl rfl (by kernel_rfl) (by decide) (fun a b ⟨ha, hb⟩ => ?_)
  unfold SmallR at ha hb
  simp [aev, cav, look, acallPure, abin, abinN, abinP, abinI, abinS, aun, aconv, afield, afieldAddr, aindexAddr, aindex, aslice, alow, ahigh, abuild, abuildGo, cellsOf, splice, fieldTy, alen, apick, amax, amin, aload, headV, aparts, abuildSlice, elParts, abytesStr, astore, amake, aappend, aclear, anew, arith, aresults, aresList, ares, spec0, spec1, spec2, spec3, spec4, eqCells, eqCell]
  refine loop_rule (C := CC2) sigCC2 mixCC2 (fun i : Nat => ⟨[(0, Enc.enc a), (1, Enc.enc b), (9, Enc.enc a), (10, .int .i64 a.length), (11, .int .i64 i)], []⟩) (fun i => i ≤ a.length ∧ i ≤ b.length ∧ cmpL (a.drop i) (b.drop i) = cmpL a b) (fun i => a.length - i) (by kernel_rfl) ⟨0, ⟨by omega, by omega, rfl⟩, weak_slots (by simp)⟩ (fun i ⟨h1, h2, h3⟩ => ?_)
  by_cases ia : i < a.length
  · by_cases ib : i < b.length
    · have i1 : I64 ((i : Int) + 1) := by unfold I64; omega
      have nb : ¬ b.length ≤ i := by omega
      rw [cmpL_drop ia ib] at h3
      by_cases x1 : ix a i < ix b i
      · have e : cmp1 (ix a i) (ix b i) = -1 := by unfold cmp1; rw [if_pos x1]
        rw [if_pos x1] at h3
        simp [aev, cav, look, acallPure, abin, abinN, abinP, abinI, abinS, aun, aconv, afield, afieldAddr, aindexAddr, aindex, aslice, alow, ahigh, abuild, abuildGo, cellsOf, splice, fieldTy, alen, apick, amax, amin, aload, headV, aparts, abuildSlice, elParts, abytesStr, astore, amake, aappend, aclear, anew, arith, aresults, aresList, ares, spec0, spec1, spec2, spec3, spec4, eqCells, eqCell, sCmp1, ia, ib, nb, rowAt_enc ia, rowAt_enc ib, e, ← h3]
      · by_cases x2 : ix b i < ix a i
        · have e : cmp1 (ix a i) (ix b i) = 1 := by unfold cmp1; rw [if_neg x1, if_pos x2]
          rw [if_neg x1, if_pos x2] at h3
          simp [aev, cav, look, acallPure, abin, abinN, abinP, abinI, abinS, aun, aconv, afield, afieldAddr, aindexAddr, aindex, aslice, alow, ahigh, abuild, abuildGo, cellsOf, splice, fieldTy, alen, apick, amax, amin, aload, headV, aparts, abuildSlice, elParts, abytesStr, astore, amake, aappend, aclear, anew, arith, aresults, aresList, ares, spec0, spec1, spec2, spec3, spec4, eqCells, eqCell, sCmp1, ia, ib, nb, rowAt_enc ia, rowAt_enc ib, e, ← h3]
        · have e : cmp1 (ix a i) (ix b i) = 0 := by unfold cmp1; rw [if_neg x1, if_neg x2]
          rw [if_neg x1, if_neg x2] at h3
          simp [aev, cav, look, acallPure, abin, abinN, abinP, abinI, abinS, aun, aconv, afield, afieldAddr, aindexAddr, aindex, aslice, alow, ahigh, abuild, abuildGo, cellsOf, splice, fieldTy, alen, apick, amax, amin, aload, headV, aparts, abuildSlice, elParts, abytesStr, astore, amake, aappend, aclear, anew, arith, aresults, aresList, ares, spec0, spec1, spec2, spec3, spec4, eqCells, eqCell, sCmp1, ia, ib, nb, rowAt_enc ia, rowAt_enc ib, e, i1]
          exact ⟨i + 1, ⟨by omega, by omega, h3⟩, by omega, weak_slots (by simp)⟩
    · rw [cmpL_left ia (by omega)] at h3
      have nb : b.length ≤ i := by omega
      simp [aev, cav, look, acallPure, abin, abinN, abinP, abinI, abinS, aun, aconv, afield, afieldAddr, aindexAddr, aindex, aslice, alow, ahigh, abuild, abuildGo, cellsOf, splice, fieldTy, alen, apick, amax, amin, aload, headV, aparts, abuildSlice, elParts, abytesStr, astore, amake, aappend, aclear, anew, arith, aresults, aresList, ares, spec0, spec1, spec2, spec3, spec4, eqCells, eqCell, ia, ib, nb, rowAt_enc ia, ← h3]
  · by_cases ib : i < b.length
    · rw [cmpL_right (by omega) ib] at h3
      have l1 : a.length < b.length := by omega
      simp [aev, cav, look, acallPure, abin, abinN, abinP, abinI, abinS, aun, aconv, afield, afieldAddr, aindexAddr, aindex, aslice, alow, ahigh, abuild, abuildGo, cellsOf, splice, fieldTy, alen, apick, amax, amin, aload, headV, aparts, abuildSlice, elParts, abytesStr, astore, amake, aappend, aclear, anew, arith, aresults, aresList, ares, spec0, spec1, spec2, spec3, spec4, eqCells, eqCell, ia, ib, l1, ← h3]
    · rw [cmpL_none (by omega) (by omega)] at h3
      have l1 : ¬ a.length < b.length := by omega
      simp [aev, cav, look, acallPure, abin, abinN, abinP, abinI, abinS, aun, aconv, afield, afieldAddr, aindexAddr, aindex, aslice, alow, ahigh, abuild, abuildGo, cellsOf, splice, fieldTy, alen, apick, amax, amin, aload, headV, aparts, abuildSlice, elParts, abytesStr, astore, amake, aappend, aclear, anew, arith, aresults, aresList, ares, spec0, spec1, spec2, spec3, spec4, eqCells, eqCell, ia, ib, l1, ← h3]

def sEq : List AV → Option (Prop × AV) := spec2 (fun (a b : List Int) => SmallR a ∧ SmallR b) (fun a b => .bool (decide (a = b)))
set_option maxHeartbeats 8000000 in
theorem equalP : PureOK Try.prog G0 56 sEq := by
  refine pure2 (C := CE) sigCE mixCE Try.func56 rfl rfl rfl (by kernel_rfl) (by decide) (fun a b ⟨ha, hb⟩ => ?_)
  unfold SmallR at ha hb
  rcases em2 ((a.length : Int) = b.length) with hl | hl
  case inr =>
    have hd : (a = b) = False := eq_false fun h => of_eq_false hl (by rw [h])
    simp [aev, cav, look, acallPure, abin, abinN, abinP, abinI, abinS, aun, aconv, afield, afieldAddr, aindexAddr, aindex, aslice, alow, ahigh, abuild, abuildGo, cellsOf, splice, fieldTy, alen, apick, amax, amin, aload, headV, aparts, abuildSlice, elParts, abytesStr, astore, amake, aappend, aclear, anew, arith, aresults, aresList, ares, spec0, spec1, spec2, spec3, spec4, eqCells, eqCell, hl, hd]
  have hl' : a.length = b.length := by have := of_eq_true hl; omega
  simp [aev, cav, look, acallPure, abin, abinN, abinP, abinI, abinS, aun, aconv, afield, afieldAddr, aindexAddr, aindex, aslice, alow, ahigh, abuild, abuildGo, cellsOf, splice, fieldTy, alen, apick, amax, amin, aload, headV, aparts, abuildSlice, elParts, abytesStr, astore, amake, aappend, aclear, anew, arith, aresults, aresList, ares, spec0, spec1, spec2, spec3, spec4, eqCells, eqCell, hl]
  refine loop_rule (C := CE) sigCE mixCE (fun i : Nat => ⟨[(0, Enc.enc a), (1, Enc.enc b), (12, .int .i64 a.length), (13, .int .i64 i)], []⟩) (fun i => i ≤ a.length ∧ a.take i = b.take i) (fun i => a.length - i) (by kernel_rfl) ⟨0, ⟨by omega, rfl⟩, weak_slots (by simp)⟩ (fun i ⟨h1, h2⟩ => ?_)
  by_cases ia : i < a.length
  · have ib : i < b.length := by omega
    have i1 : I64 ((i : Int) + 1) := by unfold I64; omega
    rcases em2 (ix a i = ix b i) with x | x
    · simp [aev, cav, look, acallPure, abin, abinN, abinP, abinI, abinS, aun, aconv, afield, afieldAddr, aindexAddr, aindex, aslice, alow, ahigh, abuild, abuildGo, cellsOf, splice, fieldTy, alen, apick, amax, amin, aload, headV, aparts, abuildSlice, elParts, abytesStr, astore, amake, aappend, aclear, anew, arith, aresults, aresList, ares, spec0, spec1, spec2, spec3, spec4, eqCells, eqCell, ia, ib, rowAt_enc ia, rowAt_enc ib, x, i1]
      refine ⟨i + 1, ⟨by omega, ?_⟩, by omega, weak_slots (by simp)⟩
      rw [List.take_succ_eq_append_getElem ia, List.take_succ_eq_append_getElem ib, h2, ← ix_lt ia, ← ix_lt ib, of_eq_true x]
    · have hd : (a = b) = False := eq_false fun h => of_eq_false x (by rw [h])
      simp [aev, cav, look, acallPure, abin, abinN, abinP, abinI, abinS, aun, aconv, afield, afieldAddr, aindexAddr, aindex, aslice, alow, ahigh, abuild, abuildGo, cellsOf, splice, fieldTy, alen, apick, amax, amin, aload, headV, aparts, abuildSlice, elParts, abytesStr, astore, amake, aappend, aclear, anew, arith, aresults, aresList, ares, spec0, spec1, spec2, spec3, spec4, eqCells, eqCell, ia, ib, rowAt_enc ia, rowAt_enc ib, x, hd]
  · have hd : (a = b) = True := eq_true (by rwa [List.take_of_length_le (by omega), List.take_of_length_le (by omega)] at h2)
    simp [aev, cav, look, acallPure, abin, abinN, abinP, abinI, abinS, aun, aconv, afield, afieldAddr, aindexAddr, aindex, aslice, alow, ahigh, abuild, abuildGo, cellsOf, splice, fieldTy, alen, apick, amax, amin, aload, headV, aparts, abuildSlice, elParts, abytesStr, astore, amake, aappend, aclear, anew, arith, aresults, aresList, ares, spec0, spec1, spec2, spec3, spec4, eqCells, eqCell, ia, hd]

noncomputable def CI1 : Ctx := mkC Try.prog G0 [(17, .pure sCmp)]
@[simp] theorem CI1_P : CI1.P = Try.prog := rfl
@[simp] theorem CI1_1 : CI1.S 17 = .pure sCmp := rfl
theorem mixCI1 : CI1.P.follows .mixedOrders = true := mixed
theorem sigCI1 : SigOK CI1 := sigOK_cons (entryPure cmpR Try.func17 rfl (by decide)) (sigOK_nil _ _)
theorem intsR : PureOK Try.prog G0 58 sEq := by
  refine pure2 (C := CI1) sigCI1 mixCI1 Try.func58 rfl rfl rfl (by kernel_rfl) (by decide) (fun a b h => ?_)
  rcases em2 (a = b) with x | x
  · have e : cmpL a b = 0 := by rw [of_eq_true x]; exact cmpL_refl b
    simp [aev, cav, look, acallPure, abin, abinN, abinP, abinI, abinS, aun, aconv, afield, afieldAddr, aindexAddr, aindex, aslice, alow, ahigh, abuild, abuildGo, cellsOf, splice, fieldTy, alen, apick, amax, amin, aload, headV, aparts, abuildSlice, elParts, abytesStr, astore, amake, aappend, aclear, anew, arith, aresults, aresList, ares, spec0, spec1, spec2, spec3, spec4, eqCells, eqCell, sCmp, h, e, x]
  · have e : (cmpL a b = 0) = False := eq_false fun h => of_eq_false x (cmpL_eq h)
    simp [aev, cav, look, acallPure, abin, abinN, abinP, abinI, abinS, aun, aconv, afield, afieldAddr, aindexAddr, aindex, aslice, alow, ahigh, abuild, abuildGo, cellsOf, splice, fieldTy, alen, apick, amax, amin, aload, headV, aparts, abuildSlice, elParts, abytesStr, astore, amake, aappend, aclear, anew, arith, aresults, aresList, ares, spec0, spec1, spec2, spec3, spec4, eqCells, eqCell, sCmp, h, e, x]

noncomputable def CN1 : Ctx := mkC Try.prog G0 [(58, .pure sEq)]
@[simp] theorem CN1_P : CN1.P = Try.prog := rfl
@[simp] theorem CN1_1 : CN1.S 58 = .pure sEq := rfl
theorem mixCN1 : CN1.P.follows .mixedOrders = true := mixed
theorem sigCN1 : SigOK CN1 := sigOK_cons (entryPure intsR Try.func58 rfl (by decide)) (sigOK_nil _ _)
def ShortC (c : Cursor) : Prop := SmallR c.at_ ∧ SmallR c.end_
def sSameC : List AV → Option (Prop × AV) := spec2 (fun (a b : Cursor) => ShortC a ∧ ShortC b) (fun a b => .bool (decide (a.at_ = b.at_) && decide (a.end_ = b.end_)))
theorem sameCursorR : PureOK Try.prog G0 26 sSameC := by
  refine pure2 (C := CN1) sigCN1 mixCN1 Try.func26 rfl rfl rfl (by kernel_rfl) (by decide) (fun a b ⟨⟨h1, h2⟩, h3, h4⟩ => ?_)
  rcases em2 (a.at_ = b.at_) with x | x
  · simp [aev, cav, look, acallPure, abin, abinN, abinP, abinI, abinS, aun, aconv, afield, afieldAddr, aindexAddr, aindex, aslice, alow, ahigh, abuild, abuildGo, cellsOf, splice, fieldTy, alen, apick, amax, amin, aload, headV, aparts, abuildSlice, elParts, abytesStr, astore, amake, aappend, aclear, anew, arith, aresults, aresList, ares, spec0, spec1, spec2, spec3, spec4, eqCells, eqCell, sEq, h1, h2, h3, h4, x]
  · simp [aev, cav, look, acallPure, abin, abinN, abinP, abinI, abinS, aun, aconv, afield, afieldAddr, aindexAddr, aindex, aslice, alow, ahigh, abuild, abuildGo, cellsOf, splice, fieldTy, alen, apick, amax, amin, aload, headV, aparts, abuildSlice, elParts, abytesStr, astore, amake, aappend, aclear, anew, arith, aresults, aresList, ares, spec0, spec1, spec2, spec3, spec4, eqCells, eqCell, sEq, h1, h2, h3, h4, x]
def SmallRs (l : List (List Int)) : Prop := l.length ≤ 1000000 ∧ ∀ r ∈ l, SmallR r
def sSameRows : List AV → Option (Prop × AV) := spec2 (fun (a b : List (List Int)) => SmallRs a ∧ SmallRs b) (fun a b => .bool (decide (a = b)))
set_option maxHeartbeats 8000000 in
theorem sameRowsR : PureOK Try.prog G0 22 sSameRows := by
  refine pure2 (C := CN1) sigCN1 mixCN1 Try.func22 rfl rfl rfl (by kernel_rfl) (by decide) (fun a b ⟨⟨ha, ha2⟩, hb, hb2⟩ => ?_)
  rcases em2 ((a.length : Int) = b.length) with hl | hl
  case inr =>
    have hd : (a = b) = False := eq_false fun h => of_eq_false hl (by rw [h])
    simp [aev, cav, look, acallPure, abin, abinN, abinP, abinI, abinS, aun, aconv, afield, afieldAddr, aindexAddr, aindex, aslice, alow, ahigh, abuild, abuildGo, cellsOf, splice, fieldTy, alen, apick, amax, amin, aload, headV, aparts, abuildSlice, elParts, abytesStr, astore, amake, aappend, aclear, anew, arith, aresults, aresList, ares, spec0, spec1, spec2, spec3, spec4, eqCells, eqCell, hl, hd]
  have hl' : a.length = b.length := by have := of_eq_true hl; omega
  simp [aev, cav, look, acallPure, abin, abinN, abinP, abinI, abinS, aun, aconv, afield, afieldAddr, aindexAddr, aindex, aslice, alow, ahigh, abuild, abuildGo, cellsOf, splice, fieldTy, alen, apick, amax, amin, aload, headV, aparts, abuildSlice, elParts, abytesStr, astore, amake, aappend, aclear, anew, arith, aresults, aresList, ares, spec0, spec1, spec2, spec3, spec4, eqCells, eqCell, hl]
  refine loop_rule (C := CN1) sigCN1 mixCN1 (fun i : Nat => ⟨[(0, Enc.enc a), (1, Enc.enc b), (5, .int .i64 i)], []⟩) (fun i => i ≤ a.length ∧ a.take i = b.take i) (fun i => a.length - i) (by kernel_rfl) ⟨0, ⟨by omega, rfl⟩, weak_slots (by simp)⟩ (fun i ⟨h1, h2⟩ => ?_)
  by_cases ia : i < a.length
  · have ib : i < b.length := by omega
    have i1 : I64 ((i : Int) + 1) := by unfold I64; omega
    have sa := ha2 _ (ix_mem ia)
    have sb := hb2 _ (ix_mem ib)
    rcases em2 (ix a i = ix b i) with x | x
    · simp [aev, cav, look, acallPure, abin, abinN, abinP, abinI, abinS, aun, aconv, afield, afieldAddr, aindexAddr, aindex, aslice, alow, ahigh, abuild, abuildGo, cellsOf, splice, fieldTy, alen, apick, amax, amin, aload, headV, aparts, abuildSlice, elParts, abytesStr, astore, amake, aappend, aclear, anew, arith, aresults, aresList, ares, spec0, spec1, spec2, spec3, spec4, eqCells, eqCell, sEq, ia, ib, rowAt_enc ia, rowAt_enc ib, x, i1, sa, sb]
      refine ⟨i + 1, ⟨by omega, ?_⟩, by omega, weak_slots (by simp)⟩
      rw [List.take_succ_eq_append_getElem ia, List.take_succ_eq_append_getElem ib, h2, ← ix_lt ia, ← ix_lt ib, of_eq_true x]
    · have hd : (a = b) = False := eq_false fun h => of_eq_false x (by rw [h])
      simp [aev, cav, look, acallPure, abin, abinN, abinP, abinI, abinS, aun, aconv, afield, afieldAddr, aindexAddr, aindex, aslice, alow, ahigh, abuild, abuildGo, cellsOf, splice, fieldTy, alen, apick, amax, amin, aload, headV, aparts, abuildSlice, elParts, abytesStr, astore, amake, aappend, aclear, anew, arith, aresults, aresList, ares, spec0, spec1, spec2, spec3, spec4, eqCells, eqCell, sEq, ia, ib, rowAt_enc ia, rowAt_enc ib, x, hd, sa, sb]
  · have hd : (a = b) = True := eq_true (by rwa [List.take_of_length_le (by omega), List.take_of_length_le (by omega)] at h2)
    simp [aev, cav, look, acallPure, abin, abinN, abinP, abinI, abinS, aun, aconv, afield, afieldAddr, aindexAddr, aindex, aslice, alow, ahigh, abuild, abuildGo, cellsOf, splice, fieldTy, alen, apick, amax, amin, aload, headV, aparts, abuildSlice, elParts, abytesStr, astore, amake, aappend, aclear, anew, arith, aresults, aresList, ares, spec0, spec1, spec2, spec3, spec4, eqCells, eqCell, ia, hd]
end Go.Proofs.Ytkonafdbfciikaa
