/-
  nat: the reference's functions, second part.
-/
import Derived.Test.YtankjfiaajpfoaaDoorN1
namespace Go.Proofs.YtankjfiaajpfoaaDoor
open Go.RowKit
set_option linter.unusedSimpArgs false
set_option linter.unusedVariables false

def s14 : List AV → Option (Prop × AV) := spec1 (fun _ : List Int => True) (fun a => .bool (validR a))
def s46 : List AV → Option (Prop × AV) := spec2 (fun (_ : List Int) (i : Int) => 0 ≤ i) (fun a i => .int .i64 (ix a i.toNat))
noncomputable def C1 : Ctx := mkC Tryd.prog G0 [(14, .pure s14), (46, .pure s46)]
@[simp] theorem C1_P : C1.P = Tryd.prog := rfl
@[simp] theorem C1_14 : C1.S 14 = .pure s14 := rfl
@[simp] theorem C1_46 : C1.S 46 = .pure s46 := rfl
theorem sig1 : SigOK C1 := sigOK_cons (entryPure valid14 Tryd.func14 rfl (by decide)) (sigOK_cons (entryPure limb46 Tryd.func46 rfl (by decide)) (sigOK_nil _ _))
theorem mix1 : C1.P.follows .mixedOrders = true := mixed

set_option maxHeartbeats 1000000 in
theorem num35 : PureOK Tryd.prog G0 35 (spec1 (fun a : List Int => a.length ≤ 1000000) (fun a => Enc.enc (numL a))) := by
  refine pure1 (C := C1) sig1 mix1 Tryd.func35 rfl rfl rfl (by kernel_rfl) (by decide) (fun a ha => ?_)
  cases h : validR a
  · simp [aev, cav, look, acallPure, abin, abinN, abinP, abinI, abinS, aun, aconv, afield, afieldAddr, aindexAddr, aindex, aslice, alow, ahigh, abuild, abuildGo, cellsOf, splice, fieldTy, alen, apick, amax, amin, aload, headV, aparts, abuildSlice, elParts, abytesStr, astore, amake, aappend, anew, arith, aresults, aresList, ares, spec0, spec1, spec2, spec3, spec4, eqCells, eqCell, s14, h, ha, numL]
  · simp [aev, cav, look, acallPure, abin, abinN, abinP, abinI, abinS, aun, aconv, afield, afieldAddr, aindexAddr, aindex, aslice, alow, ahigh, abuild, abuildGo, cellsOf, splice, fieldTy, alen, apick, amax, amin, aload, headV, aparts, abuildSlice, elParts, abytesStr, astore, amake, aappend, anew, arith, aresults, aresList, ares, spec0, spec1, spec2, spec3, spec4, eqCells, eqCell, s14, h, ha, numL]
    omega

set_option maxHeartbeats 1000000 in
theorem of21 : PureOK Tryd.prog G0 21 (spec1 (fun n : Int => I64 n) (fun n => Enc.enc (canon n.toNat))) := by
  refine pure1 (C := C1) sig1 mix1 Tryd.func21 rfl rfl rfl (by kernel_rfl) (by decide) (fun n hn => ?_)
  simp [aev, cav, look, acallPure, abin, abinN, abinP, abinI, abinS, aun, aconv, afield, afieldAddr, aindexAddr, aindex, aslice, alow, ahigh, abuild, abuildGo, cellsOf, splice, fieldTy, alen, apick, amax, amin, aload, headV, aparts, abuildSlice, elParts, abytesStr, astore, amake, aappend, anew, arith, aresults, aresList, ares, spec0, spec1, spec2, spec3, spec4, eqCells, eqCell]
  refine loop_rule (C := C1) sig1 mix1 (fun x : Int × List Int => ⟨[(0, .int .i64 x.1), (3, .own 0 x.2.length)], [⟨3, 1, encRows x.2, true, true⟩]⟩) (fun x => x.1 ≤ n ∧ x.2 ++ canon x.1.toNat = canon n.toNat) (fun x => x.1.toNat) (by kernel_rfl) ⟨(n, []), by simp, (weak_nil 3 1 3 (by simp) (by decide)).trans (weak_slots (by simp))⟩ (fun ⟨m, out⟩ ⟨hm, hx⟩ => ?_)
  simp only at hm hx ⊢
  by_cases h : 0 < m
  · have hc : canon m.toNat = (m.tmod 1000000000) :: canon (m.tdiv 1000000000).toNat := by
      rw [canon_pos (by omega)]
      rw [Int.tmod_eq_emod_of_nonneg (by omega), Int.tdiv_eq_ediv_of_nonneg (by omega)]
      congr 1
      · unfold B9; omega
      · congr 1; unfold B9; omega
    have hl : (canon n.toNat).length ≤ 10 := canon_len 10 _ (by unfold B9; unfold I64 at hn; omega)
    have hl2 := congrArg List.length hx
    rw [List.length_append] at hl2
    have hd : m.tdiv 1000000000 = m / 1000000000 := Int.tdiv_eq_ediv_of_nonneg (by omega)
    simp [aev, cav, look, acallPure, abin, abinN, abinP, abinI, abinS, aun, aconv, afield, afieldAddr, aindexAddr, aindex, aslice, alow, ahigh, abuild, abuildGo, cellsOf, splice, fieldTy, alen, apick, amax, amin, aload, headV, aparts, abuildSlice, elParts, abytesStr, astore, amake, aappend, anew, arith, aresults, aresList, ares, spec0, spec1, spec2, spec3, spec4, eqCells, eqCell, h]
    refine ⟨by omega, by rw [hd]; unfold I64 at hn ⊢; omega, m.tdiv 1000000000, out ++ [m.tmod 1000000000], ⟨by omega, ?_⟩, by omega, weak_slots (by simp)⟩
    rw [← hx, hc]
    simp
  · simp [aev, cav, look, acallPure, abin, abinN, abinP, abinI, abinS, aun, aconv, afield, afieldAddr, aindexAddr, aindex, aslice, alow, ahigh, abuild, abuildGo, cellsOf, splice, fieldTy, alen, apick, amax, amin, aload, headV, aparts, abuildSlice, elParts, abytesStr, astore, amake, aappend, anew, arith, aresults, aresList, ares, spec0, spec1, spec2, spec3, spec4, eqCells, eqCell, h]
    have h0 : m.toNat = 0 := by omega
    rw [h0, canon_zero, List.append_nil] at hx
    rw [hx]

set_option maxHeartbeats 1000000 in
theorem trim40 : PureOK Tryd.prog G0 40 (spec1 (fun a : List Int => Good a ∧ a.length ≤ 1000000) (fun a => Enc.enc (canon (val a)))) := by
  refine pure1 (C := C1) sig1 mix1 Tryd.func40 rfl rfl rfl (by kernel_rfl) (by decide) (fun a ⟨hg, ha⟩ => ?_)
  simp [aev, cav, look, acallPure, abin, abinN, abinP, abinI, abinS, aun, aconv, afield, afieldAddr, aindexAddr, aindex, aslice, alow, ahigh, abuild, abuildGo, cellsOf, splice, fieldTy, alen, apick, amax, amin, aload, headV, aparts, abuildSlice, elParts, abytesStr, astore, amake, aappend, anew, arith, aresults, aresList, ares, spec0, spec1, spec2, spec3, spec4, eqCells, eqCell]
  refine loop_rule (C := C1) sig1 mix1 (fun n : Nat => ⟨[(0, Enc.enc a), (3, .int .i64 n)], []⟩) (fun n => n ≤ a.length ∧ val (a.take n) = val a) id (by kernel_rfl) ⟨a.length, by simp, weak_slots (by simp)⟩ (fun n ⟨hn, hv⟩ => ?_)
  have fin : (n ≠ 0 → ix a (n - 1) ≠ 0) → canon (val a) = a.take n := fun h => by
    rw [← hv]
    refine canon_val (good_take n hg) fun hne => ?_
    have hl : (a.take n).length = n := by rw [List.length_take, Nat.min_eq_left hn]
    have h0 : n ≠ 0 := fun h0 => hne (by rw [h0]; simp)
    rw [hl]
    have := h h0
    unfold ix at this ⊢
    rw [List.getD_eq_getElem?_getD, List.getElem?_take, if_pos (by omega)]
    rwa [List.getD_eq_getElem?_getD] at this
  by_cases h0 : n = 0
  · subst h0
    simp [aev, cav, look, acallPure, abin, abinN, abinP, abinI, abinS, aun, aconv, afield, afieldAddr, aindexAddr, aindex, aslice, alow, ahigh, abuild, abuildGo, cellsOf, splice, fieldTy, alen, apick, amax, amin, aload, headV, aparts, abuildSlice, elParts, abytesStr, astore, amake, aappend, anew, arith, aresults, aresList, ares, spec0, spec1, spec2, spec3, spec4, eqCells, eqCell]
    rw [fin (by simp)]
    simp
  · have h1 : n - 1 < a.length := by omega
    have h2 : ((n : Int) - 1).toNat = n - 1 := by omega
    have h3 : I64 ((n : Int) - 1) := by unfold I64; omega
    have h4 : 0 < n := by omega
    by_cases h5 : ix a (n - 1) = 0
    · simp [aev, cav, look, acallPure, abin, abinN, abinP, abinI, abinS, aun, aconv, afield, afieldAddr, aindexAddr, aindex, aslice, alow, ahigh, abuild, abuildGo, cellsOf, splice, fieldTy, alen, apick, amax, amin, aload, headV, aparts, abuildSlice, elParts, abytesStr, astore, amake, aappend, anew, arith, aresults, aresList, ares, spec0, spec1, spec2, spec3, spec4, eqCells, eqCell, h0, h2, h3, h4, rowAt_enc h1, h5]
      refine ⟨by omega, n - 1, ⟨by omega, ?_⟩, by omega, weak_slots (by simp; omega)⟩
      have := val_take_succ h1
      rw [Nat.sub_add_cancel h4, hv, h5] at this
      simpa using this.symm
    · simp [aev, cav, look, acallPure, abin, abinN, abinP, abinI, abinS, aun, aconv, afield, afieldAddr, aindexAddr, aindex, aslice, alow, ahigh, abuild, abuildGo, cellsOf, splice, fieldTy, alen, apick, amax, amin, aload, headV, aparts, abuildSlice, elParts, abytesStr, astore, amake, aappend, anew, arith, aresults, aresList, ares, spec0, spec1, spec2, spec3, spec4, eqCells, eqCell, h0, h2, h3, h4, rowAt_enc h1, h5]
      rw [fin fun _ => h5]
      refine ⟨by omega, hn, by omega, rfl⟩

set_option maxHeartbeats 1000000 in
theorem bounded47 : PureOK Tryd.prog G0 47 (spec1 (fun l : List Int => l.length ≤ 1000000) (fun l => .tup [Enc.enc (if l.length ≤ 64 then l else []), .bool (decide (l.length ≤ 64))])) := by
  refine pure1 (C := C1) sig1 mix1 Tryd.func47 rfl rfl rfl (by kernel_rfl) (by decide) (fun a ha => ?_)
  by_cases h : a.length ≤ 64
  · have h' : ¬ (64 : Int) < a.length := by omega
    simp [aev, cav, look, acallPure, abin, abinN, abinP, abinI, abinS, aun, aconv, afield, afieldAddr, aindexAddr, aindex, aslice, alow, ahigh, abuild, abuildGo, cellsOf, splice, fieldTy, alen, apick, amax, amin, aload, headV, aparts, abuildSlice, elParts, abytesStr, astore, amake, aappend, anew, arith, aresults, aresList, ares, spec0, spec1, spec2, spec3, spec4, eqCells, eqCell, h, h']
  · have h' : (64 : Int) < a.length := by omega
    simp [aev, cav, look, acallPure, abin, abinN, abinP, abinI, abinS, aun, aconv, afield, afieldAddr, aindexAddr, aindex, aslice, alow, ahigh, abuild, abuildGo, cellsOf, splice, fieldTy, alen, apick, amax, amin, aload, headV, aparts, abuildSlice, elParts, abytesStr, astore, amake, aappend, anew, arith, aresults, aresList, ares, spec0, spec1, spec2, spec3, spec4, eqCells, eqCell, h, h']

set_option maxHeartbeats 1000000 in
theorem same13 : PureOK Tryd.prog G0 13 (spec2 (fun (a b : List Int) => a.length ≤ 1000000 ∧ b.length ≤ 1000000) (fun a b => .bool (decide (a = b)))) := by
  refine pure2 (C := C1) sig1 mix1 Tryd.func13 rfl rfl rfl (by kernel_rfl) (by decide) (fun a b ⟨ha, hb⟩ => ?_)
  by_cases hl : a.length = b.length
  · simp [aev, cav, look, acallPure, abin, abinN, abinP, abinI, abinS, aun, aconv, afield, afieldAddr, aindexAddr, aindex, aslice, alow, ahigh, abuild, abuildGo, cellsOf, splice, fieldTy, alen, apick, amax, amin, aload, headV, aparts, abuildSlice, elParts, abytesStr, astore, amake, aappend, anew, arith, aresults, aresList, ares, spec0, spec1, spec2, spec3, spec4, eqCells, eqCell, hl]
    refine loop_rule (C := C1) sig1 mix1 (fun i : Nat => ⟨[(0, Enc.enc a), (1, Enc.enc b), (5, .int .i64 i)], []⟩) (fun i => i ≤ a.length ∧ a.take i = b.take i) (fun i => a.length - i) (by kernel_rfl) ⟨0, by simp, weak_slots (by simp)⟩ (fun i ⟨hi, he⟩ => ?_)
    by_cases h1 : i < a.length
    · have h2 : i < b.length := by omega
      by_cases h3 : ix a i = ix b i
      · simp [aev, cav, look, acallPure, abin, abinN, abinP, abinI, abinS, aun, aconv, afield, afieldAddr, aindexAddr, aindex, aslice, alow, ahigh, abuild, abuildGo, cellsOf, splice, fieldTy, alen, apick, amax, amin, aload, headV, aparts, abuildSlice, elParts, abytesStr, astore, amake, aappend, anew, arith, aresults, aresList, ares, spec0, spec1, spec2, spec3, spec4, eqCells, eqCell, h1, h2, rowAt_enc h1, rowAt_enc h2, h3]
        refine ⟨by unfold I64; omega, i + 1, ⟨by omega, ?_⟩, by omega, weak_slots (by simp)⟩
        rw [take_snoc h1, take_snoc h2, he, h3]
      · simp [aev, cav, look, acallPure, abin, abinN, abinP, abinI, abinS, aun, aconv, afield, afieldAddr, aindexAddr, aindex, aslice, alow, ahigh, abuild, abuildGo, cellsOf, splice, fieldTy, alen, apick, amax, amin, aload, headV, aparts, abuildSlice, elParts, abytesStr, astore, amake, aappend, anew, arith, aresults, aresList, ares, spec0, spec1, spec2, spec3, spec4, eqCells, eqCell, h1, h2, rowAt_enc h1, rowAt_enc h2, h3]
        rintro rfl
        exact h3 rfl
    · simp [aev, cav, look, acallPure, abin, abinN, abinP, abinI, abinS, aun, aconv, afield, afieldAddr, aindexAddr, aindex, aslice, alow, ahigh, abuild, abuildGo, cellsOf, splice, fieldTy, alen, apick, amax, amin, aload, headV, aparts, abuildSlice, elParts, abytesStr, astore, amake, aappend, anew, arith, aresults, aresList, ares, spec0, spec1, spec2, spec3, spec4, eqCells, eqCell, h1]
      rw [List.take_of_length_le (by omega), List.take_of_length_le (by omega)] at he
      exact he
  · have hl' : ¬ (a.length : Int) = b.length := by omega
    simp [aev, cav, look, acallPure, abin, abinN, abinP, abinI, abinS, aun, aconv, afield, afieldAddr, aindexAddr, aindex, aslice, alow, ahigh, abuild, abuildGo, cellsOf, splice, fieldTy, alen, apick, amax, amin, aload, headV, aparts, abuildSlice, elParts, abytesStr, astore, amake, aappend, anew, arith, aresults, aresList, ares, spec0, spec1, spec2, spec3, spec4, eqCells, eqCell, hl']
    rintro rfl
    exact hl rfl

end Go.Proofs.YtankjfiaajpfoaaDoor
