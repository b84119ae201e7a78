/-
  nat: the program's functions.
-/
import Derived.Test.YtankjfiaajpfoaaDoorN5
namespace Go.Proofs.YtankjfiaajpfoaaDoor
open Go.RowKit
set_option linter.unusedSimpArgs false
set_option linter.unusedVariables false

set_option maxHeartbeats 1000000 in
theorem valid26 : PureOK Tryd.prog G0 26 (spec1 (fun a : List Int => a.length ≤ 1000000) (fun a => .bool (validR a))) := by
  refine pure1 (C := C0) sig0 mix0 Tryd.func26 rfl rfl rfl (by kernel_rfl) (by decide) (fun a ha => ?_)
  simp [aev, cav, look, acallPure, abin, abinN, abinP, abinI, abinS, aun, aconv, afield, afieldAddr, aindexAddr, aindex, aslice, alow, ahigh, abuild, abuildGo, cellsOf, splice, fieldTy, alen, apick, amax, amin, aload, headV, aparts, abuildSlice, elParts, abytesStr, astore, amake, aappend, anew, arith, aresults, aresList, ares, spec0, spec1, spec2, spec3, spec4, eqCells, eqCell]
  refine both_intro (fun h => ?_) (fun h => ?_)
  · simp at h
    simp [aev, cav, look, acallPure, abin, abinN, abinP, abinI, abinS, aun, aconv, afield, afieldAddr, aindexAddr, aindex, aslice, alow, ahigh, abuild, abuildGo, cellsOf, splice, fieldTy, alen, apick, amax, amin, aload, headV, aparts, abuildSlice, elParts, abytesStr, astore, amake, aappend, anew, arith, aresults, aresList, ares, spec0, spec1, spec2, spec3, spec4, eqCells, eqCell, validR]
    omega
  simp at h
  simp [aev, cav, look, acallPure, abin, abinN, abinP, abinI, abinS, aun, aconv, afield, afieldAddr, aindexAddr, aindex, aslice, alow, ahigh, abuild, abuildGo, cellsOf, splice, fieldTy, alen, apick, amax, amin, aload, headV, aparts, abuildSlice, elParts, abytesStr, astore, amake, aappend, anew, arith, aresults, aresList, ares, spec0, spec1, spec2, spec3, spec4, eqCells, eqCell]
  refine loop_rule (C := C0) sig0 mix0 (fun i : Nat => ⟨[(0, Enc.enc a), (8, Enc.enc a), (9, .int .i64 a.length), (10, .int .i64 i)], []⟩) (fun i => i ≤ a.length ∧ ∀ j < i, 0 ≤ ix a j ∧ ix a j < 1000000000) (fun i => a.length - i) (by kernel_rfl) ⟨0, by simp, weak_slots (by simp)⟩ (fun i ⟨hi, hb⟩ => ?_)
  simp [aev, cav, look, acallPure, abin, abinN, abinP, abinI, abinS, aun, aconv, afield, afieldAddr, aindexAddr, aindex, aslice, alow, ahigh, abuild, abuildGo, cellsOf, splice, fieldTy, alen, apick, amax, amin, aload, headV, aparts, abuildSlice, elParts, abytesStr, astore, amake, aappend, anew, arith, aresults, aresList, ares, spec0, spec1, spec2, spec3, spec4, eqCells, eqCell]
  by_cases h1 : i < a.length
  · have hm := ix_mem h1
    by_cases h2 : ix a i < 0
    · simp [aev, cav, look, acallPure, abin, abinN, abinP, abinI, abinS, aun, aconv, afield, afieldAddr, aindexAddr, aindex, aslice, alow, ahigh, abuild, abuildGo, cellsOf, splice, fieldTy, alen, apick, amax, amin, aload, headV, aparts, abuildSlice, elParts, abytesStr, astore, amake, aappend, anew, arith, aresults, aresList, ares, spec0, spec1, spec2, spec3, spec4, eqCells, eqCell, rowAt_enc h1, h1, h2]
      refine decide_eq_false fun h => ?_
      have := h.2.1 _ hm; omega
    · by_cases h3 : ix a i ≥ 1000000000
      · simp [aev, cav, look, acallPure, abin, abinN, abinP, abinI, abinS, aun, aconv, afield, afieldAddr, aindexAddr, aindex, aslice, alow, ahigh, abuild, abuildGo, cellsOf, splice, fieldTy, alen, apick, amax, amin, aload, headV, aparts, abuildSlice, elParts, abytesStr, astore, amake, aappend, anew, arith, aresults, aresList, ares, spec0, spec1, spec2, spec3, spec4, eqCells, eqCell, rowAt_enc h1, h1, h2, h3]
        refine decide_eq_false fun h => ?_
        have := h.2.1 _ hm; omega
      · simp [aev, cav, look, acallPure, abin, abinN, abinP, abinI, abinS, aun, aconv, afield, afieldAddr, aindexAddr, aindex, aslice, alow, ahigh, abuild, abuildGo, cellsOf, splice, fieldTy, alen, apick, amax, amin, aload, headV, aparts, abuildSlice, elParts, abytesStr, astore, amake, aappend, anew, arith, aresults, aresList, ares, spec0, spec1, spec2, spec3, spec4, eqCells, eqCell, rowAt_enc h1, h1, h2, h3]
        refine ⟨by unfold I64; omega, i + 1, ⟨by omega, fun j hj => ?_⟩, by omega, weak_slots (by simp)⟩
        rcases Nat.lt_or_eq_of_le (Nat.le_of_lt_succ hj) with h | h
        · exact hb j h
        · subst h; omega
  · have hall : ∀ x ∈ a, 0 ≤ x ∧ x < 1000000000 := fun x hx => by
      obtain ⟨j, hj, rfl⟩ := List.mem_iff_getElem.1 hx
      have := hb j (by omega)
      rwa [ix_lt hj] at this
    by_cases h2 : a = []
    · subst h2
      simp [aev, cav, look, acallPure, abin, abinN, abinP, abinI, abinS, aun, aconv, afield, afieldAddr, aindexAddr, aindex, aslice, alow, ahigh, abuild, abuildGo, cellsOf, splice, fieldTy, alen, apick, amax, amin, aload, headV, aparts, abuildSlice, elParts, abytesStr, astore, amake, aappend, anew, arith, aresults, aresList, ares, spec0, spec1, spec2, spec3, spec4, eqCells, eqCell, validR]
    · have h0 : a.length ≠ 0 := fun h => h2 (List.length_eq_zero_iff.1 h)
      have h3 : a.length - 1 < a.length := by omega
      have h4 : ((a.length : Int) - 1).toNat = a.length - 1 := by omega
      have h5 : I64 ((a.length : Int) - 1) := by unfold I64; omega
      simp [aev, cav, look, acallPure, abin, abinN, abinP, abinI, abinS, aun, aconv, afield, afieldAddr, aindexAddr, aindex, aslice, alow, ahigh, abuild, abuildGo, cellsOf, splice, fieldTy, alen, apick, amax, amin, aload, headV, aparts, abuildSlice, elParts, abytesStr, astore, amake, aappend, anew, arith, aresults, aresList, ares, spec0, spec1, spec2, spec3, spec4, eqCells, eqCell, h1, h2, h4, rowAt_enc h3, h5]
      refine ⟨by omega, ?_⟩
      by_cases h6 : ix a (a.length - 1) = 0
      · simp [validR, h6, h2]
      · simp [validR, h6, h2, hall]
        exact ⟨by omega, hall⟩

def s26 : List AV → Option (Prop × AV) := spec1 (fun a : List Int => a.length ≤ 1000000) (fun a => .bool (validR a))

theorem nan54 : PureOK Tryd.prog G0 54 (spec1 (fun _ : Int => True) (fun _ => .bool false)) := by
  refine pure1 (C := C0) sig0 mix0 Tryd.func54 rfl rfl rfl (by kernel_rfl) (by decide) (fun a _ => ?_)
  simp [aev, cav, look, acallPure, abin, abinN, abinP, abinI, abinS, aun, aconv, afield, afieldAddr, aindexAddr, aindex, aslice, alow, ahigh, abuild, abuildGo, cellsOf, splice, fieldTy, alen, apick, amax, amin, aload, headV, aparts, abuildSlice, elParts, abytesStr, astore, amake, aappend, anew, arith, aresults, aresList, ares, spec0, spec1, spec2, spec3, spec4, eqCells, eqCell]

theorem of20 : PureOK Tryd.prog G0 20 (spec1 (fun n : Int => I64 n) (fun n => Enc.enc (canon n.toNat))) := by
  refine pure1 (C := C1) sig1 mix1 Tryd.func20 rfl rfl rfl (by kernel_rfl) (by decide) (fun n hn => ?_)
  simp [aev, cav, look, acallPure, abin, abinN, abinP, abinI, abinS, aun, aconv, afield, afieldAddr, aindexAddr, aindex, aslice, alow, ahigh, abuild, abuildGo, cellsOf, splice, fieldTy, alen, apick, amax, amin, aload, headV, aparts, abuildSlice, elParts, abytesStr, astore, amake, aappend, anew, arith, aresults, aresList, ares, spec0, spec1, spec2, spec3, spec4, eqCells, eqCell]
  refine loop_rule (C := C1) sig1 mix1 (fun x : Int × List Int => ⟨[(0, .int .i64 x.1), (3, .own 0 x.2.length)], [⟨3, 1, encRows x.2, true, true⟩]⟩) (fun x => x.1 ≤ n ∧ x.2 ++ canon x.1.toNat = canon n.toNat) (fun x => x.1.toNat) (by kernel_rfl) ⟨(n, []), by simp, (weak_nil 3 1 3 (by simp) (by decide)).trans (weak_slots (by simp))⟩ (fun ⟨m, out⟩ ⟨hm, hx⟩ => ?_)
  simp only at hm hx ⊢
  by_cases h : 0 < m
  · have hc : canon m.toNat = (m.tmod 1000000000) :: canon (m.tdiv 1000000000).toNat := by
      rw [canon_pos (by omega)]
      rw [Int.tmod_eq_emod_of_nonneg (by omega), Int.tdiv_eq_ediv_of_nonneg (by omega)]
      congr 1
      · unfold B9; omega
      · congr 1; unfold B9; omega
    have hl : (canon n.toNat).length ≤ 10 := canon_len 10 _ (by unfold B9; unfold I64 at hn; omega)
    have hl2 := congrArg List.length hx
    rw [List.length_append] at hl2
    have hd : m.tdiv 1000000000 = m / 1000000000 := Int.tdiv_eq_ediv_of_nonneg (by omega)
    simp [aev, cav, look, acallPure, abin, abinN, abinP, abinI, abinS, aun, aconv, afield, afieldAddr, aindexAddr, aindex, aslice, alow, ahigh, abuild, abuildGo, cellsOf, splice, fieldTy, alen, apick, amax, amin, aload, headV, aparts, abuildSlice, elParts, abytesStr, astore, amake, aappend, anew, arith, aresults, aresList, ares, spec0, spec1, spec2, spec3, spec4, eqCells, eqCell, h]
    refine ⟨by omega, by rw [hd]; unfold I64 at hn ⊢; omega, m.tdiv 1000000000, out ++ [m.tmod 1000000000], ⟨by omega, ?_⟩, by omega, weak_slots (by simp)⟩
    rw [← hx, hc]
    simp
  · simp [aev, cav, look, acallPure, abin, abinN, abinP, abinI, abinS, aun, aconv, afield, afieldAddr, aindexAddr, aindex, aslice, alow, ahigh, abuild, abuildGo, cellsOf, splice, fieldTy, alen, apick, amax, amin, aload, headV, aparts, abuildSlice, elParts, abytesStr, astore, amake, aappend, anew, arith, aresults, aresList, ares, spec0, spec1, spec2, spec3, spec4, eqCells, eqCell, h]
    have h0 : m.toNat = 0 := by omega
    rw [h0, canon_zero, List.append_nil] at hx
    rw [hx]

def s54 : List AV → Option (Prop × AV) := spec1 (fun _ : Int => True) (fun _ => .bool false)
def s20 : List AV → Option (Prop × AV) := spec1 (fun n : Int => I64 n) (fun n => Enc.enc (canon n.toNat))
noncomputable def C4 : Ctx := mkC Tryd.prog G0 [(26, .pure s26), (54, .pure s54), (20, .pure s20)]
@[simp] theorem C4_P : C4.P = Tryd.prog := rfl
@[simp] theorem C4_26 : C4.S 26 = .pure s26 := rfl
@[simp] theorem C4_54 : C4.S 54 = .pure s54 := rfl
@[simp] theorem C4_20 : C4.S 20 = .pure s20 := rfl
theorem sig4 : SigOK C4 := sigOK_cons (entryPure valid26 Tryd.func26 rfl (by decide)) (sigOK_cons (entryPure nan54 Tryd.func54 rfl (by decide)) (sigOK_cons (entryPure of20 Tryd.func20 rfl (by decide)) (sigOK_nil _ _)))
theorem mix4 : C4.P.follows .mixedOrders = true := mixed

theorem clean33 : PureOK Tryd.prog G0 33 (spec1 (fun a : List Int => a.length ≤ 1000000) (fun a => Enc.enc (numL a))) := by
  refine pure1 (C := C4) sig4 mix4 Tryd.func33 rfl rfl rfl (by kernel_rfl) (by decide) (fun a ha => ?_)
  cases h : validR a
  · simp [aev, cav, look, acallPure, abin, abinN, abinP, abinI, abinS, aun, aconv, afield, afieldAddr, aindexAddr, aindex, aslice, alow, ahigh, abuild, abuildGo, cellsOf, splice, fieldTy, alen, apick, amax, amin, aload, headV, aparts, abuildSlice, elParts, abytesStr, astore, amake, aappend, anew, arith, aresults, aresList, ares, spec0, spec1, spec2, spec3, spec4, eqCells, eqCell, s26, h, ha, numL]
  · simp [aev, cav, look, acallPure, abin, abinN, abinP, abinI, abinS, aun, aconv, afield, afieldAddr, aindexAddr, aindex, aslice, alow, ahigh, abuild, abuildGo, cellsOf, splice, fieldTy, alen, apick, amax, amin, aload, headV, aparts, abuildSlice, elParts, abytesStr, astore, amake, aappend, anew, arith, aresults, aresList, ares, spec0, spec1, spec2, spec3, spec4, eqCells, eqCell, s26, h, ha, numL]

theorem cmp45 : PureOK Tryd.prog G0 45 (spec2 (fun (_ _ : Int) => True) (fun a b => .int .i64 (if a < b then -1 else if b < a then 1 else 0))) := by
  refine pure2 (C := C4) sig4 mix4 Tryd.func45 rfl rfl rfl (by kernel_rfl) (by decide) (fun a b _ => ?_)
  by_cases h : a < b
  · simp [aev, cav, look, acallPure, abin, abinN, abinP, abinI, abinS, aun, aconv, afield, afieldAddr, aindexAddr, aindex, aslice, alow, ahigh, abuild, abuildGo, cellsOf, splice, fieldTy, alen, apick, amax, amin, aload, headV, aparts, abuildSlice, elParts, abytesStr, astore, amake, aappend, anew, arith, aresults, aresList, ares, spec0, spec1, spec2, spec3, spec4, eqCells, eqCell, s54, h]
  · by_cases h' : b < a
    · simp [aev, cav, look, acallPure, abin, abinN, abinP, abinI, abinS, aun, aconv, afield, afieldAddr, aindexAddr, aindex, aslice, alow, ahigh, abuild, abuildGo, cellsOf, splice, fieldTy, alen, apick, amax, amin, aload, headV, aparts, abuildSlice, elParts, abytesStr, astore, amake, aappend, anew, arith, aresults, aresList, ares, spec0, spec1, spec2, spec3, spec4, eqCells, eqCell, s54, h, h']
    · simp [aev, cav, look, acallPure, abin, abinN, abinP, abinI, abinS, aun, aconv, afield, afieldAddr, aindexAddr, aindex, aslice, alow, ahigh, abuild, abuildGo, cellsOf, splice, fieldTy, alen, apick, amax, amin, aload, headV, aparts, abuildSlice, elParts, abytesStr, astore, amake, aappend, anew, arith, aresults, aresList, ares, spec0, spec1, spec2, spec3, spec4, eqCells, eqCell, s54, h, h']

set_option maxHeartbeats 1000000 in
theorem trim39 : PureOK Tryd.prog G0 39 (spec1 (fun a : List Int => Good a ∧ a.length ≤ 1000000) (fun a => Enc.enc (canon (val a)))) := by
  refine pure1 (C := C4) sig4 mix4 Tryd.func39 rfl rfl rfl (by kernel_rfl) (by decide) (fun a ⟨hg, ha⟩ => ?_)
  simp [aev, cav, look, acallPure, abin, abinN, abinP, abinI, abinS, aun, aconv, afield, afieldAddr, aindexAddr, aindex, aslice, alow, ahigh, abuild, abuildGo, cellsOf, splice, fieldTy, alen, apick, amax, amin, aload, headV, aparts, abuildSlice, elParts, abytesStr, astore, amake, aappend, anew, arith, aresults, aresList, ares, spec0, spec1, spec2, spec3, spec4, eqCells, eqCell]
  refine loop_rule (C := C4) sig4 mix4 (fun n : Nat => ⟨[(0, Enc.enc (a.take n))], []⟩) (fun n => n ≤ a.length ∧ val (a.take n) = val a) id (by kernel_rfl) ⟨a.length, by simp, weak_slots (by simp)⟩ (fun n ⟨hn, hv⟩ => ?_)
  have hl : (a.take n).length = n := by rw [List.length_take, Nat.min_eq_left hn]
  have fin : (n ≠ 0 → ix (a.take n) (n - 1) ≠ 0) → canon (val a) = a.take n := fun h => by
    rw [← hv]
    refine canon_val (good_take n hg) fun hne => ?_
    have h0 : n ≠ 0 := fun h0 => hne (by rw [h0]; simp)
    rw [hl]
    exact h h0
  by_cases h0 : n = 0
  · subst h0
    simp [aev, cav, look, acallPure, abin, abinN, abinP, abinI, abinS, aun, aconv, afield, afieldAddr, aindexAddr, aindex, aslice, alow, ahigh, abuild, abuildGo, cellsOf, splice, fieldTy, alen, apick, amax, amin, aload, headV, aparts, abuildSlice, elParts, abytesStr, astore, amake, aappend, anew, arith, aresults, aresList, ares, spec0, spec1, spec2, spec3, spec4, eqCells, eqCell]
    rw [fin (by simp)]
    simp
  · have h1 : n - 1 < (a.take n).length := by omega
    have h2 : ((n : Int) - 1).toNat = n - 1 := by omega
    have h3 : I64 ((n : Int) - 1) := by unfold I64; omega
    have h4 : 0 < n := by omega
    have ht : (a.take n).take (n - 1) = a.take (n - 1) := by rw [List.take_take, Nat.min_eq_left (by omega)]
    have hx : ix (a.take n) (n - 1) = ix a (n - 1) := by
      unfold ix
      rw [List.getD_eq_getElem?_getD, List.getD_eq_getElem?_getD, List.getElem?_take, if_pos (by omega)]
    have hv' := val_take_succ (l := a) (i := n - 1) (by omega)
    rw [Nat.sub_add_cancel h4, hv] at hv'
    have row := rowAt_enc h1
    by_cases h5 : ix (a.take n) (n - 1) = 0
    · rw [← hx, h5] at hv'
      generalize a.take n = t at *
      simp [aev, cav, look, acallPure, abin, abinN, abinP, abinI, abinS, aun, aconv, afield, afieldAddr, aindexAddr, aindex, aslice, alow, ahigh, abuild, abuildGo, cellsOf, splice, fieldTy, alen, apick, amax, amin, aload, headV, aparts, abuildSlice, elParts, abytesStr, astore, amake, aappend, anew, arith, aresults, aresList, ares, spec0, spec1, spec2, spec3, spec4, eqCells, eqCell, h0, h2, h3, h4, hl, row, h5]
      refine ⟨by omega, by omega, n - 1, ⟨by omega, by simpa using hv'.symm⟩, by omega, weak_slots (by simp [ht])⟩
    · have := fin fun _ => h5
      rw [this]
      generalize a.take n = t at *
      simp [aev, cav, look, acallPure, abin, abinN, abinP, abinI, abinS, aun, aconv, afield, afieldAddr, aindexAddr, aindex, aslice, alow, ahigh, abuild, abuildGo, cellsOf, splice, fieldTy, alen, apick, amax, amin, aload, headV, aparts, abuildSlice, elParts, abytesStr, astore, amake, aappend, anew, arith, aresults, aresList, ares, spec0, spec1, spec2, spec3, spec4, eqCells, eqCell, h0, h2, h3, h4, hl, row, h5]
      omega

def s33 : List AV → Option (Prop × AV) := spec1 (fun a : List Int => a.length ≤ 1000000) (fun a => Enc.enc (numL a))
def s45 : List AV → Option (Prop × AV) := spec2 (fun (_ _ : Int) => True) (fun a b => .int .i64 (if a < b then -1 else if b < a then 1 else 0))
def s39 : List AV → Option (Prop × AV) := spec1 (fun a : List Int => Good a ∧ a.length ≤ 1000000) (fun a => Enc.enc (canon (val a)))
noncomputable def C5 : Ctx := mkC Tryd.prog G0 [(33, .pure s33), (45, .pure s45), (39, .frz s39), (26, .pure s26), (54, .pure s54), (20, .pure s20)]
@[simp] theorem C5_P : C5.P = Tryd.prog := rfl
@[simp] theorem C5_26 : C5.S 26 = .pure s26 := rfl
@[simp] theorem C5_54 : C5.S 54 = .pure s54 := rfl
@[simp] theorem C5_20 : C5.S 20 = .pure s20 := rfl
@[simp] theorem C5_33 : C5.S 33 = .pure s33 := rfl
@[simp] theorem C5_45 : C5.S 45 = .pure s45 := rfl
@[simp] theorem C5_39 : C5.S 39 = .frz s39 := rfl
theorem sig5 : SigOK C5 := sigOK_cons (entryPure clean33 Tryd.func33 rfl (by decide)) (sigOK_cons (entryPure cmp45 Tryd.func45 rfl (by decide)) (sigOK_cons (entryFrz (entryPure trim39 Tryd.func39 rfl (by decide))) sig4))
theorem mix5 : C5.P.follows .mixedOrders = true := mixed

end Go.Proofs.YtankjfiaajpfoaaDoor
