/-
  nat: the reference's small functions.
-/
import Derived.Test.YtankjfiaajpfoaaDoorN0
namespace Go.Proofs.YtankjfiaajpfoaaDoor
open Go.RowKit
set_option linter.unusedSimpArgs false

def G0 : Nat → AV := fun _ => .undef

noncomputable def C0 : Ctx := mkC Tryd.prog G0 []
theorem C0_P : C0.P = Tryd.prog := rfl
theorem C0_S : C0.S = look [] := rfl
theorem C0_G : C0.G = G0 := rfl
attribute [simp] C0_P C0_S C0_G
theorem sig0 : SigOK C0 := sigOK_nil _ _
theorem mix0 : C0.P.follows .mixedOrders = true := mixed

theorem limb46 : PureOK Tryd.prog G0 46 (spec2 (fun (_ : List Int) (i : Int) => 0 ≤ i) (fun a i => .int .i64 (ix a i.toNat))) := by
  refine pure2 (C := C0) sig0 mix0 Tryd.func46 rfl rfl rfl (by kernel_rfl) (by decide) (fun a i hi => ?_)
  simp [aev, cav, look, acallPure, abin, abinN, abinP, abinI, abinS, aun, aconv, afield, afieldAddr, aindexAddr, aindex, aslice, alow, ahigh, abuild, abuildGo, cellsOf, splice, fieldTy, alen, apick, amax, amin, aload, headV, aparts, abuildSlice, elParts, abytesStr, astore, amake, aappend, anew, arith, aresults, aresList, ares, spec0, spec1, spec2, spec3, spec4, eqCells, eqCell]
  refine both_intro (fun h => ?_) (fun h => ?_)
  · simp at h
    simp [aev, cav, look, acallPure, abin, abinN, abinP, abinI, abinS, aun, aconv, afield, afieldAddr, aindexAddr, aindex, aslice, alow, ahigh, abuild, abuildGo, cellsOf, splice, fieldTy, alen, apick, amax, amin, aload, headV, aparts, abuildSlice, elParts, abytesStr, astore, amake, aappend, anew, arith, aresults, aresList, ares, spec0, spec1, spec2, spec3, spec4, eqCells, eqCell]
    rw [ix_out (by omega)]
  · simp at h
    have h1 : i.toNat < a.length := by omega
    simp [aev, cav, look, acallPure, abin, abinN, abinP, abinI, abinS, aun, aconv, afield, afieldAddr, aindexAddr, aindex, aslice, alow, ahigh, abuild, abuildGo, cellsOf, splice, fieldTy, alen, apick, amax, amin, aload, headV, aparts, abuildSlice, elParts, abytesStr, astore, amake, aappend, anew, arith, aresults, aresList, ares, spec0, spec1, spec2, spec3, spec4, eqCells, eqCell, rowAt_enc h1, h1]
    omega

set_option maxHeartbeats 1000000 in
theorem valid14 : PureOK Tryd.prog G0 14 (spec1 (fun _ : List Int => True) (fun a => .bool (validR a))) := by
  refine pure1 (C := C0) sig0 mix0 Tryd.func14 rfl rfl rfl (by kernel_rfl) (by decide) (fun a ha => ?_)
  simp [aev, cav, look, acallPure, abin, abinN, abinP, abinI, abinS, aun, aconv, afield, afieldAddr, aindexAddr, aindex, aslice, alow, ahigh, abuild, abuildGo, cellsOf, splice, fieldTy, alen, apick, amax, amin, aload, headV, aparts, abuildSlice, elParts, abytesStr, astore, amake, aappend, anew, arith, aresults, aresList, ares, spec0, spec1, spec2, spec3, spec4, eqCells, eqCell]
  refine both_intro (fun h => ?_) (fun h => ?_)
  · simp at h
    simp [aev, cav, look, acallPure, abin, abinN, abinP, abinI, abinS, aun, aconv, afield, afieldAddr, aindexAddr, aindex, aslice, alow, ahigh, abuild, abuildGo, cellsOf, splice, fieldTy, alen, apick, amax, amin, aload, headV, aparts, abuildSlice, elParts, abytesStr, astore, amake, aappend, anew, arith, aresults, aresList, ares, spec0, spec1, spec2, spec3, spec4, eqCells, eqCell, validR]
    omega
  simp at h
  simp [aev, cav, look, acallPure, abin, abinN, abinP, abinI, abinS, aun, aconv, afield, afieldAddr, aindexAddr, aindex, aslice, alow, ahigh, abuild, abuildGo, cellsOf, splice, fieldTy, alen, apick, amax, amin, aload, headV, aparts, abuildSlice, elParts, abytesStr, astore, amake, aappend, anew, arith, aresults, aresList, ares, spec0, spec1, spec2, spec3, spec4, eqCells, eqCell]
  refine loop_rule (C := C0) sig0 mix0 (fun i : Nat => ⟨[(0, Enc.enc a), (3, .int .i64 i)], []⟩) (fun i => i ≤ a.length ∧ ∀ j < i, 0 ≤ ix a j ∧ ix a j < 1000000000) (fun i => a.length - i) (by kernel_rfl) ⟨0, by simp, weak_slots (by simp)⟩ (fun i ⟨hi, hb⟩ => ?_)
  simp [aev, cav, look, acallPure, abin, abinN, abinP, abinI, abinS, aun, aconv, afield, afieldAddr, aindexAddr, aindex, aslice, alow, ahigh, abuild, abuildGo, cellsOf, splice, fieldTy, alen, apick, amax, amin, aload, headV, aparts, abuildSlice, elParts, abytesStr, astore, amake, aappend, anew, arith, aresults, aresList, ares, spec0, spec1, spec2, spec3, spec4, eqCells, eqCell]
  by_cases h1 : i < a.length
  · have hm := ix_mem h1
    by_cases h2 : ix a i < 0
    · simp [aev, cav, look, acallPure, abin, abinN, abinP, abinI, abinS, aun, aconv, afield, afieldAddr, aindexAddr, aindex, aslice, alow, ahigh, abuild, abuildGo, cellsOf, splice, fieldTy, alen, apick, amax, amin, aload, headV, aparts, abuildSlice, elParts, abytesStr, astore, amake, aappend, anew, arith, aresults, aresList, ares, spec0, spec1, spec2, spec3, spec4, eqCells, eqCell, rowAt_enc h1, h1, h2]
      refine decide_eq_false fun h => ?_
      have := h.2.1 _ hm; omega
    · by_cases h3 : ix a i ≥ 1000000000
      · simp [aev, cav, look, acallPure, abin, abinN, abinP, abinI, abinS, aun, aconv, afield, afieldAddr, aindexAddr, aindex, aslice, alow, ahigh, abuild, abuildGo, cellsOf, splice, fieldTy, alen, apick, amax, amin, aload, headV, aparts, abuildSlice, elParts, abytesStr, astore, amake, aappend, anew, arith, aresults, aresList, ares, spec0, spec1, spec2, spec3, spec4, eqCells, eqCell, rowAt_enc h1, h1, h2, h3]
        refine decide_eq_false fun h => ?_
        have := h.2.1 _ hm; omega
      · simp [aev, cav, look, acallPure, abin, abinN, abinP, abinI, abinS, aun, aconv, afield, afieldAddr, aindexAddr, aindex, aslice, alow, ahigh, abuild, abuildGo, cellsOf, splice, fieldTy, alen, apick, amax, amin, aload, headV, aparts, abuildSlice, elParts, abytesStr, astore, amake, aappend, anew, arith, aresults, aresList, ares, spec0, spec1, spec2, spec3, spec4, eqCells, eqCell, rowAt_enc h1, h1, h2, h3]
        refine ⟨by unfold I64; omega, i + 1, ⟨by omega, fun j hj => ?_⟩, by omega, weak_slots (by simp)⟩
        rcases Nat.lt_or_eq_of_le (Nat.le_of_lt_succ hj) with h | h
        · exact hb j h
        · subst h; omega
  · have hall : ∀ x ∈ a, 0 ≤ x ∧ x < 1000000000 := fun x hx => by
      obtain ⟨j, hj, rfl⟩ := List.mem_iff_getElem.1 hx
      have := hb j (by omega)
      rwa [ix_lt hj] at this
    by_cases h2 : a = []
    · subst h2
      simp [aev, cav, look, acallPure, abin, abinN, abinP, abinI, abinS, aun, aconv, afield, afieldAddr, aindexAddr, aindex, aslice, alow, ahigh, abuild, abuildGo, cellsOf, splice, fieldTy, alen, apick, amax, amin, aload, headV, aparts, abuildSlice, elParts, abytesStr, astore, amake, aappend, anew, arith, aresults, aresList, ares, spec0, spec1, spec2, spec3, spec4, eqCells, eqCell, validR]
    · have h0 : a.length ≠ 0 := fun h => h2 (List.length_eq_zero_iff.1 h)
      have h3 : a.length - 1 < a.length := by omega
      have h4 : ((a.length : Int) - 1).toNat = a.length - 1 := by omega
      have h5 : I64 ((a.length : Int) - 1) := by unfold I64; omega
      simp [aev, cav, look, acallPure, abin, abinN, abinP, abinI, abinS, aun, aconv, afield, afieldAddr, aindexAddr, aindex, aslice, alow, ahigh, abuild, abuildGo, cellsOf, splice, fieldTy, alen, apick, amax, amin, aload, headV, aparts, abuildSlice, elParts, abytesStr, astore, amake, aappend, anew, arith, aresults, aresList, ares, spec0, spec1, spec2, spec3, spec4, eqCells, eqCell, h1, h2, h4, rowAt_enc h3, h5]
      refine ⟨by omega, ?_⟩
      by_cases h6 : ix a (a.length - 1) = 0
      · simp [validR, h6, h2]
      · simp [validR, h6, h2, hall]
        exact ⟨by omega, hall⟩

end Go.Proofs.YtankjfiaajpfoaaDoor
