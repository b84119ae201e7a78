/-
  nat: the laws, second part.
-/
import Derived.Test.YtankjfiaajpfoaaDoorN15
namespace Go.Proofs.YtankjfiaajpfoaaDoor
open Go.RowKit
set_option linter.unusedSimpArgs false
set_option linter.unusedVariables false
set_option maxRecDepth 100000

theorem valid_facts {a : List Int} (h : validR a = true) : a.length ≤ 64 ∧ canon (nv a) = a ∧ nv a < B9 ^ 64 := by
  have h1 : numL a = a := by unfold numL; rw [if_pos h]
  refine ⟨(validR_iff.1 h).1, by rw [canon_nv, h1], ?_⟩
  unfold nv
  rw [h1]
  exact val_lt64 (validR_iff.1 h).2.1 (validR_iff.1 h).1

theorem fit_ok {n : Nat} (h : (canon n).length ≤ 64) : fitT n = .tup [.slice 1 false (encRows (canon n)), .bool true] := by rw [fitT, if_pos h, decide_eq_true h]; rfl
theorem fit_no {n : Nat} (h : ¬ (canon n).length ≤ 64) : fitT n = .tup [.slice 1 false [], .bool false] := by rw [fitT, if_neg h, decide_eq_false h]; rfl
theorem pow_fit {v : Nat} {k : Int} (h : ¬ k < 0) : powT v k = fitT (v ^ k.toNat) := by rw [powT, if_neg h]

theorem nv_len (a : List Int) : (canon (nv a)).length ≤ 64 := by rw [canon_nv]; exact numL_len a
theorem fit_len (n : Nat) : (if (canon n).length ≤ 64 then canon n else []).length ≤ 1000000 := by split <;> first | omega | simp

set_option maxHeartbeats 4000000 in
theorem law4 : PureOK Tryd.prog G1 4 (spec2 (fun (_ : List Int) (k : Int) => I64 k) (fun _ _ => .bool true)) := by
  refine pure2 (C := C9) sig9 mix9 Tryd.func4 rfl rfl rfl (by kernel_rfl) (by decide) (fun a k hk => ?_)
  cases hv : validR a
  · simp [aev, cav, look, acallPure, abin, abinN, abinP, abinI, abinS, aun, aconv, afield, afieldAddr, aindexAddr, aindex, aslice, alow, ahigh, abuild, abuildGo, cellsOf, splice, fieldTy, alen, apick, amax, amin, aload, headV, aparts, abuildSlice, elParts, abytesStr, astore, amake, aappend, anew, arith, aresults, aresList, ares, spec0, spec1, spec2, spec3, spec4, eqCells, eqCell, s10, s14, hv]
  by_cases h1 : k < 0
  · simp [aev, cav, look, acallPure, abin, abinN, abinP, abinI, abinS, aun, aconv, afield, afieldAddr, aindexAddr, aindex, aslice, alow, ahigh, abuild, abuildGo, cellsOf, splice, fieldTy, alen, apick, amax, amin, aload, headV, aparts, abuildSlice, elParts, abytesStr, astore, amake, aappend, anew, arith, aresults, aresList, ares, spec0, spec1, spec2, spec3, spec4, eqCells, eqCell, s10, s14, hv, h1]
  by_cases h2 : 700 < k
  · simp [aev, cav, look, acallPure, abin, abinN, abinP, abinI, abinS, aun, aconv, afield, afieldAddr, aindexAddr, aindex, aslice, alow, ahigh, abuild, abuildGo, cellsOf, splice, fieldTy, alen, apick, amax, amin, aload, headV, aparts, abuildSlice, elParts, abytesStr, astore, amake, aappend, anew, arith, aresults, aresList, ares, spec0, spec1, spec2, spec3, spec4, eqCells, eqCell, s10, s14, hv, h1, h2]
  obtain ⟨hal, hca, _⟩ := valid_facts hv
  have ha : a.length ≤ 1000000 := by omega
  have i1 : I64 (k + 1) := by unfold I64; omega
  have e1 : (k + 1).toNat = k.toNat + 1 := by omega
  have p1 := pow_fit (v := nv a) h1
  have p2 := pow_fit (v := nv a) (k := k + 1) (by omega)
  rw [e1] at p2
  by_cases h3 : (canon (nv a ^ k.toNat)).length ≤ 64
  · rw [fit_ok h3] at p1
    have hm := nv_canon h3
    have h4 : (canon (nv a ^ k.toNat)).length ≤ 1000000 := by omega
    simp [aev, cav, look, acallPure, abin, abinN, abinP, abinI, abinS, aun, aconv, afield, afieldAddr, aindexAddr, aindex, aslice, alow, ahigh, abuild, abuildGo, cellsOf, splice, fieldTy, alen, apick, amax, amin, aload, headV, aparts, abuildSlice, elParts, abytesStr, astore, amake, aappend, anew, arith, aresults, aresList, ares, spec0, spec1, spec2, spec3, spec4, eqCells, eqCell, s10, s14, hv, h1, h2, s11, ha, hk, p1, i1, p2, fitT, s15, hm, h4, ← Nat.pow_succ, s13, fit_len]
  · rw [fit_no h3] at p1
    have h4 : ¬ (canon (nv a ^ (k.toNat + 1))).length ≤ 64 := by
      have hvp : 0 < nv a := by
        rcases Nat.eq_zero_or_pos (nv a) with h | h
        · rw [h] at h3
          refine absurd ?_ h3
          rcases Nat.eq_zero_or_pos k.toNat with h0 | h0
          · rw [h0, Nat.pow_zero, canon_one]; decide
          · rw [Nat.zero_pow h0, canon_zero]; decide
        · exact h
      have h5 := canon_mono (Nat.pow_le_pow_right hvp (Nat.le_succ k.toNat))
      rw [Nat.succ_eq_add_one] at h5
      omega
    rw [fit_no h4] at p2
    simp [aev, cav, look, acallPure, abin, abinN, abinP, abinI, abinS, aun, aconv, afield, afieldAddr, aindexAddr, aindex, aslice, alow, ahigh, abuild, abuildGo, cellsOf, splice, fieldTy, alen, apick, amax, amin, aload, headV, aparts, abuildSlice, elParts, abytesStr, astore, amake, aappend, anew, arith, aresults, aresList, ares, spec0, spec1, spec2, spec3, spec4, eqCells, eqCell, s10, s14, hv, h1, h2, s11, ha, hk, p1, i1, p2, s13]

set_option maxHeartbeats 8000000 in
theorem law6 : PureOK Tryd.prog G1 6 (spec3 (fun (_ _ _ : List Int) => True) (fun _ _ _ => .bool true)) := by
  refine pure3 (C := C9) sig9 mix9 Tryd.func6 rfl rfl rfl (by kernel_rfl) (by decide) (fun a b c _ => ?_)
  cases hva : validR a
  · simp [aev, cav, look, acallPure, abin, abinN, abinP, abinI, abinS, aun, aconv, afield, afieldAddr, aindexAddr, aindex, aslice, alow, ahigh, abuild, abuildGo, cellsOf, splice, fieldTy, alen, apick, amax, amin, aload, headV, aparts, abuildSlice, elParts, abytesStr, astore, amake, aappend, anew, arith, aresults, aresList, ares, spec0, spec1, spec2, spec3, spec4, eqCells, eqCell, s10, s14, hva]
  cases hvb : validR b
  · simp [aev, cav, look, acallPure, abin, abinN, abinP, abinI, abinS, aun, aconv, afield, afieldAddr, aindexAddr, aindex, aslice, alow, ahigh, abuild, abuildGo, cellsOf, splice, fieldTy, alen, apick, amax, amin, aload, headV, aparts, abuildSlice, elParts, abytesStr, astore, amake, aappend, anew, arith, aresults, aresList, ares, spec0, spec1, spec2, spec3, spec4, eqCells, eqCell, s10, s14, hva, hvb]
  cases hvc : validR c
  · simp [aev, cav, look, acallPure, abin, abinN, abinP, abinI, abinS, aun, aconv, afield, afieldAddr, aindexAddr, aindex, aslice, alow, ahigh, abuild, abuildGo, cellsOf, splice, fieldTy, alen, apick, amax, amin, aload, headV, aparts, abuildSlice, elParts, abytesStr, astore, amake, aappend, anew, arith, aresults, aresList, ares, spec0, spec1, spec2, spec3, spec4, eqCells, eqCell, s10, s14, hva, hvb, hvc]
  obtain ⟨hal, hca, _⟩ := valid_facts hva
  obtain ⟨hbl, hcb, _⟩ := valid_facts hvb
  obtain ⟨hcl, hcc, _⟩ := valid_facts hvc
  have ha : a.length ≤ 1000000 := by omega
  have hb : b.length ≤ 1000000 := by omega
  have hc : c.length ≤ 1000000 := by omega
  have m1 : ∀ n, (canon n).length ≤ 64 → (canon n).length ≤ 1000000 := fun n h => by omega
  have c1 : nv b + nv a = nv a + nv b := Nat.add_comm _ _
  have c2 : nv b * nv a = nv a * nv b := Nat.mul_comm _ _
  have z : nv [] = 0 := by rw [← canon_zero, nv_canon (by rw [canon_zero]; decide)]
  have cz : (canon 0).length ≤ 64 := by rw [canon_zero]; decide
  have hl := nv_len a
  have hlb := nv_len b
  have hlc := nv_len c
  by_cases h1 : (canon (nv a + nv b)).length ≤ 64 <;> by_cases h2 : (canon (nv a * nv c)).length ≤ 64 <;> by_cases h3 : (canon (nv b * nv c)).length ≤ 64 <;> by_cases h4 : (canon ((nv a + nv b) * nv c)).length ≤ 64 <;> by_cases h5 : (canon (nv a * nv b)).length ≤ 64 <;>
    simp [aev, cav, look, acallPure, abin, abinN, abinP, abinI, abinS, aun, aconv, afield, afieldAddr, aindexAddr, aindex, aslice, alow, ahigh, abuild, abuildGo, cellsOf, splice, fieldTy, alen, apick, amax, amin, aload, headV, aparts, abuildSlice, elParts, abytesStr, astore, amake, aappend, anew, arith, aresults, aresList, ares, spec0, spec1, spec2, spec3, spec4, eqCells, eqCell, s10, s14, hva, hvb, hvc, s22, s15, s23, s13, ha, hb, hc, fitT, c1, c2, h1, h2, h3, h4, h5, nv_canon, m1, hca, ← Nat.add_mul, fit_len, z, cz, canon_zero]
end Go.Proofs.YtankjfiaajpfoaaDoor
