/-
  nat: the laws, third part.
-/
import Derived.Test.YtankjfiaajpfoaaDoorN16
namespace Go.Proofs.YtankjfiaajpfoaaDoor
open Go.RowKit
set_option linter.unusedSimpArgs false
set_option linter.unusedVariables false
set_option maxRecDepth 100000

theorem cmp_lt1 {m n : Nat} (h : m < n) : cmpN m n = -1 := by unfold cmpN; rw [if_pos h]
theorem cmp_eq1 (m : Nat) : cmpN m m = 0 := by unfold cmpN; simp
theorem cmp_gt1 {m n : Nat} (h : n < m) : cmpN m n = 1 := by unfold cmpN; rw [if_neg (by omega), if_neg (by omega)]
theorem cmp_add (m n k : Nat) : cmpN (m + k) (n + k) = cmpN m n := by
  rcases Nat.lt_trichotomy m n with h | h | h
  · rw [cmp_lt1 h, cmp_lt1 (by omega)]
  · rw [h, cmp_eq1, cmp_eq1]
  · rw [cmp_gt1 h, cmp_gt1 (by omega)]
theorem cmp_neg (m n : Nat) : cmpN n m = - cmpN m n := by
  rcases Nat.lt_trichotomy m n with h | h | h
  · rw [cmp_lt1 h, cmp_gt1 h]; rfl
  · rw [h, cmp_eq1]; rfl
  · rw [cmp_gt1 h, cmp_lt1 h]
theorem canon_ne {n : Nat} (h : n ≠ 0) : 0 < (canon n).length := by rw [canon_pos h]; simp

set_option maxHeartbeats 8000000 in
theorem law7 : PureOK Tryd.prog G1 7 (spec3 (fun (_ _ _ : List Int) => True) (fun _ _ _ => .bool true)) := by
  refine pure3 (C := C9) sig9 mix9 Tryd.func7 rfl rfl rfl (by kernel_rfl) (by decide) (fun a b c _ => ?_)
  cases hva : validR a
  · simp [aev, cav, look, acallPure, abin, abinN, abinP, abinI, abinS, aun, aconv, afield, afieldAddr, aindexAddr, aindex, aslice, alow, ahigh, abuild, abuildGo, cellsOf, splice, fieldTy, alen, apick, amax, amin, aload, headV, aparts, abuildSlice, elParts, abytesStr, astore, amake, aappend, anew, arith, aresults, aresList, ares, spec0, spec1, spec2, spec3, spec4, eqCells, eqCell, s10, s14, hva]
  cases hvb : validR b
  · simp [aev, cav, look, acallPure, abin, abinN, abinP, abinI, abinS, aun, aconv, afield, afieldAddr, aindexAddr, aindex, aslice, alow, ahigh, abuild, abuildGo, cellsOf, splice, fieldTy, alen, apick, amax, amin, aload, headV, aparts, abuildSlice, elParts, abytesStr, astore, amake, aappend, anew, arith, aresults, aresList, ares, spec0, spec1, spec2, spec3, spec4, eqCells, eqCell, s10, s14, hva, hvb]
  cases hvc : validR c
  · simp [aev, cav, look, acallPure, abin, abinN, abinP, abinI, abinS, aun, aconv, afield, afieldAddr, aindexAddr, aindex, aslice, alow, ahigh, abuild, abuildGo, cellsOf, splice, fieldTy, alen, apick, amax, amin, aload, headV, aparts, abuildSlice, elParts, abytesStr, astore, amake, aappend, anew, arith, aresults, aresList, ares, spec0, spec1, spec2, spec3, spec4, eqCells, eqCell, s10, s14, hva, hvb, hvc]
  obtain ⟨hal, hca, _⟩ := valid_facts hva
  obtain ⟨hbl, hcb, _⟩ := valid_facts hvb
  obtain ⟨hcl, hcc, _⟩ := valid_facts hvc
  have ha : a.length ≤ 1000000 := by omega
  have hb : b.length ≤ 1000000 := by omega
  have hc : c.length ≤ 1000000 := by omega
  have m1 : ∀ n, (canon n).length ≤ 64 → (canon n).length ≤ 1000000 := fun n h => by omega
  have i1 : I64 (-1) := by unfold I64; omega
  have i2 : I64 0 := by unfold I64; omega
  have i3 : I64 1 := by unfold I64; omega
  have hn := cmp_neg (nv a) (nv b)
  have key : ∀ v : Int, cmpN (nv a) (nv b) = v → (v = -1 ∧ a ≠ b ∧ 0 < (canon (nv b - nv a)).length ∨ v = 0 ∧ (a = b) = True ∧ (canon (nv b - nv a)).length = 0 ∨ v = 1 ∧ a ≠ b ∧ (canon (nv b - nv a)).length = 0) := by
    intro v hv
    rcases Nat.lt_trichotomy (nv a) (nv b) with h | h | h
    · exact .inl ⟨by rw [← hv, cmp_lt1 h], fun e => by rw [e] at h; omega, canon_ne (by omega)⟩
    · refine .inr (.inl ⟨by rw [← hv, h, cmp_eq1], eq_true (by rw [← hca, ← hcb, h]), by rw [h, Nat.sub_self, canon_zero]; rfl⟩)
    · exact .inr (.inr ⟨by rw [← hv, cmp_gt1 h], fun e => by rw [e] at h; omega, by rw [show nv b - nv a = 0 by omega, canon_zero]; rfl⟩)
  have tr : cmpN (nv a) (nv b) ≤ 0 → cmpN (nv b) (nv c) ≤ 0 → cmpN (nv a) (nv c) ≤ 0 := by
    unfold cmpN
    intro h1 h2
    split at h1 <;> split at h2 <;> split <;> first | omega | (split <;> first | omega | (split at h1 <;> split at h2 <;> omega)) | skip
    all_goals (split at h1 <;> first | omega | skip)
    all_goals (split at h2 <;> first | omega | skip)
    all_goals (split <;> omega)
  have ad := cmp_add (nv a) (nv b) (nv c)
  have w1 : IntKind.wrap .i64 1 = 1 := by decide
  have w2 : IntKind.wrap .i64 0 = 0 := by decide
  have w3 : IntKind.wrap .i64 (-1) = -1 := by decide
  have hll := nv_len b
  have hmm := canon_mono (Nat.sub_le (nv b) (nv a))
  have hll2 : (canon (nv b - nv a)).length ≤ 1000000 := by omega
  rcases key _ rfl with ⟨h1, h2, h3⟩ | ⟨h1, h2, h3⟩ | ⟨h1, h2, h3⟩
  all_goals
    rw [h1] at hn ad tr
    try simp only [Int.neg_neg, Int.neg_zero, Int.reduceNeg] at hn
    by_cases h4 : (canon (nv a + nv c)).length ≤ 64 <;> by_cases h5 : (canon (nv b + nv c)).length ≤ 64 <;> by_cases h6 : cmpN (nv b) (nv c) ≤ 0
  all_goals
    have h7' : True := trivial
    try (have h7 := tr (by omega) h6)
    try (have h7' : ¬ 0 < cmpN (nv a) (nv c) := by omega)
    try (have h3' : (0 : Int) < ((canon (nv b - nv a)).length : Int) := by omega)
    try (have h3' : ¬ (0 : Int) < ((canon (nv b - nv a)).length : Int) := by omega)
    simp [aev, cav, look, acallPure, abin, abinN, abinP, abinI, abinS, aun, aconv, afield, afieldAddr, aindexAddr, aindex, aslice, alow, ahigh, abuild, abuildGo, cellsOf, splice, fieldTy, alen, apick, amax, amin, aload, headV, aparts, abuildSlice, elParts, abytesStr, astore, amake, aappend, anew, arith, aresults, aresList, ares, spec0, spec1, spec2, spec3, spec4, eqCells, eqCell, s10, s14, hva, hvb, hvc, s24, s13, s23, s22, ha, hb, hc, h1, hn, h2, h3, h3', w1, w2, w3, h4, h5, h6, h7', fitT, nv_canon, m1, ad, hll2]
end Go.Proofs.YtankjfiaajpfoaaDoor
