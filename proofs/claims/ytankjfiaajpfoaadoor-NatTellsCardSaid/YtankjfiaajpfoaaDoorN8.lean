/-
  nat: the program's functions, third part.
-/
import Derived.Test.YtankjfiaajpfoaaDoorN7
namespace Go.Proofs.YtankjfiaajpfoaaDoor
open Go.RowKit
set_option linter.unusedSimpArgs false
set_option linter.unusedVariables false

theorem val_mul_len {x y : List Int} (hx : Good x) (hy : Good y) (hxl : x.length ≤ 64) (hyl : y.length ≤ 64) : (canon (val x * val y)).length ≤ 128 := canon_len 128 _ (by
    have h5 := Nat.mul_lt_mul_of_lt_of_le (val_lt64 hx hxl) (Nat.le_of_lt (val_lt64 hy hyl)) (by decide)
    rwa [← Nat.pow_add] at h5)

set_option maxHeartbeats 1000000 in
theorem mul15 : PureOK Tryd.prog G0 15 (spec2 (fun (a b : List Int) => a.length ≤ 1000000 ∧ b.length ≤ 1000000) (fun a b => fitT (nv a * nv b))) := by
  refine pure2 (C := C6) sig6 mix6 Tryd.func15 rfl rfl rfl (by kernel_rfl) (by decide) (fun a b ⟨ha, hb⟩ => ?_)
  have hxl := numL_len a
  have hyl := numL_len b
  have hxg := numL_good a
  have hyg := numL_good b
  have hlen := val_mul_len hxg hyg hxl hyl
  simp [aev, cav, look, acallPure, abin, abinN, abinP, abinI, abinS, aun, aconv, afield, afieldAddr, aindexAddr, aindex, aslice, alow, ahigh, abuild, abuildGo, cellsOf, splice, fieldTy, alen, apick, amax, amin, aload, headV, aparts, abuildSlice, elParts, abytesStr, astore, amake, aappend, anew, arith, aresults, aresList, ares, spec0, spec1, spec2, spec3, spec4, eqCells, eqCell, s33, s38, s37, ha, hb, hxg, hyg, canon_good, val_canon, fitT]
  exact ⟨⟨by omega, by omega⟩, by omega, rfl, Iff.rfl⟩

set_option maxHeartbeats 2000000 in
theorem add22 : PureOK Tryd.prog G0 22 (spec2 (fun (a b : List Int) => a.length ≤ 1000000 ∧ b.length ≤ 1000000) (fun a b => fitT (nv a + nv b))) := by
  refine pure2 (C := C6) sig6 mix6 Tryd.func22 rfl rfl rfl (by kernel_rfl) (by decide) (fun a b ⟨ha, hb⟩ => ?_)
  have hxl := numL_len a
  have hyl := numL_len b
  have hxg := numL_good a
  have hyg := numL_good b
  have e1 : fitT (nv a + nv b) = fitT (val (numL a) + val (numL b)) := rfl
  rw [e1]
  obtain ⟨m, hm, h1, h2, h3⟩ : ∃ m : Nat, (if (numL a).length < (numL b).length then ((numL b).length : Int) else (numL a).length) = m ∧ (numL a).length ≤ m ∧ (numL b).length ≤ m ∧ m ≤ 64 := by
    by_cases h : (numL a).length < (numL b).length
    · exact ⟨(numL b).length, by rw [if_pos h], by omega, by omega, by omega⟩
    · exact ⟨(numL a).length, by rw [if_neg h], by omega, by omega, by omega⟩
  have k0 : I64 ((m : Int) + 1) := by unfold I64; omega
  have k1 : ((m : Int) + 1).toNat = m + 1 := by omega
  simp [aev, cav, look, acallPure, abin, abinN, abinP, abinI, abinS, aun, aconv, afield, afieldAddr, aindexAddr, aindex, aslice, alow, ahigh, abuild, abuildGo, cellsOf, splice, fieldTy, alen, apick, amax, amin, aload, headV, aparts, abuildSlice, elParts, abytesStr, astore, amake, aappend, anew, arith, aresults, aresList, ares, spec0, spec1, spec2, spec3, spec4, eqCells, eqCell, s33, ha, hb, hm, k0, k1]
  refine ⟨by omega, ?_⟩
  generalize numL a = x at *
  generalize numL b = y at *
  refine loop_rule (C := C6) sig6 mix6 (fun p : Nat × Int × List Int => ⟨[(0, Enc.enc x), (1, Enc.enc y), (6, .own 0 (m + 1)), (7, .int .i64 p.2.1), (21, .int .i64 ((m : Int) + 1)), (22, .int .i64 p.1)], [⟨3, 1, encRows p.2.2, true, true⟩]⟩)
    (fun p => p.1 ≤ m + 1 ∧ p.2.2.length = m + 1 ∧ Good p.2.2 ∧ (0 ≤ p.2.1 ∧ p.2.1 ≤ 1) ∧ val (p.2.2.take p.1) + p.2.1.toNat * B9 ^ p.1 = val (x.take p.1) + val (y.take p.1))
    (fun p => m + 1 - p.1) (by kernel_rfl) ⟨(0, 0, List.replicate (m + 1) 0), ⟨Nat.zero_le _, by simp, good_rep _, by simp, by simp [val]⟩, weak_slots (by simp)⟩ (fun ⟨i, c, o⟩ ⟨hi, hl, hg, hc, hv⟩ => ?_)
  simp only at hi hl hg hc hv ⊢
  by_cases h4 : i < m + 1
  · have h5 : (i : Int) < (m : Int) + 1 := by omega
    have h6 : i < o.length := by omega
    have hxi := ix_good' hxg i
    have hyi := ix_good' hyg i
    have hs : 0 ≤ c + ix x i + ix y i := by omega
    have fin : ∀ s : Int, s = c + ix x i + ix y i → ((i + 1 ≤ m + 1 ∧ (o.set i (s % 1000000000)).length = m + 1 ∧ Good (o.set i (s % 1000000000)) ∧ (0 ≤ s / 1000000000 ∧ s / 1000000000 ≤ 1) ∧ val ((o.set i (s % 1000000000)).take (i + 1)) + (s / 1000000000).toNat * B9 ^ (i + 1) = val (x.take (i + 1)) + val (y.take (i + 1))) ∧ m + 1 - (i + 1) < m + 1 - i) ∧ I64 s ∧ I64 (s / 1000000000) ∧ I64 ((i : Int) + 1) := by
      intro s hs
      refine ⟨⟨⟨by omega, by simp [hl], good_set hg (by omega), by omega, ?_⟩, by omega⟩, by unfold I64; omega, by unfold I64; omega, by unfold I64; omega⟩
      rw [take_set_succ h6, val_snoc, List.length_take, Nat.min_eq_left (by omega), val_take_succ', val_take_succ', Nat.pow_succ]
      refine step_add _ _ _ _ _ _ _ _ _ _ hv ?_
      unfold B9
      omega
    by_cases h7 : i < x.length
    · have k2 : I64 (c + ix x i) := by unfold I64; omega
      by_cases h8 : i < y.length
      · obtain ⟨⟨hI, hd⟩, k3, k4, k5⟩ := fin _ rfl
        simp [aev, cav, look, acallPure, abin, abinN, abinP, abinI, abinS, aun, aconv, afield, afieldAddr, aindexAddr, aindex, aslice, alow, ahigh, abuild, abuildGo, cellsOf, splice, fieldTy, alen, apick, amax, amin, aload, headV, aparts, abuildSlice, elParts, abytesStr, astore, amake, aappend, anew, arith, aresults, aresList, ares, spec0, spec1, spec2, spec3, spec4, eqCells, eqCell, h5, h7, h8, rowAt_enc h7, rowAt_enc h8, rowAt_enc h6, k2, k3, k4, k5, tmod9 hs, tdiv9 hs]
        exact ⟨by omega, _, _, _, hI, hd, weak_slots (by simp)⟩
      · obtain ⟨⟨hI, hd⟩, k3, k4, k5⟩ := fin (c + ix x i) (by rw [ix_out (l := y) (by omega)]; omega)
        have hs' : 0 ≤ c + ix x i := by omega
        simp [aev, cav, look, acallPure, abin, abinN, abinP, abinI, abinS, aun, aconv, afield, afieldAddr, aindexAddr, aindex, aslice, alow, ahigh, abuild, abuildGo, cellsOf, splice, fieldTy, alen, apick, amax, amin, aload, headV, aparts, abuildSlice, elParts, abytesStr, astore, amake, aappend, anew, arith, aresults, aresList, ares, spec0, spec1, spec2, spec3, spec4, eqCells, eqCell, h5, h7, h8, rowAt_enc h7, rowAt_enc h6, k2, k3, k4, k5, tmod9 hs', tdiv9 hs']
        exact ⟨by omega, _, _, _, hI, hd, weak_slots (by simp)⟩
    · by_cases h8 : i < y.length
      · obtain ⟨⟨hI, hd⟩, k3, k4, k5⟩ := fin (c + ix y i) (by rw [ix_out (l := x) (by omega)]; omega)
        have hs' : 0 ≤ c + ix y i := by omega
        simp [aev, cav, look, acallPure, abin, abinN, abinP, abinI, abinS, aun, aconv, afield, afieldAddr, aindexAddr, aindex, aslice, alow, ahigh, abuild, abuildGo, cellsOf, splice, fieldTy, alen, apick, amax, amin, aload, headV, aparts, abuildSlice, elParts, abytesStr, astore, amake, aappend, anew, arith, aresults, aresList, ares, spec0, spec1, spec2, spec3, spec4, eqCells, eqCell, h5, h7, h8, rowAt_enc h8, rowAt_enc h6, k3, k4, k5, tmod9 hs', tdiv9 hs']
        exact ⟨by omega, _, _, _, hI, hd, weak_slots (by simp)⟩
      · obtain ⟨⟨hI, hd⟩, k3, k4, k5⟩ := fin c (by rw [ix_out (l := x) (by omega), ix_out (l := y) (by omega)]; omega)
        simp [aev, cav, look, acallPure, abin, abinN, abinP, abinI, abinS, aun, aconv, afield, afieldAddr, aindexAddr, aindex, aslice, alow, ahigh, abuild, abuildGo, cellsOf, splice, fieldTy, alen, apick, amax, amin, aload, headV, aparts, abuildSlice, elParts, abytesStr, astore, amake, aappend, anew, arith, aresults, aresList, ares, spec0, spec1, spec2, spec3, spec4, eqCells, eqCell, h5, h7, h8, rowAt_enc h6, k3, k4, k5, tmod9 hc.1, tdiv9 hc.1]
        exact ⟨by omega, _, _, _, hI, hd, weak_slots (by simp)⟩
  · have h5 : ¬ (i : Int) < (m : Int) + 1 := by omega
    have him : i = m + 1 := by omega
    subst him
    rw [List.take_of_length_le (by omega), val_take_le (by omega), val_take_le (by omega)] at hv
    have hc0 : c = 0 := by
      rcases Int.lt_or_le 0 c with h | h
      · have : c.toNat = 1 := by omega
        rw [this, Nat.pow_succ] at hv
        have e1 := Nat.lt_of_lt_of_le (val_lt hxg) (B9_le h1)
        have e2 := Nat.lt_of_lt_of_le (val_lt hyg) (B9_le h2)
        have e3 : B9 ^ m * 2 ≤ B9 ^ m * B9 := Nat.mul_le_mul_left _ (by decide)
        omega
      · omega
    subst hc0
    have e : val x + val y = val o := by simpa using hv.symm
    rw [e]
    simp [aev, cav, look, acallPure, abin, abinN, abinP, abinI, abinS, aun, aconv, afield, afieldAddr, aindexAddr, aindex, aslice, alow, ahigh, abuild, abuildGo, cellsOf, splice, fieldTy, alen, apick, amax, amin, aload, headV, aparts, abuildSlice, elParts, abytesStr, astore, amake, aappend, anew, arith, aresults, aresList, ares, spec0, spec1, spec2, spec3, spec4, eqCells, eqCell, h5, s37, hg, hl, fitT]
    omega

set_option maxHeartbeats 1000000 in
theorem small25 : PureOK Tryd.prog G0 25 (spec1 (fun (a : List Int) => a.length ≤ 1000000) (fun a => if nv a ≤ 9223372036854775807 then .tup [.int .i64 (nv a), .bool true] else .tup [.int .i64 0, .bool false])) := by
  refine pure1 (C := C6) sig6 mix6 Tryd.func25 rfl rfl rfl (by kernel_rfl) (by decide) (fun a ha => ?_)
  have hxl := numL_len a
  have hxg := numL_good a
  have hxn := numL_norm a
  have e2 : nv a = val (numL a) := rfl
  simp [aev, cav, look, acallPure, abin, abinN, abinP, abinI, abinS, aun, aconv, afield, afieldAddr, aindexAddr, aindex, aslice, alow, ahigh, abuild, abuildGo, cellsOf, splice, fieldTy, alen, apick, amax, amin, aload, headV, aparts, abuildSlice, elParts, abytesStr, astore, amake, aappend, anew, arith, aresults, aresList, ares, spec0, spec1, spec2, spec3, spec4, eqCells, eqCell, s33, ha]
  rw [e2]
  generalize numL a = x at *
  have h3 : I64 ((x.length : Int) - 1) := by unfold I64; omega
  simp [aev, cav, look, acallPure, abin, abinN, abinP, abinI, abinS, aun, aconv, afield, afieldAddr, aindexAddr, aindex, aslice, alow, ahigh, abuild, abuildGo, cellsOf, splice, fieldTy, alen, apick, amax, amin, aload, headV, aparts, abuildSlice, elParts, abytesStr, astore, amake, aappend, anew, arith, aresults, aresList, ares, spec0, spec1, spec2, spec3, spec4, eqCells, eqCell, h3]
  refine loop_rule (C := C6) sig6 mix6 (fun n : Nat => ⟨[(0, Enc.enc x), (4, .int .i64 (val (x.drop n))), (5, .int .i64 ((n : Int) - 1))], []⟩)
    (fun n => n ≤ x.length ∧ val (x.drop n) ≤ 9223372036854775807) id (by kernel_rfl) ⟨x.length, by simp [val], weak_slots (by simp [val])⟩ (fun n ⟨hn, hm⟩ => ?_)
  by_cases h4 : n = 0
  · subst h4
    simp at hm
    simp [aev, cav, look, acallPure, abin, abinN, abinP, abinI, abinS, aun, aconv, afield, afieldAddr, aindexAddr, aindex, aslice, alow, ahigh, abuild, abuildGo, cellsOf, splice, fieldTy, alen, apick, amax, amin, aload, headV, aparts, abuildSlice, elParts, abytesStr, astore, amake, aappend, anew, arith, aresults, aresList, ares, spec0, spec1, spec2, spec3, spec4, eqCells, eqCell, hm]
  · have h5 : n - 1 < x.length := by omega
    have h6 : ((n : Int) - 1).toNat = n - 1 := by omega
    have h7 : (1 : Int) ≤ n := by omega
    have h8 : 0 < n := by omega
    have hd := drop_eq h5
    rw [Nat.sub_add_cancel h8] at hd
    have hxi := ix_good hxg h5
    have hle : val (x.drop (n - 1)) ≤ val x := by
      have := val_append (x.take (n - 1)) (x.drop (n - 1))
      rw [List.take_append_drop] at this
      have h9 : 1 * val (x.drop (n - 1)) ≤ B9 ^ (x.take (n - 1)).length * val (x.drop (n - 1)) := Nat.mul_le_mul_right _ (B9_le (Nat.zero_le _))
      omega
    have hv : val (x.drop (n - 1)) = (ix x (n - 1)).toNat + 1000000000 * val (x.drop n) := by rw [hd, val]; rfl
    have k0 : I64 (9223372036854775807 - ix x (n - 1)) := by unfold I64; omega
    have k3 : I64 ((n : Int) - 1 - 1) := by unfold I64; omega
    have kd : (9223372036854775807 - ix x (n - 1)).tdiv 1000000000 = (9223372036854775807 - ix x (n - 1)) / 1000000000 := tdiv9 (by omega)
    have k4 : I64 ((9223372036854775807 - ix x (n - 1)) / 1000000000) := by unfold I64; omega
    by_cases h9 : (9223372036854775807 - ix x (n - 1)) / 1000000000 < val (x.drop n)
    · have : ¬ val x ≤ 9223372036854775807 := by omega
      simp [aev, cav, look, acallPure, abin, abinN, abinP, abinI, abinS, aun, aconv, afield, afieldAddr, aindexAddr, aindex, aslice, alow, ahigh, abuild, abuildGo, cellsOf, splice, fieldTy, alen, apick, amax, amin, aload, headV, aparts, abuildSlice, elParts, abytesStr, astore, amake, aappend, anew, arith, aresults, aresList, ares, spec0, spec1, spec2, spec3, spec4, eqCells, eqCell, h6, h7, h8, rowAt_enc h5, k0, kd, k4, h9, this]
      omega
    · have k1 : I64 ((val (x.drop n) : Int) * 1000000000) := by unfold I64; omega
      have k2 : I64 ((val (x.drop n) : Int) * 1000000000 + ix x (n - 1)) := by unfold I64; omega
      simp [aev, cav, look, acallPure, abin, abinN, abinP, abinI, abinS, aun, aconv, afield, afieldAddr, aindexAddr, aindex, aslice, alow, ahigh, abuild, abuildGo, cellsOf, splice, fieldTy, alen, apick, amax, amin, aload, headV, aparts, abuildSlice, elParts, abytesStr, astore, amake, aappend, anew, arith, aresults, aresList, ares, spec0, spec1, spec2, spec3, spec4, eqCells, eqCell, h6, h7, h8, rowAt_enc h5, k0, kd, k4, h9, k1, k2, k3]
      refine ⟨by omega, n - 1, by omega, by omega, weak_slots (by simp; omega)⟩

set_option maxHeartbeats 2000000 in
theorem sub23 : PureOK Tryd.prog G0 23 (spec2 (fun (a b : List Int) => a.length ≤ 1000000 ∧ b.length ≤ 1000000) (fun a b => Enc.enc (canon (nv a - nv b)))) := by
  refine pure2 (C := C6) sig6 mix6 Tryd.func23 rfl rfl rfl (by kernel_rfl) (by decide) (fun a b ⟨ha, hb⟩ => ?_)
  have hxl := numL_len a
  have hyl := numL_len b
  have hxg := numL_good a
  have hyg := numL_good b
  have hxn := numL_norm a
  have hyn := numL_norm b
  have nx : ∀ a, (numL a).length ≤ 64 → numL (numL a) = numL a := fun a _ => by
    rw [numL, if_pos (validR_iff.2 ⟨numL_len a, numL_good a, numL_norm a⟩)]
  have e1 : nv (numL a) = val (numL a) := by rw [nv, nx a hxl]
  have e2 : nv (numL b) = val (numL b) := by rw [nv, nx b hyl]
  have e3 : canon (nv a - nv b) = canon (val (numL a) - val (numL b)) := rfl
  have hxl' : (numL a).length ≤ 1000000 := by omega
  have hyl' : (numL b).length ≤ 1000000 := by omega
  simp [aev, cav, look, acallPure, abin, abinN, abinP, abinI, abinS, aun, aconv, afield, afieldAddr, aindexAddr, aindex, aslice, alow, ahigh, abuild, abuildGo, cellsOf, splice, fieldTy, alen, apick, amax, amin, aload, headV, aparts, abuildSlice, elParts, abytesStr, astore, amake, aappend, anew, arith, aresults, aresList, ares, spec0, spec1, spec2, spec3, spec4, eqCells, eqCell, s33, s24, ha, hb, hxl', hyl', e1, e2]
  rw [e3]
  generalize numL a = x at *
  generalize numL b = y at *
  by_cases hc : cmpN (val x) (val y) ≤ 0
  · have := cmpN_le.1 hc
    simp [aev, cav, look, acallPure, abin, abinN, abinP, abinI, abinS, aun, aconv, afield, afieldAddr, aindexAddr, aindex, aslice, alow, ahigh, abuild, abuildGo, cellsOf, splice, fieldTy, alen, apick, amax, amin, aload, headV, aparts, abuildSlice, elParts, abytesStr, astore, amake, aappend, anew, arith, aresults, aresList, ares, spec0, spec1, spec2, spec3, spec4, eqCells, eqCell, hc, Nat.sub_eq_zero_of_le this, canon_zero]
  · have hlt : val y < val x := by have := @cmpN_le (val x) (val y); omega
    have hyx : y.length ≤ x.length := by
      rcases Nat.lt_or_ge x.length y.length with h | h
      · have := len_lt hxg hyg hyn h; omega
      · exact h
    have k0 : (x.length : Int).toNat = x.length := by omega
    simp [aev, cav, look, acallPure, abin, abinN, abinP, abinI, abinS, aun, aconv, afield, afieldAddr, aindexAddr, aindex, aslice, alow, ahigh, abuild, abuildGo, cellsOf, splice, fieldTy, alen, apick, amax, amin, aload, headV, aparts, abuildSlice, elParts, abytesStr, astore, amake, aappend, anew, arith, aresults, aresList, ares, spec0, spec1, spec2, spec3, spec4, eqCells, eqCell, hc]
    refine ⟨by omega, ?_⟩
    refine loop_rule (C := C6) sig6 mix6 (fun p : Nat × Int × List Int => ⟨[(0, Enc.enc x), (1, Enc.enc y), (5, .own 0 x.length), (6, .int .i64 p.2.1), (21, .int .i64 x.length), (22, .int .i64 p.1)], [⟨3, 1, encRows p.2.2, true, true⟩]⟩)
      (fun p => p.1 ≤ x.length ∧ p.2.2.length = x.length ∧ Good p.2.2 ∧ (0 ≤ p.2.1 ∧ p.2.1 ≤ 1) ∧ val (p.2.2.take p.1) + val (y.take p.1) = val (x.take p.1) + p.2.1.toNat * B9 ^ p.1)
      (fun p => x.length - p.1) (by kernel_rfl) ⟨(0, 0, List.replicate x.length 0), ⟨Nat.zero_le _, by simp, good_rep _, by simp, by simp [val]⟩, weak_slots (by simp)⟩ (fun ⟨i, c, o⟩ ⟨hi, hl, hg, hc, hv⟩ => ?_)
    simp only at hi hl hg hc hv ⊢
    by_cases h1 : i < x.length
    · have h6 : i < o.length := by omega
      have hxi := ix_good' hxg i
      have hyi := ix_good' hyg i
      have fin : ∀ (d r : Int) (bo : Int), d = ix x i - c - ix y i → ((d < 0 ∧ bo = 1 ∧ r = d + 1000000000) ∨ (0 ≤ d ∧ bo = 0 ∧ r = d)) →
          ((i + 1 ≤ x.length ∧ (o.set i r).length = x.length ∧ Good (o.set i r) ∧ (0 ≤ bo ∧ bo ≤ 1) ∧ val ((o.set i r).take (i + 1)) + val (y.take (i + 1)) = val (x.take (i + 1)) + bo.toNat * B9 ^ (i + 1)) ∧ x.length - (i + 1) < x.length - i) ∧ I64 d ∧ I64 r ∧ I64 ((i : Int) + 1) := by
        intro d r bo hd h
        refine ⟨⟨⟨by omega, by simp [hl], good_set hg (by omega), by omega, ?_⟩, by omega⟩, by unfold I64; omega, by unfold I64; omega, by unfold I64; omega⟩
        rw [take_set_succ h6, val_snoc, List.length_take, Nat.min_eq_left (by omega), val_take_succ', val_take_succ', Nat.pow_succ]
        exact step_sub _ _ _ _ _ _ _ _ _ _ hv (by unfold B9; omega)
      have k2 : I64 (ix x i - c) := by unfold I64; omega
      by_cases h8 : i < y.length
      · by_cases h9 : ix x i - c - ix y i < 0
        · obtain ⟨⟨hI, hd⟩, k3, k4, k5⟩ := fin _ _ _ rfl (.inl ⟨h9, rfl, rfl⟩)
          simp [aev, cav, look, acallPure, abin, abinN, abinP, abinI, abinS, aun, aconv, afield, afieldAddr, aindexAddr, aindex, aslice, alow, ahigh, abuild, abuildGo, cellsOf, splice, fieldTy, alen, apick, amax, amin, aload, headV, aparts, abuildSlice, elParts, abytesStr, astore, amake, aappend, anew, arith, aresults, aresList, ares, spec0, spec1, spec2, spec3, spec4, eqCells, eqCell, h1, h8, h9, rowAt_enc h1, rowAt_enc h8, rowAt_enc h6, k2, k3, k4, k5]
          exact ⟨by omega, _, _, _, hI, hd, weak_slots (by simp)⟩
        · obtain ⟨⟨hI, hd⟩, k3, k4, k5⟩ := fin _ _ _ rfl (.inr ⟨by omega, rfl, rfl⟩)
          simp [aev, cav, look, acallPure, abin, abinN, abinP, abinI, abinS, aun, aconv, afield, afieldAddr, aindexAddr, aindex, aslice, alow, ahigh, abuild, abuildGo, cellsOf, splice, fieldTy, alen, apick, amax, amin, aload, headV, aparts, abuildSlice, elParts, abytesStr, astore, amake, aappend, anew, arith, aresults, aresList, ares, spec0, spec1, spec2, spec3, spec4, eqCells, eqCell, h1, h8, h9, rowAt_enc h1, rowAt_enc h8, rowAt_enc h6, k2, k3, k4, k5]
          exact ⟨by omega, _, _, _, hI, hd, weak_slots (by simp)⟩
      · have hy0 : ix y i = 0 := ix_out (by omega)
        by_cases h9 : ix x i - c < 0
        · obtain ⟨⟨hI, hd⟩, k3, k4, k5⟩ := fin (ix x i - c) _ _ (by omega) (.inl ⟨h9, rfl, rfl⟩)
          simp [aev, cav, look, acallPure, abin, abinN, abinP, abinI, abinS, aun, aconv, afield, afieldAddr, aindexAddr, aindex, aslice, alow, ahigh, abuild, abuildGo, cellsOf, splice, fieldTy, alen, apick, amax, amin, aload, headV, aparts, abuildSlice, elParts, abytesStr, astore, amake, aappend, anew, arith, aresults, aresList, ares, spec0, spec1, spec2, spec3, spec4, eqCells, eqCell, h1, h8, h9, rowAt_enc h1, rowAt_enc h6, k2, k3, k4, k5]
          exact ⟨by omega, _, _, _, hI, hd, weak_slots (by simp)⟩
        · obtain ⟨⟨hI, hd⟩, k3, k4, k5⟩ := fin (ix x i - c) _ _ (by omega) (.inr ⟨by omega, rfl, rfl⟩)
          simp [aev, cav, look, acallPure, abin, abinN, abinP, abinI, abinS, aun, aconv, afield, afieldAddr, aindexAddr, aindex, aslice, alow, ahigh, abuild, abuildGo, cellsOf, splice, fieldTy, alen, apick, amax, amin, aload, headV, aparts, abuildSlice, elParts, abytesStr, astore, amake, aappend, anew, arith, aresults, aresList, ares, spec0, spec1, spec2, spec3, spec4, eqCells, eqCell, h1, h8, h9, rowAt_enc h1, rowAt_enc h6, k2, k3, k4, k5]
          exact ⟨by omega, _, _, _, hI, hd, weak_slots (by simp)⟩
    · have hix : i = x.length := by omega
      subst hix
      rw [val_take_le hyx, List.take_length, List.take_of_length_le (by omega)] at hv
      have hov := val_lt hg
      rw [hl] at hov
      have hc0 : c = 0 := by
        rcases Int.lt_or_le 0 c with h | h
        · have : c.toNat = 1 := by omega
          rw [this] at hv
          omega
        · omega
      subst hc0
      have e : val x - val y = val o := by simp at hv; omega
      simp [aev, cav, look, acallPure, abin, abinN, abinP, abinI, abinS, aun, aconv, afield, afieldAddr, aindexAddr, aindex, aslice, alow, ahigh, abuild, abuildGo, cellsOf, splice, fieldTy, alen, apick, amax, amin, aload, headV, aparts, abuildSlice, elParts, abytesStr, astore, amake, aappend, anew, arith, aresults, aresList, ares, spec0, spec1, spec2, spec3, spec4, eqCells, eqCell, s39, hg, e, hl]
      omega

def s15 : List AV → Option (Prop × AV) := spec2 (fun (a b : List Int) => a.length ≤ 1000000 ∧ b.length ≤ 1000000) (fun a b => fitT (nv a * nv b))
def s22 : List AV → Option (Prop × AV) := spec2 (fun (a b : List Int) => a.length ≤ 1000000 ∧ b.length ≤ 1000000) (fun a b => fitT (nv a + nv b))
def s23 : List AV → Option (Prop × AV) := spec2 (fun (a b : List Int) => a.length ≤ 1000000 ∧ b.length ≤ 1000000) (fun a b => Enc.enc (canon (nv a - nv b)))
def s25 : List AV → Option (Prop × AV) := spec1 (fun (a : List Int) => a.length ≤ 1000000) (fun a => if nv a ≤ 9223372036854775807 then .tup [.int .i64 (nv a), .bool true] else .tup [.int .i64 0, .bool false])

end Go.Proofs.YtankjfiaajpfoaaDoor
