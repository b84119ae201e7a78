/-
  nat: the reference's functions, fifth part.
-/
import Derived.Test.YtankjfiaajpfoaaDoorN4
namespace Go.Proofs.YtankjfiaajpfoaaDoor
open Go.RowKit
set_option linter.unusedSimpArgs false
set_option linter.unusedVariables false

theorem cmpN_le {m n : Nat} : cmpN m n ≤ 0 ↔ m ≤ n := by
  unfold cmpN
  split
  · constructor <;> intro <;> omega
  · split
    · constructor <;> intro <;> omega
    · constructor <;> intro <;> omega
theorem cmpN_gt {m n : Nat} : 0 < cmpN m n ↔ n < m := by
  have := @cmpN_le m n
  constructor
  · intro h
    rcases Nat.lt_or_ge n m with h' | h'
    · exact h'
    · have := this.2 h'; omega
  · intro h
    rcases Int.lt_or_le 0 (cmpN m n) with h' | h'
    · exact h'
    · have := this.1 h'; omega

set_option maxHeartbeats 2000000 in
theorem sub31 : PureOK Tryd.prog G0 31 (spec2 (fun (a b : List Int) => a.length ≤ 1000000 ∧ b.length ≤ 1000000) (fun a b => Enc.enc (canon (nv a - nv b)))) := by
  refine pure2 (C := C3) sig3 mix3 Tryd.func31 rfl rfl rfl (by kernel_rfl) (by decide) (fun a b ⟨ha, hb⟩ => ?_)
  have hxl := numL_len a
  have hyl := numL_len b
  have hxg := numL_good a
  have hyg := numL_good b
  have hxn := numL_norm a
  have hyn := numL_norm b
  have nx : ∀ a, (numL a).length ≤ 64 → numL (numL a) = numL a := fun a _ => by
    rw [numL, if_pos (validR_iff.2 ⟨numL_len a, numL_good a, numL_norm a⟩)]
  have e1 : nv (numL a) = val (numL a) := by rw [nv, nx a hxl]
  have e2 : nv (numL b) = val (numL b) := by rw [nv, nx b hyl]
  have e3 : canon (nv a - nv b) = canon (val (numL a) - val (numL b)) := rfl
  have hxl' : (numL a).length ≤ 1000000 := by omega
  have hyl' : (numL b).length ≤ 1000000 := by omega
  simp [aev, cav, look, acallPure, abin, abinN, abinP, abinI, abinS, aun, aconv, afield, afieldAddr, aindexAddr, aindex, aslice, alow, ahigh, abuild, abuildGo, cellsOf, splice, fieldTy, alen, apick, amax, amin, aload, headV, aparts, abuildSlice, elParts, abytesStr, astore, amake, aappend, anew, arith, aresults, aresList, ares, spec0, spec1, spec2, spec3, spec4, eqCells, eqCell, s35, s32, ha, hb, hxl', hyl', e1, e2]
  rw [e3]
  generalize numL a = x at *
  generalize numL b = y at *
  by_cases hc : cmpN (val x) (val y) ≤ 0
  · have := cmpN_le.1 hc
    simp [aev, cav, look, acallPure, abin, abinN, abinP, abinI, abinS, aun, aconv, afield, afieldAddr, aindexAddr, aindex, aslice, alow, ahigh, abuild, abuildGo, cellsOf, splice, fieldTy, alen, apick, amax, amin, aload, headV, aparts, abuildSlice, elParts, abytesStr, astore, amake, aappend, anew, arith, aresults, aresList, ares, spec0, spec1, spec2, spec3, spec4, eqCells, eqCell, hc, Nat.sub_eq_zero_of_le this, canon_zero]
  · have hlt : val y < val x := by have := @cmpN_le (val x) (val y); omega
    have hyx : y.length ≤ x.length := by
      rcases Nat.lt_or_ge x.length y.length with h | h
      · have := len_lt hxg hyg hyn h; omega
      · exact h
    simp [aev, cav, look, acallPure, abin, abinN, abinP, abinI, abinS, aun, aconv, afield, afieldAddr, aindexAddr, aindex, aslice, alow, ahigh, abuild, abuildGo, cellsOf, splice, fieldTy, alen, apick, amax, amin, aload, headV, aparts, abuildSlice, elParts, abytesStr, astore, amake, aappend, anew, arith, aresults, aresList, ares, spec0, spec1, spec2, spec3, spec4, eqCells, eqCell, hc]
    refine loop_rule (C := C3) sig3 mix3 (fun p : Nat × Int × List Int => ⟨[(5, Enc.enc x), (6, Enc.enc y), (7, .own 0 p.2.2.length), (8, .int .i64 p.2.1), (9, .int .i64 p.1)], [⟨3, 1, encRows p.2.2, true, true⟩]⟩)
      (fun p => p.1 ≤ x.length ∧ p.2.2.length = p.1 ∧ Good p.2.2 ∧ (0 ≤ p.2.1 ∧ p.2.1 ≤ 1) ∧ val p.2.2 + val (y.take p.1) = val (x.take p.1) + p.2.1.toNat * B9 ^ p.1)
      (fun p => x.length - p.1) (by kernel_rfl) ⟨(0, 0, []), ⟨Nat.zero_le _, rfl, good_nil, by simp, by simp [val]⟩, (weak_nil 7 1 3 (by simp) (by decide)).trans (weak_slots (by simp))⟩ (fun ⟨i, c, o⟩ ⟨hi, hl, hg, hc, hv⟩ => ?_)
    simp only at hi hl hg hc hv ⊢
    by_cases h1 : i < x.length
    · have hxi := ix_good' hxg i
      have hyi := ix_good' hyg i
      have k1 : I64 (ix x i - ix y i) := by unfold I64; omega
      have k2 : I64 (ix x i - ix y i - c) := by unfold I64; omega
      have k3 : I64 (ix x i - ix y i - c + 1000000000) := by unfold I64; omega
      have k4 : I64 ((i : Int) + 1) := by unfold I64; omega
      have fin : ∀ (r : Int) (bo : Int), (0 ≤ bo ∧ bo ≤ 1) → (0 ≤ r ∧ r < 1000000000) → r + ix y i + c = ix x i + 1000000000 * bo →
          ((i + 1 ≤ x.length ∧ (o ++ [r]).length = i + 1 ∧ Good (o ++ [r]) ∧ (0 ≤ bo ∧ bo ≤ 1) ∧ val (o ++ [r]) + val (y.take (i + 1)) = val (x.take (i + 1)) + bo.toNat * B9 ^ (i + 1)) ∧ x.length - (i + 1) < x.length - i) := by
        intro r bo hbo hr he
        refine ⟨⟨by omega, by simp [hl], good_append hg (good_cons hr good_nil), hbo, ?_⟩, by omega⟩
        rw [val_snoc, hl, val_take_succ', val_take_succ', Nat.pow_succ]
        exact step_sub _ _ _ _ _ _ _ _ _ _ hv (by unfold B9; omega)
      by_cases h2 : ix x i - ix y i - c < 0
      · obtain ⟨hI, hm⟩ := fin (ix x i - ix y i - c + 1000000000) 1 (by omega) (by omega) (by omega)
        simp [aev, cav, look, acallPure, abin, abinN, abinP, abinI, abinS, aun, aconv, afield, afieldAddr, aindexAddr, aindex, aslice, alow, ahigh, abuild, abuildGo, cellsOf, splice, fieldTy, alen, apick, amax, amin, aload, headV, aparts, abuildSlice, elParts, abytesStr, astore, amake, aappend, anew, arith, aresults, aresList, ares, spec0, spec1, spec2, spec3, spec4, eqCells, eqCell, h1, h2, s46, rowAt_enc h1, k1, k2, k3, k4]
        refine ⟨by omega, _, _, _, hI, hm, weak_slots (by simp)⟩
      · obtain ⟨hI, hm⟩ := fin (ix x i - ix y i - c) 0 (by omega) (by omega) (by omega)
        simp [aev, cav, look, acallPure, abin, abinN, abinP, abinI, abinS, aun, aconv, afield, afieldAddr, aindexAddr, aindex, aslice, alow, ahigh, abuild, abuildGo, cellsOf, splice, fieldTy, alen, apick, amax, amin, aload, headV, aparts, abuildSlice, elParts, abytesStr, astore, amake, aappend, anew, arith, aresults, aresList, ares, spec0, spec1, spec2, spec3, spec4, eqCells, eqCell, h1, h2, s46, rowAt_enc h1, k1, k2, k3, k4]
        refine ⟨by omega, _, _, _, hI, hm, weak_slots (by simp)⟩
    · have hix : i = x.length := by omega
      subst hix
      rw [val_take_le hyx, List.take_length] at hv
      have hov := val_lt hg
      rw [hl] at hov
      have hc0 : c = 0 := by
        rcases Int.lt_or_le 0 c with h | h
        · have : c.toNat = 1 := by omega
          rw [this] at hv
          omega
        · omega
      subst hc0
      have e : val x - val y = val o := by simp at hv; omega
      simp [aev, cav, look, acallPure, abin, abinN, abinP, abinI, abinS, aun, aconv, afield, afieldAddr, aindexAddr, aindex, aslice, alow, ahigh, abuild, abuildGo, cellsOf, splice, fieldTy, alen, apick, amax, amin, aload, headV, aparts, abuildSlice, elParts, abytesStr, astore, amake, aappend, anew, arith, aresults, aresList, ares, spec0, spec1, spec2, spec3, spec4, eqCells, eqCell, s40, hg, e]
      omega

def powT (v : Nat) (k : Int) : AV := if k < 0 then .tup [.slice 1 false [], .bool false] else fitT (v ^ k.toNat)

theorem powT_neg {v : Nat} {k : Int} (h : k < 0) : powT v k = .tup [.slice 1 false [], .bool false] := by rw [powT, if_pos h]
theorem powT_of {v : Nat} {k : Int} {l : List Int} (h : ¬ k < 0) (hl : canon (v ^ k.toNat) = l) : powT v k = .tup [.slice 1 false (encRows (if l.length ≤ 64 then l else [])), .bool (decide (l.length ≤ 64))] := by rw [powT, if_neg h, fitT_of hl]

def s28 : List AV → Option (Prop × AV) := spec2 (fun (a b : List Int) => a.length ≤ 1000000 ∧ b.length ≤ 1000000) (fun a b => fitT (nv a + nv b))
def s29 : List AV → Option (Prop × AV) := spec2 (fun (a b : List Int) => a.length ≤ 1000000 ∧ b.length ≤ 1000000) (fun a b => fitT (nv a * nv b))
def s31 : List AV → Option (Prop × AV) := spec2 (fun (a b : List Int) => a.length ≤ 1000000 ∧ b.length ≤ 1000000) (fun a b => Enc.enc (canon (nv a - nv b)))

theorem canon_one : canon 1 = [1] := by rw [canon_pos (by decide)]; simp [B9, canon_zero]

set_option maxHeartbeats 2000000 in
theorem pow12 : PureOK Tryd.prog G0 12 (spec2 (fun (a : List Int) (k : Int) => a.length ≤ 1000000 ∧ I64 k) (fun a k => powT (nv a) k)) := by
  refine pure2 (C := C3) sig3 mix3 Tryd.func12 rfl rfl rfl (by kernel_rfl) (by decide) (fun a k ⟨ha, hk⟩ => ?_)
  have hxl := numL_len a
  have hxg := numL_good a
  have hxn := numL_norm a
  simp [aev, cav, look, acallPure, abin, abinN, abinP, abinI, abinS, aun, aconv, afield, afieldAddr, aindexAddr, aindex, aslice, alow, ahigh, abuild, abuildGo, cellsOf, splice, fieldTy, alen, apick, amax, amin, aload, headV, aparts, abuildSlice, elParts, abytesStr, astore, amake, aappend, anew, arith, aresults, aresList, ares, spec0, spec1, spec2, spec3, spec4, eqCells, eqCell, s35, ha]
  have e1 : powT (nv a) k = powT (val (numL a)) k := rfl
  rw [e1]
  generalize numL a = x at *
  by_cases h1 : k < 0
  · simp [aev, cav, look, acallPure, abin, abinN, abinP, abinI, abinS, aun, aconv, afield, afieldAddr, aindexAddr, aindex, aslice, alow, ahigh, abuild, abuildGo, cellsOf, splice, fieldTy, alen, apick, amax, amin, aload, headV, aparts, abuildSlice, elParts, abytesStr, astore, amake, aappend, anew, arith, aresults, aresList, ares, spec0, spec1, spec2, spec3, spec4, eqCells, eqCell, h1, powT_neg]
  by_cases hA : 0 < k ∧ x.length = 0
  · obtain ⟨h2, h3⟩ := hA
    obtain rfl := List.length_eq_zero_iff.1 h3
    have e : canon (val [] ^ k.toNat) = [] := by rw [val, Nat.zero_pow (by omega), canon_zero]
    rw [powT_of h1 e]
    simp [aev, cav, look, acallPure, abin, abinN, abinP, abinI, abinS, aun, aconv, afield, afieldAddr, aindexAddr, aindex, aslice, alow, ahigh, abuild, abuildGo, cellsOf, splice, fieldTy, alen, apick, amax, amin, aload, headV, aparts, abuildSlice, elParts, abytesStr, astore, amake, aappend, anew, arith, aresults, aresList, ares, spec0, spec1, spec2, spec3, spec4, eqCells, eqCell, h1, h2]
  by_cases hB : x.length = 1 ∧ ix x 0 = 1
  · obtain ⟨h5, h6⟩ := hB
    obtain ⟨x0, rfl⟩ := List.length_eq_one_iff.1 h5
    obtain rfl : x0 = 1 := h6
    have e : canon (val [1] ^ k.toNat) = [1] := by simp [val, canon_one]
    rw [powT_of h1 e]
    by_cases h2 : 0 < k <;> simp [aev, cav, look, acallPure, abin, abinN, abinP, abinI, abinS, aun, aconv, afield, afieldAddr, aindexAddr, aindex, aslice, alow, ahigh, abuild, abuildGo, cellsOf, splice, fieldTy, alen, apick, amax, amin, aload, headV, aparts, abuildSlice, elParts, abytesStr, astore, amake, aappend, anew, arith, aresults, aresList, ares, spec0, spec1, spec2, spec3, spec4, eqCells, eqCell, h1, h2, rowAt]
  have tail : I64 1 ∧ ∀ Q : Exit → ASt → Prop, True := ⟨by unfold I64; omega, fun _ => trivial⟩
  have one : canon (val x ^ 0) = [1] := by rw [Nat.pow_zero, canon_one]
  have good1 : ∀ i : Nat, Good (canon (val x ^ i)) := fun i => canon_good _
  have long : ∀ i : Nat, i < k.toNat → 64 < (canon (val x ^ (i + 1))).length → powT (val x) k = .tup [.slice 1 false [], .bool false] := fun i hi hl => by
    rw [powT_of h1 rfl]
    have hv : 0 < val x := by
      rcases Nat.eq_zero_or_pos (val x) with h | h
      · rw [h, Nat.zero_pow (by omega), canon_zero] at hl; simp at hl
      · exact h
    have := canon_mono (Nat.pow_le_pow_right hv (show i + 1 ≤ k.toNat by omega))
    rw [if_neg (by omega), decide_eq_false (by omega)]
    rfl
  by_cases h2 : 0 < k <;> by_cases h5 : x.length = 1
  have h6 : ¬ ix x 0 = 1 := fun h => hB ⟨h5, h⟩
  have h7 : 0 < x.length := by omega
  have h8 : (x.length : Int) = 1 := by omega
  simp [aev, cav, look, acallPure, abin, abinN, abinP, abinI, abinS, aun, aconv, afield, afieldAddr, aindexAddr, aindex, aslice, alow, ahigh, abuild, abuildGo, cellsOf, splice, fieldTy, alen, apick, amax, amin, aload, headV, aparts, abuildSlice, elParts, abytesStr, astore, amake, aappend, anew, arith, aresults, aresList, ares, spec0, spec1, spec2, spec3, spec4, eqCells, eqCell, h1, h2, h6, h5, rowAt_enc h7, s21, tail.1]
  rotate_left
  have h3 : ¬ x = [] := fun h => hA ⟨h2, by simp [h]⟩
  have h8 : ¬ (x.length : Int) = 1 := by omega
  simp [aev, cav, look, acallPure, abin, abinN, abinP, abinI, abinS, aun, aconv, afield, afieldAddr, aindexAddr, aindex, aslice, alow, ahigh, abuild, abuildGo, cellsOf, splice, fieldTy, alen, apick, amax, amin, aload, headV, aparts, abuildSlice, elParts, abytesStr, astore, amake, aappend, anew, arith, aresults, aresList, ares, spec0, spec1, spec2, spec3, spec4, eqCells, eqCell, h1, h2, h3, h8, s21, tail.1]
  rotate_left
  have h6 : ¬ ix x 0 = 1 := fun h => hB ⟨h5, h⟩
  have h7 : 0 < x.length := by omega
  simp [aev, cav, look, acallPure, abin, abinN, abinP, abinI, abinS, aun, aconv, afield, afieldAddr, aindexAddr, aindex, aslice, alow, ahigh, abuild, abuildGo, cellsOf, splice, fieldTy, alen, apick, amax, amin, aload, headV, aparts, abuildSlice, elParts, abytesStr, astore, amake, aappend, anew, arith, aresults, aresList, ares, spec0, spec1, spec2, spec3, spec4, eqCells, eqCell, h1, h2, h6, h5, rowAt_enc h7, s21, tail.1]
  rotate_left
  have h8 : ¬ (x.length : Int) = 1 := by omega
  simp [aev, cav, look, acallPure, abin, abinN, abinP, abinI, abinS, aun, aconv, afield, afieldAddr, aindexAddr, aindex, aslice, alow, ahigh, abuild, abuildGo, cellsOf, splice, fieldTy, alen, apick, amax, amin, aload, headV, aparts, abuildSlice, elParts, abytesStr, astore, amake, aappend, anew, arith, aresults, aresList, ares, spec0, spec1, spec2, spec3, spec4, eqCells, eqCell, h1, h2, h8, s21, tail.1]
  rotate_left
  all_goals
    refine loop_rule (C := C3) sig3 mix3 (fun p : Nat × List Int => ⟨[(1, .int .i64 k), (6, Enc.enc x), (7, Enc.enc p.2), (8, .int .i64 p.1)], []⟩)
      (fun p => p.1 ≤ k.toNat ∧ p.2 = canon (val x ^ p.1) ∧ p.2.length ≤ 64)
      (fun p => k.toNat - p.1) (by kernel_rfl) ⟨(0, canon 1), ⟨Nat.zero_le _, by simp, by simp [canon_one]⟩, weak_slots (by simp)⟩ (fun ⟨i, l⟩ ⟨hi, hl, hlen⟩ => ?_)
    simp only at hi hl hlen ⊢
    subst hl
    have hg := good1 i
    have hmul : val (canon (val x ^ i)) * val x = val x ^ (i + 1) := by rw [val_canon, Nat.pow_succ]
    by_cases h10 : (i : Int) < k
    · have k1 : I64 ((i : Int) + 1) := by unfold I64 at hk ⊢; omega
      by_cases h11 : (64 : Int) < (canon (val x ^ (i + 1))).length
      · have := long i (by omega) (by omega)
        simp [aev, cav, look, acallPure, abin, abinN, abinP, abinI, abinS, aun, aconv, afield, afieldAddr, aindexAddr, aindex, aslice, alow, ahigh, abuild, abuildGo, cellsOf, splice, fieldTy, alen, apick, amax, amin, aload, headV, aparts, abuildSlice, elParts, abytesStr, astore, amake, aappend, anew, arith, aresults, aresList, ares, spec0, spec1, spec2, spec3, spec4, eqCells, eqCell, h10, s36, hg, hxg, hmul, h11, this]
        omega
      · simp [aev, cav, look, acallPure, abin, abinN, abinP, abinI, abinS, aun, aconv, afield, afieldAddr, aindexAddr, aindex, aslice, alow, ahigh, abuild, abuildGo, cellsOf, splice, fieldTy, alen, apick, amax, amin, aload, headV, aparts, abuildSlice, elParts, abytesStr, astore, amake, aappend, anew, arith, aresults, aresList, ares, spec0, spec1, spec2, spec3, spec4, eqCells, eqCell, h10, s36, hg, hxg, hmul, h11, k1]
        exact ⟨⟨by omega, by omega⟩, i + 1, _, ⟨by omega, rfl, by omega⟩, by omega, weak_slots (by simp)⟩
    · have hik : i = k.toNat := by omega
      rw [powT_of (l := canon (val x ^ i)) h1 (by rw [hik])]
      simp [aev, cav, look, acallPure, abin, abinN, abinP, abinI, abinS, aun, aconv, afield, afieldAddr, aindexAddr, aindex, aslice, alow, ahigh, abuild, abuildGo, cellsOf, splice, fieldTy, alen, apick, amax, amin, aload, headV, aparts, abuildSlice, elParts, abytesStr, astore, amake, aappend, anew, arith, aresults, aresList, ares, spec0, spec1, spec2, spec3, spec4, eqCells, eqCell, h10, hlen]

set_option maxHeartbeats 2000000 in
theorem small30 : PureOK Tryd.prog G0 30 (spec1 (fun (a : List Int) => a.length ≤ 1000000) (fun a => if nv a ≤ 9223372036854775807 then .tup [.int .i64 (nv a), .bool true] else .tup [.int .i64 0, .bool false])) := by
  refine pure1 (C := C3) sig3 mix3 Tryd.func30 rfl rfl rfl (by kernel_rfl) (by decide) (fun a ha => ?_)
  have hxl := numL_len a
  have hxg := numL_good a
  have hxn := numL_norm a
  have nx : numL (numL a) = numL a := by rw [numL, if_pos (validR_iff.2 ⟨hxl, hxg, hxn⟩)]
  have ny : ∀ n, n < B9 ^ 64 → numL (canon n) = canon n := fun n hn => by rw [numL, if_pos (validR_iff.2 ⟨canon_len 64 n hn, canon_good n, canon_norm n⟩)]
  have hmax : nv (canon 9223372036854775807) = 9223372036854775807 := by rw [nv, ny _ (by decide), val_canon]
  have hml : (canon 9223372036854775807).length ≤ 1000000 := Nat.le_trans (canon_len 10 _ (by decide)) (by decide)
  have e1 : nv (numL a) = nv a := by rw [nv, nx]; rfl
  have e2 : nv a = val (numL a) := rfl
  have hxl' : (numL a).length ≤ 1000000 := by omega
  have i0 : I64 9223372036854775807 := by unfold I64; omega
  simp [aev, cav, look, acallPure, abin, abinN, abinP, abinI, abinS, aun, aconv, afield, afieldAddr, aindexAddr, aindex, aslice, alow, ahigh, abuild, abuildGo, cellsOf, splice, fieldTy, alen, apick, amax, amin, aload, headV, aparts, abuildSlice, elParts, abytesStr, astore, amake, aappend, anew, arith, aresults, aresList, ares, spec0, spec1, spec2, spec3, spec4, eqCells, eqCell, s35, s32, s21, ha, hxl', i0, hml, e1, hmax]
  rw [e2]
  generalize numL a = x at *
  by_cases h1 : 0 < cmpN (val x) 9223372036854775807
  · have h2 : ¬ val x ≤ 9223372036854775807 := by have := cmpN_gt.1 h1; omega
    simp [aev, cav, look, acallPure, abin, abinN, abinP, abinI, abinS, aun, aconv, afield, afieldAddr, aindexAddr, aindex, aslice, alow, ahigh, abuild, abuildGo, cellsOf, splice, fieldTy, alen, apick, amax, amin, aload, headV, aparts, abuildSlice, elParts, abytesStr, astore, amake, aappend, anew, arith, aresults, aresList, ares, spec0, spec1, spec2, spec3, spec4, eqCells, eqCell, h1, h2]
  · have h2 : val x ≤ 9223372036854775807 := by have := @cmpN_gt (val x) 9223372036854775807; omega
    have h3 : I64 ((x.length : Int) - 1) := by unfold I64; omega
    simp [aev, cav, look, acallPure, abin, abinN, abinP, abinI, abinS, aun, aconv, afield, afieldAddr, aindexAddr, aindex, aslice, alow, ahigh, abuild, abuildGo, cellsOf, splice, fieldTy, alen, apick, amax, amin, aload, headV, aparts, abuildSlice, elParts, abytesStr, astore, amake, aappend, anew, arith, aresults, aresList, ares, spec0, spec1, spec2, spec3, spec4, eqCells, eqCell, h1, h2, h3]
    refine loop_rule (C := C3) sig3 mix3 (fun n : Nat => ⟨[(4, Enc.enc x), (5, .int .i64 (val (x.drop n))), (6, .int .i64 ((n : Int) - 1))], []⟩)
      (fun n => n ≤ x.length) id (by kernel_rfl) ⟨x.length, Nat.le_refl _, weak_slots (by simp [val])⟩ (fun n hn => ?_)
    by_cases h4 : n = 0
    · subst h4
      simp [aev, cav, look, acallPure, abin, abinN, abinP, abinI, abinS, aun, aconv, afield, afieldAddr, aindexAddr, aindex, aslice, alow, ahigh, abuild, abuildGo, cellsOf, splice, fieldTy, alen, apick, amax, amin, aload, headV, aparts, abuildSlice, elParts, abytesStr, astore, amake, aappend, anew, arith, aresults, aresList, ares, spec0, spec1, spec2, spec3, spec4, eqCells, eqCell]
      exact h2
    · have h5 : n - 1 < x.length := by omega
      have h6 : ((n : Int) - 1).toNat = n - 1 := by omega
      have h7 : (1 : Int) ≤ n := by omega
      have h8 : 0 < n := by omega
      have hd := drop_eq h5
      rw [Nat.sub_add_cancel h8] at hd
      have hxi := ix_good hxg h5
      have hle : val (x.drop (n - 1)) ≤ val x := by
        have := val_append (x.take (n - 1)) (x.drop (n - 1))
        rw [List.take_append_drop] at this
        have h9 : 1 * val (x.drop (n - 1)) ≤ B9 ^ (x.take (n - 1)).length * val (x.drop (n - 1)) := Nat.mul_le_mul_right _ (B9_le (Nat.zero_le _))
        omega
      have hv : val (x.drop (n - 1)) = (ix x (n - 1)).toNat + 1000000000 * val (x.drop n) := by rw [hd, val]; rfl
      have k1 : I64 ((val (x.drop n) : Int) * 1000000000) := by unfold I64; omega
      have k2 : I64 ((val (x.drop n) : Int) * 1000000000 + ix x (n - 1)) := by unfold I64; omega
      have k3 : I64 ((n : Int) - 1 - 1) := by unfold I64; omega
      simp [aev, cav, look, acallPure, abin, abinN, abinP, abinI, abinS, aun, aconv, afield, afieldAddr, aindexAddr, aindex, aslice, alow, ahigh, abuild, abuildGo, cellsOf, splice, fieldTy, alen, apick, amax, amin, aload, headV, aparts, abuildSlice, elParts, abytesStr, astore, amake, aappend, anew, arith, aresults, aresList, ares, spec0, spec1, spec2, spec3, spec4, eqCells, eqCell, h6, h7, h8, rowAt_enc h5, k1, k2, k3]
      refine ⟨by omega, n - 1, by omega, by omega, weak_slots (by simp; omega)⟩

end Go.Proofs.YtankjfiaajpfoaaDoor
