/-
  nat: the reference's Text.
-/
import Derived.Test.YtankjfiaajpfoaaDoorN11
import Derived.Test.YtankjfiaajpfoaaDoorAm25
import Derived.Lib.ItoaNum
namespace Go.Proofs.YtankjfiaajpfoaaDoor
open Go.RowKit
set_option linter.unusedSimpArgs false
set_option linter.unusedVariables false

def dg1 (d : Nat) : UInt8 := UInt8.ofNat (48 + d % 10)
/-- The k low digits. -/
def padS (V : Nat) : Nat → List UInt8
  | 0 => []
  | k + 1 => dg1 (V / 10 ^ k) :: padS V k
theorem padS_len (V : Nat) : ∀ k, (padS V k).length = k
  | 0 => rfl
  | k + 1 => by simp [padS, padS_len V k]

def digits10 : ByteArray := ⟨#[48, 49, 50, 51, 52, 53, 54, 55, 56, 57]⟩
theorem digit_ex (d : Nat) (h : d < 10) : digits10.extract d (d + 1) = bs [dg1 d] := by
  have : ∀ p : Fin 10, digits10.extract p.val (p.val + 1) = bs [dg1 p.val] := by decide +kernel
  exact this ⟨d, h⟩

theorem dig_limb {x : List Int} (hx : Good x) {i j : Nat} (hi : i < x.length) (hj : j < 9) : val x / 10 ^ (9 * i + j) % 10 = (ix x i).toNat / 10 ^ j % 10 := by
  have h1 := val_split hi
  have h2 := val_lt (good_take i hx)
  rw [List.length_take, Nat.min_eq_left (Nat.le_of_lt hi)] at h2
  have e1 : val x / B9 ^ i = (ix x i).toNat + B9 * val (x.drop (i + 1)) := by
    have h3 : val x = val (x.take i) + B9 ^ i * ((ix x i).toNat + B9 * val (x.drop (i + 1))) := by
      rw [h1, Nat.pow_succ, Nat.mul_add, Nat.mul_assoc, Nat.add_assoc]
    rw [h3, Nat.add_mul_div_left _ _ (Nat.pow_pos (by decide)), Nat.div_eq_of_lt h2, Nat.zero_add]
  have e2 : (10 : Nat) ^ (9 * i + j) = B9 ^ i * 10 ^ j := by rw [Nat.pow_add, Nat.pow_mul, ten9]
  rw [e2, ← Nat.div_div_eq_div_mul, e1]
  have e3 : B9 = 10 ^ j * (10 * 10 ^ (8 - j)) := by
    rw [← Nat.pow_succ', ← Nat.pow_add, show j + (8 - j + 1) = 9 by omega, ten9]
  rw [e3, Nat.mul_assoc, Nat.add_mul_div_left _ _ (Nat.pow_pos (by decide)), Nat.mul_assoc, Nat.add_mul_mod_self_left]

/-- The decimal digits of a number. -/
def textN (n : Nat) : List UInt8 := Lib.decDigits n

theorem dg1_toNat (d : Nat) : (dg1 d).toNat = 48 + d % 10 := by
  unfold dg1
  simp
  omega
theorem padS_snoc (V : Nat) : ∀ k, padS V (k + 1) = padS (V / 10) k ++ [dg1 V]
  | 0 => by simp [padS]
  | k + 1 => by
    rw [padS, padS_snoc V k, padS, List.cons_append, Nat.div_div_eq_div_mul, ← Nat.pow_succ']
theorem padS_eq : ∀ (k V : Nat), (k = 0 ∨ 10 ^ k ≤ V) → V < 10 ^ (k + 1) → padS V (k + 1) = textN V
  | 0, V, _, h => by
    have h : V < 10 := by simpa using h
    rw [textN, Lib.decDigits, dif_pos h]
    simp [padS, dg1, Nat.mod_eq_of_lt h]
  | k + 1, V, h1, h2 => by
    have h3 : 10 ^ (k + 1) ≤ V := by rcases h1 with h | h <;> omega
    have h4 : 10 ≤ V := by
      rw [Nat.pow_succ] at h3
      have : 1 ≤ 10 ^ k := Nat.pow_pos (by decide)
      omega
    rw [textN, Lib.decDigits, dif_neg (by omega), padS_snoc]
    congr 1
    refine padS_eq k (V / 10) ?_ ?_
    · rcases Nat.eq_zero_or_pos k with h | h
      · exact .inl h
      · refine .inr ?_
        rw [Nat.pow_succ] at h3
        exact (Nat.le_div_iff_mul_le (by decide)).2 h3
    · rw [Nat.pow_succ] at h2
      exact Nat.div_lt_of_lt_mul (by rwa [Nat.mul_comm] at h2)

theorem pad_zero {V k : Nat} (h : V < 10 ^ (k + 1)) (hd : (dg1 (V / 10 ^ k)).toNat = 48) : V < 10 ^ k := by
  rw [dg1_toNat] at hd
  have h1 : V / 10 ^ k < 10 := Nat.div_lt_of_lt_mul (by rwa [Nat.pow_succ] at h)
  have h2 : V / 10 ^ k = 0 := by
    generalize V / 10 ^ k = q at *
    omega
  exact (Nat.div_eq_zero_iff_lt (Nat.pow_pos (by decide))).1 h2
theorem pad_nonzero {V k : Nat} (hd : (dg1 (V / 10 ^ k)).toNat ≠ 48) : 10 ^ k ≤ V := by
  rcases Nat.lt_or_ge V (10 ^ k) with h | h
  · rw [Nat.div_eq_of_lt h] at hd
    exact absurd (by decide) hd
  · exact h

def lq (x : List Int) (i j : Nat) : Nat := (ix x i).toNat / 10 ^ j

set_option maxHeartbeats 4000000 in
theorem text19 : PureOK Tryd.prog G0 19 (spec1 (fun a : List Int => a.length ≤ 1000000) (fun a => .str (bs (textN (nv a))))) := by
  refine pure1 (C := C3) sig3 mix3 Tryd.func19 rfl rfl rfl (by kernel_rfl) (by decide) (fun a ha => ?_)
  have hxl := numL_len a
  have hxg := numL_good a
  have hxn := numL_norm a
  have e1 : nv a = val (numL a) := rfl
  simp [aev, cav, look, acallPure, abin, abinN, abinP, abinI, abinS, aun, aconv, afield, afieldAddr, aindexAddr, aindex, aslice, alow, ahigh, abuild, abuildGo, cellsOf, splice, fieldTy, alen, apick, amax, amin, aload, headV, aparts, abuildSlice, elParts, abytesStr, astore, amake, aappend, anew, arith, aresults, aresList, ares, spec0, spec1, spec2, spec3, spec4, eqCells, eqCell, s35, ha]
  rw [e1]
  generalize numL a = x at *
  by_cases h0 : x.length = 0
  · obtain rfl := List.length_eq_zero_iff.1 h0
    simp [aev, cav, look, acallPure, abin, abinN, abinP, abinI, abinS, aun, aconv, afield, afieldAddr, aindexAddr, aindex, aslice, alow, ahigh, abuild, abuildGo, cellsOf, splice, fieldTy, alen, apick, amax, amin, aload, headV, aparts, abuildSlice, elParts, abytesStr, astore, amake, aappend, anew, arith, aresults, aresList, ares, spec0, spec1, spec2, spec3, spec4, eqCells, eqCell]
    have : textN (val []) = [48] := by rw [textN, val, Lib.decDigits, dif_pos (by decide)]; rfl
    rw [this]
    rfl
  have hne : x ≠ [] := fun h => h0 (by simp [h])
  simp [aev, cav, look, acallPure, abin, abinN, abinP, abinI, abinS, aun, aconv, afield, afieldAddr, aindexAddr, aindex, aslice, alow, ahigh, abuild, abuildGo, cellsOf, splice, fieldTy, alen, apick, amax, amin, aload, headV, aparts, abuildSlice, elParts, abytesStr, astore, amake, aappend, anew, arith, aresults, aresList, ares, spec0, spec1, spec2, spec3, spec4, eqCells, eqCell, hne]
  refine loop_rule (C := C3) sig3 mix3 (fun i : Nat => ⟨[(3, Enc.enc x), (4, .str (bs (padS (val x) (9 * i)))), (5, .int .i64 i)], []⟩) (fun i => i ≤ x.length) (fun i => x.length - i) (by kernel_rfl) ⟨0, Nat.zero_le _, weak_slots (by simp [padS, bs])⟩ (fun i hi => ?_)
  by_cases h1 : i < x.length
  · have hxi := ix_good hxg h1
    simp [aev, cav, look, acallPure, abin, abinN, abinP, abinI, abinS, aun, aconv, afield, afieldAddr, aindexAddr, aindex, aslice, alow, ahigh, abuild, abuildGo, cellsOf, splice, fieldTy, alen, apick, amax, amin, aload, headV, aparts, abuildSlice, elParts, abytesStr, astore, amake, aappend, anew, arith, aresults, aresList, ares, spec0, spec1, spec2, spec3, spec4, eqCells, eqCell, h1, rowAt_enc h1]
    refine loop_rule (C := C3) sig3 mix3 (fun j : Nat => ⟨[(3, Enc.enc x), (4, .str (bs (padS (val x) (9 * i + j)))), (5, .int .i64 i), (6, .int .i64 (lq x i j)), (7, .int .i64 j)], []⟩) (fun j => j ≤ 9) (fun j => 9 - j) (by kernel_rfl) ⟨0, Nat.zero_le _, weak_slots (by simp [lq]; omega)⟩ (fun j hj => ?_)
    by_cases h2 : j < 9
    · have k1 : (j : Int) < 9 := by omega
      have hp : 1 ≤ 10 ^ j := Nat.pow_pos (by decide)
      have k2 : (ix x i).toNat / 10 ^ j ≤ (ix x i).toNat := Nat.div_le_self _ _
      obtain ⟨d, hd⟩ : ∃ d, d = lq x i j := ⟨_, rfl⟩
      have hd' : d = (ix x i).toNat / 10 ^ j := hd
      have k3 : (d : Int).tmod 10 = (d : Int) % 10 := Int.tmod_eq_emod_of_nonneg (by omega)
      have k4 : (d : Int).tdiv 10 = (d : Int) / 10 := Int.tdiv_eq_ediv_of_nonneg (by omega)
      have k5 : ((d : Int) % 10).toNat = d % 10 := by omega
      have k6 : ((d : Int) % 10 + 1).toNat = d % 10 + 1 := by omega
      have k7 := digit_ex (d % 10) (by omega)
      have k8 : dg1 (d % 10) = dg1 (val x / 10 ^ (9 * i + j)) := by
        unfold dg1
        rw [Nat.mod_mod, dig_limb hxg h1 h2, ← hd']
      rw [← hd]
      have k9 : ({ data := #[48, 49, 50, 51, 52, 53, 54, 55, 56, 57] } : ByteArray).size = 10 := rfl
      have k10 : ({ data := #[48, 49, 50, 51, 52, 53, 54, 55, 56, 57] } : ByteArray).extract (d % 10) (d % 10 + 1) ++ bs (padS (val x) (9 * i + j)) = bs (padS (val x) (9 * i + (j + 1))) := by
        rw [show ({ data := #[48, 49, 50, 51, 52, 53, 54, 55, 56, 57] } : ByteArray) = digits10 from rfl, k7, bs_append, ← Nat.add_assoc, padS, ← k8]
        rfl
      have k11 : (d : Int) / 10 = (lq x i (j + 1) : Int) := by
        have : d / 10 = lq x i (j + 1) := by rw [hd', lq, Nat.div_div_eq_div_mul, ← Nat.pow_succ]
        omega
      simp [aev, cav, look, acallPure, abin, abinN, abinP, abinI, abinS, aun, aconv, afield, afieldAddr, aindexAddr, aindex, aslice, alow, ahigh, abuild, abuildGo, cellsOf, splice, fieldTy, alen, apick, amax, amin, aload, headV, aparts, abuildSlice, elParts, abytesStr, astore, amake, aappend, anew, arith, aresults, aresList, ares, spec0, spec1, spec2, spec3, spec4, eqCells, eqCell, k1, k3, k4, k5, k6, k9, k10, padS_len]
      refine ⟨(by first | omega | (unfold I64; omega)), (by first | omega | (unfold I64; omega)), (by first | omega | (unfold I64; omega)), (by first | omega | (unfold I64; omega)), (by first | omega | (unfold I64; omega)), j + 1, (by first | omega | (unfold I64; omega)), (by first | omega | (unfold I64; omega)), weak_slots (by simp [k11])⟩
    · have hj9 : j = 9 := by omega
      subst hj9
      simp [aev, cav, look, acallPure, abin, abinN, abinP, abinI, abinS, aun, aconv, afield, afieldAddr, aindexAddr, aindex, aslice, alow, ahigh, abuild, abuildGo, cellsOf, splice, fieldTy, alen, apick, amax, amin, aload, headV, aparts, abuildSlice, elParts, abytesStr, astore, amake, aappend, anew, arith, aresults, aresList, ares, spec0, spec1, spec2, spec3, spec4, eqCells, eqCell]
      refine ⟨(by first | omega | (unfold I64; omega)), i + 1, (by first | omega | (unfold I64; omega)), (by first | omega | (unfold I64; omega)), weak_slots (by simp [Nat.mul_add])⟩
  · have k1 : ¬ (i : Int) < x.length := by omega
    have hie : i = x.length := by omega
    subst hie
    have hv : val x < 10 ^ (9 * x.length) := by
      have := val_lt hxg
      rwa [← ten9, ← Nat.pow_mul] at this
    simp [aev, cav, look, acallPure, abin, abinN, abinP, abinI, abinS, aun, aconv, afield, afieldAddr, aindexAddr, aindex, aslice, alow, ahigh, abuild, abuildGo, cellsOf, splice, fieldTy, alen, apick, amax, amin, aload, headV, aparts, abuildSlice, elParts, abytesStr, astore, amake, aappend, anew, arith, aresults, aresList, ares, spec0, spec1, spec2, spec3, spec4, eqCells, eqCell, k1]
    refine loop_rule (C := C3) sig3 mix3 (fun k : Nat => ⟨[(4, .str (bs (padS (val x) (k + 1))))], []⟩) (fun k => k + 1 ≤ 9 * x.length ∧ val x < 10 ^ (k + 1)) (fun k => k) (by kernel_rfl) ⟨9 * x.length - 1, ⟨by omega, by rwa [show 9 * x.length - 1 + 1 = 9 * x.length by omega]⟩, weak_slots (by simp; congr 2; omega)⟩ (fun k ⟨hk, hlt⟩ => ?_)
    by_cases h2 : k = 0
    · subst h2
      rw [← padS_eq 0 (val x) (.inl rfl) hlt]
      simp [aev, cav, look, acallPure, abin, abinN, abinP, abinI, abinS, aun, aconv, afield, afieldAddr, aindexAddr, aindex, aslice, alow, ahigh, abuild, abuildGo, cellsOf, splice, fieldTy, alen, apick, amax, amin, aload, headV, aparts, abuildSlice, elParts, abytesStr, astore, amake, aappend, anew, arith, aresults, aresList, ares, spec0, spec1, spec2, spec3, spec4, eqCells, eqCell, padS_len]
    · have k2 : (1 : Int) < k + 1 := by omega
      by_cases h3 : (dg1 (val x / 10 ^ k)).toNat = 48
      · have h4 : btA (bs (padS (val x) (k + 1))) 0 = (dg1 (val x / 10 ^ k)).toNat := rfl
        simp [aev, cav, look, acallPure, abin, abinN, abinP, abinI, abinS, aun, aconv, afield, afieldAddr, aindexAddr, aindex, aslice, alow, ahigh, abuild, abuildGo, cellsOf, splice, fieldTy, alen, apick, amax, amin, aload, headV, aparts, abuildSlice, elParts, abytesStr, astore, amake, aappend, anew, arith, aresults, aresList, ares, spec0, spec1, spec2, spec3, spec4, eqCells, eqCell, padS_len, k2, h4, h3]
        have k3 : (bs (padS (val x) (k + 1))).extract 1 (k + 1) = bs (padS (val x) k) := by
          have := bs_extract_tail (dg1 (val x / 10 ^ k)) (padS (val x) k)
          rwa [padS_len] at this
        refine ⟨(by first | omega | (unfold I64; omega)), k - 1, ⟨by omega, ?_⟩, by omega, weak_slots (by simp [k3, show k - 1 + 1 = k by omega])⟩
        rw [show k - 1 + 1 = k by omega]
        exact pad_zero hlt h3
      · have h4 : btA (bs (padS (val x) (k + 1))) 0 = (dg1 (val x / 10 ^ k)).toNat := rfl
        rw [← padS_eq k (val x) (.inr (pad_nonzero h3)) hlt]
        have h5 : ¬ ((dg1 (val x / 10 ^ k)).toNat : Int) = 48 := by omega
        simp [aev, cav, look, acallPure, abin, abinN, abinP, abinI, abinS, aun, aconv, afield, afieldAddr, aindexAddr, aindex, aslice, alow, ahigh, abuild, abuildGo, cellsOf, splice, fieldTy, alen, apick, amax, amin, aload, headV, aparts, abuildSlice, elParts, abytesStr, astore, amake, aappend, anew, arith, aresults, aresList, ares, spec0, spec1, spec2, spec3, spec4, eqCells, eqCell, padS_len, k2, h4, h5]
end Go.Proofs.YtankjfiaajpfoaaDoor
