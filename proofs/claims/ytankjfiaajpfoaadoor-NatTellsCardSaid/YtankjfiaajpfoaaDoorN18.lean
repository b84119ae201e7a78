/-
  nat: the laws, fourth part: texts and back.
-/
import Derived.Test.YtankjfiaajpfoaaDoorN17
namespace Go.Proofs.YtankjfiaajpfoaaDoor
open Go.RowKit
set_option linter.unusedSimpArgs false
set_option linter.unusedVariables false
set_option maxRecDepth 100000

theorem dnum_shift (x : UInt8) (l : List UInt8) (lo : Nat) : ∀ n, dnum (bs (x :: l)) (lo + 1) n = dnum (bs l) lo n
  | 0 => rfl
  | n + 1 => by
    have e : btA (bs (x :: l)) (lo + 1 + n) = btA (bs l) (lo + n) := by
      rw [btA_bs, btA_bs, show lo + 1 + n = (lo + n) + 1 by omega]; rfl
    rw [dnum, dnum, dnum_shift x l lo n, e]
theorem dnum_pad (V : Nat) : ∀ m, dnum (bs (padS V m)) 0 m = V % 10 ^ m
  | 0 => by simp [dnum, Nat.mod_one]
  | m + 1 => by
    have h1 := dnum_add (bs (padS V (m + 1))) 0 1 m
    have h2 : dnum (bs (padS V (m + 1))) 0 1 = V / 10 ^ m % 10 := by
      have : btA (bs (padS V (m + 1))) 0 = 48 + V / 10 ^ m % 10 := by rw [btA_bs, padS]; exact dg1_toNat _
      simp [dnum, this]
    have h3 : dnum (bs (padS V (m + 1))) (0 + 1) m = dnum (bs (padS V m)) 0 m := dnum_shift _ _ 0 m
    rw [Nat.add_comm 1 m] at h1
    rw [h1, h2, h3, dnum_pad V m, Nat.pow_succ, Nat.mod_mul, Nat.add_comm, Nat.mul_comm]
theorem pad_digit (V m i : Nat) (h : i < m) : btA (bs (padS V m)) i = 48 + V / 10 ^ (m - 1 - i) % 10 := by
  induction m generalizing i with
  | zero => omega
  | succ m ih =>
    cases i with
    | zero => rw [btA_bs, padS]; exact dg1_toNat _
    | succ i =>
      have := ih i (by omega)
      rw [btA_bs] at this
      rw [btA_bs, padS, List.getD_cons_succ, this, show m + 1 - 1 - (i + 1) = m - 1 - i by omega]

theorem text_parse {n : Nat} (h : n < B9 ^ 64) : parseOK (bs (textN n)) ∧ dnum (bs (textN n)) 0 (bs (textN n)).size = n := by
  obtain ⟨k, h1, h2⟩ := digits_ex n
  rw [← padS_eq k n h1 h2, bs_size, padS_len]
  refine ⟨⟨by simp [padS_len], ?_, fun hk => ?_, fun i hi => ?_⟩, by rw [dnum_pad, Nat.mod_eq_of_lt h2]⟩
  · rw [bs_size, padS_len]
    rcases Nat.lt_or_ge k 576 with h | h
    · omega
    · rcases h1 with h1 | h1
      · omega
      · have := B9_ten (c := 64) (k := k) h
        generalize B9 ^ 64 = T at *
        omega
  · rw [bs_size, padS_len] at hk
    rw [pad_digit _ _ _ (by omega), show k + 1 - 1 - 0 = k by omega]
    have h3 : 10 ^ k ≤ n := by rcases h1 with h1 | h1 <;> omega
    have h4 : 1 ≤ n / 10 ^ k := (Nat.le_div_iff_mul_le (Nat.pow_pos (by decide))).2 (by omega)
    have h5 : n / 10 ^ k < 10 := Nat.div_lt_of_lt_mul (by rwa [Nat.pow_succ] at h2)
    generalize n / 10 ^ k = q at *
    omega
  · rw [bs_size, padS_len] at hi
    rw [pad_digit _ _ _ hi]
    generalize n / 10 ^ (k + 1 - 1 - i) = q
    omega

theorem parse_text {s : ByteArray} (h : parseOK s) : bs (textN (dnum s 0 s.size)) = s := by
  obtain ⟨h1, h2, h3, h4⟩ := h
  have hd : ∀ i, i < s.size → dnum s 0 s.size / 10 ^ (s.size - 1 - i) = 10 * dnum s 0 i + (btA s i - 48) := by
    intro i hi
    have e := dnum_add s 0 (i + 1) (s.size - 1 - i)
    have hlt := dnum_lt h4 (i + 1) (s.size - 1 - i) (by omega)
    rw [show i + 1 + (s.size - 1 - i) = s.size by omega, Nat.zero_add] at e
    rw [e, Nat.mul_comm, Nat.mul_add_div (Nat.pow_pos (by decide)), Nat.div_eq_of_lt hlt, Nat.add_zero, dnum, Nat.zero_add]
  have hlt := dnum_lt h4 0 s.size (by omega)
  have e1 : padS (dnum s 0 s.size) (s.size - 1 + 1) = textN (dnum s 0 s.size) := by
    refine padS_eq _ _ ?_ (by rwa [show s.size - 1 + 1 = s.size by omega])
    rcases Nat.lt_or_ge 1 s.size with h | h
    · refine .inr ?_
      have h5 := hd 0 (by omega)
      have h6 := h3 h
      have h7 := h4 0 (by omega)
      rw [Nat.sub_zero, dnum] at h5
      rcases Nat.lt_or_ge (dnum s 0 s.size) (10 ^ (s.size - 1)) with h8 | h8
      · rw [Nat.div_eq_of_lt h8] at h5; omega
      · exact h8
    · exact .inl (by omega)
  rw [← e1, show s.size - 1 + 1 = s.size by omega]
  refine str_ext (by rw [bs_size, padS_len]) fun i hi => ?_
  rw [bs_size, padS_len] at hi
  rw [pad_digit _ _ _ hi, hd i hi]
  have := h4 i hi
  omega

set_option maxHeartbeats 8000000 in
theorem law8 : PureOK Tryd.prog G1 8 (spec3 (fun (_ : List Int) (n : Int) (_ : ByteArray) => I64 n) (fun _ _ _ => .bool true)) := by
  refine pure3 (C := C9) sig9 mix9 Tryd.func8 rfl rfl rfl (by kernel_rfl) (by decide) (fun a n s hn => ?_)
  cases hva : validR a
  · simp [aev, cav, look, acallPure, abin, abinN, abinP, abinI, abinS, aun, aconv, afield, afieldAddr, aindexAddr, aindex, aslice, alow, ahigh, abuild, abuildGo, cellsOf, splice, fieldTy, alen, apick, amax, amin, aload, headV, aparts, abuildSlice, elParts, abytesStr, astore, amake, aappend, anew, arith, aresults, aresList, ares, spec0, spec1, spec2, spec3, spec4, eqCells, eqCell, s10, s14, hva]
  by_cases h2 : 700 < s.size
  · have h2' : (700 : Int) < s.size := by omega
    simp [aev, cav, look, acallPure, abin, abinN, abinP, abinI, abinS, aun, aconv, afield, afieldAddr, aindexAddr, aindex, aslice, alow, ahigh, abuild, abuildGo, cellsOf, splice, fieldTy, alen, apick, amax, amin, aload, headV, aparts, abuildSlice, elParts, abytesStr, astore, amake, aappend, anew, arith, aresults, aresList, ares, spec0, spec1, spec2, spec3, spec4, eqCells, eqCell, s10, s14, hva, h2']
  have h2' : ¬ (700 : Int) < s.size := by omega
  obtain ⟨hal, hca, hlt⟩ := valid_facts hva
  have ha : a.length ≤ 1000000 := by omega
  have hs : s.size ≤ 1000000 := by omega
  have hn2 : n ≤ 9223372036854775807 := hn.2
  obtain ⟨t1, t2⟩ := text_parse hlt
  have t3 := t1.2.1
  have t4 : (bs (textN (nv a))).size ≤ 1000000 := by omega
  have t5 := parseT_yes t1
  rw [t2, hca] at t5
  have hc3 := canon_len 3 n.toNat (by unfold I64 at hn; unfold B9; omega)
  have hc : (canon n.toNat).length ≤ 1000000 := by omega
  have hnn := nv_canon (n := n.toNat) (by omega)
  have hsm : nv (canon n.toNat) ≤ 9223372036854775807 := by rw [hnn]; unfold I64 at hn; omega
  have hmax : ((n.toNat : Nat) : Int) = (if 0 > n then 0 else n) := by split <;> omega
  by_cases hp : parseOK s
  · have hq : (canon (dnum s 0 s.size)).length ≤ 64 := by
      have h3 := dnum_lt hp.2.2.2 0 s.size (by omega)
      exact canon_len 64 (dnum s 0 s.size) (Nat.lt_of_lt_of_le h3 (ten_le hp.2.1))
    have hq' : (canon (dnum s 0 s.size)).length ≤ 1000000 := by omega
    have hy := nv_canon hq
    have hv : validR (canon (dnum s 0 s.size)) = true := validR_iff.2 ⟨hq, canon_good _, canon_norm _⟩
    have hpt := parse_text hp
    by_cases hneg : n < 0
    · have hm0 : max n 0 = 0 := by omega
      simp [aev, cav, look, acallPure, abin, abinN, abinP, abinI, abinS, aun, aconv, afield, afieldAddr, aindexAddr, aindex, aslice, alow, ahigh, abuild, abuildGo, cellsOf, splice, fieldTy, alen, apick, amax, amin, aload, headV, aparts, abuildSlice, elParts, abytesStr, astore, amake, aappend, anew, arith, aresults, aresList, ares, spec0, spec1, spec2, spec3, spec4, eqCells, eqCell, s10, s14, hva, h2', s16, s18, s25, s20, s13, s26, ha, hs, t5, hn, hc, parseT_yes hp, hq', hy, hpt, hv, hnn, hsm, hn2, hneg, hm0]
      simpa using t4
    · have hm0 : max n 0 = n := by omega
      simp [aev, cav, look, acallPure, abin, abinN, abinP, abinI, abinS, aun, aconv, afield, afieldAddr, aindexAddr, aindex, aslice, alow, ahigh, abuild, abuildGo, cellsOf, splice, fieldTy, alen, apick, amax, amin, aload, headV, aparts, abuildSlice, elParts, abytesStr, astore, amake, aappend, anew, arith, aresults, aresList, ares, spec0, spec1, spec2, spec3, spec4, eqCells, eqCell, s10, s14, hva, h2', s16, s18, s25, s20, s13, s26, ha, hs, t5, hn, hc, parseT_yes hp, hq', hy, hpt, hv, hnn, hsm, hn2, hneg, hm0]
      simpa using t4
  · by_cases hneg : n < 0
    · have hm0 : max n 0 = 0 := by omega
      simp [aev, cav, look, acallPure, abin, abinN, abinP, abinI, abinS, aun, aconv, afield, afieldAddr, aindexAddr, aindex, aslice, alow, ahigh, abuild, abuildGo, cellsOf, splice, fieldTy, alen, apick, amax, amin, aload, headV, aparts, abuildSlice, elParts, abytesStr, astore, amake, aappend, anew, arith, aresults, aresList, ares, spec0, spec1, spec2, spec3, spec4, eqCells, eqCell, s10, s14, hva, h2', s16, s18, s25, s20, s13, s26, ha, hs, t5, hn, hc, parseT_no hp, hnn, hsm, hn2, hneg, hm0]
      simpa using t4
    · have hm0 : max n 0 = n := by omega
      simp [aev, cav, look, acallPure, abin, abinN, abinP, abinI, abinS, aun, aconv, afield, afieldAddr, aindexAddr, aindex, aslice, alow, ahigh, abuild, abuildGo, cellsOf, splice, fieldTy, alen, apick, amax, amin, aload, headV, aparts, abuildSlice, elParts, abytesStr, astore, amake, aappend, anew, arith, aresults, aresList, ares, spec0, spec1, spec2, spec3, spec4, eqCells, eqCell, s10, s14, hva, h2', s16, s18, s25, s20, s13, s26, ha, hs, t5, hn, hc, parseT_no hp, hnn, hsm, hn2, hneg, hm0]
      simpa using t4
end Go.Proofs.YtankjfiaajpfoaaDoor
