/-
  nat: Parse, both.
-/
import Derived.Test.YtankjfiaajpfoaaDoorN9
namespace Go.Proofs.YtankjfiaajpfoaaDoor
open Go.RowKit
set_option linter.unusedSimpArgs false
set_option linter.unusedVariables false

/-- n digits from place lo on. -/
def dnum (s : ByteArray) (lo : Nat) : Nat → Nat
  | 0 => 0
  | n + 1 => 10 * dnum s lo n + (btA s (lo + n) - 48)

theorem dnum_add (s : ByteArray) (lo a : Nat) : ∀ b, dnum s lo (a + b) = dnum s lo a * 10 ^ b + dnum s (lo + a) b
  | 0 => by simp [dnum]
  | b + 1 => by
    rw [← Nat.add_assoc, dnum, dnum_add s lo a b, dnum, Nat.pow_succ, Nat.add_assoc lo a b]
    grind

def Digits (s : ByteArray) (n : Nat) : Prop := ∀ i, i < n → 48 ≤ btA s i ∧ btA s i ≤ 57

theorem dnum_lt {s : ByteArray} {m : Nat} (h : Digits s m) (lo : Nat) : ∀ n, lo + n ≤ m → dnum s lo n < 10 ^ n
  | 0, _ => by simp [dnum]
  | n + 1, hn => by
    have h1 := dnum_lt h lo n (by omega)
    have h2 := h (lo + n) (by omega)
    rw [dnum, Nat.pow_succ]
    omega

def parseOK (s : ByteArray) : Prop := 1 ≤ s.size ∧ s.size ≤ 576 ∧ (1 < s.size → btA s 0 ≠ 48) ∧ Digits s s.size
noncomputable def parseT (s : ByteArray) : AV := by
  classical exact if parseOK s then .tup [Enc.enc (canon (dnum s 0 s.size)), .bool true] else .tup [.slice 1 false [], .bool false]
theorem parseT_yes {s : ByteArray} (h : parseOK s) : parseT s = .tup [Enc.enc (canon (dnum s 0 s.size)), .bool true] := by unfold parseT; rw [if_pos h]
theorem parseT_no {s : ByteArray} (h : ¬ parseOK s) : parseT s = .tup [.slice 1 false [], .bool false] := by unfold parseT; rw [if_neg h]

theorem btA_lt (s : ByteArray) (i : Nat) : btA s i < 256 := UInt8.toNat_lt _

theorem chunk_alg {vo W B d1 d2 dn : Nat} (h : dn = d1 * B + d2) : vo + W * d2 + W * B * d1 = vo + W * dn := by
  subst h
  rw [Nat.mul_add, Nat.mul_comm d1, Nat.mul_assoc]
  omega
theorem ten9 : (10 : Nat) ^ 9 = B9 := rfl
theorem chunk {s : ByteArray} {out : List Int} {m e V : Nat} (hl : out.length = m) (h : val out + B9 ^ m * dnum s 0 e = V) : val (out ++ [(dnum s (e - 9) (e - (e - 9)) : Int)]) + B9 ^ (m + 1) * dnum s 0 (e - 9) = V := by
  rw [val_snoc, hl, ← h, Int.toNat_natCast, Nat.pow_succ]
  refine chunk_alg ?_
  have e1 := dnum_add s 0 (e - 9) (e - (e - 9))
  rw [Nat.add_sub_cancel' (Nat.sub_le e 9), Nat.zero_add] at e1
  rw [e1]
  rcases Nat.lt_or_ge e 9 with h9 | h9
  · have : e - 9 = 0 := by omega
    rw [this]
    simp [dnum]
  · have : e - (e - 9) = 9 := by omega
    rw [this, ten9]

theorem dig_val {b : Nat} (h : 48 ≤ b ∧ b ≤ 57) : IntKind.wrap .i64 (IntKind.wrap .u8 ((b : Int) - 48)) = ((b - 48 : Nat) : Int) := by
  unfold IntKind.wrap
  simp [IntKind.bits, IntKind.signed]
  omega

set_option maxHeartbeats 4000000 in
theorem parse17 : PureOK Tryd.prog G0 17 (spec1 (fun s : ByteArray => s.size ≤ 1000000) (fun s => parseT s)) := by
  refine pure1 (C := C3) sig3 mix3 Tryd.func17 rfl rfl rfl (by kernel_rfl) (by decide) (fun s hs => ?_)
  by_cases h0 : s.size = 0
  · rw [parseT_no (fun h => by have := h.1; omega)]
    simp [aev, cav, look, acallPure, abin, abinN, abinP, abinI, abinS, aun, aconv, afield, afieldAddr, aindexAddr, aindex, aslice, alow, ahigh, abuild, abuildGo, cellsOf, splice, fieldTy, alen, apick, amax, amin, aload, headV, aparts, abuildSlice, elParts, abytesStr, astore, amake, aappend, anew, arith, aresults, aresList, ares, spec0, spec1, spec2, spec3, spec4, eqCells, eqCell, h0]
  by_cases h1 : 576 < s.size
  · rw [parseT_no (fun h => by have := h.2.1; omega)]
    have : (576 : Int) < s.size := by omega
    simp [aev, cav, look, acallPure, abin, abinN, abinP, abinI, abinS, aun, aconv, afield, afieldAddr, aindexAddr, aindex, aslice, alow, ahigh, abuild, abuildGo, cellsOf, splice, fieldTy, alen, apick, amax, amin, aload, headV, aparts, abuildSlice, elParts, abytesStr, astore, amake, aappend, anew, arith, aresults, aresList, ares, spec0, spec1, spec2, spec3, spec4, eqCells, eqCell, h0, this]
  have h1' : ¬ (576 : Int) < s.size := by omega
  have hsz : s.size ≤ 576 := by omega
  by_cases h2 : 1 < s.size ∧ btA s 0 = 48
  · rw [parseT_no (fun h => h.2.2.1 h2.1 h2.2)]
    have h3 : (1 : Int) < s.size := by omega
    have h4 : 0 < s.size := by omega
    simp [aev, cav, look, acallPure, abin, abinN, abinP, abinI, abinS, aun, aconv, afield, afieldAddr, aindexAddr, aindex, aslice, alow, ahigh, abuild, abuildGo, cellsOf, splice, fieldTy, alen, apick, amax, amin, aload, headV, aparts, abuildSlice, elParts, abytesStr, astore, amake, aappend, anew, arith, aresults, aresList, ares, spec0, spec1, spec2, spec3, spec4, eqCells, eqCell, h0, h1', h3, h2.2, h4]
  have start : ∀ st, Weak C3 71 0 st ⟨[(0, .str s), (4, .int .i64 0)], []⟩ → ∀ body Q, codeOK C3 71 body = true →
      (∀ i : Nat, i ≤ s.size ∧ Digits s i → avc C3 71 0 body ⟨[(0, .str s), (4, .int .i64 i)], []⟩ (round (fun i : Nat => ⟨[(0, .str s), (4, .int .i64 i)], []⟩) (fun i : Nat => i ≤ s.size ∧ Digits s i) (fun i' => s.size - i' < s.size - i) 71 0 C3 Q)) → AW C3 71 0 (.loop body) st Q :=
    fun st hw body Q hok h => loop_rule (C := C3) sig3 mix3 _ _ (fun i => s.size - i) hok ⟨0, ⟨Nat.zero_le _, fun i h => by omega⟩, hw⟩ h
  by_cases h3 : (1 : Int) < s.size
  have h4 : 0 < s.size := by omega
  have h5 : ¬ btA s 0 = 48 := fun h => h2 ⟨by omega, h⟩
  have h5' : ¬ (btA s 0 : Int) = 48 := by omega
  simp [aev, cav, look, acallPure, abin, abinN, abinP, abinI, abinS, aun, aconv, afield, afieldAddr, aindexAddr, aindex, aslice, alow, ahigh, abuild, abuildGo, cellsOf, splice, fieldTy, alen, apick, amax, amin, aload, headV, aparts, abuildSlice, elParts, abytesStr, astore, amake, aappend, anew, arith, aresults, aresList, ares, spec0, spec1, spec2, spec3, spec4, eqCells, eqCell, h0, h1', h3, h5, h5', h4]
  refine start _ (weak_slots (by simp)) _ _ (by kernel_rfl) (fun i ⟨hi, hd⟩ => ?_)
  rotate_left
  simp [aev, cav, look, acallPure, abin, abinN, abinP, abinI, abinS, aun, aconv, afield, afieldAddr, aindexAddr, aindex, aslice, alow, ahigh, abuild, abuildGo, cellsOf, splice, fieldTy, alen, apick, amax, amin, aload, headV, aparts, abuildSlice, elParts, abytesStr, astore, amake, aappend, anew, arith, aresults, aresList, ares, spec0, spec1, spec2, spec3, spec4, eqCells, eqCell, h0, h1', h3]
  refine start _ (weak_slots (by simp)) _ _ (by kernel_rfl) (fun i ⟨hi, hd⟩ => ?_)
  rotate_left
  all_goals
    have hb := btA_lt s i
    by_cases h6 : i < s.size
    · by_cases h7 : btA s i < 48
      · rw [parseT_no (fun h => by have := h.2.2.2 i h6; omega)]
        have h8 : (btA s i : Int) < 48 := by omega
        simp [aev, cav, look, acallPure, abin, abinN, abinP, abinI, abinS, aun, aconv, afield, afieldAddr, aindexAddr, aindex, aslice, alow, ahigh, abuild, abuildGo, cellsOf, splice, fieldTy, alen, apick, amax, amin, aload, headV, aparts, abuildSlice, elParts, abytesStr, astore, amake, aappend, anew, arith, aresults, aresList, ares, spec0, spec1, spec2, spec3, spec4, eqCells, eqCell, h6, h8]
      · have h8 : ¬ (btA s i : Int) < 48 := by omega
        by_cases h9 : 57 < btA s i
        · rw [parseT_no (fun h => by have := h.2.2.2 i h6; omega)]
          have h10 : (57 : Int) < (btA s i : Int) := by omega
          simp [aev, cav, look, acallPure, abin, abinN, abinP, abinI, abinS, aun, aconv, afield, afieldAddr, aindexAddr, aindex, aslice, alow, ahigh, abuild, abuildGo, cellsOf, splice, fieldTy, alen, apick, amax, amin, aload, headV, aparts, abuildSlice, elParts, abytesStr, astore, amake, aappend, anew, arith, aresults, aresList, ares, spec0, spec1, spec2, spec3, spec4, eqCells, eqCell, h6, h8, h10]
        · have h10 : ¬ (57 : Int) < (btA s i : Int) := by omega
          simp [aev, cav, look, acallPure, abin, abinN, abinP, abinI, abinS, aun, aconv, afield, afieldAddr, aindexAddr, aindex, aslice, alow, ahigh, abuild, abuildGo, cellsOf, splice, fieldTy, alen, apick, amax, amin, aload, headV, aparts, abuildSlice, elParts, abytesStr, astore, amake, aappend, anew, arith, aresults, aresList, ares, spec0, spec1, spec2, spec3, spec4, eqCells, eqCell, h6, h8, h10]
          refine ⟨by unfold I64; omega, i + 1, ⟨by omega, fun j hj => ?_⟩, by omega, weak_slots (by simp)⟩
          rcases Nat.lt_or_eq_of_le (Nat.le_of_lt_succ hj) with h | h
          · exact hd j h
          · subst h; omega
    · have hie : i = s.size := by omega
      subst hie
      have hok : parseOK s := ⟨by omega, hsz, fun h h' => h2 ⟨h, h'⟩, hd⟩
      rw [parseT_yes hok]
      simp [aev, cav, look, acallPure, abin, abinN, abinP, abinI, abinS, aun, aconv, afield, afieldAddr, aindexAddr, aindex, aslice, alow, ahigh, abuild, abuildGo, cellsOf, splice, fieldTy, alen, apick, amax, amin, aload, headV, aparts, abuildSlice, elParts, abytesStr, astore, amake, aappend, anew, arith, aresults, aresList, ares, spec0, spec1, spec2, spec3, spec4, eqCells, eqCell, h6]
      refine loop_rule (C := C3) sig3 mix3 (fun p : Nat × List Int => ⟨[(0, .str s), (5, .own 0 p.2.length), (6, .int .i64 ((s.size : Int) - 9 * p.1))], [⟨3, 1, encRows p.2, true, true⟩]⟩)
        (fun p => 9 * p.1 < s.size + 9 ∧ p.2.length = p.1 ∧ Good p.2 ∧ val p.2 + B9 ^ p.1 * dnum s 0 (s.size - 9 * p.1) = dnum s 0 s.size) (fun p => s.size + 9 - 9 * p.1) (by kernel_rfl)
        ⟨(0, []), ⟨by omega, rfl, good_nil, by simp [val]⟩, (weak_nil 5 1 3 (by simp) (by decide)).trans (weak_slots (by simp))⟩ (fun ⟨m, out⟩ ⟨hm, hl, hg, hv⟩ => ?_)
      simp only at hm hl hg hv ⊢
      by_cases hlast : 9 * m < s.size
      · have k1 : 9 * (m : Int) < s.size := by omega
        have k2 : I64 ((s.size : Int) - 9 * m - 9) := by unfold I64; omega
        simp [aev, cav, look, acallPure, abin, abinN, abinP, abinI, abinS, aun, aconv, afield, afieldAddr, aindexAddr, aindex, aslice, alow, ahigh, abuild, abuildGo, cellsOf, splice, fieldTy, alen, apick, amax, amin, aload, headV, aparts, abuildSlice, elParts, abytesStr, astore, amake, aappend, anew, arith, aresults, aresList, ares, spec0, spec1, spec2, spec3, spec4, eqCells, eqCell, k1, k2]
        obtain ⟨lo, hlo⟩ : ∃ lo, lo = s.size - 9 * m - 9 := ⟨_, rfl⟩
        refine loop_rule (C := C3) sig3 mix3 (fun n : Nat => ⟨[(0, .str s), (5, .own 0 out.length), (6, .int .i64 ((s.size : Int) - 9 * m)), (7, .int .i64 (dnum s lo n)), (8, .int .i64 ((lo : Int) + n))], [⟨3, 1, encRows out, true, true⟩]⟩)
          (fun n => lo + n ≤ s.size - 9 * m) (fun n => s.size - n) (by kernel_rfl) ⟨0, by omega, weak_slots (by simp [dnum]; split <;> omega)⟩ (fun n hn => ?_)
        by_cases h7 : lo + n < s.size - 9 * m
        · have k3 : (lo : Int) + n < (s.size : Int) - 9 * m := by omega
          have k4 : lo + n < s.size := by omega
          have hdg := hd _ k4
          have k5 := dig_val hdg
          have k6 := dnum_lt hd lo n (by omega)
          have k7 : 10 ^ n ≤ 10 ^ 9 := Nat.pow_le_pow_right (by decide) (by omega)
          have k8 : ((lo : Int) + n).toNat = lo + n := by omega
          rw [ten9, show B9 = 1000000000 from rfl] at k7
          simp [aev, cav, look, acallPure, abin, abinN, abinP, abinI, abinS, aun, aconv, afield, afieldAddr, aindexAddr, aindex, aslice, alow, ahigh, abuild, abuildGo, cellsOf, splice, fieldTy, alen, apick, amax, amin, aload, headV, aparts, abuildSlice, elParts, abytesStr, astore, amake, aappend, anew, arith, aresults, aresList, ares, spec0, spec1, spec2, spec3, spec4, eqCells, eqCell, k3, k4, k5, k8]
          refine ⟨by unfold I64; omega, by omega, by unfold I64; omega, by unfold I64; omega, n + 1, by omega, by omega, weak_slots (by simp [dnum]; omega)⟩
        · have k3 : ¬ (lo : Int) + n < (s.size : Int) - 9 * m := by omega
          have k6 := dnum_lt hd lo n (by omega)
          have k7 : 10 ^ n ≤ 10 ^ 9 := Nat.pow_le_pow_right (by decide) (by omega)
          rw [ten9, show B9 = 1000000000 from rfl] at k7
          have hn' : n = s.size - 9 * m - lo := by omega
          have hch := chunk hl hv
          rw [← hlo, ← hn'] at hch
          simp [aev, cav, look, acallPure, abin, abinN, abinP, abinI, abinS, aun, aconv, afield, afieldAddr, aindexAddr, aindex, aslice, alow, ahigh, abuild, abuildGo, cellsOf, splice, fieldTy, alen, apick, amax, amin, aload, headV, aparts, abuildSlice, elParts, abytesStr, astore, amake, aappend, anew, arith, aresults, aresList, ares, spec0, spec1, spec2, spec3, spec4, eqCells, eqCell, k3]
          refine ⟨by omega, by unfold I64; omega, m + 1, _, ⟨by omega, by simp [hl], good_append hg (good_cons (x := (dnum s lo n : Int)) (by omega) good_nil), ?_⟩, by omega, weak_slots (by simp; omega)⟩
          rw [show s.size - 9 * (m + 1) = lo by omega]
          exact hch
      · have k1 : ¬ 9 * (m : Int) < s.size := by omega
        have hz : s.size - 9 * m = 0 := by omega
        rw [hz] at hv
        simp [dnum] at hv
        simp [aev, cav, look, acallPure, abin, abinN, abinP, abinI, abinS, aun, aconv, afield, afieldAddr, aindexAddr, aindex, aslice, alow, ahigh, abuild, abuildGo, cellsOf, splice, fieldTy, alen, apick, amax, amin, aload, headV, aparts, abuildSlice, elParts, abytesStr, astore, amake, aappend, anew, arith, aresults, aresList, ares, spec0, spec1, spec2, spec3, spec4, eqCells, eqCell, k1, s40, hg, hv]
        omega
end Go.Proofs.YtankjfiaajpfoaaDoor
