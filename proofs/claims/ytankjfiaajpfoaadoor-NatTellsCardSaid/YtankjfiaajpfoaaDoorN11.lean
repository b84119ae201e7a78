/-
  nat: the program's Parse.
-/
import Derived.Test.YtankjfiaajpfoaaDoorN10
namespace Go.Proofs.YtankjfiaajpfoaaDoor
open Go.RowKit
set_option linter.unusedSimpArgs false
set_option linter.unusedVariables false

theorem rowAt_bytes {s : ByteArray} {i : Nat} (h : i < s.size) : rowAt (bytesRows s) i = [.int .u8 (btA s i : Int)] := by
  have h' : i < s.data.size := h
  rw [rowAt_get (by rw [bytesRows_length]; exact h)]
  simp [bytesRows, btA, List.getD_eq_getElem?_getD, Array.getElem?_eq_getElem h']
theorem btA_extract {s : ByteArray} {lo hi i : Nat} (h : lo + i < hi) (hh : hi ≤ s.size) : btA (s.extract lo hi) i = btA s (lo + i) := by
  have h' : lo + i < s.data.size := by have : s.data.size = s.size := rfl; omega
  have h'' : hi ≤ s.data.size := hh
  have e : min hi s.data.size = hi := Nat.min_eq_left h''
  have e2 : i < min hi s.data.size - lo := by omega
  simp [btA, List.getD_eq_getElem?_getD, e, List.getElem?_take, List.getElem?_drop, show i < hi - lo by omega]
theorem str_nil_iff {s : ByteArray} : s = ⟨#[]⟩ ↔ s.size = 0 := by
  constructor
  · intro h; subst h; rfl
  · intro h; exact ByteArray.ext (Array.eq_empty_of_size_eq_zero h)
theorem str_zero {s : ByteArray} (h : s.size = 1) (h' : btA s 0 = 48) : s = ⟨#[48]⟩ := by
  obtain ⟨x, hx⟩ := Array.size_eq_one_iff.1 (show s.data.size = 1 from h)
  refine ByteArray.ext (hx.trans ?_)
  simp only [btA, hx, List.getD_cons_zero] at h'
  rw [show x = 48 from UInt8.toNat_inj.1 h']
set_option maxHeartbeats 4000000 in
theorem parse16 : PureOK Tryd.prog G0 16 (spec1 (fun s : ByteArray => s.size ≤ 1000000) (fun s => parseT s)) := by
  refine pure1 (C := C7) sig7 mix7 Tryd.func16 rfl rfl rfl (by kernel_rfl) (by decide) (fun s hs => ?_)
  by_cases h0 : s.size = 0
  · rw [parseT_no (fun h => by have := h.1; omega)]
    simp [aev, cav, look, acallPure, abin, abinN, abinP, abinI, abinS, aun, aconv, afield, afieldAddr, aindexAddr, aindex, aslice, alow, ahigh, abuild, abuildGo, cellsOf, splice, fieldTy, alen, apick, amax, amin, aload, headV, aparts, abuildSlice, elParts, abytesStr, astore, amake, aappend, anew, arith, aresults, aresList, ares, spec0, spec1, spec2, spec3, spec4, eqCells, eqCell, str_nil_iff, h0]
  by_cases h1 : 576 < s.size
  · rw [parseT_no (fun h => by have := h.2.1; omega)]
    have : (576 : Int) < s.size := by omega
    simp [aev, cav, look, acallPure, abin, abinN, abinP, abinI, abinS, aun, aconv, afield, afieldAddr, aindexAddr, aindex, aslice, alow, ahigh, abuild, abuildGo, cellsOf, splice, fieldTy, alen, apick, amax, amin, aload, headV, aparts, abuildSlice, elParts, abytesStr, astore, amake, aappend, anew, arith, aresults, aresList, ares, spec0, spec1, spec2, spec3, spec4, eqCells, eqCell, str_nil_iff, h0, this]
  have h1' : ¬ (576 : Int) < s.size := by omega
  have hsz : s.size ≤ 576 := by omega
  have h4 : 0 < s.size := by omega
  by_cases h2 : 1 < s.size ∧ btA s 0 = 48
  · rw [parseT_no (fun h => h.2.2.1 h2.1 h2.2)]
    have h3 : ¬ s = ⟨#[48]⟩ := fun h => by rw [h] at h2; exact absurd h2.1 (by decide)
    simp [aev, cav, look, acallPure, abin, abinN, abinP, abinI, abinS, aun, aconv, afield, afieldAddr, aindexAddr, aindex, aslice, alow, ahigh, abuild, abuildGo, cellsOf, splice, fieldTy, alen, apick, amax, amin, aload, headV, aparts, abuildSlice, elParts, abytesStr, astore, amake, aappend, anew, arith, aresults, aresList, ares, spec0, spec1, spec2, spec3, spec4, eqCells, eqCell, str_nil_iff, h0, h1', h3, h2.2, h4]
  have start : ∀ st, Weak C7 73 0 st ⟨[(0, .str s), (27, .int .i64 s.size), (28, .int .i64 0)], []⟩ → ∀ body Q, codeOK C7 73 body = true →
      (∀ i : Nat, i ≤ s.size ∧ Digits s i → avc C7 73 0 body ⟨[(0, .str s), (27, .int .i64 s.size), (28, .int .i64 i)], []⟩ (round (fun i : Nat => ⟨[(0, .str s), (27, .int .i64 s.size), (28, .int .i64 i)], []⟩) (fun i : Nat => i ≤ s.size ∧ Digits s i) (fun i' => s.size - i' < s.size - i) 73 0 C7 Q)) → AW C7 73 0 (.loop body) st Q :=
    fun st hw body Q hok h => loop_rule (C := C7) sig7 mix7 _ _ (fun i => s.size - i) hok ⟨0, ⟨Nat.zero_le _, fun i h => by omega⟩, hw⟩ h
  by_cases h3 : btA s 0 = 48
  have h5' : (s = ⟨#[48]⟩) = True := eq_true (str_zero (by omega) h3)
  simp [aev, cav, look, acallPure, abin, abinN, abinP, abinI, abinS, aun, aconv, afield, afieldAddr, aindexAddr, aindex, aslice, alow, ahigh, abuild, abuildGo, cellsOf, splice, fieldTy, alen, apick, amax, amin, aload, headV, aparts, abuildSlice, elParts, abytesStr, astore, amake, aappend, anew, arith, aresults, aresList, ares, spec0, spec1, spec2, spec3, spec4, eqCells, eqCell, str_nil_iff, h0, h1', h3, h4, h5']
  refine start _ (weak_slots (by simp)) _ _ (by kernel_rfl) (fun i ⟨hi, hd⟩ => ?_)
  rotate_left
  have h5' : ¬ (btA s 0 : Int) = 48 := by omega
  simp [aev, cav, look, acallPure, abin, abinN, abinP, abinI, abinS, aun, aconv, afield, afieldAddr, aindexAddr, aindex, aslice, alow, ahigh, abuild, abuildGo, cellsOf, splice, fieldTy, alen, apick, amax, amin, aload, headV, aparts, abuildSlice, elParts, abytesStr, astore, amake, aappend, anew, arith, aresults, aresList, ares, spec0, spec1, spec2, spec3, spec4, eqCells, eqCell, str_nil_iff, h0, h1', h5', h4]
  refine start _ (weak_slots (by simp)) _ _ (by kernel_rfl) (fun i ⟨hi, hd⟩ => ?_)
  rotate_left
  all_goals
    have hb := btA_lt s i
    by_cases h6 : i < s.size
    · by_cases h7 : btA s i < 48
      · rw [parseT_no (fun h => by have := h.2.2.2 i h6; omega)]
        have h8 : (btA s i : Int) < 48 := by omega
        simp [aev, cav, look, acallPure, abin, abinN, abinP, abinI, abinS, aun, aconv, afield, afieldAddr, aindexAddr, aindex, aslice, alow, ahigh, abuild, abuildGo, cellsOf, splice, fieldTy, alen, apick, amax, amin, aload, headV, aparts, abuildSlice, elParts, abytesStr, astore, amake, aappend, anew, arith, aresults, aresList, ares, spec0, spec1, spec2, spec3, spec4, eqCells, eqCell, h6, h8]
      · have h8 : ¬ (btA s i : Int) < 48 := by omega
        by_cases h9 : 57 < btA s i
        · rw [parseT_no (fun h => by have := h.2.2.2 i h6; omega)]
          have h10 : (57 : Int) < (btA s i : Int) := by omega
          simp [aev, cav, look, acallPure, abin, abinN, abinP, abinI, abinS, aun, aconv, afield, afieldAddr, aindexAddr, aindex, aslice, alow, ahigh, abuild, abuildGo, cellsOf, splice, fieldTy, alen, apick, amax, amin, aload, headV, aparts, abuildSlice, elParts, abytesStr, astore, amake, aappend, anew, arith, aresults, aresList, ares, spec0, spec1, spec2, spec3, spec4, eqCells, eqCell, h6, h8, h10]
        · have h10 : ¬ (57 : Int) < (btA s i : Int) := by omega
          simp [aev, cav, look, acallPure, abin, abinN, abinP, abinI, abinS, aun, aconv, afield, afieldAddr, aindexAddr, aindex, aslice, alow, ahigh, abuild, abuildGo, cellsOf, splice, fieldTy, alen, apick, amax, amin, aload, headV, aparts, abuildSlice, elParts, abytesStr, astore, amake, aappend, anew, arith, aresults, aresList, ares, spec0, spec1, spec2, spec3, spec4, eqCells, eqCell, h6, h8, h10]
          refine ⟨by unfold I64; omega, i + 1, ⟨by omega, fun j hj => ?_⟩, by omega, weak_slots (by simp)⟩
          rcases Nat.lt_or_eq_of_le (Nat.le_of_lt_succ hj) with h | h
          · exact hd j h
          · subst h; omega
    · have hie : i = s.size := by omega
      subst hie
      have hok : parseOK s := ⟨by omega, hsz, fun h h' => h2 ⟨h, h'⟩, hd⟩
      rw [parseT_yes hok]
      simp [aev, cav, look, acallPure, abin, abinN, abinP, abinI, abinS, aun, aconv, afield, afieldAddr, aindexAddr, aindex, aslice, alow, ahigh, abuild, abuildGo, cellsOf, splice, fieldTy, alen, apick, amax, amin, aload, headV, aparts, abuildSlice, elParts, abytesStr, astore, amake, aappend, anew, arith, aresults, aresList, ares, spec0, spec1, spec2, spec3, spec4, eqCells, eqCell, h6]
      refine loop_rule (C := C7) sig7 mix7 (fun p : Nat × List Int => ⟨[(0, .str s), (5, .own 0 p.2.length), (6, .int .i64 ((s.size : Int) - 9 * p.1))], [⟨3, 1, encRows p.2, true, true⟩]⟩)
        (fun p => 9 * p.1 < s.size + 9 ∧ p.2.length = p.1 ∧ Good p.2 ∧ val p.2 + B9 ^ p.1 * dnum s 0 (s.size - 9 * p.1) = dnum s 0 s.size) (fun p => s.size + 9 - 9 * p.1) (by kernel_rfl)
        ⟨(0, []), ⟨by omega, rfl, good_nil, by simp [val]⟩, (weak_nil 5 1 3 (by simp) (by decide)).trans (weak_slots (by simp))⟩ (fun ⟨m, out⟩ ⟨hm, hl, hg, hv⟩ => ?_)
      simp only at hm hl hg hv ⊢
      by_cases hlast : 9 * m < s.size
      · have k1 : 9 * (m : Int) < s.size := by omega
        have k2 : I64 ((s.size : Int) - 9 * m - 9) := by unfold I64; omega
        obtain ⟨lo, hlo⟩ : ∃ lo, lo = s.size - 9 * m - 9 := ⟨_, rfl⟩
        obtain ⟨e, he⟩ : ∃ e, e = s.size - 9 * m := ⟨_, rfl⟩
        have k3 : (if 9 < (s.size : Int) - 9 * m then (s.size : Int) - 9 * m - 9 else 0) = lo := by split <;> omega
        have k4 : ((s.size : Int) - 9 * m).toNat = e := by omega
        have k5 : (s.extract lo e).size = e - lo := by simp; omega
        have k6 : ((s.extract lo e).size : Int) = (e : Int) - lo := by omega
        simp [aev, cav, look, acallPure, abin, abinN, abinP, abinI, abinS, aun, aconv, afield, afieldAddr, aindexAddr, aindex, aslice, alow, ahigh, abuild, abuildGo, cellsOf, splice, fieldTy, alen, apick, amax, amin, aload, headV, aparts, abuildSlice, elParts, abytesStr, astore, amake, aappend, anew, arith, aresults, aresList, ares, spec0, spec1, spec2, spec3, spec4, eqCells, eqCell, k1, k2, k3, k4]
        refine ⟨by omega, by omega, ?_⟩
        refine loop_rule (C := C7) sig7 mix7 (fun n : Nat => ⟨[(0, .str s), (5, .own 0 out.length), (6, .int .i64 ((s.size : Int) - 9 * m)), (7, .int .i64 (dnum s lo n)), (54, .slice 1 false (bytesRows (s.extract lo e))), (55, .int .i64 ((e : Int) - lo)), (56, .int .i64 n)], [⟨3, 1, encRows out, true, true⟩]⟩)
          (fun n => n ≤ e - lo) (fun n => s.size - n) (by kernel_rfl) ⟨0, by omega, weak_slots (by simp [dnum, bytesRows_length]; omega)⟩ (fun n hn => ?_)
        by_cases h7 : n < e - lo
        · have k7 : (n : Int) < (e : Int) - lo := by omega
          have hdg := hd (lo + n) (by omega)
          have k8 := dig_val hdg
          have k9 := dnum_lt hd lo n (by omega)
          have k10 : 10 ^ n ≤ 10 ^ 9 := Nat.pow_le_pow_right (by decide) (by omega)
          have k11 : rowAt (bytesRows (s.extract lo e)) n = [.int .u8 (btA s (lo + n) : Int)] := by rw [rowAt_bytes (by omega), btA_extract (by omega) (by omega)]
          rw [ten9, show B9 = 1000000000 from rfl] at k10
          simp [aev, cav, look, acallPure, abin, abinN, abinP, abinI, abinS, aun, aconv, afield, afieldAddr, aindexAddr, aindex, aslice, alow, ahigh, abuild, abuildGo, cellsOf, splice, fieldTy, alen, apick, amax, amin, aload, headV, aparts, abuildSlice, elParts, abytesStr, astore, amake, aappend, anew, arith, aresults, aresList, ares, spec0, spec1, spec2, spec3, spec4, eqCells, eqCell, k7, k8, k11]
          refine ⟨by rw [bytesRows_length]; omega, (by first | omega | (unfold I64; omega)), (by first | omega | (unfold I64; omega)), (by first | omega | (unfold I64; omega)), n + 1, by omega, by omega, weak_slots (by simp [dnum])⟩
        · have k7 : ¬ (n : Int) < (e : Int) - lo := by omega
          have k9 := dnum_lt hd lo n (by omega)
          have k10 : 10 ^ n ≤ 10 ^ 9 := Nat.pow_le_pow_right (by decide) (by omega)
          rw [ten9, show B9 = 1000000000 from rfl] at k10
          have hn' : n = s.size - 9 * m - lo := by omega
          have hch := chunk hl hv
          rw [← hlo, ← hn'] at hch
          simp [aev, cav, look, acallPure, abin, abinN, abinP, abinI, abinS, aun, aconv, afield, afieldAddr, aindexAddr, aindex, aslice, alow, ahigh, abuild, abuildGo, cellsOf, splice, fieldTy, alen, apick, amax, amin, aload, headV, aparts, abuildSlice, elParts, abytesStr, astore, amake, aappend, anew, arith, aresults, aresList, ares, spec0, spec1, spec2, spec3, spec4, eqCells, eqCell, k7]
          refine ⟨by omega, by unfold I64; omega, m + 1, _, ⟨by omega, by simp [hl], good_append hg (good_cons (x := (dnum s lo n : Int)) (by omega) good_nil), ?_⟩, by omega, weak_slots (by simp; omega)⟩
          rw [show s.size - 9 * (m + 1) = lo by omega]
          exact hch
      · have k1 : ¬ 9 * (m : Int) < s.size := by omega
        have hz : s.size - 9 * m = 0 := by omega
        rw [hz] at hv
        simp [dnum] at hv
        simp [aev, cav, look, acallPure, abin, abinN, abinP, abinI, abinS, aun, aconv, afield, afieldAddr, aindexAddr, aindex, aslice, alow, ahigh, abuild, abuildGo, cellsOf, splice, fieldTy, alen, apick, amax, amin, aload, headV, aparts, abuildSlice, elParts, abytesStr, astore, amake, aappend, anew, arith, aresults, aresList, ares, spec0, spec1, spec2, spec3, spec4, eqCells, eqCell, k1, s39, hg, hv]
        omega
end Go.Proofs.YtankjfiaajpfoaaDoor
