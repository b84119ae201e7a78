/-
  layer 14: the keys below a path, by the reference.
-/
import Derived.Test.YtkonafdbfciikaaT25
namespace Go.Proofs.Ytkonafdbfciikaa
open Go.RowKit
set_option linter.unusedSimpArgs false
set_option linter.unusedVariables false
set_option maxRecDepth 100000

theorem group_lt {t : Trie} (hv : ValidT t) {k a z : Nat} (h : GroupAt t k a z) {i j : Nat} (h1 : a ≤ i) (h2 : i < j) (h3 : j < z) : ix (ix t.levels k).keys i < ix (ix t.levels k).keys j := by
  obtain ⟨hk, g, hg, e1, e2⟩ := h
  have r := group_rise hv hk hg (j - 1 - i) i (by omega) (by omega)
  have hs := hv.2.2.2 _ (ix_mem hk) g hg j (by omega) (by omega)
  rw [show i + (j - 1 - i) = j - 1 by omega] at r
  omega
theorem seg_at {t : Trie} (hv : ValidT t) {k a z q : Nat} {p : Int} (h : GroupAt t k a z) (h1 : a ≤ q) (h2 : q < z) (h3 : ix (ix t.levels k).keys q = p) : lbd (segL (ix t.levels k).keys a z) p = q - a ∧ foundB (segL (ix t.levels k).keys a z) p = true := by
  obtain ⟨g1, g2, g3⟩ := group_facts hv h
  have sl := segL_length (ix t.levels k).keys (a := a) g2
  have e : lbd (segL (ix t.levels k).keys a z) p = q - a := by
    refine lbd_at (fun j hj => ?_) (by omega) (fun hj => ?_)
    · rw [ix_seg _ (by omega) g2, ← h3]
      exact group_lt hv h (by omega) (by omega) h2
    · rw [ix_seg _ (by omega) g2, show a + (q - a) = q by omega, h3]
      exact Int.le_refl _
  refine ⟨e, found_iff.2 ⟨by omega, ?_⟩⟩
  rw [e, ix_seg _ (by omega) g2, show a + (q - a) = q by omega, h3]
theorem seg_none {t : Trie} (hv : ValidT t) {k a z : Nat} {p : Int} (h : GroupAt t k a z) (h1 : ∀ j, a ≤ j → j < z → ix (ix t.levels k).keys j ≠ p) : foundB (segL (ix t.levels k).keys a z) p = false := by
  obtain ⟨g1, g2, g3⟩ := group_facts hv h
  have sl := segL_length (ix t.levels k).keys (a := a) g2
  cases hf : foundB (segL (ix t.levels k).keys a z) p with
  | false => rfl
  | true =>
    obtain ⟨f1, f2⟩ := found_iff.1 hf
    rw [ix_seg _ (by omega) g2] at f2
    exact absurd f2 (h1 _ (by omega) (by omega))

set_option maxHeartbeats 16000000 in
theorem childR : PureOK Try.prog G0 37 sChild := by
  refine pure2 (C := CH1) sigCH1 mixCH1 Try.func37 rfl rfl rfl (by kernel_rfl) (by decide) (fun t p ⟨hT, hp⟩ => ?_)
  by_cases hv : ValidT t
  case neg =>
    have e : childF t p = [] := by unfold childF; rw [if_neg (fun h => hv h.1)]
    simp [aev, cav, look, acallPure, abin, abinN, abinP, abinI, abinS, aun, aconv, afield, afieldAddr, aindexAddr, aindex, aslice, alow, ahigh, abuild, abuildGo, cellsOf, splice, fieldTy, alen, apick, amax, amin, aload, headV, aparts, abuildSlice, elParts, abytesStr, astore, amake, aappend, aclear, anew, arith, aresults, aresList, ares, spec0, spec1, spec2, spec3, spec4, eqCells, eqCell, sValidR, hT, hT.1, validB_no hv, e]
  have ev := validB_yes hv
  by_cases hl : t.levels.length ≤ p.length
  · have e : childF t p = [] := by unfold childF; rw [if_neg (fun h => by have := h.2; omega)]
    simp [aev, cav, look, acallPure, abin, abinN, abinP, abinI, abinS, aun, aconv, afield, afieldAddr, aindexAddr, aindex, aslice, alow, ahigh, abuild, abuildGo, cellsOf, splice, fieldTy, alen, apick, amax, amin, aload, headV, aparts, abuildSlice, elParts, abytesStr, astore, amake, aappend, aclear, anew, arith, aresults, aresList, ares, spec0, spec1, spec2, spec3, spec4, eqCells, eqCell, sValidR, hT, hT.1, ev, hl, e]
  have h0 : 0 < t.levels.length := hv.1
  have hK0 := (hT.1.2 _ (ix_mem h0)).1
  simp [aev, cav, look, acallPure, abin, abinN, abinP, abinI, abinS, aun, aconv, afield, afieldAddr, aindexAddr, aindex, aslice, alow, ahigh, abuild, abuildGo, cellsOf, splice, fieldTy, alen, apick, amax, amin, aload, headV, aparts, abuildSlice, elParts, abytesStr, astore, amake, aappend, aclear, anew, arith, aresults, aresList, ares, spec0, spec1, spec2, spec3, spec4, eqCells, eqCell, sValidR, hT, hT.1, ev, hl, h0, rowAt_enc h0]
  refine loop_rule (C := CH1) sigCH1 mixCH1 (fun q : Nat × Nat × Nat => ⟨[(1, Enc.enc p), (2, .ptr 0 1 1 0 0), (5, .int .i64 q.2.1), (6, .int .i64 q.2.2), (7, .int .i64 q.1)], [TB t]⟩) (fun q => q.1 ≤ p.length ∧ GroupAt t q.1 q.2.1 q.2.2 ∧ chF t q.1 (p.drop q.1) q.2.1 q.2.2 = chF t 0 p 0 (ix t.levels 0).keys.length) (fun q => p.length - q.1) (by kernel_rfl) ⟨(0, 0, (ix t.levels 0).keys.length), ⟨Nat.zero_le _, group_root hv, rfl⟩, weak_eq (by simp) (by simp [TB])⟩ (fun ⟨k, a, z⟩ ⟨h1, h2, h3⟩ => ?_)
  simp only at h1 h2 h3 ⊢
  obtain ⟨g1, g2, g3⟩ := group_facts hv h2
  have hkl : k < t.levels.length := h2.1
  obtain ⟨x1, x2⟩ := hT.1.2 _ (ix_mem hkl)
  have slen := segL_length (ix t.levels k).keys (a := a) g2
  by_cases hk : k < p.length
  · have hk1 : k + 1 < t.levels.length := by omega
    have i1 : I64 ((k : Int) + 1) := by unfold I64; omega
    rw [chF_drop hk] at h3
    simp [aev, cav, look, acallPure, abin, abinN, abinP, abinI, abinS, aun, aconv, afield, afieldAddr, aindexAddr, aindex, aslice, alow, ahigh, abuild, abuildGo, cellsOf, splice, fieldTy, alen, apick, amax, amin, aload, headV, aparts, abuildSlice, elParts, abytesStr, astore, amake, aappend, aclear, anew, arith, aresults, aresList, ares, spec0, spec1, spec2, spec3, spec4, eqCells, eqCell, hk]
    refine loop_rule (C := CH1) sigCH1 mixCH1 (fun x : Nat × Int => ⟨[(1, Enc.enc p), (2, .ptr 0 1 1 0 0), (5, .int .i64 a), (6, .int .i64 z), (7, .int .i64 k), (8, .int .i64 x.2), (9, .int .i64 x.1)], [TB t]⟩) (fun x => a ≤ x.1 ∧ x.1 ≤ z ∧ ((x.2 = -1 ∧ ∀ j, a ≤ j → j < x.1 → ix (ix t.levels k).keys j ≠ ix p k) ∨ ∃ q : Nat, x.2 = q ∧ a ≤ q ∧ q < x.1 ∧ ix (ix t.levels k).keys q = ix p k)) (fun x => z - x.1) (by kernel_rfl) ⟨(a, -1), ⟨Nat.le_refl _, g1, .inl ⟨rfl, fun j _ _ => by omega⟩⟩, weak_eq (by simp) (by simp [TB])⟩ (fun ⟨i, v⟩ ⟨b1, b2, b3⟩ => ?_)
    simp only at b1 b2 b3 ⊢
    by_cases hi : i < z
    · have ii : I64 ((i : Int) + 1) := by unfold I64; omega
      have hik : i < (ix t.levels k).keys.length := by omega
      rcases em2 (ix (ix t.levels k).keys i = ix p k) with e | e
      · simp [aev, cav, look, acallPure, abin, abinN, abinP, abinI, abinS, aun, aconv, afield, afieldAddr, aindexAddr, aindex, aslice, alow, ahigh, abuild, abuildGo, cellsOf, splice, fieldTy, alen, apick, amax, amin, aload, headV, aparts, abuildSlice, elParts, abytesStr, astore, amake, aappend, aclear, anew, arith, aresults, aresList, ares, spec0, spec1, spec2, spec3, spec4, eqCells, eqCell, TB, hi, hkl, rowAt_enc hkl, hk, rowAt_enc hk, hik, rowAt_enc hik, e, ii]
        exact ⟨i + 1, i, ⟨by omega, by omega, .inr ⟨i, rfl, b1, by omega, of_eq_true e⟩⟩, by omega, weak_keep 1 (by simp) (by simp) (by simp [AV.clean, AV.clean1]) (by simp) (by simp [TB])⟩
      · simp [aev, cav, look, acallPure, abin, abinN, abinP, abinI, abinS, aun, aconv, afield, afieldAddr, aindexAddr, aindex, aslice, alow, ahigh, abuild, abuildGo, cellsOf, splice, fieldTy, alen, apick, amax, amin, aload, headV, aparts, abuildSlice, elParts, abytesStr, astore, amake, aappend, aclear, anew, arith, aresults, aresList, ares, spec0, spec1, spec2, spec3, spec4, eqCells, eqCell, TB, hi, hkl, rowAt_enc hkl, hk, rowAt_enc hk, hik, rowAt_enc hik, e, ii]
        refine ⟨i + 1, v, ⟨by omega, by omega, ?_⟩, by omega, weak_keep 1 (by simp) (by simp) (by simp [AV.clean, AV.clean1]) (by simp) (by simp [TB])⟩
        rcases b3 with ⟨c1, c2⟩ | ⟨q, c1, c2, c3, c4⟩
        · refine .inl ⟨c1, fun j hj1 hj2 => ?_⟩
          rcases Nat.lt_or_eq_of_le (Nat.le_of_lt_succ hj2) with h | rfl
          · exact c2 j hj1 h
          · exact of_eq_false e
        · exact .inr ⟨q, c1, c2, by omega, c4⟩
    · have hiz : i = z := by omega
      subst hiz
      rcases b3 with ⟨c1, c2⟩ | ⟨q, c1, c2, c3, c4⟩
      · subst c1
        rw [seg_none hv h2 c2, if_neg (by decide)] at h3
        have e : childF t p = [] := by unfold childF; rw [if_pos ⟨hv, by omega⟩, ← h3]
        simp [aev, cav, look, acallPure, abin, abinN, abinP, abinI, abinS, aun, aconv, afield, afieldAddr, aindexAddr, aindex, aslice, alow, ahigh, abuild, abuildGo, cellsOf, splice, fieldTy, alen, apick, amax, amin, aload, headV, aparts, abuildSlice, elParts, abytesStr, astore, amake, aappend, aclear, anew, arith, aresults, aresList, ares, spec0, spec1, spec2, spec3, spec4, eqCells, eqCell, e]
      · subst c1
        obtain ⟨s1, s2⟩ := seg_at hv h2 c2 c3 c4
        rw [s2, if_pos rfl, s1, show a + (q - a) = q by omega] at h3
        obtain ⟨f1, f2, f3, f4⟩ := group_below hv hk1 (i := q) (by omega)
        have i3 : I64 ((q : Int) + 1) := by unfold I64; omega
        have j2 : ((q : Int) + 1).toNat = q + 1 := by omega
        have j3 : ((k : Int) + 1).toNat = k + 1 := by omega
        have j4 : (0 : Int) ≤ (k : Int) + 1 := by omega
        have j5 : (k : Int) + 1 < t.levels.length := by omega
        have f0 : q < (ix t.levels (k + 1)).first.length := by omega
        have j6 : ¬ (q : Int) < 0 := by omega
        have j7 : (0 : Int) ≤ (q : Int) + 1 := by omega
        have j9 : (q : Int) + 1 < (ix t.levels (k + 1)).first.length := by omega
        simp [aev, cav, look, acallPure, abin, abinN, abinP, abinI, abinS, aun, aconv, afield, afieldAddr, aindexAddr, aindex, aslice, alow, ahigh, abuild, abuildGo, cellsOf, splice, fieldTy, alen, apick, amax, amin, aload, headV, aparts, abuildSlice, elParts, abytesStr, astore, amake, aappend, aclear, anew, arith, aresults, aresList, ares, spec0, spec1, spec2, spec3, spec4, eqCells, eqCell, TB, hk, hk1, rowAt_enc hk1, i1, i3, j2, j3, j4, j5, j6, j7, j9, f0, rowAt_enc f0, f1, rowAt_enc f1]
        exact ⟨k + 1, (ix (ix t.levels (k + 1)).first q).toNat, (ix (ix t.levels (k + 1)).first (q + 1)).toNat, ⟨by omega, f2, h3⟩, by omega, weak_keep 1 (by simp [Int.toNat_of_nonneg f3, Int.toNat_of_nonneg f4]) (by simp) (by simp [AV.clean, AV.clean1]) (by simp) (by simp [TB])⟩
  · have hkp : k = p.length := by omega
    subst hkp
    rw [List.drop_length, chF] at h3
    have e : childF t p = segL (ix t.levels p.length).keys a z := by unfold childF; rw [if_pos ⟨hv, by omega⟩, ← h3]
    have sg : List.drop a (List.take z (ix t.levels p.length).keys) = segL (ix t.levels p.length).keys a z := rfl
    have sl2 : (segL (ix t.levels p.length).keys a z).length ≤ 1000000 := by omega
    simp [aev, cav, look, acallPure, abin, abinN, abinP, abinI, abinS, aun, aconv, afield, afieldAddr, aindexAddr, aindex, aslice, alow, ahigh, abuild, abuildGo, cellsOf, splice, fieldTy, alen, apick, amax, amin, aload, headV, aparts, abuildSlice, elParts, abytesStr, astore, amake, aappend, aclear, anew, arith, aresults, aresList, ares, spec0, spec1, spec2, spec3, spec4, eqCells, eqCell, TB, hkl, rowAt_enc hkl, g1, g2, sg, sl2, e]
    exact ⟨by omega, by omega⟩
end Go.Proofs.Ytkonafdbfciikaa
