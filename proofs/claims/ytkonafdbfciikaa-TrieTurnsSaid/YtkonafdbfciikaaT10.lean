/-
  layer 14: Seek.
-/
import Derived.Test.YtkonafdbfciikaaT9
namespace Go.Proofs.Ytkonafdbfciikaa
open Go.RowKit
set_option linter.unusedSimpArgs false
set_option linter.unusedVariables false
set_option maxRecDepth 100000

def segL {α : Type} (l : List α) (a b : Nat) : List α := (l.take b).drop a
theorem segL_length {α : Type} (l : List α) {a b : Nat} (h : b ≤ l.length) : (segL l a b).length = b - a := by unfold segL; simp; omega
theorem ix_seg (l : List Int) {a b i : Nat} (h : a + i < b) (hb : b ≤ l.length) : ix (segL l a b) i = ix l (a + i) := by
  unfold segL ix
  rw [List.getD_eq_getElem?_getD, List.getD_eq_getElem?_getD, List.getElem?_drop, List.getElem?_take, if_pos h]
/-- In a group of a valid trie the keys rise. -/
theorem group_rise {t : Trie} (hv : ValidT t) {k i : Nat} (hk : k < t.levels.length) (hi : i + 1 < (ix t.levels k).first.length) : ∀ d a : Nat, ix (ix t.levels k).first i ≤ a → ((a + d : Nat) : Int) < ix (ix t.levels k).first (i + 1) → ix (ix t.levels k).keys a ≤ ix (ix t.levels k).keys (a + d)
  | 0, a, _, _ => Int.le_refl _
  | d + 1, a, h1, h2 => by
    have ih := group_rise hv hk hi d a h1 (by omega)
    have hs := hv.2.2.2 _ (ix_mem hk) i hi (a + d + 1) (by omega) (by omega)
    rw [Nat.add_sub_cancel] at hs
    rw [show a + (d + 1) = a + d + 1 by omega]
    omega
theorem seg_sorted {t : Trie} (hv : ValidT t) {k i : Nat} (hk : k < t.levels.length) (hi : i + 1 < (ix t.levels k).first.length) {a b : Nat} (ha : ix (ix t.levels k).first i ≤ a) (hb : (b : Int) ≤ ix (ix t.levels k).first (i + 1)) : SortedZ (segL (ix t.levels k).keys a b) := by
  have hf := (valid_first hv hk).2 (i + 1) hi
  have hbl : b ≤ (ix t.levels k).keys.length := by omega
  intro x y hxy hy
  rw [segL_length _ hbl] at hy
  rw [ix_seg _ (by omega) hbl, ix_seg _ (by omega) hbl]
  have := group_rise hv hk hi (y - x) (a + x) (by omega) (by omega)
  rwa [show a + x + (y - x) = a + y by omega] at this
theorem fine_group {t : Trie} {c : Cursor} (hF : FineT t c) (h0 : c.at_ ≠ []) : ∃ n g e : Nat, c.at_.length = n + 1 ∧ c.end_.length = n + 1 ∧ n < t.levels.length ∧ ix c.at_ n = g ∧ g < e ∧ ix c.end_ n = e ∧ e ≤ (ix t.levels n).keys.length ∧ SortedZ (segL (ix t.levels n).keys g e) := by
  obtain ⟨n, g, e1, e2, f1, f2, f3, f4, f5⟩ := fine_facts hF h0
  have hst : ∀ j, j < n → StepOK t c j := fun j hj => hF.2.2.2 j (by omega)
  obtain ⟨hg, hg2⟩ := grp_in hF.1 f1 hst
  obtain ⟨s1, s2, s3⟩ := hF.2.2.2 n (by omega)
  obtain ⟨e, he⟩ : ∃ e : Nat, ix c.end_ n = e := ⟨(ix c.end_ n).toNat, by omega⟩
  refine ⟨n, g, e, e1, e2, f1, f2, by omega, he, by omega, seg_sorted hF.1 f1 hg (i := grp c n) ?_ ?_⟩
  · unfold sibA at s1; omega
  · unfold sibZ at s3; omega

def ZC : Blk := ⟨37, 2, [[.slice 1 true [], .slice 1 true []]], true, true⟩
open Classical in
noncomputable def seekF (t : Trie) (c : Cursor) (x : Int) : Cursor × Bool :=
  if FineT t c ∧ c.at_ ≠ [] then movedF c (ix c.at_ (c.at_.length - 1) + lbd (segL (ix t.levels (c.at_.length - 1)).keys (ix c.at_ (c.at_.length - 1)).toNat (ix c.end_ (c.at_.length - 1)).toNat) x) else (C0, false)
noncomputable def CS1 : Ctx := mkC Try.prog G0 [(48, .pure sFine), (61, .pure sBin), (62, .pure sMoved)]
@[simp] theorem CS1_P : CS1.P = Try.prog := rfl
@[simp] theorem CS1_1 : CS1.S 48 = .pure sFine := rfl
@[simp] theorem CS1_2 : CS1.S 61 = .pure sBin := rfl
@[simp] theorem CS1_3 : CS1.S 62 = .pure sMoved := rfl
theorem mixCS1 : CS1.P.follows .mixedOrders = true := mixed
theorem sigCS1 : SigOK CS1 := sigOK_cons (entryPure fineP Try.func48 rfl (by decide)) (sigOK_cons (entryPure binP Try.func61 rfl (by decide)) (sigOK_cons (entryPure movedP Try.func62 rfl (by decide)) (sigOK_nil _ _)))
noncomputable def sSeek : List AV → Option (Prop × AV) := spec3 (fun (t : Trie) (c : Cursor) (x : Int) => (SmallT t ∧ IntsT t) ∧ SmallC c) (fun t c x => pairC (seekF t c x))
set_option maxHeartbeats 8000000 in
theorem seekP : PureOK Try.prog G0 24 sSeek := by
  refine pure3 (C := CS1) sigCS1 mixCS1 Try.func24 rfl rfl rfl (by kernel_rfl) (by decide) (fun t c x ⟨hT, hC⟩ => ?_)
  by_cases hF : FineT t c
  case neg =>
    have e := fineB_no hF
    have hK : seekF t c x = (C0, false) := by unfold seekF; rw [if_neg (fun h => hF h.1)]
    simp [aev, cav, look, acallPure, abin, abinN, abinP, abinI, abinS, aun, aconv, afield, afieldAddr, aindexAddr, aindex, aslice, alow, ahigh, abuild, abuildGo, cellsOf, splice, fieldTy, alen, apick, amax, amin, aload, headV, aparts, abuildSlice, elParts, abytesStr, astore, amake, aappend, aclear, anew, arith, aresults, aresList, ares, spec0, spec1, spec2, spec3, spec4, eqCells, eqCell, sFine, hT, hT.1, hC, e, hK, C0]
  have e := fineB_yes hF
  rcases em2 (c.at_ = []) with h0 | h0
  · have hK : seekF t c x = (C0, false) := by unfold seekF; rw [if_neg (fun h => h.2 (of_eq_true h0))]
    simp [aev, cav, look, acallPure, abin, abinN, abinP, abinI, abinS, aun, aconv, afield, afieldAddr, aindexAddr, aindex, aslice, alow, ahigh, abuild, abuildGo, cellsOf, splice, fieldTy, alen, apick, amax, amin, aload, headV, aparts, abuildSlice, elParts, abytesStr, astore, amake, aappend, aclear, anew, arith, aresults, aresList, ares, spec0, spec1, spec2, spec3, spec4, eqCells, eqCell, sFine, hT, hT.1, hC, e, hK, h0, C0]
  have h0 := of_eq_false h0
  obtain ⟨n, g, z, e1, e2, f1, f2, f3, f4, f5, f6⟩ := fine_group hF h0
  have hnc : n < c.at_.length := by omega
  have hne : n < c.end_.length := by omega
  have hC1 := hC.1
  have n1 : ((n : Int) + 1 = 0) = False := eq_false (by omega)
  have i0 : I64 (n : Int) := by unfold I64; omega
  have hk := (hT.1.2 _ (ix_mem f1)).1
  obtain ⟨q, hq⟩ : ∃ q, q = lbd (segL (ix t.levels n).keys g z) x := ⟨_, rfl⟩
  have hql : q ≤ z - g := by rw [hq, ← segL_length (ix t.levels n).keys f5]; exact lbd_le _ _
  have i1 : I64 ((g : Int) + q) := by unfold I64; omega
  have hsl : (segL (ix t.levels n).keys g z).length ≤ 1000000 := by rw [segL_length _ f5]; omega
  have hK : seekF t c x = movedF c ((g : Int) + q) := by unfold seekF; rw [if_pos ⟨hF, h0⟩, e1, Nat.add_sub_cancel, f2, f4, Int.toNat_natCast, Int.toNat_natCast, ← hq]
  have tk : List.drop g (List.take z (ix t.levels n).keys) = segL (ix t.levels n).keys g z := rfl
  obtain ⟨mc, mb, hm⟩ : ∃ mc mb, movedF c ((g : Int) + q) = (mc, mb) := ⟨_, _, rfl⟩
  simp [aev, cav, look, acallPure, abin, abinN, abinP, abinI, abinS, aun, aconv, afield, afieldAddr, aindexAddr, aindex, aslice, alow, ahigh, abuild, abuildGo, cellsOf, splice, fieldTy, alen, apick, amax, amin, aload, headV, aparts, abuildSlice, elParts, abytesStr, astore, amake, aappend, aclear, anew, arith, aresults, aresList, ares, spec0, spec1, spec2, spec3, spec4, eqCells, eqCell, sFine, sMoved, sBin, hT, hT.1, hC, e, hK, h0, e1, e2, hnc, rowAt_enc hnc, hne, rowAt_enc hne, f1, rowAt_enc f1, f2, f4, f5, f6, i0, i1, n1, hm, tk, ← hq, hsl] <;> omega
set_option maxHeartbeats 8000000 in
theorem seekR : PureOK Try.prog G0 33 sSeek := by
  refine pure3 (C := CR1) sigCR1 mixCR1 Try.func33 rfl rfl rfl (by kernel_rfl) (by decide) (fun t c x ⟨hT, hC⟩ => ?_)
  have hC1 := hC.1
  by_cases hF : FineT t c
  case neg =>
    have e := fineB_no hF
    have hK : seekF t c x = (C0, false) := by unfold seekF; rw [if_neg (fun h => hF h.1)]
    simp [aev, cav, look, acallPure, abin, abinN, abinP, abinI, abinS, aun, aconv, afield, afieldAddr, aindexAddr, aindex, aslice, alow, ahigh, abuild, abuildGo, cellsOf, splice, fieldTy, alen, apick, amax, amin, aload, headV, aparts, abuildSlice, elParts, abytesStr, astore, amake, aappend, aclear, anew, arith, aresults, aresList, ares, spec0, spec1, spec2, spec3, spec4, eqCells, eqCell, sFits, hT, hT.1, hC, e, hK, C0]
  have e := fineB_yes hF
  rcases em2 (c.at_ = []) with h0 | h0
  · have hK : seekF t c x = (C0, false) := by unfold seekF; rw [if_neg (fun h => h.2 (of_eq_true h0))]
    have z : c.at_.length = 0 := by rw [of_eq_true h0]; rfl
    have i0 : I64 (-1 : Int) := by unfold I64; omega
    simp [aev, cav, look, acallPure, abin, abinN, abinP, abinI, abinS, aun, aconv, afield, afieldAddr, aindexAddr, aindex, aslice, alow, ahigh, abuild, abuildGo, cellsOf, splice, fieldTy, alen, apick, amax, amin, aload, headV, aparts, abuildSlice, elParts, abytesStr, astore, amake, aappend, aclear, anew, arith, aresults, aresList, ares, spec0, spec1, spec2, spec3, spec4, eqCells, eqCell, sFits, hT, hT.1, hC, e, hK, h0, z, i0, C0]
  have h0 := of_eq_false h0
  obtain ⟨n, g, z, e1, e2, f1, f2, f3, f4, f5, f6⟩ := fine_group hF h0
  have hnc : n < c.at_.length := by omega
  have hne : n < c.end_.length := by omega
  have n2 : ¬ (n : Int) < 0 := by omega
  have i0 : I64 (n : Int) := by unfold I64; omega
  have hk := (hT.1.2 _ (ix_mem f1)).1
  have hK : seekF t c x = movedF c ((g : Int) + lbd (segL (ix t.levels n).keys g z) x) := by unfold seekF; rw [if_pos ⟨hF, h0⟩, e1, Nat.add_sub_cancel, f2, f4, Int.toNat_natCast, Int.toNat_natCast]
  simp [aev, cav, look, acallPure, abin, abinN, abinP, abinI, abinS, aun, aconv, afield, afieldAddr, aindexAddr, aindex, aslice, alow, ahigh, abuild, abuildGo, cellsOf, splice, fieldTy, alen, apick, amax, amin, aload, headV, aparts, abuildSlice, elParts, abytesStr, astore, amake, aappend, aclear, anew, arith, aresults, aresList, ares, spec0, spec1, spec2, spec3, spec4, eqCells, eqCell, sFits, hT, hT.1, hC, e, h0, e1, e2, hnc, rowAt_enc hnc, f2, i0, n2]
  refine ⟨by omega, ?_⟩
  refine loop_rule (C := CR1) sigCR1 mixCR1 (fun i : Nat => ⟨[(2, .int .i64 x), (3, .ptr 0 1 1 0 0), (4, .ptr 1 1 2 0 0), (6, .ptr 2 1 2 0 0), (8, .int .i64 n), (9, .int .i64 i)], [TB t, CB c, ZC]⟩) (fun i => g ≤ i ∧ i ≤ z ∧ ∀ j, g ≤ j → j < i → ix (ix t.levels n).keys j < x) (fun i => z - i) (by kernel_rfl) ⟨g, ⟨Nat.le_refl _, by omega, fun j h1 h2 => by omega⟩, weak_slots (by simp [TB, CB, ZC])⟩ (fun i ⟨h1, h2, h3⟩ => ?_)
  by_cases hi : i < z
  · have hik : i < (ix t.levels n).keys.length := by omega
    have i1 : I64 ((i : Int) + 1) := by unfold I64; omega
    by_cases hx : x ≤ ix (ix t.levels n).keys i
    · have hl : lbd (segL (ix t.levels n).keys g z) x = i - g := lbd_at (fun j hj => by rw [ix_seg _ (by omega) f5]; exact h3 _ (by omega) (by omega)) (by rw [segL_length _ f5]; omega) (fun _ => by rw [ix_seg _ (by omega) f5, show g + (i - g) = i by omega]; exact hx)
      have hm : movedF c (i : Int) = (mvC c i, true) := by unfold movedF; rw [e1, Nat.add_sub_cancel, f4, if_neg (by omega)]
      have hK2 : seekF t c x = (mvC c i, true) := by rw [hK, hl, show (g : Int) + ((i - g : Nat) : Int) = i by omega, hm]
      simp [aev, cav, look, acallPure, abin, abinN, abinP, abinI, abinS, aun, aconv, afield, afieldAddr, aindexAddr, aindex, aslice, alow, ahigh, abuild, abuildGo, cellsOf, splice, fieldTy, alen, apick, amax, amin, aload, headV, aparts, abuildSlice, elParts, abytesStr, astore, amake, aappend, aclear, anew, arith, aresults, aresList, ares, spec0, spec1, spec2, spec3, spec4, eqCells, eqCell, TB, CB, ZC, C0, sMvR, hC, hK2, h0, hne, rowAt_enc hne, f1, rowAt_enc f1, f4, hi, hik, rowAt_enc hik, hx]
    · simp [aev, cav, look, acallPure, abin, abinN, abinP, abinI, abinS, aun, aconv, afield, afieldAddr, aindexAddr, aindex, aslice, alow, ahigh, abuild, abuildGo, cellsOf, splice, fieldTy, alen, apick, amax, amin, aload, headV, aparts, abuildSlice, elParts, abytesStr, astore, amake, aappend, aclear, anew, arith, aresults, aresList, ares, spec0, spec1, spec2, spec3, spec4, eqCells, eqCell, TB, CB, ZC, C0, sMvR, hC, h0, hne, rowAt_enc hne, f1, rowAt_enc f1, f4, hi, hik, rowAt_enc hik, hx, i1]
      exact ⟨i + 1, ⟨by omega, by omega, fun j hj hj2 => by
        rcases Nat.lt_or_eq_of_le (Nat.le_of_lt_succ hj2) with h | rfl
        · exact h3 j hj h
        · omega⟩, by omega, weak_slots (by simp [TB, CB, ZC])⟩
  · have hl : lbd (segL (ix t.levels n).keys g z) x = z - g := lbd_at (fun j hj => by rw [ix_seg _ (by omega) f5]; exact h3 _ (by omega) (by omega)) (by rw [segL_length _ f5]; omega) (fun h => by rw [segL_length _ f5] at h; omega)
    have hm : movedF c (z : Int) = (C0, false) := by unfold movedF; rw [e1, Nat.add_sub_cancel, f4, if_pos (Int.le_refl _)]
    have hK2 : seekF t c x = (C0, false) := by rw [hK, hl, show (g : Int) + ((z - g : Nat) : Int) = z by omega, hm]
    simp [aev, cav, look, acallPure, abin, abinN, abinP, abinI, abinS, aun, aconv, afield, afieldAddr, aindexAddr, aindex, aslice, alow, ahigh, abuild, abuildGo, cellsOf, splice, fieldTy, alen, apick, amax, amin, aload, headV, aparts, abuildSlice, elParts, abytesStr, astore, amake, aappend, aclear, anew, arith, aresults, aresList, ares, spec0, spec1, spec2, spec3, spec4, eqCells, eqCell, TB, CB, ZC, C0, sMvR, hC, hK2, h0, hne, rowAt_enc hne, f1, rowAt_enc f1, f4, hi]
end Go.Proofs.Ytkonafdbfciikaa
