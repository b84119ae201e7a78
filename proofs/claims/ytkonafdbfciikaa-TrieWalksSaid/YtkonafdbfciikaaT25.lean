/-
  layer 14: the keys below a path.
-/
import Derived.Test.YtkonafdbfciikaaT24
namespace Go.Proofs.Ytkonafdbfciikaa
open Go.RowKit
set_option linter.unusedSimpArgs false
set_option linter.unusedVariables false
set_option maxRecDepth 100000

/-- Keys a to z of level k are a group of siblings. -/
def GroupAt (t : Trie) (k a z : Nat) : Prop := k < t.levels.length ∧ ∃ g, g + 1 < (ix t.levels k).first.length ∧ ix (ix t.levels k).first g = (a : Int) ∧ ix (ix t.levels k).first (g + 1) = (z : Int)
theorem group_facts {t : Trie} (hv : ValidT t) {k a z : Nat} (h : GroupAt t k a z) : a ≤ z ∧ z ≤ (ix t.levels k).keys.length ∧ SortedZ (segL (ix t.levels k).keys a z) := by
  obtain ⟨hk, g, hg, h1, h2⟩ := h
  have hf := (valid_first hv hk).2
  have b1 := hf (g + 1) hg
  refine ⟨?_, by omega, seg_sorted hv hk hg (by omega) (by omega)⟩
  obtain ⟨_, _, b, h3, _⟩ := valid_shaped hv
  have h4 := ((shape_iff _ _ _ _).1 h3).1 k hk
  by_cases e : k = 0
  · subst e
    rw [if_pos rfl] at h4
    have hl := h4.1.1
    have g0 : g = 0 := by omega
    subst g0
    have := h4.1.2.1
    omega
  · have hr := h4.2.resolve_left (by omega)
    rw [if_neg e] at hr
    have hl := (valid_first hv hk).1
    rw [if_neg e] at hl
    have := hr g (by omega)
    omega
theorem group_root {t : Trie} (hv : ValidT t) : GroupAt t 0 0 (ix t.levels 0).keys.length := by
  have hp : 0 < t.levels.length := hv.1
  obtain ⟨_, _, b, h3, _⟩ := valid_shaped hv
  have h4 := (((shape_iff _ _ _ _).1 h3).1 0 hp).1
  rw [if_pos rfl] at h4
  exact ⟨hp, 0, by rw [h4.1]; decide, h4.2.1, h4.2.2⟩
theorem group_below {t : Trie} (hv : ValidT t) {k i : Nat} (hk : k + 1 < t.levels.length) (hi : i < (ix t.levels k).keys.length) : i + 1 < (ix t.levels (k + 1)).first.length ∧ GroupAt t (k + 1) (ix (ix t.levels (k + 1)).first i).toNat (ix (ix t.levels (k + 1)).first (i + 1)).toNat ∧ 0 ≤ ix (ix t.levels (k + 1)).first i ∧ 0 ≤ ix (ix t.levels (k + 1)).first (i + 1) := by
  have hl := (valid_first hv hk).1
  rw [if_neg (by omega), Nat.add_sub_cancel] at hl
  have hf := (valid_first hv hk).2
  have b0 := hf i (by omega)
  have b1 := hf (i + 1) (by omega)
  exact ⟨by omega, ⟨hk, i, by omega, by omega, by omega⟩, b0.1, b1.1⟩

/-- The group below a path, from level k on. -/
def chF (t : Trie) : Nat → List Int → Nat → Nat → Option (Nat × Nat)
  | _, [], a, z => some (a, z)
  | k, p :: r, a, z => if foundB (segL (ix t.levels k).keys a z) p then chF t (k + 1) r (ix (ix t.levels (k + 1)).first (a + lbd (segL (ix t.levels k).keys a z) p)).toNat (ix (ix t.levels (k + 1)).first (a + lbd (segL (ix t.levels k).keys a z) p + 1)).toNat else none
open Classical in
noncomputable def childF (t : Trie) (p : List Int) : List Int := if ValidT t ∧ p.length < t.levels.length then (match chF t 0 p 0 (ix t.levels 0).keys.length with | some (a, z) => segL (ix t.levels p.length).keys a z | none => []) else []
theorem chF_drop {t : Trie} {p : List Int} {k a z : Nat} (hk : k < p.length) : chF t k (p.drop k) a z = if foundB (segL (ix t.levels k).keys a z) (ix p k) then chF t (k + 1) (p.drop (k + 1)) (ix (ix t.levels (k + 1)).first (a + lbd (segL (ix t.levels k).keys a z) (ix p k))).toNat (ix (ix t.levels (k + 1)).first (a + lbd (segL (ix t.levels k).keys a z) (ix p k) + 1)).toNat else none := by
  rw [List.drop_eq_getElem_cons hk, chF, ix_lt hk]

noncomputable def CH1 : Ctx := mkC Try.prog G0 [(20, .pure sValid), (34, .pure sValidR), (61, .pure sBin), (52, .pure sCloneP)]
@[simp] theorem CH1_P : CH1.P = Try.prog := rfl
@[simp] theorem CH1_1 : CH1.S 20 = .pure sValid := rfl
@[simp] theorem CH1_2 : CH1.S 34 = .pure sValidR := rfl
@[simp] theorem CH1_3 : CH1.S 61 = .pure sBin := rfl
@[simp] theorem CH1_4 : CH1.S 52 = .pure sCloneP := rfl
theorem mixCH1 : CH1.P.follows .mixedOrders = true := mixed
theorem sigCH1 : SigOK CH1 := sigOK_cons (entryPure validP Try.func20 rfl (by decide)) (sigOK_cons (entryPure validR Try.func34 rfl (by decide)) (sigOK_cons (entryPure binP Try.func61 rfl (by decide)) (sigOK_cons (entryPure clonePureP Try.func52 rfl (by decide)) (sigOK_nil _ _))))
noncomputable def sChild : List AV → Option (Prop × AV) := spec2 (fun (t : Trie) (p : List Int) => (SmallT t ∧ IntsT t) ∧ p.length ≤ 1000000) (fun t p => Enc.enc (childF t p))
theorem found_iff {l : List Int} {x : Int} : foundB l x = true ↔ lbd l x < l.length ∧ ix l (lbd l x) = x := by
  unfold foundB
  rw [Bool.and_eq_true, decide_eq_true_eq, decide_eq_true_eq]
set_option maxHeartbeats 16000000 in
theorem childP : PureOK Try.prog G0 36 sChild := by
  refine pure2 (C := CH1) sigCH1 mixCH1 Try.func36 rfl rfl rfl (by kernel_rfl) (by decide) (fun t p ⟨hT, hp⟩ => ?_)
  by_cases hv : ValidT t
  case neg =>
    have e : childF t p = [] := by unfold childF; rw [if_neg (fun h => hv h.1)]
    simp [aev, cav, look, acallPure, abin, abinN, abinP, abinI, abinS, aun, aconv, afield, afieldAddr, aindexAddr, aindex, aslice, alow, ahigh, abuild, abuildGo, cellsOf, splice, fieldTy, alen, apick, amax, amin, aload, headV, aparts, abuildSlice, elParts, abytesStr, astore, amake, aappend, aclear, anew, arith, aresults, aresList, ares, spec0, spec1, spec2, spec3, spec4, eqCells, eqCell, sValid, hT, hT.1, validB_no hv, e]
  have ev := validB_yes hv
  by_cases hl : t.levels.length ≤ p.length
  · have e : childF t p = [] := by unfold childF; rw [if_neg (fun h => by have := h.2; omega)]
    simp [aev, cav, look, acallPure, abin, abinN, abinP, abinI, abinS, aun, aconv, afield, afieldAddr, aindexAddr, aindex, aslice, alow, ahigh, abuild, abuildGo, cellsOf, splice, fieldTy, alen, apick, amax, amin, aload, headV, aparts, abuildSlice, elParts, abytesStr, astore, amake, aappend, aclear, anew, arith, aresults, aresList, ares, spec0, spec1, spec2, spec3, spec4, eqCells, eqCell, sValid, hT, hT.1, ev, hl, e]
  have h0 : 0 < t.levels.length := hv.1
  have hK0 := (hT.1.2 _ (ix_mem h0)).1
  simp [aev, cav, look, acallPure, abin, abinN, abinP, abinI, abinS, aun, aconv, afield, afieldAddr, aindexAddr, aindex, aslice, alow, ahigh, abuild, abuildGo, cellsOf, splice, fieldTy, alen, apick, amax, amin, aload, headV, aparts, abuildSlice, elParts, abytesStr, astore, amake, aappend, aclear, anew, arith, aresults, aresList, ares, spec0, spec1, spec2, spec3, spec4, eqCells, eqCell, sValid, hT, hT.1, ev, hl, h0, rowAt_enc h0]
  refine loop_rule (C := CH1) sigCH1 mixCH1 (fun q : Nat × Nat × Nat => ⟨[(1, Enc.enc p), (2, .ptr 0 1 1 0 0), (5, .int .i64 q.2.1), (6, .int .i64 q.2.2), (29, Enc.enc p), (30, .int .i64 p.length), (31, .int .i64 q.1)], [TB t]⟩) (fun q => q.1 ≤ p.length ∧ GroupAt t q.1 q.2.1 q.2.2 ∧ chF t q.1 (p.drop q.1) q.2.1 q.2.2 = chF t 0 p 0 (ix t.levels 0).keys.length) (fun q => p.length - q.1) (by kernel_rfl) ⟨(0, 0, (ix t.levels 0).keys.length), ⟨Nat.zero_le _, group_root hv, rfl⟩, weak_eq (by simp) (by simp [TB])⟩ (fun ⟨k, a, z⟩ ⟨h1, h2, h3⟩ => ?_)
  simp only at h1 h2 h3 ⊢
  obtain ⟨g1, g2, g3⟩ := group_facts hv h2
  have hkl : k < t.levels.length := h2.1
  obtain ⟨x1, x2⟩ := hT.1.2 _ (ix_mem hkl)
  have sg : List.drop a (List.take z (ix t.levels k).keys) = segL (ix t.levels k).keys a z := rfl
  have slen := segL_length (ix t.levels k).keys (a := a) g2
  by_cases hk : k < p.length
  · have hk1 : k + 1 < t.levels.length := by omega
    have i1 : I64 ((k : Int) + 1) := by unfold I64; omega
    have sl2 : (segL (ix t.levels k).keys a z).length ≤ 1000000 := by omega
    rw [chF_drop hk] at h3
    obtain ⟨q, hq⟩ : ∃ q, lbd (segL (ix t.levels k).keys a z) (ix p k) = q := ⟨_, rfl⟩
    cases hf : foundB (segL (ix t.levels k).keys a z) (ix p k) with
    | false =>
      rw [hf, if_neg (by decide)] at h3
      have e : childF t p = [] := by unfold childF; rw [if_pos ⟨hv, by omega⟩, ← h3]
      simp [aev, cav, look, acallPure, abin, abinN, abinP, abinI, abinS, aun, aconv, afield, afieldAddr, aindexAddr, aindex, aslice, alow, ahigh, abuild, abuildGo, cellsOf, splice, fieldTy, alen, apick, amax, amin, aload, headV, aparts, abuildSlice, elParts, abytesStr, astore, amake, aappend, aclear, anew, arith, aresults, aresList, ares, spec0, spec1, spec2, spec3, spec4, eqCells, eqCell, TB, sBin, hk, rowAt_enc hk, hkl, rowAt_enc hkl, g1, g2, g3, sg, sl2, hq, hf, e]
    | true =>
      rw [hf, if_pos rfl, hq] at h3
      have hql : q < z - a := by have := (found_iff.1 hf).1; rw [hq, slen] at this; exact this
      obtain ⟨f1, f2, f3, f4⟩ := group_below hv hk1 (i := a + q) (by omega)
      have i2 : I64 ((a : Int) + q) := by unfold I64; omega
      have i3 : I64 ((a : Int) + q + 1) := by unfold I64; omega
      have j1 : ((a : Int) + q).toNat = a + q := by omega
      have j2 : ((a : Int) + q + 1).toNat = a + q + 1 := by omega
      have j3 : ((k : Int) + 1).toNat = k + 1 := by omega
      have j4 : (0 : Int) ≤ (k : Int) + 1 := by omega
      have j5 : (k : Int) + 1 < t.levels.length := by omega
      have f0 : a + q < (ix t.levels (k + 1)).first.length := by omega
      have j6 : (0 : Int) ≤ (a : Int) + q := by omega
      have j7 : (0 : Int) ≤ (a : Int) + q + 1 := by omega
      have j8 : (a : Int) + q < (ix t.levels (k + 1)).first.length := by omega
      have j9 : (a : Int) + q + 1 < (ix t.levels (k + 1)).first.length := by omega
      simp [aev, cav, look, acallPure, abin, abinN, abinP, abinI, abinS, aun, aconv, afield, afieldAddr, aindexAddr, aindex, aslice, alow, ahigh, abuild, abuildGo, cellsOf, splice, fieldTy, alen, apick, amax, amin, aload, headV, aparts, abuildSlice, elParts, abytesStr, astore, amake, aappend, aclear, anew, arith, aresults, aresList, ares, spec0, spec1, spec2, spec3, spec4, eqCells, eqCell, TB, sBin, hk, rowAt_enc hk, hkl, rowAt_enc hkl, hk1, rowAt_enc hk1, g1, g2, g3, sg, sl2, hq, hf, i1, i2, i3, j1, j2, j3, j4, j5, j6, j7, j8, j9, f0, rowAt_enc f0, f1, rowAt_enc f1]
      exact ⟨k + 1, (ix (ix t.levels (k + 1)).first (a + q)).toNat, (ix (ix t.levels (k + 1)).first (a + q + 1)).toNat, ⟨by omega, f2, h3⟩, by omega, weak_keep 1 (by simp [Int.toNat_of_nonneg f3, Int.toNat_of_nonneg f4]) (by simp) (by simp [AV.clean, AV.clean1]) (by simp) (by simp [TB])⟩
  · have hkp : k = p.length := by omega
    subst hkp
    rw [List.drop_length, chF] at h3
    have e : childF t p = segL (ix t.levels p.length).keys a z := by unfold childF; rw [if_pos ⟨hv, by omega⟩, ← h3]
    have sl2 : SmallR (segL (ix t.levels p.length).keys a z) := by unfold SmallR; omega
    simp [aev, cav, look, acallPure, abin, abinN, abinP, abinI, abinS, aun, aconv, afield, afieldAddr, aindexAddr, aindex, aslice, alow, ahigh, abuild, abuildGo, cellsOf, splice, fieldTy, alen, apick, amax, amin, aload, headV, aparts, abuildSlice, elParts, abytesStr, astore, amake, aappend, aclear, anew, arith, aresults, aresList, ares, spec0, spec1, spec2, spec3, spec4, eqCells, eqCell, TB, sCloneP, hkl, rowAt_enc hkl, g1, g2, sg, sl2, e]
end Go.Proofs.Ytkonafdbfciikaa
