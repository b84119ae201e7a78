/-
  layer 14: the rows of a trie, by the reference: the walks.
-/
import Derived.Test.YtkonafdbfciikaaT27
namespace Go.Proofs.Ytkonafdbfciikaa
open Go.RowKit
set_option linter.unusedSimpArgs false
set_option linter.unusedVariables false
set_option maxRecDepth 100000

def BelPre (D : Nat) (t : Trie) (k i : Int) : Prop := ∃ n j : Nat, k = n ∧ i = j ∧ n < t.levels.length ∧ j < (ix t.levels n).keys.length ∧ ValidT t ∧ t.levels.length ≤ n + D
def sBel (D : Nat) : List AV → Option (Prop × AV) := spec3 (fun (t : Trie) (k i : Int) => (SmallT t ∧ IntsT t) ∧ BelPre D t k i) (fun t k i => Enc.enc (subF (t.levels.drop k.toNat) i.toNat))
noncomputable def CBe (D : Nat) : Ctx := mkC Try.prog G0 [(66, .pure (sBel D)), (34, .pure sValidR)]
@[simp] theorem CBe_P (D : Nat) : (CBe D).P = Try.prog := rfl
@[simp] theorem CBe_1 (D : Nat) : (CBe D).S 66 = .pure (sBel D) := rfl
@[simp] theorem CBe_2 (D : Nat) : (CBe D).S 34 = .pure sValidR := rfl
theorem mixCBe (D : Nat) : (CBe D).P.follows .mixedOrders = true := mixed
theorem sigCBe {D : Nat} (h : PureOK Try.prog G0 66 (sBel D)) : SigOK (CBe D) := sigOK_cons (entryPure h Try.func66 rfl (by decide)) (sigOK_cons (entryPure validR Try.func34 rfl (by decide)) (sigOK_nil _ _))
theorem scalBe (D : Nat) : isScalT (CBe D) 22 = false := by show isScalT ⟨Try.prog, fun _ => .no, G0⟩ 22 = false; kernel_rfl
set_option maxHeartbeats 16000000 in
theorem belN : ∀ D, PureOK Try.prog G0 66 (sBel D)
  | 0 => fun w X args avs ob r _ _ _ _ hp hob => by
    unfold sBel spec3 at hp
    split at hp
    · injection hp with hp; injection hp with e1 e2; subst e1
      obtain ⟨n, j, _, _, h1, _, _, h2⟩ := hob.2.2.2.2
      omega
    · cases hp
  | D + 1 => by
    have ih := belN D
    refine pure3 (C := CBe D) (sigCBe ih) (mixCBe D) Try.func66 rfl rfl rfl (by kernel_rfl) (by decide) (fun t k i ⟨hT, n, j, hk, hi, hn, hj, hv, hD⟩ => ?_)
    subst hk hi
    have hl := hT.1.1
    obtain ⟨x1, x2⟩ := hT.1.2 _ (ix_mem hn)
    have i1 : I64 ((n : Int) + 1) := by unfold I64; omega
    have i2 : I64 ((j : Int) + 1) := by unfold I64; omega
    by_cases hl1 : n + 1 = t.levels.length
    · have hl1' : ((n : Int) + 1 = t.levels.length) = True := eq_true (by omega)
      have e := sub_last (i := j) hl1
      simp [aev, cav, look, acallPure, abin, abinN, abinP, abinI, abinS, aun, aconv, afield, afieldAddr, aindexAddr, aindex, aslice, alow, ahigh, abuild, abuildGo, cellsOf, splice, fieldTy, alen, apick, amax, amin, aload, headV, aparts, abuildSlice, elParts, abytesStr, astore, amake, aappend, aclear, anew, arith, aresults, aresList, ares, spec0, spec1, spec2, spec3, spec4, eqCells, eqCell, i1, hl1, hl1', hn, rowAt_enc hn, hj, rowAt_enc hj, e]
    · have hl1' : ((n : Int) + 1 = t.levels.length) = False := eq_false (by omega)
      have hn1 : n + 1 < t.levels.length := by omega
      obtain ⟨y1, y2⟩ := hT.1.2 _ (ix_mem hn1)
      obtain ⟨f1, f2, f3, f4⟩ := group_below hv hn1 hj
      obtain ⟨g1, g2, g3⟩ := group_facts hv f2
      have j1 : ((n : Int) + 1).toNat = n + 1 := by omega
      have j2 : (0 : Int) ≤ (n : Int) + 1 := by omega
      have j3 : (n : Int) + 1 < t.levels.length := by omega
      have f0 : j < (ix t.levels (n + 1)).first.length := by omega
      have e := sub_drop (i := j) hn1
      generalize ha : nA (ix t.levels (n + 1)).first j = a at *
      generalize hz : nA (ix t.levels (n + 1)).first (j + 1) = z at *
      unfold nA at ha hz
      have ea : ix (ix t.levels (n + 1)).first j = a := by omega
      have ez : ix (ix t.levels (n + 1)).first (j + 1) = z := by omega
      rw [ha, hz] at g1 f2
      rw [hz] at g2
      simp [aev, cav, look, acallPure, abin, abinN, abinP, abinI, abinS, aun, aconv, afield, afieldAddr, aindexAddr, aindex, aslice, alow, ahigh, abuild, abuildGo, cellsOf, splice, fieldTy, alen, apick, amax, amin, aload, headV, aparts, abuildSlice, elParts, abytesStr, astore, amake, aappend, aclear, anew, arith, aresults, aresList, ares, spec0, spec1, spec2, spec3, spec4, eqCells, eqCell, i1, hl1', hn, rowAt_enc hn, hn1, rowAt_enc hn1, j1, j2, j3, f0, rowAt_enc f0, ea]
      refine loop_rule (C := CBe D) (sigCBe ih) (mixCBe D) (fun q : Nat × List (List Int) => ⟨[(1, .int .i64 n), (2, .int .i64 j), (3, .ptr 0 1 1 0 0), (7, .own 2 q.2.length), (8, .ptr 1 1 2 0 0), (9, .int .i64 q.1)], [TB t, VB (ix t.levels (n + 1)), rB 35 (encRows q.2)]⟩) (fun q => a ≤ q.1 ∧ q.1 ≤ z ∧ q.2 = ((rng a q.1).flatMap (subF (t.levels.drop (n + 1)))).map (ix (ix t.levels n).keys j :: ·)) (fun q => z - q.1) (by kernel_rfl) ⟨(a, []), ⟨Nat.le_refl _, g1, by rw [rng_nil (Nat.le_refl _)]; rfl⟩, (weak_nil 7 1 35 rfl (by decide)).trans (weak_eq (by simp) (by simp [rB, TB, VB]))⟩ (fun ⟨m, out⟩ ⟨b1, b2, b3⟩ => ?_)
      simp only at b1 b2 b3 ⊢
      have j4 : ((j : Int) + 1).toNat = j + 1 := by omega
      have j5 : (0 : Int) ≤ (j : Int) + 1 := by omega
      have j6 : (j : Int) + 1 < (ix t.levels (n + 1)).first.length := by omega
      by_cases hm : m < z
      · have i3 : I64 ((m : Int) + 1) := by unfold I64; omega
        have hmk : m < (ix t.levels (n + 1)).keys.length := by omega
        have hp : BelPre D t ((n : Int) + 1) m := ⟨n + 1, m, by omega, rfl, hn1, hmk, hv, by omega⟩
        have hfew := sub_few hv hT.1 hn1 (a := a) (z := m + 1) (by omega) (by omega)
        rw [rng_snoc b1, List.flatMap_append, List.length_append, List.flatMap_cons, List.flatMap_nil, List.append_nil] at hfew
        obtain ⟨L, hL⟩ : ∃ L, subF (t.levels.drop (n + 1)) m = L := ⟨_, rfl⟩
        rw [hL] at hfew
        have hol : out.length = ((rng a m).flatMap (subF (t.levels.drop (n + 1)))).length := by rw [b3, List.length_map]
        simp [aev, cav, look, acallPure, abin, abinN, abinP, abinI, abinS, aun, aconv, afield, afieldAddr, aindexAddr, aindex, aslice, alow, ahigh, abuild, abuildGo, cellsOf, splice, fieldTy, alen, apick, amax, amin, aload, headV, aparts, abuildSlice, elParts, abytesStr, astore, amake, aappend, aclear, anew, arith, aresults, aresList, ares, spec0, spec1, spec2, spec3, spec4, eqCells, eqCell, rB, TB, VB, sBel, hT, hp, i1, i2, i3, hm, j1, j4, j5, j6, f1, rowAt_enc f1, ez, hL]
        have hrow : ∀ r ∈ L, r.length ≤ 8 ∧ 1 ≤ r.length := fun r hr => by
          rw [← hL] at hr
          have := sub_row (valid_tree hv (t.levels.length - 1 - (n + 1)) (n + 1) (by omega)) hr
          have h8 := hv.2.1
          rw [List.length_drop] at this
          exact ⟨by omega, by omega⟩
        refine loop_rule (C := CBe D) (sigCBe ih) (mixCBe D) (fun q : Nat => ⟨[(1, .int .i64 n), (2, .int .i64 j), (3, .ptr 0 1 1 0 0), (7, .own 2 (out.length + q)), (8, .ptr 1 1 2 0 0), (9, .int .i64 m), (10, Enc.enc L), (11, .int .i64 q)], [TB t, VB (ix t.levels (n + 1)), rB 35 (encRows (out ++ (L.take q).map (ix (ix t.levels n).keys j :: ·)))]⟩) (fun q => q ≤ L.length) (fun q => L.length - q) (by kernel_rfl) ⟨0, Nat.zero_le _, weak_eq (by simp) (by simp [TB, VB, rB])⟩ (fun q hq => ?_)
        by_cases hlt : q < L.length
        · have i4 : I64 ((q : Int) + 1) := by unfold I64; omega
          have sr := hrow _ (ix_mem hlt)
          have e1 : L.take (q + 1) = L.take q ++ [ix L q] := by rw [List.take_succ_eq_append_getElem hlt, ix_lt hlt]
          have e3 : encRows (out ++ List.take (q + 1) (L.map (ix (ix t.levels n).keys j :: ·))) = encRows (out ++ List.take q (L.map (ix (ix t.levels n).keys j :: ·))) ++ [[.slice 1 false ([.int .i64 (ix (ix t.levels n).keys j)] :: encRows (ix L q))]] := by
            rw [← List.map_take, ← List.map_take, e1, List.map_append, ← List.append_assoc, encRows_append]
            rfl
          have e2 : (L.take q).length = q := by rw [List.length_take]; omega
          simp [aev, cav, look, acallPure, abin, abinN, abinP, abinI, abinS, aun, aconv, afield, afieldAddr, aindexAddr, aindex, aslice, alow, ahigh, abuild, abuildGo, cellsOf, splice, fieldTy, alen, apick, amax, amin, aload, headV, aparts, abuildSlice, elParts, abytesStr, astore, amake, aappend, aclear, anew, arith, aresults, aresList, ares, spec0, spec1, spec2, spec3, spec4, eqCells, eqCell, rB, TB, VB, hlt, rowAt_enc hlt, hn, rowAt_enc hn, hj, rowAt_enc hj, i4, e2, scalBe]
          refine ⟨⟨fun h => ?_, by omega, by omega⟩, ⟨by omega, by omega, by omega⟩, q + 1, by omega, by omega, weak_keep 3 (by simp; omega) (by simp) (by simp [AV.clean, AV.clean1]) (by simp [TB, VB, rB]) (by simp [TB, VB, rB, e3])⟩
          have := congrArg List.length h
          simp only [encRows_length, List.length_nil] at this
          omega
        · have hqe : q = L.length := by omega
          subst hqe
          simp [aev, cav, look, acallPure, abin, abinN, abinP, abinI, abinS, aun, aconv, afield, afieldAddr, aindexAddr, aindex, aslice, alow, ahigh, abuild, abuildGo, cellsOf, splice, fieldTy, alen, apick, amax, amin, aload, headV, aparts, abuildSlice, elParts, abytesStr, astore, amake, aappend, aclear, anew, arith, aresults, aresList, ares, spec0, spec1, spec2, spec3, spec4, eqCells, eqCell, hlt, i3]
          exact ⟨m + 1, out ++ L.map (ix (ix t.levels n).keys j :: ·), ⟨by omega, by omega, by rw [rng_snoc b1, List.flatMap_append, List.map_append, ← b3, List.flatMap_cons, List.flatMap_nil, List.append_nil, hL]⟩, by omega, weak_keep 3 (by simp) (by simp) (by simp [AV.clean, AV.clean1]) (by simp [TB, VB, rB]) (by simp [TB, VB, rB])⟩
      · have hmz : m = z := by omega
        subst hmz
        simp [aev, cav, look, acallPure, abin, abinN, abinP, abinI, abinS, aun, aconv, afield, afieldAddr, aindexAddr, aindex, aslice, alow, ahigh, abuild, abuildGo, cellsOf, splice, fieldTy, alen, apick, amax, amin, aload, headV, aparts, abuildSlice, elParts, abytesStr, astore, amake, aappend, aclear, anew, arith, aresults, aresList, ares, spec0, spec1, spec2, spec3, spec4, eqCells, eqCell, rB, TB, VB, i2, j4, j5, j6, f1, rowAt_enc f1, ez, e, b3]

def rowsU (t : Trie) : List (List Int) := (rng 0 (ix t.levels 0).keys.length).flatMap (subF t.levels)
open Classical in
noncomputable def rowsF (t : Trie) : List (List Int) := if ValidT t then rowsU t else []
noncomputable def sRows : List AV → Option (Prop × AV) := spec1 (fun (t : Trie) => SmallT t ∧ IntsT t) (fun t => Enc.enc (rowsF t))
set_option maxHeartbeats 16000000 in
theorem rowsR : PureOK Try.prog G0 35 sRows := by
  refine pure1 (C := CBe 8) (sigCBe (belN 8)) (mixCBe 8) Try.func35 rfl rfl rfl (by kernel_rfl) (by decide) (fun t hT => ?_)
  by_cases hv : ValidT t
  case neg =>
    have e : rowsF t = [] := by unfold rowsF; rw [if_neg hv]
    simp [aev, cav, look, acallPure, abin, abinN, abinP, abinI, abinS, aun, aconv, afield, afieldAddr, aindexAddr, aindex, aslice, alow, ahigh, abuild, abuildGo, cellsOf, splice, fieldTy, alen, apick, amax, amin, aload, headV, aparts, abuildSlice, elParts, abytesStr, astore, amake, aappend, aclear, anew, arith, aresults, aresList, ares, spec0, spec1, spec2, spec3, spec4, eqCells, eqCell, sValidR, hT, hT.1, hT.2, validB_no hv, e]
  have e : rowsF t = rowsU t := by unfold rowsF; rw [if_pos hv]
  have ev := validB_yes hv
  have h0 : 0 < t.levels.length := hv.1
  have hl := hT.1.1
  obtain ⟨x1, x2⟩ := hT.1.2 _ (ix_mem h0)
  have hT' : SmallT t ∧ IntsT t := hT
  simp [aev, cav, look, acallPure, abin, abinN, abinP, abinI, abinS, aun, aconv, afield, afieldAddr, aindexAddr, aindex, aslice, alow, ahigh, abuild, abuildGo, cellsOf, splice, fieldTy, alen, apick, amax, amin, aload, headV, aparts, abuildSlice, elParts, abytesStr, astore, amake, aappend, aclear, anew, arith, aresults, aresList, ares, spec0, spec1, spec2, spec3, spec4, eqCells, eqCell, sValidR, hT, hT.1, hT.2, ev]
  refine loop_rule (C := CBe 8) (sigCBe (belN 8)) (mixCBe 8) (fun q : Nat × List (List Int) => ⟨[(1, .ptr 0 1 1 0 0), (3, .own 1 q.2.length), (4, .int .i64 q.1)], [TB t, rB 35 (encRows q.2)]⟩) (fun q => q.1 ≤ (ix t.levels 0).keys.length ∧ q.2 = (rng 0 q.1).flatMap (subF t.levels)) (fun q => (ix t.levels 0).keys.length - q.1) (by kernel_rfl) ⟨(0, []), ⟨Nat.zero_le _, by rw [rng_nil (Nat.le_refl _)]; rfl⟩, (weak_nil 3 1 35 rfl (by decide)).trans (weak_eq (by simp) (by simp [rB, TB]))⟩ (fun ⟨m, out⟩ ⟨b1, b2⟩ => ?_)
  simp only at b1 b2 ⊢
  by_cases hm : m < (ix t.levels 0).keys.length
  · have i3 : I64 ((m : Int) + 1) := by unfold I64; omega
    have hp : BelPre 8 t 0 m := ⟨0, m, rfl, rfl, h0, hm, hv, by have := hv.2.1; omega⟩
    have hfew := sub_few hv hT.1 h0 (a := 0) (z := m + 1) (by omega) (by omega)
    rw [rng_snoc (Nat.zero_le m), List.flatMap_append, List.length_append, List.flatMap_cons, List.flatMap_nil, List.append_nil, List.drop_zero] at hfew
    obtain ⟨L, hL⟩ : ∃ L, subF t.levels m = L := ⟨_, rfl⟩
    rw [hL, ← b2] at hfew
    simp [aev, cav, look, acallPure, abin, abinN, abinP, abinI, abinS, aun, aconv, afield, afieldAddr, aindexAddr, aindex, aslice, alow, ahigh, abuild, abuildGo, cellsOf, splice, fieldTy, alen, apick, amax, amin, aload, headV, aparts, abuildSlice, elParts, abytesStr, astore, amake, aappend, aclear, anew, arith, aresults, aresList, ares, spec0, spec1, spec2, spec3, spec4, eqCells, eqCell, rB, TB, sBel, hT', hp, i3, hm, h0, rowAt_enc h0, hL]
    exact ⟨⟨by omega, by omega⟩, m + 1, out ++ L, ⟨by omega, by rw [rng_snoc (Nat.zero_le m), List.flatMap_append, ← b2, List.flatMap_cons, List.flatMap_nil, List.append_nil, hL]⟩, by omega, weak_keep 2 (by simp) (by simp) (by simp [AV.clean, AV.clean1]) (by simp [TB, rB]) (by simp [TB, rB])⟩
  · have hmz : m = (ix t.levels 0).keys.length := by omega
    subst hmz
    have e2 : out = rowsU t := b2
    simp [aev, cav, look, acallPure, abin, abinN, abinP, abinI, abinS, aun, aconv, afield, afieldAddr, aindexAddr, aindex, aslice, alow, ahigh, abuild, abuildGo, cellsOf, splice, fieldTy, alen, apick, amax, amin, aload, headV, aparts, abuildSlice, elParts, abytesStr, astore, amake, aappend, aclear, anew, arith, aresults, aresList, ares, spec0, spec1, spec2, spec3, spec4, eqCells, eqCell, rB, TB, h0, rowAt_enc h0, e, e2]
end Go.Proofs.Ytkonafdbfciikaa
