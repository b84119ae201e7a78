/-
  nat: the reference's functions, fourth part.
-/
import Derived.Test.YtankjfiaajpfoaaDoorN3
namespace Go.Proofs.YtankjfiaajpfoaaDoor
open Go.RowKit
set_option linter.unusedSimpArgs false
set_option linter.unusedVariables false

noncomputable def C3 : Ctx := mkC Tryd.prog G0 [(32, .pure s32), (36, .pure s36), (35, .pure s35), (21, .pure s21), (40, .frz s40), (47, .frz s47), (13, .pure s13), (14, .pure s14), (46, .pure s46)]
@[simp] theorem C3_P : C3.P = Tryd.prog := rfl
@[simp] theorem C3_32 : C3.S 32 = .pure s32 := rfl
@[simp] theorem C3_36 : C3.S 36 = .pure s36 := rfl
@[simp] theorem C3_35 : C3.S 35 = .pure s35 := rfl
@[simp] theorem C3_21 : C3.S 21 = .pure s21 := rfl
@[simp] theorem C3_13 : C3.S 13 = .pure s13 := rfl
@[simp] theorem C3_14 : C3.S 14 = .pure s14 := rfl
@[simp] theorem C3_46 : C3.S 46 = .pure s46 := rfl
@[simp] theorem C3_40 : C3.S 40 = .frz s40 := rfl
@[simp] theorem C3_47 : C3.S 47 = .frz s47 := rfl
theorem sig3 : SigOK C3 := sigOK_cons (entryPure cmp32 Tryd.func32 rfl (by decide)) (sigOK_cons (entryPure times36 Tryd.func36 rfl (by decide)) sig2)
theorem mix3 : C3.P.follows .mixedOrders = true := mixed

set_option maxHeartbeats 2000000 in
theorem mul29 : PureOK Tryd.prog G0 29 (spec2 (fun (a b : List Int) => a.length ≤ 1000000 ∧ b.length ≤ 1000000) (fun a b => fitT (nv a * nv b))) := by
  refine pure2 (C := C3) sig3 mix3 Tryd.func29 rfl rfl rfl (by kernel_rfl) (by decide) (fun a b ⟨ha, hb⟩ => ?_)
  have hxl := numL_len a
  have hyl := numL_len b
  have hxg := numL_good a
  have hyg := numL_good b
  have hlen : (canon (val (numL a) * val (numL b))).length ≤ 128 := canon_len 128 _ (by
    have h1 := val_lt hxg
    have h2 := val_lt hyg
    have h3 : B9 ^ (numL a).length ≤ B9 ^ 64 := Nat.pow_le_pow_right (by decide) hxl
    have h4 : B9 ^ (numL b).length ≤ B9 ^ 64 := Nat.pow_le_pow_right (by decide) hyl
    have h5 := Nat.mul_lt_mul_of_lt_of_le (Nat.lt_of_lt_of_le h1 h3) (Nat.le_of_lt (Nat.lt_of_lt_of_le h2 h4)) (by decide)
    rwa [← Nat.pow_add] at h5)
  simp [aev, cav, look, acallPure, abin, abinN, abinP, abinI, abinS, aun, aconv, afield, afieldAddr, aindexAddr, aindex, aslice, alow, ahigh, abuild, abuildGo, cellsOf, splice, fieldTy, alen, apick, amax, amin, aload, headV, aparts, abuildSlice, elParts, abytesStr, astore, amake, aappend, anew, arith, aresults, aresList, ares, spec0, spec1, spec2, spec3, spec4, eqCells, eqCell, s35, s36, s47, ha, hb, hxg, hyg]
  exact ⟨⟨by omega, by omega⟩, by omega, (fitT_of rfl).symm⟩

set_option maxHeartbeats 2000000 in
theorem add28 : PureOK Tryd.prog G0 28 (spec2 (fun (a b : List Int) => a.length ≤ 1000000 ∧ b.length ≤ 1000000) (fun a b => fitT (nv a + nv b))) := by
  refine pure2 (C := C3) sig3 mix3 Tryd.func28 rfl rfl rfl (by kernel_rfl) (by decide) (fun a b ⟨ha, hb⟩ => ?_)
  have hxl := numL_len a
  have hyl := numL_len b
  have hxg := numL_good a
  have hyg := numL_good b
  have hxn := numL_norm a
  have hyn := numL_norm b
  have e1 : fitT (nv a + nv b) = fitT (val (numL a) + val (numL b)) := rfl
  simp [aev, cav, look, acallPure, abin, abinN, abinP, abinI, abinS, aun, aconv, afield, afieldAddr, aindexAddr, aindex, aslice, alow, ahigh, abuild, abuildGo, cellsOf, splice, fieldTy, alen, apick, amax, amin, aload, headV, aparts, abuildSlice, elParts, abytesStr, astore, amake, aappend, anew, arith, aresults, aresList, ares, spec0, spec1, spec2, spec3, spec4, eqCells, eqCell, s35, ha, hb]
  rw [e1]
  generalize numL a = x at *
  generalize numL b = y at *
  refine loop_rule (C := C3) sig3 mix3 (fun p : Nat × Int × List Int => ⟨[(6, Enc.enc x), (7, Enc.enc y), (8, .own 0 p.2.2.length), (9, .int .i64 p.2.1), (10, .int .i64 p.1)], [⟨3, 1, encRows p.2.2, true, true⟩]⟩)
    (fun p => p.1 ≤ max x.length y.length ∧ p.2.2.length = p.1 ∧ Good p.2.2 ∧ (0 ≤ p.2.1 ∧ p.2.1 ≤ 1) ∧ val p.2.2 + p.2.1.toNat * B9 ^ p.1 = val (x.take p.1) + val (y.take p.1))
    (fun p => max x.length y.length - p.1) (by kernel_rfl) ⟨(0, 0, []), ⟨Nat.zero_le _, rfl, good_nil, by simp, by simp [val]⟩, (weak_nil 8 1 3 (by simp) (by decide)).trans (weak_slots (by simp))⟩ (fun ⟨i, c, o⟩ ⟨hi, hl, hg, hc, hv⟩ => ?_)
  simp only at hi hl hg hc hv ⊢
  have hxi := ix_good' hxg i
  have hyi := ix_good' hyg i
  have hs : 0 ≤ ix x i + ix y i + c := by omega
  by_cases h1 : i < max x.length y.length
  · have key : I64 (ix x i + ix y i) ∧ I64 (ix x i + ix y i + c) ∧ ((o.length + 1) * 8 ≤ 140737488355328 ∧ o.length + 1 < 1000000000000) ∧ I64 ((ix x i + ix y i + c) / 1000000000) ∧ I64 ((i : Int) + 1) :=
      ⟨by unfold I64; omega, by unfold I64; omega, by omega, by unfold I64; omega, by unfold I64; omega⟩
    obtain ⟨k1, k2, k3, k4, k5⟩ := key
    have fin : ∃ a b c', (a ≤ max x.length y.length ∧ c'.length = a ∧ Good c' ∧ (0 ≤ b ∧ b ≤ 1) ∧ val c' + b.toNat * B9 ^ a = val (x.take a) + val (y.take a)) ∧ max x.length y.length - a < max x.length y.length - i ∧ a = i + 1 ∧ b = (ix x i + ix y i + c) / 1000000000 ∧ c' = o ++ [(ix x i + ix y i + c) % 1000000000] := by
      refine ⟨i + 1, _, _, ⟨by omega, by simp [hl], good_append hg (good_cons (by omega) good_nil), by omega, ?_⟩, by omega, rfl, rfl, rfl⟩
      rw [val_snoc, hl, val_take_succ', val_take_succ', Nat.pow_succ]
      refine step_add _ _ _ _ _ _ _ _ _ _ hv ?_
      unfold B9
      omega
    obtain ⟨a', b', c', hI, hm, rfl, rfl, rfl⟩ := fin
    by_cases h2 : i < x.length
    · simp [aev, cav, look, acallPure, abin, abinN, abinP, abinI, abinS, aun, aconv, afield, afieldAddr, aindexAddr, aindex, aslice, alow, ahigh, abuild, abuildGo, cellsOf, splice, fieldTy, alen, apick, amax, amin, aload, headV, aparts, abuildSlice, elParts, abytesStr, astore, amake, aappend, anew, arith, aresults, aresList, ares, spec0, spec1, spec2, spec3, spec4, eqCells, eqCell, h2, s46, tmod9 hs, tdiv9 hs]
      exact ⟨k1, k2, k3, k4, k5, _, _, _, hI, hm, weak_slots (by simp)⟩
    · have h3 : i < y.length := by omega
      simp [aev, cav, look, acallPure, abin, abinN, abinP, abinI, abinS, aun, aconv, afield, afieldAddr, aindexAddr, aindex, aslice, alow, ahigh, abuild, abuildGo, cellsOf, splice, fieldTy, alen, apick, amax, amin, aload, headV, aparts, abuildSlice, elParts, abytesStr, astore, amake, aappend, anew, arith, aresults, aresList, ares, spec0, spec1, spec2, spec3, spec4, eqCells, eqCell, h2, h3, s46, tmod9 hs, tdiv9 hs]
      exact ⟨k1, k2, k3, k4, k5, _, _, _, hI, hm, weak_slots (by simp)⟩
  · have h2 : ¬ i < x.length := by omega
    have h3 : ¬ i < y.length := by omega
    have hi' : i = max x.length y.length := by omega
    rw [val_take_le (by omega), val_take_le (by omega)] at hv
    have top : ∀ {l : List Int}, Good l → Norm l → l ≠ [] → B9 ^ (l.length - 1) ≤ val l := val_top
    by_cases h4 : 0 < c
    · have hc1 : c = 1 := by omega
      subst hc1
      have hr : canon (val x + val y) = o ++ [1] := by
        have e : val (o ++ [1]) = val x + val y := by rw [val_snoc, hl]; simpa [Nat.mul_comm] using hv
        rw [← e]
        have hg' : Good (o ++ [1]) := good_append hg (good_cons (by omega) good_nil)
        refine canon_val hg' (norm_of_val hg' fun _ => ?_)
        rw [val_snoc]
        simp
      rw [fitT_of hr]
      simp [aev, cav, look, acallPure, abin, abinN, abinP, abinI, abinS, aun, aconv, afield, afieldAddr, aindexAddr, aindex, aslice, alow, ahigh, abuild, abuildGo, cellsOf, splice, fieldTy, alen, apick, amax, amin, aload, headV, aparts, abuildSlice, elParts, abytesStr, astore, amake, aappend, anew, arith, aresults, aresList, ares, spec0, spec1, spec2, spec3, spec4, eqCells, eqCell, h2, h3, s46, s47]
      omega
    · have hc0 : c = 0 := by omega
      subst hc0
      have hr : canon (val x + val y) = o := by
        have e : val o = val x + val y := by simpa using hv
        rw [← e]
        refine canon_val hg (norm_of_val hg fun hne => ?_)
        rw [e, hl, hi']
        by_cases hxy : x.length ≤ y.length
        · have := top hyg hyn (fun h => by subst h; simp at hxy; subst hxy; simp [val] at hi'; subst hi'; exact hne (List.length_eq_zero_iff.1 hl))
          have := B9_le (show max x.length y.length - 1 ≤ y.length - 1 by omega)
          omega
        · have := top hxg hxn (fun h => by subst h; simp at hxy)
          have := B9_le (show max x.length y.length - 1 ≤ x.length - 1 by omega)
          omega
      rw [fitT_of hr]
      simp [aev, cav, look, acallPure, abin, abinN, abinP, abinI, abinS, aun, aconv, afield, afieldAddr, aindexAddr, aindex, aslice, alow, ahigh, abuild, abuildGo, cellsOf, splice, fieldTy, alen, apick, amax, amin, aload, headV, aparts, abuildSlice, elParts, abytesStr, astore, amake, aappend, anew, arith, aresults, aresList, ares, spec0, spec1, spec2, spec3, spec4, eqCells, eqCell, h2, h3, s46, s47]
      omega

end Go.Proofs.YtankjfiaajpfoaaDoor
