/-
  nat: the reference's functions, third part.
-/
import Derived.Test.YtankjfiaajpfoaaDoorN2
namespace Go.Proofs.YtankjfiaajpfoaaDoor
open Go.RowKit
set_option linter.unusedSimpArgs false
set_option linter.unusedVariables false

def s35 : List AV → Option (Prop × AV) := spec1 (fun a : List Int => a.length ≤ 1000000) (fun a => Enc.enc (numL a))
def s21 : List AV → Option (Prop × AV) := spec1 (fun n : Int => I64 n) (fun n => Enc.enc (canon n.toNat))
def s40 : List AV → Option (Prop × AV) := spec1 (fun a : List Int => Good a ∧ a.length ≤ 1000000) (fun a => Enc.enc (canon (val a)))
def s47 : List AV → Option (Prop × AV) := spec1 (fun l : List Int => l.length ≤ 1000000) (fun l => .tup [Enc.enc (if l.length ≤ 64 then l else []), .bool (decide (l.length ≤ 64))])
def s13 : List AV → Option (Prop × AV) := spec2 (fun (a b : List Int) => a.length ≤ 1000000 ∧ b.length ≤ 1000000) (fun a b => .bool (decide (a = b)))
noncomputable def C2 : Ctx := mkC Tryd.prog G0 [(35, .pure s35), (21, .pure s21), (40, .frz s40), (47, .frz s47), (13, .pure s13), (14, .pure s14), (46, .pure s46)]
@[simp] theorem C2_P : C2.P = Tryd.prog := rfl
@[simp] theorem C2_35 : C2.S 35 = .pure s35 := rfl
@[simp] theorem C2_21 : C2.S 21 = .pure s21 := rfl
@[simp] theorem C2_40 : C2.S 40 = .frz s40 := rfl
@[simp] theorem C2_47 : C2.S 47 = .frz s47 := rfl
@[simp] theorem C2_13 : C2.S 13 = .pure s13 := rfl
@[simp] theorem C2_14 : C2.S 14 = .pure s14 := rfl
@[simp] theorem C2_46 : C2.S 46 = .pure s46 := rfl
theorem sig2 : SigOK C2 :=
  sigOK_cons (entryPure num35 Tryd.func35 rfl (by decide)) (sigOK_cons (entryPure of21 Tryd.func21 rfl (by decide)) (sigOK_cons (entryFrz (entryPure trim40 Tryd.func40 rfl (by decide))) (sigOK_cons (entryFrz (entryPure bounded47 Tryd.func47 rfl (by decide))) (sigOK_cons (entryPure same13 Tryd.func13 rfl (by decide)) sig1))))
theorem mix2 : C2.P.follows .mixedOrders = true := mixed

set_option maxHeartbeats 2000000 in
theorem times36 : PureOK Tryd.prog G0 36 (spec2 (fun (x y : List Int) => (Good x ∧ x.length ≤ 128) ∧ Good y ∧ y.length ≤ 128) (fun x y => Enc.enc (canon (val x * val y)))) := by
  refine pure2 (C := C2) sig2 mix2 Tryd.func36 rfl rfl rfl (by kernel_rfl) (by decide) (fun x y ⟨⟨hx, hxl⟩, hy, hyl⟩ => ?_)
  have h1 : I64 ((x.length : Int) + y.length) := by unfold I64; omega
  have h2 : ((x.length : Int) + y.length).toNat = x.length + y.length := by omega
  simp [aev, cav, look, acallPure, abin, abinN, abinP, abinI, abinS, aun, aconv, afield, afieldAddr, aindexAddr, aindex, aslice, alow, ahigh, abuild, abuildGo, cellsOf, splice, fieldTy, alen, apick, amax, amin, aload, headV, aparts, abuildSlice, elParts, abytesStr, astore, amake, aappend, anew, arith, aresults, aresList, ares, spec0, spec1, spec2, spec3, spec4, eqCells, eqCell, h1, h2]
  refine ⟨by omega, ?_⟩
  refine loop_rule (C := C2) sig2 mix2 (fun p : Nat × List Int => ⟨[(0, Enc.enc x), (1, Enc.enc y), (5, .own 0 (x.length + y.length)), (6, .int .i64 p.1)], [⟨3, 1, encRows p.2, true, true⟩]⟩)
    (fun p => p.1 ≤ x.length ∧ p.2.length = x.length + y.length ∧ Good p.2 ∧ val p.2 = val (x.take p.1) * val y ∧ ∀ k, p.1 + y.length ≤ k → ix p.2 k = 0)
    (fun p => x.length - p.1) (by kernel_rfl) ⟨(0, List.replicate (x.length + y.length) 0), ?_, weak_slots (by simp)⟩ (fun ⟨i, out⟩ ⟨hi, hl, hg, hv, hz⟩ => ?_)
  · exact ⟨Nat.zero_le _, by simp, good_rep _, by simp [val_rep, val], fun k _ => ix_rep _ k⟩
  simp only at hi hl hg hv hz ⊢
  by_cases h3 : i < x.length
  · simp [aev, cav, look, acallPure, abin, abinN, abinP, abinI, abinS, aun, aconv, afield, afieldAddr, aindexAddr, aindex, aslice, alow, ahigh, abuild, abuildGo, cellsOf, splice, fieldTy, alen, apick, amax, amin, aload, headV, aparts, abuildSlice, elParts, abytesStr, astore, amake, aappend, anew, arith, aresults, aresList, ares, spec0, spec1, spec2, spec3, spec4, eqCells, eqCell, h3]
    refine loop_rule (C := C2) sig2 mix2 (fun p : Nat × Int × List Int => ⟨[(0, Enc.enc x), (1, Enc.enc y), (5, .own 0 (x.length + y.length)), (6, .int .i64 i), (7, .int .i64 p.2.1), (8, .int .i64 p.1)], [⟨3, 1, encRows p.2.2, true, true⟩]⟩)
      (fun p => p.1 ≤ y.length ∧ p.2.2.length = x.length + y.length ∧ Good p.2.2 ∧ (0 ≤ p.2.1 ∧ p.2.1 < 1000000000) ∧ val p.2.2 + p.2.1.toNat * B9 ^ (i + p.1) = val (x.take i) * val y + (ix x i).toNat * B9 ^ i * val (y.take p.1) ∧ ∀ k, i + y.length ≤ k → ix p.2.2 k = 0)
      (fun p => y.length - p.1) (by kernel_rfl) ⟨(0, 0, out), ?_, weak_slots (by simp)⟩ (fun ⟨j, c, o⟩ ⟨hj, hol, hog, hc, hov, hoz⟩ => ?_)
    · exact ⟨Nat.zero_le _, hl, hg, by simp, by simp [hv, val], hz⟩
    simp only at hj hol hog hc hov hoz ⊢
    by_cases h4 : j < y.length
    · have h5 : ((i : Int) + j).toNat = i + j := by omega
      have h6 : i + j < o.length := by omega
      have h7 : I64 ((i : Int) + j) := by unfold I64; omega
      have hxi := ix_good hx h3
      have hyj := ix_good hy h4
      have hoi := ix_good hog h6
      have hp := mul_lim hxi hyj
      have e : ∀ s : Int, 0 ≤ s → s.tmod 1000000000 = s % 1000000000 := fun s hs => Int.tmod_eq_emod_of_nonneg hs
      have e' : ∀ s : Int, 0 ≤ s → s.tdiv 1000000000 = s / 1000000000 := fun s hs => Int.tdiv_eq_ediv_of_nonneg hs
      have hs : 0 ≤ ix o (i + j) + ix x i * ix y j + c := by omega
      simp [aev, cav, look, acallPure, abin, abinN, abinP, abinI, abinS, aun, aconv, afield, afieldAddr, aindexAddr, aindex, aslice, alow, ahigh, abuild, abuildGo, cellsOf, splice, fieldTy, alen, apick, amax, amin, aload, headV, aparts, abuildSlice, elParts, abytesStr, astore, amake, aappend, anew, arith, aresults, aresList, ares, spec0, spec1, spec2, spec3, spec4, eqCells, eqCell, h4, h3, h5, h6, h7, rowAt_enc h6, rowAt_enc h3, rowAt_enc h4, e _ hs, e' _ hs]
      refine ⟨by omega, by omega, by unfold I64; omega, by unfold I64; omega, by unfold I64; omega, by omega, by omega, by unfold I64; omega, by unfold I64; omega, j + 1, _, _, ⟨by omega, by simpa using hol, good_set hog (v := (ix o (i + j) + ix x i * ix y j + c) % 1000000000) (by omega), (by omega : 0 ≤ (ix o (i + j) + ix x i * ix y j + c) / 1000000000 ∧ (ix o (i + j) + ix x i * ix y j + c) / 1000000000 < 1000000000), ?_, fun k hk => ?_⟩, by omega, weak_slots (by simp)⟩
      · rw [val_take_succ h4, ← Nat.add_assoc i j 1, Nat.pow_succ]
        refine step_mul _ _ _ _ _ _ _ _ _ _ _ _ _ _ (Nat.pow_add B9 i j) (val_set h6) ?_ hov
        have : (ix x i * ix y j).toNat = (ix x i).toNat * (ix y j).toNat := Int.toNat_mul hxi.1 hyj.1
        rw [← this]
        unfold B9
        omega
      · rw [ix_set h6, if_neg (by omega)]
        exact hoz k hk
    · have hje : j = y.length := by omega
      subst hje
      have h5 : ((i : Int) + y.length).toNat = i + y.length := by omega
      have h6 : i + y.length < o.length := by omega
      have h7 : I64 ((i : Int) + y.length) := by unfold I64; omega
      simp [aev, cav, look, acallPure, abin, abinN, abinP, abinI, abinS, aun, aconv, afield, afieldAddr, aindexAddr, aindex, aslice, alow, ahigh, abuild, abuildGo, cellsOf, splice, fieldTy, alen, apick, amax, amin, aload, headV, aparts, abuildSlice, elParts, abytesStr, astore, amake, aappend, anew, arith, aresults, aresList, ares, spec0, spec1, spec2, spec3, spec4, eqCells, eqCell, h4, h5, h6, h7, rowAt_enc h6]
      refine ⟨by omega, ⟨hol, h3⟩, by unfold I64; omega, i + 1, _, ⟨by omega, by simpa using hol, good_set hog hc, ?_, fun k hk => ?_⟩, by omega, weak_slots (by simp)⟩
      · rw [List.take_length] at hov
        exact step_row _ _ _ _ _ _ _ _ _ _ (val_set h6) (by rw [hoz _ (Nat.le_refl _)]; rfl) hov (val_take_succ h3)
      · rw [ix_set h6, if_neg (by omega)]
        exact hoz k (by omega)
  · simp [aev, cav, look, acallPure, abin, abinN, abinP, abinI, abinS, aun, aconv, afield, afieldAddr, aindexAddr, aindex, aslice, alow, ahigh, abuild, abuildGo, cellsOf, splice, fieldTy, alen, apick, amax, amin, aload, headV, aparts, abuildSlice, elParts, abytesStr, astore, amake, aappend, anew, arith, aresults, aresList, ares, spec0, spec1, spec2, spec3, spec4, eqCells, eqCell, h3, s40, hl]
    rw [val_take_le (by omega)] at hv
    refine ⟨⟨hg, by omega⟩, by rw [hv]⟩

def cmpN (m n : Nat) : Int := if m < n then -1 else if m = n then 0 else 1

theorem val_split {l : List Int} {i : Nat} (h : i < l.length) : val l = val (l.take i) + B9 ^ i * (ix l i).toNat + B9 ^ (i + 1) * val (l.drop (i + 1)) := by
  have := val_append (l.take (i + 1)) (l.drop (i + 1))
  rw [List.take_append_drop, List.length_take, Nat.min_eq_left h] at this
  rw [this, val_take_succ h]

theorem cmp_lt {x y : List Int} {i : Nat} (hx : Good x) (hy : Good y) (h1 : i < x.length) (h2 : i < y.length) (hd : x.drop (i + 1) = y.drop (i + 1)) (h : ix x i < ix y i) : val x < val y := by
  rw [val_split h1, val_split h2, hd]
  have h3 := val_lt (good_take i hx)
  rw [List.length_take, Nat.min_eq_left (Nat.le_of_lt h1)] at h3
  have hxi := ix_good hx h1
  have h4 : (ix x i).toNat + 1 ≤ (ix y i).toNat := by omega
  have h5 := Nat.mul_le_mul_left (B9 ^ i) h4
  rw [Nat.mul_add] at h5
  omega

theorem len_lt {x y : List Int} (hx : Good x) (hy : Good y) (hyn : Norm y) (h : x.length < y.length) : val x < val y := by
  have h1 := val_lt hx
  have h2 := val_top hy hyn (fun e => by rw [e] at h; simp at h)
  have h3 : B9 ^ x.length ≤ B9 ^ (y.length - 1) := Nat.pow_le_pow_right (by decide) (by omega)
  omega

theorem drop_eq {x : List Int} {i : Nat} (h : i < x.length) : x.drop i = ix x i :: x.drop (i + 1) := by rw [List.drop_eq_getElem_cons h, ix_lt h]

set_option maxHeartbeats 2000000 in
theorem cmp32 : PureOK Tryd.prog G0 32 (spec2 (fun (a b : List Int) => a.length ≤ 1000000 ∧ b.length ≤ 1000000) (fun a b => .int .i64 (cmpN (nv a) (nv b)))) := by
  refine pure2 (C := C2) sig2 mix2 Tryd.func32 rfl rfl rfl (by kernel_rfl) (by decide) (fun a b ⟨ha, hb⟩ => ?_)
  have hxl := numL_len a
  have hyl := numL_len b
  have hxg := numL_good a
  have hyg := numL_good b
  have hxn := numL_norm a
  have hyn := numL_norm b
  have e1 : cmpN (nv a) (nv b) = cmpN (val (numL a)) (val (numL b)) := rfl
  simp [aev, cav, look, acallPure, abin, abinN, abinP, abinI, abinS, aun, aconv, afield, afieldAddr, aindexAddr, aindex, aslice, alow, ahigh, abuild, abuildGo, cellsOf, splice, fieldTy, alen, apick, amax, amin, aload, headV, aparts, abuildSlice, elParts, abytesStr, astore, amake, aappend, anew, arith, aresults, aresList, ares, spec0, spec1, spec2, spec3, spec4, eqCells, eqCell, s35, ha, hb]
  rw [e1]
  generalize numL a = x at *
  generalize numL b = y at *
  by_cases hl : x.length = y.length
  · simp [aev, cav, look, acallPure, abin, abinN, abinP, abinI, abinS, aun, aconv, afield, afieldAddr, aindexAddr, aindex, aslice, alow, ahigh, abuild, abuildGo, cellsOf, splice, fieldTy, alen, apick, amax, amin, aload, headV, aparts, abuildSlice, elParts, abytesStr, astore, amake, aappend, anew, arith, aresults, aresList, ares, spec0, spec1, spec2, spec3, spec4, eqCells, eqCell, hl]
    have h1 : I64 ((y.length : Int) - 1) := by unfold I64; omega
    simp [h1]
    refine loop_rule (C := C2) sig2 mix2 (fun n : Nat => ⟨[(5, Enc.enc x), (6, Enc.enc y), (7, .int .i64 ((n : Int) - 1))], []⟩) (fun n => n ≤ x.length ∧ x.drop n = y.drop n) id (by kernel_rfl) ⟨x.length, ⟨by simp, by rw [List.drop_of_length_le (by simp), List.drop_of_length_le (by omega)]⟩, weak_slots (by simp [hl])⟩ (fun n ⟨hn, hd⟩ => ?_)
    by_cases h2 : n = 0
    · subst h2
      simp at hd
      subst hd
      simp [aev, cav, look, acallPure, abin, abinN, abinP, abinI, abinS, aun, aconv, afield, afieldAddr, aindexAddr, aindex, aslice, alow, ahigh, abuild, abuildGo, cellsOf, splice, fieldTy, alen, apick, amax, amin, aload, headV, aparts, abuildSlice, elParts, abytesStr, astore, amake, aappend, anew, arith, aresults, aresList, ares, spec0, spec1, spec2, spec3, spec4, eqCells, eqCell, cmpN]
    · have h3 : n - 1 < x.length := by omega
      have h4 : n - 1 < y.length := by omega
      have h5 : ((n : Int) - 1).toNat = n - 1 := by omega
      have h6 : (1 : Int) ≤ n := by omega
      have h7 : 0 < n := by omega
      have e := Nat.sub_add_cancel h7
      by_cases h8 : ix x (n - 1) < ix y (n - 1)
      · have := cmp_lt hxg hyg h3 h4 (by rwa [e]) h8
        simp [aev, cav, look, acallPure, abin, abinN, abinP, abinI, abinS, aun, aconv, afield, afieldAddr, aindexAddr, aindex, aslice, alow, ahigh, abuild, abuildGo, cellsOf, splice, fieldTy, alen, apick, amax, amin, aload, headV, aparts, abuildSlice, elParts, abytesStr, astore, amake, aappend, anew, arith, aresults, aresList, ares, spec0, spec1, spec2, spec3, spec4, eqCells, eqCell, h5, h6, h7, rowAt_enc h3, rowAt_enc h4, h8, cmpN, this]
        omega
      · by_cases h9 : ix y (n - 1) < ix x (n - 1)
        · have := cmp_lt hyg hxg h4 h3 (by rw [e]; exact hd.symm) h9
          have h10 : ¬ val x < val y := by omega
          have h11 : ¬ val x = val y := by omega
          simp [aev, cav, look, acallPure, abin, abinN, abinP, abinI, abinS, aun, aconv, afield, afieldAddr, aindexAddr, aindex, aslice, alow, ahigh, abuild, abuildGo, cellsOf, splice, fieldTy, alen, apick, amax, amin, aload, headV, aparts, abuildSlice, elParts, abytesStr, astore, amake, aappend, anew, arith, aresults, aresList, ares, spec0, spec1, spec2, spec3, spec4, eqCells, eqCell, h5, h6, h7, rowAt_enc h3, rowAt_enc h4, h8, h9, cmpN, h10, h11]
          omega
        · simp [aev, cav, look, acallPure, abin, abinN, abinP, abinI, abinS, aun, aconv, afield, afieldAddr, aindexAddr, aindex, aslice, alow, ahigh, abuild, abuildGo, cellsOf, splice, fieldTy, alen, apick, amax, amin, aload, headV, aparts, abuildSlice, elParts, abytesStr, astore, amake, aappend, anew, arith, aresults, aresList, ares, spec0, spec1, spec2, spec3, spec4, eqCells, eqCell, h5, h6, h7, rowAt_enc h3, rowAt_enc h4, h8, h9]
          refine ⟨by omega, by omega, by omega, by omega, by unfold I64; omega, n - 1, ⟨by omega, ?_⟩, by omega, weak_slots (by simp; omega)⟩
          rw [drop_eq h3, drop_eq h4, e, hd]
          congr 1
          omega
  · have hl' : ¬ (x.length : Int) = y.length := by omega
    by_cases h : x.length < y.length
    · have := len_lt hxg hyg hyn h
      simp [aev, cav, look, acallPure, abin, abinN, abinP, abinI, abinS, aun, aconv, afield, afieldAddr, aindexAddr, aindex, aslice, alow, ahigh, abuild, abuildGo, cellsOf, splice, fieldTy, alen, apick, amax, amin, aload, headV, aparts, abuildSlice, elParts, abytesStr, astore, amake, aappend, anew, arith, aresults, aresList, ares, spec0, spec1, spec2, spec3, spec4, eqCells, eqCell, hl', h, cmpN, this]
    · have := len_lt hyg hxg hxn (by omega)
      have h' : ¬ val x < val y := by omega
      have h'' : ¬ val x = val y := by omega
      simp [aev, cav, look, acallPure, abin, abinN, abinP, abinI, abinS, aun, aconv, afield, afieldAddr, aindexAddr, aindex, aslice, alow, ahigh, abuild, abuildGo, cellsOf, splice, fieldTy, alen, apick, amax, amin, aload, headV, aparts, abuildSlice, elParts, abytesStr, astore, amake, aappend, anew, arith, aresults, aresList, ares, spec0, spec1, spec2, spec3, spec4, eqCells, eqCell, hl', h, cmpN, h', h'']

def s32 : List AV → Option (Prop × AV) := spec2 (fun (a b : List Int) => a.length ≤ 1000000 ∧ b.length ≤ 1000000) (fun a b => .int .i64 (cmpN (nv a) (nv b)))
def s36 : List AV → Option (Prop × AV) := spec2 (fun (x y : List Int) => (Good x ∧ x.length ≤ 128) ∧ Good y ∧ y.length ≤ 128) (fun x y => Enc.enc (canon (val x * val y)))

end Go.Proofs.YtankjfiaajpfoaaDoor
