/-
  nat: the program's functions, fourth part: Clone, Pow.
-/
import Derived.Test.YtankjfiaajpfoaaDoorN8
import Derived.Test.YtankjfiaajpfoaaDoorN5
namespace Go.Proofs.YtankjfiaajpfoaaDoor
open Go.RowKit
set_option linter.unusedSimpArgs false
set_option linter.unusedVariables false

theorem clone34 : PureOK Tryd.prog G0 34 (spec1 (fun l : List Int => l.length ≤ 1000000) (fun l => Enc.enc l)) := by
  refine pure1 (C := C0) sig0 mix0 Tryd.func34 rfl rfl rfl (by kernel_rfl) (by decide) (fun l hl => ?_)
  by_cases h : l.length = 0
  · have h' : l = [] := List.length_eq_zero_iff.1 h
    subst h'
    simp [aev, cav, look, acallPure, abin, abinN, abinP, abinI, abinS, aun, aconv, afield, afieldAddr, aindexAddr, aindex, aslice, alow, ahigh, abuild, abuildGo, cellsOf, splice, fieldTy, alen, apick, amax, amin, aload, headV, aparts, abuildSlice, elParts, abytesStr, astore, amake, aappend, anew, arith, aresults, aresList, ares, spec0, spec1, spec2, spec3, spec4, eqCells, eqCell]
  · simp [aev, cav, look, acallPure, abin, abinN, abinP, abinI, abinS, aun, aconv, afield, afieldAddr, aindexAddr, aindex, aslice, alow, ahigh, abuild, abuildGo, cellsOf, splice, fieldTy, alen, apick, amax, amin, aload, headV, aparts, abuildSlice, elParts, abytesStr, astore, amake, aappend, anew, arith, aresults, aresList, ares, spec0, spec1, spec2, spec3, spec4, eqCells, eqCell, h]
    omega
def s34 : List AV → Option (Prop × AV) := spec1 (fun l : List Int => l.length ≤ 1000000) (fun l => Enc.enc l)
noncomputable def C7 : Ctx := mkC Tryd.prog G0 [(15, .pure s15), (34, .pure s34), (24, .pure s24), (38, .pure s38), (37, .frz s37), (33, .pure s33), (45, .pure s45), (39, .frz s39), (26, .pure s26), (54, .pure s54), (20, .pure s20)]
@[simp] theorem C7_P : C7.P = Tryd.prog := rfl
@[simp] theorem C7_15 : C7.S 15 = .pure s15 := rfl
@[simp] theorem C7_34 : C7.S 34 = .pure s34 := rfl
@[simp] theorem C7_24 : C7.S 24 = .pure s24 := rfl
@[simp] theorem C7_38 : C7.S 38 = .pure s38 := rfl
@[simp] theorem C7_33 : C7.S 33 = .pure s33 := rfl
@[simp] theorem C7_45 : C7.S 45 = .pure s45 := rfl
@[simp] theorem C7_26 : C7.S 26 = .pure s26 := rfl
@[simp] theorem C7_54 : C7.S 54 = .pure s54 := rfl
@[simp] theorem C7_20 : C7.S 20 = .pure s20 := rfl
@[simp] theorem C7_37 : C7.S 37 = .frz s37 := rfl
@[simp] theorem C7_39 : C7.S 39 = .frz s39 := rfl
theorem sig7 : SigOK C7 := sigOK_cons (entryPure mul15 Tryd.func15 rfl (by decide)) (sigOK_cons (entryPure clone34 Tryd.func34 rfl (by decide)) sig6)
theorem mix7 : C7.P.follows .mixedOrders = true := mixed

theorem and_one {k : Int} (h : 0 ≤ k) (h' : k ≤ 9223372036854775807) : bits2 .and .i64 k 1 = k % 2 := by
  obtain ⟨n, rfl⟩ := Int.eq_ofNat_of_zero_le h
  have e : (BitVec.ofInt 64 (n : Int) &&& BitVec.ofInt 64 1).toNat = n % 2 := by
    rw [BitVec.toNat_and]
    have h1 : (BitVec.ofInt 64 (n : Int)).toNat = n := by simp; omega
    have h2 : (BitVec.ofInt 64 1).toNat = 1 := by decide
    rw [h1, h2, Nat.and_one_is_mod]
  show IntKind.wrap .i64 ((BitVec.ofInt 64 (n : Int) &&& BitVec.ofInt 64 1).toNat : Int) = _
  rw [e]
  rcases Nat.mod_two_eq_zero_or_one n with h | h <;> rw [h] <;> first | (show (0 : Int) = _; omega) | (show (1 : Int) = _; omega)

theorem nv_canon {n : Nat} (h : (canon n).length ≤ 64) : nv (canon n) = n := by
  have : validR (canon n) = true := validR_iff.2 ⟨h, canon_good n, canon_norm n⟩
  unfold nv numL
  rw [if_pos this, val_canon]

theorem long_of {v K : Nat} {k : Int} {m : Nat} (h1 : ¬ k < 0) (hK : k.toNat = K) (hm : m ≤ v ^ K) (hl : 64 < (canon m).length) : powT v k = .tup [.slice 1 false [], .bool false] := by
  have := canon_mono hm
  rw [powT_of h1 rfl, hK, if_neg (by omega), decide_eq_false (by omega)]
  rfl

set_option maxHeartbeats 2000000 in
theorem pow11 : PureOK Tryd.prog G0 11 (spec2 (fun (a : List Int) (k : Int) => a.length ≤ 1000000 ∧ I64 k) (fun a k => powT (nv a) k)) := by
  refine pure2 (C := C7) sig7 mix7 Tryd.func11 rfl rfl rfl (by kernel_rfl) (by decide) (fun a k ⟨ha, hk⟩ => ?_)
  have hxl := numL_len a
  have hxg := numL_good a
  have hxn := numL_norm a
  by_cases h1 : k < 0
  · simp [aev, cav, look, acallPure, abin, abinN, abinP, abinI, abinS, aun, aconv, afield, afieldAddr, aindexAddr, aindex, aslice, alow, ahigh, abuild, abuildGo, cellsOf, splice, fieldTy, alen, apick, amax, amin, aload, headV, aparts, abuildSlice, elParts, abytesStr, astore, amake, aappend, anew, arith, aresults, aresList, ares, spec0, spec1, spec2, spec3, spec4, eqCells, eqCell, h1, powT_neg]
  have e1 : powT (nv a) k = powT (val (numL a)) k := rfl
  rw [e1]
  simp [aev, cav, look, acallPure, abin, abinN, abinP, abinI, abinS, aun, aconv, afield, afieldAddr, aindexAddr, aindex, aslice, alow, ahigh, abuild, abuildGo, cellsOf, splice, fieldTy, alen, apick, amax, amin, aload, headV, aparts, abuildSlice, elParts, abytesStr, astore, amake, aappend, anew, arith, aresults, aresList, ares, spec0, spec1, spec2, spec3, spec4, eqCells, eqCell, s33, ha, h1]
  generalize numL a = x at *
  have i1 : I64 1 := by unfold I64; omega
  by_cases h2 : k = 0
  · subst h2
    rw [powT_of (l := [1]) h1 (by simp [canon_one])]
    simp [aev, cav, look, acallPure, abin, abinN, abinP, abinI, abinS, aun, aconv, afield, afieldAddr, aindexAddr, aindex, aslice, alow, ahigh, abuild, abuildGo, cellsOf, splice, fieldTy, alen, apick, amax, amin, aload, headV, aparts, abuildSlice, elParts, abytesStr, astore, amake, aappend, anew, arith, aresults, aresList, ares, spec0, spec1, spec2, spec3, spec4, eqCells, eqCell, s20, i1, canon_one]
  by_cases h3 : x.length = 0
  · obtain rfl := List.length_eq_zero_iff.1 h3
    rw [powT_of (l := []) h1 (by rw [val, Nat.zero_pow (by omega), canon_zero])]
    simp [aev, cav, look, acallPure, abin, abinN, abinP, abinI, abinS, aun, aconv, afield, afieldAddr, aindexAddr, aindex, aslice, alow, ahigh, abuild, abuildGo, cellsOf, splice, fieldTy, alen, apick, amax, amin, aload, headV, aparts, abuildSlice, elParts, abytesStr, astore, amake, aappend, anew, arith, aresults, aresList, ares, spec0, spec1, spec2, spec3, spec4, eqCells, eqCell, h2, s34]
  have h0 : 0 < x.length := by omega
  by_cases h4 : x.length = 1 ∧ ix x 0 = 1
  · obtain ⟨h5, h6⟩ := h4
    have hx1 : x = [1] := by
      obtain ⟨x0, rfl⟩ := List.length_eq_one_iff.1 h5
      obtain rfl : x0 = 1 := h6
      rfl
    rw [powT_of (l := x) h1 (by rw [hx1]; simp [val, canon_one])]
    have h7 : x ≠ [] := fun h => by subst h; simp at h0
    simp [aev, cav, look, acallPure, abin, abinN, abinP, abinI, abinS, aun, aconv, afield, afieldAddr, aindexAddr, aindex, aslice, alow, ahigh, abuild, abuildGo, cellsOf, splice, fieldTy, alen, apick, amax, amin, aload, headV, aparts, abuildSlice, elParts, abytesStr, astore, amake, aappend, anew, arith, aresults, aresList, ares, spec0, spec1, spec2, spec3, spec4, eqCells, eqCell, h2, h7, h5, rowAt_enc h0, h6, s34]
  have hv : 2 ≤ val x := by
    by_cases h5 : x.length = 1
    · obtain ⟨x0, rfl⟩ := List.length_eq_one_iff.1 h5
      have h6 : ¬ x0 = 1 := fun h => h4 ⟨h5, h⟩
      have := hxn (by simp)
      have h8 : ¬ x0 = 0 := this
      have := hxg.head
      simp [val]
      omega
    · have h6 := val_top hxg hxn (fun h => by subst h; simp at h0)
      have h7 : B9 ^ 1 ≤ B9 ^ (x.length - 1) := B9_le (by omega)
      rw [Nat.pow_one] at h7
      have : B9 = 1000000000 := rfl
      omega
  have hx0 : x ≠ [] := fun h => by subst h; simp at h0
  have fin : ∀ (o : List Int) (m : Nat), o = canon m → m = val x ^ k.toNat → o.length ≤ 64 → powT (val x) k = .tup [.slice 1 false (encRows o), .bool true] := fun o m h h' hl => by
    subst h
    rw [powT_of (l := canon m) h1 (by rw [← h']), if_pos hl, decide_eq_true hl]
  have key : ∀ st : ASt, Weak C7 59 0 st ⟨[(1, .int .i64 k), (6, Enc.enc (canon 1)), (8, Enc.enc x)], []⟩ → ∀ body Q, codeOK C7 59 body = true →
    (∀ p : Nat × Nat × Nat, (0 < p.1 ∧ p.1 ≤ k.toNat ∧ 1 ≤ p.2.1 ∧ 2 ≤ p.2.2 ∧ p.2.1 * p.2.2 ^ p.1 = val x ^ k.toNat ∧ (canon p.2.1).length ≤ 64 ∧ (canon p.2.2).length ≤ 64) →
      avc C7 59 0 body ⟨[(1, .int .i64 p.1), (6, Enc.enc (canon p.2.1)), (8, Enc.enc (canon p.2.2))], []⟩ (round (fun p : Nat × Nat × Nat => ⟨[(1, .int .i64 p.1), (6, Enc.enc (canon p.2.1)), (8, Enc.enc (canon p.2.2))], []⟩)
        (fun p => 0 < p.1 ∧ p.1 ≤ k.toNat ∧ 1 ≤ p.2.1 ∧ 2 ≤ p.2.2 ∧ p.2.1 * p.2.2 ^ p.1 = val x ^ k.toNat ∧ (canon p.2.1).length ≤ 64 ∧ (canon p.2.2).length ≤ 64) (fun p' => p'.1 < p.1) 59 0 C7 Q)) → AW C7 59 0 (.loop body) st Q := by
    intro st hw body Q hok h
    refine loop_rule (C := C7) sig7 mix7 _ _ (fun p => p.1) hok ⟨(k.toNat, 1, val x), ⟨by omega, Nat.le_refl _, Nat.le_refl _, hv, by simp, by simp [canon_one], by rw [canon_val hxg hxn]; exact hxl⟩, ?_⟩ h
    have e1 : ((k.toNat : Nat) : Int) = k := by omega
    rw [e1, canon_val hxg hxn]
    exact hw
  have h10 : k.toNat ≤ 9223372036854775807 := by unfold I64 at hk; omega
  by_cases h5 : x.length = 1
  have h6 : ¬ ix x 0 = 1 := fun h => h4 ⟨h5, h⟩
  simp [aev, cav, look, acallPure, abin, abinN, abinP, abinI, abinS, aun, aconv, afield, afieldAddr, aindexAddr, aindex, aslice, alow, ahigh, abuild, abuildGo, cellsOf, splice, fieldTy, alen, apick, amax, amin, aload, headV, aparts, abuildSlice, elParts, abytesStr, astore, amake, aappend, anew, arith, aresults, aresList, ares, spec0, spec1, spec2, spec3, spec4, eqCells, eqCell, h2, hx0, h5, rowAt_enc h0, h6, s34, s20, i1]
  refine key _ (weak_slots (by simp)) _ _ (by kernel_rfl) (fun ⟨j, u, v⟩ ⟨hj0, hj, hu, hv2, hp, hul, hvl⟩ => ?_)
  rotate_left
  have h8 : ¬ (x.length : Int) = 1 := by omega
  simp [aev, cav, look, acallPure, abin, abinN, abinP, abinI, abinS, aun, aconv, afield, afieldAddr, aindexAddr, aindex, aslice, alow, ahigh, abuild, abuildGo, cellsOf, splice, fieldTy, alen, apick, amax, amin, aload, headV, aparts, abuildSlice, elParts, abytesStr, astore, amake, aappend, anew, arith, aresults, aresList, ares, spec0, spec1, spec2, spec3, spec4, eqCells, eqCell, h2, hx0, h8, s34, s20, i1]
  refine ⟨by omega, key _ (weak_slots (by simp)) _ _ (by kernel_rfl) (fun ⟨j, u, v⟩ ⟨hj0, hj, hu, hv2, hp, hul, hvl⟩ => ?_)⟩
  rotate_left
  all_goals
    simp only at hj0 hj hu hv2 hp hul hvl ⊢
    have e2 := and_one (k := j) (by omega) (by omega)
    have e3 : Int.fdiv (j : Int) (2 ^ min 1 IntKind.i64.bits) = ((j / 2 : Nat) : Int) := by
      show Int.fdiv (j : Int) 2 = _
      rw [Int.fdiv_eq_ediv_of_nonneg _ (by omega)]; omega
    have nu := nv_canon hul
    have nw := nv_canon hvl
    have hdv : v ^ j = (v * v) ^ (j / 2) * v ^ (j % 2) := by rw [← Nat.pow_two, ← Nat.pow_mul, ← Nat.pow_add, Nat.div_add_mod]
    have hsq : j / 2 ≠ 0 → v * v ≤ v ^ j := fun hz => by
      rw [hdv]
      have h1 : (v * v) ^ 1 ≤ (v * v) ^ (j / 2) := Nat.pow_le_pow_right (Nat.mul_pos (by omega) (by omega)) (by omega)
      have h2 : 1 ≤ v ^ (j % 2) := Nat.pow_pos (by omega)
      have := Nat.mul_le_mul h1 h2
      rwa [Nat.pow_one, Nat.mul_one] at this
    have big : ∀ w : Nat, w ≤ val x ^ k.toNat → 64 < (canon w).length → powT (val x) k = .tup [.slice 1 false [], .bool false] := fun w hw hl => long_of h1 rfl hw hl
    have hvx : v ^ j ≤ val x ^ k.toNat := by rw [← hp]; exact Nat.le_mul_of_pos_left _ hu
    by_cases hodd : j % 2 = 1
    · have ho : (j : Int) % 2 = 1 := by omega
      by_cases hf : (canon (u * v)).length ≤ 64
      · by_cases hz : j / 2 = 0
        · have hj1 : j = 1 := by omega
          rw [hj1, Nat.pow_one] at hp
          have hz' : (j : Int) / 2 = 0 := by omega
          rw [fin _ (u * v) rfl hp hf]
          simp [aev, cav, look, acallPure, abin, abinN, abinP, abinI, abinS, aun, aconv, afield, afieldAddr, aindexAddr, aindex, aslice, alow, ahigh, abuild, abuildGo, cellsOf, splice, fieldTy, alen, apick, amax, amin, aload, headV, aparts, abuildSlice, elParts, abytesStr, astore, amake, aappend, anew, arith, aresults, aresList, ares, spec0, spec1, spec2, spec3, spec4, eqCells, eqCell, e2, ho, s15, nu, nw, fitT, hf, e3, hz']
          omega
        · have hz' : ¬ ((j : Int) / 2 = 0) := by omega
          by_cases hg : (canon (v * v)).length ≤ 64
          · simp [aev, cav, look, acallPure, abin, abinN, abinP, abinI, abinS, aun, aconv, afield, afieldAddr, aindexAddr, aindex, aslice, alow, ahigh, abuild, abuildGo, cellsOf, splice, fieldTy, alen, apick, amax, amin, aload, headV, aparts, abuildSlice, elParts, abytesStr, astore, amake, aappend, anew, arith, aresults, aresList, ares, spec0, spec1, spec2, spec3, spec4, eqCells, eqCell, e2, ho, s15, nu, nw, fitT, hf, e3, hz', hg]
            exact ⟨⟨by omega, by omega⟩, by omega, j / 2, u * v, v * v, ⟨by omega, by omega, Nat.mul_pos (by omega) (by omega), Nat.le_trans hv2 (Nat.le_mul_of_pos_left v (by omega)), by rw [← hp, hdv, hodd, Nat.pow_one, Nat.mul_assoc, Nat.mul_comm v], hf, hg⟩, by omega, weak_slots (by simp)⟩
          · have := big (v * v) (Nat.le_trans (hsq hz) hvx) (by omega)
            rw [this]
            simp [aev, cav, look, acallPure, abin, abinN, abinP, abinI, abinS, aun, aconv, afield, afieldAddr, aindexAddr, aindex, aslice, alow, ahigh, abuild, abuildGo, cellsOf, splice, fieldTy, alen, apick, amax, amin, aload, headV, aparts, abuildSlice, elParts, abytesStr, astore, amake, aappend, anew, arith, aresults, aresList, ares, spec0, spec1, spec2, spec3, spec4, eqCells, eqCell, e2, ho, s15, nu, nw, fitT, hf, e3, hz', hg]
            omega
      · have := big (u * v) (by
          rw [← hp]
          refine Nat.mul_le_mul_left _ ?_
          have : v ^ 1 ≤ v ^ j := Nat.pow_le_pow_right (by omega) (by omega)
          rwa [Nat.pow_one] at this) (by omega)
        rw [this]
        simp [aev, cav, look, acallPure, abin, abinN, abinP, abinI, abinS, aun, aconv, afield, afieldAddr, aindexAddr, aindex, aslice, alow, ahigh, abuild, abuildGo, cellsOf, splice, fieldTy, alen, apick, amax, amin, aload, headV, aparts, abuildSlice, elParts, abytesStr, astore, amake, aappend, anew, arith, aresults, aresList, ares, spec0, spec1, spec2, spec3, spec4, eqCells, eqCell, e2, ho, s15, nu, nw, fitT, hf]
        omega
    · have ho : (j : Int) % 2 = 0 := by omega
      have hz : j / 2 ≠ 0 := by omega
      have hz' : ¬ ((j : Int) / 2 = 0) := by omega
      by_cases hg : (canon (v * v)).length ≤ 64
      · simp [aev, cav, look, acallPure, abin, abinN, abinP, abinI, abinS, aun, aconv, afield, afieldAddr, aindexAddr, aindex, aslice, alow, ahigh, abuild, abuildGo, cellsOf, splice, fieldTy, alen, apick, amax, amin, aload, headV, aparts, abuildSlice, elParts, abytesStr, astore, amake, aappend, anew, arith, aresults, aresList, ares, spec0, spec1, spec2, spec3, spec4, eqCells, eqCell, e2, ho, s15, nu, nw, fitT, e3, hz', hg]
        exact ⟨by omega, j / 2, u, v * v, ⟨by omega, by omega, hu, Nat.le_trans hv2 (Nat.le_mul_of_pos_left v (by omega)), by rw [← hp, hdv, show j % 2 = 0 by omega, Nat.pow_zero, Nat.mul_one], hul, hg⟩, by omega, weak_slots (by simp)⟩
      · have := big (v * v) (Nat.le_trans (hsq hz) hvx) (by omega)
        rw [this]
        simp [aev, cav, look, acallPure, abin, abinN, abinP, abinI, abinS, aun, aconv, afield, afieldAddr, aindexAddr, aindex, aslice, alow, ahigh, abuild, abuildGo, cellsOf, splice, fieldTy, alen, apick, amax, amin, aload, headV, aparts, abuildSlice, elParts, abytesStr, astore, amake, aappend, anew, arith, aresults, aresList, ares, spec0, spec1, spec2, spec3, spec4, eqCells, eqCell, e2, ho, s15, nu, nw, fitT, e3, hz', hg]
        omega
end Go.Proofs.YtankjfiaajpfoaaDoor
