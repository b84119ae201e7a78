/-
  Texts joined: K3 K4 K5 K6 K7 K8 K9 K10 K11 S1 R6.
-/
import Derived.Test.YtfoipbjhaiimlaaGreatDoorW6
import Derived.Test.YtfoipbjhaiimlaaGreatDoorW5

/-
  layer 30: pivot of the reference.
-/
namespace Go.Proofs.YtfoipbjhaiimlaaGreatDoor
open Go.RowKit
set_option linter.unusedSimpArgs false
set_option linter.unusedVariables false
set_option maxRecDepth 100000

def RB (t : RTab) : Blk := ⟨121, 4, [[.slice 1 false (encRows t.T), .slice 1 false (encRows t.Basic), .slice 2 false (encRows t.Cost), .bool t.Over]], true, true⟩
def RZ : Blk := ⟨121, 4, [[.slice 1 true [], .slice 1 true [], .slice 2 true [], .bool false]], true, true⟩
def R3B (l : List Int) : Blk := ⟨3, 1, encRows l, true, true⟩
structure PrePv (t : RTab) (i j : Int) : Prop where
  s : ∃ w, RS w t ∧ j < w
  i : 0 ≤ i ∧ i < t.T.length
  j : 0 ≤ j
noncomputable def CKp2 : Ctx := mkC Tryz.prog G0 [(134, .pure sDivF), (70, .pure sMinR)]
@[simp] theorem CKp2_P : CKp2.P = Tryz.prog := rfl
@[simp] theorem CKp2_G : CKp2.G = G0 := rfl
@[simp] theorem CKp2_1 : CKp2.S 134 = .pure sDivF := rfl
@[simp] theorem CKp2_2 : CKp2.S 70 = .pure sMinR := rfl
theorem mixCKp2 : CKp2.P.follows .mixedOrders = true := mixed
theorem sigCKp2 : SigOK CKp2 := sigOK_cons (entryPure (divR) Tryz.func134 rfl (by decide)) (sigOK_cons (entryPure (minR) Tryz.func70 rfl (by decide)) (sigOK_nil _ _))
def sPivR : List AV → Option (Prop × AV) := spec3 PrePv (fun t i j => Enc.enc (pivR t i.toNat j.toNat))
set_option maxHeartbeats 16000000 in
theorem pivRR : PureOK Tryz.prog G0 105 sPivR := by
  refine pureH3 (C := CKp2) sigCKp2 mixCKp2 Tryz.func105 rfl rfl rfl [5, 29] (by kernel_rfl) (by decide) (fun t i j hp => ?_)
  obtain ⟨⟨w, hS, hjw⟩, ⟨hi0, hi⟩, hj0⟩ := hp
  obtain ⟨i, rfl⟩ : ∃ m : Nat, i = m := ⟨i.toNat, by omega⟩
  obtain ⟨j, rfl⟩ : ∃ m : Nat, j = m := ⟨j.toNat, by omega⟩
  rw [Int.toNat_natCast, Int.toNat_natCast]
  have hi : i < t.T.length := by omega
  have hjw : j < w := by omega
  have hw := hS.w36
  have hm := hS.m24
  have hrow := hS.rowAt hi
  have hjr : j < (ix t.T i).length := by omega
  obtain ⟨R, hR⟩ : ∃ R, pivR t i j = R := ⟨_, rfl⟩
  rw [hR]
  simp
  refine AW.weak (weak_nil 7 2 35 rfl (by decide)) ?_
  refine loop_ruleH (C := CKp2) sigCKp2 mixCKp2 [5, 29] (fun q : Nat × List Fr × List Blk => ⟨[(1, .int .i64 i), (2, .int .i64 j), (3, .ptr 0 1 4 0 0), (6, .ptr 1 1 4 0 0), (7, .own 2 q.1), (8, .int .i64 q.1)], RB t :: RZ :: R2B q.2.1 :: q.2.2⟩) (fun q => q.1 ≤ w + 1 ∧ divK (ix t.T i) (ix (ix t.T i) j) q.1 = some q.2.1) (fun q => w + 1 - q.1) (by kernel_rfl) ⟨(0, [], []), ⟨by simp, rfl⟩, weak_eq (by simp) (by simp [RB, RZ, R2B])⟩ (fun ⟨k, c, Z⟩ ⟨hk, hd⟩ => ?_)
  simp only at hk hd ⊢
  have hcl := divK_len hd
  by_cases hlt : k < w + 1
  · have i1 : I64 ((k : Int) + 1) := by unfold I64; omega
    have hkr : k < (ix t.T i).length := by omega
    have hlt' : (k : Int) < (w : Int) + 1 := by omega
    have hsn := divK_succ hd
    have ed := div_ofO (ix (ix t.T i) k) (ix (ix t.T i) j)
    simp [RB, RZ, R2B, hi, rowAt_enc hi, hkr, hrow, hlt']
    refine AW_regionF sigCKp2 mixCKp2 [.pure, .read, .pure, .pure, .read, .pure, .pure, .read, .pure, .read, .pure, .pure, .read, .pure, .pure, .read, .read, .pure, .pure, .pure, .eff, .eff, .pure] [[],[0],[],[2,0,1],[1,0,2,3],[],[5,3,2,0,1,4],[4,1,0,2,3,5,6],[],[8],[],[10,8,9],[9,8,10,11],[],[13,11,10,8,9,12],[12,9,8,10,11,13,14],[14,13,11,10,8,9,12,15,6,5,3,2,0,1,4,7],[7,4,1,0,2,3,5,6,15,12,9,8,10,11,13,14,16],[16,14,13,11,10,8,9,12,15,6,5,3,2,0,1,4,7,17],[16,14,13,11,10,8,9,12,15,6,5,3,2,0,1,4,7,17],[],[17,7,4,1,0,2,3,5,6,15,12,9,8,10,11,13,14,16,18,20],[20,18,21,17,7,4,1,0,2,3,5,6,15,12,9,8,10,11,13,14,16,19]] (by kernel_rfl) (by kernel_rfl) (by kernel_rfl) (by kernel_rfl) ?_
    cases hdd : divO (ix (ix t.T i) k) (ix (ix t.T i) j) with
    | none =>
      rw [hdd] at hsn ed
      have hRn : R = overR t := by
        have := divK_none hsn ((w + 1) - (k + 1))
        rw [show k + 1 + ((w + 1) - (k + 1)) = w + 1 by omega, ← hrow] at this
        rw [← hR]
        unfold pivR divL
        rw [this]
      subst hRn
      simp [RB, RZ, R2B, hi, rowAt_enc hi, hkr, rowAt_enc hkr, hjr, rowAt_enc hjr, hrow, sDivF, ed, ofO, F00, overR]
      exact ⟨by omega, by omega⟩
    | some d =>
      rw [hdd] at hsn ed
      simp [RB, RZ, R2B, hi, rowAt_enc hi, hkr, rowAt_enc hkr, hjr, rowAt_enc hjr, hrow, sDivF, ed, ofO, hcl, i1]
      exact ⟨by omega, by omega, ⟨by omega, by omega⟩, (k + 1), (c ++ [d]), ⟨by omega, hsn⟩, by omega, Z ++ [FB d], weak_eq (by simp) (by simp [FB])⟩
  · have hke : k = w + 1 := by omega
    have hdL : divL (ix t.T i) (ix (ix t.T i) j) = some c := by unfold divL; rw [hrow, ← hke]; exact hd
    have hR2 : R = match rowsR t i j c t.T.length with
      | none => overR t
      | some rows => match costR t j c with
        | none => overR t
        | some cs => ⟨rows, basR t i j t.T.length, cs, t.Over⟩ := by
      rw [← hR]
      unfold pivR
      rw [hdL]
      all_goals rfl
    have hlt' : ¬ (k : Int) < (w : Int) + 1 := by omega
    simp [RB, RZ, R2B, hi, rowAt_enc hi, hrow, hlt']
    refine AW.weak (weak_nil 11 1 28 rfl (by decide)) ?_
    refine AW.weak (weak_nil 12 1 3 rfl (by decide)) ?_
    have hck : c.length = w + 1 := by omega
    have g1 : ∀ (x : Blk) (Y : List Blk), (Z ++ x :: Y)[Z.length]? = some x := fun x Y => by simp
    have g2 : ∀ (x y : Blk) (Y : List Blk), (Z ++ x :: y :: Y)[Z.length + 1]? = some y := fun x y Y => by simp
    have s1 : ∀ (x x' : Blk) (Y : List Blk), (Z ++ x :: Y).set Z.length x' = Z ++ x' :: Y := fun x x' Y => by simp
    have s2 : ∀ (x y y' : Blk) (Y : List Blk), (Z ++ x :: y :: Y).set (Z.length + 1) y' = Z ++ x :: y' :: Y := fun x y y' Y => by simp
    have fz : ∀ H : List Blk, frzL [2] 3 H = H := fun H => by
      refine List.ext_getElem? fun q => ?_
      rw [frzL_get]
      have : [2].contains (3 + q) = false := by simp; omega
      rw [this]
      cases H[q]? <;> rfl
    have scal22 : isScalT CKp2 27 = false := by show isScalT ⟨Tryz.prog, fun _ => .no, G0⟩ 27 = false; kernel_rfl
    refine loop_ruleH (C := CKp2) sigCKp2 mixCKp2 [5, 29] (fun q : Nat × List (List Fr) × List Blk => ⟨[(1, .int .i64 i), (2, .int .i64 j), (3, .ptr 0 1 4 0 0), (6, .ptr 1 1 4 0 0), (7, .slice 2 false (encRows c)), (11, .own (Z.length + 3) q.1), (12, .own (Z.length + 4) q.1), (13, .int .i64 q.1)], RB t :: RZ :: ⟨35, 2, encRows c, false, true⟩ :: (Z ++ R1B q.2.1 :: R3B (basR t i j q.1) :: q.2.2)⟩) (fun q => q.1 ≤ t.T.length ∧ rowsR t i j c q.1 = some q.2.1) (fun q => t.T.length - q.1) (by kernel_rfl) ⟨(0, [], []), ⟨by simp, rfl⟩, (weak_view 7).trans (weak_eq (by simp [hck, RB, RZ, R2B, hke]) (by simp [RB, RZ, R2B, R1B, R3B, fz, basR]))⟩ (fun ⟨q, rs, Y⟩ ⟨hq, hrs⟩ => ?_)
    simp only at hq hrs ⊢
    have hrl := rowsR_len hrs
    have hbl := basR_len t i j q
    have hbs := basR_succ t i j q
    by_cases hqt : q < t.T.length
    · have i1 : I64 ((q : Int) + 1) := by unfold I64; omega
      have hqb : q < t.Basic.length := by rw [hS.bas]; exact hqt
      have hsn := rowsR_succ hrs
      have fin : rowsR t i j c (q + 1) = none → R = overR t := fun h => by
        have := rowsR_none h (t.T.length - (q + 1))
        rw [show q + 1 + (t.T.length - (q + 1)) = t.T.length by omega] at this
        rw [hR2, this]
      have hjq : j < (ix t.T q).length := by have := hS.rowAt hqt; omega
      have hjq' : j < w + 1 := by omega
      have hrq := hS.rowAt hqt
      unfold newRow at hsn
      by_cases hqi : q = i
      · subst hqi
        rw [if_pos rfl] at hsn hbs
        simp [RB, RZ, R1B, R3B, hqt, rowAt_enc hqt, hqb, rowAt_enc hqb, g1, g2, s1, s2, hrl, hbl, scal22, i1]
        exact ⟨⟨by omega, by omega⟩, ⟨by omega, by omega⟩, q + 1, rs ++ [c], ⟨by omega, hsn⟩, by omega, Y, weak_eq (by simp) (by simp [hbs])⟩
      · rw [if_neg hqi] at hsn hbs
        have hqi' : ¬ (q : Int) = i := by omega
        by_cases hN : (ix (ix t.T q) j).N = 0
        · rw [if_neg (fun h => h hN)] at hsn
          simp [RB, RZ, R1B, R3B, hqt, rowAt_enc hqt, hqb, rowAt_enc hqb, g1, g2, s1, s2, hrl, hbl, scal22, i1, hqi, hqi', hjq, rowAt_enc hjq, hN, hrq, hjq']
          exact ⟨by omega, ⟨by omega, by omega⟩, ⟨by omega, by omega⟩, q + 1, rs ++ [ix t.T q], ⟨by omega, hsn⟩, by omega, Y, weak_eq (by simp) (by simp [hbs])⟩
        · rw [if_pos hN] at hsn
          have hm1 : (ix t.T q).length ≤ 1000 := by omega
          have hm2 : (ix t.T q).length ≤ c.length := by omega
          cases hmo : minO (ix t.T q) (ix (ix t.T q) j) c with
          | none =>
            rw [hmo] at hsn
            have hRn := fin hsn
            subst hRn
            simp [RB, RZ, R1B, R3B, hqt, rowAt_enc hqt, hqb, rowAt_enc hqb, g1, g2, s1, s2, hrl, hbl, scal22, i1, hqi, hqi', hjq, rowAt_enc hjq, hN, hrq, hjq', sMinR, hm1, hm2, hmo, hck, overR]
            exact ⟨by omega, by omega⟩
          | some x =>
            rw [hmo] at hsn
            simp [RB, RZ, R1B, R3B, hqt, rowAt_enc hqt, hqb, rowAt_enc hqb, g1, g2, s1, s2, hrl, hbl, scal22, i1, hqi, hqi', hjq, rowAt_enc hjq, hN, hrq, hjq', sMinR, hm1, hm2, hmo, hck]
            exact ⟨by omega, by omega, ⟨by omega, by omega⟩, ⟨by omega, by omega⟩, q + 1, rs ++ [x], ⟨by omega, hsn⟩, by omega, Y, weak_eq (by simp) (by simp [hbs])⟩
    · have hqe : q = t.T.length := by omega
      subst hqe
      rw [hrs] at hR2
      simp only at hR2
      have hlt0 : ¬ (t.T.length : Int) < t.T.length := by omega
      unfold costR at hR2
      by_cases hC : t.Cost = []
      · rw [if_neg (fun h => h.1 hC)] at hR2
        simp only at hR2
        simp [RB, RZ, R1B, R3B, hC, g1, g2, hrl, hbl]
        simp [hR2, hC]
      · have hCl : t.Cost.length = w + 1 := hS.cost.resolve_left hC
        have hjc : j < t.Cost.length := by omega
        have hC0 : (0 : Int) < t.Cost.length := by omega
        have hjw1 : j < w + 1 := by omega
        by_cases hN : (ix t.Cost j).N = 0
        · rw [if_neg (fun h => h.2 hN)] at hR2
          simp only at hR2
          simp [RB, RZ, R1B, R3B, g1, g2, hrl, hbl, hC, hC0, hjc, rowAt_enc hjc, hN, hCl]
          subst hR2
          exact ⟨by omega, rfl, rfl, rfl, rfl⟩
        · rw [if_pos ⟨hC, hN⟩] at hR2
          have hm1 : t.Cost.length ≤ 1000 := by omega
          have hm2 : t.Cost.length ≤ c.length := by omega
          simp [RB, RZ, R1B, R3B, g1, g2, hrl, hbl, hC, hC0, hjc, rowAt_enc hjc, hN, hCl]
          refine ⟨by omega, ?_⟩
          refine AW_regionF sigCKp2 mixCKp2 [.pure, .read, .pure, .read, .pure, .pure, .read, .pure, .read, .pure, .pure, .pure, .pure, .pure] [[],[0],[],[2],[],[4,2,3],[3,2,4,5],[],[7,5,4,2,3,6,0,1],[1,0,6,3,2,4,5,7,8],[8,7,5,4,2,3,6,0,1,9],[8,7,5,4,2,3,6,0,1,9],[9,1,0,6,3,2,4,5,7,8,10],[10,12,9,1,0,6,3,2,4,5,7,8,11]] (by kernel_rfl) (by kernel_rfl) (by kernel_rfl) (by kernel_rfl) ?_
          cases hmo : minO t.Cost (ix t.Cost j) c with
          | none =>
            rw [hmo] at hR2
            simp only at hR2
            subst hR2
            simp [RB, RZ, R1B, R3B, g1, g2, hrl, hbl, hjc, rowAt_enc hjc, hCl, sMinR, hm1, hm2, hmo, hck, overR]
            exact ⟨by omega, by omega⟩
          | some x =>
            rw [hmo] at hR2
            simp only at hR2
            subst hR2
            simp [RB, RZ, R1B, R3B, g1, g2, hrl, hbl, hjc, rowAt_enc hjc, hCl, sMinR, hm1, hm2, hmo, hck]
            exact ⟨by omega, by omega⟩
end Go.Proofs.YtfoipbjhaiimlaaGreatDoor


/-
  layer 30: leaving of the reference.
-/
namespace Go.Proofs.YtfoipbjhaiimlaaGreatDoor
open Go.RowKit
set_option linter.unusedSimpArgs false
set_option linter.unusedVariables false
set_option maxRecDepth 100000

structure PreLv (t : RTab) (j : Int) : Prop where
  s : ∃ w, RS w t ∧ j < w
  j : 0 ≤ j
noncomputable def CRl : Ctx := mkC Tryz.prog G0 [(106, .pure (spec0 (Enc.enc F01))), (134, .pure sDivF), (118, .pure sCmpF)]
@[simp] theorem CRl_P : CRl.P = Tryz.prog := rfl
@[simp] theorem CRl_G : CRl.G = G0 := rfl
@[simp] theorem CRl_1 : CRl.S 106 = .pure (spec0 (Enc.enc F01)) := rfl
@[simp] theorem CRl_2 : CRl.S 134 = .pure sDivF := rfl
@[simp] theorem CRl_3 : CRl.S 118 = .pure sCmpF := rfl
theorem mixCRl : CRl.P.follows .mixedOrders = true := mixed
theorem sigCRl : SigOK CRl := sigOK_cons (entryPure (zeroR) Tryz.func106 rfl (by decide)) (sigOK_cons (entryPure (divR) Tryz.func134 rfl (by decide)) (sigOK_cons (entryPure (cmpR) Tryz.func118 rfl (by decide)) (sigOK_nil _ _)))
def sLeavR : List AV → Option (Prop × AV) := spec2 PreLv (fun t j => .tup [.int .i64 (leavR t j.toNat).1, .bool (leavR t j.toNat).2])
set_option maxHeartbeats 16000000 in
theorem leavRR : PureOK Tryz.prog G0 109 sLeavR := by
  refine pureH2 (C := CRl) sigCRl mixCRl Tryz.func109 rfl rfl rfl [7, 11] (by kernel_rfl) (by decide) (fun t j hp => ?_)
  obtain ⟨⟨w, hS, hjw⟩, hj0⟩ := hp
  obtain ⟨j, rfl⟩ : ∃ m : Nat, j = m := ⟨j.toNat, by omega⟩
  rw [Int.toNat_natCast]
  have hjw : j < w := by omega
  have hw := hS.w36
  have hm := hS.m24
  obtain ⟨R, hR⟩ : ∃ R, leavR t j = R := ⟨_, rfl⟩
  rw [hR]
  simp [F01]
  refine loop_ruleH (C := CRl) sigCRl mixCRl [7, 11] (fun q : Nat × (Int × Fr) × List Blk => ⟨[(1, .int .i64 j), (2, .ptr 0 1 4 0 0), (6, .int .i64 q.2.1.1), (7, .ptr 1 1 2 0 0), (8, .int .i64 q.1)], RB t :: FB q.2.1.2 :: q.2.2⟩) (fun q => q.1 ≤ t.T.length ∧ lvR t j q.1 = some q.2.1) (fun q => t.T.length - q.1) (by kernel_rfl) ⟨(0, (-1, F01), []), ⟨by simp, rfl⟩, weak_eq (by simp) (by simp [RB, FB, F01])⟩ (fun ⟨k, ⟨s, low⟩, Z⟩ ⟨hk, hl⟩ => ?_)
  simp only at hk hl ⊢
  have hs1 := lvR_s hl
  by_cases hlt : k < t.T.length
  · have i1 : I64 ((k : Int) + 1) := by unfold I64; omega
    have hsn := lvR_succ hl
    have fin : lvR t j (k + 1) = none → R = (-1, false) := fun h => by
      have := lvR_none h (t.T.length - (k + 1))
      rw [show k + 1 + (t.T.length - (k + 1)) = t.T.length by omega] at this
      rw [← hR]
      unfold leavR
      rw [this]
    have hrk := hS.rowAt hlt
    have hjr : j < (ix t.T k).length := by omega
    have hwr : w < (ix t.T k).length := by omega
    have hjw1 : j < w + 1 := by omega
    have hkb : k < t.Basic.length := by rw [hS.bas]; exact hlt
    have hww : w + 1 - 1 = w := by omega
    rw [hrk, hww] at hsn
    by_cases hN : (ix (ix t.T k) j).N ≤ 0
    · rw [if_pos hN] at hsn
      simp [RB, FB, hlt, rowAt_enc hlt, hjr, rowAt_enc hjr, hrk, hN, i1]
      exact ⟨by omega, k + 1, s, low, ⟨by omega, hsn⟩, by omega, Z, weak_eq (by simp) (by simp [FB])⟩
    · rw [if_neg hN] at hsn
      have hNp : 0 < (ix (ix t.T k) j).N := by omega
      have ed := div_ofO (ix (ix t.T k) w) (ix (ix t.T k) j)
      have iw : I64 (w : Int) := by unfold I64; omega
      simp [RB, FB, hlt, rowAt_enc hlt, hjr, rowAt_enc hjr, hrk, hN]
      refine ⟨by omega, ?_⟩
      refine AW_regionF sigCRl mixCRl [.pure, .read, .pure, .pure, .read, .pure, .read, .pure, .pure, .read, .pure, .pure, .pure, .read, .pure, .read, .pure, .pure, .read, .pure, .pure, .read, .read, .pure, .pure, .pure, .eff, .eff, .pure] [[],[0],[],[2,0,1],[1,0,2,3],[],[5],[],[7,5,6],[6,5,7,8],[8,7,5,6,9],[9,6,5,7,8,10],[10,8,7,5,6,9,11,3,2,0,1,4],[4,1,0,2,3,11,9,6,5,7,8,10,12],[],[14],[],[16,14,15],[15,14,16,17],[],[19,17,16,14,15,18],[18,15,14,16,17,19,20],[20,19,17,16,14,15,18,21,12,10,8,7,5,6,9,11,3,2,0,1,4,13],[13,4,1,0,2,3,11,9,6,5,7,8,10,12,21,18,15,14,16,17,19,20,22],[22,20,19,17,16,14,15,18,21,12,10,8,7,5,6,9,11,3,2,0,1,4,13,23],[22,20,19,17,16,14,15,18,21,12,10,8,7,5,6,9,11,3,2,0,1,4,13,23],[],[23,13,4,1,0,2,3,11,9,6,5,7,8,10,12,21,18,15,14,16,17,19,20,22,24,26],[26,24,27,23,13,4,1,0,2,3,11,9,6,5,7,8,10,12,21,18,15,14,16,17,19,20,22,25]] (by kernel_rfl) (by kernel_rfl) (by kernel_rfl) (by kernel_rfl) ?_
      cases hdd : divO (ix (ix t.T k) w) (ix (ix t.T k) j) with
      | none =>
        rw [hdd] at hsn ed
        have hRn := fin hsn
        subst hRn
        simp [RB, FB, hlt, rowAt_enc hlt, hjr, rowAt_enc hjr, hwr, rowAt_enc hwr, hrk, sDivF, ed, ofO, F00, iw]
        exact ⟨by omega, by omega⟩
      | some r =>
        rw [hdd] at hsn ed
        simp only at hsn
        obtain ⟨c, hc⟩ : ∃ c, cmpF r low = c := ⟨_, rfl⟩
        have hL1 : ∀ {s : Int}, s < 0 → lvTR t s low k r := fun h => .inl h
        have hL2 : ∀ {s : Int}, c < 0 → lvTR t s low k r := fun h => .inr (.inl (by rw [hc]; exact h))
        have hL3 : ∀ {n : Nat}, c = 0 → ix t.Basic k < ix t.Basic n → lvTR t n low k r := fun h h' => .inr (.inr ⟨by rw [hc]; exact h, by rw [Int.toNat_natCast]; exact h'⟩)
        have hL4 : ∀ {n : Nat}, ¬ c < 0 → (c = 0 → ¬ ix t.Basic k < ix t.Basic n) → ¬ lvTR t n low k r := fun h h' => by
          unfold lvTR
          rw [hc, Int.toNat_natCast]
          rintro (h1 | h1 | ⟨h1, h2⟩)
          · omega
          · exact h h1
          · exact h' h1 h2
        obtain ⟨ln, ld⟩ := low
        simp [RB, FB, hlt, rowAt_enc hlt, hjr, rowAt_enc hjr, hwr, rowAt_enc hwr, hrk, sDivF, sCmpF, ed, ofO, iw, hc]
        refine ⟨by omega, by omega, ?_⟩
        refine AW_regionF sigCRl mixCRl [.pure, .pure, .pure, .pure, .pure, .pure, .pure, .pure, .pure, .pure, .pure, .read, .pure, .pure, .read, .pure, .read, .pure, .pure, .read, .pure, .pure, .pure] [[],[0],[0,1],[1,0,2],[2,0,1,3],[3,4,1,0,2],[2,0,1,4,3,5],[5,3,4,1,0,2,6],[6,2,0,1,4,3,5,7],[7,5,3,4,1,0,2,6,8],[8,6,2,0,1,4,3,5,7,9],[9,7,5,3,4,1,0,2,6,8,10],[8,6,2,0,1,4,3,5,7,9],[12,10,8,6,2,0,1,4,3,5,7,9,11],[11,9,7,5,3,4,1,0,2,6,8,10,12,13],[8,6,2,0,1,4,3,5,7,9],[9,7,5,3,4,1,0,2,6,8,15],[8,6,2,0,1,4,3,5,7,9],[17,15,8,6,2,0,1,4,3,5,7,9,16],[16,9,7,5,3,4,1,0,2,6,8,15,17,18],[18,17,15,16,19,13,12,10,8,6,2,0,1,4,3,5,7,9,11,14],[14,11,10,12,13,19,16,15,17,18,20,8,6,2,0,1,4,3,5,7,9],[9,7,8,20,18,17,15,16,19,13,12,10,11,14,21,5,3,4,1,0,2,6]] (by kernel_rfl) (by kernel_rfl) (by kernel_rfl) (by kernel_rfl) ?_
        rcases hs1 with hs | ⟨hs, hsk⟩
        · subst hs
          rw [if_pos (hL1 (by decide))] at hsn
          simp [RB, FB, i1]
          exact ⟨k + 1, k, r, ⟨by omega, hsn⟩, by omega, Z ++ [FB r], weak_eq (by simp) (by simp [FB])⟩
        · obtain ⟨sn, rfl⟩ : ∃ n : Nat, s = n := ⟨s.toNat, by omega⟩
          have hns : ¬ ((sn : Int) < 0) := by omega
          have hsb : sn < t.Basic.length := by rw [hS.bas]; omega
          rcases Int.lt_trichotomy c 0 with h1 | h1 | h1
          · rw [if_pos (hL2 h1)] at hsn
            simp [RB, FB, h1, hns, i1]
            exact ⟨k + 1, k, r, ⟨by omega, hsn⟩, by omega, Z ++ [FB r], weak_eq (by simp) (by simp [FB])⟩
          · subst h1
            by_cases h2 : ix t.Basic k < ix t.Basic sn
            · rw [if_pos (hL3 rfl h2)] at hsn
              simp [RB, FB, hns, hkb, rowAt_enc hkb, hsb, rowAt_enc hsb, h2, i1]
              exact ⟨k + 1, k, r, ⟨by omega, hsn⟩, by omega, Z ++ [FB r], weak_eq (by simp) (by simp [FB])⟩
            · rw [if_neg (hL4 (by omega) (fun _ => h2))] at hsn
              simp [RB, FB, hns, hkb, rowAt_enc hkb, hsb, rowAt_enc hsb, h2, i1]
              exact ⟨k + 1, sn, ⟨ln, ld⟩, ⟨by omega, hsn⟩, by omega, Z ++ [FB r], weak_eq (by simp) (by simp [FB])⟩
          · have h3 : ¬ c < 0 := by omega
            have h4 : ¬ c = 0 := by omega
            rw [if_neg (hL4 (by omega) (fun h => absurd h h4))] at hsn
            simp [RB, FB, hns, h3, h4, i1]
            exact ⟨k + 1, sn, ⟨ln, ld⟩, ⟨by omega, hsn⟩, by omega, Z ++ [FB r], weak_eq (by simp) (by simp [FB])⟩
  · have hke : k = t.T.length := by omega
    have hRs : R = (s, true) := by
      rw [← hR]
      unfold leavR
      rw [← hke, hl]
    subst hRs
    simp [RB, FB, hlt]
end Go.Proofs.YtfoipbjhaiimlaaGreatDoor


/-
  layer 30: phase of the reference.
-/
namespace Go.Proofs.YtfoipbjhaiimlaaGreatDoor
open Go.RowKit
set_option linter.unusedSimpArgs false
set_option linter.unusedVariables false
set_option maxRecDepth 100000

theorem minO_len {a b c : List Fr} {f : Fr} (h : minO a f b = some c) : c.length = a.length := minK_len h
theorem rowsR_row {t : RTab} {w r j : Nat} {row : List Fr} (hS : RS w t) (hr : row.length = w + 1) : ∀ {k : Nat} {l : List (List Fr)}, k ≤ t.T.length → rowsR t r j row k = some l → ∀ x ∈ l, x.length = w + 1
  | 0, l, _, h, x, hx => by unfold rowsR at h; injection h with h; rw [← h] at hx; simp at hx
  | k + 1, l, hk, h, x, hx => by
    cases h1 : rowsR t r j row k with
    | none => unfold rowsR at h; rw [h1] at h; cases h
    | some l' =>
      rw [rowsR_succ h1] at h
      have ih := rowsR_row hS hr (by omega) h1
      cases h2 : newRow t r j row k with
      | none => rw [h2] at h; cases h
      | some d =>
        rw [h2] at h
        injection h with h
        rw [← h] at hx
        rcases List.mem_append.1 hx with hx | hx
        · exact ih x hx
        · rw [List.mem_singleton] at hx
          subst hx
          have hrk := hS.rowAt (show k < t.T.length by omega)
          unfold newRow at h2
          split at h2
          · injection h2 with h2; rw [← h2]; exact hr
          · split at h2
            · rw [minO_len h2]; exact hrk
            · injection h2 with h2; rw [← h2]; exact hrk
theorem RS.over {w : Nat} {t : RTab} (h : RS w t) : RS w (overR t) := ⟨h.w36, h.m24, h.row, h.bas, h.b64, h.cost⟩
theorem pivR_shape {w : Nat} {t : RTab} {i j : Nat} (h : RS w t) (hi : i < t.T.length) (hj : j < w) : RS w (pivR t i j) ∧ (pivR t i j).T.length = t.T.length ∧ (pivR t i j).Cost.length = t.Cost.length := by
  have hw := h.w36
  unfold pivR
  split
  · exact ⟨h.over, rfl, rfl⟩
  · rename_i row hrow
    have hr : row.length = w + 1 := by rw [divK_len hrow]; exact h.rowAt hi
    split
    · exact ⟨h.over, rfl, rfl⟩
    · rename_i rows hrs
      have hl := rowsR_len hrs
      split
      · exact ⟨h.over, rfl, rfl⟩
      · rename_i c hc
        have hcl : c.length = t.Cost.length := by
          unfold costR at hc
          split at hc
          · exact minO_len hc
          · injection hc with hc; rw [hc]
        refine ⟨⟨h.w36, by show rows.length ≤ 24; rw [hl]; exact h.m24, rowsR_row h hr (Nat.le_refl _) hrs, by show (basR _ _ _ _).length = rows.length; rw [basR_len, hl], fun b hb => ?_, ?_⟩, hl, hcl⟩
        · obtain ⟨q, hq, rfl⟩ := List.mem_map.1 hb
          have hq := List.mem_range.1 hq
          split
          · omega
          · exact h.b64 _ (ix_mem (by rw [h.bas]; exact hq))
        · show c = [] ∨ c.length = w + 1
          rcases h.cost with h1 | h1
          · left
            exact List.length_eq_zero_iff.1 (by rw [hcl, h1]; rfl)
          · right
            rw [hcl, h1]
theorem leavR_in (t : RTab) (j : Nat) (h : ¬ (leavR t j).1 < 0) : ∃ i : Nat, i < t.T.length ∧ (leavR t j).1 = i := by
  unfold leavR at h ⊢
  cases h1 : lvR t j t.T.length with
  | none => rw [h1] at h; simp at h
  | some p =>
    obtain ⟨s, low⟩ := p
    rw [h1] at h
    simp only at h ⊢
    have := lvR_s h1
    exact ⟨s.toNat, by omega, by omega⟩
theorem entR_le (t : RTab) (n : Nat) : ∀ k, k ≤ n → entR t n k ≤ n ∧ n - k ≤ entR t n k
  | 0, _ => ⟨Nat.le_refl _, by unfold entR; omega⟩
  | k + 1, h => by
    have := entR_le t n k (by omega)
    unfold entR
    split
    · omega
    · omega
theorem entR_succ (t : RTab) (n k : Nat) : entR t n (k + 1) = if (ix t.Cost (n - (k + 1))).N < 0 then n - (k + 1) else entR t n k := rfl
structure PrePhR (t : RTab) : Prop where
  s : ∃ w, RS w t ∧ t.Cost.length = w + 1
  h : HaltsR t
noncomputable def CRq : Ctx := mkC Tryz.prog G0 [(109, .pure sLeavR), (105, .pure sPivR)]
@[simp] theorem CRq_P : CRq.P = Tryz.prog := rfl
@[simp] theorem CRq_G : CRq.G = G0 := rfl
@[simp] theorem CRq_1 : CRq.S 109 = .pure sLeavR := rfl
@[simp] theorem CRq_2 : CRq.S 105 = .pure sPivR := rfl
theorem mixCRq : CRq.P.follows .mixedOrders = true := mixed
theorem sigCRq : SigOK CRq := sigOK_cons (entryPure (leavRR) Tryz.func109 rfl (by decide)) (sigOK_cons (entryPure (pivRR) Tryz.func105 rfl (by decide)) (sigOK_nil _ _))
noncomputable def sPhR : List AV → Option (Prop × AV) := spec1 PrePhR (fun t => .tup [Enc.enc (phaseR t).1, .bool (phaseR t).2])
set_option maxHeartbeats 16000000 in
theorem phaseRR : PureOK Tryz.prog G0 71 sPhR := by
  refine pureH1 (C := CRq) sigCRq mixCRq Tryz.func71 rfl rfl rfl [] (by kernel_rfl) (by decide) (fun t hp => ?_)
  obtain ⟨⟨w, hS, hc⟩, R, n, hn⟩ := hp
  rw [phaseR_eq hn]
  simp
  refine loop_ruleH (C := CRq) sigCRq mixCRq [] (fun q : Nat × RTab => ⟨[(1, .ptr 0 1 4 0 0), (2, .ptr 1 1 4 0 0)], [RB q.2, RZ]⟩) (fun q => runR q.1 q.2 = some R ∧ RS w q.2 ∧ q.2.Cost.length = w + 1) (fun q => q.1) (by kernel_rfl) ⟨(n, t), ⟨hn, hS, hc⟩, weak_eq (by simp) (by simp [RB, RZ])⟩ (fun ⟨n, u⟩ ⟨hn, hS, hc⟩ => ?_)
  simp only at hn hS hc ⊢
  cases n with
  | zero => cases hn
  | succ n =>
    have hw := hS.w36
    unfold runR at hn
    by_cases ho : u.Over = true
    · have hs : stepR u = .inl (u, true) := if_pos ho
      rw [hs] at hn
      injection hn with hn
      subst hn
      simp [RB, RZ, ho]
      done
    have ho' : u.Over = false := by simpa using ho
    have hww : w + 1 - 1 = w := by omega
    have hs : stepR u = if entR u w w = w then .inl (u, true)
      else if (leavR u (entR u w w)).2 = false then .inl (overR u, true)
      else if (leavR u (entR u w w)).1 < 0 then .inl (u, false) else .inr (pivR u (leavR u (entR u w w)).1.toNat (entR u w w)) := by
      unfold stepR
      simp only [hc, hww]
      rw [if_neg ho]
    rw [hs] at hn
    clear hs
    obtain ⟨uT, uB, uC, uO⟩ := u
    simp only at ho' hc
    subst ho'
    simp [RB, RZ]
    obtain ⟨u, hu⟩ : ∃ u : RTab, u = ⟨uT, uB, uC, false⟩ := ⟨_, rfl⟩
    rw [← hu] at hn hS
    have hin := leavR_in u
    refine loop_ruleH (C := CRq) sigCRq mixCRq [] (fun j : Nat => ⟨[(1, .ptr 0 1 4 0 0), (2, .ptr 1 1 4 0 0), (4, .int .i64 j)], [RB ⟨uT, uB, uC, false⟩, RZ]⟩) (fun j => j ≤ w ∧ entR u w w = entR u w (w - j)) (fun j => w - j) (by kernel_rfl) ⟨0, ⟨by omega, by simp⟩, weak_eq (by simp) (by simp [RB, RZ])⟩ (fun j ⟨hj, he⟩ => ?_)
    by_cases hjw : j < w
    · have i1 : I64 ((j : Int) + 1) := by unfold I64; omega
      have i2 : I64 (w : Int) := by unfold I64; omega
      have hjc : j < uC.length := by omega
      have hjw1 : j < w + 1 := by omega
      have he2 : entR u w (w - j) = if (ix uC j).N < 0 then j else entR u w (w - (j + 1)) := by
        obtain ⟨k, hk⟩ : ∃ k, w - j = k + 1 := ⟨w - j - 1, by omega⟩
        rw [hk, entR_succ]
        rw [show w - (k + 1) = j by omega, show w - (j + 1) = k by omega, hu]
      rw [he2] at he
      have hjwi : (j : Int) < (w : Int) := by omega
      have hjwn : ¬ (j : Int) = (w : Int) := by omega
      by_cases hN : (ix uC j).N < 0
      · rw [if_pos hN] at he
        have hNp : ¬ 0 ≤ (ix uC j).N := by omega
        rw [he, if_neg (by omega)] at hn
        have hpl : PreLv u j := ⟨⟨w, hS, hjwi⟩, by omega⟩
        rw [hu] at hpl
        obtain ⟨sv, ok, hv⟩ : ∃ sv ok, leavR u j = (sv, ok) := ⟨_, _, rfl⟩
        have hin := hin j
        rw [hv] at hn hin
        rw [hu] at hv
        cases ok with
        | false =>
          rw [if_pos rfl] at hn
          injection hn with hn
          subst hn
          simp [RB, RZ, hc, hjw, hjwi, hjwn, hjc, rowAt_enc hjc, hjw1, hNp, i2, sLeavR, hpl, hv, hu, overR]
          omega
        | true =>
          rw [if_neg (by simp)] at hn
          by_cases hsn : sv < 0
          · rw [if_pos hsn] at hn
            injection hn with hn
            subst hn
            simp [RB, RZ, hc, hjw, hjwi, hjwn, hjc, rowAt_enc hjc, hjw1, hNp, i2, sLeavR, hpl, hv, hu, hsn]
            omega
          · rw [if_neg hsn] at hn
            obtain ⟨i, hi, hii⟩ := hin hsn
            simp only at hii hn
            subst hii
            rw [Int.toNat_natCast] at hn
            have hpp : PrePv u i j := ⟨⟨w, hS, hjwi⟩, ⟨by omega, by omega⟩, by omega⟩
            obtain ⟨k1, k2, k3⟩ := pivR_shape hS hi hjw
            have hcu : u.Cost.length = w + 1 := by rw [hu]; exact hc
            have hnu : runR n (pivR u i j) = some R := hn
            rw [hu] at hpp
            simp [RB, RZ, hc, hjw, hjwi, hjwn, hjc, rowAt_enc hjc, hjw1, hNp, i2, sLeavR, hpl, hv, hsn, sPivR, hpp]
            exact ⟨by omega, n, pivR u i j, ⟨hnu, k1, by omega⟩, by omega, weak_eq (by simp) (by simp [RB, RZ, hu])⟩
      · rw [if_neg hN] at he
        have hNp : 0 ≤ (ix uC j).N := by omega
        simp [RB, RZ, hc, hjw, hjwi, hjc, rowAt_enc hjc, hjw1, hNp, i1, i2]
        exact ⟨by omega, j + 1, ⟨by omega, he⟩, by omega, weak_eq (by simp) (by simp)⟩
    · have hje : j = w := by omega
      subst hje
      have he3 : entR u j j = j := by rw [he, Nat.sub_self]; rfl
      rw [he3, if_pos rfl] at hn
      injection hn with hn
      subst hn
      have i2 : I64 (j : Int) := by unfold I64; omega
      simp [RB, RZ, hc, hu, i2]
      done
end Go.Proofs.YtfoipbjhaiimlaaGreatDoor


/-
  layer 30: begin of the reference.
-/
namespace Go.Proofs.YtfoipbjhaiimlaaGreatDoor
open Go.RowKit
set_option linter.unusedSimpArgs false
set_option linter.unusedVariables false
set_option maxRecDepth 100000

def rA (l : Lin) (i k : Nat) : List Fr := (List.range k).map fun c => putE l i (ix (ix l.A i) c)
def slk (l : Lin) (i j : Nat) : Fr := if j = i then (if keepB l i then ⟨-1, 1⟩ else F11) else F01
def rSl (l : Lin) (i k : Nat) : List Fr := rA l i l.C.length ++ (List.range k).map (slk l i)
def rhsE (l : Lin) (i : Nat) : Fr := if keepB l i then ix l.B i else negF (ix l.B i)
def rowR (l : Lin) (i : Nat) : List Fr := rSl l i l.A.length ++ [rhsE l i]
def basE (l : Lin) (i : Nat) : Int := if keepB l i then (l.C.length : Int) + l.A.length + i else (l.C.length : Int) + i
theorem rA_succ (l : Lin) (i k : Nat) : rA l i (k + 1) = rA l i k ++ [putE l i (ix (ix l.A i) k)] := by unfold rA; rw [List.range_succ, List.map_append]; rfl
theorem rA_len (l : Lin) (i k : Nat) : (rA l i k).length = k := by unfold rA; rw [List.length_map, List.length_range]
theorem rSl_succ (l : Lin) (i k : Nat) : rSl l i (k + 1) = rSl l i k ++ [slk l i k] := by unfold rSl; rw [List.range_succ, List.map_append, List.append_assoc]; rfl
theorem rSl_zero (l : Lin) (i : Nat) : rSl l i 0 = rA l i l.C.length := by unfold rSl; simp
theorem rSl_len (l : Lin) (i k : Nat) : (rSl l i k).length = l.C.length + k := by unfold rSl; rw [List.length_append, rA_len, List.length_map, List.length_range]
def rowsB (l : Lin) (k : Nat) : List (List Fr) := (List.range k).map (rowR l)
def basB (l : Lin) (k : Nat) : List Int := (List.range k).map (basE l)
theorem rowsB_succ (l : Lin) (k : Nat) : rowsB l (k + 1) = rowsB l k ++ [rowR l k] := by unfold rowsB; rw [List.range_succ, List.map_append]; rfl
theorem basB_succ (l : Lin) (k : Nat) : basB l (k + 1) = basB l k ++ [basE l k] := by unfold basB; rw [List.range_succ, List.map_append]; rfl
theorem rowsB_len (l : Lin) (k : Nat) : (rowsB l k).length = k := by unfold rowsB; rw [List.length_map, List.length_range]
theorem basB_len (l : Lin) (k : Nat) : (basB l k).length = k := by unfold basB; rw [List.length_map, List.length_range]
def begR (l : Lin) : RTab := ⟨rowsB l l.A.length, basB l l.A.length, [], false⟩
def RO (a b : Nat) (n m : Nat) : Blk := ⟨121, 4, [[.own a n, .own b m, .slice 2 true [], .bool false]], true, false⟩
noncomputable def CRb : Ctx := mkC Tryz.prog G0 [(106, .pure (spec0 (Enc.enc F01))), (72, .pure sNeg)]
@[simp] theorem CRb_P : CRb.P = Tryz.prog := rfl
@[simp] theorem CRb_G : CRb.G = G0 := rfl
@[simp] theorem CRb_1 : CRb.S 106 = .pure (spec0 (Enc.enc F01)) := rfl
@[simp] theorem CRb_2 : CRb.S 72 = .pure sNeg := rfl
theorem mixCRb : CRb.P.follows .mixedOrders = true := mixed
theorem sigCRb : SigOK CRb := sigOK_cons (entryPure (zeroR) Tryz.func106 rfl (by decide)) (sigOK_cons (entryPure (negR) Tryz.func72 rfl (by decide)) (sigOK_nil _ _))
def sBegR : List AV → Option (Prop × AV) := spec1 (fun l => checkF l = 0) (fun l => Enc.enc (begR l))
set_option maxHeartbeats 16000000 in
theorem begRR : PureOK Tryz.prog G0 68 sBegR := by
  refine pureH1 (C := CRb) sigCRb mixCRb Tryz.func68 rfl rfl rfl [] (by kernel_rfl) (by decide) (fun l hc => ?_)
  obtain ⟨k1, k2, k3, k4, k5, k6, k7⟩ := check_zero hc
  simp
  refine AW.weak (weak_nilcell 2 0 0 1 28 rfl rfl rfl (by decide)) ?_
  refine AW.weak (weak_nilcell 2 0 1 1 3 rfl rfl rfl (by decide)) ?_
  have scal22 : isScalT CRb 27 = false := by show isScalT ⟨Tryz.prog, fun _ => .no, G0⟩ 27 = false; kernel_rfl
  refine loop_ruleH (C := CRb) sigCRb mixCRb [] (fun q : Nat × List Blk => ⟨[(1, .ptr 0 1 3 0 0), (2, .ptr 1 1 4 0 0), (3, .int .i64 l.C.length), (4, .int .i64 l.A.length), (5, .ptr 2 1 4 0 0), (6, .int .i64 q.1)], CB l :: RZ :: RO 3 4 q.1 q.1 :: R1B (rowsB l q.1) :: R3B (basB l q.1) :: q.2⟩) (fun q => q.1 ≤ l.A.length) (fun q => l.A.length - q.1) (by kernel_rfl) ⟨(0, []), by simp, weak_eq (by simp) (by simp [CB, RZ, RO, R1B, R3B, rowsB, basB])⟩ (fun ⟨i, Z⟩ hi => ?_)
  simp only at hi ⊢
  have hrl := rowsB_len l i
  have hbl := basB_len l i
  by_cases hil : i < l.A.length
  · have i1 : I64 ((i : Int) + 1) := by unfold I64; omega
    have hib : i < l.B.length := by omega
    have hrow := (k7 _ (ix_mem hil)).1
    obtain ⟨kp, hkp⟩ : ∃ kp, keepB l i = kp := ⟨_, rfl⟩
    have hkd : decide (0 < (ix l.B i).N) = kp := hkp
    simp [CB, RZ, RO, R1B, R3B, hil, hib, rowAt_enc hib, hkd]
    refine AW.weak (weak_nil 8 2 35 rfl (by decide)) ?_
    have g1 : ∀ (x : Blk) (Y : List Blk), (Z ++ x :: Y)[Z.length]? = some x := fun x Y => by simp
    have s1 : ∀ (x x' : Blk) (Y : List Blk), (Z ++ x :: Y).set Z.length x' = Z ++ x' :: Y := fun x x' Y => by simp
    refine loop_ruleH (C := CRb) sigCRb mixCRb [] (fun k : Nat => ⟨[(1, .ptr 0 1 3 0 0), (2, .ptr 1 1 4 0 0), (3, .int .i64 l.C.length), (4, .int .i64 l.A.length), (5, .ptr 2 1 4 0 0), (6, .int .i64 i), (7, .bool kp), (8, .own (Z.length + 5) k), (9, .int .i64 k)], CB l :: RZ :: RO 3 4 i i :: R1B (rowsB l i) :: R3B (basB l i) :: (Z ++ [R2B (rA l i k)])⟩) (fun k => k ≤ l.C.length) (fun k => l.C.length - k) (by kernel_rfl) ⟨0, by simp, weak_eq (by simp) (by simp [CB, RZ, RO, R1B, R2B, R3B, rA])⟩ (fun k hk => ?_)
    have hral := rA_len l i k
    have hras := rA_succ l i k
    unfold putE at hras
    rw [hkp] at hras
    by_cases hkl : k < l.C.length
    · have i2 : I64 ((k : Int) + 1) := by unfold I64; omega
      have hkr : k < (ix l.A i).length := by omega
      cases kp with
      | true =>
        simp [CB, RZ, RO, R1B, R2B, R3B, hkl, hil, rowAt_enc hil, hkr, rowAt_enc hkr, g1, s1, hral, i2]
        exact ⟨⟨by omega, by omega⟩, k + 1, by omega, by omega, weak_eq (by simp) (by simp [hras])⟩
      | false =>
        simp [CB, RZ, RO, R1B, R2B, R3B, hkl, hil, rowAt_enc hil, hkr, rowAt_enc hkr, g1, s1, hral, i2, sNeg]
        exact ⟨⟨by omega, by omega⟩, k + 1, by omega, by omega, weak_eq (by simp) (by simp [hras])⟩
    · have hke : k = l.C.length := by omega
      subst hke
      clear hras
      simp [CB, RZ, RO, R1B, R2B, R3B, hkl]
      refine loop_ruleH (C := CRb) sigCRb mixCRb [] (fun q : Nat × List Blk => ⟨[(1, .ptr 0 1 3 0 0), (2, .ptr 1 1 4 0 0), (3, .int .i64 l.C.length), (4, .int .i64 l.A.length), (5, .ptr 2 1 4 0 0), (6, .int .i64 i), (7, .bool kp), (8, .own (Z.length + 5) (l.C.length + q.1)), (10, .int .i64 q.1)], CB l :: RZ :: RO 3 4 i i :: R1B (rowsB l i) :: R3B (basB l i) :: (Z ++ R2B (rSl l i q.1) :: q.2)⟩) (fun q => q.1 ≤ l.A.length) (fun q => l.A.length - q.1) (by kernel_rfl) ⟨(0, []), by simp, weak_eq (by simp) (by simp [CB, RZ, RO, R1B, R2B, R3B, rSl_zero])⟩ (fun ⟨j, Y⟩ hj => ?_)
      simp only at hj ⊢
      have hsl := rSl_len l i j
      have hss := rSl_succ l i j
      have hsk : slk l i j = if j = i then (if kp then ⟨-1, 1⟩ else F11) else F01 := by unfold slk; rw [hkp]
      by_cases hjl : j < l.A.length
      · have i2 : I64 ((j : Int) + 1) := by unfold I64; omega
        by_cases hji : j = i
        · subst hji
          rw [if_pos rfl] at hsk
          cases kp with
          | true =>
            simp [CB, RZ, RO, R1B, R2B, R3B, hjl, g1, s1, hsl, i2, F01]
            exact ⟨⟨by omega, by omega⟩, j + 1, by omega, by omega, Y ++ [FB ⟨-1, 1⟩], weak_eq (by simp [Nat.add_assoc]) (by simp [FB, hss, hsk, F11, F01])⟩
          | false =>
            simp [CB, RZ, RO, R1B, R2B, R3B, hjl, g1, s1, hsl, i2, F01]
            exact ⟨⟨by omega, by omega⟩, j + 1, by omega, by omega, Y ++ [FB F11], weak_eq (by simp [Nat.add_assoc]) (by simp [FB, hss, hsk, F11, F01])⟩
        · rw [if_neg hji] at hsk
          have hji' : ¬ (j : Int) = i := by omega
          simp [CB, RZ, RO, R1B, R2B, R3B, hjl, hji, hji', g1, s1, hsl, i2, F01]
          exact ⟨⟨by omega, by omega⟩, j + 1, by omega, by omega, Y ++ [FB F01], weak_eq (by simp [Nat.add_assoc]) (by simp [FB, hss, hsk, F11, F01])⟩
      · have hje : j = l.A.length := by omega
        subst hje
        have fz : ∀ (x : Blk) (Y : List Blk), frzL [Z.length + 5] 5 (Z ++ x :: Y) = Z ++ { x with mu := false } :: Y := fun x Y => by
          refine List.ext_getElem? fun q => ?_
          rw [frzL_get]
          by_cases hq : q = Z.length
          · subst hq
            have : [Z.length + 5].contains (5 + Z.length) = true := by simp; omega
            rw [this, g1, g1]
            rfl
          · have : [Z.length + 5].contains (5 + q) = false := by simp; omega
            rw [this]
            by_cases hq2 : q < Z.length
            · rw [List.getElem?_append_left hq2, List.getElem?_append_left hq2]
              cases Z[q]? <;> rfl
            · obtain ⟨p, rfl⟩ : ∃ p, q = Z.length + (p + 1) := ⟨q - Z.length - 1, by omega⟩
              rw [List.getElem?_append_right (by omega), List.getElem?_append_right (by omega), Nat.add_sub_cancel_left, List.getElem?_cons_succ, List.getElem?_cons_succ]
              cases Y[p]? <;> rfl
        have hre : rowR l i = rSl l i l.A.length ++ [rhsE l i] := rfl
        have hrh : rhsE l i = if kp then ix l.B i else negF (ix l.B i) := by unfold rhsE; rw [hkp]
        have hbe : basE l i = if kp then (l.C.length : Int) + l.A.length + i else (l.C.length : Int) + i := by unfold basE; rw [hkp]
        have hrs := rowsB_succ l i
        have hbs := basB_succ l i
        have i3 : I64 ((l.C.length : Int) + l.A.length) := by unfold I64; omega
        have i4 : I64 ((l.C.length : Int) + l.A.length + i) := by unfold I64; omega
        have i5 : I64 ((l.C.length : Int) + i) := by unfold I64; omega
        cases kp with
        | true =>
          simp [CB, RZ, RO, R1B, R2B, R3B, hjl, hib, rowAt_enc hib, g1, s1, hsl, hrl, hbl, i1, i3, i4, scal22, fz]
          exact ⟨⟨by omega, by omega⟩, ⟨by omega, by omega⟩, ⟨by omega, by omega⟩, i + 1, by omega, by omega, Z ++ ⟨35, 2, encRows (rSl l i l.A.length ++ [rhsE l i]), false, true⟩ :: Y, weak_eq (by simp) (by simp [hrs, hbs, hre, hrh, hbe])⟩
        | false =>
          simp [CB, RZ, RO, R1B, R2B, R3B, hjl, hib, rowAt_enc hib, g1, s1, hsl, hrl, hbl, i1, i5, scal22, fz, sNeg]
          exact ⟨⟨by omega, by omega⟩, ⟨by omega, by omega⟩, ⟨by omega, by omega⟩, i + 1, by omega, by omega, Z ++ ⟨35, 2, encRows (rSl l i l.A.length ++ [rhsE l i]), false, true⟩ :: Y, weak_eq (by simp) (by simp [hrs, hbs, hre, hrh, hbe])⟩
  · have hie : i = l.A.length := by omega
    subst hie
    simp [CB, RZ, RO, R1B, R3B, hil, hrl, hbl, begR]
    done
end Go.Proofs.YtfoipbjhaiimlaaGreatDoor


/-
  layer 30: first of the reference.
-/
namespace Go.Proofs.YtfoipbjhaiimlaaGreatDoor
open Go.RowKit
set_option linter.unusedSimpArgs false
set_option linter.unusedVariables false
set_option maxRecDepth 100000

theorem f1R_len {w : Nat} {t : RTab} (h : RS w t) : ∀ k, k ≤ t.T.length → (f1R t w k).1.length = w + 1
  | 0, _ => List.length_replicate
  | k + 1, hk => by
    have ih := f1R_len h k (by omega)
    unfold f1R
    split
    · exact ih
    · split
      · split
        · exact ih
        · rename_i d hd
          show d.length = w + 1
          rw [minO_len hd, ih]
      · exact ih
theorem f1R_bad {t : RTab} {size k : Nat} (h : (f1R t size k).2 = false) : ∀ n, f1R t size (k + n) = f1R t size k
  | 0 => rfl
  | n + 1 => by
    have ih := f1R_bad h n
    show f1R t size ((k + n) + 1) = _
    unfold f1R
    rw [if_pos (by rw [ih]; exact h), ih]
    cases k <;> rfl
theorem someR_succ (t : RTab) (size k : Nat) : someR t size (k + 1) = (someR t size k || decide ((size : Int) ≤ ix t.Basic k)) := by unfold someR; rw [List.range_succ, List.any_append]; simp
theorem repR_shape {w : Nat} {t : RTab} (h : RS w t) {i : Nat} (hi : i < t.T.length) : RS w (repR t w i) ∧ (repR t w i).T.length = t.T.length ∧ (repR t w i).Cost.length = t.Cost.length := by
  unfold repR
  split
  · exact ⟨h, rfl, rfl⟩
  · split
    · exact ⟨h, rfl, rfl⟩
    · split
      · rename_i hc; exact pivR_shape h hi hc
      · exact ⟨h, rfl, rfl⟩
theorem repsR_shape {w : Nat} {t : RTab} (h : RS w t) : ∀ k, k ≤ t.T.length → RS w (repsR t w k) ∧ (repsR t w k).T.length = t.T.length ∧ (repsR t w k).Cost.length = t.Cost.length
  | 0, _ => ⟨h, rfl, rfl⟩
  | k + 1, hk => by
    obtain ⟨h1, h2, h3⟩ := repsR_shape h k (by omega)
    obtain ⟨h4, h5, h6⟩ := repR_shape h1 (i := k) (by omega)
    exact ⟨h4, h5.trans h2, h6.trans h3⟩
theorem stepR_shape {w : Nat} {t : RTab} (h : RS w t) (hc : t.Cost.length = w + 1) : match stepR t with
    | .inl r => RS w r.1 ∧ r.1.Cost.length = w + 1 ∧ r.1.T.length = t.T.length
    | .inr u => RS w u ∧ u.Cost.length = w + 1 ∧ u.T.length = t.T.length := by
  have hwn : t.Cost.length - 1 = w := by omega
  unfold stepR
  simp only [hwn]
  split
  · rename_i q hq
    split at hq
    · injection hq with hq; rw [← hq]; exact ⟨h, hc, rfl⟩
    · split at hq
      · injection hq with hq; rw [← hq]; exact ⟨h, hc, rfl⟩
      · split at hq
        · injection hq with hq; rw [← hq]; exact ⟨h.over, hc, rfl⟩
        · split at hq
          · injection hq with hq; rw [← hq]; exact ⟨h, hc, rfl⟩
          · cases hq
  · rename_i q hq
    split at hq
    · cases hq
    · split at hq
      · cases hq
      · rename_i hjw
        split at hq
        · cases hq
        · split at hq
          · cases hq
          · rename_i hn
            injection hq with hq
            obtain ⟨i, hi, hii⟩ := leavR_in t _ hn
            rw [hii, Int.toNat_natCast] at hq
            have := (entR_le t w w (Nat.le_refl _)).1
            obtain ⟨k1, k2, k3⟩ := pivR_shape (i := i) (j := entR t w w) h hi (by omega)
            rw [← hq]
            exact ⟨k1, k3.trans hc, k2⟩
theorem runR_shape {w : Nat} : ∀ {n : Nat} {t : RTab} {r : RTab × Bool}, RS w t → t.Cost.length = w + 1 → runR n t = some r → RS w r.1 ∧ r.1.Cost.length = w + 1 ∧ r.1.T.length = t.T.length
  | 0, _, _, _, _, h => by cases h
  | n + 1, t, r, hS, hc, h => by
    have hs := stepR_shape hS hc
    unfold runR at h
    cases h1 : stepR t with
    | inl q =>
      rw [h1] at h hs
      injection h with h
      subst h
      exact hs
    | inr u =>
      rw [h1] at h hs
      have := runR_shape hs.1 hs.2.1 h
      exact ⟨this.1, this.2.1, this.2.2.trans hs.2.2⟩
theorem phaseR_shape {w : Nat} {t : RTab} (hS : RS w t) (hc : t.Cost.length = w + 1) (h : HaltsR t) : RS w (phaseR t).1 ∧ (phaseR t).1.Cost.length = w + 1 ∧ (phaseR t).1.T.length = t.T.length := by
  obtain ⟨r, n, hn⟩ := h
  rw [phaseR_eq hn]
  exact runR_shape hS hc hn
theorem colR_le (t : RTab) (i n : Nat) : ∀ k, k ≤ n → colR t i n k ≤ n ∧ n - k ≤ colR t i n k
  | 0, _ => ⟨Nat.le_refl _, by unfold colR; omega⟩
  | k + 1, h => by
    have := colR_le t i n k (by omega)
    unfold colR
    split <;> omega
theorem colR_succ (t : RTab) (i n k : Nat) : colR t i n (k + 1) = if (ix (ix t.T i) (n - (k + 1))).N ≠ 0 then n - (k + 1) else colR t i n k := rfl
def costed (t : RTab) (size : Nat) : RTab := ⟨t.T, t.Basic, (f1R t size t.T.length).1, t.Over⟩
theorem repsR_over {t : RTab} {size k : Nat} (h : (repsR t size k).Over = true) : ∀ n, repsR t size (k + n) = repsR t size k
  | 0 => rfl
  | n + 1 => by
    have ih := repsR_over h n
    show repR (repsR t size (k + n)) size (k + n) = _
    rw [ih]
    unfold repR
    rw [if_pos h]
/-- A tableau and whether its costs carry the mark of nil. -/
structure GVt where
  v : RTab
  f : Bool
def RBf (g : GVt) : Blk := ⟨121, 4, [[.slice 1 false (encRows g.v.T), .slice 1 false (encRows g.v.Basic), .slice 2 g.f (encRows g.v.Cost), .bool g.v.Over]], true, true⟩
structure PreFiR (t : RTab) (size : Int) : Prop where
  i : 1 ≤ size
  s : RS size.toNat t
  o : t.Over = false
  h : (f1R t size.toNat t.T.length).2 = true → someR t size.toNat t.T.length = true → HaltsR (costed t size.toNat)
noncomputable def CRf : Ctx := mkC Tryz.prog G0 [(69, .pure sZeros), (70, .pure sMinR), (71, .pure sPhR), (105, .pure sPivR)]
@[simp] theorem CRf_P : CRf.P = Tryz.prog := rfl
@[simp] theorem CRf_G : CRf.G = G0 := rfl
@[simp] theorem CRf_1 : CRf.S 69 = .pure sZeros := rfl
@[simp] theorem CRf_2 : CRf.S 70 = .pure sMinR := rfl
@[simp] theorem CRf_3 : CRf.S 71 = .pure sPhR := rfl
@[simp] theorem CRf_4 : CRf.S 105 = .pure sPivR := rfl
theorem mixCRf : CRf.P.follows .mixedOrders = true := mixed
theorem sigCRf : SigOK CRf := sigOK_cons (entryPure (zerosR) Tryz.func69 rfl (by decide)) (sigOK_cons (entryPure (minR) Tryz.func70 rfl (by decide)) (sigOK_cons (entryPure (phaseRR) Tryz.func71 rfl (by decide)) (sigOK_cons (entryPure (pivRR) Tryz.func105 rfl (by decide)) (sigOK_nil _ _))))
noncomputable def sFiR : List AV → Option (Prop × AV) := spec2 PreFiR (fun t size => .tup [Enc.enc (firstR t size.toNat).1, .bool (firstR t size.toNat).2])
set_option maxHeartbeats 16000000 in
theorem firstRR : PureOK Tryz.prog G0 67 sFiR := by
  refine pureH2 (C := CRf) sigCRf mixCRf Tryz.func67 rfl rfl rfl [8] (by kernel_rfl) (by decide) (fun t size hp => ?_)
  obtain ⟨hi, hS, ho, hh⟩ := hp
  obtain ⟨w, rfl⟩ : ∃ m : Nat, size = m := ⟨size.toNat, by omega⟩
  rw [Int.toNat_natCast] at *
  have hw := hS.w36
  have hm := hS.m24
  have iw : I64 ((w : Int) + 1) := by unfold I64; omega
  have hzw : (0 : Int) ≤ (w : Int) + 1 ∧ (w : Int) + 1 ≤ 1000 := by omega
  have hzt : ((w : Int) + 1).toNat = w + 1 := by omega
  obtain ⟨T, B, Co, O⟩ := t
  simp only at ho hm
  subst ho
  obtain ⟨t, ht⟩ : ∃ t : RTab, t = ⟨T, B, Co, false⟩ := ⟨_, rfl⟩
  rw [← ht] at hS hh ⊢
  have tT : t.T = T := by rw [ht]
  have tB : t.Basic = B := by rw [ht]
  have hBT : B.length = T.length := by rw [← tB, ← tT]; exact hS.bas
  have hrowT : ∀ k, k < T.length → (ix T k).length = w + 1 := fun k hk => by rw [← tT]; exact hS.rowAt (by rw [tT]; exact hk)
  have hflen := fun k (hk : k ≤ T.length) => f1R_len hS k (by rw [tT]; exact hk)
  simp [iw, sZeros, hzw, hzt]
  refine loop_ruleH (C := CRf) sigCRf mixCRf [8] (fun k : Nat => ⟨[(1, .int .i64 w), (2, .ptr 0 1 4 0 0), (4, .ptr 1 1 4 0 0), (6, .bool (someR t w k)), (7, .int .i64 k)], [RB ⟨T, B, (f1R t w k).1, false⟩, RZ]⟩) (fun k => k ≤ T.length ∧ (f1R t w k).2 = true) (fun k => T.length - k) (by kernel_rfl) ⟨0, ⟨by omega, rfl⟩, weak_eq (by simp [someR]) (by simp [RB, RZ, f1R, ht])⟩ (fun k ⟨hk, hok⟩ => ?_)
  have hfl := hflen k hk
  have hsk := someR_succ t w k
  rw [tB] at hsk
  by_cases hlt : k < T.length
  · have i1 : I64 ((k : Int) + 1) := by unfold I64; omega
    have hkb : k < B.length := by omega
    have hrk := hrowT k hlt
    have hfs : f1R t w (k + 1) = if (w : Int) ≤ ix B k then (match minO (f1R t w k).1 F11 (ix T k) with
      | none => ((f1R t w k).1, false)
      | some d => (d, true))
      else f1R t w k := by
      conv => { lhs; unfold f1R; rw [if_neg (by rw [hok]; decide), tB, tT] }
      all_goals rfl
    by_cases hb : (w : Int) ≤ ix B k
    · rw [if_pos hb] at hfs
      have hdb : decide ((w : Int) ≤ ix B k) = true := decide_eq_true hb
      rw [hdb, Bool.or_true] at hsk
      simp [RB, RZ, hlt, hkb, rowAt_enc hkb, hb]
      refine AW_regionF sigCRf mixCRf [.pure, .read, .pure, .pure, .read, .pure, .pure, .read, .read, .pure, .pure, .pure, .pure, .pure] [[],[0],[],[],[3],[],[5,3,4],[4,3,5,6],[6,5,3,4,7,2,0,1],[1,0,2,7,4,3,5,6,8],[8,6,5,3,4,7,2,0,1,9],[8,6,5,3,4,7,2,0,1,9],[9,1,0,2,7,4,3,5,6,8,10],[10,12,9,1,0,2,7,4,3,5,6,8,11]] (by kernel_rfl) (by kernel_rfl) (by kernel_rfl) (by kernel_rfl) ?_
      have hm1 : (f1R t w k).1.length ≤ 1000 := by omega
      have hm2 : (f1R t w k).1.length ≤ (ix T k).length := by omega
      cases hmo : minO (f1R t w k).1 F11 (ix T k) with
      | none =>
        rw [hmo] at hfs
        simp only at hfs
        have hbad := f1R_bad (t := t) (size := w) (k := k + 1) (by rw [hfs]) (T.length - (k + 1))
        rw [show k + 1 + (T.length - (k + 1)) = T.length by omega, hfs] at hbad
        have hfirst : firstR t w = (⟨T, B, (f1R t w k).1, true⟩, true) := by
          unfold firstR
          rw [tT, hbad, tB]
          exact if_pos rfl
        simp only [F11] at hmo
        simp [RB, RZ, hlt, rowAt_enc hlt, sMinR, hm1, hm2, hmo, hfirst]
        done
      | some d =>
        rw [hmo] at hfs
        simp only [F11] at hmo
        simp [RB, RZ, hlt, rowAt_enc hlt, sMinR, hm1, hm2, hmo, i1]
        exact ⟨k + 1, ⟨by omega, by rw [hfs]⟩, by omega, weak_eq (by simp [hsk]) (by simp [hfs])⟩
    · rw [if_neg hb] at hfs
      have hdb : decide ((w : Int) ≤ ix B k) = false := decide_eq_false hb
      rw [hdb, Bool.or_false] at hsk
      simp [RB, RZ, hlt, hkb, rowAt_enc hkb, hb, i1]
      exact ⟨k + 1, ⟨by omega, by rw [hfs]; exact hok⟩, by omega, weak_eq (by simp [hsk]) (by simp [hfs])⟩
  · have hke : k = T.length := by omega
    subst hke
    have hcs : costed t w = ⟨T, B, (f1R t w T.length).1, false⟩ := by unfold costed; rw [tT, tB, ht]
    have hfirst0 : firstR t w = if someR t w T.length = false then (costed t w, true)
      else if (phaseR (costed t w)).1.Over then ((phaseR (costed t w)).1, true)
      else if (ix (phaseR (costed t w)).1.Cost w).N < 0 then ((phaseR (costed t w)).1, false)
      else (repsR (noCost (phaseR (costed t w)).1) w (phaseR (costed t w)).1.T.length, true) := by
      unfold firstR costed
      rw [tT, hok, if_neg (by decide)]
    cases hsome : someR t w T.length with
    | false =>
      rw [if_pos hsome] at hfirst0
      simp [RB, RZ, hlt, hsome, hfirst0, hcs]
      done
    | true =>
      rw [if_neg (by rw [hsome]; decide)] at hfirst0
      have hH := hh (by rw [tT]; exact hok) (by rw [tT]; exact hsome)
      have hSc : RS w (costed t w) := by
        rw [hcs]
        exact ⟨hS.w36, by rw [← tT]; exact hS.m24, by rw [← tT]; exact hS.row, hBT, by rw [← tB]; exact hS.b64, .inr hfl⟩
      have hCc : (costed t w).Cost.length = w + 1 := by rw [hcs]; exact hfl
      obtain ⟨p1, p2, p3⟩ := phaseR_shape hSc hCc hH
      have hpp : PrePhR (costed t w) := ⟨⟨w, hSc, hCc⟩, hH⟩
      rw [hcs] at hpp p3
      have p3 : _ = T.length := p3
      rw [hcs] at hfirst0 p1 p2
      obtain ⟨u, pb, hu⟩ : ∃ u pb, phaseR ⟨T, B, (f1R t w T.length).1, false⟩ = (u, pb) := ⟨_, _, rfl⟩
      rw [hu] at hfirst0 p1 p2 p3
      simp only at hfirst0 p1 p2 p3
      obtain ⟨uT, uB, uC, uO⟩ := u
      cases uO with
      | true =>
        rw [if_pos rfl] at hfirst0
        simp [RB, RZ, hlt, hsome, hfirst0, sPhR, hpp, hu]
        done
      | false =>
        rw [if_neg (by simp)] at hfirst0
        simp only at hfirst0 p2 p3
        have hwc : w < uC.length := by omega
        by_cases hN : (ix uC w).N < 0
        · rw [if_pos hN] at hfirst0
          simp [RB, RZ, hlt, hsome, hfirst0, sPhR, hpp, hu, hwc, rowAt_enc hwc, hN]
          done
        · rw [if_neg hN] at hfirst0
          have hnc : noCost ⟨uT, uB, uC, false⟩ = ⟨uT, uB, [], false⟩ := rfl
          rw [hnc] at hfirst0
          have hS0 : RS w ⟨uT, uB, [], false⟩ := ⟨p1.w36, p1.m24, p1.row, p1.bas, p1.b64, .inl rfl⟩
          have hshp := fun k (hk : k ≤ uT.length) => repsR_shape hS0 k hk
          have hover := fun k => repsR_over (t := ⟨uT, uB, [], false⟩) (size := w) (k := k)
          have hstp : ∀ k, repsR ⟨uT, uB, [], false⟩ w (k + 1) = repR (repsR ⟨uT, uB, [], false⟩ w k) w k := fun k => rfl
          have hst0 : repsR ⟨uT, uB, [], false⟩ w 0 = ⟨uT, uB, [], false⟩ := rfl
          generalize repsR ⟨uT, uB, [], false⟩ w = rep at *
          simp [RB, RZ, hlt, hsome, sPhR, hpp, hu, hwc, rowAt_enc hwc, hN]
          refine loop_ruleH (C := CRf) sigCRf mixCRf [8] (fun q : Nat × GVt => ⟨[(1, .int .i64 w), (4, .ptr 1 1 4 0 0), (10, .ptr 2 1 4 0 0), (12, .int .i64 q.1)], [RB ⟨T, B, (f1R t w T.length).1, false⟩, RZ, RBf q.2]⟩) (fun q => q.1 ≤ uT.length ∧ q.2.v = rep q.1) (fun q => uT.length - q.1) (by kernel_rfl) ⟨(0, ⟨⟨uT, uB, [], false⟩, true⟩), ⟨by simp, hst0.symm⟩, weak_eq (by simp) (by simp [RB, RZ, RBf])⟩ (fun ⟨k, ⟨v, f⟩⟩ ⟨hk, hv⟩ => ?_)
          simp only at hk hv ⊢
          obtain ⟨r1, r2, r3⟩ := hshp k hk
          have hov := hover k
          have hsp := hstp k
          rw [← hv] at r1 r2 r3 hov hsp
          obtain ⟨vT, vB, vC, vO⟩ := v
          simp only at r2 r3 hov
          have r2 : vT.length = uT.length := r2
          by_cases hkl : k < uT.length
          case neg =>
            have hke : k = uT.length := by omega
            rw [← hke, ← hv] at hfirst0
            have hkv : ¬ (k : Int) < vT.length := by omega
            simp [RB, RZ, RBf, hkv, r2, hkl, hfirst0]
            done
          have hkv : k < vT.length := by omega
          cases vO with
          | true =>
            have hov := hov rfl (uT.length - k)
            rw [show k + (uT.length - k) = uT.length by omega] at hov
            rw [hov] at hfirst0
            simp [RB, RZ, RBf, hkv, hfirst0]
            done
          | false =>
            have i1 : I64 ((k : Int) + 1) := by unfold I64; omega
            have hkb : k < vB.length := by have := r1.bas; simp only at this; omega
            unfold repR at hsp
            rw [if_neg (by simp)] at hsp
            simp only at hsp
            by_cases hb : ix vB k < (w : Int)
            · rw [if_pos hb] at hsp
              simp [RB, RZ, RBf, hkv, hkb, rowAt_enc hkb, hb, i1]
              exact ⟨k + 1, ⟨⟨vT, vB, vC, false⟩, f⟩, ⟨by omega, hsp.symm⟩, by omega, weak_eq (by simp) (by simp)⟩
            · rw [if_neg hb] at hsp
              simp [RB, RZ, RBf, hkv, hkb, rowAt_enc hkb, hb]
              have hcle := colR_le ⟨vT, vB, vC, false⟩ k w w (Nat.le_refl _)
              have hcs2 := colR_succ ⟨vT, vB, vC, false⟩ k w
              have hc0 : colR ⟨vT, vB, vC, false⟩ k w 0 = w := rfl
              generalize colR ⟨vT, vB, vC, false⟩ k w = col at *
              have hrk : (ix vT k).length = w + 1 := r1.rowAt hkv
              refine loop_ruleH (C := CRf) sigCRf mixCRf [8] (fun j : Nat => ⟨[(1, .int .i64 w), (4, .ptr 1 1 4 0 0), (10, .ptr 2 1 4 0 0), (12, .int .i64 k), (13, .int .i64 j)], [RB ⟨T, B, (f1R t w T.length).1, false⟩, RZ, RBf ⟨⟨vT, vB, vC, false⟩, f⟩]⟩) (fun j => j ≤ w ∧ col w = col (w - j)) (fun j => w - j) (by kernel_rfl) ⟨0, ⟨by omega, by simp⟩, weak_eq (by simp) (by simp [RB, RZ, RBf])⟩ (fun j ⟨hj, hcj⟩ => ?_)
              by_cases hjw : j < w
              · have i2 : I64 ((j : Int) + 1) := by unfold I64; omega
                have hjr : j < (ix vT k).length := by omega
                have hjwi : (j : Int) < w := by omega
                have hjw1 : j < w + 1 := by omega
                obtain ⟨q, hq⟩ : ∃ q, w - j = q + 1 := ⟨w - j - 1, by omega⟩
                rw [hq, hcs2, show w - (q + 1) = j by omega] at hcj
                by_cases hz : (ix (ix vT k) j).N = 0
                · rw [if_neg (fun h => h hz), show q = w - (j + 1) by omega] at hcj
                  simp [RB, RZ, RBf, hjw, hjwi, hkv, rowAt_enc hkv, hjr, rowAt_enc hjr, hz, hrk, i2]
                  exact ⟨by omega, j + 1, ⟨by omega, hcj⟩, by omega, weak_eq (by simp) (by simp)⟩
                · rw [if_pos hz] at hcj
                  rw [hcj, if_pos hjw] at hsp
                  have hpv : PrePv ⟨vT, vB, vC, false⟩ k j := ⟨⟨w, r1, by omega⟩, ⟨by omega, by show (k : Int) < vT.length; omega⟩, by omega⟩
                  simp [RB, RZ, RBf, hjw, hjwi, hkv, rowAt_enc hkv, hjr, rowAt_enc hjr, hz, hrk, sPivR, hpv, i1]
                  exact ⟨by omega, k + 1, ⟨pivR ⟨vT, vB, vC, false⟩ k j, false⟩, ⟨by omega, hsp.symm⟩, by omega, weak_eq (by simp) (by simp)⟩
              · have hje : j = w := by omega
                subst hje
                rw [Nat.sub_self, hc0] at hcj
                rw [hcj, if_neg (by omega)] at hsp
                have hjj : ¬ (j : Int) < j := by omega
                simp [RB, RZ, RBf, hjj, i1]
                exact ⟨k + 1, ⟨⟨vT, vB, vC, false⟩, f⟩, ⟨by omega, hsp.symm⟩, by omega, weak_eq (by simp) (by simp)⟩
end Go.Proofs.YtfoipbjhaiimlaaGreatDoor


/-
  layer 30: Solve of the reference.
-/
namespace Go.Proofs.YtfoipbjhaiimlaaGreatDoor
open Go.RowKit
set_option linter.unusedSimpArgs false
set_option linter.unusedVariables false
set_option maxRecDepth 100000

def cost2 (l : Lin) : List Fr := l.C ++ List.replicate (l.A.length + 1) F01
/-- The costs of phase two after k rows, and whether they are not too great. -/
def s1R (t : RTab) (l : Lin) : Nat → List Fr × Bool
  | 0 => (cost2 l, true)
  | k + 1 => if (s1R t l k).2 = false then s1R t l k
    else if ix t.Basic k < l.C.length ∧ (ix l.C (ix t.Basic k).toNat).N ≠ 0 then (match minO (s1R t l k).1 (ix l.C (ix t.Basic k).toNat) (ix t.T k) with
      | none => ((s1R t l k).1, false)
      | some d => (d, true))
    else s1R t l k
theorem s1R_bad {t : RTab} {l : Lin} {k : Nat} (h : (s1R t l k).2 = false) : ∀ n, s1R t l (k + n) = s1R t l k
  | 0 => rfl
  | n + 1 => by
    have ih := s1R_bad h n
    show s1R t l ((k + n) + 1) = _
    unfold s1R
    rw [if_pos (by rw [ih]; exact h), ih]
    cases k <;> rfl
theorem s1R_len {w : Nat} {t : RTab} {l : Lin} (h : RS w t) (hw : w = l.C.length + l.A.length) : ∀ k, k ≤ t.T.length → (s1R t l k).1.length = w + 1
  | 0, _ => by unfold s1R cost2; rw [List.length_append, List.length_replicate]; omega
  | k + 1, hk => by
    have ih := s1R_len h hw k (by omega)
    unfold s1R
    split
    · exact ih
    · split
      · split
        · exact ih
        · rename_i d hd
          show d.length = w + 1
          rw [minO_len hd, ih]
      · exact ih
def xR (t : RTab) (n size : Nat) : Nat → List Fr
  | 0 => List.replicate n F01
  | k + 1 => if ix t.Basic k < n then (xR t n size k).set (ix t.Basic k).toNat (ix (ix t.T k) size) else xR t n size k
theorem xR_len (t : RTab) (n size : Nat) : ∀ k, (xR t n size k).length = n
  | 0 => List.length_replicate
  | k + 1 => by
    unfold xR
    split
    · rw [List.length_set]; exact xR_len t n size k
    · exact xR_len t n size k
def costed2 (t : RTab) (l : Lin) : RTab := ⟨t.T, t.Basic, (s1R t l t.T.length).1, t.Over⟩
noncomputable def solveR (l : Lin) : List Fr × Fr × Int :=
  if checkF l ≠ 0 then ([], F00, checkF l)
  else if (firstR (begR l) (l.C.length + l.A.length)).1.Over = true then ([], F00, 24)
  else if (firstR (begR l) (l.C.length + l.A.length)).2 = false then ([], F00, 23)
  else if (s1R (firstR (begR l) (l.C.length + l.A.length)).1 l (firstR (begR l) (l.C.length + l.A.length)).1.T.length).2 = false then ([], F00, 24)
  else if (phaseR (costed2 (firstR (begR l) (l.C.length + l.A.length)).1 l)).1.Over = true then ([], F00, 24)
  else if (phaseR (costed2 (firstR (begR l) (l.C.length + l.A.length)).1 l)).2 = false then ([], F00, 19)
  else (xR (phaseR (costed2 (firstR (begR l) (l.C.length + l.A.length)).1 l)).1 l.C.length (l.C.length + l.A.length) (phaseR (costed2 (firstR (begR l) (l.C.length + l.A.length)).1 l)).1.T.length, negF (ix (phaseR (costed2 (firstR (begR l) (l.C.length + l.A.length)).1 l)).1.Cost (l.C.length + l.A.length)), 0)
/-- Both phases of the reference come to an end. -/
structure HaltsRL (l : Lin) : Prop where
  f : PreFiR (begR l) ((l.C.length : Int) + l.A.length)
  s : RS (l.C.length + l.A.length) (firstR (begR l) (l.C.length + l.A.length)).1 ∧ (firstR (begR l) (l.C.length + l.A.length)).1.T.length = l.A.length
  h : (firstR (begR l) (l.C.length + l.A.length)).1.Over = false → (firstR (begR l) (l.C.length + l.A.length)).2 = true → (s1R (firstR (begR l) (l.C.length + l.A.length)).1 l l.A.length).2 = true → HaltsR (costed2 (firstR (begR l) (l.C.length + l.A.length)).1 l)
structure PreSolveR (l : Lin) : Prop where
  small : SmallL l
  halts : checkF l = 0 → HaltsRL l
@[simp] theorem ren_rows_fr (s : Nat → Nat) (l : List Fr) : (encRows l).map (fun r => r.map (ren1 s)) = encRows l := ren_rows s (fun _ => rfl) l
@[simp] theorem okB_fr (m : Nat) (e : TypeId) (sz : Nat) (l : List Fr) (mu deep : Bool) : okB m ⟨e, sz, encRows l, mu, deep⟩ = true := ok_rows m (fun _ => rfl) l
noncomputable def sZerosN : List AV → List Blk → Option (Prop × AV × List Blk) := genNew (nspec1 (fun (n : Int) => 0 ≤ n ∧ n ≤ 1000) (fun n => .own 0 n.toNat) fun n => [R2B (List.replicate n.toNat F01)])
set_option maxHeartbeats 4000000 in
theorem zerosN : GenOK Tryz.prog G0 69 sZerosN := by
  refine newH1 (C := CRz) sigCRz mixCRz Tryz.func69 rfl rfl rfl [] (by kernel_rfl) (by decide) (fun n => [0]) (by simp) (fun n => ⟨by simp [okR, ok2, AV.clean1], by simp [R2B]⟩) (fun n ⟨h0, h1⟩ => ?_)
  obtain ⟨n, rfl⟩ : ∃ m : Nat, n = m := ⟨n.toNat, by omega⟩
  simp
  refine AW.weak (weak_nil 3 2 35 rfl (by decide)) ?_
  refine loop_ruleH (C := CRz) sigCRz mixCRz [] (fun k : Nat => ⟨[(0, .int .i64 n), (3, .own 0 k), (4, .int .i64 k)], [R2B (List.replicate k F01)]⟩) (fun k => k ≤ n) (fun k => n - k) (by kernel_rfl) ⟨0, by simp, weak_eq (by simp) (by simp [R2B])⟩ (fun k hk => ?_)
  by_cases hlt : k < n
  · have i1 : I64 ((k : Int) + 1) := by unfold I64; omega
    have hlt' : (k : Int) < n := by omega
    simp [R2B, hlt, hlt', i1, F01]
    exact ⟨⟨by omega, by omega⟩, k + 1, by omega, by omega, weak_eq (by simp) (by simp [R2B, List.replicate_succ', F01])⟩
  · have hke : k = n := by omega
    subst hke
    simp [R2B]
    refine wEnd_here ?_
    simp [R2B]
noncomputable def CRs : Ctx := mkC Tryz.prog G0 [(66, .pure sCheckF), (68, .pure sBegR), (67, .pure sFiR), (69, .gen sZerosN), (70, .pure sMinR), (71, .pure sPhR), (72, .pure sNeg)]
@[simp] theorem CRs_P : CRs.P = Tryz.prog := rfl
@[simp] theorem CRs_G : CRs.G = G0 := rfl
@[simp] theorem CRs_1 : CRs.S 66 = .pure sCheckF := rfl
@[simp] theorem CRs_2 : CRs.S 68 = .pure sBegR := rfl
@[simp] theorem CRs_3 : CRs.S 67 = .pure sFiR := rfl
@[simp] theorem CRs_4 : CRs.S 69 = .gen sZerosN := rfl
@[simp] theorem CRs_5 : CRs.S 70 = .pure sMinR := rfl
@[simp] theorem CRs_6 : CRs.S 71 = .pure sPhR := rfl
@[simp] theorem CRs_7 : CRs.S 72 = .pure sNeg := rfl
theorem mixCRs : CRs.P.follows .mixedOrders = true := mixed
theorem sigCRs : SigOK CRs := sigOK_cons (entryPure (checkR) Tryz.func66 rfl (by decide)) (sigOK_cons (entryPure (begRR) Tryz.func68 rfl (by decide)) (sigOK_cons (entryPure (firstRR) Tryz.func67 rfl (by decide)) (sigOK_cons (entryGen (zerosN) Tryz.func69 rfl (by decide)) (sigOK_cons (entryPure (minR) Tryz.func70 rfl (by decide)) (sigOK_cons (entryPure (phaseRR) Tryz.func71 rfl (by decide)) (sigOK_cons (entryPure (negR) Tryz.func72 rfl (by decide)) (sigOK_nil _ _)))))))
noncomputable def sSolveR : List AV → Option (Prop × AV) := spec1 PreSolveR (fun l => .tup [Enc.enc (solveR l).1, Enc.enc (solveR l).2.1, .int .i64 (solveR l).2.2])
set_option maxHeartbeats 16000000 in
theorem solveRR : PureOK Tryz.prog G0 32 sSolveR := by
  refine pureH1 (C := CRs) sigCRs mixCRs Tryz.func32 rfl rfl rfl [11, 15, 16, 30] (by kernel_rfl) (by decide) (fun l hp => ?_)
  have hs := hp.small
  by_cases h1 : checkF l = 0
  case neg =>
    have e : solveR l = ([], F00, checkF l) := if_pos h1
    simp [sCheckF, hs, h1, e, F00]
  obtain ⟨hf, ⟨hS, hT⟩, hh⟩ := hp.halts h1
  obtain ⟨k1, k2, k3, k4, k5, k6, k7⟩ := check_zero h1
  have hC1 : 1 ≤ l.C.length := by cases hC : l.C with | nil => exact absurd hC k3 | cons a r => simp
  obtain ⟨w, hw⟩ : ∃ w, l.C.length + l.A.length = w := ⟨_, rfl⟩
  have hwi : (l.C.length : Int) + l.A.length = w := by omega
  have iw : I64 (w : Int) := by unfold I64; omega
  have eR : solveR l = if (firstR (begR l) w).1.Over = true then ([], F00, 24)
    else if (firstR (begR l) w).2 = false then ([], F00, 23)
    else if (s1R (firstR (begR l) w).1 l (firstR (begR l) w).1.T.length).2 = false then ([], F00, 24)
    else if (phaseR (costed2 (firstR (begR l) w).1 l)).1.Over = true then ([], F00, 24)
    else if (phaseR (costed2 (firstR (begR l) w).1 l)).2 = false then ([], F00, 19)
    else (xR (phaseR (costed2 (firstR (begR l) w).1 l)).1 l.C.length w (phaseR (costed2 (firstR (begR l) w).1 l)).1.T.length, negF (ix (phaseR (costed2 (firstR (begR l) w).1 l)).1.Cost w), 0) := by
    unfold solveR
    rw [if_neg (fun e => e h1), hw]
  rw [hw] at hS hT hh
  rw [hwi] at hf
  have hwt : ((w : Int)).toNat = w := Int.toNat_natCast w
  obtain ⟨t, fb, htf⟩ : ∃ t fb, firstR (begR l) w = (t, fb) := ⟨_, _, rfl⟩
  rw [htf] at eR hS hT hh
  simp only at eR hS hT hh
  obtain ⟨T, B, Co, O⟩ := t
  cases O with
  | true =>
    rw [if_pos rfl] at eR
    simp [sCheckF, hs, h1, sBegR, hwi, iw, sFiR, hf, htf, eR, F00]
    done
  | false =>
  rw [if_neg (by simp)] at eR
  cases fb with
  | false =>
    rw [if_pos rfl] at eR
    simp [sCheckF, hs, h1, sBegR, hwi, iw, sFiR, hf, htf, eR, F00]
    done
  | true =>
  rw [if_neg (by simp)] at eR
  have hz1 : (0 : Int) ≤ (l.A.length : Int) + 1 ∧ (l.A.length : Int) + 1 ≤ 1000 := by omega
  have hz2 : ((l.A.length : Int) + 1).toNat = l.A.length + 1 := by omega
  have im : I64 ((l.A.length : Int) + 1) := by unfold I64; omega
  simp [sCheckF, hs, h1, sBegR, hwi, iw, sFiR, hf, htf]
  refine AW_regionF sigCRs mixCRs [.read, .pure, .read, .eff, .pure, .read, .pure, .pure, .eff, .eff, .pure, .eff] [[],[],[1],[1,2,0],[],[4],[4,5],[5,4,6],[0,2,1,3,6,4,5,7],[7,5,4,6,8,0,2,1,3],[9,8,7,6,5,4,3,2,1,0],[0,1,2,3,4,5,6,7,8,9,10]] (by kernel_rfl) (by kernel_rfl) (by kernel_rfl) (by kernel_rfl) ?_
  simp [CB, RB, R2B, sZerosN, hz1, hz2, im]
  refine ⟨⟨by omega, by omega⟩, ⟨by omega, by omega⟩, ?_⟩
  have hcl : l.C.length + (l.A.length + 1) = w + 1 := by omega
  have hclos : ∀ ρ : List (Nat × AV), Weak CRs 156 0 ⟨ρ, [CB l, FB F00, ⟨121, 4, [[.slice 1 false (encRows T), .slice 1 false (encRows B), .own 3 (w + 1), .bool false]], true, false⟩, R2B (cost2 l), R2B (List.replicate (l.A.length + 1) F01)]⟩ ⟨ρ, [CB l, FB F00, RB ⟨T, B, cost2 l, false⟩, ⟨35, 2, encRows (cost2 l), false, true⟩, R2B (List.replicate (l.A.length + 1) F01)]⟩ := fun ρ => by
    have hc2 : (cost2 l).length = w + 1 := by unfold cost2; rw [List.length_append, List.length_replicate]; omega
    have w := weak_close (C := CRs) (N := 156) (h0 := 0) (ρ := ρ) (H := [CB l, FB F00, ⟨121, 4, [[.slice 1 false (encRows T), .slice 1 false (encRows B), .own 3 (w + 1), .bool false]], true, false⟩, R2B (cost2 l), R2B (List.replicate (l.A.length + 1) F01)]) 2 rfl [3] (fun r hr c hc q hq => by
      simp only [List.mem_singleton] at hr
      subst hr
      simp only [List.mem_cons, List.not_mem_nil, or_false] at hc
      rcases hc with rfl | rfl | rfl | rfl
      · simp [reach] at hq
      · simp [reach] at hq
      · simpa [reach, R2B] using hq
      · simp [reach] at hq) (by decide)
    have e : ∀ H : List Blk, H = [CB l, FB F00, RB ⟨T, B, cost2 l, false⟩, ⟨35, 2, encRows (cost2 l), false, true⟩, R2B (List.replicate (l.A.length + 1) F01)] → Weak CRs 156 0 ⟨ρ, H⟩ ⟨ρ, [CB l, FB F00, RB ⟨T, B, cost2 l, false⟩, ⟨35, 2, encRows (cost2 l), false, true⟩, R2B (List.replicate (l.A.length + 1) F01)]⟩ := fun H h => by rw [h]; exact Weak.refl _
    exact w.trans (e _ (by simp [CB, FB, RB, R2B, hc2]))
  obtain ⟨t, ht⟩ : ∃ t : RTab, t = ⟨T, B, Co, false⟩ := ⟨_, rfl⟩
  rw [← ht] at eR hS hh
  have tT : t.T = T := by rw [ht]
  have tB : t.Basic = B := by rw [ht]
  have hT : T.length = l.A.length := hT
  have hBT : B.length = T.length := by rw [← tB, ← tT]; exact hS.bas
  have hrowT : ∀ k, k < T.length → (ix T k).length = w + 1 := fun k hk => by rw [← tT]; exact hS.rowAt (by rw [tT]; exact hk)
  have hflen := fun k (hk : k ≤ T.length) => s1R_len (l := l) hS hw.symm k (by rw [tT]; exact hk)
  have hB0 : ∀ k, k < B.length → 0 ≤ ix B k := fun k hk => by rw [← tB]; exact (hS.b64 _ (ix_mem (by rw [tB]; exact hk))).1
  refine loop_ruleH (C := CRs) sigCRs mixCRs [11, 15, 16, 30] (fun k : Nat => ⟨[(1, .ptr 0 1 3 0 0), (3, .ptr 1 1 2 0 0), (6, .int .i64 l.C.length), (7, .int .i64 w), (8, .ptr 2 1 4 0 0), (10, .int .i64 k)], [CB l, FB F00, RB ⟨T, B, (s1R t l k).1, false⟩, ⟨35, 2, encRows (cost2 l), false, true⟩, R2B (List.replicate (l.A.length + 1) F01)]⟩) (fun k => k ≤ T.length ∧ (s1R t l k).2 = true) (fun k => T.length - k) (by kernel_rfl) ⟨0, ⟨by omega, rfl⟩, (weak_eq (by simp) (by simp [CB, FB, R2B, cost2, hcl, F00])).trans (hclos [(1, .ptr 0 1 3 0 0), (3, .ptr 1 1 2 0 0), (6, .int .i64 l.C.length), (7, .int .i64 w), (8, .ptr 2 1 4 0 0), (10, .int .i64 0)])⟩ (fun k ⟨hk, hok⟩ => ?_)
  have hfl := hflen k hk
  by_cases hlt : k < T.length
  · have i1 : I64 ((k : Int) + 1) := by unfold I64; omega
    have hkb : k < B.length := by omega
    have hrk := hrowT k hlt
    have hfs : s1R t l (k + 1) = if ix B k < l.C.length ∧ (ix l.C (ix B k).toNat).N ≠ 0 then (match minO (s1R t l k).1 (ix l.C (ix B k).toNat) (ix T k) with
      | none => ((s1R t l k).1, false)
      | some d => (d, true))
      else s1R t l k := by
      conv => { lhs; unfold s1R; rw [if_neg (by rw [hok]; decide), tB, tT] }
    obtain ⟨bn, hbn⟩ : ∃ bn : Nat, ix B k = bn := ⟨(ix B k).toNat, by have := hB0 k hkb; omega⟩
    rw [hbn, Int.toNat_natCast] at hfs
    have hlt' : (k : Int) < T.length := by omega
    simp [CB, FB, RB, hlt]
    refine AW_regionF sigCRs mixCRs [.pure, .read, .pure, .pure, .read, .pure, .pure, .pure, .pure, .read, .pure, .read, .pure, .pure, .read, .pure, .pure, .read, .pure, .pure] [[],[0],[],[2,0,1],[1,0,2,3],[],[5,3,2,0,1,4],[4,1,0,2,3,5,6],[6,5,3,2,0,1,4,7],[7,4,1,0,2,3,5,6,8],[6,5,3,2,0,1,4,7],[7,4,1,0,2,3,5,6,10],[6,5,3,2,0,1,4,7],[12,10,6,5,3,2,0,1,4,7,11],[11,7,4,1,0,2,3,5,6,10,12,13],[13,12,10,11,14,8,6,5,3,2,0,1,4,7,9],[9,7,4,1,0,2,3,5,6,8,14,11,10,12,13,15],[15,13,12,10,11,14,8,6,5,3,2,0,1,4,7,9,16],[16,9,7,4,1,0,2,3,5,6,8,14,11,10,12,13,15,17],[17,15,13,12,10,11,14,8,9,16,18,6,5,3,2,0,1,4,7]] (by kernel_rfl) (by kernel_rfl) (by kernel_rfl) (by kernel_rfl) ?_
    by_cases hbl : bn < l.C.length
    · have hbi : (bn : Int) < l.C.length := by omega
      by_cases hN : (ix l.C bn).N = 0
      · rw [if_neg (fun h => h.2 hN)] at hfs
        simp [CB, FB, RB, hlt, hkb, rowAt_enc hkb, hbn, hbl, hbi, rowAt_enc hbl, hN, i1]
        exact ⟨k + 1, ⟨by omega, by rw [hfs]; exact hok⟩, by omega, weak_eq (by simp) (by simp [hfs])⟩
      · rw [if_pos ⟨by omega, hN⟩] at hfs
        simp [CB, FB, RB, hlt, hkb, rowAt_enc hkb, hbn, hbl, hbi, rowAt_enc hbl, hN]
        refine AW_regionF sigCRs mixCRs [.pure, .read, .pure, .read, .pure, .read, .pure, .pure, .read, .pure, .read, .pure, .read, .pure, .pure, .read, .read, .pure, .pure, .pure, .pure, .pure] [[],[0],[],[2],[],[4],[],[6,4,5],[5,4,6,7],[7,6,4,5,8,2,3],[3,2,8,5,4,6,7,9],[],[11],[],[13,11,12],[12,11,13,14],[14,13,11,12,15,9,7,6,4,5,8,2,3,10,0,1],[1,0,10,3,2,8,5,4,6,7,9,15,12,11,13,14,16],[16,14,13,11,12,15,9,7,6,4,5,8,2,3,10,0,1,17],[16,14,13,11,12,15,9,7,6,4,5,8,2,3,10,0,1,17],[17,1,0,10,3,2,8,5,4,6,7,9,15,12,11,13,14,16,18],[18,20,17,1,0,10,3,2,8,5,4,6,7,9,15,12,11,13,14,16,19]] (by kernel_rfl) (by kernel_rfl) (by kernel_rfl) (by kernel_rfl) ?_
        have hm1 : (s1R t l k).1.length ≤ 1000 := by omega
        have hm2 : (s1R t l k).1.length ≤ (ix T k).length := by omega
        cases hmo : minO (s1R t l k).1 (ix l.C bn) (ix T k) with
        | none =>
          rw [hmo] at hfs
          simp only at hfs
          have hbad := s1R_bad (t := t) (l := l) (k := k + 1) (by rw [hfs]) (T.length - (k + 1))
          rw [show k + 1 + (T.length - (k + 1)) = T.length by omega, hfs] at hbad
          rw [tT, hbad, if_pos rfl] at eR
          simp [CB, FB, RB, hlt, rowAt_enc hlt, hkb, rowAt_enc hkb, hbn, hbl, hbi, rowAt_enc hbl, sMinR, hm1, hm2, hmo, eR, F00]
          done
        | some d =>
          rw [hmo] at hfs
          simp only at hfs
          simp [CB, FB, RB, hlt, rowAt_enc hlt, hkb, rowAt_enc hkb, hbn, hbl, hbi, rowAt_enc hbl, sMinR, hm1, hm2, hmo, i1]
          exact ⟨k + 1, ⟨by omega, by rw [hfs]⟩, by omega, weak_eq (by simp) (by simp [hfs])⟩
    · have hbi : ¬ (bn : Int) < l.C.length := by omega
      rw [if_neg (fun h => hbi h.1)] at hfs
      simp [CB, FB, RB, hlt, hkb, rowAt_enc hkb, hbn, hbl, hbi, i1]
      exact ⟨k + 1, ⟨by omega, by rw [hfs]; exact hok⟩, by omega, weak_eq (by simp) (by simp [hfs])⟩
  · have hke : k = T.length := by omega
    subst hke
    rw [tT, hok, if_neg (by decide)] at eR
    have hcs : costed2 t l = ⟨T, B, (s1R t l T.length).1, false⟩ := by unfold costed2; rw [tT, tB, ht]
    have hH := hh (by rw [ht]) rfl (by rw [← hT]; exact hok)
    have hSc : RS w (costed2 t l) := by
      rw [hcs]
      exact ⟨hS.w36, by rw [← tT]; exact hS.m24, by rw [← tT]; exact hS.row, hBT, by rw [← tB]; exact hS.b64, .inr hfl⟩
    have hCc : (costed2 t l).Cost.length = w + 1 := by rw [hcs]; exact hfl
    obtain ⟨p1, p2, p3⟩ := phaseR_shape hSc hCc hH
    have hpp : PrePhR (costed2 t l) := ⟨⟨w, hSc, hCc⟩, hH⟩
    rw [hcs] at hpp p1 p2 p3 eR
    have p3 : _ = T.length := p3
    obtain ⟨u, pb, hu⟩ : ∃ u pb, phaseR ⟨T, B, (s1R t l T.length).1, false⟩ = (u, pb) := ⟨_, _, rfl⟩
    rw [hu] at eR p1 p2 p3
    simp only at eR p1 p2 p3
    obtain ⟨uT, uB, uC, uO⟩ := u
    cases uO with
    | true =>
      rw [if_pos rfl] at eR
      simp [CB, FB, RB, hlt, sPhR, hpp, hu, eR, F00]
      done
    | false =>
    rw [if_neg (by simp)] at eR
    cases pb with
    | false =>
      rw [if_pos rfl] at eR
      simp [CB, FB, RB, hlt, sPhR, hpp, hu, eR, F00]
      done
    | true =>
    rw [if_neg (by simp)] at eR
    simp only at eR p2 p3
    have hzn : (0 : Int) ≤ l.C.length ∧ l.C.length ≤ 1000 := by omega
    have hww : w < uC.length := by omega
    have huB : uB.length = uT.length := p1.bas
    have huB0 : ∀ k, k < uB.length → 0 ≤ ix uB k := fun k hk => (p1.b64 _ (ix_mem hk)).1
    simp [CB, FB, RB, R2B, hlt, sPhR, hpp, hu, sZerosN, hzn]
    refine ⟨by omega, ?_⟩
    have hx0 : xR ⟨uT, uB, uC, false⟩ l.C.length w 0 = List.replicate l.C.length F01 := rfl
    have hxs : ∀ k, xR ⟨uT, uB, uC, false⟩ l.C.length w (k + 1) = if ix uB k < l.C.length then (xR ⟨uT, uB, uC, false⟩ l.C.length w k).set (ix uB k).toNat (ix (ix uT k) w) else xR ⟨uT, uB, uC, false⟩ l.C.length w k := fun k => rfl
    have hxl := fun k => xR_len ⟨uT, uB, uC, false⟩ l.C.length w k
    generalize xR ⟨uT, uB, uC, false⟩ l.C.length w = xs at *
    refine loop_ruleH (C := CRs) sigCRs mixCRs [11, 15, 16, 30] (fun k : Nat => ⟨[(1, .ptr 0 1 3 0 0), (3, .ptr 1 1 2 0 0), (6, .int .i64 l.C.length), (7, .int .i64 w), (13, .ptr 5 1 4 0 0), (15, .own 6 l.C.length), (16, .int .i64 k)], [CB l, FB F00, RB ⟨T, B, (s1R t l T.length).1, false⟩, ⟨35, 2, encRows (cost2 l), false, true⟩, R2B (List.replicate (l.A.length + 1) F01), RB ⟨uT, uB, uC, false⟩, R2B (xs k)]⟩) (fun k => k ≤ uT.length) (fun k => uT.length - k) (by kernel_rfl) ⟨0, by simp, weak_eq (by simp) (by simp [CB, FB, RB, R2B, hx0])⟩ (fun k hk => ?_)
    by_cases hkl : k < uT.length
    · have i1 : I64 ((k : Int) + 1) := by unfold I64; omega
      have hkb : k < uB.length := by omega
      obtain ⟨bn, hbn⟩ : ∃ bn : Nat, ix uB k = bn := ⟨(ix uB k).toNat, by have := huB0 k hkb; omega⟩
      have hx1 := hxs k
      have hxlk := hxl k
      rw [hbn, Int.toNat_natCast] at hx1
      have hwr : w < (ix uT k).length := by have h : (ix uT k).length = w + 1 := p1.rowAt hkl; omega
      by_cases hbl : bn < l.C.length
      · have hbi : (bn : Int) < l.C.length := by omega
        rw [if_pos hbi] at hx1
        simp [CB, FB, RB, R2B, hkl, hkb, rowAt_enc hkb, hbn, hbl, hbi]
        refine AW_regionF sigCRs mixCRs [.pure, .pure, .read, .pure, .pure, .read, .pure, .read, .pure, .pure, .read, .pure, .pure, .read, .pure, .eff] [[],[],[1],[],[3,1,2],[2,1,3,4],[],[6],[],[8,6,7],[7,6,8,9],[],[11,9,8,6,7,10],[10,7,6,8,9,11,12],[13,12,11,10,9,8,7,6,4,3,1,2,5,0],[0,5,2,1,3,4,6,7,8,9,10,11,12,13,14]] (by kernel_rfl) (by kernel_rfl) (by kernel_rfl) (by kernel_rfl) ?_
        simp [CB, FB, RB, R2B, hkl, rowAt_enc hkl, hkb, rowAt_enc hkb, hbn, hbl, hbi, hwr, rowAt_enc hwr, hxlk, i1]
        have hbx : bn < (xs k).length := by omega
        exact ⟨k + 1, by omega, by omega, weak_eq (by simp) (by simp [hx1, rowAt_enc hbx])⟩
      · have hbi : ¬ (bn : Int) < l.C.length := by omega
        rw [if_neg hbi] at hx1
        simp [CB, FB, RB, R2B, hkl, hkb, rowAt_enc hkb, hbn, hbl, hbi, i1]
        exact ⟨k + 1, by omega, by omega, weak_eq (by simp) (by simp [hx1])⟩
    · have hke : k = uT.length := by omega
      subst hke
      have hxlk := hxl uT.length
      simp [CB, FB, RB, R2B, hkl, hww, rowAt_enc hww, sNeg, hxlk, eR]
      done
end Go.Proofs.YtfoipbjhaiimlaaGreatDoor


/-
  layer 30: the reference's tableau is the program's.
-/
namespace Go.Proofs.YtfoipbjhaiimlaaGreatDoor
open Go.RowKit
set_option linter.unusedSimpArgs false
set_option linter.unusedVariables false
set_option maxRecDepth 100000

/-- The same tableau. -/
structure Eq2 (t : Tab) (u : RTab) : Prop where
  s : ∃ L, Shape L t
  r : u.T = t.rows
  b : ∀ i, i < t.m → ix u.Basic i = ix t.basis i
  bl : u.Basic.length = t.m
  c : u.Cost = t.cost
  o : u.Over = t.over
section
variable {t : Tab} {u : RTab}
theorem Eq2.rs (h : Eq2 t u) : RS t.w u := by
  obtain ⟨L, hS⟩ := h.s
  refine ⟨shape_w36 hS, by rw [h.r, hS.m]; exact hS.m24, fun r hr => hS.row r (by rw [← h.r]; exact hr), by rw [h.bl, h.r, hS.m], fun b hb => ?_, ?_⟩
  · obtain ⟨i, hi, rfl⟩ := List.getElem_of_mem hb
    have := h.b i (by rw [← h.bl]; exact hi)
    rw [ix_lt hi] at this
    rw [this]
    exact bas_nn hS i
  · rw [h.c]
    rcases hS.cost with ⟨_, h1⟩ | ⟨_, h1⟩
    · exact .inl h1
    · exact .inr h1
theorem Eq2.len (h : Eq2 t u) : u.T.length = t.m := by
  obtain ⟨L, hS⟩ := h.s
  rw [h.r, hS.m]
/-! ### Rows -/
theorem minK_mix {a b : List Fr} {f : Fr} : ∀ {k : Nat}, k ≤ a.length → (minK a f b k = none ∧ anyK k (fun j => (mnP (ix a j) f (ix b j)).2) = true) ∨ (minK a f b k = some ((List.range k).map fun j => (mnP (ix a j) f (ix b j)).1) ∧ anyK k (fun j => (mnP (ix a j) f (ix b j)).2) = false)
  | 0, _ => .inr ⟨rfl, rfl⟩
  | k + 1, hk => by
    rcases minK_mix (a := a) (b := b) (f := f) (k := k) (by omega) with ⟨h1, h2⟩ | ⟨h1, h2⟩
    · refine .inl ⟨minK_none h1 1, ?_⟩
      rw [anyK_succ, h2]
      rfl
    · rw [minK_succ h1, anyK_succ, h2, Bool.false_or]
      unfold mnP
      cases h3 : mnO (ix a k) f (ix b k) with
      | none => exact .inl ⟨rfl, rfl⟩
      | some d =>
        refine .inr ⟨?_, rfl⟩
        rw [List.range_succ, List.map_append]
        simp [h3]
theorem divK_mix {a : List Fr} {p : Fr} : ∀ {k : Nat}, k ≤ a.length → (divK a p k = none ∧ anyK k (fun j => (dvP (ix a j) p).2) = true) ∨ (divK a p k = some ((List.range k).map fun j => (dvP (ix a j) p).1) ∧ anyK k (fun j => (dvP (ix a j) p).2) = false)
  | 0, _ => .inr ⟨rfl, rfl⟩
  | k + 1, hk => by
    rcases divK_mix (a := a) (p := p) (k := k) (by omega) with ⟨h1, h2⟩ | ⟨h1, h2⟩
    · refine .inl ⟨divK_none h1 1, ?_⟩
      rw [anyK_succ, h2]
      rfl
    · rw [divK_succ h1, anyK_succ, h2, Bool.false_or]
      unfold dvP
      cases h3 : divO (ix a k) p with
      | none => exact .inl ⟨rfl, rfl⟩
      | some d =>
        refine .inr ⟨?_, rfl⟩
        rw [List.range_succ, List.map_append]
        simp [h3]
theorem mix_full {g : Nat → Fr} {row : List Fr} {n : Nat} (h : row.length = n) : mixF n g row = (List.range n).map g := by
  refine List.ext_getElem (by rw [mixF_len, List.length_map, List.length_range, h]) fun j h1 h2 => ?_
  rw [mixF_len] at h1
  have := mixF_ix (k := n) (g := g) h1
  rw [ix_lt (by rw [mixF_len]; exact h1), if_pos (by omega)] at this
  rw [this, List.getElem_map, List.getElem_range]
theorem setTgt_over (t : Tab) (g : Option Nat) (r : List Fr) : (setTgt t g r).over = t.over := by cases g <;> rfl
theorem elim_rows (hS : ∃ L, Shape L t) {i j : Nat} {c : List Fr} (hi : i < t.m) (hur : u.T = t.rows) {t1 : Tab} (h1 : ∃ L, Shape L t1) (hm1 : t1.m = t.m) (hw1 : t1.w = t.w) (ho1 : t1.over = false) (hc1 : ix t1.rows i = c) (hr1 : ∀ q, q ≠ i → ix t1.rows q = ix t.rows q) : ∀ {k : Nat}, k ≤ t.m →
    (rowsR u i j c k = none ∧ (elimK t1 i j k).over = true) ∨ (∃ rs, rowsR u i j c k = some rs ∧ (elimK t1 i j k).over = false ∧ (∀ q, q < k → ix rs q = ix (elimK t1 i j k).rows q) ∧ (∀ q, k ≤ q → q ≠ i → ix (elimK t1 i j k).rows q = ix t.rows q) ∧ ix (elimK t1 i j k).rows i = c ∧ (elimK t1 i j k).cost = t1.cost)
  | 0, _ => .inr ⟨[], rfl, ho1, fun q hq => by omega, fun q _ hq => hr1 q hq, hc1, rfl⟩
  | k + 1, hk => by
    obtain ⟨L, hL⟩ := hS
    obtain ⟨L1, hL1⟩ := h1
    have hSk : Shape L1 (elimK t1 i j k) := elimK_shape hL1 (by rw [hm1]; exact hi) j (by rw [hm1]; omega)
    have hmk : (elimK t1 i j k).m = t.m := (elimK_m i j k).trans hm1
    have hwk : (elimK t1 i j k).w = t.w := by unfold Tab.w at hw1 ⊢; rw [elimK_n, elimK_m]; exact hw1
    rcases elim_rows (j := j) ⟨L, hL⟩ hi hur ⟨L1, hL1⟩ hm1 hw1 ho1 hc1 hr1 (k := k) (by omega) with ⟨e1, e2⟩ | ⟨rs, e1, e2, e3, e4, e5, e6⟩
    · refine .inl ⟨rowsR_none e1 1, ?_⟩
      unfold elimK elim1
      split
      · unfold clrT clrK orT
        simp only [Bool.or_eq_true]
        left
        rw [setTgt_over]
        exact e2
      · exact e2
    · rw [rowsR_succ e1]
      have hrl := rowsR_len e1
      have snoc : ∀ x : List Fr, ∀ q, ix (rs ++ [x]) q = if q < k then ix rs q else if q = k then x else default := fun x q => by
        unfold ix
        rw [List.getD_eq_getElem?_getD, List.getD_eq_getElem?_getD]
        by_cases hq : q < k
        · rw [if_pos hq, List.getElem?_append_left (by omega)]
        · rw [if_neg hq, List.getElem?_append_right (by omega), hrl]
          by_cases hqk : q = k
          · rw [if_pos hqk, hqk, Nat.sub_self]; rfl
          · rw [if_neg hqk]
            obtain ⟨p, hp⟩ : ∃ p, q - k = p + 1 := ⟨q - k - 1, by omega⟩
            rw [hp]
            rfl
      by_cases hki : k = i
      · have hn : newRow u i j c k = some c := if_pos hki
        have he : elimK t1 i j (k + 1) = elimK t1 i j k := by
          show elim1 (elimK t1 i j k) i j k = _
          unfold elim1
          rw [if_neg (fun h => h.1 hki)]
        rw [hn, he]
        refine .inr ⟨rs ++ [c], rfl, e2, fun q hq => ?_, fun q hq hqi => e4 q (by omega) hqi, e5, e6⟩
        rw [snoc]
        by_cases hqk : q < k
        · rw [if_pos hqk]; exact e3 q hqk
        · rw [if_neg hqk, if_pos (by omega), show q = i by omega, e5]
      · have hrk := e4 k (Nat.le_refl k) hki
        have hn : newRow u i j c k = if (ix (ix t.rows k) j).N ≠ 0 then minO (ix t.rows k) (ix (ix t.rows k) j) c else some (ix t.rows k) := by
          unfold newRow
          rw [if_neg hki, hur]
        rw [hn]
        by_cases hN : (ix (ix t.rows k) j).N = 0
        · rw [if_neg (fun h => h hN)]
          have he : elimK t1 i j (k + 1) = elimK t1 i j k := by
            show elim1 (elimK t1 i j k) i j k = _
            unfold elim1
            rw [if_neg (fun h => h.2 (by rw [hrk]; exact hN))]
          rw [he]
          refine .inr ⟨rs ++ [ix t.rows k], rfl, e2, fun q hq => ?_, fun q hq hqi => e4 q (by omega) hqi, e5, e6⟩
          rw [snoc]
          by_cases hqk : q < k
          · rw [if_pos hqk]; exact e3 q hqk
          · rw [if_neg hqk, if_pos (by omega), show q = k by omega, hrk]
        · rw [if_pos hN]
          have he : elimK t1 i j (k + 1) = clrT (elimK t1 i j k) ⟨some k, ix (ix t.rows k) j, i⟩ := by
            show elim1 (elimK t1 i j k) i j k = _
            unfold elim1
            rw [if_pos ⟨hki, by rw [hrk]; exact hN⟩, hrk]
          have hlen : (ix t.rows k).length = t.w + 1 := row_len hL (by omega)
          have hcl : clrT (elimK t1 i j k) ⟨some k, ix (ix t.rows k) j, i⟩ = { elimK t1 i j k with rows := (elimK t1 i j k).rows.set k (mixF (t.w + 1) (fun q => (mnP (ix (ix t.rows k) q) (ix (ix t.rows k) j) (ix c q)).1) (ix t.rows k)), over := anyK (t.w + 1) fun q => (mnP (ix (ix t.rows k) q) (ix (ix t.rows k) j) (ix c q)).2 } := by
            unfold clrT clrK orT setTgt tgtR
            simp only [hrk, e5, e2, hwk, Bool.false_or]
          have hks : ∀ x q, ix ((elimK t1 i j k).rows.set k x) q = if q = k then x else ix (elimK t1 i j k).rows q := fun x q => ix_set (by rw [hSk.m, hmk]; omega)
          rw [he, hcl]
          have hmx := minK_mix (a := ix t.rows k) (b := c) (f := ix (ix t.rows k) j) (k := t.w + 1) (by omega)
          unfold minO
          rw [hlen]
          rcases hmx with ⟨g1, g2⟩ | ⟨g1, g2⟩
          · rw [g1]
            exact .inl ⟨rfl, g2⟩
          · rw [g1, mix_full hlen]
            refine .inr ⟨_, rfl, g2, fun q hq => ?_, fun q hq hqi => ?_, ?_, e6⟩
            · rw [snoc]
              show _ = ix ((elimK t1 i j k).rows.set k _) q
              rw [hks]
              by_cases hqk : q < k
              · rw [if_pos hqk, if_neg (by omega)]; exact e3 q hqk
              · rw [if_neg hqk, if_pos (by omega), if_pos (by omega)]
            · show ix ((elimK t1 i j k).rows.set k _) q = _
              rw [hks, if_neg (by omega)]
              exact e4 q (by omega) hqi
            · show ix ((elimK t1 i j k).rows.set k _) i = _
              rw [hks, if_neg (fun h => hki h.symm)]
              exact e5
/-- The same pivot, unless it is too great for both. -/
theorem Eq2.piv (h : Eq2 t u) (ho : t.over = false) {i j : Nat} (hi : i < t.m) (hj : j < t.w) : ((pivF t i j).over = true ∧ (pivR u i j).Over = true) ∨ ((pivF t i j).over = false ∧ Eq2 (pivF t i j) (pivR u i j)) := by
  obtain ⟨L, hS⟩ := h.s
  have hlen := row_len hS hi
  have huT : ix u.T i = ix t.rows i := by rw [h.r]
  have hdm := divK_mix (a := ix t.rows i) (p := ix (ix t.rows i) j) (k := t.w + 1) (by omega)
  have hS1 := pvK_shape hS hi j (t.w + 1)
  have hS2 := elimK_shape hS1 hi j (k := t.m) (by rw [pvK_m]; exact Nat.le_refl _)
  have hm1 : (pvK t i j (t.w + 1)).m = t.m := pvK_m i j _
  have hpo : (pivF t i j).over = (elimC (elimK (pvK t i j (t.w + 1)) i j t.m) i j).over := rfl
  have oc : (elimC (elimK (pvK t i j (t.w + 1)) i j t.m) i j).over = false → (elimK (pvK t i j (t.w + 1)) i j t.m).over = false := fun e => (elimC_Q hS2 (by rw [elimK_m, pvK_m]; exact hi) e).1
  have ok : (elimK (pvK t i j (t.w + 1)) i j t.m).over = false → (pvK t i j (t.w + 1)).over = false := fun e => (elim_Q hS1 (by rw [pvK_m]; exact hi) (by rw [pvK_m]; exact Nat.le_refl _) e).1
  have hov : (pvK t i j (t.w + 1)).over = anyK (t.w + 1) fun c => (dvP (ix (ix t.rows i) c) (ix (ix t.rows i) j)).2 := by
    show (t.over || _) = _
    rw [ho, Bool.false_or]
  have tt : ∀ {b : Bool}, (b = false → False) → b = true := fun {b} hb => by cases b with | false => exact (hb rfl).elim | true => rfl
  unfold pivR divL
  rw [huT, hlen]
  rcases hdm with ⟨d1, d2⟩ | ⟨d1, d2⟩
  · rw [d1]
    exact .inl ⟨tt (fun e => by rw [hpo] at e; rw [ok (oc e)] at hov; rw [d2] at hov; cases hov), rfl⟩
  rw [d1, ← mix_full hlen]
  obtain ⟨c, hc⟩ : ∃ c, mixF (t.w + 1) (fun c => (dvP (ix (ix t.rows i) c) (ix (ix t.rows i) j)).1) (ix t.rows i) = c := ⟨_, rfl⟩
  rw [hc]
  have hcl : c.length = t.w + 1 := by rw [← hc, mixF_len, hlen]
  rw [d2] at hov
  have hr1 : ∀ q, ix (pvK t i j (t.w + 1)).rows q = if q = i then c else ix t.rows q := fun q => by
    show ix (t.rows.set i _) q = _
    rw [hc]
    exact ix_set (by rw [hS.m]; exact hi)
  simp only
  rw [h.len]
  rcases elim_rows (u := u) (t := t) (j := j) ⟨L, hS⟩ hi h.r ⟨L, hS1⟩ hm1 rfl hov (by rw [hr1, if_pos rfl]) (fun q hq => by rw [hr1, if_neg hq]) (k := t.m) (Nat.le_refl _) with ⟨e1, e2⟩ | ⟨rs, e1, e2, e3, e4, e5, e6⟩
  · rw [e1]
    exact .inl ⟨tt (fun e => by rw [hpo] at e; rw [oc e] at e2; cases e2), rfl⟩
  rw [e1]
  have hrsl := rowsR_len e1
  simp only
  obtain ⟨t2, ht2⟩ : ∃ t2, elimK (pvK t i j (t.w + 1)) i j t.m = t2 := ⟨_, rfl⟩
  have hn2 : t2.n = t.n := by rw [← ht2, elimK_n]; rfl
  have hm2 : t2.m = t.m := by rw [← ht2, elimK_m]; rfl
  have hw2 : t2.w = t.w := by unfold Tab.w; rw [hn2, hm2]
  have hb2 : t2.basis = t.basis := by rw [← ht2, elimK_bas]; rfl
  rw [ht2] at e2 e3 e4 e5 e6 hS2 hpo
  have e6 : t2.cost = t.cost := e6
  have hrows : t2.rows = rs := by
    refine List.ext_getElem (by rw [hS2.m, hm2, hrsl]) fun q h1 h2 => ?_
    have := e3 q (by omega)
    rw [ix_lt h1, ix_lt h2] at this
    exact this.symm
  have hpivs : ∀ t3 : Tab, elimC t2 i j = t3 → t3.over = false → (∃ L, Shape L t3) → t3.rows = rs → t3.n = t.n → t3.m = t.m → t3.basis = t.basis → (pivF t i j).over = false ∧ Eq2 (pivF t i j) ⟨rs, basR u i j t.m, t3.cost, u.Over⟩ := fun t3 h3 o3 s3 r3 n3 m3 b3 => by
    have hp : pivF t i j = { t3 with basis := t.basis.set i j } := by
      show Tab.mk _ _ _ _ _ _ = _
      unfold elimT
      rw [ht2, h3, b3]
    refine ⟨by rw [hp]; exact o3, ?_⟩
    have hps := pivF_shape hS hi hj
    rw [hp] at hps ⊢
    refine ⟨⟨L, hps⟩, r3.symm, fun q hq => ?_, ?_, rfl, ?_⟩
    · have hq : q < t.m := by rw [← m3]; exact hq
      show ix (basR u i j t.m) q = ix (t.basis.set i j) q
      rw [ix_set (by rw [hS.bas]; have := hS.m24; omega), ix_lt (by rw [basR_len]; exact hq)]
      unfold basR
      rw [List.getElem_map, List.getElem_range]
      split
      · rfl
      · exact h.b q hq
    · show (basR u i j t.m).length = t3.m
      rw [basR_len, m3]
    · show u.Over = t3.over
      rw [h.o, ho, o3]
  unfold costR
  rw [h.c]
  by_cases hC : t.cost ≠ [] ∧ (ix t.cost j).N ≠ 0
  · rw [if_pos hC]
    have hcc : t.cost.length = t.w + 1 := (hS.cost.resolve_left (fun h => hC.1 h.2)).2
    have he : elimC t2 i j = { t2 with cost := mixF (t.w + 1) (fun q => (mnP (ix t.cost q) (ix t.cost j) (ix c q)).1) t.cost, over := anyK (t.w + 1) fun q => (mnP (ix t.cost q) (ix t.cost j) (ix c q)).2 } := by
      unfold elimC
      rw [e6, if_pos hC]
      unfold clrT clrK orT setTgt tgtR
      simp only [e5, e6, e2, hw2, Bool.false_or]
    have hmx := minK_mix (a := t.cost) (b := c) (f := ix t.cost j) (k := t.w + 1) (by omega)
    unfold minO
    rw [hcc]
    rcases hmx with ⟨g1, g2⟩ | ⟨g1, g2⟩
    · rw [g1]
      refine .inl ⟨?_, rfl⟩
      rw [hpo, he]
      exact g2
    · rw [g1, ← mix_full hcc]
      have hsh := elimC_shape hS2 (by rw [hm2]; exact hi) j
      rw [he] at hsh
      exact .inr (hpivs _ he g2 ⟨L, hsh⟩ hrows hn2 hm2 hb2)
  · rw [if_neg hC]
    have he : elimC t2 i j = t2 := by
      unfold elimC
      rw [e6, if_neg hC]
    have := hpivs t2 he e2 ⟨L, hS2⟩ hrows hn2 hm2 hb2
    rw [e6] at this
    exact .inr this
end
end Go.Proofs.YtfoipbjhaiimlaaGreatDoor


/-
  layer 30: the reference's Solve is the program's.
-/
namespace Go.Proofs.YtfoipbjhaiimlaaGreatDoor
open Go.RowKit
set_option linter.unusedSimpArgs false
set_option linter.unusedVariables false
set_option maxRecDepth 100000

section
variable {t : Tab} {u : RTab}
theorem Eq2.lv (h : Eq2 t u) (j : Nat) : ∀ {k : Nat}, k ≤ t.m → (lvK t j k = none ∧ lvR u j k = none) ∨ ∃ s low low', lvK t j k = some (s, low) ∧ lvR u j k = some (s, low') ∧ (0 ≤ s → low = low') ∧ s < k
  | 0, _ => .inr ⟨-1, F00, F01, rfl, rfl, fun h => by omega, by omega⟩
  | k + 1, hk => by
    obtain ⟨L, hS⟩ := h.s
    have hkl := row_len hS (i := k) (by omega)
    rcases h.lv j (k := k) (by omega) with ⟨h1, h2⟩ | ⟨s, low, low', h1, h2, h3, h4⟩
    · exact .inl ⟨lvK_none h1 1, lvR_none h2 1⟩
    · rw [lvK_succ h1, lvR_succ h2, h.r, hkl, show t.w + 1 - 1 = t.w by omega]
      by_cases hN : (ix (ix t.rows k) j).N ≤ 0
      · rw [if_pos hN, if_pos hN]
        exact .inr ⟨s, low, low', rfl, rfl, h3, by omega⟩
      · rw [if_neg hN, if_neg hN]
        cases hd : divO (ix (ix t.rows k) t.w) (ix (ix t.rows k) j) with
        | none => exact .inl ⟨rfl, rfl⟩
        | some r =>
          simp only
          have hT : lvTest t s low k r ↔ lvTR u s low' k r := by
            unfold lvTest lvTR
            by_cases hs : s < 0
            · exact ⟨fun _ => .inl hs, fun _ => .inl hs⟩
            · rw [h3 (by omega), h.b k (by omega), h.b s.toNat (by omega)]
          by_cases hh : lvTest t s low k r
          · rw [if_pos hh, if_pos (hT.1 hh)]
            exact .inr ⟨k, r, r, rfl, rfl, fun _ => rfl, by omega⟩
          · rw [if_neg hh, if_neg (fun e => hh (hT.2 e))]
            exact .inr ⟨s, low, low', rfl, rfl, h3, by omega⟩
theorem Eq2.leav (h : Eq2 t u) (j : Nat) : leavR u j = ((leavF t j).1, !(leavF t j).2) := by
  unfold leavR leavF
  rw [h.len]
  rcases h.lv j (k := t.m) (Nat.le_refl _) with ⟨h1, h2⟩ | ⟨s, low, low', h1, h2, _, _⟩
  · rw [h1, h2]; rfl
  · rw [h1, h2]; rfl
theorem Eq2.ent (h : Eq2 t u) : ∀ {k : Nat}, k ≤ t.w → (match entK t k with | some j => entR u t.w t.w = j | none => entR u t.w t.w = entR u t.w (t.w - k))
  | 0, _ => by show entR u t.w t.w = entR u t.w (t.w - 0); rw [Nat.sub_zero]
  | k + 1, hk => by
    have ih := h.ent (k := k) (by omega)
    cases h1 : entK t k with
    | some j =>
      rw [h1] at ih
      unfold entK
      rw [h1]
      exact ih
    | none =>
      rw [h1] at ih
      rw [entK_succ h1]
      obtain ⟨q, hq⟩ : ∃ q, t.w - k = q + 1 := ⟨t.w - k - 1, by omega⟩
      simp only at ih
      rw [hq, entR_succ, show t.w - (q + 1) = k by omega, h.c] at ih
      by_cases hN : (ix t.cost k).N < 0
      · rw [if_pos hN] at ih ⊢
        exact ih
      · rw [if_neg hN] at ih ⊢
        rw [show t.w - (k + 1) = q by omega]
        exact ih
/-- Both too great, or the same. -/
def Same2 (t : Tab) (u : RTab) : Prop := (t.over = true ∧ u.Over = true) ∨ (t.over = false ∧ Eq2 t u)
theorem Eq2.step (h : Eq2 t u) (ho : t.over = false) (hc : t.cost.length = t.w + 1) :
    (∃ b t' u', stepF t = .inl (b, t') ∧ stepR u = .inl (u', b) ∧ Same2 t' u') ∨ (∃ t' u', stepF t = .inr t' ∧ stepR u = .inr u' ∧ Same2 t' u') := by
  obtain ⟨L, hS⟩ := h.s
  have huo : ¬ u.Over = true := by rw [h.o, ho]; decide
  have hto : ¬ t.over = true := by rw [ho]; decide
  have hcl : u.Cost.length - 1 = t.w := by rw [h.c, hc]; omega
  have he := h.ent (k := t.w) (Nat.le_refl _)
  unfold stepF stepR
  simp only
  rw [if_neg hto, if_neg huo, hcl]
  cases h1 : enterF t with
  | none =>
    have h1' : entK t t.w = none := h1
    rw [h1'] at he
    simp only at he
    rw [Nat.sub_self] at he
    have he : entR u t.w t.w = t.w := he
    rw [he, if_pos rfl]
    exact .inl ⟨true, t, u, rfl, rfl, .inr ⟨ho, h⟩⟩
  | some j =>
    have h1' : entK t t.w = some j := h1
    rw [h1'] at he
    simp only at he
    have hj := entK_lt h1'
    rw [he, if_neg (by omega), h.leav]
    simp only
    cases h2 : (leavF t j).2 with
    | true =>
      simp only [if_true, Bool.not_true]
      exact .inl ⟨true, orT t true, overR u, rfl, rfl, .inl ⟨by simp [orT], rfl⟩⟩
    | false =>
      simp only [Bool.false_eq_true, if_false, Bool.not_false, Bool.true_eq_false]
      by_cases h3 : (leavF t j).1 < 0
      · rw [if_pos h3, if_pos h3]
        exact .inl ⟨false, t, u, rfl, rfl, .inr ⟨ho, h⟩⟩
      · rw [if_neg h3, if_neg h3]
        obtain ⟨i, hi, hii⟩ := leavF_in t j h3
        rw [hii, Int.toNat_natCast]
        exact .inr ⟨_, _, rfl, rfl, h.piv ho hi hj⟩
theorem Eq2.run : ∀ {n : Nat} {t : Tab} {u : RTab} {r : Bool × Tab}, Same2 t u → t.cost.length = t.w + 1 ∨ t.over = true → runF n t = some r → ∃ u', runR n u = some (u', r.1) ∧ Same2 r.2 u'
  | 0, _, _, _, _, _, h => by cases h
  | n + 1, t, u, r, h, hc, hr => by
    rcases h with ⟨o1, o2⟩ | ⟨o1, h⟩
    · have e1 : stepF t = .inl (true, t) := if_pos o1
      have e2 : stepR u = .inl (u, true) := if_pos o2
      unfold runF at hr
      rw [e1] at hr
      injection hr with hr
      subst hr
      refine ⟨u, ?_, .inl ⟨o1, o2⟩⟩
      unfold runR
      rw [e2]
    · have hc : t.cost.length = t.w + 1 := hc.resolve_right (by rw [o1]; decide)
      obtain ⟨L, hS⟩ := h.s
      have hsh := stepF_shape hS
      unfold runF at hr
      unfold runR
      rcases h.step o1 hc with ⟨b, t', u', e1, e2, e3⟩ | ⟨t', u', e1, e2, e3⟩
      · rw [e1] at hr
        injection hr with hr
        subst hr
        rw [e2]
        exact ⟨u', rfl, e3⟩
      · rw [e1] at hr hsh
        rw [e2]
        exact Eq2.run e3 (.inl (by rw [hsh.2.cost, hc, hsh.2.w])) hr
theorem Eq2.phase (h : Eq2 t u) (ho : t.over = false) (hc : t.cost.length = t.w + 1) (hh : Halts t) : HaltsR u ∧ (phaseR u).2 = (phaseF t).1 ∧ Same2 (phaseF t).2 (phaseR u).1 := by
  obtain ⟨r, n, hr⟩ := hh
  obtain ⟨u', e1, e2⟩ := Eq2.run (.inr ⟨ho, h⟩) (.inl hc) hr
  rw [phaseF_eq hr, phaseR_eq e1]
  exact ⟨⟨_, n, e1⟩, rfl, e2⟩
/-! ### Phase one -/
theorem clr_none {L : Lay} (hS : Shape L t) {i : Nat} {f : Fr} (ho : t.over = false) (hc : t.cost.length = t.w + 1) : clrT t ⟨none, f, i⟩ = { t with cost := mixF (t.w + 1) (fun q => (mnP (ix t.cost q) f (ix (ix t.rows i) q)).1) t.cost, over := anyK (t.w + 1) fun q => (mnP (ix t.cost q) f (ix (ix t.rows i) q)).2 } := by
  unfold clrT clrK orT setTgt tgtR
  simp only [ho, Bool.false_or]
theorem clr_over_mono {x : ClrX} (h : t.over = true) : (clrT t x).over = true := by
  unfold clrT clrK orT
  simp only [Bool.or_eq_true]
  left
  rw [setTgt_over]
  exact h
theorem Eq2.f1 (h : Eq2 t u) (ho : t.over = false) : ∀ {k : Nat}, k ≤ t.m → ((f1R u t.w k).2 = false ∧ (f1K t k).over = true) ∨ ((f1R u t.w k).2 = true ∧ (f1K t k).over = false ∧ (f1R u t.w k).1 = (f1K t k).cost ∧ (f1K t k).rows = t.rows)
  | 0, _ => .inr ⟨rfl, ho, rfl, rfl⟩
  | k + 1, hk => by
    obtain ⟨L, hS⟩ := h.s
    have hS1 : Shape (newC L []) (f1K t k) := f1K_shape hS (by omega)
    obtain ⟨q1, q2, q3, q4⟩ := f1K_same t k
    have qw : (f1K t k).w = t.w := f1K_w t k
    have ha : artP t k = true ↔ (t.w : Int) ≤ ix u.Basic k := by
      rw [h.b k (by omega)]
      unfold artP
      exact decide_eq_true_iff
    rcases h.f1 ho (k := k) (by omega) with ⟨h1, h2⟩ | ⟨h1, h2, h3, h4⟩
    · refine .inl ?_
      unfold f1R f1K
      rw [if_pos h1]
      refine ⟨h1, ?_⟩
      split
      · exact clr_over_mono h2
      · exact h2
    · unfold f1R f1K
      rw [if_neg (by rw [h1]; decide)]
      by_cases hb : (t.w : Int) ≤ ix u.Basic k
      · rw [if_pos hb, if_pos (ha.2 hb), clr_none hS1 h2 (by rw [q3, qw]), h3, h.r, h4, qw]
        have hmx := minK_mix (a := (f1K t k).cost) (b := ix t.rows k) (f := F11) (k := t.w + 1) (by omega)
        unfold minO
        rw [q3]
        rcases hmx with ⟨g1, g2⟩ | ⟨g1, g2⟩
        · rw [g1]
          exact .inl ⟨rfl, g2⟩
        · rw [g1]
          exact .inr ⟨rfl, g2, (mix_full q3).symm, rfl⟩
      · rw [if_neg hb, if_neg (fun e => hb (ha.1 e))]
        exact .inr ⟨h1, h2, h3, h4⟩
theorem Eq2.hasArt (h : Eq2 t u) : ∀ {k : Nat}, k ≤ t.m → someR u t.w k = anyK k (artP t)
  | 0, _ => rfl
  | k + 1, hk => by
    rw [someR_succ, anyK_succ, h.hasArt (k := k) (by omega), h.b k (by omega)]
    rfl
theorem Eq2.col (h : Eq2 t u) (i : Nat) : ∀ {k : Nat}, k ≤ t.w → (match colK t i k with | some j => colR u i t.w t.w = j | none => colR u i t.w t.w = colR u i t.w (t.w - k))
  | 0, _ => by show colR u i t.w t.w = colR u i t.w (t.w - 0); rw [Nat.sub_zero]
  | k + 1, hk => by
    have ih := h.col i (k := k) (by omega)
    cases h1 : colK t i k with
    | some j =>
      rw [h1] at ih
      unfold colK
      rw [h1]
      exact ih
    | none =>
      rw [h1] at ih
      rw [colK_succ h1]
      obtain ⟨q, hq⟩ : ∃ q, t.w - k = q + 1 := ⟨t.w - k - 1, by omega⟩
      simp only at ih
      rw [hq, colR_succ, show t.w - (q + 1) = k by omega, h.r] at ih
      by_cases hN : (ix (ix t.rows i) k).N ≠ 0
      · rw [if_pos hN] at ih ⊢
        exact ih
      · rw [if_neg hN] at ih ⊢
        rw [show t.w - (k + 1) = q by omega]
        exact ih
theorem Same2.rep {w : Nat} (h : Same2 t u) {i : Nat} (hi : i < t.m) (hw : t.w = w) : Same2 (repF t i) (repR u w i) := by
  subst hw
  unfold repF repR
  rcases h with ⟨o1, o2⟩ | ⟨o1, h⟩
  · rw [if_neg (fun e => by rw [o1] at e; cases e.2), if_pos o2]
    exact .inl ⟨o1, o2⟩
  · rw [if_neg (show ¬ u.Over = true by rw [h.o, o1]; decide), h.b i hi]
    by_cases hb : ix t.basis i < t.w
    · rw [if_pos hb, if_neg (fun e => by have := e.1; omega)]
      exact .inr ⟨o1, h⟩
    · rw [if_neg hb, if_pos ⟨by omega, o1⟩]
      have hc := h.col i (k := t.w) (Nat.le_refl _)
      cases h1 : colK t i t.w with
      | none =>
        rw [h1] at hc
        simp only at hc
        rw [Nat.sub_self] at hc
        have hc : colR u i t.w t.w = t.w := hc
        rw [hc, if_neg (by omega)]
        exact .inr ⟨o1, h⟩
      | some j =>
        rw [h1] at hc
        simp only at hc
        rw [hc, if_pos (colK_lt h1)]
        exact h.piv o1 hi (colK_lt h1)
theorem repF_kin (t : Tab) (i : Nat) : (repF t i).n = t.n ∧ (repF t i).m = t.m := by
  unfold repF
  split
  · split
    · exact ⟨rfl, rfl⟩
    · exact ⟨pivF_n _ _, pivF_m _ _⟩
  · exact ⟨rfl, rfl⟩
theorem repK_kin (t : Tab) : ∀ k, (repK t k).n = t.n ∧ (repK t k).m = t.m
  | 0 => ⟨rfl, rfl⟩
  | k + 1 => by
    obtain ⟨h1, h2⟩ := repK_kin t k
    obtain ⟨h3, h4⟩ := repF_kin (repK t k) k
    exact ⟨h3.trans h1, h4.trans h2⟩
theorem Same2.reps {w : Nat} (h : Same2 t u) (hw : t.w = w) : ∀ {k : Nat}, k ≤ t.m → Same2 (repK t k) (repsR u w k)
  | 0, _ => h
  | k + 1, hk => by
    obtain ⟨q1, q2⟩ := repK_kin t k
    exact (h.reps hw (k := k) (by omega)).rep (by rw [q2]; omega) (by unfold Tab.w; rw [q1, q2]; exact hw)
end
/-! ### begin -/
section
variable {l : Lin}
theorem rowR_eq (g : Good l) (i : Nat) (hi : i < l.A.length) : rowR l i = rowB l i := by
  refine List.ext_getElem ?_ fun k h1 h2 => ?_
  · rw [rowB_len]
    unfold rowR
    rw [List.length_append, rSl_len]
    rfl
  · rw [rowB_len] at h2
    have hg : ∀ (l : List Fr) (h : k < l.length), l[k]'h = ix l k := fun l h => (ix_lt h).symm
    rw [hg, hg]
    have hlen : (List.replicate (l.C.length + l.A.length + 1) F01).length = l.C.length + l.A.length + 1 := List.length_replicate
    have hmix : ix (mixF l.C.length (fun c => putE l i (ix (ix l.A i) c)) (List.replicate (l.C.length + l.A.length + 1) F01)) k = if k < l.C.length then putE l i (ix (ix l.A i) k) else F01 := by
      rw [mixF_ix (by rw [hlen]; exact h2)]
      split
      · rfl
      · exact ix_rep h2
    have happ : ∀ (a b : List Fr), ix (a ++ b) k = if k < a.length then ix a k else ix b (k - a.length) := fun a b => by
      unfold ix
      rw [List.getD_eq_getElem?_getD, List.getD_eq_getElem?_getD, List.getD_eq_getElem?_getD]
      split
      · rename_i h; rw [List.getElem?_append_left h]
      · rename_i h; rw [List.getElem?_append_right (by omega)]
    have hR : ix (rowR l i) k = if k < l.C.length then putE l i (ix (ix l.A i) k) else if k < l.C.length + l.A.length then slk l i (k - l.C.length) else rhsE l i := by
      unfold rowR
      rw [happ, rSl_len]
      by_cases h3 : k < l.C.length + l.A.length
      · rw [if_pos h3]
        unfold rSl
        rw [happ, rA_len]
        by_cases h4 : k < l.C.length
        · rw [if_pos h4, if_pos h4]
          unfold rA
          rw [ix_range h4]
        · rw [if_neg h4, if_neg h4, if_pos h3, ix_range (by omega)]
      · rw [if_neg h3, if_neg (by omega), if_neg h3, show k - (l.C.length + l.A.length) = 0 by omega]
        rfl
    rw [hR]
    unfold rowB slk rhsE
    simp only
    by_cases hk : keepB l i = true
    · rw [if_pos hk, if_pos hk, if_pos hk, ix_set (by simp only [List.length_set, mixF_len, hlen]; omega), ix_set (by simp only [List.length_set, mixF_len, hlen]; omega), ix_set (by simp only [List.length_set, mixF_len, hlen]; omega), ix_set (by simp only [mixF_len, hlen]; omega), hmix]
      by_cases h3 : k < l.C.length
      · simp only [if_pos h3, if_neg (show ¬ k = l.C.length + l.A.length by omega), if_neg (show ¬ k = l.C.length + i by omega)]
      · by_cases h4 : k < l.C.length + l.A.length
        · by_cases h5 : k = l.C.length + i
          · simp only [if_neg h3, if_pos h4, if_neg (show ¬ k = l.C.length + l.A.length by omega), if_pos h5, if_pos (show k - l.C.length = i by omega)]
          · simp only [if_neg h3, if_pos h4, if_neg (show ¬ k = l.C.length + l.A.length by omega), if_neg h5, if_neg (show ¬ k - l.C.length = i by omega)]
        · simp only [if_neg h3, if_neg h4, if_pos (show k = l.C.length + l.A.length by omega)]
    · rw [if_neg hk, if_neg hk, if_neg hk, ix_set (by simp only [List.length_set, mixF_len, hlen]; omega), ix_set (by simp only [mixF_len, hlen]; omega), hmix]
      by_cases h3 : k < l.C.length
      · simp only [if_pos h3, if_neg (show ¬ k = l.C.length + l.A.length by omega), if_neg (show ¬ k = l.C.length + i by omega)]
      · by_cases h4 : k < l.C.length + l.A.length
        · by_cases h5 : k = l.C.length + i
          · simp only [if_neg h3, if_pos h4, if_neg (show ¬ k = l.C.length + l.A.length by omega), if_pos h5, if_pos (show k - l.C.length = i by omega)]
          · simp only [if_neg h3, if_pos h4, if_neg (show ¬ k = l.C.length + l.A.length by omega), if_neg h5, if_neg (show ¬ k - l.C.length = i by omega)]
        · simp only [if_neg h3, if_neg h4, if_pos (show k = l.C.length + l.A.length by omega)]
theorem beg_eq (h : Ok l) : Eq2 (begF l) (begR l) := by
  obtain ⟨L, _, hS⟩ := beg_shape h
  refine ⟨⟨L, hS⟩, ?_, fun i hi => ?_, basB_len l _, rfl, rfl⟩
  · show (List.range l.A.length).map (rowR l) = (List.range l.A.length).map (rowB l)
    exact List.map_congr_left fun i hi => rowR_eq h.g i (List.mem_range.1 hi)
  · show ix ((List.range l.A.length).map (basE l)) i = ix (basK l l.A.length) i
    have hi : i < l.A.length := hi
    rw [ix_range hi, basK_at h (Nat.le_refl _) hi]
    rfl
end
end Go.Proofs.YtfoipbjhaiimlaaGreatDoor


/-
  layer 30: SimplexSolve.
-/
namespace Go.Proofs.YtfoipbjhaiimlaaGreatDoor
open Go.RowKit
set_option linter.unusedSimpArgs false
set_option linter.unusedVariables false
set_option maxRecDepth 100000

section
variable {l : Lin}
theorem f1_eq2 {t : Tab} {u : RTab} (h : Eq2 t u) (ho : t.over = false) (h1 : (f1R u t.w t.m).2 = true) : Eq2 (f1T t) (costed u t.w) ∧ (f1T t).over = false ∧ (f1T t).cost.length = (f1T t).w + 1 ∧ (f1T t).w = t.w := by
  obtain ⟨L, hS⟩ := h.s
  obtain ⟨q1, q2, q3, q4⟩ := f1K_same t t.m
  have qw : (f1K t t.m).w = t.w := f1K_w t t.m
  rcases h.f1 ho (k := t.m) (Nat.le_refl _) with ⟨e1, _⟩ | ⟨_, e2, e3, e4⟩
  · rw [e1] at h1; cases h1
  · refine ⟨⟨⟨_, f1K_shape (K := []) hS (Nat.le_refl _)⟩, ?_, fun i hi => ?_, ?_, ?_, ?_⟩, e2, ?_, qw⟩
    · show u.T = (f1K t t.m).rows
      rw [e4]; exact h.r
    · have hi : i < t.m := by rw [← q2]; exact hi
      show ix u.Basic i = ix (f1K t t.m).basis i
      rw [q4]; exact h.b i hi
    · show u.Basic.length = (f1K t t.m).m
      rw [q2]; exact h.bl
    · show (f1R u t.w u.T.length).1 = (f1K t t.m).cost
      rw [h.len]; exact e3
    · show u.Over = (f1K t t.m).over
      rw [e2, h.o, ho]
    · show (f1K t t.m).cost.length = (f1K t t.m).w + 1
      rw [q3, qw]
/-- The same first phase. -/
theorem first_same (h : Ok l) : PreFiR (begR l) ((l.C.length : Int) + l.A.length) ∧ (((firstF (begF l)).2.over = true ∧ (firstR (begR l) (l.C.length + l.A.length)).1.Over = true) ∨ ((firstF (begF l)).2.over = false ∧ (firstR (begR l) (l.C.length + l.A.length)).2 = (firstF (begF l)).1 ∧ Eq2 (firstF (begF l)).2 (firstR (begR l) (l.C.length + l.A.length)).1)) := by
  have hE := beg_eq h
  have ho : (begF l).over = false := rfl
  have hw : (begF l).w = l.C.length + l.A.length := rfl
  have hT : (begR l).T.length = (begF l).m := hE.len
  have hC1 := h.g.n1
  have hHF := haltsF h
  have hmain : ((f1R (begR l) (begF l).w (begF l).m).2 = false ∧ (f1T (begF l)).over = true) ∨ ((f1R (begR l) (begF l).w (begF l).m).2 = true ∧ Eq2 (f1T (begF l)) (costed (begR l) (begF l).w) ∧ (f1T (begF l)).over = false ∧ (f1T (begF l)).cost.length = (f1T (begF l)).w + 1 ∧ (f1T (begF l)).w = (begF l).w) := by
    rcases hE.f1 ho (k := (begF l).m) (Nat.le_refl _) with h1 | ⟨h1, _⟩
    · exact .inl h1
    · exact .inr ⟨h1, f1_eq2 hE ho h1⟩
  refine ⟨⟨by omega, ?_, rfl, fun h1 h2 => ?_⟩, ?_⟩
  · rw [show ((l.C.length : Int) + l.A.length).toNat = l.C.length + l.A.length by omega, ← hw]
    exact hE.rs
  · rw [show ((l.C.length : Int) + l.A.length).toNat = l.C.length + l.A.length by omega, ← hw] at h1 h2 ⊢
    rw [hT] at h1 h2
    rw [hE.hasArt (Nat.le_refl _)] at h2
    rcases hmain with ⟨e1, _⟩ | ⟨_, e2, e3, e4, _⟩
    · rw [e1] at h1; cases h1
    · exact (e2.phase e3 e4 (hHF (fun e => e.elim (fun e => by rw [e] at h2; cases h2) (fun e => by rw [e] at e3; cases e3)))).1
  · rw [← hw]
    unfold firstR firstF
    rw [hT]
    rcases hmain with ⟨e1, e2⟩ | ⟨e1, e2, e3, e4, e5⟩
    · have c1 : anyK (begF l).m (artP (begF l)) = false ∨ (f1T (begF l)).over = true := .inr e2
      simp only [if_pos c1, if_pos e1]
      exact .inl ⟨e2, trivial⟩
    · have n1 : ¬ (f1R (begR l) (begF l).w (begF l).m).2 = false := by rw [e1]; decide
      simp only [if_neg n1]
      rw [hE.hasArt (Nat.le_refl _)]
      have hcs : (⟨(begR l).T, (begR l).Basic, (f1R (begR l) (begF l).w (begF l).m).1, (begR l).Over⟩ : RTab) = costed (begR l) (begF l).w := by unfold costed; rw [hT]
      rw [hcs]
      by_cases hs : anyK (begF l).m (artP (begF l)) = false
      · have c1 : anyK (begF l).m (artP (begF l)) = false ∨ (f1T (begF l)).over = true := .inl hs
        simp only [if_pos c1, if_pos hs]
        exact .inr ⟨e3, trivial, e2⟩
      · have c1 : ¬ (anyK (begF l).m (artP (begF l)) = false ∨ (f1T (begF l)).over = true) := fun e => e.elim hs (fun e => by rw [e] at e3; cases e3)
        simp only [if_neg c1, if_neg hs]
        obtain ⟨p1, p2, p3⟩ := e2.phase e3 e4 (hHF (fun e => e.elim hs (fun e => by rw [e] at e3; cases e3)))
        have hkin : (phaseF (f1T (begF l))).2.m = (begF l).m ∧ (phaseF (f1T (begF l))).2.w = (begF l).w := by
          obtain ⟨L, hS⟩ := e2.s
          have hk := (phaseF_shape hS (hHF (fun e => e.elim hs (fun e => by rw [e] at e3; cases e3)))).2
          exact ⟨hk.m.trans (f1K_same _ _).2.1, hk.w.trans e5⟩
        generalize (phaseF (f1T (begF l))).2 = t1 at *
        generalize (phaseR (costed (begR l) (begF l).w)).1 = u1 at *
        obtain ⟨km, kw⟩ := hkin
        rcases p3 with ⟨o1, o2⟩ | ⟨o1, p3⟩
        · simp only [if_pos o1, if_pos o2]
          exact .inl ⟨o1, o2⟩
        · have o2 : ¬ u1.Over = true := by rw [p3.o, o1]; decide
          have o3 : ¬ t1.over = true := by rw [o1]; decide
          simp only [if_neg o3, if_neg o2, p3.c]
          by_cases hN : (ix t1.cost (begF l).w).N < 0
          · simp only [if_pos hN]
            exact .inr ⟨o1, trivial, p3⟩
          · simp only [if_neg hN]
            obtain ⟨L, hS⟩ := p3.s
            have h0 : Eq2 { t1 with cost := [] } (noCost u1) := ⟨⟨{ L with c := none }, ⟨hS.m, hS.r, hS.n1, hS.n12, hS.m24, hS.row, .inl ⟨rfl, rfl⟩, hS.bas, hS.b64⟩⟩, p3.r, p3.b, p3.bl, rfl, p3.o⟩
            have hr := Same2.reps (w := (begF l).w) (t := { t1 with cost := [] }) (u := noCost u1) (.inr ⟨o1, h0⟩) kw (k := t1.m) (Nat.le_refl _)
            rw [p3.len, ← km]
            rcases hr with ⟨q1, q2⟩ | ⟨q1, q2⟩
            · exact .inl ⟨q1, q2⟩
            · exact .inr ⟨q1, trivial, q2⟩
theorem cost2_eq {t : Tab} (hn : t.n = l.C.length) (hm : t.m = l.A.length) : rowC t l.C = cost2 l := by
  have hE : rowE t = List.replicate (t.w + 1) F01 := rfl
  unfold rowC cost2
  rw [hE, List.drop_replicate, show t.w + 1 - l.C.length = l.A.length + 1 by unfold Tab.w; omega]
theorem Eq2.s1 {t : Tab} {u : RTab} (h : Eq2 t u) (ho : t.over = false) (hn : t.n = l.C.length) (hm : t.m = l.A.length) : ∀ {k : Nat}, k ≤ t.m → ((s1R u l k).2 = false ∧ (s1K t l.C k).over = true) ∨ ((s1R u l k).2 = true ∧ (s1K t l.C k).over = false ∧ (s1R u l k).1 = (s1K t l.C k).cost ∧ (s1K t l.C k).rows = t.rows)
  | 0, _ => .inr ⟨rfl, ho, (cost2_eq hn hm).symm, rfl⟩
  | k + 1, hk => by
    obtain ⟨L, hS⟩ := h.s
    have hS1 : Shape (newC L []) (s1K t l.C k) := s1K_shape hS hn.symm (by omega)
    obtain ⟨q1, q2, q3, q4⟩ := s1K_same (t := t) hn.symm k
    have qw : (s1K t l.C k).w = t.w := s1K_w hn.symm k
    have ha : useP t l.C k ↔ (ix u.Basic k < l.C.length ∧ (ix l.C (ix u.Basic k).toNat).N ≠ 0) := by
      rw [h.b k (by omega)]
      unfold useP
      rw [hn]
    rcases h.s1 ho hn hm (k := k) (by omega) with ⟨h1, h2⟩ | ⟨h1, h2, h3, h4⟩
    · refine .inl ?_
      unfold s1R s1K
      rw [if_pos h1]
      refine ⟨h1, ?_⟩
      split
      · exact clr_over_mono h2
      · exact h2
    · unfold s1R s1K
      rw [if_neg (by rw [h1]; decide)]
      by_cases hb : ix u.Basic k < l.C.length ∧ (ix l.C (ix u.Basic k).toNat).N ≠ 0
      · rw [if_pos hb, if_pos (ha.2 hb), clr_none hS1 h2 (by rw [q3, qw]), h3, h.r, h4, qw, h.b k (by omega)]
        have hmx := minK_mix (a := (s1K t l.C k).cost) (b := ix t.rows k) (f := ix l.C (ix t.basis k).toNat) (k := t.w + 1) (by omega)
        unfold minO
        rw [q3]
        rcases hmx with ⟨g1, g2⟩ | ⟨g1, g2⟩
        · rw [g1]
          exact .inl ⟨rfl, g2⟩
        · rw [g1]
          exact .inr ⟨rfl, g2, (mix_full q3).symm, rfl⟩
      · rw [if_neg hb, if_neg (fun e => hb (ha.1 e))]
        exact .inr ⟨h1, h2, h3, h4⟩
theorem s1_eq2 {t : Tab} {u : RTab} (h : Eq2 t u) (ho : t.over = false) (hn : t.n = l.C.length) (hm : t.m = l.A.length) (h1 : (s1R u l t.m).2 = true) : Eq2 (s1T t l.C) (costed2 u l) ∧ (s1T t l.C).over = false ∧ (s1T t l.C).cost.length = (s1T t l.C).w + 1 := by
  obtain ⟨L, hS⟩ := h.s
  obtain ⟨q1, q2, q3, q4⟩ := s1K_same (t := t) hn.symm t.m
  have qw : (s1K t l.C t.m).w = t.w := s1K_w hn.symm t.m
  rcases h.s1 ho hn hm (k := t.m) (Nat.le_refl _) with ⟨e1, _⟩ | ⟨_, e2, e3, e4⟩
  · rw [e1] at h1; cases h1
  · refine ⟨⟨⟨_, s1K_shape (K := []) hS hn.symm (Nat.le_refl _)⟩, ?_, fun i hi => ?_, ?_, ?_, ?_⟩, e2, ?_⟩
    · show u.T = (s1K t l.C t.m).rows
      rw [e4]; exact h.r
    · have hi : i < t.m := by rw [← q2]; exact hi
      show ix u.Basic i = ix (s1K t l.C t.m).basis i
      rw [q4]; exact h.b i hi
    · show u.Basic.length = (s1K t l.C t.m).m
      rw [q2]; exact h.bl
    · show (s1R u l u.T.length).1 = (s1K t l.C t.m).cost
      rw [h.len]; exact e3
    · show u.Over = (s1K t l.C t.m).over
      rw [e2, h.o, ho]
    · show (s1K t l.C t.m).cost.length = (s1K t l.C t.m).w + 1
      rw [q3, qw]
theorem x_same {t : Tab} {u : RTab} (h : Eq2 t u) : ∀ {k : Nat}, k ≤ t.m → xR u t.n t.w k = xK t k
  | 0, _ => rfl
  | k + 1, hk => by
    unfold xR xK
    rw [x_same h (k := k) (by omega), h.b k (by omega), h.r]
/-- The reference's answer is the program's. -/
theorem solve_same (hc : checkF l = 0) : HaltsRL l ∧ solveR l = solveF l := by
  have ok := ok_of hc
  obtain ⟨hpf, hf⟩ := first_same ok
  have hHL := haltsL ok
  obtain ⟨L0, _, hS0⟩ := beg_shape ok
  have hfs := firstF_same hS0 (haltsF ok)
  have hin := first_in ok
  have hshR : RS (l.C.length + l.A.length) (firstR (begR l) (l.C.length + l.A.length)).1 ∧ (firstR (begR l) (l.C.length + l.A.length)).1.T.length = l.A.length := by
    have hi := hpf.i
    have hs := hpf.s
    have hh := hpf.h
    rw [show ((l.C.length : Int) + l.A.length).toNat = l.C.length + l.A.length by omega] at hs hh
    have hb : (begR l).T.length = l.A.length := rowsB_len l _
    have hfl := f1R_len hs _ (Nat.le_refl _)
    have hSc : RS (l.C.length + l.A.length) (costed (begR l) (l.C.length + l.A.length)) := ⟨hs.w36, hs.m24, hs.row, hs.bas, hs.b64, .inr hfl⟩
    unfold firstR
    split
    · exact ⟨⟨hs.w36, hs.m24, hs.row, hs.bas, hs.b64, .inr hfl⟩, hb⟩
    · rename_i e1
      split
      · exact ⟨⟨hs.w36, hs.m24, hs.row, hs.bas, hs.b64, .inr hfl⟩, hb⟩
      · rename_i e2
        obtain ⟨p1, p2, p3⟩ := phaseR_shape hSc hfl (hh (by simpa using e1) (by simpa using e2))
        have p3 : _ = l.A.length := p3.trans hb
        split
        · exact ⟨p1, p3⟩
        · split
          · exact ⟨p1, p3⟩
          · have hS1 : RS (l.C.length + l.A.length) (noCost (phaseR ⟨(begR l).T, (begR l).Basic, (f1R (begR l) (l.C.length + l.A.length) (begR l).T.length).1, (begR l).Over⟩).1) := ⟨p1.w36, p1.m24, p1.row, p1.bas, p1.b64, .inl rfl⟩
            obtain ⟨r1, r2, _⟩ := repsR_shape hS1 _ (Nat.le_refl _)
            exact ⟨r1, r2.trans p3⟩
  -- the second phase
  have hsec : ∀ (o1 : (firstF (begF l)).2.over = false) (b1 : (firstF (begF l)).1 = true) (hE : Eq2 (firstF (begF l)).2 (firstR (begR l) (l.C.length + l.A.length)).1), ((s1R (firstR (begR l) (l.C.length + l.A.length)).1 l l.A.length).2 = false ∧ (s1T (firstF (begF l)).2 l.C).over = true) ∨ ((s1R (firstR (begR l) (l.C.length + l.A.length)).1 l l.A.length).2 = true ∧ (s1T (firstF (begF l)).2 l.C).over = false ∧ HaltsR (costed2 (firstR (begR l) (l.C.length + l.A.length)).1 l) ∧ (phaseR (costed2 (firstR (begR l) (l.C.length + l.A.length)).1 l)).2 = (phaseF (s1T (firstF (begF l)).2 l.C)).1 ∧ Same2 (phaseF (s1T (firstF (begF l)).2 l.C)).2 (phaseR (costed2 (firstR (begR l) (l.C.length + l.A.length)).1 l)).1) := fun o1 b1 hE => by
    have hi := hin o1 b1
    have hs1 := hE.s1 o1 hi.n hi.m (k := (firstF (begF l)).2.m) (Nat.le_refl _)
    rw [hi.m] at hs1
    rcases hs1 with ⟨e1, e2⟩ | ⟨e1, e2, _, _⟩
    · refine .inl ⟨e1, ?_⟩
      show (s1K _ l.C (firstF (begF l)).2.m).over = true
      rw [hi.m]; exact e2
    · obtain ⟨g1, g2, g3⟩ := s1_eq2 hE o1 hi.n hi.m (by rw [hi.m]; exact e1)
      obtain ⟨p1, p2, p3⟩ := g1.phase g2 g3 (hHL.s o1 b1 (by rw [g2]; decide))
      exact .inr ⟨e1, g2, p1, p2, p3⟩
  refine ⟨⟨hpf, hshR, fun a1 a2 a3 => ?_⟩, ?_⟩
  · rcases hf with ⟨_, o2⟩ | ⟨o1, b1, hE⟩
    · rw [o2] at a1; cases a1
    · rcases hsec o1 (by rw [← b1]; exact a2) hE with ⟨e1, _⟩ | ⟨_, _, e3, _⟩
      · rw [e1] at a3; cases a3
      · exact e3
  · unfold solveR solveF
    have nc : ¬ checkF l ≠ 0 := fun e => e hc
    simp only [if_neg nc]
    rcases hf with ⟨o1, o2⟩ | ⟨o1, b1, hE⟩
    · simp only [if_pos o1, if_pos o2]
    · have o2 : ¬ (firstR (begR l) (l.C.length + l.A.length)).1.Over = true := by rw [hE.o, o1]; decide
      have o3 : ¬ (firstF (begF l)).2.over = true := by rw [o1]; decide
      simp only [if_neg o2, if_neg o3, b1]
      by_cases hb : (firstF (begF l)).1 = false
      · simp only [if_pos hb]
      · simp only [if_neg hb]
        have hb : (firstF (begF l)).1 = true := by simpa using hb
        have hi := hin o1 hb
        rw [hshR.2]
        rcases hsec o1 hb hE with ⟨e1, e2⟩ | ⟨e1, e2, e3, e4, e5⟩
        · have hs : secondF (firstF (begF l)).2 l.C = (true, s1T (firstF (begF l)).2 l.C) := if_pos e2
          rw [hs]
          simp only [if_pos e1, if_pos e2]
        · have n1 : ¬ (s1R (firstR (begR l) (l.C.length + l.A.length)).1 l l.A.length).2 = false := by rw [e1]; decide
          simp only [if_neg n1]
          have hs : secondF (firstF (begF l)).2 l.C = phaseF (s1T (firstF (begF l)).2 l.C) := if_neg (by rw [e2]; decide)
          rw [hs, e4]
          have hkin : (phaseF (s1T (firstF (begF l)).2 l.C)).2.n = l.C.length ∧ (phaseF (s1T (firstF (begF l)).2 l.C)).2.m = l.A.length := by
            obtain ⟨q1, q2, q3, q4⟩ := s1K_same (t := (firstF (begF l)).2) hi.n.symm (firstF (begF l)).2.m
            obtain ⟨L, hS⟩ := hE.s
            have hk := (phaseF_shape (s1K_shape (K := []) hS hi.n.symm (Nat.le_refl _)) (hHL.s o1 hb (by rw [e2]; decide))).2
            exact ⟨hk.n.trans (q1.trans hi.n), hk.m.trans (q2.trans hi.m)⟩
          generalize (phaseF (s1T (firstF (begF l)).2 l.C)) = f at *
          generalize (phaseR (costed2 (firstR (begR l) (l.C.length + l.A.length)).1 l)).1 = u at *
          obtain ⟨fb, t⟩ := f
          simp only at *
          obtain ⟨kn, km⟩ := hkin
          have kw : t.w = l.C.length + l.A.length := by unfold Tab.w; rw [kn, km]
          rcases e5 with ⟨o3, o4⟩ | ⟨o3, hE2⟩
          · simp only [if_pos o3, if_pos o4]
          · have n2 : ¬ u.Over = true := by rw [hE2.o, o3]; decide
            have n3 : ¬ t.over = true := by rw [o3]; decide
            simp only [if_neg n2, if_neg n3]
            by_cases hfb : fb = false
            · simp only [if_pos hfb]
            · simp only [if_neg hfb]
              rw [hE2.len, hE2.c, ← kw, ← kn, x_same hE2 (Nat.le_refl _)]
              rfl
end
theorem pre_solveR {l : Lin} (h : SmallL l) : PreSolveR l := ⟨h, fun hc => (solve_same hc).1⟩
theorem solveR_eq (l : Lin) : solveR l = solveF l := by
  by_cases hc : checkF l = 0
  · exact (solve_same hc).2
  · rw [show solveF l = ([], F00, checkF l) from if_pos hc, show solveR l = ([], F00, checkF l) from if_pos hc]
theorem solveF_len {l : Lin} (h : SmallL l) : (solveF l).1.length ≤ 1000 := by
  have hcl := h.c
  by_cases hc : checkF l = 0
  · have ha := solve_answer hc
    generalize solveF l = r at *
    cases ha with
    | ok s => rw [s.len]; exact hcl
    | none _ => exact Nat.zero_le _
    | free _ _ => exact Nat.zero_le _
    | great => exact Nat.zero_le _
  · rw [show solveF l = ([], F00, checkF l) from if_pos hc]
    exact Nat.zero_le _
end Go.Proofs.YtfoipbjhaiimlaaGreatDoor


/-
  layer 31: the law Programs.
-/
namespace Go.Proofs.YtfoipbjhaiimlaaGreatDoor
open Go.RowKit
set_option linter.unusedSimpArgs false
set_option linter.unusedVariables false
set_option maxRecDepth 100000

set_option maxHeartbeats 4000000 in
theorem sameFR : PureOK Tryz.prog G0 12 sFracs := by
  refine pureH2 (C := CE) sigCE mixCE Tryz.func12 rfl rfl rfl [6] (by kernel_rfl) (by decide) (fun a b hl => ?_)
  by_cases h1 : a.length = b.length
  case neg =>
    have h1' : ¬ (a.length : Int) = b.length := by omega
    have no : ¬ a = b := fun h => h1 (by rw [h])
    simp [h1', no]
  obtain ⟨r, hr⟩ : ∃ r, decide (a = b) = r := ⟨_, rfl⟩
  rw [hr]
  simp [h1]
  refine loop_ruleH (C := CE) sigCE mixCE [6] (fun q : Nat => ⟨[(0, Enc.enc a), (1, Enc.enc b), (5, .int .i64 q)], []⟩) (fun q => q ≤ a.length ∧ ∀ j, j < q → ix a j = ix b j) (fun q => a.length - q) (by kernel_rfl) ⟨0, ⟨by simp, fun j hj => by simp at hj⟩, weak_eq (by simp) rfl⟩ (fun k ⟨hk, hv⟩ => ?_)
  by_cases hlt : k < a.length
  · have hltb : k < b.length := by omega
    have i1 : I64 ((k : Int) + 1) := by unfold I64; omega
    simp [hlt]
    refine AW_regionF sigCE mixCE [.pure, .pure, .pure, .read, .pure, .pure, .pure, .read, .pure] [[],[],[1,0],[0,1,2],[],[],[5,4],[4,5,6],[6,5,4,7,2,1,0,3]] (by kernel_rfl) (by kernel_rfl) (by kernel_rfl) (by kernel_rfl) ?_
    by_cases h2 : (ix a k).N = (ix b k).N
    case neg =>
      have no : ¬ a = b := fun h => h2 (by rw [h])
      have hr0 : r = false := by rw [← hr]; exact decide_eq_false no
      simp [hlt, rowAt_enc hlt, hltb, rowAt_enc hltb, h2, hr0]
    by_cases h3 : (ix a k).D = (ix b k).D
    case neg =>
      have no : ¬ a = b := fun h => h3 (by rw [h])
      have hr0 : r = false := by rw [← hr]; exact decide_eq_false no
      simp [hlt, rowAt_enc hlt, hltb, rowAt_enc hltb, h2, h3, hr0]
    simp [hlt, rowAt_enc hlt, hltb, rowAt_enc hltb, h2, h3, i1]
    exact ⟨k + 1, ⟨by omega, fun j hj => by
      rcases Nat.lt_or_eq_of_le (Nat.le_of_lt_succ hj) with h | h
      · exact hv j h
      · subst h; exact fr_eq.2 ⟨h2, h3⟩⟩, by omega, weak_eq (by simp) rfl⟩
  · have yes : a = b := list_eq_upto h1 hv (by omega)
    have hr1 : r = true := by rw [← hr]; exact decide_eq_true yes
    simp [hlt, hr1]
noncomputable def CLn : Ctx := mkC Tryz.prog G0 [(12, .pure sFracs)]
@[simp] theorem CLn_P : CLn.P = Tryz.prog := rfl
@[simp] theorem CLn_G : CLn.G = G0 := rfl
@[simp] theorem CLn_1 : CLn.S 12 = .pure sFracs := rfl
theorem mixCLn : CLn.P.follows .mixedOrders = true := mixed
theorem sigCLn : SigOK CLn := sigOK_cons (entryPure (sameFR) Tryz.func12 rfl (by decide)) (sigOK_nil _ _)
set_option maxHeartbeats 4000000 in
theorem linearL : PureOK Tryz.prog G0 11 sSameL := by
  refine pureH2 (C := CLn) sigCLn mixCLn Tryz.func11 rfl rfl rfl [6] (by kernel_rfl) (by decide) (fun a b hs => ?_)
  have sa := hs.a
  have sb := hs.b
  have sc := hs.c
  by_cases h1 : a.A.length = b.A.length
  case neg =>
    have h1' : ¬ (a.A.length : Int) = b.A.length := by omega
    have no : ¬ LinEq a b := fun h => h1 (by rw [h.1])
    simp [h1', no]
  obtain ⟨r, hr⟩ : ∃ r, decide (LinEq a b) = r := ⟨_, rfl⟩
  rw [hr]
  rcases em2 (a.B = b.B) with h3 | h3
  case inr =>
    have hr1 : r = false := by rw [← hr]; exact decide_eq_false fun h => of_eq_false h3 h.2.1
    simp [CB, sFracs, h1, sb, sc, h3, hr1]
  rcases em2 (a.C = b.C) with h4 | h4
  case inr =>
    have hr1 : r = false := by rw [← hr]; exact decide_eq_false fun h => of_eq_false h4 h.2.2
    simp [CB, sFracs, h1, sb, sc, h3, h4, hr1]
  simp [sFracs, sb, sc, h1, h3, h4]
  refine loop_ruleH (C := CLn) sigCLn mixCLn [6] (fun q : Nat => ⟨[(2, .ptr 0 1 3 0 0), (3, .ptr 1 1 3 0 0), (31, .int .i64 b.A.length), (32, .int .i64 q)], [CB a, CB b]⟩) (fun q => q ≤ a.A.length ∧ ∀ j, j < q → ix a.A j = ix b.A j) (fun q => a.A.length - q) (by kernel_rfl) ⟨0, ⟨by simp, fun j hj => by simp at hj⟩, weak_eq (by simp) (by simp [CB])⟩ (fun k ⟨hk, hv⟩ => ?_)
  by_cases hlt : k < a.A.length
  · have hltb : k < b.A.length := by omega
    have i1 : I64 ((k : Int) + 1) := by unfold I64; omega
    have sr := hs.r _ (ix_mem hlt)
    simp [CB, hltb]
    refine AW_regionF sigCLn mixCLn [.pure, .read, .pure, .pure, .read, .pure, .read, .pure, .pure, .read, .read, .pure] [[],[0],[],[2,0,1],[1,0,2,3],[],[5],[],[7,5,6],[6,5,7,8],[8,7,5,6,9,3,2,0,1,4],[4,1,0,2,3,9,6,5,7,8,10]] (by kernel_rfl) (by kernel_rfl) (by kernel_rfl) (by kernel_rfl) ?_
    by_cases h2 : ix a.A k = ix b.A k
    case neg =>
      have no : ¬ LinEq a b := fun h => h2 (by rw [h.1])
      have hr0 : r = false := by rw [← hr]; exact decide_eq_false no
      simp [CB, sFracs, hlt, rowAt_enc hlt, hltb, rowAt_enc hltb, sr, h2, hr0]
    have h2' : (ix a.A k = ix b.A k) = True := eq_true h2
    simp [CB, sFracs, hlt, rowAt_enc hlt, hltb, rowAt_enc hltb, sr, h2', i1]
    exact ⟨k + 1, ⟨by omega, fun j hj => by
      rcases Nat.lt_or_eq_of_le (Nat.le_of_lt_succ hj) with h | h
      · exact hv j h
      · subst h; exact h2⟩, by omega, weak_eq (by simp) (by simp [CB])⟩
  · have yes : a.A = b.A := list_eq_upto h1 hv (by omega)
    have hltb : ¬ k < b.A.length := by omega
    have hr1 : r = true := by rw [← hr]; exact decide_eq_true ⟨yes, of_eq_true h3, of_eq_true h4⟩
    simp [CB, hltb, hr1]
noncomputable def CRqZ : Ctx := mkC Tryz.prog G0 [(8, .pure sProg), (32, .pure sSolveR)]
@[simp] theorem CRqZ_P : CRqZ.P = Tryz.prog := rfl
@[simp] theorem CRqZ_G : CRqZ.G = G0 := rfl
@[simp] theorem CRqZ_1 : CRqZ.S 8 = .pure sProg := rfl
@[simp] theorem CRqZ_2 : CRqZ.S 32 = .pure sSolveR := rfl
theorem mixCRqZ : CRqZ.P.follows .mixedOrders = true := mixed
theorem sigCRqZ : SigOK CRqZ := sigOK_cons (entryPure (programR) Tryz.func8 rfl (by decide)) (sigOK_cons (entryPure (solveRR) Tryz.func32 rfl (by decide)) (sigOK_nil _ _))
set_option maxHeartbeats 4000000 in
theorem rhoR : PureOK Tryz.prog G0 10 sRho := by
  refine pureH1 (C := CRqZ) sigCRqZ mixCRqZ Tryz.func10 rfl rfl rfl [] (by kernel_rfl) (by decide) (fun h hs => ?_)
  have hp := pre_solveR (prog_small hs)
  obtain ⟨P, ec, hP⟩ : ∃ P ec, progH h = (P, ec) := ⟨_, _, rfl⟩
  rw [hP] at hp
  obtain ⟨x, v, e, hv⟩ : ∃ x v e, solveF P = (x, v, e) := ⟨_, _, _, rfl⟩
  have hq := solveR_eq P
  by_cases h1 : ec = 0
  · by_cases h2 : e = 0
    · have e1 : rhoH h = (v, x, 0) := by unfold rhoH; rw [hP, if_neg (by simp [h1]), hv, if_neg (by simp [h2])]
      simp [sProg, hs, hP, h1, sSolveR, hp, hq, hv, h2, e1]
    · have e1 : rhoH h = (F00, [], e) := by unfold rhoH; rw [hP, if_neg (by simp [h1]), hv, if_pos h2]
      simp [sProg, hs, hP, h1, sSolveR, hp, hq, hv, h2, e1, F00]
  · have e1 : rhoH h = (F00, [], ec) := by unfold rhoH; rw [hP, if_pos h1]
    simp [sProg, hs, hP, h1, e1, F00]
theorem rho_len {h : Hy} (hs : SmallH h) : (rhoH h).2.1.length ≤ 1000 := by
  unfold rhoH
  split
  · exact Nat.zero_le _
  · split
    · exact Nat.zero_le _
    · exact solveF_len (prog_small hs)
noncomputable def CLp : Ctx := mkC Tryz.prog G0 [(5, .pure sFewH), (6, .pure (spec0 (.bool true))), (7, .pure sProg), (8, .pure sProg), (9, .pure sRho), (10, .pure sRho), (11, .pure sSameL), (12, .pure sFracs)]
@[simp] theorem CLp_P : CLp.P = Tryz.prog := rfl
@[simp] theorem CLp_G : CLp.G = G0 := rfl
@[simp] theorem CLp_1 : CLp.S 5 = .pure sFewH := rfl
@[simp] theorem CLp_2 : CLp.S 6 = .pure (spec0 (.bool true)) := rfl
@[simp] theorem CLp_3 : CLp.S 7 = .pure sProg := rfl
@[simp] theorem CLp_4 : CLp.S 8 = .pure sProg := rfl
@[simp] theorem CLp_5 : CLp.S 9 = .pure sRho := rfl
@[simp] theorem CLp_6 : CLp.S 10 = .pure sRho := rfl
@[simp] theorem CLp_7 : CLp.S 11 = .pure sSameL := rfl
@[simp] theorem CLp_8 : CLp.S 12 = .pure sFracs := rfl
theorem mixCLp : CLp.P.follows .mixedOrders = true := mixed
theorem sigCLp : SigOK CLp := sigOK_cons (entryPure (fewHP) Tryz.func5 rfl (by decide)) (sigOK_cons (entryPure (aliveC) Tryz.func6 rfl (by decide)) (sigOK_cons (entryPure (programP) Tryz.func7 rfl (by decide)) (sigOK_cons (entryPure (programR) Tryz.func8 rfl (by decide)) (sigOK_cons (entryPure (rhoP) Tryz.func9 rfl (by decide)) (sigOK_cons (entryPure (rhoR) Tryz.func10 rfl (by decide)) (sigOK_cons (entryPure (linearL) Tryz.func11 rfl (by decide)) (sigOK_cons (entryPure (sameFR) Tryz.func12 rfl (by decide)) (sigOK_nil _ _))))))))
set_option maxHeartbeats 4000000 in
theorem lawPrograms : PureOK Tryz.prog G0 3 (spec1 (fun (_ : Hy) => True) (fun _ => .bool true)) := by
  refine pureH1 (C := CLp) sigCLp mixCLp Tryz.func3 rfl rfl rfl [] (by kernel_rfl) (by decide) (fun h _ => ?_)
  by_cases h1 : FewH h
  case neg => simp [sFewH, h1]
  have hs := fewH_small h1
  have hp := prog_small hs
  have hl := rho_len hs
  obtain ⟨P, ec, hP⟩ : ∃ P ec, progH h = (P, ec) := ⟨_, _, rfl⟩
  obtain ⟨r, y, e, hr⟩ : ∃ r y e, rhoH h = (r, y, e) := ⟨_, _, _, rfl⟩
  rw [hP] at hp
  rw [hr] at hl
  have le : LinEq P P := ⟨rfl, rfl, rfl⟩
  simp only at hp hl
  simp [sFewH, h1, hs, sProg, hP, sRho, hr, sSameL, hp, le, sFracs, hl]
end Go.Proofs.YtfoipbjhaiimlaaGreatDoor


/-
  layer 31: arguments read as hypergraphs.
-/
namespace Go.Proofs.YtfoipbjhaiimlaaGreatDoor
open Go.RowKit
set_option linter.unusedSimpArgs false
set_option linter.unusedVariables false
set_option maxRecDepth 100000

theorem reads_is : Reads Tryz.prog 51 (List Int) (WfL I64) := reads_list (by kernel_rfl) (by kernel_rfl) (of_decide_eq_true (by kernel_rfl)) reads_i
theorem reads_iss : Reads Tryz.prog 22 (List (List Int)) (WfL (WfL I64)) := reads_list (e := 51) (by kernel_rfl) (by kernel_rfl) (of_decide_eq_true (by kernel_rfl)) reads_is
def WfHy (h : Hy) : Prop := I64 h.N ∧ WfL (WfL I64) h.E
theorem reads_hy : Reads Tryz.prog 24 Hy WfHy := fun n => by
  intro H enc w held cs x hx
  obtain ⟨m, rfl, hl, hf⟩ := struct_cells ⟨_, rfl⟩ hx
  obtain ⟨y0, t0⟩ := hf 0 0 3 (by kernel_rfl)
  obtain ⟨y1, t1⟩ := hf 1 1 22 (by kernel_rfl)
  obtain ⟨a, wa, ca⟩ := reads_i m enc w held _ _ t0
  obtain ⟨b, wb, cb⟩ := reads_iss m enc w held _ _ t1
  exact ⟨⟨a, b⟩, ⟨wa, wb⟩, CellsD.split (o := 0) (s := 1) ca (CellsD.split (s := 1) cb (CellsD.last (by rw [hl, show szT Tryz.prog 24 = 2 by kernel_rfl]; exact Nat.le_refl _)))⟩
end Go.Proofs.YtfoipbjhaiimlaaGreatDoor
