/-
  Texts joined: K8 K9 K10 K11.
-/
import Derived.Test.YtifbaegnkodneaaDoorS3
/-
  layer 30: Solve of the reference.
-/
namespace Go.Proofs.YtifbaegnkodneaaDoor
open Go.RowKit
set_option linter.unusedSimpArgs false
set_option linter.unusedVariables false
set_option maxRecDepth 100000

def cost2 (l : Lin) : List Fr := l.C ++ List.replicate (l.A.length + 1) F01
/-- The costs of phase two after k rows, and whether they are not too great. -/
def s1R (t : RTab) (l : Lin) : Nat → List Fr × Bool
  | 0 => (cost2 l, true)
  | k + 1 => if (s1R t l k).2 = false then s1R t l k
    else if ix t.Basic k < l.C.length ∧ (ix l.C (ix t.Basic k).toNat).N ≠ 0 then (match minO (s1R t l k).1 (ix l.C (ix t.Basic k).toNat) (ix t.T k) with
      | none => ((s1R t l k).1, false)
      | some d => (d, true))
    else s1R t l k
theorem s1R_bad {t : RTab} {l : Lin} {k : Nat} (h : (s1R t l k).2 = false) : ∀ n, s1R t l (k + n) = s1R t l k
  | 0 => rfl
  | n + 1 => by
    have ih := s1R_bad h n
    show s1R t l ((k + n) + 1) = _
    unfold s1R
    rw [if_pos (by rw [ih]; exact h), ih]
    cases k <;> rfl
theorem s1R_len {w : Nat} {t : RTab} {l : Lin} (h : RS w t) (hw : w = l.C.length + l.A.length) : ∀ k, k ≤ t.T.length → (s1R t l k).1.length = w + 1
  | 0, _ => by unfold s1R cost2; rw [List.length_append, List.length_replicate]; omega
  | k + 1, hk => by
    have ih := s1R_len h hw k (by omega)
    unfold s1R
    split
    · exact ih
    · split
      · split
        · exact ih
        · rename_i d hd
          show d.length = w + 1
          rw [minO_len hd, ih]
      · exact ih
def xR (t : RTab) (n size : Nat) : Nat → List Fr
  | 0 => List.replicate n F01
  | k + 1 => if ix t.Basic k < n then (xR t n size k).set (ix t.Basic k).toNat (ix (ix t.T k) size) else xR t n size k
theorem xR_len (t : RTab) (n size : Nat) : ∀ k, (xR t n size k).length = n
  | 0 => List.length_replicate
  | k + 1 => by
    unfold xR
    split
    · rw [List.length_set]; exact xR_len t n size k
    · exact xR_len t n size k
def costed2 (t : RTab) (l : Lin) : RTab := ⟨t.T, t.Basic, (s1R t l t.T.length).1, t.Over⟩
noncomputable def solveR (l : Lin) : List Fr × Fr × Int :=
  if checkF l ≠ 0 then ([], F00, checkF l)
  else if (firstR (begR l) (l.C.length + l.A.length)).1.Over = true then ([], F00, 24)
  else if (firstR (begR l) (l.C.length + l.A.length)).2 = false then ([], F00, 23)
  else if (s1R (firstR (begR l) (l.C.length + l.A.length)).1 l (firstR (begR l) (l.C.length + l.A.length)).1.T.length).2 = false then ([], F00, 24)
  else if (phaseR (costed2 (firstR (begR l) (l.C.length + l.A.length)).1 l)).1.Over = true then ([], F00, 24)
  else if (phaseR (costed2 (firstR (begR l) (l.C.length + l.A.length)).1 l)).2 = false then ([], F00, 19)
  else (xR (phaseR (costed2 (firstR (begR l) (l.C.length + l.A.length)).1 l)).1 l.C.length (l.C.length + l.A.length) (phaseR (costed2 (firstR (begR l) (l.C.length + l.A.length)).1 l)).1.T.length, negF (ix (phaseR (costed2 (firstR (begR l) (l.C.length + l.A.length)).1 l)).1.Cost (l.C.length + l.A.length)), 0)
/-- Both phases of the reference come to an end. -/
structure HaltsRL (l : Lin) : Prop where
  f : PreFiR (begR l) ((l.C.length : Int) + l.A.length)
  s : RS (l.C.length + l.A.length) (firstR (begR l) (l.C.length + l.A.length)).1 ∧ (firstR (begR l) (l.C.length + l.A.length)).1.T.length = l.A.length
  h : (firstR (begR l) (l.C.length + l.A.length)).1.Over = false → (firstR (begR l) (l.C.length + l.A.length)).2 = true → (s1R (firstR (begR l) (l.C.length + l.A.length)).1 l l.A.length).2 = true → HaltsR (costed2 (firstR (begR l) (l.C.length + l.A.length)).1 l)
structure PreSolveR (l : Lin) : Prop where
  small : SmallL l
  halts : checkF l = 0 → HaltsRL l
@[simp] theorem ren_rows_fr (s : Nat → Nat) (l : List Fr) : (encRows l).map (fun r => r.map (ren1 s)) = encRows l := ren_rows s (fun _ => rfl) l
@[simp] theorem okB_fr (m : Nat) (e : TypeId) (sz : Nat) (l : List Fr) (mu deep : Bool) : okB m ⟨e, sz, encRows l, mu, deep⟩ = true := ok_rows m (fun _ => rfl) l
noncomputable def sZerosN : List AV → List Blk → Option (Prop × AV × List Blk) := genNew (nspec1 (fun (n : Int) => 0 ≤ n ∧ n ≤ 1000) (fun n => .own 0 n.toNat) fun n => [R2B (List.replicate n.toNat F01)])
set_option maxHeartbeats 4000000 in
theorem zerosN : GenOK Tryd.prog G0 42 sZerosN := by
  refine newH1 (C := CRz) sigCRz mixCRz Tryd.func42 rfl rfl rfl [] (by kernel_rfl) (by decide) (fun n => [0]) (by simp) (fun n => ⟨by simp [okR, ok2, AV.clean1], by simp [R2B]⟩) (fun n ⟨h0, h1⟩ => ?_)
  obtain ⟨n, rfl⟩ : ∃ m : Nat, n = m := ⟨n.toNat, by omega⟩
  simp
  refine AW.weak (weak_nil 3 2 29 rfl (by decide)) ?_
  refine loop_ruleH (C := CRz) sigCRz mixCRz [] (fun k : Nat => ⟨[(0, .int .i64 n), (3, .own 0 k), (4, .int .i64 k)], [R2B (List.replicate k F01)]⟩) (fun k => k ≤ n) (fun k => n - k) (by kernel_rfl) ⟨0, by simp, weak_eq (by simp) (by simp [R2B])⟩ (fun k hk => ?_)
  by_cases hlt : k < n
  · have i1 : I64 ((k : Int) + 1) := by unfold I64; omega
    have hlt' : (k : Int) < n := by omega
    simp [R2B, hlt, hlt', i1, F01]
    exact ⟨⟨by omega, by omega⟩, k + 1, by omega, by omega, weak_eq (by simp) (by simp [R2B, List.replicate_succ', F01])⟩
  · have hke : k = n := by omega
    subst hke
    simp [R2B]
    refine wEnd_here ?_
    simp [R2B]
noncomputable def CRs : Ctx := mkC Tryd.prog G0 [(16, .pure sCheckF), (41, .pure sBegR), (40, .pure sFiR), (42, .gen sZerosN), (43, .pure sMinR), (44, .pure sPhR), (31, .pure sNeg)]
@[simp] theorem CRs_P : CRs.P = Tryd.prog := rfl
@[simp] theorem CRs_G : CRs.G = G0 := rfl
@[simp] theorem CRs_1 : CRs.S 16 = .pure sCheckF := rfl
@[simp] theorem CRs_2 : CRs.S 41 = .pure sBegR := rfl
@[simp] theorem CRs_3 : CRs.S 40 = .pure sFiR := rfl
@[simp] theorem CRs_4 : CRs.S 42 = .gen sZerosN := rfl
@[simp] theorem CRs_5 : CRs.S 43 = .pure sMinR := rfl
@[simp] theorem CRs_6 : CRs.S 44 = .pure sPhR := rfl
@[simp] theorem CRs_7 : CRs.S 31 = .pure sNeg := rfl
theorem mixCRs : CRs.P.follows .mixedOrders = true := mixed
theorem sigCRs : SigOK CRs := sigOK_cons (entryPure (checkR) Tryd.func16 rfl (by decide)) (sigOK_cons (entryPure (begRR) Tryd.func41 rfl (by decide)) (sigOK_cons (entryPure (firstRR) Tryd.func40 rfl (by decide)) (sigOK_cons (entryGen (zerosN) Tryd.func42 rfl (by decide)) (sigOK_cons (entryPure (minR) Tryd.func43 rfl (by decide)) (sigOK_cons (entryPure (phaseRR) Tryd.func44 rfl (by decide)) (sigOK_cons (entryPure (negR) Tryd.func31 rfl (by decide)) (sigOK_nil _ _)))))))
noncomputable def sSolveR : List AV → Option (Prop × AV) := spec1 PreSolveR (fun l => .tup [Enc.enc (solveR l).1, Enc.enc (solveR l).2.1, .int .i64 (solveR l).2.2])
set_option maxHeartbeats 16000000 in
theorem solveRR : PureOK Tryd.prog G0 21 sSolveR := by
  refine pureH1 (C := CRs) sigCRs mixCRs Tryd.func21 rfl rfl rfl [11, 15, 16, 30] (by kernel_rfl) (by decide) (fun l hp => ?_)
  have hs := hp.small
  by_cases h1 : checkF l = 0
  case neg =>
    have e : solveR l = ([], F00, checkF l) := if_pos h1
    simp [sCheckF, hs, h1, e, F00]
  obtain ⟨hf, ⟨hS, hT⟩, hh⟩ := hp.halts h1
  obtain ⟨k1, k2, k3, k4, k5, k6, k7⟩ := check_zero h1
  have hC1 : 1 ≤ l.C.length := by cases hC : l.C with | nil => exact absurd hC k3 | cons a r => simp
  obtain ⟨w, hw⟩ : ∃ w, l.C.length + l.A.length = w := ⟨_, rfl⟩
  have hwi : (l.C.length : Int) + l.A.length = w := by omega
  have iw : I64 (w : Int) := by unfold I64; omega
  have eR : solveR l = if (firstR (begR l) w).1.Over = true then ([], F00, 24)
    else if (firstR (begR l) w).2 = false then ([], F00, 23)
    else if (s1R (firstR (begR l) w).1 l (firstR (begR l) w).1.T.length).2 = false then ([], F00, 24)
    else if (phaseR (costed2 (firstR (begR l) w).1 l)).1.Over = true then ([], F00, 24)
    else if (phaseR (costed2 (firstR (begR l) w).1 l)).2 = false then ([], F00, 19)
    else (xR (phaseR (costed2 (firstR (begR l) w).1 l)).1 l.C.length w (phaseR (costed2 (firstR (begR l) w).1 l)).1.T.length, negF (ix (phaseR (costed2 (firstR (begR l) w).1 l)).1.Cost w), 0) := by
    unfold solveR
    rw [if_neg (fun e => e h1), hw]
  rw [hw] at hS hT hh
  rw [hwi] at hf
  have hwt : ((w : Int)).toNat = w := Int.toNat_natCast w
  obtain ⟨t, fb, htf⟩ : ∃ t fb, firstR (begR l) w = (t, fb) := ⟨_, _, rfl⟩
  rw [htf] at eR hS hT hh
  simp only at eR hS hT hh
  obtain ⟨T, B, Co, O⟩ := t
  cases O with
  | true =>
    rw [if_pos rfl] at eR
    simp [sCheckF, hs, h1, sBegR, hwi, iw, sFiR, hf, htf, eR, F00]
    done
  | false =>
  rw [if_neg (by simp)] at eR
  cases fb with
  | false =>
    rw [if_pos rfl] at eR
    simp [sCheckF, hs, h1, sBegR, hwi, iw, sFiR, hf, htf, eR, F00]
    done
  | true =>
  rw [if_neg (by simp)] at eR
  have hz1 : (0 : Int) ≤ (l.A.length : Int) + 1 ∧ (l.A.length : Int) + 1 ≤ 1000 := by omega
  have hz2 : ((l.A.length : Int) + 1).toNat = l.A.length + 1 := by omega
  have im : I64 ((l.A.length : Int) + 1) := by unfold I64; omega
  simp [sCheckF, hs, h1, sBegR, hwi, iw, sFiR, hf, htf]
  refine AW_regionF sigCRs mixCRs [.read, .pure, .read, .eff, .pure, .read, .pure, .pure, .eff, .eff, .pure, .eff] [[],[],[1],[1,2,0],[],[4],[4,5],[5,4,6],[0,2,1,3,6,4,5,7],[7,5,4,6,8,0,2,1,3],[9,8,7,6,5,4,3,2,1,0],[0,1,2,3,4,5,6,7,8,9,10]] (by kernel_rfl) (by kernel_rfl) (by kernel_rfl) (by kernel_rfl) ?_
  simp [CB, RB, R2B, sZerosN, hz1, hz2, im]
  refine ⟨⟨by omega, by omega⟩, ⟨by omega, by omega⟩, ?_⟩
  have hcl : l.C.length + (l.A.length + 1) = w + 1 := by omega
  have hclos : ∀ ρ : List (Nat × AV), Weak CRs 156 0 ⟨ρ, [CB l, FB F00, ⟨58, 4, [[.slice 1 false (encRows T), .slice 1 false (encRows B), .own 3 (w + 1), .bool false]], true, false⟩, R2B (cost2 l), R2B (List.replicate (l.A.length + 1) F01)]⟩ ⟨ρ, [CB l, FB F00, RB ⟨T, B, cost2 l, false⟩, ⟨29, 2, encRows (cost2 l), false, true⟩, R2B (List.replicate (l.A.length + 1) F01)]⟩ := fun ρ => by
    have hc2 : (cost2 l).length = w + 1 := by unfold cost2; rw [List.length_append, List.length_replicate]; omega
    have w := weak_close (C := CRs) (N := 156) (h0 := 0) (ρ := ρ) (H := [CB l, FB F00, ⟨58, 4, [[.slice 1 false (encRows T), .slice 1 false (encRows B), .own 3 (w + 1), .bool false]], true, false⟩, R2B (cost2 l), R2B (List.replicate (l.A.length + 1) F01)]) 2 rfl [3] (fun r hr c hc q hq => by
      simp only [List.mem_singleton] at hr
      subst hr
      simp only [List.mem_cons, List.not_mem_nil, or_false] at hc
      rcases hc with rfl | rfl | rfl | rfl
      · simp [reach] at hq
      · simp [reach] at hq
      · simpa [reach, R2B] using hq
      · simp [reach] at hq) (by decide)
    have e : ∀ H : List Blk, H = [CB l, FB F00, RB ⟨T, B, cost2 l, false⟩, ⟨29, 2, encRows (cost2 l), false, true⟩, R2B (List.replicate (l.A.length + 1) F01)] → Weak CRs 156 0 ⟨ρ, H⟩ ⟨ρ, [CB l, FB F00, RB ⟨T, B, cost2 l, false⟩, ⟨29, 2, encRows (cost2 l), false, true⟩, R2B (List.replicate (l.A.length + 1) F01)]⟩ := fun H h => by rw [h]; exact Weak.refl _
    exact w.trans (e _ (by simp [CB, FB, RB, R2B, hc2]))
  obtain ⟨t, ht⟩ : ∃ t : RTab, t = ⟨T, B, Co, false⟩ := ⟨_, rfl⟩
  rw [← ht] at eR hS hh
  have tT : t.T = T := by rw [ht]
  have tB : t.Basic = B := by rw [ht]
  have hT : T.length = l.A.length := hT
  have hBT : B.length = T.length := by rw [← tB, ← tT]; exact hS.bas
  have hrowT : ∀ k, k < T.length → (ix T k).length = w + 1 := fun k hk => by rw [← tT]; exact hS.rowAt (by rw [tT]; exact hk)
  have hflen := fun k (hk : k ≤ T.length) => s1R_len (l := l) hS hw.symm k (by rw [tT]; exact hk)
  have hB0 : ∀ k, k < B.length → 0 ≤ ix B k := fun k hk => by rw [← tB]; exact (hS.b64 _ (ix_mem (by rw [tB]; exact hk))).1
  refine loop_ruleH (C := CRs) sigCRs mixCRs [11, 15, 16, 30] (fun k : Nat => ⟨[(1, .ptr 0 1 3 0 0), (3, .ptr 1 1 2 0 0), (6, .int .i64 l.C.length), (7, .int .i64 w), (8, .ptr 2 1 4 0 0), (10, .int .i64 k)], [CB l, FB F00, RB ⟨T, B, (s1R t l k).1, false⟩, ⟨29, 2, encRows (cost2 l), false, true⟩, R2B (List.replicate (l.A.length + 1) F01)]⟩) (fun k => k ≤ T.length ∧ (s1R t l k).2 = true) (fun k => T.length - k) (by kernel_rfl) ⟨0, ⟨by omega, rfl⟩, (weak_eq (by simp) (by simp [CB, FB, R2B, cost2, hcl, F00])).trans (hclos [(1, .ptr 0 1 3 0 0), (3, .ptr 1 1 2 0 0), (6, .int .i64 l.C.length), (7, .int .i64 w), (8, .ptr 2 1 4 0 0), (10, .int .i64 0)])⟩ (fun k ⟨hk, hok⟩ => ?_)
  have hfl := hflen k hk
  by_cases hlt : k < T.length
  · have i1 : I64 ((k : Int) + 1) := by unfold I64; omega
    have hkb : k < B.length := by omega
    have hrk := hrowT k hlt
    have hfs : s1R t l (k + 1) = if ix B k < l.C.length ∧ (ix l.C (ix B k).toNat).N ≠ 0 then (match minO (s1R t l k).1 (ix l.C (ix B k).toNat) (ix T k) with
      | none => ((s1R t l k).1, false)
      | some d => (d, true))
      else s1R t l k := by
      conv => { lhs; unfold s1R; rw [if_neg (by rw [hok]; decide), tB, tT] }
    obtain ⟨bn, hbn⟩ : ∃ bn : Nat, ix B k = bn := ⟨(ix B k).toNat, by have := hB0 k hkb; omega⟩
    rw [hbn, Int.toNat_natCast] at hfs
    have hlt' : (k : Int) < T.length := by omega
    simp [CB, FB, RB, hlt]
    refine AW_regionF sigCRs mixCRs [.pure, .read, .pure, .pure, .read, .pure, .pure, .pure, .pure, .read, .pure, .read, .pure, .pure, .read, .pure, .pure, .read, .pure, .pure] [[],[0],[],[2,0,1],[1,0,2,3],[],[5,3,2,0,1,4],[4,1,0,2,3,5,6],[6,5,3,2,0,1,4,7],[7,4,1,0,2,3,5,6,8],[6,5,3,2,0,1,4,7],[7,4,1,0,2,3,5,6,10],[6,5,3,2,0,1,4,7],[12,10,6,5,3,2,0,1,4,7,11],[11,7,4,1,0,2,3,5,6,10,12,13],[13,12,10,11,14,8,6,5,3,2,0,1,4,7,9],[9,7,4,1,0,2,3,5,6,8,14,11,10,12,13,15],[15,13,12,10,11,14,8,6,5,3,2,0,1,4,7,9,16],[16,9,7,4,1,0,2,3,5,6,8,14,11,10,12,13,15,17],[17,15,13,12,10,11,14,8,9,16,18,6,5,3,2,0,1,4,7]] (by kernel_rfl) (by kernel_rfl) (by kernel_rfl) (by kernel_rfl) ?_
    by_cases hbl : bn < l.C.length
    · have hbi : (bn : Int) < l.C.length := by omega
      by_cases hN : (ix l.C bn).N = 0
      · rw [if_neg (fun h => h.2 hN)] at hfs
        simp [CB, FB, RB, hlt, hkb, rowAt_enc hkb, hbn, hbl, hbi, rowAt_enc hbl, hN, i1]
        exact ⟨k + 1, ⟨by omega, by rw [hfs]; exact hok⟩, by omega, weak_eq (by simp) (by simp [hfs])⟩
      · rw [if_pos ⟨by omega, hN⟩] at hfs
        simp [CB, FB, RB, hlt, hkb, rowAt_enc hkb, hbn, hbl, hbi, rowAt_enc hbl, hN]
        refine AW_regionF sigCRs mixCRs [.pure, .read, .pure, .read, .pure, .read, .pure, .pure, .read, .pure, .read, .pure, .read, .pure, .pure, .read, .read, .pure, .pure, .pure, .pure, .pure] [[],[0],[],[2],[],[4],[],[6,4,5],[5,4,6,7],[7,6,4,5,8,2,3],[3,2,8,5,4,6,7,9],[],[11],[],[13,11,12],[12,11,13,14],[14,13,11,12,15,9,7,6,4,5,8,2,3,10,0,1],[1,0,10,3,2,8,5,4,6,7,9,15,12,11,13,14,16],[16,14,13,11,12,15,9,7,6,4,5,8,2,3,10,0,1,17],[16,14,13,11,12,15,9,7,6,4,5,8,2,3,10,0,1,17],[17,1,0,10,3,2,8,5,4,6,7,9,15,12,11,13,14,16,18],[18,20,17,1,0,10,3,2,8,5,4,6,7,9,15,12,11,13,14,16,19]] (by kernel_rfl) (by kernel_rfl) (by kernel_rfl) (by kernel_rfl) ?_
        have hm1 : (s1R t l k).1.length ≤ 1000 := by omega
        have hm2 : (s1R t l k).1.length ≤ (ix T k).length := by omega
        cases hmo : minO (s1R t l k).1 (ix l.C bn) (ix T k) with
        | none =>
          rw [hmo] at hfs
          simp only at hfs
          have hbad := s1R_bad (t := t) (l := l) (k := k + 1) (by rw [hfs]) (T.length - (k + 1))
          rw [show k + 1 + (T.length - (k + 1)) = T.length by omega, hfs] at hbad
          rw [tT, hbad, if_pos rfl] at eR
          simp [CB, FB, RB, hlt, rowAt_enc hlt, hkb, rowAt_enc hkb, hbn, hbl, hbi, rowAt_enc hbl, sMinR, hm1, hm2, hmo, eR, F00]
          done
        | some d =>
          rw [hmo] at hfs
          simp only at hfs
          simp [CB, FB, RB, hlt, rowAt_enc hlt, hkb, rowAt_enc hkb, hbn, hbl, hbi, rowAt_enc hbl, sMinR, hm1, hm2, hmo, i1]
          exact ⟨k + 1, ⟨by omega, by rw [hfs]⟩, by omega, weak_eq (by simp) (by simp [hfs])⟩
    · have hbi : ¬ (bn : Int) < l.C.length := by omega
      rw [if_neg (fun h => hbi h.1)] at hfs
      simp [CB, FB, RB, hlt, hkb, rowAt_enc hkb, hbn, hbl, hbi, i1]
      exact ⟨k + 1, ⟨by omega, by rw [hfs]; exact hok⟩, by omega, weak_eq (by simp) (by simp [hfs])⟩
  · have hke : k = T.length := by omega
    subst hke
    rw [tT, hok, if_neg (by decide)] at eR
    have hcs : costed2 t l = ⟨T, B, (s1R t l T.length).1, false⟩ := by unfold costed2; rw [tT, tB, ht]
    have hH := hh (by rw [ht]) rfl (by rw [← hT]; exact hok)
    have hSc : RS w (costed2 t l) := by
      rw [hcs]
      exact ⟨hS.w36, by rw [← tT]; exact hS.m24, by rw [← tT]; exact hS.row, hBT, by rw [← tB]; exact hS.b64, .inr hfl⟩
    have hCc : (costed2 t l).Cost.length = w + 1 := by rw [hcs]; exact hfl
    obtain ⟨p1, p2, p3⟩ := phaseR_shape hSc hCc hH
    have hpp : PrePhR (costed2 t l) := ⟨⟨w, hSc, hCc⟩, hH⟩
    rw [hcs] at hpp p1 p2 p3 eR
    have p3 : _ = T.length := p3
    obtain ⟨u, pb, hu⟩ : ∃ u pb, phaseR ⟨T, B, (s1R t l T.length).1, false⟩ = (u, pb) := ⟨_, _, rfl⟩
    rw [hu] at eR p1 p2 p3
    simp only at eR p1 p2 p3
    obtain ⟨uT, uB, uC, uO⟩ := u
    cases uO with
    | true =>
      rw [if_pos rfl] at eR
      simp [CB, FB, RB, hlt, sPhR, hpp, hu, eR, F00]
      done
    | false =>
    rw [if_neg (by simp)] at eR
    cases pb with
    | false =>
      rw [if_pos rfl] at eR
      simp [CB, FB, RB, hlt, sPhR, hpp, hu, eR, F00]
      done
    | true =>
    rw [if_neg (by simp)] at eR
    simp only at eR p2 p3
    have hzn : (0 : Int) ≤ l.C.length ∧ l.C.length ≤ 1000 := by omega
    have hww : w < uC.length := by omega
    have huB : uB.length = uT.length := p1.bas
    have huB0 : ∀ k, k < uB.length → 0 ≤ ix uB k := fun k hk => (p1.b64 _ (ix_mem hk)).1
    simp [CB, FB, RB, R2B, hlt, sPhR, hpp, hu, sZerosN, hzn]
    refine ⟨by omega, ?_⟩
    have hx0 : xR ⟨uT, uB, uC, false⟩ l.C.length w 0 = List.replicate l.C.length F01 := rfl
    have hxs : ∀ k, xR ⟨uT, uB, uC, false⟩ l.C.length w (k + 1) = if ix uB k < l.C.length then (xR ⟨uT, uB, uC, false⟩ l.C.length w k).set (ix uB k).toNat (ix (ix uT k) w) else xR ⟨uT, uB, uC, false⟩ l.C.length w k := fun k => rfl
    have hxl := fun k => xR_len ⟨uT, uB, uC, false⟩ l.C.length w k
    generalize xR ⟨uT, uB, uC, false⟩ l.C.length w = xs at *
    refine loop_ruleH (C := CRs) sigCRs mixCRs [11, 15, 16, 30] (fun k : Nat => ⟨[(1, .ptr 0 1 3 0 0), (3, .ptr 1 1 2 0 0), (6, .int .i64 l.C.length), (7, .int .i64 w), (13, .ptr 5 1 4 0 0), (15, .own 6 l.C.length), (16, .int .i64 k)], [CB l, FB F00, RB ⟨T, B, (s1R t l T.length).1, false⟩, ⟨29, 2, encRows (cost2 l), false, true⟩, R2B (List.replicate (l.A.length + 1) F01), RB ⟨uT, uB, uC, false⟩, R2B (xs k)]⟩) (fun k => k ≤ uT.length) (fun k => uT.length - k) (by kernel_rfl) ⟨0, by simp, weak_eq (by simp) (by simp [CB, FB, RB, R2B, hx0])⟩ (fun k hk => ?_)
    by_cases hkl : k < uT.length
    · have i1 : I64 ((k : Int) + 1) := by unfold I64; omega
      have hkb : k < uB.length := by omega
      obtain ⟨bn, hbn⟩ : ∃ bn : Nat, ix uB k = bn := ⟨(ix uB k).toNat, by have := huB0 k hkb; omega⟩
      have hx1 := hxs k
      have hxlk := hxl k
      rw [hbn, Int.toNat_natCast] at hx1
      have hwr : w < (ix uT k).length := by have h : (ix uT k).length = w + 1 := p1.rowAt hkl; omega
      by_cases hbl : bn < l.C.length
      · have hbi : (bn : Int) < l.C.length := by omega
        rw [if_pos hbi] at hx1
        simp [CB, FB, RB, R2B, hkl, hkb, rowAt_enc hkb, hbn, hbl, hbi]
        refine AW_regionF sigCRs mixCRs [.pure, .pure, .read, .pure, .pure, .read, .pure, .read, .pure, .pure, .read, .pure, .pure, .read, .pure, .eff] [[],[],[1],[],[3,1,2],[2,1,3,4],[],[6],[],[8,6,7],[7,6,8,9],[],[11,9,8,6,7,10],[10,7,6,8,9,11,12],[13,12,11,10,9,8,7,6,4,3,1,2,5,0],[0,5,2,1,3,4,6,7,8,9,10,11,12,13,14]] (by kernel_rfl) (by kernel_rfl) (by kernel_rfl) (by kernel_rfl) ?_
        simp [CB, FB, RB, R2B, hkl, rowAt_enc hkl, hkb, rowAt_enc hkb, hbn, hbl, hbi, hwr, rowAt_enc hwr, hxlk, i1]
        have hbx : bn < (xs k).length := by omega
        exact ⟨k + 1, by omega, by omega, weak_eq (by simp) (by simp [hx1, rowAt_enc hbx])⟩
      · have hbi : ¬ (bn : Int) < l.C.length := by omega
        rw [if_neg hbi] at hx1
        simp [CB, FB, RB, R2B, hkl, hkb, rowAt_enc hkb, hbn, hbl, hbi, i1]
        exact ⟨k + 1, by omega, by omega, weak_eq (by simp) (by simp [hx1])⟩
    · have hke : k = uT.length := by omega
      subst hke
      have hxlk := hxl uT.length
      simp [CB, FB, RB, R2B, hkl, hww, rowAt_enc hww, sNeg, hxlk, eR]
      done
end Go.Proofs.YtifbaegnkodneaaDoor

/-
  layer 30: the reference's tableau is the program's.
-/
namespace Go.Proofs.YtifbaegnkodneaaDoor
open Go.RowKit
set_option linter.unusedSimpArgs false
set_option linter.unusedVariables false
set_option maxRecDepth 100000

/-- The same tableau. -/
structure Eq2 (t : Tab) (u : RTab) : Prop where
  s : ∃ L, Shape L t
  r : u.T = t.rows
  b : ∀ i, i < t.m → ix u.Basic i = ix t.basis i
  bl : u.Basic.length = t.m
  c : u.Cost = t.cost
  o : u.Over = t.over
section
variable {t : Tab} {u : RTab}
theorem Eq2.rs (h : Eq2 t u) : RS t.w u := by
  obtain ⟨L, hS⟩ := h.s
  refine ⟨shape_w36 hS, by rw [h.r, hS.m]; exact hS.m24, fun r hr => hS.row r (by rw [← h.r]; exact hr), by rw [h.bl, h.r, hS.m], fun b hb => ?_, ?_⟩
  · obtain ⟨i, hi, rfl⟩ := List.getElem_of_mem hb
    have := h.b i (by rw [← h.bl]; exact hi)
    rw [ix_lt hi] at this
    rw [this]
    exact bas_nn hS i
  · rw [h.c]
    rcases hS.cost with ⟨_, h1⟩ | ⟨_, h1⟩
    · exact .inl h1
    · exact .inr h1
theorem Eq2.len (h : Eq2 t u) : u.T.length = t.m := by
  obtain ⟨L, hS⟩ := h.s
  rw [h.r, hS.m]
/-! ### Rows -/
theorem minK_mix {a b : List Fr} {f : Fr} : ∀ {k : Nat}, k ≤ a.length → (minK a f b k = none ∧ anyK k (fun j => (mnP (ix a j) f (ix b j)).2) = true) ∨ (minK a f b k = some ((List.range k).map fun j => (mnP (ix a j) f (ix b j)).1) ∧ anyK k (fun j => (mnP (ix a j) f (ix b j)).2) = false)
  | 0, _ => .inr ⟨rfl, rfl⟩
  | k + 1, hk => by
    rcases minK_mix (a := a) (b := b) (f := f) (k := k) (by omega) with ⟨h1, h2⟩ | ⟨h1, h2⟩
    · refine .inl ⟨minK_none h1 1, ?_⟩
      rw [anyK_succ, h2]
      rfl
    · rw [minK_succ h1, anyK_succ, h2, Bool.false_or]
      unfold mnP
      cases h3 : mnO (ix a k) f (ix b k) with
      | none => exact .inl ⟨rfl, rfl⟩
      | some d =>
        refine .inr ⟨?_, rfl⟩
        rw [List.range_succ, List.map_append]
        simp [h3]
theorem divK_mix {a : List Fr} {p : Fr} : ∀ {k : Nat}, k ≤ a.length → (divK a p k = none ∧ anyK k (fun j => (dvP (ix a j) p).2) = true) ∨ (divK a p k = some ((List.range k).map fun j => (dvP (ix a j) p).1) ∧ anyK k (fun j => (dvP (ix a j) p).2) = false)
  | 0, _ => .inr ⟨rfl, rfl⟩
  | k + 1, hk => by
    rcases divK_mix (a := a) (p := p) (k := k) (by omega) with ⟨h1, h2⟩ | ⟨h1, h2⟩
    · refine .inl ⟨divK_none h1 1, ?_⟩
      rw [anyK_succ, h2]
      rfl
    · rw [divK_succ h1, anyK_succ, h2, Bool.false_or]
      unfold dvP
      cases h3 : divO (ix a k) p with
      | none => exact .inl ⟨rfl, rfl⟩
      | some d =>
        refine .inr ⟨?_, rfl⟩
        rw [List.range_succ, List.map_append]
        simp [h3]
theorem mix_full {g : Nat → Fr} {row : List Fr} {n : Nat} (h : row.length = n) : mixF n g row = (List.range n).map g := by
  refine List.ext_getElem (by rw [mixF_len, List.length_map, List.length_range, h]) fun j h1 h2 => ?_
  rw [mixF_len] at h1
  have := mixF_ix (k := n) (g := g) h1
  rw [ix_lt (by rw [mixF_len]; exact h1), if_pos (by omega)] at this
  rw [this, List.getElem_map, List.getElem_range]
theorem list_set_same {α : Type} [Inhabited α] {l : List α} {i : Nat} : l.set i (ix l i) = l := by
  by_cases h : i < l.length
  · rw [ix_lt h, List.set_getElem_self]
  · rw [List.set_eq_of_length_le (by omega)]
theorem setTgt_over (t : Tab) (g : Option Nat) (r : List Fr) : (setTgt t g r).over = t.over := by cases g <;> rfl
theorem elim_rows (hS : ∃ L, Shape L t) {i j : Nat} {c : List Fr} (hi : i < t.m) (hur : u.T = t.rows) {t1 : Tab} (h1 : ∃ L, Shape L t1) (hm1 : t1.m = t.m) (hw1 : t1.w = t.w) (ho1 : t1.over = false) (hc1 : ix t1.rows i = c) (hr1 : ∀ q, q ≠ i → ix t1.rows q = ix t.rows q) : ∀ {k : Nat}, k ≤ t.m →
    (rowsR u i j c k = none ∧ (elimK t1 i j k).over = true) ∨ (∃ rs, rowsR u i j c k = some rs ∧ (elimK t1 i j k).over = false ∧ (∀ q, q < k → ix rs q = ix (elimK t1 i j k).rows q) ∧ (∀ q, k ≤ q → q ≠ i → ix (elimK t1 i j k).rows q = ix t.rows q) ∧ ix (elimK t1 i j k).rows i = c ∧ (elimK t1 i j k).cost = t1.cost)
  | 0, _ => .inr ⟨[], rfl, ho1, fun q hq => by omega, fun q _ hq => hr1 q hq, hc1, rfl⟩
  | k + 1, hk => by
    obtain ⟨L, hL⟩ := hS
    obtain ⟨L1, hL1⟩ := h1
    have hSk : Shape L1 (elimK t1 i j k) := elimK_shape hL1 (by rw [hm1]; exact hi) j (by rw [hm1]; omega)
    have hmk : (elimK t1 i j k).m = t.m := (elimK_m i j k).trans hm1
    have hwk : (elimK t1 i j k).w = t.w := by unfold Tab.w at hw1 ⊢; rw [elimK_n, elimK_m]; exact hw1
    rcases elim_rows (j := j) ⟨L, hL⟩ hi hur ⟨L1, hL1⟩ hm1 hw1 ho1 hc1 hr1 (k := k) (by omega) with ⟨e1, e2⟩ | ⟨rs, e1, e2, e3, e4, e5, e6⟩
    · refine .inl ⟨rowsR_none e1 1, ?_⟩
      unfold elimK elim1
      split
      · unfold clrT clrK orT
        simp only [Bool.or_eq_true]
        left
        rw [setTgt_over]
        exact e2
      · exact e2
    · rw [rowsR_succ e1]
      have hrl := rowsR_len e1
      have snoc : ∀ x : List Fr, ∀ q, ix (rs ++ [x]) q = if q < k then ix rs q else if q = k then x else default := fun x q => by
        unfold ix
        rw [List.getD_eq_getElem?_getD, List.getD_eq_getElem?_getD]
        by_cases hq : q < k
        · rw [if_pos hq, List.getElem?_append_left (by omega)]
        · rw [if_neg hq, List.getElem?_append_right (by omega), hrl]
          by_cases hqk : q = k
          · rw [if_pos hqk, hqk, Nat.sub_self]; rfl
          · rw [if_neg hqk]
            obtain ⟨p, hp⟩ : ∃ p, q - k = p + 1 := ⟨q - k - 1, by omega⟩
            rw [hp]
            rfl
      by_cases hki : k = i
      · have hn : newRow u i j c k = some c := if_pos hki
        have he : elimK t1 i j (k + 1) = elimK t1 i j k := by
          show elim1 (elimK t1 i j k) i j k = _
          unfold elim1
          rw [if_neg (fun h => h.1 hki)]
        rw [hn, he]
        refine .inr ⟨rs ++ [c], rfl, e2, fun q hq => ?_, fun q hq hqi => e4 q (by omega) hqi, e5, e6⟩
        rw [snoc]
        by_cases hqk : q < k
        · rw [if_pos hqk]; exact e3 q hqk
        · rw [if_neg hqk, if_pos (by omega), show q = i by omega, e5]
      · have hrk := e4 k (Nat.le_refl k) hki
        have hn : newRow u i j c k = if (ix (ix t.rows k) j).N ≠ 0 then minO (ix t.rows k) (ix (ix t.rows k) j) c else some (ix t.rows k) := by
          unfold newRow
          rw [if_neg hki, hur]
        rw [hn]
        by_cases hN : (ix (ix t.rows k) j).N = 0
        · rw [if_neg (fun h => h hN)]
          have he : elimK t1 i j (k + 1) = elimK t1 i j k := by
            show elim1 (elimK t1 i j k) i j k = _
            unfold elim1
            rw [if_neg (fun h => h.2 (by rw [hrk]; exact hN))]
          rw [he]
          refine .inr ⟨rs ++ [ix t.rows k], rfl, e2, fun q hq => ?_, fun q hq hqi => e4 q (by omega) hqi, e5, e6⟩
          rw [snoc]
          by_cases hqk : q < k
          · rw [if_pos hqk]; exact e3 q hqk
          · rw [if_neg hqk, if_pos (by omega), show q = k by omega, hrk]
        · rw [if_pos hN]
          have he : elimK t1 i j (k + 1) = clrT (elimK t1 i j k) ⟨some k, ix (ix t.rows k) j, i⟩ := by
            show elim1 (elimK t1 i j k) i j k = _
            unfold elim1
            rw [if_pos ⟨hki, by rw [hrk]; exact hN⟩, hrk]
          have hlen : (ix t.rows k).length = t.w + 1 := row_len hL (by omega)
          have hcl : clrT (elimK t1 i j k) ⟨some k, ix (ix t.rows k) j, i⟩ = { elimK t1 i j k with rows := (elimK t1 i j k).rows.set k (mixF (t.w + 1) (fun q => (mnP (ix (ix t.rows k) q) (ix (ix t.rows k) j) (ix c q)).1) (ix t.rows k)), over := anyK (t.w + 1) fun q => (mnP (ix (ix t.rows k) q) (ix (ix t.rows k) j) (ix c q)).2 } := by
            unfold clrT clrK orT setTgt tgtR
            simp only [hrk, e5, e2, hwk, Bool.false_or]
          have hks : ∀ x q, ix ((elimK t1 i j k).rows.set k x) q = if q = k then x else ix (elimK t1 i j k).rows q := fun x q => ix_set (by rw [hSk.m, hmk]; omega)
          rw [he, hcl]
          have hmx := minK_mix (a := ix t.rows k) (b := c) (f := ix (ix t.rows k) j) (k := t.w + 1) (by omega)
          unfold minO
          rw [hlen]
          rcases hmx with ⟨g1, g2⟩ | ⟨g1, g2⟩
          · rw [g1]
            exact .inl ⟨rfl, g2⟩
          · rw [g1, mix_full hlen]
            refine .inr ⟨_, rfl, g2, fun q hq => ?_, fun q hq hqi => ?_, ?_, e6⟩
            · rw [snoc]
              show _ = ix ((elimK t1 i j k).rows.set k _) q
              rw [hks]
              by_cases hqk : q < k
              · rw [if_pos hqk, if_neg (by omega)]; exact e3 q hqk
              · rw [if_neg hqk, if_pos (by omega), if_pos (by omega)]
            · show ix ((elimK t1 i j k).rows.set k _) q = _
              rw [hks, if_neg (by omega)]
              exact e4 q (by omega) hqi
            · show ix ((elimK t1 i j k).rows.set k _) i = _
              rw [hks, if_neg (fun h => hki h.symm)]
              exact e5
/-- The same pivot, unless it is too great for both. -/
theorem Eq2.piv (h : Eq2 t u) (ho : t.over = false) {i j : Nat} (hi : i < t.m) (hj : j < t.w) : ((pivF t i j).over = true ∧ (pivR u i j).Over = true) ∨ ((pivF t i j).over = false ∧ Eq2 (pivF t i j) (pivR u i j)) := by
  obtain ⟨L, hS⟩ := h.s
  have hlen := row_len hS hi
  have huT : ix u.T i = ix t.rows i := by rw [h.r]
  have hdm := divK_mix (a := ix t.rows i) (p := ix (ix t.rows i) j) (k := t.w + 1) (by omega)
  have hS1 := pvK_shape hS hi j (t.w + 1)
  have hS2 := elimK_shape hS1 hi j (k := t.m) (by rw [pvK_m]; exact Nat.le_refl _)
  have hm1 : (pvK t i j (t.w + 1)).m = t.m := pvK_m i j _
  have hpo : (pivF t i j).over = (elimC (elimK (pvK t i j (t.w + 1)) i j t.m) i j).over := rfl
  have oc : (elimC (elimK (pvK t i j (t.w + 1)) i j t.m) i j).over = false → (elimK (pvK t i j (t.w + 1)) i j t.m).over = false := fun e => (elimC_Q hS2 (by rw [elimK_m, pvK_m]; exact hi) e).1
  have ok : (elimK (pvK t i j (t.w + 1)) i j t.m).over = false → (pvK t i j (t.w + 1)).over = false := fun e => (elim_Q hS1 (by rw [pvK_m]; exact hi) (by rw [pvK_m]; exact Nat.le_refl _) e).1
  have hov : (pvK t i j (t.w + 1)).over = anyK (t.w + 1) fun c => (dvP (ix (ix t.rows i) c) (ix (ix t.rows i) j)).2 := by
    show (t.over || _) = _
    rw [ho, Bool.false_or]
  have tt : ∀ {b : Bool}, (b = false → False) → b = true := fun {b} hb => by cases b with | false => exact (hb rfl).elim | true => rfl
  unfold pivR divL
  rw [huT, hlen]
  rcases hdm with ⟨d1, d2⟩ | ⟨d1, d2⟩
  · rw [d1]
    exact .inl ⟨tt (fun e => by rw [hpo] at e; rw [ok (oc e)] at hov; rw [d2] at hov; cases hov), rfl⟩
  rw [d1, ← mix_full hlen]
  obtain ⟨c, hc⟩ : ∃ c, mixF (t.w + 1) (fun c => (dvP (ix (ix t.rows i) c) (ix (ix t.rows i) j)).1) (ix t.rows i) = c := ⟨_, rfl⟩
  rw [hc]
  have hcl : c.length = t.w + 1 := by rw [← hc, mixF_len, hlen]
  rw [d2] at hov
  have hr1 : ∀ q, ix (pvK t i j (t.w + 1)).rows q = if q = i then c else ix t.rows q := fun q => by
    show ix (t.rows.set i _) q = _
    rw [hc]
    exact ix_set (by rw [hS.m]; exact hi)
  simp only
  rw [h.len]
  rcases elim_rows (u := u) (t := t) (j := j) ⟨L, hS⟩ hi h.r ⟨L, hS1⟩ hm1 rfl hov (by rw [hr1, if_pos rfl]) (fun q hq => by rw [hr1, if_neg hq]) (k := t.m) (Nat.le_refl _) with ⟨e1, e2⟩ | ⟨rs, e1, e2, e3, e4, e5, e6⟩
  · rw [e1]
    exact .inl ⟨tt (fun e => by rw [hpo] at e; rw [oc e] at e2; cases e2), rfl⟩
  rw [e1]
  have hrsl := rowsR_len e1
  simp only
  obtain ⟨t2, ht2⟩ : ∃ t2, elimK (pvK t i j (t.w + 1)) i j t.m = t2 := ⟨_, rfl⟩
  have hn2 : t2.n = t.n := by rw [← ht2, elimK_n]; rfl
  have hm2 : t2.m = t.m := by rw [← ht2, elimK_m]; rfl
  have hw2 : t2.w = t.w := by unfold Tab.w; rw [hn2, hm2]
  have hb2 : t2.basis = t.basis := by rw [← ht2, elimK_bas]; rfl
  rw [ht2] at e2 e3 e4 e5 e6 hS2 hpo
  have e6 : t2.cost = t.cost := e6
  have hrows : t2.rows = rs := by
    refine List.ext_getElem (by rw [hS2.m, hm2, hrsl]) fun q h1 h2 => ?_
    have := e3 q (by omega)
    rw [ix_lt h1, ix_lt h2] at this
    exact this.symm
  have hpivs : ∀ t3 : Tab, elimC t2 i j = t3 → t3.over = false → (∃ L, Shape L t3) → t3.rows = rs → t3.n = t.n → t3.m = t.m → t3.basis = t.basis → (pivF t i j).over = false ∧ Eq2 (pivF t i j) ⟨rs, basR u i j t.m, t3.cost, u.Over⟩ := fun t3 h3 o3 s3 r3 n3 m3 b3 => by
    have hp : pivF t i j = { t3 with basis := t.basis.set i j } := by
      show Tab.mk _ _ _ _ _ _ = _
      unfold elimT
      rw [ht2, h3, b3]
    refine ⟨by rw [hp]; exact o3, ?_⟩
    have hps := pivF_shape hS hi hj
    rw [hp] at hps ⊢
    refine ⟨⟨L, hps⟩, r3.symm, fun q hq => ?_, ?_, rfl, ?_⟩
    · have hq : q < t.m := by rw [← m3]; exact hq
      show ix (basR u i j t.m) q = ix (t.basis.set i j) q
      rw [ix_set (by rw [hS.bas]; have := hS.m24; omega), ix_lt (by rw [basR_len]; exact hq)]
      unfold basR
      rw [List.getElem_map, List.getElem_range]
      split
      · rfl
      · exact h.b q hq
    · show (basR u i j t.m).length = t3.m
      rw [basR_len, m3]
    · show u.Over = t3.over
      rw [h.o, ho, o3]
  unfold costR
  rw [h.c]
  by_cases hC : t.cost ≠ [] ∧ (ix t.cost j).N ≠ 0
  · rw [if_pos hC]
    have hcc : t.cost.length = t.w + 1 := (hS.cost.resolve_left (fun h => hC.1 h.2)).2
    have he : elimC t2 i j = { t2 with cost := mixF (t.w + 1) (fun q => (mnP (ix t.cost q) (ix t.cost j) (ix c q)).1) t.cost, over := anyK (t.w + 1) fun q => (mnP (ix t.cost q) (ix t.cost j) (ix c q)).2 } := by
      unfold elimC
      rw [e6, if_pos hC]
      unfold clrT clrK orT setTgt tgtR
      simp only [e5, e6, e2, hw2, Bool.false_or]
    have hmx := minK_mix (a := t.cost) (b := c) (f := ix t.cost j) (k := t.w + 1) (by omega)
    unfold minO
    rw [hcc]
    rcases hmx with ⟨g1, g2⟩ | ⟨g1, g2⟩
    · rw [g1]
      refine .inl ⟨?_, rfl⟩
      rw [hpo, he]
      exact g2
    · rw [g1, ← mix_full hcc]
      have hsh := elimC_shape hS2 (by rw [hm2]; exact hi) j
      rw [he] at hsh
      exact .inr (hpivs _ he g2 ⟨L, hsh⟩ hrows hn2 hm2 hb2)
  · rw [if_neg hC]
    have he : elimC t2 i j = t2 := by
      unfold elimC
      rw [e6, if_neg hC]
    have := hpivs t2 he e2 ⟨L, hS2⟩ hrows hn2 hm2 hb2
    rw [e6] at this
    exact .inr this
end
end Go.Proofs.YtifbaegnkodneaaDoor

/-
  layer 30: the reference's Solve is the program's.
-/
namespace Go.Proofs.YtifbaegnkodneaaDoor
open Go.RowKit
set_option linter.unusedSimpArgs false
set_option linter.unusedVariables false
set_option maxRecDepth 100000

section
variable {t : Tab} {u : RTab}
theorem Eq2.lv (h : Eq2 t u) (j : Nat) : ∀ {k : Nat}, k ≤ t.m → (lvK t j k = none ∧ lvR u j k = none) ∨ ∃ s low low', lvK t j k = some (s, low) ∧ lvR u j k = some (s, low') ∧ (0 ≤ s → low = low') ∧ s < k
  | 0, _ => .inr ⟨-1, F00, F01, rfl, rfl, fun h => by omega, by omega⟩
  | k + 1, hk => by
    obtain ⟨L, hS⟩ := h.s
    have hkl := row_len hS (i := k) (by omega)
    rcases h.lv j (k := k) (by omega) with ⟨h1, h2⟩ | ⟨s, low, low', h1, h2, h3, h4⟩
    · exact .inl ⟨lvK_none h1 1, lvR_none h2 1⟩
    · rw [lvK_succ h1, lvR_succ h2, h.r, hkl, show t.w + 1 - 1 = t.w by omega]
      by_cases hN : (ix (ix t.rows k) j).N ≤ 0
      · rw [if_pos hN, if_pos hN]
        exact .inr ⟨s, low, low', rfl, rfl, h3, by omega⟩
      · rw [if_neg hN, if_neg hN]
        cases hd : divO (ix (ix t.rows k) t.w) (ix (ix t.rows k) j) with
        | none => exact .inl ⟨rfl, rfl⟩
        | some r =>
          simp only
          have hT : lvTest t s low k r ↔ lvTR u s low' k r := by
            unfold lvTest lvTR
            by_cases hs : s < 0
            · exact ⟨fun _ => .inl hs, fun _ => .inl hs⟩
            · rw [h3 (by omega), h.b k (by omega), h.b s.toNat (by omega)]
          by_cases hh : lvTest t s low k r
          · rw [if_pos hh, if_pos (hT.1 hh)]
            exact .inr ⟨k, r, r, rfl, rfl, fun _ => rfl, by omega⟩
          · rw [if_neg hh, if_neg (fun e => hh (hT.2 e))]
            exact .inr ⟨s, low, low', rfl, rfl, h3, by omega⟩
theorem Eq2.leav (h : Eq2 t u) (j : Nat) : leavR u j = ((leavF t j).1, !(leavF t j).2) := by
  unfold leavR leavF
  rw [h.len]
  rcases h.lv j (k := t.m) (Nat.le_refl _) with ⟨h1, h2⟩ | ⟨s, low, low', h1, h2, _, _⟩
  · rw [h1, h2]; rfl
  · rw [h1, h2]; rfl
theorem Eq2.ent (h : Eq2 t u) : ∀ {k : Nat}, k ≤ t.w → (match entK t k with | some j => entR u t.w t.w = j | none => entR u t.w t.w = entR u t.w (t.w - k))
  | 0, _ => by show entR u t.w t.w = entR u t.w (t.w - 0); rw [Nat.sub_zero]
  | k + 1, hk => by
    have ih := h.ent (k := k) (by omega)
    cases h1 : entK t k with
    | some j =>
      rw [h1] at ih
      unfold entK
      rw [h1]
      exact ih
    | none =>
      rw [h1] at ih
      rw [entK_succ h1]
      obtain ⟨q, hq⟩ : ∃ q, t.w - k = q + 1 := ⟨t.w - k - 1, by omega⟩
      simp only at ih
      rw [hq, entR_succ, show t.w - (q + 1) = k by omega, h.c] at ih
      by_cases hN : (ix t.cost k).N < 0
      · rw [if_pos hN] at ih ⊢
        exact ih
      · rw [if_neg hN] at ih ⊢
        rw [show t.w - (k + 1) = q by omega]
        exact ih
/-- Both too great, or the same. -/
def Same2 (t : Tab) (u : RTab) : Prop := (t.over = true ∧ u.Over = true) ∨ (t.over = false ∧ Eq2 t u)
theorem Eq2.step (h : Eq2 t u) (ho : t.over = false) (hc : t.cost.length = t.w + 1) :
    (∃ b t' u', stepF t = .inl (b, t') ∧ stepR u = .inl (u', b) ∧ Same2 t' u') ∨ (∃ t' u', stepF t = .inr t' ∧ stepR u = .inr u' ∧ Same2 t' u') := by
  obtain ⟨L, hS⟩ := h.s
  have huo : ¬ u.Over = true := by rw [h.o, ho]; decide
  have hto : ¬ t.over = true := by rw [ho]; decide
  have hcl : u.Cost.length - 1 = t.w := by rw [h.c, hc]; omega
  have he := h.ent (k := t.w) (Nat.le_refl _)
  unfold stepF stepR
  simp only
  rw [if_neg hto, if_neg huo, hcl]
  cases h1 : enterF t with
  | none =>
    have h1' : entK t t.w = none := h1
    rw [h1'] at he
    simp only at he
    rw [Nat.sub_self] at he
    have he : entR u t.w t.w = t.w := he
    rw [he, if_pos rfl]
    exact .inl ⟨true, t, u, rfl, rfl, .inr ⟨ho, h⟩⟩
  | some j =>
    have h1' : entK t t.w = some j := h1
    rw [h1'] at he
    simp only at he
    have hj := entK_lt h1'
    rw [he, if_neg (by omega), h.leav]
    simp only
    cases h2 : (leavF t j).2 with
    | true =>
      simp only [if_true, Bool.not_true]
      exact .inl ⟨true, orT t true, overR u, rfl, rfl, .inl ⟨by simp [orT], rfl⟩⟩
    | false =>
      simp only [Bool.false_eq_true, if_false, Bool.not_false, Bool.true_eq_false]
      by_cases h3 : (leavF t j).1 < 0
      · rw [if_pos h3, if_pos h3]
        exact .inl ⟨false, t, u, rfl, rfl, .inr ⟨ho, h⟩⟩
      · rw [if_neg h3, if_neg h3]
        obtain ⟨i, hi, hii⟩ := leavF_in t j h3
        rw [hii, Int.toNat_natCast]
        exact .inr ⟨_, _, rfl, rfl, h.piv ho hi hj⟩
theorem Eq2.run : ∀ {n : Nat} {t : Tab} {u : RTab} {r : Bool × Tab}, Same2 t u → t.cost.length = t.w + 1 ∨ t.over = true → runF n t = some r → ∃ u', runR n u = some (u', r.1) ∧ Same2 r.2 u'
  | 0, _, _, _, _, _, h => by cases h
  | n + 1, t, u, r, h, hc, hr => by
    rcases h with ⟨o1, o2⟩ | ⟨o1, h⟩
    · have e1 : stepF t = .inl (true, t) := if_pos o1
      have e2 : stepR u = .inl (u, true) := if_pos o2
      unfold runF at hr
      rw [e1] at hr
      injection hr with hr
      subst hr
      refine ⟨u, ?_, .inl ⟨o1, o2⟩⟩
      unfold runR
      rw [e2]
    · have hc : t.cost.length = t.w + 1 := hc.resolve_right (by rw [o1]; decide)
      obtain ⟨L, hS⟩ := h.s
      have hsh := stepF_shape hS
      unfold runF at hr
      unfold runR
      rcases h.step o1 hc with ⟨b, t', u', e1, e2, e3⟩ | ⟨t', u', e1, e2, e3⟩
      · rw [e1] at hr
        injection hr with hr
        subst hr
        rw [e2]
        exact ⟨u', rfl, e3⟩
      · rw [e1] at hr hsh
        rw [e2]
        exact Eq2.run e3 (.inl (by rw [hsh.2.cost, hc, hsh.2.w])) hr
theorem Eq2.phase (h : Eq2 t u) (ho : t.over = false) (hc : t.cost.length = t.w + 1) (hh : Halts t) : HaltsR u ∧ (phaseR u).2 = (phaseF t).1 ∧ Same2 (phaseF t).2 (phaseR u).1 := by
  obtain ⟨r, n, hr⟩ := hh
  obtain ⟨u', e1, e2⟩ := Eq2.run (.inr ⟨ho, h⟩) (.inl hc) hr
  rw [phaseF_eq hr, phaseR_eq e1]
  exact ⟨⟨_, n, e1⟩, rfl, e2⟩
/-! ### Phase one -/
theorem clr_none {L : Lay} (hS : Shape L t) {i : Nat} {f : Fr} (ho : t.over = false) (hc : t.cost.length = t.w + 1) : clrT t ⟨none, f, i⟩ = { t with cost := mixF (t.w + 1) (fun q => (mnP (ix t.cost q) f (ix (ix t.rows i) q)).1) t.cost, over := anyK (t.w + 1) fun q => (mnP (ix t.cost q) f (ix (ix t.rows i) q)).2 } := by
  unfold clrT clrK orT setTgt tgtR
  simp only [ho, Bool.false_or]
theorem clr_over_mono {x : ClrX} (h : t.over = true) : (clrT t x).over = true := by
  unfold clrT clrK orT
  simp only [Bool.or_eq_true]
  left
  rw [setTgt_over]
  exact h
theorem Eq2.f1 (h : Eq2 t u) (ho : t.over = false) : ∀ {k : Nat}, k ≤ t.m → ((f1R u t.w k).2 = false ∧ (f1K t k).over = true) ∨ ((f1R u t.w k).2 = true ∧ (f1K t k).over = false ∧ (f1R u t.w k).1 = (f1K t k).cost ∧ (f1K t k).rows = t.rows)
  | 0, _ => .inr ⟨rfl, ho, rfl, rfl⟩
  | k + 1, hk => by
    obtain ⟨L, hS⟩ := h.s
    have hS1 : Shape (newC L []) (f1K t k) := f1K_shape hS (by omega)
    obtain ⟨q1, q2, q3, q4⟩ := f1K_same t k
    have qw : (f1K t k).w = t.w := f1K_w t k
    have ha : artP t k = true ↔ (t.w : Int) ≤ ix u.Basic k := by
      rw [h.b k (by omega)]
      unfold artP
      exact decide_eq_true_iff
    rcases h.f1 ho (k := k) (by omega) with ⟨h1, h2⟩ | ⟨h1, h2, h3, h4⟩
    · refine .inl ?_
      unfold f1R f1K
      rw [if_pos h1]
      refine ⟨h1, ?_⟩
      split
      · exact clr_over_mono h2
      · exact h2
    · unfold f1R f1K
      rw [if_neg (by rw [h1]; decide)]
      by_cases hb : (t.w : Int) ≤ ix u.Basic k
      · rw [if_pos hb, if_pos (ha.2 hb), clr_none hS1 h2 (by rw [q3, qw]), h3, h.r, h4, qw]
        have hmx := minK_mix (a := (f1K t k).cost) (b := ix t.rows k) (f := F11) (k := t.w + 1) (by omega)
        unfold minO
        rw [q3]
        rcases hmx with ⟨g1, g2⟩ | ⟨g1, g2⟩
        · rw [g1]
          exact .inl ⟨rfl, g2⟩
        · rw [g1]
          exact .inr ⟨rfl, g2, (mix_full q3).symm, rfl⟩
      · rw [if_neg hb, if_neg (fun e => hb (ha.1 e))]
        exact .inr ⟨h1, h2, h3, h4⟩
theorem Eq2.hasArt (h : Eq2 t u) : ∀ {k : Nat}, k ≤ t.m → someR u t.w k = anyK k (artP t)
  | 0, _ => rfl
  | k + 1, hk => by
    rw [someR_succ, anyK_succ, h.hasArt (k := k) (by omega), h.b k (by omega)]
    rfl
theorem Eq2.col (h : Eq2 t u) (i : Nat) : ∀ {k : Nat}, k ≤ t.w → (match colK t i k with | some j => colR u i t.w t.w = j | none => colR u i t.w t.w = colR u i t.w (t.w - k))
  | 0, _ => by show colR u i t.w t.w = colR u i t.w (t.w - 0); rw [Nat.sub_zero]
  | k + 1, hk => by
    have ih := h.col i (k := k) (by omega)
    cases h1 : colK t i k with
    | some j =>
      rw [h1] at ih
      unfold colK
      rw [h1]
      exact ih
    | none =>
      rw [h1] at ih
      rw [colK_succ h1]
      obtain ⟨q, hq⟩ : ∃ q, t.w - k = q + 1 := ⟨t.w - k - 1, by omega⟩
      simp only at ih
      rw [hq, colR_succ, show t.w - (q + 1) = k by omega, h.r] at ih
      by_cases hN : (ix (ix t.rows i) k).N ≠ 0
      · rw [if_pos hN] at ih ⊢
        exact ih
      · rw [if_neg hN] at ih ⊢
        rw [show t.w - (k + 1) = q by omega]
        exact ih
theorem Same2.rep {w : Nat} (h : Same2 t u) {i : Nat} (hi : i < t.m) (hw : t.w = w) : Same2 (repF t i) (repR u w i) := by
  subst hw
  unfold repF repR
  rcases h with ⟨o1, o2⟩ | ⟨o1, h⟩
  · rw [if_neg (fun e => by rw [o1] at e; cases e.2), if_pos o2]
    exact .inl ⟨o1, o2⟩
  · rw [if_neg (show ¬ u.Over = true by rw [h.o, o1]; decide), h.b i hi]
    by_cases hb : ix t.basis i < t.w
    · rw [if_pos hb, if_neg (fun e => by have := e.1; omega)]
      exact .inr ⟨o1, h⟩
    · rw [if_neg hb, if_pos ⟨by omega, o1⟩]
      have hc := h.col i (k := t.w) (Nat.le_refl _)
      cases h1 : colK t i t.w with
      | none =>
        rw [h1] at hc
        simp only at hc
        rw [Nat.sub_self] at hc
        have hc : colR u i t.w t.w = t.w := hc
        rw [hc, if_neg (by omega)]
        exact .inr ⟨o1, h⟩
      | some j =>
        rw [h1] at hc
        simp only at hc
        rw [hc, if_pos (colK_lt h1)]
        exact h.piv o1 hi (colK_lt h1)
theorem repF_kin (t : Tab) (i : Nat) : (repF t i).n = t.n ∧ (repF t i).m = t.m := by
  unfold repF
  split
  · split
    · exact ⟨rfl, rfl⟩
    · exact ⟨pivF_n _ _, pivF_m _ _⟩
  · exact ⟨rfl, rfl⟩
theorem repK_kin (t : Tab) : ∀ k, (repK t k).n = t.n ∧ (repK t k).m = t.m
  | 0 => ⟨rfl, rfl⟩
  | k + 1 => by
    obtain ⟨h1, h2⟩ := repK_kin t k
    obtain ⟨h3, h4⟩ := repF_kin (repK t k) k
    exact ⟨h3.trans h1, h4.trans h2⟩
theorem Same2.reps {w : Nat} (h : Same2 t u) (hw : t.w = w) : ∀ {k : Nat}, k ≤ t.m → Same2 (repK t k) (repsR u w k)
  | 0, _ => h
  | k + 1, hk => by
    obtain ⟨q1, q2⟩ := repK_kin t k
    exact (h.reps hw (k := k) (by omega)).rep (by rw [q2]; omega) (by unfold Tab.w; rw [q1, q2]; exact hw)
end
/-! ### begin -/
section
variable {l : Lin}
theorem rowR_eq (g : Good l) (i : Nat) (hi : i < l.A.length) : rowR l i = rowB l i := by
  refine List.ext_getElem ?_ fun k h1 h2 => ?_
  · rw [rowB_len]
    unfold rowR
    rw [List.length_append, rSl_len]
    rfl
  · rw [rowB_len] at h2
    have hg : ∀ (l : List Fr) (h : k < l.length), l[k]'h = ix l k := fun l h => (ix_lt h).symm
    rw [hg, hg]
    have hlen : (List.replicate (l.C.length + l.A.length + 1) F01).length = l.C.length + l.A.length + 1 := List.length_replicate
    have hmix : ix (mixF l.C.length (fun c => putE l i (ix (ix l.A i) c)) (List.replicate (l.C.length + l.A.length + 1) F01)) k = if k < l.C.length then putE l i (ix (ix l.A i) k) else F01 := by
      rw [mixF_ix (by rw [hlen]; exact h2)]
      split
      · rfl
      · exact ix_rep h2
    have happ : ∀ (a b : List Fr), ix (a ++ b) k = if k < a.length then ix a k else ix b (k - a.length) := fun a b => by
      unfold ix
      rw [List.getD_eq_getElem?_getD, List.getD_eq_getElem?_getD, List.getD_eq_getElem?_getD]
      split
      · rename_i h; rw [List.getElem?_append_left h]
      · rename_i h; rw [List.getElem?_append_right (by omega)]
    have hR : ix (rowR l i) k = if k < l.C.length then putE l i (ix (ix l.A i) k) else if k < l.C.length + l.A.length then slk l i (k - l.C.length) else rhsE l i := by
      unfold rowR
      rw [happ, rSl_len]
      by_cases h3 : k < l.C.length + l.A.length
      · rw [if_pos h3]
        unfold rSl
        rw [happ, rA_len]
        by_cases h4 : k < l.C.length
        · rw [if_pos h4, if_pos h4]
          unfold rA
          rw [ix_range h4]
        · rw [if_neg h4, if_neg h4, if_pos h3, ix_range (by omega)]
      · rw [if_neg h3, if_neg (by omega), if_neg h3, show k - (l.C.length + l.A.length) = 0 by omega]
        rfl
    rw [hR]
    unfold rowB slk rhsE
    simp only
    by_cases hk : keepB l i = true
    · rw [if_pos hk, if_pos hk, if_pos hk, ix_set (by simp only [List.length_set, mixF_len, hlen]; omega), ix_set (by simp only [List.length_set, mixF_len, hlen]; omega), ix_set (by simp only [List.length_set, mixF_len, hlen]; omega), ix_set (by simp only [mixF_len, hlen]; omega), hmix]
      by_cases h3 : k < l.C.length
      · simp only [if_pos h3, if_neg (show ¬ k = l.C.length + l.A.length by omega), if_neg (show ¬ k = l.C.length + i by omega)]
      · by_cases h4 : k < l.C.length + l.A.length
        · by_cases h5 : k = l.C.length + i
          · simp only [if_neg h3, if_pos h4, if_neg (show ¬ k = l.C.length + l.A.length by omega), if_pos h5, if_pos (show k - l.C.length = i by omega)]
          · simp only [if_neg h3, if_pos h4, if_neg (show ¬ k = l.C.length + l.A.length by omega), if_neg h5, if_neg (show ¬ k - l.C.length = i by omega)]
        · simp only [if_neg h3, if_neg h4, if_pos (show k = l.C.length + l.A.length by omega)]
    · rw [if_neg hk, if_neg hk, if_neg hk, ix_set (by simp only [List.length_set, mixF_len, hlen]; omega), ix_set (by simp only [mixF_len, hlen]; omega), hmix]
      by_cases h3 : k < l.C.length
      · simp only [if_pos h3, if_neg (show ¬ k = l.C.length + l.A.length by omega), if_neg (show ¬ k = l.C.length + i by omega)]
      · by_cases h4 : k < l.C.length + l.A.length
        · by_cases h5 : k = l.C.length + i
          · simp only [if_neg h3, if_pos h4, if_neg (show ¬ k = l.C.length + l.A.length by omega), if_pos h5, if_pos (show k - l.C.length = i by omega)]
          · simp only [if_neg h3, if_pos h4, if_neg (show ¬ k = l.C.length + l.A.length by omega), if_neg h5, if_neg (show ¬ k - l.C.length = i by omega)]
        · simp only [if_neg h3, if_neg h4, if_pos (show k = l.C.length + l.A.length by omega)]
theorem beg_eq (h : Ok l) : Eq2 (begF l) (begR l) := by
  obtain ⟨L, _, hS⟩ := beg_shape h
  refine ⟨⟨L, hS⟩, ?_, fun i hi => ?_, basB_len l _, rfl, rfl⟩
  · show (List.range l.A.length).map (rowR l) = (List.range l.A.length).map (rowB l)
    exact List.map_congr_left fun i hi => rowR_eq h.g i (List.mem_range.1 hi)
  · show ix ((List.range l.A.length).map (basE l)) i = ix (basK l l.A.length) i
    have hi : i < l.A.length := hi
    rw [ix_range hi, basK_at h (Nat.le_refl _) hi]
    rfl
end
end Go.Proofs.YtifbaegnkodneaaDoor

/-
  layer 30: SimplexSolve.
-/
namespace Go.Proofs.YtifbaegnkodneaaDoor
open Go.RowKit
set_option linter.unusedSimpArgs false
set_option linter.unusedVariables false
set_option maxRecDepth 100000

section
variable {l : Lin}
theorem f1_eq2 {t : Tab} {u : RTab} (h : Eq2 t u) (ho : t.over = false) (h1 : (f1R u t.w t.m).2 = true) : Eq2 (f1T t) (costed u t.w) ∧ (f1T t).over = false ∧ (f1T t).cost.length = (f1T t).w + 1 ∧ (f1T t).w = t.w := by
  obtain ⟨L, hS⟩ := h.s
  obtain ⟨q1, q2, q3, q4⟩ := f1K_same t t.m
  have qw : (f1K t t.m).w = t.w := f1K_w t t.m
  rcases h.f1 ho (k := t.m) (Nat.le_refl _) with ⟨e1, _⟩ | ⟨_, e2, e3, e4⟩
  · rw [e1] at h1; cases h1
  · refine ⟨⟨⟨_, f1K_shape (K := []) hS (Nat.le_refl _)⟩, ?_, fun i hi => ?_, ?_, ?_, ?_⟩, e2, ?_, qw⟩
    · show u.T = (f1K t t.m).rows
      rw [e4]; exact h.r
    · have hi : i < t.m := by rw [← q2]; exact hi
      show ix u.Basic i = ix (f1K t t.m).basis i
      rw [q4]; exact h.b i hi
    · show u.Basic.length = (f1K t t.m).m
      rw [q2]; exact h.bl
    · show (f1R u t.w u.T.length).1 = (f1K t t.m).cost
      rw [h.len]; exact e3
    · show u.Over = (f1K t t.m).over
      rw [e2, h.o, ho]
    · show (f1K t t.m).cost.length = (f1K t t.m).w + 1
      rw [q3, qw]
/-- The same first phase. -/
theorem first_same (h : Ok l) : PreFiR (begR l) ((l.C.length : Int) + l.A.length) ∧ (((firstF (begF l)).2.over = true ∧ (firstR (begR l) (l.C.length + l.A.length)).1.Over = true) ∨ ((firstF (begF l)).2.over = false ∧ (firstR (begR l) (l.C.length + l.A.length)).2 = (firstF (begF l)).1 ∧ Eq2 (firstF (begF l)).2 (firstR (begR l) (l.C.length + l.A.length)).1)) := by
  have hE := beg_eq h
  have ho : (begF l).over = false := rfl
  have hw : (begF l).w = l.C.length + l.A.length := rfl
  have hT : (begR l).T.length = (begF l).m := hE.len
  have hC1 := h.g.n1
  have hHF := haltsF h
  have hmain : ((f1R (begR l) (begF l).w (begF l).m).2 = false ∧ (f1T (begF l)).over = true) ∨ ((f1R (begR l) (begF l).w (begF l).m).2 = true ∧ Eq2 (f1T (begF l)) (costed (begR l) (begF l).w) ∧ (f1T (begF l)).over = false ∧ (f1T (begF l)).cost.length = (f1T (begF l)).w + 1 ∧ (f1T (begF l)).w = (begF l).w) := by
    rcases hE.f1 ho (k := (begF l).m) (Nat.le_refl _) with h1 | ⟨h1, _⟩
    · exact .inl h1
    · exact .inr ⟨h1, f1_eq2 hE ho h1⟩
  refine ⟨⟨by omega, ?_, rfl, fun h1 h2 => ?_⟩, ?_⟩
  · rw [show ((l.C.length : Int) + l.A.length).toNat = l.C.length + l.A.length by omega, ← hw]
    exact hE.rs
  · rw [show ((l.C.length : Int) + l.A.length).toNat = l.C.length + l.A.length by omega, ← hw] at h1 h2 ⊢
    rw [hT] at h1 h2
    rw [hE.hasArt (Nat.le_refl _)] at h2
    rcases hmain with ⟨e1, _⟩ | ⟨_, e2, e3, e4, _⟩
    · rw [e1] at h1; cases h1
    · exact (e2.phase e3 e4 (hHF (fun e => e.elim (fun e => by rw [e] at h2; cases h2) (fun e => by rw [e] at e3; cases e3)))).1
  · rw [← hw]
    unfold firstR firstF
    rw [hT]
    rcases hmain with ⟨e1, e2⟩ | ⟨e1, e2, e3, e4, e5⟩
    · have c1 : anyK (begF l).m (artP (begF l)) = false ∨ (f1T (begF l)).over = true := .inr e2
      simp only [if_pos c1, if_pos e1]
      exact .inl ⟨e2, trivial⟩
    · have n1 : ¬ (f1R (begR l) (begF l).w (begF l).m).2 = false := by rw [e1]; decide
      simp only [if_neg n1]
      rw [hE.hasArt (Nat.le_refl _)]
      have hcs : (⟨(begR l).T, (begR l).Basic, (f1R (begR l) (begF l).w (begF l).m).1, (begR l).Over⟩ : RTab) = costed (begR l) (begF l).w := by unfold costed; rw [hT]
      rw [hcs]
      by_cases hs : anyK (begF l).m (artP (begF l)) = false
      · have c1 : anyK (begF l).m (artP (begF l)) = false ∨ (f1T (begF l)).over = true := .inl hs
        simp only [if_pos c1, if_pos hs]
        exact .inr ⟨e3, trivial, e2⟩
      · have c1 : ¬ (anyK (begF l).m (artP (begF l)) = false ∨ (f1T (begF l)).over = true) := fun e => e.elim hs (fun e => by rw [e] at e3; cases e3)
        simp only [if_neg c1, if_neg hs]
        obtain ⟨p1, p2, p3⟩ := e2.phase e3 e4 (hHF (fun e => e.elim hs (fun e => by rw [e] at e3; cases e3)))
        have hkin : (phaseF (f1T (begF l))).2.m = (begF l).m ∧ (phaseF (f1T (begF l))).2.w = (begF l).w := by
          obtain ⟨L, hS⟩ := e2.s
          have hk := (phaseF_shape hS (hHF (fun e => e.elim hs (fun e => by rw [e] at e3; cases e3)))).2
          exact ⟨hk.m.trans (f1K_same _ _).2.1, hk.w.trans e5⟩
        generalize (phaseF (f1T (begF l))).2 = t1 at *
        generalize (phaseR (costed (begR l) (begF l).w)).1 = u1 at *
        obtain ⟨km, kw⟩ := hkin
        rcases p3 with ⟨o1, o2⟩ | ⟨o1, p3⟩
        · simp only [if_pos o1, if_pos o2]
          exact .inl ⟨o1, o2⟩
        · have o2 : ¬ u1.Over = true := by rw [p3.o, o1]; decide
          have o3 : ¬ t1.over = true := by rw [o1]; decide
          simp only [if_neg o3, if_neg o2, p3.c]
          by_cases hN : (ix t1.cost (begF l).w).N < 0
          · simp only [if_pos hN]
            exact .inr ⟨o1, trivial, p3⟩
          · simp only [if_neg hN]
            obtain ⟨L, hS⟩ := p3.s
            have h0 : Eq2 { t1 with cost := [] } (noCost u1) := ⟨⟨{ L with c := none }, ⟨hS.m, hS.r, hS.n1, hS.n12, hS.m24, hS.row, .inl ⟨rfl, rfl⟩, hS.bas, hS.b64⟩⟩, p3.r, p3.b, p3.bl, rfl, p3.o⟩
            have hr := Same2.reps (w := (begF l).w) (t := { t1 with cost := [] }) (u := noCost u1) (.inr ⟨o1, h0⟩) kw (k := t1.m) (Nat.le_refl _)
            rw [p3.len, ← km]
            rcases hr with ⟨q1, q2⟩ | ⟨q1, q2⟩
            · exact .inl ⟨q1, q2⟩
            · exact .inr ⟨q1, trivial, q2⟩
theorem cost2_eq {t : Tab} (hn : t.n = l.C.length) (hm : t.m = l.A.length) : rowC t l.C = cost2 l := by
  have hE : rowE t = List.replicate (t.w + 1) F01 := rfl
  unfold rowC cost2
  rw [hE, List.drop_replicate, show t.w + 1 - l.C.length = l.A.length + 1 by unfold Tab.w; omega]
theorem Eq2.s1 {t : Tab} {u : RTab} (h : Eq2 t u) (ho : t.over = false) (hn : t.n = l.C.length) (hm : t.m = l.A.length) : ∀ {k : Nat}, k ≤ t.m → ((s1R u l k).2 = false ∧ (s1K t l.C k).over = true) ∨ ((s1R u l k).2 = true ∧ (s1K t l.C k).over = false ∧ (s1R u l k).1 = (s1K t l.C k).cost ∧ (s1K t l.C k).rows = t.rows)
  | 0, _ => .inr ⟨rfl, ho, (cost2_eq hn hm).symm, rfl⟩
  | k + 1, hk => by
    obtain ⟨L, hS⟩ := h.s
    have hS1 : Shape (newC L []) (s1K t l.C k) := s1K_shape hS hn.symm (by omega)
    obtain ⟨q1, q2, q3, q4⟩ := s1K_same (t := t) hn.symm k
    have qw : (s1K t l.C k).w = t.w := s1K_w hn.symm k
    have ha : useP t l.C k ↔ (ix u.Basic k < l.C.length ∧ (ix l.C (ix u.Basic k).toNat).N ≠ 0) := by
      rw [h.b k (by omega)]
      unfold useP
      rw [hn]
    rcases h.s1 ho hn hm (k := k) (by omega) with ⟨h1, h2⟩ | ⟨h1, h2, h3, h4⟩
    · refine .inl ?_
      unfold s1R s1K
      rw [if_pos h1]
      refine ⟨h1, ?_⟩
      split
      · exact clr_over_mono h2
      · exact h2
    · unfold s1R s1K
      rw [if_neg (by rw [h1]; decide)]
      by_cases hb : ix u.Basic k < l.C.length ∧ (ix l.C (ix u.Basic k).toNat).N ≠ 0
      · rw [if_pos hb, if_pos (ha.2 hb), clr_none hS1 h2 (by rw [q3, qw]), h3, h.r, h4, qw, h.b k (by omega)]
        have hmx := minK_mix (a := (s1K t l.C k).cost) (b := ix t.rows k) (f := ix l.C (ix t.basis k).toNat) (k := t.w + 1) (by omega)
        unfold minO
        rw [q3]
        rcases hmx with ⟨g1, g2⟩ | ⟨g1, g2⟩
        · rw [g1]
          exact .inl ⟨rfl, g2⟩
        · rw [g1]
          exact .inr ⟨rfl, g2, (mix_full q3).symm, rfl⟩
      · rw [if_neg hb, if_neg (fun e => hb (ha.1 e))]
        exact .inr ⟨h1, h2, h3, h4⟩
theorem s1_eq2 {t : Tab} {u : RTab} (h : Eq2 t u) (ho : t.over = false) (hn : t.n = l.C.length) (hm : t.m = l.A.length) (h1 : (s1R u l t.m).2 = true) : Eq2 (s1T t l.C) (costed2 u l) ∧ (s1T t l.C).over = false ∧ (s1T t l.C).cost.length = (s1T t l.C).w + 1 := by
  obtain ⟨L, hS⟩ := h.s
  obtain ⟨q1, q2, q3, q4⟩ := s1K_same (t := t) hn.symm t.m
  have qw : (s1K t l.C t.m).w = t.w := s1K_w hn.symm t.m
  rcases h.s1 ho hn hm (k := t.m) (Nat.le_refl _) with ⟨e1, _⟩ | ⟨_, e2, e3, e4⟩
  · rw [e1] at h1; cases h1
  · refine ⟨⟨⟨_, s1K_shape (K := []) hS hn.symm (Nat.le_refl _)⟩, ?_, fun i hi => ?_, ?_, ?_, ?_⟩, e2, ?_⟩
    · show u.T = (s1K t l.C t.m).rows
      rw [e4]; exact h.r
    · have hi : i < t.m := by rw [← q2]; exact hi
      show ix u.Basic i = ix (s1K t l.C t.m).basis i
      rw [q4]; exact h.b i hi
    · show u.Basic.length = (s1K t l.C t.m).m
      rw [q2]; exact h.bl
    · show (s1R u l u.T.length).1 = (s1K t l.C t.m).cost
      rw [h.len]; exact e3
    · show u.Over = (s1K t l.C t.m).over
      rw [e2, h.o, ho]
    · show (s1K t l.C t.m).cost.length = (s1K t l.C t.m).w + 1
      rw [q3, qw]
theorem x_same {t : Tab} {u : RTab} (h : Eq2 t u) : ∀ {k : Nat}, k ≤ t.m → xR u t.n t.w k = xK t k
  | 0, _ => rfl
  | k + 1, hk => by
    unfold xR xK
    rw [x_same h (k := k) (by omega), h.b k (by omega), h.r]
/-- The reference's answer is the program's. -/
theorem solve_same (hc : checkF l = 0) : HaltsRL l ∧ solveR l = solveF l := by
  have ok := ok_of hc
  obtain ⟨hpf, hf⟩ := first_same ok
  have hHL := haltsL ok
  obtain ⟨L0, _, hS0⟩ := beg_shape ok
  have hfs := firstF_same hS0 (haltsF ok)
  have hin := first_in ok
  have hshR : RS (l.C.length + l.A.length) (firstR (begR l) (l.C.length + l.A.length)).1 ∧ (firstR (begR l) (l.C.length + l.A.length)).1.T.length = l.A.length := by
    have hi := hpf.i
    have hs := hpf.s
    have hh := hpf.h
    rw [show ((l.C.length : Int) + l.A.length).toNat = l.C.length + l.A.length by omega] at hs hh
    have hb : (begR l).T.length = l.A.length := rowsB_len l _
    have hfl := f1R_len hs _ (Nat.le_refl _)
    have hSc : RS (l.C.length + l.A.length) (costed (begR l) (l.C.length + l.A.length)) := ⟨hs.w36, hs.m24, hs.row, hs.bas, hs.b64, .inr hfl⟩
    unfold firstR
    split
    · exact ⟨⟨hs.w36, hs.m24, hs.row, hs.bas, hs.b64, .inr hfl⟩, hb⟩
    · rename_i e1
      split
      · exact ⟨⟨hs.w36, hs.m24, hs.row, hs.bas, hs.b64, .inr hfl⟩, hb⟩
      · rename_i e2
        obtain ⟨p1, p2, p3⟩ := phaseR_shape hSc hfl (hh (by simpa using e1) (by simpa using e2))
        have p3 : _ = l.A.length := p3.trans hb
        split
        · exact ⟨p1, p3⟩
        · split
          · exact ⟨p1, p3⟩
          · have hS1 : RS (l.C.length + l.A.length) (noCost (phaseR ⟨(begR l).T, (begR l).Basic, (f1R (begR l) (l.C.length + l.A.length) (begR l).T.length).1, (begR l).Over⟩).1) := ⟨p1.w36, p1.m24, p1.row, p1.bas, p1.b64, .inl rfl⟩
            obtain ⟨r1, r2, _⟩ := repsR_shape hS1 _ (Nat.le_refl _)
            exact ⟨r1, r2.trans p3⟩
  -- the second phase
  have hsec : ∀ (o1 : (firstF (begF l)).2.over = false) (b1 : (firstF (begF l)).1 = true) (hE : Eq2 (firstF (begF l)).2 (firstR (begR l) (l.C.length + l.A.length)).1), ((s1R (firstR (begR l) (l.C.length + l.A.length)).1 l l.A.length).2 = false ∧ (s1T (firstF (begF l)).2 l.C).over = true) ∨ ((s1R (firstR (begR l) (l.C.length + l.A.length)).1 l l.A.length).2 = true ∧ (s1T (firstF (begF l)).2 l.C).over = false ∧ HaltsR (costed2 (firstR (begR l) (l.C.length + l.A.length)).1 l) ∧ (phaseR (costed2 (firstR (begR l) (l.C.length + l.A.length)).1 l)).2 = (phaseF (s1T (firstF (begF l)).2 l.C)).1 ∧ Same2 (phaseF (s1T (firstF (begF l)).2 l.C)).2 (phaseR (costed2 (firstR (begR l) (l.C.length + l.A.length)).1 l)).1) := fun o1 b1 hE => by
    have hi := hin o1 b1
    have hs1 := hE.s1 o1 hi.n hi.m (k := (firstF (begF l)).2.m) (Nat.le_refl _)
    rw [hi.m] at hs1
    rcases hs1 with ⟨e1, e2⟩ | ⟨e1, e2, _, _⟩
    · refine .inl ⟨e1, ?_⟩
      show (s1K _ l.C (firstF (begF l)).2.m).over = true
      rw [hi.m]; exact e2
    · obtain ⟨g1, g2, g3⟩ := s1_eq2 hE o1 hi.n hi.m (by rw [hi.m]; exact e1)
      obtain ⟨p1, p2, p3⟩ := g1.phase g2 g3 (hHL.s o1 b1 (by rw [g2]; decide))
      exact .inr ⟨e1, g2, p1, p2, p3⟩
  refine ⟨⟨hpf, hshR, fun a1 a2 a3 => ?_⟩, ?_⟩
  · rcases hf with ⟨_, o2⟩ | ⟨o1, b1, hE⟩
    · rw [o2] at a1; cases a1
    · rcases hsec o1 (by rw [← b1]; exact a2) hE with ⟨e1, _⟩ | ⟨_, _, e3, _⟩
      · rw [e1] at a3; cases a3
      · exact e3
  · unfold solveR solveF
    have nc : ¬ checkF l ≠ 0 := fun e => e hc
    simp only [if_neg nc]
    rcases hf with ⟨o1, o2⟩ | ⟨o1, b1, hE⟩
    · simp only [if_pos o1, if_pos o2]
    · have o2 : ¬ (firstR (begR l) (l.C.length + l.A.length)).1.Over = true := by rw [hE.o, o1]; decide
      have o3 : ¬ (firstF (begF l)).2.over = true := by rw [o1]; decide
      simp only [if_neg o2, if_neg o3, b1]
      by_cases hb : (firstF (begF l)).1 = false
      · simp only [if_pos hb]
      · simp only [if_neg hb]
        have hb : (firstF (begF l)).1 = true := by simpa using hb
        have hi := hin o1 hb
        rw [hshR.2]
        rcases hsec o1 hb hE with ⟨e1, e2⟩ | ⟨e1, e2, e3, e4, e5⟩
        · have hs : secondF (firstF (begF l)).2 l.C = (true, s1T (firstF (begF l)).2 l.C) := if_pos e2
          rw [hs]
          simp only [if_pos e1, if_pos e2]
        · have n1 : ¬ (s1R (firstR (begR l) (l.C.length + l.A.length)).1 l l.A.length).2 = false := by rw [e1]; decide
          simp only [if_neg n1]
          have hs : secondF (firstF (begF l)).2 l.C = phaseF (s1T (firstF (begF l)).2 l.C) := if_neg (by rw [e2]; decide)
          rw [hs, e4]
          have hkin : (phaseF (s1T (firstF (begF l)).2 l.C)).2.n = l.C.length ∧ (phaseF (s1T (firstF (begF l)).2 l.C)).2.m = l.A.length := by
            obtain ⟨q1, q2, q3, q4⟩ := s1K_same (t := (firstF (begF l)).2) hi.n.symm (firstF (begF l)).2.m
            obtain ⟨L, hS⟩ := hE.s
            have hk := (phaseF_shape (s1K_shape (K := []) hS hi.n.symm (Nat.le_refl _)) (hHL.s o1 hb (by rw [e2]; decide))).2
            exact ⟨hk.n.trans (q1.trans hi.n), hk.m.trans (q2.trans hi.m)⟩
          generalize (phaseF (s1T (firstF (begF l)).2 l.C)) = f at *
          generalize (phaseR (costed2 (firstR (begR l) (l.C.length + l.A.length)).1 l)).1 = u at *
          obtain ⟨fb, t⟩ := f
          simp only at *
          obtain ⟨kn, km⟩ := hkin
          have kw : t.w = l.C.length + l.A.length := by unfold Tab.w; rw [kn, km]
          rcases e5 with ⟨o3, o4⟩ | ⟨o3, hE2⟩
          · simp only [if_pos o3, if_pos o4]
          · have n2 : ¬ u.Over = true := by rw [hE2.o, o3]; decide
            have n3 : ¬ t.over = true := by rw [o3]; decide
            simp only [if_neg n2, if_neg n3]
            by_cases hfb : fb = false
            · simp only [if_pos hfb]
            · simp only [if_neg hfb]
              rw [hE2.len, hE2.c, ← kw, ← kn, x_same hE2 (Nat.le_refl _)]
              rfl
end
theorem pre_solveR {l : Lin} (h : SmallL l) : PreSolveR l := ⟨h, fun hc => (solve_same hc).1⟩
theorem solveR_eq (l : Lin) : solveR l = solveF l := by
  by_cases hc : checkF l = 0
  · exact (solve_same hc).2
  · rw [show solveF l = ([], F00, checkF l) from if_pos hc, show solveR l = ([], F00, checkF l) from if_pos hc]
theorem solveF_len {l : Lin} (h : SmallL l) : (solveF l).1.length ≤ 1000 := by
  have hcl := h.c
  by_cases hc : checkF l = 0
  · have ha := solve_answer hc
    generalize solveF l = r at *
    cases ha with
    | ok s => rw [s.len]; exact hcl
    | none _ => exact Nat.zero_le _
    | free _ _ => exact Nat.zero_le _
    | great => exact Nat.zero_le _
  · rw [show solveF l = ([], F00, checkF l) from if_pos hc]
    exact Nat.zero_le _
noncomputable def CSl : Ctx := mkC Tryd.prog G0 [(9, .pure sFew), (10, .pure (spec0 (.bool true))), (20, .pure sSolve), (21, .pure sSolveR), (22, .pure sFracs)]
@[simp] theorem CSl_P : CSl.P = Tryd.prog := rfl
@[simp] theorem CSl_G : CSl.G = G0 := rfl
@[simp] theorem CSl_1 : CSl.S 9 = .pure sFew := rfl
@[simp] theorem CSl_2 : CSl.S 10 = .pure (spec0 (.bool true)) := rfl
@[simp] theorem CSl_3 : CSl.S 20 = .pure sSolve := rfl
@[simp] theorem CSl_4 : CSl.S 21 = .pure sSolveR := rfl
@[simp] theorem CSl_5 : CSl.S 22 = .pure sFracs := rfl
theorem mixCSl : CSl.P.follows .mixedOrders = true := mixed
theorem sigCSl : SigOK CSl := sigOK_cons (entryPure (fewP) Tryd.func9 rfl (by decide)) (sigOK_cons (entryPure (aliveP) Tryd.func10 rfl (by decide)) (sigOK_cons (entryPure (solveP) Tryd.func20 rfl (by decide)) (sigOK_cons (entryPure (solveRR) Tryd.func21 rfl (by decide)) (sigOK_cons (entryPure (fracsR) Tryd.func22 rfl (by decide)) (sigOK_nil _ _)))))
set_option maxHeartbeats 16000000 in
theorem lawSolve : PureOK Tryd.prog G0 4 (spec1 (fun (_ : Lin) => True) (fun _ => .bool true)) := by
  refine pureH1 (C := CSl) sigCSl mixCSl Tryd.func4 rfl rfl rfl [] (by kernel_rfl) (by decide) (fun l _ => ?_)
  by_cases h1 : FewL l
  case neg => simp [sFew, h1]
  have hs := few_small h1
  have p1 := pre_solve hs
  have p2 := pre_solveR hs
  have hR := solveR_eq l
  have hxl := solveF_len hs
  obtain ⟨x, v, e, hv⟩ : ∃ x v e, solveF l = (x, v, e) := ⟨_, _, _, rfl⟩
  rw [hv] at hR hxl
  simp only at hxl
  simp [sFew, h1, sSolve, sSolveR, p1, p2, hv, hR, sFracs, hxl]
  done
end Go.Proofs.YtifbaegnkodneaaDoor
