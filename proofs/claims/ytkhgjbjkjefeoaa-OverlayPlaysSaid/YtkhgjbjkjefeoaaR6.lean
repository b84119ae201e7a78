/-
  Texts joined: O15 O16 O17 O18 O19 O20 O21 O22 O23 O25 O26 O27 P5 O28 O29 O30 O31 P6 P7 O36 P8 O37.
-/
import Derived.Test.YtkhgjbjkjefeoaaR5
import Derived.Test.YtkhgjbjkjefeoaaR4

/-
  overlay: Valid of an overlay, the reference's side; Entries and Row, both sides.
-/
namespace Go.Proofs.Ytkhgjbjkjefeoaa
open Go.RowKit
set_option linter.unusedSimpArgs false
set_option linter.unusedVariables false
set_option maxRecDepth 100000

def sLenE : List AV → Option (Prop × AV) := spec2 (fun (l : List Adj) (_ : Int) => l.length ≤ 2000000000) (fun l v => .bool (decide (HasE l v)))
noncomputable def CVp : Ctx := mkC Try.prog G0 [(53, .pure sValC), (22, .pure sEntC), (41, .pure sId), (52, .pure sLt), (42, .pure sEdge), (43, .pure sEnts)]
@[simp] theorem CVp_P : CVp.P = Try.prog := rfl
@[simp] theorem CVp_G : CVp.G = G0 := rfl
@[simp] theorem CVp_1 : CVp.S 53 = .pure sValC := rfl
@[simp] theorem CVp_2 : CVp.S 22 = .pure sEntC := rfl
@[simp] theorem CVp_3 : CVp.S 41 = .pure sId := rfl
@[simp] theorem CVp_4 : CVp.S 52 = .pure sLt := rfl
@[simp] theorem CVp_5 : CVp.S 42 = .pure sEdge := rfl
@[simp] theorem CVp_6 : CVp.S 43 = .pure sEnts := rfl
theorem mixCVp : CVp.P.follows .mixedOrders = true := mixed
theorem sigCVp : SigOK CVp := sigOK_cons (entryPure (validCR) Try.func53 rfl (by decide)) (sigOK_cons (entryPure (entCR) Try.func22 rfl (by decide)) (sigOK_cons (entryPure (idS) Try.func41 rfl (by decide)) (sigOK_cons (entryPure (ltS) Try.func52 rfl (by decide)) (sigOK_cons (entryPure (edgeR) Try.func42 rfl (by decide)) (sigOK_cons (entryPure (entsR) Try.func43 rfl (by decide)) (sigOK_nil _ _))))))
set_option maxHeartbeats 32000000 in
theorem validOR : PureOK Try.prog G0 24 sValO := by
  refine pureH1 (C := CVp) sigCVp mixCVp Try.func24 rfl rfl rfl [7, 13, 22] (by kernel_rfl) (by decide) (fun o hw => ?_)
  obtain ⟨hl, hdi⟩ := hw
  obtain ⟨r, hr⟩ : ∃ r, voB o = r := ⟨_, rfl⟩
  rw [hr]
  have yes : ValidO o → r = true := fun h => by rw [← hr]; exact voB_true.2 h
  have no : ¬ ValidO o → r = false := fun h => by rw [← hr]; exact voB_false.2 h
  rw [validO_iff] at yes no
  clear hr
  have hlc : LenC o.Base := hl.1
  obtain ⟨⟨h1, h2, h3, h4⟩, l5, l6⟩ := id hl
  have hal : o.Adds.length ≤ 1000000000 := l5
  have hdl : o.Dels.length ≤ 1000000000 := l6
  by_cases hv : ValidC o.Base
  case neg =>
    have hr0 := no fun h => hv h.1
    have hb := vcB_false.2 hv
    simp [aev, gav, alook, litOf, litAV, mget, mhas, acopy, asrc, adst, cav, look, acallPure, abin, abinN, abinP, abinI, abinS, aun, aconv, afield, afieldAddr, aindexAddr, aindex, aslice, alow, ahigh, abuild, abuildGo, cellsOf, splice, fieldTy, alen, apick, amax, amin, aload, headV, aparts, abuildSlice, elParts, abytesStr, astore, amake, aappend, aclear, anew, arith, aresults, aresList, ares, spec0, spec1, spec2, spec3, spec4, eqCells, eqCell, sValC, hlc, hb, hr0]
  have hb := vcB_true.2 hv
  simp [aev, gav, alook, litOf, litAV, mget, mhas, acopy, asrc, adst, cav, look, acallPure, abin, abinN, abinP, abinI, abinS, aun, aconv, afield, afieldAddr, aindexAddr, aindex, aslice, alow, ahigh, abuild, abuildGo, cellsOf, splice, fieldTy, alen, apick, amax, amin, aload, headV, aparts, abuildSlice, elParts, abytesStr, astore, amake, aappend, aclear, anew, arith, aresults, aresList, ares, spec0, spec1, spec2, spec3, spec4, eqCells, eqCell, sValC, hlc, hb]
  refine loop_ruleH (C := CVp) sigCVp mixCVp [7, 13, 22] (fun q : Nat × List Blk => ⟨[(1, .ptr 0 1 6 0 0), (3, .int .i64 q.1)], [OB o] ++ q.2⟩) (fun q => q.1 ≤ o.Adds.length ∧ (∀ i, i < q.1 → FormA (ix o.Adds i)) ∧ ∀ i, 0 < i → i < q.1 → LtA (ix o.Adds (i - 1)) (ix o.Adds i)) (fun q => o.Adds.length - q.1) (by kernel_rfl) ⟨(0, []), ⟨by simp, fun i hi => by simp at hi, fun i _ hi => by simp at hi⟩, weak_eq (by simp) (by simp [OB])⟩ (fun ⟨k, Z⟩ ⟨hk, hf, hu⟩ => ?_)
  simp only at hk hf hu ⊢
  by_cases hlt : k < o.Adds.length
  · have i1 := (len_i l5 hk).1
    simp [aev, gav, alook, litOf, litAV, mget, mhas, acopy, asrc, adst, cav, look, acallPure, abin, abinN, abinP, abinI, abinS, aun, aconv, afield, afieldAddr, aindexAddr, aindex, aslice, alow, ahigh, abuild, abuildGo, cellsOf, splice, fieldTy, alen, apick, amax, amin, aload, headV, aparts, abuildSlice, elParts, abytesStr, astore, amake, aappend, aclear, anew, arith, aresults, aresList, ares, spec0, spec1, spec2, spec3, spec4, eqCells, eqCell, OB, hlt, rowAt_enc hlt]
    refine AW_regionF sigCVp mixCVp [.pure, .read, .read, .pure, .pure, .pure, .read, .read, .pure, .pure, .pure, .pure, .read, .read, .pure, .pure, .pure, .pure, .pure, .pure, .pure, .read, .pure, .pure, .pure, .read, .read, .read, .pure, .pure, .pure] [[],[0],[0,1],[1,0,2],[2,0,1,3],[3,1,0,2,4],[4,2,0,1,3,5],[5,3,1,0,2,4,6],[6,4,2,0,1,3,5,7],[7,5,6,8,3,1,0,2,4],[4,2,0,1,3,8,6,5,7,9],[9,7,5,6,8,3,1,0,2,4,10],[10,4,2,0,1,3,8,6,5,7,9,11],[11,9,7,5,6,8,3,1,0,2,4,10,12],[12,10,4,2,0,1,3,8,6,5,7,9,11,13],[13,11,12,14,9,7,5,6,8,3,1,0,2,4,10],[10,4,2,0,1,3,8,6,5,7,9,14,12,11,13,15],[15,13,11,12,14,9,7,5,6,8,3,1,0,2,4,10,16],[16,10,4,2,0,1,3,8,6,5,7,9,14,12,11,13,15,17],[17,15,13,11,12,14,9,7,5,6,8,3,1,0,2,4,10,16,18],[18,16,10,4,2,0,1,3,8,6,5,7,9,14,12,11,13,15,17,19],[19,17,15,13,11,12,14,9,7,5,6,8,3,1,0,2,4,10,16,18,20],[18,16,10,4,2,0,1,3,8,6,5,7,9,14,12,11,13,15,17,19],[19,17,15,13,11,12,14,9,7,5,6,8,3,1,0,2,4,10,16,18,22],[22,23,20,18,16,10,4,2,0,1,3,8,6,5,7,9,14,12,11,13,15,17,19,21],[21,19,17,15,13,11,12,14,9,7,5,6,8,3,1,0,2,4,10,16,18,20,23,22,24],[18,16,10,4,2,0,1,3,8,6,5,7,9,14,12,11,13,15,17,19],[26,24,22,23,20,18,16,10,4,2,0,1,3,8,6,5,7,9,14,12,11,13,15,17,19,21,25],[25,21,19,17,15,13,11,12,14,9,7,5,6,8,3,1,0,2,4,10,16,18,20,23,22,24,26,27],[27,26,24,22,23,20,21,25,28,18,16,10,4,2,0,1,3,8,6,5,7,9,14,12,11,13,15,17,19],[19,17,18,28,25,21,20,23,22,24,26,27,29,15,13,11,12,14,9,7,5,6,8,3,1,0,2,4,10,16]] (by kernel_rfl) (by kernel_rfl) (by kernel_rfl) (by kernel_rfl) ?_
    by_cases f1 : IdOK (ix o.Adds k).From
    case neg =>
      have hr0 := no fun h => f1 (h.2.1.1 k hlt).1
      simp [aev, gav, alook, litOf, litAV, mget, mhas, acopy, asrc, adst, cav, look, acallPure, abin, abinN, abinP, abinI, abinS, aun, aconv, afield, afieldAddr, aindexAddr, aindex, aslice, alow, ahigh, abuild, abuildGo, cellsOf, splice, fieldTy, alen, apick, amax, amin, aload, headV, aparts, abuildSlice, elParts, abytesStr, astore, amake, aappend, aclear, anew, arith, aresults, aresList, ares, spec0, spec1, spec2, spec3, spec4, eqCells, eqCell, hlt, rowAt_enc hlt, sId, f1, hr0]
    by_cases f2 : IdOK (ix o.Adds k).To
    case neg =>
      have hr0 := no fun h => f2 (h.2.1.1 k hlt).2.1
      simp [aev, gav, alook, litOf, litAV, mget, mhas, acopy, asrc, adst, cav, look, acallPure, abin, abinN, abinP, abinI, abinS, aun, aconv, afield, afieldAddr, aindexAddr, aindex, aslice, alow, ahigh, abuild, abuildGo, cellsOf, splice, fieldTy, alen, apick, amax, amin, aload, headV, aparts, abuildSlice, elParts, abytesStr, astore, amake, aappend, aclear, anew, arith, aresults, aresList, ares, spec0, spec1, spec2, spec3, spec4, eqCells, eqCell, hlt, rowAt_enc hlt, sId, f1, f2, hr0]
    by_cases f3 : IdOK (ix o.Adds k).Edge
    case neg =>
      have hr0 := no fun h => f3 (h.2.1.1 k hlt).2.2
      simp [aev, gav, alook, litOf, litAV, mget, mhas, acopy, asrc, adst, cav, look, acallPure, abin, abinN, abinP, abinI, abinS, aun, aconv, afield, afieldAddr, aindexAddr, aindex, aslice, alow, ahigh, abuild, abuildGo, cellsOf, splice, fieldTy, alen, apick, amax, amin, aload, headV, aparts, abuildSlice, elParts, abytesStr, astore, amake, aappend, aclear, anew, arith, aresults, aresList, ares, spec0, spec1, spec2, spec3, spec4, eqCells, eqCell, hlt, rowAt_enc hlt, sId, f1, f2, f3, hr0]
    have nx : ∀ (h : 0 < k → LtA (ix o.Adds (k - 1)) (ix o.Adds k)), k + 1 ≤ o.Adds.length ∧ (∀ i, i < k + 1 → FormA (ix o.Adds i)) ∧ ∀ i, 0 < i → i < k + 1 → LtA (ix o.Adds (i - 1)) (ix o.Adds i) := fun h => by
      refine ⟨by omega, fun i hi => ?_, fun i h0 hi => ?_⟩
      · rcases Nat.lt_or_eq_of_le (Nat.le_of_lt_succ hi) with h' | rfl
        · exact hf i h'
        · exact ⟨f1, f2, f3⟩
      · rcases Nat.lt_or_eq_of_le (Nat.le_of_lt_succ hi) with h' | rfl
        · exact hu i h0 h'
        · exact h h0
    by_cases h7 : k = 0
    · have h7' : ¬ 0 < k := by omega
      simp [aev, gav, alook, litOf, litAV, mget, mhas, acopy, asrc, adst, cav, look, acallPure, abin, abinN, abinP, abinI, abinS, aun, aconv, afield, afieldAddr, aindexAddr, aindex, aslice, alow, ahigh, abuild, abuildGo, cellsOf, splice, fieldTy, alen, apick, amax, amin, aload, headV, aparts, abuildSlice, elParts, abytesStr, astore, amake, aappend, aclear, anew, arith, aresults, aresList, ares, spec0, spec1, spec2, spec3, spec4, eqCells, eqCell, hlt, rowAt_enc hlt, sId, f1, f2, f3, h7', i1]
      refine ⟨k + 1, nx fun h => absurd h h7', by omega, ?_⟩
      exact ⟨_, weak_eq (by simp) rfl⟩
    have k6 : 0 < k := by omega
    have k7 : I64 ((k : Int) - 1) := by unfold I64; omega
    have k8 : ((k : Int) - 1).toNat = k - 1 := by omega
    have k9 : k - 1 < o.Adds.length := by omega
    have k10 : (1 : Int) ≤ k := by omega
    have k11 : (k : Int) - 1 < o.Adds.length := by omega
    by_cases h8 : LtA (ix o.Adds (k - 1)) (ix o.Adds k)
    · simp [aev, gav, alook, litOf, litAV, mget, mhas, acopy, asrc, adst, cav, look, acallPure, abin, abinN, abinP, abinI, abinS, aun, aconv, afield, afieldAddr, aindexAddr, aindex, aslice, alow, ahigh, abuild, abuildGo, cellsOf, splice, fieldTy, alen, apick, amax, amin, aload, headV, aparts, abuildSlice, elParts, abytesStr, astore, amake, aappend, aclear, anew, arith, aresults, aresList, ares, spec0, spec1, spec2, spec3, spec4, eqCells, eqCell, hlt, rowAt_enc hlt, sId, f1, f2, f3, k6, k7, k8, k9, k10, k11, rowAt_enc k9, sLt, h8, i1]
      refine ⟨k + 1, nx fun _ => h8, by omega, ?_⟩
      exact ⟨_, weak_eq (by simp) rfl⟩
    · have hr0 := no fun h => h8 (h.2.1.2 k k6 hlt)
      simp [aev, gav, alook, litOf, litAV, mget, mhas, acopy, asrc, adst, cav, look, acallPure, abin, abinN, abinP, abinI, abinS, aun, aconv, afield, afieldAddr, aindexAddr, aindex, aslice, alow, ahigh, abuild, abuildGo, cellsOf, splice, fieldTy, alen, apick, amax, amin, aload, headV, aparts, abuildSlice, elParts, abytesStr, astore, amake, aappend, aclear, anew, arith, aresults, aresList, ares, spec0, spec1, spec2, spec3, spec4, eqCells, eqCell, hlt, rowAt_enc hlt, sId, f1, f2, f3, k6, k7, k8, k9, k10, k11, rowAt_enc k9, sLt, h8, hr0]
  have hkk : k = o.Adds.length := by omega
  subst hkk
  clear hlt hk
  have hel := entC_len hlc
  have hel' : (entC o.Base).length ≤ 1000000000 := hel
  simp [aev, gav, alook, litOf, litAV, mget, mhas, acopy, asrc, adst, cav, look, acallPure, abin, abinN, abinP, abinI, abinS, aun, aconv, afield, afieldAddr, aindexAddr, aindex, aslice, alow, ahigh, abuild, abuildGo, cellsOf, splice, fieldTy, alen, apick, amax, amin, aload, headV, aparts, abuildSlice, elParts, abytesStr, astore, amake, aappend, aclear, anew, arith, aresults, aresList, ares, spec0, spec1, spec2, spec3, spec4, eqCells, eqCell, OB, sEntC, hlc]
  refine loop_ruleH (C := CVp) sigCVp mixCVp [7, 13, 22] (fun q : Nat => ⟨[(1, .ptr 0 1 6 0 0), (5, Enc.enc (entC o.Base)), (6, .int .i64 q)], [OB o] ++ Z⟩) (fun q => q ≤ o.Dels.length ∧ (∀ i, i < q → HasE (entC o.Base) (ix o.Dels i)) ∧ ∀ i, 0 < i → i < q → ix o.Dels (i - 1) < ix o.Dels i) (fun q => o.Dels.length - q) (by kernel_rfl) ⟨0, ⟨by omega, fun i hi => by omega, fun i _ hi => by omega⟩, weak_eq (by simp) (by simp [OB])⟩ (fun k ⟨hk, hm, hdu⟩ => ?_)
  by_cases hlt : k < o.Dels.length
  · have i1 := (len_i l6 hk).1
    have nx : ∀ (c2 : HasE (entC o.Base) (ix o.Dels k)) (h : 0 < k → ix o.Dels (k - 1) < ix o.Dels k), k + 1 ≤ o.Dels.length ∧ (∀ i, i < k + 1 → HasE (entC o.Base) (ix o.Dels i)) ∧ ∀ i, 0 < i → i < k + 1 → ix o.Dels (i - 1) < ix o.Dels i := fun c2 h => by
      refine ⟨by omega, fun i hi => ?_, fun i h0 hi => ?_⟩
      · rcases Nat.lt_or_eq_of_le (Nat.le_of_lt_succ hi) with h' | rfl
        · exact hm i h'
        · exact c2
      · rcases Nat.lt_or_eq_of_le (Nat.le_of_lt_succ hi) with h' | rfl
        · exact hdu i h0 h'
        · exact h h0
    simp [aev, gav, alook, litOf, litAV, mget, mhas, acopy, asrc, adst, cav, look, acallPure, abin, abinN, abinP, abinI, abinS, aun, aconv, afield, afieldAddr, aindexAddr, aindex, aslice, alow, ahigh, abuild, abuildGo, cellsOf, splice, fieldTy, alen, apick, amax, amin, aload, headV, aparts, abuildSlice, elParts, abytesStr, astore, amake, aappend, aclear, anew, arith, aresults, aresList, ares, spec0, spec1, spec2, spec3, spec4, eqCells, eqCell, OB, hlt]
    refine AW_regionF sigCVp mixCVp [.pure, .pure, .pure, .pure, .read, .pure, .pure, .pure, .read, .pure, .read, .pure, .pure, .read, .pure, .pure, .pure, .pure, .pure, .read, .pure, .pure, .read, .read, .pure, .pure] [[],[0],[0,1],[1,0,2],[2,0,1,3],[1,0,2],[2,0,1,5],[5,6,3,1,0,2,4],[4,2,0,1,3,6,5,7],[1,0,2],[2,0,1,9],[1,0,2],[11,9,1,0,2,10],[10,2,0,1,9,11,12],[12,11,9,10,13,7,5,6,3,1,0,2,4,8],[8,4,3,6,5,7,13,10,9,11,12,14,1,0,2],[2,0,1,14,12,11,9,10,13,7,5,6,3,4,8,15],[15,8,4,3,6,5,7,13,10,9,11,12,14,1,0,2,16],[15,8,4,3,6,5,7,13,10,9,11,12,14,1,0,2,16],[16,2,0,1,14,12,11,9,10,13,7,5,6,3,4,8,15,18],[15,8,4,3,6,5,7,13,10,9,11,12,14,1,0,2,16],[20,18,15,8,4,3,6,5,7,13,10,9,11,12,14,1,0,2,16,19],[19,16,2,0,1,14,12,11,9,10,13,7,5,6,3,4,8,15,18,20,21],[21,20,18,19,22,16,2,0,1,14,12,11,9,10,13,7,5,6,3,4,8,15,17],[17,15,8,4,3,6,5,7,13,10,9,11,12,14,1,0,2,16,22,19,18,20,21,23],[23,21,20,18,19,22,17,24,15,8,4,3,6,5,7,13,10,9,11,12,14,1,0,2,16]] (by kernel_rfl) (by kernel_rfl) (by kernel_rfl) (by kernel_rfl) ?_
    by_cases h7 : k = 0
    · have h7' : ¬ 0 < k := by omega
      by_cases c2 : HasE (entC o.Base) (ix o.Dels k)
      · simp [aev, gav, alook, litOf, litAV, mget, mhas, acopy, asrc, adst, cav, look, acallPure, abin, abinN, abinP, abinI, abinS, aun, aconv, afield, afieldAddr, aindexAddr, aindex, aslice, alow, ahigh, abuild, abuildGo, cellsOf, splice, fieldTy, alen, apick, amax, amin, aload, headV, aparts, abuildSlice, elParts, abytesStr, astore, amake, aappend, aclear, anew, arith, aresults, aresList, ares, spec0, spec1, spec2, spec3, spec4, eqCells, eqCell, OB, hlt, rowAt_enc hlt, sEdge, hel, c2, h7', i1]
        exact ⟨k + 1, nx c2 fun h => absurd h h7', by omega, weak_eq (by simp) (by simp [OB])⟩
      · have hr0 := no fun h => c2 (h.2.2.1.2 k hlt)
        simp [aev, gav, alook, litOf, litAV, mget, mhas, acopy, asrc, adst, cav, look, acallPure, abin, abinN, abinP, abinI, abinS, aun, aconv, afield, afieldAddr, aindexAddr, aindex, aslice, alow, ahigh, abuild, abuildGo, cellsOf, splice, fieldTy, alen, apick, amax, amin, aload, headV, aparts, abuildSlice, elParts, abytesStr, astore, amake, aappend, aclear, anew, arith, aresults, aresList, ares, spec0, spec1, spec2, spec3, spec4, eqCells, eqCell, OB, hlt, rowAt_enc hlt, sEdge, hel, c2, h7', hr0]
    have k6 : 0 < k := by omega
    have k7 : I64 ((k : Int) - 1) := by unfold I64; omega
    have k8 : ((k : Int) - 1).toNat = k - 1 := by omega
    have k9 : k - 1 < o.Dels.length := by omega
    have k10 : (1 : Int) ≤ k := by omega
    have k11 : (k : Int) - 1 < o.Dels.length := by omega
    by_cases h8 : ix o.Dels (k - 1) < ix o.Dels k
    · have h8' : ¬ ix o.Dels k ≤ ix o.Dels (k - 1) := by omega
      by_cases c2 : HasE (entC o.Base) (ix o.Dels k)
      · simp [aev, gav, alook, litOf, litAV, mget, mhas, acopy, asrc, adst, cav, look, acallPure, abin, abinN, abinP, abinI, abinS, aun, aconv, afield, afieldAddr, aindexAddr, aindex, aslice, alow, ahigh, abuild, abuildGo, cellsOf, splice, fieldTy, alen, apick, amax, amin, aload, headV, aparts, abuildSlice, elParts, abytesStr, astore, amake, aappend, aclear, anew, arith, aresults, aresList, ares, spec0, spec1, spec2, spec3, spec4, eqCells, eqCell, OB, hlt, rowAt_enc hlt, k6, k7, k8, k9, k10, k11, rowAt_enc k9, h8', sEdge, hel, c2, i1]
        exact ⟨k + 1, nx c2 fun _ => h8, by omega, weak_eq (by simp) (by simp [OB])⟩
      · have hr0 := no fun h => c2 (h.2.2.1.2 k hlt)
        simp [aev, gav, alook, litOf, litAV, mget, mhas, acopy, asrc, adst, cav, look, acallPure, abin, abinN, abinP, abinI, abinS, aun, aconv, afield, afieldAddr, aindexAddr, aindex, aslice, alow, ahigh, abuild, abuildGo, cellsOf, splice, fieldTy, alen, apick, amax, amin, aload, headV, aparts, abuildSlice, elParts, abytesStr, astore, amake, aappend, aclear, anew, arith, aresults, aresList, ares, spec0, spec1, spec2, spec3, spec4, eqCells, eqCell, OB, hlt, rowAt_enc hlt, k6, k7, k8, k9, k10, k11, rowAt_enc k9, h8', sEdge, hel, c2, hr0]
    · have h8' : ix o.Dels k ≤ ix o.Dels (k - 1) := by omega
      have hr0 := no fun h => h8 (h.2.2.1.1 k k6 hlt)
      simp [aev, gav, alook, litOf, litAV, mget, mhas, acopy, asrc, adst, cav, look, acallPure, abin, abinN, abinP, abinI, abinS, aun, aconv, afield, afieldAddr, aindexAddr, aindex, aslice, alow, ahigh, abuild, abuildGo, cellsOf, splice, fieldTy, alen, apick, amax, amin, aload, headV, aparts, abuildSlice, elParts, abytesStr, astore, amake, aappend, aclear, anew, arith, aresults, aresList, ares, spec0, spec1, spec2, spec3, spec4, eqCells, eqCell, OB, hlt, rowAt_enc hlt, k6, k7, k8, k9, k10, k11, rowAt_enc k9, h8', hr0]
  have hkk : k = o.Dels.length := by omega
  subst hkk
  clear hlt hk
  have hll : (entsO o).length ≤ 2000000000 := by
    rw [ents_len]
    have := kept_len hl
    omega
  simp [aev, gav, alook, litOf, litAV, mget, mhas, acopy, asrc, adst, cav, look, acallPure, abin, abinN, abinP, abinI, abinS, aun, aconv, afield, afieldAddr, aindexAddr, aindex, aslice, alow, ahigh, abuild, abuildGo, cellsOf, splice, fieldTy, alen, apick, amax, amin, aload, headV, aparts, abuildSlice, elParts, abytesStr, astore, amake, aappend, aclear, anew, arith, aresults, aresList, ares, spec0, spec1, spec2, spec3, spec4, eqCells, eqCell, OB, sEnts, hl]
  generalize hL : entsO o = l at *
  refine loop_ruleH (C := CVp) sigCVp mixCVp [7, 13, 22] (fun q : Nat => ⟨[(1, .ptr 0 1 6 0 0), (7, Enc.enc l), (8, .int .i64 q)], [OB o] ++ Z⟩) (fun q => q ≤ l.length ∧ ∀ i j, i < j → j < q → (ix l i).Edge ≠ (ix l j).Edge) (fun q => l.length - q) (by kernel_rfl) ⟨0, ⟨by omega, fun i j _ hj => by omega⟩, weak_eq (by simp) (by simp [OB])⟩ (fun k ⟨hk, hd⟩ => ?_)
  by_cases hlt : k < l.length
  · have i1 : I64 ((k : Int) + 1) := by unfold I64; omega
    simp [aev, gav, alook, litOf, litAV, mget, mhas, acopy, asrc, adst, cav, look, acallPure, abin, abinN, abinP, abinI, abinS, aun, aconv, afield, afieldAddr, aindexAddr, aindex, aslice, alow, ahigh, abuild, abuildGo, cellsOf, splice, fieldTy, alen, apick, amax, amin, aload, headV, aparts, abuildSlice, elParts, abytesStr, astore, amake, aappend, aclear, anew, arith, aresults, aresList, ares, spec0, spec1, spec2, spec3, spec4, eqCells, eqCell, OB, hlt]
    refine loop_ruleH (C := CVp) sigCVp mixCVp [7, 13, 22] (fun q : Nat => ⟨[(1, .ptr 0 1 6 0 0), (7, Enc.enc l), (8, .int .i64 k), (9, .int .i64 q)], [OB o] ++ Z⟩) (fun q => q ≤ k ∧ ∀ i, i < q → (ix l i).Edge ≠ (ix l k).Edge) (fun q => k - q) (by kernel_rfl) ⟨0, ⟨by omega, fun i hi => by omega⟩, weak_eq (by simp) (by simp [OB])⟩ (fun m ⟨hm', he⟩ => ?_)
    by_cases hmk : m < k
    · have i2 : I64 ((m : Int) + 1) := by unfold I64; omega
      have hml : m < l.length := by omega
      simp [aev, gav, alook, litOf, litAV, mget, mhas, acopy, asrc, adst, cav, look, acallPure, abin, abinN, abinP, abinI, abinS, aun, aconv, afield, afieldAddr, aindexAddr, aindex, aslice, alow, ahigh, abuild, abuildGo, cellsOf, splice, fieldTy, alen, apick, amax, amin, aload, headV, aparts, abuildSlice, elParts, abytesStr, astore, amake, aappend, aclear, anew, arith, aresults, aresList, ares, spec0, spec1, spec2, spec3, spec4, eqCells, eqCell, OB, hmk]
      refine AW_regionF sigCVp mixCVp [.pure, .pure, .pure, .pure, .read, .pure, .pure, .pure, .pure, .read, .pure] [[],[],[1,0],[0,1,2],[2,1,0,3],[],[],[6,5],[5,6,7],[7,6,5,8],[8,5,6,7,9,3,0,1,2,4]] (by kernel_rfl) (by kernel_rfl) (by kernel_rfl) (by kernel_rfl) ?_
      by_cases h8 : (ix l m).Edge = (ix l k).Edge
      · have hr0 := no fun h => h.2.2.2 m k hmk hlt h8
        simp [aev, gav, alook, litOf, litAV, mget, mhas, acopy, asrc, adst, cav, look, acallPure, abin, abinN, abinP, abinI, abinS, aun, aconv, afield, afieldAddr, aindexAddr, aindex, aslice, alow, ahigh, abuild, abuildGo, cellsOf, splice, fieldTy, alen, apick, amax, amin, aload, headV, aparts, abuildSlice, elParts, abytesStr, astore, amake, aappend, aclear, anew, arith, aresults, aresList, ares, spec0, spec1, spec2, spec3, spec4, eqCells, eqCell, OB, hlt, rowAt_enc hlt, hml, rowAt_enc hml, h8, hr0]
      · simp [aev, gav, alook, litOf, litAV, mget, mhas, acopy, asrc, adst, cav, look, acallPure, abin, abinN, abinP, abinI, abinS, aun, aconv, afield, afieldAddr, aindexAddr, aindex, aslice, alow, ahigh, abuild, abuildGo, cellsOf, splice, fieldTy, alen, apick, amax, amin, aload, headV, aparts, abuildSlice, elParts, abytesStr, astore, amake, aappend, aclear, anew, arith, aresults, aresList, ares, spec0, spec1, spec2, spec3, spec4, eqCells, eqCell, OB, hlt, rowAt_enc hlt, hml, rowAt_enc hml, h8, i2]
        refine ⟨m + 1, ⟨by omega, fun i hi => ?_⟩, by omega, weak_eq (by simp) (by simp [OB])⟩
        rcases Nat.lt_or_eq_of_le (Nat.le_of_lt_succ hi) with h' | rfl
        · exact he i h'
        · exact h8
    · simp [aev, gav, alook, litOf, litAV, mget, mhas, acopy, asrc, adst, cav, look, acallPure, abin, abinN, abinP, abinI, abinS, aun, aconv, afield, afieldAddr, aindexAddr, aindex, aslice, alow, ahigh, abuild, abuildGo, cellsOf, splice, fieldTy, alen, apick, amax, amin, aload, headV, aparts, abuildSlice, elParts, abytesStr, astore, amake, aappend, aclear, anew, arith, aresults, aresList, ares, spec0, spec1, spec2, spec3, spec4, eqCells, eqCell, OB, hmk, i1]
      refine ⟨k + 1, ⟨by omega, fun i j hij hj => ?_⟩, by omega, weak_eq (by simp) (by simp [OB])⟩
      rcases Nat.lt_or_eq_of_le (Nat.le_of_lt_succ hj) with h' | rfl
      · exact hd i j hij h'
      · exact he i (by omega)
  · have hr0 := yes ⟨hv, ⟨hf, hu⟩, ⟨hdu, hm⟩, fun i j hij hj => hd i j hij (by omega)⟩
    simp [aev, gav, alook, litOf, litAV, mget, mhas, acopy, asrc, adst, cav, look, acallPure, abin, abinN, abinP, abinI, abinS, aun, aconv, afield, afieldAddr, aindexAddr, aindex, aslice, alow, ahigh, abuild, abuildGo, cellsOf, splice, fieldTy, alen, apick, amax, amin, aload, headV, aparts, abuildSlice, elParts, abytesStr, astore, amake, aappend, aclear, anew, arith, aresults, aresList, ares, spec0, spec1, spec2, spec3, spec4, eqCells, eqCell, OB, hlt, hr0]
noncomputable def liveO (o : Ov) : List Adj := if voB o = true then entsO o else []
noncomputable def sLive : List AV → Option (Prop × AV) := spec1 WfO (fun o => Enc.enc (liveO o))
noncomputable def CLv : Ctx := mkC Try.prog G0 [(15, .pure sValO), (32, .pure sEnts)]
@[simp] theorem CLv_P : CLv.P = Try.prog := rfl
@[simp] theorem CLv_G : CLv.G = G0 := rfl
@[simp] theorem CLv_1 : CLv.S 15 = .pure sValO := rfl
@[simp] theorem CLv_2 : CLv.S 32 = .pure sEnts := rfl
theorem mixCLv : CLv.P.follows .mixedOrders = true := mixed
theorem sigCLv : SigOK CLv := sigOK_cons (entryPure (validOP) Try.func15 rfl (by decide)) (sigOK_cons (entryPure (entsP) Try.func32 rfl (by decide)) (sigOK_nil _ _))
noncomputable def CLw : Ctx := mkC Try.prog G0 [(24, .pure sValO), (43, .pure sEnts)]
@[simp] theorem CLw_P : CLw.P = Try.prog := rfl
@[simp] theorem CLw_G : CLw.G = G0 := rfl
@[simp] theorem CLw_1 : CLw.S 24 = .pure sValO := rfl
@[simp] theorem CLw_2 : CLw.S 43 = .pure sEnts := rfl
theorem mixCLw : CLw.P.follows .mixedOrders = true := mixed
theorem sigCLw : SigOK CLw := sigOK_cons (entryPure (validOR) Try.func24 rfl (by decide)) (sigOK_cons (entryPure (entsR) Try.func43 rfl (by decide)) (sigOK_nil _ _))
theorem liveP : PureOK Try.prog G0 16 sLive := by
  refine pureH1 (C := CLv) sigCLv mixCLv Try.func16 rfl rfl rfl [] (by kernel_rfl) (by decide) (fun o hw => ?_)
  have hl := hw.l
  by_cases hv : voB o = true
  · have e : liveO o = entsO o := if_pos hv
    simp [aev, gav, alook, litOf, litAV, mget, mhas, acopy, asrc, adst, cav, look, acallPure, abin, abinN, abinP, abinI, abinS, aun, aconv, afield, afieldAddr, aindexAddr, aindex, aslice, alow, ahigh, abuild, abuildGo, cellsOf, splice, fieldTy, alen, apick, amax, amin, aload, headV, aparts, abuildSlice, elParts, abytesStr, astore, amake, aappend, aclear, anew, arith, aresults, aresList, ares, spec0, spec1, spec2, spec3, spec4, eqCells, eqCell, sValO, hw, hl, hv, sEnts, e]
  · have e : liveO o = [] := if_neg hv
    simp [aev, gav, alook, litOf, litAV, mget, mhas, acopy, asrc, adst, cav, look, acallPure, abin, abinN, abinP, abinI, abinS, aun, aconv, afield, afieldAddr, aindexAddr, aindex, aslice, alow, ahigh, abuild, abuildGo, cellsOf, splice, fieldTy, alen, apick, amax, amin, aload, headV, aparts, abuildSlice, elParts, abytesStr, astore, amake, aappend, aclear, anew, arith, aresults, aresList, ares, spec0, spec1, spec2, spec3, spec4, eqCells, eqCell, sValO, hw, hv, e]
theorem liveR : PureOK Try.prog G0 25 sLive := by
  refine pureH1 (C := CLw) sigCLw mixCLw Try.func25 rfl rfl rfl [] (by kernel_rfl) (by decide) (fun o hw => ?_)
  have hl := hw.l
  by_cases hv : voB o = true
  · have e : liveO o = entsO o := if_pos hv
    simp [aev, gav, alook, litOf, litAV, mget, mhas, acopy, asrc, adst, cav, look, acallPure, abin, abinN, abinP, abinI, abinS, aun, aconv, afield, afieldAddr, aindexAddr, aindex, aslice, alow, ahigh, abuild, abuildGo, cellsOf, splice, fieldTy, alen, apick, amax, amin, aload, headV, aparts, abuildSlice, elParts, abytesStr, astore, amake, aappend, aclear, anew, arith, aresults, aresList, ares, spec0, spec1, spec2, spec3, spec4, eqCells, eqCell, sValO, hw, hl, hv, sEnts, e]
  · have e : liveO o = [] := if_neg hv
    simp [aev, gav, alook, litOf, litAV, mget, mhas, acopy, asrc, adst, cav, look, acallPure, abin, abinN, abinP, abinI, abinS, aun, aconv, afield, afieldAddr, aindexAddr, aindex, aslice, alow, ahigh, abuild, abuildGo, cellsOf, splice, fieldTy, alen, apick, amax, amin, aload, headV, aparts, abuildSlice, elParts, abytesStr, astore, amake, aappend, aclear, anew, arith, aresults, aresList, ares, spec0, spec1, spec2, spec3, spec4, eqCells, eqCell, sValO, hw, hv, e]
theorem live_len {o : Ov} (hw : WfO o) : (liveO o).length ≤ 2000000000 := by
  unfold liveO
  split
  · rw [ents_len]
    have := kept_len hw.l
    have h5 : o.Adds.length ≤ 1000000000 := hw.l.2.1
    omega
  · exact Nat.zero_le _
end Go.Proofs.Ytkhgjbjkjefeoaa


/-
  overlay: Row, both sides; copies.
-/
namespace Go.Proofs.Ytkhgjbjkjefeoaa
open Go.RowKit
set_option linter.unusedSimpArgs false
set_option linter.unusedVariables false
set_option maxRecDepth 100000

def fromP (v : Int) (a : Adj) : Bool := decide (a.From = v)
noncomputable def rowO (o : Ov) (v : Int) : List Adj := (liveO o).filter (fromP v)
noncomputable def sRow : List AV → Option (Prop × AV) := spec2 (fun (o : Ov) (_ : Int) => WfO o) (fun o v => Enc.enc (rowO o v))
theorem filt_succ {p : Adj → Bool} {l : List Adj} {k : Nat} (hk : k < l.length) : (l.take (k + 1)).filter p = if p (ix l k) then (l.take k).filter p ++ [ix l k] else (l.take k).filter p := by
  rw [List.take_succ_eq_append_getElem hk, List.filter_append, ix_lt hk]
  split
  · rename_i h; simp [h]
  · rename_i h; simp [h]
noncomputable def CRw : Ctx := mkC Try.prog G0 [(16, .pure sLive)]
@[simp] theorem CRw_P : CRw.P = Try.prog := rfl
@[simp] theorem CRw_G : CRw.G = G0 := rfl
@[simp] theorem CRw_1 : CRw.S 16 = .pure sLive := rfl
theorem mixCRw : CRw.P.follows .mixedOrders = true := mixed
theorem sigCRw : SigOK CRw := sigOK_cons (entryPure (liveP) Try.func16 rfl (by decide)) (sigOK_nil _ _)
set_option maxHeartbeats 16000000 in
theorem rowP : PureOK Try.prog G0 26 sRow := by
  refine pureH2 (C := CRw) sigCRw mixCRw Try.func26 rfl rfl rfl [] (by kernel_rfl) (by decide) (fun o v hw => ?_)
  obtain ⟨r, hr⟩ : ∃ r, rowO o v = r := ⟨_, rfl⟩
  rw [hr]
  have hll := live_len hw
  simp [aev, gav, alook, litOf, litAV, mget, mhas, acopy, asrc, adst, cav, look, acallPure, abin, abinN, abinP, abinI, abinS, aun, aconv, afield, afieldAddr, aindexAddr, aindex, aslice, alow, ahigh, abuild, abuildGo, cellsOf, splice, fieldTy, alen, apick, amax, amin, aload, headV, aparts, abuildSlice, elParts, abytesStr, astore, amake, aappend, aclear, anew, arith, aresults, aresList, ares, spec0, spec1, spec2, spec3, spec4, eqCells, eqCell, sLive, hw]
  refine AW.weak (weak_nil 5 3 29 rfl (by decide)) ?_
  unfold rowO at hr
  generalize liveO o = l at *
  refine loop_ruleH (C := CRw) sigCRw mixCRw [] (fun q : Nat => ⟨[(1, .int .i64 v), (2, .ptr 0 1 6 0 0), (5, .own 1 ((l.take q).filter (fromP v)).length), (9, Enc.enc l), (10, .int .i64 l.length), (11, .int .i64 q)], [OB o, bA ((l.take q).filter (fromP v))]⟩) (fun q => q ≤ l.length) (fun q => l.length - q) (by kernel_rfl) ⟨0, by omega, weak_eq (by simp) (by simp [OB, bA])⟩ (fun k hk => ?_)
  have hfl : ((l.take k).filter (fromP v)).length ≤ 2000000000 := by
    have := List.length_filter_le (fromP v) (l.take k)
    rw [List.length_take] at this
    omega
  by_cases hlt : k < l.length
  · have i1 : I64 ((k : Int) + 1) := by unfold I64; omega
    have hsx := filt_succ (p := fromP v) hlt
    by_cases hd : (ix l k).From = v
    · have hkp : fromP v (ix l k) = true := by unfold fromP; simp [hd]
      rw [hkp] at hsx
      simp only [if_true] at hsx
      simp [aev, gav, alook, litOf, litAV, mget, mhas, acopy, asrc, adst, cav, look, acallPure, abin, abinN, abinP, abinI, abinS, aun, aconv, afield, afieldAddr, aindexAddr, aindex, aslice, alow, ahigh, abuild, abuildGo, cellsOf, splice, fieldTy, alen, apick, amax, amin, aload, headV, aparts, abuildSlice, elParts, abytesStr, astore, amake, aappend, aclear, anew, arith, aresults, aresList, ares, spec0, spec1, spec2, spec3, spec4, eqCells, eqCell, OB, bA, hlt, rowAt_enc hlt, hd, i1]
      refine ⟨by omega, k + 1, by omega, by omega, weak_keep 2 (by simp [hsx]) (by simp) (by simp [AV.clean, AV.clean1]) (by simp [AV.clean, AV.clean1]) ?_⟩
      rw [hsx]
      simp [OB, bA, ← hd]
    · have hkp : fromP v (ix l k) = false := by unfold fromP; simp [hd]
      rw [hkp] at hsx
      simp only [Bool.false_eq_true, if_false] at hsx
      simp [aev, gav, alook, litOf, litAV, mget, mhas, acopy, asrc, adst, cav, look, acallPure, abin, abinN, abinP, abinI, abinS, aun, aconv, afield, afieldAddr, aindexAddr, aindex, aslice, alow, ahigh, abuild, abuildGo, cellsOf, splice, fieldTy, alen, apick, amax, amin, aload, headV, aparts, abuildSlice, elParts, abytesStr, astore, amake, aappend, aclear, anew, arith, aresults, aresList, ares, spec0, spec1, spec2, spec3, spec4, eqCells, eqCell, OB, bA, hlt, rowAt_enc hlt, hd, i1]
      refine ⟨k + 1, by omega, by omega, weak_keep 2 (by simp [hsx]) (by simp) (by simp [AV.clean, AV.clean1]) (by simp [AV.clean, AV.clean1]) (by simp [OB, bA, hsx])⟩
  · have hkk : k = l.length := by omega
    subst hkk
    rw [List.take_length] at hfl ⊢
    simp [aev, gav, alook, litOf, litAV, mget, mhas, acopy, asrc, adst, cav, look, acallPure, abin, abinN, abinP, abinI, abinS, aun, aconv, afield, afieldAddr, aindexAddr, aindex, aslice, alow, ahigh, abuild, abuildGo, cellsOf, splice, fieldTy, alen, apick, amax, amin, aload, headV, aparts, abuildSlice, elParts, abytesStr, astore, amake, aappend, aclear, anew, arith, aresults, aresList, ares, spec0, spec1, spec2, spec3, spec4, eqCells, eqCell, OB, bA, hlt, hr]
noncomputable def CRx : Ctx := mkC Try.prog G0 [(25, .pure sLive)]
@[simp] theorem CRx_P : CRx.P = Try.prog := rfl
@[simp] theorem CRx_G : CRx.G = G0 := rfl
@[simp] theorem CRx_1 : CRx.S 25 = .pure sLive := rfl
theorem mixCRx : CRx.P.follows .mixedOrders = true := mixed
theorem sigCRx : SigOK CRx := sigOK_cons (entryPure (liveR) Try.func25 rfl (by decide)) (sigOK_nil _ _)
set_option maxHeartbeats 16000000 in
theorem rowR : PureOK Try.prog G0 27 sRow := by
  refine pureH2 (C := CRx) sigCRx mixCRx Try.func27 rfl rfl rfl [] (by kernel_rfl) (by decide) (fun o v hw => ?_)
  obtain ⟨r, hr⟩ : ∃ r, rowO o v = r := ⟨_, rfl⟩
  rw [hr]
  have hll := live_len hw
  simp [aev, gav, alook, litOf, litAV, mget, mhas, acopy, asrc, adst, cav, look, acallPure, abin, abinN, abinP, abinI, abinS, aun, aconv, afield, afieldAddr, aindexAddr, aindex, aslice, alow, ahigh, abuild, abuildGo, cellsOf, splice, fieldTy, alen, apick, amax, amin, aload, headV, aparts, abuildSlice, elParts, abytesStr, astore, amake, aappend, aclear, anew, arith, aresults, aresList, ares, spec0, spec1, spec2, spec3, spec4, eqCells, eqCell, sLive, hw]
  refine AW.weak (weak_nil 5 3 29 rfl (by decide)) ?_
  unfold rowO at hr
  generalize liveO o = l at *
  refine loop_ruleH (C := CRx) sigCRx mixCRx [] (fun q : Nat => ⟨[(1, .int .i64 v), (2, .ptr 0 1 6 0 0), (5, .own 1 ((l.take q).filter (fromP v)).length), (6, Enc.enc l), (7, .int .i64 q)], [OB o, bA ((l.take q).filter (fromP v))]⟩) (fun q => q ≤ l.length) (fun q => l.length - q) (by kernel_rfl) ⟨0, by omega, weak_eq (by simp) (by simp [OB, bA])⟩ (fun k hk => ?_)
  have hfl : ((l.take k).filter (fromP v)).length ≤ 2000000000 := by
    have := List.length_filter_le (fromP v) (l.take k)
    rw [List.length_take] at this
    omega
  by_cases hlt : k < l.length
  · have i1 : I64 ((k : Int) + 1) := by unfold I64; omega
    have hsx := filt_succ (p := fromP v) hlt
    by_cases hd : (ix l k).From = v
    · have hkp : fromP v (ix l k) = true := by unfold fromP; simp [hd]
      rw [hkp] at hsx
      simp only [if_true] at hsx
      simp [aev, gav, alook, litOf, litAV, mget, mhas, acopy, asrc, adst, cav, look, acallPure, abin, abinN, abinP, abinI, abinS, aun, aconv, afield, afieldAddr, aindexAddr, aindex, aslice, alow, ahigh, abuild, abuildGo, cellsOf, splice, fieldTy, alen, apick, amax, amin, aload, headV, aparts, abuildSlice, elParts, abytesStr, astore, amake, aappend, aclear, anew, arith, aresults, aresList, ares, spec0, spec1, spec2, spec3, spec4, eqCells, eqCell, OB, bA, hlt, rowAt_enc hlt, hd, i1]
      refine ⟨by omega, k + 1, by omega, by omega, weak_eq (by simp [hsx]) ?_⟩
      rw [hsx]
      simp [OB, bA, ← hd]
    · have hkp : fromP v (ix l k) = false := by unfold fromP; simp [hd]
      rw [hkp] at hsx
      simp only [Bool.false_eq_true, if_false] at hsx
      simp [aev, gav, alook, litOf, litAV, mget, mhas, acopy, asrc, adst, cav, look, acallPure, abin, abinN, abinP, abinI, abinS, aun, aconv, afield, afieldAddr, aindexAddr, aindex, aslice, alow, ahigh, abuild, abuildGo, cellsOf, splice, fieldTy, alen, apick, amax, amin, aload, headV, aparts, abuildSlice, elParts, abytesStr, astore, amake, aappend, aclear, anew, arith, aresults, aresList, ares, spec0, spec1, spec2, spec3, spec4, eqCells, eqCell, OB, bA, hlt, rowAt_enc hlt, hd, i1]
      exact ⟨k + 1, by omega, by omega, weak_eq (by simp [hsx]) (by simp [OB, bA, hsx])⟩
  · have hkk : k = l.length := by omega
    subst hkk
    rw [List.take_length] at hfl ⊢
    simp [aev, gav, alook, litOf, litAV, mget, mhas, acopy, asrc, adst, cav, look, acallPure, abin, abinN, abinP, abinI, abinS, aun, aconv, afield, afieldAddr, aindexAddr, aindex, aslice, alow, ahigh, abuild, abuildGo, cellsOf, splice, fieldTy, alen, apick, amax, amin, aload, headV, aparts, abuildSlice, elParts, abytesStr, astore, amake, aappend, aclear, anew, arith, aresults, aresList, ares, spec0, spec1, spec2, spec3, spec4, eqCells, eqCell, OB, bA, hlt, hr]
end Go.Proofs.Ytkhgjbjkjefeoaa


/-
  overlay: the reference's copy.
-/
namespace Go.Proofs.Ytkhgjbjkjefeoaa
open Go.RowKit
set_option linter.unusedSimpArgs false
set_option linter.unusedVariables false
set_option maxRecDepth 100000

def Z0 : Blk := ⟨27, 6, [[.slice 1 true [], .slice 1 true [], .slice 1 true [], .slice 1 true [], .slice 3 true [], .slice 1 true []]], true, true⟩
def ZC : Blk := ⟨24, 4, [[.slice 1 true [], .slice 1 true [], .slice 1 true [], .slice 1 true []]], true, true⟩
def WC (o : Ov) (d : Bool) : Blk := ⟨24, 4, [[.slice 1 false (encRows o.Base.Nodes), .slice 1 false (encRows o.Base.First), .slice 1 false (encRows o.Base.To), .slice 1 false (encRows o.Base.Edge)]], true, d⟩
def cpS (i : Nat) : Nat := [4, 5, 6, 7, 8, 9, 10, 11, 12, 13, 14, 15, 16, 17, 18, 19, 20, 21, 22, 23, 24, 3].getD i 1
def cpV (o : Ov) : Nat → AV
  | 0 => .slice 1 true []
  | 1 => .ptr 0 1 6 0 0
  | 2 => .ptr 0 1 6 0 0
  | 3 => .slice 1 false (encRows o.Base.Nodes)
  | 4 => .slice 1 false (encRows o.Base.Nodes)
  | 5 => .slice 1 true []
  | 6 => .ptr 0 1 6 0 0
  | 7 => .ptr 0 1 6 0 1
  | 8 => .slice 1 false (encRows o.Base.First)
  | 9 => .slice 1 false (encRows o.Base.First)
  | 10 => .slice 1 true []
  | 11 => .ptr 0 1 6 0 0
  | 12 => .ptr 0 1 6 0 2
  | 13 => .slice 1 false (encRows o.Base.To)
  | 14 => .slice 1 false (encRows o.Base.To)
  | 15 => .slice 1 true []
  | 16 => .ptr 0 1 6 0 0
  | 17 => .ptr 0 1 6 0 3
  | 18 => .slice 1 false (encRows o.Base.Edge)
  | 19 => .slice 1 false (encRows o.Base.Edge)
  | 20 => .agg [.slice 1 false (encRows o.Base.Nodes), .slice 1 false (encRows o.Base.First), .slice 1 false (encRows o.Base.To), .slice 1 false (encRows o.Base.Edge)]
  | _ => .ptr 2 1 4 0 0
def cpH (o : Ov) : Bool → Bool → List Blk
  | false, _ => [OB o, Z0]
  | true, false => [OB o, Z0, ZC]
  | true, true => [OB o, Z0, WC o true]
theorem cpS_ne : ∀ i, i < 22 → ∀ j, j < 22 → i ≠ j → cpS i ≠ cpS j := by decide
theorem cpS_lo : ∀ i, i < 22 → cpS i ≠ 1 ∧ cpS i ≠ 2 := by decide
structure CpA (o : Ov) (L : Nat → Bool) (s : ASt) : Prop where
  p1 : getA s.ρ 1 = .ptr 0 1 6 0 0
  p2 : getA s.ρ 2 = .ptr 1 1 6 0 0
  v : ∀ i, i < 22 → L i = true → getA s.ρ (cpS i) = cpV o i
  cl : ∀ p ∈ s.ρ, p.2.clean s.H.length = true
  d : L 22 = true → L 21 = true
  h : s.H = cpH o (L 21) (L 22)
theorem cpH_len (o : Ov) (a b : Bool) : (cpH o a b).length = if a then 3 else 2 := by cases a <;> cases b <;> rfl
theorem cpH_deep (o : Ov) (a b : Bool) : ∀ x ∈ cpH o a b, x.deep = true := by cases a <;> cases b <;> simp [cpH, OB, Z0, ZC, WC]
theorem cpH_zero (o : Ov) (a b : Bool) : (cpH o a b)[0]? = some (OB o) := by cases a <;> cases b <;> rfl
theorem CpA.put {o : Ov} {L : Nat → Bool} {ρ : List (Nat × AV)} {H : List Blk} (I : CpA o L ⟨ρ, H⟩) (i : Nat) (hi : i < 21) (hc : (cpV o i).clean 2 = true) : CpA o (fun j => decide (j = i) || L j) ⟨(cpS i, cpV o i) :: ρ, H⟩ := by
  have h21 : (decide (21 = i) || L 21) = L 21 := by rw [decide_eq_false (by omega)]; rfl
  have h22 : (decide (22 = i) || L 22) = L 22 := by rw [decide_eq_false (by omega)]; rfl
  have hlen : 2 ≤ H.length := by
    have := I.h
    simp only at this
    rw [this, cpH_len]
    split <;> omega
  refine ⟨?_, ?_, fun j hj hL => ?_, fun p hp => ?_, ?_, ?_⟩
  · simp only
    rw [getA_cons, if_neg (fun e => (cpS_lo i (by omega)).1 e)]
    exact I.p1
  · simp only
    rw [getA_cons, if_neg (fun e => (cpS_lo i (by omega)).2 e)]
    exact I.p2
  · simp only
    rw [getA_cons]
    by_cases e : j = i
    · rw [e, if_pos rfl]
    · rw [if_neg (cpS_ne i (by omega) j hj fun h => e h.symm)]
      exact I.v j hj (by simpa [e] using hL)
  · rcases List.mem_cons.1 hp with rfl | hp
    · exact clean_mono hlen hc
    · exact I.cl p hp
  · simp only [h21, h22]
    exact I.d
  · simp only [h21, h22]
    exact I.h
theorem weak_same {C : Ctx} {N h0 : Nat} (s : ASt) : Weak C N h0 s s := fun _ _ _ _ _ _ _ h => h
def sCopied : List AV → Option (Prop × AV) := spec1 LenO (fun o => Enc.enc o)
set_option maxHeartbeats 16000000 in
theorem copiedR : PureOK Try.prog G0 44 sCopied := by
  refine pureH1 (C := CE) sigCE mixCE Try.func44 rfl rfl rfl [1, 2] (by kernel_rfl) (by decide) (fun o hl => ?_)
  obtain ⟨⟨l1, l2, l3, l4⟩, l5, l6⟩ := hl
  unfold Len at l1 l2 l3 l4 l5 l6
  simp [aev, gav, alook, litOf, litAV, mget, mhas, acopy, asrc, adst, cav, look, acallPure, abin, abinN, abinP, abinI, abinS, aun, aconv, afield, afieldAddr, aindexAddr, aindex, aslice, alow, ahigh, abuild, abuildGo, cellsOf, splice, fieldTy, alen, apick, amax, amin, aload, headV, aparts, abuildSlice, elParts, abytesStr, astore, amake, aappend, aclear, anew, arith, aresults, aresList, ares, spec0, spec1, spec2, spec3, spec4, eqCells, eqCell]
  refine AW_regionW sigCE mixCE [[],[],[1],[2],[0,3],[],[],[6],[7],[5,8,4],[],[],[11],[12],[10,13,9],[],[],[16],[17],[15,18,14],[4,9,14,19],[],[21,20,19,0,1,2,3,4,5,6,7,8,9,10,11,12,13,14,15,16,17,18,19,20,21]] (by kernel_rfl) (by kernel_rfl) (CpA o) ?_ ?_ ?_ ?_
  · exact ⟨by simp [getA], by simp [getA], (fun i _ h => by simp at h), by simp [AV.clean, AV.clean1], (fun h => by simp at h), rfl⟩
  · intro i op ho L st' hI hLi hd
    obtain ⟨ρ, H⟩ := st'
    have p1 := hI.p1
    have hz : H[0]? = some (OB o) := by have e := hI.h; simp only at e; rw [e]; exact cpH_zero o _ _
    have hdeep : ∀ x ∈ H, x.deep = true := by have e := hI.h; simp only at e; rw [e]; exact cpH_deep o _ _
    simp only at p1
    match i, ho with
    | 0, ho =>
      have ho := Option.some.inj ho
      subst ho
      simp [aev, gav, alook, litOf, litAV, mget, mhas, acopy, asrc, adst, cav, look, acallPure, abin, abinN, abinP, abinI, abinS, aun, aconv, afield, afieldAddr, aindexAddr, aindex, aslice, alow, ahigh, abuild, abuildGo, cellsOf, splice, fieldTy, alen, apick, amax, amin, aload, headV, aparts, abuildSlice, elParts, abytesStr, astore, amake, aappend, aclear, anew, arith, aresults, aresList, ares, spec0, spec1, spec2, spec3, spec4, eqCells, eqCell]
      exact ⟨_, weak_same _, hI.put 0 (by omega) (by simp [cpV, AV.clean, AV.clean1])⟩
    | 1, ho =>
      have ho := Option.some.inj ho
      subst ho
      simp [aev, gav, alook, litOf, litAV, mget, mhas, acopy, asrc, adst, cav, look, acallPure, abin, abinN, abinP, abinI, abinS, aun, aconv, afield, afieldAddr, aindexAddr, aindex, aslice, alow, ahigh, abuild, abuildGo, cellsOf, splice, fieldTy, alen, apick, amax, amin, aload, headV, aparts, abuildSlice, elParts, abytesStr, astore, amake, aappend, aclear, anew, arith, aresults, aresList, ares, spec0, spec1, spec2, spec3, spec4, eqCells, eqCell, p1]
      exact ⟨_, weak_same _, hI.put 1 (by omega) (by simp [cpV, AV.clean, AV.clean1])⟩
    | 2, ho =>
      have ho := Option.some.inj ho
      subst ho
      have q := hI.v 1 (by omega) (hd 1 (by simp))
      simp only [cpS, cpV, List.getD_cons_zero, List.getD_cons_succ] at q
      simp [aev, gav, alook, litOf, litAV, mget, mhas, acopy, asrc, adst, cav, look, acallPure, abin, abinN, abinP, abinI, abinS, aun, aconv, afield, afieldAddr, aindexAddr, aindex, aslice, alow, ahigh, abuild, abuildGo, cellsOf, splice, fieldTy, alen, apick, amax, amin, aload, headV, aparts, abuildSlice, elParts, abytesStr, astore, amake, aappend, aclear, anew, arith, aresults, aresList, ares, spec0, spec1, spec2, spec3, spec4, eqCells, eqCell, q]
      exact ⟨_, weak_same _, hI.put 2 (by omega) (by simp [cpV, AV.clean, AV.clean1])⟩
    | 3, ho =>
      have ho := Option.some.inj ho
      subst ho
      have q := hI.v 2 (by omega) (hd 2 (by simp))
      simp only [cpS, cpV, List.getD_cons_zero, List.getD_cons_succ] at q
      simp [aev, gav, alook, litOf, litAV, mget, mhas, acopy, asrc, adst, cav, look, acallPure, abin, abinN, abinP, abinI, abinS, aun, aconv, afield, afieldAddr, aindexAddr, aindex, aslice, alow, ahigh, abuild, abuildGo, cellsOf, splice, fieldTy, alen, apick, amax, amin, aload, headV, aparts, abuildSlice, elParts, abytesStr, astore, amake, aappend, aclear, anew, arith, aresults, aresList, ares, spec0, spec1, spec2, spec3, spec4, eqCells, eqCell, q, hz, OB]
      exact ⟨_, weak_same _, hI.put 3 (by omega) (by simp [cpV, AV.clean, AV.clean1])⟩
    | 4, ho =>
      have ho := Option.some.inj ho
      subst ho
      have q := hI.v 0 (by omega) (hd 0 (by simp))
      have q' := hI.v 3 (by omega) (hd 3 (by simp))
      simp only [cpS, cpV, List.getD_cons_zero, List.getD_cons_succ] at q q'
      simp [aev, gav, alook, litOf, litAV, mget, mhas, acopy, asrc, adst, cav, look, acallPure, abin, abinN, abinP, abinI, abinS, aun, aconv, afield, afieldAddr, aindexAddr, aindex, aslice, alow, ahigh, abuild, abuildGo, cellsOf, splice, fieldTy, alen, apick, amax, amin, aload, headV, aparts, abuildSlice, elParts, abytesStr, astore, amake, aappend, aclear, anew, arith, aresults, aresList, ares, spec0, spec1, spec2, spec3, spec4, eqCells, eqCell, q, q']
      refine ⟨by omega, _, weak_appended 8 _ 1 3 _ (by simp) (Nat.zero_le _) hI.cl (fun b hb => .inl (hdeep b hb)), hI.put 4 (by omega) (by simp [cpV, AV.clean, AV.clean1])⟩
    | 5, ho =>
      have ho := Option.some.inj ho
      subst ho
      simp [aev, gav, alook, litOf, litAV, mget, mhas, acopy, asrc, adst, cav, look, acallPure, abin, abinN, abinP, abinI, abinS, aun, aconv, afield, afieldAddr, aindexAddr, aindex, aslice, alow, ahigh, abuild, abuildGo, cellsOf, splice, fieldTy, alen, apick, amax, amin, aload, headV, aparts, abuildSlice, elParts, abytesStr, astore, amake, aappend, aclear, anew, arith, aresults, aresList, ares, spec0, spec1, spec2, spec3, spec4, eqCells, eqCell]
      exact ⟨_, weak_same _, hI.put 5 (by omega) (by simp [cpV, AV.clean, AV.clean1])⟩
    | 6, ho =>
      have ho := Option.some.inj ho
      subst ho
      simp [aev, gav, alook, litOf, litAV, mget, mhas, acopy, asrc, adst, cav, look, acallPure, abin, abinN, abinP, abinI, abinS, aun, aconv, afield, afieldAddr, aindexAddr, aindex, aslice, alow, ahigh, abuild, abuildGo, cellsOf, splice, fieldTy, alen, apick, amax, amin, aload, headV, aparts, abuildSlice, elParts, abytesStr, astore, amake, aappend, aclear, anew, arith, aresults, aresList, ares, spec0, spec1, spec2, spec3, spec4, eqCells, eqCell, p1]
      exact ⟨_, weak_same _, hI.put 6 (by omega) (by simp [cpV, AV.clean, AV.clean1])⟩
    | 7, ho =>
      have ho := Option.some.inj ho
      subst ho
      have q := hI.v 6 (by omega) (hd 6 (by simp))
      simp only [cpS, cpV, List.getD_cons_zero, List.getD_cons_succ] at q
      simp [aev, gav, alook, litOf, litAV, mget, mhas, acopy, asrc, adst, cav, look, acallPure, abin, abinN, abinP, abinI, abinS, aun, aconv, afield, afieldAddr, aindexAddr, aindex, aslice, alow, ahigh, abuild, abuildGo, cellsOf, splice, fieldTy, alen, apick, amax, amin, aload, headV, aparts, abuildSlice, elParts, abytesStr, astore, amake, aappend, aclear, anew, arith, aresults, aresList, ares, spec0, spec1, spec2, spec3, spec4, eqCells, eqCell, q]
      exact ⟨_, weak_same _, hI.put 7 (by omega) (by simp [cpV, AV.clean, AV.clean1])⟩
    | 8, ho =>
      have ho := Option.some.inj ho
      subst ho
      have q := hI.v 7 (by omega) (hd 7 (by simp))
      simp only [cpS, cpV, List.getD_cons_zero, List.getD_cons_succ] at q
      simp [aev, gav, alook, litOf, litAV, mget, mhas, acopy, asrc, adst, cav, look, acallPure, abin, abinN, abinP, abinI, abinS, aun, aconv, afield, afieldAddr, aindexAddr, aindex, aslice, alow, ahigh, abuild, abuildGo, cellsOf, splice, fieldTy, alen, apick, amax, amin, aload, headV, aparts, abuildSlice, elParts, abytesStr, astore, amake, aappend, aclear, anew, arith, aresults, aresList, ares, spec0, spec1, spec2, spec3, spec4, eqCells, eqCell, q, hz, OB]
      exact ⟨_, weak_same _, hI.put 8 (by omega) (by simp [cpV, AV.clean, AV.clean1])⟩
    | 9, ho =>
      have ho := Option.some.inj ho
      subst ho
      have q := hI.v 5 (by omega) (hd 5 (by simp))
      have q' := hI.v 8 (by omega) (hd 8 (by simp))
      simp only [cpS, cpV, List.getD_cons_zero, List.getD_cons_succ] at q q'
      simp [aev, gav, alook, litOf, litAV, mget, mhas, acopy, asrc, adst, cav, look, acallPure, abin, abinN, abinP, abinI, abinS, aun, aconv, afield, afieldAddr, aindexAddr, aindex, aslice, alow, ahigh, abuild, abuildGo, cellsOf, splice, fieldTy, alen, apick, amax, amin, aload, headV, aparts, abuildSlice, elParts, abytesStr, astore, amake, aappend, aclear, anew, arith, aresults, aresList, ares, spec0, spec1, spec2, spec3, spec4, eqCells, eqCell, q, q']
      refine ⟨by omega, _, weak_appended 13 _ 1 3 _ (by simp) (Nat.zero_le _) hI.cl (fun b hb => .inl (hdeep b hb)), hI.put 9 (by omega) (by simp [cpV, AV.clean, AV.clean1])⟩
    | 10, ho =>
      have ho := Option.some.inj ho
      subst ho
      simp [aev, gav, alook, litOf, litAV, mget, mhas, acopy, asrc, adst, cav, look, acallPure, abin, abinN, abinP, abinI, abinS, aun, aconv, afield, afieldAddr, aindexAddr, aindex, aslice, alow, ahigh, abuild, abuildGo, cellsOf, splice, fieldTy, alen, apick, amax, amin, aload, headV, aparts, abuildSlice, elParts, abytesStr, astore, amake, aappend, aclear, anew, arith, aresults, aresList, ares, spec0, spec1, spec2, spec3, spec4, eqCells, eqCell]
      exact ⟨_, weak_same _, hI.put 10 (by omega) (by simp [cpV, AV.clean, AV.clean1])⟩
    | 11, ho =>
      have ho := Option.some.inj ho
      subst ho
      simp [aev, gav, alook, litOf, litAV, mget, mhas, acopy, asrc, adst, cav, look, acallPure, abin, abinN, abinP, abinI, abinS, aun, aconv, afield, afieldAddr, aindexAddr, aindex, aslice, alow, ahigh, abuild, abuildGo, cellsOf, splice, fieldTy, alen, apick, amax, amin, aload, headV, aparts, abuildSlice, elParts, abytesStr, astore, amake, aappend, aclear, anew, arith, aresults, aresList, ares, spec0, spec1, spec2, spec3, spec4, eqCells, eqCell, p1]
      exact ⟨_, weak_same _, hI.put 11 (by omega) (by simp [cpV, AV.clean, AV.clean1])⟩
    | 12, ho =>
      have ho := Option.some.inj ho
      subst ho
      have q := hI.v 11 (by omega) (hd 11 (by simp))
      simp only [cpS, cpV, List.getD_cons_zero, List.getD_cons_succ] at q
      simp [aev, gav, alook, litOf, litAV, mget, mhas, acopy, asrc, adst, cav, look, acallPure, abin, abinN, abinP, abinI, abinS, aun, aconv, afield, afieldAddr, aindexAddr, aindex, aslice, alow, ahigh, abuild, abuildGo, cellsOf, splice, fieldTy, alen, apick, amax, amin, aload, headV, aparts, abuildSlice, elParts, abytesStr, astore, amake, aappend, aclear, anew, arith, aresults, aresList, ares, spec0, spec1, spec2, spec3, spec4, eqCells, eqCell, q]
      exact ⟨_, weak_same _, hI.put 12 (by omega) (by simp [cpV, AV.clean, AV.clean1])⟩
    | 13, ho =>
      have ho := Option.some.inj ho
      subst ho
      have q := hI.v 12 (by omega) (hd 12 (by simp))
      simp only [cpS, cpV, List.getD_cons_zero, List.getD_cons_succ] at q
      simp [aev, gav, alook, litOf, litAV, mget, mhas, acopy, asrc, adst, cav, look, acallPure, abin, abinN, abinP, abinI, abinS, aun, aconv, afield, afieldAddr, aindexAddr, aindex, aslice, alow, ahigh, abuild, abuildGo, cellsOf, splice, fieldTy, alen, apick, amax, amin, aload, headV, aparts, abuildSlice, elParts, abytesStr, astore, amake, aappend, aclear, anew, arith, aresults, aresList, ares, spec0, spec1, spec2, spec3, spec4, eqCells, eqCell, q, hz, OB]
      exact ⟨_, weak_same _, hI.put 13 (by omega) (by simp [cpV, AV.clean, AV.clean1])⟩
    | 14, ho =>
      have ho := Option.some.inj ho
      subst ho
      have q := hI.v 10 (by omega) (hd 10 (by simp))
      have q' := hI.v 13 (by omega) (hd 13 (by simp))
      simp only [cpS, cpV, List.getD_cons_zero, List.getD_cons_succ] at q q'
      simp [aev, gav, alook, litOf, litAV, mget, mhas, acopy, asrc, adst, cav, look, acallPure, abin, abinN, abinP, abinI, abinS, aun, aconv, afield, afieldAddr, aindexAddr, aindex, aslice, alow, ahigh, abuild, abuildGo, cellsOf, splice, fieldTy, alen, apick, amax, amin, aload, headV, aparts, abuildSlice, elParts, abytesStr, astore, amake, aappend, aclear, anew, arith, aresults, aresList, ares, spec0, spec1, spec2, spec3, spec4, eqCells, eqCell, q, q']
      refine ⟨by omega, _, weak_appended 18 _ 1 3 _ (by simp) (Nat.zero_le _) hI.cl (fun b hb => .inl (hdeep b hb)), hI.put 14 (by omega) (by simp [cpV, AV.clean, AV.clean1])⟩
    | 15, ho =>
      have ho := Option.some.inj ho
      subst ho
      simp [aev, gav, alook, litOf, litAV, mget, mhas, acopy, asrc, adst, cav, look, acallPure, abin, abinN, abinP, abinI, abinS, aun, aconv, afield, afieldAddr, aindexAddr, aindex, aslice, alow, ahigh, abuild, abuildGo, cellsOf, splice, fieldTy, alen, apick, amax, amin, aload, headV, aparts, abuildSlice, elParts, abytesStr, astore, amake, aappend, aclear, anew, arith, aresults, aresList, ares, spec0, spec1, spec2, spec3, spec4, eqCells, eqCell]
      exact ⟨_, weak_same _, hI.put 15 (by omega) (by simp [cpV, AV.clean, AV.clean1])⟩
    | 16, ho =>
      have ho := Option.some.inj ho
      subst ho
      simp [aev, gav, alook, litOf, litAV, mget, mhas, acopy, asrc, adst, cav, look, acallPure, abin, abinN, abinP, abinI, abinS, aun, aconv, afield, afieldAddr, aindexAddr, aindex, aslice, alow, ahigh, abuild, abuildGo, cellsOf, splice, fieldTy, alen, apick, amax, amin, aload, headV, aparts, abuildSlice, elParts, abytesStr, astore, amake, aappend, aclear, anew, arith, aresults, aresList, ares, spec0, spec1, spec2, spec3, spec4, eqCells, eqCell, p1]
      exact ⟨_, weak_same _, hI.put 16 (by omega) (by simp [cpV, AV.clean, AV.clean1])⟩
    | 17, ho =>
      have ho := Option.some.inj ho
      subst ho
      have q := hI.v 16 (by omega) (hd 16 (by simp))
      simp only [cpS, cpV, List.getD_cons_zero, List.getD_cons_succ] at q
      simp [aev, gav, alook, litOf, litAV, mget, mhas, acopy, asrc, adst, cav, look, acallPure, abin, abinN, abinP, abinI, abinS, aun, aconv, afield, afieldAddr, aindexAddr, aindex, aslice, alow, ahigh, abuild, abuildGo, cellsOf, splice, fieldTy, alen, apick, amax, amin, aload, headV, aparts, abuildSlice, elParts, abytesStr, astore, amake, aappend, aclear, anew, arith, aresults, aresList, ares, spec0, spec1, spec2, spec3, spec4, eqCells, eqCell, q]
      exact ⟨_, weak_same _, hI.put 17 (by omega) (by simp [cpV, AV.clean, AV.clean1])⟩
    | 18, ho =>
      have ho := Option.some.inj ho
      subst ho
      have q := hI.v 17 (by omega) (hd 17 (by simp))
      simp only [cpS, cpV, List.getD_cons_zero, List.getD_cons_succ] at q
      simp [aev, gav, alook, litOf, litAV, mget, mhas, acopy, asrc, adst, cav, look, acallPure, abin, abinN, abinP, abinI, abinS, aun, aconv, afield, afieldAddr, aindexAddr, aindex, aslice, alow, ahigh, abuild, abuildGo, cellsOf, splice, fieldTy, alen, apick, amax, amin, aload, headV, aparts, abuildSlice, elParts, abytesStr, astore, amake, aappend, aclear, anew, arith, aresults, aresList, ares, spec0, spec1, spec2, spec3, spec4, eqCells, eqCell, q, hz, OB]
      exact ⟨_, weak_same _, hI.put 18 (by omega) (by simp [cpV, AV.clean, AV.clean1])⟩
    | 19, ho =>
      have ho := Option.some.inj ho
      subst ho
      have q := hI.v 15 (by omega) (hd 15 (by simp))
      have q' := hI.v 18 (by omega) (hd 18 (by simp))
      simp only [cpS, cpV, List.getD_cons_zero, List.getD_cons_succ] at q q'
      simp [aev, gav, alook, litOf, litAV, mget, mhas, acopy, asrc, adst, cav, look, acallPure, abin, abinN, abinP, abinI, abinS, aun, aconv, afield, afieldAddr, aindexAddr, aindex, aslice, alow, ahigh, abuild, abuildGo, cellsOf, splice, fieldTy, alen, apick, amax, amin, aload, headV, aparts, abuildSlice, elParts, abytesStr, astore, amake, aappend, aclear, anew, arith, aresults, aresList, ares, spec0, spec1, spec2, spec3, spec4, eqCells, eqCell, q, q']
      refine ⟨by omega, _, weak_appended 23 _ 1 3 _ (by simp) (Nat.zero_le _) hI.cl (fun b hb => .inl (hdeep b hb)), hI.put 19 (by omega) (by simp [cpV, AV.clean, AV.clean1])⟩
    | 20, ho =>
      have ho := Option.some.inj ho
      subst ho
      have q0 := hI.v 4 (by omega) (hd 4 (by simp))
      have q1 := hI.v 9 (by omega) (hd 9 (by simp))
      have q2 := hI.v 14 (by omega) (hd 14 (by simp))
      have q3 := hI.v 19 (by omega) (hd 19 (by simp))
      simp only [cpS, cpV, List.getD_cons_zero, List.getD_cons_succ] at q0 q1 q2 q3
      simp [aev, gav, alook, litOf, litAV, mget, mhas, acopy, asrc, adst, cav, look, acallPure, abin, abinN, abinP, abinI, abinS, aun, aconv, afield, afieldAddr, aindexAddr, aindex, aslice, alow, ahigh, abuild, abuildGo, cellsOf, splice, fieldTy, alen, apick, amax, amin, aload, headV, aparts, abuildSlice, elParts, abytesStr, astore, amake, aappend, aclear, anew, arith, aresults, aresList, ares, spec0, spec1, spec2, spec3, spec4, eqCells, eqCell, q0, q1, q2, q3]
      exact ⟨_, weak_same _, hI.put 20 (by omega) (by simp [cpV, AV.clean, AV.clean1])⟩
    | 21, ho =>
      have ho := Option.some.inj ho
      subst ho
      have n22 : L 22 = false := by
        cases h : L 22 with
        | false => rfl
        | true => have := hI.d h; rw [hLi] at this; cases this
      have hH := hI.h
      simp only [hLi] at hH
      have hH : H = [OB o, Z0] := hH
      subst hH
      simp [aev, gav, alook, litOf, litAV, mget, mhas, acopy, asrc, adst, cav, look, acallPure, abin, abinN, abinP, abinI, abinS, aun, aconv, afield, afieldAddr, aindexAddr, aindex, aslice, alow, ahigh, abuild, abuildGo, cellsOf, splice, fieldTy, alen, apick, amax, amin, aload, headV, aparts, abuildSlice, elParts, abytesStr, astore, amake, aappend, aclear, anew, arith, aresults, aresList, ares, spec0, spec1, spec2, spec3, spec4, eqCells, eqCell]
      refine ⟨_, weak_same _, ⟨?_, ?_, fun j hj hL => ?_, fun p hp => ?_, fun _ => ?_, ?_⟩⟩
      · simpa [getA_cons] using hI.p1
      · simpa [getA_cons] using hI.p2
      · by_cases e : j = 21
        · subst e; rfl
        · have := hI.v j hj (by simpa [e] using hL)
          have ne : ¬ 3 = cpS j := cpS_ne 21 (by omega) j hj fun h => e h.symm
          simp only at this ⊢
          rw [getA_cons, if_neg ne]
          exact this
      · rcases List.mem_cons.1 hp with rfl | hp
        · simp [AV.clean, AV.clean1]
        · exact clean_mono (by simp) (hI.cl p hp)
      · simp
      · simp [n22, cpH, ZC]
    | 22, ho =>
      have ho := Option.some.inj ho
      subst ho
      have h21 := hd 21 (by simp)
      have q0 := hI.v 20 (by omega) (hd 20 (by simp))
      have q1 := hI.v 21 (by omega) h21
      simp only [cpS, cpV, List.getD_cons_zero, List.getD_cons_succ] at q0 q1
      have hH := hI.h
      simp only [hLi, h21] at hH
      have hH : H = [OB o, Z0, ZC] := hH
      subst hH
      simp [aev, gav, alook, litOf, litAV, mget, mhas, acopy, asrc, adst, cav, look, acallPure, abin, abinN, abinP, abinI, abinS, aun, aconv, afield, afieldAddr, aindexAddr, aindex, aslice, alow, ahigh, abuild, abuildGo, cellsOf, splice, fieldTy, alen, apick, amax, amin, aload, headV, aparts, abuildSlice, elParts, abytesStr, astore, amake, aappend, aclear, anew, arith, aresults, aresList, ares, spec0, spec1, spec2, spec3, spec4, eqCells, eqCell, q0, q1, ZC]
      refine ⟨_, weak_same _, ⟨hI.p1, hI.p2, fun j hj hL => hI.v j hj ?_, fun p hp => hI.cl p hp, fun _ => ?_, ?_⟩⟩
      · have : j ≠ 22 := by omega
        simpa [this] using hL
      · simp [h21]
      · simp [h21, cpH, WC]
  · intro L st' hI hall
    obtain ⟨ρ, H⟩ := st'
    have h21 := hall 21 (by simp)
    have h22 := hall 22 (by simp)
    have hH := hI.h
    simp only [h21, h22] at hH
    have hH : H = [OB o, Z0, WC o true] := hH
    subst hH
    have q := hI.v 21 (by omega) h21
    have p1 := hI.p1
    have p2 := hI.p2
    simp only [cpS, cpV, List.getD_cons_zero, List.getD_cons_succ] at q p1 p2
    simp only [goOn]
    refine AW.weak (weak_slots (ρ' := [(1, .ptr 0 1 6 0 0), (2, .ptr 1 1 6 0 0), (3, .ptr 2 1 4 0 0)]) (by simp [q, p1, p2])) ?_
    unfold WC OB Z0
    refine AW_regionF sigCE mixCE [.read, .read, .pure, .read, .eff, .read, .pure, .read, .eff, .pure, .eff] [[],[],[],[2],[2,3,1],[],[],[6],[1,3,2,4,6,7,5],[5,7,6,8,1,3,2,4,0],[0,4,2,3,1,8,6,7,5,9]] (by kernel_rfl) (by kernel_rfl) (by kernel_rfl) (by kernel_rfl) ?_
    simp [aev, gav, alook, litOf, litAV, mget, mhas, acopy, asrc, adst, cav, look, acallPure, abin, abinN, abinP, abinI, abinS, aun, aconv, afield, afieldAddr, aindexAddr, aindex, aslice, alow, ahigh, abuild, abuildGo, cellsOf, splice, fieldTy, alen, apick, amax, amin, aload, headV, aparts, abuildSlice, elParts, abytesStr, astore, amake, aappend, aclear, anew, arith, aresults, aresList, ares, spec0, spec1, spec2, spec3, spec4, eqCells, eqCell]
    omega
  · intro L L' st' h
    have : L = L' := funext h
    subst this
    exact id
end Go.Proofs.Ytkhgjbjkjefeoaa


/-
  overlay: New, both sides.
-/
namespace Go.Proofs.Ytkhgjbjkjefeoaa
open Go.RowKit
set_option linter.unusedSimpArgs false
set_option linter.unusedVariables false
set_option maxRecDepth 100000

def ovZ : Ov := ⟨⟨[], [], [], []⟩, [], []⟩
def ovC (c : Col) : Ov := ⟨c, [], []⟩
noncomputable def newO (c : Col) : Ov × Int := if vcB c then (ovC c, 0) else (ovZ, 1)
noncomputable def sNew : List AV → Option (Prop × AV) := spec1 LenC (fun c => .tup [Enc.enc (newO c).1, .int .i64 (newO c).2])
noncomputable def CNp : Ctx := mkC Try.prog G0 [(51, .pure sValC), (33, .gen (genNew nCloneO))]
@[simp] theorem CNp_P : CNp.P = Try.prog := rfl
@[simp] theorem CNp_G : CNp.G = G0 := rfl
@[simp] theorem CNp_1 : CNp.S 51 = .pure sValC := rfl
@[simp] theorem CNp_2 : CNp.S 33 = .gen (genNew nCloneO) := rfl
theorem mixCNp : CNp.P.follows .mixedOrders = true := mixed
theorem sigCNp : SigOK CNp := sigOK_cons (entryPure (validCP) Try.func51 rfl (by decide)) (sigOK_cons (entryGen (cloneO) Try.func33 rfl (by decide)) (sigOK_nil _ _))
noncomputable def CNr : Ctx := mkC Try.prog G0 [(53, .pure sValC), (44, .pure sCopied)]
@[simp] theorem CNr_P : CNr.P = Try.prog := rfl
@[simp] theorem CNr_G : CNr.G = G0 := rfl
@[simp] theorem CNr_1 : CNr.S 53 = .pure sValC := rfl
@[simp] theorem CNr_2 : CNr.S 44 = .pure sCopied := rfl
theorem mixCNr : CNr.P.follows .mixedOrders = true := mixed
theorem sigCNr : SigOK CNr := sigOK_cons (entryPure (validCR) Try.func53 rfl (by decide)) (sigOK_cons (entryPure (copiedR) Try.func44 rfl (by decide)) (sigOK_nil _ _))
set_option maxHeartbeats 16000000 in
theorem newP : PureOK Try.prog G0 19 sNew := by
  refine pureH1 (C := CNp) sigCNp mixCNp Try.func19 rfl rfl rfl [] (by kernel_rfl) (by decide) (fun c hl => ?_)
  by_cases hv : ValidC c
  · have vb : vcB c = true := vcB_true.2 hv
    have hlo : LenO (ovC c) := ⟨hl, by simp [ovC, Len], by simp [ovC, Len]⟩
    have hlo' : LenO { Base := c, Adds := [], Dels := [] } := hlo
    have e : newO c = (ovC c, 0) := by unfold newO; rw [vb]; rfl
    rw [e]
    simp [aev, gav, alook, litOf, litAV, mget, mhas, acopy, asrc, adst, cav, look, acallPure, abin, abinN, abinP, abinI, abinS, aun, aconv, afield, afieldAddr, aindexAddr, aindex, aslice, alow, ahigh, abuild, abuildGo, cellsOf, splice, fieldTy, alen, apick, amax, amin, aload, headV, aparts, abuildSlice, elParts, abytesStr, astore, amake, aappend, aclear, anew, arith, aresults, aresList, ares, spec0, spec1, spec2, spec3, spec4, eqCells, eqCell, sValC, hl, vb, nCloneO, ovC, hlo', cloV, cloB, bI, bA]
  · have vb : vcB c = false := vcB_false.2 hv
    have e : newO c = (ovZ, 1) := by unfold newO; rw [vb]; rfl
    rw [e]
    simp [aev, gav, alook, litOf, litAV, mget, mhas, acopy, asrc, adst, cav, look, acallPure, abin, abinN, abinP, abinI, abinS, aun, aconv, afield, afieldAddr, aindexAddr, aindex, aslice, alow, ahigh, abuild, abuildGo, cellsOf, splice, fieldTy, alen, apick, amax, amin, aload, headV, aparts, abuildSlice, elParts, abytesStr, astore, amake, aappend, aclear, anew, arith, aresults, aresList, ares, spec0, spec1, spec2, spec3, spec4, eqCells, eqCell, sValC, hl, vb, ovZ]
set_option maxHeartbeats 16000000 in
theorem newR : PureOK Try.prog G0 20 sNew := by
  refine pureH1 (C := CNr) sigCNr mixCNr Try.func20 rfl rfl rfl [] (by kernel_rfl) (by decide) (fun c hl => ?_)
  by_cases hv : ValidC c
  · have vb : vcB c = true := vcB_true.2 hv
    have hlo : LenO (ovC c) := ⟨hl, by simp [ovC, Len], by simp [ovC, Len]⟩
    have hlo' : LenO { Base := c, Adds := [], Dels := [] } := hlo
    have e : newO c = (ovC c, 0) := by unfold newO; rw [vb]; rfl
    rw [e]
    simp [aev, gav, alook, litOf, litAV, mget, mhas, acopy, asrc, adst, cav, look, acallPure, abin, abinN, abinP, abinI, abinS, aun, aconv, afield, afieldAddr, aindexAddr, aindex, aslice, alow, ahigh, abuild, abuildGo, cellsOf, splice, fieldTy, alen, apick, amax, amin, aload, headV, aparts, abuildSlice, elParts, abytesStr, astore, amake, aappend, aclear, anew, arith, aresults, aresList, ares, spec0, spec1, spec2, spec3, spec4, eqCells, eqCell, sValC, hl, vb, sCopied, ovC, hlo']
  · have vb : vcB c = false := vcB_false.2 hv
    have e : newO c = (ovZ, 1) := by unfold newO; rw [vb]; rfl
    rw [e]
    simp [aev, gav, alook, litOf, litAV, mget, mhas, acopy, asrc, adst, cav, look, acallPure, abin, abinN, abinP, abinI, abinS, aun, aconv, afield, afieldAddr, aindexAddr, aindex, aslice, alow, ahigh, abuild, abuildGo, cellsOf, splice, fieldTy, alen, apick, amax, amin, aload, headV, aparts, abuildSlice, elParts, abytesStr, astore, amake, aappend, aclear, anew, arith, aresults, aresList, ares, spec0, spec1, spec2, spec3, spec4, eqCells, eqCell, sValC, hl, vb, ovZ]
end Go.Proofs.Ytkhgjbjkjefeoaa


/-
  overlay: without, the law's base and more.
-/
namespace Go.Proofs.Ytkhgjbjkjefeoaa
open Go.RowKit
set_option linter.unusedSimpArgs false
set_option linter.unusedVariables false
set_option maxRecDepth 100000

def neI (v x : Int) : Bool := decide (x ≠ v)
def outI (l : List Int) (v : Int) : List Int := l.filter (neI v)
def sWithout : List AV → Option (Prop × AV) := spec2 (fun (l : List Int) (_ : Int) => Len l) (fun l v => Enc.enc (outI l v))
theorem filtI_succ {p : Int → Bool} {l : List Int} {k : Nat} (hk : k < l.length) : (l.take (k + 1)).filter p = if p (ix l k) then (l.take k).filter p ++ [ix l k] else (l.take k).filter p := by
  rw [List.take_succ_eq_append_getElem hk, List.filter_append, ix_lt hk]
  split
  · rename_i h; simp [h]
  · rename_i h; simp [h]
set_option maxHeartbeats 16000000 in
theorem withoutR : PureOK Try.prog G0 45 sWithout := by
  refine pureH2 (C := CE) sigCE mixCE Try.func45 rfl rfl rfl [] (by kernel_rfl) (by decide) (fun l v hl => ?_)
  obtain ⟨r, hr⟩ : ∃ r, outI l v = r := ⟨_, rfl⟩
  rw [hr]
  unfold Len at hl
  simp [aev, gav, alook, litOf, litAV, mget, mhas, acopy, asrc, adst, cav, look, acallPure, abin, abinN, abinP, abinI, abinS, aun, aconv, afield, afieldAddr, aindexAddr, aindex, aslice, alow, ahigh, abuild, abuildGo, cellsOf, splice, fieldTy, alen, apick, amax, amin, aload, headV, aparts, abuildSlice, elParts, abytesStr, astore, amake, aappend, aclear, anew, arith, aresults, aresList, ares, spec0, spec1, spec2, spec3, spec4, eqCells, eqCell]
  refine AW.weak (weak_nil 5 1 3 rfl (by decide)) ?_
  unfold outI at hr
  refine loop_ruleH (C := CE) sigCE mixCE [] (fun q : Nat => ⟨[(0, Enc.enc l), (1, .int .i64 v), (5, .own 0 ((l.take q).filter (neI v)).length), (6, .int .i64 q)], [bI ((l.take q).filter (neI v))]⟩) (fun q => q ≤ l.length) (fun q => l.length - q) (by kernel_rfl) ⟨0, by omega, weak_eq (by simp) (by simp [bI])⟩ (fun k hk => ?_)
  have hfl : ((l.take k).filter (neI v)).length ≤ 2000000000 := by
    have := List.length_filter_le (neI v) (l.take k)
    rw [List.length_take] at this
    omega
  by_cases hlt : k < l.length
  · have i1 : I64 ((k : Int) + 1) := by unfold I64; omega
    have hsx := filtI_succ (p := neI v) hlt
    by_cases hd : ix l k = v
    · have hkp : neI v (ix l k) = false := by unfold neI; simp [hd]
      rw [hkp] at hsx
      simp only [Bool.false_eq_true, if_false] at hsx
      simp [aev, gav, alook, litOf, litAV, mget, mhas, acopy, asrc, adst, cav, look, acallPure, abin, abinN, abinP, abinI, abinS, aun, aconv, afield, afieldAddr, aindexAddr, aindex, aslice, alow, ahigh, abuild, abuildGo, cellsOf, splice, fieldTy, alen, apick, amax, amin, aload, headV, aparts, abuildSlice, elParts, abytesStr, astore, amake, aappend, aclear, anew, arith, aresults, aresList, ares, spec0, spec1, spec2, spec3, spec4, eqCells, eqCell, bI, hlt, rowAt_enc hlt, hd, i1]
      exact ⟨k + 1, by omega, by omega, weak_eq (by simp [hsx]) (by simp [bI, hsx])⟩
    · have hkp : neI v (ix l k) = true := by unfold neI; simp [hd]
      rw [hkp] at hsx
      simp only [if_true] at hsx
      simp [aev, gav, alook, litOf, litAV, mget, mhas, acopy, asrc, adst, cav, look, acallPure, abin, abinN, abinP, abinI, abinS, aun, aconv, afield, afieldAddr, aindexAddr, aindex, aslice, alow, ahigh, abuild, abuildGo, cellsOf, splice, fieldTy, alen, apick, amax, amin, aload, headV, aparts, abuildSlice, elParts, abytesStr, astore, amake, aappend, aclear, anew, arith, aresults, aresList, ares, spec0, spec1, spec2, spec3, spec4, eqCells, eqCell, bI, hlt, rowAt_enc hlt, hd, i1]
      refine ⟨by omega, k + 1, by omega, by omega, weak_eq (by simp [hsx]) ?_⟩
      rw [hsx]
  · have hkk : k = l.length := by omega
    subst hkk
    rw [List.take_length] at hfl ⊢
    simp [aev, gav, alook, litOf, litAV, mget, mhas, acopy, asrc, adst, cav, look, acallPure, abin, abinN, abinP, abinI, abinS, aun, aconv, afield, afieldAddr, aindexAddr, aindex, aslice, alow, ahigh, abuild, abuildGo, cellsOf, splice, fieldTy, alen, apick, amax, amin, aload, headV, aparts, abuildSlice, elParts, abytesStr, astore, amake, aappend, aclear, anew, arith, aresults, aresList, ares, spec0, spec1, spec2, spec3, spec4, eqCells, eqCell, bI, hlt, hr]

def baseC : Col := ⟨[1], [0, 2], [2, 3], [5, 4]⟩
set_option maxHeartbeats 16000000 in
theorem baseL : PureOK Try.prog G0 29 (spec0 (Enc.enc baseC)) := by
  refine pureH0 (C := CE) sigCE mixCE Try.func29 rfl rfl rfl [] (by kernel_rfl) ?_
  simp [aev, gav, alook, litOf, litAV, mget, mhas, acopy, asrc, adst, cav, look, acallPure, abin, abinN, abinP, abinI, abinS, aun, aconv, afield, afieldAddr, aindexAddr, aindex, aslice, alow, ahigh, abuild, abuildGo, cellsOf, splice, fieldTy, alen, apick, amax, amin, aload, headV, aparts, abuildSlice, elParts, abytesStr, astore, amake, aappend, aclear, anew, arith, aresults, aresList, ares, spec0, spec1, spec2, spec3, spec4, eqCells, eqCell, baseC]
def neA (x y : Adj) : Bool := decide (y ≠ x)
def MoreA (a b : List Adj) (x : Adj) : Prop := a.length = b.length + 1 ∧ (∀ i, i + 1 < a.length → LtA (ix a i) (ix a (i + 1))) ∧ a.filter (neA x) = b
open Classical in
noncomputable def moreB (a b : List Adj) (x : Adj) : Bool := decide (MoreA a b x)
open Classical in
theorem moreB_true {a b : List Adj} {x : Adj} (h : MoreA a b x) : moreB a b x = true := decide_eq_true h
open Classical in
theorem moreB_false {a b : List Adj} {x : Adj} (h : ¬ MoreA a b x) : moreB a b x = false := decide_eq_false h
noncomputable def sMore : List AV → Option (Prop × AV) := spec3 (fun (a b : List Adj) (_ : Adj) => Len a ∧ Len b) (fun a b x => .bool (moreB a b x))
theorem filt_take {p : Adj → Bool} {a b : List Adj} (h : a.filter p = b) (k : Nat) : (a.take k).filter p = b.take ((a.take k).filter p).length := by
  subst h
  conv => rhs; rw [← List.take_append_drop k a]
  rw [List.filter_append]
  simp
theorem filt_at {p : Adj → Bool} {a b : List Adj} (h : a.filter p = b) {k : Nat} (hk : k < a.length) (hp : p (ix a k) = true) : ((a.take k).filter p).length < b.length ∧ ix b ((a.take k).filter p).length = ix a k := by
  have e := filt_take h (k + 1)
  rw [filt_succ hk, if_pos hp] at e
  have hl : ((a.take k).filter p).length + 1 ≤ b.length := by
    have := congrArg List.length e
    simp only [List.length_append, List.length_singleton, List.length_take] at this
    omega
  refine ⟨by omega, ?_⟩
  have e' := congrArg (fun l => l[((a.take k).filter p).length]?) e
  simp only [List.length_append, List.length_singleton] at e'
  rw [List.getElem?_append_right (Nat.le_refl _), List.getElem?_take, if_pos (by omega)] at e'
  simp only [Nat.sub_self, List.getElem?_cons_zero] at e'
  rw [ix_lt (by omega)]
  have := List.getElem?_eq_some_iff.1 e'.symm
  exact this.2
noncomputable def CMo : Ctx := mkC Try.prog G0 [(52, .pure sLt)]
@[simp] theorem CMo_P : CMo.P = Try.prog := rfl
@[simp] theorem CMo_G : CMo.G = G0 := rfl
@[simp] theorem CMo_1 : CMo.S 52 = .pure sLt := rfl
theorem mixCMo : CMo.P.follows .mixedOrders = true := mixed
theorem sigCMo : SigOK CMo := sigOK_cons (entryPure (ltS) Try.func52 rfl (by decide)) (sigOK_nil _ _)
set_option maxHeartbeats 16000000 in
theorem moreL : PureOK Try.prog G0 18 sMore := by
  refine pureH3 (C := CMo) sigCMo mixCMo Try.func18 rfl rfl rfl [7, 9, 10] (by kernel_rfl) (by decide) (fun a b x hl => ?_)
  obtain ⟨la, lb⟩ := hl
  unfold Len at la lb
  obtain ⟨r, hr⟩ : ∃ r, moreB a b x = r := ⟨_, rfl⟩
  rw [hr]
  have yes : MoreA a b x → r = true := fun h => hr ▸ moreB_true h
  have no : ¬ MoreA a b x → r = false := fun h => hr ▸ moreB_false h
  have i0 : I64 ((b.length : Int) + 1) := by unfold I64; omega
  by_cases h0 : a.length = b.length + 1
  case neg =>
    have hr0 := no fun h => h0 h.1
    have h0' : ¬ (a.length : Int) = b.length + 1 := by omega
    simp [aev, gav, alook, litOf, litAV, mget, mhas, acopy, asrc, adst, cav, look, acallPure, abin, abinN, abinP, abinI, abinS, aun, aconv, afield, afieldAddr, aindexAddr, aindex, aslice, alow, ahigh, abuild, abuildGo, cellsOf, splice, fieldTy, alen, apick, amax, amin, aload, headV, aparts, abuildSlice, elParts, abytesStr, astore, amake, aappend, aclear, anew, arith, aresults, aresList, ares, spec0, spec1, spec2, spec3, spec4, eqCells, eqCell, i0, h0', hr0]
  have h0' : (a.length : Int) = b.length + 1 := by omega
  simp [aev, gav, alook, litOf, litAV, mget, mhas, acopy, asrc, adst, cav, look, acallPure, abin, abinN, abinP, abinI, abinS, aun, aconv, afield, afieldAddr, aindexAddr, aindex, aslice, alow, ahigh, abuild, abuildGo, cellsOf, splice, fieldTy, alen, apick, amax, amin, aload, headV, aparts, abuildSlice, elParts, abytesStr, astore, amake, aappend, aclear, anew, arith, aresults, aresList, ares, spec0, spec1, spec2, spec3, spec4, eqCells, eqCell, i0, h0']
  refine loop_ruleH (C := CMo) sigCMo mixCMo [7, 9, 10] (fun q : Nat => ⟨[(0, Enc.enc a), (1, Enc.enc b), (5, .ptr 0 1 3 0 0), (7, .int .i64 ((a.take q).filter (neA x)).length), (8, .int .i64 q)], [⟨29, 3, [[.int .i64 x.From, .int .i64 x.To, .int .i64 x.Edge]], true, true⟩]⟩) (fun q => q ≤ a.length ∧ (∀ i, i + 1 < q → LtA (ix a i) (ix a (i + 1))) ∧ (a.take q).filter (neA x) = b.take ((a.take q).filter (neA x)).length) (fun q => a.length - q) (by kernel_rfl) ⟨0, ⟨by omega, fun i hi => by omega, by simp⟩, weak_eq (by simp) (by simp)⟩ (fun k ⟨hk, hs, hf⟩ => ?_)
  by_cases hlt : k < a.length
  · have i1 : I64 ((k : Int) + 1) := by unfold I64; omega
    have hsx := filt_succ (p := neA x) hlt
    have hfl : ((a.take k).filter (neA x)).length ≤ k := by
      have := List.length_filter_le (neA x) (a.take k)
      rw [List.length_take] at this
      omega
    obtain ⟨m, hm⟩ : ∃ m, ((a.take k).filter (neA x)).length = m := ⟨_, rfl⟩
    rw [hm] at hf hfl ⊢
    have i2 : I64 ((m : Int) + 1) := by unfold I64; omega
    have fin2 : (k = 0 ∨ 0 < k ∧ LtA (ix a (k - 1)) (ix a k)) → ∀ i, i + 1 < k + 1 → LtA (ix a i) (ix a (i + 1)) := by
      intro hc i hi
      rcases Nat.lt_or_eq_of_le (Nat.le_of_lt_succ hi) with h | h
      · exact hs i h
      · rcases hc with hc | ⟨_, hc⟩
        · omega
        · rw [← h] at hc
          simpa using hc
    have hc : k = 0 ∨ (0 < k ∧ LtA (ix a (k - 1)) (ix a k)) ∨ (0 < k ∧ ¬ LtA (ix a (k - 1)) (ix a k)) := by
      by_cases h1 : k = 0
      · exact .inl h1
      · by_cases h2 : LtA (ix a (k - 1)) (ix a k)
        · exact .inr (.inl ⟨by omega, h2⟩)
        · exact .inr (.inr ⟨by omega, h2⟩)
    simp [aev, gav, alook, litOf, litAV, mget, mhas, acopy, asrc, adst, cav, look, acallPure, abin, abinN, abinP, abinI, abinS, aun, aconv, afield, afieldAddr, aindexAddr, aindex, aslice, alow, ahigh, abuild, abuildGo, cellsOf, splice, fieldTy, alen, apick, amax, amin, aload, headV, aparts, abuildSlice, elParts, abytesStr, astore, amake, aappend, aclear, anew, arith, aresults, aresList, ares, spec0, spec1, spec2, spec3, spec4, eqCells, eqCell, hlt]
    refine AW_regionF sigCMo mixCMo [.pure, .pure, .pure, .pure, .pure, .pure, .pure, .read, .pure, .pure, .pure, .read, .read, .pure, .pure] [[],[0],[0,1],[1,0,2],[1,0,2],[2,0,1,4],[4,5,2,0,1,3],[3,1,0,2,5,4,6],[1,0,2],[1,0,2],[9,2,0,1,8],[8,1,0,2,9,10],[10,9,8,11,6,4,5,2,0,1,3,7],[7,3,1,0,2,5,4,6,11,8,9,10,12],[12,10,9,8,11,6,4,5,3,7,13,1,0,2]] (by kernel_rfl) (by kernel_rfl) (by kernel_rfl) (by kernel_rfl) ?_
    have tail : k = 0 ∨ 0 < k ∧ LtA (ix a (k - 1)) (ix a k) → (ix a k = x ∧ (a.take (k + 1)).filter (neA x) = b.take m) ∨ ix a k ≠ x ∧ (m < b.length ∧ ix a k = ix b m ∧ (a.take (k + 1)).filter (neA x) = b.take (m + 1) ∨ r = false ∧ ¬ (m < b.length ∧ ix a k = ix b m)) := fun _ => by
      by_cases hx : ix a k = x
      · refine .inl ⟨hx, ?_⟩
        rw [hsx, if_neg (by unfold neA; simp [hx])]
        exact hf
      · refine .inr ⟨hx, ?_⟩
        have hp : neA x (ix a k) = true := by unfold neA; simp [hx]
        by_cases hb : m < b.length ∧ ix a k = ix b m
        · refine .inl ⟨hb.1, hb.2, ?_⟩
          rw [hsx, if_pos hp, hf, hb.2, ix_lt hb.1, List.take_succ_eq_append_getElem hb.1]
        · refine .inr ⟨no fun h => hb ?_, hb⟩
          have := filt_at h.2.2 hlt hp
          rw [hm] at this
          exact ⟨this.1, this.2.symm⟩
    rcases hc with hc | hc | hc
    case inr.inr =>
      have hr0 := no fun h => hc.2 (by have := h.2.1 (k - 1) (by omega); rwa [show k - 1 + 1 = k by omega] at this)
      have hk1 : k - 1 < a.length := by omega
      have e1 : ((k : Int) - 1) = ((k - 1 : Nat) : Int) := by omega
      have i3 : I64 ((k - 1 : Nat) : Int) := by unfold I64; omega
      simp [aev, gav, alook, litOf, litAV, mget, mhas, acopy, asrc, adst, cav, look, acallPure, abin, abinN, abinP, abinI, abinS, aun, aconv, afield, afieldAddr, aindexAddr, aindex, aslice, alow, ahigh, abuild, abuildGo, cellsOf, splice, fieldTy, alen, apick, amax, amin, aload, headV, aparts, abuildSlice, elParts, abytesStr, astore, amake, aappend, aclear, anew, arith, aresults, aresList, ares, spec0, spec1, spec2, spec3, spec4, eqCells, eqCell, hlt, rowAt_enc hlt, hc.1, e1, i3, hk1, rowAt_enc hk1, sLt, hc.2, hr0]
    case inl =>
      have tl := tail (.inl hc)
      have fn := fin2 (.inl hc)
      have hk0 : ¬ 0 < k := by omega
      simp [aev, gav, alook, litOf, litAV, mget, mhas, acopy, asrc, adst, cav, look, acallPure, abin, abinN, abinP, abinI, abinS, aun, aconv, afield, afieldAddr, aindexAddr, aindex, aslice, alow, ahigh, abuild, abuildGo, cellsOf, splice, fieldTy, alen, apick, amax, amin, aload, headV, aparts, abuildSlice, elParts, abytesStr, astore, amake, aappend, aclear, anew, arith, aresults, aresList, ares, spec0, spec1, spec2, spec3, spec4, eqCells, eqCell, hlt, hk0]
      refine AW_regionF sigCMo mixCMo [.pure, .pure, .pure, .read, .read, .pure] [[],[],[1,0],[0,1,2],[],[4,2,1,0,3]] (by kernel_rfl) (by kernel_rfl) (by kernel_rfl) (by kernel_rfl) ?_
      rcases tl with ⟨hx, hf'⟩ | ⟨hx, ⟨hb, he, hf'⟩ | ⟨hr0, hnb⟩⟩
      · have hl' : ((a.take (k + 1)).filter (neA x)).length = m := by
          rw [hsx, if_neg (by unfold neA; simp [hx])]
          exact hm
        simp [aev, gav, alook, litOf, litAV, mget, mhas, acopy, asrc, adst, cav, look, acallPure, abin, abinN, abinP, abinI, abinS, aun, aconv, afield, afieldAddr, aindexAddr, aindex, aslice, alow, ahigh, abuild, abuildGo, cellsOf, splice, fieldTy, alen, apick, amax, amin, aload, headV, aparts, abuildSlice, elParts, abytesStr, astore, amake, aappend, aclear, anew, arith, aresults, aresList, ares, spec0, spec1, spec2, spec3, spec4, eqCells, eqCell, hlt, rowAt_enc hlt, adj_beq, hx, i1]
        exact ⟨k + 1, ⟨by omega, fn, by rw [hl', hf']⟩, by omega, weak_eq (by simp [hl']) (by simp)⟩
      · simp [aev, gav, alook, litOf, litAV, mget, mhas, acopy, asrc, adst, cav, look, acallPure, abin, abinN, abinP, abinI, abinS, aun, aconv, afield, afieldAddr, aindexAddr, aindex, aslice, alow, ahigh, abuild, abuildGo, cellsOf, splice, fieldTy, alen, apick, amax, amin, aload, headV, aparts, abuildSlice, elParts, abytesStr, astore, amake, aappend, aclear, anew, arith, aresults, aresList, ares, spec0, spec1, spec2, spec3, spec4, eqCells, eqCell, hlt, rowAt_enc hlt, adj_beq, hx, i1]
        refine AW_regionF sigCMo mixCMo [.pure, .pure, .pure, .pure, .pure, .pure, .pure, .pure, .read, .pure, .pure, .pure, .read, .pure, .pure] [[],[],[1],[1,2,0],[0,2,1,3],[3,1,2,0,4],[3,1,2,0,4],[6,4,0,2,1,3,5],[5,3,1,2,0,4,6,7],[3,1,2,0,4],[3,1,2,0,4],[10,4,0,2,1,3,9],[9,3,1,2,0,4,10,11],[11,10,9,12,7,6,4,0,2,1,3,5,8],[8,5,6,7,12,9,10,11,13,3,1,2,0,4]] (by kernel_rfl) (by kernel_rfl) (by kernel_rfl) (by kernel_rfl) ?_
        have hb' : ¬ b.length ≤ m := by omega
        have hl' : ((a.take (k + 1)).filter (neA x)).length = m + 1 := by rw [hf', List.length_take]; omega
        simp [aev, gav, alook, litOf, litAV, mget, mhas, acopy, asrc, adst, cav, look, acallPure, abin, abinN, abinP, abinI, abinS, aun, aconv, afield, afieldAddr, aindexAddr, aindex, aslice, alow, ahigh, abuild, abuildGo, cellsOf, splice, fieldTy, alen, apick, amax, amin, aload, headV, aparts, abuildSlice, elParts, abytesStr, astore, amake, aappend, aclear, anew, arith, aresults, aresList, ares, spec0, spec1, spec2, spec3, spec4, eqCells, eqCell, hlt, rowAt_enc hlt, adj_bne, hb, hb', rowAt_enc hb, he, i1, i2]
        exact ⟨k + 1, ⟨by omega, fn, by rw [hl', hf']⟩, by omega, weak_eq (by simp [hl']) (by simp)⟩
      · simp [aev, gav, alook, litOf, litAV, mget, mhas, acopy, asrc, adst, cav, look, acallPure, abin, abinN, abinP, abinI, abinS, aun, aconv, afield, afieldAddr, aindexAddr, aindex, aslice, alow, ahigh, abuild, abuildGo, cellsOf, splice, fieldTy, alen, apick, amax, amin, aload, headV, aparts, abuildSlice, elParts, abytesStr, astore, amake, aappend, aclear, anew, arith, aresults, aresList, ares, spec0, spec1, spec2, spec3, spec4, eqCells, eqCell, hlt, rowAt_enc hlt, adj_beq, hx, i1]
        refine AW_regionF sigCMo mixCMo [.pure, .pure, .pure, .pure, .pure, .pure, .pure, .pure, .read, .pure, .pure, .pure, .read, .pure, .pure] [[],[],[1],[1,2,0],[0,2,1,3],[3,1,2,0,4],[3,1,2,0,4],[6,4,0,2,1,3,5],[5,3,1,2,0,4,6,7],[3,1,2,0,4],[3,1,2,0,4],[10,4,0,2,1,3,9],[9,3,1,2,0,4,10,11],[11,10,9,12,7,6,4,0,2,1,3,5,8],[8,5,6,7,12,9,10,11,13,3,1,2,0,4]] (by kernel_rfl) (by kernel_rfl) (by kernel_rfl) (by kernel_rfl) ?_
        by_cases hb : m < b.length
        · by_cases he : ix a k = ix b m
          · exact absurd ⟨hb, he⟩ hnb
          · have hb' : ¬ b.length ≤ m := by omega
            simp [aev, gav, alook, litOf, litAV, mget, mhas, acopy, asrc, adst, cav, look, acallPure, abin, abinN, abinP, abinI, abinS, aun, aconv, afield, afieldAddr, aindexAddr, aindex, aslice, alow, ahigh, abuild, abuildGo, cellsOf, splice, fieldTy, alen, apick, amax, amin, aload, headV, aparts, abuildSlice, elParts, abytesStr, astore, amake, aappend, aclear, anew, arith, aresults, aresList, ares, spec0, spec1, spec2, spec3, spec4, eqCells, eqCell, hlt, rowAt_enc hlt, adj_bne, hb, hb', rowAt_enc hb, he, i1, i2, hr0]
        · have hb' : b.length ≤ m := by omega
          simp [aev, gav, alook, litOf, litAV, mget, mhas, acopy, asrc, adst, cav, look, acallPure, abin, abinN, abinP, abinI, abinS, aun, aconv, afield, afieldAddr, aindexAddr, aindex, aslice, alow, ahigh, abuild, abuildGo, cellsOf, splice, fieldTy, alen, apick, amax, amin, aload, headV, aparts, abuildSlice, elParts, abytesStr, astore, amake, aappend, aclear, anew, arith, aresults, aresList, ares, spec0, spec1, spec2, spec3, spec4, eqCells, eqCell, hlt, rowAt_enc hlt, hb, hb', hr0]
    case inr.inl =>
      have tl := tail (.inr hc)
      have fn := fin2 (.inr hc)
      have hk1 : k - 1 < a.length := by omega
      have e1 : ((k : Int) - 1) = ((k - 1 : Nat) : Int) := by omega
      have i3 : I64 ((k - 1 : Nat) : Int) := by unfold I64; omega
      simp [aev, gav, alook, litOf, litAV, mget, mhas, acopy, asrc, adst, cav, look, acallPure, abin, abinN, abinP, abinI, abinS, aun, aconv, afield, afieldAddr, aindexAddr, aindex, aslice, alow, ahigh, abuild, abuildGo, cellsOf, splice, fieldTy, alen, apick, amax, amin, aload, headV, aparts, abuildSlice, elParts, abytesStr, astore, amake, aappend, aclear, anew, arith, aresults, aresList, ares, spec0, spec1, spec2, spec3, spec4, eqCells, eqCell, hlt, rowAt_enc hlt, hc.1, e1, i3, hk1, rowAt_enc hk1, sLt, hc.2]
      refine AW_regionF sigCMo mixCMo [.pure, .pure, .pure, .read, .read, .pure] [[],[],[1,0],[0,1,2],[],[4,2,1,0,3]] (by kernel_rfl) (by kernel_rfl) (by kernel_rfl) (by kernel_rfl) ?_
      rcases tl with ⟨hx, hf'⟩ | ⟨hx, ⟨hb, he, hf'⟩ | ⟨hr0, hnb⟩⟩
      · have hl' : ((a.take (k + 1)).filter (neA x)).length = m := by
          rw [hsx, if_neg (by unfold neA; simp [hx])]
          exact hm
        simp [aev, gav, alook, litOf, litAV, mget, mhas, acopy, asrc, adst, cav, look, acallPure, abin, abinN, abinP, abinI, abinS, aun, aconv, afield, afieldAddr, aindexAddr, aindex, aslice, alow, ahigh, abuild, abuildGo, cellsOf, splice, fieldTy, alen, apick, amax, amin, aload, headV, aparts, abuildSlice, elParts, abytesStr, astore, amake, aappend, aclear, anew, arith, aresults, aresList, ares, spec0, spec1, spec2, spec3, spec4, eqCells, eqCell, hlt, rowAt_enc hlt, adj_beq, hx, i1]
        exact ⟨k + 1, ⟨by omega, fn, by rw [hl', hf']⟩, by omega, weak_eq (by simp [hl']) (by simp)⟩
      · simp [aev, gav, alook, litOf, litAV, mget, mhas, acopy, asrc, adst, cav, look, acallPure, abin, abinN, abinP, abinI, abinS, aun, aconv, afield, afieldAddr, aindexAddr, aindex, aslice, alow, ahigh, abuild, abuildGo, cellsOf, splice, fieldTy, alen, apick, amax, amin, aload, headV, aparts, abuildSlice, elParts, abytesStr, astore, amake, aappend, aclear, anew, arith, aresults, aresList, ares, spec0, spec1, spec2, spec3, spec4, eqCells, eqCell, hlt, rowAt_enc hlt, adj_beq, hx, i1]
        refine AW_regionF sigCMo mixCMo [.pure, .pure, .pure, .pure, .pure, .pure, .pure, .pure, .read, .pure, .pure, .pure, .read, .pure, .pure] [[],[],[1],[1,2,0],[0,2,1,3],[3,1,2,0,4],[3,1,2,0,4],[6,4,0,2,1,3,5],[5,3,1,2,0,4,6,7],[3,1,2,0,4],[3,1,2,0,4],[10,4,0,2,1,3,9],[9,3,1,2,0,4,10,11],[11,10,9,12,7,6,4,0,2,1,3,5,8],[8,5,6,7,12,9,10,11,13,3,1,2,0,4]] (by kernel_rfl) (by kernel_rfl) (by kernel_rfl) (by kernel_rfl) ?_
        have hb' : ¬ b.length ≤ m := by omega
        have hl' : ((a.take (k + 1)).filter (neA x)).length = m + 1 := by rw [hf', List.length_take]; omega
        simp [aev, gav, alook, litOf, litAV, mget, mhas, acopy, asrc, adst, cav, look, acallPure, abin, abinN, abinP, abinI, abinS, aun, aconv, afield, afieldAddr, aindexAddr, aindex, aslice, alow, ahigh, abuild, abuildGo, cellsOf, splice, fieldTy, alen, apick, amax, amin, aload, headV, aparts, abuildSlice, elParts, abytesStr, astore, amake, aappend, aclear, anew, arith, aresults, aresList, ares, spec0, spec1, spec2, spec3, spec4, eqCells, eqCell, hlt, rowAt_enc hlt, adj_bne, hb, hb', rowAt_enc hb, he, i1, i2]
        exact ⟨k + 1, ⟨by omega, fn, by rw [hl', hf']⟩, by omega, weak_eq (by simp [hl']) (by simp)⟩
      · simp [aev, gav, alook, litOf, litAV, mget, mhas, acopy, asrc, adst, cav, look, acallPure, abin, abinN, abinP, abinI, abinS, aun, aconv, afield, afieldAddr, aindexAddr, aindex, aslice, alow, ahigh, abuild, abuildGo, cellsOf, splice, fieldTy, alen, apick, amax, amin, aload, headV, aparts, abuildSlice, elParts, abytesStr, astore, amake, aappend, aclear, anew, arith, aresults, aresList, ares, spec0, spec1, spec2, spec3, spec4, eqCells, eqCell, hlt, rowAt_enc hlt, adj_beq, hx, i1]
        refine AW_regionF sigCMo mixCMo [.pure, .pure, .pure, .pure, .pure, .pure, .pure, .pure, .read, .pure, .pure, .pure, .read, .pure, .pure] [[],[],[1],[1,2,0],[0,2,1,3],[3,1,2,0,4],[3,1,2,0,4],[6,4,0,2,1,3,5],[5,3,1,2,0,4,6,7],[3,1,2,0,4],[3,1,2,0,4],[10,4,0,2,1,3,9],[9,3,1,2,0,4,10,11],[11,10,9,12,7,6,4,0,2,1,3,5,8],[8,5,6,7,12,9,10,11,13,3,1,2,0,4]] (by kernel_rfl) (by kernel_rfl) (by kernel_rfl) (by kernel_rfl) ?_
        by_cases hb : m < b.length
        · by_cases he : ix a k = ix b m
          · exact absurd ⟨hb, he⟩ hnb
          · have hb' : ¬ b.length ≤ m := by omega
            simp [aev, gav, alook, litOf, litAV, mget, mhas, acopy, asrc, adst, cav, look, acallPure, abin, abinN, abinP, abinI, abinS, aun, aconv, afield, afieldAddr, aindexAddr, aindex, aslice, alow, ahigh, abuild, abuildGo, cellsOf, splice, fieldTy, alen, apick, amax, amin, aload, headV, aparts, abuildSlice, elParts, abytesStr, astore, amake, aappend, aclear, anew, arith, aresults, aresList, ares, spec0, spec1, spec2, spec3, spec4, eqCells, eqCell, hlt, rowAt_enc hlt, adj_bne, hb, hb', rowAt_enc hb, he, i1, i2, hr0]
        · have hb' : b.length ≤ m := by omega
          simp [aev, gav, alook, litOf, litAV, mget, mhas, acopy, asrc, adst, cav, look, acallPure, abin, abinN, abinP, abinI, abinS, aun, aconv, afield, afieldAddr, aindexAddr, aindex, aslice, alow, ahigh, abuild, abuildGo, cellsOf, splice, fieldTy, alen, apick, amax, amin, aload, headV, aparts, abuildSlice, elParts, abytesStr, astore, amake, aappend, aclear, anew, arith, aresults, aresList, ares, spec0, spec1, spec2, spec3, spec4, eqCells, eqCell, hlt, rowAt_enc hlt, hb, hb', hr0]
  · have hkk : k = a.length := by omega
    subst hkk
    rw [List.take_length] at hf ⊢
    simp [aev, gav, alook, litOf, litAV, mget, mhas, acopy, asrc, adst, cav, look, acallPure, abin, abinN, abinP, abinI, abinS, aun, aconv, afield, afieldAddr, aindexAddr, aindex, aslice, alow, ahigh, abuild, abuildGo, cellsOf, splice, fieldTy, alen, apick, amax, amin, aload, headV, aparts, abuildSlice, elParts, abytesStr, astore, amake, aappend, aclear, anew, arith, aresults, aresList, ares, spec0, spec1, spec2, spec3, spec4, eqCells, eqCell, hlt]
    by_cases he : (a.filter (neA x)).length = b.length
    · rw [yes ⟨h0, hs, by rw [hf, he, List.take_length]⟩]
      simp [he]
    · rw [no fun h => he (by rw [h.2.2])]
      simp
      omega
end Go.Proofs.Ytkhgjbjkjefeoaa


/-
  overlay: Insert of the reference.
-/
namespace Go.Proofs.Ytkhgjbjkjefeoaa
open Go.RowKit
set_option linter.unusedSimpArgs false
set_option linter.unusedVariables false
set_option maxRecDepth 100000

def SmO (o : Ov) : Prop := WfO o ∧ o.Base.To.length ≤ 1000 ∧ o.Adds.length ≤ 1000 ∧ o.Dels.length ≤ 1000
noncomputable def insO (o : Ov) (a : Adj) : Ov × Int :=
  if voB o = false then (ovZ, 19) else if ¬ FormA a then (ovZ, 1) else if HasE (entsO o) a.Edge then (ovZ, 7) else if a ∈ entC o.Base then ({ o with Dels := outI o.Dels a.Edge }, 0) else ({ o with Adds := insA a o.Adds }, 0)
noncomputable def sIns : List AV → Option (Prop × AV) := spec2 (fun (o : Ov) (_ : Adj) => SmO o) (fun o a => .tup [Enc.enc (insO o a).1, .int .i64 (insO o a).2])
theorem kept_small (o : Ov) : (keptO o).length ≤ o.Base.To.length := by
  refine Nat.le_trans (List.length_filter_le _ _) ?_
  unfold entC
  split
  · rename_i h
    rw [unp_len (vcB_true.1 h).s]
    exact Nat.le_refl _
  · exact Nat.zero_le _
noncomputable def CIr : Ctx := mkC Try.prog G0 [(24, .pure sValO), (41, .pure sId), (43, .pure sEnts), (42, .pure sEdge), (44, .pure sCopied), (22, .pure sEntC), (45, .pure sWithout), (46, .pure sWithin)]
@[simp] theorem CIr_P : CIr.P = Try.prog := rfl
@[simp] theorem CIr_G : CIr.G = G0 := rfl
@[simp] theorem CIr_1 : CIr.S 24 = .pure sValO := rfl
@[simp] theorem CIr_2 : CIr.S 41 = .pure sId := rfl
@[simp] theorem CIr_3 : CIr.S 43 = .pure sEnts := rfl
@[simp] theorem CIr_4 : CIr.S 42 = .pure sEdge := rfl
@[simp] theorem CIr_5 : CIr.S 44 = .pure sCopied := rfl
@[simp] theorem CIr_6 : CIr.S 22 = .pure sEntC := rfl
@[simp] theorem CIr_7 : CIr.S 45 = .pure sWithout := rfl
@[simp] theorem CIr_8 : CIr.S 46 = .pure sWithin := rfl
theorem mixCIr : CIr.P.follows .mixedOrders = true := mixed
theorem sigCIr : SigOK CIr := sigOK_cons (entryPure (validOR) Try.func24 rfl (by decide)) (sigOK_cons (entryPure (idS) Try.func41 rfl (by decide)) (sigOK_cons (entryPure (entsR) Try.func43 rfl (by decide)) (sigOK_cons (entryPure (edgeR) Try.func42 rfl (by decide)) (sigOK_cons (entryPure (copiedR) Try.func44 rfl (by decide)) (sigOK_cons (entryPure (entCR) Try.func22 rfl (by decide)) (sigOK_cons (entryPure (withoutR) Try.func45 rfl (by decide)) (sigOK_cons (entryPure (withinR) Try.func46 rfl (by decide)) (sigOK_nil _ _))))))))
set_option maxHeartbeats 16000000 in
theorem insR : PureOK Try.prog G0 11 sIns := by
  refine pureH2 (C := CIr) sigCIr mixCIr Try.func11 rfl rfl rfl [5, 12] (by kernel_rfl) (by decide) (fun o a ho => ?_)
  obtain ⟨hw, s1, s2, s3⟩ := ho
  obtain ⟨r, hr⟩ : ∃ r, insO o a = r := ⟨_, rfl⟩
  rw [hr]
  unfold insO at hr
  cases hv : voB o with
  | false =>
    rw [if_pos hv] at hr
    subst hr
    simp [aev, gav, alook, litOf, litAV, mget, mhas, acopy, asrc, adst, cav, look, acallPure, abin, abinN, abinP, abinI, abinS, aun, aconv, afield, afieldAddr, aindexAddr, aindex, aslice, alow, ahigh, abuild, abuildGo, cellsOf, splice, fieldTy, alen, apick, amax, amin, aload, headV, aparts, abuildSlice, elParts, abytesStr, astore, amake, aappend, aclear, anew, arith, aresults, aresList, ares, spec0, spec1, spec2, spec3, spec4, eqCells, eqCell, sValO, hw, hv, ovZ]
  | true =>
    rw [if_neg (by rw [hv]; decide)] at hr
    by_cases hf : FormA a
    case neg =>
      rw [if_pos hf] at hr
      subst hr
      unfold FormA at hf
      by_cases f1 : IdOK a.From
      case neg => simp [aev, gav, alook, litOf, litAV, mget, mhas, acopy, asrc, adst, cav, look, acallPure, abin, abinN, abinP, abinI, abinS, aun, aconv, afield, afieldAddr, aindexAddr, aindex, aslice, alow, ahigh, abuild, abuildGo, cellsOf, splice, fieldTy, alen, apick, amax, amin, aload, headV, aparts, abuildSlice, elParts, abytesStr, astore, amake, aappend, aclear, anew, arith, aresults, aresList, ares, spec0, spec1, spec2, spec3, spec4, eqCells, eqCell, sValO, hw, hv, sId, f1, ovZ]
      by_cases f2 : IdOK a.To
      case neg => simp [aev, gav, alook, litOf, litAV, mget, mhas, acopy, asrc, adst, cav, look, acallPure, abin, abinN, abinP, abinI, abinS, aun, aconv, afield, afieldAddr, aindexAddr, aindex, aslice, alow, ahigh, abuild, abuildGo, cellsOf, splice, fieldTy, alen, apick, amax, amin, aload, headV, aparts, abuildSlice, elParts, abytesStr, astore, amake, aappend, aclear, anew, arith, aresults, aresList, ares, spec0, spec1, spec2, spec3, spec4, eqCells, eqCell, sValO, hw, hv, sId, f1, f2, ovZ]
      have f3 : ¬ IdOK a.Edge := fun h => hf ⟨f1, f2, h⟩
      simp [aev, gav, alook, litOf, litAV, mget, mhas, acopy, asrc, adst, cav, look, acallPure, abin, abinN, abinP, abinI, abinS, aun, aconv, afield, afieldAddr, aindexAddr, aindex, aslice, alow, ahigh, abuild, abuildGo, cellsOf, splice, fieldTy, alen, apick, amax, amin, aload, headV, aparts, abuildSlice, elParts, abytesStr, astore, amake, aappend, aclear, anew, arith, aresults, aresList, ares, spec0, spec1, spec2, spec3, spec4, eqCells, eqCell, sValO, hw, hv, sId, f1, f2, f3, ovZ]
    rw [if_neg (not_not_intro hf)] at hr
    obtain ⟨f1, f2, f3⟩ := hf
    simp [aev, gav, alook, litOf, litAV, mget, mhas, acopy, asrc, adst, cav, look, acallPure, abin, abinN, abinP, abinI, abinS, aun, aconv, afield, afieldAddr, aindexAddr, aindex, aslice, alow, ahigh, abuild, abuildGo, cellsOf, splice, fieldTy, alen, apick, amax, amin, aload, headV, aparts, abuildSlice, elParts, abytesStr, astore, amake, aappend, aclear, anew, arith, aresults, aresList, ares, spec0, spec1, spec2, spec3, spec4, eqCells, eqCell, sValO, hw, hv, sId, f1, f2, f3]
    have hlo : LenO o := hw.1
    have hlc : LenC o.Base := hlo.1
    have hel : Len (entsO o) := by
      have := ents_len o
      have := kept_small o
      unfold Len
      omega
    refine AW_regionF sigCIr mixCIr [.read, .read, .pure, .read, .read] [[],[0],[],[2],[2,3,0,1]] (by kernel_rfl) (by kernel_rfl) (by kernel_rfl) (by kernel_rfl) ?_
    by_cases he : HasE (entsO o) a.Edge
    · rw [if_pos he] at hr
      subst hr
      simp [aev, gav, alook, litOf, litAV, mget, mhas, acopy, asrc, adst, cav, look, acallPure, abin, abinN, abinP, abinI, abinS, aun, aconv, afield, afieldAddr, aindexAddr, aindex, aslice, alow, ahigh, abuild, abuildGo, cellsOf, splice, fieldTy, alen, apick, amax, amin, aload, headV, aparts, abuildSlice, elParts, abytesStr, astore, amake, aappend, aclear, anew, arith, aresults, aresList, ares, spec0, spec1, spec2, spec3, spec4, eqCells, eqCell, sEnts, hlo, sEdge, hel, he, ovZ]
    rw [if_neg he] at hr
    simp [aev, gav, alook, litOf, litAV, mget, mhas, acopy, asrc, adst, cav, look, acallPure, abin, abinN, abinP, abinI, abinS, aun, aconv, afield, afieldAddr, aindexAddr, aindex, aslice, alow, ahigh, abuild, abuildGo, cellsOf, splice, fieldTy, alen, apick, amax, amin, aload, headV, aparts, abuildSlice, elParts, abytesStr, astore, amake, aappend, aclear, anew, arith, aresults, aresList, ares, spec0, spec1, spec2, spec3, spec4, eqCells, eqCell, sEnts, hlo, sEdge, hel, he, sCopied, sEntC, hlc]
    have hcl : (entC o.Base).length ≤ 1000000000 := entC_len hlc
    generalize entC o.Base = l at *
    refine loop_ruleH (C := CIr) sigCIr mixCIr [5, 12] (fun q : Nat => ⟨[(2, .ptr 0 1 6 0 0), (3, .ptr 1 1 3 0 0), (4, .ptr 2 1 6 0 0), (6, .ptr 3 1 6 0 0), (7, Enc.enc l), (8, .int .i64 q)], [OB o, ⟨29, 3, [[.int .i64 a.From, .int .i64 a.To, .int .i64 a.Edge]], true, true⟩, Z0, OB o]⟩) (fun q => q ≤ l.length ∧ ∀ j, j < q → ix l j ≠ a) (fun q => l.length - q) (by kernel_rfl) ⟨0, ⟨by omega, fun j hj => by omega⟩, weak_eq (by simp) (by simp [OB, Z0])⟩ (fun k ⟨hk, hn⟩ => ?_)
    by_cases hlt : k < l.length
    · have i1 : I64 ((k : Int) + 1) := by unfold I64; omega
      simp [aev, gav, alook, litOf, litAV, mget, mhas, acopy, asrc, adst, cav, look, acallPure, abin, abinN, abinP, abinI, abinS, aun, aconv, afield, afieldAddr, aindexAddr, aindex, aslice, alow, ahigh, abuild, abuildGo, cellsOf, splice, fieldTy, alen, apick, amax, amin, aload, headV, aparts, abuildSlice, elParts, abytesStr, astore, amake, aappend, aclear, anew, arith, aresults, aresList, ares, spec0, spec1, spec2, spec3, spec4, eqCells, eqCell, hlt]
      refine AW_regionF sigCIr mixCIr [.pure, .pure, .pure, .read, .read, .pure] [[],[],[1,0],[0,1,2],[],[4,2,1,0,3]] (by kernel_rfl) (by kernel_rfl) (by kernel_rfl) (by kernel_rfl) ?_
      by_cases hx : ix l k = a
      · have hm : a ∈ l := by rw [← hx, ix_lt hlt]; exact List.getElem_mem hlt
        rw [if_pos hm] at hr
        subst hr
        simp [aev, gav, alook, litOf, litAV, mget, mhas, acopy, asrc, adst, cav, look, acallPure, abin, abinN, abinP, abinI, abinS, aun, aconv, afield, afieldAddr, aindexAddr, aindex, aslice, alow, ahigh, abuild, abuildGo, cellsOf, splice, fieldTy, alen, apick, amax, amin, aload, headV, aparts, abuildSlice, elParts, abytesStr, astore, amake, aappend, aclear, anew, arith, aresults, aresList, ares, spec0, spec1, spec2, spec3, spec4, eqCells, eqCell, hlt, rowAt_enc hlt, adj_beq, hx, OB, Z0, sWithout, hlo.2.2]
      · simp [aev, gav, alook, litOf, litAV, mget, mhas, acopy, asrc, adst, cav, look, acallPure, abin, abinN, abinP, abinI, abinS, aun, aconv, afield, afieldAddr, aindexAddr, aindex, aslice, alow, ahigh, abuild, abuildGo, cellsOf, splice, fieldTy, alen, apick, amax, amin, aload, headV, aparts, abuildSlice, elParts, abytesStr, astore, amake, aappend, aclear, anew, arith, aresults, aresList, ares, spec0, spec1, spec2, spec3, spec4, eqCells, eqCell, hlt, rowAt_enc hlt, adj_beq, hx, OB, Z0, i1]
        refine ⟨k + 1, ⟨by omega, fun j hj => ?_⟩, by omega, weak_eq (by simp) (by simp)⟩
        rcases Nat.lt_or_eq_of_le (Nat.le_of_lt_succ hj) with h | rfl
        · exact hn j h
        · exact hx
    · have hm : ¬ a ∈ l := by
        intro h
        obtain ⟨j, hj, e⟩ := List.mem_iff_getElem.1 h
        exact hn j (by omega) (by rw [ix_lt hj]; exact e)
      rw [if_neg hm] at hr
      subst hr
      have hal : o.Adds.length ≤ 2000000000 := by omega
      simp [aev, gav, alook, litOf, litAV, mget, mhas, acopy, asrc, adst, cav, look, acallPure, abin, abinN, abinP, abinI, abinS, aun, aconv, afield, afieldAddr, aindexAddr, aindex, aslice, alow, ahigh, abuild, abuildGo, cellsOf, splice, fieldTy, alen, apick, amax, amin, aload, headV, aparts, abuildSlice, elParts, abytesStr, astore, amake, aappend, aclear, anew, arith, aresults, aresList, ares, spec0, spec1, spec2, spec3, spec4, eqCells, eqCell, hlt, OB, Z0, sWithin, hal]
end Go.Proofs.Ytkhgjbjkjefeoaa


/-
  overlay: Delete of the reference.
-/
namespace Go.Proofs.Ytkhgjbjkjefeoaa
open Go.RowKit
set_option linter.unusedSimpArgs false
set_option linter.unusedVariables false
set_option maxRecDepth 100000

/-- a, ahead of the first that is greater. -/
def insI (a : Int) : List Int → List Int
  | [] => [a]
  | b :: r => if a < b then a :: b :: r else b :: insI a r
theorem insI_perm (a : Int) : ∀ l, (insI a l).Perm (a :: l)
  | [] => .refl _
  | b :: r => by
    unfold insI
    split
    · exact .refl _
    · exact ((insI_perm a r).cons b).trans (.swap a b r)
theorem insI_len (a : Int) (l : List Int) : (insI a l).length = l.length + 1 := by rw [(insI_perm a l).length_eq]; rfl
/-- What within has laid when it stands at k: whether a is in it, too. -/
def witIB (l : List Int) (a : Int) (k : Nat) : Bool := (l.take k).any fun b => decide (a < b)
def witIL (l : List Int) (a : Int) (k : Nat) : List Int := if witIB l a k then insI a (l.take k) else l.take k
theorem insI_app {a : Int} : ∀ {l : List Int} (r : List Int), (l.any fun b => decide (a < b)) = true → insI a (l ++ r) = insI a l ++ r
  | [], _, h => by simp at h
  | b :: l, r, h => by
    rw [List.cons_append]
    unfold insI
    split
    · rfl
    · rename_i h1
      have h' : (l.any fun b => decide (a < b)) = true := by
        rw [List.any_cons, Bool.or_eq_true, decide_eq_true_iff] at h
        exact h.resolve_left h1
      rw [insI_app r h', List.cons_append]
theorem insI_none {a : Int} : ∀ {l : List Int} (r : List Int), (l.any fun b => decide (a < b)) = false → insI a (l ++ r) = l ++ insI a r
  | [], _, _ => rfl
  | b :: l, r, h => by
    rw [List.any_cons, Bool.or_eq_false_iff, decide_eq_false_iff_not] at h
    rw [List.cons_append]
    show (if a < b then _ else _) = _
    rw [if_neg h.1, insI_none r h.2, List.cons_append]
theorem witI_succ {l : List Int} {a : Int} {k : Nat} (hk : k < l.length) : witIB l a (k + 1) = (witIB l a k || decide (a < ix l k)) ∧ witIL l a (k + 1) = if witIB l a k then witIL l a k ++ [ix l k] else if a < ix l k then witIL l a k ++ [a] ++ [ix l k] else witIL l a k ++ [ix l k] := by
  have ht : l.take (k + 1) = l.take k ++ [ix l k] := by rw [List.take_succ_eq_append_getElem hk, ix_lt hk]
  have h1 : witIB l a (k + 1) = (witIB l a k || decide (a < ix l k)) := by unfold witIB; rw [ht, List.any_append]; simp
  refine ⟨h1, ?_⟩
  unfold witIL
  rw [h1, ht]
  cases hB : witIB l a k with
  | true => simp only [Bool.true_or, if_true]; rw [insI_app _ hB]
  | false =>
    simp only [Bool.false_or, Bool.false_eq_true, if_false, decide_eq_true_iff]
    split
    · rename_i h2
      rw [insI_none _ hB]
      simp [insI, h2]
    · rfl
theorem witI_end (l : List Int) (a : Int) : (if witIB l a l.length then witIL l a l.length else witIL l a l.length ++ [a]) = insI a l := by
  unfold witIL
  rw [List.take_length]
  cases h : witIB l a l.length with
  | true => simp
  | false =>
    unfold witIB at h
    rw [List.take_length] at h
    have := insI_none (a := a) [] h
    rw [List.append_nil] at this
    simp [this, insI]
theorem witI_len {l : List Int} {a : Int} {k : Nat} (hk : k ≤ l.length) : (witIL l a k).length ≤ k + 1 := by
  unfold witIL
  split
  · rw [insI_len, List.length_take]; omega
  · rw [List.length_take]; omega
def neE (v : Int) (y : Adj) : Bool := decide (y.Edge ≠ v)
noncomputable def delO (o : Ov) (v : Int) : Ov × Int :=
  if voB o = false then (ovZ, 19) else if ¬ HasE (entsO o) v then (ovZ, 11) else if HasE o.Adds v then ({ o with Adds := o.Adds.filter (neE v) }, 0) else ({ o with Dels := insI v o.Dels }, 0)
noncomputable def sDel : List AV → Option (Prop × AV) := spec2 (fun (o : Ov) (_ : Int) => SmO o) (fun o v => .tup [Enc.enc (delO o v).1, .int .i64 (delO o v).2])
set_option maxHeartbeats 16000000 in
theorem delR : PureOK Try.prog G0 13 sDel := by
  refine pureH2 (C := CIr) sigCIr mixCIr Try.func13 rfl rfl rfl [] (by kernel_rfl) (by decide) (fun o v ho => ?_)
  obtain ⟨hw, s1, s2, s3⟩ := ho
  have hlo : LenO o := hw.1
  obtain ⟨r, hr⟩ : ∃ r, delO o v = r := ⟨_, rfl⟩
  rw [hr]
  unfold delO at hr
  cases hv : voB o with
  | false =>
    rw [if_pos hv] at hr
    subst hr
    simp [aev, gav, alook, litOf, litAV, mget, mhas, acopy, asrc, adst, cav, look, acallPure, abin, abinN, abinP, abinI, abinS, aun, aconv, afield, afieldAddr, aindexAddr, aindex, aslice, alow, ahigh, abuild, abuildGo, cellsOf, splice, fieldTy, alen, apick, amax, amin, aload, headV, aparts, abuildSlice, elParts, abytesStr, astore, amake, aappend, aclear, anew, arith, aresults, aresList, ares, spec0, spec1, spec2, spec3, spec4, eqCells, eqCell, sValO, hw, hv, ovZ]
  | true =>
    rw [if_neg (by rw [hv]; decide)] at hr
    have hel : Len (entsO o) := by
      have := ents_len o
      have := kept_small o
      unfold Len
      omega
    have hal : Len o.Adds := hlo.2.1
    by_cases he : HasE (entsO o) v
    case neg =>
      rw [if_pos he] at hr
      subst hr
      simp [aev, gav, alook, litOf, litAV, mget, mhas, acopy, asrc, adst, cav, look, acallPure, abin, abinN, abinP, abinI, abinS, aun, aconv, afield, afieldAddr, aindexAddr, aindex, aslice, alow, ahigh, abuild, abuildGo, cellsOf, splice, fieldTy, alen, apick, amax, amin, aload, headV, aparts, abuildSlice, elParts, abytesStr, astore, amake, aappend, aclear, anew, arith, aresults, aresList, ares, spec0, spec1, spec2, spec3, spec4, eqCells, eqCell, sValO, hw, hv, sEnts, hlo, sEdge, hel, he, ovZ]
    rw [if_neg (not_not_intro he)] at hr
    by_cases hA : HasE o.Adds v
    · rw [if_pos hA] at hr
      subst hr
      simp [aev, gav, alook, litOf, litAV, mget, mhas, acopy, asrc, adst, cav, look, acallPure, abin, abinN, abinP, abinI, abinS, aun, aconv, afield, afieldAddr, aindexAddr, aindex, aslice, alow, ahigh, abuild, abuildGo, cellsOf, splice, fieldTy, alen, apick, amax, amin, aload, headV, aparts, abuildSlice, elParts, abytesStr, astore, amake, aappend, aclear, anew, arith, aresults, aresList, ares, spec0, spec1, spec2, spec3, spec4, eqCells, eqCell, sValO, hw, hv, sEnts, hlo, sEdge, hel, he, hal, hA, sCopied]
      refine AW.weak (weak_nil 7 3 29 rfl (by decide)) ?_
      obtain ⟨l, hl⟩ : ∃ l, o.Adds = l := ⟨_, rfl⟩
      rw [hl] at s2 hal ⊢
      refine loop_ruleH (C := CIr) sigCIr mixCIr [] (fun q : Nat => ⟨[(1, .int .i64 v), (2, .ptr 0 1 6 0 0), (4, .ptr 1 1 6 0 0), (6, .ptr 2 1 6 0 0), (7, .own 3 ((l.take q).filter (neE v)).length), (8, .int .i64 q)], [OB o, Z0, OB o, bA ((l.take q).filter (neE v))]⟩) (fun q => q ≤ l.length) (fun q => l.length - q) (by kernel_rfl) ⟨0, by omega, weak_eq (by simp) (by simp [OB, Z0, bA, hl])⟩ (fun k hk => ?_)
      have hfl : ((l.take k).filter (neE v)).length ≤ 1000 := by
        have := List.length_filter_le (neE v) (l.take k)
        rw [List.length_take] at this
        omega
      by_cases hlt : k < l.length
      · have i1 : I64 ((k : Int) + 1) := by unfold I64; omega
        have hsx := filt_succ (p := neE v) hlt
        by_cases hd : (ix l k).Edge = v
        · have hkp : neE v (ix l k) = false := by unfold neE; simp [hd]
          rw [hkp] at hsx
          simp only [Bool.false_eq_true, if_false] at hsx
          simp [aev, gav, alook, litOf, litAV, mget, mhas, acopy, asrc, adst, cav, look, acallPure, abin, abinN, abinP, abinI, abinS, aun, aconv, afield, afieldAddr, aindexAddr, aindex, aslice, alow, ahigh, abuild, abuildGo, cellsOf, splice, fieldTy, alen, apick, amax, amin, aload, headV, aparts, abuildSlice, elParts, abytesStr, astore, amake, aappend, aclear, anew, arith, aresults, aresList, ares, spec0, spec1, spec2, spec3, spec4, eqCells, eqCell, OB, Z0, bA, hl, hlt, rowAt_enc hlt, hd, i1]
          exact ⟨k + 1, by omega, by omega, weak_eq (by simp [hsx]) (by simp [hl, OB, Z0, bA, hsx])⟩
        · have hkp : neE v (ix l k) = true := by unfold neE; simp [hd]
          rw [hkp] at hsx
          simp only [if_true] at hsx
          simp [aev, gav, alook, litOf, litAV, mget, mhas, acopy, asrc, adst, cav, look, acallPure, abin, abinN, abinP, abinI, abinS, aun, aconv, afield, afieldAddr, aindexAddr, aindex, aslice, alow, ahigh, abuild, abuildGo, cellsOf, splice, fieldTy, alen, apick, amax, amin, aload, headV, aparts, abuildSlice, elParts, abytesStr, astore, amake, aappend, aclear, anew, arith, aresults, aresList, ares, spec0, spec1, spec2, spec3, spec4, eqCells, eqCell, OB, Z0, bA, hl, hlt, rowAt_enc hlt, hd, i1]
          exact ⟨by omega, k + 1, by omega, by omega, weak_eq (by simp [hsx]) (by simp [hl, OB, Z0, bA, hsx])⟩
      · have hkk : k = l.length := by omega
        subst hkk
        rw [List.take_length] at hfl ⊢
        simp [aev, gav, alook, litOf, litAV, mget, mhas, acopy, asrc, adst, cav, look, acallPure, abin, abinN, abinP, abinI, abinS, aun, aconv, afield, afieldAddr, aindexAddr, aindex, aslice, alow, ahigh, abuild, abuildGo, cellsOf, splice, fieldTy, alen, apick, amax, amin, aload, headV, aparts, abuildSlice, elParts, abytesStr, astore, amake, aappend, aclear, anew, arith, aresults, aresList, ares, spec0, spec1, spec2, spec3, spec4, eqCells, eqCell, OB, Z0, bA, hl, hlt]
    · rw [if_neg hA] at hr
      subst hr
      simp [aev, gav, alook, litOf, litAV, mget, mhas, acopy, asrc, adst, cav, look, acallPure, abin, abinN, abinP, abinI, abinS, aun, aconv, afield, afieldAddr, aindexAddr, aindex, aslice, alow, ahigh, abuild, abuildGo, cellsOf, splice, fieldTy, alen, apick, amax, amin, aload, headV, aparts, abuildSlice, elParts, abytesStr, astore, amake, aappend, aclear, anew, arith, aresults, aresList, ares, spec0, spec1, spec2, spec3, spec4, eqCells, eqCell, sValO, hw, hv, sEnts, hlo, sEdge, hel, he, hal, hA, sCopied]
      refine AW.weak (weak_nil 9 1 3 rfl (by decide)) ?_
      obtain ⟨l, hl⟩ : ∃ l, o.Dels = l := ⟨_, rfl⟩
      rw [hl] at s3 ⊢
      obtain ⟨r, hr⟩ : ∃ r, insI v l = r := ⟨_, rfl⟩
      rw [hr]
      refine loop_ruleH (C := CIr) sigCIr mixCIr [] (fun q : Nat => ⟨[(1, .int .i64 v), (2, .ptr 0 1 6 0 0), (4, .ptr 1 1 6 0 0), (6, .ptr 2 1 6 0 0), (9, .own 3 (witIL l v q).length), (10, .bool (witIB l v q)), (11, .int .i64 q)], [OB o, Z0, OB o, bI (witIL l v q)]⟩) (fun q => q ≤ l.length) (fun q => l.length - q) (by kernel_rfl) ⟨0, by omega, weak_eq (by simp [witIL, witIB]) (by simp [OB, Z0, bI, hl, witIL, witIB])⟩ (fun k hk => ?_)
      have hwl := witI_len (l := l) (a := v) hk
      by_cases hlt : k < l.length
      · have i1 : I64 ((k : Int) + 1) := by unfold I64; omega
        obtain ⟨w1, w2⟩ := witI_succ (l := l) (a := v) hlt
        cases hB : witIB l v k with
        | true =>
          rw [hB] at w1 w2
          simp only [Bool.true_or, if_true] at w1 w2
          simp [aev, gav, alook, litOf, litAV, mget, mhas, acopy, asrc, adst, cav, look, acallPure, abin, abinN, abinP, abinI, abinS, aun, aconv, afield, afieldAddr, aindexAddr, aindex, aslice, alow, ahigh, abuild, abuildGo, cellsOf, splice, fieldTy, alen, apick, amax, amin, aload, headV, aparts, abuildSlice, elParts, abytesStr, astore, amake, aappend, aclear, anew, arith, aresults, aresList, ares, spec0, spec1, spec2, spec3, spec4, eqCells, eqCell, OB, Z0, bI, hl, hlt, rowAt_enc hlt, i1]
          refine ⟨by omega, k + 1, by omega, by omega, weak_eq (by simp [w1, w2]) (by simp [OB, Z0, bI, hl, w2])⟩
        | false =>
          rw [hB] at w1 w2
          simp only [Bool.false_or, Bool.false_eq_true, if_false] at w1 w2
          by_cases h8 : v < ix l k
          · rw [if_pos h8] at w2
            rw [decide_eq_true h8] at w1
            simp [aev, gav, alook, litOf, litAV, mget, mhas, acopy, asrc, adst, cav, look, acallPure, abin, abinN, abinP, abinI, abinS, aun, aconv, afield, afieldAddr, aindexAddr, aindex, aslice, alow, ahigh, abuild, abuildGo, cellsOf, splice, fieldTy, alen, apick, amax, amin, aload, headV, aparts, abuildSlice, elParts, abytesStr, astore, amake, aappend, aclear, anew, arith, aresults, aresList, ares, spec0, spec1, spec2, spec3, spec4, eqCells, eqCell, OB, Z0, bI, hl, hlt, rowAt_enc hlt, h8, i1]
            refine ⟨by omega, by omega, k + 1, by omega, by omega, weak_eq (by simp [w1, w2]) (by simp [OB, Z0, bI, hl, w2])⟩
          · rw [if_neg h8] at w2
            rw [decide_eq_false h8] at w1
            simp [aev, gav, alook, litOf, litAV, mget, mhas, acopy, asrc, adst, cav, look, acallPure, abin, abinN, abinP, abinI, abinS, aun, aconv, afield, afieldAddr, aindexAddr, aindex, aslice, alow, ahigh, abuild, abuildGo, cellsOf, splice, fieldTy, alen, apick, amax, amin, aload, headV, aparts, abuildSlice, elParts, abytesStr, astore, amake, aappend, aclear, anew, arith, aresults, aresList, ares, spec0, spec1, spec2, spec3, spec4, eqCells, eqCell, OB, Z0, bI, hl, hlt, rowAt_enc hlt, h8, i1]
            refine ⟨by omega, k + 1, by omega, by omega, weak_eq (by simp [w1, w2]) (by simp [OB, Z0, bI, hl, w2])⟩
      · have hkk : k = l.length := by omega
        subst hkk
        have he := witI_end l v
        rw [hr] at he
        cases hB : witIB l v l.length with
        | true =>
          rw [hB] at he
          simp only [if_true] at he
          simp [aev, gav, alook, litOf, litAV, mget, mhas, acopy, asrc, adst, cav, look, acallPure, abin, abinN, abinP, abinI, abinS, aun, aconv, afield, afieldAddr, aindexAddr, aindex, aslice, alow, ahigh, abuild, abuildGo, cellsOf, splice, fieldTy, alen, apick, amax, amin, aload, headV, aparts, abuildSlice, elParts, abytesStr, astore, amake, aappend, aclear, anew, arith, aresults, aresList, ares, spec0, spec1, spec2, spec3, spec4, eqCells, eqCell, OB, Z0, bI, hl, hlt, he]
        | false =>
          rw [hB] at he
          simp only [Bool.false_eq_true, if_false] at he
          have hrl : r.length = l.length + 1 := by rw [← hr, insI_len]
          simp [aev, gav, alook, litOf, litAV, mget, mhas, acopy, asrc, adst, cav, look, acallPure, abin, abinN, abinP, abinI, abinS, aun, aconv, afield, afieldAddr, aindexAddr, aindex, aslice, alow, ahigh, abuild, abuildGo, cellsOf, splice, fieldTy, alen, apick, amax, amin, aload, headV, aparts, abuildSlice, elParts, abytesStr, astore, amake, aappend, aclear, anew, arith, aresults, aresList, ares, spec0, spec1, spec2, spec3, spec4, eqCells, eqCell, OB, Z0, bI, hl, hlt, he]
          omega
end Go.Proofs.Ytkhgjbjkjefeoaa


/-
  overlay: the library's search (after leapfrog/L1).
-/
namespace Go.Proofs.Ytkhgjbjkjefeoaa
open Go.RowKit
set_option linter.unusedSimpArgs false
set_option linter.unusedVariables false
set_option maxRecDepth 100000

def isNaNs : List AV → Option (Prop × AV) := spec1 (fun (_ : Int) => True) (fun _ => .bool false)
theorem isNaN1 : PureOK Try.prog G0 72 isNaNs := by
  refine pure1 (C := CE) sigCE mixCE Try.func72 rfl rfl rfl (by kernel_rfl) (by decide) (fun x _ => ?_)
  simp [aev, gav, alook, litOf, litAV, mget, mhas, acopy, asrc, adst, cav, look, acallPure, abin, abinN, abinP, abinI, abinS, aun, aconv, afield, afieldAddr, aindexAddr, aindex, aslice, alow, ahigh, abuild, abuildGo, cellsOf, splice, fieldTy, alen, apick, amax, amin, aload, headV, aparts, abuildSlice, elParts, abytesStr, astore, amake, aappend, aclear, anew, arith, aresults, aresList, ares, spec0, spec1, spec2, spec3, spec4, eqCells, eqCell]
theorem isNaN2 : PureOK Try.prog G0 87 isNaNs := by
  refine pure1 (C := CE) sigCE mixCE Try.func87 rfl rfl rfl (by kernel_rfl) (by decide) (fun x _ => ?_)
  simp [aev, gav, alook, litOf, litAV, mget, mhas, acopy, asrc, adst, cav, look, acallPure, abin, abinN, abinP, abinI, abinS, aun, aconv, afield, afieldAddr, aindexAddr, aindex, aslice, alow, ahigh, abuild, abuildGo, cellsOf, splice, fieldTy, alen, apick, amax, amin, aload, headV, aparts, abuildSlice, elParts, abytesStr, astore, amake, aappend, aclear, anew, arith, aresults, aresList, ares, spec0, spec1, spec2, spec3, spec4, eqCells, eqCell]
noncomputable def CL1 : Ctx := mkC Try.prog G0 [(87, .pure isNaNs)]
@[simp] theorem CL1_P : CL1.P = Try.prog := rfl
@[simp] theorem CL1_1 : CL1.S 87 = .pure isNaNs := rfl
theorem mixCL1 : CL1.P.follows .mixedOrders = true := mixed
theorem sigCL1 : SigOK CL1 := sigOK_cons (entryPure isNaN2 Try.func87 rfl (by decide)) (sigOK_nil _ _)
def sLessI : List AV → Option (Prop × AV) := spec2 (fun (_ _ : Int) => True) (fun a b => .bool (decide (a < b)))
theorem lessIP : PureOK Try.prog G0 71 sLessI := by
  refine pure2 (C := CL1) sigCL1 mixCL1 Try.func71 rfl rfl rfl (by kernel_rfl) (by decide) (fun a b _ => ?_)
  simp [aev, gav, alook, litOf, litAV, mget, mhas, acopy, asrc, adst, cav, look, acallPure, abin, abinN, abinP, abinI, abinS, aun, aconv, afield, afieldAddr, aindexAddr, aindex, aslice, alow, ahigh, abuild, abuildGo, cellsOf, splice, fieldTy, alen, apick, amax, amin, aload, headV, aparts, abuildSlice, elParts, abytesStr, astore, amake, aappend, aclear, anew, arith, aresults, aresList, ares, spec0, spec1, spec2, spec3, spec4, eqCells, eqCell, isNaNs]

/-- How many at the front are less. -/
def lbd (l : List Int) (x : Int) : Nat := (l.takeWhile fun y => decide (y < x)).length
theorem lbd_at : ∀ {l : List Int} {x : Int} {d : Nat}, (∀ j, j < d → ix l j < x) → d ≤ l.length → (d < l.length → x ≤ ix l d) → lbd l x = d
  | [], x, d, _, hd, _ => by have : d = 0 := by simpa using hd
                             subst this; rfl
  | y :: r, x, 0, _, _, h => by
    have := h (by simp)
    have h0 : ¬ y < x := by have e : ix (y :: r) 0 = y := rfl
                            rw [e] at this; omega
    unfold lbd
    rw [List.takeWhile_cons, if_neg (by simpa using h0)]
    rfl
  | y :: r, x, d + 1, h1, hd, h => by
    have h0 : y < x := h1 0 (by omega)
    have ih := lbd_at (l := r) (x := x) (d := d) (fun j hj => h1 (j + 1) (by omega)) (by simpa using hd) (fun hd2 => h (by simpa using hd2))
    unfold lbd at ih ⊢
    rw [List.takeWhile_cons, if_pos (by simpa using h0), List.length_cons, ih]
theorem lbd_le (l : List Int) (x : Int) : lbd l x ≤ l.length := by
  unfold lbd
  exact (List.takeWhile_prefix _).length_le
def SortedZ (l : List Int) : Prop := ∀ i j, i < j → j < l.length → ix l i ≤ ix l j
def foundB (l : List Int) (x : Int) : Bool := decide (lbd l x < l.length) && decide (ix l (lbd l x) = x)

noncomputable def CB1 : Ctx := mkC Try.prog G0 [(71, .pure sLessI), (72, .pure isNaNs)]
@[simp] theorem CB1_P : CB1.P = Try.prog := rfl
@[simp] theorem CB1_1 : CB1.S 71 = .pure sLessI := rfl
@[simp] theorem CB1_2 : CB1.S 72 = .pure isNaNs := rfl
theorem mixCB1 : CB1.P.follows .mixedOrders = true := mixed
theorem sigCB1 : SigOK CB1 := sigOK_cons (entryPure lessIP Try.func71 rfl (by decide)) (sigOK_cons (entryPure isNaN1 Try.func72 rfl (by decide)) (sigOK_nil _ _))
def sBin : List AV → Option (Prop × AV) := spec2 (fun (l : List Int) (_ : Int) => l.length ≤ 1000000 ∧ SortedZ l) (fun l x => .tup [.int .i64 (lbd l x), .bool (foundB l x)])
set_option maxHeartbeats 8000000 in
theorem binP : PureOK Try.prog G0 48 sBin := by
  refine pure2 (C := CB1) sigCB1 mixCB1 Try.func48 rfl rfl rfl (by kernel_rfl) (by decide) (fun l x ⟨hl, hs⟩ => ?_)
  simp [aev, gav, alook, litOf, litAV, mget, mhas, acopy, asrc, adst, cav, look, acallPure, abin, abinN, abinP, abinI, abinS, aun, aconv, afield, afieldAddr, aindexAddr, aindex, aslice, alow, ahigh, abuild, abuildGo, cellsOf, splice, fieldTy, alen, apick, amax, amin, aload, headV, aparts, abuildSlice, elParts, abytesStr, astore, amake, aappend, aclear, anew, arith, aresults, aresList, ares, spec0, spec1, spec2, spec3, spec4, eqCells, eqCell]
  refine loop_rule (C := CB1) sigCB1 mixCB1 (fun q : Nat × Nat => ⟨[(0, Enc.enc l), (1, .int .i64 x), (6, .int .i64 l.length), (7, .int .i64 q.1), (8, .int .i64 q.2)], []⟩) (fun q => q.1 ≤ q.2 ∧ q.2 ≤ l.length ∧ (∀ j, j < q.1 → ix l j < x) ∧ ∀ j, q.2 ≤ j → j < l.length → x ≤ ix l j) (fun q => q.2 - q.1) (by kernel_rfl) ⟨(0, l.length), ⟨by omega, by omega, fun j hj => by omega, fun j h1 h2 => by omega⟩, weak_slots (by simp)⟩ (fun ⟨i, j⟩ ⟨h1, h2, h3, h4⟩ => ?_)
  simp only at h1 h2 h3 h4 ⊢
  by_cases hij : i < j
  · have i1 : I64 ((i : Int) + j) := by unfold I64; omega
    have u1 : IntKind.wrap .u64 ((i : Int) + j) = (i : Int) + j := by simp [IntKind.wrap, IntKind.bits, IntKind.signed]; omega
    obtain ⟨m, hm⟩ : ∃ m, m = (i + j) / 2 := ⟨_, rfl⟩
    have m1 : i ≤ m := by omega
    have m2 : m < j := by omega
    have hml : m < l.length := by omega
    have fd : ((i : Int) + j).fdiv (2 ^ min 1 IntKind.u64.bits) = (m : Int) := by
      have e : (2 : Int) ^ min 1 IntKind.u64.bits = 2 := rfl
      rw [e, Int.fdiv_eq_ediv_of_nonneg _ (by omega)]; omega
    have i2 : I64 (m : Int) := by unfold I64; omega
    have i3 : I64 ((m : Int) + 1) := by unfold I64; omega
    have u2 : IntKind.wrap .i64 (m : Int) = (m : Int) := w64_in i2
    by_cases hlt : ix l m < x
    · simp [aev, gav, alook, litOf, litAV, mget, mhas, acopy, asrc, adst, cav, look, acallPure, abin, abinN, abinP, abinI, abinS, aun, aconv, afield, afieldAddr, aindexAddr, aindex, aslice, alow, ahigh, abuild, abuildGo, cellsOf, splice, fieldTy, alen, apick, amax, amin, aload, headV, aparts, abuildSlice, elParts, abytesStr, astore, amake, aappend, aclear, anew, arith, aresults, aresList, ares, spec0, spec1, spec2, spec3, spec4, eqCells, eqCell, sLessI, hij, i1, u1, fd, u2, i3, hml, rowAt_enc hml, hlt]
      exact ⟨m + 1, j, ⟨by omega, by omega, fun k hk => by
        rcases Nat.lt_or_eq_of_le (Nat.le_of_lt_succ hk) with h | rfl
        · have := hs k m h hml; omega
        · exact hlt, h4⟩, by omega, weak_slots (by simp)⟩
    · simp [aev, gav, alook, litOf, litAV, mget, mhas, acopy, asrc, adst, cav, look, acallPure, abin, abinN, abinP, abinI, abinS, aun, aconv, afield, afieldAddr, aindexAddr, aindex, aslice, alow, ahigh, abuild, abuildGo, cellsOf, splice, fieldTy, alen, apick, amax, amin, aload, headV, aparts, abuildSlice, elParts, abytesStr, astore, amake, aappend, aclear, anew, arith, aresults, aresList, ares, spec0, spec1, spec2, spec3, spec4, eqCells, eqCell, sLessI, hij, i1, u1, fd, u2, i3, hml, rowAt_enc hml, hlt]
      exact ⟨i, m, ⟨by omega, by omega, h3, fun k hk hkl => by
        rcases Nat.lt_or_eq_of_le hk with h | rfl
        · have := hs m k h hkl; omega
        · omega⟩, by omega, weak_slots (by simp)⟩
  · have hb : lbd l x = i := lbd_at h3 (by omega) (fun h => h4 i (by omega) h)
    by_cases hil : i < l.length
    · have hf : foundB l x = decide (ix l i = x) := by unfold foundB; rw [hb]; simp [hil]
      rcases em2 (ix l i = x) with e | e
      · simp [aev, gav, alook, litOf, litAV, mget, mhas, acopy, asrc, adst, cav, look, acallPure, abin, abinN, abinP, abinI, abinS, aun, aconv, afield, afieldAddr, aindexAddr, aindex, aslice, alow, ahigh, abuild, abuildGo, cellsOf, splice, fieldTy, alen, apick, amax, amin, aload, headV, aparts, abuildSlice, elParts, abytesStr, astore, amake, aappend, aclear, anew, arith, aresults, aresList, ares, spec0, spec1, spec2, spec3, spec4, eqCells, eqCell, isNaNs, hij, hil, rowAt_enc hil, hb, hf, e]
      · simp [aev, gav, alook, litOf, litAV, mget, mhas, acopy, asrc, adst, cav, look, acallPure, abin, abinN, abinP, abinI, abinS, aun, aconv, afield, afieldAddr, aindexAddr, aindex, aslice, alow, ahigh, abuild, abuildGo, cellsOf, splice, fieldTy, alen, apick, amax, amin, aload, headV, aparts, abuildSlice, elParts, abytesStr, astore, amake, aappend, aclear, anew, arith, aresults, aresList, ares, spec0, spec1, spec2, spec3, spec4, eqCells, eqCell, isNaNs, hij, hil, rowAt_enc hil, hb, hf, e]
    · have hf : foundB l x = false := by unfold foundB; rw [hb]; simp [hil]
      simp [aev, gav, alook, litOf, litAV, mget, mhas, acopy, asrc, adst, cav, look, acallPure, abin, abinN, abinP, abinI, abinS, aun, aconv, afield, afieldAddr, aindexAddr, aindex, aslice, alow, ahigh, abuild, abuildGo, cellsOf, splice, fieldTy, alen, apick, amax, amin, aload, headV, aparts, abuildSlice, elParts, abytesStr, astore, amake, aappend, aclear, anew, arith, aresults, aresList, ares, spec0, spec1, spec2, spec3, spec4, eqCells, eqCell, isNaNs, hij, hil, hb, hf]
end Go.Proofs.Ytkhgjbjkjefeoaa


/-
  overlay: the library's search at entries, by order.
-/
namespace Go.Proofs.Ytkhgjbjkjefeoaa
open Go.RowKit
set_option linter.unusedSimpArgs false
set_option linter.unusedVariables false
set_option maxRecDepth 100000

/-- How many at the front are less. -/
def lbA (l : List Adj) (x : Adj) : Nat := (l.takeWhile fun y => decide (LtA y x)).length
theorem lbA_at : ∀ {l : List Adj} {x : Adj} {d : Nat}, (∀ j, j < d → LtA (ix l j) x) → d ≤ l.length → (d < l.length → ¬ LtA (ix l d) x) → lbA l x = d
  | [], x, d, _, hd, _ => by have : d = 0 := by simpa using hd
                             subst this; rfl
  | y :: r, x, 0, _, _, h => by
    have h0 : ¬ LtA y x := h (by simp)
    unfold lbA
    rw [List.takeWhile_cons, if_neg (by simpa using h0)]
    rfl
  | y :: r, x, d + 1, h1, hd, h => by
    have h0 : LtA y x := h1 0 (by omega)
    have ih := lbA_at (l := r) (x := x) (d := d) (fun j hj => h1 (j + 1) (by omega)) (by simpa using hd) (fun hd2 => h (by simpa using hd2))
    unfold lbA at ih ⊢
    rw [List.takeWhile_cons, if_pos (by simpa using h0), List.length_cons, ih]
theorem lbA_le (l : List Adj) (x : Adj) : lbA l x ≤ l.length := by
  unfold lbA
  exact (List.takeWhile_prefix _).length_le
theorem up_lt {l : List Adj} (h : UpA l) : ∀ {d i : Nat}, i + d + 1 < l.length → LtA (ix l i) (ix l (i + d + 1))
  | 0, i, hl => by simpa using h (i + 1) (by omega) (by omega)
  | d + 1, i, hl => lt_trans (up_lt h (d := d) (by omega)) (by have := h (i + d + 1 + 1) (by omega) (by omega); rwa [show i + d + 1 + 1 - 1 = i + d + 1 by omega] at this)
theorem up_at {l : List Adj} (h : UpA l) {i j : Nat} (hij : i < j) (hj : j < l.length) : LtA (ix l i) (ix l j) := by
  have := up_lt h (d := j - i - 1) (i := i) (by omega)
  rwa [show i + (j - i - 1) + 1 = j by omega] at this
def foundA (l : List Adj) (x : Adj) : Bool := decide (lbA l x < l.length) && decide (ix l (lbA l x) = x)
def sBinA : List AV → Option (Prop × AV)
  | [a, .agg [.int .i64 x, .int .i64 y, .int .i64 z], .fn f []] => if f = 39 then some (nrmV a = Enc.enc (Enc.dec a : List Adj) ∧ (Enc.dec a : List Adj).length ≤ 1000000 ∧ UpA (Enc.dec a), .tup [.int .i64 (lbA (Enc.dec a) ⟨x, y, z⟩), .bool (foundA (Enc.dec a) ⟨x, y, z⟩)]) else none
  | _ => none
@[simp] theorem sBinA_eq (a : AV) (x y z : Int) : sBinA [a, .agg [.int .i64 x, .int .i64 y, .int .i64 z], .fn 39 []] = some (nrmV a = Enc.enc (Enc.dec a : List Adj) ∧ (Enc.dec a : List Adj).length ≤ 1000000 ∧ UpA (Enc.dec a), .tup [.int .i64 (lbA (Enc.dec a) ⟨x, y, z⟩), .bool (foundA (Enc.dec a) ⟨x, y, z⟩)]) := rfl
noncomputable def CBf : Ctx := mkC Try.prog G0 [(39, .pure sOrder)]
@[simp] theorem CBf_P : CBf.P = Try.prog := rfl
@[simp] theorem CBf_G : CBf.G = G0 := rfl
@[simp] theorem CBf_1 : CBf.S 39 = .pure sOrder := rfl
theorem mixCBf : CBf.P.follows .mixedOrders = true := mixed
theorem sigCBf : SigOK CBf := sigOK_cons (entryPure (orderO) Try.func39 rfl (by decide)) (sigOK_nil _ _)
set_option maxHeartbeats 16000000 in
theorem binA : PureOK Try.prog G0 38 sBinA :=
  pure_of_AW (C := CBf) Try.func38 rfl rfl rfl fun avs ob r hp hob => by
    unfold sBinA at hp
    split at hp
    · rename_i a x y z f
      split at hp
      · rename_i hf
        subst hf
        injection hp with hp; injection hp with e1 e2; subst e1 e2
        refine ⟨Nat.le_of_ble_eq_true rfl, avcH_sound (hd := [5, 8]) sigCBf mixCBf _ (by kernel_rfl) ?_⟩
        obtain ⟨h1, hl, hu⟩ := hob
        generalize (Enc.dec a : List Adj) = l at h1 hl hu ⊢
        show avcH CBf _ _ 0 _ ⟨[(0, nrmV a), (1, .agg [.int .i64 x, .int .i64 y, .int .i64 z]), (2, .fn 39 [])], []⟩ _
        rw [h1]
        simp [aev, gav, alook, litOf, litAV, mget, mhas, acopy, asrc, adst, cav, look, acallPure, abin, abinN, abinP, abinI, abinS, aun, aconv, afield, afieldAddr, aindexAddr, aindex, aslice, alow, ahigh, abuild, abuildGo, cellsOf, splice, fieldTy, alen, apick, amax, amin, aload, headV, aparts, abuildSlice, elParts, abytesStr, astore, amake, aappend, aclear, anew, arith, aresults, aresList, ares, spec0, spec1, spec2, spec3, spec4, eqCells, eqCell]
        obtain ⟨w, hw⟩ : ∃ w : Adj, w = ⟨x, y, z⟩ := ⟨_, rfl⟩
        obtain rfl : x = w.From := by rw [hw]
        obtain rfl : y = w.To := by rw [hw]
        obtain rfl : z = w.Edge := by rw [hw]
        clear hw
        rw [show (⟨w.From, w.To, w.Edge⟩ : Adj) = w from rfl]
        refine loop_ruleH (C := CBf) sigCBf mixCBf [5, 8] (fun q : Nat × Nat => ⟨[(0, Enc.enc l), (2, .fn 39 []), (4, .ptr 0 1 3 0 0), (8, .int .i64 l.length), (9, .int .i64 q.1), (10, .int .i64 q.2)], [⟨29, 3, [[.int .i64 w.From, .int .i64 w.To, .int .i64 w.Edge]], true, true⟩]⟩) (fun q => q.1 ≤ q.2 ∧ q.2 ≤ l.length ∧ (∀ j, j < q.1 → LtA (ix l j) w) ∧ ∀ j, q.2 ≤ j → j < l.length → ¬ LtA (ix l j) w) (fun q => q.2 - q.1) (by kernel_rfl) ⟨(0, l.length), ⟨by omega, by omega, fun j hj => by omega, fun j h1 h2 => by omega⟩, weak_eq (by simp) (by simp)⟩ (fun ⟨i, j⟩ ⟨h1, h2, h3, h4⟩ => ?_)
        simp only at h1 h2 h3 h4 ⊢
        by_cases hij : i < j
        · have i1 : I64 ((i : Int) + j) := by unfold I64; omega
          have u1 : IntKind.wrap .u64 ((i : Int) + j) = (i : Int) + j := by simp [IntKind.wrap, IntKind.bits, IntKind.signed]; omega
          obtain ⟨m, hm⟩ : ∃ m, m = (i + j) / 2 := ⟨_, rfl⟩
          have m1 : i ≤ m := by omega
          have m2 : m < j := by omega
          have hml : m < l.length := by omega
          have fd : ((i : Int) + j).fdiv (2 ^ min 1 IntKind.u64.bits) = (m : Int) := by
            have e : (2 : Int) ^ min 1 IntKind.u64.bits = 2 := rfl
            rw [e, Int.fdiv_eq_ediv_of_nonneg _ (by omega)]; omega
          have i2 : I64 (m : Int) := by unfold I64; omega
          have i3 : I64 ((m : Int) + 1) := by unfold I64; omega
          have u2 : IntKind.wrap .i64 (m : Int) = (m : Int) := w64_in i2
          simp [aev, gav, alook, litOf, litAV, mget, mhas, acopy, asrc, adst, cav, look, acallPure, abin, abinN, abinP, abinI, abinS, aun, aconv, afield, afieldAddr, aindexAddr, aindex, aslice, alow, ahigh, abuild, abuildGo, cellsOf, splice, fieldTy, alen, apick, amax, amin, aload, headV, aparts, abuildSlice, elParts, abytesStr, astore, amake, aappend, aclear, anew, arith, aresults, aresList, ares, spec0, spec1, spec2, spec3, spec4, eqCells, eqCell, hij, i1, u1, fd, u2]
          refine AW_regionF sigCBf mixCBf [.pure, .pure, .pure, .pure, .read, .read, .eff, .pure] [[],[],[],[2,1],[1,2,3],[],[5,3,2,1,4,0],[0,4,1,2,3,5,6]] (by kernel_rfl) (by kernel_rfl) (by kernel_rfl) (by kernel_rfl) ?_
          by_cases hlt : LtA (ix l m) w
          · have hc : cmpA (ix l m) w < 0 := cmpA_lt.2 hlt
            simp [aev, gav, alook, litOf, litAV, mget, mhas, acopy, asrc, adst, cav, look, acallPure, abin, abinN, abinP, abinI, abinS, aun, aconv, afield, afieldAddr, aindexAddr, aindex, aslice, alow, ahigh, abuild, abuildGo, cellsOf, splice, fieldTy, alen, apick, amax, amin, aload, headV, aparts, abuildSlice, elParts, abytesStr, astore, amake, aappend, aclear, anew, arith, aresults, aresList, ares, spec0, spec1, spec2, spec3, spec4, eqCells, eqCell, sOrder, hml, rowAt_enc hml, hc, i3]
            exact ⟨m + 1, j, ⟨by omega, by omega, fun k hk => by
              rcases Nat.lt_or_eq_of_le (Nat.le_of_lt_succ hk) with h | rfl
              · exact lt_trans (up_at hu h hml) hlt
              · exact hlt, h4⟩, by omega, weak_eq (by simp) (by simp)⟩
          · have hc : ¬ cmpA (ix l m) w < 0 := fun h => hlt (cmpA_lt.1 h)
            simp [aev, gav, alook, litOf, litAV, mget, mhas, acopy, asrc, adst, cav, look, acallPure, abin, abinN, abinP, abinI, abinS, aun, aconv, afield, afieldAddr, aindexAddr, aindex, aslice, alow, ahigh, abuild, abuildGo, cellsOf, splice, fieldTy, alen, apick, amax, amin, aload, headV, aparts, abuildSlice, elParts, abytesStr, astore, amake, aappend, aclear, anew, arith, aresults, aresList, ares, spec0, spec1, spec2, spec3, spec4, eqCells, eqCell, sOrder, hml, rowAt_enc hml, hc, i3]
            exact ⟨i, m, ⟨by omega, by omega, h3, fun k hk hkl => by
              rcases Nat.lt_or_eq_of_le hk with h | rfl
              · exact fun h' => hlt (lt_trans (up_at hu h hkl) h')
              · exact hlt⟩, by omega, weak_eq (by simp) (by simp)⟩
        · have hb : lbA l w = i := lbA_at h3 (by omega) (fun h => h4 i (by omega) h)
          simp [aev, gav, alook, litOf, litAV, mget, mhas, acopy, asrc, adst, cav, look, acallPure, abin, abinN, abinP, abinI, abinS, aun, aconv, afield, afieldAddr, aindexAddr, aindex, aslice, alow, ahigh, abuild, abuildGo, cellsOf, splice, fieldTy, alen, apick, amax, amin, aload, headV, aparts, abuildSlice, elParts, abytesStr, astore, amake, aappend, aclear, anew, arith, aresults, aresList, ares, spec0, spec1, spec2, spec3, spec4, eqCells, eqCell, hij]
          refine AW_regionF sigCBf mixCBf [.pure, .pure, .pure, .pure, .pure, .pure, .pure, .pure, .pure, .read, .read, .eff, .pure, .pure, .pure, .pure] [[],[],[],[2,1],[1,2,3],[3,2,1,4],[3,2,1,4],[3,2,1,4],[7,4,1,2,3,6],[6,3,2,1,4,7,8],[3,2,1,4],[10,8,7,6,9,4,1,2,3,5],[5,3,2,1,4,9,6,7,8,10,11],[11,10,8,7,6,9,5,12,3,2,1,4],[5,3,2,1,4,9,6,7,8,10,11,0],[0,14,4,1,2,3,12,5,9,6,7,8,10,11,13]] (by kernel_rfl) (by kernel_rfl) (by kernel_rfl) (by kernel_rfl) ?_
          by_cases hil : i < l.length
          · have hf : foundA l w = decide (cmpA (ix l i) w = 0) := by unfold foundA; rw [hb]; simp [hil, cmpA_zero]
            simp [aev, gav, alook, litOf, litAV, mget, mhas, acopy, asrc, adst, cav, look, acallPure, abin, abinN, abinP, abinI, abinS, aun, aconv, afield, afieldAddr, aindexAddr, aindex, aslice, alow, ahigh, abuild, abuildGo, cellsOf, splice, fieldTy, alen, apick, amax, amin, aload, headV, aparts, abuildSlice, elParts, abytesStr, astore, amake, aappend, aclear, anew, arith, aresults, aresList, ares, spec0, spec1, spec2, spec3, spec4, eqCells, eqCell, sOrder, hil, rowAt_enc hil, hb, hf]
          · have hf : foundA l w = false := by unfold foundA; rw [hb]; simp [hil]
            simp [aev, gav, alook, litOf, litAV, mget, mhas, acopy, asrc, adst, cav, look, acallPure, abin, abinN, abinP, abinI, abinS, aun, aconv, afield, afieldAddr, aindexAddr, aindex, aslice, alow, ahigh, abuild, abuildGo, cellsOf, splice, fieldTy, alen, apick, amax, amin, aload, headV, aparts, abuildSlice, elParts, abytesStr, astore, amake, aappend, aclear, anew, arith, aresults, aresList, ares, spec0, spec1, spec2, spec3, spec4, eqCells, eqCell, hil, hb, hf]
      · cases hp
    · cases hp
end Go.Proofs.Ytkhgjbjkjefeoaa


/-
  overlay: slices.Insert of one element ahead of the end, walked.
-/
namespace Go.Proofs.Ytkhgjbjkjefeoaa
open Go.RowKit Go.Lib
set_option linter.unusedSimpArgs false
set_option linter.unusedVariables false

set_option maxHeartbeats 4000000 in
set_option maxRecDepth 1000000 in
/-- There is room. -/
theorem insW_roomI (bk n c i vb voff vc : Nat) (w W1 W2 : World) (hi : i < n) (hroom : n + 1 ≤ c) (hm : c ≤ 9223372036854775807)
    (hov : ∀ lb cb, (callFunc 73 #[.slice (some ⟨vb, voff, none⟩) 1 vc, .slice (some ⟨bk, i + 1, none⟩) lb cb]).run Try.prog w = .ok (.value (.bool false)) w)
    (hcp1 : ∀ ty dc sc, (Builtin.copy_ #[22, 22] ty #[.slice (some ⟨bk, i + 1, none⟩) (n - i) dc, .slice (some ⟨bk, i, none⟩) (n + 1 - i) sc]).run Try.prog w.drew = .ok (goInt (n - i)) W1)
    (hcp2 : ∀ ty dc, (Builtin.copy_ #[22, 22] ty #[.slice (some ⟨bk, i, none⟩) (n + 1 - i) dc, .slice (some ⟨vb, voff, none⟩) 1 vc]).run Try.prog W1 = .ok (goInt 1) W2) :
    Calls Try.prog 49 #[.slice (some ⟨bk, 0, none⟩) n c, .int .i64 i, .slice (some ⟨vb, voff, none⟩) 1 vc] w fun e w' =>
      e = .returned (.slice (some ⟨bk, 0, none⟩) (n + 1) c) ∧ w' = W2 := by
  have hz2 : ¬ ((i : Int) = (n : Int)) := by omega
  have hmx : Try.prog.follows .mixedOrders = true := mixed
  have hw1 : IntKind.i64.wrap ((i : Int) + 1) = (i : Int) + 1 := by rw [IntKind.wrap_i64]; omega
  have hb1 : (0 : Int) ≤ (i : Int) + 1 := by omega
  have hin : i ≤ n := by omega
  have htn : ((i : Int) + 1).toNat = i + 1 := by omega
  have hb2 : ¬ (c = i + 1) := by omega
  have hb3 : (i : Int) ≤ (n : Int) + 1 := by omega
  have hb4 : ¬ (c = i) := by omega
  go_enter Try.func49, Try.ntmps49
  go_wp2_with (simp only [hov])
  go_region_law_o (refine step_copy_runI rfl _ _ (22) (22) rfl _ _ (by simp [Act.eval, Act.put]) (by simp [Act.eval, Act.put]) (hcp1 _ _ _) ?_)
  go_wp2_with (at_builtin; refine wpList_copy_runI _ rfl _ _ (22) (22) rfl _ _ rfl rfl (hcp2 _ _) ?_)
  go_ret
  exact ⟨rfl, rfl⟩
set_option maxHeartbeats 4000000 in
set_option maxRecDepth 1000000 in
/-- There is none. -/
theorem insW_growI (bk n c i vb voff vc nb G : Nat) (w W1 W2 W3 : World) (hi : i < n) (hnc : n ≤ c) (hroom : c < n + 1) (hm : c ≤ 4611686018427387903) (hG : n + 1 ≤ G) (hGm : G ≤ 9223372036854775807)
    (hrz : ∀ ty, (Builtin.append_ #[22, 3] ty #[.slice (some ⟨bk, 0, none⟩) i c, .int .i64 ((n : Int) + 1 - (i : Int))]).run Try.prog w = .ok (.slice (some ⟨nb, 0, none⟩) (n + 1) G) W1)
    (hcpA : ∀ ty dc, (Builtin.copy_ #[22, 22] ty #[.slice (some ⟨nb, i, none⟩) (n + 1 - i) dc, .slice (some ⟨vb, voff, none⟩) 1 vc]).run Try.prog W1 = .ok (goInt 1) W2)
    (hcpB : ∀ ty dc sc, (Builtin.copy_ #[22, 22] ty #[.slice (some ⟨nb, i + 1, none⟩) (n - i) dc, .slice (some ⟨bk, i, none⟩) (n - i) sc]).run Try.prog W2.drew = .ok (goInt (n - i)) W3) :
    Calls Try.prog 49 #[.slice (some ⟨bk, 0, none⟩) n c, .int .i64 i, .slice (some ⟨vb, voff, none⟩) 1 vc] w fun e w' =>
      e = .returned (.slice (some ⟨nb, 0, none⟩) (n + 1) G) ∧ w' = W3 := by
  have hz2 : ¬ ((i : Int) = (n : Int)) := by omega
  have hz3 : (c : Int) < (n : Int) + 1 := by omega
  have hmx : Try.prog.follows .mixedOrders = true := mixed
  have hw1 : IntKind.i64.wrap ((i : Int) + 1) = (i : Int) + 1 := by rw [IntKind.wrap_i64]; omega
  have hb1 : (0 : Int) ≤ (i : Int) + 1 := by omega
  have hin : i ≤ n := by omega
  have htn : ((i : Int) + 1).toNat = i + 1 := by omega
  have hGi : ¬ (G = i) := by omega
  have hGim : ¬ (G = i + 1) := by omega
  have hci : ¬ (c = i) := by omega
  have hb3 : (i : Int) ≤ (n : Int) := by omega
  go_enter Try.func49, Try.ntmps49
  go_wp2_with (first
    | (at_builtin; refine Lib.wpList_append_run _ rfl _ _ _ _ rfl _ _ rfl rfl _ _ (hrz _) ?_)
    | (at_builtin; refine wpList_copy_runI _ rfl _ _ (22) (22) rfl _ _ rfl rfl (hcpA _ _) ?_))
  go_region_law_o (refine step_copy_runI rfl _ _ (22) (22) rfl _ _ (by simp [Act.eval, Act.put]) (by simp [Act.eval, Act.put]) (hcpB _ _ _) ?_)
  go_wp2
  go_ret
  exact ⟨rfl, rfl⟩
set_option maxHeartbeats 4000000 in
set_option maxRecDepth 1000000 in
/-- There is room. -/
theorem insW_roomA (bk n c i vb voff vc : Nat) (w W1 W2 : World) (hi : i < n) (hroom : n + 1 ≤ c) (hm : c ≤ 9223372036854775807)
    (hov : ∀ lb cb, (callFunc 68 #[.slice (some ⟨vb, voff, none⟩) 1 vc, .slice (some ⟨bk, (i + 1) * 3, none⟩) lb cb]).run Try.prog w = .ok (.value (.bool false)) w)
    (hcp1 : ∀ ty dc sc, (Builtin.copy_ #[25, 25] ty #[.slice (some ⟨bk, (i + 1) * 3, none⟩) (n - i) dc, .slice (some ⟨bk, i * 3, none⟩) (n + 1 - i) sc]).run Try.prog w.drew = .ok (goInt (n - i)) W1)
    (hcp2 : ∀ ty dc, (Builtin.copy_ #[25, 25] ty #[.slice (some ⟨bk, i * 3, none⟩) (n + 1 - i) dc, .slice (some ⟨vb, voff, none⟩) 1 vc]).run Try.prog W1 = .ok (goInt 1) W2) :
    Calls Try.prog 40 #[.slice (some ⟨bk, 0, none⟩) n c, .int .i64 i, .slice (some ⟨vb, voff, none⟩) 1 vc] w fun e w' =>
      e = .returned (.slice (some ⟨bk, 0, none⟩) (n + 1) c) ∧ w' = W2 := by
  have hz2 : ¬ ((i : Int) = (n : Int)) := by omega
  have hmx : Try.prog.follows .mixedOrders = true := mixed
  have hw1 : IntKind.i64.wrap ((i : Int) + 1) = (i : Int) + 1 := by rw [IntKind.wrap_i64]; omega
  have hb1 : (0 : Int) ≤ (i : Int) + 1 := by omega
  have hin : i ≤ n := by omega
  have htn : ((i : Int) + 1).toNat = i + 1 := by omega
  have hb2 : ¬ (c = i + 1) := by omega
  have hb3 : (i : Int) ≤ (n : Int) + 1 := by omega
  have hb4 : ¬ (c = i) := by omega
  go_enter Try.func40, Try.ntmps40
  go_wp2_with (simp only [hov])
  go_region_law_o (refine step_copy_runI rfl _ _ (25) (25) rfl _ _ (by simp [Act.eval, Act.put]) (by simp [Act.eval, Act.put]) (hcp1 _ _ _) ?_)
  go_wp2_with (at_builtin; refine wpList_copy_runI _ rfl _ _ (25) (25) rfl _ _ rfl rfl (hcp2 _ _) ?_)
  go_ret
  exact ⟨rfl, rfl⟩
set_option maxHeartbeats 4000000 in
set_option maxRecDepth 1000000 in
/-- There is none. -/
theorem insW_growA (bk n c i vb voff vc nb G : Nat) (w W1 W2 W3 : World) (hi : i < n) (hnc : n ≤ c) (hroom : c < n + 1) (hm : c ≤ 4611686018427387903) (hG : n + 1 ≤ G) (hGm : G ≤ 9223372036854775807)
    (hrz : ∀ ty, (Builtin.append_ #[25, 3] ty #[.slice (some ⟨bk, 0, none⟩) i c, .int .i64 ((n : Int) + 1 - (i : Int))]).run Try.prog w = .ok (.slice (some ⟨nb, 0, none⟩) (n + 1) G) W1)
    (hcpA : ∀ ty dc, (Builtin.copy_ #[25, 25] ty #[.slice (some ⟨nb, i * 3, none⟩) (n + 1 - i) dc, .slice (some ⟨vb, voff, none⟩) 1 vc]).run Try.prog W1 = .ok (goInt 1) W2)
    (hcpB : ∀ ty dc sc, (Builtin.copy_ #[25, 25] ty #[.slice (some ⟨nb, (i + 1) * 3, none⟩) (n - i) dc, .slice (some ⟨bk, i * 3, none⟩) (n - i) sc]).run Try.prog W2.drew = .ok (goInt (n - i)) W3) :
    Calls Try.prog 40 #[.slice (some ⟨bk, 0, none⟩) n c, .int .i64 i, .slice (some ⟨vb, voff, none⟩) 1 vc] w fun e w' =>
      e = .returned (.slice (some ⟨nb, 0, none⟩) (n + 1) G) ∧ w' = W3 := by
  have hz2 : ¬ ((i : Int) = (n : Int)) := by omega
  have hz3 : (c : Int) < (n : Int) + 1 := by omega
  have hmx : Try.prog.follows .mixedOrders = true := mixed
  have hw1 : IntKind.i64.wrap ((i : Int) + 1) = (i : Int) + 1 := by rw [IntKind.wrap_i64]; omega
  have hb1 : (0 : Int) ≤ (i : Int) + 1 := by omega
  have hin : i ≤ n := by omega
  have htn : ((i : Int) + 1).toNat = i + 1 := by omega
  have hGi : ¬ (G = i) := by omega
  have hGim : ¬ (G = i + 1) := by omega
  have hci : ¬ (c = i) := by omega
  have hb3 : (i : Int) ≤ (n : Int) := by omega
  go_enter Try.func40, Try.ntmps40
  go_wp2_with (first
    | (at_builtin; refine Lib.wpList_append_run _ rfl _ _ _ _ rfl _ _ rfl rfl _ _ (hrz _) ?_)
    | (at_builtin; refine wpList_copy_runI _ rfl _ _ (25) (25) rfl _ _ rfl rfl (hcpA _ _) ?_))
  go_region_law_o (refine step_copy_runI rfl _ _ (25) (25) rfl _ _ (by simp [Act.eval, Act.put]) (by simp [Act.eval, Act.put]) (hcpB _ _ _) ?_)
  go_wp2
  go_ret
  exact ⟨rfl, rfl⟩
end Go.Proofs.Ytkhgjbjkjefeoaa


/-
  overlay: the contracts of slices.Insert, of one element.
-/
namespace Go.Proofs.Ytkhgjbjkjefeoaa
open Go.RowKit
set_option linter.unusedSimpArgs false
set_option linter.unusedVariables false
set_option maxRecDepth 100000

set_option maxHeartbeats 4000000 in
theorem insEndI : GenOK Try.prog G0 49 (gInsEnd 3 1) := by
  refine gen_of_avcH (C := CE) sigCE mixCE [8, 9, 10, 11, 13, 14, 15, 16, 18, 19] Try.func49 rfl rfl rfl (by kernel_rfl) (fun avs H ob r' H' h hob => ?_)
  unfold gInsEnd at h
  split at h
  case h_2 => cases h
  rename_i l n i sx fx row
  split at h
  case h_2 => cases h
  rename_i b hb
  split at h
  case isFalse => cases h
  rename_i hc
  obtain ⟨hmu, hbe, hbz, hsx⟩ := hc
  injection h with h; injection h with e1 e2; injection e2 with e2 e3; subst e1 e2 e3
  obtain ⟨o1, o2, o3⟩ := hob
  subst o2 hsx
  obtain ⟨be, bs, br, bm, bd⟩ := b
  simp only at hmu hbe hbz o1
  subst hmu hbe hbz
  refine ⟨(by show 3 ≤ _; decide), ?_⟩
  simp [aev, gav, alook, litOf, litAV, mget, mhas, acopy, asrc, adst, cav, look, acallPure, abin, abinN, abinP, abinI, abinS, aun, aconv, afield, afieldAddr, aindexAddr, aindex, aslice, alow, ahigh, abuild, abuildGo, cellsOf, splice, fieldTy, alen, apick, amax, amin, aload, headV, aparts, abuildSlice, elParts, abytesStr, astore, amake, aappend, aclear, anew, arith, aresults, aresList, ares, spec0, spec1, spec2, spec3, spec4, eqCells, eqCell, argsρ, hb, o1]
  refine ⟨by omega, wEnd_here ?_⟩
  simp [aev, gav, alook, litOf, litAV, mget, mhas, acopy, asrc, adst, cav, look, acallPure, abin, abinN, abinP, abinI, abinS, aun, aconv, afield, afieldAddr, aindexAddr, aindex, aslice, alow, ahigh, abuild, abuildGo, cellsOf, splice, fieldTy, alen, apick, amax, amin, aload, headV, aparts, abuildSlice, elParts, abytesStr, astore, amake, aappend, aclear, anew, arith, aresults, aresList, ares, spec0, spec1, spec2, spec3, spec4, eqCells, eqCell]
  exact ⟨True, trivial⟩
theorem szI : szT Try.prog 3 = 1 := by kernel_rfl
theorem ovlI (w : World) (vb voff vc bk o lb cb : Nat) (va : Value) (cur : Array Value) (eb : TypeId) (hne : vb ≠ bk) (hca : w.cell? ⟨vb, voff, none⟩ = some va) (hb : w.heap[bk]? = some (.cells cur eb (0, 0))) :
    (callFunc 73 #[.slice (some ⟨vb, voff, none⟩) 1 vc, .slice (some ⟨bk, o, none⟩) lb cb]).run Try.prog w = .ok (.value (.bool false)) w := by
  rw [run_callFunc_extern (P := Try.prog) (f := 73) rfl (by kernel_rfl) (by kernel_rfl) (by kernel_rfl) (e := Extern.SlicesOverlaps.overlaps #[22, 22] #[4]) (by kernel_rfl),
    overlaps_apart (P := Try.prog) w 22 4 3 (by kernel_rfl) 1 (fun w => szI ▸ run_sizeOf (P := Try.prog) (t := 3) (by rw [szI]; decide) w) ⟨vb, voff, none⟩ ⟨bk, o, none⟩ 1 vc lb cb hne hca hb]
  rfl
theorem insPI : GenOK Try.prog G0 49 (gIns Int 3) :=
  ins_gen (z := Enc.cells (default : Int)) (t := 22) (tn := 3) (fo := 73) (by kernel_rfl) (by kernel_rfl) (by kernel_rfl) (by kernel_rfl) (Nat.le_of_ble_eq_true (by kernel_rfl)) insEndI ovlI
    (fun bk n c i vb voff vc w W1 W2 h1 h2 h3 h4 h5 h6 => insW_roomI bk n c i vb voff vc w W1 W2 h1 h2 h3 (by simpa using h4) (by simpa using h5) (by simpa using h6))
    (fun bk n c i vb voff vc nb G w W1 W2 W3 h1 h2 h3 h4 h5 h6 h7 h8 h9 => insW_growI bk n c i vb voff vc nb G w W1 W2 W3 h1 h2 h3 h4 h5 h6 h7 (by simpa using h8) (by simpa using h9))
set_option maxHeartbeats 4000000 in
theorem insEndA : GenOK Try.prog G0 40 (gInsEnd 29 3) := by
  refine gen_of_avcH (C := CE) sigCE mixCE [8, 9, 10, 11, 13, 14, 15, 16, 18, 19] Try.func40 rfl rfl rfl (by kernel_rfl) (fun avs H ob r' H' h hob => ?_)
  unfold gInsEnd at h
  split at h
  case h_2 => cases h
  rename_i l n i sx fx row
  split at h
  case h_2 => cases h
  rename_i b hb
  split at h
  case isFalse => cases h
  rename_i hc
  obtain ⟨hmu, hbe, hbz, hsx⟩ := hc
  injection h with h; injection h with e1 e2; injection e2 with e2 e3; subst e1 e2 e3
  obtain ⟨o1, o2, o3⟩ := hob
  subst o2 hsx
  obtain ⟨be, bs, br, bm, bd⟩ := b
  simp only at hmu hbe hbz o1
  subst hmu hbe hbz
  refine ⟨(by show 3 ≤ _; decide), ?_⟩
  simp [aev, gav, alook, litOf, litAV, mget, mhas, acopy, asrc, adst, cav, look, acallPure, abin, abinN, abinP, abinI, abinS, aun, aconv, afield, afieldAddr, aindexAddr, aindex, aslice, alow, ahigh, abuild, abuildGo, cellsOf, splice, fieldTy, alen, apick, amax, amin, aload, headV, aparts, abuildSlice, elParts, abytesStr, astore, amake, aappend, aclear, anew, arith, aresults, aresList, ares, spec0, spec1, spec2, spec3, spec4, eqCells, eqCell, argsρ, hb, o1]
  refine ⟨by omega, wEnd_here ?_⟩
  simp [aev, gav, alook, litOf, litAV, mget, mhas, acopy, asrc, adst, cav, look, acallPure, abin, abinN, abinP, abinI, abinS, aun, aconv, afield, afieldAddr, aindexAddr, aindex, aslice, alow, ahigh, abuild, abuildGo, cellsOf, splice, fieldTy, alen, apick, amax, amin, aload, headV, aparts, abuildSlice, elParts, abytesStr, astore, amake, aappend, aclear, anew, arith, aresults, aresList, ares, spec0, spec1, spec2, spec3, spec4, eqCells, eqCell]
  exact ⟨True, trivial⟩
theorem szA : szT Try.prog 29 = 3 := by kernel_rfl
theorem ovlA (w : World) (vb voff vc bk o lb cb : Nat) (va : Value) (cur : Array Value) (eb : TypeId) (hne : vb ≠ bk) (hca : w.cell? ⟨vb, voff, none⟩ = some va) (hb : w.heap[bk]? = some (.cells cur eb (0, 0))) :
    (callFunc 68 #[.slice (some ⟨vb, voff, none⟩) 1 vc, .slice (some ⟨bk, o, none⟩) lb cb]).run Try.prog w = .ok (.value (.bool false)) w := by
  rw [run_callFunc_extern (P := Try.prog) (f := 68) rfl (by kernel_rfl) (by kernel_rfl) (by kernel_rfl) (e := Extern.SlicesOverlaps.overlaps #[25, 25] #[4]) (by kernel_rfl),
    overlaps_apart (P := Try.prog) w 25 4 29 (by kernel_rfl) 3 (fun w => szA ▸ run_sizeOf (P := Try.prog) (t := 29) (by rw [szA]; decide) w) ⟨vb, voff, none⟩ ⟨bk, o, none⟩ 1 vc lb cb hne hca hb]
  rfl
theorem insPA : GenOK Try.prog G0 40 (gIns Adj 29) :=
  ins_gen (z := Enc.cells (default : Adj)) (t := 25) (tn := 3) (fo := 68) (by kernel_rfl) (by kernel_rfl) (by kernel_rfl) (by kernel_rfl) (Nat.le_of_ble_eq_true (by kernel_rfl)) insEndA ovlA
    (fun bk n c i vb voff vc w W1 W2 h1 h2 h3 h4 h5 h6 => insW_roomA bk n c i vb voff vc w W1 W2 h1 h2 h3 (by simpa using h4) (by simpa using h5) (by simpa using h6))
    (fun bk n c i vb voff vc nb G w W1 W2 W3 h1 h2 h3 h4 h5 h6 h7 h8 h9 => insW_growA bk n c i vb voff vc nb G w W1 W2 W3 h1 h2 h3 h4 h5 h6 h7 (by simpa using h8) (by simpa using h9))
end Go.Proofs.Ytkhgjbjkjefeoaa


/-
  overlay: the contracts of slices.Delete, of one element.
-/
namespace Go.Proofs.Ytkhgjbjkjefeoaa
open Go.RowKit
set_option linter.unusedSimpArgs false
set_option linter.unusedVariables false
set_option maxRecDepth 100000

def delL {α : Type} (l : List α) (i : Nat) : List α := l.take i ++ l.drop (i + 1)
theorem delL_length {α : Type} {l : List α} {i : Nat} (h : i < l.length) : (delL l i).length = l.length - 1 := by unfold delL; simp; omega
/-- One element taken out of a block of the call's own. -/
def gDel (α : Type) [Enc α] [Inhabited α] (e : TypeId) : List AV → List Blk → Option (Prop × AV × List Blk)
  | [.own l n, .int .i64 i, .int .i64 j], H => match H[l]? with
    | some b => if b.mu = true ∧ b.deep = true ∧ b.e = e ∧ b.sz = Enc.sz α then
        some (b.rows = encRows (unRows b.rows : List α) ∧ b.rows.length = n ∧ 0 ≤ i ∧ j = i + 1 ∧ i < n ∧ n < 1000000, .osl l n (Enc.sz α) 0 (n - 1), H.set l { b with rows := encRows (delL (unRows b.rows : List α) i.toNat ++ [default]) })
      else none
    | none => none
  | _, _ => none
theorem del_rows {α : Type} [Enc α] {l : List α} {z : α} {i : Nat} (h : i < l.length) :
    (((encRows l).take i ++ ((encRows l).drop (i + 1)).take (l.length - (i + 1)) ++ (encRows l).drop (i + (l.length - (i + 1)))).take (l.length - 1) ++ List.replicate 1 (Enc.cells z) ++ ((encRows l).take i ++ ((encRows l).drop (i + 1)).take (l.length - (i + 1)) ++ (encRows l).drop (i + (l.length - (i + 1)))).drop (l.length - 1 + 1)) = encRows (delL l i ++ [z]) := by
  have e1 : ((encRows l).drop (i + 1)).take (l.length - (i + 1)) = (encRows l).drop (i + 1) := List.take_of_length_le (by rw [List.length_drop, encRows_length]; omega)
  rw [e1]
  have e2 : ((encRows l).take i ++ (encRows l).drop (i + 1)).length = l.length - 1 := by simp; omega
  have e3 : ((encRows l).take i ++ (encRows l).drop (i + 1) ++ (encRows l).drop (i + (l.length - (i + 1)))).length = l.length := by simp; omega
  have e4 : ((encRows l).take i ++ (encRows l).drop (i + 1) ++ (encRows l).drop (i + (l.length - (i + 1)))).drop (l.length - 1 + 1) = [] := List.drop_eq_nil_of_le (by rw [e3]; omega)
  rw [List.take_left' e2, e4]
  unfold delL encRows
  simp

theorem app_self {C : Ctx} {H : List Blk} {t e : TypeId} {l n sz len off' len' : Nat} {b : Blk} (he : elT C.P t = some e) (hz : (zT C.P e).isNone = false) (hb : H[l]? = some b) (hne : len ≠ n) (h1 : sz = szT C.P e) (h2 : b.mu = true) (h3 : b.e = e) (h4 : b.sz = szT C.P e) :
    aappO C H t (.osl l n sz 0 len) (.osl l n sz off' len') = some (b.rows.length = n ∧ len + len' ≤ n, .osl l n sz 0 (len + len'), H.set l { b with rows := b.rows.take len ++ (b.rows.drop off').take len' ++ b.rows.drop (len + len') }) := by
  subst h1
  unfold aappO
  simp [he, hz, hb, hne, h2, h3, h4]

set_option maxHeartbeats 4000000 in
theorem delPI : GenOK Try.prog G0 37 (gDel Int 3) := by
  refine gen_of_avcH (C := CE) sigCE mixCE [5] Try.func37 rfl rfl rfl (by kernel_rfl) (fun avs H ob r' H' h hob => ?_)
  unfold gDel at h
  split at h
  case h_2 => cases h
  rename_i l n i j
  split at h
  case h_2 => cases h
  rename_i b hb
  split at h
  case isFalse => cases h
  rename_i hc
  obtain ⟨hmu, hdp, hbe, hbz⟩ := hc
  injection h with h; injection h with e1 e2; injection e2 with e2 e3; subst e1 e2 e3
  obtain ⟨o1, o2, o3, o4, o5, o6⟩ := hob
  obtain ⟨i, rfl⟩ := Int.eq_ofNat_of_zero_le o3
  obtain ⟨be, bs, br, bm, bd⟩ := b
  obtain rfl : bs = 1 := hbz
  simp only at hmu hdp hbe o1 o2
  subst hmu hdp hbe o4
  generalize (unRows br : List Int) = xs at o1 ⊢
  subst o1
  rw [encRows_length] at o2
  subst o2
  refine ⟨(by show 3 ≤ _; decide), ?_⟩
  have hne : ¬ ((i : Int) = (i : Int) + 1) := by omega
  have j1 : I64 ((i : Int) + 1) := by unfold I64; omega
  simp [aev, gav, alook, litOf, litAV, mget, mhas, acopy, asrc, adst, cav, look, acallPure, abin, abinN, abinP, abinI, abinS, aun, aconv, afield, afieldAddr, aindexAddr, aindex, aslice, alow, ahigh, abuild, abuildGo, cellsOf, splice, fieldTy, alen, apick, amax, amin, aload, headV, aparts, abuildSlice, elParts, abytesStr, astore, amake, aappend, aclear, anew, arith, aresults, aresList, ares, spec0, spec1, spec2, spec3, spec4, eqCells, eqCell, argsρ, hb, hne]
  refine ⟨by omega, ?_⟩
  refine AW_regionF sigCE mixCE [.pure, .pure, .pure, .pure, .pure, .pure, .eff, .pure] [[],[],[1,0],[],[],[4,3],[3,4,5,0,1,2],[2,1,0,5,4,3,6]] (by kernel_rfl) (by kernel_rfl) (by kernel_rfl) (by kernel_rfl) ?_
  have hl : l < H.length := (List.getElem?_eq_some_iff.1 hb).1
  have hs1 : i + (xs.length - (i + 1)) = xs.length - 1 := by omega
  obtain ⟨M, hM⟩ : ∃ M, M = (encRows xs).take i ++ ((encRows xs).drop (i + 1)).take (xs.length - (i + 1)) ++ (encRows xs).drop (i + (xs.length - (i + 1))) := ⟨_, rfl⟩
  have hMl : M.length = xs.length := by rw [hM]; simp; omega
  have hfin := del_rows (l := xs) (z := (default : Int)) (i := i) (by omega)
  rw [← hM] at hfin
  have hap : aappO CE H 22 (.osl l xs.length 1 0 i) (.osl l xs.length 1 (i + 1) (xs.length - (i + 1))) = some (True, .osl l xs.length 1 0 (xs.length - 1), H.set l ⟨3, 1, M, true, true⟩) := by
    rw [app_self (C := CE) (H := H) (t := 22) (e := 3) (l := l) (n := xs.length) (sz := 1) (len := i) (off' := i + 1) (len' := xs.length - (i + 1)) (by kernel_rfl) (by kernel_rfl) hb (by omega) (by kernel_rfl) rfl rfl (by kernel_rfl)]
    rw [hM]
    have hp : ((encRows xs).length = xs.length ∧ i + (xs.length - (i + 1)) ≤ xs.length) = True := eq_true ⟨encRows_length _, by omega⟩
    simp only [hp]
    rw [hs1]
  have hn1 : xs.length - (xs.length - 1) = 1 := by omega
  have hge : xs.length - 1 + 1 = xs.length := by omega
  simp [aev, gav, alook, litOf, litAV, mget, mhas, acopy, asrc, adst, cav, look, acallPure, abin, abinN, abinP, abinI, abinS, aun, aconv, afield, afieldAddr, aindexAddr, aindex, aslice, alow, ahigh, abuild, abuildGo, cellsOf, splice, fieldTy, alen, apick, amax, amin, aload, headV, aparts, abuildSlice, elParts, abytesStr, astore, amake, aappend, aclear, anew, arith, aresults, aresList, ares, spec0, spec1, spec2, spec3, spec4, eqCells, eqCell, hb, hap, hl, hMl]
  refine ⟨by omega, by omega, wEnd_here ?_⟩
  simp [aev, gav, alook, litOf, litAV, mget, mhas, acopy, asrc, adst, cav, look, acallPure, abin, abinN, abinP, abinI, abinS, aun, aconv, afield, afieldAddr, aindexAddr, aindex, aslice, alow, ahigh, abuild, abuildGo, cellsOf, splice, fieldTy, alen, apick, amax, amin, aload, headV, aparts, abuildSlice, elParts, abytesStr, astore, amake, aappend, aclear, anew, arith, aresults, aresList, ares, spec0, spec1, spec2, spec3, spec4, eqCells, eqCell]
  rw [hge] at hfin
  refine ⟨⟨True, trivial⟩, ?_⟩
  congr 2
  rw [hn1]
  simpa [show (default : Int) = 0 from rfl] using hfin
set_option maxHeartbeats 4000000 in
theorem delPA : GenOK Try.prog G0 47 (gDel Adj 29) := by
  refine gen_of_avcH (C := CE) sigCE mixCE [5] Try.func47 rfl rfl rfl (by kernel_rfl) (fun avs H ob r' H' h hob => ?_)
  unfold gDel at h
  split at h
  case h_2 => cases h
  rename_i l n i j
  split at h
  case h_2 => cases h
  rename_i b hb
  split at h
  case isFalse => cases h
  rename_i hc
  obtain ⟨hmu, hdp, hbe, hbz⟩ := hc
  injection h with h; injection h with e1 e2; injection e2 with e2 e3; subst e1 e2 e3
  obtain ⟨o1, o2, o3, o4, o5, o6⟩ := hob
  obtain ⟨i, rfl⟩ := Int.eq_ofNat_of_zero_le o3
  obtain ⟨be, bs, br, bm, bd⟩ := b
  obtain rfl : bs = 3 := hbz
  simp only at hmu hdp hbe o1 o2
  subst hmu hdp hbe o4
  generalize (unRows br : List Adj) = xs at o1 ⊢
  subst o1
  rw [encRows_length] at o2
  subst o2
  refine ⟨(by show 3 ≤ _; decide), ?_⟩
  have hne : ¬ ((i : Int) = (i : Int) + 1) := by omega
  have j1 : I64 ((i : Int) + 1) := by unfold I64; omega
  simp [aev, gav, alook, litOf, litAV, mget, mhas, acopy, asrc, adst, cav, look, acallPure, abin, abinN, abinP, abinI, abinS, aun, aconv, afield, afieldAddr, aindexAddr, aindex, aslice, alow, ahigh, abuild, abuildGo, cellsOf, splice, fieldTy, alen, apick, amax, amin, aload, headV, aparts, abuildSlice, elParts, abytesStr, astore, amake, aappend, aclear, anew, arith, aresults, aresList, ares, spec0, spec1, spec2, spec3, spec4, eqCells, eqCell, argsρ, hb, hne]
  refine ⟨by omega, ?_⟩
  refine AW_regionF sigCE mixCE [.pure, .pure, .pure, .pure, .pure, .pure, .eff, .pure] [[],[],[1,0],[],[],[4,3],[3,4,5,0,1,2],[2,1,0,5,4,3,6]] (by kernel_rfl) (by kernel_rfl) (by kernel_rfl) (by kernel_rfl) ?_
  have hl : l < H.length := (List.getElem?_eq_some_iff.1 hb).1
  have hs1 : i + (xs.length - (i + 1)) = xs.length - 1 := by omega
  obtain ⟨M, hM⟩ : ∃ M, M = (encRows xs).take i ++ ((encRows xs).drop (i + 1)).take (xs.length - (i + 1)) ++ (encRows xs).drop (i + (xs.length - (i + 1))) := ⟨_, rfl⟩
  have hMl : M.length = xs.length := by rw [hM]; simp; omega
  have hfin := del_rows (l := xs) (z := (default : Adj)) (i := i) (by omega)
  rw [← hM] at hfin
  have hap : aappO CE H 25 (.osl l xs.length 3 0 i) (.osl l xs.length 3 (i + 1) (xs.length - (i + 1))) = some (True, .osl l xs.length 3 0 (xs.length - 1), H.set l ⟨29, 3, M, true, true⟩) := by
    rw [app_self (C := CE) (H := H) (t := 25) (e := 29) (l := l) (n := xs.length) (sz := 3) (len := i) (off' := i + 1) (len' := xs.length - (i + 1)) (by kernel_rfl) (by kernel_rfl) hb (by omega) (by kernel_rfl) rfl rfl (by kernel_rfl)]
    rw [hM]
    have hp : ((encRows xs).length = xs.length ∧ i + (xs.length - (i + 1)) ≤ xs.length) = True := eq_true ⟨encRows_length _, by omega⟩
    simp only [hp]
    rw [hs1]
  have hn1 : xs.length - (xs.length - 1) = 1 := by omega
  have hge : xs.length - 1 + 1 = xs.length := by omega
  simp [aev, gav, alook, litOf, litAV, mget, mhas, acopy, asrc, adst, cav, look, acallPure, abin, abinN, abinP, abinI, abinS, aun, aconv, afield, afieldAddr, aindexAddr, aindex, aslice, alow, ahigh, abuild, abuildGo, cellsOf, splice, fieldTy, alen, apick, amax, amin, aload, headV, aparts, abuildSlice, elParts, abytesStr, astore, amake, aappend, aclear, anew, arith, aresults, aresList, ares, spec0, spec1, spec2, spec3, spec4, eqCells, eqCell, hb, hap, hl, hMl]
  refine ⟨by omega, by omega, wEnd_here ?_⟩
  simp [aev, gav, alook, litOf, litAV, mget, mhas, acopy, asrc, adst, cav, look, acallPure, abin, abinN, abinP, abinI, abinS, aun, aconv, afield, afieldAddr, aindexAddr, aindex, aslice, alow, ahigh, abuild, abuildGo, cellsOf, splice, fieldTy, alen, apick, amax, amin, aload, headV, aparts, abuildSlice, elParts, abytesStr, astore, amake, aappend, aclear, anew, arith, aresults, aresList, ares, spec0, spec1, spec2, spec3, spec4, eqCells, eqCell]
  rw [hge] at hfin
  refine ⟨⟨True, trivial⟩, ?_⟩
  congr 2
  rw [hn1]
  simpa [show (default : Adj) = Adj.mk 0 0 0 from rfl] using hfin
def gDelI := gDel Int 3
def gDelA := gDel Adj 29
def gInsI := gIns Int 3
def gInsA := gIns Adj 29
end Go.Proofs.Ytkhgjbjkjefeoaa

/-
  overlay: an element put at its place or taken out, in plain words.
-/
namespace Go.Proofs.Ytkhgjbjkjefeoaa
open Go.RowKit
set_option linter.unusedSimpArgs false
set_option linter.unusedVariables false

theorem insL_cons {α : Type} (b : α) (l : List α) (i : Nat) (x : α) : insL (b :: l) (i + 1) x = b :: insL l i x := by unfold insL; simp
theorem insL_zero {α : Type} (l : List α) (x : α) : insL l 0 x = x :: l := by unfold insL; simp
theorem insA_lb {a : Adj} : ∀ {l : List Adj}, a ∉ l → insL l (lbA l a) a = insA a l
  | [], _ => rfl
  | b :: r, h => by
    have hb : a ≠ b := fun e => h (by rw [e]; exact List.mem_cons_self)
    have ih := insA_lb (l := r) (fun h' => h (List.mem_cons_of_mem _ h'))
    unfold insA lbA
    rcases lt_tri a b with h1 | h1 | h1
    · rw [if_pos h1, List.takeWhile_cons, if_neg (by simpa using lt_asymm h1)]
      exact insL_zero _ _
    · exact absurd h1 hb
    · rw [if_neg (lt_asymm h1), List.takeWhile_cons, if_pos (by simpa using h1), List.length_cons, insL_cons]
      unfold lbA at ih
      rw [ih]
theorem insI_lb {a : Int} : ∀ {l : List Int}, a ∉ l → insL l (lbd l a) a = insI a l
  | [], _ => rfl
  | b :: r, h => by
    have hb : a ≠ b := fun e => h (by rw [e]; exact List.mem_cons_self)
    have ih := insI_lb (l := r) (fun h' => h (List.mem_cons_of_mem _ h'))
    unfold insI lbd
    by_cases h1 : a < b
    · rw [if_pos h1, List.takeWhile_cons, if_neg (by simp; omega)]
      exact insL_zero _ _
    · rw [if_neg h1, List.takeWhile_cons, if_pos (by simp; omega), List.length_cons, insL_cons]
      unfold lbd at ih
      rw [ih]
/-- All but one pass. -/
theorem filter_del {α : Type} [Inhabited α] {p : α → Bool} {l : List α} {k : Nat} (hk : k < l.length) (h0 : p (ix l k) = false) (h1 : ∀ j, j < l.length → j ≠ k → p (ix l j) = true) : l.filter p = delL l k := by
  have e : l = l.take k ++ ix l k :: l.drop (k + 1) := by
    rw [ix_lt hk, ← List.drop_eq_getElem_cons hk, List.take_append_drop]
  unfold delL
  conv => lhs; rw [e]
  rw [List.filter_append, List.filter_cons, h0]
  simp only [Bool.false_eq_true, if_false]
  rw [List.filter_eq_self.2 fun x hx => ?_, List.filter_eq_self.2 fun x hx => ?_]
  · obtain ⟨j, hj, rfl⟩ := List.getElem_of_mem hx
    rw [List.length_drop] at hj
    rw [List.getElem_drop]
    have := h1 (k + 1 + j) (by omega) (by omega)
    rwa [ix_lt (show k + 1 + j < l.length by omega)] at this
  · obtain ⟨j, hj, rfl⟩ := List.getElem_of_mem hx
    rw [List.length_take] at hj
    rw [List.getElem_take]
    have := h1 j (by omega) (by omega)
    rwa [ix_lt (show j < l.length by omega)] at this
theorem del_outI {l : List Int} (hu : UpI l) {v : Int} {k : Nat} (hk : k < l.length) (hv : ix l k = v) : delL l k = outI l v := by
  unfold outI
  refine (filter_del hk (by unfold neI; simp [hv]) fun j hj hne => ?_).symm
  unfold neI
  have : ix l j ≠ v := by
    rw [← hv]
    rcases Nat.lt_or_gt_of_ne hne with h | h
    · have := hu.pw j k h hk; omega
    · have := hu.pw k j h hj; omega
  simpa using this
theorem del_neE {l : List Adj} (hd : DisE l) {v : Int} {k : Nat} (hk : k < l.length) (hv : (ix l k).Edge = v) : delL l k = l.filter (neE v) := by
  refine (filter_del hk (by unfold neE; simp [hv]) fun j hj hne => ?_).symm
  unfold neE
  have : (ix l j).Edge ≠ v := by
    rw [← hv]
    rcases Nat.lt_or_gt_of_ne hne with h | h
    · exact hd j k h hk
    · exact fun e => hd k j h hj e.symm
  simpa using this
theorem has_ents {o : Ov} {v : Int} : HasE (entsO o) v ↔ HasE (keptO o) v ∨ HasE o.Adds v := by
  unfold entsO HasE
  constructor
  · rintro ⟨x, hx, e⟩
    rcases List.mem_append.1 ((sortA_perm _).mem_iff.1 hx) with h | h
    · exact .inl ⟨x, h, e⟩
    · exact .inr ⟨x, h, e⟩
  · rintro (⟨x, hx, e⟩ | ⟨x, hx, e⟩)
    · exact ⟨x, (sortA_perm _).mem_iff.2 (List.mem_append_left _ hx), e⟩
    · exact ⟨x, (sortA_perm _).mem_iff.2 (List.mem_append_right _ hx), e⟩
theorem UpI.srt {l : List Int} (h : UpI l) : SortedZ l := fun i j hij hj => by have := h.pw i j hij hj; omega
end Go.Proofs.Ytkhgjbjkjefeoaa


/-
  overlay: Insert and Delete of the program.
-/
namespace Go.Proofs.Ytkhgjbjkjefeoaa
open Go.RowKit
set_option linter.unusedSimpArgs false
set_option linter.unusedVariables false
set_option maxRecDepth 100000

noncomputable def CIp : Ctx := mkC Try.prog G0 [(15, .pure sValO), (30, .pure sForm), (32, .pure sEnts), (31, .pure sFind), (33, .gen (genNew nCloneO)), (34, .pure sIdxI), (36, .pure sEntC), (35, .pure sHasA), (37, .gen gDelI), (38, .pure sBinA), (40, .gen gInsA)]
@[simp] theorem CIp_P : CIp.P = Try.prog := rfl
@[simp] theorem CIp_G : CIp.G = G0 := rfl
@[simp] theorem CIp_1 : CIp.S 15 = .pure sValO := rfl
@[simp] theorem CIp_2 : CIp.S 30 = .pure sForm := rfl
@[simp] theorem CIp_3 : CIp.S 32 = .pure sEnts := rfl
@[simp] theorem CIp_4 : CIp.S 31 = .pure sFind := rfl
@[simp] theorem CIp_5 : CIp.S 33 = .gen (genNew nCloneO) := rfl
@[simp] theorem CIp_6 : CIp.S 34 = .pure sIdxI := rfl
@[simp] theorem CIp_7 : CIp.S 36 = .pure sEntC := rfl
@[simp] theorem CIp_8 : CIp.S 35 = .pure sHasA := rfl
@[simp] theorem CIp_9 : CIp.S 37 = .gen gDelI := rfl
@[simp] theorem CIp_10 : CIp.S 38 = .pure sBinA := rfl
@[simp] theorem CIp_11 : CIp.S 40 = .gen gInsA := rfl
theorem mixCIp : CIp.P.follows .mixedOrders = true := mixed
theorem sigCIp : SigOK CIp := sigOK_cons (entryPure (validOP) Try.func15 rfl (by decide)) (sigOK_cons (entryPure (formP) Try.func30 rfl (by decide)) (sigOK_cons (entryPure (entsP) Try.func32 rfl (by decide)) (sigOK_cons (entryPure (findP) Try.func31 rfl (by decide)) (sigOK_cons (entryGen (cloneO) Try.func33 rfl (by decide)) (sigOK_cons (entryPure (idxI) Try.func34 rfl (by decide)) (sigOK_cons (entryPure (entCP) Try.func36 rfl (by decide)) (sigOK_cons (entryPure (conA) Try.func35 rfl (by decide)) (sigOK_cons (entryGen (delPI) Try.func37 rfl (by decide)) (sigOK_cons (entryPure (binA) Try.func38 rfl (by decide)) (sigOK_cons (entryGen (insPA) Try.func40 rfl (by decide)) (sigOK_nil _ _)))))))))))
set_option maxHeartbeats 32000000 in
theorem insPO : PureOK Try.prog G0 10 sIns := by
  refine pureH2 (C := CIp) sigCIp mixCIp Try.func10 rfl rfl rfl [5, 9] (by kernel_rfl) (by decide) (fun o a ho => ?_)
  obtain ⟨hw, s1, s2, s3⟩ := ho
  obtain ⟨r, hr⟩ : ∃ r, insO o a = r := ⟨_, rfl⟩
  rw [hr]
  unfold insO at hr
  cases hv : voB o with
  | false =>
    rw [if_pos hv] at hr
    subst hr
    simp [aev, gav, alook, litOf, litAV, mget, mhas, acopy, asrc, adst, cav, look, acallPure, abin, abinN, abinP, abinI, abinS, aun, aconv, afield, afieldAddr, aindexAddr, aindex, aslice, alow, ahigh, abuild, abuildGo, cellsOf, splice, fieldTy, alen, apick, amax, amin, aload, headV, aparts, abuildSlice, elParts, abytesStr, astore, amake, aappend, aclear, anew, arith, aresults, aresList, ares, spec0, spec1, spec2, spec3, spec4, eqCells, eqCell, sValO, hw, hv, ovZ]
  | true =>
    rw [if_neg (by rw [hv]; decide)] at hr
    by_cases hf : FormA a
    case neg =>
      rw [if_pos hf] at hr
      subst hr
      simp [aev, gav, alook, litOf, litAV, mget, mhas, acopy, asrc, adst, cav, look, acallPure, abin, abinN, abinP, abinI, abinS, aun, aconv, afield, afieldAddr, aindexAddr, aindex, aslice, alow, ahigh, abuild, abuildGo, cellsOf, splice, fieldTy, alen, apick, amax, amin, aload, headV, aparts, abuildSlice, elParts, abytesStr, astore, amake, aappend, aclear, anew, arith, aresults, aresList, ares, spec0, spec1, spec2, spec3, spec4, eqCells, eqCell, sValO, hw, hv, sForm, hf, ovZ]
    rw [if_neg (not_not_intro hf)] at hr
    simp [aev, gav, alook, litOf, litAV, mget, mhas, acopy, asrc, adst, cav, look, acallPure, abin, abinN, abinP, abinI, abinS, aun, aconv, afield, afieldAddr, aindexAddr, aindex, aslice, alow, ahigh, abuild, abuildGo, cellsOf, splice, fieldTy, alen, apick, amax, amin, aload, headV, aparts, abuildSlice, elParts, abytesStr, astore, amake, aappend, aclear, anew, arith, aresults, aresList, ares, spec0, spec1, spec2, spec3, spec4, eqCells, eqCell, sValO, hw, hv, sForm, hf]
    have hlo : LenO o := hw.1
    have hlc : LenC o.Base := hlo.1
    have hel : Len (entsO o) := by
      have := ents_len o
      have := kept_small o
      unfold Len
      omega
    refine AW_regionF sigCIp mixCIp [.read, .read, .pure, .read, .read, .pure, .pure] [[],[0],[],[2],[2,3,0,1],[1,0,3,2,4],[4,2,3,0,1,5]] (by kernel_rfl) (by kernel_rfl) (by kernel_rfl) (by kernel_rfl) ?_
    by_cases he : HasE (entsO o) a.Edge
    · rw [if_pos he] at hr
      subst hr
      simp [aev, gav, alook, litOf, litAV, mget, mhas, acopy, asrc, adst, cav, look, acallPure, abin, abinN, abinP, abinI, abinS, aun, aconv, afield, afieldAddr, aindexAddr, aindex, aslice, alow, ahigh, abuild, abuildGo, cellsOf, splice, fieldTy, alen, apick, amax, amin, aload, headV, aparts, abuildSlice, elParts, abytesStr, astore, amake, aappend, aclear, anew, arith, aresults, aresList, ares, spec0, spec1, spec2, spec3, spec4, eqCells, eqCell, sEnts, hlo, sFind, hel, he, idxE_pos, ovZ]
    rw [if_neg he] at hr
    simp [aev, gav, alook, litOf, litAV, mget, mhas, acopy, asrc, adst, cav, look, acallPure, abin, abinN, abinP, abinI, abinS, aun, aconv, afield, afieldAddr, aindexAddr, aindex, aslice, alow, ahigh, abuild, abuildGo, cellsOf, splice, fieldTy, alen, apick, amax, amin, aload, headV, aparts, abuildSlice, elParts, abytesStr, astore, amake, aappend, aclear, anew, arith, aresults, aresList, ares, spec0, spec1, spec2, spec3, spec4, eqCells, eqCell, sEnts, hlo, sFind, hel, he, idxE_pos, nCloneO, sIdxI, cloB, cloV, bI, bA, hlo.2.2]
    have hvo := voB_true.1 hv
    have hal : Len o.Adds := hlo.2.1
    have hcl : Len (entC o.Base) := entC_len hlc
    have hna : a ∉ o.Adds := fun h => he (has_ents.2 (.inr ⟨a, h, rfl⟩))
    have a1 : o.Adds.length ≤ 1000000 := by omega
    have a2 : lbA o.Adds a ≤ o.Adds.length := lbA_le _ _
    have a3 : o.Adds.length < 1000000 := by omega
    by_cases hd : a.Edge ∈ o.Dels
    · obtain ⟨k, hk, hkl, hkp, _⟩ := idx_spec (p := fun x : Int => decide (x = a.Edge)) (l := o.Dels) (by have := idx_mem o.Dels a.Edge; simpa [hd] using this)
      have hkp' : ix o.Dels k = a.Edge := by simpa using hkp
      rw [hk]
      have k1 : I64 ((k : Int) + 1) := by unfold I64; omega
      have k2 : o.Dels.length < 1000000 := by omega
      refine AW_regionF sigCIp mixCIp [.pure, .pure, .pure, .pure, .read, .read, .read, .read, .pure] [[],[0],[0,1],[1,0,2],[2,0,1,3],[3,1,0,2,4],[1,0,2],[6,4,2,0,1,3,5],[5,3,4,6,7,1,0,2]] (by kernel_rfl) (by kernel_rfl) (by kernel_rfl) (by kernel_rfl) ?_
      by_cases hm : a ∈ entC o.Base
      · rw [if_pos hm] at hr
        subst hr
        simp [aev, gav, alook, litOf, litAV, mget, mhas, acopy, asrc, adst, cav, look, acallPure, abin, abinN, abinP, abinI, abinS, aun, aconv, afield, afieldAddr, aindexAddr, aindex, aslice, alow, ahigh, abuild, abuildGo, cellsOf, splice, fieldTy, alen, apick, amax, amin, aload, headV, aparts, abuildSlice, elParts, abytesStr, astore, amake, aappend, aclear, anew, arith, aresults, aresList, ares, spec0, spec1, spec2, spec3, spec4, eqCells, eqCell, sEntC, hlc, sHasA, hcl, hm, k1, gDelI, gDel, hkl, k2, del_outI hvo.du hkl hkp']
        have hL := delL_length hkl
        rw [del_outI hvo.du hkl hkp'] at hL
        rw [if_pos (by omega), List.take_left' hL]
        rfl
      · rw [if_neg hm] at hr
        subst hr
        simp [aev, gav, alook, litOf, litAV, mget, mhas, acopy, asrc, adst, cav, look, acallPure, abin, abinN, abinP, abinI, abinS, aun, aconv, afield, afieldAddr, aindexAddr, aindex, aslice, alow, ahigh, abuild, abuildGo, cellsOf, splice, fieldTy, alen, apick, amax, amin, aload, headV, aparts, abuildSlice, elParts, abytesStr, astore, amake, aappend, aclear, anew, arith, aresults, aresList, ares, spec0, spec1, spec2, spec3, spec4, eqCells, eqCell, sEntC, hlc, sHasA, hcl, hm, k1, a1, a2, a3, hvo.u, gInsA, gIns, insA_lb hna]
        rw [if_pos (insA_len _ _)]
        rfl
    · have hm : a ∉ entC o.Base := fun h => he (has_ents.2 (.inl (kept_has.2 ⟨⟨a, h, rfl⟩, hd⟩)))
      rw [if_neg hm] at hr
      subst hr
      have hk : ¬ 0 ≤ idxL (fun x => decide (x = a.Edge)) o.Dels := by have := idx_mem o.Dels a.Edge; simpa [hd] using this
      generalize idxL (fun x => decide (x = a.Edge)) o.Dels = k at hk ⊢
      refine AW_regionF sigCIp mixCIp [.pure, .pure, .pure, .pure, .read, .read, .read, .read, .pure] [[],[0],[0,1],[1,0,2],[2,0,1,3],[3,1,0,2,4],[1,0,2],[6,4,2,0,1,3,5],[5,3,4,6,7,1,0,2]] (by kernel_rfl) (by kernel_rfl) (by kernel_rfl) (by kernel_rfl) ?_
      simp [aev, gav, alook, litOf, litAV, mget, mhas, acopy, asrc, adst, cav, look, acallPure, abin, abinN, abinP, abinI, abinS, aun, aconv, afield, afieldAddr, aindexAddr, aindex, aslice, alow, ahigh, abuild, abuildGo, cellsOf, splice, fieldTy, alen, apick, amax, amin, aload, headV, aparts, abuildSlice, elParts, abytesStr, astore, amake, aappend, aclear, anew, arith, aresults, aresList, ares, spec0, spec1, spec2, spec3, spec4, eqCells, eqCell, hk, a1, a2, a3, hvo.u, gInsA, gIns, insA_lb hna]
      rw [if_pos (insA_len _ _)]
      rfl
noncomputable def CDp : Ctx := mkC Try.prog G0 [(15, .pure sValO), (32, .pure sEnts), (31, .pure sFind), (33, .gen (genNew nCloneO)), (47, .gen gDelA), (48, .pure sBin), (49, .gen gInsI)]
@[simp] theorem CDp_P : CDp.P = Try.prog := rfl
@[simp] theorem CDp_G : CDp.G = G0 := rfl
@[simp] theorem CDp_1 : CDp.S 15 = .pure sValO := rfl
@[simp] theorem CDp_2 : CDp.S 32 = .pure sEnts := rfl
@[simp] theorem CDp_3 : CDp.S 31 = .pure sFind := rfl
@[simp] theorem CDp_4 : CDp.S 33 = .gen (genNew nCloneO) := rfl
@[simp] theorem CDp_5 : CDp.S 47 = .gen gDelA := rfl
@[simp] theorem CDp_6 : CDp.S 48 = .pure sBin := rfl
@[simp] theorem CDp_7 : CDp.S 49 = .gen gInsI := rfl
theorem mixCDp : CDp.P.follows .mixedOrders = true := mixed
theorem sigCDp : SigOK CDp := sigOK_cons (entryPure (validOP) Try.func15 rfl (by decide)) (sigOK_cons (entryPure (entsP) Try.func32 rfl (by decide)) (sigOK_cons (entryPure (findP) Try.func31 rfl (by decide)) (sigOK_cons (entryGen (cloneO) Try.func33 rfl (by decide)) (sigOK_cons (entryGen (delPA) Try.func47 rfl (by decide)) (sigOK_cons (entryPure (binP) Try.func48 rfl (by decide)) (sigOK_cons (entryGen (insPI) Try.func49 rfl (by decide)) (sigOK_nil _ _)))))))
set_option maxHeartbeats 32000000 in
theorem delPO : PureOK Try.prog G0 12 sDel := by
  refine pureH2 (C := CDp) sigCDp mixCDp Try.func12 rfl rfl rfl [] (by kernel_rfl) (by decide) (fun o v ho => ?_)
  obtain ⟨hw, s1, s2, s3⟩ := ho
  have hlo : LenO o := hw.1
  obtain ⟨r, hr⟩ : ∃ r, delO o v = r := ⟨_, rfl⟩
  rw [hr]
  unfold delO at hr
  cases hv : voB o with
  | false =>
    rw [if_pos hv] at hr
    subst hr
    simp [aev, gav, alook, litOf, litAV, mget, mhas, acopy, asrc, adst, cav, look, acallPure, abin, abinN, abinP, abinI, abinS, aun, aconv, afield, afieldAddr, aindexAddr, aindex, aslice, alow, ahigh, abuild, abuildGo, cellsOf, splice, fieldTy, alen, apick, amax, amin, aload, headV, aparts, abuildSlice, elParts, abytesStr, astore, amake, aappend, aclear, anew, arith, aresults, aresList, ares, spec0, spec1, spec2, spec3, spec4, eqCells, eqCell, sValO, hw, hv, ovZ]
  | true =>
    rw [if_neg (by rw [hv]; decide)] at hr
    have hvo := voB_true.1 hv
    have hel : Len (entsO o) := by
      have := ents_len o
      have := kept_small o
      unfold Len
      omega
    have hal : Len o.Adds := hlo.2.1
    by_cases he : HasE (entsO o) v
    case neg =>
      rw [if_pos he] at hr
      subst hr
      have hk : idxE (entsO o) v < 0 := by
        have := (not_congr (idxE_pos (l := entsO o) (v := v))).2 he
        omega
      simp [aev, gav, alook, litOf, litAV, mget, mhas, acopy, asrc, adst, cav, look, acallPure, abin, abinN, abinP, abinI, abinS, aun, aconv, afield, afieldAddr, aindexAddr, aindex, aslice, alow, ahigh, abuild, abuildGo, cellsOf, splice, fieldTy, alen, apick, amax, amin, aload, headV, aparts, abuildSlice, elParts, abytesStr, astore, amake, aappend, aclear, anew, arith, aresults, aresList, ares, spec0, spec1, spec2, spec3, spec4, eqCells, eqCell, sValO, hw, hv, sEnts, hlo, sFind, hel, hk, ovZ]
    rw [if_neg (not_not_intro he)] at hr
    have hk0 : ¬ idxE (entsO o) v < 0 := by
      have := idxE_pos.2 he
      omega
    by_cases hA : HasE o.Adds v
    · rw [if_pos hA] at hr
      subst hr
      obtain ⟨k, hk, hkl, hkp, _⟩ := idx_spec (p := fun x : Adj => decide (x.Edge = v)) (l := o.Adds) (idxE_pos.2 hA)
      have hkp' : (ix o.Adds k).Edge = v := by simpa using hkp
      have hk : idxE o.Adds v = k := hk
      have k1 : I64 ((k : Int) + 1) := by unfold I64; omega
      have k2 : o.Adds.length < 1000000 := by omega
      have hdel := del_neE hvo.d hkl hkp'
      simp [aev, gav, alook, litOf, litAV, mget, mhas, acopy, asrc, adst, cav, look, acallPure, abin, abinN, abinP, abinI, abinS, aun, aconv, afield, afieldAddr, aindexAddr, aindex, aslice, alow, ahigh, abuild, abuildGo, cellsOf, splice, fieldTy, alen, apick, amax, amin, aload, headV, aparts, abuildSlice, elParts, abytesStr, astore, amake, aappend, aclear, anew, arith, aresults, aresList, ares, spec0, spec1, spec2, spec3, spec4, eqCells, eqCell, sValO, hw, hv, sEnts, hlo, sFind, hel, hk0, nCloneO, cloB, cloV, bI, bA, hal, hk, k1, k2, hkl, gDelA, gDel, hdel]
      have hL := delL_length hkl
      rw [hdel] at hL
      rw [if_pos (by omega), List.take_left' hL]
      rfl
    · rw [if_neg hA] at hr
      subst hr
      have hk1 : ¬ 0 ≤ idxE o.Adds v := (not_congr idxE_pos).2 hA
      have hnd : v ∉ o.Dels := (kept_has.1 ((has_ents.1 he).resolve_right hA)).2
      have a1 : o.Dels.length ≤ 1000000 := by omega
      have a2 : lbd o.Dels v ≤ o.Dels.length := lbd_le _ _
      have a3 : o.Dels.length < 1000000 := by omega
      simp [aev, gav, alook, litOf, litAV, mget, mhas, acopy, asrc, adst, cav, look, acallPure, abin, abinN, abinP, abinI, abinS, aun, aconv, afield, afieldAddr, aindexAddr, aindex, aslice, alow, ahigh, abuild, abuildGo, cellsOf, splice, fieldTy, alen, apick, amax, amin, aload, headV, aparts, abuildSlice, elParts, abytesStr, astore, amake, aappend, aclear, anew, arith, aresults, aresList, ares, spec0, spec1, spec2, spec3, spec4, eqCells, eqCell, sValO, hw, hv, sEnts, hlo, sFind, hel, hk0, nCloneO, cloB, cloV, bI, bA, hal, hk1, sBin, a1, a2, a3, hvo.du.srt, gInsI, gIns, insI_lb hnd]
      rw [if_pos (insI_len _ _)]
      rfl
end Go.Proofs.Ytkhgjbjkjefeoaa


/-
  overlay: the chapter's examples.
-/
namespace Go.Proofs.Ytkhgjbjkjefeoaa
open Go.RowKit
set_option linter.unusedSimpArgs false
set_option linter.unusedVariables false
set_option maxRecDepth 100000

theorem unp_base : unpackC baseC = [⟨1, 2, 5⟩, ⟨1, 3, 4⟩] := by decide +kernel
theorem vC_base : ValidC baseC := by
  refine ⟨?_, ?_, ?_, ?_, ?_⟩
  · unfold ShapeC
    rw [if_neg (by decide)]
    exact ⟨rfl, rfl, rfl, rfl, fun i hi => by
      match i, hi with
      | 0, _ => decide
      | i + 1, h => simp [baseC] at h⟩
  · intro i h1 h2
    simp [baseC] at h2
    omega
  · rw [unp_base]; unfold FormA IdOK; decide
  · rw [unp_base, up_iff]; unfold LtA; decide
  · rw [unp_base, dis_iff]; decide
theorem entC_base : entC baseC = [⟨1, 2, 5⟩, ⟨1, 3, 4⟩] := by
  unfold entC
  rw [if_pos (vcB_true.2 vC_base), unp_base]
def exO (A : List Adj) (D : List Int) : Ov := ⟨baseC, A, D⟩
theorem kept_ex (A : List Adj) (D : List Int) : keptO (exO A D) = ([⟨1, 2, 5⟩, ⟨1, 3, 4⟩] : List Adj).filter fun a => decide (¬ a.Edge ∈ D) := by
  unfold keptO
  show (entC baseC).filter _ = _
  rw [entC_base]
  rfl
theorem ents_ex (A : List Adj) (D : List Int) : entsO (exO A D) = A.foldl (fun x a => insA a x) (([⟨1, 2, 5⟩, ⟨1, 3, 4⟩] : List Adj).filter fun a => decide (¬ a.Edge ∈ D)) := by
  rw [← ents_fold, kept_ex]
  rfl
theorem e0 : entsO (exO [] []) = [⟨1, 2, 5⟩, ⟨1, 3, 4⟩] := by rw [ents_ex]; decide +kernel
theorem e1 : entsO (exO [] [5]) = [⟨1, 3, 4⟩] := by rw [ents_ex]; decide +kernel
theorem e2 : entsO (exO [⟨1, 1, 9⟩] [5]) = [⟨1, 1, 9⟩, ⟨1, 3, 4⟩] := by
  rw [ents_ex]
  simp [insA, LtA]
theorem v0 : voB (exO [] []) = true := by
  rw [voB_true, validO_iff, e0]
  refine ⟨vC_base, ⟨fun i hi => by simp [exO] at hi, fun i _ hi => by simp [exO] at hi⟩, ⟨fun i _ hi => by simp [exO] at hi, fun i hi => by simp [exO] at hi⟩, ?_⟩
  rw [dis_iff]; decide
theorem hasB5 : HasE (entC baseC) 5 := by rw [entC_base]; decide
theorem v1 : voB (exO [] [5]) = true := by
  rw [voB_true, validO_iff, e1]
  refine ⟨vC_base, ⟨fun i hi => by simp [exO] at hi, fun i _ hi => by simp [exO] at hi⟩, ⟨fun i h hi => by simp [exO] at hi; omega, fun i hi => ?_⟩, ?_⟩
  · have : i = 0 := by simp [exO] at hi; omega
    subst this
    exact hasB5
  · rw [dis_iff]; decide
theorem v2 : voB (exO [⟨1, 1, 9⟩] [5]) = true := by
  rw [voB_true, validO_iff, e2]
  refine ⟨vC_base, ⟨fun i hi => ?_, fun i h hi => by simp [exO] at hi; omega⟩, ⟨fun i h hi => by simp [exO] at hi; omega, fun i hi => ?_⟩, ?_⟩
  · have : i = 0 := by simp [exO] at hi; omega
    subst this
    show FormA ⟨1, 1, 9⟩
    unfold FormA IdOK; decide
  · have : i = 0 := by simp [exO] at hi; omega
    subst this
    exact hasB5
  · rw [dis_iff]; decide
theorem new_ex : newO baseC = (exO [] [], 0) := by
  unfold newO
  rw [if_pos (vcB_true.2 vC_base)]
  rfl
theorem d0 : delO (exO [] []) 5 = (exO [] [5], 0) := by
  unfold delO
  rw [if_neg (by rw [v0]; decide), if_neg (by rw [e0]; decide), if_neg (by simp [HasE, exO])]
  rfl
theorem i1_ex : insO (exO [] [5]) ⟨1, 1, 9⟩ = (exO [⟨1, 1, 9⟩] [5], 0) := by
  unfold insO
  rw [if_neg (by rw [v1]; decide), if_neg (by unfold FormA IdOK; decide), if_neg (by rw [e1]; decide), if_neg (by show ¬ _ ∈ entC baseC; rw [entC_base]; decide)]
  rfl
theorem i2_ex : insO (exO [⟨1, 1, 9⟩] [5]) ⟨2, 2, 4⟩ = (ovZ, 7) := by
  unfold insO
  rw [if_neg (by rw [v2]; decide), if_neg (by unfold FormA IdOK; decide), if_pos (by rw [e2]; decide)]
theorem d2_ex : delO (exO [⟨1, 1, 9⟩] [5]) 7 = (ovZ, 11) := by
  unfold delO
  rw [if_neg (by rw [v2]; decide), if_pos (by rw [e2]; decide)]
theorem i3_ex : insO (exO [⟨1, 1, 9⟩] [5]) ⟨1, 2, 5⟩ = (exO [⟨1, 1, 9⟩] [], 0) := by
  unfold insO
  rw [if_neg (by rw [v2]; decide), if_neg (by unfold FormA IdOK; decide), if_neg (by rw [e2]; decide), if_pos (by show _ ∈ entC baseC; rw [entC_base]; decide)]
  rfl
theorem l2_ex : liveO (exO [⟨1, 1, 9⟩] [5]) = [⟨1, 1, 9⟩, ⟨1, 3, 4⟩] := by
  unfold liveO
  rw [if_pos v2, e2]
theorem sm_ex (A : List Adj) (D : List Int) (hA : A.length ≤ 1000) (hD : D.length ≤ 1000) (hd : ∀ d ∈ D, I64 d) : SmO (exO A D) :=
  ⟨⟨⟨by simp [Len, exO, baseC], by unfold Len exO; simp; omega, by unfold Len exO; simp; omega⟩, hd⟩, by show baseC.To.length ≤ 1000; decide, hA, hD⟩
def sBase : List AV → Option (Prop × AV) := spec0 (Enc.enc baseC)
noncomputable def CAl : Ctx := mkC Try.prog G0 [(29, .pure sBase), (19, .pure sNew), (12, .pure sDel), (10, .pure sIns), (16, .pure sLive), (15, .pure sValO)]
@[simp] theorem CAl_P : CAl.P = Try.prog := rfl
@[simp] theorem CAl_G : CAl.G = G0 := rfl
@[simp] theorem CAl_1 : CAl.S 29 = .pure sBase := rfl
@[simp] theorem CAl_2 : CAl.S 19 = .pure sNew := rfl
@[simp] theorem CAl_3 : CAl.S 12 = .pure sDel := rfl
@[simp] theorem CAl_4 : CAl.S 10 = .pure sIns := rfl
@[simp] theorem CAl_5 : CAl.S 16 = .pure sLive := rfl
@[simp] theorem CAl_6 : CAl.S 15 = .pure sValO := rfl
theorem mixCAl : CAl.P.follows .mixedOrders = true := mixed
theorem sigCAl : SigOK CAl := sigOK_cons (entryPure (baseL) Try.func29 rfl (by decide)) (sigOK_cons (entryPure (newP) Try.func19 rfl (by decide)) (sigOK_cons (entryPure (delPO) Try.func12 rfl (by decide)) (sigOK_cons (entryPure (insPO) Try.func10 rfl (by decide)) (sigOK_cons (entryPure (liveP) Try.func16 rfl (by decide)) (sigOK_cons (entryPure (validOP) Try.func15 rfl (by decide)) (sigOK_nil _ _))))))
set_option maxHeartbeats 16000000 in
theorem aliveP : PureOK Try.prog G0 9 (spec0 (.bool true)) := by
  refine pureH0 (C := CAl) sigCAl mixCAl Try.func9 rfl rfl rfl [] (by kernel_rfl) ?_
  have h0 : SmO (exO [] []) := sm_ex _ _ (by decide) (by decide) (by simp)
  have h1 : SmO (exO [] [5]) := sm_ex _ _ (by decide) (by decide) (by simp; unfold I64; omega)
  have h2 : SmO (exO [⟨1, 1, 9⟩] [5]) := sm_ex _ _ (by decide) (by decide) (by simp; unfold I64; omega)
  have hl : LenC baseC := h0.1.1.1
  have q0 := new_ex; have q1 := d0; have q2 := i1_ex; have q3 := i2_ex; have q4 := d2_ex; have q5 := i3_ex; have q6 := l2_ex; have q7 := v2
  unfold exO at h0 h1 h2 q0 q1 q2 q3 q4 q5 q6 q7
  simp [aev, gav, alook, litOf, litAV, mget, mhas, acopy, asrc, adst, cav, look, acallPure, abin, abinN, abinP, abinI, abinS, aun, aconv, afield, afieldAddr, aindexAddr, aindex, aslice, alow, ahigh, abuild, abuildGo, cellsOf, splice, fieldTy, alen, apick, amax, amin, aload, headV, aparts, abuildSlice, elParts, abytesStr, astore, amake, aappend, aclear, anew, arith, aresults, aresList, ares, spec0, spec1, spec2, spec3, spec4, eqCells, eqCell, sBase, sNew, hl, q0, h0, sDel, q1, h1, sIns, q2, h2, sLive, h2.1, q6, q3, q4, q5, sValO, q7, ovZ]
end Go.Proofs.Ytkhgjbjkjefeoaa


/-
  overlay: the law of writes.
-/
namespace Go.Proofs.Ytkhgjbjkjefeoaa
open Go.RowKit
set_option linter.unusedSimpArgs false
set_option linter.unusedVariables false
set_option maxRecDepth 100000

theorem few_sm {o : Ov} (h : FewO o) (hd : ∀ d ∈ o.Dels, I64 d) : SmO o := by
  have hl := few_len h
  obtain ⟨h1, h2, h3, h4, h5, h6⟩ := h
  exact ⟨⟨hl, hd⟩, by omega, by omega, by omega⟩
theorem ovZ_len : LenO ovZ := ⟨by simp [Len, ovZ], by simp [Len, ovZ], by simp [Len, ovZ]⟩
theorem ins_len {o : Ov} {a : Adj} (h : SmO o) : LenO (insO o a).1 := by
  obtain ⟨hw, s1, s2, s3⟩ := h
  obtain ⟨l1, l2, l3⟩ := hw.l
  unfold insO
  repeat' split
  · exact ovZ_len
  · exact ovZ_len
  · exact ovZ_len
  · exact ⟨l1, l2, by show (outI _ _).length ≤ _; unfold outI; have := List.length_filter_le (neI a.Edge) o.Dels; omega⟩
  · exact ⟨l1, by show (insA _ _).length ≤ _; rw [insA_len]; omega, l3⟩
theorem del_len {o : Ov} {v : Int} (h : SmO o) : LenO (delO o v).1 := by
  obtain ⟨hw, s1, s2, s3⟩ := h
  obtain ⟨l1, l2, l3⟩ := hw.l
  unfold delO
  repeat' split
  · exact ovZ_len
  · exact ovZ_len
  · exact ⟨l1, by show (List.filter _ _).length ≤ _; have := List.length_filter_le (neE v) o.Adds; omega, l3⟩
  · exact ⟨l1, l2, by show (insI _ _).length ≤ _; rw [insI_len]; omega⟩
def sAlive : List AV → Option (Prop × AV) := spec0 (.bool true)
noncomputable def CWr : Ctx := mkC Try.prog G0 [(8, .pure sFew), (9, .pure sAlive), (10, .pure sIns), (11, .pure sIns), (12, .pure sDel), (13, .pure sDel), (14, .pure sSame)]
@[simp] theorem CWr_P : CWr.P = Try.prog := rfl
@[simp] theorem CWr_G : CWr.G = G0 := rfl
@[simp] theorem CWr_1 : CWr.S 8 = .pure sFew := rfl
@[simp] theorem CWr_2 : CWr.S 9 = .pure sAlive := rfl
@[simp] theorem CWr_3 : CWr.S 10 = .pure sIns := rfl
@[simp] theorem CWr_4 : CWr.S 11 = .pure sIns := rfl
@[simp] theorem CWr_5 : CWr.S 12 = .pure sDel := rfl
@[simp] theorem CWr_6 : CWr.S 13 = .pure sDel := rfl
@[simp] theorem CWr_7 : CWr.S 14 = .pure sSame := rfl
theorem mixCWr : CWr.P.follows .mixedOrders = true := mixed
theorem sigCWr : SigOK CWr := sigOK_cons (entryPure (fewP) Try.func8 rfl (by decide)) (sigOK_cons (entryPure (aliveP) Try.func9 rfl (by decide)) (sigOK_cons (entryPure (insPO) Try.func10 rfl (by decide)) (sigOK_cons (entryPure (insR) Try.func11 rfl (by decide)) (sigOK_cons (entryPure (delPO) Try.func12 rfl (by decide)) (sigOK_cons (entryPure (delR) Try.func13 rfl (by decide)) (sigOK_cons (entryPure (sameR) Try.func14 rfl (by decide)) (sigOK_nil _ _)))))))
set_option maxHeartbeats 16000000 in
theorem lawWrites : PureOK Try.prog G0 3 (spec3 (fun (o : Ov) (_ : Adj) (_ : Int) => ∀ d ∈ o.Dels, I64 d) fun _ _ _ => .bool true) := by
  refine pureH3 (C := CWr) sigCWr mixCWr Try.func3 rfl rfl rfl [] (by kernel_rfl) (by decide) (fun o a v hd => ?_)
  by_cases hf : FewO o
  · have hs := few_sm hf hd
    have l1 := ins_len (a := a) hs
    have l2 := del_len (v := v) hs
    obtain ⟨x, hx⟩ : ∃ x, insO o a = x := ⟨_, rfl⟩
    obtain ⟨y, hy⟩ : ∃ y, delO o v = y := ⟨_, rfl⟩
    rw [hx] at l1
    rw [hy] at l2
    obtain ⟨x, e⟩ := x
    obtain ⟨y, f⟩ := y
    simp [aev, gav, alook, litOf, litAV, mget, mhas, acopy, asrc, adst, cav, look, acallPure, abin, abinN, abinP, abinI, abinS, aun, aconv, afield, afieldAddr, aindexAddr, aindex, aslice, alow, ahigh, abuild, abuildGo, cellsOf, splice, fieldTy, alen, apick, amax, amin, aload, headV, aparts, abuildSlice, elParts, abytesStr, astore, amake, aappend, aclear, anew, arith, aresults, aresList, ares, spec0, spec1, spec2, spec3, spec4, eqCells, eqCell, sFew, hf, sIns, hs, hx, sDel, hy, sSame, l1, l2, sAlive]
  · simp [aev, gav, alook, litOf, litAV, mget, mhas, acopy, asrc, adst, cav, look, acallPure, abin, abinN, abinP, abinI, abinS, aun, aconv, afield, afieldAddr, aindexAddr, aindex, aslice, alow, ahigh, abuild, abuildGo, cellsOf, splice, fieldTy, alen, apick, amax, amin, aload, headV, aparts, abuildSlice, elParts, abytesStr, astore, amake, aappend, aclear, anew, arith, aresults, aresList, ares, spec0, spec1, spec2, spec3, spec4, eqCells, eqCell, sFew, hf, sAlive]
end Go.Proofs.Ytkhgjbjkjefeoaa


/-
  overlay: arguments read as entries, columns, overlays, acts.
-/
namespace Go.Proofs.Ytkhgjbjkjefeoaa
open Go.RowKit
set_option linter.unusedSimpArgs false
set_option linter.unusedVariables false
set_option maxRecDepth 100000

def WfI : List Int → Prop := WfL I64
theorem reads_i : Reads Try.prog 3 Int I64 := reads_int (by kernel_rfl)
theorem reads_ints : Reads Try.prog 22 (List Int) WfI := reads_list (by kernel_rfl) (by kernel_rfl) (of_decide_eq_true (by kernel_rfl)) reads_i
def WfAdj (a : Adj) : Prop := I64 a.From ∧ I64 a.To ∧ I64 a.Edge
theorem reads_adj : Reads Try.prog 29 Adj WfAdj := fun n => by
  intro H enc w held cs x hx
  obtain ⟨m, rfl, hl, hf⟩ := struct_cells ⟨_, rfl⟩ hx
  obtain ⟨y0, t0⟩ := hf 0 0 3 (by kernel_rfl)
  obtain ⟨y1, t1⟩ := hf 1 1 3 (by kernel_rfl)
  obtain ⟨y2, t2⟩ := hf 2 2 3 (by kernel_rfl)
  obtain ⟨a, wa, ca⟩ := reads_i m enc w held _ _ t0
  obtain ⟨b, wb, cb⟩ := reads_i m enc w held _ _ t1
  obtain ⟨c, wc, cc⟩ := reads_i m enc w held _ _ t2
  exact ⟨⟨a, b, c⟩, ⟨wa, wb, wc⟩, CellsD.split (o := 0) (s := 1) ca (CellsD.split (s := 1) cb (CellsD.split (s := 1) cc (CellsD.last (by rw [hl, show szT Try.prog 29 = 3 by kernel_rfl]; exact Nat.le_refl _))))⟩
theorem reads_adjs : Reads Try.prog 25 (List Adj) (WfL WfAdj) := reads_list (e := 29) (by kernel_rfl) (by kernel_rfl) (of_decide_eq_true (by kernel_rfl)) reads_adj
def WfCol (c : Col) : Prop := WfI c.Nodes ∧ WfI c.First ∧ WfI c.To ∧ WfI c.Edge
theorem reads_col : Reads Try.prog 24 Col WfCol := fun n => by
  intro H enc w held cs x hx
  obtain ⟨m, rfl, hl, hf⟩ := struct_cells ⟨_, rfl⟩ hx
  obtain ⟨y0, t0⟩ := hf 0 0 22 (by kernel_rfl)
  obtain ⟨y1, t1⟩ := hf 1 1 22 (by kernel_rfl)
  obtain ⟨y2, t2⟩ := hf 2 2 22 (by kernel_rfl)
  obtain ⟨y3, t3⟩ := hf 3 3 22 (by kernel_rfl)
  obtain ⟨a, wa, ca⟩ := reads_ints m enc w held _ _ t0
  obtain ⟨b, wb, cb⟩ := reads_ints m enc w held _ _ t1
  obtain ⟨c, wc, cc⟩ := reads_ints m enc w held _ _ t2
  obtain ⟨d, wd, cd⟩ := reads_ints m enc w held _ _ t3
  exact ⟨⟨a, b, c, d⟩, ⟨wa, wb, wc, wd⟩, CellsD.split (o := 0) (s := 1) ca (CellsD.split (s := 1) cb (CellsD.split (s := 1) cc (CellsD.split (s := 1) cd (CellsD.last (by rw [hl, show szT Try.prog 24 = 4 by kernel_rfl]; exact Nat.le_refl _)))))⟩
def WfOv (o : Ov) : Prop := WfCol o.Base ∧ WfL WfAdj o.Adds ∧ WfI o.Dels
theorem reads_ov : Reads Try.prog 27 Ov WfOv := fun n => by
  intro H enc w held cs x hx
  obtain ⟨m, rfl, hl, hf⟩ := struct_cells ⟨_, rfl⟩ hx
  obtain ⟨y0, t0⟩ := hf 0 0 24 (by kernel_rfl)
  obtain ⟨y1, t1⟩ := hf 1 4 25 (by kernel_rfl)
  obtain ⟨y2, t2⟩ := hf 2 5 22 (by kernel_rfl)
  obtain ⟨a, wa, ca⟩ := reads_col m enc w held _ _ t0
  obtain ⟨b, wb, cb⟩ := reads_adjs m enc w held _ _ t1
  obtain ⟨c, wc, cc⟩ := reads_ints m enc w held _ _ t2
  exact ⟨⟨a, b, c⟩, ⟨wa, wb, wc⟩, CellsD.split (o := 0) (s := 4) ca (CellsD.split (s := 1) cb (CellsD.split (s := 1) cc (CellsD.last (by rw [hl, show szT Try.prog 27 = 6 by kernel_rfl]; exact Nat.le_refl _))))⟩
def WfAct (a : Act) : Prop := WfAdj a.A
theorem reads_act : Reads Try.prog 45 Act WfAct := fun n => by
  intro H enc w held cs x hx
  obtain ⟨m, rfl, hl, hf⟩ := struct_cells ⟨_, rfl⟩ hx
  obtain ⟨y0, t0⟩ := hf 0 0 4 (by kernel_rfl)
  obtain ⟨y1, t1⟩ := hf 1 1 29 (by kernel_rfl)
  obtain ⟨a, wa, ca⟩ := reads_bool (t := 4) (by kernel_rfl) m enc w held _ _ t0
  obtain ⟨b, wb, cb⟩ := reads_adj m enc w held _ _ t1
  exact ⟨⟨a, b⟩, wb, CellsD.split (o := 0) (s := 1) ca (CellsD.split (s := 3) cb (CellsD.last (by rw [hl, show szT Try.prog 45 = 4 by kernel_rfl]; exact Nat.le_refl _)))⟩
theorem reads_acts : Reads Try.prog 42 (List Act) (WfL WfAct) := reads_list (e := 45) (by kernel_rfl) (by kernel_rfl) (of_decide_eq_true (by kernel_rfl)) reads_act
theorem dels_of {o : Ov} (h : WfOv o) : ∀ d ∈ o.Dels, I64 d := h.2.2.2
end Go.Proofs.Ytkhgjbjkjefeoaa

/-
  overlay: insertion and deletion upon the entries, in plain words.
-/
namespace Go.Proofs.Ytkhgjbjkjefeoaa
open Go.RowKit
set_option linter.unusedSimpArgs false
set_option linter.unusedVariables false

theorem upI_iff {l : List Int} : UpI l ↔ l.Pairwise (· < ·) := by
  rw [List.pairwise_iff_getElem]
  constructor
  · intro h i j hi hj hij
    have := h.pw i j hij hj
    rwa [ix_lt hi, ix_lt hj] at this
  · intro h i h0 hi
    have := h (i - 1) i (by omega) hi (by omega)
    rwa [← ix_lt hi, ← ix_lt (show i - 1 < l.length by omega)] at this
theorem insI_up {v : Int} : ∀ {l : List Int}, l.Pairwise (· < ·) → v ∉ l → (insI v l).Pairwise (· < ·)
  | [], _, _ => by simp [insI]
  | b :: r, h, hv => by
    rw [List.pairwise_cons] at h
    rw [List.mem_cons, not_or] at hv
    unfold insI
    split
    · rename_i h1
      rw [List.pairwise_cons, List.pairwise_cons]
      refine ⟨fun c hc => ?_, h⟩
      rcases List.mem_cons.1 hc with rfl | hc
      · exact h1
      · have := h.1 c hc; omega
    · rename_i h1
      rw [List.pairwise_cons]
      refine ⟨fun c hc => ?_, insI_up h.2 hv.2⟩
      rcases List.mem_cons.1 ((insI_perm v r).mem_iff.1 hc) with rfl | hc
      · omega
      · exact h.1 c hc
theorem ix_all {α : Type} [Inhabited α] {l : List α} {p : α → Prop} : (∀ i, i < l.length → p (ix l i)) ↔ ∀ x ∈ l, p x := by
  constructor
  · intro h x hx
    obtain ⟨j, hj, rfl⟩ := mem_ix hx
    exact h j hj
  · intro h i hi
    exact h _ (ix_mem hi)
theorem e_all {K A : List Adj} : (∀ i, i < A.length → ¬ HasE K (ix A i).Edge) ↔ ∀ x : Adj, x ∈ A → ¬ HasE K x.Edge := ix_all (p := fun x : Adj => ¬ HasE K x.Edge)
theorem sort_filter (p : Adj → Bool) (l : List Adj) : sortA (l.filter p) = (sortA l).filter p :=
  sortA_eq ((sortA_perm l).filter p) ((sortA_le l).filter p)
theorem sort_perm {l m : List Adj} (h : l.Perm m) : sortA l = sortA m := sortA_eq ((sortA_perm m).trans h.symm) (sortA_le m)
theorem insA_mem {a x : Adj} {l : List Adj} : x ∈ insA a l ↔ x = a ∨ x ∈ l := by rw [(insA_perm a l).mem_iff, List.mem_cons]
theorem insA_filter {a : Adj} {p : Adj → Bool} (hp : p a = false) : ∀ l : List Adj, (insA a l).filter p = l.filter p
  | [] => by simp [insA, hp]
  | b :: r => by
    unfold insA
    split
    · rw [List.filter_cons, hp]; simp
    · rw [List.filter_cons, List.filter_cons, insA_filter hp r]
theorem hasE_perm {l m : List Adj} (h : l.Perm m) {v : Int} : HasE l v ↔ HasE m v := by
  unfold HasE
  constructor
  · rintro ⟨x, hx, e⟩; exact ⟨x, h.mem_iff.1 hx, e⟩
  · rintro ⟨x, hx, e⟩; exact ⟨x, h.mem_iff.2 hx, e⟩
/-- The one with an edge, ahead of all others. -/
theorem perm_edge {l : List Adj} (hd : DisE l) {b : Adj} (hb : b ∈ l) : (b :: l.filter (neE b.Edge)).Perm l := by
  obtain ⟨k, hk, rfl⟩ := mem_ix hb
  rw [← del_neE hd hk rfl]
  unfold delL
  have e : l = l.take k ++ ix l k :: l.drop (k + 1) := by
    rw [ix_lt hk, ← List.drop_eq_getElem_cons hk, List.take_append_drop]
  conv => rhs; rw [e]
  exact List.perm_middle.symm
theorem edge_inj {l : List Adj} (hd : DisE l) {a b : Adj} (ha : a ∈ l) (hb : b ∈ l) (e : a.Edge = b.Edge) : a = b := by
  obtain ⟨i, hi, rfl⟩ := mem_ix ha
  obtain ⟨j, hj, rfl⟩ := mem_ix hb
  rcases Nat.lt_trichotomy i j with h | h | h
  · exact absurd e (hd i j h hj)
  · rw [h]
  · exact absurd e.symm (hd j i h hi)
theorem filter_ne_edge {l : List Adj} (hd : DisE l) {b : Adj} (hb : b ∈ l) : l.filter (neA b) = l.filter (neE b.Edge) := by
  refine List.filter_congr fun x hx => ?_
  unfold neA neE
  by_cases h : x = b
  · simp [h]
  · have : x.Edge ≠ b.Edge := fun e => h (edge_inj hd hx hb e)
    simp [h, this]
theorem ents_mem {o : Ov} {x : Adj} : x ∈ entsO o ↔ x ∈ keptO o ∨ x ∈ o.Adds := by
  unfold entsO
  rw [(sortA_perm _).mem_iff, List.mem_append]
theorem ents_up {o : Ov} (h : ValidO o) : UpA (entsO o) := by
  have hd := (validO_iff.1 h).2.2.2
  refine le_up (sortA_le _) ?_
  have := dis_iff.1 hd
  exact List.Pairwise.of_map _ (fun a b hab e => hab (by rw [e])) this
theorem ents_dis' {o : Ov} (h : ValidO o) : DisE (entsO o) := (validO_iff.1 h).2.2.2
theorem form_ents {o : Ov} (h : ValidO o) {x : Adj} (hx : x ∈ entsO o) : FormA x := by
  rcases ents_mem.1 hx with h1 | h1
  · have : x ∈ entC o.Base := (List.mem_filter.1 h1).1
    unfold entC at this
    rw [if_pos (vcB_true.2 h.b)] at this
    exact h.b.f x this
  · exact ix_all.1 h.f x h1
theorem base_dis {o : Ov} : DisE (entC o.Base) := (entC_up o.Base).2

/-- What an insertion does. -/
theorem ins_spec {o : Ov} (h : ValidO o) {a : Adj} (hf : FormA a) (he : ¬ HasE (entsO o) a.Edge) : (insO o a).2 = 0 ∧ ValidO (insO o a).1 ∧ entsO (insO o a).1 = insA a (entsO o) := by
  have hnA : ¬ HasE o.Adds a.Edge := fun h' => he (has_ents.2 (.inr h'))
  have hnK : ¬ HasE (keptO o) a.Edge := fun h' => he (has_ents.2 (.inl h'))
  have hi : insO o a = if a ∈ entC o.Base then ({ o with Dels := outI o.Dels a.Edge }, 0) else ({ o with Adds := insA a o.Adds }, 0) := by
    unfold insO
    rw [if_neg (by rw [voB_true.2 h]; decide), if_neg (not_not_intro hf), if_neg he]
  by_cases hm : a ∈ entC o.Base
  · rw [if_pos hm] at hi
    rw [hi]
    have hk : (keptO { o with Dels := outI o.Dels a.Edge }).Perm (a :: keptO o) := by
      have hp := perm_edge base_dis hm
      have hp' := hp.filter (fun x : Adj => decide (¬ x.Edge ∈ outI o.Dels a.Edge))
      refine hp'.symm.trans ?_
      have ha : decide (¬ a.Edge ∈ outI o.Dels a.Edge) = true := by unfold outI neI; simp
      rw [List.filter_cons, ha]
      simp only [if_true]
      refine List.Perm.cons _ ?_
      rw [List.filter_filter]
      have hkp : keptO o = (entC o.Base).filter fun x => decide (¬ x.Edge ∈ outI o.Dels a.Edge) && neE a.Edge x := by
        refine List.filter_congr fun x hx => ?_
        unfold neE outI neI
        by_cases e : x.Edge = a.Edge
        · have : a.Edge ∈ o.Dels := Classical.byContradiction fun h' => hnK (kept_has.2 ⟨⟨a, hm, rfl⟩, h'⟩)
          simp [e, this]
        · simp [e]
      rw [hkp]
    have hents : entsO { o with Dels := outI o.Dels a.Edge } = insA a (entsO o) := by
      unfold entsO
      rw [insA_sort]
      exact sort_perm (hk.append_right _)
    refine ⟨rfl, ⟨h.b, h.f, h.u, ?_, ?_, ?_, h.d⟩, hents⟩
    · exact upI_iff.2 ((upI_iff.1 h.du).filter _)
    · exact ix_all.2 fun x hx => ix_all.1 h.dm x (List.mem_filter.1 hx).1
    · refine e_all.2 fun x hx hk' => ?_
      rw [hasE_perm hk] at hk'
      obtain ⟨y, hy, e⟩ := hk'
      rcases List.mem_cons.1 hy with rfl | hy
      · exact hnA ⟨x, hx, e.symm⟩
      · exact e_all.1 h.e x hx ⟨y, hy, e⟩
  · rw [if_neg hm] at hi
    rw [hi]
    have hp := insA_perm a o.Adds
    have hents : entsO { o with Adds := insA a o.Adds } = insA a (entsO o) := by
      unfold entsO
      rw [insA_sort]
      refine sort_perm (List.Perm.trans (List.Perm.append_left _ hp) ?_)
      exact List.perm_middle
    have hd : DisE (insA a o.Adds) := by
      rw [dis_perm hp, dis_iff, List.map_cons, List.nodup_cons]
      exact ⟨fun h' => by obtain ⟨y, hy, e⟩ := List.mem_map.1 h'; exact hnA ⟨y, hy, e⟩, dis_iff.1 h.d⟩
    have hnd : (insA a o.Adds).Nodup := List.Pairwise.of_map _ (fun a b hab e => hab (by rw [e])) (dis_iff.1 hd)
    refine ⟨rfl, ⟨h.b, ?_, le_up (insA_le h.u.le) hnd, h.du, h.dm, ?_, hd⟩, hents⟩
    · refine ix_all.2 fun x hx => ?_
      rcases insA_mem.1 hx with rfl | hx
      · exact hf
      · exact ix_all.1 h.f x hx
    · refine e_all.2 fun x hx => ?_
      rcases insA_mem.1 hx with rfl | hx
      · exact hnK
      · exact e_all.1 h.e x hx
/-- When it succeeds. -/
theorem ins_ok {o : Ov} (h : ValidO o) {a : Adj} (h0 : (insO o a).2 = 0) : FormA a ∧ ¬ HasE (entsO o) a.Edge := by
  unfold insO at h0
  rw [if_neg (by rw [voB_true.2 h]; decide)] at h0
  by_cases hf : FormA a
  · rw [if_neg (not_not_intro hf)] at h0
    refine ⟨hf, fun he => ?_⟩
    rw [if_pos he] at h0
    cases h0
  · rw [if_pos hf] at h0
    cases h0
/-- What a deletion does. -/
theorem del_spec {o : Ov} (h : ValidO o) {v : Int} (he : HasE (entsO o) v) : (delO o v).2 = 0 ∧ ValidO (delO o v).1 ∧ entsO (delO o v).1 = (entsO o).filter (neE v) := by
  have hi : delO o v = if HasE o.Adds v then ({ o with Adds := o.Adds.filter (neE v) }, 0) else ({ o with Dels := insI v o.Dels }, 0) := by
    unfold delO
    rw [if_neg (by rw [voB_true.2 h]; decide), if_neg (not_not_intro he)]
  by_cases hA : HasE o.Adds v
  · rw [if_pos hA] at hi
    rw [hi]
    have hnK : ¬ HasE (keptO o) v := fun hk => by
      obtain ⟨x, hx, rfl⟩ := hA
      exact e_all.1 h.e x hx hk
    have hkf : (keptO o).filter (neE v) = keptO o := List.filter_eq_self.2 fun x hx => by
      unfold neE
      have : x.Edge ≠ v := fun e => hnK ⟨x, hx, e⟩
      simpa using this
    have hents : entsO { o with Adds := o.Adds.filter (neE v) } = (entsO o).filter (neE v) := by
      unfold entsO
      rw [← sort_filter, List.filter_append, hkf]
      rfl
    refine ⟨rfl, ⟨h.b, ix_all.2 fun x hx => ix_all.1 h.f x (List.mem_filter.1 hx).1, up_iff.2 ((up_iff.1 h.u).filter _), h.du, h.dm, e_all.2 fun x hx => e_all.1 h.e x (List.mem_filter.1 hx).1, ?_⟩, hents⟩
    exact dis_iff.2 ((dis_iff.1 h.d).sublist ((List.filter_sublist).map _))
  · rw [if_neg hA] at hi
    rw [hi]
    have hK := (has_ents.1 he).resolve_right hA
    obtain ⟨hbv, hnd⟩ := kept_has.1 hK
    have hkf : keptO { o with Dels := insI v o.Dels } = (keptO o).filter (neE v) := by
      unfold keptO
      rw [List.filter_filter]
      refine List.filter_congr fun x hx => ?_
      unfold neE
      have : x.Edge ∈ insI v o.Dels ↔ x.Edge = v ∨ x.Edge ∈ o.Dels := by rw [(insI_perm v o.Dels).mem_iff, List.mem_cons]
      simp only [this]
      by_cases e : x.Edge = v <;> simp [e]
    have haf : o.Adds.filter (neE v) = o.Adds := List.filter_eq_self.2 fun x hx => by
      unfold neE
      have : x.Edge ≠ v := fun e => hA ⟨x, hx, e⟩
      simpa using this
    have hents : entsO { o with Dels := insI v o.Dels } = (entsO o).filter (neE v) := by
      unfold entsO
      rw [← sort_filter, List.filter_append, hkf, haf]
    refine ⟨rfl, ⟨h.b, h.f, h.u, upI_iff.2 (insI_up (upI_iff.1 h.du) hnd), ?_, ?_, h.d⟩, hents⟩
    · refine ix_all.2 fun x hx => ?_
      rcases List.mem_cons.1 ((insI_perm v o.Dels).mem_iff.1 hx) with rfl | hx
      · exact hbv
      · exact ix_all.1 h.dm x hx
    · refine e_all.2 fun x hx hk => ?_
      obtain ⟨y, hy, e⟩ := hk
      rw [hkf] at hy
      exact e_all.1 h.e x hx ⟨y, (List.mem_filter.1 hy).1, e⟩
theorem up_next {l : List Adj} (h : UpA l) : ∀ i, i + 1 < l.length → LtA (ix l i) (ix l (i + 1)) := fun i hi => by simpa using h (i + 1) (by omega) hi
/-- Inserted, then deleted. -/
theorem ins_del {o : Ov} (h : ValidO o) {a : Adj} (h0 : (insO o a).2 = 0) : (delO (insO o a).1 a.Edge).2 = 0 ∧ ValidO (insO o a).1 ∧ ValidO (delO (insO o a).1 a.Edge).1 ∧ entsO (delO (insO o a).1 a.Edge).1 = entsO o ∧ MoreA (entsO (insO o a).1) (entsO o) a := by
  obtain ⟨hf, he⟩ := ins_ok h h0
  obtain ⟨_, h1, h2⟩ := ins_spec h hf he
  have he' : HasE (entsO (insO o a).1) a.Edge := by rw [h2]; exact ⟨a, insA_mem.2 (.inl rfl), rfl⟩
  obtain ⟨d0, d1, d2⟩ := del_spec h1 he'
  refine ⟨d0, h1, d1, ?_, ?_⟩
  · rw [d2, h2, insA_filter (by unfold neE; simp), List.filter_eq_self.2 fun x hx => ?_]
    unfold neE
    have : x.Edge ≠ a.Edge := fun e => he ⟨x, hx, e⟩
    simpa using this
  · refine ⟨by rw [h2, insA_len], up_next (ents_up h1), ?_⟩
    rw [h2, insA_filter (by unfold neA; simp), List.filter_eq_self.2 fun x hx => ?_]
    unfold neA
    have : x ≠ a := fun e => he ⟨x, hx, by rw [e]⟩
    simpa using this
/-- Deleted, then inserted. -/
theorem del_ins {o : Ov} (h : ValidO o) {b : Adj} (hb : b ∈ entsO o) : (delO o b.Edge).2 = 0 ∧ (insO (delO o b.Edge).1 b).2 = 0 ∧ ValidO (delO o b.Edge).1 ∧ ValidO (insO (delO o b.Edge).1 b).1 ∧ MoreA (entsO o) (entsO (delO o b.Edge).1) b ∧ entsO (insO (delO o b.Edge).1 b).1 = entsO o := by
  have hd := ents_dis' h
  obtain ⟨d0, d1, d2⟩ := del_spec h ⟨b, hb, rfl⟩
  have hne : ¬ HasE (entsO (delO o b.Edge).1) b.Edge := by
    rw [d2]
    rintro ⟨x, hx, e⟩
    have := (List.mem_filter.1 hx).2
    unfold neE at this
    simp [e] at this
  obtain ⟨i0, i1, i2⟩ := ins_spec d1 (form_ents h hb) hne
  have hp := perm_edge hd hb
  refine ⟨d0, i0, d1, i1, ⟨?_, up_next (ents_up h), ?_⟩, ?_⟩
  · rw [d2, ← hp.length_eq]; simp
  · rw [d2, filter_ne_edge hd hb]
  · rw [i2, d2]
    exact sorted_uniq ((insA_perm b _).trans hp) (insA_le ((ents_up h).le.filter _)) (ents_up h).le
end Go.Proofs.Ytkhgjbjkjefeoaa

/-
  overlay: a column laid from entries, in plain words.
-/
namespace Go.Proofs.Ytkhgjbjkjefeoaa
open Go.RowKit
set_option linter.unusedSimpArgs false
set_option linter.unusedVariables false

/-- Where a row begins. -/
def starts (l : List Adj) (k : Nat) : Bool := decide (k = 0) || decide ((ix l k).From ≠ (ix l (k - 1)).From)
def begL (l : List Adj) : Nat → List Nat
  | 0 => []
  | k + 1 => if starts l k then begL l k ++ [k] else begL l k
/-- What is laid when k entries are. -/
def layC (l : List Adj) (k : Nat) : Col := ⟨(begL l k).map fun (i : Nat) => (ix l i).From, (begL l k).map fun (i : Nat) => (i : Int), (l.take k).map (·.To), (l.take k).map (·.Edge)⟩
/-- The column of sorted entries. -/
def packC (l : List Adj) : Col := { layC l l.length with First := if l.length = 0 then [] else (layC l l.length).First ++ [(l.length : Int)] }
theorem layC_succ {l : List Adj} {k : Nat} (hk : k < l.length) : layC l (k + 1) = if starts l k then ⟨(layC l k).Nodes ++ [(ix l k).From], (layC l k).First ++ [(k : Int)], (layC l k).To ++ [(ix l k).To], (layC l k).Edge ++ [(ix l k).Edge]⟩ else ⟨(layC l k).Nodes, (layC l k).First, (layC l k).To ++ [(ix l k).To], (layC l k).Edge ++ [(ix l k).Edge]⟩ := by
  have e : l.take (k + 1) = l.take k ++ [ix l k] := by rw [List.take_succ_eq_append_getElem hk, ix_lt hk]
  unfold layC
  rw [e]
  cases h : starts l k <;> simp [begL, h]
theorem begL_le (l : List Adj) : ∀ k, (begL l k).length ≤ k
  | 0 => Nat.le_refl _
  | k + 1 => by
    have := begL_le l k
    unfold begL
    split
    · simp; omega
    · omega
def twice (l : List Adj) : Prop := ¬ DisE l
/-- Of. -/
noncomputable def ofC (l : List Adj) : Col × Int := @ite _ (∀ a ∈ l, FormA a) (Classical.propDecidable _) (@ite _ (DisE l) (Classical.propDecidable _) (packC (sortA l), 0) (⟨[], [], [], []⟩, 7)) (⟨[], [], [], []⟩, 1)
theorem ofC_bad {l : List Adj} {a : Adj} (h : a ∈ l) (hf : ¬ FormA a) : ofC l = (⟨[], [], [], []⟩, 1) := by
  unfold ofC
  rw [if_neg fun h' => hf (h' a h)]
theorem ofC_twice {l : List Adj} (h : ∀ a ∈ l, FormA a) (hd : ¬ DisE l) : ofC l = (⟨[], [], [], []⟩, 7) := by
  unfold ofC
  rw [if_pos h, if_neg hd]
theorem ofC_ok {l : List Adj} (h : ∀ a ∈ l, FormA a) (hd : DisE l) : ofC l = (packC (sortA l), 0) := by
  unfold ofC
  rw [if_pos h, if_pos hd]
end Go.Proofs.Ytkhgjbjkjefeoaa


/-
  overlay: pack and Of of the program.
-/
namespace Go.Proofs.Ytkhgjbjkjefeoaa
open Go.RowKit
set_option linter.unusedSimpArgs false
set_option linter.unusedVariables false
set_option maxRecDepth 100000

def sPack : List AV → Option (Prop × AV) := spec1 (fun (l : List Adj) => l.length ≤ 1000000) (fun l => Enc.enc (packC l))
def packH (l : List Adj) (k : Nat) : List Blk := [⟨24, 4, [[.slice 1 true [], .slice 1 true [], .slice 1 true [], .slice 1 true []]], true, true⟩, ⟨24, 4, [[.own 2 (layC l k).Nodes.length, .own 3 (layC l k).First.length, .own 4 (layC l k).To.length, .own 5 (layC l k).Edge.length]], true, false⟩, bI (layC l k).Nodes, bI (layC l k).First, bI (layC l k).To, bI (layC l k).Edge]
set_option maxHeartbeats 16000000 in
theorem packP : PureOK Try.prog G0 81 sPack := by
  refine pureH1 (C := CE) sigCE mixCE Try.func81 rfl rfl rfl [5, 6, 7] (by kernel_rfl) (by decide) (fun l hl => ?_)
  simp [aev, gav, alook, litOf, litAV, mget, mhas, acopy, asrc, adst, cav, look, acallPure, abin, abinN, abinP, abinI, abinS, aun, aconv, afield, afieldAddr, aindexAddr, aindex, aslice, alow, ahigh, abuild, abuildGo, cellsOf, splice, fieldTy, alen, apick, amax, amin, aload, headV, aparts, abuildSlice, elParts, abytesStr, astore, amake, aappend, aclear, anew, arith, aresults, aresList, ares, spec0, spec1, spec2, spec3, spec4, eqCells, eqCell]
  refine AW.weak (weak_nilcell 1 0 0 1 3 rfl rfl rfl (by decide)) ?_
  refine AW.weak (weak_nilcell 1 0 1 1 3 rfl rfl rfl (by decide)) ?_
  refine AW.weak (weak_nilcell 1 0 2 1 3 rfl rfl rfl (by decide)) ?_
  refine AW.weak (weak_nilcell 1 0 3 1 3 rfl rfl rfl (by decide)) ?_
  refine loop_ruleH (C := CE) sigCE mixCE [5, 6, 7] (fun k : Nat => ⟨[(0, Enc.enc l), (2, .ptr 0 1 4 0 0), (3, .ptr 1 1 4 0 0), (6, Enc.enc l), (7, .int .i64 l.length), (8, .int .i64 k)], packH l k⟩) (fun k => k ≤ l.length) (fun k => l.length - k) (by kernel_rfl) ⟨0, by omega, weak_eq (by simp) (by simp [packH, layC, begL, bI])⟩ (fun k hk => ?_)
  by_cases hlt : k < l.length
  · have i1 : I64 ((k : Int) + 1) := by unfold I64; omega
    have hs := layC_succ hlt
    have hb := begL_le l k
    have n1 : (layC l k).Nodes.length ≤ k := by show ((begL l k).map _).length ≤ k; rw [List.length_map]; exact hb
    have n2 : (layC l k).First.length ≤ k := by show ((begL l k).map _).length ≤ k; rw [List.length_map]; exact hb
    have n3 : (layC l k).To.length ≤ k := by show ((l.take k).map _).length ≤ k; simp; omega
    have n4 : (layC l k).Edge.length ≤ k := by show ((l.take k).map _).length ≤ k; simp; omega
    unfold packH
    simp [aev, gav, alook, litOf, litAV, mget, mhas, acopy, asrc, adst, cav, look, acallPure, abin, abinN, abinP, abinI, abinS, aun, aconv, afield, afieldAddr, aindexAddr, aindex, aslice, alow, ahigh, abuild, abuildGo, cellsOf, splice, fieldTy, alen, apick, amax, amin, aload, headV, aparts, abuildSlice, elParts, abytesStr, astore, amake, aappend, aclear, anew, arith, aresults, aresList, ares, spec0, spec1, spec2, spec3, spec4, eqCells, eqCell, hlt, rowAt_enc hlt]
    refine AW_regionF sigCE mixCE [.pure, .pure, .pure, .pure, .read, .pure, .pure, .pure, .pure, .pure, .read, .pure, .pure] [[],[0],[0,1],[1,0,2],[2,0,1,3],[1,0,2],[1,0,2],[2,0,1,6],[6,7,2,0,1,5],[5,1,0,2,7,6,8],[8,6,7,2,0,1,5,9],[9,5,7,6,8,10,3,1,0,2,4],[4,3,10,8,6,7,5,9,11,1,0,2]] (by kernel_rfl) (by kernel_rfl) (by kernel_rfl) (by kernel_rfl) ?_
    generalize layC l k = c at hs n1 n2 n3 n4 ⊢
    by_cases h0 : k = 0
    · subst h0
      have hs1 : starts l 0 = true := rfl
      have w1 : w64 1 = 1 := by decide
      rw [hs1] at hs
      simp only [if_true] at hs
      simp [aev, gav, alook, litOf, litAV, mget, mhas, acopy, asrc, adst, cav, look, acallPure, abin, abinN, abinP, abinI, abinS, aun, aconv, afield, afieldAddr, aindexAddr, aindex, aslice, alow, ahigh, abuild, abuildGo, cellsOf, splice, fieldTy, alen, apick, amax, amin, aload, headV, aparts, abuildSlice, elParts, abytesStr, astore, amake, aappend, aclear, anew, arith, aresults, aresList, ares, spec0, spec1, spec2, spec3, spec4, eqCells, eqCell]
      refine AW_regionF sigCE mixCE [.pure, .read, .pure, .read, .read, .eff, .pure, .read, .pure, .read, .eff, .pure, .eff, .pure, .eff] [[],[0],[],[2],[2,3],[3,2,4,0,1],[],[6],[],[8],[1,0,4,2,3,5,8,9,6,7],[7,6,5,4,3,2,1,0],[9,8,10,0,1,2,3,4,5,6,7,11],[12,11,10,9,8,7,6,5,4,3,2,1,0],[0,1,2,3,4,5,6,7,8,9,10,11,12,13]] (by kernel_rfl) (by kernel_rfl) (by kernel_rfl) (by kernel_rfl) ?_
      simp [aev, gav, alook, litOf, litAV, mget, mhas, acopy, asrc, adst, cav, look, acallPure, abin, abinN, abinP, abinI, abinS, aun, aconv, afield, afieldAddr, aindexAddr, aindex, aslice, alow, ahigh, abuild, abuildGo, cellsOf, splice, fieldTy, alen, apick, amax, amin, aload, headV, aparts, abuildSlice, elParts, abytesStr, astore, amake, aappend, aclear, anew, arith, aresults, aresList, ares, spec0, spec1, spec2, spec3, spec4, eqCells, eqCell, bI]
      refine ⟨by omega, by omega, ?_⟩
      refine AW_regionF sigCE mixCE [.pure, .read, .pure, .read, .read, .eff, .pure, .read, .pure, .read, .read, .eff, .pure, .eff, .pure, .eff] [[],[0],[],[2],[2,3],[3,2,4,0,1],[],[6],[],[8],[8,9],[1,0,4,2,3,5,9,8,10,6,7],[7,6,5,4,3,2,1,0],[10,8,9,11,0,1,2,3,4,5,6,7,12],[13,12,11,10,9,8,7,6,5,4,3,2,1,0],[0,1,2,3,4,5,6,7,8,9,10,11,12,13,14]] (by kernel_rfl) (by kernel_rfl) (by kernel_rfl) (by kernel_rfl) ?_
      simp [aev, gav, alook, litOf, litAV, mget, mhas, acopy, asrc, adst, cav, look, acallPure, abin, abinN, abinP, abinI, abinS, aun, aconv, afield, afieldAddr, aindexAddr, aindex, aslice, alow, ahigh, abuild, abuildGo, cellsOf, splice, fieldTy, alen, apick, amax, amin, aload, headV, aparts, abuildSlice, elParts, abytesStr, astore, amake, aappend, aclear, anew, arith, aresults, aresList, ares, spec0, spec1, spec2, spec3, spec4, eqCells, eqCell, i1]
      refine ⟨by omega, by omega, ?_⟩
      exact ⟨0 + 1, by omega, by omega, weak_keep 6 (by simp [w1]) (by simp) (by simp [AV.clean, AV.clean1]) (by simp [AV.clean, AV.clean1]) (by simp [hs, bI])⟩
    · have hk1 : k - 1 < l.length := by omega
      have j1 : I64 ((k : Int) - 1) := by unfold I64; omega
      have j2 : ((k : Int) - 1).toNat = k - 1 := by omega
      have j3 : (0 : Int) ≤ (k : Int) - 1 := by omega
      have j4 : (k : Int) - 1 < l.length := by omega
      by_cases hf : (ix l k).From = (ix l (k - 1)).From
      · have hs1 : starts l k = false := by unfold starts; simp [h0, hf]
        rw [hs1] at hs
        simp only [Bool.false_eq_true, if_false] at hs
        simp [aev, gav, alook, litOf, litAV, mget, mhas, acopy, asrc, adst, cav, look, acallPure, abin, abinN, abinP, abinI, abinS, aun, aconv, afield, afieldAddr, aindexAddr, aindex, aslice, alow, ahigh, abuild, abuildGo, cellsOf, splice, fieldTy, alen, apick, amax, amin, aload, headV, aparts, abuildSlice, elParts, abytesStr, astore, amake, aappend, aclear, anew, arith, aresults, aresList, ares, spec0, spec1, spec2, spec3, spec4, eqCells, eqCell, h0, j1, j2, j3, j4, rowAt_enc hk1, hk1, hf]
        refine ⟨by omega, ?_⟩
        refine AW_regionF sigCE mixCE [.pure, .read, .pure, .read, .read, .eff, .pure, .read, .pure, .read, .read, .eff, .pure, .eff, .pure, .eff] [[],[0],[],[2],[2,3],[3,2,4,0,1],[],[6],[],[8],[8,9],[1,0,4,2,3,5,9,8,10,6,7],[7,6,5,4,3,2,1,0],[10,8,9,11,0,1,2,3,4,5,6,7,12],[13,12,11,10,9,8,7,6,5,4,3,2,1,0],[0,1,2,3,4,5,6,7,8,9,10,11,12,13,14]] (by kernel_rfl) (by kernel_rfl) (by kernel_rfl) (by kernel_rfl) ?_
        simp [aev, gav, alook, litOf, litAV, mget, mhas, acopy, asrc, adst, cav, look, acallPure, abin, abinN, abinP, abinI, abinS, aun, aconv, afield, afieldAddr, aindexAddr, aindex, aslice, alow, ahigh, abuild, abuildGo, cellsOf, splice, fieldTy, alen, apick, amax, amin, aload, headV, aparts, abuildSlice, elParts, abytesStr, astore, amake, aappend, aclear, anew, arith, aresults, aresList, ares, spec0, spec1, spec2, spec3, spec4, eqCells, eqCell, bI, i1]
        refine ⟨by omega, by omega, ?_⟩
        exact ⟨k + 1, by omega, by omega, weak_keep 6 (by simp) (by simp) (by simp [AV.clean, AV.clean1]) (by simp [AV.clean, AV.clean1]) (by simp [hs, bI])⟩
      · have hs1 : starts l k = true := by unfold starts; simp [h0, hf]
        rw [hs1] at hs
        simp only [if_true] at hs
        simp [aev, gav, alook, litOf, litAV, mget, mhas, acopy, asrc, adst, cav, look, acallPure, abin, abinN, abinP, abinI, abinS, aun, aconv, afield, afieldAddr, aindexAddr, aindex, aslice, alow, ahigh, abuild, abuildGo, cellsOf, splice, fieldTy, alen, apick, amax, amin, aload, headV, aparts, abuildSlice, elParts, abytesStr, astore, amake, aappend, aclear, anew, arith, aresults, aresList, ares, spec0, spec1, spec2, spec3, spec4, eqCells, eqCell, h0, j1, j2, j3, j4, rowAt_enc hk1, hk1, hf]
        refine ⟨by omega, ?_⟩
        refine AW_regionF sigCE mixCE [.pure, .read, .pure, .read, .read, .eff, .pure, .read, .pure, .read, .eff, .pure, .eff, .pure, .eff] [[],[0],[],[2],[2,3],[3,2,4,0,1],[],[6],[],[8],[1,0,4,2,3,5,8,9,6,7],[7,6,5,4,3,2,1,0],[9,8,10,0,1,2,3,4,5,6,7,11],[12,11,10,9,8,7,6,5,4,3,2,1,0],[0,1,2,3,4,5,6,7,8,9,10,11,12,13]] (by kernel_rfl) (by kernel_rfl) (by kernel_rfl) (by kernel_rfl) ?_
        simp [aev, gav, alook, litOf, litAV, mget, mhas, acopy, asrc, adst, cav, look, acallPure, abin, abinN, abinP, abinI, abinS, aun, aconv, afield, afieldAddr, aindexAddr, aindex, aslice, alow, ahigh, abuild, abuildGo, cellsOf, splice, fieldTy, alen, apick, amax, amin, aload, headV, aparts, abuildSlice, elParts, abytesStr, astore, amake, aappend, aclear, anew, arith, aresults, aresList, ares, spec0, spec1, spec2, spec3, spec4, eqCells, eqCell, bI]
        refine ⟨by omega, by omega, ?_⟩
        refine AW_regionF sigCE mixCE [.pure, .read, .pure, .read, .read, .eff, .pure, .read, .pure, .read, .read, .eff, .pure, .eff, .pure, .eff] [[],[0],[],[2],[2,3],[3,2,4,0,1],[],[6],[],[8],[8,9],[1,0,4,2,3,5,9,8,10,6,7],[7,6,5,4,3,2,1,0],[10,8,9,11,0,1,2,3,4,5,6,7,12],[13,12,11,10,9,8,7,6,5,4,3,2,1,0],[0,1,2,3,4,5,6,7,8,9,10,11,12,13,14]] (by kernel_rfl) (by kernel_rfl) (by kernel_rfl) (by kernel_rfl) ?_
        simp [aev, gav, alook, litOf, litAV, mget, mhas, acopy, asrc, adst, cav, look, acallPure, abin, abinN, abinP, abinI, abinS, aun, aconv, afield, afieldAddr, aindexAddr, aindex, aslice, alow, ahigh, abuild, abuildGo, cellsOf, splice, fieldTy, alen, apick, amax, amin, aload, headV, aparts, abuildSlice, elParts, abytesStr, astore, amake, aappend, aclear, anew, arith, aresults, aresList, ares, spec0, spec1, spec2, spec3, spec4, eqCells, eqCell, i1]
        refine ⟨by omega, by omega, ?_⟩
        exact ⟨k + 1, by omega, by omega, weak_keep 6 (by simp) (by simp) (by simp [AV.clean, AV.clean1]) (by simp [AV.clean, AV.clean1]) (by simp [hs, bI])⟩
  · obtain rfl : k = l.length := by omega
    unfold packH
    have hb := begL_le l l.length
    have n2 : (layC l l.length).First.length ≤ l.length := by show ((begL l l.length).map _).length ≤ l.length; rw [List.length_map]; exact hb
    have hp : packC l = { layC l l.length with First := if l.length = 0 then [] else (layC l l.length).First ++ [(l.length : Int)] } := rfl
    rw [hp]
    clear hp
    by_cases h0 : l.length = 0
    · have hF : (layC l l.length).First = [] := by
        have : (layC l l.length).First.length = 0 := by omega
        exact List.length_eq_zero_iff.1 this
      simp [aev, gav, alook, litOf, litAV, mget, mhas, acopy, asrc, adst, cav, look, acallPure, abin, abinN, abinP, abinI, abinS, aun, aconv, afield, afieldAddr, aindexAddr, aindex, aslice, alow, ahigh, abuild, abuildGo, cellsOf, splice, fieldTy, alen, apick, amax, amin, aload, headV, aparts, abuildSlice, elParts, abytesStr, astore, amake, aappend, aclear, anew, arith, aresults, aresList, ares, spec0, spec1, spec2, spec3, spec4, eqCells, eqCell, h0, bI]
      rw [h0] at hF
      rw [hF]
      rfl
    · have h0' : 0 < l.length := by omega
      generalize layC l l.length = c at n2 ⊢
      simp [aev, gav, alook, litOf, litAV, mget, mhas, acopy, asrc, adst, cav, look, acallPure, abin, abinN, abinP, abinI, abinS, aun, aconv, afield, afieldAddr, aindexAddr, aindex, aslice, alow, ahigh, abuild, abuildGo, cellsOf, splice, fieldTy, alen, apick, amax, amin, aload, headV, aparts, abuildSlice, elParts, abytesStr, astore, amake, aappend, aclear, anew, arith, aresults, aresList, ares, spec0, spec1, spec2, spec3, spec4, eqCells, eqCell, h0, h0', bI]
      omega
theorem mhas_set (l : List Int) (v : Int) : mhas (setL l) (.int .i64 v) = decide (v ∈ l) := by
  induction l with
  | nil => rfl
  | cons a r ih =>
    show ((Lit.int .i64 a).sameKey (.int .i64 v) || mhas (setL r) _) = _
    rw [ih]
    have hk : (Lit.int .i64 a).sameKey (.int .i64 v) = decide (a = v) := by
      rw [Bool.eq_iff_iff, WideAt.sameKey_iff (by trivial)]
      simp
    rw [hk]
    by_cases h : a = v
    · simp [h]
    · have h' : ¬ v = a := fun e => h e.symm
      simp [h, h']
theorem msize_set : ∀ l : List Int, msize (setL l) ≤ l.length ∧ (msize (setL l) < l.length ↔ ¬ l.Nodup)
  | [] => ⟨Nat.le_refl _, by simp [setL, msize]⟩
  | a :: r => by
    obtain ⟨h1, h2⟩ := msize_set r
    have e : msize (setL (a :: r)) = if a ∈ r then msize (setL r) else msize (setL r) + 1 := by
      show (if mhas (setL r) (.int .i64 a) then msize (setL r) else msize (setL r) + 1) = _
      rw [mhas_set]
      by_cases h : a ∈ r <;> simp [h]
    rw [List.nodup_cons, List.length_cons]
    by_cases h : a ∈ r
    · rw [if_pos h] at e
      rw [e]
      refine ⟨by omega, ⟨fun _ h' => h'.1 h, fun _ => by omega⟩⟩
    · rw [if_neg h] at e
      rw [e]
      refine ⟨by omega, ⟨fun h' h'' => h2.1 (by omega) h''.2, fun h' => ?_⟩⟩
      have := h2.2 fun h3 => h' ⟨h, h3⟩
      omega
theorem seen_size (l : List Adj) : msize (seenL l l.length) < l.length ↔ ¬ DisE l := by
  have h := (msize_set ((l.take l.length).map (·.Edge)).reverse).2
  rw [List.length_reverse, List.length_map, List.take_length] at h
  unfold seenL
  rw [List.take_length, h, (List.reverse_perm _).nodup_iff, dis_iff]
noncomputable def sOf : List AV → Option (Prop × AV) := spec1 (fun (l : List Adj) => l.length ≤ 1000000) (fun l => .tup [Enc.enc (ofC l).1, .int .i64 (ofC l).2])
noncomputable def COf : Ctx := mkC Try.prog G0 [(76, .pure sId), (83, .pure sVals), (82, .pure sSorted), (81, .pure sPack)]
@[simp] theorem COf_P : COf.P = Try.prog := rfl
@[simp] theorem COf_G : COf.G = G0 := rfl
@[simp] theorem COf_1 : COf.S 76 = .pure sId := rfl
@[simp] theorem COf_2 : COf.S 83 = .pure sVals := rfl
@[simp] theorem COf_3 : COf.S 82 = .pure sSorted := rfl
@[simp] theorem COf_4 : COf.S 81 = .pure sPack := rfl
theorem mixCOf : COf.P.follows .mixedOrders = true := mixed
theorem sigCOf : SigOK COf := sigOK_cons (entryPure (idC) Try.func76 rfl (by decide)) (sigOK_cons (entryPure (valsP) Try.func83 rfl (by decide)) (sigOK_cons (entryPure (sortedS) Try.func82 rfl (by decide)) (sigOK_cons (entryPure (packP) Try.func81 rfl (by decide)) (sigOK_nil _ _))))
set_option maxHeartbeats 16000000 in
theorem ofP : PureOK Try.prog G0 54 sOf := by
  refine pureM1 (C := COf) sigCOf mixCOf (noMap rfl) Try.func54 rfl rfl rfl [1, 7] [] (by kernel_rfl) (by decide) (fun l hl => ?_)
  obtain ⟨r, hr⟩ : ∃ r, ofC l = r := ⟨_, rfl⟩
  rw [hr]
  simp [aev, gav, alook, litOf, litAV, mget, mhas, acopy, asrc, adst, cav, look, acallPure, abin, abinN, abinP, abinI, abinS, aun, aconv, afield, afieldAddr, aindexAddr, aindex, aslice, alow, ahigh, abuild, abuildGo, cellsOf, splice, fieldTy, alen, apick, amax, amin, aload, headV, aparts, abuildSlice, elParts, abytesStr, astore, amake, aappend, aclear, anew, arith, aresults, aresList, ares, spec0, spec1, spec2, spec3, spec4, eqCells, eqCell]
  intro b hb0
  refine loop_ruleM (C := COf) sigCOf mixCOf [1, 7] [] (fun q : Nat × List Blk => ⟨[(0, Enc.enc l), (2, .ptr 0 1 4 0 0), (4, .mapp b), (8, Enc.enc l), (9, .int .i64 l.length), (10, .int .i64 q.1)], [⟨24, 4, [[.slice 1 true [], .slice 1 true [], .slice 1 true [], .slice 1 true []]], true, true⟩] ++ q.2⟩) (fun q => upd G0 b (.mapof 3 4 (seenL l q.1))) (fun q => q.1 ≤ l.length ∧ ∀ i, i < q.1 → FormA (ix l i)) (fun q => l.length - q.1) (by kernel_rfl) ⟨(0, []), ⟨by simp, fun i hi => by simp at hi⟩, by simp [seen_zero], weak_eq (by simp) (by simp)⟩ (fun ⟨k, Z⟩ ⟨hk, hf⟩ => ?_)
  simp only at hk hf ⊢
  by_cases hlt : k < l.length
  · have i1 : I64 ((k : Int) + 1) := by unfold I64; omega
    have hsl := seen_len hk
    have bad : ¬ FormA (ix l k) → r = (⟨[], [], [], []⟩, 1) := fun h => by rw [← hr]; exact ofC_bad (ix_mem hlt) h
    by_cases f1 : IdOK (ix l k).From
    case neg =>
      have hr0 := bad fun h => f1 h.1
      simp [aev, gav, alook, litOf, litAV, mget, mhas, acopy, asrc, adst, cav, look, acallPure, abin, abinN, abinP, abinI, abinS, aun, aconv, afield, afieldAddr, aindexAddr, aindex, aslice, alow, ahigh, abuild, abuildGo, cellsOf, splice, fieldTy, alen, apick, amax, amin, aload, headV, aparts, abuildSlice, elParts, abytesStr, astore, amake, aappend, aclear, anew, arith, aresults, aresList, ares, spec0, spec1, spec2, spec3, spec4, eqCells, eqCell, hlt, rowAt_enc hlt, sId, f1, hr0]
    by_cases f2 : IdOK (ix l k).To
    case neg =>
      have hr0 := bad fun h => f2 h.2.1
      simp [aev, gav, alook, litOf, litAV, mget, mhas, acopy, asrc, adst, cav, look, acallPure, abin, abinN, abinP, abinI, abinS, aun, aconv, afield, afieldAddr, aindexAddr, aindex, aslice, alow, ahigh, abuild, abuildGo, cellsOf, splice, fieldTy, alen, apick, amax, amin, aload, headV, aparts, abuildSlice, elParts, abytesStr, astore, amake, aappend, aclear, anew, arith, aresults, aresList, ares, spec0, spec1, spec2, spec3, spec4, eqCells, eqCell, hlt, rowAt_enc hlt, sId, f1, f2, hr0]
    by_cases f3 : IdOK (ix l k).Edge
    case neg =>
      have hr0 := bad fun h => f3 h.2.2
      simp [aev, gav, alook, litOf, litAV, mget, mhas, acopy, asrc, adst, cav, look, acallPure, abin, abinN, abinP, abinI, abinS, aun, aconv, afield, afieldAddr, aindexAddr, aindex, aslice, alow, ahigh, abuild, abuildGo, cellsOf, splice, fieldTy, alen, apick, amax, amin, aload, headV, aparts, abuildSlice, elParts, abytesStr, astore, amake, aappend, aclear, anew, arith, aresults, aresList, ares, spec0, spec1, spec2, spec3, spec4, eqCells, eqCell, hlt, rowAt_enc hlt, sId, f1, f2, f3, hr0]
    have f4 := id_i64 f3
    simp [aev, gav, alook, litOf, litAV, mget, mhas, acopy, asrc, adst, cav, look, acallPure, abin, abinN, abinP, abinI, abinS, aun, aconv, afield, afieldAddr, aindexAddr, aindex, aslice, alow, ahigh, abuild, abuildGo, cellsOf, splice, fieldTy, alen, apick, amax, amin, aload, headV, aparts, abuildSlice, elParts, abytesStr, astore, amake, aappend, aclear, anew, arith, aresults, aresList, ares, spec0, spec1, spec2, spec3, spec4, eqCells, eqCell, hlt, rowAt_enc hlt, sId, f1, f2, f3, f4, i1, hsl, seen_succ hlt]
    refine ⟨by omega, k + 1, ⟨by omega, fun i hi => ?_⟩, by omega, rfl, _, weak_eq (by simp) rfl⟩
    rcases Nat.lt_or_eq_of_le (Nat.le_of_lt_succ hi) with h | rfl
    · exact hf i h
    · exact ⟨f1, f2, f3⟩
  · obtain rfl : k = l.length := by omega
    have hF : ∀ a ∈ l, FormA a := fun a ha => by obtain ⟨j, hj, rfl⟩ := mem_ix ha; exact hf j hj
    have hsz := seen_size l
    by_cases hd : DisE l
    · have hr0 : r = (packC (sortA l), 0) := by rw [← hr]; exact ofC_ok hF hd
      have hlt2 : ¬ (msize (seenL l l.length) : Int) < l.length := fun h => hsz.1 (by omega) hd
      have hsl : (sortA l).length = l.length := (sortA_perm l).length_eq
      simp [aev, gav, alook, litOf, litAV, mget, mhas, acopy, asrc, adst, cav, look, acallPure, abin, abinN, abinP, abinI, abinS, aun, aconv, afield, afieldAddr, aindexAddr, aindex, aslice, alow, ahigh, abuild, abuildGo, cellsOf, splice, fieldTy, alen, apick, amax, amin, aload, headV, aparts, abuildSlice, elParts, abytesStr, astore, amake, aappend, aclear, anew, arith, aresults, aresList, ares, spec0, spec1, spec2, spec3, spec4, eqCells, eqCell, hlt, hlt2, sVals, sSorted, hl, sPack, hsl, hr0]
    · have hr0 : r = (⟨[], [], [], []⟩, 7) := by rw [← hr]; exact ofC_twice hF hd
      have hlt2 : (msize (seenL l l.length) : Int) < l.length := by have := hsz.2 hd; omega
      simp [aev, gav, alook, litOf, litAV, mget, mhas, acopy, asrc, adst, cav, look, acallPure, abin, abinN, abinP, abinI, abinS, aun, aconv, afield, afieldAddr, aindexAddr, aindex, aslice, alow, ahigh, abuild, abuildGo, cellsOf, splice, fieldTy, alen, apick, amax, amin, aload, headV, aparts, abuildSlice, elParts, abytesStr, astore, amake, aappend, aclear, anew, arith, aresults, aresList, ares, spec0, spec1, spec2, spec3, spec4, eqCells, eqCell, hlt, hlt2, hr0]
end Go.Proofs.Ytkhgjbjkjefeoaa

/-
  overlay: an element moved down to its place, in plain words.
-/
namespace Go.Proofs.Ytkhgjbjkjefeoaa
open Go.RowKit
set_option linter.unusedSimpArgs false
set_option linter.unusedVariables false

theorem insL_get {S : List Adj} {k : Nat} {x : Adj} (hk : k ≤ S.length) {j : Nat} : ix (insL S k x) j = if j < k then ix S j else if j = k then x else ix S (j - 1) := by
  unfold ix insL
  simp only [List.getD_eq_getElem?_getD]
  have ht : (S.take k).length = k := by rw [List.length_take]; omega
  rcases Nat.lt_trichotomy j k with h | h | h
  · rw [if_pos h, List.append_assoc, List.getElem?_append_left (by omega), List.getElem?_take, if_pos h]
  · subst h
    rw [if_neg (by omega), if_pos rfl, List.append_assoc, List.getElem?_append_right (by omega), ht, Nat.sub_self]
    rfl
  · rw [if_neg (by omega), if_neg (by omega), List.getElem?_append_right (by rw [List.length_append, ht]; simp; omega), List.length_append, ht, List.getElem?_drop]
    congr 2
    simp
    omega
theorem insL_swap {S : List Adj} {k : Nat} {x : Adj} (hk : k ≤ S.length) (h0 : 0 < k) : ((insL S k x).set k (ix S (k - 1))).set (k - 1) x = insL S (k - 1) x := by
  have h1 := insL_length (l := S) (i := k) (x := x)
  have h2 := insL_length (l := S) (i := k - 1) (x := x)
  refine List.ext_getElem (by simp; omega) fun j a1 a2 => ?_
  have g1 := insL_get (S := S) (k := k) (x := x) hk (j := j)
  have g2 := insL_get (S := S) (k := k - 1) (x := x) (by omega) (j := j)
  rw [ix_lt (by simpa using a1)] at g1
  rw [ix_lt a2] at g2
  rw [List.getElem_set, g2]
  by_cases e1 : k - 1 = j
  · rw [if_pos e1, if_neg (by omega), if_pos e1.symm]
  · rw [if_neg e1, List.getElem_set]
    by_cases e2 : k = j
    · subst e2
      rw [if_pos rfl, if_neg (by omega), if_neg (by omega)]
    · rw [if_neg e2, g1]
      rcases Nat.lt_or_ge j k with h | h
      · rw [if_pos h, if_pos (by omega)]
      · rw [if_neg (by omega), if_neg (by omega), if_neg (by omega), if_neg (by omega)]
theorem insL_perm {S : List Adj} {k : Nat} {x : Adj} : (insL S k x).Perm (x :: S) := by
  unfold insL
  rw [List.append_assoc]
  refine (List.perm_middle (l₁ := S.take k) (a := x) (l₂ := S.drop k)).trans ?_
  rw [List.take_append_drop]
theorem insL_sorted {S : List Adj} {k : Nat} {x : Adj} (hk : k ≤ S.length) (hS : S.Pairwise LeA) (h1 : ∀ j, k ≤ j → j < S.length → LtA x (ix S j)) (h2 : 0 < k → ¬ LtA x (ix S (k - 1))) : insL S k x = sortA (x :: S) := by
  refine (sortA_eq insL_perm ?_).symm
  unfold insL
  rw [List.append_assoc, List.pairwise_append]
  have hp : (S.take k ++ S.drop k).Pairwise LeA := by rw [List.take_append_drop]; exact hS
  rw [List.pairwise_append] at hp
  obtain ⟨p1, p2, p3⟩ := hp
  refine ⟨p1, ?_, ?_⟩
  · show (x :: S.drop k).Pairwise LeA
    rw [List.pairwise_cons]
    refine ⟨fun y hy => ?_, p2⟩
    obtain ⟨j, hj, rfl⟩ := List.getElem_of_mem hy
    rw [List.length_drop] at hj
    rw [List.getElem_drop]
    have := h1 (k + j) (by omega) (by omega)
    rw [ix_lt (by omega)] at this
    exact .inr this
  · intro y hy z hz
    rcases List.mem_cons.1 hz with rfl | hz
    · obtain ⟨j, hj, rfl⟩ := List.getElem_of_mem hy
      rw [List.length_take] at hj
      rw [List.getElem_take]
      have h3 := not_lt.1 (h2 (by omega))
      rw [ix_lt (show k - 1 < S.length by omega)] at h3
      rcases Nat.lt_or_eq_of_le (show j ≤ k - 1 by omega) with h | h
      · exact le_trans (List.pairwise_iff_getElem.1 hS j (k - 1) (by omega) (by omega) h) h3
      · subst h; exact h3
    · exact p3 y hy z hz
theorem sortA_snoc {l : List Adj} {k : Nat} (hk : k < l.length) : sortA (ix l k :: sortA (l.take k)) = sortA (l.take (k + 1)) := by
  refine sort_perm ?_
  have e : l.take (k + 1) = l.take k ++ [ix l k] := by rw [List.take_succ_eq_append_getElem hk, ix_lt hk]
  rw [e]
  exact ((sortA_perm _).cons _).trans (List.perm_append_comm (l₁ := [ix l k]))
end Go.Proofs.Ytkhgjbjkjefeoaa


/-
  overlay: Sorted of the reference.
-/
namespace Go.Proofs.Ytkhgjbjkjefeoaa
open Go.RowKit
set_option linter.unusedSimpArgs false
set_option linter.unusedVariables false
set_option maxRecDepth 100000

def sSrt : List AV → Option (Prop × AV) := spec1 (fun (l : List Adj) => l.length ≤ 1000000) (fun l => Enc.enc (sortA l))
noncomputable def CSd : Ctx := mkC Try.prog G0 [(80, .pure sLt)]
@[simp] theorem CSd_P : CSd.P = Try.prog := rfl
@[simp] theorem CSd_G : CSd.G = G0 := rfl
@[simp] theorem CSd_1 : CSd.S 80 = .pure sLt := rfl
theorem mixCSd : CSd.P.follows .mixedOrders = true := mixed
theorem sigCSd : SigOK CSd := sigOK_cons (entryPure (ltR) Try.func80 rfl (by decide)) (sigOK_nil _ _)
set_option maxHeartbeats 16000000 in
theorem srtR : PureOK Try.prog G0 92 sSrt := by
  refine pureH1 (C := CSd) sigCSd mixCSd Try.func92 rfl rfl rfl [7] (by kernel_rfl) (by decide) (fun l hl => ?_)
  simp [aev, gav, alook, litOf, litAV, mget, mhas, acopy, asrc, adst, cav, look, acallPure, abin, abinN, abinP, abinI, abinS, aun, aconv, afield, afieldAddr, aindexAddr, aindex, aslice, alow, ahigh, abuild, abuildGo, cellsOf, splice, fieldTy, alen, apick, amax, amin, aload, headV, aparts, abuildSlice, elParts, abytesStr, astore, amake, aappend, aclear, anew, arith, aresults, aresList, ares, spec0, spec1, spec2, spec3, spec4, eqCells, eqCell]
  refine AW.weak (weak_nil 3 3 29 rfl (by decide)) ?_
  refine loop_ruleH (C := CSd) sigCSd mixCSd [7] (fun i : Nat => ⟨[(0, Enc.enc l), (3, .own 0 (sortA (l.take i)).length), (4, .int .i64 i)], [bA (sortA (l.take i))]⟩) (fun i => i ≤ l.length) (fun i => l.length - i) (by kernel_rfl) ⟨0, by omega, weak_eq (by simp [sortA, sortBy]) (by simp [bA, sortA, sortBy])⟩ (fun i hi => ?_)
  have hsl : (sortA (l.take i)).length = i := by rw [(sortA_perm _).length_eq, List.length_take]; omega
  have hle := sortA_le (l.take i)
  by_cases hlt : i < l.length
  · have i1 : I64 ((i : Int) + 1) := by unfold I64; omega
    have hsn := sortA_snoc hlt
    generalize sortA (l.take i) = S at hsl hle hsn ⊢
    subst hsl
    obtain ⟨x, hx⟩ : ∃ x, ix l S.length = x := ⟨_, rfl⟩
    simp [aev, gav, alook, litOf, litAV, mget, mhas, acopy, asrc, adst, cav, look, acallPure, abin, abinN, abinP, abinI, abinS, aun, aconv, afield, afieldAddr, aindexAddr, aindex, aslice, alow, ahigh, abuild, abuildGo, cellsOf, splice, fieldTy, alen, apick, amax, amin, aload, headV, aparts, abuildSlice, elParts, abytesStr, astore, amake, aappend, aclear, anew, arith, aresults, aresList, ares, spec0, spec1, spec2, spec3, spec4, eqCells, eqCell, hlt, rowAt_enc hlt, bA, hx]
    refine ⟨by omega, ?_⟩
    rw [hx] at hsn
    refine loop_ruleH (C := CSd) sigCSd mixCSd [7] (fun k : Nat => ⟨[(0, Enc.enc l), (3, .own 0 (S.length + 1)), (4, .int .i64 S.length), (5, .int .i64 k)], [bA (insL S k x)]⟩) (fun k => k ≤ S.length ∧ ∀ j, k ≤ j → j < S.length → LtA x (ix S j)) (fun k => k) (by kernel_rfl) ⟨S.length, ⟨by omega, fun j h1 h2 => by omega⟩, weak_eq (by simp) (by simp [bA, insL])⟩ (fun k ⟨hk, hb⟩ => ?_)
    have hil := insL_length (l := S) (i := k) (x := x)
    simp [aev, gav, alook, litOf, litAV, mget, mhas, acopy, asrc, adst, cav, look, acallPure, abin, abinN, abinP, abinI, abinS, aun, aconv, afield, afieldAddr, aindexAddr, aindex, aslice, alow, ahigh, abuild, abuildGo, cellsOf, splice, fieldTy, alen, apick, amax, amin, aload, headV, aparts, abuildSlice, elParts, abytesStr, astore, amake, aappend, aclear, anew, arith, aresults, aresList, ares, spec0, spec1, spec2, spec3, spec4, eqCells, eqCell]
    refine AW_regionF sigCSd mixCSd [.pure, .pure, .pure, .pure, .pure, .pure, .read, .pure, .pure, .pure, .pure, .read, .read, .pure] [[],[0],[0,1],[1,0,2],[1,0,2],[4,2,0,1,3],[3,1,0,2,4,5],[1,0,2],[1,0,2],[2,0,1,8],[8,9,2,0,1,7],[7,1,0,2,9,8,10],[10,8,9,7,11,5,4,2,0,1,3,6],[6,3,4,5,11,7,9,8,10,12,1,0,2]] (by kernel_rfl) (by kernel_rfl) (by kernel_rfl) (by kernel_rfl) ?_
    have fin : (0 < k → ¬ LtA x (ix S (k - 1))) → insL S k x = sortA (l.take (S.length + 1)) := fun h => by
      rw [insL_sorted hk hle hb h]; exact hsn
    by_cases h0 : k = 0
    · have hf := fin fun h => by omega
      subst h0
      simp [aev, gav, alook, litOf, litAV, mget, mhas, acopy, asrc, adst, cav, look, acallPure, abin, abinN, abinP, abinI, abinS, aun, aconv, afield, afieldAddr, aindexAddr, aindex, aslice, alow, ahigh, abuild, abuildGo, cellsOf, splice, fieldTy, alen, apick, amax, amin, aload, headV, aparts, abuildSlice, elParts, abytesStr, astore, amake, aappend, aclear, anew, arith, aresults, aresList, ares, spec0, spec1, spec2, spec3, spec4, eqCells, eqCell, i1, hf, bA]
      have hl2 : (sortA (l.take (S.length + 1))).length = S.length + 1 := by rw [← hf]; exact hil
      exact ⟨S.length + 1, by omega, by omega, weak_keep 1 (by simp [hl2]) (by simp) (by simp [AV.clean, AV.clean1]) (by simp [AV.clean, AV.clean1]) (by simp)⟩
    · have k0 : 0 < k := by omega
      have kl : k < (insL S k x).length := by omega
      have kl1 : k - 1 < (insL S k x).length := by omega
      have j1 : I64 ((k : Int) - 1) := by unfold I64; omega
      have j2 : ((k : Int) - 1).toNat = k - 1 := by omega
      have j3 : (1 : Int) ≤ (k : Int) := by omega
      have j4 : (k : Int) - 1 < (S.length : Int) + 1 := by omega
      have j5 : (k : Int) < (S.length : Int) + 1 := by omega
      have g0 : ix (insL S k x) k = x := by rw [insL_get hk]; simp
      have g1 : ix (insL S k x) (k - 1) = ix S (k - 1) := by rw [insL_get hk, if_pos (by omega)]
      by_cases hlx : LtA x (ix S (k - 1))
      · simp [aev, gav, alook, litOf, litAV, mget, mhas, acopy, asrc, adst, cav, look, acallPure, abin, abinN, abinP, abinI, abinS, aun, aconv, afield, afieldAddr, aindexAddr, aindex, aslice, alow, ahigh, abuild, abuildGo, cellsOf, splice, fieldTy, alen, apick, amax, amin, aload, headV, aparts, abuildSlice, elParts, abytesStr, astore, amake, aappend, aclear, anew, arith, aresults, aresList, ares, spec0, spec1, spec2, spec3, spec4, eqCells, eqCell, k0, j1, j2, j3, j4, j5, rowAt_enc kl, rowAt_enc kl1, kl, kl1, g0, g1, sLt, hlx, bA, hil]
        have e1 := encRows_set (insL S k x) k (ix S (k - 1))
        have kl2 : k - 1 < ((insL S k x).set k (ix S (k - 1))).length := by simp; omega
        have e2 := encRows_set ((insL S k x).set k (ix S (k - 1))) (k - 1) x
        rw [insL_swap hk k0] at e2
        simp only [cells_Adj] at e1 e2
        rw [e1, rowAt_enc kl2]
        simp only [cells_Adj, List.drop_succ_cons, List.drop_zero]
        rw [e2]
        exact ⟨by omega, by omega, by omega, by omega, by omega, by omega, k - 1, ⟨by omega, fun j h1 h2 => by
          rcases Nat.lt_or_ge j k with h | h
          · obtain rfl : j = k - 1 := by omega
            exact hlx
          · exact hb j h h2⟩, by omega, weak_keep 1 (by simp; omega) (by simp) (by simp [AV.clean, AV.clean1]) (by simp [AV.clean, AV.clean1]) (by simp)⟩
      · have hf := fin fun _ => hlx
        simp [aev, gav, alook, litOf, litAV, mget, mhas, acopy, asrc, adst, cav, look, acallPure, abin, abinN, abinP, abinI, abinS, aun, aconv, afield, afieldAddr, aindexAddr, aindex, aslice, alow, ahigh, abuild, abuildGo, cellsOf, splice, fieldTy, alen, apick, amax, amin, aload, headV, aparts, abuildSlice, elParts, abytesStr, astore, amake, aappend, aclear, anew, arith, aresults, aresList, ares, spec0, spec1, spec2, spec3, spec4, eqCells, eqCell, k0, j1, j2, j3, j4, j5, rowAt_enc kl, rowAt_enc kl1, kl, kl1, g0, g1, sLt, hlx, i1, bA, hil]
        have hl2 : (sortA (l.take (S.length + 1))).length = S.length + 1 := by rw [← hf]; exact hil
        rw [hf]
        exact ⟨by omega, by omega, S.length + 1, by omega, by omega, weak_keep 1 (by simp [hl2]) (by simp) (by simp [AV.clean, AV.clean1]) (by simp [AV.clean, AV.clean1]) (by simp)⟩
  · obtain rfl : i = l.length := by omega
    rw [List.take_length] at hsl ⊢
    simp [aev, gav, alook, litOf, litAV, mget, mhas, acopy, asrc, adst, cav, look, acallPure, abin, abinN, abinP, abinI, abinS, aun, aconv, afield, afieldAddr, aindexAddr, aindex, aslice, alow, ahigh, abuild, abuildGo, cellsOf, splice, fieldTy, alen, apick, amax, amin, aload, headV, aparts, abuildSlice, elParts, abytesStr, astore, amake, aappend, aclear, anew, arith, aresults, aresList, ares, spec0, spec1, spec2, spec3, spec4, eqCells, eqCell, bA, hsl]
end Go.Proofs.Ytkhgjbjkjefeoaa
