/-
  The walk of the reference's sign.
-/
import Derived.Test.YtogepfcmmmokdaaRef3p
namespace Go.Proofs.Ytogepfcmmmokdaa
open Go.RowKit

def allS : ByteArray := ⟨#[40, 41, 91, 93, 123, 125, 44, 58, 46, 124, 42, 43, 45, 47, 37, 61, 60, 62]⟩
theorem bt_allS {j : Nat} (h : j < signs.length) : bt allS j = signs[j].toNat := by
  have e : allS.data.toList = signs := rfl
  unfold bt
  rw [e, List.getD_eq_getElem?_getD, List.getElem?_eq_getElem h]
  rfl

set_option maxRecDepth 100000 in
set_option maxHeartbeats 4000000 in
theorem sign36 (s : ByteArray) (k : Nat) (w : World) (hs : s.size ≤ 2000) (hk : k < s.size) : Calls Try.prog 36 #[.string s, .int .i64 k] w (RetRes (signR s k) w) := by
  have hrow := heap_alloc_new w zero42
  have hw1 : IntKind.i64.wrap ((k : Int) + 1) = (k : Int) + 1 := IntWalk.i64_in _ (by omega)
  have hw2 : IntKind.i64.wrap ((k : Int) + 2) = (k : Int) + 2 := IntWalk.i64_in _ (by omega)
  have hn2 : ((k : Int) + 2).toNat = k + 2 := by omega
  have hp2 : (0 : Int) ≤ (k : Int) + 2 := by omega
  by_cases h2 : k + 1 < s.size
  · have hi2 : (k : Int) + 1 < (s.size : Int) := by omega
    rcases two_cases (s.extract k (k + 2)).toList with h3 | h3
    · have HS : Hid (signR s k = .ok ⟨5, k, 2, 0, s.extract k (k + 2)⟩ (k + 2)) := Lib.hid (by
        have : isTwo (s.extract k (k + 2)).toList = true := by
          rcases h3 with h3 | ⟨_, h3⟩ | ⟨_, _, h3⟩ | ⟨_, _, _, h3⟩ <;> simp [isTwo, h3]
        rw [signR, if_pos ⟨h2, this⟩])
      rcases h3 with h3 | ⟨h4, h3⟩ | ⟨h5, h4, h3⟩ | ⟨h6, h5, h4, h3⟩
      all_goals
        go_enter Try.func36, Try.ntmps36
        go_wp2_with fail
        rw [HS.out]
        exact bodyPost_ret (v := .agg (resCells (.ok ⟨5, k, 2, 0, s.extract k (k + 2)⟩ (k + 2)))) (by simp [results, Try.results36, go_sem, resCells]) rfl ⟨rfl, (Below.refl _ _).alloc (Nat.le_refl _) _⟩
    · have HE : Hid (signR s k = oneR s k) := Lib.hid (by
        have : ¬ (k + 1 < s.size ∧ isTwo (s.extract k (k + 2)).toList = true) := by
          intro h; simp [isTwo, h3.1, h3.2.1, h3.2.2.1, h3.2.2.2] at h
        rw [signR, if_neg this]; rfl)
      obtain ⟨h3, h4, h5, h6⟩ := h3
      go_enter Try.func36, Try.ntmps36
      go_wp2_with fail
      go_loopw [5, 8] (fun z i wr => ∃ m j : Nat, i = .int .i64 j ∧ j ≤ 18 ∧ z = .int .i64 (signN (bt s k) j) ∧ wr = (w.alloc zero42).drewN m) (fun _ i _ => 18 - (intOf i).toNat)
      case atStart => exact ⟨0, 0, rfl, by omega, rfl, rfl⟩
      case round =>
        obtain ⟨m, j, rfl, hj, rfl, rfl⟩ := hrel
        have hbk := bt_eq hk
        by_cases hlt : j < 18
        · have hbj := bt_eq (s := allS) (j := j) hlt
          have HJ := Lib.hid (bt_allS (j := j) hlt)
          have HN := Lib.hid (signN_succ (bt s k) j hlt)
          generalize signN (bt s k) j = z0 at *
          unfold allS at hbj HJ
          cases hq : ((bt (⟨#[40, 41, 91, 93, 123, 125, 44, 58, 46, 124, 42, 43, 45, 47, 37, 61, 60, 62]⟩ : ByteArray) j : Int) == (bt s k : Int))
          · have HZ : Hid (signN (bt s k) (j + 1) = z0) := Lib.hid (by
              rw [HN.out, ← HJ.out, if_neg]
              intro h
              rw [beq_iff_eq.1 h] at hq
              simp at hq)
            go_wp2_with fail
            go_quiet (fail)
            go_wp2_with fail
            go_roundw
            case rel => exact ⟨_, j + 1, by go_num, by omega, by rw [HZ.out], rfl⟩
            case measure => simp [intOf]; omega
          · have HZ : Hid (signN (bt s k) (j + 1) = 1) := Lib.hid (by
              rw [HN.out, ← HJ.out, if_pos]
              have := beq_iff_eq.1 hq
              exact beq_iff_eq.2 (by omega))
            go_wp2_with fail
            go_quiet (fail)
            go_wp2_with fail
            go_roundw
            case rel => exact ⟨_, j + 1, by go_num, by omega, by rw [HZ.out], rfl⟩
            case measure => simp [intOf]; omega
        · obtain rfl : j = 18 := by omega
          have HA := Lib.hid (signN_all hk)
          have hw1 : IntKind.i64.wrap ((k : Int) + 1) = (k : Int) + 1 := IntWalk.i64_in _ (by omega)
          have hn1 : ((k : Int) + 1).toNat = k + 1 := by omega
          have hp1 : (0 : Int) ≤ (k : Int) + 1 := by omega
          have hrow1 : ((w.alloc zero42).drewN m).heap[w.heap.size]? = some zero42 := hrow
          have hbw : Below w.heap.size w ((w.alloc zero42).drewN m) := below_drewN ((Below.refl _ w).alloc (Nat.le_refl _) _) m
          rcases bool_cases (Lib.contains signs (s.extract k (k + 1)).toList) with HC | HC
          · have hz : signN (bt s k) 18 = 1 := by rw [HA.out, HC.out, if_pos rfl]
            have HS : Hid (signR s k = .ok ⟨5, k, 1, 0, s.extract k (k + 1)⟩ (k + 1)) := Lib.hid (by rw [HE.out, oneR, if_pos HC.out])
            rw [hz]
            clear hz
            generalize (w.alloc zero42).drewN m = W at *
            have r0 := row_cell hrow1 0
            have r1 := row_cell hrow1 1
            have r2 := row_cell hrow1 2
            have r3 := row_cell hrow1 3
            have r4 := row_cell hrow1 4
            have r5 := row_cell hrow1 5
            have r6 := row_cell hrow1 6
            have r7 := row_cell hrow1 7
            have f0 := row_frozen hrow1
            have HBW := Lib.hid hbw; clear hbw
            go_wp2_with fail
            have hV := set8_row hrow1 (.int .i64 5) (.int .i64 k) (.int .i64 1) (.int .i64 0) (.string (s.extract k (k + 1))) (.int .i64 ((k : Int) + 1)) (.int .i64 0) (.int .i64 0)
            have hbV := set8_below (HBW.out) (Nat.le_refl _) (.int .i64 5) (.int .i64 k) (.int .i64 1) (.int .i64 0) (.string (s.extract k (k + 1))) (.int .i64 ((k : Int) + 1)) (.int .i64 0) (.int .i64 0)
            change bodyPost _ _ _ _ _ (set8 _ w.heap.size _ _ _ _ _ _ _ _)
            generalize set8 _ w.heap.size _ _ _ _ _ _ _ _ = V at *
            rw [HS.out]
            exact bodyPost_ret (v := .agg (resCells (.ok ⟨5, k, 1, 0, s.extract k (k + 1)⟩ (k + 1)))) (by simp [results, Try.results36, go_sem, resCells, row_cell hV]) rfl ⟨rfl, hbV⟩
          · have hz : signN (bt s k) 18 = 0 := by rw [HA.out, HC.out, if_neg (by simp)]
            have HS : Hid (signR s k = .err k 2) := Lib.hid (by rw [HE.out, oneR, if_neg (by rw [HC.out]; simp)])
            rw [hz]
            clear hz
            generalize (w.alloc zero42).drewN m = W at *
            go_wp2_with fail
            refine (wrong42 _ _ _).mono ?_
            rintro e w2 ⟨rfl, hb2⟩
            simp only [resCells]
            have hrow2 := (hb2.block w.heap.size (heap_lt hrow1)).trans hrow1
            have r0 := row_cell hrow2 0
            have r1 := row_cell hrow2 1
            have r2 := row_cell hrow2 2
            have r3 := row_cell hrow2 3
            have r4 := row_cell hrow2 4
            have r5 := row_cell hrow2 5
            have r6 := row_cell hrow2 6
            have r7 := row_cell hrow2 7
            have f0 := row_frozen hrow2
            have HB2 := Lib.hid hb2; clear hb2
            have HBW := Lib.hid hbw; clear hbw
            go_wp2_with fail
            have hV := set8_row hrow2 (.int .i64 0) (.int .i64 0) (.int .i64 0) (.int .i64 0) (.string ⟨#[]⟩) (.int .i64 0) (.int .i64 k) (.int .i64 2)
            have hbV := set8_below (Below.step HBW.out HB2.out (Nat.le_refl _)) (Nat.le_refl _) (.int .i64 0) (.int .i64 0) (.int .i64 0) (.int .i64 0) (.string ⟨#[]⟩) (.int .i64 0) (.int .i64 k) (.int .i64 2)
            change bodyPost _ _ _ _ _ (set8 _ w.heap.size _ _ _ _ _ _ _ _)
            generalize set8 _ w.heap.size _ _ _ _ _ _ _ _ = V at *
            rw [HS.out]
            exact bodyPost_ret (v := .agg (resCells (.err k 2))) (by simp [results, Try.results36, go_sem, resCells, row_cell hV]) rfl ⟨rfl, hbV⟩
  · have hi2 : ¬ (k : Int) + 1 < (s.size : Int) := by omega
    have HE : Hid (signR s k = oneR s k) := Lib.hid (by rw [signR, if_neg fun h => h2 h.1]; rfl)
    go_enter Try.func36, Try.ntmps36
    go_wp2_with fail
    go_loopw [5, 8] (fun z i wr => ∃ m j : Nat, i = .int .i64 j ∧ j ≤ 18 ∧ z = .int .i64 (signN (bt s k) j) ∧ wr = (w.alloc zero42).drewN m) (fun _ i _ => 18 - (intOf i).toNat)
    case atStart => exact ⟨0, 0, rfl, by omega, rfl, rfl⟩
    case round =>
      obtain ⟨m, j, rfl, hj, rfl, rfl⟩ := hrel
      have hbk := bt_eq hk
      by_cases hlt : j < 18
      · have hbj := bt_eq (s := allS) (j := j) hlt
        have HJ := Lib.hid (bt_allS (j := j) hlt)
        have HN := Lib.hid (signN_succ (bt s k) j hlt)
        generalize signN (bt s k) j = z0 at *
        unfold allS at hbj HJ
        cases hq : ((bt (⟨#[40, 41, 91, 93, 123, 125, 44, 58, 46, 124, 42, 43, 45, 47, 37, 61, 60, 62]⟩ : ByteArray) j : Int) == (bt s k : Int))
        · have HZ : Hid (signN (bt s k) (j + 1) = z0) := Lib.hid (by
            rw [HN.out, ← HJ.out, if_neg]
            intro h
            rw [beq_iff_eq.1 h] at hq
            simp at hq)
          go_wp2_with fail
          go_quiet (fail)
          go_wp2_with fail
          go_roundw
          case rel => exact ⟨_, j + 1, by go_num, by omega, by rw [HZ.out], rfl⟩
          case measure => simp [intOf]; omega
        · have HZ : Hid (signN (bt s k) (j + 1) = 1) := Lib.hid (by
            rw [HN.out, ← HJ.out, if_pos]
            have := beq_iff_eq.1 hq
            exact beq_iff_eq.2 (by omega))
          go_wp2_with fail
          go_quiet (fail)
          go_wp2_with fail
          go_roundw
          case rel => exact ⟨_, j + 1, by go_num, by omega, by rw [HZ.out], rfl⟩
          case measure => simp [intOf]; omega
      · obtain rfl : j = 18 := by omega
        have HA := Lib.hid (signN_all hk)
        have hw1 : IntKind.i64.wrap ((k : Int) + 1) = (k : Int) + 1 := IntWalk.i64_in _ (by omega)
        have hn1 : ((k : Int) + 1).toNat = k + 1 := by omega
        have hp1 : (0 : Int) ≤ (k : Int) + 1 := by omega
        have hrow1 : ((w.alloc zero42).drewN m).heap[w.heap.size]? = some zero42 := hrow
        have hbw : Below w.heap.size w ((w.alloc zero42).drewN m) := below_drewN ((Below.refl _ w).alloc (Nat.le_refl _) _) m
        rcases bool_cases (Lib.contains signs (s.extract k (k + 1)).toList) with HC | HC
        · have hz : signN (bt s k) 18 = 1 := by rw [HA.out, HC.out, if_pos rfl]
          have HS : Hid (signR s k = .ok ⟨5, k, 1, 0, s.extract k (k + 1)⟩ (k + 1)) := Lib.hid (by rw [HE.out, oneR, if_pos HC.out])
          rw [hz]
          clear hz
          generalize (w.alloc zero42).drewN m = W at *
          have r0 := row_cell hrow1 0
          have r1 := row_cell hrow1 1
          have r2 := row_cell hrow1 2
          have r3 := row_cell hrow1 3
          have r4 := row_cell hrow1 4
          have r5 := row_cell hrow1 5
          have r6 := row_cell hrow1 6
          have r7 := row_cell hrow1 7
          have f0 := row_frozen hrow1
          have HBW := Lib.hid hbw; clear hbw
          go_wp2_with fail
          have hV := set8_row hrow1 (.int .i64 5) (.int .i64 k) (.int .i64 1) (.int .i64 0) (.string (s.extract k (k + 1))) (.int .i64 ((k : Int) + 1)) (.int .i64 0) (.int .i64 0)
          have hbV := set8_below (HBW.out) (Nat.le_refl _) (.int .i64 5) (.int .i64 k) (.int .i64 1) (.int .i64 0) (.string (s.extract k (k + 1))) (.int .i64 ((k : Int) + 1)) (.int .i64 0) (.int .i64 0)
          change bodyPost _ _ _ _ _ (set8 _ w.heap.size _ _ _ _ _ _ _ _)
          generalize set8 _ w.heap.size _ _ _ _ _ _ _ _ = V at *
          rw [HS.out]
          exact bodyPost_ret (v := .agg (resCells (.ok ⟨5, k, 1, 0, s.extract k (k + 1)⟩ (k + 1)))) (by simp [results, Try.results36, go_sem, resCells, row_cell hV]) rfl ⟨rfl, hbV⟩
        · have hz : signN (bt s k) 18 = 0 := by rw [HA.out, HC.out, if_neg (by simp)]
          have HS : Hid (signR s k = .err k 2) := Lib.hid (by rw [HE.out, oneR, if_neg (by rw [HC.out]; simp)])
          rw [hz]
          clear hz
          generalize (w.alloc zero42).drewN m = W at *
          go_wp2_with fail
          refine (wrong42 _ _ _).mono ?_
          rintro e w2 ⟨rfl, hb2⟩
          simp only [resCells]
          have hrow2 := (hb2.block w.heap.size (heap_lt hrow1)).trans hrow1
          have r0 := row_cell hrow2 0
          have r1 := row_cell hrow2 1
          have r2 := row_cell hrow2 2
          have r3 := row_cell hrow2 3
          have r4 := row_cell hrow2 4
          have r5 := row_cell hrow2 5
          have r6 := row_cell hrow2 6
          have r7 := row_cell hrow2 7
          have f0 := row_frozen hrow2
          have HB2 := Lib.hid hb2; clear hb2
          have HBW := Lib.hid hbw; clear hbw
          go_wp2_with fail
          have hV := set8_row hrow2 (.int .i64 0) (.int .i64 0) (.int .i64 0) (.int .i64 0) (.string ⟨#[]⟩) (.int .i64 0) (.int .i64 k) (.int .i64 2)
          have hbV := set8_below (Below.step HBW.out HB2.out (Nat.le_refl _)) (Nat.le_refl _) (.int .i64 0) (.int .i64 0) (.int .i64 0) (.int .i64 0) (.string ⟨#[]⟩) (.int .i64 0) (.int .i64 k) (.int .i64 2)
          change bodyPost _ _ _ _ _ (set8 _ w.heap.size _ _ _ _ _ _ _ _)
          generalize set8 _ w.heap.size _ _ _ _ _ _ _ _ = V at *
          rw [HS.out]
          exact bodyPost_ret (v := .agg (resCells (.err k 2))) (by simp [results, Try.results36, go_sem, resCells, row_cell hV]) rfl ⟨rfl, hbV⟩

end Go.Proofs.Ytogepfcmmmokdaa
