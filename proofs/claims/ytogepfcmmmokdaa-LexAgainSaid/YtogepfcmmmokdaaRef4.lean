/-
  The walk of the reference's number.
-/
import Derived.Test.YtogepfcmmmokdaaRef4p
namespace Go.Proofs.Ytogepfcmmmokdaa
open Go.RowKit

set_option maxRecDepth 100000 in
set_option maxHeartbeats 8000000 in
theorem number34 (s : ByteArray) (k : Nat) (w : World) (hs : s.size ≤ 2000) (hk : k < s.size) : Calls Try.prog 34 #[.string s, .int .i64 k] w (RetRes (numR s k) w) := by
  have hrow := heap_alloc_new w zero42
  unfold zero42 at hrow
  have hbk := bt_eq hk
  go_enter Try.func34, Try.ntmps34
  go_wp2_with fail
  go_loop [5, 6] (fun i n => ∃ j : Nat, i = .int .i64 j ∧ k ≤ j ∧ j ≤ s.size ∧ (∀ x, k ≤ x → x < j → digitB (bt s x) = true) ∧ runP digitB s j = runP digitB s k ∧ n = .int .i64 (refTo s k (j - k))) (fun i _ => s.size - (intOf i).toNat)
  case atStart => exact ⟨k, rfl, Nat.le_refl _, by omega, fun x h1 h2 => absurd h1 (by omega), rfl, by simp [refTo]⟩
  case round =>
    obtain ⟨j, rfl, hkj, hj, hall, hr, rfl⟩ := hrel
    have HR := Lib.hid hr; clear hr
    have hall' : ∀ x, k ≤ x → x < k + (j - k) → digitB (bt s x) = true := fun x h1 h2 => hall x h1 (by omega)
    have hbd := refTo_bd (j - k) hall'
    have hbd1 := hbd.1
    have hbd2 := hbd.2
    clear hbd
    have hnm := refTo_num (j - k) hall'
    have hN : refTo s k (j - k + 1) = if refTo s k (j - k) ≤ 1000000000000000 then 10 * refTo s k (j - k) + ((bt s (k + (j - k)) : Int) - 48) else refTo s k (j - k) := rfl
    rw [show k + (j - k) = j by omega, show j - k + 1 = j + 1 - k by omega] at hN
    have HN := Lib.hid hN; clear hN
    have HALL := Lib.hid hall; clear hall hall'
    have hcase : (j < s.size ∧ Hid (digitB (bt s j) = true)) ∨ (j < s.size ∧ Hid (digitB (bt s j) = false)) ∨ ¬ j < s.size := by
      by_cases hlt : j < s.size
      · cases h : digitB (bt s j)
        · exact .inr (.inl ⟨hlt, Lib.hid rfl⟩)
        · exact .inl ⟨hlt, Lib.hid rfl⟩
      · exact .inr (.inr hlt)
    rcases hcase with ⟨hlt, H2⟩ | hc
    · have hbj := bt_eq hlt
      have hji : (j : Int) < (s.size : Int) := by omega
      have hd := digitB_iff H2.out
      have hd1 := hd.1
      have hd2 := hd.2
      clear hd hnm
      have HREL : Hid (runP digitB s (j + 1) = runP digitB s k) := Lib.hid (by rw [← HR.out, runP_go hlt H2.out])
      have HALL' : Hid (∀ x, k ≤ x → x < j + 1 → digitB (bt s x) = true) := Lib.hid (fun x h1 h2 => by
        by_cases e : x = j
        · subst e; exact H2.out
        · exact HALL.out x h1 (by omega))
      generalize refTo s k (j - k) = N at *
      by_cases hq : N ≤ 1000000000000000
      · rw [if_pos hq] at HN
        go_wp2_with fail
        refine (digit33 _ _).mono ?_
        rintro e w1 ⟨rfl, rfl⟩
        rw [H2.out]
        go_wp2_with fail
        go_round
        case rel => exact ⟨j + 1, by go_num, by omega, by omega, HALL'.out, HREL.out, by rw [HN.out]⟩
        case measure => simp [intOf]; omega
      · rw [if_neg hq] at HN
        go_wp2_with fail
        refine (digit33 _ _).mono ?_
        rintro e w1 ⟨rfl, rfl⟩
        rw [H2.out]
        go_wp2_with fail
        go_round
        case rel => exact ⟨j + 1, by go_num, by omega, by omega, HALL'.out, HREL.out, by rw [HN.out]⟩
        case measure => simp [intOf]; omega
    · have he : runP digitB s k = j := by
        rw [← HR.out]
        rcases hc with ⟨hlt, H2⟩ | hlt
        · exact runP_stop fun _ => H2.out
        · exact runP_stop fun h => absurd h hlt
      have HRES : Hid (numR s k = if 1 < j - k ∧ bt s k = 48 then .err k 2 else if 1000000000000000 < numTo s k (j - k) then .err k 4
          else if j < s.size ∧ (letterB (bt s j) = true ∨ bt s j = 95) then .err j 2 else .ok ⟨3, k, (j : Int) - k, numTo s k (j - k), ⟨#[]⟩⟩ j) := Lib.hid (by unfold numR; rw [he])
      clear he HN
      have hnum : (1000000000000000 < numTo s k (j - k) ∧ 1000000000000000 < refTo s k (j - k)) ∨ (refTo s k (j - k) ≤ 1000000000000000 ∧ refTo s k (j - k) = numTo s k (j - k)) := by
        rcases hnm with h | h
        · exact .inr ⟨h.2, h.1⟩
        · exact .inl ⟨h.2, h.1⟩
      clear hnm
      generalize refTo s k (j - k) = N at *
      have hcond : ((k : Int) + 1 < (j : Int) ∧ ((bt s k : Int) == 48) = true) ∨ ((k : Int) + 1 < (j : Int) ∧ ((bt s k : Int) == 48) = false) ∨ ¬ (k : Int) + 1 < (j : Int) := by
        by_cases h : (k : Int) + 1 < (j : Int)
        · cases (((bt s k : Int)) == 48)
          · exact .inr (.inl ⟨h, rfl⟩)
          · exact .inl ⟨h, rfl⟩
        · exact .inr (.inr h)
      rcases hc with ⟨hlt, H2⟩ | hlt
      · have hbj := bt_eq hlt
        have hji : (j : Int) < (s.size : Int) := by omega
        rcases hcond with ⟨c1, c2⟩ | hcond
        · have HS : Hid (numR s k = .err k 2) := Lib.hid (by rw [HRES.out, if_pos ⟨by omega, by have := beq_iff_eq.1 c2; omega⟩])
          go_wp2_with fail
          refine (digit33 _ _).mono ?_
          rintro e w1 ⟨rfl, rfl⟩
          rw [H2.out]
          go_wp2_with fail
          refine (wrong42 _ _ _).mono ?_
          rintro e w2 ⟨rfl, hb2⟩
          simp only [resCells]
          have hrow2 := (hb2.block w.heap.size (heap_lt hrow)).trans hrow
          have r0 := row_cell hrow2 0
          have r1 := row_cell hrow2 1
          have r2 := row_cell hrow2 2
          have r3 := row_cell hrow2 3
          have r4 := row_cell hrow2 4
          have r5 := row_cell hrow2 5
          have r6 := row_cell hrow2 6
          have r7 := row_cell hrow2 7
          have f0 := row_frozen hrow2
          have HB2 := Lib.hid hb2; clear hb2
          go_wp2_with fail
          have hV := set8_row hrow2 (.int .i64 0) (.int .i64 0) (.int .i64 0) (.int .i64 0) (.string ⟨#[]⟩) (.int .i64 0) (.int .i64 k) (.int .i64 2)
          have hbV := set8_below (Below.step ((Below.refl _ w).alloc (Nat.le_refl _) _) HB2.out (Nat.le_refl _)) (Nat.le_refl _) (.int .i64 0) (.int .i64 0) (.int .i64 0) (.int .i64 0) (.string ⟨#[]⟩) (.int .i64 0) (.int .i64 k) (.int .i64 2)
          change bodyPost _ _ _ _ _ (set8 _ w.heap.size _ _ _ _ _ _ _ _)
          generalize set8 _ w.heap.size _ _ _ _ _ _ _ _ = V at *
          rw [HS.out]
          exact bodyPost_ret (v := .agg (resCells (.err k 2))) (by simp [results, Try.results34, go_sem, resCells, row_cell hV]) rfl ⟨rfl, hbV⟩
        · have HN0 : Hid (¬ (1 < j - k ∧ bt s k = 48)) := Lib.hid (by
            rcases hcond with ⟨c1, c2⟩ | c1
            · rintro ⟨_, h⟩; rw [h] at c2; simp at c2
            · rintro ⟨h, _⟩; omega)
          rcases hnum with ⟨n1, n2⟩ | ⟨n2, n1⟩
          · have HS : Hid (numR s k = .err k 4) := Lib.hid (by rw [HRES.out, if_neg HN0.out, if_pos n1])
            have HN1 := Lib.hid n1; clear n1
            rcases hcond with ⟨c1, c2⟩ | c1
            all_goals
              go_wp2_with fail
              refine (digit33 _ _).mono ?_
              rintro e w1 ⟨rfl, rfl⟩
              rw [H2.out]
              go_wp2_with fail
              refine (wrong42 _ _ _).mono ?_
              rintro e w2 ⟨rfl, hb2⟩
              simp only [resCells]
              have hrow2 := (hb2.block w.heap.size (heap_lt hrow)).trans hrow
              have r0 := row_cell hrow2 0
              have r1 := row_cell hrow2 1
              have r2 := row_cell hrow2 2
              have r3 := row_cell hrow2 3
              have r4 := row_cell hrow2 4
              have r5 := row_cell hrow2 5
              have r6 := row_cell hrow2 6
              have r7 := row_cell hrow2 7
              have f0 := row_frozen hrow2
              have HB2 := Lib.hid hb2; clear hb2
              go_wp2_with fail
              have hV := set8_row hrow2 (.int .i64 0) (.int .i64 0) (.int .i64 0) (.int .i64 0) (.string ⟨#[]⟩) (.int .i64 0) (.int .i64 k) (.int .i64 4)
              have hbV := set8_below (Below.step ((Below.refl _ w).alloc (Nat.le_refl _) _) HB2.out (Nat.le_refl _)) (Nat.le_refl _) (.int .i64 0) (.int .i64 0) (.int .i64 0) (.int .i64 0) (.string ⟨#[]⟩) (.int .i64 0) (.int .i64 k) (.int .i64 4)
              change bodyPost _ _ _ _ _ (set8 _ w.heap.size _ _ _ _ _ _ _ _)
              generalize set8 _ w.heap.size _ _ _ _ _ _ _ _ = V at *
              rw [HS.out]
              exact bodyPost_ret (v := .agg (resCells (.err k 4))) (by simp [results, Try.results34, go_sem, resCells, row_cell hV]) rfl ⟨rfl, hbV⟩
          · have HN1 := Lib.hid n1; clear n1
            have n3 : ¬ 1000000000000000 < N := by omega
            rcases bool_cases (letterB (bt s j)) with HL | HL
            · have HS : Hid (numR s k = .err j 2) := Lib.hid (by rw [HRES.out, if_neg HN0.out, ← HN1.out, if_neg n3, if_pos ⟨hlt, .inl HL.out⟩])
              rcases hcond with ⟨c1, c2⟩ | c1
              all_goals
                go_wp2_with fail
                refine (digit33 _ _).mono ?_
                rintro e w1 ⟨rfl, rfl⟩
                rw [H2.out]
                go_wp2_with fail
                refine (letter31 _ _).mono ?_
                rintro e w1 ⟨rfl, rfl⟩
                rw [HL.out]
                go_wp2_with fail
                refine (wrong42 _ _ _).mono ?_
                rintro e w2 ⟨rfl, hb2⟩
                simp only [resCells]
                have hrow2 := (hb2.block w.heap.size (heap_lt hrow)).trans hrow
                have r0 := row_cell hrow2 0
                have r1 := row_cell hrow2 1
                have r2 := row_cell hrow2 2
                have r3 := row_cell hrow2 3
                have r4 := row_cell hrow2 4
                have r5 := row_cell hrow2 5
                have r6 := row_cell hrow2 6
                have r7 := row_cell hrow2 7
                have f0 := row_frozen hrow2
                have HB2 := Lib.hid hb2; clear hb2
                go_wp2_with fail
                have hV := set8_row hrow2 (.int .i64 0) (.int .i64 0) (.int .i64 0) (.int .i64 0) (.string ⟨#[]⟩) (.int .i64 0) (.int .i64 j) (.int .i64 2)
                have hbV := set8_below (Below.step ((Below.refl _ w).alloc (Nat.le_refl _) _) HB2.out (Nat.le_refl _)) (Nat.le_refl _) (.int .i64 0) (.int .i64 0) (.int .i64 0) (.int .i64 0) (.string ⟨#[]⟩) (.int .i64 0) (.int .i64 j) (.int .i64 2)
                change bodyPost _ _ _ _ _ (set8 _ w.heap.size _ _ _ _ _ _ _ _)
                generalize set8 _ w.heap.size _ _ _ _ _ _ _ _ = V at *
                rw [HS.out]
                exact bodyPost_ret (v := .agg (resCells (.err j 2))) (by simp [results, Try.results34, go_sem, resCells, row_cell hV]) rfl ⟨rfl, hbV⟩
            · cases h95 : ((bt s j : Int) == 95)
              · have HS : Hid (numR s k = .ok ⟨3, k, (j : Int) - k, N, ⟨#[]⟩⟩ j) := Lib.hid (by
                  rw [HRES.out, if_neg HN0.out, ← HN1.out, if_neg n3, if_neg]
                  rintro ⟨_, h | h⟩
                  · rw [HL.out] at h; cases h
                  · rw [h] at h95; simp at h95)
                rcases hcond with ⟨c1, c2⟩ | c1
                all_goals
                  go_wp2_with fail
                  refine (digit33 _ _).mono ?_
                  rintro e w1 ⟨rfl, rfl⟩
                  rw [H2.out]
                  go_wp2_with fail
                  refine (letter31 _ _).mono ?_
                  rintro e w1 ⟨rfl, rfl⟩
                  rw [HL.out]
                  have r0 := row_cell hrow 0
                  have r1 := row_cell hrow 1
                  have r2 := row_cell hrow 2
                  have r3 := row_cell hrow 3
                  have r4 := row_cell hrow 4
                  have r5 := row_cell hrow 5
                  have r6 := row_cell hrow 6
                  have r7 := row_cell hrow 7
                  have f0 := row_frozen hrow
                  go_wp2_with fail
                  rw [HS.out]
                  exact bodyPost_ret (v := .agg (resCells (.ok ⟨3, k, (j : Int) - k, N, ⟨#[]⟩⟩ j))) (by simp [results, Try.results34, go_sem, resCells]) rfl ⟨rfl, (Below.refl _ _).alloc (Nat.le_refl _) _⟩
              · have HS : Hid (numR s k = .err j 2) := Lib.hid (by
                  rw [HRES.out, if_neg HN0.out, ← HN1.out, if_neg n3, if_pos ⟨hlt, .inr (by have := beq_iff_eq.1 h95; omega)⟩])
                rcases hcond with ⟨c1, c2⟩ | c1
                all_goals
                  go_wp2_with fail
                  refine (digit33 _ _).mono ?_
                  rintro e w1 ⟨rfl, rfl⟩
                  rw [H2.out]
                  go_wp2_with fail
                  refine (letter31 _ _).mono ?_
                  rintro e w1 ⟨rfl, rfl⟩
                  rw [HL.out]
                  go_wp2_with fail
                  refine (wrong42 _ _ _).mono ?_
                  rintro e w2 ⟨rfl, hb2⟩
                  simp only [resCells]
                  have hrow2 := (hb2.block w.heap.size (heap_lt hrow)).trans hrow
                  have r0 := row_cell hrow2 0
                  have r1 := row_cell hrow2 1
                  have r2 := row_cell hrow2 2
                  have r3 := row_cell hrow2 3
                  have r4 := row_cell hrow2 4
                  have r5 := row_cell hrow2 5
                  have r6 := row_cell hrow2 6
                  have r7 := row_cell hrow2 7
                  have f0 := row_frozen hrow2
                  have HB2 := Lib.hid hb2; clear hb2
                  go_wp2_with fail
                  have hV := set8_row hrow2 (.int .i64 0) (.int .i64 0) (.int .i64 0) (.int .i64 0) (.string ⟨#[]⟩) (.int .i64 0) (.int .i64 j) (.int .i64 2)
                  have hbV := set8_below (Below.step ((Below.refl _ w).alloc (Nat.le_refl _) _) HB2.out (Nat.le_refl _)) (Nat.le_refl _) (.int .i64 0) (.int .i64 0) (.int .i64 0) (.int .i64 0) (.string ⟨#[]⟩) (.int .i64 0) (.int .i64 j) (.int .i64 2)
                  change bodyPost _ _ _ _ _ (set8 _ w.heap.size _ _ _ _ _ _ _ _)
                  generalize set8 _ w.heap.size _ _ _ _ _ _ _ _ = V at *
                  rw [HS.out]
                  exact bodyPost_ret (v := .agg (resCells (.err j 2))) (by simp [results, Try.results34, go_sem, resCells, row_cell hV]) rfl ⟨rfl, hbV⟩
      · have hji : ¬ (j : Int) < (s.size : Int) := by omega
        rcases hcond with ⟨c1, c2⟩ | hcond
        · have HS : Hid (numR s k = .err k 2) := Lib.hid (by rw [HRES.out, if_pos ⟨by omega, by have := beq_iff_eq.1 c2; omega⟩])
          go_wp2_with fail
          refine (wrong42 _ _ _).mono ?_
          rintro e w2 ⟨rfl, hb2⟩
          simp only [resCells]
          have hrow2 := (hb2.block w.heap.size (heap_lt hrow)).trans hrow
          have r0 := row_cell hrow2 0
          have r1 := row_cell hrow2 1
          have r2 := row_cell hrow2 2
          have r3 := row_cell hrow2 3
          have r4 := row_cell hrow2 4
          have r5 := row_cell hrow2 5
          have r6 := row_cell hrow2 6
          have r7 := row_cell hrow2 7
          have f0 := row_frozen hrow2
          have HB2 := Lib.hid hb2; clear hb2
          go_wp2_with fail
          have hV := set8_row hrow2 (.int .i64 0) (.int .i64 0) (.int .i64 0) (.int .i64 0) (.string ⟨#[]⟩) (.int .i64 0) (.int .i64 k) (.int .i64 2)
          have hbV := set8_below (Below.step ((Below.refl _ w).alloc (Nat.le_refl _) _) HB2.out (Nat.le_refl _)) (Nat.le_refl _) (.int .i64 0) (.int .i64 0) (.int .i64 0) (.int .i64 0) (.string ⟨#[]⟩) (.int .i64 0) (.int .i64 k) (.int .i64 2)
          change bodyPost _ _ _ _ _ (set8 _ w.heap.size _ _ _ _ _ _ _ _)
          generalize set8 _ w.heap.size _ _ _ _ _ _ _ _ = V at *
          rw [HS.out]
          exact bodyPost_ret (v := .agg (resCells (.err k 2))) (by simp [results, Try.results34, go_sem, resCells, row_cell hV]) rfl ⟨rfl, hbV⟩
        · have HN0 : Hid (¬ (1 < j - k ∧ bt s k = 48)) := Lib.hid (by
            rcases hcond with ⟨c1, c2⟩ | c1
            · rintro ⟨_, h⟩; rw [h] at c2; simp at c2
            · rintro ⟨h, _⟩; omega)
          rcases hnum with ⟨n1, n2⟩ | ⟨n2, n1⟩
          · have HS : Hid (numR s k = .err k 4) := Lib.hid (by rw [HRES.out, if_neg HN0.out, if_pos n1])
            have HN1 := Lib.hid n1; clear n1
            rcases hcond with ⟨c1, c2⟩ | c1
            all_goals
              go_wp2_with fail
              refine (wrong42 _ _ _).mono ?_
              rintro e w2 ⟨rfl, hb2⟩
              simp only [resCells]
              have hrow2 := (hb2.block w.heap.size (heap_lt hrow)).trans hrow
              have r0 := row_cell hrow2 0
              have r1 := row_cell hrow2 1
              have r2 := row_cell hrow2 2
              have r3 := row_cell hrow2 3
              have r4 := row_cell hrow2 4
              have r5 := row_cell hrow2 5
              have r6 := row_cell hrow2 6
              have r7 := row_cell hrow2 7
              have f0 := row_frozen hrow2
              have HB2 := Lib.hid hb2; clear hb2
              go_wp2_with fail
              have hV := set8_row hrow2 (.int .i64 0) (.int .i64 0) (.int .i64 0) (.int .i64 0) (.string ⟨#[]⟩) (.int .i64 0) (.int .i64 k) (.int .i64 4)
              have hbV := set8_below (Below.step ((Below.refl _ w).alloc (Nat.le_refl _) _) HB2.out (Nat.le_refl _)) (Nat.le_refl _) (.int .i64 0) (.int .i64 0) (.int .i64 0) (.int .i64 0) (.string ⟨#[]⟩) (.int .i64 0) (.int .i64 k) (.int .i64 4)
              change bodyPost _ _ _ _ _ (set8 _ w.heap.size _ _ _ _ _ _ _ _)
              generalize set8 _ w.heap.size _ _ _ _ _ _ _ _ = V at *
              rw [HS.out]
              exact bodyPost_ret (v := .agg (resCells (.err k 4))) (by simp [results, Try.results34, go_sem, resCells, row_cell hV]) rfl ⟨rfl, hbV⟩
          · have HN1 := Lib.hid n1; clear n1
            have n3 : ¬ 1000000000000000 < N := by omega
            have HS : Hid (numR s k = .ok ⟨3, k, (j : Int) - k, N, ⟨#[]⟩⟩ j) := Lib.hid (by
              rw [HRES.out, if_neg HN0.out, ← HN1.out, if_neg n3, if_neg fun h => hlt h.1])
            have r0 := row_cell hrow 0
            have r1 := row_cell hrow 1
            have r2 := row_cell hrow 2
            have r3 := row_cell hrow 3
            have r4 := row_cell hrow 4
            have r5 := row_cell hrow 5
            have r6 := row_cell hrow 6
            have r7 := row_cell hrow 7
            have f0 := row_frozen hrow
            rcases hcond with ⟨c1, c2⟩ | c1
            all_goals
              go_wp2_with fail
              rw [HS.out]
              exact bodyPost_ret (v := .agg (resCells (.ok ⟨3, k, (j : Int) - k, N, ⟨#[]⟩⟩ j))) (by simp [results, Try.results34, go_sem, resCells]) rfl ⟨rfl, (Below.refl _ _).alloc (Nat.le_refl _) _⟩

end Go.Proofs.Ytogepfcmmmokdaa
