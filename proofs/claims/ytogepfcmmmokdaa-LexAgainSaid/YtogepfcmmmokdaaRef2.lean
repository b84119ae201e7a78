/-
  The reference's word.
-/
import Derived.Test.YtogepfcmmmokdaaRef1
import Derived.Test.YtogepfcmmmokdaaWords
namespace Go.Proofs.Ytogepfcmmmokdaa
open Go.RowKit

set_option maxRecDepth 100000 in
set_option maxHeartbeats 2000000 in
theorem word32 (s : ByteArray) (k : Nat) (w : World) (hs : s.size ≤ 2000) (hk : k ≤ s.size) : Calls Try.prog 32 #[.string s, .int .i64 k] w (RetRes (wordR s k) w) := by
  go_enter Try.func32, Try.ntmps32
  go_wp2_with fail
  go_loop [5] (fun i => ∃ j : Nat, i = .int .i64 j ∧ k ≤ j ∧ j ≤ s.size ∧ runP wordB s j = runP wordB s k) (fun i => s.size - (intOf i).toNat)
  case atStart => exact ⟨k, rfl, Nat.le_refl _, hk, rfl⟩
  case round =>
    obtain ⟨j, rfl, hkj, hj, hr⟩ := hrel
    have HR := Lib.hid hr; clear hr
    have hstop : (j < s.size → wordB (bt s j) = false) → runP wordB s k = j := fun h => by rw [← HR.out, runP_stop h]
    have HST := Lib.hid hstop; clear hstop
    have HW : Hid (wordB (bt s j) = (letterB (bt s j) || digitB (bt s j) || decide ((bt s j : Int) = 95))) := Lib.hid rfl
    have hcase : (j < s.size ∧ Hid (letterB (bt s j) = true)) ∨ (j < s.size ∧ Hid (letterB (bt s j) = false) ∧ Hid (digitB (bt s j) = true)) ∨ (j < s.size ∧ Hid (letterB (bt s j) = false) ∧ Hid (digitB (bt s j) = false) ∧ ((bt s j : Int) == 95) = true) ∨
        (j < s.size ∧ Hid (letterB (bt s j) = false) ∧ Hid (digitB (bt s j) = false) ∧ ((bt s j : Int) == 95) = false) ∨ ¬ j < s.size := by
      by_cases hlt : j < s.size
      · cases h1 : letterB (bt s j)
        · cases h2 : digitB (bt s j)
          · cases h3 : ((bt s j : Int) == 95)
            · exact .inr (.inr (.inr (.inl ⟨hlt, Lib.hid rfl, Lib.hid rfl, rfl⟩)))
            · exact .inr (.inr (.inl ⟨hlt, Lib.hid rfl, Lib.hid rfl, rfl⟩))
          · exact .inr (.inl ⟨hlt, Lib.hid rfl, Lib.hid rfl⟩)
        · exact .inl ⟨hlt, Lib.hid rfl⟩
      · exact .inr (.inr (.inr (.inr hlt)))
    rcases hcase with ⟨hlt, H1⟩ | ⟨hlt, H1, H2⟩ | ⟨hlt, H1, H2, h3⟩ | hc
    · have hbj := bt_eq hlt
      have hji : (j : Int) < (s.size : Int) := by omega
      have HP : Hid (wordB (bt s j) = true) := Lib.hid (by rw [HW.out, H1.out]; rfl)
      go_wp2_with fail
      refine (letter31 _ _).mono ?_
      rintro e w1 ⟨rfl, rfl⟩
      rw [H1.out]
      go_wp2_with fail
      go_round
      case rel => exact ⟨j + 1, by go_num, by omega, by omega, by rw [← HR.out, runP_go hlt HP.out]⟩
      case measure => simp [intOf]; omega
    · have hbj := bt_eq hlt
      have hji : (j : Int) < (s.size : Int) := by omega
      have HP : Hid (wordB (bt s j) = true) := Lib.hid (by rw [HW.out, H1.out, H2.out]; rfl)
      go_wp2_with fail
      refine (letter31 _ _).mono ?_
      rintro e w1 ⟨rfl, rfl⟩
      rw [H1.out]
      go_wp2_with fail
      refine (digit33 _ _).mono ?_
      rintro e w1 ⟨rfl, rfl⟩
      rw [H2.out]
      go_wp2_with fail
      go_round
      case rel => exact ⟨j + 1, by go_num, by omega, by omega, by rw [← HR.out, runP_go hlt HP.out]⟩
      case measure => simp [intOf]; omega
    · have hbj := bt_eq hlt
      have hji : (j : Int) < (s.size : Int) := by omega
      have HP : Hid (wordB (bt s j) = true) := Lib.hid (by rw [HW.out, H1.out, H2.out, Bool.false_or, Bool.false_or]; exact decide_eq_true (beq_iff_eq.1 h3))
      go_wp2_with fail
      refine (letter31 _ _).mono ?_
      rintro e w1 ⟨rfl, rfl⟩
      rw [H1.out]
      go_wp2_with fail
      refine (digit33 _ _).mono ?_
      rintro e w1 ⟨rfl, rfl⟩
      rw [H2.out]
      go_wp2_with fail
      go_round
      case rel => exact ⟨j + 1, by go_num, by omega, by omega, by rw [← HR.out, runP_go hlt HP.out]⟩
      case measure => simp [intOf]; omega
    · have he : Hid (runP wordB s k = j) := Lib.hid (by
        rcases hc with ⟨hlt, H1, H2, h3⟩ | hc
        · exact HST.out fun _ => by rw [HW.out, H1.out, H2.out, Bool.false_or, Bool.false_or]; exact decide_eq_false (by simpa using h3)
        · exact HST.out fun h => absurd h hc)
      have hx : (s.extract k j).size = j - k := extract_size hkj hj
      have HX := Lib.hid hx; clear hx
      have HRES : Hid (wordR s k = if Plain.reserved (s.extract k j) = true then .ok ⟨1, k, (j : Int) - k, 0, Plain.upper (s.extract k j)⟩ j
        else if 20 < (s.extract k j).size then .err k 4 else .ok ⟨2, k, (j : Int) - k, 0, s.extract k j⟩ j) := Lib.hid (by unfold wordR; rw [he.out])
      have hx1 : (s.extract k j).size < 1000000 := by rw [HX.out]; omega
      rcases hc with ⟨hlt, H1, H2, h3⟩ | hc
      have hbj := bt_eq hlt
      have hji : (j : Int) < (s.size : Int) := by omega
      go_wp2_with fail
      refine (letter31 _ _).mono ?_
      rintro e w1 ⟨rfl, rfl⟩
      rw [H1.out]
      go_wp2_with fail
      refine (digit33 _ _).mono ?_
      rintro e w1 ⟨rfl, rfl⟩
      rw [H2.out]
      go_wp2_with fail
      rotate_left
      have hji : ¬ (j : Int) < (s.size : Int) := by omega
      go_wp2_with fail
      all_goals
        refine (reserved13 _ _ hx1).mono ?_
        rintro e w1 ⟨rfl, hb1⟩
        have hrow := (hb1.block w.heap.size (by simp)).trans (heap_alloc_new w _)
        rcases bool_cases (Plain.reserved (s.extract k j)) with HR2 | HR2
        · rw [HR2.out]
          go_wp2_with fail
          refine (upper14 _ _ hx1).mono ?_
          rintro e w2 ⟨rfl, hb2⟩
          have hrow2 := (hb2.block w.heap.size (heap_lt hrow)).trans hrow
          have r0 := row_cell hrow2 0
          have r1 := row_cell hrow2 1
          have r2 := row_cell hrow2 2
          have r3 := row_cell hrow2 3
          have r4 := row_cell hrow2 4
          have r5 := row_cell hrow2 5
          have r6 := row_cell hrow2 6
          have r7 := row_cell hrow2 7
          have f0 := row_frozen hrow2
          have HB := Lib.hid hb2; clear hb2
          go_wp2_with fail
          have hV := set8_row hrow2 (.int .i64 1) (.int .i64 k) (.int .i64 ((j : Int) - k)) (.int .i64 0) (.string (Plain.upper (s.extract k j))) (.int .i64 j) (.int .i64 0) (.int .i64 0)
          have hbV := set8_below (Below.step ((Below.refl _ w).alloc (Nat.le_refl _) _ |>.trans (hb1.mono (by simp))) HB.out (Nat.le_refl _)) (Nat.le_refl _) (.int .i64 1) (.int .i64 k) (.int .i64 ((j : Int) - k)) (.int .i64 0) (.string (Plain.upper (s.extract k j))) (.int .i64 j) (.int .i64 0) (.int .i64 0)
          change bodyPost _ _ _ _ _ (set8 _ w.heap.size _ _ _ _ _ _ _ _)
          generalize set8 _ w.heap.size _ _ _ _ _ _ _ _ = V at *
          rw [HRES.out, HR2.out, if_pos rfl]
          exact bodyPost_ret (v := .agg (resCells (.ok ⟨1, k, (j : Int) - k, 0, Plain.upper (s.extract k j)⟩ j))) (by simp [results, Try.results32, go_sem, resCells, row_cell hV]) rfl ⟨rfl, hbV⟩
        · rw [HR2.out]
          by_cases h20 : 20 < j - k
          · have h20i : (20 : Int) < ((s.extract k j).size : Int) := by rw [HX.out]; omega
            have H20 : Hid (wordR s k = .err k 4) := Lib.hid (by rw [HRES.out, HR2.out, if_neg (by simp), HX.out, if_pos h20])
            go_wp2_with fail
            refine (wrong42 _ _ _).mono ?_
            rintro e w2 ⟨rfl, hb2⟩
            simp only [resCells]
            have hrow2 := (hb2.block w.heap.size (heap_lt hrow)).trans hrow
            have r0 := row_cell hrow2 0
            have r1 := row_cell hrow2 1
            have r2 := row_cell hrow2 2
            have r3 := row_cell hrow2 3
            have r4 := row_cell hrow2 4
            have r5 := row_cell hrow2 5
            have r6 := row_cell hrow2 6
            have r7 := row_cell hrow2 7
            have f0 := row_frozen hrow2
            have HB := Lib.hid hb2; clear hb2
            go_wp2_with fail
            have hV := set8_row hrow2 (.int .i64 0) (.int .i64 0) (.int .i64 0) (.int .i64 0) (.string ⟨#[]⟩) (.int .i64 0) (.int .i64 k) (.int .i64 4)
            have hbV := set8_below (Below.step ((Below.refl _ w).alloc (Nat.le_refl _) _ |>.trans (hb1.mono (by simp))) HB.out (Nat.le_refl _)) (Nat.le_refl _) (.int .i64 0) (.int .i64 0) (.int .i64 0) (.int .i64 0) (.string ⟨#[]⟩) (.int .i64 0) (.int .i64 k) (.int .i64 4)
            change bodyPost _ _ _ _ _ (set8 _ w.heap.size _ _ _ _ _ _ _ _)
            generalize set8 _ w.heap.size _ _ _ _ _ _ _ _ = V at *
            rw [H20.out]
            exact bodyPost_ret (v := .agg (resCells (.err k 4))) (by simp [results, Try.results32, go_sem, resCells, row_cell hV]) rfl ⟨rfl, hbV⟩
          · have h20i : ¬ (20 : Int) < ((s.extract k j).size : Int) := by rw [HX.out]; omega
            have H20 : Hid (wordR s k = .ok ⟨2, k, (j : Int) - k, 0, s.extract k j⟩ j) := Lib.hid (by rw [HRES.out, HR2.out, if_neg (by simp), HX.out, if_neg h20])
            have r0 := row_cell hrow 0
            have r1 := row_cell hrow 1
            have r2 := row_cell hrow 2
            have r3 := row_cell hrow 3
            have r4 := row_cell hrow 4
            have r5 := row_cell hrow 5
            have r6 := row_cell hrow 6
            have r7 := row_cell hrow 7
            have f0 := row_frozen hrow
            have HB1 := Lib.hid hb1; clear hb1
            go_wp2_with fail
            have hV := set8_row hrow (.int .i64 2) (.int .i64 k) (.int .i64 ((j : Int) - k)) (.int .i64 0) (.string (s.extract k j)) (.int .i64 j) (.int .i64 0) (.int .i64 0)
            have hbV := set8_below ((Below.refl _ w).alloc (Nat.le_refl _) _ |>.trans (HB1.out.mono (by simp))) (Nat.le_refl _) (.int .i64 2) (.int .i64 k) (.int .i64 ((j : Int) - k)) (.int .i64 0) (.string (s.extract k j)) (.int .i64 j) (.int .i64 0) (.int .i64 0)
            change bodyPost _ _ _ _ _ (set8 _ w.heap.size _ _ _ _ _ _ _ _)
            generalize set8 _ w.heap.size _ _ _ _ _ _ _ _ = V at *
            rw [H20.out]
            exact bodyPost_ret (v := .agg (resCells (.ok ⟨2, k, (j : Int) - k, 0, s.extract k j⟩ j))) (by simp [results, Try.results32, go_sem, resCells, row_cell hV]) rfl ⟨rfl, hbV⟩

end Go.Proofs.Ytogepfcmmmokdaa
