/-
  LexPlaces.
-/
import Derived.Test.YtogepfcmmmokdaaAlive
import Derived.Test.YtogepfcmmmokdaaShape
import Derived.Test.YtogepfcmmmokdaaPlaces
namespace Go.Proofs.Ytogepfcmmmokdaa
open Go.RowKit

set_option maxRecDepth 100000 in
set_option maxHeartbeats 4000000 in
theorem law5 (s : ByteArray) (w : World) (hM : HasMax w) : Calls Try.prog 5 #[.string s] w (RetBool true w) := by
  go_enter Try.func5, Try.ntmps5
  by_cases h2000 : (2000 : Int) < s.size
  · go_wp2_with fail
    refine (alive8 _ hM).mono ?_
    rintro e w1 ⟨rfl, hb1⟩
    go_wp2_with fail
    go_ret
    exact ⟨rfl, hb1⟩
  · have hs : s.size ≤ 2000 := by omega
    have hF := tokens_fine hs
    go_wp2_with fail
    refine (tokens9 s _ hM).mono ?_
    generalize tokens s = o at *
    rintro e w1 hr
    cases o with
    | fault a c =>
      obtain ⟨rfl, hb⟩ := hr
      obtain ⟨ha0, ha1, hc⟩ := hF
      have hM1 := hM.below hb (Nat.le_refl _)
      have hc1 : (c == 0) = false := by simpa using hc
      have HC := Lib.hid hc; clear hc
      go_wp2_with fail
      refine (alive8 _ hM1).mono ?_
      rintro e w2 ⟨rfl, hb2⟩
      go_wp2_with fail
      go_ret
      exact ⟨rfl, Below.step hb hb2 (Nat.le_refl _)⟩
    | done ts =>
      obtain ⟨v, rfl, hv, hb⟩ := hr
      obtain ⟨hP, hne⟩ := hF
      have HP := Lib.hid hP; clear hP
      have hpos : 0 < ts.length := List.length_pos_iff.2 hne
      clear hne
      obtain ⟨A, n, c, rfl, hl, hc, hm, hr⟩ := hv
      have hm : n ≤ 9223372036854775807 := by unfold maxLen at hm; omega
      obtain ⟨b, off, rfl, hx⟩ := hr (by omega)
      have HX := Lib.hid hx; clear hx
      have HL := Lib.hid hl; clear hl
      have hn : 0 < n := by rw [← HL.out]; exact hpos
      clear hr hpos
      go_wp2_with fail
      go_loopw [6, 7, 8, 9, 40] (fun to _ _ _ i wr => ∃ k t0 : Nat, to = .int .i64 t0 ∧ i = .int .i64 k ∧ k ≤ n ∧ Below w.heap.size w wr ∧ Below w1.heap.size w1 wr ∧ Places s t0 (ts.drop k)) (fun _ _ _ _ i _ => n - (intOf i).toNat)
      case atStart => exact ⟨0, 0, rfl, rfl, Nat.zero_le _, hb, Below.refl _ _, by simpa using HP.out⟩
      case round =>
        obtain ⟨k, t0, rfl, rfl, hk, hbw, hbw1, hpl⟩ := hrel
        by_cases hlt : k < n
        · have hz : k < ts.length := by rw [HL.out]; exact hlt
          rw [List.drop_eq_getElem_cons hz] at hpl
          obtain ⟨a, z, ha, hzz, h1, h2, h3, h4, h5, h6⟩ := hpl
          have hx := HX.out k hz
          generalize ts[k] = t at *
          obtain ⟨tk, ta, tz, tn, tS⟩ := t
          simp only at ha hzz h4
          subst ha hzz
          have x0 := Go.Proofs.Ytogepfcmmmokdaa.cell_later hbw1 (Nat.le_refl _) (hx 0 (.int .i64 tk) rfl)
          have x1 := Go.Proofs.Ytogepfcmmmokdaa.cell_later hbw1 (Nat.le_refl _) (hx 1 (.int .i64 a) rfl)
          have x2 := Go.Proofs.Ytogepfcmmmokdaa.cell_later hbw1 (Nat.le_refl _) (hx 2 (.int .i64 z) rfl)
          have x3 := Go.Proofs.Ytogepfcmmmokdaa.cell_later hbw1 (Nat.le_refl _) (hx 3 (.int .i64 tn) rfl)
          have x4 := Go.Proofs.Ytogepfcmmmokdaa.cell_later hbw1 (Nat.le_refl _) (hx 4 (.string tS) rfl)
          simp only [Nat.add_zero] at x0
          clear hx
          have hrest : ts.drop (k + 1) = [] ↔ k + 1 = n := by rw [List.drop_eq_nil_iff, HL.out]; omega
          have H3 := Lib.hid h3; clear h3
          have H6 := Lib.hid h6; clear h6
          have hza : a ≤ s.size := by omega
          have hHP : ∀ j, t0 ≤ j → j < a → j < s.size ∧ spaceB (bt s j) = true := fun j hj1 hj2 => ⟨by omega, H3.out j hj1 hj2⟩
          have H3 := Lib.hid hHP; clear hHP
          have hcase : (((tk == 0) = true ∧ ((z : Int) == 0) = true ∧ ((k : Int) == (n : Int) - 1) = true) ∨ ((tk == 0) = false ∧ ((z : Int) == 0) = false ∧ ((k : Int) == (n : Int) - 1) = false)) := by
            by_cases hlast : k + 1 = n
            · have e1 : (z : Int) = 0 := by have := h5.2 (hrest.2 hlast); omega
              have e2 : (k : Int) = (n : Int) - 1 := by omega
              exact .inl ⟨by simpa using h4.2 (hrest.2 hlast), by simpa using e1, by simpa using e2⟩
            · have e1 : (z : Int) ≠ 0 := fun h => hlast (hrest.1 (h5.1 (by omega)))
              have e2 : (k : Int) ≠ (n : Int) - 1 := by omega
              exact .inr ⟨by simpa using fun h => hlast (hrest.1 (h4.1 h)), by simpa using e1, by simpa using e2⟩
          clear h4 h5 hrest
          have n1 : ¬ a < t0 := by omega
          have n2 : ¬ s.size < a := by omega
          have n3 : ¬ (z : Int) < 0 := by omega
          have n4 : ¬ (s.size : Int) - (a : Int) < (z : Int) := by omega
          rcases hcase with ⟨hk0, hz0, hkn⟩ | ⟨hk0, hz0, hkn⟩
          all_goals
            go_wp2_with fail
            go_loop [9] (fun v => ∃ j : Nat, v = .int .i64 j ∧ t0 ≤ j ∧ j ≤ a) (fun v => a - (intOf v).toNat)
            case atStart => exact ⟨t0, rfl, Nat.le_refl _, h1⟩
            case round =>
              obtain ⟨j, rfl, hj1, hj2⟩ := hrel
              by_cases hja : j < a
              · obtain ⟨hjs, hjp⟩ := H3.out j hj1 hja
                have hbj := bt_eq hjs
                have hji : (j : Int) < (a : Int) := by omega
                have HJ := Lib.hid hjp; clear hjp
                go_wp2_with fail
                refine (space15 _ _).mono ?_
                rintro e w2 ⟨rfl, rfl⟩
                rw [HJ.out]
                go_wp2_with fail
                go_round
                case rel => exact ⟨j + 1, by go_num, by omega, by omega⟩
                case measure => simp [intOf]; omega
              · have hji : ¬ (j : Int) < (a : Int) := by omega
                go_wp2_with fail
                go_roundw
                case rel => exact ⟨k + 1, a + z, by go_num, by go_num, by omega, hbw.alloc hbw.size _, hbw1.alloc hbw1.size _, H6.out⟩
                case measure => simp [intOf]; omega
        · have hk' : k = n := by omega
          have ht0 : t0 = s.size := by
            rw [List.drop_eq_nil_of_le (by rw [HL.out]; omega)] at hpl
            exact hpl
          clear hpl
          subst ht0
          have hMr := hM.below hbw (Nat.le_refl _)
          go_wp2_with fail
          refine (alive8 _ hMr).mono ?_
          rintro e w2 ⟨rfl, hb2⟩
          go_wp2_with fail
          go_ret
          exact ⟨rfl, Below.step hbw hb2 (Nat.le_refl _)⟩

end Go.Proofs.Ytogepfcmmmokdaa
