/-
  The walk of merge: two sets walked in step.
-/
import Derived.Test.YtfiilodghimajaaSets
namespace Go.Proofs.Ytfiilodghimajaa
open Go.RowKit

set_option maxRecDepth 100000 in
set_option maxHeartbeats 2000000 in
theorem merge31 (v u : Value) (zs xs : List Int) (l r c : Bool) (w : World) (h : IntsAt w v zs) (h' : IntsAt w u xs) (hbig : zs.length < 10000000) (hbig' : xs.length < 10000000) :
    Calls Try.prog 31 #[v, u, .bool l, .bool r, .bool c] w (RetOwn 3 w (Plain.mrg l r c (Plain.of zs) (Plain.of xs))) := by
  have hol := Plain.of_length zs
  have hol' := Plain.of_length xs
  go_enter Try.func31, Try.ntmps31
  go_wp2_with fail
  refine (of13 _ zs _ h (by omega)).mono ?_
  rintro e w1 ⟨v1, rfl, hown1, hb1⟩
  go_wp2_with fail
  refine (of13 _ xs _ (h'.below hb1 (Nat.le_refl _)) (by omega)).mono ?_
  rintro e w2 ⟨v2, rfl, hown2, hb2⟩
  have hA := hown1.ints.below hb2 (Nat.le_refl _)
  have hB := hown2.ints
  have hb12 : Below w.heap.size w w2 := hb1.trans (hb2.mono hb1.size)
  clear hown1 hown2 hb1 hb2
  obtain ⟨a1, c1, rfl⟩ := hA.form
  obtain ⟨a2, c2, rfl⟩ := hB.form
  go_wp2_with (at_make; refine make_int elem22 _ _ rfl rfl w2.heap.size _ _ _ ((Plain.of zs).length + (Plain.of xs).length) rfl rfl (by omega) (by omega) (Nat.le_refl _) ?_; intro v3 w3 hown3 hb3)
  generalize hn1 : (Plain.of zs).length = n1 at *
  generalize hn2 : (Plain.of xs).length = n2 at *
  have HN1 := Lib.hid hn1; clear hn1
  have HN2 := Lib.hid hn2; clear hn2
  go_loopw [0, 1, 11] (fun s0 s1 o wr => ∃ (al bl ys : List Int), IntsAt w2 s0 al ∧ IntsAt w2 s1 bl ∧ Own wr w2.heap.size 3 o ys ∧ Below w2.heap.size w2 wr ∧ ys.length + al.length + bl.length ≤ 20000000 ∧
      ys ++ Plain.mrg l r c al bl = Plain.mrg l r c (Plain.of zs) (Plain.of xs))
    (fun s0 s1 _ _ => lenOf s0 + lenOf s1)
  case atStart => exact ⟨_, _, [], hA, hB, hown3, hb3, by simp [HN1.out, HN2.out]; omega, by simp⟩
  case round =>
    obtain ⟨al, bl, ys, h0, h1, hown, hb, hy, hs⟩ := hrel
    have HS := Lib.hid hs; clear hs
    obtain ⟨a3, c3, rfl⟩ := h0.form
    obtain ⟨a4, c4, rfl⟩ := h1.form
    have hbs := hb.size
    clear hA hB hown3 hb3 h h'
    cases al with
    | nil =>
      cases bl with
      | nil =>
        go_wp2
        go_ret
        refine ⟨_, rfl, ?_, hb12.trans (hb.mono hb12.size)⟩
        rw [← HS.out, Plain.mrg_nil, List.append_nil]
        exact hown.base hb12.size
      | cons y s =>
        obtain ⟨b', off', m', rfl, hm', hc', hC', rfl, hcell', hcut'⟩ := h1.cons_
        have hx := Go.Proofs.Ytfiilodghimajaa.cell_later hb (Nat.le_refl _) hcell'
        clear hcell' hm'
        simp only [List.length_cons, List.length_nil] at hy
        have hlt : (0 : Int) < (s.length : Int) + 1 := by omega
        have hne : ((s.length : Int) + 1 == 0) = false := by simp; omega
        cases r
        · go_wp2_with fail
          go_quiet (fail)
          go_wp2_with fail
          go_quiet (fail)
          go_wp2_with fail
          go_roundw
          case rel => exact ⟨_, _, ys, h0, hcut', hown.drewN _, by repeat (first | exact hb | apply below_drewN), by first | omega | (simp; omega), by rw [← HS.out]; simpa using Plain.step_right (l := l) (r := false) (c := c) (ys := ys) (a := []) (y := y) (s := s) (by simp)⟩
          case measure => simp [lenOf]; try omega
        · go_wp2_with fail
          go_quiet (fail)
          go_wp2_with fail
          go_quiet (fail)
          go_wp2_with (at_builtin; refine app_new elem22 _ _ rfl rfl hb hown rfl rfl rfl ⟨rfl, rfl, rfl, rfl⟩ (by omega) ?_; intro v5 w5 hown5 hb5)
          go_roundw
          case rel => exact ⟨_, _, ys ++ [y], h0, hcut', hown5, hb5, by first | omega | (simp; omega), by rw [← HS.out]; simpa using Plain.step_right (l := l) (r := true) (c := c) (ys := ys) (a := []) (y := y) (s := s) (by simp)⟩
          case measure => simp [lenOf]; try omega
    | cons x q =>
      obtain ⟨b, off, m, rfl, hm, hc, hC, rfl, hcell, hcut⟩ := h0.cons_
      have hx := Go.Proofs.Ytfiilodghimajaa.cell_later hb (Nat.le_refl _) hcell
      have hlt : (0 : Int) < (q.length : Int) + 1 := by omega
      have hne : ((q.length : Int) + 1 == 0) = false := by simp; omega
      clear hcell hm
      cases bl with
      | nil =>
        simp only [List.length_cons, List.length_nil] at hy
        cases l
        · go_wp2_with fail
          go_quiet (fail)
          go_wp2_with fail
          go_roundw
          case rel => exact ⟨_, _, ys, hcut, h1, hown.drewN _, by repeat (first | exact hb | apply below_drewN), by first | omega | (simp; omega), by rw [← HS.out]; simpa using Plain.step_left (l := false) (r := r) (c := c) (ys := ys) (b := []) (x := x) (q := q) (by simp)⟩
          case measure => simp [lenOf]; try omega
        · go_wp2_with fail
          go_quiet (fail)
          go_wp2_with (at_builtin; refine app_new elem22 _ _ rfl rfl hb hown rfl rfl rfl ⟨rfl, rfl, rfl, rfl⟩ (by omega) ?_; intro v5 w5 hown5 hb5)
          go_roundw
          case rel => exact ⟨_, _, ys ++ [x], hcut, h1, hown5, hb5, by first | omega | (simp; omega), by rw [← HS.out]; simpa using Plain.step_left (l := true) (r := r) (c := c) (ys := ys) (b := []) (x := x) (q := q) (by simp)⟩
          case measure => simp [lenOf]; try omega
      | cons y s =>
        obtain ⟨b', off', m', rfl, hm', hc', hC', rfl, hcell', hcut'⟩ := h1.cons_
        have hx' := Go.Proofs.Ytfiilodghimajaa.cell_later hb (Nat.le_refl _) hcell'
        clear hcell' hm'
        simp only [List.length_cons] at hy
        have hlt' : (0 : Int) < (s.length : Int) + 1 := by omega
        have hne' : ((s.length : Int) + 1 == 0) = false := by simp; omega
        by_cases hxy : x < y
        · cases l
          · go_wp2_with fail
            go_quiet (fail)
            go_wp2_with fail
            go_roundw
            case rel => exact ⟨_, _, ys, hcut, h1, hown.drewN _, by repeat (first | exact hb | apply below_drewN), by first | omega | (simp; omega), by rw [← HS.out]; simpa using Plain.step_left (l := false) (r := r) (c := c) (ys := ys) (b := y :: s) (x := x) (q := q) (by simpa using hxy)⟩
            case measure => simp [lenOf]; try omega
          · go_wp2_with fail
            go_quiet (fail)
            go_wp2_with (at_builtin; refine app_new elem22 _ _ rfl rfl hb hown rfl rfl rfl ⟨rfl, rfl, rfl, rfl⟩ (by omega) ?_; intro v5 w5 hown5 hb5)
            go_roundw
            case rel => exact ⟨_, _, ys ++ [x], hcut, h1, hown5, hb5, by first | omega | (simp; omega), by rw [← HS.out]; simpa using Plain.step_left (l := true) (r := r) (c := c) (ys := ys) (b := y :: s) (x := x) (q := q) (by simpa using hxy)⟩
            case measure => simp [lenOf]; try omega
        · have hxy := Int.not_lt.1 hxy
          have hdxy : decide (x < y) = false := by simpa using hxy
          by_cases hyx : y < x
          · cases r
            · go_wp2_with fail
              go_quiet (fail)
              go_wp2_with fail
              go_quiet (fail)
              go_wp2_with fail
              go_roundw
              case rel => exact ⟨_, _, ys, h0, hcut', hown.drewN _, by repeat (first | exact hb | apply below_drewN), by first | omega | (simp; omega), by rw [← HS.out]; simpa using Plain.step_right (l := l) (r := false) (c := c) (ys := ys) (a := x :: q) (y := y) (s := s) (by simpa using hyx)⟩
              case measure => simp [lenOf]; try omega
            · go_wp2_with fail
              go_quiet (fail)
              go_wp2_with fail
              go_quiet (fail)
              go_wp2_with (at_builtin; refine app_new elem22 _ _ rfl rfl hb hown rfl rfl rfl ⟨rfl, rfl, rfl, rfl⟩ (by omega) ?_; intro v5 w5 hown5 hb5)
              go_roundw
              case rel => exact ⟨_, _, ys ++ [y], h0, hcut', hown5, hb5, by first | omega | (simp; omega), by rw [← HS.out]; simpa using Plain.step_right (l := l) (r := true) (c := c) (ys := ys) (a := x :: q) (y := y) (s := s) (by simpa using hyx)⟩
              case measure => simp [lenOf]; try omega
          · have hyx := Int.not_lt.1 hyx
            have hdyx : decide (y < x) = false := by simpa using hyx
            cases c
            · go_wp2_with fail
              go_quiet (fail)
              go_wp2_with fail
              go_quiet (fail)
              go_wp2_with fail
              go_quiet (fail)
              go_wp2
              go_roundw
              case rel => exact ⟨_, _, ys, hcut, hcut', by repeat (first | exact hown | apply Own.drewN), by repeat (first | exact hb | apply below_drewN), by first | omega | (simp; omega), by rw [← HS.out]; simpa using Plain.step_both (l := l) (r := r) (c := false) (ys := ys) (q := q) (s := s) (Int.not_lt.2 hxy) (Int.not_lt.2 hyx)⟩
              case measure => simp [lenOf]; try omega
            · go_wp2_with fail
              go_quiet (fail)
              go_wp2_with fail
              go_quiet (fail)
              go_wp2_with (at_builtin; refine app_new elem22 _ _ rfl rfl hb hown rfl rfl rfl ⟨rfl, rfl, rfl, rfl⟩ (by omega) ?_; intro v5 w5 hown5 hb5)
              go_quiet (fail)
              go_wp2
              go_roundw
              case rel => exact ⟨_, _, ys ++ [x], hcut, hcut', hown5.drewN _, below_drewN hb5 _, by first | omega | (simp; omega), by rw [← HS.out]; simpa using Plain.step_both (l := l) (r := r) (c := true) (ys := ys) (q := q) (s := s) (Int.not_lt.2 hxy) (Int.not_lt.2 hyx)⟩
              case measure => simp [lenOf]; try omega

end Go.Proofs.Ytfiilodghimajaa
