/-
  The walks of MeetAll, both, and of the statement IntsetMeets.
-/
import Derived.Test.YtfiilodghimajaaAlive
import Derived.Test.YtfiilodghimajaaPlain3
import Derived.Test.YtfiilodghimajaaKitRows
namespace Go.Proofs.Ytfiilodghimajaa
open Go.RowKit

/-- The intersection of all. -/
def meetAll : List (List Int) → List Int
  | [] => []
  | z :: r => r.foldl Plain.meet (Plain.of z)

theorem meetAll_step {zss : List (List Int)} {ys : List Int} {k : Nat} (h : k < zss.length) : (zss.drop (k + 1)).foldl Plain.meet (Plain.meet ys (zss.getD k [])) = (zss.drop k).foldl Plain.meet ys := by
  rw [List.drop_eq_getElem_cons h, List.foldl_cons]
  simp [h]

theorem meetAll_end {zss : List (List Int)} {ys : List Int} {k : Nat} (h : ¬ k < zss.length) : (zss.drop k).foldl Plain.meet ys = ys := by
  rw [List.drop_eq_nil_of_le (by omega)]; rfl

theorem meetAll_start {zss : List (List Int)} (h : 0 < zss.length) : (zss.drop 1).foldl Plain.meet (Plain.of (zss.getD 0 [])) = meetAll zss := by
  cases zss with
  | nil => simp at h
  | cons z r => simp [meetAll]

set_option maxRecDepth 100000 in
set_option maxHeartbeats 1000000 in
theorem meetAll27 (v : Value) (zss : List (List Int)) (w : World) (h : RowsAt w v zss) (hn : zss.length ≤ 12) (hs : ∀ j, j < zss.length → (zss.getD j []).length ≤ 100) :
    Calls Try.prog 27 #[v] w (RetOwn 3 w (meetAll zss)) := by
  have h0 := h
  obtain ⟨A, n, c, rfl, hl, hc, hm, hr⟩ := h
  have HL := Lib.hid hl; clear hl
  have HR := Lib.hid hr; clear hr
  have HS := Lib.hid hs; clear hs
  have hn : n ≤ 12 := by rw [← HL.out]; exact hn
  clear hm hc
  by_cases hz : 0 < n
  · obtain ⟨b, off, rfl, hx⟩ := HR.out hz
    obtain ⟨u, hu, hi⟩ := hx 0 hz
    rw [Nat.add_zero] at hu
    have HX := Lib.hid hx; clear hx
    have hs0 := HS.out 0 (by rw [HL.out]; exact hz)
    have hne : ((n : Int) == 0) = false := by simp; omega
    have hzi : (0 : Int) < (n : Int) := by omega
    go_enter Try.func27, Try.ntmps27
    go_wp2_with fail
    refine (of21 _ _ _ hi (by omega)).mono ?_
    rintro e w1 ⟨v1, rfl, o1, b1⟩
    go_wp2_with fail
    have hlo := Plain.of_length (zss.getD 0 [])
    go_loopw [3, 4] (fun o s wr => ∃ (k : Nat) (ys : List Int), s = .int .i64 k ∧ 1 ≤ k ∧ k ≤ n ∧ Own wr w.heap.size 3 o ys ∧ Below w.heap.size w wr ∧ ys.length ≤ 100 * k ∧ (zss.drop k).foldl Plain.meet ys = meetAll zss) (fun _ s _ => n - (intOf s).toNat)
    case atStart => exact ⟨1, _, rfl, Nat.le_refl _, by omega, o1, b1, by omega, meetAll_start (by rw [HL.out]; exact hz)⟩
    case round =>
      obtain ⟨k, ys, rfl, hk1, hk, hown, hb, hy, hs⟩ := hrel
      have HF := Lib.hid hs; clear hs
      by_cases hlt : k < n
      · obtain ⟨uk, huk, hik⟩ := HX.out k hlt
        have hxk := Go.Proofs.Ytfiilodghimajaa.cell_later hb (Nat.le_refl _) huk
        have hik' := hik.below hb (Nat.le_refl _)
        have hsk := HS.out k (by rw [HL.out]; exact hlt)
        have hbs := hb.size
        clear huk hu
        go_wp2_with fail
        refine (meet23 _ _ ys _ _ hown.ints hik' (by omega)).mono ?_
        rintro e w2 ⟨v2, rfl, o2, b2⟩
        rw [← Plain.meet_ref] at o2
        have hml := Plain.meet_length ys (zss.getD k [])
        have hb2 := hb.trans (b2.mono hbs)
        have ho2 := o2.base hbs
        clear o2 b2
        go_wp2_with fail
        go_roundw
        case rel => exact ⟨k + 1, _, by go_num, by omega, by omega, ho2, hb2, by omega, by rw [← HF.out]; exact meetAll_step (by rw [HL.out]; exact hlt)⟩
        case measure => simp [intOf]; omega
      · go_wp2_with fail
        go_ret
        refine ⟨_, rfl, ?_, hb⟩
        rw [← HF.out, meetAll_end (by rw [HL.out]; exact hlt)]
        exact hown
  · have hz' : n = 0 := by omega
    subst hz'
    go_enter Try.func27, Try.ntmps27
    go_wp2
    go_ret
    refine ⟨_, rfl, ?_, Below.refl _ _⟩
    rw [List.length_eq_zero_iff.1 HL.out]
    exact Own.nil _ _ _

set_option maxRecDepth 100000 in
set_option maxHeartbeats 1000000 in
theorem meetAll26 (v : Value) (zss : List (List Int)) (w : World) (h : RowsAt w v zss) (hn : zss.length ≤ 12) (hs : ∀ j, j < zss.length → (zss.getD j []).length ≤ 100) :
    Calls Try.prog 26 #[v] w (RetOwn 3 w (meetAll zss)) := by
  have h0 := h
  obtain ⟨A, n, c, rfl, hl, hc, hm, hr⟩ := h
  have HL := Lib.hid hl; clear hl
  have HR := Lib.hid hr; clear hr
  have HS := Lib.hid hs; clear hs
  have hn : n ≤ 12 := by rw [← HL.out]; exact hn
  have hm : c ≤ 9223372036854775807 := by unfold maxLen at hm; omega
  by_cases hz : 0 < n
  · obtain ⟨b, off, rfl, hx⟩ := HR.out hz
    obtain ⟨u, hu, hi⟩ := hx 0 hz
    rw [Nat.add_zero] at hu
    have HX := Lib.hid hx; clear hx
    have hs0 := HS.out 0 (by rw [HL.out]; exact hz)
    have hne : ((n : Int) == 0) = false := by simp; omega
    have hzi : (0 : Int) < (n : Int) := by omega
    have hzi1 : (1 : Int) ≤ (n : Int) := by omega
    have hc1 : (c = 1 ∧ n = 1) ∨ ¬ c = 1 := by omega
    have hlo := Plain.of_length (zss.getD 0 [])
    rcases hc1 with ⟨rfl, rfl⟩ | hc1
    · go_enter Try.func26, Try.ntmps26
      go_wp2_with fail
      refine (of13 _ _ _ hi (by omega)).mono ?_
      rintro e w1 ⟨v1, rfl, o1, b1⟩
      go_wp2_with fail
      go_loopw [3, 16] (fun o s wr => o = v1 ∧ s = .int .i64 0 ∧ wr = w1) (fun _ _ _ => 0)
      case atStart => exact ⟨rfl, rfl, rfl⟩
      case round =>
        obtain ⟨rfl, rfl, rfl⟩ := hrel
        go_wp2_with fail
        go_ret
        refine ⟨_, rfl, ?_, b1⟩
        rw [← meetAll_start (by rw [HL.out]; exact hz), meetAll_end (by rw [HL.out]; omega)]
        exact o1
    · go_enter Try.func26, Try.ntmps26
      go_wp2_with fail
      refine (of13 _ _ _ hi (by omega)).mono ?_
      rintro e w1 ⟨v1, rfl, o1, b1⟩
      go_wp2_with fail
      go_loopw [3, 5, 16] (fun o _ s wr => ∃ (k : Nat) (ys : List Int), s = .int .i64 k ∧ k + 1 ≤ n ∧ Own wr w.heap.size 3 o ys ∧ Below w.heap.size w wr ∧ ys.length ≤ 100 * (k + 1) ∧ (zss.drop (k + 1)).foldl Plain.meet ys = meetAll zss) (fun _ _ s _ => n - (intOf s).toNat)
      case atStart => exact ⟨0, _, rfl, by omega, o1, b1, by omega, meetAll_start (by rw [HL.out]; exact hz)⟩
      case round =>
        obtain ⟨k, ys, rfl, hk, hown, hb, hy, hs⟩ := hrel
        have HF := Lib.hid hs; clear hs
        by_cases hlt : k + 1 < n
        · obtain ⟨uk, huk, hik⟩ := HX.out (k + 1) hlt
          have hxk := Go.Proofs.Ytfiilodghimajaa.cell_later hb (Nat.le_refl _) huk
          have hxk' : wr.cell? ⟨b, off + 1 + k, none⟩ = some uk := by rw [← hxk]; congr 2; omega
          have hik' := hik.below hb (Nat.le_refl _)
          have hsk := HS.out (k + 1) (by rw [HL.out]; exact hlt)
          have hbs := hb.size
          have hlti : (k : Int) < (n : Int) - 1 := by omega
          clear huk hu
          go_wp2_with fail
          refine (meet16 _ _ ys _ _ hown.ints hik' (by omega) (by omega)).mono ?_
          rintro e w2 ⟨v2, rfl, o2, b2⟩
          have hml := Plain.meet_length ys (zss.getD (k + 1) [])
          have hb2 := hb.trans (b2.mono hbs)
          have ho2 := o2.base hbs
          clear o2 b2
          go_wp2_with fail
          go_roundw
          case rel => exact ⟨k + 1, _, by go_num, by omega, ho2, hb2, by omega, by rw [← HF.out]; exact meetAll_step (by rw [HL.out]; exact hlt)⟩
          case measure => simp [intOf]; omega
        · have hlti : ¬ (k : Int) < (n : Int) - 1 := by omega
          go_wp2_with fail
          go_ret
          refine ⟨_, rfl, ?_, hb⟩
          rw [← HF.out, meetAll_end (by rw [HL.out]; exact hlt)]
          exact hown
  · have hz' : n = 0 := by omega
    subst hz'
    go_enter Try.func26, Try.ntmps26
    go_wp2
    go_ret
    refine ⟨_, rfl, ?_, Below.refl _ _⟩
    rw [List.length_eq_zero_iff.1 HL.out]
    exact Own.nil _ _ _

set_option maxRecDepth 100000 in
set_option maxHeartbeats 1000000 in
theorem law8 (v : Value) (zss : List (List Int)) (w : World) (h : RowsAt w v zss) :
    Calls Try.prog 8 #[v] w (RetBool true w) := by
  have h0 := h
  obtain ⟨A, n, c, rfl, hl, hc, hm, hr⟩ := h
  have HL := Lib.hid hl; clear hl
  have HR := Lib.hid hr; clear hr
  have hm : n ≤ 9223372036854775807 := by unfold maxLen at hm; omega
  clear hc
  by_cases hn : n ≤ 12
  · go_enter Try.func8, Try.ntmps8
    go_wp2_with fail
    go_loop [4, 11] (fun _ s => ∃ k : Nat, s = .int .i64 k ∧ k ≤ n ∧ ∀ j, j < k → (zss.getD j []).length ≤ 100) (fun _ s => n - (intOf s).toNat)
    case atStart => exact ⟨0, rfl, Nat.zero_le _, fun j hj => absurd hj (by omega)⟩
    case round =>
      obtain ⟨k, rfl, hk, hs⟩ := hrel
      have HS := Lib.hid hs; clear hs
      by_cases hlt : k < n
      · obtain ⟨b, off, rfl, hx⟩ := HR.out (by omega)
        obtain ⟨u, hu, hi⟩ := hx k hlt
        clear hx
        obtain ⟨A', c', rfl⟩ := hi.form
        obtain ⟨q, hq⟩ : ∃ q, (zss.getD k []).length = q := ⟨_, rfl⟩
        rw [hq] at hu
        have HQ := Lib.hid hq; clear hq hi
        by_cases hlen : q ≤ 100
        · go_wp2_with fail
          go_round
          case rel => exact ⟨k + 1, by go_num, by omega, fun j hj => by
            by_cases e : j = k
            · subst e; rw [HQ.out]; exact hlen
            · exact HS.out j (by omega)⟩
          case measure => simp [intOf]; omega
        · go_wp2_with fail
          refine (alive10 _).mono ?_
          rintro e w1 ⟨rfl, hb⟩
          go_wp2_with fail
          go_ret
          exact ⟨rfl, hb⟩
      · have hall : ∀ j, j < zss.length → (zss.getD j []).length ≤ 100 := fun j hj => HS.out j (by have := HL.out; omega)
        have HA := Lib.hid hall; clear hall
        go_wp2_with fail
        refine (meetAll26 _ zss _ h0 (by rw [HL.out]; exact hn) HA.out).mono ?_
        rintro e w1 ⟨v1, rfl, o1, b1⟩
        go_wp2_with fail
        refine (meetAll27 _ zss _ (h0.below b1 (Nat.le_refl _)) (by rw [HL.out]; exact hn) HA.out).mono ?_
        rintro e w2 ⟨v2, rfl, o2, b2⟩
        have f1 := o1.ints.below b2 (Nat.le_refl _)
        have hb2 := Below.step b1 b2 (Nat.le_refl _)
        go_wp2_with fail
        refine (same14 _ _ _ _ _ f1 o2.ints).mono ?_
        rintro e w3 ⟨rfl, b3⟩
        rw [show decide (meetAll zss = meetAll zss) = true from decide_eq_true rfl]
        have hb3 := Below.step hb2 (b3.below w2.heap.size) (Nat.le_refl _)
        clear b3 o1 o2 f1 b1 b2
        go_wp2_with fail
        refine (alive10 _).mono ?_
        rintro e w4 ⟨rfl, b4⟩
        go_wp2_with fail
        go_ret
        exact ⟨rfl, Below.step hb3 b4 (Nat.le_refl _)⟩
  · go_enter Try.func8, Try.ntmps8
    go_wp2_with fail
    refine (alive10 _).mono ?_
    rintro e w1 ⟨rfl, hb⟩
    go_wp2_with fail
    go_ret
    exact ⟨rfl, hb⟩

end Go.Proofs.Ytfiilodghimajaa
