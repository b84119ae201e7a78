/-
  The walks of the statements IntsetAlgebra, IntsetTells and IntsetParts (printed by a program of ours).
-/
import Derived.Test.YtfiilodghimajaaAlive
import Derived.Test.YtfiilodghimajaaPlain3
namespace Go.Proofs.Ytfiilodghimajaa
open Go.RowKit

set_option maxRecDepth 100000 in
set_option maxHeartbeats 4000000 in
theorem law5 (va vb vc : Value) (za zb zc : List Int) (w : World) (a : IntsAt w va za) (b0 : IntsAt w vb zb) (c : IntsAt w vc zc) :
    Calls Try.prog 5 #[va, vb, vc] w (RetBool true w) := by
  have hcase : Hid (smallB za zb = true) ∨ Hid (smallB za zb = false) := by
    cases h : smallB za zb
    · exact .inr rfl
    · exact .inl rfl
  rcases hcase with HS | HS
  · have hab := smallB_le HS.out
    have hla := hab.1
    have hlb := hab.2
    clear hab
    have hcase : Hid (smallB zc [] = true) ∨ Hid (smallB zc [] = false) := by
      cases h : smallB zc []
      · exact .inr rfl
      · exact .inl rfl
    rcases hcase with HT | HT
    · have hlc := (smallB_le HT.out).1
      have E1 : Hid (decide (Plain.union za zb = Plain.union zb za) = true) := Lib.hid (decide_eq_true (Plain.union_comm za zb))
      have E2 : Hid (decide (Plain.meet za zb = Plain.meet zb za) = true) := Lib.hid (decide_eq_true (Plain.meet_comm za zb))
      have E3 : Hid (decide (Plain.meet za (Plain.meet zb zc) = Plain.meet (Plain.meet za zb) zc) = true) := Lib.hid (decide_eq_true (Plain.meet_assoc za zb zc))
      have E4 : Hid (decide (Plain.meet za (Plain.union zb zc) = Plain.union (Plain.meet za zb) (Plain.meet za zc)) = true) := Lib.hid (decide_eq_true (Plain.meet_union za zb zc))
      have E5 : Hid (decide (Plain.union za (Plain.meet zb zc) = Plain.meet (Plain.union za zb) (Plain.union za zc)) = true) := Lib.hid (decide_eq_true (Plain.union_meet za zb zc))
      go_enter Try.func5, Try.ntmps5
      have hb := Lib.hid (Below.refl w.heap.size w)
      go_wp2_with fail
      refine (small9 _ _ za zb _ a b0).mono ?_
      rintro e w1 ⟨rfl, rfl⟩
      rw [HS.out]
      go_wp2_with fail
      refine (small9 _ _ zc [] _ c (IntsAt.nil _)).mono ?_
      rintro e w2 ⟨rfl, rfl⟩
      rw [HT.out]
      go_wp2_with fail
      refine (union15 _ _ za zb _ a b0 (by omega) (by omega)).mono ?_
      rintro e w3 ⟨v_f1, rfl, o_f1, b_f1⟩
      replace a := a.below b_f1 (Nat.le_refl _)
      replace b0 := b0.below b_f1 (Nat.le_refl _)
      replace c := c.below b_f1 (Nat.le_refl _)
      have b := Below.step hb.out b_f1 (Nat.le_refl _)
      clear hb; have hb := Lib.hid b; clear b
      have f1 := o_f1.ints; clear o_f1 b_f1
      have l_f1 := Plain.union_length za zb
      go_wp2_with fail
      refine (union15 _ _ zb za _ b0 a (by omega) (by omega)).mono ?_
      rintro e w4 ⟨v_f2, rfl, o_f2, b_f2⟩
      replace a := a.below b_f2 (Nat.le_refl _)
      replace b0 := b0.below b_f2 (Nat.le_refl _)
      replace c := c.below b_f2 (Nat.le_refl _)
      replace f1 := f1.below b_f2 (Nat.le_refl _)
      have b := Below.step hb.out b_f2 (Nat.le_refl _)
      clear hb; have hb := Lib.hid b; clear b
      have f2 := o_f2.ints; clear o_f2 b_f2
      have l_f2 := Plain.union_length zb za
      go_wp2_with fail
      refine (same14 _ _ (Plain.union za zb) (Plain.union zb za) _ f1 f2).mono ?_
      rintro e w5 ⟨rfl, b_⟩
      rw [E1.out]
      have b_ := b_.below w4.heap.size
      replace a := a.below b_ (Nat.le_refl _)
      replace b0 := b0.below b_ (Nat.le_refl _)
      replace c := c.below b_ (Nat.le_refl _)
      replace f1 := f1.below b_ (Nat.le_refl _)
      replace f2 := f2.below b_ (Nat.le_refl _)
      have b := Below.step hb.out b_ (Nat.le_refl _)
      clear hb; have hb := Lib.hid b; clear b
      clear b_
      clear f1 f2
      go_wp2_with fail
      refine (meet16 _ _ za zb _ a b0 (by omega) (by omega)).mono ?_
      rintro e w6 ⟨v_f3, rfl, o_f3, b_f3⟩
      replace a := a.below b_f3 (Nat.le_refl _)
      replace b0 := b0.below b_f3 (Nat.le_refl _)
      replace c := c.below b_f3 (Nat.le_refl _)
      have b := Below.step hb.out b_f3 (Nat.le_refl _)
      clear hb; have hb := Lib.hid b; clear b
      have f3 := o_f3.ints; clear o_f3 b_f3
      have l_f3 := Plain.meet_length za zb
      go_wp2_with fail
      refine (meet16 _ _ zb za _ b0 a (by omega) (by omega)).mono ?_
      rintro e w7 ⟨v_f4, rfl, o_f4, b_f4⟩
      replace a := a.below b_f4 (Nat.le_refl _)
      replace b0 := b0.below b_f4 (Nat.le_refl _)
      replace c := c.below b_f4 (Nat.le_refl _)
      replace f3 := f3.below b_f4 (Nat.le_refl _)
      have b := Below.step hb.out b_f4 (Nat.le_refl _)
      clear hb; have hb := Lib.hid b; clear b
      have f4 := o_f4.ints; clear o_f4 b_f4
      have l_f4 := Plain.meet_length zb za
      go_wp2_with fail
      refine (same14 _ _ (Plain.meet za zb) (Plain.meet zb za) _ f3 f4).mono ?_
      rintro e w8 ⟨rfl, b_⟩
      rw [E2.out]
      have b_ := b_.below w7.heap.size
      replace a := a.below b_ (Nat.le_refl _)
      replace b0 := b0.below b_ (Nat.le_refl _)
      replace c := c.below b_ (Nat.le_refl _)
      replace f3 := f3.below b_ (Nat.le_refl _)
      replace f4 := f4.below b_ (Nat.le_refl _)
      have b := Below.step hb.out b_ (Nat.le_refl _)
      clear hb; have hb := Lib.hid b; clear b
      clear b_
      clear f3 f4
      go_wp2_with fail
      refine (meet16 _ _ zb zc _ b0 c (by omega) (by omega)).mono ?_
      rintro e w9 ⟨v_f5, rfl, o_f5, b_f5⟩
      replace a := a.below b_f5 (Nat.le_refl _)
      replace b0 := b0.below b_f5 (Nat.le_refl _)
      replace c := c.below b_f5 (Nat.le_refl _)
      have b := Below.step hb.out b_f5 (Nat.le_refl _)
      clear hb; have hb := Lib.hid b; clear b
      have f5 := o_f5.ints; clear o_f5 b_f5
      have l_f5 := Plain.meet_length zb zc
      go_wp2_with fail
      refine (meet16 _ _ za (Plain.meet zb zc) _ a f5 (by omega) (by omega)).mono ?_
      rintro e w10 ⟨v_f6, rfl, o_f6, b_f6⟩
      replace a := a.below b_f6 (Nat.le_refl _)
      replace b0 := b0.below b_f6 (Nat.le_refl _)
      replace c := c.below b_f6 (Nat.le_refl _)
      replace f5 := f5.below b_f6 (Nat.le_refl _)
      have b := Below.step hb.out b_f6 (Nat.le_refl _)
      clear hb; have hb := Lib.hid b; clear b
      have f6 := o_f6.ints; clear o_f6 b_f6
      have l_f6 := Plain.meet_length za (Plain.meet zb zc)
      go_wp2_with fail
      refine (meet16 _ _ za zb _ a b0 (by omega) (by omega)).mono ?_
      rintro e w11 ⟨v_f7, rfl, o_f7, b_f7⟩
      replace a := a.below b_f7 (Nat.le_refl _)
      replace b0 := b0.below b_f7 (Nat.le_refl _)
      replace c := c.below b_f7 (Nat.le_refl _)
      replace f5 := f5.below b_f7 (Nat.le_refl _)
      replace f6 := f6.below b_f7 (Nat.le_refl _)
      have b := Below.step hb.out b_f7 (Nat.le_refl _)
      clear hb; have hb := Lib.hid b; clear b
      have f7 := o_f7.ints; clear o_f7 b_f7
      have l_f7 := Plain.meet_length za zb
      go_wp2_with fail
      refine (meet16 _ _ (Plain.meet za zb) zc _ f7 c (by omega) (by omega)).mono ?_
      rintro e w12 ⟨v_f8, rfl, o_f8, b_f8⟩
      replace a := a.below b_f8 (Nat.le_refl _)
      replace b0 := b0.below b_f8 (Nat.le_refl _)
      replace c := c.below b_f8 (Nat.le_refl _)
      replace f5 := f5.below b_f8 (Nat.le_refl _)
      replace f6 := f6.below b_f8 (Nat.le_refl _)
      replace f7 := f7.below b_f8 (Nat.le_refl _)
      have b := Below.step hb.out b_f8 (Nat.le_refl _)
      clear hb; have hb := Lib.hid b; clear b
      have f8 := o_f8.ints; clear o_f8 b_f8
      have l_f8 := Plain.meet_length (Plain.meet za zb) zc
      go_wp2_with fail
      refine (same14 _ _ (Plain.meet za (Plain.meet zb zc)) (Plain.meet (Plain.meet za zb) zc) _ f6 f8).mono ?_
      rintro e w13 ⟨rfl, b_⟩
      rw [E3.out]
      have b_ := b_.below w12.heap.size
      replace a := a.below b_ (Nat.le_refl _)
      replace b0 := b0.below b_ (Nat.le_refl _)
      replace c := c.below b_ (Nat.le_refl _)
      replace f5 := f5.below b_ (Nat.le_refl _)
      replace f6 := f6.below b_ (Nat.le_refl _)
      replace f7 := f7.below b_ (Nat.le_refl _)
      replace f8 := f8.below b_ (Nat.le_refl _)
      have b := Below.step hb.out b_ (Nat.le_refl _)
      clear hb; have hb := Lib.hid b; clear b
      clear b_
      clear f5 f6 f7 f8
      go_wp2_with fail
      refine (union15 _ _ zb zc _ b0 c (by omega) (by omega)).mono ?_
      rintro e w14 ⟨v_g1, rfl, o_g1, b_g1⟩
      replace a := a.below b_g1 (Nat.le_refl _)
      replace b0 := b0.below b_g1 (Nat.le_refl _)
      replace c := c.below b_g1 (Nat.le_refl _)
      have b := Below.step hb.out b_g1 (Nat.le_refl _)
      clear hb; have hb := Lib.hid b; clear b
      have g1 := o_g1.ints; clear o_g1 b_g1
      have l_g1 := Plain.union_length zb zc
      go_wp2_with fail
      refine (meet16 _ _ za (Plain.union zb zc) _ a g1 (by omega) (by omega)).mono ?_
      rintro e w15 ⟨v_g2, rfl, o_g2, b_g2⟩
      replace a := a.below b_g2 (Nat.le_refl _)
      replace b0 := b0.below b_g2 (Nat.le_refl _)
      replace c := c.below b_g2 (Nat.le_refl _)
      replace g1 := g1.below b_g2 (Nat.le_refl _)
      have b := Below.step hb.out b_g2 (Nat.le_refl _)
      clear hb; have hb := Lib.hid b; clear b
      have g2 := o_g2.ints; clear o_g2 b_g2
      have l_g2 := Plain.meet_length za (Plain.union zb zc)
      go_wp2_with fail
      refine (meet16 _ _ za zb _ a b0 (by omega) (by omega)).mono ?_
      rintro e w16 ⟨v_g3, rfl, o_g3, b_g3⟩
      replace a := a.below b_g3 (Nat.le_refl _)
      replace b0 := b0.below b_g3 (Nat.le_refl _)
      replace c := c.below b_g3 (Nat.le_refl _)
      replace g1 := g1.below b_g3 (Nat.le_refl _)
      replace g2 := g2.below b_g3 (Nat.le_refl _)
      have b := Below.step hb.out b_g3 (Nat.le_refl _)
      clear hb; have hb := Lib.hid b; clear b
      have g3 := o_g3.ints; clear o_g3 b_g3
      have l_g3 := Plain.meet_length za zb
      go_wp2_with fail
      refine (meet16 _ _ za zc _ a c (by omega) (by omega)).mono ?_
      rintro e w17 ⟨v_g4, rfl, o_g4, b_g4⟩
      replace a := a.below b_g4 (Nat.le_refl _)
      replace b0 := b0.below b_g4 (Nat.le_refl _)
      replace c := c.below b_g4 (Nat.le_refl _)
      replace g1 := g1.below b_g4 (Nat.le_refl _)
      replace g2 := g2.below b_g4 (Nat.le_refl _)
      replace g3 := g3.below b_g4 (Nat.le_refl _)
      have b := Below.step hb.out b_g4 (Nat.le_refl _)
      clear hb; have hb := Lib.hid b; clear b
      have g4 := o_g4.ints; clear o_g4 b_g4
      have l_g4 := Plain.meet_length za zc
      go_wp2_with fail
      refine (union15 _ _ (Plain.meet za zb) (Plain.meet za zc) _ g3 g4 (by omega) (by omega)).mono ?_
      rintro e w18 ⟨v_g5, rfl, o_g5, b_g5⟩
      replace a := a.below b_g5 (Nat.le_refl _)
      replace b0 := b0.below b_g5 (Nat.le_refl _)
      replace c := c.below b_g5 (Nat.le_refl _)
      replace g1 := g1.below b_g5 (Nat.le_refl _)
      replace g2 := g2.below b_g5 (Nat.le_refl _)
      replace g3 := g3.below b_g5 (Nat.le_refl _)
      replace g4 := g4.below b_g5 (Nat.le_refl _)
      have b := Below.step hb.out b_g5 (Nat.le_refl _)
      clear hb; have hb := Lib.hid b; clear b
      have g5 := o_g5.ints; clear o_g5 b_g5
      have l_g5 := Plain.union_length (Plain.meet za zb) (Plain.meet za zc)
      go_wp2_with fail
      refine (same14 _ _ (Plain.meet za (Plain.union zb zc)) (Plain.union (Plain.meet za zb) (Plain.meet za zc)) _ g2 g5).mono ?_
      rintro e w19 ⟨rfl, b_⟩
      rw [E4.out]
      have b_ := b_.below w18.heap.size
      replace a := a.below b_ (Nat.le_refl _)
      replace b0 := b0.below b_ (Nat.le_refl _)
      replace c := c.below b_ (Nat.le_refl _)
      replace g1 := g1.below b_ (Nat.le_refl _)
      replace g2 := g2.below b_ (Nat.le_refl _)
      replace g3 := g3.below b_ (Nat.le_refl _)
      replace g4 := g4.below b_ (Nat.le_refl _)
      replace g5 := g5.below b_ (Nat.le_refl _)
      have b := Below.step hb.out b_ (Nat.le_refl _)
      clear hb; have hb := Lib.hid b; clear b
      clear b_
      clear g1 g2 g3 g4 g5
      go_wp2_with fail
      refine (meet16 _ _ zb zc _ b0 c (by omega) (by omega)).mono ?_
      rintro e w20 ⟨v_g6, rfl, o_g6, b_g6⟩
      replace a := a.below b_g6 (Nat.le_refl _)
      replace b0 := b0.below b_g6 (Nat.le_refl _)
      replace c := c.below b_g6 (Nat.le_refl _)
      have b := Below.step hb.out b_g6 (Nat.le_refl _)
      clear hb; have hb := Lib.hid b; clear b
      have g6 := o_g6.ints; clear o_g6 b_g6
      have l_g6 := Plain.meet_length zb zc
      go_wp2_with fail
      refine (union15 _ _ za (Plain.meet zb zc) _ a g6 (by omega) (by omega)).mono ?_
      rintro e w21 ⟨v_g7, rfl, o_g7, b_g7⟩
      replace a := a.below b_g7 (Nat.le_refl _)
      replace b0 := b0.below b_g7 (Nat.le_refl _)
      replace c := c.below b_g7 (Nat.le_refl _)
      replace g6 := g6.below b_g7 (Nat.le_refl _)
      have b := Below.step hb.out b_g7 (Nat.le_refl _)
      clear hb; have hb := Lib.hid b; clear b
      have g7 := o_g7.ints; clear o_g7 b_g7
      have l_g7 := Plain.union_length za (Plain.meet zb zc)
      go_wp2_with fail
      refine (union15 _ _ za zb _ a b0 (by omega) (by omega)).mono ?_
      rintro e w22 ⟨v_g8, rfl, o_g8, b_g8⟩
      replace a := a.below b_g8 (Nat.le_refl _)
      replace b0 := b0.below b_g8 (Nat.le_refl _)
      replace c := c.below b_g8 (Nat.le_refl _)
      replace g6 := g6.below b_g8 (Nat.le_refl _)
      replace g7 := g7.below b_g8 (Nat.le_refl _)
      have b := Below.step hb.out b_g8 (Nat.le_refl _)
      clear hb; have hb := Lib.hid b; clear b
      have g8 := o_g8.ints; clear o_g8 b_g8
      have l_g8 := Plain.union_length za zb
      go_wp2_with fail
      refine (union15 _ _ za zc _ a c (by omega) (by omega)).mono ?_
      rintro e w23 ⟨v_g9, rfl, o_g9, b_g9⟩
      replace a := a.below b_g9 (Nat.le_refl _)
      replace b0 := b0.below b_g9 (Nat.le_refl _)
      replace c := c.below b_g9 (Nat.le_refl _)
      replace g6 := g6.below b_g9 (Nat.le_refl _)
      replace g7 := g7.below b_g9 (Nat.le_refl _)
      replace g8 := g8.below b_g9 (Nat.le_refl _)
      have b := Below.step hb.out b_g9 (Nat.le_refl _)
      clear hb; have hb := Lib.hid b; clear b
      have g9 := o_g9.ints; clear o_g9 b_g9
      have l_g9 := Plain.union_length za zc
      go_wp2_with fail
      refine (meet16 _ _ (Plain.union za zb) (Plain.union za zc) _ g8 g9 (by omega) (by omega)).mono ?_
      rintro e w24 ⟨v_g10, rfl, o_g10, b_g10⟩
      replace a := a.below b_g10 (Nat.le_refl _)
      replace b0 := b0.below b_g10 (Nat.le_refl _)
      replace c := c.below b_g10 (Nat.le_refl _)
      replace g6 := g6.below b_g10 (Nat.le_refl _)
      replace g7 := g7.below b_g10 (Nat.le_refl _)
      replace g8 := g8.below b_g10 (Nat.le_refl _)
      replace g9 := g9.below b_g10 (Nat.le_refl _)
      have b := Below.step hb.out b_g10 (Nat.le_refl _)
      clear hb; have hb := Lib.hid b; clear b
      have g10 := o_g10.ints; clear o_g10 b_g10
      have l_g10 := Plain.meet_length (Plain.union za zb) (Plain.union za zc)
      go_wp2_with fail
      refine (same14 _ _ (Plain.union za (Plain.meet zb zc)) (Plain.meet (Plain.union za zb) (Plain.union za zc)) _ g7 g10).mono ?_
      rintro e w25 ⟨rfl, b_⟩
      rw [E5.out]
      have b_ := b_.below w24.heap.size
      replace a := a.below b_ (Nat.le_refl _)
      replace b0 := b0.below b_ (Nat.le_refl _)
      replace c := c.below b_ (Nat.le_refl _)
      replace g6 := g6.below b_ (Nat.le_refl _)
      replace g7 := g7.below b_ (Nat.le_refl _)
      replace g8 := g8.below b_ (Nat.le_refl _)
      replace g9 := g9.below b_ (Nat.le_refl _)
      replace g10 := g10.below b_ (Nat.le_refl _)
      have b := Below.step hb.out b_ (Nat.le_refl _)
      clear hb; have hb := Lib.hid b; clear b
      clear b_
      go_wp2_with fail
      refine (alive10 _).mono ?_
      rintro e w26 ⟨rfl, b_⟩
      have b := Below.step hb.out b_ (Nat.le_refl _)
      go_wp2_with fail
      go_ret
      exact ⟨rfl, b⟩
    · go_enter Try.func5, Try.ntmps5
      have hb := Lib.hid (Below.refl w.heap.size w)
      go_wp2_with fail
      refine (small9 _ _ za zb _ a b0).mono ?_
      rintro e w1 ⟨rfl, rfl⟩
      rw [HS.out]
      go_wp2_with fail
      refine (small9 _ _ zc [] _ c (IntsAt.nil _)).mono ?_
      rintro e w2 ⟨rfl, rfl⟩
      rw [HT.out]
      go_wp2_with fail
      refine (alive10 _).mono ?_
      rintro e w3 ⟨rfl, b_⟩
      have b := Below.step hb.out b_ (Nat.le_refl _)
      go_wp2_with fail
      go_ret
      exact ⟨rfl, b⟩
  · go_enter Try.func5, Try.ntmps5
    have hb := Lib.hid (Below.refl w.heap.size w)
    go_wp2_with fail
    refine (small9 _ _ za zb _ a b0).mono ?_
    rintro e w1 ⟨rfl, rfl⟩
    rw [HS.out]
    go_wp2_with fail
    refine (alive10 _).mono ?_
    rintro e w2 ⟨rfl, b_⟩
    have b := Below.step hb.out b_ (Nat.le_refl _)
    go_wp2_with fail
    go_ret
    exact ⟨rfl, b⟩

set_option maxRecDepth 100000 in
set_option maxHeartbeats 4000000 in
theorem law6 (va vb : Value) (za zb : List Int) (x : Int) (w : World) (a : IntsAt w va za) (b0 : IntsAt w vb zb) :
    Calls Try.prog 6 #[va, vb, .int .i64 x] w (RetBool true w) := by
  have hcase : Hid (smallB za zb = true) ∨ Hid (smallB za zb = false) := by
    cases h : smallB za zb
    · exact .inr rfl
    · exact .inl rfl
  rcases hcase with HS | HS
  · have hab := smallB_le HS.out
    have hla := hab.1
    have hlb := hab.2
    clear hab
    have E1 : Hid (decide (Plain.union za zb = (Plain.into (Plain.of za) zb)) = true) := Lib.hid (decide_eq_true (Plain.union_ref za zb))
    have E2 : Hid (decide (Plain.meet za zb = ((Plain.of za).filter fun z => decide (z ∈ zb))) = true) := Lib.hid (decide_eq_true (Plain.meet_ref za zb))
    have E3 : Hid (decide (Plain.minus za zb = ((Plain.of za).filter fun z => !decide (z ∈ zb))) = true) := Lib.hid (decide_eq_true (Plain.minus_ref za zb))
    generalize hV : Plain.valid za = bV
    have HV := Lib.hid hV; clear hV
    generalize hH : decide (x ∈ za) = bH
    have HH := Lib.hid hH; clear hH
    go_enter Try.func6, Try.ntmps6
    have hb := Lib.hid (Below.refl w.heap.size w)
    go_wp2_with fail
    refine (small9 _ _ za zb _ a b0).mono ?_
    rintro e w1 ⟨rfl, rfl⟩
    rw [HS.out]
    go_wp2_with fail
    refine (valid17 _ za _ a).mono ?_
    rintro e w2 ⟨rfl, b_⟩
    rw [HV.out]
    have b_ := b_.below w.heap.size
    replace a := a.below b_ (Nat.le_refl _)
    replace b0 := b0.below b_ (Nat.le_refl _)
    have b := Below.step hb.out b_ (Nat.le_refl _)
    clear hb; have hb := Lib.hid b; clear b
    clear b_
    go_wp2_with fail
    refine (valid18 _ za _ a).mono ?_
    rintro e w3 ⟨rfl, b_⟩
    rw [HV.out]
    have b_ := b_.below w2.heap.size
    replace a := a.below b_ (Nat.le_refl _)
    replace b0 := b0.below b_ (Nat.le_refl _)
    have b := Below.step hb.out b_ (Nat.le_refl _)
    clear hb; have hb := Lib.hid b; clear b
    clear b_
    go_wp2_with fail
    refine (has19 _ za x _ a).mono ?_
    rintro e w4 ⟨rfl, rfl⟩
    rw [HH.out]
    go_wp2_with fail
    refine (has20 _ za x _ a).mono ?_
    rintro e w5 ⟨rfl, rfl⟩
    rw [HH.out]
    go_wp2_with fail
    refine (of13 _ za _ a (by omega)).mono ?_
    rintro e w6 ⟨v_f1, rfl, o_f1, b_f1⟩
    replace a := a.below b_f1 (Nat.le_refl _)
    replace b0 := b0.below b_f1 (Nat.le_refl _)
    have b := Below.step hb.out b_f1 (Nat.le_refl _)
    clear hb; have hb := Lib.hid b; clear b
    have f1 := o_f1.ints; clear o_f1 b_f1
    go_wp2_with fail
    refine (of21 _ za _ a (by omega)).mono ?_
    rintro e w7 ⟨v_f2, rfl, o_f2, b_f2⟩
    replace a := a.below b_f2 (Nat.le_refl _)
    replace b0 := b0.below b_f2 (Nat.le_refl _)
    replace f1 := f1.below b_f2 (Nat.le_refl _)
    have b := Below.step hb.out b_f2 (Nat.le_refl _)
    clear hb; have hb := Lib.hid b; clear b
    have f2 := o_f2.ints; clear o_f2 b_f2
    go_wp2_with fail
    refine (same14 _ _ _ _ _ f1 f2).mono ?_
    rintro e w8 ⟨rfl, b_⟩
    rw [show decide (Plain.of za = Plain.of za) = true from decide_eq_true rfl]
    have b_ := b_.below w7.heap.size
    replace a := a.below b_ (Nat.le_refl _)
    replace b0 := b0.below b_ (Nat.le_refl _)
    replace f1 := f1.below b_ (Nat.le_refl _)
    replace f2 := f2.below b_ (Nat.le_refl _)
    have b := Below.step hb.out b_ (Nat.le_refl _)
    clear hb; have hb := Lib.hid b; clear b
    clear b_
    clear f1 f2
    go_wp2_with fail
    refine (union15 _ _ za zb _ a b0 (by omega) (by omega)).mono ?_
    rintro e w9 ⟨v_f3, rfl, o_f3, b_f3⟩
    replace a := a.below b_f3 (Nat.le_refl _)
    replace b0 := b0.below b_f3 (Nat.le_refl _)
    have b := Below.step hb.out b_f3 (Nat.le_refl _)
    clear hb; have hb := Lib.hid b; clear b
    have f3 := o_f3.ints; clear o_f3 b_f3
    have l_f3 := Plain.union_length za zb
    go_wp2_with fail
    refine (union22 _ _ za zb _ a b0 (by omega) (by omega)).mono ?_
    rintro e w10 ⟨v_f4, rfl, o_f4, b_f4⟩
    replace a := a.below b_f4 (Nat.le_refl _)
    replace b0 := b0.below b_f4 (Nat.le_refl _)
    replace f3 := f3.below b_f4 (Nat.le_refl _)
    have b := Below.step hb.out b_f4 (Nat.le_refl _)
    clear hb; have hb := Lib.hid b; clear b
    have f4 := o_f4.ints; clear o_f4 b_f4
    go_wp2_with fail
    refine (same14 _ _ _ _ _ f3 f4).mono ?_
    rintro e w11 ⟨rfl, b_⟩
    rw [E1.out]
    have b_ := b_.below w10.heap.size
    replace a := a.below b_ (Nat.le_refl _)
    replace b0 := b0.below b_ (Nat.le_refl _)
    replace f3 := f3.below b_ (Nat.le_refl _)
    replace f4 := f4.below b_ (Nat.le_refl _)
    have b := Below.step hb.out b_ (Nat.le_refl _)
    clear hb; have hb := Lib.hid b; clear b
    clear b_
    clear f3 f4
    go_wp2_with fail
    refine (meet16 _ _ za zb _ a b0 (by omega) (by omega)).mono ?_
    rintro e w12 ⟨v_f5, rfl, o_f5, b_f5⟩
    replace a := a.below b_f5 (Nat.le_refl _)
    replace b0 := b0.below b_f5 (Nat.le_refl _)
    have b := Below.step hb.out b_f5 (Nat.le_refl _)
    clear hb; have hb := Lib.hid b; clear b
    have f5 := o_f5.ints; clear o_f5 b_f5
    have l_f5 := Plain.meet_length za zb
    go_wp2_with fail
    refine (meet23 _ _ za zb _ a b0 (by omega)).mono ?_
    rintro e w13 ⟨v_f6, rfl, o_f6, b_f6⟩
    replace a := a.below b_f6 (Nat.le_refl _)
    replace b0 := b0.below b_f6 (Nat.le_refl _)
    replace f5 := f5.below b_f6 (Nat.le_refl _)
    have b := Below.step hb.out b_f6 (Nat.le_refl _)
    clear hb; have hb := Lib.hid b; clear b
    have f6 := o_f6.ints; clear o_f6 b_f6
    go_wp2_with fail
    refine (same14 _ _ _ _ _ f5 f6).mono ?_
    rintro e w14 ⟨rfl, b_⟩
    rw [E2.out]
    have b_ := b_.below w13.heap.size
    replace a := a.below b_ (Nat.le_refl _)
    replace b0 := b0.below b_ (Nat.le_refl _)
    replace f5 := f5.below b_ (Nat.le_refl _)
    replace f6 := f6.below b_ (Nat.le_refl _)
    have b := Below.step hb.out b_ (Nat.le_refl _)
    clear hb; have hb := Lib.hid b; clear b
    clear b_
    clear f5 f6
    go_wp2_with fail
    refine (minus24 _ _ za zb _ a b0 (by omega) (by omega)).mono ?_
    rintro e w15 ⟨v_f7, rfl, o_f7, b_f7⟩
    replace a := a.below b_f7 (Nat.le_refl _)
    replace b0 := b0.below b_f7 (Nat.le_refl _)
    have b := Below.step hb.out b_f7 (Nat.le_refl _)
    clear hb; have hb := Lib.hid b; clear b
    have f7 := o_f7.ints; clear o_f7 b_f7
    have l_f7 := Plain.minus_length za zb
    go_wp2_with fail
    refine (minus25 _ _ za zb _ a b0 (by omega)).mono ?_
    rintro e w16 ⟨v_f8, rfl, o_f8, b_f8⟩
    replace a := a.below b_f8 (Nat.le_refl _)
    replace b0 := b0.below b_f8 (Nat.le_refl _)
    replace f7 := f7.below b_f8 (Nat.le_refl _)
    have b := Below.step hb.out b_f8 (Nat.le_refl _)
    clear hb; have hb := Lib.hid b; clear b
    have f8 := o_f8.ints; clear o_f8 b_f8
    go_wp2_with fail
    refine (same14 _ _ _ _ _ f7 f8).mono ?_
    rintro e w17 ⟨rfl, b_⟩
    rw [E3.out]
    have b_ := b_.below w16.heap.size
    replace a := a.below b_ (Nat.le_refl _)
    replace b0 := b0.below b_ (Nat.le_refl _)
    replace f7 := f7.below b_ (Nat.le_refl _)
    replace f8 := f8.below b_ (Nat.le_refl _)
    have b := Below.step hb.out b_ (Nat.le_refl _)
    clear hb; have hb := Lib.hid b; clear b
    clear b_
    clear f7 f8
    go_wp2_with fail
    refine (alive10 _).mono ?_
    rintro e w18 ⟨rfl, b_⟩
    have b := Below.step hb.out b_ (Nat.le_refl _)
    go_wp2_with fail
    go_ret
    exact ⟨rfl, b⟩
  · go_enter Try.func6, Try.ntmps6
    have hb := Lib.hid (Below.refl w.heap.size w)
    go_wp2_with fail
    refine (small9 _ _ za zb _ a b0).mono ?_
    rintro e w1 ⟨rfl, rfl⟩
    rw [HS.out]
    go_wp2_with fail
    refine (alive10 _).mono ?_
    rintro e w2 ⟨rfl, b_⟩
    have b := Below.step hb.out b_ (Nat.le_refl _)
    go_wp2_with fail
    go_ret
    exact ⟨rfl, b⟩

set_option maxRecDepth 100000 in
set_option maxHeartbeats 4000000 in
theorem law7 (va vb : Value) (za zb : List Int) (w : World) (a : IntsAt w va za) (b0 : IntsAt w vb zb) :
    Calls Try.prog 7 #[va, vb] w (RetBool true w) := by
  have hcase : Hid (smallB za zb = true) ∨ Hid (smallB za zb = false) := by
    cases h : smallB za zb
    · exact .inr rfl
    · exact .inl rfl
  rcases hcase with HS | HS
  · have hab := smallB_le HS.out
    have hla := hab.1
    have hlb := hab.2
    clear hab
    have V1 : Hid (Plain.valid (Plain.meet za zb) = true) := Lib.hid (decide_eq_true (Plain.meet_sorted _ _))
    have V2 : Hid (Plain.valid (Plain.minus za zb) = true) := Lib.hid (decide_eq_true (Plain.minus_sorted _ _))
    have V3 : Hid (Plain.valid (Plain.union za zb) = true) := Lib.hid (decide_eq_true (Plain.union_sorted _ _))
    have V4 : Hid (Plain.valid (Plain.of za) = true) := Lib.hid (decide_eq_true (Plain.of_sorted _))
    have hz : (Plain.meet (Plain.meet za zb) (Plain.minus za zb)).length = 0 := Plain.apart za zb
    have E1 : Hid (decide (Plain.union (Plain.meet za zb) (Plain.minus za zb) = Plain.of za) = true) := Lib.hid (decide_eq_true (Plain.parts za zb))
    have HZ := Lib.hid hz; clear hz
    have HC := Lib.hid (Plain.counts za zb)
    have l_o := Plain.of_length za
    have l_q := Plain.of_length zb
    go_enter Try.func7, Try.ntmps7
    have hb := Lib.hid (Below.refl w.heap.size w)
    go_wp2_with fail
    refine (small9 _ _ za zb _ a b0).mono ?_
    rintro e w1 ⟨rfl, rfl⟩
    rw [HS.out]
    go_wp2_with fail
    refine (meet16 _ _ za zb _ a b0 (by omega) (by omega)).mono ?_
    rintro e w2 ⟨v_m, rfl, o_m, b_m⟩
    replace a := a.below b_m (Nat.le_refl _)
    replace b0 := b0.below b_m (Nat.le_refl _)
    have b := Below.step hb.out b_m (Nat.le_refl _)
    clear hb; have hb := Lib.hid b; clear b
    have m := o_m.ints; clear o_m b_m
    have l_m := Plain.meet_length za zb
    go_wp2_with fail
    refine (minus24 _ _ za zb _ a b0 (by omega) (by omega)).mono ?_
    rintro e w3 ⟨v_d, rfl, o_d, b_d⟩
    replace a := a.below b_d (Nat.le_refl _)
    replace b0 := b0.below b_d (Nat.le_refl _)
    replace m := m.below b_d (Nat.le_refl _)
    have b := Below.step hb.out b_d (Nat.le_refl _)
    clear hb; have hb := Lib.hid b; clear b
    have d := o_d.ints; clear o_d b_d
    have l_d := Plain.minus_length za zb
    go_wp2_with fail
    refine (union15 _ _ za zb _ a b0 (by omega) (by omega)).mono ?_
    rintro e w4 ⟨v_u, rfl, o_u, b_u⟩
    replace a := a.below b_u (Nat.le_refl _)
    replace b0 := b0.below b_u (Nat.le_refl _)
    replace m := m.below b_u (Nat.le_refl _)
    replace d := d.below b_u (Nat.le_refl _)
    have b := Below.step hb.out b_u (Nat.le_refl _)
    clear hb; have hb := Lib.hid b; clear b
    have u := o_u.ints; clear o_u b_u
    have l_u := Plain.union_length za zb
    go_wp2_with fail
    refine (of13 _ za _ a (by omega)).mono ?_
    rintro e w5 ⟨v_s0, rfl, o_s0, b_s0⟩
    replace a := a.below b_s0 (Nat.le_refl _)
    replace b0 := b0.below b_s0 (Nat.le_refl _)
    replace m := m.below b_s0 (Nat.le_refl _)
    replace d := d.below b_s0 (Nat.le_refl _)
    replace u := u.below b_s0 (Nat.le_refl _)
    have b := Below.step hb.out b_s0 (Nat.le_refl _)
    clear hb; have hb := Lib.hid b; clear b
    have s0 := o_s0.ints; clear o_s0 b_s0
    go_wp2_with fail
    refine (valid17 _ _ _ m).mono ?_
    rintro e w6 ⟨rfl, b_⟩
    rw [V1.out]
    have b_ := b_.below w5.heap.size
    replace a := a.below b_ (Nat.le_refl _)
    replace b0 := b0.below b_ (Nat.le_refl _)
    replace m := m.below b_ (Nat.le_refl _)
    replace d := d.below b_ (Nat.le_refl _)
    replace u := u.below b_ (Nat.le_refl _)
    replace s0 := s0.below b_ (Nat.le_refl _)
    have b := Below.step hb.out b_ (Nat.le_refl _)
    clear hb; have hb := Lib.hid b; clear b
    clear b_
    go_wp2_with fail
    refine (valid17 _ _ _ d).mono ?_
    rintro e w7 ⟨rfl, b_⟩
    rw [V2.out]
    have b_ := b_.below w6.heap.size
    replace a := a.below b_ (Nat.le_refl _)
    replace b0 := b0.below b_ (Nat.le_refl _)
    replace m := m.below b_ (Nat.le_refl _)
    replace d := d.below b_ (Nat.le_refl _)
    replace u := u.below b_ (Nat.le_refl _)
    replace s0 := s0.below b_ (Nat.le_refl _)
    have b := Below.step hb.out b_ (Nat.le_refl _)
    clear hb; have hb := Lib.hid b; clear b
    clear b_
    go_wp2_with fail
    refine (valid17 _ _ _ u).mono ?_
    rintro e w8 ⟨rfl, b_⟩
    rw [V3.out]
    have b_ := b_.below w7.heap.size
    replace a := a.below b_ (Nat.le_refl _)
    replace b0 := b0.below b_ (Nat.le_refl _)
    replace m := m.below b_ (Nat.le_refl _)
    replace d := d.below b_ (Nat.le_refl _)
    replace u := u.below b_ (Nat.le_refl _)
    replace s0 := s0.below b_ (Nat.le_refl _)
    have b := Below.step hb.out b_ (Nat.le_refl _)
    clear hb; have hb := Lib.hid b; clear b
    clear b_
    go_wp2_with fail
    refine (valid17 _ _ _ s0).mono ?_
    rintro e w9 ⟨rfl, b_⟩
    rw [V4.out]
    have b_ := b_.below w8.heap.size
    replace a := a.below b_ (Nat.le_refl _)
    replace b0 := b0.below b_ (Nat.le_refl _)
    replace m := m.below b_ (Nat.le_refl _)
    replace d := d.below b_ (Nat.le_refl _)
    replace u := u.below b_ (Nat.le_refl _)
    replace s0 := s0.below b_ (Nat.le_refl _)
    have b := Below.step hb.out b_ (Nat.le_refl _)
    clear hb; have hb := Lib.hid b; clear b
    clear b_
    go_wp2_with fail
    refine (meet16 _ _ (Plain.meet za zb) (Plain.minus za zb) _ m d (by omega) (by omega)).mono ?_
    rintro e w10 ⟨v_k, rfl, o_k, b_k⟩
    replace a := a.below b_k (Nat.le_refl _)
    replace b0 := b0.below b_k (Nat.le_refl _)
    replace m := m.below b_k (Nat.le_refl _)
    replace d := d.below b_k (Nat.le_refl _)
    replace u := u.below b_k (Nat.le_refl _)
    replace s0 := s0.below b_k (Nat.le_refl _)
    have b := Below.step hb.out b_k (Nat.le_refl _)
    clear hb; have hb := Lib.hid b; clear b
    have k := o_k.ints; clear o_k b_k
    have l_k := Plain.meet_length (Plain.meet za zb) (Plain.minus za zb)
    generalize Plain.meet (Plain.meet za zb) (Plain.minus za zb) = zk at *
    obtain rfl := List.length_eq_zero_iff.1 HZ.out
    obtain ⟨A_k, c_k, rfl⟩ := k.form
    go_wp2_with fail
    refine (union15 _ _ (Plain.meet za zb) (Plain.minus za zb) _ m d (by omega) (by omega)).mono ?_
    rintro e w11 ⟨v_p, rfl, o_p, b_p⟩
    replace a := a.below b_p (Nat.le_refl _)
    replace b0 := b0.below b_p (Nat.le_refl _)
    replace m := m.below b_p (Nat.le_refl _)
    replace d := d.below b_p (Nat.le_refl _)
    replace u := u.below b_p (Nat.le_refl _)
    replace s0 := s0.below b_p (Nat.le_refl _)
    replace k := k.below b_p (Nat.le_refl _)
    have b := Below.step hb.out b_p (Nat.le_refl _)
    clear hb; have hb := Lib.hid b; clear b
    have p := o_p.ints; clear o_p b_p
    have l_p := Plain.union_length (Plain.meet za zb) (Plain.minus za zb)
    go_wp2_with fail
    refine (same14 _ _ _ _ _ p s0).mono ?_
    rintro e w12 ⟨rfl, b_⟩
    rw [E1.out]
    have b_ := b_.below w11.heap.size
    replace a := a.below b_ (Nat.le_refl _)
    replace b0 := b0.below b_ (Nat.le_refl _)
    replace m := m.below b_ (Nat.le_refl _)
    replace d := d.below b_ (Nat.le_refl _)
    replace u := u.below b_ (Nat.le_refl _)
    replace s0 := s0.below b_ (Nat.le_refl _)
    replace k := k.below b_ (Nat.le_refl _)
    replace p := p.below b_ (Nat.le_refl _)
    have b := Below.step hb.out b_ (Nat.le_refl _)
    clear hb; have hb := Lib.hid b; clear b
    clear b_
    obtain ⟨A_u, c_u, rfl⟩ := u.form
    obtain ⟨A_m, c_m, rfl⟩ := m.form
    obtain ⟨A_s0, c_s0, rfl⟩ := s0.form
    go_wp2_with fail
    refine (of13 _ zb _ b0 (by omega)).mono ?_
    rintro e w50 ⟨v_q, rfl, o_q, b_q⟩
    replace a := a.below b_q (Nat.le_refl _)
    replace b0 := b0.below b_q (Nat.le_refl _)
    replace m := m.below b_q (Nat.le_refl _)
    replace d := d.below b_q (Nat.le_refl _)
    replace u := u.below b_q (Nat.le_refl _)
    replace s0 := s0.below b_q (Nat.le_refl _)
    replace k := k.below b_q (Nat.le_refl _)
    replace p := p.below b_q (Nat.le_refl _)
    have b := Below.step hb.out b_q (Nat.le_refl _)
    clear hb; have hb := Lib.hid b; clear b
    have q := o_q.ints
    obtain ⟨A_q, c_q, rfl⟩ := q.form
    have hsum : (((Plain.union za zb).length : Int) + ((Plain.meet za zb).length : Int) == ((Plain.of za).length : Int) + ((Plain.of zb).length : Int)) = true := by rw [beq_iff_eq]; have := HC.out; omega
    go_wp2_with fail
    refine (alive10 _).mono ?_
    rintro e w13 ⟨rfl, b_⟩
    have b := Below.step hb.out b_ (Nat.le_refl _)
    go_wp2_with fail
    go_ret
    exact ⟨rfl, b⟩
  · go_enter Try.func7, Try.ntmps7
    have hb := Lib.hid (Below.refl w.heap.size w)
    go_wp2_with fail
    refine (small9 _ _ za zb _ a b0).mono ?_
    rintro e w1 ⟨rfl, rfl⟩
    rw [HS.out]
    go_wp2_with fail
    refine (alive10 _).mono ?_
    rintro e w2 ⟨rfl, b_⟩
    have b := Below.step hb.out b_ (Nat.le_refl _)
    go_wp2_with fail
    go_ret
    exact ⟨rfl, b⟩

end Go.Proofs.Ytfiilodghimajaa
