/-
  The walks of Union, Meet, Minus, small and alive.
-/
import Derived.Test.YtfiilodghimajaaMerge
import Derived.Test.YtfiilodghimajaaRefs
import Derived.Test.YtfiilodghimajaaSeek
namespace Go.Proofs.Ytfiilodghimajaa
open Go.RowKit

set_option maxHeartbeats 400000 in
theorem union15 (v u : Value) (zs xs : List Int) (w : World) (h : IntsAt w v zs) (h' : IntsAt w u xs) (hbig : zs.length < 10000000) (hbig' : xs.length < 10000000) :
    Calls Try.prog 15 #[v, u] w (RetOwn 3 w (Plain.union zs xs)) := by
  go_enter Try.func15, Try.ntmps15
  go_wp2_with fail
  refine (merge31 _ _ zs xs true true true _ h h' hbig hbig').mono ?_
  rintro e w1 ⟨v1, rfl, hown1, hb1⟩
  go_wp2_with fail
  go_ret
  exact ⟨_, rfl, hown1, hb1⟩
set_option maxHeartbeats 400000 in
theorem meet16 (v u : Value) (zs xs : List Int) (w : World) (h : IntsAt w v zs) (h' : IntsAt w u xs) (hbig : zs.length < 10000000) (hbig' : xs.length < 10000000) :
    Calls Try.prog 16 #[v, u] w (RetOwn 3 w (Plain.meet zs xs)) := by
  go_enter Try.func16, Try.ntmps16
  go_wp2_with fail
  refine (merge31 _ _ zs xs false false true _ h h' hbig hbig').mono ?_
  rintro e w1 ⟨v1, rfl, hown1, hb1⟩
  go_wp2_with fail
  go_ret
  exact ⟨_, rfl, hown1, hb1⟩
set_option maxHeartbeats 400000 in
theorem minus24 (v u : Value) (zs xs : List Int) (w : World) (h : IntsAt w v zs) (h' : IntsAt w u xs) (hbig : zs.length < 10000000) (hbig' : xs.length < 10000000) :
    Calls Try.prog 24 #[v, u] w (RetOwn 3 w (Plain.minus zs xs)) := by
  go_enter Try.func24, Try.ntmps24
  go_wp2_with fail
  refine (merge31 _ _ zs xs true false false _ h h' hbig hbig').mono ?_
  rintro e w1 ⟨v1, rfl, hown1, hb1⟩
  go_wp2_with fail
  go_ret
  exact ⟨_, rfl, hown1, hb1⟩

def smallB (zs xs : List Int) : Bool := decide (zs.length ≤ 200 ∧ xs.length ≤ 200)

theorem smallB_le {zs xs : List Int} (h : smallB zs xs = true) : zs.length ≤ 200 ∧ xs.length ≤ 200 := of_decide_eq_true h

set_option maxHeartbeats 400000 in
theorem small9 (v u : Value) (zs xs : List Int) (w : World) (h : IntsAt w v zs) (h' : IntsAt w u xs) :
    Calls Try.prog 9 #[v, u] w fun e w' => e = .returned (.bool (smallB zs xs)) ∧ w = w' := by
  obtain ⟨A, c, rfl⟩ := h.form
  obtain ⟨A', c', rfl⟩ := h'.form
  clear h h'
  by_cases h1 : zs.length ≤ 200
  · by_cases h2 : xs.length ≤ 200
    · go_enter Try.func9, Try.ntmps9
      go_wp2
      go_ret
      exact ⟨ret_bool (by simp [smallB, h1]; omega), rfl⟩
    · go_enter Try.func9, Try.ntmps9
      go_wp2
      go_ret
      exact ⟨ret_bool (by simp [smallB, h1]; omega), rfl⟩
  · go_enter Try.func9, Try.ntmps9
    go_wp2
    go_ret
    exact ⟨ret_bool (decide_eq_false fun h => h1 h.1).symm, rfl⟩

theorem ex1 : decide (Plain.of [3, 1, 3] = [1, 3]) = true := by decide
theorem ex2 : decide (Plain.union [1, 3] [2] = [1, 2, 3]) = true := by
  rw [decide_eq_true_iff]
  simp [Plain.union, Plain.of, Plain.ins, Plain.mrg]
theorem ex3 : Plain.seek [1, 3, 5] 0 4 = 2 := by decide
theorem ex4 : decide ((1 : Int) ∈ ([3, 1] : List Int)) = true := by decide

set_option maxRecDepth 100000 in
set_option maxHeartbeats 1000000 in
theorem alive10 (w : World) : Calls Try.prog 10 #[] w (RetBool true w) := by
  have E1 := Lib.hid ex1
  have E2 := Lib.hid ex2
  have E3 := Lib.hid ex3
  have E4 := Lib.hid ex4
  go_enter Try.func10, Try.ntmps10
  go_wp2_with fail
  refine (of13 _ [3, 1, 3] _ (intsAt_new _ rfl (by simp) rfl rfl (by simp)) (by simp)).mono ?_
  rintro e w1 ⟨v1, rfl, o1, b1⟩
  have b := Below.step ((Below.refl _ w).alloc (Nat.le_refl _) _) b1 (Nat.le_refl _)
  have hb := Lib.hid b; clear b b1
  go_wp2_with fail
  refine (same14 _ _ (Plain.of [3, 1, 3]) [1, 3] _ (o1.ints.alloc _) (intsAt_new _ rfl (by simp) rfl rfl (by simp))).mono ?_
  rintro e w2 ⟨rfl, b2⟩
  rw [E1.out]
  have b := Below.step (hb.out.alloc hb.out.size _) (b2.below _) (Nat.le_refl _)
  have hb := Lib.hid b; clear b b2 o1
  go_wp2_with fail
  refine (union15 _ _ [1, 3] [2] _ ((intsAt_new _ rfl (by simp) rfl rfl (by simp)).alloc _) (intsAt_new _ rfl (by simp) rfl rfl (by simp)) (by simp) (by simp)).mono ?_
  rintro e w3 ⟨v3, rfl, o3, b3⟩
  have b := Below.step ((hb.out.alloc hb.out.size _).alloc (by have := hb.out.size; simp; omega) _) b3 (Nat.le_refl _)
  have hb := Lib.hid b; clear b b3
  go_wp2_with fail
  refine (same14 _ _ (Plain.union [1, 3] [2]) [1, 2, 3] _ (o3.ints.alloc _) (intsAt_new _ rfl (by simp) rfl rfl (by simp))).mono ?_
  rintro e w4 ⟨rfl, b4⟩
  rw [E2.out]
  have b := Below.step (hb.out.alloc hb.out.size _) (b4.below _) (Nat.le_refl _)
  have hb := Lib.hid b; clear b b4 o3
  go_wp2_with fail
  refine (seek11 _ [1, 3, 5] 0 4 _ (intsAt_new _ rfl (by simp) rfl rfl (by simp))).mono ?_
  rintro e w5 ⟨rfl, rfl⟩
  rw [show Plain.seek [1, 3, 5] (0 : Int).toNat 4 = 2 from E3.out]
  go_wp2_with fail
  refine (has19 _ [3, 1] 1 _ (intsAt_new _ rfl (by simp) rfl rfl (by simp))).mono ?_
  rintro e w6 ⟨rfl, rfl⟩
  rw [E4.out]
  go_wp2_with fail
  go_ret
  exact ⟨rfl, (hb.out.alloc hb.out.size _).alloc (by have := hb.out.size; simp; omega) _⟩

end Go.Proofs.Ytfiilodghimajaa
