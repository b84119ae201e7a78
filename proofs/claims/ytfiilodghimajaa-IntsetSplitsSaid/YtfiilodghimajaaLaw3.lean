/-
  The walk of the statement IntsetSplits.
-/
import Derived.Test.YtfiilodghimajaaAlive
import Derived.Test.YtfiilodghimajaaPlain3
namespace Go.Proofs.Ytfiilodghimajaa
open Go.RowKit

set_option maxRecDepth 100000 in
set_option maxHeartbeats 1000000 in
theorem law4 (v : Value) (zs : List Int) (i x : Int) (w : World) (h : IntsAt w v zs) :
    Calls Try.prog 4 #[v, .int .i64 i, .int .i64 x] w (RetBool true w) := by
  have hcase : Hid (smallB zs [] = true) ∨ Hid (smallB zs [] = false) := by
    cases h : smallB zs []
    · exact .inr rfl
    · exact .inl rfl
  rcases hcase with HS | HS
  · have hl := (smallB_le HS.out).1
    have hlo := Plain.of_length zs
    have hso := Plain.of_sorted zs
    have hse := Plain.seek_le (Plain.of zs) i.toNat x
    have hpart := fun j hij hj => Plain.seek_parts hso (i := i.toNat) (x := x) _ j (Nat.le_refl _) hij hj
    generalize hk : Plain.seek (Plain.of zs) i.toNat x = k at *
    have HK := Lib.hid hk; clear hk
    have HP := Lib.hid hpart; clear hpart hso
    by_cases hi : 0 ≤ i
    all_goals
      go_enter Try.func4, Try.ntmps4
      go_wp2_with fail
      refine (small9 _ _ zs [] _ h (IntsAt.nil w)).mono ?_
      rintro e w1 ⟨rfl, rfl⟩
      rw [HS.out]
      go_wp2_with fail
      refine (of13 _ zs _ h (by omega)).mono ?_
      rintro e w1 ⟨v1, rfl, o1, b1⟩
      have f1 := o1.ints
      clear o1
      generalize Plain.of zs = l at *
      go_wp2_with fail
      refine (seek11 _ l _ _ _ f1).mono ?_
      rintro e w2 ⟨rfl, rfl⟩
      rw [HK.out]
      obtain ⟨A, n, c, rfl, hn, hc, hm, hr⟩ := f1
      have HL := Lib.hid hn; clear hn
      have HR := Lib.hid hr; clear hr
      have hkn : (k : Int) ≤ (n : Int) := by have := HL.out; omega
      have hn200 : n ≤ 200 := by have := HL.out; omega
      clear hc hm hse hlo hl
      go_wp2_with fail
      go_loop [9] (fun s => ∃ j : Nat, s = .int .i64 j ∧ i.toNat ≤ j ∧ (j ≤ n ∨ j = i.toNat)) (fun s => n - (intOf s).toNat)
      case atStart => exact ⟨i.toNat, by go_num, Nat.le_refl _, .inr rfl⟩
      case round =>
        obtain ⟨j, rfl, hij, hj⟩ := hrel
        have HJ := Lib.hid hj; clear hj
        by_cases hlt : j < n
        · obtain ⟨b, off, rfl, hx⟩ := HR.out (by omega)
          have hxj := hx j hlt
          clear hx
          have hz : j < l.length := by rw [HL.out]; exact hlt
          have HE := Lib.hid (el_lt hz)
          have HQ := Lib.hid (HP.out j hij hz)
          by_cases hq : el l j < x
          · have hjk : (j : Int) < (k : Int) := by have := HQ.out.1 (by rw [← HE.out]; exact hq); omega
            go_wp2_with fail
            go_round
            case rel => exact ⟨j + 1, by go_num, by omega, .inl (by omega)⟩
            case measure => simp [intOf]; omega
          · have hjk : ¬ (j : Int) < (k : Int) := by intro h; exact hq (by rw [HE.out]; exact HQ.out.2 (by omega))
            go_wp2_with fail
            go_round
            case rel => exact ⟨j + 1, by go_num, by omega, .inl (by omega)⟩
            case measure => simp [intOf]; omega
        · go_wp2_with fail
          refine (alive10 _).mono ?_
          rintro e w3 ⟨rfl, b3⟩
          go_wp2_with fail
          go_ret
          exact ⟨rfl, Below.step b1 b3 (Nat.le_refl _)⟩
  · go_enter Try.func4, Try.ntmps4
    go_wp2_with fail
    refine (small9 _ _ zs [] _ h (IntsAt.nil w)).mono ?_
    rintro e w1 ⟨rfl, rfl⟩
    rw [HS.out]
    go_wp2_with fail
    refine (alive10 _).mono ?_
    rintro e w1 ⟨rfl, hb⟩
    go_wp2_with fail
    go_ret
    exact ⟨rfl, hb⟩

end Go.Proofs.Ytfiilodghimajaa
