/-
  LexWords.
-/
import Derived.Test.YtogepfcmmmokdaaAlive
import Derived.Test.YtogepfcmmmokdaaShape
namespace Go.Proofs.Ytogepfcmmmokdaa
open Go.RowKit

theorem Plain.upB_upB (b : UInt8) : Plain.upB (Plain.upB b) = Plain.upB b := by
  apply UInt8.toNat_inj.mp
  rw [Plain.upB_toNat, Plain.upB_toNat]
  unfold Plain.upN
  by_cases h : 97 ≤ b.toNat ∧ b.toNat ≤ 122
  · rw [if_pos h, if_neg (by omega)]
  · rw [if_neg h, if_neg h]

theorem Plain.reserved_upper (s : ByteArray) : Plain.reserved (Plain.upper s) = Plain.reserved s := by
  unfold Plain.reserved
  have h : (Plain.upper (Plain.upper s)).toList = (Plain.upper s).toList := by
    simp [Plain.upper_list, Plain.upB_upB, Function.comp_def]
  rw [h]

set_option maxRecDepth 100000 in
set_option maxHeartbeats 2000000 in
theorem law4 (s : ByteArray) (w : World) (hM : HasMax w) : Calls Try.prog 4 #[.string s] w (RetBool true w) := by
  have HU := Lib.hid (Plain.reserved_upper s)
  go_enter Try.func4, Try.ntmps4
  by_cases h100 : (100 : Int) < s.size
  · go_wp2_with fail
    refine (alive8 _ hM).mono ?_
    rintro e w1 ⟨rfl, hb1⟩
    go_wp2_with fail
    go_ret
    exact ⟨rfl, hb1⟩
  · have hsz : s.size < 1000000 := by omega
    have hszu : (Plain.upper s).size < 1000000 := by rw [Plain.upper_size]; exact hsz
    go_wp2_with fail
    refine (reserved12 s _ hM hsz).mono ?_
    rintro e w1 ⟨rfl, hb1⟩
    have hM1 := hM.below hb1 (Nat.le_refl _)
    go_wp2_with fail
    refine (reserved13 s _ hsz).mono ?_
    rintro e w2 ⟨rfl, hb2⟩
    have hM2 := hM1.below hb2 (Nat.le_refl _)
    go_wp2_with fail
    refine (upper14 s _ hsz).mono ?_
    rintro e w3 ⟨rfl, hb3⟩
    have hM3 := hM2.below hb3 (Nat.le_refl _)
    go_wp2_with fail
    refine (reserved12 (Plain.upper s) _ hM3 hszu).mono ?_
    rintro e w4 ⟨rfl, hb4⟩
    have hM4 := hM3.below hb4 (Nat.le_refl _)
    rw [HU.out]
    go_wp2_with fail
    refine (reserved12 s _ hM4 hsz).mono ?_
    rintro e w5 ⟨rfl, hb5⟩
    have hM5 := hM4.below hb5 (Nat.le_refl _)
    go_wp2_with fail
    refine (alive8 _ hM5).mono ?_
    rintro e w6 ⟨rfl, hb6⟩
    go_wp2_with fail
    go_ret
    exact ⟨rfl, Below.step (Below.step (Below.step (Below.step (Below.step (hb1) hb2 (Nat.le_refl _)) hb3 (Nat.le_refl _)) hb4 (Nat.le_refl _)) hb5 (Nat.le_refl _)) hb6 (Nat.le_refl _)⟩

end Go.Proofs.Ytogepfcmmmokdaa
