/-
  The walks of the scanner's run at its three conditions.
-/
import Derived.Test.YtogepfcmmmokdaaTok
namespace Go.Proofs.Ytogepfcmmmokdaa
open Go.RowKit

/-- The place behind the bytes from k on that satisfy p. -/
def runP (p : Int → Bool) (s : ByteArray) (k : Nat) : Nat :=
  if k < s.size ∧ p (bt s k) = true then runP p s (k + 1) else k
termination_by s.size - k

theorem runP_go {p : Int → Bool} {s : ByteArray} {k : Nat} (h : k < s.size) (hp : p (bt s k) = true) : runP p s k = runP p s (k + 1) := by
  rw [runP, if_pos ⟨h, hp⟩]
theorem runP_stop {p : Int → Bool} {s : ByteArray} {k : Nat} (hp : k < s.size → p (bt s k) = false) : runP p s k = k := by
  rw [runP, if_neg]
  rintro ⟨h, h'⟩
  rw [hp h] at h'
  cases h'

set_option maxRecDepth 100000 in
set_option maxHeartbeats 1000000 in
theorem run17_18 (X k : Nat) (s : ByteArray) (w : World) (h : w.cell? ⟨X, 0, none⟩ = some (.string s)) (hs : s.size ≤ 1000000) (hk : k ≤ s.size) :
    Calls Try.prog 17 #[.pointer (some ⟨X, 0, none⟩), .int .i64 k, .func (.func 18) #[] #[]] w fun e w' => e = .returned (.int .i64 (runP spaceB s k)) ∧ w = w' := by
  go_enter Try.func17, Try.ntmps17
  go_wp2_with fail
  go_loop [1] (fun i => ∃ j : Nat, i = .int .i64 j ∧ j ≤ s.size ∧ runP spaceB s j = runP spaceB s k) (fun i => s.size - (intOf i).toNat)
  case atStart => exact ⟨k, rfl, hk, rfl⟩
  case round =>
    obtain ⟨j, rfl, hj, hr⟩ := hrel
    have HR := Lib.hid hr; clear hr
    by_cases hlt : j < s.size
    · have hbj := bt_eq hlt
      have hji : (j : Int) < (s.size : Int) := by omega
      have hp : Hid (spaceB (bt s j) = true) ∨ Hid (spaceB (bt s j) = false) := by
        cases h : spaceB (bt s j)
        · exact .inr rfl
        · exact .inl rfl
      rcases hp with HP | HP
      · go_wp2_with fail
        refine (space18 _ _).mono ?_
        rintro e w1 ⟨rfl, rfl⟩
        rw [HP.out]
        go_wp2_with fail
        go_round
        case rel => exact ⟨j + 1, by go_num, by omega, by rw [← HR.out, runP_go hlt HP.out]⟩
        case measure => simp [intOf]; omega
      · go_wp2_with fail
        refine (space18 _ _).mono ?_
        rintro e w1 ⟨rfl, rfl⟩
        rw [HP.out]
        go_wp2_with fail
        go_ret
        exact ⟨ret_int (by rw [← HR.out, runP_stop fun _ => HP.out]), rfl⟩
    · have hji : ¬ (j : Int) < (s.size : Int) := by omega
      go_wp2_with fail
      go_ret
      exact ⟨ret_int (by rw [← HR.out, runP_stop fun h => absurd h hlt]), rfl⟩
set_option maxRecDepth 100000 in
set_option maxHeartbeats 1000000 in
theorem run17_38 (X k : Nat) (s : ByteArray) (w : World) (h : w.cell? ⟨X, 0, none⟩ = some (.string s)) (hs : s.size ≤ 1000000) (hk : k ≤ s.size) :
    Calls Try.prog 17 #[.pointer (some ⟨X, 0, none⟩), .int .i64 k, .func (.func 38) #[] #[]] w fun e w' => e = .returned (.int .i64 (runP wordB s k)) ∧ w = w' := by
  go_enter Try.func17, Try.ntmps17
  go_wp2_with fail
  go_loop [1] (fun i => ∃ j : Nat, i = .int .i64 j ∧ j ≤ s.size ∧ runP wordB s j = runP wordB s k) (fun i => s.size - (intOf i).toNat)
  case atStart => exact ⟨k, rfl, hk, rfl⟩
  case round =>
    obtain ⟨j, rfl, hj, hr⟩ := hrel
    have HR := Lib.hid hr; clear hr
    by_cases hlt : j < s.size
    · have hbj := bt_eq hlt
      have hji : (j : Int) < (s.size : Int) := by omega
      have hp : Hid (wordB (bt s j) = true) ∨ Hid (wordB (bt s j) = false) := by
        cases h : wordB (bt s j)
        · exact .inr rfl
        · exact .inl rfl
      rcases hp with HP | HP
      · go_wp2_with fail
        refine (wordc38 _ _).mono ?_
        rintro e w1 ⟨rfl, rfl⟩
        rw [HP.out]
        go_wp2_with fail
        go_round
        case rel => exact ⟨j + 1, by go_num, by omega, by rw [← HR.out, runP_go hlt HP.out]⟩
        case measure => simp [intOf]; omega
      · go_wp2_with fail
        refine (wordc38 _ _).mono ?_
        rintro e w1 ⟨rfl, rfl⟩
        rw [HP.out]
        go_wp2_with fail
        go_ret
        exact ⟨ret_int (by rw [← HR.out, runP_stop fun _ => HP.out]), rfl⟩
    · have hji : ¬ (j : Int) < (s.size : Int) := by omega
      go_wp2_with fail
      go_ret
      exact ⟨ret_int (by rw [← HR.out, runP_stop fun h => absurd h hlt]), rfl⟩
set_option maxRecDepth 100000 in
set_option maxHeartbeats 1000000 in
theorem run17_27 (X k : Nat) (s : ByteArray) (w : World) (h : w.cell? ⟨X, 0, none⟩ = some (.string s)) (hs : s.size ≤ 1000000) (hk : k ≤ s.size) :
    Calls Try.prog 17 #[.pointer (some ⟨X, 0, none⟩), .int .i64 k, .func (.func 27) #[] #[]] w fun e w' => e = .returned (.int .i64 (runP digitB s k)) ∧ w = w' := by
  go_enter Try.func17, Try.ntmps17
  go_wp2_with fail
  go_loop [1] (fun i => ∃ j : Nat, i = .int .i64 j ∧ j ≤ s.size ∧ runP digitB s j = runP digitB s k) (fun i => s.size - (intOf i).toNat)
  case atStart => exact ⟨k, rfl, hk, rfl⟩
  case round =>
    obtain ⟨j, rfl, hj, hr⟩ := hrel
    have HR := Lib.hid hr; clear hr
    by_cases hlt : j < s.size
    · have hbj := bt_eq hlt
      have hji : (j : Int) < (s.size : Int) := by omega
      have hp : Hid (digitB (bt s j) = true) ∨ Hid (digitB (bt s j) = false) := by
        cases h : digitB (bt s j)
        · exact .inr rfl
        · exact .inl rfl
      rcases hp with HP | HP
      · go_wp2_with fail
        refine (digit27 _ _).mono ?_
        rintro e w1 ⟨rfl, rfl⟩
        rw [HP.out]
        go_wp2_with fail
        go_round
        case rel => exact ⟨j + 1, by go_num, by omega, by rw [← HR.out, runP_go hlt HP.out]⟩
        case measure => simp [intOf]; omega
      · go_wp2_with fail
        refine (digit27 _ _).mono ?_
        rintro e w1 ⟨rfl, rfl⟩
        rw [HP.out]
        go_wp2_with fail
        go_ret
        exact ⟨ret_int (by rw [← HR.out, runP_stop fun _ => HP.out]), rfl⟩
    · have hji : ¬ (j : Int) < (s.size : Int) := by omega
      go_wp2_with fail
      go_ret
      exact ⟨ret_int (by rw [← HR.out, runP_stop fun h => absurd h hlt]), rfl⟩

end Go.Proofs.Ytogepfcmmmokdaa
