/-
  The walks of the small functions on bytes.
-/
import Derived.Test.YtogepfcmmmokdaaChecked
import Derived.Test.YtogepfcmmmokdaaKit
namespace Go.Proofs.Ytogepfcmmmokdaa
open Go.RowKit

def letterB (c : Int) : Bool := decide (97 ≤ c ∧ c ≤ 122) || decide (65 ≤ c ∧ c ≤ 90)
def digitB (c : Int) : Bool := decide (48 ≤ c ∧ c ≤ 57)
def spaceB (c : Int) : Bool := decide (c = 32 ∨ c = 9 ∨ c = 10)
def wordB (c : Int) : Bool := letterB c || digitB c || decide (c = 95)

set_option maxHeartbeats 400000 in
theorem letter25 (c : Int) (w : World) : Calls Try.prog 25 #[.int .u8 c] w fun e w' => e = .returned (.bool (letterB c)) ∧ w = w' := by
  by_cases h1 : 97 ≤ c <;> by_cases h2 : c ≤ 122 <;> by_cases h3 : 65 ≤ c <;> by_cases h4 : c ≤ 90
  all_goals first
    | (exfalso; omega)
    | (go_enter Try.func25, Try.ntmps25
       go_wp2
       go_ret
       exact ⟨ret_bool (by simp [letterB, h1, h2, h3, h4]), rfl⟩)
set_option maxHeartbeats 400000 in
theorem letter31 (c : Int) (w : World) : Calls Try.prog 31 #[.int .u8 c] w fun e w' => e = .returned (.bool (letterB c)) ∧ w = w' := by
  by_cases h1 : 97 ≤ c <;> by_cases h2 : c ≤ 122 <;> by_cases h3 : 65 ≤ c <;> by_cases h4 : c ≤ 90
  all_goals first
    | (exfalso; omega)
    | (go_enter Try.func31, Try.ntmps31
       go_wp2
       go_ret
       exact ⟨ret_bool (by simp [letterB, h1, h2, h3, h4]), rfl⟩)

set_option maxHeartbeats 400000 in
theorem digit27 (c : Int) (w : World) : Calls Try.prog 27 #[.int .u8 c] w fun e w' => e = .returned (.bool (digitB c)) ∧ w = w' := by
  by_cases h1 : 48 ≤ c <;> by_cases h2 : c ≤ 57
  all_goals first
    | (exfalso; omega)
    | (go_enter Try.func27, Try.ntmps27
       go_wp2
       go_ret
       exact ⟨ret_bool (by simp [digitB, h1, h2]), rfl⟩)
set_option maxHeartbeats 400000 in
theorem digit33 (c : Int) (w : World) : Calls Try.prog 33 #[.int .u8 c] w fun e w' => e = .returned (.bool (digitB c)) ∧ w = w' := by
  by_cases h1 : 48 ≤ c <;> by_cases h2 : c ≤ 57
  all_goals first
    | (exfalso; omega)
    | (go_enter Try.func33, Try.ntmps33
       go_wp2
       go_ret
       exact ⟨ret_bool (by simp [digitB, h1, h2]), rfl⟩)

set_option maxHeartbeats 400000 in
theorem space18 (c : Int) (w : World) : Calls Try.prog 18 #[.int .u8 c] w fun e w' => e = .returned (.bool (spaceB c)) ∧ w = w' := by
  cases h1 : (c == 32) <;> cases h2 : (c == 9) <;> cases h3 : (c == 10)
  all_goals
    go_enter Try.func18, Try.ntmps18
    go_wp2
    go_ret
    exact ⟨ret_bool (by simp at h1 h2 h3; simp [spaceB, h1, h2, h3]), rfl⟩
set_option maxHeartbeats 400000 in
theorem space15 (c : Int) (w : World) : Calls Try.prog 15 #[.int .u8 c] w fun e w' => e = .returned (.bool (spaceB c)) ∧ w = w' := by
  cases h1 : (c == 32) <;> cases h2 : (c == 9) <;> cases h3 : (c == 10)
  all_goals
    go_enter Try.func15, Try.ntmps15
    go_wp2
    go_ret
    exact ⟨ret_bool (by simp at h1 h2 h3; simp [spaceB, h1, h2, h3]), rfl⟩

set_option maxHeartbeats 400000 in
theorem wordc38 (c : Int) (w : World) : Calls Try.prog 38 #[.int .u8 c] w fun e w' => e = .returned (.bool (wordB c)) ∧ w = w' := by
  have HL : Hid (letterB c = true) ∨ Hid (letterB c = false) := by
    cases h : letterB c
    · exact .inr rfl
    · exact .inl rfl
  have HD : Hid (digitB c = true) ∨ Hid (digitB c = false) := by
    cases h : digitB c
    · exact .inr rfl
    · exact .inl rfl
  rcases HL with HL | HL
  · go_enter Try.func38, Try.ntmps38
    go_wp2_with fail
    refine (letter25 c _).mono ?_
    rintro e w1 ⟨rfl, rfl⟩
    rw [HL.out]
    go_wp2_with fail
    go_ret
    exact ⟨ret_bool (by simp [wordB, HL.out]), rfl⟩
  · rcases HD with HD | HD
    · go_enter Try.func38, Try.ntmps38
      go_wp2_with fail
      refine (letter25 c _).mono ?_
      rintro e w1 ⟨rfl, rfl⟩
      rw [HL.out]
      go_wp2_with fail
      refine (digit27 c _).mono ?_
      rintro e w1 ⟨rfl, rfl⟩
      rw [HD.out]
      go_wp2_with fail
      go_ret
      exact ⟨ret_bool (by simp [wordB, HD.out]), rfl⟩
    · cases h1 : (c == 95)
      all_goals
        go_enter Try.func38, Try.ntmps38
        go_wp2_with fail
        refine (letter25 c _).mono ?_
        rintro e w1 ⟨rfl, rfl⟩
        rw [HL.out]
        go_wp2_with fail
        refine (digit27 c _).mono ?_
        rintro e w1 ⟨rfl, rfl⟩
        rw [HD.out]
        go_wp2_with fail
        go_ret
        exact ⟨ret_bool (by simp at h1; simp [wordB, HL.out, HD.out, h1]), rfl⟩

end Go.Proofs.Ytogepfcmmmokdaa
