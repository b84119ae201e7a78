/-
  The reference's sign.
-/
import Derived.Test.YtogepfcmmmokdaaRef1
namespace Go.Proofs.Ytogepfcmmmokdaa
open Go.RowKit

/-- 1 if one of the first j signs is the byte c. -/
def signN (c : Nat) (j : Nat) : Int := if (signs.take j).any (fun x => x.toNat == c) = true then 1 else 0

theorem signN_succ (c j : Nat) (h : j < signs.length) : signN c (j + 1) = if (signs[j].toNat == c) = true then 1 else signN c j := by
  unfold signN
  rw [List.take_succ_eq_append_getElem h, List.any_append]
  by_cases h1 : (signs[j].toNat == c) = true
  · simp [h1]
  · simp at h1
    simp [h1]

theorem one_byte {s : ByteArray} {k : Nat} (hk : k < s.size) : (s.extract k (k + 1)).toList = [byteAt s k] := by
  have hk' : k < s.data.toList.length := by simpa using hk
  rw [ByteArray.toList_eq, Lib.extract_data, show k + 1 - k = 1 by omega, List.take_one, List.head?_drop]
  unfold byteAt
  rw [List.getD_eq_getElem?_getD, List.getElem?_eq_getElem hk']
  rfl

theorem contains_one (x : UInt8) (l : List UInt8) : Lib.contains l [x] = decide (x ∈ l) := by
  rw [Bool.eq_iff_iff, Plain.contains_iff, decide_eq_true_eq]
  constructor
  · rintro ⟨a, b, rfl⟩; simp
  · intro h
    obtain ⟨a, b, rfl⟩ := List.append_of_mem h
    exact ⟨a, b, by simp⟩

theorem signN_all {s : ByteArray} {k : Nat} (hk : k < s.size) : signN (bt s k) 18 = if Lib.contains signs (s.extract k (k + 1)).toList = true then 1 else 0 := by
  rw [one_byte hk, contains_one]
  unfold signN
  have e : (signs.take 18).any (fun x => x.toNat == bt s k) = decide (byteAt s k ∈ signs) := by
    rw [show signs.take 18 = signs from rfl, Bool.eq_iff_iff, List.any_eq_true, decide_eq_true_eq]
    constructor
    · rintro ⟨x, hx, h⟩
      have h1 : x.toNat = bt s k := beq_iff_eq.1 h
      have : x = byteAt s k := UInt8.toNat_inj.mp h1
      exact this ▸ hx
    · intro h
      exact ⟨_, h, beq_iff_eq.2 rfl⟩
  rw [e]

end Go.Proofs.Ytogepfcmmmokdaa
