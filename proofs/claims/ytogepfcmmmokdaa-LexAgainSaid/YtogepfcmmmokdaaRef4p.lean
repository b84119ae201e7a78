/-
  Plain: the reference's number.
-/
import Derived.Test.YtogepfcmmmokdaaRef1
namespace Go.Proofs.Ytogepfcmmmokdaa
open Go.RowKit

/-- The reference's running value: it stands once it is past the bound. -/
def refTo (s : ByteArray) (k : Nat) : Nat → Int
  | 0 => 0
  | i + 1 => if refTo s k i ≤ 1000000000000000 then 10 * refTo s k i + ((bt s (k + i) : Int) - 48) else refTo s k i

theorem refTo_bd {s : ByteArray} {k : Nat} : ∀ i, (∀ j, k ≤ j → j < k + i → digitB (bt s j) = true) → 0 ≤ refTo s k i ∧ refTo s k i ≤ 10000000000000009
  | 0, _ => by simp [refTo]
  | i + 1, h => by
    have ih := refTo_bd i fun j h1 h2 => h j h1 (by omega)
    have hd := digitB_iff (h (k + i) (by omega) (by omega))
    rw [refTo]
    split <;> omega

/-- Both values are equal, or both are past the bound. -/
theorem refTo_num {s : ByteArray} {k : Nat} : ∀ i, (∀ j, k ≤ j → j < k + i → digitB (bt s j) = true) →
    (refTo s k i = numTo s k i ∧ refTo s k i ≤ 1000000000000000) ∨ (1000000000000000 < refTo s k i ∧ 1000000000000000 < numTo s k i)
  | 0, _ => .inl (by simp [refTo, numTo])
  | i + 1, h => by
    have ih := refTo_num i fun j h1 h2 => h j h1 (by omega)
    have hd := digitB_iff (h (k + i) (by omega) (by omega))
    have hb := numTo_bd (s := s) (k := k) i fun j h1 h2 => h j h1 (by omega)
    rw [refTo, numTo]
    split <;> split <;> omega

end Go.Proofs.Ytogepfcmmmokdaa
