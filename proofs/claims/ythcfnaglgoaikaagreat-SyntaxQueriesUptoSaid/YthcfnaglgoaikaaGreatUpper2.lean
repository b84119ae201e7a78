/-
  The walk of the reference's Upper.
-/
import Derived.Test.YthcfnaglgoaikaaGreatUpper
namespace Go.Proofs.YthcfnaglgoaikaaGreat
open Go.RowKit

set_option maxHeartbeats 1000000 in
theorem upperR (s : ByteArray) (w : World) (hbig : s.size < 1000000) : Calls Tryz.prog 96 #[.string s] w (RetStr (Plain.upper s) w) := by
  go_enter Tryz.func96, Tryz.ntmps96
  go_wp2_with fail
  go_loopw [3, 4, 5] (fun o i _ wr => ∃ k : Nat, i = .int .i64 k ∧ k ≤ s.size ∧ o = .string (Plain.upTo s k) ∧ Below w.heap.size w wr) (fun _ i _ _ => s.size - (intOf i).toNat)
  case atStart => exact ⟨0, rfl, Nat.zero_le _, rfl, Below.refl _ _⟩
  case round =>
    obtain ⟨k, rfl, hk, rfl, hb⟩ := hrel
    have hbs := hb.size
    by_cases hlt : k < s.size
    · have hbk := bt_eq hlt
      have hlt8 := bt_lt s k
      have hki : (k : Int) < (s.size : Int) := by omega
      have hup : (Plain.upB (s[k]'hlt)).toNat = Plain.upN (bt s k) := by rw [Plain.upB_toNat, hbk]
      have hback := fun (z : Int) (hz : z = (Plain.upN (bt s k) : Int)) => conv_string (P := Tryz.prog) Tryz.underlying107 Tryz.underlying5 Tryz.underlying9 (wr.alloc (.cells #[.int .u8 z] 5)) wr.heap.size 0 1 1 [Plain.upB (s[k]'hlt)] rfl (fun j hj => by
        have hj0 : j = 0 := by simpa using hj
        subst hj0
        subst hz
        simp
        rw [← hbk, Plain.upB_toNat])
      have hsz := Plain.upTo_size s k
      by_cases h1 : (97 : Int) ≤ (bt s k : Int)
      · by_cases h2 : (bt s k : Int) ≤ 122
        · have hb1 := hback ((bt s k : Int) - 32) (by rw [Plain.upN, if_pos (by omega)]; omega)
          have HUP := Lib.hid hup; clear hup hback
          go_wp2_with fail
          go_roundw
          case rel => exact ⟨k + 1, by go_num, by omega, by rw [Plain.upTo_succ hlt], hb.alloc hbs _⟩
          case measure => simp [intOf]; omega
        · have hb1 := hback ((bt s k : Int)) (by rw [Plain.upN, if_neg (by omega)])
          have HUP := Lib.hid hup; clear hup hback
          go_wp2_with fail
          go_roundw
          case rel => exact ⟨k + 1, by go_num, by omega, by rw [Plain.upTo_succ hlt], hb.alloc hbs _⟩
          case measure => simp [intOf]; omega
      · have hb1 := hback ((bt s k : Int)) (by rw [Plain.upN, if_neg (by omega)])
        have HUP := Lib.hid hup; clear hup hback
        go_wp2_with fail
        go_roundw
        case rel => exact ⟨k + 1, by go_num, by omega, by rw [Plain.upTo_succ hlt], hb.alloc hbs _⟩
        case measure => simp [intOf]; omega
    · go_wp2_with fail
      go_ret
      exact ⟨ret_str (Plain.upTo_all (by omega)), hb⟩

end Go.Proofs.YthcfnaglgoaikaaGreat
