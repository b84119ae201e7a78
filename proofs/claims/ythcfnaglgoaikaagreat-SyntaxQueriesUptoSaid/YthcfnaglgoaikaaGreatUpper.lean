/-
  The walks of upper, the program's and the reference's.
-/
import Derived.Test.YthcfnaglgoaikaaGreatChecked
import Derived.Test.YthcfnaglgoaikaaGreatKit
import Derived.Test.YthcfnaglgoaikaaGreatPlain
namespace Go.Proofs.YthcfnaglgoaikaaGreat
open Go.RowKit

def RetStr (s : ByteArray) (w : World) (e : Ending) (w' : World) : Prop := e = .returned (.string s) ∧ Below w.heap.size w w'

set_option maxHeartbeats 1000000 in
theorem upperP (s : ByteArray) (w : World) (hbig : s.size < 1000000) : Calls Tryz.prog 80 #[.string s] w (RetStr (Plain.upper s) w) := by
  obtain ⟨C, w1, hconv, hM, hCs, hC, hb1, hsz1⟩ := conv_bytes Tryz.underlying9 Tryz.underlying107 Tryz.underlying5 w s
  have HC := Lib.hid hC; clear hC
  have hn : s.data.toList.length = s.size := by simp
  have HN := Lib.hid hn; clear hn
  have HSZ := Lib.hid hsz1; clear hsz1
  go_enter Tryz.func80, Tryz.ntmps80
  go_wp2_with fail
  clear hconv
  go_loopw [4, 5, 10] (fun _ _ i wr => ∃ (k : Nat) (D : Array Value), i = .int .i64 k ∧ k ≤ s.size ∧ Marked wr w.heap.size 5 D ∧ D.size = C.size ∧ Below w.heap.size w wr ∧
      ∀ j, j < s.size → D[j]? = some (.int .u8 ((if j < k then Plain.upN (bt s j) else bt s j : Nat) : Int))) (fun _ _ i _ => s.size - (intOf i).toNat)
  case atStart => exact ⟨0, C, rfl, Nat.zero_le _, hM, rfl, hb1, by simpa using HC.out⟩
  case round =>
    obtain ⟨k, D, rfl, hk, hM', hD, hb, hcell⟩ := hrel
    have HD := Lib.hid hD; clear hD
    have HX := Lib.hid hcell; clear hcell
    by_cases hlt : k < s.size
    · have hc : wr.cell? ⟨w.heap.size, k, none⟩ = some (.int .u8 (bt s k : Int)) := by
        rw [hM'.cell, HX.out k hlt]; simp
      have hf : wr.frozen? ⟨w.heap.size, k, none⟩ = false := hM'.frozen (by rw [HD.out]; omega)
      have hlt8 := bt_lt s k
      by_cases h1 : (97 : Int) ≤ (bt s k : Int) ∧ (bt s k : Int) ≤ 122
      · obtain ⟨h1, h2⟩ := h1
        go_wp2_with fail
        have e1 : (bt s k : Int) - 97 + 65 = ((bt s k - 32 : Nat) : Int) := by omega
        go_roundw
        case rel => exact ⟨k + 1, _, by go_num, by omega, hM'.set_ k _, by simp [HD.out], hb.setCell (Nat.le_refl _) _, fun j hj => by
          by_cases e : j = k
          · subst e
            simp [Plain.upN, HD.out, show j < C.size by omega, show 97 ≤ bt s j ∧ bt s j ≤ 122 by omega]
            omega
          · rw [Array.getElem?_setIfInBounds_ne (by omega), HX.out j hj]
            simp [show (j < k + 1) = (j < k) by simp; omega]⟩
        case measure => simp [intOf]; omega
      · have hup : Plain.upN (bt s k) = bt s k := by unfold Plain.upN; rw [if_neg (by omega)]
        have HU := Lib.hid hup; clear hup
        by_cases h2 : (97 : Int) ≤ (bt s k : Int)
        · have h3 : ¬ (bt s k : Int) ≤ 122 := fun h => h1 ⟨h2, h⟩
          clear h1
          go_wp2_with fail
          go_roundw
          case rel => exact ⟨k + 1, D, by go_num, by omega, hM', HD.out, hb, fun j hj => by
            by_cases e : j = k
            · subst e; rw [HX.out j hj]; simp [HU.out]
            · rw [HX.out j hj]; simp [show (j < k + 1) = (j < k) by simp; omega]⟩
          case measure => simp [intOf]; omega
        · clear h1
          go_wp2_with fail
          go_roundw
          case rel => exact ⟨k + 1, D, by go_num, by omega, hM', HD.out, hb, fun j hj => by
            by_cases e : j = k
            · subst e; rw [HX.out j hj]; simp [HU.out]
            · rw [HX.out j hj]; simp [show (j < k + 1) = (j < k) by simp; omega]⟩
          case measure => simp [intOf]; omega
    · have hback := conv_string (P := Tryz.prog) Tryz.underlying107 Tryz.underlying5 Tryz.underlying9 wr w.heap.size 0 s.size C.size (s.data.toList.map Plain.upB) (by simp) (fun j hj => by
        have hj' : j < s.size := by simpa using hj
        rw [Nat.zero_add, hM'.cell, HX.out j hj', if_pos (by omega), List.getElem_map, Plain.upB_toNat]
        unfold bt
        rw [List.getD_eq_getElem?_getD, List.getElem?_eq_getElem (by rw [HN.out]; exact hj')]
        rfl)
      go_wp2_with fail
      go_ret
      exact ⟨rfl, hb⟩

end Go.Proofs.YthcfnaglgoaikaaGreat
