/-
  The walk of the scanner's number.
-/
import Derived.Test.YtogepfcmmmokdaaSign
namespace Go.Proofs.Ytogepfcmmmokdaa
open Go.RowKit

/-- The value of the first i digits from k on; beyond 10^15 it is 10^15 + 1. -/
def numTo (s : ByteArray) (k : Nat) : Nat → Int
  | 0 => 0
  | i + 1 => if 1000000000000000 < 10 * numTo s k i + ((bt s (k + i) : Int) - 48) then 1000000000000001 else 10 * numTo s k i + ((bt s (k + i) : Int) - 48)

theorem runP_all (p : Int → Bool) (s : ByteArray) : ∀ (n k : Nat), s.size - k ≤ n → ∀ j, k ≤ j → j < runP p s k → p (bt s j) = true
  | 0, k, h, j, h1, h2 => by rw [runP_stop fun h' => absurd h' (by omega)] at h2; omega
  | n + 1, k, h, j, h1, h2 => by
    rw [runP] at h2
    split at h2
    · rename_i hk
      by_cases e : j = k
      · subst e; exact hk.2
      · exact runP_all p s n (k + 1) (by omega) j (by omega) h2
    · omega

theorem digitB_iff {c : Int} (h : digitB c = true) : 48 ≤ c ∧ c ≤ 57 := by simpa [digitB] using h

theorem numTo_bd {s : ByteArray} {k : Nat} : ∀ i, (∀ j, k ≤ j → j < k + i → digitB (bt s j) = true) → 0 ≤ numTo s k i ∧ numTo s k i ≤ 1000000000000001
  | 0, _ => by simp [numTo]
  | i + 1, h => by
    have ih := numTo_bd i (fun j h1 h2 => h j h1 (by omega))
    have hd := digitB_iff (h (k + i) (by omega) (by omega))
    rw [numTo]
    split <;> omega

theorem bt_extract {s : ByteArray} {a b i : Nat} (h2 : i < b - a) : bt (s.extract a b) i = bt s (a + i) := by
  unfold bt
  rw [Lib.extract_data]
  rw [List.getD_eq_getElem?_getD, List.getElem?_take_of_lt h2, List.getElem?_drop, List.getD_eq_getElem?_getD]

def numR (s : ByteArray) (k : Nat) : Res :=
  let en := runP digitB s k
  let n := numTo s k (en - k)
  if 1 < en - k ∧ bt s k = 48 then .err k 2
  else if 1000000000000000 < n then .err k 4
  else if en < s.size ∧ (letterB (bt s en) = true ∨ bt s en = 95) then .err en 2
  else .ok ⟨3, k, en - k, n, ⟨#[]⟩⟩ en

set_option maxRecDepth 100000 in
set_option maxHeartbeats 4000000 in
theorem number28 (B X : Nat) (s : ByteArray) (k : Nat) (ts : List Tok) (w : World) (h : Sc w B X s k ts) (hs : s.size ≤ 2000) (hk : k < s.size) (hn : ts.length ≤ 3000) :
    Calls Try.prog 28 #[.pointer (some ⟨X, 0, none⟩)] w (Step B X s ts w (numR s k)) := by
  have c0 := h.cell0
  have c1 := h.cell1
  have hBl := h.lt
  have hge := runP_ge digitB s _ k (Nat.le_refl _)
  have hle := runP_le digitB s _ k (Nat.le_refl _) (by omega)
  have hsize := extract_size hge hle
  have hall := runP_all digitB s _ k (Nat.le_refl _)
  have hR : numR s k = if 1 < runP digitB s k - k ∧ bt s k = 48 then .err k 2
    else if 1000000000000000 < numTo s k (runP digitB s k - k) then .err k 4
    else if runP digitB s k < s.size ∧ (letterB (bt s (runP digitB s k)) = true ∨ bt s (runP digitB s k) = 95) then .err (runP digitB s k) 2
    else .ok ⟨3, k, (runP digitB s k : Int) - k, numTo s k (runP digitB s k - k), ⟨#[]⟩⟩ (runP digitB s k) := rfl
  generalize hen : runP digitB s k = en at *
  have HEN := Lib.hid hen; clear hen
  have HR := Lib.hid hR; clear hR
  have HA := Lib.hid hall; clear hall
  have hsz : Hid ((s.extract k en).size = en - k) := Lib.hid hsize
  clear hsize
  have hgi : (k : Int) ≤ (en : Int) := by omega
  have hki : (0 : Int) ≤ (k : Int) := by omega
  have hei : (en : Int) ≤ (s.size : Int) := by omega
  obtain ⟨C, w1, hconv, hM1, hC1, hC2, hb1, hs1⟩ := conv_bytes Try.underlying9 Try.underlying47 Try.underlying5 w.drew (s.extract k en)
  have HC2 := Lib.hid hC2; clear hC2
  have HS1 := Lib.hid hs1; clear hs1
  go_enter Try.func28, Try.ntmps28
  go_wp2_with fail
  refine (run17_27 X k s _ c0 (by omega) (by omega)).mono ?_
  rintro e w2 ⟨rfl, rfl⟩
  rw [HEN.out]
  go_wp2_with fail
  go_region
  have hbw : Below w.heap.size w w1 := ((Below.refl _ w).drew).trans hb1
  have hSc := h.below hbw (Nat.le_refl _)
  have d0 := hSc.cell0
  have d1 := hSc.cell1
  have hcell : ∀ i, i < en - k → w1.cell? ⟨w.heap.size, i, none⟩ = some (.int .u8 (bt s (k + i) : Int)) := by
    intro i hi
    have := (hM1.cell i).trans (HC2.out i (by rw [hsz.out]; exact hi))
    rw [bt_extract hi] at this
    exact this
  have HCELL := Lib.hid hcell; clear hcell
  clear hconv
  go_wp2_with fail
  go_loop [4, 6, 25] (fun n _ i => ∃ j : Nat, i = .int .i64 j ∧ j ≤ en - k ∧ n = .int .i64 (numTo s k j)) (fun _ _ i => (en - k) - (intOf i).toNat)
  case atStart => exact ⟨0, rfl, Nat.zero_le _, rfl⟩
  case round =>
    obtain ⟨j, rfl, hj, rfl⟩ := hrel
    have hbd := numTo_bd (s := s) (k := k) j (fun i h1 h2 => HA.out i h1 (by omega))
    have hbd1 := hbd.1
    have hbd2 := hbd.2
    clear hbd
    by_cases hlt : j < en - k
    · have hx := HCELL.out j hlt
      have hd := digitB_iff (HA.out (k + j) (by omega) (by omega))
      have hd1 := hd.1
      have hd2 := hd.2
      clear hd
      have hN : numTo s k (j + 1) = if 1000000000000000 < 10 * numTo s k j + ((bt s (k + j) : Int) - 48) then 1000000000000001 else 10 * numTo s k j + ((bt s (k + j) : Int) - 48) := rfl
      have HN := Lib.hid hN; clear hN
      by_cases hq : 1000000000000000 < 10 * numTo s k j + ((bt s (k + j) : Int) - 48)
      · rw [if_pos hq] at HN
        go_wp2_with fail
        go_round
        case rel => exact ⟨j + 1, by go_num, by omega, by rw [HN.out]⟩
        case measure => simp [intOf]; omega
      · rw [if_neg hq] at HN
        go_wp2_with fail
        go_round
        case rel => exact ⟨j + 1, by go_num, by omega, by rw [HN.out]⟩
        case measure => simp [intOf]; omega
    · obtain rfl : j = en - k := by omega
      generalize numTo s k (en - k) = N at *
      have hbk := bt_eq hk
      have hwr : IntKind.i64.wrap ((en : Int) - (k : Int)) = (en : Int) - (k : Int) := IntWalk.i64_in _ (by omega)
      go_wp2_with fail
      by_cases h1 : 1 < en - k
      · have h1i : (1 : Int) < (en : Int) - (k : Int) := by omega
        cases h2 : ((bt s k : Int) == 48)
        · have HA0 : Hid (¬ (1 < en - k ∧ bt s k = 48)) := Lib.hid (by rintro ⟨_, h⟩; rw [h] at h2; simp at h2)
          by_cases h3 : 1000000000000000 < N
          · have HS : Hid (numR s k = .err k 4) := Lib.hid (by rw [HR.out, if_neg HA0.out, if_pos h3])
            go_quiet (fail)
            go_wp2_with fail
            go_ret
            rw [HS.out]
            exact ⟨_, rfl, heap_alloc_new _ _, (hbw.mono hBl).trans ((below_drewN (Below.refl B w1) _).alloc hSc.lt _)⟩
          · by_cases h4 : en < s.size
            · have hbe := bt_eq h4
              have h4i : (en : Int) < (s.size : Int) := by omega
              rcases bool_cases (letterB (bt s en)) with HL | HL
              · have HS : Hid (numR s k = .err en 2) := Lib.hid (by rw [HR.out, if_neg HA0.out, if_neg h3, if_pos ⟨h4, .inl HL.out⟩])
                go_quiet (fail)
                go_wp2_with fail
                refine (letter25 _ _).mono ?_
                rintro e w2 ⟨rfl, rfl⟩
                rw [HL.out]
                go_wp2_with fail
                go_ret
                rw [HS.out]
                exact ⟨_, rfl, heap_alloc_new _ _, (hbw.mono hBl).trans ((below_drewN (Below.refl B w1) _).alloc hSc.lt _)⟩
              · cases h5 : ((bt s en : Int) == 95)
                · have HS : Hid (numR s k = .ok ⟨3, k, (en : Int) - k, N, ⟨#[]⟩⟩ en) := Lib.hid (by
                    rw [HR.out, if_neg HA0.out, if_neg h3, if_neg]
                    rintro ⟨_, h | h⟩
                    · rw [HL.out] at h; cases h
                    · rw [h] at h5; simp at h5)
                  go_quiet (fail)
                  go_wp2_with fail
                  refine (letter25 _ _).mono ?_
                  rintro e w2 ⟨rfl, rfl⟩
                  rw [HL.out]
                  go_wp2_with fail
                  refine (emit19 B X s ⟨#[]⟩ k 3 en N ts _ (hSc.drewN _) (by omega) (by omega) (by omega)).mono ?_
                  rintro e w3 ⟨rfl, hS3, hb3⟩
                  go_wp2_with fail
                  go_ret
                  rw [HS.out]
                  exact ⟨rfl, hS3, (hbw.mono hBl).trans ((below_drewN (Below.refl B w1) _).trans hb3)⟩
                · have HS : Hid (numR s k = .err en 2) := Lib.hid (by rw [HR.out, if_neg HA0.out, if_neg h3, if_pos ⟨h4, .inr (by have := beq_iff_eq.1 h5; omega)⟩])
                  go_quiet (fail)
                  go_wp2_with fail
                  refine (letter25 _ _).mono ?_
                  rintro e w2 ⟨rfl, rfl⟩
                  rw [HL.out]
                  go_wp2_with fail
                  go_ret
                  rw [HS.out]
                  exact ⟨_, rfl, heap_alloc_new _ _, (hbw.mono hBl).trans ((below_drewN (Below.refl B w1) _).alloc hSc.lt _)⟩
            · have h4i : ¬ (en : Int) < (s.size : Int) := by omega
              have HS : Hid (numR s k = .ok ⟨3, k, (en : Int) - k, N, ⟨#[]⟩⟩ en) := Lib.hid (by
                rw [HR.out, if_neg HA0.out, if_neg h3, if_neg (fun h => h4 h.1)])
              go_quiet (fail)
              go_wp2_with fail
              refine (emit19 B X s ⟨#[]⟩ k 3 en N ts _ (hSc.drewN _) (by omega) (by omega) (by omega)).mono ?_
              rintro e w3 ⟨rfl, hS3, hb3⟩
              go_wp2_with fail
              go_ret
              rw [HS.out]
              exact ⟨rfl, hS3, (hbw.mono hBl).trans ((below_drewN (Below.refl B w1) _).trans hb3)⟩
        · have HS : Hid (numR s k = .err k 2) := Lib.hid (by rw [HR.out, if_pos ⟨h1, by have := beq_iff_eq.1 h2; omega⟩])
          go_quiet (fail)
          go_wp2_with fail
          go_ret
          rw [HS.out]
          exact ⟨_, rfl, heap_alloc_new _ _, (hbw.mono hBl).trans ((below_drewN (Below.refl B w1) _).alloc hSc.lt _)⟩
      · have h1i : decide ((1 : Int) < (en : Int) - (k : Int)) = false := by simp; omega
        have HA0 : Hid (¬ (1 < en - k ∧ bt s k = 48)) := Lib.hid (fun h => h1 h.1)
        by_cases h3 : 1000000000000000 < N
        · have HS : Hid (numR s k = .err k 4) := Lib.hid (by rw [HR.out, if_neg HA0.out, if_pos h3])
          go_quiet (fail)
          go_wp2_with fail
          go_ret
          rw [HS.out]
          exact ⟨_, rfl, heap_alloc_new _ _, (hbw.mono hBl).trans ((below_drewN (Below.refl B w1) _).alloc hSc.lt _)⟩
        · by_cases h4 : en < s.size
          · have hbe := bt_eq h4
            have h4i : (en : Int) < (s.size : Int) := by omega
            rcases bool_cases (letterB (bt s en)) with HL | HL
            · have HS : Hid (numR s k = .err en 2) := Lib.hid (by rw [HR.out, if_neg HA0.out, if_neg h3, if_pos ⟨h4, .inl HL.out⟩])
              go_quiet (fail)
              go_wp2_with fail
              refine (letter25 _ _).mono ?_
              rintro e w2 ⟨rfl, rfl⟩
              rw [HL.out]
              go_wp2_with fail
              go_ret
              rw [HS.out]
              exact ⟨_, rfl, heap_alloc_new _ _, (hbw.mono hBl).trans ((below_drewN (Below.refl B w1) _).alloc hSc.lt _)⟩
            · cases h5 : ((bt s en : Int) == 95)
              · have HS : Hid (numR s k = .ok ⟨3, k, (en : Int) - k, N, ⟨#[]⟩⟩ en) := Lib.hid (by
                  rw [HR.out, if_neg HA0.out, if_neg h3, if_neg]
                  rintro ⟨_, h | h⟩
                  · rw [HL.out] at h; cases h
                  · rw [h] at h5; simp at h5)
                go_quiet (fail)
                go_wp2_with fail
                refine (letter25 _ _).mono ?_
                rintro e w2 ⟨rfl, rfl⟩
                rw [HL.out]
                go_wp2_with fail
                refine (emit19 B X s ⟨#[]⟩ k 3 en N ts _ (hSc.drewN _) (by omega) (by omega) (by omega)).mono ?_
                rintro e w3 ⟨rfl, hS3, hb3⟩
                go_wp2_with fail
                go_ret
                rw [HS.out]
                exact ⟨rfl, hS3, (hbw.mono hBl).trans ((below_drewN (Below.refl B w1) _).trans hb3)⟩
              · have HS : Hid (numR s k = .err en 2) := Lib.hid (by rw [HR.out, if_neg HA0.out, if_neg h3, if_pos ⟨h4, .inr (by have := beq_iff_eq.1 h5; omega)⟩])
                go_quiet (fail)
                go_wp2_with fail
                refine (letter25 _ _).mono ?_
                rintro e w2 ⟨rfl, rfl⟩
                rw [HL.out]
                go_wp2_with fail
                go_ret
                rw [HS.out]
                exact ⟨_, rfl, heap_alloc_new _ _, (hbw.mono hBl).trans ((below_drewN (Below.refl B w1) _).alloc hSc.lt _)⟩
          · have h4i : ¬ (en : Int) < (s.size : Int) := by omega
            have HS : Hid (numR s k = .ok ⟨3, k, (en : Int) - k, N, ⟨#[]⟩⟩ en) := Lib.hid (by
              rw [HR.out, if_neg HA0.out, if_neg h3, if_neg (fun h => h4 h.1)])
            go_quiet (fail)
            go_wp2_with fail
            refine (emit19 B X s ⟨#[]⟩ k 3 en N ts _ (hSc.drewN _) (by omega) (by omega) (by omega)).mono ?_
            rintro e w3 ⟨rfl, hS3, hb3⟩
            go_wp2_with fail
            go_ret
            rw [HS.out]
            exact ⟨rfl, hS3, (hbw.mono hBl).trans ((below_drewN (Below.refl B w1) _).trans hb3)⟩

end Go.Proofs.Ytogepfcmmmokdaa
