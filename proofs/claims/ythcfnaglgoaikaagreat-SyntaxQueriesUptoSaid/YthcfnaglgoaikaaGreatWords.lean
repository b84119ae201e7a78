/-
  The walks of the reference's words and Reserved.
-/
import Derived.Test.YthcfnaglgoaikaaGreatUpper2
namespace Go.Proofs.YthcfnaglgoaikaaGreat
open Go.RowKit

set_option maxRecDepth 100000 in
set_option maxHeartbeats 1000000 in
theorem wordsR (w : World) : Calls Tryz.prog 97 #[] w fun e w' => ∃ v, e = .returned v ∧ StrsAt w' v Plain.words ∧ Below w.heap.size w w' := by
  go_enter Tryz.func97, Tryz.ntmps97
  go_wp2_with fail
  go_ret
  exact ⟨_, rfl, strsAt_new Plain.words rfl rfl rfl rfl (by decide), (Below.refl _ _).alloc (Nat.le_refl _) _⟩

set_option maxHeartbeats 1000000 in
theorem reservedR (s : ByteArray) (w : World) (hbig : s.size < 1000000) : Calls Tryz.prog 87 #[.string s] w (RetBool (Plain.reserved s) w) := by
  go_enter Tryz.func87, Tryz.ntmps87
  go_wp2_with fail
  refine (upperR s _ hbig).mono ?_
  rintro e w1 ⟨rfl, hb1⟩
  go_wp2_with fail
  refine (wordsR _).mono ?_
  rintro e w2 ⟨v, rfl, hv, hb2⟩
  have hb := Below.step hb1 hb2 (Nat.le_refl _)
  clear hb1 hb2
  obtain ⟨A, n, c, rfl, hl, hc, hm, hr⟩ := hv
  have HL := Lib.hid hl; clear hl
  have HR := Lib.hid hr; clear hr
  have hm : n ≤ 9223372036854775807 := by unfold maxLen at hm; omega
  clear hc
  have hres : Plain.reserved s = decide ((Plain.upper s).toList ∈ Plain.words.map fun w => w.toList) := rfl
  have HRES := Lib.hid hres; clear hres
  generalize Plain.words = W at *
  generalize Plain.upper s = u at *
  go_wp2_with fail
  go_loop [5] (fun i => ∃ k : Nat, i = .int .i64 k ∧ k ≤ n ∧ ∀ j (h : j < W.length), j < k → W[j].toList ≠ u.toList) (fun i => n - (intOf i).toNat)
  case atStart => exact ⟨0, rfl, Nat.zero_le _, fun j _ h => absurd h (by omega)⟩
  case round =>
    obtain ⟨k, rfl, hk, hs⟩ := hrel
    have HS := Lib.hid hs; clear hs
    by_cases hlt : k < n
    · obtain ⟨b, off, rfl, hx⟩ := HR.out (by omega)
      have hxk := hx k hlt
      clear hx
      have hz : k < W.length := by rw [HL.out]; exact hlt
      have HE := Lib.hid (sl_lt hz)
      by_cases hq : ((sl W k).toList == u.toList) = true
      · have HQ := Lib.hid (beq_iff_eq.1 hq)
        go_wp2_with fail
        go_ret
        exact ⟨ret_bool (by rw [HRES.out]; exact (decide_eq_true (List.mem_map.2 ⟨_, List.getElem_mem hz, by rw [← HE.out]; exact HQ.out⟩)).symm), hb⟩
      · have hq : ((sl W k).toList == u.toList) = false := by simpa using hq
        have HQ := Lib.hid (beq_eq_false_iff_ne.1 hq)
        go_wp2_with fail
        go_round
        case rel => exact ⟨k + 1, by go_num, by omega, fun j h hj => by
          by_cases e : j = k
          · subst e; rw [← HE.out]; exact HQ.out
          · exact HS.out j h (by omega)⟩
        case measure => simp [intOf]; omega
    · go_wp2_with fail
      go_ret
      exact ⟨ret_bool (by rw [HRES.out]; exact (decide_eq_false fun hx => by
        obtain ⟨y, hy, e⟩ := List.mem_map.1 hx
        obtain ⟨i, hi, e'⟩ := List.getElem_of_mem hy
        exact HS.out i hi (by have := HL.out; omega) (by rw [e']; exact e)).symm), hb⟩

end Go.Proofs.YthcfnaglgoaikaaGreat
