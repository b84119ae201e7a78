/-
  LexCase.
-/
import Derived.Test.YtogepfcmmmokdaaAlive
import Derived.Test.YtogepfcmmmokdaaShape
import Derived.Test.YtogepfcmmmokdaaCase
import Derived.Test.YtogepfcmmmokdaaSame
namespace Go.Proofs.Ytogepfcmmmokdaa
open Go.RowKit

set_option maxRecDepth 100000 in
set_option maxHeartbeats 4000000 in
theorem law7 (s : ByteArray) (w : World) (hM : HasMax w) : Calls Try.prog 7 #[.string s] w (RetBool true w) := by
  go_enter Try.func7, Try.ntmps7
  by_cases h100 : (100 : Int) < s.size
  · go_wp2_with fail
    refine (alive8 _ hM).mono ?_
    rintro e w1 ⟨rfl, hb1⟩
    go_wp2_with fail
    go_ret
    exact ⟨rfl, hb1⟩
  · have hsz : s.size < 1000000 := by omega
    have hs : s.size ≤ 2000 := by omega
    cases hR : Plain.reserved s
    · have HR := Lib.hid hR; clear hR
      go_wp2_with fail
      refine (reserved13 s _ hsz).mono ?_
      rintro e w1 ⟨rfl, hb1⟩
      rw [HR.out]
      have hM1 := hM.below hb1 (Nat.le_refl _)
      go_wp2_with fail
      refine (alive8 _ hM1).mono ?_
      rintro e w2 ⟨rfl, hb2⟩
      go_wp2_with fail
      go_ret
      exact ⟨rfl, Below.step hb1 hb2 (Nat.le_refl _)⟩
    · have HT := Lib.hid (tokens_word hR hs)
      have HU := Lib.hid (tokens_upper hR hs)
      have HR := Lib.hid hR; clear hR
      go_wp2_with fail
      refine (reserved13 s _ hsz).mono ?_
      rintro e w1 ⟨rfl, hb1⟩
      rw [HR.out]
      have hM1 := hM.below hb1 (Nat.le_refl _)
      go_wp2_with fail
      refine (tokens9 s _ hM1).mono ?_
      rintro e w2 hr
      rw [HT.out] at hr
      obtain ⟨v, rfl, hv, hb2⟩ := hr
      have hM2 := hM1.below hb2 (Nat.le_refl _)
      go_wp2_with fail
      refine (upper14 s _ hsz).mono ?_
      rintro e w3 ⟨rfl, hb3⟩
      have hM3 := hM2.below hb3 (Nat.le_refl _)
      have hv3 := hv.below hb3 (Nat.le_refl _)
      go_wp2_with fail
      refine (tokens9 (Plain.upper s) _ hM3).mono ?_
      rintro e w4 hr
      rw [HU.out] at hr
      obtain ⟨u, rfl, hu, hb4⟩ := hr
      have hM4 := hM3.below hb4 (Nat.le_refl _)
      have hv4 := hv3.below hb4 (Nat.le_refl _)
      have hb := Below.step (Below.step (Below.step hb1 hb2 (Nat.le_refl _)) hb3 (Nat.le_refl _)) hb4 (Nat.le_refl _)
      clear hb1 hb2 hb3 hb4 hv hv3
      have hS := same11 v u _ w4 hv4 hu
      obtain ⟨A, n, c, rfl, hl, hc, hm, hr⟩ := hv4
      obtain rfl : n = 2 := by simpa using hl.symm
      obtain ⟨b, off, rfl, hx⟩ := hr (by omega)
      have a0 : w4.cell? ⟨b, off, none⟩ = some (.int .i64 1) := by simpa [wordTok] using hx 0 (by simp) 0 _ rfl
      obtain ⟨A', n', c', rfl, hl', hc', hm', hr'⟩ := hu
      obtain rfl : n' = 2 := by simpa using hl'.symm
      have HS := Lib.hid hS; clear hS
      clear hx hr hr' hl hl' hc hc' hm hm'
      go_wp2_with fail
      refine HS.out.mono ?_
      rintro e w5 ⟨rfl, hd⟩
      have hb5 := hd.below w4.heap.size
      have hM5 := hM4.below hb5 (Nat.le_refl _)
      have a1 : w5.cell? ⟨b, off, none⟩ = some (.int .i64 1) := Go.Proofs.Ytogepfcmmmokdaa.cell_later hb5 (Nat.le_refl _) a0
      go_wp2_with fail
      refine (alive8 _ hM5).mono ?_
      rintro e w6 ⟨rfl, hb6⟩
      go_wp2_with fail
      go_ret
      exact ⟨rfl, Below.step (Below.step hb hb5 (Nat.le_refl _)) hb6 (Nat.le_refl _)⟩

end Go.Proofs.Ytogepfcmmmokdaa
