/-
  The walk of alive.
-/
import Derived.Test.YtogepfcmmmokdaaEval
namespace Go.Proofs.Ytogepfcmmmokdaa
open Go.RowKit

set_option maxRecDepth 100000 in
set_option maxHeartbeats 2000000 in
theorem alive8 (w : World) (hM : HasMax w) : Calls Try.prog 8 #[] w (RetBool true w) := by
  have HY := Lib.hid null_yes
  have HN := Lib.hid nul_no
  obtain ⟨t1, t2, t3, ht⟩ := tokens_ex
  have HT := Lib.hid ht; clear ht
  go_enter Try.func8, Try.ntmps8
  go_wp2_with fail
  refine (tokens9 ex _ hM).mono ?_
  rintro e w1 hr
  rw [HT.out] at hr
  obtain ⟨v, rfl, hv, hb⟩ := hr
  obtain ⟨A, n, c, rfl, hl, hc, hm, hr⟩ := hv
  obtain rfl : n = 5 := by simpa using hl.symm
  obtain ⟨b, off, rfl, hx⟩ := hr (by omega)
  have a0 : w1.cell? ⟨b, off, none⟩ = some (.int .i64 1) := by simpa using hx 0 (by simp) 0 _ rfl
  have a1 : w1.cell? ⟨b, off + 1, none⟩ = some (.int .i64 0) := by simpa using hx 0 (by simp) 1 _ rfl
  have a2 : w1.cell? ⟨b, off + 2, none⟩ = some (.int .i64 5) := by simpa using hx 0 (by simp) 2 _ rfl
  have a3 : w1.cell? ⟨b, off + 3, none⟩ = some (.int .i64 0) := by simpa using hx 0 (by simp) 3 _ rfl
  have a4 : w1.cell? ⟨b, off + 4, none⟩ = some (.string ⟨#[77, 65, 84, 67, 72]⟩) := by simpa using hx 0 (by simp) 4 _ rfl
  have b0 : w1.cell? ⟨b, off + 20, none⟩ = some (.int .i64 0) := by simpa using hx 4 (by simp) 0 _ rfl
  have b1 : w1.cell? ⟨b, off + 20 + 1, none⟩ = some (.int .i64 9) := by simpa using hx 4 (by simp) 1 _ rfl
  have b2 : w1.cell? ⟨b, off + 20 + 2, none⟩ = some (.int .i64 0) := by simpa using hx 4 (by simp) 2 _ rfl
  have b3 : w1.cell? ⟨b, off + 20 + 3, none⟩ = some (.int .i64 0) := by simpa using hx 4 (by simp) 3 _ rfl
  have b4 : w1.cell? ⟨b, off + 20 + 4, none⟩ = some (.string ⟨#[]⟩) := by simpa using hx 4 (by simp) 4 _ rfl
  clear hx hr hl hc hm
  have hM1 := hM.below hb (Nat.le_refl _)
  go_wp2_with fail
  refine (reserved12 ⟨#[78, 117, 108, 108]⟩ _ hM1 (by decide)).mono ?_
  rintro e w2 ⟨rfl, hb2⟩
  rw [HY.out]
  have hM2 := hM1.below hb2 (Nat.le_refl _)
  go_wp2_with fail
  refine (reserved12 ⟨#[110, 117, 108]⟩ _ hM2 (by decide)).mono ?_
  rintro e w3 ⟨rfl, hb3⟩
  rw [HN.out]
  go_wp2_with fail
  go_ret
  exact ⟨rfl, Below.step (Below.step hb hb2 (Nat.le_refl _)) hb3 (Nat.le_refl _)⟩

end Go.Proofs.Ytogepfcmmmokdaa
