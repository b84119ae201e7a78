/-
  The walks of Seek, the program's and the reference's: both return the plain function 'seek'.
-/
import Derived.Test.YtfiilodghimajaaChecked
import Derived.Test.YtfiilodghimajaaKit
import Derived.Test.YtfiilodghimajaaPlain
namespace Go.Proofs.Ytfiilodghimajaa
open Go.RowKit

set_option maxHeartbeats 400000 in
theorem seek11 (v : Value) (zs : List Int) (i x : Int) (w : World) (h : IntsAt w v zs) :
    Calls Try.prog 11 #[v, .int .i64 i, .int .i64 x] w fun e w' => e = .returned (.int .i64 (Plain.seek zs i.toNat x)) ∧ w = w' := by
  obtain ⟨A, n, c, rfl, hl, hc, hm, hr⟩ := h
  have HL := Lib.hid hl; clear hl
  have HR := Lib.hid hr; clear hr
  have hm : n ≤ 9223372036854775807 := by unfold maxLen at hm; omega
  by_cases hi : 0 ≤ i
  all_goals
    go_enter Try.func11, Try.ntmps11
    go_wp2
    go_loop [7] (fun s => ∃ k : Nat, (k ≤ n ∨ k = i.toNat) ∧ s = .int .i64 k ∧ Plain.seek zs k x = Plain.seek zs i.toNat x) (fun s => n - (intOf s).toNat)
    case atStart => exact ⟨i.toNat, .inr rfl, by go_num, rfl⟩
    case round =>
      obtain ⟨k, hk, rfl, hs⟩ := hrel
      have HS := Lib.hid hs; clear hs
      have HK := Lib.hid hk; clear hk
      by_cases hlt : k < n
      · obtain ⟨b, off, rfl, hx⟩ := HR.out (by omega)
        have hxk := hx k hlt
        clear hx
        have hz : k < zs.length := by rw [HL.out]; exact hlt
        have he := el_lt hz
        by_cases hq : x ≤ el zs k
        · have HE := Lib.hid he; clear he
          go_wp2
          go_ret
          exact ⟨ret_int (by rw [← HS.out, Plain.seek_hit hz (by rw [← HE.out]; exact hq)]), rfl⟩
        · have HE := Lib.hid he; clear he
          go_wp2
          go_round
          case rel => exact ⟨k + 1, .inl (by omega), by go_num, by rw [← HS.out, Plain.seek_miss hz (by rw [← HE.out]; exact hq)]⟩
          case measure => simp [intOf]; omega
      · go_wp2
        go_ret
        exact ⟨ret_int (by rw [← HS.out, Plain.seek_end (by rw [HL.out]; exact hlt), HL.out]), rfl⟩
set_option maxHeartbeats 400000 in
theorem seek12 (v : Value) (zs : List Int) (i x : Int) (w : World) (h : IntsAt w v zs) :
    Calls Try.prog 12 #[v, .int .i64 i, .int .i64 x] w fun e w' => e = .returned (.int .i64 (Plain.seek zs i.toNat x)) ∧ w = w' := by
  obtain ⟨A, n, c, rfl, hl, hc, hm, hr⟩ := h
  have HL := Lib.hid hl; clear hl
  have HR := Lib.hid hr; clear hr
  have hm : n ≤ 9223372036854775807 := by unfold maxLen at hm; omega
  by_cases hi : 0 ≤ i
  all_goals
    go_enter Try.func12, Try.ntmps12
    go_wp2
    go_loop [7] (fun s => ∃ k : Nat, (k ≤ n ∨ k = i.toNat) ∧ s = .int .i64 k ∧ Plain.seek zs k x = Plain.seek zs i.toNat x) (fun s => n - (intOf s).toNat)
    case atStart => exact ⟨i.toNat, .inr rfl, by go_num, rfl⟩
    case round =>
      obtain ⟨k, hk, rfl, hs⟩ := hrel
      have HS := Lib.hid hs; clear hs
      have HK := Lib.hid hk; clear hk
      by_cases hlt : k < n
      · obtain ⟨b, off, rfl, hx⟩ := HR.out (by omega)
        have hxk := hx k hlt
        clear hx
        have hz : k < zs.length := by rw [HL.out]; exact hlt
        have he := el_lt hz
        by_cases hq : x ≤ el zs k
        · have HE := Lib.hid he; clear he
          go_wp2
          go_ret
          exact ⟨ret_int (by rw [← HS.out, Plain.seek_hit hz (by rw [← HE.out]; exact hq)]), rfl⟩
        · have HE := Lib.hid he; clear he
          go_wp2
          go_round
          case rel => exact ⟨k + 1, .inl (by omega), by go_num, by rw [← HS.out, Plain.seek_miss hz (by rw [← HE.out]; exact hq)]⟩
          case measure => simp [intOf]; omega
      · go_wp2
        go_ret
        exact ⟨ret_int (by rw [← HS.out, Plain.seek_end (by rw [HL.out]; exact hlt), HL.out]), rfl⟩

end Go.Proofs.Ytfiilodghimajaa
