/-
  The walk of the reference's Same, at equal lists.
-/
import Derived.Test.YtogepfcmmmokdaaTokens
namespace Go.Proofs.Ytogepfcmmmokdaa
open Go.RowKit

set_option maxRecDepth 100000 in
set_option maxHeartbeats 2000000 in
theorem same11 (v u : Value) (ts : List Tok) (w : World) (h : ToksAt w v ts) (h' : ToksAt w u ts) :
    Calls Try.prog 11 #[v, u] w fun e w' => e = .returned (.bool true) ∧ Drew w w' := by
  obtain ⟨A, n, c, rfl, hl, hc, hm, hr⟩ := h
  obtain ⟨A', n', c', rfl, hl', hc', hm', hr'⟩ := h'
  obtain rfl : n = n' := by omega
  have HL := Lib.hid hl; clear hl hl'
  have HR := Lib.hid hr; clear hr
  have HR' := Lib.hid hr'; clear hr'
  have hm : n ≤ 9223372036854775807 := by unfold maxLen at hm; omega
  clear hc hc' hm'
  go_enter Try.func11, Try.ntmps11
  go_wp2
  go_loopw [5] (fun s wr => ∃ m k : Nat, s = .int .i64 k ∧ wr = w.drewN m ∧ k ≤ n) (fun s _ => n - (intOf s).toNat)
  case atStart => exact ⟨0, 0, rfl, rfl, Nat.zero_le _⟩
  case round =>
    obtain ⟨m, k, rfl, rfl, hk⟩ := hrel
    by_cases hlt : k < n
    · have hz : k < ts.length := by rw [HL.out]; exact hlt
      obtain ⟨b, off, rfl, hx⟩ := HR.out (by omega)
      have hx := hx k hz
      obtain ⟨b', off', rfl, hx'⟩ := HR'.out (by omega)
      have hx' := hx' k hz
      generalize ts[k] = t at *
      obtain ⟨tk, ta, tz, tn, tS⟩ := t
      have x0 := hx 0 (.int .i64 tk) rfl
      have x1 := hx 1 (.int .i64 ta) rfl
      have x2 := hx 2 (.int .i64 tz) rfl
      have x3 := hx 3 (.int .i64 tn) rfl
      have x4 := hx 4 (.string tS) rfl
      have y0 := hx' 0 (.int .i64 tk) rfl
      have y1 := hx' 1 (.int .i64 ta) rfl
      have y2 := hx' 2 (.int .i64 tz) rfl
      have y3 := hx' 3 (.int .i64 tn) rfl
      have y4 := hx' 4 (.string tS) rfl
      simp only [Nat.add_zero] at x0 y0
      clear hx hx'
      have hlt' : (k : Int) < (n : Int) := by omega
      go_wp2_with fail
      go_quiet (fail)
      go_wp2
      go_roundw
      case rel => exact ⟨_, k + 1, by go_num, rfl, by omega⟩
      case measure => simp [intOf]; omega
    · have hlt' : ¬ (k : Int) < (n : Int) := by omega
      go_wp2
      go_ret
      exact ⟨rfl, ⟨m, rfl⟩⟩

end Go.Proofs.Ytogepfcmmmokdaa
