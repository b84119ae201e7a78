/-
  The walks of the functions that only read: Valid (both), the reference's Has and Same, small.
-/
import Derived.Test.YtfiilodghimajaaChecked
import Derived.Test.YtfiilodghimajaaKit
import Derived.Test.YtfiilodghimajaaPlain
namespace Go.Proofs.Ytfiilodghimajaa
open Go.RowKit

set_option maxHeartbeats 400000 in
theorem valid17 (v : Value) (zs : List Int) (w : World) (h : IntsAt w v zs) :
    Calls Try.prog 17 #[v] w fun e w' => e = .returned (.bool (Plain.valid zs)) ∧ Drew w w' := by
  obtain ⟨A, n, c, rfl, hl, hc, hm, hr⟩ := h
  have HL := Lib.hid hl; clear hl
  have HR := Lib.hid hr; clear hr
  have hm : n ≤ 9223372036854775807 := by unfold maxLen at hm; omega
  go_enter Try.func17, Try.ntmps17
  go_wp2
  go_loopw [3] (fun s wr => ∃ m k : Nat, s = .int .i64 (k + 1) ∧ wr = w.drewN m ∧ (k + 1 ≤ n ∨ k = 0) ∧ ∀ i (h : i + 1 < zs.length), i < k → zs[i] < zs[i + 1]) (fun s _ => n - (intOf s).toNat)
  case atStart => exact ⟨0, 0, rfl, rfl, .inr rfl, fun i _ h => absurd h (by omega)⟩
  case round =>
    obtain ⟨m, k, rfl, rfl, hk, hs⟩ := hrel
    have HS := Lib.hid hs; clear hs
    have HK := Lib.hid hk; clear hk
    by_cases hlt : k + 1 < n
    · obtain ⟨b, off, rfl, hx⟩ := HR.out (by omega)
      have hxk := hx k (by omega)
      have hxk1 := hx (k + 1) hlt
      clear hx
      have hz : k + 1 < zs.length := by rw [HL.out]; exact hlt
      have HE := Lib.hid (el_lt (zs := zs) (i := k) (by omega))
      have HE1 := Lib.hid (el_lt hz)
      have hlt' : ((k : Int) + 1) < (n : Int) := by omega
      by_cases hq : el zs (k + 1) ≤ el zs k
      · go_wp2_with fail
        go_quiet (fail)
        go_wp2
        go_ret
        exact ⟨ret_bool (Plain.valid_false hz (by rw [← HE.out, ← HE1.out]; exact hq)).symm, Drew.two _ _ _⟩
      · go_wp2_with fail
        go_quiet (fail)
        go_wp2
        go_roundw
        case rel => exact ⟨_, k + 1, by go_num, rfl, .inl (by omega), fun i h hi => by
          by_cases e : i = k
          · subst e; rw [← HE.out, ← HE1.out]; omega
          · exact HS.out i h (by omega)⟩
        case measure => simp [intOf]; omega
    · go_wp2
      go_ret
      exact ⟨ret_bool (Plain.valid_true fun i h => HS.out i h (by have := HL.out; omega)).symm, _, rfl⟩
set_option maxHeartbeats 400000 in
theorem valid18 (v : Value) (zs : List Int) (w : World) (h : IntsAt w v zs) :
    Calls Try.prog 18 #[v] w fun e w' => e = .returned (.bool (Plain.valid zs)) ∧ Drew w w' := by
  obtain ⟨A, n, c, rfl, hl, hc, hm, hr⟩ := h
  have HL := Lib.hid hl; clear hl
  have HR := Lib.hid hr; clear hr
  have hm : n ≤ 9223372036854775807 := by unfold maxLen at hm; omega
  go_enter Try.func18, Try.ntmps18
  go_wp2
  go_loopw [3] (fun s wr => ∃ m k : Nat, s = .int .i64 (k + 1) ∧ wr = w.drewN m ∧ (k + 1 ≤ n ∨ k = 0) ∧ ∀ i (h : i + 1 < zs.length), i < k → zs[i] < zs[i + 1]) (fun s _ => n - (intOf s).toNat)
  case atStart => exact ⟨0, 0, rfl, rfl, .inr rfl, fun i _ h => absurd h (by omega)⟩
  case round =>
    obtain ⟨m, k, rfl, rfl, hk, hs⟩ := hrel
    have HS := Lib.hid hs; clear hs
    have HK := Lib.hid hk; clear hk
    by_cases hlt : k + 1 < n
    · obtain ⟨b, off, rfl, hx⟩ := HR.out (by omega)
      have hxk := hx k (by omega)
      have hxk1 := hx (k + 1) hlt
      clear hx
      have hz : k + 1 < zs.length := by rw [HL.out]; exact hlt
      have HE := Lib.hid (el_lt (zs := zs) (i := k) (by omega))
      have HE1 := Lib.hid (el_lt hz)
      have hlt' : ((k : Int) + 1) < (n : Int) := by omega
      by_cases hq : el zs (k + 1) ≤ el zs k
      · go_wp2_with fail
        go_quiet (fail)
        go_wp2
        go_ret
        exact ⟨ret_bool (Plain.valid_false hz (by rw [← HE.out, ← HE1.out]; exact hq)).symm, Drew.two _ _ _⟩
      · go_wp2_with fail
        go_quiet (fail)
        go_wp2
        go_roundw
        case rel => exact ⟨_, k + 1, by go_num, rfl, .inl (by omega), fun i h hi => by
          by_cases e : i = k
          · subst e; rw [← HE.out, ← HE1.out]; omega
          · exact HS.out i h (by omega)⟩
        case measure => simp [intOf]; omega
    · go_wp2
      go_ret
      exact ⟨ret_bool (Plain.valid_true fun i h => HS.out i h (by have := HL.out; omega)).symm, _, rfl⟩

set_option maxHeartbeats 400000 in
theorem has20 (v : Value) (zs : List Int) (x : Int) (w : World) (h : IntsAt w v zs) :
    Calls Try.prog 20 #[v, .int .i64 x] w fun e w' => e = .returned (.bool (decide (x ∈ zs))) ∧ w = w' := by
  obtain ⟨A, n, c, rfl, hl, hc, hm, hr⟩ := h
  have HL := Lib.hid hl; clear hl
  have HR := Lib.hid hr; clear hr
  have hm : n ≤ 9223372036854775807 := by unfold maxLen at hm; omega
  go_enter Try.func20, Try.ntmps20
  go_wp2
  go_loop [5] (fun s => ∃ k : Nat, s = .int .i64 k ∧ k ≤ n ∧ ∀ i (h : i < zs.length), i < k → zs[i] ≠ x) (fun s => n - (intOf s).toNat)
  case atStart => exact ⟨0, rfl, Nat.zero_le _, fun i _ h => absurd h (by omega)⟩
  case round =>
    obtain ⟨k, rfl, hk, hs⟩ := hrel
    have HS := Lib.hid hs; clear hs
    by_cases hlt : k < n
    · obtain ⟨b, off, rfl, hx⟩ := HR.out (by omega)
      have hxk := hx k hlt
      clear hx
      have hz : k < zs.length := by rw [HL.out]; exact hlt
      have HE := Lib.hid (el_lt hz)
      by_cases hq : (el zs k == x) = true
      · go_wp2
        go_ret
        exact ⟨ret_bool (decide_eq_true (by rw [← beq_iff_eq.1 hq, HE.out]; exact List.getElem_mem _)).symm, rfl⟩
      · have hq : (el zs k == x) = false := by simpa using hq
        go_wp2
        go_round
        case rel => exact ⟨k + 1, by go_num, by omega, fun i h hi => by
          by_cases e : i = k
          · subst e; rw [← HE.out]; simpa using hq
          · exact HS.out i h (by omega)⟩
        case measure => simp [intOf]; omega
    · go_wp2
      go_ret
      exact ⟨ret_bool (decide_eq_false fun hx => by
        obtain ⟨i, hi, e⟩ := List.getElem_of_mem hx
        exact HS.out i hi (by have := HL.out; omega) e).symm, rfl⟩

set_option maxHeartbeats 400000 in
theorem same14 (v u : Value) (zs ys : List Int) (w : World) (h : IntsAt w v zs) (h' : IntsAt w u ys) :
    Calls Try.prog 14 #[v, u] w fun e w' => e = .returned (.bool (decide (zs = ys))) ∧ Drew w w' := by
  obtain ⟨A, n, c, rfl, hl, hc, hm, hr⟩ := h
  obtain ⟨A', n', c', rfl, hl', hc', hm', hr'⟩ := h'
  have HL := Lib.hid hl; clear hl
  have HR := Lib.hid hr; clear hr
  have HL' := Lib.hid hl'; clear hl'
  have HR' := Lib.hid hr'; clear hr'
  have hm : n ≤ 9223372036854775807 := by unfold maxLen at hm; omega
  clear hc hc' hm'
  by_cases hn : n = n'
  · subst hn
    go_enter Try.func14, Try.ntmps14
    go_wp2
    go_loopw [5] (fun s wr => ∃ m k : Nat, s = .int .i64 k ∧ wr = w.drewN m ∧ k ≤ n ∧ ∀ i (h : i < zs.length) (h' : i < ys.length), i < k → zs[i] = ys[i]) (fun s _ => n - (intOf s).toNat)
    case atStart => exact ⟨0, 0, rfl, rfl, Nat.zero_le _, fun i _ _ h => absurd h (by omega)⟩
    case round =>
      obtain ⟨m, k, rfl, rfl, hk, hs⟩ := hrel
      have HS := Lib.hid hs; clear hs
      by_cases hlt : k < n
      · obtain ⟨b, off, rfl, hx⟩ := HR.out (by omega)
        have hxk := hx k hlt
        clear hx
        obtain ⟨b', off', rfl, hx'⟩ := HR'.out (by omega)
        have hxk' := hx' k hlt
        clear hx'
        have hz : k < zs.length := by rw [HL.out]; exact hlt
        have hy : k < ys.length := by rw [HL'.out]; exact hlt
        have HE := Lib.hid (el_lt hz)
        have HE1 := Lib.hid (el_lt hy)
        have hlt' : (k : Int) < (n : Int) := by omega
        by_cases hq : (el zs k == el ys k) = true
        · have hq' : (el zs k != el ys k) = false := by simpa using hq
          go_wp2_with fail
          go_quiet (fail)
          go_wp2
          go_roundw
          case rel => exact ⟨_, k + 1, by go_num, rfl, by omega, fun i h h' hi => by
            by_cases e : i = k
            · subst e; rw [← HE.out, ← HE1.out]; exact beq_iff_eq.1 hq
            · exact HS.out i h h' (by omega)⟩
          case measure => simp [intOf]; omega
        · have hq : (el zs k == el ys k) = false := by simpa using hq
          have hq' : (el zs k != el ys k) = true := by simpa using hq
          go_wp2_with fail
          go_quiet (fail)
          go_wp2
          go_ret
          exact ⟨ret_bool (decide_eq_false fun e => by
            have h1 := HE.out
            have h2 := HE1.out
            subst e
            simp at hq).symm, Drew.two _ _ _⟩
      · go_wp2
        go_ret
        exact ⟨ret_bool (decide_eq_true (List.ext_getElem (by rw [HL.out, HL'.out]) fun i h h' => HS.out i h h' (by have := HL.out; omega))).symm, _, rfl⟩
  · have hb : ((n : Int) != (n' : Int)) = true := by simpa using (by omega : ¬ (n : Int) = n')
    go_enter Try.func14, Try.ntmps14
    go_wp2
    go_ret
    exact ⟨ret_bool (decide_eq_false fun e => hn (by rw [← HL.out, ← HL'.out, e])).symm, Drew.refl _⟩

end Go.Proofs.Ytfiilodghimajaa
