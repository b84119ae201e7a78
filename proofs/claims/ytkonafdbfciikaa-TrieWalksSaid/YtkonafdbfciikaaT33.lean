/-
  layer 14: the trie of sorted rows is valid, and its rows are the rows.
-/
import Derived.Test.YtkonafdbfciikaaT32
namespace Go.Proofs.Ytkonafdbfciikaa
open Go.RowKit
set_option linter.unusedSimpArgs false
set_option linter.unusedVariables false
set_option maxRecDepth 100000

def Kn (rows : List (List Int)) (k m : Nat) : Nat := (keysF rows k m).length
section
variable {rows : List (List Int)}
theorem ix_app_l {l r : List Int} {i : Nat} (h : i < l.length) : ix (l ++ r) i = ix l i := by
  unfold ix
  simp only [List.getD_eq_getElem?_getD]
  rw [List.getElem?_append_left h]
theorem ix_app_r (l : List Int) (x : Int) : ix (l ++ [x]) l.length = x := by
  unfold ix
  simp
theorem ix_take (l : List Int) {i n : Nat} (h : i < n) : ix (l.take n) i = ix l i := by
  unfold ix
  simp only [List.getD_eq_getElem?_getD]
  rw [List.getElem?_take, if_pos h]
theorem fresh_zero (k : Nat) : freshB rows 0 k = true := by simp [freshB]
theorem fresh_no {i k : Nat} (h : freshB rows i k = false) : i ≠ 0 ∧ (ix rows i).take k = (ix rows (i - 1)).take k := by
  unfold freshB at h
  simp at h
  exact h
theorem fresh_yes {i k : Nat} (h : freshB rows i k = true) (h0 : i ≠ 0) : (ix rows i).take k ≠ (ix rows (i - 1)).take k := by
  unfold freshB at h
  simp [h0] at h
  exact h
theorem fresh_up {i k : Nat} (h : freshB rows i k = true) : freshB rows i (k + 1) = true := by
  cases h2 : freshB rows i (k + 1) with
  | true => rfl
  | false =>
    obtain ⟨h3, h4⟩ := fresh_no h2
    refine absurd ?_ (fresh_yes h h3)
    have := congrArg (List.take k) h4
    rwa [List.take_take, List.take_take, Nat.min_eq_left (by omega)] at this
theorem Kn_zero (k : Nat) : Kn rows k 0 = 0 := rfl
theorem Kn_fresh {k m : Nat} (h : freshB rows m (k + 1) = true) : Kn rows k (m + 1) = Kn rows k m + 1 := by
  unfold Kn
  rw [keysF, if_pos h, List.length_append]; rfl
theorem Kn_not {k m : Nat} (h : freshB rows m (k + 1) = false) : Kn rows k (m + 1) = Kn rows k m := by
  unfold Kn
  rw [keysF, if_neg (by rw [h]; decide)]
theorem Kn_step (k m : Nat) : Kn rows k m ≤ Kn rows k (m + 1) := by
  cases h : freshB rows m (k + 1) with
  | true => rw [Kn_fresh h]; omega
  | false => rw [Kn_not h]; omega
theorem Kn_mono {k i j : Nat} (h : i ≤ j) : Kn rows k i ≤ Kn rows k j := by
  induction j with
  | zero => rw [Nat.le_zero.1 h]; exact Nat.le_refl _
  | succ j ih =>
    rcases Nat.lt_or_eq_of_le h with h1 | h1
    · exact Nat.le_trans (ih (by omega)) (Kn_step k j)
    · rw [h1]; exact Nat.le_refl _
theorem keys_same {k j m : Nat} (hj : j < Kn rows k m) : ∀ d, ix (keysF rows k (m + d)) j = ix (keysF rows k m) j
  | 0 => rfl
  | d + 1 => by
    have ih := keys_same hj d
    have hm := Kn_mono (rows := rows) (k := k) (show m ≤ m + d by omega)
    unfold Kn at hj hm
    rw [← Nat.add_assoc, keysF]
    split
    · rw [ix_app_l (by omega), ih]
    · exact ih
theorem keys_pos (k i : Nat) : 0 < Kn rows k (i + 1) := by
  have h1 := Kn_fresh (fresh_zero (rows := rows) (k + 1))
  have h2 := Kn_mono (rows := rows) (k := k) (show 1 ≤ i + 1 by omega)
  rw [Nat.zero_add] at h1
  omega
theorem key_last (k : Nat) : ∀ i, ix (keysF rows k (i + 1)) (Kn rows k (i + 1) - 1) = ix (ix rows i) k
  | 0 => by
    rw [Kn_fresh (fresh_zero _), Kn_zero, keysF, if_pos (fresh_zero _)]
    rfl
  | i + 1 => by
    have ih := key_last k i
    cases h : freshB rows (i + 1) (k + 1) with
    | true =>
      rw [Kn_fresh h, keysF, if_pos h, Nat.add_sub_cancel]
      exact ix_app_r _ _
    | false =>
      rw [Kn_not h, keysF, if_neg (by rw [h]; decide), ih]
      obtain ⟨_, h2⟩ := fresh_no h
      rw [Nat.add_sub_cancel] at h2
      rw [← ix_take (ix rows i) (Nat.lt_succ_self k), ← h2, ix_take _ (Nat.lt_succ_self k)]
theorem key_at {k i N : Nat} (h : i < N) : ix (keysF rows k N) (Kn rows k (i + 1) - 1) = ix (ix rows i) k := by
  have := keys_pos (rows := rows) k i
  rw [← key_last k i, ← keys_same (m := i + 1) (by omega) (N - (i + 1)), show i + 1 + (N - (i + 1)) = N by omega]
theorem key_start {k : Nat} : ∀ {N c : Nat}, c < Kn rows k N → ∃ s, s < N ∧ freshB rows s (k + 1) = true ∧ Kn rows k s = c
  | 0, c, h => by rw [Kn_zero] at h; omega
  | N + 1, c, h => by
    cases hf : freshB rows N (k + 1) with
    | true =>
      rw [Kn_fresh hf] at h
      by_cases e : c = Kn rows k N
      · exact ⟨N, Nat.lt_succ_self N, hf, e.symm⟩
      · obtain ⟨s, h1, h2, h3⟩ := key_start (k := k) (N := N) (c := c) (by omega)
        exact ⟨s, by omega, h2, h3⟩
    | false =>
      rw [Kn_not hf] at h
      obtain ⟨s, h1, h2, h3⟩ := key_start h
      exact ⟨s, by omega, h2, h3⟩
theorem key_cut {k N c : Nat} (h : c ≤ Kn rows k N) : ∃ s, s ≤ N ∧ (s = N ∨ freshB rows s (k + 1) = true) ∧ Kn rows k s = c := by
  rcases Nat.lt_or_eq_of_le h with h | h
  · obtain ⟨s, h1, h2, h3⟩ := key_start h
    exact ⟨s, by omega, .inr h2, h3⟩
  · exact ⟨N, Nat.le_refl N, .inl rfl, h.symm⟩
theorem marks_len (k : Nat) : ∀ m, (marksF rows (k + 1) (m + 1)).length = Kn rows k (m + 1)
  | 0 => by
    rw [Kn_fresh (fresh_zero _), Kn_zero, marksF, if_neg (by simp)]
    rfl
  | m + 1 => by
    have ih := marks_len k m
    rw [marksF]
    cases h : freshB rows (m + 1) (k + 1) with
    | true => rw [if_pos ⟨by omega, rfl⟩, List.length_append, ih, Kn_fresh h]; rfl
    | false => rw [if_neg (by simp), ih, Kn_not h]
theorem marks_val {k : Nat} : ∀ {m s : Nat}, s < m → freshB rows s (k + 1) = true → ix (marksF rows (k + 1) m) (Kn rows k s) = (Kn rows (k + 1) s : Int)
  | 0, s, h, _ => absurd h (Nat.not_lt_zero s)
  | m + 1, s, h, hf => by
    rcases Nat.lt_or_eq_of_le (Nat.le_of_lt_succ h) with h1 | h1
    · have ih := marks_val h1 hf
      rw [marksF]
      split
      · rw [ix_app_l, ih]
        have e := marks_len (rows := rows) k (m - 1)
        rw [show m - 1 + 1 = m by omega] at e
        rw [e]
        have := Kn_mono (rows := rows) (k := k) (show s + 1 ≤ m by omega)
        rw [Kn_fresh hf] at this
        omega
      · exact ih
    · subst h1
      rw [marksF]
      by_cases h0 : s = 0
      · subst h0
        rw [if_neg (by simp)]
        rfl
      · rw [if_pos ⟨h0, hf⟩]
        have e := marks_len (rows := rows) k (s - 1)
        rw [show s - 1 + 1 = s by omega] at e
        rw [← e]
        exact ix_app_r _ _
theorem first_val {k s : Nat} (h : s ≤ rows.length) (hs : s = rows.length ∨ freshB rows s (k + 1) = true) : ix (levelF rows (k + 1)).first (Kn rows k s) = (Kn rows (k + 1) s : Int) := by
  unfold levelF
  simp only
  by_cases h0 : rows.length = 0
  · rw [if_neg (by omega)]
    have : s = 0 := by omega
    subst this
    rfl
  · rw [if_pos (by omega)]
    have e := marks_len (rows := rows) k (rows.length - 1)
    rw [show rows.length - 1 + 1 = rows.length by omega] at e
    rcases Nat.lt_or_eq_of_le h with h1 | h1
    · have hf := hs.resolve_left (by omega)
      rw [ix_app_l, marks_val h1 hf]
      rw [e]
      have := Kn_mono (rows := rows) (k := k) (show s + 1 ≤ rows.length by omega)
      rw [Kn_fresh hf] at this
      omega
    · rw [h1, ← e]
      exact ix_app_r _ _
theorem first_len (k : Nat) : (levelF rows (k + 1)).first.length = Kn rows k rows.length + 1 := by
  unfold levelF
  simp only
  by_cases h0 : rows.length = 0
  · rw [if_neg (by omega), h0]
    rfl
  · rw [if_pos (by omega), List.length_append]
    have e := marks_len (rows := rows) k (rows.length - 1)
    rw [show rows.length - 1 + 1 = rows.length by omega] at e
    rw [e]
    rfl
theorem first_zero : (levelF rows 0).first = [0, (Kn rows 0 rows.length : Int)] := by
  unfold levelF
  simp only
  rw [if_pos (by simp), marksF_zero]
  rfl
end
end Go.Proofs.Ytkonafdbfciikaa
