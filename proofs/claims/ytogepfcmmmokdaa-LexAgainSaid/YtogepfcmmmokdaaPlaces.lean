/-
  Plain: where the tokens lie.
-/
import Derived.Test.YtogepfcmmmokdaaTokens
namespace Go.Proofs.Ytogepfcmmmokdaa
open Go.RowKit

def Places (s : ByteArray) : Nat → List Tok → Prop
  | to, [] => to = s.size
  | to, t :: r => ∃ a z : Nat, t.at_ = a ∧ t.size = z ∧ to ≤ a ∧ a + z ≤ s.size ∧ (∀ j, to ≤ j → j < a → spaceB (bt s j) = true) ∧ (t.kind = 0 ↔ r = []) ∧ (z = 0 ↔ r = []) ∧ Places s (a + z) r

theorem textGo_tok (s : ByteArray) (k : Nat) : ∀ (n j : Nat) (acc : List UInt8) (t : Tok) (en : Nat), s.size - j ≤ n → textGo s k j acc = .ok t en → t.at_ = k ∧ t.size = (en : Int) - k ∧ t.kind ≠ 0
  | 0, j, acc, t, en, hn, h => by
    rw [textGo, if_neg (by omega)] at h
    cases h
  | n + 1, j, acc, t, en, hn, h => by
    rw [textGo] at h
    by_cases hlt : j < s.size
    · rw [if_pos hlt] at h
      by_cases h1 : bt s j = 39 ∧ j + 1 < s.size ∧ bt s (j + 1) = 39
      · rw [if_pos h1] at h
        exact textGo_tok s k n (j + 2) _ t en (by omega) h
      · rw [if_neg h1] at h
        by_cases h2 : bt s j = 39
        · rw [if_pos h2] at h
          split at h
          · cases h
          · injection h with ht h
            subst ht h
            exact ⟨rfl, by simp, by simp⟩
        · rw [if_neg h2] at h
          split at h
          · cases h
          · exact textGo_tok s k n (j + 1) _ t en (by omega) h
    · rw [if_neg hlt] at h
      cases h

theorem textGo_err (s : ByteArray) (k : Nat) (hk : k ≤ s.size) : ∀ (n j : Nat) (acc : List UInt8) (a c : Int), s.size - j ≤ n → textGo s k j acc = .err a c → 0 ≤ a ∧ a ≤ s.size ∧ c ≠ 0
  | 0, j, acc, a, c, hn, h => by
    rw [textGo, if_neg (by omega)] at h
    injection h with h1 h2
    subst h1 h2
    exact ⟨by omega, by omega, by omega⟩
  | n + 1, j, acc, a, c, hn, h => by
    rw [textGo] at h
    by_cases hlt : j < s.size
    · rw [if_pos hlt] at h
      by_cases h1 : bt s j = 39 ∧ j + 1 < s.size ∧ bt s (j + 1) = 39
      · rw [if_pos h1] at h
        exact textGo_err s k hk n (j + 2) _ a c (by omega) h
      · rw [if_neg h1] at h
        by_cases h2 : bt s j = 39
        · rw [if_pos h2] at h
          split at h
          · injection h with h1 h2
            subst h1 h2
            exact ⟨by omega, by omega, by omega⟩
          · cases h
        · rw [if_neg h2] at h
          split at h
          · injection h with h1 h2
            subst h1 h2
            exact ⟨by omega, by omega, by omega⟩
          · exact textGo_err s k hk n (j + 1) _ a c (by omega) h
    · rw [if_neg hlt] at h
      injection h with h1 h2
      subst h1 h2
      exact ⟨by omega, by omega, by omega⟩

theorem stepR_tok {s : ByteArray} {k : Nat} {t : Tok} {en : Nat} (h : stepR s k = .ok t en) : t.at_ = k ∧ t.size = (en : Int) - k ∧ t.kind ≠ 0 := by
  unfold stepR at h
  split at h
  · simp only [wordR] at h
    split at h
    · injection h with ht h; subst ht h; exact ⟨rfl, rfl, by simp⟩
    · split at h
      · cases h
      · injection h with ht h; subst ht h; exact ⟨rfl, rfl, by simp⟩
  · split at h
    · simp only [numR] at h
      split at h
      · cases h
      · split at h
        · cases h
        · split at h
          · cases h
          · injection h with ht h
            subst ht h
            exact ⟨rfl, by simp, by simp⟩
    · split at h
      · exact textGo_tok s k _ (k + 1) [] t en (Nat.le_refl _) h
      · simp only [signR] at h
        split at h
        · injection h with ht h; subst ht h; exact ⟨rfl, by simp; omega, by simp⟩
        · split at h
          · injection h with ht h; subst ht h; exact ⟨rfl, by simp; omega, by simp⟩
          · cases h

theorem stepR_err {s : ByteArray} {k : Nat} {a c : Int} (hk : k < s.size) (h : stepR s k = .err a c) : 0 ≤ a ∧ a ≤ s.size ∧ c ≠ 0 := by
  unfold stepR at h
  split at h
  · simp only [wordR] at h
    split at h
    · cases h
    · split at h
      · injection h with h1 h2; subst h1 h2; exact ⟨by omega, by omega, by omega⟩
      · cases h
  · split at h
    · have hl := runP_le digitB s _ k (Nat.le_refl _) (by omega)
      simp only [numR] at h
      split at h
      · injection h with h1 h2; subst h1 h2; exact ⟨by omega, by omega, by omega⟩
      · split at h
        · injection h with h1 h2; subst h1 h2; exact ⟨by omega, by omega, by omega⟩
        · split at h
          · injection h with h1 h2; subst h1 h2; exact ⟨by omega, by omega, by omega⟩
          · cases h
    · split at h
      · exact textGo_err s k (by omega) _ (k + 1) [] a c (Nat.le_refl _) h
      · simp only [signR] at h
        split at h
        · cases h
        · split at h
          · cases h
          · injection h with h1 h2; subst h1 h2; exact ⟨by omega, by omega, by omega⟩

def Fine (s : ByteArray) : Out → Prop
  | .done us => Places s 0 us ∧ us ≠ []
  | .fault a c => 0 ≤ a ∧ a ≤ s.size ∧ c ≠ 0

theorem lexGo_fine (s : ByteArray) : ∀ (f k : Nat) (ts : List Tok), k ≤ s.size → s.size - k < f → (∀ r, r ≠ [] → Places s k r → Places s 0 (ts ++ r)) → Fine s (lexGo s f k ts)
  | 0, k, ts, hk, hf, hp => by omega
  | f + 1, k, ts, hk, hf, hp => by
    rw [lexGo]
    have hge := runP_ge spaceB s _ k (Nat.le_refl _)
    have hle := runP_le spaceB s _ k (Nat.le_refl _) hk
    have hall := runP_all spaceB s _ k (Nat.le_refl _)
    by_cases he : runP spaceB s k = s.size
    · rw [if_pos he]
      rw [he] at hall
      exact ⟨hp _ (by simp) ⟨s.size, 0, rfl, rfl, hk, Nat.le_refl _, hall, by simp [endTok], by simp, rfl⟩, by simp⟩
    · rw [if_neg he]
      have hk1 : runP spaceB s k < s.size := by omega
      generalize runP spaceB s k = k1 at *
      cases hr : stepR s k1 with
      | ok t en =>
        have h1 := stepR_ok hk1 hr
        have h2 := stepR_tok hr
        refine lexGo_fine s f en (ts ++ [t]) h1.2 (by omega) fun r hr0 hr1 => ?_
        rw [List.append_assoc]
        refine hp _ (by simp) ⟨k1, en - k1, h2.1, by rw [h2.2.1]; omega, hge, by omega, hall, ?_, ?_, ?_⟩
        · exact ⟨fun h => absurd h h2.2.2, fun h => absurd h hr0⟩
        · exact ⟨fun h => by omega, fun h => absurd h hr0⟩
        · rw [show k1 + (en - k1) = en by omega]
          exact hr1
      | err a c => exact stepR_err hk1 hr

theorem tokens_fine {s : ByteArray} (hs : s.size ≤ 2000) : Fine s (tokens s) := by
  rw [tokens, if_neg (by omega)]
  exact lexGo_fine s _ 0 [] (Nat.zero_le _) (by omega) fun r _ h => h

end Go.Proofs.Ytogepfcmmmokdaa
