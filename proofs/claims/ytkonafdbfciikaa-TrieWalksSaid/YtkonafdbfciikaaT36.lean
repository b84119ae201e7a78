/-
  layer 14: the cursors of a depth-first walk.
-/
import Derived.Test.YtkonafdbfciikaaT35
namespace Go.Proofs.Ytkonafdbfciikaa
open Go.RowKit
set_option linter.unusedSimpArgs false
set_option linter.unusedVariables false
set_option maxRecDepth 100000

def endV (rows : List (List Int)) (i : Nat) : Nat → Int
  | 0 => (Kn rows 0 rows.length : Int)
  | j + 1 => ix (levelF rows (j + 1)).first (Kn rows j (i + 1))
def atV (rows : List (List Int)) (i j : Nat) : Int := ((Kn rows j (i + 1) - 1 : Nat) : Int)
def atL (rows : List (List Int)) (i k : Nat) : List Int := (List.range k).map (atV rows i)
def endL (rows : List (List Int)) (i k : Nat) : List Int := (List.range k).map (endV rows i)
/-- The cursor on the k keys that row i begins with. -/
def curs (rows : List (List Int)) (i k : Nat) : Cursor := ⟨atL rows i k, endL rows i k⟩
section
variable {rows : List (List Int)} {n : Nat}
@[simp] theorem atL_len (i k : Nat) : (atL rows i k).length = k := by simp [atL]
@[simp] theorem endL_len (i k : Nat) : (endL rows i k).length = k := by simp [endL]
theorem atL_succ (i k : Nat) : atL rows i (k + 1) = atL rows i k ++ [atV rows i k] := by unfold atL; rw [List.range_succ, List.map_append]; rfl
theorem endL_succ (i k : Nat) : endL rows i (k + 1) = endL rows i k ++ [endV rows i k] := by unfold endL; rw [List.range_succ, List.map_append]; rfl
theorem atL_ix {i k j : Nat} (h : j < k) : ix (atL rows i k) j = atV rows i j := by
  rw [ix_lt (by simpa using h)]; simp [atL]
theorem endL_ix {i k j : Nat} (h : j < k) : ix (endL rows i k) j = endV rows i j := by
  rw [ix_lt (by simpa using h)]; simp [endL]
theorem grp_curs (i k : Nat) : ∀ j, j ≤ k → grp (curs rows i k) j = match j with | 0 => 0 | j + 1 => Kn rows j (i + 1) - 1
  | 0, _ => rfl
  | j + 1, h => by
    unfold grp
    rw [if_neg (by omega), Nat.add_sub_cancel]
    show (ix (atL rows i k) j).toNat = _
    rw [atL_ix (by omega)]
    exact Int.toNat_natCast _
theorem sib_curs {i k j : Nat} (hj : j < n) (hk : j ≤ k) (hi : i < rows.length) : sibA ⟨levelsF rows n⟩ (curs rows i k) j ≤ atV rows i j ∧ atV rows i j < sibZ ⟨levelsF rows n⟩ (curs rows i k) j ∧ sibZ ⟨levelsF rows n⟩ (curs rows i k) j = endV rows i j ∧ (freshB rows i j = true → sibA ⟨levelsF rows n⟩ (curs rows i k) j = atV rows i j) := by
  unfold sibA sibZ
  rw [grp_curs i k j hk]
  show ix (ix (levelsF rows n) j).first _ ≤ _ ∧ _ < ix (ix (levelsF rows n) j).first _ ∧ ix (ix (levelsF rows n) j).first _ = _ ∧ (_ → ix (ix (levelsF rows n) j).first _ = _)
  rw [ix_levels hj]
  have hp := keys_pos (rows := rows) j i
  have hm := Kn_mono (rows := rows) (k := j) (show i + 1 ≤ rows.length by omega)
  cases j with
  | zero =>
    rw [first_zero]
    have e0 : ix [0, (Kn rows 0 rows.length : Int)] 0 = 0 := rfl
    have e1 : ix [0, (Kn rows 0 rows.length : Int)] (0 + 1) = (Kn rows 0 rows.length : Int) := rfl
    simp only [e0, e1]
    unfold atV
    refine ⟨by omega, by omega, rfl, fun hf => ?_⟩
    have hi0 : i = 0 := by
      by_cases h : i = 0
      · exact h
      · simp [freshB, h] at hf
    subst hi0
    rw [Kn_fresh (fresh_zero _), Kn_zero]
    rfl
  | succ j =>
    have hp2 := keys_pos (rows := rows) j i
    have hm2 := Kn_mono (rows := rows) (k := j) (show i + 1 ≤ rows.length by omega)
    simp only
    obtain ⟨s, g1, g2, g3⟩ := key_start (rows := rows) (k := j) (N := rows.length) (c := Kn rows j (i + 1) - 1) (by omega)
    obtain ⟨s', q1, q2, q3⟩ := key_cut (rows := rows) (k := j) (N := rows.length) (c := Kn rows j (i + 1)) hm2
    have v1 := first_val (k := j) (s := s) (by omega) (.inr g2)
    have v2 := first_val (k := j) (s := s') q1 q2
    rw [g3] at v1
    rw [q3] at v2
    have hsi : s < i + 1 := by
      rcases Nat.lt_or_ge s (i + 1) with h | h
      · exact h
      · have := Kn_mono (rows := rows) (k := j) h; omega
    have hsi' : i + 1 ≤ s' := by
      rcases Nat.lt_or_ge s' (i + 1) with h | h
      · rcases q2 with e | e
        · omega
        · have a := Kn_fresh e
          have b := Kn_mono (rows := rows) (k := j) (show s' + 1 ≤ i + 1 by omega)
          omega
      · exact h
    have a1 := Kn_fresh (rows := rows) (k := j + 1) (m := s) (fresh_up g2)
    have a2 := Kn_mono (rows := rows) (k := j + 1) (show s + 1 ≤ i + 1 by omega)
    have a3 := Kn_mono (rows := rows) (k := j + 1) hsi'
    rw [show Kn rows j (i + 1) - 1 + 1 = Kn rows j (i + 1) by omega, v1]
    unfold atV
    refine ⟨by omega, by rw [v2]; omega, rfl, fun hf => ?_⟩
    have e1 := Kn_fresh hf
    have e2 := first_val (k := j) (s := i) (by omega) (.inr hf)
    rw [show Kn rows j i = Kn rows j (i + 1) - 1 by omega, v1] at e2
    have e3 := Kn_fresh (rows := rows) (k := j + 1) (m := i) (fresh_up hf)
    omega
theorem fine_curs (hF : Fit rows n) {i k : Nat} (hi : i < rows.length) (hk : k ≤ n) : FineT ⟨levelsF rows n⟩ (curs rows i k) := by
  refine ⟨build_valid hF, by show (atL rows i k).length = (endL rows i k).length; simp, by show (atL rows i k).length ≤ (levelsF rows n).length; rw [levelsF_length]; simpa using hk, fun j hj => ?_⟩
  have hjk : j < k := by have e : (curs rows i k).at_.length = k := atL_len i k; omega
  obtain ⟨s1, s2, s3, _⟩ := sib_curs (n := n) (i := i) (k := k) (j := j) (by omega) (by omega) hi
  refine ⟨?_, ?_, ?_⟩
  · show _ ≤ ix (atL rows i k) j
    rw [atL_ix hjk]; exact s1
  · show ix (atL rows i k) j < _
    rw [atL_ix hjk]; exact s2
  · show ix (endL rows i k) j = _
    rw [endL_ix hjk]; exact s3.symm
theorem curs_ne (i k : Nat) : (curs rows i (k + 1)).at_ ≠ [] := fun h => by
  have := congrArg List.length h
  rw [show (curs rows i (k + 1)).at_ = atL rows i (k + 1) from rfl, atL_len] at this
  simp at this
theorem key_curs (hF : Fit rows n) {i k : Nat} (hi : i < rows.length) (hk : k < n) : keyF ⟨levelsF rows n⟩ (curs rows i (k + 1)) = (ix (ix rows i) k, true) := by
  unfold keyF
  have e : (curs rows i (k + 1)).at_.length - 1 = k := by rw [show (curs rows i (k + 1)).at_ = atL rows i (k + 1) from rfl, atL_len]; rfl
  rw [if_pos ⟨fine_curs hF hi hk, curs_ne i k⟩, e]
  show (ix (ix (levelsF rows n) k).keys (ix (atL rows i (k + 1)) k).toNat, true) = _
  rw [ix_levels hk, atL_ix (Nat.lt_succ_self k)]
  unfold atV
  rw [Int.toNat_natCast, keys_ix hi]
theorem down_curs (hF : Fit rows n) {i k : Nat} (hi : i < rows.length) (hk : k < n) (hf : freshB rows i k = true) : downF ⟨levelsF rows n⟩ (curs rows i k) = (curs rows i (k + 1), true) := by
  obtain ⟨s1, s2, s3, s4⟩ := sib_curs (n := n) (i := i) (k := k) (j := k) hk (Nat.le_refl _) hi
  have e : (curs rows i k).at_.length = k := atL_len i k
  unfold downF
  rw [e, if_pos ⟨fine_curs hF hi (by omega), by show k < (levelsF rows n).length; rw [levelsF_length]; exact hk, by have := s4 hf; omega⟩, s4 hf, s3]
  show ((⟨atL rows i k ++ [_], endL rows i k ++ [_]⟩ : Cursor), true) = ((⟨atL rows i (k + 1), endL rows i (k + 1)⟩ : Cursor), true)
  rw [atL_succ, endL_succ]
theorem down_last {i : Nat} : downF ⟨levelsF rows n⟩ (curs rows i n) = (C0, false) := by
  unfold downF
  rw [if_neg]
  rintro ⟨_, h, _⟩
  have e : (curs rows i n).at_.length = n := atL_len i n
  rw [e, show (⟨levelsF rows n⟩ : Trie).levels = levelsF rows n from rfl, levelsF_length] at h
  omega
theorem up_curs (hF : Fit rows n) {i k : Nat} (hi : i < rows.length) (hk : k < n) : upF ⟨levelsF rows n⟩ (curs rows i (k + 1)) = (curs rows i k, true) := by
  unfold upF
  have e : (curs rows i (k + 1)).at_.length - 1 = k := by rw [show (curs rows i (k + 1)).at_ = atL rows i (k + 1) from rfl, atL_len]; rfl
  rw [if_pos ⟨fine_curs hF hi hk, curs_ne i k⟩, e]
  show ((⟨(atL rows i (k + 1)).take k, (endL rows i (k + 1)).take k⟩ : Cursor), true) = ((⟨atL rows i k, endL rows i k⟩ : Cursor), true)
  rw [atL_succ, endL_succ, List.take_append_of_le_length (by simp), List.take_append_of_le_length (by simp), List.take_of_length_le (by simp), List.take_of_length_le (by simp)]
theorem up_root (t : Trie) : upF t C0 = (C0, false) := by
  unfold upF
  rw [if_neg (fun h => h.2 rfl)]
theorem next_root (t : Trie) : nextF t C0 = (C0, false) := by
  unfold nextF
  rw [if_neg (fun h => h.2 rfl)]
theorem fresh_low {i k : Nat} (h : freshB rows i k = false) {j : Nat} (hj : j ≤ k) : freshB rows i j = false := by
  induction k with
  | zero => rw [Nat.le_zero.1 hj]; exact h
  | succ k ih =>
    rcases Nat.lt_or_eq_of_le hj with h1 | h1
    · refine ih ?_ (by omega)
      cases h2 : freshB rows i k with
      | false => rfl
      | true => rw [fresh_up h2] at h; cases h
    · rw [h1]; exact h
theorem curs_same {i k : Nat} (h : freshB rows (i + 1) k = false) : curs rows (i + 1) k = curs rows i k ∧ endV rows (i + 1) k = endV rows i k := by
  have hK : ∀ j, j < k → Kn rows j (i + 1 + 1) = Kn rows j (i + 1) := fun j hj => Kn_not (fresh_low h hj)
  have hE : ∀ j, j ≤ k → endV rows (i + 1) j = endV rows i j := by
    intro j hj
    cases j with
    | zero => rfl
    | succ j =>
      show ix (levelF rows (j + 1)).first (Kn rows j (i + 1 + 1)) = ix (levelF rows (j + 1)).first (Kn rows j (i + 1))
      rw [hK j (by omega)]
  refine ⟨?_, hE k (Nat.le_refl _)⟩
  unfold curs atL endL
  congr 1
  · refine List.map_congr_left fun j hj => ?_
    unfold atV
    rw [hK j (List.mem_range.1 hj)]
  · refine List.map_congr_left fun j hj => hE j (by have := List.mem_range.1 hj; omega)
theorem next_curs (hF : Fit rows n) {i k : Nat} (hi : i < rows.length) (hk : k < n) : nextF ⟨levelsF rows n⟩ (curs rows i (k + 1)) = if endV rows i k ≤ (Kn rows k (i + 1) : Int) then (C0, false) else (⟨atL rows i k ++ [(Kn rows k (i + 1) : Int)], endL rows i (k + 1)⟩, true) := by
  unfold nextF
  have e : (curs rows i (k + 1)).at_.length - 1 = k := by rw [show (curs rows i (k + 1)).at_ = atL rows i (k + 1) from rfl, atL_len]; rfl
  have hp := keys_pos (rows := rows) k i
  rw [if_pos ⟨fine_curs hF hi hk, curs_ne i k⟩, e]
  unfold movedF mvC
  rw [e]
  show (if ix (endL rows i (k + 1)) k ≤ ix (atL rows i (k + 1)) k + 1 then _ else ((⟨(atL rows i (k + 1)).set k (ix (atL rows i (k + 1)) k + 1), endL rows i (k + 1)⟩ : Cursor), true)) = _
  rw [endL_ix (Nat.lt_succ_self k), atL_ix (Nat.lt_succ_self k), show atV rows i k + 1 = (Kn rows k (i + 1) : Int) by unfold atV; omega, atL_succ, List.set_append_right _ _ (by simp)]
  simp
theorem next_yes (hF : Fit rows n) {i k : Nat} (hi : i + 1 < rows.length) (hk : k < n) (h1 : freshB rows (i + 1) (k + 1) = true) (h0 : freshB rows (i + 1) k = false) : nextF ⟨levelsF rows n⟩ (curs rows i (k + 1)) = (curs rows (i + 1) (k + 1), true) := by
  obtain ⟨c1, c2⟩ := curs_same h0
  obtain ⟨_, s2, s3, _⟩ := sib_curs (n := n) (i := i + 1) (k := k) (j := k) hk (Nat.le_refl _) hi
  have hK := Kn_fresh h1
  have ea : atV rows (i + 1) k = (Kn rows k (i + 1) : Int) := by unfold atV; omega
  rw [next_curs hF (by omega) hk, if_neg (by rw [s3, c2] at s2; omega)]
  have d1 : atL rows (i + 1) k = atL rows i k := congrArg Cursor.at_ c1
  have d2 : endL rows (i + 1) k = endL rows i k := congrArg Cursor.end_ c1
  unfold curs
  rw [atL_succ (i + 1), endL_succ (i + 1), endL_succ i, d1, d2, c2, ea]
theorem next_no (hF : Fit rows n) {i k : Nat} (hi : i < rows.length) (hk : k < n) (h : i + 1 = rows.length ∨ freshB rows (i + 1) k = true) : nextF ⟨levelsF rows n⟩ (curs rows i (k + 1)) = (C0, false) := by
  rw [next_curs hF hi hk, if_pos]
  cases k with
  | zero =>
    rcases h with h | h
    · unfold endV
      rw [h]; exact Int.le_refl _
    · simp [freshB] at h
  | succ k =>
    show ix (levelF rows (k + 1)).first (Kn rows k (i + 1)) ≤ (Kn rows (k + 1) (i + 1) : Int)
    rw [first_val (by omega) h]
    exact Int.le_refl _
/-- Next, else up and on. -/
noncomputable def climb (t : Trie) : Nat → Cursor → Cursor × Bool
  | 0, _ => (C0, false)
  | f + 1, c => if (nextF t c).2 then ((nextF t c).1, true) else if (upF t c).2 then climb t f (upF t c).1 else (C0, false)
noncomputable def onF (t : Trie) (c : Cursor) : Cursor × Bool := if (downF t c).2 then ((downF t c).1, true) else climb t 20 c
theorem climb_on (hF : Fit rows n) {i : Nat} (hi : i + 1 < rows.length) : ∀ k f, k < n → k + 2 ≤ f → freshB rows (i + 1) (k + 1) = true → ∃ k', k' ≤ k ∧ freshB rows (i + 1) (k' + 1) = true ∧ freshB rows (i + 1) k' = false ∧ climb ⟨levelsF rows n⟩ f (curs rows i (k + 1)) = (curs rows (i + 1) (k' + 1), true)
  | k, 0, _, h, _ => by omega
  | k, f + 1, hk, h, hf => by
    cases h0 : freshB rows (i + 1) k with
    | false =>
      refine ⟨k, Nat.le_refl _, hf, h0, ?_⟩
      rw [climb, next_yes hF hi hk hf h0, if_pos rfl]
    | true =>
      cases k with
      | zero => simp [freshB] at h0
      | succ k =>
        obtain ⟨k', h1, h2, h3, h4⟩ := climb_on hF hi k f (by omega) (by omega) h0
        refine ⟨k', by omega, h2, h3, ?_⟩
        rw [climb, next_no hF (by omega) hk (.inr h0), if_neg (by simp), up_curs hF (by omega) hk, if_pos rfl]
        exact h4
theorem climb_end (hF : Fit rows n) {i : Nat} (hi : i + 1 = rows.length) : ∀ k f, k ≤ n → k + 1 ≤ f → climb ⟨levelsF rows n⟩ f (curs rows i k) = (C0, false)
  | k, 0, _, h => by omega
  | 0, f + 1, _, _ => by
    have e : curs rows i 0 = C0 := rfl
    rw [climb, e, next_root, if_neg (by simp), up_root, if_neg (by simp)]
  | k + 1, f + 1, hk, h => by
    rw [climb, next_no hF (by omega) hk (.inl hi), if_neg (by simp), up_curs hF (by omega) hk, if_pos rfl]
    exact climb_end hF hi k f (by omega) (by omega)
end
end Go.Proofs.Ytkonafdbfciikaa
