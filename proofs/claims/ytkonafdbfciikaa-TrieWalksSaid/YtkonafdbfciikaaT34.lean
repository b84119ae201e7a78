/-
  layer 14: the trie of sorted rows is valid, and its rows are the rows (the second part).
-/
import Derived.Test.YtkonafdbfciikaaT33
namespace Go.Proofs.Ytkonafdbfciikaa
open Go.RowKit
set_option linter.unusedSimpArgs false
set_option linter.unusedVariables false
set_option maxRecDepth 100000

theorem cmp_part : ∀ {k : Nat} {a b : List Int}, cmpL a b < 0 → a.take k = b.take k → a.take (k + 1) ≠ b.take (k + 1) → k < a.length → k < b.length → ix a k < ix b k
  | _, [], b, _, _, _, h1, _ => absurd h1 (Nat.not_lt_zero _)
  | _, _ :: _, [], _, _, _, _, h2 => absurd h2 (Nat.not_lt_zero _)
  | 0, x :: a, y :: b, h, _, h2, _, _ => by
    show x < y
    rw [cmpL] at h
    split at h
    · assumption
    · split at h
      · exact absurd h (by decide)
      · exact absurd (by rw [show x = y by omega]; rfl) h2
  | k + 1, x :: a, y :: b, h, h1, h2, h3, h4 => by
    simp only [List.take_succ_cons, List.cons.injEq] at h1
    rw [List.take_succ_cons, List.take_succ_cons] at h2
    rw [cmpL, h1.1, if_neg (Int.lt_irrefl y), if_neg (Int.lt_irrefl y)] at h
    show ix a k < ix b k
    exact cmp_part h h1.2 (fun e => h2 (by rw [h1.1, e])) (by simpa using h3) (by simpa using h4)

theorem ix_levels {rows : List (List Int)} {n i : Nat} (h : i < n) : ix (levelsF rows n) i = levelF rows i := by
  unfold levelsF
  rw [ix_lt (by simpa using h)]
  simp
theorem keys_len (rows : List (List Int)) (k : Nat) : (levelF rows k).keys.length = Kn rows k rows.length := rfl
theorem keys_ix {rows : List (List Int)} {k i : Nat} (h : i < rows.length) : ix (levelF rows k).keys (Kn rows k (i + 1) - 1) = ix (ix rows i) k := key_at h

/-- Rows of n elements each, rising. -/
structure Fit (rows : List (List Int)) (n : Nat) : Prop where
  pos : 1 ≤ n
  top : n ≤ 8
  few : rows.length ≤ 20000
  len : ∀ i, i < rows.length → (ix rows i).length = n
  rise : RisesR rows
section
variable {rows : List (List Int)} {n : Nat}
theorem level_rise (k : Nat) : RiseOK (Kn rows k rows.length) (levelF rows (k + 1)) := fun j hj => by
  obtain ⟨s, h1, h2, h3⟩ := key_start hj
  obtain ⟨s', g1, g2, g3⟩ := key_cut (rows := rows) (k := k) (N := rows.length) (c := j + 1) hj
  have a1 := first_val (k := k) (s := s) (by omega) (.inr h2)
  have a2 := first_val (k := k) (s := s') g1 g2
  rw [h3] at a1
  rw [g3] at a2
  rw [a1, a2]
  have hss : s < s' := by
    rcases Nat.lt_or_ge s s' with h | h
    · exact h
    · have := Kn_mono (rows := rows) (k := k) h
      omega
  have b1 := Kn_fresh (rows := rows) (k := k + 1) (m := s) (fresh_up h2)
  have b2 := Kn_mono (rows := rows) (k := k + 1) (show s + 1 ≤ s' by omega)
  omega
theorem first_up (k : Nat) : ∀ {i j : Nat}, i ≤ j → j ≤ Kn rows k rows.length → ix (levelF rows (k + 1)).first i ≤ ix (levelF rows (k + 1)).first j := by
  intro i j hij
  induction j with
  | zero => intro _; rw [Nat.le_zero.1 hij]; exact Int.le_refl _
  | succ j ih =>
    intro hj
    rcases Nat.lt_or_eq_of_le hij with h | h
    · have := ih (by omega) (by omega)
      have := level_rise (rows := rows) k j (by omega)
      omega
    · rw [h]; exact Int.le_refl _
theorem key_rise (hF : Fit rows n) {k s : Nat} (hk : k < n) (hs : s < rows.length) (h1 : freshB rows s (k + 1) = true) (h0 : s ≠ 0) (h2 : freshB rows s k = false) : ix (levelF rows k).keys (Kn rows k s - 1) < ix (levelF rows k).keys (Kn rows k s) := by
  have e1 := keys_ix (k := k) hs
  rw [Kn_fresh h1, Nat.add_sub_cancel] at e1
  have e2 := keys_ix (rows := rows) (k := k) (i := s - 1) (by omega)
  rw [show s - 1 + 1 = s by omega] at e2
  rw [e1, e2]
  have hr := hF.rise (s - 1) (by omega)
  rw [show s - 1 + 1 = s by omega] at hr
  refine cmp_part hr (fresh_no h2).2.symm (fun e => fresh_yes h1 h0 e.symm) ?_ ?_
  · rw [hF.len _ (by omega)]; exact hk
  · rw [hF.len _ hs]; exact hk
theorem level_sort (hF : Fit rows n) {k : Nat} (hk : k < n) : SortOK (levelF rows k) := fun i hi c h1 h2 => by
  cases k with
  | zero =>
    rw [first_zero] at hi h1 h2
    have hi0 : i = 0 := by simp at hi; omega
    subst hi0
    have h1' : (0 : Int) < c := h1
    have h2' : (c : Int) < Kn rows 0 rows.length := h2
    obtain ⟨s, g1, g2, g3⟩ := key_start (rows := rows) (k := 0) (N := rows.length) (c := c) (by omega)
    have hs : s ≠ 0 := fun e => by rw [e, Kn_zero] at g3; omega
    rw [← g3]
    exact key_rise hF hk g1 g2 hs (by simp [freshB, hs])
  | succ k =>
    rw [first_len] at hi
    have hb : ix (levelF rows (k + 1)).first (i + 1) ≤ Kn rows (k + 1) rows.length := by
      have a := first_up (rows := rows) k (i := i + 1) (j := Kn rows k rows.length) (by omega) (Nat.le_refl _)
      rwa [first_val (Nat.le_refl _) (.inl rfl)] at a
    obtain ⟨s, g1, g2, g3⟩ := key_start (rows := rows) (k := k + 1) (N := rows.length) (c := c) (by omega)
    have hnf : freshB rows s (k + 1) = false := by
      cases hf : freshB rows s (k + 1) with
      | false => rfl
      | true =>
        have e := first_val (k := k) (s := s) (by omega) (.inr hf)
        rw [g3] at e
        have hj := Kn_mono (rows := rows) (k := k) (show s ≤ rows.length by omega)
        rcases Nat.lt_or_ge i (Kn rows k s) with h | h
        · have := first_up (rows := rows) k (i := i + 1) (j := Kn rows k s) h hj
          omega
        · have := first_up (rows := rows) k (i := Kn rows k s) (j := i) h (by omega)
          omega
    have hs : s ≠ 0 := (fresh_no hnf).1
    rw [← g3]
    exact key_rise hF hk g1 g2 hs hnf
theorem levels_len (hF : Fit rows n) {i : Nat} (hi : i < n) : LenOK (if i = 0 then 1 else (ix (levelsF rows n) (i - 1)).keys.length) (ix (levelsF rows n) i) ∧ (0 + i = 0 ∨ RiseOK (if i = 0 then 1 else (ix (levelsF rows n) (i - 1)).keys.length) (ix (levelsF rows n) i)) := by
  rw [ix_levels hi]
  cases i with
  | zero =>
    rw [if_pos rfl]
    refine ⟨⟨by rw [first_zero]; rfl, by rw [first_zero]; rfl, by rw [first_zero]; rfl⟩, .inl rfl⟩
  | succ i =>
    rw [if_neg (by omega), Nat.add_sub_cancel, ix_levels (by omega), keys_len]
    refine ⟨⟨first_len i, ?_, ?_⟩, .inr (level_rise i)⟩
    · have := first_val (rows := rows) (k := i) (s := 0) (Nat.zero_le _) (.inr (fresh_zero _))
      rwa [Kn_zero, Kn_zero] at this
    · exact first_val (Nat.le_refl _) (.inl rfl)
theorem build_valid (hF : Fit rows n) : ValidT ⟨levelsF rows n⟩ := by
  have hl : (levelsF rows n).length = n := levelsF_length rows n
  have h1 := hF.pos
  refine ⟨by show _ ≤ (levelsF rows n).length; rw [hl]; exact h1, by show (levelsF rows n).length ≤ _; rw [hl]; exact hF.top, ⟨Kn rows (n - 1) rows.length, (shape_iff _ _ _ _).2 ⟨fun i hi => levels_len hF (by rw [← hl]; exact hi), ?_⟩, ?_⟩, ?_⟩
  · rw [if_neg (fun e => by have := congrArg List.length e; rw [hl] at this; simp at this; omega), hl, ix_levels (by omega)]
    rfl
  · have := keysF_le rows (n - 1) rows.length
    have := hF.few
    unfold Kn
    omega
  · intro x hx
    obtain ⟨i, hi, rfl⟩ := List.getElem_of_mem hx
    have hi' : i < n := by rw [← hl]; exact hi
    rw [← ix_lt hi, ix_levels hi']
    exact level_sort hF hi'
/-- Where rows rise, each is a leaf. -/
theorem fresh_all (hF : Fit rows n) {s : Nat} (hs : s < rows.length) : freshB rows s n = true := by
  cases h : freshB rows s n with
  | true => rfl
  | false =>
    obtain ⟨h0, h2⟩ := fresh_no h
    have hr := hF.rise (s - 1) (by omega)
    rw [show s - 1 + 1 = s by omega] at hr
    rw [List.take_of_length_le (by rw [hF.len _ hs]; exact Nat.le_refl _), List.take_of_length_le (by rw [hF.len _ (by omega)]; exact Nat.le_refl _)] at h2
    rw [h2, cmpL_refl] at hr
    exact absurd hr (by decide)
theorem Kn_all (hF : Fit rows n) : ∀ s, s ≤ rows.length → Kn rows (n - 1) s = s
  | 0, _ => rfl
  | s + 1, h => by
    have hf : freshB rows s (n - 1 + 1) = true := by
      rw [show n - 1 + 1 = n by have := hF.pos; omega]
      exact fresh_all hF (by omega)
    rw [Kn_fresh hf, Kn_all hF s (by omega)]
theorem drop_ixI {l : List Int} {k : Nat} (h : k < l.length) : l.drop k = ix l k :: l.drop (k + 1) := by
  rw [List.drop_eq_getElem_cons h, ix_lt h]
theorem drop_levels {k : Nat} (hk : k < n) : (levelsF rows n).drop k = levelF rows k :: (levelsF rows n).drop (k + 1) := by
  rw [drop_ix (by rw [levelsF_length]; exact hk), ix_levels hk]
theorem drop_levels2 {k : Nat} (hk : k + 1 < n) : (levelsF rows n).drop k = levelF rows k :: levelF rows (k + 1) :: (levelsF rows n).drop (k + 2) := by
  rw [drop_levels (by omega), drop_levels hk]
theorem leaf_at (hF : Fit rows n) : ∀ d k, n = k + 1 + d → ∀ s, s ≤ rows.length → (s = rows.length ∨ freshB rows s (k + 1) = true) → leaf ((levelsF rows n).drop k) (Kn rows k s) = s
  | 0, k, h, s, hs, hf => by
    have e := Kn_all hF s hs
    rw [show n - 1 = k by omega] at e
    rw [drop_levels (by omega), List.drop_eq_nil_of_le (by rw [levelsF_length]; omega), leaf, e]
  | d + 1, k, h, s, hs, hf => by
    have ih := leaf_at hF d (k + 1) (by omega) s hs (hf.imp id fresh_up)
    rw [drop_levels (by omega)] at ih
    rw [drop_levels2 (by omega), leaf]
    unfold nA
    rw [first_val hs hf, Int.toNat_natCast]
    exact ih
theorem flat_rng {f : Nat → List (List Int)} {g : Nat → List Int} {L : Nat → Nat} : ∀ d a, (∀ j, a ≤ j → j < a + d → f j = (rng (L j) (L (j + 1))).map g ∧ L j ≤ L (j + 1)) → (rng a (a + d)).flatMap f = (rng (L a) (L (a + d))).map g ∧ L a ≤ L (a + d)
  | 0, a, _ => by rw [rng_nil (show a + 0 ≤ a by omega), rng_nil (show L (a + 0) ≤ L a from Nat.le_refl _)]; exact ⟨rfl, Nat.le_refl _⟩
  | d + 1, a, h => by
    obtain ⟨h1, h2⟩ := flat_rng d a fun j hj hj2 => h j hj (by omega)
    obtain ⟨h3, h4⟩ := h (a + d) (by omega) (by omega)
    refine ⟨?_, Nat.le_trans h2 h4⟩
    rw [show a + (d + 1) = a + d + 1 by omega, rng_snoc (by omega), List.flatMap_append, h1, List.flatMap_cons, List.flatMap_nil, List.append_nil, h3, ← List.map_append]
    congr 1
    unfold rng
    rw [show L (a + d + 1) - L a = (L (a + d) - L a) + (L (a + d + 1) - L (a + d)) by omega, ← List.range'_append]
    congr 2
    omega
theorem sub_at (hF : Fit rows n) : ∀ d k, n = k + 1 + d → ∀ c, c < Kn rows k rows.length → subF ((levelsF rows n).drop k) c = (rng (leaf ((levelsF rows n).drop k) c) (leaf ((levelsF rows n).drop k) (c + 1))).map (fun i => (ix rows i).drop k) ∧ leaf ((levelsF rows n).drop k) c ≤ leaf ((levelsF rows n).drop k) (c + 1)
  | 0, k, h, c, hc => by
    have e := Kn_all hF rows.length (Nat.le_refl _)
    rw [show n - 1 = k by omega] at e
    have hcr : c < rows.length := by omega
    have e2 := Kn_all hF (c + 1) (by omega)
    rw [show n - 1 = k by omega] at e2
    have e3 := keys_ix (k := k) hcr
    rw [e2, Nat.add_sub_cancel] at e3
    have hlen := hF.len c hcr
    rw [drop_levels (by omega), List.drop_eq_nil_of_le (show (levelsF rows n).length ≤ k + 1 by rw [levelsF_length]; omega), subF, leaf, leaf, e3, rng_cons (by omega), rng_nil (Nat.le_refl _)]
    refine ⟨?_, by omega⟩
    rw [List.map_cons, List.map_nil, drop_ixI (show k < (ix rows c).length by omega), List.drop_eq_nil_of_le (by omega)]
  | d + 1, k, h, c, hc => by
    obtain ⟨s, g1, g2, g3⟩ := key_start hc
    obtain ⟨s', q1, q2, q3⟩ := key_cut (rows := rows) (k := k) (N := rows.length) (c := c + 1) hc
    have l1 := leaf_at hF (d + 1) k h s (by omega) (.inr g2)
    have l2 := leaf_at hF (d + 1) k h s' q1 q2
    rw [g3] at l1
    rw [q3] at l2
    have hss : s < s' := by
      rcases Nat.lt_or_ge s s' with h | h
      · exact h
      · have := Kn_mono (rows := rows) (k := k) h
        omega
    refine ⟨?_, by omega⟩
    rw [l1, l2]
    have m1 := leaf_at hF d (k + 1) (by omega) s (by omega) (.inr (fresh_up g2))
    have m2 := leaf_at hF d (k + 1) (by omega) s' q1 (q2.imp id fresh_up)
    have v1 := first_val (k := k) (s := s) (by omega) (.inr g2)
    have v2 := first_val (k := k) (s := s') q1 q2
    rw [g3] at v1
    rw [q3] at v2
    have hmono := Kn_mono (rows := rows) (k := k + 1) (show s ≤ s' by omega)
    have htop := Kn_mono (rows := rows) (k := k + 1) q1
    have fr := flat_rng (f := subF ((levelsF rows n).drop (k + 1))) (g := fun i => (ix rows i).drop (k + 1)) (L := leaf ((levelsF rows n).drop (k + 1))) (Kn rows (k + 1) s' - Kn rows (k + 1) s) (Kn rows (k + 1) s) fun j hj hj2 => sub_at hF d (k + 1) (by omega) j (by omega)
    rw [show Kn rows (k + 1) s + (Kn rows (k + 1) s' - Kn rows (k + 1) s) = Kn rows (k + 1) s' by omega, m1, m2] at fr
    rw [drop_levels2 (by omega), subF]
    unfold nA
    rw [v1, v2, Int.toNat_natCast, Int.toNat_natCast, ← drop_levels (show k + 1 < n by omega), fr.1, List.map_map]
    refine List.map_congr_left fun i hi => ?_
    unfold rng at hi
    rw [List.mem_range'_1] at hi
    have hir : i < rows.length := by omega
    have hlen := hF.len i hir
    have e := keys_ix (k := k) hir
    have a1 := Kn_fresh (rows := rows) (k := k) (m := s) g2
    have a2 := Kn_mono (rows := rows) (k := k) (show s + 1 ≤ i + 1 by omega)
    have a3 := Kn_mono (rows := rows) (k := k) (show i + 1 ≤ s' by omega)
    rw [show Kn rows k (i + 1) - 1 = c by omega] at e
    show ix (levelF rows k).keys c :: (ix rows i).drop (k + 1) = (ix rows i).drop k
    rw [e, ← drop_ixI (by omega)]
theorem build_rows (hF : Fit rows n) : rowsU ⟨levelsF rows n⟩ = rows := by
  have h1 := hF.pos
  unfold rowsU
  show (rng 0 (ix (levelsF rows n) 0).keys.length).flatMap (subF (levelsF rows n)) = rows
  rw [ix_levels (by omega), keys_len]
  have fr := flat_rng (f := subF ((levelsF rows n).drop 0)) (g := fun i => (ix rows i).drop 0) (L := leaf ((levelsF rows n).drop 0)) (Kn rows 0 rows.length) 0 fun j hj hj2 => sub_at hF (n - 1) 0 (by omega) j (by omega)
  have l1 := leaf_at hF (n - 1) 0 (by omega) 0 (Nat.zero_le _) (.inr (fresh_zero _))
  have l2 := leaf_at hF (n - 1) 0 (by omega) rows.length (Nat.le_refl _) (.inl rfl)
  rw [Kn_zero] at l1
  rw [Nat.zero_add, l1, l2] at fr
  rw [List.drop_zero] at fr
  rw [fr.1]
  simp only [List.drop_zero]
  refine List.ext_getElem (by simp [rng]) fun i h1 h2 => ?_
  simp only [rng, List.getElem_map, List.getElem_range', Nat.zero_add, Nat.one_mul]
  exact ix_lt h2
end
end Go.Proofs.Ytkonafdbfciikaa
