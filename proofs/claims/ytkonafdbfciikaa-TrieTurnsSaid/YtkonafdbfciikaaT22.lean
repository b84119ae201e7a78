/-
  layer 14: rows sorted by merging, the reference's side.
-/
import Derived.Test.YtkonafdbfciikaaT21
namespace Go.Proofs.Ytkonafdbfciikaa
open Go.RowKit
set_option linter.unusedSimpArgs false
set_option linter.unusedVariables false
set_option maxRecDepth 100000

/-- Each row comes before all later ones. -/
def Rise (l : List (List Int)) : Prop := l.Pairwise fun x y => cmpL x y < 0
theorem cmp_cycle {x y : List Int} (h1 : cmpL x y < 0) (h2 : cmpL y x < 0) : False := by
  have := cmpL_swap x y
  omega
theorem rise_unique : ∀ {a b : List (List Int)}, Rise a → Rise b → (∀ x, x ∈ a ↔ x ∈ b) → a = b
  | [], [], _, _, _ => rfl
  | [], y :: q, _, _, h => by have := (h y).2 (by simp); cases this
  | x :: r, [], _, _, h => by have := (h x).1 (by simp); cases this
  | x :: r, y :: q, ha, hb, h => by
    have ha' := List.pairwise_cons.1 ha
    have hb' := List.pairwise_cons.1 hb
    have hxy : x = y := by
      have h1 := (h x).1 (by simp)
      have h2 := (h y).2 (by simp)
      rcases List.mem_cons.1 h1 with e | h1
      · exact e
      · rcases List.mem_cons.1 h2 with e | h2
        · exact e.symm
        · exact (cmp_cycle (ha'.1 y h2) (hb'.1 x h1)).elim
    subst hxy
    rw [rise_unique ha'.2 hb'.2 fun z => ?_]
    have hz := h z
    constructor
    · intro hm
      rcases List.mem_cons.1 (hz.1 (List.mem_cons_of_mem _ hm)) with e | h2
      · subst e
        have := ha'.1 z hm
        rw [cmpL_refl] at this
        exact absurd this (by decide)
      · exact h2
    · intro hm
      rcases List.mem_cons.1 (hz.2 (List.mem_cons_of_mem _ hm)) with e | h2
      · subst e
        have := hb'.1 z hm
        rw [cmpL_refl] at this
        exact absurd this (by decide)
      · exact h2

theorem ddF_mem : ∀ (l : List (List Int)) (p x : List Int), x ∈ p :: ddF p l ↔ x ∈ p :: l
  | [], p, x => Iff.rfl
  | y :: r, p, x => by
    rw [ddF]
    have ih := ddF_mem r y x
    split
    · rename_i e
      subst e
      rw [ih]
      simp
    · rw [List.mem_cons, ih]
      simp only [List.mem_cons]
theorem dd_mem (l : List (List Int)) (x : List Int) : x ∈ dd l ↔ x ∈ l := by
  cases l with
  | nil => exact Iff.rfl
  | cons y r => exact ddF_mem r y x
theorem ddF_rise : ∀ (l : List (List Int)) (p : List Int), (p :: l).Pairwise (fun x y => (!ltOf cmpL y x) = true) → Rise (p :: ddF p l)
  | [], p, _ => List.pairwise_singleton _ _
  | y :: r, p, h => by
    have h' := List.pairwise_cons.1 h
    have ih := ddF_rise r y h'.2
    rw [ddF]
    split
    · rename_i e
      subst e
      exact ih
    · rename_i e
      have hpy : cmpL p y < 0 := by
        have := h'.1 y (by simp)
        simp only [ltOf, Bool.not_eq_true', decide_eq_false_iff_not] at this
        have hs := cmpL_swap y p
        rcases Int.lt_or_eq_of_le (show cmpL p y ≤ 0 by omega) with h | h
        · exact h
        · exact absurd (cmpL_eq h).symm e
      refine List.pairwise_cons.2 ⟨fun z hz => ?_, ih⟩
      rcases List.mem_cons.1 hz with rfl | hz2
      · exact hpy
      · exact cmpL_trans hpy ((List.pairwise_cons.1 ih).1 z hz2)
theorem sorted_pair (l : List (List Int)) : (sortBy cmpL l).Pairwise fun x y => (!ltOf cmpL y x) = true := by
  unfold sortBy
  refine List.pairwise_mergeSort ?_ ?_ _
  · intro a b c h1 h2
    simp only [Bool.not_eq_true'] at h1 h2 ⊢
    exact swoL.ntrans c b a h2 h1
  · intro a b
    cases h : ltOf cmpL b a with
    | false => simp
    | true => simp [swoL.asymmA h]
theorem sortedF_rise (l : List (List Int)) : Rise (sortedF l) := by
  unfold sortedF
  have h := sorted_pair l
  cases hs : sortBy cmpL l with
  | nil => exact List.Pairwise.nil
  | cons x r => rw [hs] at h; exact ddF_rise r x h
theorem sortedF_mem (l : List (List Int)) (x : List Int) : x ∈ sortedF l ↔ x ∈ l := by
  unfold sortedF
  rw [dd_mem, sortBy_mem]
theorem sortedF_eq {l s : List (List Int)} (h : Rise s) (hm : ∀ x, x ∈ s ↔ x ∈ l) : sortedF l = s := rise_unique (sortedF_rise l) h fun x => by rw [sortedF_mem, hm]
theorem sortedF_len (l : List (List Int)) : (sortedF l).length ≤ l.length := by
  unfold sortedF
  have := dd_le (sortBy cmpL l)
  rw [sortBy_length] at this
  exact this

/-- Two rising lists merged. -/
def mergeF : List (List Int) → List (List Int) → List (List Int)
  | [], b => b
  | x :: r, [] => x :: r
  | x :: r, y :: q => if cmpL x y < 0 then x :: mergeF r (y :: q) else if cmpL x y = 0 then x :: mergeF r q else y :: mergeF (x :: r) q
termination_by a b => a.length + b.length
theorem mergeF_nil (a : List (List Int)) : mergeF a [] = a := by cases a <;> rw [mergeF]
theorem mergeF_len : ∀ (a b : List (List Int)), (mergeF a b).length ≤ a.length + b.length
  | [], b => by rw [mergeF]; simp
  | x :: r, [] => by rw [mergeF]; simp
  | x :: r, y :: q => by
    rw [mergeF]
    have h1 := mergeF_len r (y :: q)
    have h2 := mergeF_len r q
    have h3 := mergeF_len (x :: r) q
    split
    · simp at h1 ⊢; omega
    · split
      · simp at h2 ⊢; omega
      · simp at h3 ⊢; omega
termination_by a b => a.length + b.length
theorem mergeF_mem : ∀ (a b : List (List Int)) (z : List Int), z ∈ mergeF a b ↔ z ∈ a ∨ z ∈ b
  | [], b, z => by rw [mergeF]; simp
  | x :: r, [], z => by rw [mergeF]; simp
  | x :: r, y :: q, z => by
    rw [mergeF]
    split
    · rw [List.mem_cons, mergeF_mem r (y :: q) z, List.mem_cons]; simp only [List.mem_cons, or_assoc]
    · split
      · rename_i h
        rw [List.mem_cons, mergeF_mem r q z, cmpL_eq h]
        simp only [List.mem_cons]
        constructor
        · rintro (h | h | h)
          · exact .inl (.inl h)
          · exact .inl (.inr h)
          · exact .inr (.inr h)
        · rintro ((h | h) | (h | h))
          · exact .inl h
          · exact .inr (.inl h)
          · exact .inl h
          · exact .inr (.inr h)
      · rw [List.mem_cons, mergeF_mem (x :: r) q z]
        simp only [List.mem_cons]
        constructor
        · rintro (h | (h | h) | h)
          · exact .inr (.inl h)
          · exact .inl (.inl h)
          · exact .inl (.inr h)
          · exact .inr (.inr h)
        · rintro ((h | h) | (h | h))
          · exact .inr (.inl (.inl h))
          · exact .inr (.inl (.inr h))
          · exact .inl h
          · exact .inr (.inr h)
termination_by a b => a.length + b.length
theorem mergeF_rise : ∀ {a b : List (List Int)}, Rise a → Rise b → Rise (mergeF a b)
  | [], b, _, hb => by rw [mergeF]; exact hb
  | x :: r, [], ha, _ => by rw [mergeF]; exact ha
  | x :: r, y :: q, ha, hb => by
    have ha' := List.pairwise_cons.1 ha
    have hb' := List.pairwise_cons.1 hb
    rw [mergeF]
    split
    · rename_i h
      refine List.pairwise_cons.2 ⟨fun z hz => ?_, mergeF_rise ha'.2 hb⟩
      rcases (mergeF_mem r (y :: q) z).1 hz with h1 | h1
      · exact ha'.1 z h1
      · rcases List.mem_cons.1 h1 with rfl | h1
        · exact h
        · exact cmpL_trans h (hb'.1 z h1)
    · split
      · rename_i h
        refine List.pairwise_cons.2 ⟨fun z hz => ?_, mergeF_rise ha'.2 hb'.2⟩
        rcases (mergeF_mem r q z).1 hz with h1 | h1
        · exact ha'.1 z h1
        · rw [cmpL_eq h]; exact hb'.1 z h1
      · rename_i h1 h2
        have hyx : cmpL y x < 0 := by have := cmpL_swap x y; omega
        refine List.pairwise_cons.2 ⟨fun z hz => ?_, mergeF_rise ha hb'.2⟩
        rcases (mergeF_mem (x :: r) q z).1 hz with h3 | h3
        · rcases List.mem_cons.1 h3 with rfl | h3
          · exact hyx
          · exact cmpL_trans hyx (ha'.1 z h3)
        · exact hb'.1 z h3
termination_by a b => a.length + b.length
theorem sorted_merge (l : List (List Int)) (m : Nat) : sortedF l = mergeF (sortedF (l.take m)) (sortedF (l.drop m)) :=
  sortedF_eq (mergeF_rise (sortedF_rise _) (sortedF_rise _)) fun x => by
    rw [mergeF_mem, sortedF_mem, sortedF_mem, ← List.mem_append, List.take_append_drop]
theorem sorted_short {l : List (List Int)} (h : l.length ≤ 1) : sortedF l = l :=
  sortedF_eq (by
    match l with
    | [] => exact List.Pairwise.nil
    | [x] => exact List.pairwise_singleton _ _
    | x :: y :: r => simp at h) fun x => Iff.rfl

theorem mergeF_drop {a b : List (List Int)} {i k : Nat} (hi : i < a.length) (hk : k < b.length) : mergeF (a.drop i) (b.drop k) = if cmpL (ix a i) (ix b k) < 0 then ix a i :: mergeF (a.drop (i + 1)) (b.drop k) else if cmpL (ix a i) (ix b k) = 0 then ix a i :: mergeF (a.drop (i + 1)) (b.drop (k + 1)) else ix b k :: mergeF (a.drop i) (b.drop (k + 1)) := by
  rw [List.drop_eq_getElem_cons hi, List.drop_eq_getElem_cons hk, mergeF, ix_lt hi, ix_lt hk]
theorem mergeF_dropA {a b : List (List Int)} {i k : Nat} (hi : i < a.length) (hk : b.length ≤ k) : mergeF (a.drop i) (b.drop k) = ix a i :: mergeF (a.drop (i + 1)) (b.drop k) := by
  rw [List.drop_eq_nil_of_le hk, mergeF_nil, mergeF_nil, List.drop_eq_getElem_cons hi, ix_lt hi]
theorem mergeF_dropB {a b : List (List Int)} {i k : Nat} (hi : a.length ≤ i) (hk : k < b.length) : mergeF (a.drop i) (b.drop k) = ix b k :: mergeF (a.drop i) (b.drop (k + 1)) := by
  rw [List.drop_eq_nil_of_le hi, mergeF, mergeF, List.drop_eq_getElem_cons hk, ix_lt hk]
end Go.Proofs.Ytkonafdbfciikaa
