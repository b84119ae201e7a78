/-
  The laws of the sets, on plain lists.
-/
import Derived.Test.YtfiilodghimajaaPlain
namespace Go.Proofs.Ytfiilodghimajaa.Plain

theorem union_length (a b : List Int) : (union a b).length ≤ a.length + b.length := by
  have := mrg_length true true true _ (of a) (of b) (Nat.le_refl _)
  have := of_length a
  have := of_length b
  unfold union
  omega
theorem meet_length (a b : List Int) : (meet a b).length ≤ a.length + b.length := by
  have := mrg_length false false true _ (of a) (of b) (Nat.le_refl _)
  have := of_length a
  have := of_length b
  unfold meet
  omega
theorem minus_length (a b : List Int) : (minus a b).length ≤ a.length + b.length := by
  have := mrg_length true false false _ (of a) (of b) (Nat.le_refl _)
  have := of_length a
  have := of_length b
  unfold minus
  omega

theorem union_comm (a b : List Int) : union a b = union b a :=
  sorted_ext (union_sorted _ _) (union_sorted _ _) fun z => by rw [mem_union, mem_union]; exact Or.comm
theorem meet_comm (a b : List Int) : meet a b = meet b a :=
  sorted_ext (meet_sorted _ _) (meet_sorted _ _) fun z => by rw [mem_meet, mem_meet]; exact And.comm
theorem meet_assoc (a b c : List Int) : meet a (meet b c) = meet (meet a b) c :=
  sorted_ext (meet_sorted _ _) (meet_sorted _ _) fun z => by simp only [mem_meet]; exact and_assoc.symm
theorem meet_union (a b c : List Int) : meet a (union b c) = union (meet a b) (meet a c) :=
  sorted_ext (meet_sorted _ _) (union_sorted _ _) fun z => by simp only [mem_meet, mem_union]; exact and_or_left
theorem union_meet (a b c : List Int) : union a (meet b c) = meet (union a b) (union a c) :=
  sorted_ext (union_sorted _ _) (meet_sorted _ _) fun z => by simp only [mem_meet, mem_union]; exact or_and_left

theorem union_ref (a b : List Int) : union a b = into (of a) b :=
  sorted_ext (union_sorted _ _) (foldl_ins b (of a) (of_sorted a)).1 fun z => by
    have := (foldl_ins b (of a) (of_sorted a)).2 z
    rw [mem_of] at this
    exact (mem_union a b z).trans this.symm
theorem meet_ref (a b : List Int) : meet a b = (of a).filter fun z => decide (z ∈ b) :=
  sorted_ext (meet_sorted _ _) ((of_sorted a).filter _) fun z => by simp [mem_meet, mem_of]
theorem minus_ref (a b : List Int) : minus a b = (of a).filter fun z => !decide (z ∈ b) :=
  sorted_ext (minus_sorted _ _) ((of_sorted a).filter _) fun z => by simp [mem_minus, mem_of]

theorem apart (a b : List Int) : (meet (meet a b) (minus a b)).length = 0 := by
  rw [List.length_eq_zero_iff, List.eq_nil_iff_forall_not_mem]
  intro z hz
  simp only [mem_meet, mem_minus] at hz
  exact hz.2.2 hz.1.2

theorem parts (a b : List Int) : union (meet a b) (minus a b) = of a :=
  sorted_ext (union_sorted _ _) (of_sorted _) fun z => by
    simp only [mem_union, mem_meet, mem_minus, mem_of]
    by_cases h1 : z ∈ a <;> by_cases h2 : z ∈ b <;> simp [h1, h2]

theorem mrg_counts : ∀ (n : Nat) (a b : List Int), a.length + b.length ≤ n → (mrg true true true a b).length + (mrg false false true a b).length = a.length + b.length
  | 0, a, b, hn => by
    have ha : a = [] := List.length_eq_zero_iff.1 (by omega)
    have hb : b = [] := List.length_eq_zero_iff.1 (by omega)
    subst ha hb
    simp [mrg_nil]
  | n + 1, [], [], _ => by simp [mrg_nil]
  | n + 1, x :: q, [], hn => by
    have h := mrg_counts n q [] (by simp at hn ⊢; omega)
    rw [mrg, mrg]
    simp at h ⊢
    omega
  | n + 1, [], y :: s, hn => by
    have h := mrg_counts n [] s (by simp at hn ⊢; omega)
    rw [mrg, mrg]
    simp at h ⊢
    omega
  | n + 1, x :: q, y :: s, hn => by
    have h1 := mrg_counts n q (y :: s) (by simp at hn ⊢; omega)
    have h2 := mrg_counts n (x :: q) s (by simp at hn ⊢; omega)
    have h3 := mrg_counts n q s (by simp at hn ⊢; omega)
    rw [mrg, mrg]
    simp only [List.length_cons] at h1 h2 h3 ⊢
    split
    · simp; omega
    · split
      · simp; omega
      · simp; omega

theorem counts (a b : List Int) : (union a b).length + (meet a b).length = (of a).length + (of b).length := mrg_counts _ _ _ (Nat.le_refl _)

theorem seek_le (zs : List Int) (i : Nat) (x : Int) : seek zs i x ≤ zs.length := by
  unfold seek
  split
  · have := List.findIdx_le_length (p := fun z : Int => decide (x ≤ z)) (xs := zs.drop i)
    simp at this
    omega
  · exact Nat.le_refl _

/-- In an increasing list the index that is found parts the lesser elements from the others. -/
theorem seek_parts {zs : List Int} (hs : zs.Pairwise (· < ·)) {i : Nat} {x : Int} : ∀ (n j : Nat), zs.length - i ≤ n → i ≤ j → (h : j < zs.length) → (zs[j] < x ↔ j < seek zs i x)
  | 0, j, hn, hij, h => by omega
  | n + 1, j, hn, hij, h => by
    have hi : i < zs.length := by omega
    by_cases hx : x ≤ zs[i]
    · rw [seek_hit hi hx]
      have : zs[i] ≤ zs[j] := by
        rcases Nat.eq_or_lt_of_le hij with e | e
        · subst e; exact Int.le_refl _
        · have := List.pairwise_iff_getElem.1 hs i j hi h e
          omega
      omega
    · rw [seek_miss hi hx]
      rcases Nat.eq_or_lt_of_le hij with e | e
      · subst e
        have hge : ∀ (m k : Nat), zs.length - k ≤ m → k ≤ zs.length → k ≤ seek zs k x := by
          intro m
          induction m with
          | zero => intro k h1 h2; rw [seek_end (by omega)]; exact h2
          | succ m ih =>
            intro k h1 h2
            by_cases hk : k < zs.length
            · by_cases hx' : x ≤ zs[k]
              · rw [seek_hit hk hx']; exact Nat.le_refl _
              · rw [seek_miss hk hx']
                have := ih (k + 1) (by omega) (by omega)
                omega
            · rw [seek_end hk]; exact h2
        have := hge zs.length (i + 1) (by omega) (by omega)
        omega
      · exact seek_parts hs n j (by omega) (by omega) h

end Go.Proofs.Ytfiilodghimajaa.Plain
