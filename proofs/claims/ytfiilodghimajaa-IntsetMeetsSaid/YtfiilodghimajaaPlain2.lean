/-
  Sorting and compacting a list gives the reference's set. Plain lists.
-/
import Derived.Lib.SlicesCompact
import Derived.Test.YtfiilodghimajaaPlain
namespace Go.Proofs.Ytfiilodghimajaa.Plain
open Go.Lib

theorem compactUpTo_sorted (d : Array Int) (hs : ∀ i j, i < j → j < d.size → d[i]! ≤ d[j]!) : ∀ m, m ≤ d.size →
    (compactUpTo d m).Pairwise (· < ·) ∧ ∀ z, z ∈ compactUpTo d m ↔ ∃ j, j < m ∧ d[j]! = z
  | 0, _ => by simp [compactUpTo]
  | m + 1, h => by
    obtain ⟨h1, h2⟩ := compactUpTo_sorted d hs m (by omega)
    rw [compactUpTo_succ]
    by_cases hk : keeps d m = true
    · rw [if_pos hk]
      refine ⟨List.pairwise_append.2 ⟨h1, List.pairwise_singleton _ _, fun a ha b hb => ?_⟩, fun z => ?_⟩
      · rw [List.mem_singleton] at hb
        subst hb
        obtain ⟨j, hj, rfl⟩ := (h2 a).1 ha
        have hne : d[m]! ≠ d[m - 1]! := by
          simp [keeps] at hk
          rcases hk with hk | hk
          · omega
          · exact hk
        have hle : d[j]! ≤ d[m - 1]! := by
          by_cases e : j = m - 1
          · rw [e]; omega
          · exact hs j (m - 1) (by omega) (by omega)
        have := hs (m - 1) m (by omega) (by omega)
        omega
      · simp only [List.mem_append, h2, List.mem_singleton]
        constructor
        · rintro (⟨j, hj, e⟩ | e)
          · exact ⟨j, by omega, e⟩
          · exact ⟨m, by omega, e.symm⟩
        · rintro ⟨j, hj, e⟩
          by_cases e' : j = m
          · subst e'; exact .inr e.symm
          · exact .inl ⟨j, by omega, e⟩
    · rw [if_neg hk, List.append_nil]
      refine ⟨h1, fun z => ?_⟩
      rw [h2]
      constructor
      · rintro ⟨j, hj, e⟩
        exact ⟨j, by omega, e⟩
      · rintro ⟨j, hj, e⟩
        by_cases e' : j = m
        · subst e'
          simp [keeps] at hk
          exact ⟨j - 1, by omega, by rw [← hk.2]; exact e⟩
        · exact ⟨j, by omega, e⟩

theorem compact_sort (zs : List Int) : compact (zs.mergeSort fun x y => decide (x ≤ y)) = of zs := by
  have hp := List.pairwise_mergeSort (le := fun x y : Int => decide (x ≤ y)) (fun a b c h1 h2 => by simp at *; omega) (fun a b => by simp; omega) zs
  have hq := List.mergeSort_perm zs (fun x y => decide (x ≤ y))
  generalize zs.mergeSort (fun x y => decide (x ≤ y)) = s at hp hq
  have hd : ∀ i j, i < j → j < s.toArray.size → s.toArray[i]! ≤ s.toArray[j]! := by
    intro i j hij hj
    have hj' : j < s.length := by simpa using hj
    have := List.pairwise_iff_getElem.1 hp i j (by omega) hj' hij
    simpa [getElem!_pos, show i < s.length by omega, hj'] using this
  obtain ⟨h1, h2⟩ := compactUpTo_sorted s.toArray hd s.length (by simp)
  refine sorted_ext h1 (of_sorted zs) fun z => ?_
  show z ∈ compactUpTo s.toArray s.length ↔ _
  rw [h2, mem_of, ← hq.mem_iff]
  constructor
  · rintro ⟨j, hj, e⟩
    rw [← e]
    simp [getElem!_pos, hj]
  · intro hz
    obtain ⟨j, hj, e⟩ := List.getElem_of_mem hz
    exact ⟨j, hj, by simp [getElem!_pos, hj, e]⟩

theorem of_valid {zs : List Int} (h : valid zs = true) : of zs = zs :=
  sorted_ext (of_sorted zs) (of_decide_eq_true h) (mem_of zs)

end Go.Proofs.Ytfiilodghimajaa.Plain
