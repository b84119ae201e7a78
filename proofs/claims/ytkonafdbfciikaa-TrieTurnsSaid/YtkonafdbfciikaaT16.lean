/-
  layer 14: the library's SortFunc and CompactFunc on the call's own rows.
-/
import Derived.Test.YtkonafdbfciikaaT15
import Derived.Test.YtkonafdbfciikaaAmH
import Derived.Test.YtkonafdbfciikaaShelf
namespace Go.Proofs.Ytkonafdbfciikaa
open Go.RowKit
set_option linter.unusedSimpArgs false
set_option linter.unusedVariables false
set_option maxRecDepth 100000

theorem cmp_le_trans {a b c : List Int} (h1 : cmpL a b ≤ 0) (h2 : cmpL b c ≤ 0) : cmpL a c ≤ 0 := by
  rcases Int.lt_or_eq_of_le h1 with h1 | h1
  · rcases Int.lt_or_eq_of_le h2 with h2 | h2
    · exact Int.le_of_lt (cmpL_trans h1 h2)
    · rw [← cmpL_eq h2]; omega
  · rw [cmpL_eq h1]; exact h2
theorem swoL : Go.Sort.SWO (ltOf cmpL) where
  irrefl x := by unfold ltOf; rw [cmpL_refl]; rfl
  trans x y z h1 h2 := by
    unfold ltOf at h1 h2 ⊢
    simp only [decide_eq_true_eq] at h1 h2 ⊢
    exact cmpL_trans h1 h2
  ntrans x y z h1 h2 := by
    unfold ltOf at h1 h2 ⊢
    simp only [decide_eq_false_iff_not] at h1 h2 ⊢
    have a1 := cmpL_swap x y
    have a2 := cmpL_swap y z
    have a3 := cmpL_swap x z
    have := cmp_le_trans (a := z) (b := y) (c := x) (by omega) (by omega)
    omega
theorem totL (x y : List Int) (h1 : ltOf cmpL x y = false) (h2 : ltOf cmpL y x = false) : x = y := by
  unfold ltOf at h1 h2
  simp only [decide_eq_false_iff_not] at h1 h2
  have a1 := cmpL_swap x y
  exact cmpL_eq (by omega)
theorem sortFP : GenOK Try.prog G0 53 (sortG 54 SmallR cmpL) :=
  gen_sort1 Try.sortR rfl (fun _ => rfl) (fun _ => rfl) SmallR cmpL compareP (fun args w => run_callFunc Try.func54 (by decide) rfl args w) swoL totL
end Go.Proofs.Ytkonafdbfciikaa
