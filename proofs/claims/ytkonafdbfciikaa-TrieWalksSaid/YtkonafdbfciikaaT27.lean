/-
  layer 14: the rows of a trie, by the reference.
-/
import Derived.Test.YtkonafdbfciikaaT26
namespace Go.Proofs.Ytkonafdbfciikaa
open Go.RowKit
set_option linter.unusedSimpArgs false
set_option linter.unusedVariables false
set_option maxRecDepth 100000

def rng (a z : Nat) : List Nat := List.range' a (z - a)
theorem rng_nil {a z : Nat} (h : z ≤ a) : rng a z = [] := by unfold rng; rw [show z - a = 0 by omega]; rfl
theorem rng_snoc {a z : Nat} (h : a ≤ z) : rng a (z + 1) = rng a z ++ [z] := by
  unfold rng
  rw [show z + 1 - a = (z - a) + 1 by omega, List.range'_concat, show a + 1 * (z - a) = z by omega]
theorem rng_cons {a z : Nat} (h : a < z) : rng a z = a :: rng (a + 1) z := by
  unfold rng
  rw [show z - a = (z - (a + 1)) + 1 by omega, List.range'_succ]
def nA (l : List Int) (i : Nat) : Nat := (ix l i).toNat
/-- The rows below the i-th key of the first of these levels. -/
def subF : List Level → Nat → List (List Int)
  | [], _ => []
  | x :: [], i => [[ix x.keys i]]
  | x :: y :: r, i => ((rng (nA y.first i) (nA y.first (i + 1))).flatMap (subF (y :: r))).map (ix x.keys i :: ·)
/-- Where the leaves below the i-th key begin. -/
def leaf : List Level → Nat → Nat
  | [], i => i
  | _ :: [], i => i
  | _ :: y :: r, i => leaf (y :: r) (nA y.first i)
def Tree : List Level → Prop
  | [] => False
  | _ :: [] => True
  | x :: y :: r => (∀ i, i < x.keys.length → nA y.first i ≤ nA y.first (i + 1) ∧ nA y.first (i + 1) ≤ y.keys.length) ∧ nA y.first 0 ≤ y.keys.length ∧ Tree (y :: r)
theorem leaf_mono : ∀ {l : List Level}, Tree l → ∀ {i j : Nat}, i ≤ j → j ≤ (ix l 0).keys.length → leaf l i ≤ leaf l j
  | [], h, _, _, _, _ => h.elim
  | x :: [], _, i, j, hij, _ => hij
  | x :: y :: r, ⟨h1, h0, h2⟩, i, j, hij, hj => by
    have step : ∀ d, i + d ≤ x.keys.length → nA y.first i ≤ nA y.first (i + d) ∧ (1 ≤ d → nA y.first (i + d) ≤ y.keys.length) := by
      intro d
      induction d with
      | zero => intro _; exact ⟨Nat.le_refl _, fun h => by omega⟩
      | succ d ih =>
        intro hd
        have a1 := ih (by omega)
        have a2 := h1 (i + d) (by omega)
        rw [show i + (d + 1) = i + d + 1 by omega]
        exact ⟨by omega, fun _ => a2.2⟩
    rcases Nat.lt_or_eq_of_le hij with h | rfl
    · have := step (j - i) (by show _ ≤ _; have : (ix (x :: y :: r) 0).keys.length = x.keys.length := rfl; omega)
      rw [show i + (j - i) = j by omega] at this
      exact leaf_mono h2 this.1 (this.2 (by omega))
    · exact Nat.le_refl _
theorem sub_len : ∀ {l : List Level}, Tree l → ∀ {a z : Nat}, a ≤ z → z ≤ (ix l 0).keys.length → ((rng a z).flatMap (subF l)).length + leaf l a = leaf l z
  | [], h, _, _, _, _ => h.elim
  | x :: [], h, a, z, haz, hz => by
    have key : ∀ d, ((rng a (a + d)).flatMap (subF [x])).length = d := by
      intro d
      induction d with
      | zero => rw [rng_nil (by omega)]; rfl
      | succ d ih => rw [show a + (d + 1) = a + d + 1 by omega, rng_snoc (by omega), List.flatMap_append, List.length_append, ih]; rfl
    have := key (z - a)
    rw [show a + (z - a) = z by omega] at this
    rw [this]
    show z - a + a = z
    omega
  | x :: y :: r, ⟨h1, h0, h2⟩, a, z, haz, hz => by
    have key : ∀ d, a + d ≤ x.keys.length → ((rng a (a + d)).flatMap (subF (x :: y :: r))).length + leaf (x :: y :: r) a = leaf (x :: y :: r) (a + d) := by
      intro d
      induction d with
      | zero => intro _; rw [rng_nil (by omega)]; exact Nat.zero_add _
      | succ d ih =>
        intro hd
        have a1 := ih (by omega)
        have a2 := h1 (a + d) (by omega)
        have a3 := sub_len h2 a2.1 a2.2
        rw [show a + (d + 1) = a + d + 1 by omega, rng_snoc (by omega), List.flatMap_append, List.length_append, List.flatMap_cons, List.flatMap_nil, List.append_nil]
        rw [subF, List.length_map]
        simp only [leaf] at a1 ⊢
        omega
    have := key (z - a) (by show _ ≤ _; have : (ix (x :: y :: r) 0).keys.length = x.keys.length := rfl; omega)
    rwa [show a + (z - a) = z by omega] at this
theorem leaf_top : ∀ {l : List Level}, Tree l → ∀ {i m : Nat}, (∀ x ∈ l, x.keys.length ≤ m) → i ≤ (ix l 0).keys.length → leaf l i ≤ m
  | [], h, _, _, _, _ => h.elim
  | x :: [], h, i, m, hm, hi => Nat.le_trans hi (hm x (by simp))
  | x :: y :: r, ⟨h1, h0, h2⟩, i, m, hm, hi => by
    refine leaf_top h2 (fun z hz => hm z (List.mem_cons_of_mem _ hz)) ?_
    cases i with
    | zero => exact h0
    | succ i => exact (h1 i (by have : (ix (x :: y :: r) 0).keys.length = x.keys.length := rfl; omega)).2
theorem drop_ix {l : List Level} {k : Nat} (h : k < l.length) : l.drop k = ix l k :: l.drop (k + 1) := by
  rw [List.drop_eq_getElem_cons h, ix_lt h]
theorem valid_tree {t : Trie} (hv : ValidT t) : ∀ d k, t.levels.length = k + 1 + d → Tree (t.levels.drop k)
  | 0, k, h => by
    rw [drop_ix (by omega), List.drop_eq_nil_of_le (by omega)]
    trivial
  | d + 1, k, h => by
    have ih := valid_tree hv d (k + 1) (by omega)
    have hk : k + 1 < t.levels.length := by omega
    rw [drop_ix (by omega)]
    rw [drop_ix (by omega)] at ih ⊢
    refine ⟨fun i hi => ?_, ?_, ih⟩
    · obtain ⟨_, f2, _, _⟩ := group_below hv hk hi
      obtain ⟨g1, g2, _⟩ := group_facts hv f2
      exact ⟨g1, g2⟩
    · have := (valid_first hv hk).1
      have := (valid_first hv hk).2 0 (by omega)
      unfold nA
      omega
/-- How many rows there are below the keys a to z. -/
theorem sub_few {t : Trie} (hv : ValidT t) (hT : SmallT t) {k a z : Nat} (hk : k < t.levels.length) (h1 : a ≤ z) (h2 : z ≤ (ix t.levels k).keys.length) : ((rng a z).flatMap (subF (t.levels.drop k))).length ≤ 1000000 := by
  have ht := valid_tree hv (t.levels.length - 1 - k) k (by omega)
  have e : ix (t.levels.drop k) 0 = ix t.levels k := by rw [drop_ix hk]; rfl
  have l1 := sub_len ht h1 (by rw [e]; exact h2)
  have l2 := leaf_top ht (i := z) (m := 1000000) (fun x hx => (hT.2 x (List.mem_of_mem_drop hx)).1) (by rw [e]; exact h2)
  omega
theorem sub_row : ∀ {l : List Level}, Tree l → ∀ {i : Nat} {r : List Int}, r ∈ subF l i → r.length = l.length
  | [], h, _, _, _ => h.elim
  | x :: [], h, i, r, hr => by
    rw [subF, List.mem_singleton] at hr
    rw [hr]; rfl
  | x :: y :: q, ⟨h1, h0, h2⟩, i, r, hr => by
    rw [subF, List.mem_map] at hr
    obtain ⟨r', hr', rfl⟩ := hr
    rw [List.mem_flatMap] at hr'
    obtain ⟨j, _, hj⟩ := hr'
    have := sub_row h2 hj
    simp only [List.length_cons] at this ⊢
    omega
theorem sub_one {t : Trie} (hv : ValidT t) (hT : SmallT t) {k i : Nat} (hk : k < t.levels.length) (hi : i < (ix t.levels k).keys.length) : (subF (t.levels.drop k) i).length ≤ 1000000 := by
  have := sub_few hv hT hk (Nat.le_succ i) hi
  rwa [rng_cons (Nat.lt_succ_self i), rng_nil (Nat.le_refl _), List.flatMap_cons, List.flatMap_nil, List.append_nil] at this
theorem sub_drop {t : Trie} {k i : Nat} (hk : k + 1 < t.levels.length) : subF (t.levels.drop k) i = ((rng (nA (ix t.levels (k + 1)).first i) (nA (ix t.levels (k + 1)).first (i + 1))).flatMap (subF (t.levels.drop (k + 1)))).map (ix (ix t.levels k).keys i :: ·) := by
  rw [drop_ix (show k < t.levels.length by omega), drop_ix hk, subF]
theorem sub_last {t : Trie} {k i : Nat} (hk : k + 1 = t.levels.length) : subF (t.levels.drop k) i = [[ix (ix t.levels k).keys i]] := by
  rw [drop_ix (show k < t.levels.length by omega), List.drop_eq_nil_of_le (by omega), subF]
end Go.Proofs.Ytkonafdbfciikaa
