/-
  layer 14: which tries are valid, in plain words.
-/
import Derived.Test.YtkonafdbfciikaaTD
namespace Go.Proofs.Ytkonafdbfciikaa
open Go.RowKit
set_option linter.unusedSimpArgs false
set_option linter.unusedVariables false

/-- The lists of a level fit: a keys above. -/
def LenOK (a : Nat) (x : Level) : Prop := x.first.length = a + 1 ∧ ix x.first 0 = 0 ∧ ix x.first a = x.keys.length
def RiseOK (a : Nat) (x : Level) : Prop := ∀ i, i < a → ix x.first i < ix x.first (i + 1)
def SortOK (x : Level) : Prop := ∀ i, i + 1 < x.first.length → ∀ j : Nat, ix x.first i < j → (j : Int) < ix x.first (i + 1) → ix x.keys (j - 1) < ix x.keys j
/-- The levels from the k-th on, below a keys: b keys at the end. -/
def Shape : Nat → Nat → List Level → Nat → Prop
  | _, a, [], b => a = b
  | k, a, x :: r, b => LenOK a x ∧ (k = 0 ∨ RiseOK a x) ∧ Shape (k + 1) x.keys.length r b
def ValidT (t : Trie) : Prop := 1 ≤ t.levels.length ∧ t.levels.length ≤ 8 ∧ (∃ b, Shape 0 1 t.levels b ∧ b ≤ 20000) ∧ ∀ x ∈ t.levels, SortOK x
open Classical in
noncomputable def validB (t : Trie) : Bool := decide (ValidT t)

/-- In such a level the marks go from 0 to the number of keys, and never back. -/
theorem first_mono {a : Nat} {x : Level} (h : LenOK a x) (hr : a = 1 ∨ RiseOK a x) : ∀ i, i ≤ a → 0 ≤ ix x.first i ∧ ix x.first i ≤ x.keys.length := by
  have step : ∀ i, i < a → ix x.first i ≤ ix x.first (i + 1) := by
    intro i hi
    rcases hr with rfl | hr
    · obtain rfl : i = 0 := by omega
      rw [h.2.1, h.2.2]
      omega
    · have := hr i hi
      omega
  have up : ∀ i, i ≤ a → 0 ≤ ix x.first i := by
    intro i
    induction i with
    | zero => intro _; rw [h.2.1]; exact Int.le_refl _
    | succ i ih => intro hi; have := ih (by omega); have := step i (by omega); omega
  have down : ∀ d i, i + d = a → ix x.first i ≤ x.keys.length := by
    intro d
    induction d with
    | zero => intro i hi; have e : i = a := by omega
              rw [e, h.2.2]; exact Int.le_refl _
    | succ d ih => intro i hi; have := ih (i + 1) (by omega); have := step i (by omega); omega
  exact fun i hi => ⟨up i hi, down (a - i) i (by omega)⟩

/-- The number of keys above the k-th level. -/
def aboveN (l : List Level) : Nat → Nat
  | 0 => 1
  | k + 1 => (ix l k).keys.length
theorem shape_iff : ∀ (l : List Level) (k a b : Nat), Shape k a l b ↔ (∀ i, i < l.length → LenOK (if i = 0 then a else (ix l (i - 1)).keys.length) (ix l i) ∧ (k + i = 0 ∨ RiseOK (if i = 0 then a else (ix l (i - 1)).keys.length) (ix l i))) ∧ (if l = [] then a else (ix l (l.length - 1)).keys.length) = b
  | [], k, a, b => by simp [Shape]
  | x :: r, k, a, b => by
    rw [Shape, shape_iff r (k + 1) x.keys.length b]
    constructor
    · rintro ⟨h1, h2, h3, h4⟩
      refine ⟨fun i hi => ?_, ?_⟩
      · cases i with
        | zero => exact ⟨h1, h2⟩
        | succ i =>
          have h5 := h3 i (by simpa using hi)
          have e1 : ix (x :: r) (i + 1) = ix r i := rfl
          cases i with
          | zero => exact ⟨h5.1, h5.2.imp (fun h => by omega) id⟩
          | succ i =>
            have e2 : ix (x :: r) (i + 1) = ix r i := rfl
            simp only [Nat.add_one_ne_zero, if_false, Nat.add_sub_cancel] at h5 ⊢
            rw [e1, e2]
            exact ⟨h5.1, h5.2.imp (fun h => by omega) id⟩
      · rw [if_neg (by simp)]
        rw [← h4]
        cases r with
        | nil => rfl
        | cons y r => rw [if_neg (by simp)]; rfl
    · rintro ⟨h3, h4⟩
      have h0 := h3 0 (by simp)
      refine ⟨h0.1, h0.2, fun i hi => ?_, ?_⟩
      · have h5 := h3 (i + 1) (by simpa using hi)
        have e1 : ix (x :: r) (i + 1) = ix r i := rfl
        rw [e1] at h5
        cases i with
        | zero => exact ⟨h5.1, h5.2.imp (fun h => by omega) id⟩
        | succ i =>
          have e2 : ix (x :: r) (i + 1) = ix r i := rfl
          simp only [Nat.add_one_ne_zero, if_false, Nat.add_sub_cancel] at h5 ⊢
          rw [e2] at h5
          exact ⟨h5.1, h5.2.imp (fun h => by omega) id⟩
      · rw [if_neg (by simp)] at h4
        rw [← h4]
        cases r with
        | nil => rfl
        | cons y r => rw [if_neg (by simp)]; rfl
end Go.Proofs.Ytkonafdbfciikaa
