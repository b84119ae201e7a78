/-
  nat: numbers and their limbs, plainly.
-/
import Derived.Test.YtankjfiaajpfoaaDoorT
namespace Go.Proofs.YtankjfiaajpfoaaDoor
open Go.RowKit

set_option linter.unusedVariables false
def B9 : Nat := 1000000000
def val : List Int → Nat
  | [] => 0
  | x :: r => x.toNat + B9 * val r
def canon (n : Nat) : List Int := if h : n = 0 then [] else ((n % B9 : Nat) : Int) :: canon (n / B9)
termination_by n
decreasing_by exact Nat.div_lt_self (Nat.pos_of_ne_zero h) (show 1 < B9 by decide)

def validR (a : List Int) : Bool := decide (a.length ≤ 64 ∧ (∀ x ∈ a, 0 ≤ x ∧ x < 1000000000) ∧ (a ≠ [] → ix a (a.length - 1) ≠ 0))
def Good (l : List Int) : Prop := ∀ x ∈ l, 0 ≤ x ∧ x < 1000000000
def Norm (l : List Int) : Prop := l ≠ [] → ix l (l.length - 1) ≠ 0

theorem validR_iff {a : List Int} : validR a = true ↔ a.length ≤ 64 ∧ Good a ∧ Norm a := by simp only [validR, decide_eq_true_eq]; rfl
/-- The number as it is taken: none when it is not one. -/
def numL (a : List Int) : List Int := if validR a then a else []
theorem numL_len (a : List Int) : (numL a).length ≤ 64 := by
  unfold numL; split
  · rename_i h; exact (validR_iff.1 h).1
  · simp
theorem Good.tail {x : Int} {l : List Int} (h : Good (x :: l)) : Good l := fun y hy => h y (List.mem_cons_of_mem _ hy)
theorem Good.head {x : Int} {l : List Int} (h : Good (x :: l)) : 0 ≤ x ∧ x < 1000000000 := h x (by simp)
theorem good_nil : Good [] := fun x hx => by simp at hx
theorem good_cons {x : Int} {l : List Int} (h : 0 ≤ x ∧ x < 1000000000) (hl : Good l) : Good (x :: l) := fun y hy => by
  rcases List.mem_cons.1 hy with h' | h'
  · subst h'; exact h
  · exact hl y h'
theorem good_append {l m : List Int} (h : Good l) (h' : Good m) : Good (l ++ m) := fun y hy => by
  rcases List.mem_append.1 hy with h1 | h1
  · exact h y h1
  · exact h' y h1
theorem good_take {l : List Int} (n : Nat) (h : Good l) : Good (l.take n) := fun y hy => h y (List.mem_of_mem_take hy)

theorem canon_zero : canon 0 = [] := by rw [canon]; simp
theorem canon_pos {n : Nat} (h : n ≠ 0) : canon n = ((n % B9 : Nat) : Int) :: canon (n / B9) := by rw [canon]; simp [h]

theorem val_append : ∀ (l m : List Int), val (l ++ m) = val l + B9 ^ l.length * val m
  | [], m => by simp [val]
  | x :: r, m => by
    rw [List.cons_append, val, val, val_append r m, List.length_cons, Nat.pow_succ, Nat.mul_add, Nat.add_assoc]
    congr 2
    rw [Nat.mul_comm (B9 ^ r.length) B9, Nat.mul_assoc]

theorem val_lt : ∀ {l : List Int}, Good l → val l < B9 ^ l.length
  | [], _ => by simp [val]
  | x :: r, h => by
    have h1 := h.head
    have h2 := val_lt h.tail
    rw [val, List.length_cons, Nat.pow_succ]
    have h3 : B9 * val r + B9 ≤ B9 * B9 ^ r.length := by rw [← Nat.mul_succ]; exact Nat.mul_le_mul_left _ h2
    have h4 : x.toNat < B9 := by unfold B9; omega
    rw [Nat.mul_comm (B9 ^ r.length)]
    omega

theorem canon_good : ∀ (n : Nat), Good (canon n) := by
  intro n
  induction n using Nat.strongRecOn with
  | _ n ih =>
    by_cases h : n = 0
    · subst h; rw [canon_zero]; exact good_nil
    · rw [canon_pos h]
      refine good_cons ?_ (ih _ (Nat.div_lt_self (Nat.pos_of_ne_zero h) (show 1 < B9 by decide)))
      have : n % B9 < B9 := Nat.mod_lt _ (by decide)
      unfold B9 at this ⊢
      omega

theorem val_canon (n : Nat) : val (canon n) = n := by
  induction n using Nat.strongRecOn with
  | _ n ih =>
    by_cases h : n = 0
    · subst h; rw [canon_zero]; rfl
    · rw [canon_pos h, val, ih _ (Nat.div_lt_self (Nat.pos_of_ne_zero h) (show 1 < B9 by decide))]
      have := Nat.mod_add_div n B9
      omega

theorem norm_tail {x y : Int} {r : List Int} (h : Norm (x :: y :: r)) : Norm (y :: r) := fun _ => by
  have := h (by simp)
  simpa [ix] using this

theorem val_pos : ∀ {l : List Int}, Good l → Norm l → l ≠ [] → val l ≠ 0
  | [x], hg, hn, _ => by
    have := hg.head
    have h := hn (by simp)
    simp [ix] at h
    simp [val]
    omega
  | x :: y :: r, hg, hn, _ => by
    have := val_pos hg.tail (norm_tail hn) (by simp)
    rw [val]
    have : B9 * val (y :: r) ≠ 0 := Nat.mul_ne_zero (by decide) this
    omega

theorem canon_val : ∀ {l : List Int}, Good l → Norm l → canon (val l) = l
  | [], _, _ => canon_zero
  | x :: r, hg, hn => by
    have h1 := hg.head
    have h4 : x.toNat < B9 := by unfold B9; omega
    rw [canon_pos (val_pos hg hn (by simp)), val]
    have h5 : (x.toNat + B9 * val r) % B9 = x.toNat := by rw [Nat.add_mul_mod_self_left, Nat.mod_eq_of_lt h4]
    have h6 : (x.toNat + B9 * val r) / B9 = val r := by rw [Nat.add_mul_div_left _ _ (by decide), Nat.div_eq_of_lt h4, Nat.zero_add]
    rw [h5, h6]
    have h7 : canon (val r) = r := by
      cases r with
      | nil => exact canon_zero
      | cons y r => exact canon_val hg.tail (norm_tail hn)
    rw [h7]
    congr 1
    omega

theorem numL_good (a : List Int) : Good (numL a) := by
  unfold numL; split
  · rename_i h; exact (validR_iff.1 h).2.1
  · exact good_nil
theorem numL_norm (a : List Int) : Norm (numL a) := by
  unfold numL; split
  · rename_i h; exact (validR_iff.1 h).2.2
  · exact fun h => absurd rfl h
def nv (a : List Int) : Nat := val (numL a)
theorem canon_nv (a : List Int) : canon (nv a) = numL a := canon_val (numL_good a) (numL_norm a)

theorem canon_norm (n : Nat) : Norm (canon n) := by
  induction n using Nat.strongRecOn with
  | _ n ih =>
    by_cases h : n = 0
    · subst h; rw [canon_zero]; exact fun h => absurd rfl h
    · rw [canon_pos h]
      intro _
      have hi := ih _ (Nat.div_lt_self (Nat.pos_of_ne_zero h) (show 1 < B9 by decide))
      by_cases h' : n / B9 = 0
      · rw [h', canon_zero]
        have : n < B9 := by
          rcases Nat.lt_or_ge n B9 with h | h
          · exact h
          · have := Nat.div_pos h (show 0 < B9 by decide); omega
        simp [ix, Nat.mod_eq_of_lt this, h]
      · rw [canon_pos h'] at hi ⊢
        have := hi (by simp)
        simpa [ix] using this

theorem canon_len : ∀ (k n : Nat), n < B9 ^ k → (canon n).length ≤ k
  | 0, n, h => by
    have : n = 0 := by simpa using h
    subst this; rw [canon_zero]; simp
  | k + 1, n, h => by
    by_cases h0 : n = 0
    · subst h0; rw [canon_zero]; simp
    · rw [canon_pos h0, List.length_cons]
      have := canon_len k (n / B9) (Nat.div_lt_of_lt_mul (by rw [Nat.mul_comm]; rwa [Nat.pow_succ] at h))
      omega

theorem ix_set {l : List Int} {i j : Nat} {v : Int} (h : i < l.length) : ix (l.set i v) j = if i = j then v else ix l j := by
  unfold ix
  rw [List.getD_eq_getElem?_getD, List.getD_eq_getElem?_getD, List.getElem?_set]
  split
  · first | rfl | (rw [if_pos h]; rfl)
  · rfl

theorem val_take_succ {l : List Int} {i : Nat} (h : i < l.length) : val (l.take (i + 1)) = val (l.take i) + B9 ^ i * (ix l i).toNat := by
  rw [List.take_add_one, val_append, List.getElem?_eq_getElem h, ix_lt h]
  simp [val, Nat.min_eq_left (Nat.le_of_lt h)]

theorem val_take_le {l : List Int} {i : Nat} (h : l.length ≤ i) : val (l.take i) = val l := by rw [List.take_of_length_le h]

theorem val_set : ∀ {l : List Int} {k : Nat} {v : Int}, k < l.length → val (l.set k v) + B9 ^ k * (ix l k).toNat = val l + B9 ^ k * v.toNat
  | x :: r, 0, v, _ => by simp [val, ix]; omega
  | x :: r, k + 1, v, h => by
    have := val_set (l := r) (k := k) (v := v) (by simpa using h)
    have e : ix (x :: r) (k + 1) = ix r k := by simp [ix]
    rw [e, List.set_cons_succ, val, val, Nat.pow_succ, Nat.mul_comm (B9 ^ k) B9, Nat.mul_assoc, Nat.mul_assoc]
    have h2 : B9 * (val (r.set k v) + B9 ^ k * (ix r k).toNat) = B9 * (val r + B9 ^ k * v.toNat) := by rw [this]
    rw [Nat.mul_add, Nat.mul_add] at h2
    omega

theorem ix_good {l : List Int} (h : Good l) {i : Nat} (hi : i < l.length) : 0 ≤ ix l i ∧ ix l i < 1000000000 := h _ (ix_mem hi)
theorem ix_out {l : List Int} {i : Nat} (hi : l.length ≤ i) : ix l i = 0 := by unfold ix; rw [List.getD_eq_getElem?_getD, List.getElem?_eq_none hi]; rfl
theorem good_set {l : List Int} {i : Nat} {v : Int} (h : Good l) (hv : 0 ≤ v ∧ v < 1000000000) : Good (l.set i v) := fun x hx => by
  rcases List.mem_or_eq_of_mem_set hx with h' | h'
  · exact h x h'
  · subst h'; exact hv

/-- The top limb weighs what it weighs. -/
theorem val_top {l : List Int} (hg : Good l) (hn : Norm l) (h : l ≠ []) : B9 ^ (l.length - 1) ≤ val l := by
  have h0 : 0 < l.length := List.length_pos_iff.2 h
  have h1 := val_take_succ (l := l) (i := l.length - 1) (by omega)
  rw [Nat.sub_add_cancel h0, List.take_length] at h1
  have h2 := hn h
  have h3 := ix_good hg (i := l.length - 1) (by omega)
  have h4 : 1 ≤ (ix l (l.length - 1)).toNat := by omega
  have h5 := Nat.mul_le_mul_left (B9 ^ (l.length - 1)) h4
  omega
theorem norm_of_val {l : List Int} (hg : Good l) (h : l ≠ [] → B9 ^ (l.length - 1) ≤ val l) : Norm l := fun hne hz => by
  have h0 : 0 < l.length := List.length_pos_iff.2 hne
  have h1 := val_take_succ (l := l) (i := l.length - 1) (by omega)
  rw [Nat.sub_add_cancel h0, List.take_length, hz] at h1
  have h2 := val_lt (good_take (l.length - 1) hg)
  rw [List.length_take, Nat.min_eq_left (Nat.sub_le _ _)] at h2
  have := h hne
  simp at h1
  omega

theorem step_mul (vo vo' W on r q x y c V vy Bi Bj B : Nat) (hW : W = Bi * Bj) (e1 : vo' + W * on = vo + W * r) (e2 : r + B * q = on + x * y + c) (h : vo + c * W = V + x * Bi * vy) : vo' + q * (W * B) = V + x * Bi * (vy + Bj * y) := by grind
theorem step_row (vo vo' W on c V x Bi vy vx : Nat) (e1 : vo' + W * on = vo + W * c) (h0 : on = 0) (h : vo + c * W = V * vy + x * Bi * vy) (h1 : vx = V + Bi * x) : vo' = vx * vy := by grind
theorem val_rep (n : Nat) : val (List.replicate n 0) = 0 := by
  induction n with
  | zero => rfl
  | succ n ih => rw [List.replicate_succ, val, ih]; rfl
theorem good_rep (n : Nat) : Good (List.replicate n 0) := fun x hx => by rw [(List.mem_replicate.1 hx).2]; omega
theorem ix_rep (n k : Nat) : ix (List.replicate n (0 : Int)) k = 0 := by
  unfold ix
  rw [List.getD_eq_getElem?_getD, List.getElem?_replicate]
  split <;> rfl
theorem mul_lim {a b : Int} (ha : 0 ≤ a ∧ a < 1000000000) (hb : 0 ≤ b ∧ b < 1000000000) : 0 ≤ a * b ∧ a * b ≤ 999999998000000001 := by
  refine ⟨Int.mul_nonneg ha.1 hb.1, ?_⟩
  have h1 : a * b ≤ 999999999 * b := Int.mul_le_mul_of_nonneg_right (by omega) hb.1
  omega

theorem ix_good' {l : List Int} (h : Good l) (i : Nat) : 0 ≤ ix l i ∧ ix l i < 1000000000 := by
  rcases Nat.lt_or_ge i l.length with hi | hi
  · exact ix_good h hi
  · rw [ix_out hi]; omega
theorem val_take_succ' (l : List Int) (i : Nat) : val (l.take (i + 1)) = val (l.take i) + B9 ^ i * (ix l i).toNat := by
  rcases Nat.lt_or_ge i l.length with hi | hi
  · exact val_take_succ hi
  · rw [ix_out hi, List.take_of_length_le (by omega), List.take_of_length_le hi]; simp
theorem step_add (vo W r q B vx vy xi yi c : Nat) (h : vo + c * W = vx + vy) (e : r + B * q = xi + yi + c) : vo + W * r + q * (W * B) = (vx + W * xi) + (vy + W * yi) := by grind
theorem val_snoc (l : List Int) (x : Int) : val (l ++ [x]) = val l + B9 ^ l.length * x.toNat := by rw [val_append]; simp [val]
theorem B9_le {m n : Nat} (h : m ≤ n) : B9 ^ m ≤ B9 ^ n := Nat.pow_le_pow_right (by decide) h
theorem tmod9 {s : Int} (hs : 0 ≤ s) : s.tmod 1000000000 = s % 1000000000 := Int.tmod_eq_emod_of_nonneg hs
theorem tdiv9 {s : Int} (hs : 0 ≤ s) : s.tdiv 1000000000 = s / 1000000000 := Int.tdiv_eq_ediv_of_nonneg hs

theorem step_sub (vo W r bo' B vx vy xi yi bo : Nat) (h : vo + vy = vx + bo * W) (e : r + yi + bo = xi + B * bo') : (vo + W * r) + (vy + W * yi) = (vx + W * xi) + bo' * (W * B) := by grind
theorem canon_mono {m n : Nat} (h : m ≤ n) : (canon m).length ≤ (canon n).length := canon_len _ _ (by
  have := val_lt (canon_good n)
  rw [val_canon] at this
  omega)
theorem val_lt64 {l : List Int} (hg : Good l) (h : l.length ≤ 64) : val l < B9 ^ 64 := Nat.lt_of_lt_of_le (val_lt hg) (B9_le h)

/-- What comes back of a number that may be too long. -/
def fitT (n : Nat) : AV := .tup [Enc.enc (if (canon n).length ≤ 64 then canon n else []), .bool (decide ((canon n).length ≤ 64))]

theorem fitT_of {n : Nat} {l : List Int} (h : canon n = l) : fitT n = .tup [.slice 1 false (encRows (if l.length ≤ 64 then l else [])), .bool (decide (l.length ≤ 64))] := by rw [fitT, h]; rfl

theorem take_set_succ {α : Type} {l : List α} {i : Nat} {v : α} (h : i < l.length) : (l.set i v).take (i + 1) = l.take i ++ [v] := by
  rw [List.take_add_one, List.getElem?_set_self h, List.take_set_of_le (Nat.le_refl i)]; rfl

theorem take_snoc {α : Type} [Inhabited α] {l : List α} {i : Nat} (h : i < l.length) : l.take (i + 1) = l.take i ++ [ix l i] := by
  rw [List.take_add_one, List.getElem?_eq_getElem h, ix_lt h]; rfl

end Go.Proofs.YtankjfiaajpfoaaDoor
