/-
  layer 14: columns turned and turned back.
-/
import Derived.Test.YtkonafdbfciikaaT44
namespace Go.Proofs.Ytkonafdbfciikaa
open Go.RowKit
set_option linter.unusedSimpArgs false
set_option linter.unusedVariables false
set_option maxRecDepth 100000

theorem perm_of_mem : ∀ (n : Nat) (o : List Int), o.length = n → (∀ v : Nat, v < n → (v : Int) ∈ o) → (rangeZ n).Perm o
  | 0, o, h, _ => by rw [List.eq_nil_of_length_eq_zero h]; exact List.Perm.refl _
  | n + 1, o, h, hc => by
    have hm := hc n (Nat.lt_succ_self n)
    have ih := perm_of_mem n (o.erase (n : Int)) (by rw [List.length_erase_of_mem hm, h]; rfl) fun v hv =>
      (List.mem_erase_of_ne (by intro e; omega)).2 (hc v (by omega))
    rw [rangeZ_succ]
    exact (List.perm_append_comm.trans (List.Perm.cons (n : Int) ih)).trans (List.perm_cons_erase hm).symm
theorem rangeZ_nodup (n : Nat) : (rangeZ n).Nodup := by
  unfold rangeZ List.Nodup
  rw [List.pairwise_map, List.pairwise_iff_getElem]
  intro i j hi hj hij
  simp
  omega
theorem perm_nodup {n : Nat} {o : List Int} (h : PermOK n o) : o.Nodup := by
  have h2 := (sortI_perm o).nodup_iff
  rw [h.2] at h2
  exact h2.1 (rangeZ_nodup n)
theorem perm_inj {n : Nat} {o : List Int} (h : PermOK n o) {i j : Nat} (hi : i < n) (hj : j < n) (e : ix o i = ix o j) : i = j := by
  have hl := h.1
  have hn := List.pairwise_iff_getElem.1 (perm_nodup h)
  rw [ix_lt (by omega), ix_lt (by omega)] at e
  rcases Nat.lt_trichotomy i j with h1 | h1 | h1
  · exact absurd e (hn i j (by omega) (by omega) h1)
  · exact h1
  · exact absurd e.symm (hn j i (by omega) (by omega) h1)
theorem perm_at {n : Nat} {o : List Int} (h : PermOK n o) {i : Nat} (hi : i < n) : ∃ j, j < n ∧ ix o j = (i : Int) := by
  have hm : (i : Int) ∈ o := (sortI_perm o).mem_iff.1 (by rw [h.2]; exact List.mem_map.2 ⟨i, List.mem_range.2 hi, rfl⟩)
  obtain ⟨j, hj, e⟩ := List.getElem_of_mem hm
  exact ⟨j, by have := h.1; omega, by rw [ix_lt hj]; exact e⟩

def backQ (o : List Int) (m : Nat) : Nat → List Int
  | 0 => List.replicate m 0
  | q + 1 => (backQ o m q).set (ix o q).toNat q
theorem backQ_len (o : List Int) (m : Nat) : ∀ q, (backQ o m q).length = m
  | 0 => by rw [backQ, List.length_replicate]
  | q + 1 => by rw [backQ, List.length_set, backQ_len o m q]
theorem backQ_at {o : List Int} {m : Nat} (h : PermOK m o) : ∀ q, q ≤ m → ∀ j, j < q → ix (backQ o m q) (ix o j).toNat = (j : Int)
  | 0, _, j, hj => absurd hj (Nat.not_lt_zero j)
  | q + 1, hq, j, hj => by
    have hl := h.1
    obtain ⟨a1, a2⟩ := perm_mem h (ix_mem (show q < o.length by omega))
    obtain ⟨b1, b2⟩ := perm_mem h (ix_mem (show j < o.length by omega))
    have hbl := backQ_len o m q
    rw [backQ]
    rcases Nat.lt_or_eq_of_le (Nat.le_of_lt_succ hj) with h1 | h1
    · have ih := backQ_at h q (by omega) j h1
      rw [← ih]
      unfold ix
      simp only [List.getD_eq_getElem?_getD]
      rw [List.getElem?_set_ne]
      intro e
      have := perm_inj h (i := q) (j := j) (by omega) (by omega) (by unfold ix at *; simp only [List.getD_eq_getElem?_getD] at *; omega)
      omega
    · subst h1
      unfold ix
      simp only [List.getD_eq_getElem?_getD]
      rw [List.getElem?_set_self (by unfold ix at *; simp only [List.getD_eq_getElem?_getD] at *; omega)]
      rfl
/-- The order that turns back. -/
def backO (o : List Int) (m : Nat) : List Int := backQ o m m
theorem backO_len (o : List Int) (m : Nat) : (backO o m).length = m := backQ_len o m m
theorem backO_at {o : List Int} {m j : Nat} (h : PermOK m o) (hj : j < m) : ix (backO o m) (ix o j).toNat = (j : Int) := backQ_at h m (Nat.le_refl _) j hj
theorem backO_ok {o : List Int} {m : Nat} (h : PermOK m o) : PermOK m (backO o m) := by
  refine ⟨backO_len o m, sortI_eq (perm_of_mem m _ (backO_len o m) fun v hv => ?_) (rangeZ_sorted m)⟩
  have hl := h.1
  obtain ⟨a1, a2⟩ := perm_mem h (ix_mem (show v < o.length by omega))
  rw [← backO_at h hv]
  exact ix_mem (by rw [backO_len]; omega)
theorem permRow_ix {o row : List Int} {i : Nat} (h : i < o.length) : ix (permRow o row) i = ix row (ix o i).toNat := by
  unfold permRow
  rw [ix_lt (by simpa using h), ix_lt h]
  simp
theorem turn_back {o row : List Int} {m : Nat} (h : PermOK m o) (hr : row.length = m) : permRow (backO o m) (permRow o row) = row := by
  have hl := h.1
  refine List.ext_getElem (by unfold permRow; rw [List.length_map, backO_len, hr]) fun i h1 h2 => ?_
  obtain ⟨j, hj, e⟩ := perm_at h (i := i) (by omega)
  have hb := backO_at h hj
  rw [e, Int.toNat_natCast] at hb
  have hib : i < (backO o m).length := by rw [backO_len]; omega
  rw [← ix_lt h1, permRow_ix hib, hb, Int.toNat_natCast, permRow_ix (by omega), e, Int.toNat_natCast, ix_lt h2]
theorem rises_rise {l : List (List Int)} (h : RisesR l) : Rise l := by
  have key : ∀ d i, i + d + 1 < l.length → cmpL (ix l i) (ix l (i + d + 1)) < 0 := by
    intro d
    induction d with
    | zero => intro i hi; exact h i hi
    | succ d ih => intro i hi; exact cmpL_trans (ih i (by omega)) (h (i + d + 1) (by omega))
  refine List.pairwise_iff_getElem.2 fun i j hi hj hij => ?_
  have := key (j - i - 1) i (by omega)
  rw [show i + (j - i - 1) + 1 = j by omega, ix_lt hi, ix_lt hj] at this
  exact this
theorem rise_rises {l : List (List Int)} (h : Rise l) : RisesR l := fun i hi => by
  have h2 := List.pairwise_iff_getElem.1 h i (i + 1) (by omega) hi (by omega)
  rwa [← ix_lt, ← ix_lt] at h2
/-- Turned and turned back: the relation. -/
theorem turn_rel {r p : Rela} {o : List Int} (hp : permF r o = (p, 0)) : ∃ m : Nat, o.length = m ∧ PermOK m o ∧ permF p (backO o m) = (r, 0) ∧ p.rows.length = r.rows.length := by
  by_cases hc : checkF r = 0
  case neg =>
    unfold permF at hp
    rw [if_neg hc] at hp
    injection hp with _ h2
    exact absurd h2 hc
  obtain ⟨m, m1, m8, h20, hrm, _⟩ := arity_of hc
  have har : r.arity = m := by rw [hrm]
  obtain ⟨w1, w2, w3⟩ := check_ok hc
  unfold permF at hp
  rw [if_pos hc, har, Int.toNat_natCast] at hp
  by_cases ho : PermOK m o
  case neg =>
    rw [if_neg ho] at hp
    injection hp with _ h2
    cases h2
  rw [if_pos ho] at hp
  injection hp with hp _
  have hb := backO_ok ho
  have hlen : ∀ x ∈ r.rows, x.length = m := fun x hx => by have := w1.2.2 x hx; rw [har] at this; omega
  have hpr : p.rows = sortedF (mapR o r.rows) := by rw [← hp]
  have hpa : p.arity = m := by rw [← hp]
  have l1 := sortedF_len (mapR o r.rows)
  have l2 : (mapR o r.rows).length = r.rows.length := by unfold mapR; rw [List.length_map]
  have hla : LenAll p.rows p.arity := fun x hx => by
    rw [hpr] at hx
    obtain ⟨y, _, rfl⟩ := List.mem_map.1 ((sortedF_mem _ x).1 hx)
    unfold permRow
    rw [List.length_map, ho.1, hpa]
  have hcp : checkF p = 0 := by
    unfold checkF
    rw [if_pos ⟨by omega, by omega, hla⟩, if_neg (by rw [hpr]; omega), if_pos (by rw [hpr]; exact rise_rises (sortedF_rise _))]
  have hback : sortedF (mapR (backO o m) p.rows) = r.rows := by
    refine sortedF_eq (rises_rise w3) fun x => ?_
    rw [hpr]
    constructor
    · intro hx
      exact List.mem_map.2 ⟨permRow o x, (sortedF_mem _ _).2 (List.mem_map.2 ⟨x, hx, rfl⟩), turn_back ho (hlen x hx)⟩
    · intro hx
      obtain ⟨z, hz, rfl⟩ := List.mem_map.1 hx
      obtain ⟨y, hy, rfl⟩ := List.mem_map.1 ((sortedF_mem _ z).1 hz)
      rw [turn_back ho (hlen y hy)]
      exact hy
  have l3 := sortedF_len (mapR (backO o m) p.rows)
  have l4 : (mapR (backO o m) p.rows).length = p.rows.length := by unfold mapR; rw [List.length_map]
  rw [hback, l4] at l3
  refine ⟨m, ho.1, ho, ?_, by have := congrArg List.length hpr; omega⟩
  unfold permF
  rw [if_pos hcp, hpa, Int.toNat_natCast, if_pos hb, hback]
  exact congrArg (fun x => (x, (0 : Int))) hrm.symm
end Go.Proofs.Ytkonafdbfciikaa
