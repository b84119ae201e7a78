/-
  layer 14: orders of columns; the reference's test.
-/
import Derived.Test.YtkonafdbfciikaaV5
import Derived.Test.YtkonafdbfciikaaT24
namespace Go.Proofs.Ytkonafdbfciikaa
open Go.RowKit
set_option linter.unusedSimpArgs false
set_option linter.unusedVariables false
set_option maxRecDepth 100000

def rangeZ (n : Nat) : List Int := (List.range n).map fun (i : Nat) => (i : Int)
def PermOK (n : Nat) (o : List Int) : Prop := o.length = n ∧ sortI o = rangeZ n
theorem sortI_perm (o : List Int) : (sortI o).Perm o := List.mergeSort_perm _ _
theorem sortI_eq {o s : List Int} (h : s.Perm o) (hs : s.Pairwise fun x y => x ≤ y) : sortI o = s := by
  refine List.Perm.eq_of_pairwise (le := fun x y => decide (x ≤ y) = true) (fun a b _ _ h1 h2 => ?_) ?_ ?_ ((sortI_perm o).trans h.symm)
  · simp only [decide_eq_true_eq] at h1 h2; omega
  · exact List.pairwise_mergeSort (fun a b c h1 h2 => by simp only [decide_eq_true_eq] at *; omega) (fun a b => by simp; omega) o
  · exact hs.imp fun h => by simpa using h
theorem rangeZ_succ (n : Nat) : rangeZ (n + 1) = rangeZ n ++ [(n : Int)] := by unfold rangeZ; rw [List.range_succ, List.map_append]; rfl
theorem rangeZ_sorted (n : Nat) : (rangeZ n).Pairwise fun x y => x ≤ y := by
  unfold rangeZ
  rw [List.pairwise_map, List.pairwise_iff_getElem]
  intro i j hi hj hij
  simp at *
  omega
theorem rangeZ_count : ∀ (n : Nat) (v : Nat), (rangeZ n).count (v : Int) = if v < n then 1 else 0
  | 0, v => rfl
  | n + 1, v => by
    rw [rangeZ_succ, List.count_append, rangeZ_count n v, List.count_singleton]
    by_cases h : v = n
    · subst h; simp
    · have h2 : ((n : Int) == (v : Int)) = false := by simp; omega
      rw [h2]
      by_cases h3 : v < n
      · have h4 : v < n + 1 := by omega
        simp [h3, h4]
      · have h4 : ¬ v < n + 1 := by omega
        simp [h3, h4]
theorem perm_of_counts : ∀ (n : Nat) (o : List Int), o.length = n → (∀ v : Nat, v < n → o.count (v : Int) = 1) → (rangeZ n).Perm o
  | 0, o, h, _ => by rw [List.eq_nil_of_length_eq_zero h]; exact List.Perm.refl _
  | n + 1, o, h, hc => by
    have hm : (n : Int) ∈ o := List.count_pos_iff.1 (by rw [hc n (Nat.lt_succ_self n)]; exact Nat.one_pos)
    have ih := perm_of_counts n (o.erase (n : Int)) (by rw [List.length_erase_of_mem hm, h]; rfl) fun v hv => by
      rw [List.count_erase_of_ne (by intro e; omega)]
      exact hc v (by omega)
    rw [rangeZ_succ]
    exact (List.perm_append_comm.trans (List.Perm.cons (n : Int) ih)).trans (List.perm_cons_erase hm).symm
theorem permOK_iff {n : Nat} {o : List Int} : PermOK n o ↔ o.length = n ∧ ∀ v : Nat, v < n → o.count (v : Int) = 1 := by
  constructor
  · rintro ⟨h1, h2⟩
    refine ⟨h1, fun v hv => ?_⟩
    rw [← (sortI_perm o).count_eq, h2, rangeZ_count, if_pos hv]
  · rintro ⟨h1, h2⟩
    exact ⟨h1, sortI_eq (perm_of_counts n o h1 h2) (rangeZ_sorted n)⟩
theorem perm_mem {n : Nat} {o : List Int} (h : PermOK n o) {x : Int} (hx : x ∈ o) : 0 ≤ x ∧ x < n := by
  have h2 := (sortI_perm o).mem_iff.2 hx
  rw [h.2] at h2
  obtain ⟨i, hi, rfl⟩ := List.mem_map.1 h2
  rw [List.mem_range] at hi
  omega
theorem rangeZ_ix {n i : Nat} (h : i < n) : ix (rangeZ n) i = i := by
  rw [ix_lt (by unfold rangeZ; simpa using h)]
  simp [rangeZ]
theorem rangeZ_len (n : Nat) : (rangeZ n).length = n := by simp [rangeZ]

/-- How often v stands among the first q. -/
def cnt (o : List Int) (v : Int) (q : Nat) : Nat := (o.take q).count v
theorem cnt_succ {o : List Int} {v : Int} {q : Nat} (h : q < o.length) : cnt o v (q + 1) = cnt o v q + if ix o q = v then 1 else 0 := by
  unfold cnt
  rw [List.take_succ_eq_append_getElem h, List.count_append, List.count_singleton, ix_lt h]
  by_cases e : o[q] = v <;> simp [e]
theorem cnt_le (o : List Int) (v : Int) (q : Nat) : cnt o v q ≤ q := by
  unfold cnt
  exact Nat.le_trans List.count_le_length (by rw [List.length_take]; omega)
open Classical in
noncomputable def permB (o : List Int) (n : Nat) : Bool := decide (PermOK n o)
open Classical in
theorem permB_yes {o : List Int} {n : Nat} (h : PermOK n o) : permB o n = true := by unfold permB; exact decide_eq_true h
open Classical in
theorem permB_no {o : List Int} {n : Nat} (h : ¬ PermOK n o) : permB o n = false := by unfold permB; exact decide_eq_false h
def NatI (n : Int) : Prop := ∃ m : Nat, n = m
noncomputable def sPermutes : List AV → Option (Prop × AV) := spec2 (fun (o : List Int) (n : Int) => SmallR o ∧ NatI n) (fun o n => .bool (permB o n.toNat))
set_option maxHeartbeats 8000000 in
theorem permutesR : PureOK Try.prog G0 69 sPermutes := by
  refine pure2 (C := CE) sigCE mixCE Try.func69 rfl rfl rfl (by kernel_rfl) (by decide) (fun o n ⟨hS, m, hn⟩ => ?_)
  subst hn
  have ho : o.length ≤ 1000000 := hS
  rcases em2 ((o.length : Int) = m) with hl | hl
  case inr =>
    have hlf := of_eq_false hl
    have hl' : (o.length = m) = False := eq_false (by omega)
    have e := permB_no (o := o) (n := m) fun h => hlf (by have := h.1; omega)
    simp [aev, cav, look, acallPure, abin, abinN, abinP, abinI, abinS, aun, aconv, afield, afieldAddr, aindexAddr, aindex, aslice, alow, ahigh, abuild, abuildGo, cellsOf, splice, fieldTy, alen, apick, amax, amin, aload, headV, aparts, abuildSlice, elParts, abytesStr, astore, amake, aappend, aclear, anew, arith, aresults, aresList, ares, spec0, spec1, spec2, spec3, spec4, eqCells, eqCell, hl, hl', e]
  have hlt := of_eq_true hl
  have hlm : o.length = m := by omega
  have hl' : (o.length = m) = True := eq_true hlm
  simp [aev, cav, look, acallPure, abin, abinN, abinP, abinI, abinS, aun, aconv, afield, afieldAddr, aindexAddr, aindex, aslice, alow, ahigh, abuild, abuildGo, cellsOf, splice, fieldTy, alen, apick, amax, amin, aload, headV, aparts, abuildSlice, elParts, abytesStr, astore, amake, aappend, aclear, anew, arith, aresults, aresList, ares, spec0, spec1, spec2, spec3, spec4, eqCells, eqCell, hl, hl']
  refine loop_rule (C := CE) sigCE mixCE (fun v : Nat => ⟨[(0, Enc.enc o), (1, .int .i64 m), (5, .int .i64 v)], []⟩) (fun v => v ≤ m ∧ ∀ j : Nat, j < v → o.count (j : Int) = 1) (fun v => m - v) (by kernel_rfl) ⟨0, ⟨by omega, fun j hj => by omega⟩, weak_slots (by simp)⟩ (fun v ⟨v1, v2⟩ => ?_)
  by_cases hv : v < m
  · have i1 : I64 ((v : Int) + 1) := by unfold I64; omega
    simp [aev, cav, look, acallPure, abin, abinN, abinP, abinI, abinS, aun, aconv, afield, afieldAddr, aindexAddr, aindex, aslice, alow, ahigh, abuild, abuildGo, cellsOf, splice, fieldTy, alen, apick, amax, amin, aload, headV, aparts, abuildSlice, elParts, abytesStr, astore, amake, aappend, aclear, anew, arith, aresults, aresList, ares, spec0, spec1, spec2, spec3, spec4, eqCells, eqCell, hv]
    refine loop_rule (C := CE) sigCE mixCE (fun q : Nat => ⟨[(0, Enc.enc o), (1, .int .i64 m), (5, .int .i64 v), (6, .int .i64 (cnt o v q)), (7, .int .i64 q)], []⟩) (fun q => q ≤ m) (fun q => m - q) (by kernel_rfl) ⟨0, Nat.zero_le _, weak_slots (by simp [cnt])⟩ (fun q hq => ?_)
    have hcl := cnt_le o v q
    by_cases hqm : q < m
    · have hqo : q < o.length := by omega
      have i2 : I64 ((q : Int) + 1) := by unfold I64; omega
      have i3 : I64 ((cnt o v q : Int) + 1) := by unfold I64; omega
      have cs := cnt_succ (v := (v : Int)) hqo
      rcases em2 (ix o q = (v : Int)) with e | e
      · rw [if_pos (of_eq_true e)] at cs
        simp [aev, cav, look, acallPure, abin, abinN, abinP, abinI, abinS, aun, aconv, afield, afieldAddr, aindexAddr, aindex, aslice, alow, ahigh, abuild, abuildGo, cellsOf, splice, fieldTy, alen, apick, amax, amin, aload, headV, aparts, abuildSlice, elParts, abytesStr, astore, amake, aappend, aclear, anew, arith, aresults, aresList, ares, spec0, spec1, spec2, spec3, spec4, eqCells, eqCell, hqm, hqo, rowAt_enc hqo, e, i2, i3]
        exact ⟨q + 1, by omega, by omega, weak_slots (by simp [cs])⟩
      · rw [if_neg (of_eq_false e)] at cs
        simp [aev, cav, look, acallPure, abin, abinN, abinP, abinI, abinS, aun, aconv, afield, afieldAddr, aindexAddr, aindex, aslice, alow, ahigh, abuild, abuildGo, cellsOf, splice, fieldTy, alen, apick, amax, amin, aload, headV, aparts, abuildSlice, elParts, abytesStr, astore, amake, aappend, aclear, anew, arith, aresults, aresList, ares, spec0, spec1, spec2, spec3, spec4, eqCells, eqCell, hqm, hqo, rowAt_enc hqo, e, i2]
        exact ⟨q + 1, by omega, by omega, weak_slots (by simp [cs])⟩
    · have hqe : q = m := by omega
      subst hqe
      have ce : cnt o v q = o.count (v : Int) := by unfold cnt; rw [List.take_of_length_le (by omega)]
      rcases em2 (cnt o v q = 1) with c | c
      · have c' := of_eq_true c
        have c2 : ((cnt o v q : Int) = 1) = True := eq_true (by omega)
        simp [aev, cav, look, acallPure, abin, abinN, abinP, abinI, abinS, aun, aconv, afield, afieldAddr, aindexAddr, aindex, aslice, alow, ahigh, abuild, abuildGo, cellsOf, splice, fieldTy, alen, apick, amax, amin, aload, headV, aparts, abuildSlice, elParts, abytesStr, astore, amake, aappend, aclear, anew, arith, aresults, aresList, ares, spec0, spec1, spec2, spec3, spec4, eqCells, eqCell, hqm, c, c2, i1]
        exact ⟨v + 1, ⟨by omega, fun j hj => by
          rcases Nat.lt_or_eq_of_le (Nat.le_of_lt_succ hj) with h | rfl
          · exact v2 j h
          · rw [← ce]; exact c'⟩, by omega, weak_slots (by simp)⟩
      · have c' := of_eq_false c
        have c2 : ((cnt o v q : Int) = 1) = False := eq_false (by omega)
        have e := permB_no (o := o) (n := q) fun h => c' (by rw [ce]; exact (permOK_iff.1 h).2 v hv)
        simp [aev, cav, look, acallPure, abin, abinN, abinP, abinI, abinS, aun, aconv, afield, afieldAddr, aindexAddr, aindex, aslice, alow, ahigh, abuild, abuildGo, cellsOf, splice, fieldTy, alen, apick, amax, amin, aload, headV, aparts, abuildSlice, elParts, abytesStr, astore, amake, aappend, aclear, anew, arith, aresults, aresList, ares, spec0, spec1, spec2, spec3, spec4, eqCells, eqCell, hqm, c, c2, e]
  · have e := permB_yes (o := o) (n := m) (permOK_iff.2 ⟨hlm, fun j hj => v2 j (by omega)⟩)
    simp [aev, cav, look, acallPure, abin, abinN, abinP, abinI, abinS, aun, aconv, afield, afieldAddr, aindexAddr, aindex, aslice, alow, ahigh, abuild, abuildGo, cellsOf, splice, fieldTy, alen, apick, amax, amin, aload, headV, aparts, abuildSlice, elParts, abytesStr, astore, amake, aappend, aclear, anew, arith, aresults, aresList, ares, spec0, spec1, spec2, spec3, spec4, eqCells, eqCell, hv, e]
end Go.Proofs.Ytkonafdbfciikaa
