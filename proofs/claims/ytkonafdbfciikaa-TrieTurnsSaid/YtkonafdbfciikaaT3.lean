/-
  layer 14: the validity of a trie, the reference's side.
-/
import Derived.Test.YtkonafdbfciikaaT2
namespace Go.Proofs.Ytkonafdbfciikaa
open Go.RowKit
set_option linter.unusedSimpArgs false
set_option linter.unusedVariables false
set_option maxRecDepth 100000

theorem mono_bounds {a : Nat} {x : Level} (h : LenOK a x) (step : ∀ i, i < a → ix x.first i ≤ ix x.first (i + 1)) : ∀ i, i ≤ a → 0 ≤ ix x.first i ∧ ix x.first i ≤ x.keys.length := by
  have up : ∀ i, i ≤ a → 0 ≤ ix x.first i := by
    intro i
    induction i with
    | zero => intro _; rw [h.2.1]; exact Int.le_refl _
    | succ i ih => intro hi; have := ih (by omega); have := step i (by omega); omega
  have down : ∀ d i, i + d = a → ix x.first i ≤ x.keys.length := by
    intro d
    induction d with
    | zero => intro i hi; have e : i = a := by omega
              rw [e, h.2.2]; exact Int.le_refl _
    | succ d ih => intro i hi; have := ih (i + 1) (by omega); have := step i (by omega); omega
  exact fun i hi => ⟨up i hi, down (a - i) i (by omega)⟩
def GroupW (x : Level) (i : Nat) : Prop := ∀ j : Nat, ix x.first i < j → (j : Int) < ix x.first (i + 1) → j < x.keys.length → ix x.keys (j - 1) < ix x.keys j

def IntsT (t : Trie) : Prop := ∀ x ∈ t.levels, ∀ v ∈ x.first, I64 v
noncomputable def sValidR : List AV → Option (Prop × AV) := spec1 (fun (t : Trie) => SmallT t ∧ IntsT t) (fun t => .bool (validB t))
set_option maxHeartbeats 8000000 in
theorem shapedR : PureOK Try.prog G0 65 sValidR := by
  refine pure1 (C := CE) sigCE mixCE Try.func65 rfl rfl rfl (by kernel_rfl) (by decide) (fun t ⟨⟨ht, hx⟩, hints⟩ => ?_)
  by_cases h1 : t.levels = []
  · have hB : validB t = false := validB_no fun h => by have := h.1; rw [h1] at this; simp at this
    simp [aev, cav, look, acallPure, abin, abinN, abinP, abinI, abinS, aun, aconv, afield, afieldAddr, aindexAddr, aindex, aslice, alow, ahigh, abuild, abuildGo, cellsOf, splice, fieldTy, alen, apick, amax, amin, aload, headV, aparts, abuildSlice, elParts, abytesStr, astore, amake, aappend, aclear, anew, arith, aresults, aresList, ares, spec0, spec1, spec2, spec3, spec4, eqCells, eqCell, h1, hB]
  have hpos : 0 < t.levels.length := List.length_pos_iff.2 h1
  have h1' : ¬ (t.levels.length : Int) < 1 := by omega
  by_cases h2 : 8 < t.levels.length
  · have h2' : (8 : Int) < t.levels.length := by omega
    have hB : validB t = false := validB_no fun h => by have := h.2.1; omega
    simp [aev, cav, look, acallPure, abin, abinN, abinP, abinI, abinS, aun, aconv, afield, afieldAddr, aindexAddr, aindex, aslice, alow, ahigh, abuild, abuildGo, cellsOf, splice, fieldTy, alen, apick, amax, amin, aload, headV, aparts, abuildSlice, elParts, abytesStr, astore, amake, aappend, aclear, anew, arith, aresults, aresList, ares, spec0, spec1, spec2, spec3, spec4, eqCells, eqCell, h1, h1', h2, h2', hB]
  have h2' : ¬ (8 : Int) < t.levels.length := by omega
  simp [aev, cav, look, acallPure, abin, abinN, abinP, abinI, abinS, aun, aconv, afield, afieldAddr, aindexAddr, aindex, aslice, alow, ahigh, abuild, abuildGo, cellsOf, splice, fieldTy, alen, apick, amax, amin, aload, headV, aparts, abuildSlice, elParts, abytesStr, astore, amake, aappend, aclear, anew, arith, aresults, aresList, ares, spec0, spec1, spec2, spec3, spec4, eqCells, eqCell, h1, h2, h2', h1']
  refine loop_rule (C := CE) sigCE mixCE (fun q : Nat × Nat => ⟨[(1, .ptr 0 1 1 0 0), (3, .int .i64 q.2), (4, .int .i64 q.1)], [TB t]⟩) (fun q => q.1 ≤ t.levels.length ∧ q.2 ≤ 1000000 ∧ (q.1 = 0 → q.2 = 1) ∧ (∀ b, Shape q.1 q.2 (t.levels.drop q.1) b ↔ Shape 0 1 t.levels b) ∧ ∀ i, i < q.1 → SortOK (ix t.levels i)) (fun q => t.levels.length - q.1) (by kernel_rfl) ⟨(0, 1), ⟨by omega, by omega, fun _ => rfl, fun b => Iff.rfl, fun i hi => by omega⟩, weak_slots (by simp)⟩ (fun ⟨k, a⟩ ⟨hk, ha, hk1, hs, hso⟩ => ?_)
  simp only at hk ha hk1 hs hso ⊢
  by_cases hlt : k < t.levels.length
  · have i1 : I64 ((k : Int) + 1) := by unfold I64; omega
    have i2 : I64 ((a : Int) + 1) := by unfold I64; omega
    obtain ⟨x1, x2⟩ := hx _ (ix_mem hlt)
    obtain ⟨x, hxe⟩ : ∃ x, x = ix t.levels k := ⟨_, rfl⟩
    have hxm : x ∈ t.levels := by rw [hxe]; exact ix_mem hlt
    have hs' : ∀ b, (LenOK a x ∧ (k = 0 ∨ RiseOK a x) ∧ Shape (k + 1) x.keys.length (t.levels.drop (k + 1)) b) ↔ Shape 0 1 t.levels b := fun b => by rw [← hs b, shape_drop hlt, hxe]
    rw [← hxe] at x1 x2
    have no : ¬ LenOK a x → validB t = false := fun h => validB_no fun ⟨_, _, ⟨b, h3, _⟩, _⟩ => h ((hs' b).2 h3).1
    have noR : ¬ k = 0 → ¬ RiseOK a x → validB t = false := fun h0 h => validB_no fun ⟨_, _, ⟨b, h3, _⟩, _⟩ => h (((hs' b).2 h3).2.1.resolve_left h0)
    by_cases l1 : x.first.length = a + 1
    case neg =>
      have l1' : ((x.first.length : Int) = (a : Int) + 1) = False := eq_false (by omega)
      have hB := no fun h => l1 h.1
      simp [aev, cav, look, acallPure, abin, abinN, abinP, abinI, abinS, aun, aconv, afield, afieldAddr, aindexAddr, aindex, aslice, alow, ahigh, abuild, abuildGo, cellsOf, splice, fieldTy, alen, apick, amax, amin, aload, headV, aparts, abuildSlice, elParts, abytesStr, astore, amake, aappend, aclear, anew, arith, aresults, aresList, ares, spec0, spec1, spec2, spec3, spec4, eqCells, eqCell, TB, hlt, rowAt_enc hlt, ← hxe, i2, l1, l1', hB]
    have l1' : ((x.first.length : Int) = (a : Int) + 1) = True := eq_true (by omega)
    have l0 : 0 < x.first.length := by omega
    have la : a < x.first.length := by omega
    rcases em2 (ix x.first 0 = 0) with l2 | l2
    case inr =>
      have hB := no fun h => of_eq_false l2 h.2.1
      simp [aev, cav, look, acallPure, abin, abinN, abinP, abinI, abinS, aun, aconv, afield, afieldAddr, aindexAddr, aindex, aslice, alow, ahigh, abuild, abuildGo, cellsOf, splice, fieldTy, alen, apick, amax, amin, aload, headV, aparts, abuildSlice, elParts, abytesStr, astore, amake, aappend, aclear, anew, arith, aresults, aresList, ares, spec0, spec1, spec2, spec3, spec4, eqCells, eqCell, TB, hlt, rowAt_enc hlt, ← hxe, i2, l1', l0, la, rowAt_enc l0, rowAt_enc la, l2, hB]
    rcases em2 (ix x.first a = (x.keys.length : Int)) with l3 | l3
    case inr =>
      have hB := no fun h => of_eq_false l3 h.2.2
      simp [aev, cav, look, acallPure, abin, abinN, abinP, abinI, abinS, aun, aconv, afield, afieldAddr, aindexAddr, aindex, aslice, alow, ahigh, abuild, abuildGo, cellsOf, splice, fieldTy, alen, apick, amax, amin, aload, headV, aparts, abuildSlice, elParts, abytesStr, astore, amake, aappend, aclear, anew, arith, aresults, aresList, ares, spec0, spec1, spec2, spec3, spec4, eqCells, eqCell, TB, hlt, rowAt_enc hlt, ← hxe, i2, l1', l0, la, rowAt_enc l0, rowAt_enc la, l2, l3, hB]
    have hL : LenOK a x := ⟨l1, of_eq_true l2, of_eq_true l3⟩
    simp [aev, cav, look, acallPure, abin, abinN, abinP, abinI, abinS, aun, aconv, afield, afieldAddr, aindexAddr, aindex, aslice, alow, ahigh, abuild, abuildGo, cellsOf, splice, fieldTy, alen, apick, amax, amin, aload, headV, aparts, abuildSlice, elParts, abytesStr, astore, amake, aappend, aclear, anew, arith, aresults, aresList, ares, spec0, spec1, spec2, spec3, spec4, eqCells, eqCell, TB, hlt, rowAt_enc hlt, ← hxe, i1, i2, l1', l0, la, rowAt_enc l0, rowAt_enc la, l2, l3]
    refine loop_rule (C := CE) sigCE mixCE (fun i : Nat => ⟨[(1, .ptr 0 1 1 0 0), (3, .int .i64 a), (4, .int .i64 k), (5, .ptr 1 1 2 0 0), (6, .int .i64 i)], [TB t, VB x]⟩) (fun i => i ≤ a ∧ (∀ g, g < i → ix x.first g ≤ ix x.first (g + 1) ∧ (k = 0 ∨ ix x.first g < ix x.first (g + 1))) ∧ (∀ g, g < i → GroupW x g) ∧ 0 ≤ ix x.first i) (fun i => a - i) (by kernel_rfl) ⟨0, ⟨by omega, fun g hg => by omega, fun g hg => by omega, by rw [hL.2.1]; exact Int.le_refl _⟩, weak_slots (by simp [TB, VB])⟩ (fun i ⟨hi, hr, hg, h0⟩ => ?_)
    by_cases hil : i < a
    · have j0 : i < x.first.length := by omega
      have j1 : i + 1 < x.first.length := by omega
      have j1' : (i : Int) + 1 < x.first.length := by omega
      have j2 : I64 ((i : Int) + 1) := by unfold I64; omega
      have j4 : ((i : Int) + 1).toNat = i + 1 := by omega
      have j5 : (0 : Int) ≤ (i : Int) + 1 := by omega
      by_cases hgt : ix x.first (i + 1) < ix x.first i
      · have hB : validB t = false := by
          by_cases hk0 : k = 0
          · have := hk1 hk0
            subst this
            obtain rfl : i = 0 := by omega
            have e1 := hL.2.1
            have e2 := hL.2.2
            simp only [Nat.zero_add] at hgt
            omega
          · exact noR hk0 fun h => by have := h i hil; omega
        simp [aev, cav, look, acallPure, abin, abinN, abinP, abinI, abinS, aun, aconv, afield, afieldAddr, aindexAddr, aindex, aslice, alow, ahigh, abuild, abuildGo, cellsOf, splice, fieldTy, alen, apick, amax, amin, aload, headV, aparts, abuildSlice, elParts, abytesStr, astore, amake, aappend, aclear, anew, arith, aresults, aresList, ares, spec0, spec1, spec2, spec3, spec4, eqCells, eqCell, TB, VB, hil, j0, j1, j1', j2, j4, j5, rowAt_enc j0, rowAt_enc j1, hgt, hB]
      by_cases heq : ix x.first i = ix x.first (i + 1) ∧ 0 < k
      · have hB : validB t = false := noR (by omega) fun h => by have := h i hil; omega
        obtain ⟨q1, q2⟩ := heq
        have q1' : (ix x.first i = ix x.first (i + 1)) = True := eq_true q1
        have q2' : (0 : Int) < k := by omega
        simp [aev, cav, look, acallPure, abin, abinN, abinP, abinI, abinS, aun, aconv, afield, afieldAddr, aindexAddr, aindex, aslice, alow, ahigh, abuild, abuildGo, cellsOf, splice, fieldTy, alen, apick, amax, amin, aload, headV, aparts, abuildSlice, elParts, abytesStr, astore, amake, aappend, aclear, anew, arith, aresults, aresList, ares, spec0, spec1, spec2, spec3, spec4, eqCells, eqCell, TB, VB, hil, j0, j1, j1', j2, j4, j5, rowAt_enc j0, rowAt_enc j1, hgt, q1', q2, q2', hB]
      have hr2 : ix x.first i ≤ ix x.first (i + 1) ∧ (k = 0 ∨ ix x.first i < ix x.first (i + 1)) := by omega
      obtain ⟨f, hf⟩ : ∃ f : Nat, ix x.first i = f := ⟨(ix x.first i).toNat, by omega⟩
      have hF : I64 (ix x.first (i + 1)) := hints x hxm _ (ix_mem j1)
      have j6 : I64 ((f : Int) + 1) := by
        rcases hr2.2 with h | h
        · have := hk1 h
          obtain rfl : i = 0 := by omega
          rw [hL.2.1] at hf
          unfold I64; omega
        · unfold I64 at hF ⊢; omega
      have hq : (ix x.first i = ix x.first (i + 1)) = False ∨ ((ix x.first i = ix x.first (i + 1)) = True ∧ (0 < k) = False ∧ ((0 : Int) < k) = False) := by
        rcases em2 (ix x.first i = ix x.first (i + 1)) with h | h
        · exact .inr ⟨h, eq_false fun h2 => heq ⟨of_eq_true h, h2⟩, eq_false fun h2 => heq ⟨of_eq_true h, by omega⟩⟩
        · exact .inl h
      have hgt2 : (ix x.first (i + 1) < ix x.first i) = False := eq_false hgt
      rcases hq with q1 | ⟨q1, q2, q3⟩
      case' inl =>
        have q2 : True := trivial
        have q3 : True := trivial
      all_goals
        obtain ⟨F, hFe⟩ : ∃ F, F = ix x.first i := ⟨_, rfl⟩
        rw [← hFe] at q1 hgt2
        simp [aev, cav, look, acallPure, abin, abinN, abinP, abinI, abinS, aun, aconv, afield, afieldAddr, aindexAddr, aindex, aslice, alow, ahigh, abuild, abuildGo, cellsOf, splice, fieldTy, alen, apick, amax, amin, aload, headV, aparts, abuildSlice, elParts, abytesStr, astore, amake, aappend, aclear, anew, arith, aresults, aresList, ares, spec0, spec1, spec2, spec3, spec4, eqCells, eqCell, TB, VB, hil, j0, j1, j1', j2, j4, j5, rowAt_enc j0, rowAt_enc j1, ← hFe, hgt2, q1, q2, q3]
        have hFf : F = (f : Int) := by rw [hFe]; exact hf
        rw [hFf]
        rw [w64_in j6]
        refine loop_rule (C := CE) sigCE mixCE (fun d : Nat => ⟨[(1, .ptr 0 1 1 0 0), (3, .int .i64 a), (4, .int .i64 k), (5, .ptr 1 1 2 0 0), (6, .int .i64 i), (7, .int .i64 (((f + d : Nat) : Int) + 1))], [TB t, VB x]⟩) (fun d => d ≤ x.keys.length ∧ (d = 0 ∨ f + d < x.keys.length) ∧ ∀ j : Nat, f < j → j ≤ f + d → (j : Int) < ix x.first (i + 1) → j < x.keys.length → ix x.keys (j - 1) < ix x.keys j) (fun d => x.keys.length - d) (by kernel_rfl) ⟨0, ⟨by omega, .inl rfl, fun j h1 h2 => by omega⟩, weak_slots (by simp [TB, VB])⟩ (fun d ⟨hd, hd0, hj⟩ => ?_)
        have k7 : I64 (((f + d : Nat) : Int) + 1) := by
          rcases hd0 with rfl | h
          · exact j6
          · unfold I64; omega
        by_cases hA : ((f + d : Nat) : Int) + 1 < ix x.first (i + 1)
        · by_cases hBk : f + d + 1 < x.keys.length
          · have k0 : f + d < x.keys.length := by omega
            have k2 : I64 (((f + d : Nat) : Int) + 1 + 1) := by unfold I64; omega
            have k3 : I64 ((f + d : Nat) : Int) := by unfold I64; omega
            have k4 : (((f + d : Nat) : Int) + 1).toNat = f + d + 1 := by omega
            have k5 : (0 : Int) ≤ ((f + d : Nat) : Int) + 1 := by omega
            have k6 : ((f + d : Nat) : Int) + 1 < x.keys.length := by omega
            obtain ⟨g, hge⟩ : ∃ g, g = f + d := ⟨_, rfl⟩
            rw [← hge] at hA k0 hBk k2 k3 k4 k5 k6 k7 ⊢
            by_cases hlt2 : ix x.keys g < ix x.keys (g + 1)
            · have hno : ¬ ix x.keys (g + 1) ≤ ix x.keys g := by omega
              simp [aev, cav, look, acallPure, abin, abinN, abinP, abinI, abinS, aun, aconv, afield, afieldAddr, aindexAddr, aindex, aslice, alow, ahigh, abuild, abuildGo, cellsOf, splice, fieldTy, alen, apick, amax, amin, aload, headV, aparts, abuildSlice, elParts, abytesStr, astore, amake, aappend, aclear, anew, arith, aresults, aresList, ares, spec0, spec1, spec2, spec3, spec4, eqCells, eqCell, TB, VB, hil, j0, j1, j1', j2, j4, j5, rowAt_enc j0, rowAt_enc j1, hA, k0, hBk, k2, k3, k4, k5, k6, rowAt_enc k0, rowAt_enc hBk, hlt2, hno]
              refine ⟨d + 1, ⟨by omega, .inr (by omega), fun j h1 h2 h3 h4 => ?_⟩, by omega, weak_slots (by simp [hge]; omega)⟩
              rcases Nat.lt_or_ge (f + d) j with h | h
              · obtain rfl : j = g + 1 := by omega
                exact hlt2
              · exact hj j h1 h h3 h4
            · have hno : ix x.keys (g + 1) ≤ ix x.keys g := by omega
              have hB : validB t = false := validB_no fun hv => hlt2 (hv.2.2.2 x hxm i j1 (g + 1) (by rw [← hFe, hFf]; omega) (by omega))
              simp [aev, cav, look, acallPure, abin, abinN, abinP, abinI, abinS, aun, aconv, afield, afieldAddr, aindexAddr, aindex, aslice, alow, ahigh, abuild, abuildGo, cellsOf, splice, fieldTy, alen, apick, amax, amin, aload, headV, aparts, abuildSlice, elParts, abytesStr, astore, amake, aappend, aclear, anew, arith, aresults, aresList, ares, spec0, spec1, spec2, spec3, spec4, eqCells, eqCell, TB, VB, hil, j0, j1, j1', j2, j4, j5, rowAt_enc j0, rowAt_enc j1, hA, k0, hBk, k2, k3, k4, k5, k6, rowAt_enc k0, rowAt_enc hBk, hlt2, hno, hB]
          · have k6 : ¬ ((f + d : Nat) : Int) + 1 < x.keys.length := by omega
            have hG : GroupW x i := fun j h1 h2 h3 => hj j (by rw [← hFe, hFf] at h1; omega) (by omega) h2 h3
            obtain ⟨g, hge⟩ : ∃ g, g = f + d := ⟨_, rfl⟩
            rw [← hge] at hA k6 k7 ⊢
            simp [aev, cav, look, acallPure, abin, abinN, abinP, abinI, abinS, aun, aconv, afield, afieldAddr, aindexAddr, aindex, aslice, alow, ahigh, abuild, abuildGo, cellsOf, splice, fieldTy, alen, apick, amax, amin, aload, headV, aparts, abuildSlice, elParts, abytesStr, astore, amake, aappend, aclear, anew, arith, aresults, aresList, ares, spec0, spec1, spec2, spec3, spec4, eqCells, eqCell, TB, VB, hil, j0, j1, j1', j2, j4, j5, rowAt_enc j0, rowAt_enc j1, hA, k6, k7]
            refine ⟨i + 1, ⟨by omega, fun g hg2 => ?_, fun g hg2 => ?_, by omega⟩, by omega, weak_slots (by simp)⟩
            · rcases Nat.lt_or_eq_of_le (Nat.le_of_lt_succ hg2) with h | rfl
              · exact hr g h
              · exact hr2
            · rcases Nat.lt_or_eq_of_le (Nat.le_of_lt_succ hg2) with h | rfl
              · exact hg g h
              · exact hG
        · have hG : GroupW x i := fun j h1 h2 h3 => hj j (by rw [← hFe, hFf] at h1; omega) (by omega) h2 h3
          obtain ⟨g, hge⟩ : ∃ g, g = f + d := ⟨_, rfl⟩
          rw [← hge] at hA k7 ⊢
          simp [aev, cav, look, acallPure, abin, abinN, abinP, abinI, abinS, aun, aconv, afield, afieldAddr, aindexAddr, aindex, aslice, alow, ahigh, abuild, abuildGo, cellsOf, splice, fieldTy, alen, apick, amax, amin, aload, headV, aparts, abuildSlice, elParts, abytesStr, astore, amake, aappend, aclear, anew, arith, aresults, aresList, ares, spec0, spec1, spec2, spec3, spec4, eqCells, eqCell, TB, VB, hil, j0, j1, j1', j2, j4, j5, rowAt_enc j0, rowAt_enc j1, hA, k7]
          refine ⟨i + 1, ⟨by omega, fun g hg2 => ?_, fun g hg2 => ?_, by omega⟩, by omega, weak_slots (by simp)⟩
          · rcases Nat.lt_or_eq_of_le (Nat.le_of_lt_succ hg2) with h | rfl
            · exact hr g h
            · exact hr2
          · rcases Nat.lt_or_eq_of_le (Nat.le_of_lt_succ hg2) with h | rfl
            · exact hg g h
            · exact hG
    · have hst : ∀ g, g < a → ix x.first g ≤ ix x.first (g + 1) := fun g hg2 => (hr g (by omega)).1
      have hm := mono_bounds hL hst
      have hSo : SortOK x := fun g hg2 j h3 h4 => hg g (by omega) j h3 h4 (by have := (hm (g + 1) (by omega)).2; omega)
      have hil' : ¬ (i : Int) < a := by omega
      simp [aev, cav, look, acallPure, abin, abinN, abinP, abinI, abinS, aun, aconv, afield, afieldAddr, aindexAddr, aindex, aslice, alow, ahigh, abuild, abuildGo, cellsOf, splice, fieldTy, alen, apick, amax, amin, aload, headV, aparts, abuildSlice, elParts, abytesStr, astore, amake, aappend, aclear, anew, arith, aresults, aresList, ares, spec0, spec1, spec2, spec3, spec4, eqCells, eqCell, TB, VB, hil, hil', i1]
      refine ⟨k + 1, x.keys.length, ⟨by omega, by omega, fun h => absurd h (by omega), fun b => ?_, fun g hg2 => ?_⟩, by omega, weak_keep 1 (by simp) (by simp) (by simp [AV.clean, AV.clean1]) (by simp) (by simp [TB])⟩
      · rw [← hs' b]
        refine ⟨fun h => ⟨hL, ?_, h⟩, fun h => h.2.2⟩
        by_cases hk0 : k = 0
        · exact .inl hk0
        · exact .inr fun g hg2 => (hr g (by omega)).2.resolve_left hk0
      · rcases Nat.lt_or_eq_of_le (Nat.le_of_lt_succ hg2) with h | rfl
        · exact hso g h
        · rw [← hxe]; exact hSo
  · have he : ∀ b, a = b ↔ Shape 0 1 t.levels b := fun b => by rw [← hs b, List.drop_eq_nil_of_le (by omega), Shape]
    by_cases h3 : a ≤ 20000
    · have h3' : (a : Int) ≤ 20000 := by omega
      have hB : validB t = true := validB_yes ⟨by omega, by omega, ⟨a, (he a).1 rfl, h3⟩, fun x hx2 => by
        obtain ⟨k2, h1, rfl⟩ := List.mem_iff_getElem.1 hx2
        have := hso k2 (by omega)
        rwa [ix_lt h1] at this⟩
      simp [aev, cav, look, acallPure, abin, abinN, abinP, abinI, abinS, aun, aconv, afield, afieldAddr, aindexAddr, aindex, aslice, alow, ahigh, abuild, abuildGo, cellsOf, splice, fieldTy, alen, apick, amax, amin, aload, headV, aparts, abuildSlice, elParts, abytesStr, astore, amake, aappend, aclear, anew, arith, aresults, aresList, ares, spec0, spec1, spec2, spec3, spec4, eqCells, eqCell, TB, hlt, h3, h3', hB]
    · have h3' : ¬ (a : Int) ≤ 20000 := by omega
      have hB : validB t = false := validB_no fun ⟨_, _, ⟨b, h4, h5⟩, _⟩ => by have := (he b).2 h4; omega
      simp [aev, cav, look, acallPure, abin, abinN, abinP, abinI, abinS, aun, aconv, afield, afieldAddr, aindexAddr, aindex, aslice, alow, ahigh, abuild, abuildGo, cellsOf, splice, fieldTy, alen, apick, amax, amin, aload, headV, aparts, abuildSlice, elParts, abytesStr, astore, amake, aappend, aclear, anew, arith, aresults, aresList, ares, spec0, spec1, spec2, spec3, spec4, eqCells, eqCell, TB, hlt, h3, h3', hB]
noncomputable def CV2 : Ctx := mkC Try.prog G0 [(65, .pure sValidR)]
@[simp] theorem CV2_P : CV2.P = Try.prog := rfl
@[simp] theorem CV2_1 : CV2.S 65 = .pure sValidR := rfl
theorem mixCV2 : CV2.P.follows .mixedOrders = true := mixed
theorem sigCV2 : SigOK CV2 := sigOK_cons (entryPure shapedR Try.func65 rfl (by decide)) (sigOK_nil _ _)
theorem validR : PureOK Try.prog G0 34 sValidR := by
  refine pure1 (C := CV2) sigCV2 mixCV2 Try.func34 rfl rfl rfl (by kernel_rfl) (by decide) (fun t ht => ?_)
  simp [aev, cav, look, acallPure, abin, abinN, abinP, abinI, abinS, aun, aconv, afield, afieldAddr, aindexAddr, aindex, aslice, alow, ahigh, abuild, abuildGo, cellsOf, splice, fieldTy, alen, apick, amax, amin, aload, headV, aparts, abuildSlice, elParts, abytesStr, astore, amake, aappend, aclear, anew, arith, aresults, aresList, ares, spec0, spec1, spec2, spec3, spec4, eqCells, eqCell, sValidR, ht]
end Go.Proofs.Ytkonafdbfciikaa
