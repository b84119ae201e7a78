/-
  layer 14: the validity of a trie, the program's side.
-/
import Derived.Test.YtkonafdbfciikaaT1
namespace Go.Proofs.Ytkonafdbfciikaa
open Go.RowKit
set_option linter.unusedSimpArgs false
set_option linter.unusedVariables false
set_option maxRecDepth 100000

open Classical in
theorem validB_no {t : Trie} (h : ¬ ValidT t) : validB t = false := by unfold validB; exact decide_eq_false h
open Classical in
theorem validB_yes {t : Trie} (h : ValidT t) : validB t = true := by unfold validB; exact decide_eq_true h
/-- What a level of a shaped trie is like. -/
theorem shaped_level {t : Trie} (h : ShapedT t) {k : Nat} (hk : k < t.levels.length) : ∃ a, LenOK a (ix t.levels k) ∧ (a = 1 ∨ RiseOK a (ix t.levels k)) := by
  obtain ⟨_, _, b, h3, _⟩ := h
  have h4 := ((shape_iff _ _ _ _).1 h3).1 k hk
  by_cases e : k = 0
  · subst e
    exact ⟨1, by simpa using h4.1, .inl rfl⟩
  · rw [if_neg e] at h4
    exact ⟨_, h4.1, .inr (h4.2.resolve_left (by omega))⟩
def GroupOK (x : Level) (i : Nat) : Prop := ∀ j : Nat, ix x.first i < j → (j : Int) < ix x.first (i + 1) → ix x.keys (j - 1) < ix x.keys j

noncomputable def CV1 : Ctx := mkC Try.prog G0 [(57, .pure sShaped)]
@[simp] theorem CV1_P : CV1.P = Try.prog := rfl
@[simp] theorem CV1_1 : CV1.S 57 = .pure sShaped := rfl
theorem mixCV1 : CV1.P.follows .mixedOrders = true := mixed
theorem sigCV1 : SigOK CV1 := sigOK_cons (entryPure shapedP Try.func57 rfl (by decide)) (sigOK_nil _ _)
noncomputable def sValid : List AV → Option (Prop × AV) := spec1 (fun (t : Trie) => SmallT t) (fun t => .bool (validB t))
set_option maxHeartbeats 8000000 in
theorem validP : PureOK Try.prog G0 20 sValid := by
  refine pure1 (C := CV1) sigCV1 mixCV1 Try.func20 rfl rfl rfl (by kernel_rfl) (by decide) (fun t ht => ?_)
  have ht2 := ht
  obtain ⟨tl, hx⟩ := ht2
  by_cases hS : ShapedT t
  case neg =>
    have e := shapedB_no hS
    have hB : validB t = false := validB_no fun h => hS ⟨h.1, h.2.1, h.2.2.1⟩
    simp [aev, cav, look, acallPure, abin, abinN, abinP, abinI, abinS, aun, aconv, afield, afieldAddr, aindexAddr, aindex, aslice, alow, ahigh, abuild, abuildGo, cellsOf, splice, fieldTy, alen, apick, amax, amin, aload, headV, aparts, abuildSlice, elParts, abytesStr, astore, amake, aappend, aclear, anew, arith, aresults, aresList, ares, spec0, spec1, spec2, spec3, spec4, eqCells, eqCell, sShaped, ht, e, hB]
  have e := shapedB_yes hS
  simp [aev, cav, look, acallPure, abin, abinN, abinP, abinI, abinS, aun, aconv, afield, afieldAddr, aindexAddr, aindex, aslice, alow, ahigh, abuild, abuildGo, cellsOf, splice, fieldTy, alen, apick, amax, amin, aload, headV, aparts, abuildSlice, elParts, abytesStr, astore, amake, aappend, aclear, anew, arith, aresults, aresList, ares, spec0, spec1, spec2, spec3, spec4, eqCells, eqCell, sShaped, ht, e]
  refine loop_rule (C := CV1) sigCV1 mixCV1 (fun k : Nat => ⟨[(1, .ptr 0 1 1 0 0), (11, Enc.enc t.levels), (12, .int .i64 t.levels.length), (13, .int .i64 k)], [TB t]⟩) (fun k => k ≤ t.levels.length ∧ ∀ i, i < k → SortOK (ix t.levels i)) (fun k => t.levels.length - k) (by kernel_rfl) ⟨0, by simp, weak_slots (by simp)⟩ (fun k ⟨hk, hs⟩ => ?_)
  by_cases hlt : k < t.levels.length
  · have i1 : I64 ((k : Int) + 1) := by unfold I64; omega
    obtain ⟨x1, x2⟩ := hx _ (ix_mem hlt)
    obtain ⟨a, hL, hR⟩ := shaped_level hS hlt
    obtain ⟨x, hxe⟩ : ∃ x, x = ix t.levels k := ⟨_, rfl⟩
    rw [← hxe] at x1 x2 hL hR
    have hm := first_mono hL hR
    have hlen := hL.1
    have noB : ∀ i, i + 1 < x.first.length → ¬ GroupOK x i → validB t = false := fun i hi h => validB_no fun hv => h (by
      have := hv.2.2.2 x (by rw [hxe]; exact ix_mem hlt)
      exact this i hi)
    simp [aev, cav, look, acallPure, abin, abinN, abinP, abinI, abinS, aun, aconv, afield, afieldAddr, aindexAddr, aindex, aslice, alow, ahigh, abuild, abuildGo, cellsOf, splice, fieldTy, alen, apick, amax, amin, aload, headV, aparts, abuildSlice, elParts, abytesStr, astore, amake, aappend, aclear, anew, arith, aresults, aresList, ares, spec0, spec1, spec2, spec3, spec4, eqCells, eqCell, TB, hlt, rowAt_enc hlt, ← hxe]
    refine loop_rule (C := CV1) sigCV1 mixCV1 (fun i : Nat => ⟨[(1, .ptr 0 1 1 0 0), (4, .ptr 1 1 2 0 0), (5, .int .i64 ((i : Int) + 1)), (11, Enc.enc t.levels), (12, .int .i64 t.levels.length), (13, .int .i64 k)], [TB t, VB x]⟩) (fun i => i ≤ a ∧ ∀ g, g < i → GroupOK x g) (fun i => a - i) (by kernel_rfl) ⟨0, by simp, weak_slots (by simp [TB, VB])⟩ (fun i ⟨hi, hg⟩ => ?_)
    by_cases hil : i < a
    · have j0 : i < x.first.length := by omega
      have j1 : i + 1 < x.first.length := by omega
      have j1' : (i : Int) + 1 < x.first.length := by omega
      have j2 : I64 ((i : Int) + 1 + 1) := by unfold I64; omega
      have j3 : I64 (i : Int) := by unfold I64; omega
      have j4 : ((i : Int) + 1).toNat = i + 1 := by omega
      have j5 : (0 : Int) ≤ (i : Int) + 1 := by omega
      obtain ⟨m0, m1⟩ := hm i (by omega)
      obtain ⟨m2, m3⟩ := hm (i + 1) (by omega)
      obtain ⟨f, hf⟩ : ∃ f : Nat, ix x.first i = f := ⟨(ix x.first i).toNat, by omega⟩
      have j6 : I64 ((f : Int) + 1) := by unfold I64; omega
      simp [aev, cav, look, acallPure, abin, abinN, abinP, abinI, abinS, aun, aconv, afield, afieldAddr, aindexAddr, aindex, aslice, alow, ahigh, abuild, abuildGo, cellsOf, splice, fieldTy, alen, apick, amax, amin, aload, headV, aparts, abuildSlice, elParts, abytesStr, astore, amake, aappend, aclear, anew, arith, aresults, aresList, ares, spec0, spec1, spec2, spec3, spec4, eqCells, eqCell, TB, VB, j0, j1, j1', j2, j3, j4, j5, rowAt_enc j0, hf, j6]
      refine loop_rule (C := CV1) sigCV1 mixCV1 (fun d : Nat => ⟨[(1, .ptr 0 1 1 0 0), (4, .ptr 1 1 2 0 0), (5, .int .i64 ((i : Int) + 1)), (6, .int .i64 (((f + d : Nat) : Int) + 1)), (11, Enc.enc t.levels), (12, .int .i64 t.levels.length), (13, .int .i64 k)], [TB t, VB x]⟩) (fun d => f + d ≤ x.keys.length ∧ ∀ j : Nat, f < j → j ≤ f + d → (j : Int) < ix x.first (i + 1) → ix x.keys (j - 1) < ix x.keys j) (fun d => x.keys.length - d) (by kernel_rfl) ⟨0, ⟨by omega, fun j h1 h2 => by omega⟩, weak_slots (by simp [TB, VB])⟩ (fun d ⟨hd, hj⟩ => ?_)
      by_cases hdl : ((f + d : Nat) : Int) + 1 < ix x.first (i + 1)
      · have k0 : f + d < x.keys.length := by omega
        have k1 : f + d + 1 < x.keys.length := by omega
        have k2 : I64 (((f + d : Nat) : Int) + 1 + 1) := by unfold I64; omega
        have k3 : I64 ((f + d : Nat) : Int) := by unfold I64; omega
        have k4 : (((f + d : Nat) : Int) + 1).toNat = f + d + 1 := by omega
        have k5 : (0 : Int) ≤ ((f + d : Nat) : Int) + 1 := by omega
        have k6 : ((f + d : Nat) : Int) + 1 < x.keys.length := by omega
        obtain ⟨g, hge⟩ : ∃ g, g = f + d := ⟨_, rfl⟩
        rw [← hge] at hdl k0 k1 k2 k3 k4 k5 k6 ⊢
        by_cases hlt2 : ix x.keys g < ix x.keys (g + 1)
        · have hno : ¬ ix x.keys (g + 1) ≤ ix x.keys g := by omega
          simp [aev, cav, look, acallPure, abin, abinN, abinP, abinI, abinS, aun, aconv, afield, afieldAddr, aindexAddr, aindex, aslice, alow, ahigh, abuild, abuildGo, cellsOf, splice, fieldTy, alen, apick, amax, amin, aload, headV, aparts, abuildSlice, elParts, abytesStr, astore, amake, aappend, aclear, anew, arith, aresults, aresList, ares, spec0, spec1, spec2, spec3, spec4, eqCells, eqCell, TB, VB, j0, j1, j1', j2, j3, j4, j5, rowAt_enc j0, rowAt_enc j1, hdl, k0, k1, k2, k3, k4, k5, k6, rowAt_enc k0, rowAt_enc k1, hlt2, hno]
          refine ⟨d + 1, ⟨by omega, fun j h1 h2 h3 => ?_⟩, by omega, weak_slots (by simp [hge]; omega)⟩
          rcases Nat.lt_or_ge (f + d) j with h | h
          · obtain rfl : j = g + 1 := by omega
            exact hlt2
          · exact hj j h1 h h3
        · have hno : ix x.keys (g + 1) ≤ ix x.keys g := by omega
          have hB := noB i j1 fun hG => hlt2 (hG (g + 1) (by rw [hf]; omega) (by omega))
          simp [aev, cav, look, acallPure, abin, abinN, abinP, abinI, abinS, aun, aconv, afield, afieldAddr, aindexAddr, aindex, aslice, alow, ahigh, abuild, abuildGo, cellsOf, splice, fieldTy, alen, apick, amax, amin, aload, headV, aparts, abuildSlice, elParts, abytesStr, astore, amake, aappend, aclear, anew, arith, aresults, aresList, ares, spec0, spec1, spec2, spec3, spec4, eqCells, eqCell, TB, VB, j0, j1, j1', j2, j3, j4, j5, rowAt_enc j0, rowAt_enc j1, hdl, k0, k1, k2, k3, k4, k5, k6, rowAt_enc k0, rowAt_enc k1, hlt2, hno, hB]
      · have hG : GroupOK x i := fun j h1 h2 => hj j (by rw [hf] at h1; omega) (by omega) h2
        obtain ⟨g, hge⟩ : ∃ g, g = f + d := ⟨_, rfl⟩
        rw [← hge] at hdl ⊢
        simp [aev, cav, look, acallPure, abin, abinN, abinP, abinI, abinS, aun, aconv, afield, afieldAddr, aindexAddr, aindex, aslice, alow, ahigh, abuild, abuildGo, cellsOf, splice, fieldTy, alen, apick, amax, amin, aload, headV, aparts, abuildSlice, elParts, abytesStr, astore, amake, aappend, aclear, anew, arith, aresults, aresList, ares, spec0, spec1, spec2, spec3, spec4, eqCells, eqCell, TB, VB, j0, j1, j1', j2, j3, j4, j5, rowAt_enc j0, rowAt_enc j1, hdl]
        refine ⟨i + 1, ⟨by omega, fun g hg2 => ?_⟩, by omega, weak_slots (by simp)⟩
        rcases Nat.lt_or_eq_of_le (Nat.le_of_lt_succ hg2) with h | rfl
        · exact hg g h
        · exact hG
    · have j1' : ¬ (i : Int) + 1 < x.first.length := by omega
      have hSo : SortOK x := fun g hg2 => hg g (by omega)
      simp [aev, cav, look, acallPure, abin, abinN, abinP, abinI, abinS, aun, aconv, afield, afieldAddr, aindexAddr, aindex, aslice, alow, ahigh, abuild, abuildGo, cellsOf, splice, fieldTy, alen, apick, amax, amin, aload, headV, aparts, abuildSlice, elParts, abytesStr, astore, amake, aappend, aclear, anew, arith, aresults, aresList, ares, spec0, spec1, spec2, spec3, spec4, eqCells, eqCell, TB, VB, j1', i1]
      refine ⟨k + 1, ⟨by omega, fun g hg2 => ?_⟩, by omega, weak_keep 1 (by simp) (by simp) (by simp [AV.clean, AV.clean1]) (by simp) (by simp [TB])⟩
      rcases Nat.lt_or_eq_of_le (Nat.le_of_lt_succ hg2) with h | rfl
      · exact hs g h
      · rw [← hxe]; exact hSo
  · have hB : validB t = true := validB_yes ⟨hS.1, hS.2.1, hS.2.2, fun x hx2 => by
      obtain ⟨k2, h1, rfl⟩ := List.mem_iff_getElem.1 hx2
      have := hs k2 (by omega)
      rwa [ix_lt h1] at this⟩
    simp [aev, cav, look, acallPure, abin, abinN, abinP, abinI, abinS, aun, aconv, afield, afieldAddr, aindexAddr, aindex, aslice, alow, ahigh, abuild, abuildGo, cellsOf, splice, fieldTy, alen, apick, amax, amin, aload, headV, aparts, abuildSlice, elParts, abytesStr, astore, amake, aappend, aclear, anew, arith, aresults, aresList, ares, spec0, spec1, spec2, spec3, spec4, eqCells, eqCell, TB, hlt, hB]
end Go.Proofs.Ytkonafdbfciikaa
