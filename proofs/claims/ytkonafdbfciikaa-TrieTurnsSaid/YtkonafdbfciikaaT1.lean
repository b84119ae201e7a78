/-
  layer 14: the shape of a trie, the program's side.
-/
import Derived.Test.YtkonafdbfciikaaTP
import Derived.Test.YtkonafdbfciikaaT
namespace Go.Proofs.Ytkonafdbfciikaa
open Go.RowKit
set_option linter.unusedSimpArgs false
set_option linter.unusedVariables false
set_option maxRecDepth 100000

theorem em2 (p : Prop) : (p = True) ∨ (p = False) := by
  by_cases h : p
  · exact .inl (eq_true h)
  · exact .inr (eq_false h)
def G0 : Nat → AV := fun _ => .undef
noncomputable def CE : Ctx := mkC Try.prog G0 []
@[simp] theorem CE_P : CE.P = Try.prog := rfl
theorem sigCE : SigOK CE := sigOK_nil _ _
theorem mixCE : CE.P.follows .mixedOrders = true := mixed

def SmallT (t : Trie) : Prop := t.levels.length ≤ 1000000 ∧ ∀ x ∈ t.levels, x.keys.length ≤ 1000000 ∧ x.first.length ≤ 1000001
def ShapedT (t : Trie) : Prop := 1 ≤ t.levels.length ∧ t.levels.length ≤ 8 ∧ ∃ b, Shape 0 1 t.levels b ∧ b ≤ 20000
open Classical in
noncomputable def shapedB (t : Trie) : Bool := decide (ShapedT t)
open Classical in
theorem shapedB_no {t : Trie} (h : ¬ ShapedT t) : shapedB t = false := by unfold shapedB; exact decide_eq_false h
open Classical in
theorem shapedB_yes {t : Trie} (h : ShapedT t) : shapedB t = true := by unfold shapedB; exact decide_eq_true h
def TB (t : Trie) : Blk := ⟨32, 1, [[.slice 2 false (encRows t.levels)]], true, true⟩
def VB (x : Level) : Blk := ⟨62, 2, [[.slice 1 false (encRows x.keys), .slice 1 false (encRows x.first)]], true, true⟩
theorem shape_drop {l : List Level} {k a b : Nat} (h : k < l.length) : Shape k a (l.drop k) b ↔ LenOK a (ix l k) ∧ (k = 0 ∨ RiseOK a (ix l k)) ∧ Shape (k + 1) (ix l k).keys.length (l.drop (k + 1)) b := by
  rw [List.drop_eq_getElem_cons h, Shape, ix_lt h]

noncomputable def sShaped : List AV → Option (Prop × AV) := spec1 (fun (t : Trie) => SmallT t) (fun t => .bool (shapedB t))
set_option maxHeartbeats 8000000 in
theorem shapedP : PureOK Try.prog G0 57 sShaped := by
  refine pure1 (C := CE) sigCE mixCE Try.func57 rfl rfl rfl (by kernel_rfl) (by decide) (fun t ⟨ht, hx⟩ => ?_)
  by_cases h1 : t.levels = []
  · have hB : shapedB t = false := shapedB_no fun h => by have := h.1; rw [h1] at this; simp at this
    simp [aev, cav, look, acallPure, abin, abinN, abinP, abinI, abinS, aun, aconv, afield, afieldAddr, aindexAddr, aindex, aslice, alow, ahigh, abuild, abuildGo, cellsOf, splice, fieldTy, alen, apick, amax, amin, aload, headV, aparts, abuildSlice, elParts, abytesStr, astore, amake, aappend, aclear, anew, arith, aresults, aresList, ares, spec0, spec1, spec2, spec3, spec4, eqCells, eqCell, h1, hB]
  have hpos : 0 < t.levels.length := List.length_pos_iff.2 h1
  have h1' : ¬ (t.levels.length : Int) < 1 := by omega
  by_cases h2 : 8 < t.levels.length
  · have h2' : (8 : Int) < t.levels.length := by omega
    have hB : shapedB t = false := shapedB_no fun h => by have := h.2.1; omega
    simp [aev, cav, look, acallPure, abin, abinN, abinP, abinI, abinS, aun, aconv, afield, afieldAddr, aindexAddr, aindex, aslice, alow, ahigh, abuild, abuildGo, cellsOf, splice, fieldTy, alen, apick, amax, amin, aload, headV, aparts, abuildSlice, elParts, abytesStr, astore, amake, aappend, aclear, anew, arith, aresults, aresList, ares, spec0, spec1, spec2, spec3, spec4, eqCells, eqCell, h1, h1', h2, h2', hB]
  have h2' : ¬ (8 : Int) < t.levels.length := by omega
  simp [aev, cav, look, acallPure, abin, abinN, abinP, abinI, abinS, aun, aconv, afield, afieldAddr, aindexAddr, aindex, aslice, alow, ahigh, abuild, abuildGo, cellsOf, splice, fieldTy, alen, apick, amax, amin, aload, headV, aparts, abuildSlice, elParts, abytesStr, astore, amake, aappend, aclear, anew, arith, aresults, aresList, ares, spec0, spec1, spec2, spec3, spec4, eqCells, eqCell, h1, h2, h2', h1']
  refine loop_rule (C := CE) sigCE mixCE (fun q : Nat × Nat => ⟨[(1, .ptr 0 1 1 0 0), (3, .int .i64 q.2), (18, Enc.enc t.levels), (19, .int .i64 t.levels.length), (20, .int .i64 q.1)], [TB t]⟩) (fun q => q.1 ≤ t.levels.length ∧ q.2 ≤ 1000000 ∧ ∀ b, Shape q.1 q.2 (t.levels.drop q.1) b ↔ Shape 0 1 t.levels b) (fun q => t.levels.length - q.1) (by kernel_rfl) ⟨(0, 1), ⟨by omega, by omega, fun b => Iff.rfl⟩, weak_slots (by simp)⟩ (fun ⟨k, a⟩ ⟨hk, ha, hs⟩ => ?_)
  simp only at hk ha hs ⊢
  by_cases hlt : k < t.levels.length
  · have i1 : I64 ((k : Int) + 1) := by unfold I64; omega
    have i2 : I64 ((a : Int) + 1) := by unfold I64; omega
    obtain ⟨x1, x2⟩ := hx _ (ix_mem hlt)
    obtain ⟨x, hxe⟩ : ∃ x, x = ix t.levels k := ⟨_, rfl⟩
    have hs' : ∀ b, (LenOK a x ∧ (k = 0 ∨ RiseOK a x) ∧ Shape (k + 1) x.keys.length (t.levels.drop (k + 1)) b) ↔ Shape 0 1 t.levels b := fun b => by rw [← hs b, shape_drop hlt, hxe]
    rw [← hxe] at x1 x2
    have no : ¬ LenOK a x → shapedB t = false := fun h => shapedB_no fun ⟨_, _, b, h3, _⟩ => h ((hs' b).2 h3).1
    by_cases l1 : x.first.length = a + 1
    case neg =>
      have l1' : ((x.first.length : Int) = (a : Int) + 1) = False := eq_false (by omega)
      have hB := no fun h => l1 h.1
      simp [aev, cav, look, acallPure, abin, abinN, abinP, abinI, abinS, aun, aconv, afield, afieldAddr, aindexAddr, aindex, aslice, alow, ahigh, abuild, abuildGo, cellsOf, splice, fieldTy, alen, apick, amax, amin, aload, headV, aparts, abuildSlice, elParts, abytesStr, astore, amake, aappend, aclear, anew, arith, aresults, aresList, ares, spec0, spec1, spec2, spec3, spec4, eqCells, eqCell, TB, hlt, rowAt_enc hlt, ← hxe, i2, l1, l1', hB]
    have l1' : ((x.first.length : Int) = (a : Int) + 1) = True := eq_true (by omega)
    have l0 : 0 < x.first.length := by omega
    have la : a < x.first.length := by omega
    rcases em2 (ix x.first 0 = 0) with l2 | l2
    case inr =>
      have hB := no fun h => of_eq_false l2 h.2.1
      simp [aev, cav, look, acallPure, abin, abinN, abinP, abinI, abinS, aun, aconv, afield, afieldAddr, aindexAddr, aindex, aslice, alow, ahigh, abuild, abuildGo, cellsOf, splice, fieldTy, alen, apick, amax, amin, aload, headV, aparts, abuildSlice, elParts, abytesStr, astore, amake, aappend, aclear, anew, arith, aresults, aresList, ares, spec0, spec1, spec2, spec3, spec4, eqCells, eqCell, TB, hlt, rowAt_enc hlt, ← hxe, i2, l1', l0, la, rowAt_enc l0, rowAt_enc la, l2, hB]
    rcases em2 (ix x.first a = (x.keys.length : Int)) with l3 | l3
    case inr =>
      have hB := no fun h => of_eq_false l3 h.2.2
      simp [aev, cav, look, acallPure, abin, abinN, abinP, abinI, abinS, aun, aconv, afield, afieldAddr, aindexAddr, aindex, aslice, alow, ahigh, abuild, abuildGo, cellsOf, splice, fieldTy, alen, apick, amax, amin, aload, headV, aparts, abuildSlice, elParts, abytesStr, astore, amake, aappend, aclear, anew, arith, aresults, aresList, ares, spec0, spec1, spec2, spec3, spec4, eqCells, eqCell, TB, hlt, rowAt_enc hlt, ← hxe, i2, l1', l0, la, rowAt_enc l0, rowAt_enc la, l2, l3, hB]
    have hL : LenOK a x := ⟨l1, of_eq_true l2, of_eq_true l3⟩
    by_cases hk0 : k = 0
    · have hk0' : (k = 0) = True := eq_true hk0
      simp [aev, cav, look, acallPure, abin, abinN, abinP, abinI, abinS, aun, aconv, afield, afieldAddr, aindexAddr, aindex, aslice, alow, ahigh, abuild, abuildGo, cellsOf, splice, fieldTy, alen, apick, amax, amin, aload, headV, aparts, abuildSlice, elParts, abytesStr, astore, amake, aappend, aclear, anew, arith, aresults, aresList, ares, spec0, spec1, spec2, spec3, spec4, eqCells, eqCell, TB, hlt, rowAt_enc hlt, ← hxe, i1, i2, l1', l0, la, rowAt_enc l0, rowAt_enc la, l2, l3, hk0']
      exact ⟨k + 1, x.keys.length, ⟨by omega, by omega, fun b => by rw [← hs' b]; exact ⟨fun h => ⟨hL, .inl hk0, h⟩, fun h => h.2.2⟩⟩, by omega, weak_keep 1 (by simp [hk0]) (by simp) (by simp [AV.clean, AV.clean1]) (by simp) (by simp [TB])⟩
    · have hk0' : (k = 0) = False := eq_false hk0
      simp [aev, cav, look, acallPure, abin, abinN, abinP, abinI, abinS, aun, aconv, afield, afieldAddr, aindexAddr, aindex, aslice, alow, ahigh, abuild, abuildGo, cellsOf, splice, fieldTy, alen, apick, amax, amin, aload, headV, aparts, abuildSlice, elParts, abytesStr, astore, amake, aappend, aclear, anew, arith, aresults, aresList, ares, spec0, spec1, spec2, spec3, spec4, eqCells, eqCell, TB, hlt, rowAt_enc hlt, ← hxe, i1, i2, l1', l0, la, rowAt_enc l0, rowAt_enc la, l2, l3, hk0']
      refine loop_rule (C := CE) sigCE mixCE (fun j : Nat => ⟨[(1, .ptr 0 1 1 0 0), (3, .int .i64 x.keys.length), (5, .ptr 1 1 2 0 0), (6, .int .i64 ((j : Int) + 1)), (18, Enc.enc t.levels), (19, .int .i64 t.levels.length), (20, .int .i64 k)], [TB t, VB x]⟩) (fun j => j ≤ a ∧ ∀ i, i < j → ix x.first i < ix x.first (i + 1)) (fun j => a - j) (by kernel_rfl) ⟨0, by simp, weak_slots (by simp [TB, VB])⟩ (fun j ⟨hj, hr⟩ => ?_)
      by_cases hjl : j < a
      · have j0 : j < x.first.length := by omega
        have j1 : j + 1 < x.first.length := by omega
        have j1' : (j : Int) + 1 < x.first.length := by omega
        have j2 : I64 ((j : Int) + 1 + 1) := by unfold I64; omega
        have j3 : I64 (j : Int) := by unfold I64; omega
        have j4 : ((j : Int) + 1).toNat = j + 1 := by omega
        have j5 : (0 : Int) ≤ (j : Int) + 1 := by omega
        by_cases hlt2 : ix x.first j < ix x.first (j + 1)
        · have hge : ¬ ix x.first (j + 1) ≤ ix x.first j := by omega
          simp [aev, cav, look, acallPure, abin, abinN, abinP, abinI, abinS, aun, aconv, afield, afieldAddr, aindexAddr, aindex, aslice, alow, ahigh, abuild, abuildGo, cellsOf, splice, fieldTy, alen, apick, amax, amin, aload, headV, aparts, abuildSlice, elParts, abytesStr, astore, amake, aappend, aclear, anew, arith, aresults, aresList, ares, spec0, spec1, spec2, spec3, spec4, eqCells, eqCell, TB, VB, j0, j1, j1', j2, j3, j4, j5, rowAt_enc j0, rowAt_enc j1, hlt2, hge]
          refine ⟨j + 1, ⟨by omega, fun i hi => ?_⟩, by omega, weak_slots (by simp)⟩
          rcases Nat.lt_or_eq_of_le (Nat.le_of_lt_succ hi) with h | rfl
          · exact hr i h
          · exact hlt2
        · have hge : ix x.first (j + 1) ≤ ix x.first j := by omega
          have hB : shapedB t = false := shapedB_no fun ⟨_, _, b, h3, _⟩ => by
            have := ((hs' b).2 h3).2.1.resolve_left hk0 j hjl
            omega
          simp [aev, cav, look, acallPure, abin, abinN, abinP, abinI, abinS, aun, aconv, afield, afieldAddr, aindexAddr, aindex, aslice, alow, ahigh, abuild, abuildGo, cellsOf, splice, fieldTy, alen, apick, amax, amin, aload, headV, aparts, abuildSlice, elParts, abytesStr, astore, amake, aappend, aclear, anew, arith, aresults, aresList, ares, spec0, spec1, spec2, spec3, spec4, eqCells, eqCell, TB, VB, j0, j1, j1', j2, j3, j4, j5, rowAt_enc j0, rowAt_enc j1, hlt2, hge, hB]
      · have j1' : ¬ (j : Int) + 1 < x.first.length := by omega
        have hR : RiseOK a x := fun i hi => hr i (by omega)
        simp [aev, cav, look, acallPure, abin, abinN, abinP, abinI, abinS, aun, aconv, afield, afieldAddr, aindexAddr, aindex, aslice, alow, ahigh, abuild, abuildGo, cellsOf, splice, fieldTy, alen, apick, amax, amin, aload, headV, aparts, abuildSlice, elParts, abytesStr, astore, amake, aappend, aclear, anew, arith, aresults, aresList, ares, spec0, spec1, spec2, spec3, spec4, eqCells, eqCell, TB, VB, j1', i1]
        exact ⟨k + 1, x.keys.length, ⟨by omega, by omega, fun b => by rw [← hs' b]; exact ⟨fun h => ⟨hL, .inr hR, h⟩, fun h => h.2.2⟩⟩, by omega, weak_keep 1 (by simp) (by simp) (by simp [AV.clean, AV.clean1]) (by simp) (by simp [TB])⟩
  · have he : ∀ b, a = b ↔ Shape 0 1 t.levels b := fun b => by rw [← hs b, List.drop_eq_nil_of_le (by omega), Shape]
    by_cases h3 : a ≤ 20000
    · have h3' : (a : Int) ≤ 20000 := by omega
      have hB : shapedB t = true := shapedB_yes ⟨by omega, by omega, a, (he a).1 rfl, h3⟩
      simp [aev, cav, look, acallPure, abin, abinN, abinP, abinI, abinS, aun, aconv, afield, afieldAddr, aindexAddr, aindex, aslice, alow, ahigh, abuild, abuildGo, cellsOf, splice, fieldTy, alen, apick, amax, amin, aload, headV, aparts, abuildSlice, elParts, abytesStr, astore, amake, aappend, aclear, anew, arith, aresults, aresList, ares, spec0, spec1, spec2, spec3, spec4, eqCells, eqCell, TB, hlt, h3, h3', hB]
    · have h3' : ¬ (a : Int) ≤ 20000 := by omega
      have hB : shapedB t = false := shapedB_no fun ⟨_, _, b, h4, h5⟩ => by have := (he b).2 h4; omega
      simp [aev, cav, look, acallPure, abin, abinN, abinP, abinI, abinS, aun, aconv, afield, afieldAddr, aindexAddr, aindex, aslice, alow, ahigh, abuild, abuildGo, cellsOf, splice, fieldTy, alen, apick, amax, amin, aload, headV, aparts, abuildSlice, elParts, abytesStr, astore, amake, aappend, aclear, anew, arith, aresults, aresList, ares, spec0, spec1, spec2, spec3, spec4, eqCells, eqCell, TB, hlt, h3, h3', hB]
end Go.Proofs.Ytkonafdbfciikaa
