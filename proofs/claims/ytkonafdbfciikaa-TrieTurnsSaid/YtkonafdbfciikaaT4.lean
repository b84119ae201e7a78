/-
  layer 14: cursors that are valid for a trie, the program's side.
-/
import Derived.Test.YtkonafdbfciikaaT3
namespace Go.Proofs.Ytkonafdbfciikaa
open Go.RowKit
set_option linter.unusedSimpArgs false
set_option linter.unusedVariables false
set_option maxRecDepth 100000

/-- Which group of siblings the k-th level of a cursor is in. -/
def grp (c : Cursor) (k : Nat) : Nat := if k = 0 then 0 else (ix c.at_ (k - 1)).toNat
def sibA (t : Trie) (c : Cursor) (k : Nat) : Int := ix (ix t.levels k).first (grp c k)
def sibZ (t : Trie) (c : Cursor) (k : Nat) : Int := ix (ix t.levels k).first (grp c k + 1)
def StepOK (t : Trie) (c : Cursor) (k : Nat) : Prop := sibA t c k ≤ ix c.at_ k ∧ ix c.at_ k < sibZ t c k ∧ ix c.end_ k = sibZ t c k
def FineT (t : Trie) (c : Cursor) : Prop := ValidT t ∧ c.at_.length = c.end_.length ∧ c.at_.length ≤ t.levels.length ∧ ∀ k, k < c.at_.length → StepOK t c k
open Classical in
noncomputable def fineB (t : Trie) (c : Cursor) : Bool := decide (FineT t c)
open Classical in
theorem fineB_no {t : Trie} {c : Cursor} (h : ¬ FineT t c) : fineB t c = false := by unfold fineB; exact decide_eq_false h
open Classical in
theorem fineB_yes {t : Trie} {c : Cursor} (h : FineT t c) : fineB t c = true := by unfold fineB; exact decide_eq_true h

theorem valid_shaped {t : Trie} (h : ValidT t) : ShapedT t := ⟨h.1, h.2.1, h.2.2.1⟩
/-- The marks of the k-th level: one more than the keys above. -/
theorem valid_first {t : Trie} (h : ValidT t) {k : Nat} (hk : k < t.levels.length) : (ix t.levels k).first.length = (if k = 0 then 1 else (ix t.levels (k - 1)).keys.length) + 1 ∧ ∀ i, i < (ix t.levels k).first.length → 0 ≤ ix (ix t.levels k).first i ∧ ix (ix t.levels k).first i ≤ (ix t.levels k).keys.length := by
  obtain ⟨_, _, b, h3, _⟩ := valid_shaped h
  have h4 := ((shape_iff _ _ _ _).1 h3).1 k hk
  refine ⟨h4.1.1, fun i hi => ?_⟩
  have hR : (if k = 0 then 1 else (ix t.levels (k - 1)).keys.length) = 1 ∨ RiseOK (if k = 0 then 1 else (ix t.levels (k - 1)).keys.length) (ix t.levels k) := by
    by_cases e : k = 0
    · exact .inl (by rw [if_pos e])
    · exact .inr (h4.2.resolve_left (by omega))
  exact first_mono h4.1 hR i (by have := h4.1.1; omega)
/-- Where the levels above are in their groups, the group of the k-th is one. -/
theorem grp_in {t : Trie} {c : Cursor} (h : ValidT t) {k : Nat} (hk : k < t.levels.length) (hs : ∀ j, j < k → StepOK t c j) : grp c k + 1 < (ix t.levels k).first.length ∧ (k = 0 ∨ 0 ≤ ix c.at_ (k - 1)) := by
  induction k with
  | zero =>
    have := (valid_first h hk).1
    rw [if_pos rfl] at this
    have e : grp c 0 = 0 := rfl
    exact ⟨by rw [e, this]; decide, .inl rfl⟩
  | succ k ih =>
    obtain ⟨h1, _⟩ := ih (by omega) fun j hj => hs j (by omega)
    obtain ⟨s1, s2, s3⟩ := hs k (by omega)
    have f1 := valid_first h hk
    have f0 := (valid_first h (show k < t.levels.length by omega)).2
    have b1 := f0 (grp c k) (by omega)
    have b2 := f0 (grp c k + 1) h1
    rw [if_neg (by omega), Nat.add_sub_cancel] at f1
    have e : grp c (k + 1) = (ix c.at_ k).toNat := by unfold grp; rw [if_neg (by omega), Nat.add_sub_cancel]
    unfold sibA at s1
    unfold sibZ at s2
    rw [Nat.add_sub_cancel, e]
    exact ⟨by omega, .inr (by omega)⟩

def CB (c : Cursor) : Blk := ⟨37, 2, [[.slice 1 false (encRows c.at_), .slice 1 false (encRows c.end_)]], true, true⟩
def SmallC (c : Cursor) : Prop := c.at_.length ≤ 1000000 ∧ c.end_.length ≤ 1000000 ∧ (∀ v ∈ c.at_, I64 v) ∧ ∀ v ∈ c.end_, I64 v
def sSib : List AV → Option (Prop × AV) := spec3 (fun (t : Trie) (c : Cursor) (k : Int) => SmallT t ∧ SmallC c ∧ ∃ n : Nat, k = n ∧ n < t.levels.length ∧ n ≤ c.at_.length ∧ ValidT t ∧ ∀ j, j < n → StepOK t c j) (fun t c k => .tup [.int .i64 (sibA t c k.toNat), .int .i64 (sibZ t c k.toNat)])
set_option maxHeartbeats 8000000 in
theorem siblingsP : PureOK Try.prog G0 49 sSib := by
  refine pure3 (C := CE) sigCE mixCE Try.func49 rfl rfl rfl (by kernel_rfl) (by decide) (fun t c k ⟨⟨ht, hx⟩, ⟨ca, _⟩, n, hk, hn, hnc, hv, hs⟩ => ?_)
  subst hk
  obtain ⟨hg, hg2⟩ := grp_in hv hn hs
  have hf := valid_first hv hn
  obtain ⟨x1, x2⟩ := hx _ (ix_mem hn)
  by_cases h0 : n = 0
  · subst h0
    obtain ⟨_, _, b, h3, _⟩ := valid_shaped hv
    have h4 := (((shape_iff _ _ _ _).1 h3).1 0 hn).1
    rw [if_pos rfl] at h4
    have e1 : sibA t c 0 = 0 := by unfold sibA grp; rw [if_pos rfl]; exact h4.2.1
    have e2 : sibZ t c 0 = ((ix t.levels 0).keys.length : Int) := by unfold sibZ grp; rw [if_pos rfl]; exact h4.2.2
    simp [aev, cav, look, acallPure, abin, abinN, abinP, abinI, abinS, aun, aconv, afield, afieldAddr, aindexAddr, aindex, aslice, alow, ahigh, abuild, abuildGo, cellsOf, splice, fieldTy, alen, apick, amax, amin, aload, headV, aparts, abuildSlice, elParts, abytesStr, astore, amake, aappend, aclear, anew, arith, aresults, aresList, ares, spec0, spec1, spec2, spec3, spec4, eqCells, eqCell, hn, rowAt_enc hn, e1, e2]
  · have h0' : (n = 0) = False := eq_false h0
    have hn1 : n - 1 < c.at_.length := by omega
    have hat : 0 ≤ ix c.at_ (n - 1) := hg2.resolve_left h0
    have eg : grp c n = (ix c.at_ (n - 1)).toNat := by unfold grp; rw [if_neg h0]
    have i1 : I64 ((n : Int) - 1) := by unfold I64; omega
    have e1 : ((n : Int) - 1).toNat = n - 1 := by omega
    have e2 : (0 : Int) ≤ (n : Int) - 1 := by omega
    have e3 : (n : Int) - 1 < c.at_.length := by omega
    obtain ⟨g, hge⟩ : ∃ g : Nat, ix c.at_ (n - 1) = g := ⟨(ix c.at_ (n - 1)).toNat, by omega⟩
    have eg2 : grp c n = g := by rw [eg, hge]; rfl
    rw [eg2] at hg
    have g1 : g < (ix t.levels n).first.length := by omega
    have i2 : I64 ((g : Int) + 1) := by unfold I64; omega
    have e4 : ((g : Int) + 1).toNat = g + 1 := by omega
    have e5 : (0 : Int) ≤ (g : Int) + 1 := by omega
    have e6 : (g : Int) + 1 < (ix t.levels n).first.length := by omega
    have r1 : sibA t c n = ix (ix t.levels n).first g := by unfold sibA; rw [eg2]
    have r2 : sibZ t c n = ix (ix t.levels n).first (g + 1) := by unfold sibZ; rw [eg2]
    simp [aev, cav, look, acallPure, abin, abinN, abinP, abinI, abinS, aun, aconv, afield, afieldAddr, aindexAddr, aindex, aslice, alow, ahigh, abuild, abuildGo, cellsOf, splice, fieldTy, alen, apick, amax, amin, aload, headV, aparts, abuildSlice, elParts, abytesStr, astore, amake, aappend, aclear, anew, arith, aresults, aresList, ares, spec0, spec1, spec2, spec3, spec4, eqCells, eqCell, h0', hn, rowAt_enc hn, hn1, rowAt_enc hn1, i1, e1, e2, e3, hge, g1, hg, rowAt_enc g1, rowAt_enc hg, i2, e4, e5, e6, r1, r2]
    omega

noncomputable def CF1 : Ctx := mkC Try.prog G0 [(20, .pure sValid), (49, .pure sSib)]
@[simp] theorem CF1_P : CF1.P = Try.prog := rfl
@[simp] theorem CF1_1 : CF1.S 20 = .pure sValid := rfl
@[simp] theorem CF1_2 : CF1.S 49 = .pure sSib := rfl
theorem mixCF1 : CF1.P.follows .mixedOrders = true := mixed
theorem sigCF1 : SigOK CF1 := sigOK_cons (entryPure validP Try.func20 rfl (by decide)) (sigOK_cons (entryPure siblingsP Try.func49 rfl (by decide)) (sigOK_nil _ _))
noncomputable def sFine : List AV → Option (Prop × AV) := spec2 (fun (t : Trie) (c : Cursor) => SmallT t ∧ SmallC c) (fun t c => .bool (fineB t c))
set_option maxHeartbeats 8000000 in
theorem fineP : PureOK Try.prog G0 48 sFine := by
  refine pure2 (C := CF1) sigCF1 mixCF1 Try.func48 rfl rfl rfl (by kernel_rfl) (by decide) (fun t c ⟨hT, hC⟩ => ?_)
  have hT2 := hT
  obtain ⟨tl, hx⟩ := hT2
  have hC2 := hC
  obtain ⟨ca, ce, _, _⟩ := hC2
  by_cases hv : ValidT t
  case neg =>
    have e := validB_no hv
    have hB : fineB t c = false := fineB_no fun h => hv h.1
    simp [aev, cav, look, acallPure, abin, abinN, abinP, abinI, abinS, aun, aconv, afield, afieldAddr, aindexAddr, aindex, aslice, alow, ahigh, abuild, abuildGo, cellsOf, splice, fieldTy, alen, apick, amax, amin, aload, headV, aparts, abuildSlice, elParts, abytesStr, astore, amake, aappend, aclear, anew, arith, aresults, aresList, ares, spec0, spec1, spec2, spec3, spec4, eqCells, eqCell, sValid, hT, e, hB]
  have e := validB_yes hv
  by_cases h1 : c.at_.length = c.end_.length
  case neg =>
    have h1' : ((c.at_.length : Int) = c.end_.length) = False := eq_false (by omega)
    have hB : fineB t c = false := fineB_no fun h => h1 h.2.1
    simp [aev, cav, look, acallPure, abin, abinN, abinP, abinI, abinS, aun, aconv, afield, afieldAddr, aindexAddr, aindex, aslice, alow, ahigh, abuild, abuildGo, cellsOf, splice, fieldTy, alen, apick, amax, amin, aload, headV, aparts, abuildSlice, elParts, abytesStr, astore, amake, aappend, aclear, anew, arith, aresults, aresList, ares, spec0, spec1, spec2, spec3, spec4, eqCells, eqCell, sValid, hT, e, hB, h1, h1']
  have h1' : ((c.at_.length : Int) = c.end_.length) = True := eq_true (by omega)
  by_cases h2 : t.levels.length < c.at_.length
  · have h2' : (t.levels.length : Int) < c.at_.length := by omega
    have hB : fineB t c = false := fineB_no fun h => by have := h.2.2.1; omega
    simp [aev, cav, look, acallPure, abin, abinN, abinP, abinI, abinS, aun, aconv, afield, afieldAddr, aindexAddr, aindex, aslice, alow, ahigh, abuild, abuildGo, cellsOf, splice, fieldTy, alen, apick, amax, amin, aload, headV, aparts, abuildSlice, elParts, abytesStr, astore, amake, aappend, aclear, anew, arith, aresults, aresList, ares, spec0, spec1, spec2, spec3, spec4, eqCells, eqCell, sValid, hT, e, hB, h1', h2, h2']
  have h2' : ¬ (t.levels.length : Int) < c.at_.length := by omega
  simp [aev, cav, look, acallPure, abin, abinN, abinP, abinI, abinS, aun, aconv, afield, afieldAddr, aindexAddr, aindex, aslice, alow, ahigh, abuild, abuildGo, cellsOf, splice, fieldTy, alen, apick, amax, amin, aload, headV, aparts, abuildSlice, elParts, abytesStr, astore, amake, aappend, aclear, anew, arith, aresults, aresList, ares, spec0, spec1, spec2, spec3, spec4, eqCells, eqCell, sValid, hT, e, h1', h2, h2']
  refine loop_rule (C := CF1) sigCF1 mixCF1 (fun k : Nat => ⟨[(2, .ptr 0 1 1 0 0), (3, .ptr 1 1 2 0 0), (31, Enc.enc c.at_), (32, .int .i64 c.at_.length), (33, .int .i64 k)], [TB t, CB c]⟩) (fun k => k ≤ c.at_.length ∧ ∀ j, j < k → StepOK t c j) (fun k => c.at_.length - k) (by kernel_rfl) ⟨0, by simp, weak_slots (by simp)⟩ (fun k ⟨hk, hs⟩ => ?_)
  by_cases hlt : k < c.at_.length
  · have i1 : I64 ((k : Int) + 1) := by unfold I64; omega
    have hke : k < c.end_.length := by omega
    have hpre : ∃ n : Nat, (k : Int) = n ∧ n < t.levels.length ∧ n ≤ c.at_.length ∧ ValidT t ∧ ∀ j, j < n → StepOK t c j := ⟨k, rfl, by omega, by omega, hv, hs⟩
    have no : ¬ StepOK t c k → fineB t c = false := fun h => fineB_no fun hf => h (hf.2.2.2 k hlt)
    by_cases a1 : ix c.at_ k < sibA t c k
    · have hB := no fun h => by have := h.1; omega
      simp [aev, cav, look, acallPure, abin, abinN, abinP, abinI, abinS, aun, aconv, afield, afieldAddr, aindexAddr, aindex, aslice, alow, ahigh, abuild, abuildGo, cellsOf, splice, fieldTy, alen, apick, amax, amin, aload, headV, aparts, abuildSlice, elParts, abytesStr, astore, amake, aappend, aclear, anew, arith, aresults, aresList, ares, spec0, spec1, spec2, spec3, spec4, eqCells, eqCell, TB, CB, hlt, hke, rowAt_enc hlt, rowAt_enc hke, sSib, hT, hC, hpre, a1, hB]
    by_cases a2 : sibZ t c k ≤ ix c.at_ k
    · have hB := no fun h => by have := h.2.1; omega
      simp [aev, cav, look, acallPure, abin, abinN, abinP, abinI, abinS, aun, aconv, afield, afieldAddr, aindexAddr, aindex, aslice, alow, ahigh, abuild, abuildGo, cellsOf, splice, fieldTy, alen, apick, amax, amin, aload, headV, aparts, abuildSlice, elParts, abytesStr, astore, amake, aappend, aclear, anew, arith, aresults, aresList, ares, spec0, spec1, spec2, spec3, spec4, eqCells, eqCell, TB, CB, hlt, hke, rowAt_enc hlt, rowAt_enc hke, sSib, hT, hC, hpre, a1, a2, hB]
    rcases em2 (ix c.end_ k = sibZ t c k) with a3 | a3
    · simp [aev, cav, look, acallPure, abin, abinN, abinP, abinI, abinS, aun, aconv, afield, afieldAddr, aindexAddr, aindex, aslice, alow, ahigh, abuild, abuildGo, cellsOf, splice, fieldTy, alen, apick, amax, amin, aload, headV, aparts, abuildSlice, elParts, abytesStr, astore, amake, aappend, aclear, anew, arith, aresults, aresList, ares, spec0, spec1, spec2, spec3, spec4, eqCells, eqCell, TB, CB, hlt, hke, rowAt_enc hlt, rowAt_enc hke, sSib, hT, hC, hpre, a1, a2, a3, i1]
      refine ⟨k + 1, ⟨by omega, fun j hj => ?_⟩, by omega, weak_slots (by simp)⟩
      rcases Nat.lt_or_eq_of_le (Nat.le_of_lt_succ hj) with h | rfl
      · exact hs j h
      · exact ⟨by omega, by omega, of_eq_true a3⟩
    · have hB := no fun h => of_eq_false a3 h.2.2
      simp [aev, cav, look, acallPure, abin, abinN, abinP, abinI, abinS, aun, aconv, afield, afieldAddr, aindexAddr, aindex, aslice, alow, ahigh, abuild, abuildGo, cellsOf, splice, fieldTy, alen, apick, amax, amin, aload, headV, aparts, abuildSlice, elParts, abytesStr, astore, amake, aappend, aclear, anew, arith, aresults, aresList, ares, spec0, spec1, spec2, spec3, spec4, eqCells, eqCell, TB, CB, hlt, hke, rowAt_enc hlt, rowAt_enc hke, sSib, hT, hC, hpre, a1, a2, a3, hB]
  · have hB : fineB t c = true := fineB_yes ⟨hv, h1, by omega, fun j hj => hs j (by omega)⟩
    simp [aev, cav, look, acallPure, abin, abinN, abinP, abinI, abinS, aun, aconv, afield, afieldAddr, aindexAddr, aindex, aslice, alow, ahigh, abuild, abuildGo, cellsOf, splice, fieldTy, alen, apick, amax, amin, aload, headV, aparts, abuildSlice, elParts, abytesStr, astore, amake, aappend, aclear, anew, arith, aresults, aresList, ares, spec0, spec1, spec2, spec3, spec4, eqCells, eqCell, TB, CB, hlt, hB]
end Go.Proofs.Ytkonafdbfciikaa
