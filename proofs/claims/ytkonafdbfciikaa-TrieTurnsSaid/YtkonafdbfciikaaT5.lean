/-
  layer 14: the key of a cursor; what is valid, the reference's side.
-/
import Derived.Test.YtkonafdbfciikaaT4
namespace Go.Proofs.Ytkonafdbfciikaa
open Go.RowKit
set_option linter.unusedSimpArgs false
set_option linter.unusedVariables false
set_option maxRecDepth 100000

noncomputable def CF2 : Ctx := mkC Try.prog G0 [(34, .pure sValidR)]
@[simp] theorem CF2_P : CF2.P = Try.prog := rfl
@[simp] theorem CF2_1 : CF2.S 34 = .pure sValidR := rfl
theorem mixCF2 : CF2.P.follows .mixedOrders = true := mixed
theorem sigCF2 : SigOK CF2 := sigOK_cons (entryPure validR Try.func34 rfl (by decide)) (sigOK_nil _ _)
noncomputable def sFits : List AV → Option (Prop × AV) := spec2 (fun (t : Trie) (c : Cursor) => (SmallT t ∧ IntsT t) ∧ SmallC c) (fun t c => .bool (fineB t c))
set_option maxHeartbeats 8000000 in
theorem fitsR : PureOK Try.prog G0 63 sFits := by
  refine pure2 (C := CF2) sigCF2 mixCF2 Try.func63 rfl rfl rfl (by kernel_rfl) (by decide) (fun t c ⟨hT, hC⟩ => ?_)
  have hT2 := hT
  obtain ⟨⟨tl, hx⟩, _⟩ := hT2
  obtain ⟨ca, ce, _, _⟩ := hC
  by_cases hv : ValidT t
  case neg =>
    have e := validB_no hv
    have hB : fineB t c = false := fineB_no fun h => hv h.1
    simp [aev, cav, look, acallPure, abin, abinN, abinP, abinI, abinS, aun, aconv, afield, afieldAddr, aindexAddr, aindex, aslice, alow, ahigh, abuild, abuildGo, cellsOf, splice, fieldTy, alen, apick, amax, amin, aload, headV, aparts, abuildSlice, elParts, abytesStr, astore, amake, aappend, aclear, anew, arith, aresults, aresList, ares, spec0, spec1, spec2, spec3, spec4, eqCells, eqCell, sValidR, hT, e, hB]
  have e := validB_yes hv
  by_cases h1 : c.at_.length = c.end_.length
  case neg =>
    have h1' : ((c.at_.length : Int) = c.end_.length) = False := eq_false (by omega)
    have hB : fineB t c = false := fineB_no fun h => h1 h.2.1
    simp [aev, cav, look, acallPure, abin, abinN, abinP, abinI, abinS, aun, aconv, afield, afieldAddr, aindexAddr, aindex, aslice, alow, ahigh, abuild, abuildGo, cellsOf, splice, fieldTy, alen, apick, amax, amin, aload, headV, aparts, abuildSlice, elParts, abytesStr, astore, amake, aappend, aclear, anew, arith, aresults, aresList, ares, spec0, spec1, spec2, spec3, spec4, eqCells, eqCell, sValidR, hT, e, hB, h1, h1']
  have h1' : ((c.at_.length : Int) = c.end_.length) = True := eq_true (by omega)
  by_cases h2 : t.levels.length < c.at_.length
  · have h2' : (t.levels.length : Int) < c.at_.length := by omega
    have hB : fineB t c = false := fineB_no fun h => by have := h.2.2.1; omega
    simp [aev, cav, look, acallPure, abin, abinN, abinP, abinI, abinS, aun, aconv, afield, afieldAddr, aindexAddr, aindex, aslice, alow, ahigh, abuild, abuildGo, cellsOf, splice, fieldTy, alen, apick, amax, amin, aload, headV, aparts, abuildSlice, elParts, abytesStr, astore, amake, aappend, aclear, anew, arith, aresults, aresList, ares, spec0, spec1, spec2, spec3, spec4, eqCells, eqCell, sValidR, hT, e, hB, h1', h2, h2']
  have h2' : ¬ (t.levels.length : Int) < c.at_.length := by omega
  simp [aev, cav, look, acallPure, abin, abinN, abinP, abinI, abinS, aun, aconv, afield, afieldAddr, aindexAddr, aindex, aslice, alow, ahigh, abuild, abuildGo, cellsOf, splice, fieldTy, alen, apick, amax, amin, aload, headV, aparts, abuildSlice, elParts, abytesStr, astore, amake, aappend, aclear, anew, arith, aresults, aresList, ares, spec0, spec1, spec2, spec3, spec4, eqCells, eqCell, sValidR, hT, e, h1', h2, h2']
  refine loop_rule (C := CF2) sigCF2 mixCF2 (fun k : Nat => ⟨[(2, .ptr 0 1 1 0 0), (3, .ptr 1 1 2 0 0), (5, .int .i64 (grp c k)), (6, .int .i64 k)], [TB t, CB c]⟩) (fun k => k ≤ c.at_.length ∧ ∀ j, j < k → StepOK t c j) (fun k => c.at_.length - k) (by kernel_rfl) ⟨0, by simp, weak_slots (by simp [grp])⟩ (fun k ⟨hk, hs⟩ => ?_)
  by_cases hlt : k < c.at_.length
  · have i1 : I64 ((k : Int) + 1) := by unfold I64; omega
    have hke : k < c.end_.length := by omega
    have hkt : k < t.levels.length := by omega
    obtain ⟨hg, hg2⟩ := grp_in hv hkt hs
    have hf := (valid_first hv hkt).2
    obtain ⟨x1, x2⟩ := hx _ (ix_mem hkt)
    obtain ⟨g, hge⟩ : ∃ g, g = grp c k := ⟨_, rfl⟩
    rw [← hge] at hg
    have g1 : g < (ix t.levels k).first.length := by omega
    have i2 : I64 ((g : Int) + 1) := by unfold I64; omega
    have e4 : ((g : Int) + 1).toNat = g + 1 := by omega
    have e5 : (0 : Int) ≤ (g : Int) + 1 := by omega
    have e6 : (g : Int) + 1 < (ix t.levels k).first.length := by omega
    have r1 : ix (ix t.levels k).first g = sibA t c k := by unfold sibA; rw [hge]
    have r2 : ix (ix t.levels k).first (g + 1) = sibZ t c k := by unfold sibZ; rw [hge]
    have b0 := (hf g g1).1
    rw [r1] at b0
    rw [← hge]
    have no : ¬ StepOK t c k → fineB t c = false := fun h => fineB_no fun hf => h (hf.2.2.2 k hlt)
    rcases em2 (ix c.end_ k = sibZ t c k) with a3 | a3
    case inr =>
      have hB := no fun h => of_eq_false a3 h.2.2
      simp [aev, cav, look, acallPure, abin, abinN, abinP, abinI, abinS, aun, aconv, afield, afieldAddr, aindexAddr, aindex, aslice, alow, ahigh, abuild, abuildGo, cellsOf, splice, fieldTy, alen, apick, amax, amin, aload, headV, aparts, abuildSlice, elParts, abytesStr, astore, amake, aappend, aclear, anew, arith, aresults, aresList, ares, spec0, spec1, spec2, spec3, spec4, eqCells, eqCell, TB, CB, hlt, hke, hkt, rowAt_enc hlt, rowAt_enc hke, rowAt_enc hkt, g1, hg, rowAt_enc g1, rowAt_enc hg, i2, e4, e5, e6, r1, r2, a3, hB]
    by_cases a1 : ix c.at_ k < sibA t c k
    · have hB := no fun h => by have := h.1; omega
      simp [aev, cav, look, acallPure, abin, abinN, abinP, abinI, abinS, aun, aconv, afield, afieldAddr, aindexAddr, aindex, aslice, alow, ahigh, abuild, abuildGo, cellsOf, splice, fieldTy, alen, apick, amax, amin, aload, headV, aparts, abuildSlice, elParts, abytesStr, astore, amake, aappend, aclear, anew, arith, aresults, aresList, ares, spec0, spec1, spec2, spec3, spec4, eqCells, eqCell, TB, CB, hlt, hke, hkt, rowAt_enc hlt, rowAt_enc hke, rowAt_enc hkt, g1, hg, rowAt_enc g1, rowAt_enc hg, i2, e4, e5, e6, r1, r2, a3, a1, hB]
    by_cases a2 : ix c.end_ k ≤ ix c.at_ k
    · have hB := no fun h => by have := h.2.1; have := of_eq_true a3; omega
      simp [aev, cav, look, acallPure, abin, abinN, abinP, abinI, abinS, aun, aconv, afield, afieldAddr, aindexAddr, aindex, aslice, alow, ahigh, abuild, abuildGo, cellsOf, splice, fieldTy, alen, apick, amax, amin, aload, headV, aparts, abuildSlice, elParts, abytesStr, astore, amake, aappend, aclear, anew, arith, aresults, aresList, ares, spec0, spec1, spec2, spec3, spec4, eqCells, eqCell, TB, CB, hlt, hke, hkt, rowAt_enc hlt, rowAt_enc hke, rowAt_enc hkt, g1, hg, rowAt_enc g1, rowAt_enc hg, i2, e4, e5, e6, r1, r2, a3, a1, a2, hB]
    · have hstep : StepOK t c k := ⟨by omega, by have := of_eq_true a3; omega, of_eq_true a3⟩
      have hgn : (grp c (k + 1) : Int) = ix c.at_ k := by unfold grp; rw [if_neg (by omega), Nat.add_sub_cancel]; omega
      simp [aev, cav, look, acallPure, abin, abinN, abinP, abinI, abinS, aun, aconv, afield, afieldAddr, aindexAddr, aindex, aslice, alow, ahigh, abuild, abuildGo, cellsOf, splice, fieldTy, alen, apick, amax, amin, aload, headV, aparts, abuildSlice, elParts, abytesStr, astore, amake, aappend, aclear, anew, arith, aresults, aresList, ares, spec0, spec1, spec2, spec3, spec4, eqCells, eqCell, TB, CB, hlt, hke, hkt, rowAt_enc hlt, rowAt_enc hke, rowAt_enc hkt, g1, hg, rowAt_enc g1, rowAt_enc hg, i1, i2, e4, e5, e6, r1, r2, a3, a1, a2]
      refine ⟨k + 1, ⟨by omega, fun j hj => ?_⟩, by omega, weak_keep 2 (by simp [hgn]) (by simp) (by simp [AV.clean, AV.clean1]) (by simp) (by simp [TB, CB])⟩
      rcases Nat.lt_or_eq_of_le (Nat.le_of_lt_succ hj) with h | rfl
      · exact hs j h
      · exact hstep
  · have hB : fineB t c = true := fineB_yes ⟨hv, h1, by omega, fun j hj => hs j (by omega)⟩
    simp [aev, cav, look, acallPure, abin, abinN, abinP, abinI, abinS, aun, aconv, afield, afieldAddr, aindexAddr, aindex, aslice, alow, ahigh, abuild, abuildGo, cellsOf, splice, fieldTy, alen, apick, amax, amin, aload, headV, aparts, abuildSlice, elParts, abytesStr, astore, amake, aappend, aclear, anew, arith, aresults, aresList, ares, spec0, spec1, spec2, spec3, spec4, eqCells, eqCell, TB, CB, hlt, hB]

/-- Where a valid cursor's deepest level is. -/
theorem fine_last {t : Trie} {c : Cursor} (h : FineT t c) (h0 : c.at_ ≠ []) : c.at_.length - 1 < t.levels.length ∧ 0 ≤ ix c.at_ (c.at_.length - 1) ∧ ix c.at_ (c.at_.length - 1) < (ix t.levels (c.at_.length - 1)).keys.length ∧ ix c.end_ (c.at_.length - 1) ≤ (ix t.levels (c.at_.length - 1)).keys.length := by
  obtain ⟨hv, h1, h2, hs⟩ := h
  have hn : 0 < c.at_.length := List.length_pos_iff.2 h0
  have hk : c.at_.length - 1 < t.levels.length := by omega
  obtain ⟨hg, _⟩ := grp_in hv hk fun j hj => hs j (by omega)
  have hf := (valid_first hv hk).2
  obtain ⟨s1, s2, s3⟩ := hs (c.at_.length - 1) (by omega)
  have b1 := hf (grp c (c.at_.length - 1)) (by omega)
  have b2 := hf (grp c (c.at_.length - 1) + 1) hg
  unfold sibA at s1
  unfold sibZ at s2 s3
  exact ⟨hk, by omega, by omega, by omega⟩
open Classical in
noncomputable def keyF (t : Trie) (c : Cursor) : Int × Bool := if FineT t c ∧ c.at_ ≠ [] then (ix (ix t.levels (c.at_.length - 1)).keys (ix c.at_ (c.at_.length - 1)).toNat, true) else (0, false)
def pairB (p : Int × Bool) : AV := .tup [.int .i64 p.1, .bool p.2]
@[simp] theorem pairB_mk (a : Int) (b : Bool) : pairB (a, b) = .tup [.int .i64 a, .bool b] := rfl
end Go.Proofs.Ytkonafdbfciikaa
