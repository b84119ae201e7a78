/-
  layer 14: the cursor moves.
-/
import Derived.Test.YtkonafdbfciikaaT6
namespace Go.Proofs.Ytkonafdbfciikaa
open Go.RowKit
set_option linter.unusedSimpArgs false
set_option linter.unusedVariables false
set_option maxRecDepth 100000

theorem app_i (l : List Int) (x : Int) : encRows l ++ [[.int .i64 x]] = encRows (l ++ [x]) := (encRows_append l [x]).symm
def C0 : Cursor := ⟨[], []⟩
def pairC (p : Cursor × Bool) : AV := .tup [.agg [.slice 1 false (encRows p.1.at_), .slice 1 false (encRows p.1.end_)], .bool p.2]
@[simp] theorem pairC_mk (c : Cursor) (b : Bool) : pairC (c, b) = .tup [.agg [.slice 1 false (encRows c.at_), .slice 1 false (encRows c.end_)], .bool b] := rfl
def mvC (c : Cursor) (x : Int) : Cursor := ⟨c.at_.set (c.at_.length - 1) x, c.end_⟩
def movedF (c : Cursor) (x : Int) : Cursor × Bool := if ix c.end_ (c.at_.length - 1) ≤ x then (C0, false) else (mvC c x, true)

noncomputable def CM1 : Ctx := mkC Try.prog G0 [(50, .gen sCopied)]
@[simp] theorem CM1_P : CM1.P = Try.prog := rfl
@[simp] theorem CM1_1 : CM1.S 50 = .gen sCopied := rfl
theorem mixCM1 : CM1.P.follows .mixedOrders = true := mixed
theorem sigCM1 : SigOK CM1 := sigOK_cons (entryGen copiedP Try.func50 rfl (by decide)) (sigOK_nil _ _)
def sMoved : List AV → Option (Prop × AV) := spec2 (fun (c : Cursor) (x : Int) => SmallC c ∧ c.at_ ≠ [] ∧ c.at_.length = c.end_.length ∧ I64 x) (fun c x => pairC (movedF c x))
set_option maxHeartbeats 8000000 in
theorem movedP : PureOK Try.prog G0 62 sMoved := by
  refine pure2 (C := CM1) sigCM1 mixCM1 Try.func62 rfl rfl rfl (by kernel_rfl) (by decide) (fun c x ⟨⟨a1, a2, _, _⟩, h0, h1, hx⟩ => ?_)
  have hp : 0 < c.at_.length := List.length_pos_iff.2 h0
  obtain ⟨n, hn⟩ : ∃ n, c.at_.length = n + 1 := ⟨c.at_.length - 1, by omega⟩
  have e1 : c.end_.length = n + 1 := by omega
  have hnc : n < c.at_.length := by omega
  have hne : n < c.end_.length := by omega
  have b1 : n ≤ 999999 := by omega
  have i0 : I64 (n : Int) := by unfold I64; omega
  by_cases hl : ix c.end_ n ≤ x
  · have hF : movedF c x = (C0, false) := by unfold movedF; rw [hn, Nat.add_sub_cancel, if_pos hl]
    simp [aev, cav, look, acallPure, abin, abinN, abinP, abinI, abinS, aun, aconv, afield, afieldAddr, aindexAddr, aindex, aslice, alow, ahigh, abuild, abuildGo, cellsOf, splice, fieldTy, alen, apick, amax, amin, aload, headV, aparts, abuildSlice, elParts, abytesStr, astore, amake, aappend, aclear, anew, arith, aresults, aresList, ares, spec0, spec1, spec2, spec3, spec4, eqCells, eqCell, hn, e1, hF, hl, hne, i0, rowAt_enc hne, C0] <;> omega
  · have hF : movedF c x = (mvC c x, true) := by unfold movedF; rw [hn, Nat.add_sub_cancel, if_neg hl]
    have tk : c.at_.take (n + 1) = c.at_ := List.take_of_length_le (by omega)
    have tk2 : c.end_.take (n + 1) = c.end_ := List.take_of_length_le (by omega)
    have tn : ((n : Int) + 1).toNat = n + 1 := by omega
    simp [aev, cav, look, acallPure, abin, abinN, abinP, abinI, abinS, aun, aconv, afield, afieldAddr, aindexAddr, aindex, aslice, alow, ahigh, abuild, abuildGo, cellsOf, splice, fieldTy, alen, apick, amax, amin, aload, headV, aparts, abuildSlice, elParts, abytesStr, astore, amake, aappend, aclear, anew, arith, aresults, aresList, ares, spec0, spec1, spec2, spec3, spec4, eqCells, eqCell, sCopied, bI, hn, e1, hF, hl, hne, i0, hnc, rowAt_enc hne, rowAt_enc hnc, tk, tk2, tn, mvC] <;> omega
  
/-! ### Where a cursor's deepest level moves to -/
open Classical in
noncomputable def downF (t : Trie) (c : Cursor) : Cursor × Bool := if FineT t c ∧ c.at_.length < t.levels.length ∧ sibA t c c.at_.length ≠ sibZ t c c.at_.length then (⟨c.at_ ++ [sibA t c c.at_.length], c.end_ ++ [sibZ t c c.at_.length]⟩, true) else (C0, false)
open Classical in
noncomputable def upF (t : Trie) (c : Cursor) : Cursor × Bool := if FineT t c ∧ c.at_ ≠ [] then (⟨c.at_.take (c.at_.length - 1), c.end_.take (c.at_.length - 1)⟩, true) else (C0, false)
open Classical in
noncomputable def nextF (t : Trie) (c : Cursor) : Cursor × Bool := if FineT t c ∧ c.at_ ≠ [] then movedF c (ix c.at_ (c.at_.length - 1) + 1) else (C0, false)

noncomputable def CD1 : Ctx := mkC Try.prog G0 [(48, .pure sFine), (49, .pure sSib), (50, .gen sCopied), (62, .pure sMoved)]
@[simp] theorem CD1_P : CD1.P = Try.prog := rfl
@[simp] theorem CD1_1 : CD1.S 48 = .pure sFine := rfl
@[simp] theorem CD1_2 : CD1.S 49 = .pure sSib := rfl
@[simp] theorem CD1_3 : CD1.S 50 = .gen sCopied := rfl
@[simp] theorem CD1_4 : CD1.S 62 = .pure sMoved := rfl
theorem mixCD1 : CD1.P.follows .mixedOrders = true := mixed
theorem sigCD1 : SigOK CD1 := sigOK_cons (entryPure fineP Try.func48 rfl (by decide)) (sigOK_cons (entryPure siblingsP Try.func49 rfl (by decide)) (sigOK_cons (entryGen copiedP Try.func50 rfl (by decide)) (sigOK_cons (entryPure movedP Try.func62 rfl (by decide)) (sigOK_nil _ _))))

theorem fine_facts {t : Trie} {c : Cursor} (hF : FineT t c) (h0 : c.at_ ≠ []) : ∃ n g : Nat, c.at_.length = n + 1 ∧ c.end_.length = n + 1 ∧ n < t.levels.length ∧ ix c.at_ n = g ∧ g < (ix t.levels n).keys.length ∧ ix c.end_ n ≤ (ix t.levels n).keys.length ∧ (g : Int) < ix c.end_ n := by
  obtain ⟨f1, f2, f3, f4⟩ := fine_last hF h0
  have hn : 0 < c.at_.length := List.length_pos_iff.2 h0
  refine ⟨c.at_.length - 1, (ix c.at_ (c.at_.length - 1)).toNat, by omega, by have := hF.2.1; omega, f1, by omega, by omega, f4, ?_⟩
  obtain ⟨s1, s2, s3⟩ := hF.2.2.2 (c.at_.length - 1) (by omega)
  omega

noncomputable def sCur (F : Trie → Cursor → Cursor × Bool) : List AV → Option (Prop × AV) := spec2 (fun (t : Trie) (c : Cursor) => (SmallT t ∧ IntsT t) ∧ SmallC c) (fun t c => pairC (F t c))
set_option maxHeartbeats 8000000 in
theorem upP : PureOK Try.prog G0 30 (sCur upF) := by
  refine pure2 (C := CD1) sigCD1 mixCD1 Try.func30 rfl rfl rfl (by kernel_rfl) (by decide) (fun t c ⟨hT, hC⟩ => ?_)
  by_cases hF : FineT t c
  case neg =>
    have e := fineB_no hF
    have hK : upF t c = (C0, false) := by unfold upF; rw [if_neg (fun h => hF h.1)]
    simp [aev, cav, look, acallPure, abin, abinN, abinP, abinI, abinS, aun, aconv, afield, afieldAddr, aindexAddr, aindex, aslice, alow, ahigh, abuild, abuildGo, cellsOf, splice, fieldTy, alen, apick, amax, amin, aload, headV, aparts, abuildSlice, elParts, abytesStr, astore, amake, aappend, aclear, anew, arith, aresults, aresList, ares, spec0, spec1, spec2, spec3, spec4, eqCells, eqCell, sFine, hT, hT.1, hC, e, hK, C0]
  have e := fineB_yes hF
  rcases em2 (c.at_ = []) with h0 | h0
  · have hK : upF t c = (C0, false) := by unfold upF; rw [if_neg (fun h => h.2 (of_eq_true h0))]
    simp [aev, cav, look, acallPure, abin, abinN, abinP, abinI, abinS, aun, aconv, afield, afieldAddr, aindexAddr, aindex, aslice, alow, ahigh, abuild, abuildGo, cellsOf, splice, fieldTy, alen, apick, amax, amin, aload, headV, aparts, abuildSlice, elParts, abytesStr, astore, amake, aappend, aclear, anew, arith, aresults, aresList, ares, spec0, spec1, spec2, spec3, spec4, eqCells, eqCell, sFine, hT, hT.1, hC, e, hK, h0, C0]
  have h0 := of_eq_false h0
  obtain ⟨n, g, e1, e2, f1, f2, f3, f4, f5⟩ := fine_facts hF h0
  have hC1 := hC.1
  have b1 : n ≤ 999999 := by omega
  have i0 : I64 (n : Int) := by unfold I64; omega
  have n1 : ((n : Int) + 1 = 0) = False := eq_false (by omega)
  have hK : upF t c = (⟨c.at_.take n, c.end_.take n⟩, true) := by unfold upF; rw [if_pos ⟨hF, h0⟩, e1, Nat.add_sub_cancel]
  simp [aev, cav, look, acallPure, abin, abinN, abinP, abinI, abinS, aun, aconv, afield, afieldAddr, aindexAddr, aindex, aslice, alow, ahigh, abuild, abuildGo, cellsOf, splice, fieldTy, alen, apick, amax, amin, aload, headV, aparts, abuildSlice, elParts, abytesStr, astore, amake, aappend, aclear, anew, arith, aresults, aresList, ares, spec0, spec1, spec2, spec3, spec4, eqCells, eqCell, sFine, sCopied, bI, hT, hT.1, hC, e, hK, h0, e1, e2, i0, n1] <;> omega
set_option maxHeartbeats 8000000 in
theorem nextP : PureOK Try.prog G0 25 (sCur nextF) := by
  refine pure2 (C := CD1) sigCD1 mixCD1 Try.func25 rfl rfl rfl (by kernel_rfl) (by decide) (fun t c ⟨hT, hC⟩ => ?_)
  by_cases hF : FineT t c
  case neg =>
    have e := fineB_no hF
    have hK : nextF t c = (C0, false) := by unfold nextF; rw [if_neg (fun h => hF h.1)]
    simp [aev, cav, look, acallPure, abin, abinN, abinP, abinI, abinS, aun, aconv, afield, afieldAddr, aindexAddr, aindex, aslice, alow, ahigh, abuild, abuildGo, cellsOf, splice, fieldTy, alen, apick, amax, amin, aload, headV, aparts, abuildSlice, elParts, abytesStr, astore, amake, aappend, aclear, anew, arith, aresults, aresList, ares, spec0, spec1, spec2, spec3, spec4, eqCells, eqCell, sFine, hT, hT.1, hC, e, hK, C0]
  have e := fineB_yes hF
  rcases em2 (c.at_ = []) with h0 | h0
  · have hK : nextF t c = (C0, false) := by unfold nextF; rw [if_neg (fun h => h.2 (of_eq_true h0))]
    simp [aev, cav, look, acallPure, abin, abinN, abinP, abinI, abinS, aun, aconv, afield, afieldAddr, aindexAddr, aindex, aslice, alow, ahigh, abuild, abuildGo, cellsOf, splice, fieldTy, alen, apick, amax, amin, aload, headV, aparts, abuildSlice, elParts, abytesStr, astore, amake, aappend, aclear, anew, arith, aresults, aresList, ares, spec0, spec1, spec2, spec3, spec4, eqCells, eqCell, sFine, hT, hT.1, hC, e, hK, h0, C0]
  have h0 := of_eq_false h0
  obtain ⟨n, g, e1, e2, f1, f2, f3, f4, f5⟩ := fine_facts hF h0
  have hnc : n < c.at_.length := by omega
  have hC1 := hC.1
  have n1 : ((n : Int) + 1 = 0) = False := eq_false (by omega)
  have i0 : I64 (n : Int) := by unfold I64; omega
  have hk := (hT.1.2 _ (ix_mem f1)).1
  have i1 : I64 ((g : Int) + 1) := by unfold I64; omega
  have hK : nextF t c = movedF c ((g : Int) + 1) := by unfold nextF; rw [if_pos ⟨hF, h0⟩, e1, Nat.add_sub_cancel, f2]
  obtain ⟨mc, mb, hm⟩ : ∃ mc mb, movedF c ((g : Int) + 1) = (mc, mb) := ⟨_, _, rfl⟩
  simp [aev, cav, look, acallPure, abin, abinN, abinP, abinI, abinS, aun, aconv, afield, afieldAddr, aindexAddr, aindex, aslice, alow, ahigh, abuild, abuildGo, cellsOf, splice, fieldTy, alen, apick, amax, amin, aload, headV, aparts, abuildSlice, elParts, abytesStr, astore, amake, aappend, aclear, anew, arith, aresults, aresList, ares, spec0, spec1, spec2, spec3, spec4, eqCells, eqCell, sFine, sMoved, hT, hT.1, hC, e, hK, h0, e1, e2, hnc, rowAt_enc hnc, f2, i0, i1, n1, hm] <;> omega
set_option maxHeartbeats 8000000 in
theorem downP : PureOK Try.prog G0 14 (sCur downF) := by
  refine pureH2 (C := CD1) sigCD1 mixCD1 Try.func14 rfl rfl rfl [8] (by kernel_rfl) (by decide) (fun t c ⟨hT, hC⟩ => ?_)
  by_cases hF : FineT t c
  case neg =>
    have e := fineB_no hF
    have hK : downF t c = (C0, false) := by unfold downF; rw [if_neg (fun h => hF h.1)]
    simp [aev, cav, look, acallPure, abin, abinN, abinP, abinI, abinS, aun, aconv, afield, afieldAddr, aindexAddr, aindex, aslice, alow, ahigh, abuild, abuildGo, cellsOf, splice, fieldTy, alen, apick, amax, amin, aload, headV, aparts, abuildSlice, elParts, abytesStr, astore, amake, aappend, aclear, anew, arith, aresults, aresList, ares, spec0, spec1, spec2, spec3, spec4, eqCells, eqCell, sFine, hT, hT.1, hC, e, hK, C0]
  have e := fineB_yes hF
  have hle := hF.2.2.1
  obtain ⟨n, hn⟩ : ∃ n, n = c.at_.length := ⟨_, rfl⟩
  have hne : c.end_.length = n := by rw [hn]; exact hF.2.1.symm
  by_cases h1 : t.levels.length = n
  · have hK : downF t c = (C0, false) := by unfold downF; rw [if_neg (fun h => by have := h.2.1; omega)]
    simp [aev, cav, look, acallPure, abin, abinN, abinP, abinI, abinS, aun, aconv, afield, afieldAddr, aindexAddr, aindex, aslice, alow, ahigh, abuild, abuildGo, cellsOf, splice, fieldTy, alen, apick, amax, amin, aload, headV, aparts, abuildSlice, elParts, abytesStr, astore, amake, aappend, aclear, anew, arith, aresults, aresList, ares, spec0, spec1, spec2, spec3, spec4, eqCells, eqCell, sFine, hT, hT.1, hC, e, hK, C0, ← hn, h1]
  have h1' : ((n : Int) = t.levels.length) = False := eq_false (by omega)
  have h1'' : (n = t.levels.length) = False := eq_false (by omega)
  have hlt : n < t.levels.length := by omega
  have hv := hF.1
  have hst : ∀ j, j < n → StepOK t c j := fun j hj => hF.2.2.2 j (by omega)
  have hpre : SmallT t ∧ SmallC c ∧ ∃ m : Nat, (n : Int) = m ∧ m < t.levels.length ∧ m ≤ c.at_.length ∧ ValidT t ∧ ∀ j, j < m → StepOK t c j := ⟨hT.1, hC, n, rfl, hlt, by omega, hv, hst⟩
  obtain ⟨a, ha⟩ : ∃ a, sibA t c n = a := ⟨_, rfl⟩
  obtain ⟨z, hz⟩ : ∃ z, sibZ t c n = z := ⟨_, rfl⟩
  rcases em2 (a = z) with h2 | h2
  · have hK : downF t c = (C0, false) := by unfold downF; rw [if_neg (fun h => h.2.2 (by rw [← hn, ha, hz]; exact of_eq_true h2))]
    simp [aev, cav, look, acallPure, abin, abinN, abinP, abinI, abinS, aun, aconv, afield, afieldAddr, aindexAddr, aindex, aslice, alow, ahigh, abuild, abuildGo, cellsOf, splice, fieldTy, alen, apick, amax, amin, aload, headV, aparts, abuildSlice, elParts, abytesStr, astore, amake, aappend, aclear, anew, arith, aresults, aresList, ares, spec0, spec1, spec2, spec3, spec4, eqCells, eqCell, sFine, sSib, hT, hT.1, hC, e, hK, C0, ← hn, h1', h1'', hpre.2.2, ha, hz, h2]
    exact ⟨n, rfl, hlt, Nat.le_refl _, hv, hst⟩
  · have hK : downF t c = (⟨c.at_ ++ [a], c.end_ ++ [z]⟩, true) := by unfold downF; rw [← hn, ha, hz, if_pos ⟨hF, hlt, of_eq_false h2⟩]
    have tk : c.at_.take n = c.at_ := List.take_of_length_le (by omega)
    have tk2 : c.end_.take n = c.end_ := List.take_of_length_le (by omega)
    have hC1 := hC.1
    have b1 : n ≤ 1000000 := by omega
    simp [aev, cav, look, acallPure, abin, abinN, abinP, abinI, abinS, aun, aconv, afield, afieldAddr, aindexAddr, aindex, aslice, alow, ahigh, abuild, abuildGo, cellsOf, splice, fieldTy, alen, apick, amax, amin, aload, headV, aparts, abuildSlice, elParts, abytesStr, astore, amake, aappend, aclear, anew, arith, aresults, aresList, ares, spec0, spec1, spec2, spec3, spec4, eqCells, eqCell, sFine, sSib, sCopied, bI, hT, hT.1, hC, e, hK, ← hn, hne, h1', h1'', hpre.2.2, ha, hz, h2, tk, tk2, b1]
    refine ⟨⟨n, rfl, hlt, Nat.le_refl _, hv, hst⟩, by omega, ?_⟩
    refine AW_regionF sigCD1 mixCD1 [.pure, .read, .pure, .read, .eff, .pure, .read, .pure, .read, .eff, .pure, .eff, .pure, .eff] [[],[0],[],[2],[2,3,0,1],[],[5],[],[7],[1,0,3,2,4,7,8,5,6],[6,5,4,3,2,1,0],[8,7,9,0,1,2,3,4,5,6,10],[11,10,9,8,7,6,5,4,3,2,1,0],[0,1,2,3,4,5,6,7,8,9,10,11,12]] (by kernel_rfl) (by kernel_rfl) (by kernel_rfl) (by kernel_rfl) ?_
    simp [aev, cav, look, acallPure, abin, abinN, abinP, abinI, abinS, aun, aconv, afield, afieldAddr, aindexAddr, aindex, aslice, alow, ahigh, abuild, abuildGo, cellsOf, splice, fieldTy, alen, apick, amax, amin, aload, headV, aparts, abuildSlice, elParts, abytesStr, astore, amake, aappend, aclear, anew, arith, aresults, aresList, ares, spec0, spec1, spec2, spec3, spec4, eqCells, eqCell, hne, ← hn] <;> omega
end Go.Proofs.Ytkonafdbfciikaa
