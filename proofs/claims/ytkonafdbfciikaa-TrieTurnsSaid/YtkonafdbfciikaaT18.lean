/-
  layer 14: the relation of some rows, the program's side.
-/
import Derived.Test.YtkonafdbfciikaaT17
namespace Go.Proofs.Ytkonafdbfciikaa
open Go.RowKit
set_option linter.unusedSimpArgs false
set_option linter.unusedVariables false
set_option maxRecDepth 100000

def sortedF (rows : List (List Int)) : List (List Int) := dd (sortBy cmpL rows)
open Classical in
noncomputable def ofF (n : Int) (rows : List (List Int)) : Rela × Int := if WideR n rows then (if 20000 < (sortedF rows).length then (⟨0, []⟩, 4) else (⟨n, sortedF rows⟩, 0)) else (⟨0, []⟩, 1)
def pairR (p : Rela × Int) : AV := .tup [.agg [.int .i64 p.1.arity, .slice 1 false (encRows p.1.rows)], .int .i64 p.2]
@[simp] theorem pairR_mk (t : Rela) (b : Int) : pairR (t, b) = .tup [.agg [.int .i64 t.arity, .slice 1 false (encRows t.rows)], .int .i64 b] := rfl

def sCloneP : List AV → Option (Prop × AV) := spec1 (fun (l : List Int) => SmallR l) (fun l => Enc.enc l)
theorem clonePureP : PureOK Try.prog G0 52 sCloneP := by
  refine pure1 (C := CE) sigCE mixCE Try.func52 rfl rfl rfl (by kernel_rfl) (by decide) (fun l hl => ?_)
  have hl' : l.length ≤ 1000000 := hl
  by_cases h : l = []
  · simp [aev, cav, look, acallPure, abin, abinN, abinP, abinI, abinS, aun, aconv, afield, afieldAddr, aindexAddr, aindex, aslice, alow, ahigh, abuild, abuildGo, cellsOf, splice, fieldTy, alen, apick, amax, amin, aload, headV, aparts, abuildSlice, elParts, abytesStr, astore, amake, aappend, aclear, anew, arith, aresults, aresList, ares, spec0, spec1, spec2, spec3, spec4, eqCells, eqCell, h]
  · simp [aev, cav, look, acallPure, abin, abinN, abinP, abinI, abinS, aun, aconv, afield, afieldAddr, aindexAddr, aindex, aslice, alow, ahigh, abuild, abuildGo, cellsOf, splice, fieldTy, alen, apick, amax, amin, aload, headV, aparts, abuildSlice, elParts, abytesStr, astore, amake, aappend, aclear, anew, arith, aresults, aresList, ares, spec0, spec1, spec2, spec3, spec4, eqCells, eqCell, h] <;> omega

noncomputable def CO1 : Ctx := mkC Try.prog G0 [(51, .pure sShape), (52, .pure sCloneP), (53, .gen (sortG 54 SmallR cmpL)), (55, .gen sCompact)]
@[simp] theorem CO1_P : CO1.P = Try.prog := rfl
@[simp] theorem CO1_1 : CO1.S 51 = .pure sShape := rfl
@[simp] theorem CO1_2 : CO1.S 52 = .pure sCloneP := rfl
@[simp] theorem CO1_3 : CO1.S 53 = .gen (sortG 54 SmallR cmpL) := rfl
@[simp] theorem CO1_4 : CO1.S 55 = .gen sCompact := rfl
theorem mixCO1 : CO1.P.follows .mixedOrders = true := mixed
theorem sigCO1 : SigOK CO1 := sigOK_cons (entryPure shapeP Try.func51 rfl (by decide)) (sigOK_cons (entryPure clonePureP Try.func52 rfl (by decide)) (sigOK_cons (entryGen sortFP Try.func53 rfl (by decide)) (sigOK_cons (entryGen compactP Try.func55 rfl (by decide)) (sigOK_nil _ _))))
noncomputable def sOf : List AV → Option (Prop × AV) := spec2 (fun (n : Int) (l : List (List Int)) => SmallRs l) (fun n l => pairR (ofF n l))
theorem sortBy_length (l : List (List Int)) : (sortBy cmpL l).length = l.length := by unfold sortBy; rw [List.length_mergeSort]
theorem sortBy_mem {l : List (List Int)} {x : List Int} : x ∈ sortBy cmpL l ↔ x ∈ l := by unfold sortBy; rw [List.mem_mergeSort]
theorem ddF_full : ∀ (l : List (List Int)) (p : List Int), (ddF p l).length = l.length → ddF p l = l
  | [], _, _ => rfl
  | y :: r, p, h => by
    rw [ddF] at h ⊢
    split
    · rename_i e
      rw [if_pos e] at h
      have h2 := dd_le (y :: r)
      simp only [dd, List.length_cons] at h h2
      omega
    · rename_i e
      rw [if_neg e] at h
      rw [ddF_full r y (by simpa using h)]
theorem dd_full : ∀ {l : List (List Int)}, (dd l).length = l.length → dd l = l
  | [], _ => rfl
  | x :: r, h => by
    rw [dd] at h ⊢
    rw [ddF_full r x (by simpa using h)]
set_option maxHeartbeats 16000000 in
theorem ofP : PureOK Try.prog G0 19 sOf := by
  refine pure2 (C := CO1) sigCO1 mixCO1 Try.func19 rfl rfl rfl (by kernel_rfl) (by decide) (fun n l hS => ?_)
  by_cases hw : WideR n l
  case neg =>
    have e : ofF n l = (⟨0, []⟩, 1) := by unfold ofF; rw [if_neg hw]
    have e2 : shapeF n l = 1 := by unfold shapeF; rw [if_neg hw]
    simp [aev, cav, look, acallPure, abin, abinN, abinP, abinI, abinS, aun, aconv, afield, afieldAddr, aindexAddr, aindex, aslice, alow, ahigh, abuild, abuildGo, cellsOf, splice, fieldTy, alen, apick, amax, amin, aload, headV, aparts, abuildSlice, elParts, abytesStr, astore, amake, aappend, aclear, anew, arith, aresults, aresList, ares, spec0, spec1, spec2, spec3, spec4, eqCells, eqCell, sShape, hS, e, e2]
  have e2 : shapeF n l = 0 := by unfold shapeF; rw [if_pos hw]
  have hl := hS.1
  obtain ⟨m, hm⟩ : ∃ m, l.length = m := ⟨_, rfl⟩
  simp [aev, cav, look, acallPure, abin, abinN, abinP, abinI, abinS, aun, aconv, afield, afieldAddr, aindexAddr, aindex, aslice, alow, ahigh, abuild, abuildGo, cellsOf, splice, fieldTy, alen, apick, amax, amin, aload, headV, aparts, abuildSlice, elParts, abytesStr, astore, amake, aappend, aclear, anew, arith, aresults, aresList, ares, spec0, spec1, spec2, spec3, spec4, eqCells, eqCell, sShape, hS, e2, hm]
  repeat (refine And.intro (by omega) ?_)
  refine loop_rule (C := CO1) sigCO1 mixCO1 (fun i : Nat => ⟨[(0, .int .i64 n), (4, .ptr 0 1 2 0 0), (7, .own 1 m), (20, Enc.enc l), (21, .int .i64 m), (22, .int .i64 i)], [⟨26, 2, [[.int .i64 0, .slice 1 true []]], true, true⟩, rB 35 (encRows (l.take i) ++ List.replicate (m - i) zR)]⟩) (fun i => i ≤ m) (fun i => m - i) (by kernel_rfl) ⟨0, by omega, weak_eq (by simp) (by simp [rB, zR])⟩ (fun i hi => ?_)
  have hlen : (l.take i).length = i := by rw [List.length_take]; omega
  by_cases hlt : i < m
  · have i1 : I64 ((i : Int) + 1) := by unfold I64; omega
    have hil : i < l.length := by omega
    have sr := hS.2 _ (ix_mem hil)
    have hin : i + (m - i) = m := by omega
    have hz : rowAt (encRows (l.take i) ++ List.replicate (m - i) zR) i = zR := by
      unfold rowAt
      rw [List.getD_eq_getElem?_getD, List.getElem?_append_right (by simp [hlen]), encRows_length, hlen, Nat.sub_self, List.getElem?_replicate, if_pos (by omega)]
      rfl
    have hset : ∀ c : List AV, (List.replicate (m - i) zR).set 0 c = c :: List.replicate (m - (i + 1)) zR := fun c => by
      rw [show m - i = m - (i + 1) + 1 by omega, List.replicate_succ, List.set_cons_zero]
    simp [aev, cav, look, acallPure, abin, abinN, abinP, abinI, abinS, aun, aconv, afield, afieldAddr, aindexAddr, aindex, aslice, alow, ahigh, abuild, abuildGo, cellsOf, splice, fieldTy, alen, apick, amax, amin, aload, headV, aparts, abuildSlice, elParts, abytesStr, astore, amake, aappend, aclear, anew, arith, aresults, aresList, ares, spec0, spec1, spec2, spec3, spec4, eqCells, eqCell, rB, sCloneP, hlt, hil, rowAt_enc hil, sr, i1, hlen, hm, hin, hz]
    have zt : zR.tail = [] := rfl
    exact ⟨i + 1, by omega, by omega, weak_eq (by simp) (by rw [List.take_succ_eq_append_getElem hil, encRows_append, ← ix_lt hil, List.append_assoc]; simp [hset, zt])⟩
  · have hin : i = m := by omega
    subst hin
    have htk : l.take i = l := List.take_of_length_le (by omega)
    have hSs : ∀ x ∈ sortBy cmpL l, SmallR x := fun x hx => hS.2 x (sortBy_mem.1 hx)
    have hCP : CompPre ⟨35, 1, encRows (sortBy cmpL l), true, true⟩ i (sortBy cmpL l) := ⟨rfl, by rw [sortBy_length]; exact hm, by rw [sortBy_length]; exact hl, hSs⟩
    have hS2 := hS.2
    have hbig : i < 4611686018427387904 := by omega
    have hdl : (dd (sortBy cmpL l)).length ≤ i := by have := dd_le (sortBy cmpL l); rw [sortBy_length] at this; omega
    obtain ⟨d, hd⟩ : ∃ d, dd (sortBy cmpL l) = d := ⟨_, rfl⟩
    rw [hd] at hdl
    have hsf : sortedF l = d := hd
    rcases em2 (d.length = i) with h1 | h1
    · have h1' := of_eq_true h1
      by_cases h2 : 20000 < d.length
      · have h2' : (20000 : Int) < i := by omega
        have e : ofF n l = (⟨0, []⟩, 4) := by unfold ofF; rw [if_pos hw, hsf, if_pos h2]
        simp [aev, cav, look, acallPure, abin, abinN, abinP, abinI, abinS, aun, aconv, afield, afieldAddr, aindexAddr, aindex, aslice, alow, ahigh, abuild, abuildGo, cellsOf, splice, fieldTy, alen, apick, amax, amin, aload, headV, aparts, abuildSlice, elParts, abytesStr, astore, amake, aappend, aclear, anew, arith, aresults, aresList, ares, spec0, spec1, spec2, spec3, spec4, eqCells, eqCell, rB, hlt, htk, hm, sortG, sCompact, hCP, hbig, hd, h1, h2', e]
        exact hS2
      · have h2' : ¬ (20000 : Int) < i := by omega
        have e : ofF n l = (⟨n, d⟩, 0) := by unfold ofF; rw [if_pos hw, hsf, if_neg h2]
        simp [aev, cav, look, acallPure, abin, abinN, abinP, abinI, abinS, aun, aconv, afield, afieldAddr, aindexAddr, aindex, aslice, alow, ahigh, abuild, abuildGo, cellsOf, splice, fieldTy, alen, apick, amax, amin, aload, headV, aparts, abuildSlice, elParts, abytesStr, astore, amake, aappend, aclear, anew, arith, aresults, aresList, ares, spec0, spec1, spec2, spec3, spec4, eqCells, eqCell, rB, hlt, htk, hm, sortG, sCompact, hCP, hbig, hd, h1, h2', e]
        refine ⟨hS2, ?_⟩
        have hdx : sortBy cmpL l = d := by rw [← hd]; exact (dd_full (by rw [hd, h1', sortBy_length]; exact hm.symm)).symm
        rw [if_pos (by rw [sortBy_length]; exact hm), hdx]
        rfl
    · by_cases h2 : 20000 < d.length
      · have h2' : (20000 : Int) < d.length := by omega
        have e : ofF n l = (⟨0, []⟩, 4) := by unfold ofF; rw [if_pos hw, hsf, if_pos h2]
        simp [aev, cav, look, acallPure, abin, abinN, abinP, abinI, abinS, aun, aconv, afield, afieldAddr, aindexAddr, aindex, aslice, alow, ahigh, abuild, abuildGo, cellsOf, splice, fieldTy, alen, apick, amax, amin, aload, headV, aparts, abuildSlice, elParts, abytesStr, astore, amake, aappend, aclear, anew, arith, aresults, aresList, ares, spec0, spec1, spec2, spec3, spec4, eqCells, eqCell, rB, hlt, htk, hm, sortG, sCompact, hCP, hbig, hd, h1, h2', e]
        exact hS2
      · have h2' : ¬ (20000 : Int) < d.length := by omega
        have e : ofF n l = (⟨n, d⟩, 0) := by unfold ofF; rw [if_pos hw, hsf, if_neg h2]
        simp [aev, cav, look, acallPure, abin, abinN, abinP, abinI, abinS, aun, aconv, afield, afieldAddr, aindexAddr, aindex, aslice, alow, ahigh, abuild, abuildGo, cellsOf, splice, fieldTy, alen, apick, amax, amin, aload, headV, aparts, abuildSlice, elParts, abytesStr, astore, amake, aappend, aclear, anew, arith, aresults, aresList, ares, spec0, spec1, spec2, spec3, spec4, eqCells, eqCell, rB, hlt, htk, hm, sortG, sCompact, hCP, hbig, hd, h1, h2', e]
        refine ⟨hS2, ?_⟩
        rw [if_pos (by omega)]
        rfl
end Go.Proofs.Ytkonafdbfciikaa
