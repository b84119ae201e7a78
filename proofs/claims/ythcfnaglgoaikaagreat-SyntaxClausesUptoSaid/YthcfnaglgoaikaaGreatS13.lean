/-
  layer 18: lists of a path pattern, the program's side.
-/
import Derived.Test.YthcfnaglgoaikaaGreatS12
namespace Go.Proofs.YthcfnaglgoaikaaGreat
open Go.RowKit
set_option linter.unusedSimpArgs false
set_option linter.unusedVariables false
set_option maxRecDepth 100000

theorem not_any (l : List ByteArray) : (!l.any fun x => !wordB x) = l.all wordB := by simp [List.all_eq_not_any_not]
theorem partsL_take : ∀ (ns : List NodePat) (es : List EdgePat) (i : Nat), i < ns.length → partsL (ns.take (i + 1)) es = partsL (ns.take i) es ++ (ix ns i :: if i < es.length then [edgeN (ix es i)] else [])
  | n :: ns, [], 0, h => by simp [partsL, ix]
  | n :: ns, e :: es, 0, h => by simp [partsL, ix]
  | n :: ns, [], i + 1, h => by
    have := partsL_take ns [] i (by simpa using h)
    rw [List.take_succ_cons, List.take_succ_cons, partsL, partsL, this]
    simp [ix]
  | n :: ns, e :: es, i + 1, h => by
    have := partsL_take ns es i (by simpa using h)
    rw [List.take_succ_cons, List.take_succ_cons, partsL, partsL, this]
    simp [ix]
theorem partsL_len : ∀ (ns : List NodePat) (es : List EdgePat), (partsL ns es).length ≤ 2 * ns.length
  | [], es => by simp [partsL]
  | n :: ns, [] => by have := partsL_len ns []; simp only [partsL, List.length_cons]; omega
  | n :: ns, e :: es => by have := partsL_len ns es; simp only [partsL, List.length_cons]; omega
theorem keysL_take {l : List PropPat} {i : Nat} (h : i < l.length) : keysL (l.take (i + 1)) = keysL (l.take i) ++ [(ix l i).key] := by
  unfold keysL
  rw [List.take_add_one, List.map_append, List.getElem?_eq_getElem h, ix_lt h]
  rfl

section
variable {m : Int}
noncomputable def CWs (m : Int) : Ctx := mkC Tryz.prog (G m) [(54, .pure sCoS)]
@[simp] theorem CWs_P (m : Int) : (CWs m).P = Tryz.prog := rfl
@[simp] theorem CWs_1 (m : Int) : (CWs m).S 54 = .pure sCoS := rfl
theorem mixCWs (m : Int) : (CWs m).P.follows .mixedOrders = true := mixed
theorem sigCWs (m : Int) : SigOK (CWs m) := sigOK_cons (entryPure coS Tryz.func54 rfl (by decide)) (sigOK_nil _ _)
def sWs : List AV → Option (Prop × AV) := spec1 (fun (l : List ByteArray) => l.length ≤ maxLen) (fun l => .bool (l.all wordB))
theorem wordsP : PureOK Tryz.prog (G m) 30 sWs := by
  refine pure1 (C := CWs m) (sigCWs m) (mixCWs m) Tryz.func30 rfl rfl rfl (by kernel_rfl) (by decide) (fun l hl => ?_)
  simp [aev, cav, look, acallPure, abin, abinN, abinP, abinI, abinS, aun, aconv, afield, afieldAddr, aindexAddr, aindex, aslice, alow, ahigh, abuild, abuildGo, cellsOf, splice, fieldTy, alen, apick, amax, amin, aload, headV, aparts, abuildSlice, elParts, abytesStr, astore, amake, aappend, anew, arith, aresults, aresList, ares, spec0, spec1, spec2, spec3, spec4, eqCells, eqCell, sCoS, hl]
  rw [← not_any l, Bool.not_not]

def sRs : List AV → Option (Prop × AV) := spec1 (fun (l : List ByteArray) => l.length ≤ maxLen) (fun l => .bool (risesB l))
set_option maxHeartbeats 4000000 in
theorem risesP : PureOK Tryz.prog (G m) 32 sRs := by
  refine pure1 (C := CE m) (sigCE m) (mixCE m) Tryz.func32 rfl rfl rfl (by kernel_rfl) (by decide) (fun l hl => ?_)
  have hl' := maxLen_le hl
  simp [aev, cav, look, acallPure, abin, abinN, abinP, abinI, abinS, aun, aconv, afield, afieldAddr, aindexAddr, aindex, aslice, alow, ahigh, abuild, abuildGo, cellsOf, splice, fieldTy, alen, apick, amax, amin, aload, headV, aparts, abuildSlice, elParts, abytesStr, astore, amake, aappend, anew, arith, aresults, aresList, ares, spec0, spec1, spec2, spec3, spec4, eqCells, eqCell]
  refine loop_rule (C := CE m) (sigCE m) (mixCE m) (fun i : Nat => ⟨[(0, Enc.enc l), (3, .int .i64 ((i : Int) + 1))], []⟩) (fun i => i ≤ l.length ∧ ∀ j, j < i → Op.bytesLess (ix l j).toList (ix l (j + 1)).toList = true) (fun i => l.length - i) (by kernel_rfl) ⟨0, by simp, weak_slots (by simp)⟩ (fun i ⟨hi, hs⟩ => ?_)
  by_cases hlt : i + 1 < l.length
  · have i0 : I64 (i : Int) := by unfold I64; omega
    have i1 : I64 ((i : Int) + 1) := by unfold I64; omega
    have i2 : I64 ((i : Int) + 1 + 1) := by unfold I64; omega
    have h1 : (i : Int) + 1 < l.length := by omega
    have h2 : i < l.length := by omega
    have e1 : ((i : Int) + 1).toNat = i + 1 := by omega
    cases h3 : Op.bytesLess (ix l i).toList (ix l (i + 1)).toList
    · have hB : risesB l = false := by
        unfold risesB
        rw [decide_eq_false_iff_not]
        intro h
        rw [h i (by omega)] at h3
        cases h3
      simp [aev, cav, look, acallPure, abin, abinN, abinP, abinI, abinS, aun, aconv, afield, afieldAddr, aindexAddr, aindex, aslice, alow, ahigh, abuild, abuildGo, cellsOf, splice, fieldTy, alen, apick, amax, amin, aload, headV, aparts, abuildSlice, elParts, abytesStr, astore, amake, aappend, anew, arith, aresults, aresList, ares, spec0, spec1, spec2, spec3, spec4, eqCells, eqCell, h1, h2, hlt, e1, rowAt_enc h2, rowAt_enc hlt, i0, i1, i2, h3, hB]
      omega
    · simp [aev, cav, look, acallPure, abin, abinN, abinP, abinI, abinS, aun, aconv, afield, afieldAddr, aindexAddr, aindex, aslice, alow, ahigh, abuild, abuildGo, cellsOf, splice, fieldTy, alen, apick, amax, amin, aload, headV, aparts, abuildSlice, elParts, abytesStr, astore, amake, aappend, anew, arith, aresults, aresList, ares, spec0, spec1, spec2, spec3, spec4, eqCells, eqCell, h1, h2, hlt, e1, rowAt_enc h2, rowAt_enc hlt, i0, i1, i2, h3]
      refine ⟨by omega, i + 1, ⟨by omega, fun j hj => ?_⟩, by omega, weak_slots (by simp)⟩
      rcases Nat.lt_or_eq_of_le (Nat.le_of_lt_succ hj) with h | rfl
      · exact hs j h
      · exact h3
  · have h1 : ¬ (i : Int) + 1 < l.length := by omega
    have hB : risesB l = true := by
      unfold risesB
      rw [decide_eq_true_eq]
      exact fun j hj => hs j (by omega)
    simp [aev, cav, look, acallPure, abin, abinN, abinP, abinI, abinS, aun, aconv, afield, afieldAddr, aindexAddr, aindex, aslice, alow, ahigh, abuild, abuildGo, cellsOf, splice, fieldTy, alen, apick, amax, amin, aload, headV, aparts, abuildSlice, elParts, abytesStr, astore, amake, aappend, anew, arith, aresults, aresList, ares, spec0, spec1, spec2, spec3, spec4, eqCells, eqCell, h1, hB]

def sKs : List AV → Option (Prop × AV) := spec1 (fun (l : List PropPat) => l.length ≤ 1048576) (fun l => Enc.enc (keysL l))
set_option maxHeartbeats 4000000 in
theorem keysP : PureOK Tryz.prog (G m) 31 sKs := by
  refine pure1 (C := CE m) (sigCE m) (mixCE m) Tryz.func31 rfl rfl rfl (by kernel_rfl) (by decide) (fun l hl => ?_)
  simp [aev, cav, look, acallPure, abin, abinN, abinP, abinI, abinS, aun, aconv, afield, afieldAddr, aindexAddr, aindex, aslice, alow, ahigh, abuild, abuildGo, cellsOf, splice, fieldTy, alen, apick, amax, amin, aload, headV, aparts, abuildSlice, elParts, abytesStr, astore, amake, aappend, anew, arith, aresults, aresList, ares, spec0, spec1, spec2, spec3, spec4, eqCells, eqCell]
  refine loop_rule (C := CE m) (sigCE m) (mixCE m) (fun i : Nat => ⟨[(3, .own 0 (keysL (l.take i)).length), (6, Enc.enc l), (7, .int .i64 l.length), (8, .int .i64 i)], [⟨9, 1, encRows (keysL (l.take i)), true, true⟩]⟩) (fun i => i ≤ l.length) (fun i => l.length - i) (by kernel_rfl) ⟨0, by simp, (weak_nil 3 1 9 (by simp) (by decide)).trans (weak_slots (by simp [keysL]))⟩ (fun i hi => ?_)
  by_cases hlt : i < l.length
  · have i1 : I64 ((i : Int) + 1) := by unfold I64; omega
    have hk : (keysL (l.take i)).length = i := by simp [keysL]; omega
    simp [aev, cav, look, acallPure, abin, abinN, abinP, abinI, abinS, aun, aconv, afield, afieldAddr, aindexAddr, aindex, aslice, alow, ahigh, abuild, abuildGo, cellsOf, splice, fieldTy, alen, apick, amax, amin, aload, headV, aparts, abuildSlice, elParts, abytesStr, astore, amake, aappend, anew, arith, aresults, aresList, ares, spec0, spec1, spec2, spec3, spec4, eqCells, eqCell, hlt, rowAt_enc hlt, i1, hk]
    refine ⟨⟨by omega, by omega⟩, i + 1, by omega, by omega, ?_⟩
    rw [keysL_take hlt]
    exact weak_keep 1 (by simp [hk]) (by simp) (by simp [AV.clean, AV.clean1]) (by simp) (by simp [encRows])
  · have e : l.take i = l := List.take_of_length_le (by omega)
    simp [aev, cav, look, acallPure, abin, abinN, abinP, abinI, abinS, aun, aconv, afield, afieldAddr, aindexAddr, aindex, aslice, alow, ahigh, abuild, abuildGo, cellsOf, splice, fieldTy, alen, apick, amax, amin, aload, headV, aparts, abuildSlice, elParts, abytesStr, astore, amake, aappend, anew, arith, aresults, aresList, ares, spec0, spec1, spec2, spec3, spec4, eqCells, eqCell, hlt, e]

def sLg : List AV → Option (Prop × AV) := spec1 (fun (p : PathPat) => p.edges.length ≤ maxLen) (fun p => .bool (longB p))
set_option maxHeartbeats 4000000 in
theorem longP : PureOK Tryz.prog (G m) 24 sLg := by
  refine pure1 (C := CE m) (sigCE m) (mixCE m) Tryz.func24 rfl rfl rfl (by kernel_rfl) (by decide) (fun p hl => ?_)
  have hl' := maxLen_le hl
  rcases em2 (p.nodes = []) with h1 | h1
  · simp [aev, cav, look, acallPure, abin, abinN, abinP, abinI, abinS, aun, aconv, afield, afieldAddr, aindexAddr, aindex, aslice, alow, ahigh, abuild, abuildGo, cellsOf, splice, fieldTy, alen, apick, amax, amin, aload, headV, aparts, abuildSlice, elParts, abytesStr, astore, amake, aappend, anew, arith, aresults, aresList, ares, spec0, spec1, spec2, spec3, spec4, eqCells, eqCell, longB, h1]
  by_cases h2 : 6 < p.edges.length
  · have h2' : (6 : Int) < p.edges.length := by omega
    simp [aev, cav, look, acallPure, abin, abinN, abinP, abinI, abinS, aun, aconv, afield, afieldAddr, aindexAddr, aindex, aslice, alow, ahigh, abuild, abuildGo, cellsOf, splice, fieldTy, alen, apick, amax, amin, aload, headV, aparts, abuildSlice, elParts, abytesStr, astore, amake, aappend, anew, arith, aresults, aresList, ares, spec0, spec1, spec2, spec3, spec4, eqCells, eqCell, longB, h1, h2, h2']
  have h2' : ¬ (6 : Int) < p.edges.length := by omega
  have hB : longB p = decide (12 < hopL 0 p.edges) := by unfold longB; rw [decide_eq_false (of_eq_false h1), decide_eq_false h2]; simp
  rw [hB]
  simp [aev, cav, look, acallPure, abin, abinN, abinP, abinI, abinS, aun, aconv, afield, afieldAddr, aindexAddr, aindex, aslice, alow, ahigh, abuild, abuildGo, cellsOf, splice, fieldTy, alen, apick, amax, amin, aload, headV, aparts, abuildSlice, elParts, abytesStr, astore, amake, aappend, anew, arith, aresults, aresList, ares, spec0, spec1, spec2, spec3, spec4, eqCells, eqCell, h1, h2, h2']
  refine loop_rule (C := CE m) (sigCE m) (mixCE m) (fun q : Nat × Int => ⟨[(1, .ptr 0 1 3 0 0), (3, .int .i64 q.2), (17, Enc.enc p.edges), (18, .int .i64 p.edges.length), (19, .int .i64 q.1)], [PB p]⟩) (fun q => q.1 ≤ p.edges.length ∧ 0 ≤ q.2 ∧ q.2 ≤ 13 * q.1 ∧ hopL q.2 (p.edges.drop q.1) = hopL 0 p.edges) (fun q => p.edges.length - q.1) (by kernel_rfl) ⟨(0, 0), by simp, weak_slots (by simp)⟩ (fun ⟨i, a⟩ ⟨hi, ha, hb, hs⟩ => ?_)
  simp only at hi ha hb hs ⊢
  by_cases hlt : i < p.edges.length
  · have i1 : I64 ((i : Int) + 1) := by unfold I64; omega
    have hn := hopN_in (ix p.edges i)
    rw [hopL_drop hlt] at hs
    rcases em2 ((ix p.edges i).mode = 0) with h3 | h3
    · have i2 : I64 (a + 1) := by unfold I64; omega
      have hN : hopN (ix p.edges i) = 1 := by simp [hopN, h3]
      rw [hN] at hs
      simp [aev, cav, look, acallPure, abin, abinN, abinP, abinI, abinS, aun, aconv, afield, afieldAddr, aindexAddr, aindex, aslice, alow, ahigh, abuild, abuildGo, cellsOf, splice, fieldTy, alen, apick, amax, amin, aload, headV, aparts, abuildSlice, elParts, abytesStr, astore, amake, aappend, anew, arith, aresults, aresList, ares, spec0, spec1, spec2, spec3, spec4, eqCells, eqCell, PB, hlt, rowAt_enc hlt, i1, i2, h3]
      exact ⟨i + 1, a + 1, ⟨by omega, by omega, by omega, hs⟩, by omega, weak_keep 1 (by simp) (by simp) (by simp [AV.clean, AV.clean1]) (by simp) (by simp)⟩
    · have i2 : I64 (a + hopN (ix p.edges i)) := by unfold I64; omega
      have hN : (if 13 < (if (ix p.edges i).hi < 0 then 0 else (ix p.edges i).hi) then 13 else if (ix p.edges i).hi < 0 then 0 else (ix p.edges i).hi) = hopN (ix p.edges i) := by
        have hne := of_eq_false h3
        by_cases hneg : (ix p.edges i).hi < 0
        · simp only [hopN, hne, hneg, if_true, if_false]
          simp
          omega
        · simp only [hopN, hne, hneg, if_false]
          split <;> omega
      simp [aev, cav, look, acallPure, abin, abinN, abinP, abinI, abinS, aun, aconv, afield, afieldAddr, aindexAddr, aindex, aslice, alow, ahigh, abuild, abuildGo, cellsOf, splice, fieldTy, alen, apick, amax, amin, aload, headV, aparts, abuildSlice, elParts, abytesStr, astore, amake, aappend, anew, arith, aresults, aresList, ares, spec0, spec1, spec2, spec3, spec4, eqCells, eqCell, PB, hlt, rowAt_enc hlt, i1, h3]
      rw [hN, w64_in i2]
      exact ⟨i + 1, a + hopN (ix p.edges i), ⟨by omega, by omega, by omega, hs⟩, by omega, weak_keep 1 (by simp) (by simp) (by simp [AV.clean, AV.clean1]) (by simp) (by simp)⟩
  · rw [List.drop_eq_nil_of_le (by omega), hopL] at hs
    simp [aev, cav, look, acallPure, abin, abinN, abinP, abinI, abinS, aun, aconv, afield, afieldAddr, aindexAddr, aindex, aslice, alow, ahigh, abuild, abuildGo, cellsOf, splice, fieldTy, alen, apick, amax, amin, aload, headV, aparts, abuildSlice, elParts, abytesStr, astore, amake, aappend, anew, arith, aresults, aresList, ares, spec0, spec1, spec2, spec3, spec4, eqCells, eqCell, PB, hlt, hs]

def sPt : List AV → Option (Prop × AV) := spec1 (fun (p : PathPat) => p.nodes.length ≤ 1048576 ∧ p.edges.length ≤ maxLen) (fun p => Enc.enc (partsL p.nodes p.edges))
set_option maxHeartbeats 4000000 in
theorem partsP : PureOK Tryz.prog (G m) 28 sPt := by
  refine pure1 (C := CE m) (sigCE m) (mixCE m) Tryz.func28 rfl rfl rfl (by kernel_rfl) (by decide) (fun p ⟨hn, hl⟩ => ?_)
  have hl' := maxLen_le hl
  simp [aev, cav, look, acallPure, abin, abinN, abinP, abinI, abinS, aun, aconv, afield, afieldAddr, aindexAddr, aindex, aslice, alow, ahigh, abuild, abuildGo, cellsOf, splice, fieldTy, alen, apick, amax, amin, aload, headV, aparts, abuildSlice, elParts, abytesStr, astore, amake, aappend, anew, arith, aresults, aresList, ares, spec0, spec1, spec2, spec3, spec4, eqCells, eqCell]
  refine loop_rule (C := CE m) (sigCE m) (mixCE m) (fun i : Nat => ⟨[(1, .ptr 0 1 3 0 0), (3, .own 1 (partsL (p.nodes.take i) p.edges).length), (7, Enc.enc p.nodes), (8, .int .i64 p.nodes.length), (9, .int .i64 i)], [PB p, ⟨76, 3, encRows (partsL (p.nodes.take i) p.edges), true, true⟩]⟩) (fun i => i ≤ p.nodes.length) (fun i => p.nodes.length - i) (by kernel_rfl) ⟨0, by simp, (weak_nil 3 3 76 (by simp) (by decide)).trans (weak_slots (by simp [partsL, PB]))⟩ (fun i hi => ?_)
  by_cases hlt : i < p.nodes.length
  · have i1 : I64 ((i : Int) + 1) := by unfold I64; omega
    have hk := partsL_len (p.nodes.take i) p.edges
    rw [List.length_take] at hk
    have ht := partsL_take p.nodes p.edges i hlt
    by_cases h2 : i < p.edges.length
    · rw [if_pos h2] at ht
      simp [aev, cav, look, acallPure, abin, abinN, abinP, abinI, abinS, aun, aconv, afield, afieldAddr, aindexAddr, aindex, aslice, alow, ahigh, abuild, abuildGo, cellsOf, splice, fieldTy, alen, apick, amax, amin, aload, headV, aparts, abuildSlice, elParts, abytesStr, astore, amake, aappend, anew, arith, aresults, aresList, ares, spec0, spec1, spec2, spec3, spec4, eqCells, eqCell, PB, hlt, rowAt_enc hlt, i1, h2, rowAt_enc h2]
      refine ⟨⟨by omega, by omega⟩, ⟨by omega, by omega⟩, i + 1, by omega, by omega, ?_⟩
      rw [ht]
      exact weak_keep 2 (by simp) (by simp) (by simp [AV.clean, AV.clean1]) (by simp) (by simp [encRows, PB, edgeN])
    · rw [if_neg h2] at ht
      simp [aev, cav, look, acallPure, abin, abinN, abinP, abinI, abinS, aun, aconv, afield, afieldAddr, aindexAddr, aindex, aslice, alow, ahigh, abuild, abuildGo, cellsOf, splice, fieldTy, alen, apick, amax, amin, aload, headV, aparts, abuildSlice, elParts, abytesStr, astore, amake, aappend, anew, arith, aresults, aresList, ares, spec0, spec1, spec2, spec3, spec4, eqCells, eqCell, PB, hlt, rowAt_enc hlt, i1, h2]
      refine ⟨⟨by omega, by omega⟩, i + 1, by omega, by omega, ?_⟩
      rw [ht]
      exact weak_keep 2 (by simp) (by simp) (by simp [AV.clean, AV.clean1]) (by simp) (by simp [encRows, PB])
  · have e : p.nodes.take i = p.nodes := List.take_of_length_le (by omega)
    simp [aev, cav, look, acallPure, abin, abinN, abinP, abinI, abinS, aun, aconv, afield, afieldAddr, aindexAddr, aindex, aslice, alow, ahigh, abuild, abuildGo, cellsOf, splice, fieldTy, alen, apick, amax, amin, aload, headV, aparts, abuildSlice, elParts, abytesStr, astore, amake, aappend, anew, arith, aresults, aresList, ares, spec0, spec1, spec2, spec3, spec4, eqCells, eqCell, PB, hlt, e]
end
end Go.Proofs.YthcfnaglgoaikaaGreat
