/-
  layer 14: the trie of a relation, both sides.
-/
import Derived.Test.YtkonafdbfciikaaT14
namespace Go.Proofs.Ytkonafdbfciikaa
open Go.RowKit
set_option linter.unusedSimpArgs false
set_option linter.unusedVariables false
set_option maxRecDepth 100000

def levelsF (rows : List (List Int)) (n : Nat) : List Level := (List.range n).map (levelF rows)
theorem levelsF_succ (rows : List (List Int)) (n : Nat) : levelsF rows (n + 1) = levelsF rows n ++ [levelF rows n] := by unfold levelsF; rw [List.range_succ, List.map_append]; rfl
theorem levelsF_length (rows : List (List Int)) (n : Nat) : (levelsF rows n).length = n := by unfold levelsF; simp
noncomputable def buildF (r : Rela) : Trie × Int := if checkF r = 0 then (⟨levelsF r.rows r.arity.toNat⟩, 0) else (⟨[]⟩, checkF r)
theorem check_ok {r : Rela} (h : checkF r = 0) : WideR r.arity r.rows ∧ r.rows.length ≤ 20000 ∧ RisesR r.rows := by
  unfold checkF at h
  split at h
  · rename_i hw
    split at h
    · cases h
    · split at h
      · rename_i h2 h3
        exact ⟨hw, by omega, h3⟩
      · cases h
  · cases h
theorem deep_of {r : Rela} (hS : SmallRs r.rows) (h : checkF r = 0) {k : Nat} (hk : k < r.arity.toNat) : DeepR r.rows k := by
  obtain ⟨hw, _, _⟩ := check_ok h
  obtain ⟨w1, w2, w3⟩ := hw
  exact ⟨hS, by omega, fun x hx => by have := w3 x hx; omega⟩
def LevPre (l : List (List Int)) (k : Int) : Prop := ∃ n : Nat, k = n ∧ DeepR l n
def sLev2 : List AV → Option (Prop × AV) := spec2 LevPre (fun l k => Enc.enc (levelF l k.toNat))
def pairT (p : Trie × Int) : AV := .tup [.agg [.slice 2 false (encRows p.1.levels)], .int .i64 p.2]
@[simp] theorem pairT_mk (t : Trie) (b : Int) : pairT (t, b) = .tup [.agg [.slice 2 false (encRows t.levels)], .int .i64 b] := rfl
noncomputable def CB2 : Ctx := mkC Try.prog G0 [(21, .pure sCheck), (42, .pure sCheck), (47, .pure sLev2), (70, .pure sLev2)]
@[simp] theorem CB2_P : CB2.P = Try.prog := rfl
@[simp] theorem CB2_1 : CB2.S 21 = .pure sCheck := rfl
@[simp] theorem CB2_2 : CB2.S 42 = .pure sCheck := rfl
@[simp] theorem CB2_3 : CB2.S 47 = .pure sLev2 := rfl
@[simp] theorem CB2_4 : CB2.S 70 = .pure sLev2 := rfl
theorem mixCB2 : CB2.P.follows .mixedOrders = true := mixed
theorem sigCB2 : SigOK CB2 := sigOK_cons (entryPure checkP Try.func21 rfl (by decide)) (sigOK_cons (entryPure checkR Try.func42 rfl (by decide)) (sigOK_cons (entryPure levelP Try.func47 rfl (by decide)) (sigOK_cons (entryPure levelR Try.func70 rfl (by decide)) (sigOK_nil _ _))))
noncomputable def sBuild : List AV → Option (Prop × AV) := spec1 (fun (r : Rela) => SmallRs r.rows) (fun r => pairT (buildF r))
theorem set_fill (L : List Level) (x : Level) (z : List AV) (m : Nat) : (encRows L ++ List.replicate (m + 1) z).set L.length (Enc.cells x) = encRows (L ++ [x]) ++ List.replicate m z := by
  rw [List.set_append_right _ _ (by simp), encRows_length, Nat.sub_self, List.replicate_succ, List.set_cons_zero, encRows_append, List.append_assoc]
  rfl
def fillB (L : List Level) (m : Nat) : Blk := ⟨62, 2, encRows L ++ List.replicate m [.slice 1 true [], .slice 1 true []], true, true⟩
theorem arity_of {r : Rela} (h : checkF r = 0) : ∃ n : Nat, 1 ≤ n ∧ n ≤ 8 ∧ r.rows.length ≤ 20000 ∧ r = ⟨n, r.rows⟩ ∧ buildF r = (⟨levelsF r.rows n⟩, 0) := by
  obtain ⟨⟨w1, w2, _⟩, h20, _⟩ := check_ok h
  refine ⟨r.arity.toNat, by omega, by omega, h20, ?_, by unfold buildF; rw [if_pos h]⟩
  cases r
  simp only at w1 w2 ⊢
  rw [Int.toNat_of_nonneg (by omega)]
set_option maxHeartbeats 8000000 in
theorem buildP : PureOK Try.prog G0 13 sBuild := by
  refine pure1 (C := CB2) sigCB2 mixCB2 Try.func13 rfl rfl rfl (by kernel_rfl) (by decide) (fun r hS => ?_)
  rcases em2 (checkF r = 0) with hc | hc
  case inr =>
    have e : buildF r = (⟨[]⟩, checkF r) := by unfold buildF; rw [if_neg (of_eq_false hc)]
    simp [aev, cav, look, acallPure, abin, abinN, abinP, abinI, abinS, aun, aconv, afield, afieldAddr, aindexAddr, aindex, aslice, alow, ahigh, abuild, abuildGo, cellsOf, splice, fieldTy, alen, apick, amax, amin, aload, headV, aparts, abuildSlice, elParts, abytesStr, astore, amake, aappend, aclear, anew, arith, aresults, aresList, ares, spec0, spec1, spec2, spec3, spec4, eqCells, eqCell, sCheck, hS, hc, e]
  have hc' := of_eq_true hc
  obtain ⟨n, n1, n8, h20, hr, e⟩ := arity_of hc'
  obtain ⟨ar, rows⟩ := r
  simp only [Rela.mk.injEq, and_true] at hr
  subst hr
  simp only at hS h20 e
  simp [aev, cav, look, acallPure, abin, abinN, abinP, abinI, abinS, aun, aconv, afield, afieldAddr, aindexAddr, aindex, aslice, alow, ahigh, abuild, abuildGo, cellsOf, splice, fieldTy, alen, apick, amax, amin, aload, headV, aparts, abuildSlice, elParts, abytesStr, astore, amake, aappend, aclear, anew, arith, aresults, aresList, ares, spec0, spec1, spec2, spec3, spec4, eqCells, eqCell, sCheck, hS, hc', e]
  repeat (refine And.intro (by omega) ?_)
  refine loop_rule (C := CB2) sigCB2 mixCB2 (fun i : Nat => ⟨[(1, .ptr 0 1 2 0 0), (2, .ptr 1 1 1 0 0), (5, .ptr 3 1 1 0 0), (19, .int .i64 n), (20, .int .i64 i)], [RB ⟨n, rows⟩, ⟨32, 1, [[.slice 2 true []]], true, true⟩, fillB (levelsF rows i) (n - i), ⟨32, 1, [[.own 2 n]], true, false⟩]⟩) (fun i => i ≤ n) (fun i => n - i) (by kernel_rfl) ⟨0, by omega, weak_eq (by simp) (by simp [RB, fillB, levelsF])⟩ (fun i hi => ?_)
  have hlen : (levelsF rows i).length = i := levelsF_length _ _
  by_cases hlt : i < n
  · have i1 : I64 ((i : Int) + 1) := by unfold I64; omega
    have hp : LevPre rows i := ⟨i, rfl, deep_of (r := ⟨n, rows⟩) hS hc' (by simpa using hlt)⟩
    have hin : i + (n - i) = n := by omega
    have hz : rowAt (encRows (levelsF rows i) ++ List.replicate (n - i) [.slice 1 true [], .slice 1 true []]) i = [.slice 1 true [], .slice 1 true []] := by
      unfold rowAt
      rw [List.getD_eq_getElem?_getD, List.getElem?_append_right (by simp [hlen]), encRows_length, hlen, Nat.sub_self, List.getElem?_replicate, if_pos (by omega)]
      rfl
    have hset : ∀ c : List AV, (List.replicate (n - i) [AV.slice 1 true [], AV.slice 1 true []]).set 0 c = c :: List.replicate (n - (i + 1)) [AV.slice 1 true [], AV.slice 1 true []] := fun c => by
      rw [show n - i = n - (i + 1) + 1 by omega, List.replicate_succ, List.set_cons_zero]
    simp [aev, cav, look, acallPure, abin, abinN, abinP, abinI, abinS, aun, aconv, afield, afieldAddr, aindexAddr, aindex, aslice, alow, ahigh, abuild, abuildGo, cellsOf, splice, fieldTy, alen, apick, amax, amin, aload, headV, aparts, abuildSlice, elParts, abytesStr, astore, amake, aappend, aclear, anew, arith, aresults, aresList, ares, spec0, spec1, spec2, spec3, spec4, eqCells, eqCell, RB, fillB, sLev2, hlt, hp, i1, hlen, hin, hz, hset]
    exact ⟨i + 1, by omega, by omega, weak_eq (by simp) (by simp [levelsF_succ, encRows_append])⟩
  · have hin : i = n := by omega
    subst hin
    simp [aev, cav, look, acallPure, abin, abinN, abinP, abinI, abinS, aun, aconv, afield, afieldAddr, aindexAddr, aindex, aslice, alow, ahigh, abuild, abuildGo, cellsOf, splice, fieldTy, alen, apick, amax, amin, aload, headV, aparts, abuildSlice, elParts, abytesStr, astore, amake, aappend, aclear, anew, arith, aresults, aresList, ares, spec0, spec1, spec2, spec3, spec4, eqCells, eqCell, RB, fillB, hlt, hlen, e]
set_option maxHeartbeats 8000000 in
theorem buildR : PureOK Try.prog G0 40 sBuild := by
  refine pureH1 (C := CB2) sigCB2 mixCB2 Try.func40 rfl rfl rfl [8] (by kernel_rfl) (by decide) (fun r hS => ?_)
  rcases em2 (checkF r = 0) with hc | hc
  case inr =>
    have e : buildF r = (⟨[]⟩, checkF r) := by unfold buildF; rw [if_neg (of_eq_false hc)]
    simp [aev, cav, look, acallPure, abin, abinN, abinP, abinI, abinS, aun, aconv, afield, afieldAddr, aindexAddr, aindex, aslice, alow, ahigh, abuild, abuildGo, cellsOf, splice, fieldTy, alen, apick, amax, amin, aload, headV, aparts, abuildSlice, elParts, abytesStr, astore, amake, aappend, aclear, anew, arith, aresults, aresList, ares, spec0, spec1, spec2, spec3, spec4, eqCells, eqCell, sCheck, hS, hc, e]
  have hc' := of_eq_true hc
  obtain ⟨n, n1, n8, h20, hr, e⟩ := arity_of hc'
  obtain ⟨ar, rows⟩ := r
  simp only [Rela.mk.injEq, and_true] at hr
  subst hr
  simp only at hS h20 e
  simp [aev, cav, look, acallPure, abin, abinN, abinP, abinI, abinS, aun, aconv, afield, afieldAddr, aindexAddr, aindex, aslice, alow, ahigh, abuild, abuildGo, cellsOf, splice, fieldTy, alen, apick, amax, amin, aload, headV, aparts, abuildSlice, elParts, abytesStr, astore, amake, aappend, aclear, anew, arith, aresults, aresList, ares, spec0, spec1, spec2, spec3, spec4, eqCells, eqCell, sCheck, hS, hc', e]
  refine loop_ruleH (C := CB2) sigCB2 mixCB2 [8] (fun i : Nat => ⟨[(1, .ptr 0 1 2 0 0), (2, .ptr 1 1 1 0 0), (5, .ptr 2 1 1 0 0), (6, .int .i64 i)], if i = 0 then [RB ⟨n, rows⟩, ⟨32, 1, [[.slice 2 true []]], true, true⟩, ⟨32, 1, [[.slice 2 true []]], true, true⟩] else [RB ⟨n, rows⟩, ⟨32, 1, [[.slice 2 true []]], true, true⟩, ⟨32, 1, [[.own 3 i]], true, false⟩, fillB (levelsF rows i) 0]⟩) (fun i => i ≤ n) (fun i => n - i) (by kernel_rfl) ⟨0, by omega, weak_eq (by simp) (by simp [RB])⟩ (fun i hi => ?_)
  have hlen : (levelsF rows i).length = i := levelsF_length _ _
  by_cases hlt : i < n
  · have i1 : I64 ((i : Int) + 1) := by unfold I64; omega
    have hp : LevPre rows i := ⟨i, rfl, deep_of (r := ⟨n, rows⟩) hS hc' (by simpa using hlt)⟩
    rcases em2 (i = 0) with h0 | h0
    · simp [aev, cav, look, acallPure, abin, abinN, abinP, abinI, abinS, aun, aconv, afield, afieldAddr, aindexAddr, aindex, aslice, alow, ahigh, abuild, abuildGo, cellsOf, splice, fieldTy, alen, apick, amax, amin, aload, headV, aparts, abuildSlice, elParts, abytesStr, astore, amake, aappend, aclear, anew, arith, aresults, aresList, ares, spec0, spec1, spec2, spec3, spec4, eqCells, eqCell, RB, fillB, sLev2, hlt, hp, i1, hlen, h0]
      refine AW_regionF sigCB2 mixCB2 [.pure, .read, .pure, .read, .pure, .read, .eff, .eff, .pure, .eff] [[],[0],[],[2],[],[4,2,3],[3,2,4,5],[5,4,2,3,6,0,1],[7,6,5,4,3,2,1,0],[0,1,2,3,4,5,6,7,8]] (by kernel_rfl) (by kernel_rfl) (by kernel_rfl) (by kernel_rfl) ?_
      have h0' := of_eq_true h0
      subst h0'
      have w1 : w64 1 = 1 := rfl
      have hp0 : LevPre rows 0 := by simpa using hp
      simp [aev, cav, look, acallPure, abin, abinN, abinP, abinI, abinS, aun, aconv, afield, afieldAddr, aindexAddr, aindex, aslice, alow, ahigh, abuild, abuildGo, cellsOf, splice, fieldTy, alen, apick, amax, amin, aload, headV, aparts, abuildSlice, elParts, abytesStr, astore, amake, aappend, aclear, anew, arith, aresults, aresList, ares, spec0, spec1, spec2, spec3, spec4, eqCells, eqCell, sLev2, hp0, w1]
      exact ⟨1, by omega, by omega, weak_eq (by simp) (by simp [RB, fillB, levelsF])⟩
    · simp [aev, cav, look, acallPure, abin, abinN, abinP, abinI, abinS, aun, aconv, afield, afieldAddr, aindexAddr, aindex, aslice, alow, ahigh, abuild, abuildGo, cellsOf, splice, fieldTy, alen, apick, amax, amin, aload, headV, aparts, abuildSlice, elParts, abytesStr, astore, amake, aappend, aclear, anew, arith, aresults, aresList, ares, spec0, spec1, spec2, spec3, spec4, eqCells, eqCell, RB, fillB, sLev2, hlt, hp, i1, hlen, h0]
      refine AW_regionF sigCB2 mixCB2 [.pure, .read, .pure, .read, .pure, .read, .eff, .eff, .pure, .eff] [[],[0],[],[2],[],[4,2,3],[3,2,4,5],[5,4,2,3,6,0,1],[7,6,5,4,3,2,1,0],[0,1,2,3,4,5,6,7,8]] (by kernel_rfl) (by kernel_rfl) (by kernel_rfl) (by kernel_rfl) ?_
      simp [aev, cav, look, acallPure, abin, abinN, abinP, abinI, abinS, aun, aconv, afield, afieldAddr, aindexAddr, aindex, aslice, alow, ahigh, abuild, abuildGo, cellsOf, splice, fieldTy, alen, apick, amax, amin, aload, headV, aparts, abuildSlice, elParts, abytesStr, astore, amake, aappend, aclear, anew, arith, aresults, aresList, ares, spec0, spec1, spec2, spec3, spec4, eqCells, eqCell, sLev2, hp, hlen, h0, i1]
      exact ⟨by omega, i + 1, by omega, by omega, weak_eq (by simp) (by simp [RB, fillB, levelsF_succ, encRows_append])⟩
  · have hin : i = n := by omega
    subst hin
    have h0 : (i = 0) = False := eq_false (by omega)
    simp [aev, cav, look, acallPure, abin, abinN, abinP, abinI, abinS, aun, aconv, afield, afieldAddr, aindexAddr, aindex, aslice, alow, ahigh, abuild, abuildGo, cellsOf, splice, fieldTy, alen, apick, amax, amin, aload, headV, aparts, abuildSlice, elParts, abytesStr, astore, amake, aappend, aclear, anew, arith, aresults, aresList, ares, spec0, spec1, spec2, spec3, spec4, eqCells, eqCell, RB, fillB, hlt, hlen, e, h0]
end Go.Proofs.Ytkonafdbfciikaa
