/-
  layer 14: the columns turned, by the reference.
-/
import Derived.Test.YtkonafdbfciikaaT39
namespace Go.Proofs.Ytkonafdbfciikaa
open Go.RowKit
set_option linter.unusedSimpArgs false
set_option linter.unusedVariables false
set_option maxRecDepth 100000

def permRow (o row : List Int) : List Int := o.map fun c => ix row c.toNat
def mapR (o : List Int) (rows : List (List Int)) : List (List Int) := rows.map (permRow o)
open Classical in
noncomputable def permF (r : Rela) (o : List Int) : Rela × Int := if checkF r = 0 then (if PermOK r.arity.toNat o then (⟨r.arity, sortedF (mapR o r.rows)⟩, 0) else (⟨0, []⟩, 1)) else (⟨0, []⟩, checkF r)
noncomputable def sPermute : List AV → Option (Prop × AV) := spec2 (fun (r : Rela) (o : List Int) => SmallRs r.rows ∧ SmallR o) (fun r o => pairR (permF r o))
def ZR : Blk := ⟨26, 2, [[.int .i64 0, .slice 1 true []]], true, true⟩
noncomputable def CPr : Ctx := mkC Try.prog G0 [(42, .pure sCheck), (69, .pure sPermutes), (46, .pure sSorted)]
@[simp] theorem CPr_P : CPr.P = Try.prog := rfl
@[simp] theorem CPr_1 : CPr.S 42 = .pure sCheck := rfl
@[simp] theorem CPr_2 : CPr.S 69 = .pure sPermutes := rfl
@[simp] theorem CPr_3 : CPr.S 46 = .pure sSorted := rfl
theorem mixCPr : CPr.P.follows .mixedOrders = true := mixed
theorem sigCPr : SigOK CPr := sigOK_cons (entryPure checkR Try.func42 rfl (by decide)) (sigOK_cons (entryPure permutesR Try.func69 rfl (by decide)) (sigOK_cons (entryPure sortedR Try.func46 rfl (by decide)) (sigOK_nil _ _)))
theorem permRow_take {o row : List Int} {q : Nat} (h : q < o.length) : (o.take (q + 1)).map (fun c => ix row c.toNat) = (o.take q).map (fun c => ix row c.toNat) ++ [ix row (ix o q).toNat] := by
  rw [List.take_succ_eq_append_getElem h, List.map_append, ix_lt h]; rfl
theorem mapR_small {o : List Int} {rows : List (List Int)} (h1 : rows.length ≤ 20000) (h2 : o.length ≤ 1000000) : SmallRs (mapR o rows) :=
  ⟨by unfold mapR; rw [List.length_map]; omega, fun r hr => by
    obtain ⟨x, _, rfl⟩ := List.mem_map.1 hr
    show _ ≤ _
    unfold permRow
    rw [List.length_map]; exact h2⟩
theorem scalPr : isScalT CPr 22 = false := by show isScalT ⟨Try.prog, fun _ => .no, G0⟩ 22 = false; kernel_rfl
set_option maxHeartbeats 16000000 in
theorem permuteR : PureOK Try.prog G0 39 sPermute := by
  refine pureH2 (C := CPr) sigCPr mixCPr Try.func39 rfl rfl rfl [16] (by kernel_rfl) (by decide) (fun r o ⟨hS, hO⟩ => ?_)
  obtain ⟨n, rows⟩ := r
  simp only at hS
  rcases em2 (checkF ⟨n, rows⟩ = 0) with hc | hc
  case inr =>
    have e : permF ⟨n, rows⟩ o = (⟨0, []⟩, checkF ⟨n, rows⟩) := by unfold permF; rw [if_neg (of_eq_false hc)]
    simp [aev, cav, look, acallPure, abin, abinN, abinP, abinI, abinS, aun, aconv, afield, afieldAddr, aindexAddr, aindex, aslice, alow, ahigh, abuild, abuildGo, cellsOf, splice, fieldTy, alen, apick, amax, amin, aload, headV, aparts, abuildSlice, elParts, abytesStr, astore, amake, aappend, aclear, anew, arith, aresults, aresList, ares, spec0, spec1, spec2, spec3, spec4, eqCells, eqCell, sCheck, hS, hc, e]
  have hc' := of_eq_true hc
  obtain ⟨m, m1, m8, h20, hrm, _⟩ := arity_of hc'
  simp only [Rela.mk.injEq, and_true] at hrm
  subst hrm
  simp only at h20
  have hw := (check_ok hc').1
  have ho : o.length ≤ 1000000 := hO
  have hN : NatI (m : Int) := ⟨m, rfl⟩
  by_cases hp : PermOK m o
  case neg =>
    have e : permF ⟨m, rows⟩ o = (⟨0, []⟩, 1) := by unfold permF; rw [if_pos hc']; simp only [Int.toNat_natCast]; rw [if_neg hp]
    have eb := permB_no hp
    simp [aev, cav, look, acallPure, abin, abinN, abinP, abinI, abinS, aun, aconv, afield, afieldAddr, aindexAddr, aindex, aslice, alow, ahigh, abuild, abuildGo, cellsOf, splice, fieldTy, alen, apick, amax, amin, aload, headV, aparts, abuildSlice, elParts, abytesStr, astore, amake, aappend, aclear, anew, arith, aresults, aresList, ares, spec0, spec1, spec2, spec3, spec4, eqCells, eqCell, sCheck, sPermutes, hS, hO, hN, hc, eb, e]
  have e : permF ⟨m, rows⟩ o = (⟨m, sortedF (mapR o rows)⟩, 0) := by unfold permF; rw [if_pos hc']; simp only [Int.toNat_natCast]; rw [if_pos hp]
  have eb := permB_yes hp
  have hom : o.length = m := hp.1
  have hsm := mapR_small (o := o) h20 ho
  have hwl : ∀ i, i < rows.length → (ix rows i).length = m := fun i hi => by have := hw.2.2 _ (ix_mem hi); simp only at this; omega
  simp [aev, cav, look, acallPure, abin, abinN, abinP, abinI, abinS, aun, aconv, afield, afieldAddr, aindexAddr, aindex, aslice, alow, ahigh, abuild, abuildGo, cellsOf, splice, fieldTy, alen, apick, amax, amin, aload, headV, aparts, abuildSlice, elParts, abytesStr, astore, amake, aappend, aclear, anew, arith, aresults, aresList, ares, spec0, spec1, spec2, spec3, spec4, eqCells, eqCell, sCheck, sPermutes, hS, hO, hN, hc, eb]
  refine loop_ruleH (C := CPr) sigCPr mixCPr [16] (fun i : Nat => ⟨[(1, Enc.enc o), (2, .ptr 0 1 2 0 0), (4, .ptr 1 1 2 0 0), (7, .own 2 i), (8, .int .i64 i)], [RB ⟨m, rows⟩, ZR, rB 35 (encRows (mapR o (rows.take i)))]⟩) (fun i => i ≤ rows.length) (fun i => rows.length - i) (by kernel_rfl) ⟨0, Nat.zero_le _, (weak_nil 7 1 35 rfl (by decide)).trans (weak_eq (by simp) (by simp [rB, RB, ZR, mapR]))⟩ (fun i hi => ?_)
  have hml : (mapR o (rows.take i)).length = i := by unfold mapR; rw [List.length_map, List.length_take]; omega
  by_cases hir : i < rows.length
  · have i1 : I64 ((i : Int) + 1) := by unfold I64; omega
    have hrl := hwl i hir
    simp [aev, cav, look, acallPure, abin, abinN, abinP, abinI, abinS, aun, aconv, afield, afieldAddr, aindexAddr, aindex, aslice, alow, ahigh, abuild, abuildGo, cellsOf, splice, fieldTy, alen, apick, amax, amin, aload, headV, aparts, abuildSlice, elParts, abytesStr, astore, amake, aappend, aclear, anew, arith, aresults, aresList, ares, spec0, spec1, spec2, spec3, spec4, eqCells, eqCell, RB, ZR, rB, hir]
    refine loop_ruleH (C := CPr) sigCPr mixCPr [16] (fun q : Nat => ⟨[(1, Enc.enc o), (2, .ptr 0 1 2 0 0), (4, .ptr 1 1 2 0 0), (7, .own 2 i), (8, .int .i64 i), (9, .own 3 q), (10, .int .i64 q)], [RB ⟨m, rows⟩, ZR, rB 35 (encRows (mapR o (rows.take i))), bK ((o.take q).map fun c => ix (ix rows i) c.toNat)]⟩) (fun q => q ≤ o.length) (fun q => o.length - q) (by kernel_rfl) ⟨0, Nat.zero_le _, (weak_nil 9 1 3 rfl (by decide)).trans (weak_eq (by simp) (by simp [rB, RB, ZR, bK]))⟩ (fun q hq => ?_)
    have hql : ((o.take q).map fun c => ix (ix rows i) c.toNat).length = q := by rw [List.length_map, List.length_take]; omega
    by_cases hqo : q < o.length
    · have i2 : I64 ((q : Int) + 1) := by unfold I64; omega
      obtain ⟨p1, p2⟩ := perm_mem hp (ix_mem hqo)
      have hcx : (ix o q).toNat < (ix rows i).length := by omega
      have p3 : ix o q < (ix rows i).length := by omega
      have et := permRow_take (row := ix rows i) hqo
      have et2 : List.take (q + 1) (List.map (fun c => ix (ix rows i) c.toNat) o) = (o.take q).map (fun c => ix (ix rows i) c.toNat) ++ [ix (ix rows i) (ix o q).toNat] := by rw [← List.map_take]; exact et
      generalize hP : List.map (fun c => ix (ix rows i) c.toNat) (List.take q o) = P at *
      simp [aev, cav, look, acallPure, abin, abinN, abinP, abinI, abinS, aun, aconv, afield, afieldAddr, aindexAddr, aindex, aslice, alow, ahigh, abuild, abuildGo, cellsOf, splice, fieldTy, alen, apick, amax, amin, aload, headV, aparts, abuildSlice, elParts, abytesStr, astore, amake, aappend, aclear, anew, arith, aresults, aresList, ares, spec0, spec1, spec2, spec3, spec4, eqCells, eqCell, RB, ZR, rB, bK, hir, rowAt_enc hir, hqo, rowAt_enc hqo, hcx, rowAt_enc hcx, p1, p3, i2, hql]
      exact ⟨⟨by omega, by omega⟩, q + 1, by omega, by omega, weak_keep 4 (by simp) (by simp) (by simp [AV.clean, AV.clean1]) (by simp) (by simp [RB, ZR, rB, bK, et2])⟩
    · have hqe : q = o.length := by omega
      subst hqe
      have er : (List.take o.length o).map (fun c => ix (ix rows i) c.toNat) = permRow o (ix rows i) := by rw [List.take_of_length_le (Nat.le_refl _)]; rfl
      have em : mapR o (rows.take (i + 1)) = mapR o (rows.take i) ++ [permRow o (ix rows i)] := by unfold mapR; rw [List.take_succ_eq_append_getElem hir, List.map_append, ix_lt hir]; rfl
      rw [er] at hql
      have hpr : List.map (fun c => ix (ix rows i) c.toNat) o = permRow o (ix rows i) := rfl
      simp [aev, cav, look, acallPure, abin, abinN, abinP, abinI, abinS, aun, aconv, afield, afieldAddr, aindexAddr, aindex, aslice, alow, ahigh, abuild, abuildGo, cellsOf, splice, fieldTy, alen, apick, amax, amin, aload, headV, aparts, abuildSlice, elParts, abytesStr, astore, amake, aappend, aclear, anew, arith, aresults, aresList, ares, spec0, spec1, spec2, spec3, spec4, eqCells, eqCell, RB, ZR, rB, bK, hpr, hql, hml, i1, scalPr]
      refine ⟨⟨by omega, by omega⟩, i + 1, by omega, by omega, weak_keep 3 (by simp) (by simp) (by simp [AV.clean, AV.clean1]) (by simp) (by simp [RB, ZR, rB, em])⟩
  · have hie : i = rows.length := by omega
    subst hie
    have et : mapR o (rows.take rows.length) = mapR o rows := by rw [List.take_of_length_le (Nat.le_refl _)]
    rw [et] at hml
    simp [aev, cav, look, acallPure, abin, abinN, abinP, abinI, abinS, aun, aconv, afield, afieldAddr, aindexAddr, aindex, aslice, alow, ahigh, abuild, abuildGo, cellsOf, splice, fieldTy, alen, apick, amax, amin, aload, headV, aparts, abuildSlice, elParts, abytesStr, astore, amake, aappend, aclear, anew, arith, aresults, aresList, ares, spec0, spec1, spec2, spec3, spec4, eqCells, eqCell, RB, ZR, rB, hir, et, hml]
    refine AW.weak (weak_view 7) ?_
    refine AW_regionF sigCPr mixCPr [.pure, .read, .pure, .read, .pure, .eff, .pure] [[],[0],[],[2],[2,3,0,1],[1,0,3,2,4],[4,2,3,0,1,5]] (by kernel_rfl) (by kernel_rfl) (by kernel_rfl) (by kernel_rfl) ?_
    simp [aev, cav, look, acallPure, abin, abinN, abinP, abinI, abinS, aun, aconv, afield, afieldAddr, aindexAddr, aindex, aslice, alow, ahigh, abuild, abuildGo, cellsOf, splice, fieldTy, alen, apick, amax, amin, aload, headV, aparts, abuildSlice, elParts, abytesStr, astore, amake, aappend, aclear, anew, arith, aresults, aresList, ares, spec0, spec1, spec2, spec3, spec4, eqCells, eqCell, sSorted, hsm, hml, e]
end Go.Proofs.Ytkonafdbfciikaa
