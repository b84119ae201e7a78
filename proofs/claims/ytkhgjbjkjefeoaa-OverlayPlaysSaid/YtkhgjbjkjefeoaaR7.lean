/-
  Texts joined: O38 O32 O39 P9 P10 O40 O41 O42.
-/
import Derived.Test.YtkhgjbjkjefeoaaR6

/-
  overlay: Laid and Of of the reference.
-/
namespace Go.Proofs.Ytkhgjbjkjefeoaa
open Go.RowKit
set_option linter.unusedSimpArgs false
set_option linter.unusedVariables false
set_option maxRecDepth 100000

def sLaid : List AV → Option (Prop × AV) := spec1 (fun (l : List Adj) => l.length ≤ 1000000) (fun l => Enc.enc (packC (sortA l)))
noncomputable def CLd : Ctx := mkC Try.prog G0 [(92, .pure sSrt)]
@[simp] theorem CLd_P : CLd.P = Try.prog := rfl
@[simp] theorem CLd_G : CLd.G = G0 := rfl
@[simp] theorem CLd_1 : CLd.S 92 = .pure sSrt := rfl
theorem mixCLd : CLd.P.follows .mixedOrders = true := mixed
theorem sigCLd : SigOK CLd := sigOK_cons (entryPure (srtR) Try.func92 rfl (by decide)) (sigOK_nil _ _)
set_option maxHeartbeats 16000000 in
theorem laidR : PureOK Try.prog G0 84 sLaid := by
  refine pureH1 (C := CLd) sigCLd mixCLd Try.func84 rfl rfl rfl [6, 7, 9, 10] (by kernel_rfl) (by decide) (fun l0 hl0 => ?_)
  have hsl0 : (sortA l0).length = l0.length := (sortA_perm l0).length_eq
  simp [aev, gav, alook, litOf, litAV, mget, mhas, acopy, asrc, adst, cav, look, acallPure, abin, abinN, abinP, abinI, abinS, aun, aconv, afield, afieldAddr, aindexAddr, aindex, aslice, alow, ahigh, abuild, abuildGo, cellsOf, splice, fieldTy, alen, apick, amax, amin, aload, headV, aparts, abuildSlice, elParts, abytesStr, astore, amake, aappend, aclear, anew, arith, aresults, aresList, ares, spec0, spec1, spec2, spec3, spec4, eqCells, eqCell, sSrt, hl0]
  have hl : (sortA l0).length ≤ 1000000 := by omega
  generalize sortA l0 = l at hl ⊢
  clear hsl0 hl0
  refine AW.weak (weak_nilcell 1 0 0 1 3 rfl rfl rfl (by decide)) ?_
  refine AW.weak (weak_nilcell 1 0 1 1 3 rfl rfl rfl (by decide)) ?_
  refine AW.weak (weak_nilcell 1 0 2 1 3 rfl rfl rfl (by decide)) ?_
  refine AW.weak (weak_nilcell 1 0 3 1 3 rfl rfl rfl (by decide)) ?_
  refine loop_ruleH (C := CLd) sigCLd mixCLd [6, 7, 9, 10] (fun k : Nat => ⟨[(2, .ptr 0 1 4 0 0), (3, Enc.enc l), (4, .ptr 1 1 4 0 0), (5, .int .i64 k)], packH l k⟩) (fun k => k ≤ l.length) (fun k => l.length - k) (by kernel_rfl) ⟨0, by omega, weak_eq (by simp) (by simp [packH, layC, begL, bI])⟩ (fun k hk => ?_)
  by_cases hlt : k < l.length
  · have i1 : I64 ((k : Int) + 1) := by unfold I64; omega
    have hs := layC_succ hlt
    have hb := begL_le l k
    have n1 : (layC l k).Nodes.length ≤ k := by show ((begL l k).map _).length ≤ k; rw [List.length_map]; exact hb
    have n2 : (layC l k).First.length ≤ k := by show ((begL l k).map _).length ≤ k; rw [List.length_map]; exact hb
    have n3 : (layC l k).To.length ≤ k := by show ((l.take k).map _).length ≤ k; simp; omega
    have n4 : (layC l k).Edge.length ≤ k := by show ((l.take k).map _).length ≤ k; simp; omega
    unfold packH
    simp [aev, gav, alook, litOf, litAV, mget, mhas, acopy, asrc, adst, cav, look, acallPure, abin, abinN, abinP, abinI, abinS, aun, aconv, afield, afieldAddr, aindexAddr, aindex, aslice, alow, ahigh, abuild, abuildGo, cellsOf, splice, fieldTy, alen, apick, amax, amin, aload, headV, aparts, abuildSlice, elParts, abytesStr, astore, amake, aappend, aclear, anew, arith, aresults, aresList, ares, spec0, spec1, spec2, spec3, spec4, eqCells, eqCell, hlt, rowAt_enc hlt]
    refine AW_regionF sigCLd mixCLd [.pure, .pure, .pure, .pure, .pure, .pure, .pure, .read, .pure, .pure, .pure, .pure, .pure, .read, .pure, .pure] [[],[0],[0,1],[1,0,2],[1,0,2],[4,2,0,1,3],[3,1,0,2,4,5],[5,4,2,0,1,3,6],[1,0,2],[1,0,2],[2,0,1,9],[9,10,2,0,1,8],[8,1,0,2,10,9,11],[11,9,10,2,0,1,8,12],[12,8,10,9,11,13,6,3,1,0,2,4,5,7],[7,5,4,3,6,13,11,9,10,8,12,14,1,0,2]] (by kernel_rfl) (by kernel_rfl) (by kernel_rfl) (by kernel_rfl) ?_
    generalize layC l k = c at hs n1 n2 n3 n4 ⊢
    by_cases h0 : k = 0
    · subst h0
      have hs1 : starts l 0 = true := rfl
      have w1 : w64 1 = 1 := by decide
      rw [hs1] at hs
      simp only [if_true] at hs
      simp [aev, gav, alook, litOf, litAV, mget, mhas, acopy, asrc, adst, cav, look, acallPure, abin, abinN, abinP, abinI, abinS, aun, aconv, afield, afieldAddr, aindexAddr, aindex, aslice, alow, ahigh, abuild, abuildGo, cellsOf, splice, fieldTy, alen, apick, amax, amin, aload, headV, aparts, abuildSlice, elParts, abytesStr, astore, amake, aappend, aclear, anew, arith, aresults, aresList, ares, spec0, spec1, spec2, spec3, spec4, eqCells, eqCell]
      refine AW_regionF sigCLd mixCLd [.pure, .read, .pure, .pure, .pure, .pure, .read, .read, .eff, .pure, .eff] [[],[0],[],[],[3,2],[2,3,4],[4,3,2,5],[5,2,3,4,6],[6,4,3,2,5,7,0,1],[8,7,6,5,4,3,2,1,0],[0,1,2,3,4,5,6,7,8,9]] (by kernel_rfl) (by kernel_rfl) (by kernel_rfl) (by kernel_rfl) ?_
      simp [aev, gav, alook, litOf, litAV, mget, mhas, acopy, asrc, adst, cav, look, acallPure, abin, abinN, abinP, abinI, abinS, aun, aconv, afield, afieldAddr, aindexAddr, aindex, aslice, alow, ahigh, abuild, abuildGo, cellsOf, splice, fieldTy, alen, apick, amax, amin, aload, headV, aparts, abuildSlice, elParts, abytesStr, astore, amake, aappend, aclear, anew, arith, aresults, aresList, ares, spec0, spec1, spec2, spec3, spec4, eqCells, eqCell, bI, hlt, rowAt_enc hlt]
      refine ⟨by omega, by omega, ?_⟩
      refine AW_regionF sigCLd mixCLd [.pure, .read, .pure, .pure, .pure, .pure, .read, .read, .eff, .pure, .eff] [[],[0],[],[],[3,2],[2,3,4],[4,3,2,5],[5,2,3,4,6],[6,4,3,2,5,7,0,1],[8,7,6,5,4,3,2,1,0],[0,1,2,3,4,5,6,7,8,9]] (by kernel_rfl) (by kernel_rfl) (by kernel_rfl) (by kernel_rfl) ?_
      simp [aev, gav, alook, litOf, litAV, mget, mhas, acopy, asrc, adst, cav, look, acallPure, abin, abinN, abinP, abinI, abinS, aun, aconv, afield, afieldAddr, aindexAddr, aindex, aslice, alow, ahigh, abuild, abuildGo, cellsOf, splice, fieldTy, alen, apick, amax, amin, aload, headV, aparts, abuildSlice, elParts, abytesStr, astore, amake, aappend, aclear, anew, arith, aresults, aresList, ares, spec0, spec1, spec2, spec3, spec4, eqCells, eqCell, hlt, rowAt_enc hlt]
      refine ⟨by omega, ?_⟩
      refine AW_regionF sigCLd mixCLd [.pure, .read, .pure, .pure, .pure, .pure, .read, .read, .eff, .pure, .eff] [[],[0],[],[],[3,2],[2,3,4],[4,3,2,5],[5,2,3,4,6],[6,4,3,2,5,7,0,1],[8,7,6,5,4,3,2,1,0],[0,1,2,3,4,5,6,7,8,9]] (by kernel_rfl) (by kernel_rfl) (by kernel_rfl) (by kernel_rfl) ?_
      simp [aev, gav, alook, litOf, litAV, mget, mhas, acopy, asrc, adst, cav, look, acallPure, abin, abinN, abinP, abinI, abinS, aun, aconv, afield, afieldAddr, aindexAddr, aindex, aslice, alow, ahigh, abuild, abuildGo, cellsOf, splice, fieldTy, alen, apick, amax, amin, aload, headV, aparts, abuildSlice, elParts, abytesStr, astore, amake, aappend, aclear, anew, arith, aresults, aresList, ares, spec0, spec1, spec2, spec3, spec4, eqCells, eqCell, i1, hlt, rowAt_enc hlt]
      refine ⟨by omega, ?_⟩
      exact ⟨0 + 1, by omega, by omega, weak_keep 6 (by simp [w1]) (by simp) (by simp [AV.clean, AV.clean1]) (by simp [AV.clean, AV.clean1]) (by simp [hs, bI])⟩
    · have hk1 : k - 1 < l.length := by omega
      have j1 : I64 ((k : Int) - 1) := by unfold I64; omega
      have j2 : ((k : Int) - 1).toNat = k - 1 := by omega
      have j3 : (0 : Int) ≤ (k : Int) - 1 := by omega
      have j4 : (k : Int) - 1 < l.length := by omega
      by_cases hf : (ix l k).From = (ix l (k - 1)).From
      · have hs1 : starts l k = false := by unfold starts; simp [h0, hf]
        rw [hs1] at hs
        simp only [Bool.false_eq_true, if_false] at hs
        simp [aev, gav, alook, litOf, litAV, mget, mhas, acopy, asrc, adst, cav, look, acallPure, abin, abinN, abinP, abinI, abinS, aun, aconv, afield, afieldAddr, aindexAddr, aindex, aslice, alow, ahigh, abuild, abuildGo, cellsOf, splice, fieldTy, alen, apick, amax, amin, aload, headV, aparts, abuildSlice, elParts, abytesStr, astore, amake, aappend, aclear, anew, arith, aresults, aresList, ares, spec0, spec1, spec2, spec3, spec4, eqCells, eqCell, h0, j1, j2, j3, j4, rowAt_enc hk1, hk1, hlt, rowAt_enc hlt, hf]
        refine ⟨by omega, ?_⟩
        refine AW_regionF sigCLd mixCLd [.pure, .read, .pure, .pure, .pure, .pure, .read, .read, .eff, .pure, .eff] [[],[0],[],[],[3,2],[2,3,4],[4,3,2,5],[5,2,3,4,6],[6,4,3,2,5,7,0,1],[8,7,6,5,4,3,2,1,0],[0,1,2,3,4,5,6,7,8,9]] (by kernel_rfl) (by kernel_rfl) (by kernel_rfl) (by kernel_rfl) ?_
        simp [aev, gav, alook, litOf, litAV, mget, mhas, acopy, asrc, adst, cav, look, acallPure, abin, abinN, abinP, abinI, abinS, aun, aconv, afield, afieldAddr, aindexAddr, aindex, aslice, alow, ahigh, abuild, abuildGo, cellsOf, splice, fieldTy, alen, apick, amax, amin, aload, headV, aparts, abuildSlice, elParts, abytesStr, astore, amake, aappend, aclear, anew, arith, aresults, aresList, ares, spec0, spec1, spec2, spec3, spec4, eqCells, eqCell, bI, hlt, rowAt_enc hlt]
        refine ⟨by omega, ?_⟩
        refine AW_regionF sigCLd mixCLd [.pure, .read, .pure, .pure, .pure, .pure, .read, .read, .eff, .pure, .eff] [[],[0],[],[],[3,2],[2,3,4],[4,3,2,5],[5,2,3,4,6],[6,4,3,2,5,7,0,1],[8,7,6,5,4,3,2,1,0],[0,1,2,3,4,5,6,7,8,9]] (by kernel_rfl) (by kernel_rfl) (by kernel_rfl) (by kernel_rfl) ?_
        simp [aev, gav, alook, litOf, litAV, mget, mhas, acopy, asrc, adst, cav, look, acallPure, abin, abinN, abinP, abinI, abinS, aun, aconv, afield, afieldAddr, aindexAddr, aindex, aslice, alow, ahigh, abuild, abuildGo, cellsOf, splice, fieldTy, alen, apick, amax, amin, aload, headV, aparts, abuildSlice, elParts, abytesStr, astore, amake, aappend, aclear, anew, arith, aresults, aresList, ares, spec0, spec1, spec2, spec3, spec4, eqCells, eqCell, i1, hlt, rowAt_enc hlt]
        refine ⟨by omega, ?_⟩
        exact ⟨k + 1, by omega, by omega, weak_keep 6 (by simp) (by simp) (by simp [AV.clean, AV.clean1]) (by simp [AV.clean, AV.clean1]) (by simp [hs, bI])⟩
      · have hs1 : starts l k = true := by unfold starts; simp [h0, hf]
        rw [hs1] at hs
        simp only [if_true] at hs
        simp [aev, gav, alook, litOf, litAV, mget, mhas, acopy, asrc, adst, cav, look, acallPure, abin, abinN, abinP, abinI, abinS, aun, aconv, afield, afieldAddr, aindexAddr, aindex, aslice, alow, ahigh, abuild, abuildGo, cellsOf, splice, fieldTy, alen, apick, amax, amin, aload, headV, aparts, abuildSlice, elParts, abytesStr, astore, amake, aappend, aclear, anew, arith, aresults, aresList, ares, spec0, spec1, spec2, spec3, spec4, eqCells, eqCell, h0, j1, j2, j3, j4, rowAt_enc hk1, hk1, hlt, rowAt_enc hlt, hf]
        refine ⟨by omega, ?_⟩
        refine AW_regionF sigCLd mixCLd [.pure, .read, .pure, .pure, .pure, .pure, .read, .read, .eff, .pure, .eff] [[],[0],[],[],[3,2],[2,3,4],[4,3,2,5],[5,2,3,4,6],[6,4,3,2,5,7,0,1],[8,7,6,5,4,3,2,1,0],[0,1,2,3,4,5,6,7,8,9]] (by kernel_rfl) (by kernel_rfl) (by kernel_rfl) (by kernel_rfl) ?_
        simp [aev, gav, alook, litOf, litAV, mget, mhas, acopy, asrc, adst, cav, look, acallPure, abin, abinN, abinP, abinI, abinS, aun, aconv, afield, afieldAddr, aindexAddr, aindex, aslice, alow, ahigh, abuild, abuildGo, cellsOf, splice, fieldTy, alen, apick, amax, amin, aload, headV, aparts, abuildSlice, elParts, abytesStr, astore, amake, aappend, aclear, anew, arith, aresults, aresList, ares, spec0, spec1, spec2, spec3, spec4, eqCells, eqCell, bI, hlt, rowAt_enc hlt]
        refine ⟨by omega, by omega, ?_⟩
        refine AW_regionF sigCLd mixCLd [.pure, .read, .pure, .pure, .pure, .pure, .read, .read, .eff, .pure, .eff] [[],[0],[],[],[3,2],[2,3,4],[4,3,2,5],[5,2,3,4,6],[6,4,3,2,5,7,0,1],[8,7,6,5,4,3,2,1,0],[0,1,2,3,4,5,6,7,8,9]] (by kernel_rfl) (by kernel_rfl) (by kernel_rfl) (by kernel_rfl) ?_
        simp [aev, gav, alook, litOf, litAV, mget, mhas, acopy, asrc, adst, cav, look, acallPure, abin, abinN, abinP, abinI, abinS, aun, aconv, afield, afieldAddr, aindexAddr, aindex, aslice, alow, ahigh, abuild, abuildGo, cellsOf, splice, fieldTy, alen, apick, amax, amin, aload, headV, aparts, abuildSlice, elParts, abytesStr, astore, amake, aappend, aclear, anew, arith, aresults, aresList, ares, spec0, spec1, spec2, spec3, spec4, eqCells, eqCell, hlt, rowAt_enc hlt]
        refine ⟨by omega, ?_⟩
        refine AW_regionF sigCLd mixCLd [.pure, .read, .pure, .pure, .pure, .pure, .read, .read, .eff, .pure, .eff] [[],[0],[],[],[3,2],[2,3,4],[4,3,2,5],[5,2,3,4,6],[6,4,3,2,5,7,0,1],[8,7,6,5,4,3,2,1,0],[0,1,2,3,4,5,6,7,8,9]] (by kernel_rfl) (by kernel_rfl) (by kernel_rfl) (by kernel_rfl) ?_
        simp [aev, gav, alook, litOf, litAV, mget, mhas, acopy, asrc, adst, cav, look, acallPure, abin, abinN, abinP, abinI, abinS, aun, aconv, afield, afieldAddr, aindexAddr, aindex, aslice, alow, ahigh, abuild, abuildGo, cellsOf, splice, fieldTy, alen, apick, amax, amin, aload, headV, aparts, abuildSlice, elParts, abytesStr, astore, amake, aappend, aclear, anew, arith, aresults, aresList, ares, spec0, spec1, spec2, spec3, spec4, eqCells, eqCell, i1, hlt, rowAt_enc hlt]
        refine ⟨by omega, ?_⟩
        exact ⟨k + 1, by omega, by omega, weak_keep 6 (by simp []) (by simp) (by simp [AV.clean, AV.clean1]) (by simp [AV.clean, AV.clean1]) (by simp [hs, bI])⟩
  · obtain rfl : k = l.length := by omega
    unfold packH
    have hb := begL_le l l.length
    have n2 : (layC l l.length).First.length ≤ l.length := by show ((begL l l.length).map _).length ≤ l.length; rw [List.length_map]; exact hb
    have hp : packC l = { layC l l.length with First := if l.length = 0 then [] else (layC l l.length).First ++ [(l.length : Int)] } := rfl
    rw [hp]
    clear hp
    by_cases h0 : l.length = 0
    · have hF : (layC l l.length).First = [] := by
        have : (layC l l.length).First.length = 0 := by omega
        exact List.length_eq_zero_iff.1 this
      simp [aev, gav, alook, litOf, litAV, mget, mhas, acopy, asrc, adst, cav, look, acallPure, abin, abinN, abinP, abinI, abinS, aun, aconv, afield, afieldAddr, aindexAddr, aindex, aslice, alow, ahigh, abuild, abuildGo, cellsOf, splice, fieldTy, alen, apick, amax, amin, aload, headV, aparts, abuildSlice, elParts, abytesStr, astore, amake, aappend, aclear, anew, arith, aresults, aresList, ares, spec0, spec1, spec2, spec3, spec4, eqCells, eqCell, h0, bI]
      rw [h0] at hF
      rw [hF]
      rfl
    · have h0' : 0 < l.length := by omega
      generalize layC l l.length = c at n2 ⊢
      simp [aev, gav, alook, litOf, litAV, mget, mhas, acopy, asrc, adst, cav, look, acallPure, abin, abinN, abinP, abinI, abinS, aun, aconv, afield, afieldAddr, aindexAddr, aindex, aslice, alow, ahigh, abuild, abuildGo, cellsOf, splice, fieldTy, alen, apick, amax, amin, aload, headV, aparts, abuildSlice, elParts, abytesStr, astore, amake, aappend, aclear, anew, arith, aresults, aresList, ares, spec0, spec1, spec2, spec3, spec4, eqCells, eqCell, h0, h0', bI]
      omega
end Go.Proofs.Ytkhgjbjkjefeoaa


/-
  overlay: the law of insertion and deletion, inverse to each other.
-/
namespace Go.Proofs.Ytkhgjbjkjefeoaa
open Go.RowKit
set_option linter.unusedSimpArgs false
set_option linter.unusedVariables false
set_option maxRecDepth 100000

/-- Small enough for n changes more. -/
def SmB (n : Nat) (o : Ov) : Prop := WfO o ∧ o.Base.To.length ≤ 1000 ∧ o.Adds.length + n ≤ 1000 ∧ o.Dels.length + n ≤ 1000
theorem SmB.sm {n : Nat} {o : Ov} (h : SmB n o) : SmO o := ⟨h.1, h.2.1, by have := h.2.2.1; omega, by have := h.2.2.2; omega⟩
theorem few_smB {o : Ov} (h : FewO o) (hd : ∀ d ∈ o.Dels, I64 d) : SmB 900 o := by
  have hl := few_len h
  obtain ⟨h1, h2, h3, h4, h5, h6⟩ := h
  exact ⟨⟨hl, hd⟩, by omega, by omega, by omega⟩
theorem ovZ_smB (n : Nat) (hn : n ≤ 1000) : SmB n ovZ := ⟨⟨ovZ_len, by simp [ovZ]⟩, by simp [ovZ], by simp [ovZ]; omega, by simp [ovZ]; omega⟩
theorem ins_smB {n : Nat} {o : Ov} {a : Adj} (h : SmB (n + 1) o) : SmB n (insO o a).1 := by
  have hl := ins_len (a := a) h.sm
  obtain ⟨⟨_, hd⟩, s1, s2, s3⟩ := h
  revert hl
  unfold insO
  repeat' split
  · intro _; exact ovZ_smB n (by omega)
  · intro _; exact ovZ_smB n (by omega)
  · intro _; exact ovZ_smB n (by omega)
  · intro hl
    exact ⟨⟨hl, fun d hd' => hd d (List.mem_filter.1 hd').1⟩, s1, by show o.Adds.length + n ≤ _; omega, by show (outI _ _).length + n ≤ _; unfold outI; have := List.length_filter_le (neI a.Edge) o.Dels; omega⟩
  · intro hl
    exact ⟨⟨hl, hd⟩, s1, by show (insA _ _).length + n ≤ _; rw [insA_len]; omega, by show o.Dels.length + n ≤ _; omega⟩
theorem del_smB {n : Nat} {o : Ov} {v : Int} (hv : I64 v) (h : SmB (n + 1) o) : SmB n (delO o v).1 := by
  have hl := del_len (v := v) h.sm
  obtain ⟨⟨_, hd⟩, s1, s2, s3⟩ := h
  revert hl
  unfold delO
  repeat' split
  · intro _; exact ovZ_smB n (by omega)
  · intro _; exact ovZ_smB n (by omega)
  · intro hl
    exact ⟨⟨hl, hd⟩, s1, by show (List.filter _ _).length + n ≤ _; have := List.length_filter_le (neE v) o.Adds; omega, by show o.Dels.length + n ≤ _; omega⟩
  · intro hl
    exact ⟨⟨hl, fun d hd' => by
      rcases List.mem_cons.1 ((insI_perm v o.Dels).mem_iff.1 hd') with rfl | h
      · exact hv
      · exact hd d h⟩, s1, by show o.Adds.length + n ≤ _; omega, by show (insI _ _).length + n ≤ _; rw [insI_len]; omega⟩
theorem id_i64' {x : Int} (h : IdOK x) : I64 x := by unfold IdOK at h; unfold I64; omega
theorem live_of {o : Ov} (h : ValidO o) : liveO o = entsO o := by unfold liveO; rw [if_pos (voB_true.2 h)]
theorem sm_ents {o : Ov} (h : SmO o) : (entsO o).length ≤ 10000 := by
  have h1 := ents_len o
  have h2 := kept_small o
  obtain ⟨_, s1, s2, _⟩ := h
  omega
noncomputable def CBk : Ctx := mkC Try.prog G0 [(8, .pure sFew), (9, .pure sAlive), (15, .pure sValO), (16, .pure sLive), (10, .pure sIns), (12, .pure sDel), (17, .pure sAdjs), (18, .pure sMore)]
@[simp] theorem CBk_P : CBk.P = Try.prog := rfl
@[simp] theorem CBk_G : CBk.G = G0 := rfl
@[simp] theorem CBk_1 : CBk.S 8 = .pure sFew := rfl
@[simp] theorem CBk_2 : CBk.S 9 = .pure sAlive := rfl
@[simp] theorem CBk_3 : CBk.S 15 = .pure sValO := rfl
@[simp] theorem CBk_4 : CBk.S 16 = .pure sLive := rfl
@[simp] theorem CBk_5 : CBk.S 10 = .pure sIns := rfl
@[simp] theorem CBk_6 : CBk.S 12 = .pure sDel := rfl
@[simp] theorem CBk_7 : CBk.S 17 = .pure sAdjs := rfl
@[simp] theorem CBk_8 : CBk.S 18 = .pure sMore := rfl
theorem mixCBk : CBk.P.follows .mixedOrders = true := mixed
theorem sigCBk : SigOK CBk := sigOK_cons (entryPure (fewP) Try.func8 rfl (by decide)) (sigOK_cons (entryPure (aliveP) Try.func9 rfl (by decide)) (sigOK_cons (entryPure (validOP) Try.func15 rfl (by decide)) (sigOK_cons (entryPure (liveP) Try.func16 rfl (by decide)) (sigOK_cons (entryPure (insPO) Try.func10 rfl (by decide)) (sigOK_cons (entryPure (delPO) Try.func12 rfl (by decide)) (sigOK_cons (entryPure (adjsR) Try.func17 rfl (by decide)) (sigOK_cons (entryPure (moreL) Try.func18 rfl (by decide)) (sigOK_nil _ _))))))))
set_option maxHeartbeats 16000000 in
theorem lawBack : PureOK Try.prog G0 4 (spec3 (fun (o : Ov) (_ : Adj) (_ : UInt8) => ∀ d ∈ o.Dels, I64 d) fun _ _ _ => .bool true) := by
  refine pureH3 (C := CBk) sigCBk mixCBk Try.func4 rfl rfl rfl [7, 14] (by kernel_rfl) (by decide) (fun o a u hd => ?_)
  by_cases hf : FewO o
  case neg => simp [aev, gav, alook, litOf, litAV, mget, mhas, acopy, asrc, adst, cav, look, acallPure, abin, abinN, abinP, abinI, abinS, aun, aconv, afield, afieldAddr, aindexAddr, aindex, aslice, alow, ahigh, abuild, abuildGo, cellsOf, splice, fieldTy, alen, apick, amax, amin, aload, headV, aparts, abuildSlice, elParts, abytesStr, astore, amake, aappend, aclear, anew, arith, aresults, aresList, ares, spec0, spec1, spec2, spec3, spec4, eqCells, eqCell, sFew, hf, sAlive]
  have hb := few_smB hf hd
  have hs := hb.sm
  cases hv : voB o with
  | false => simp [aev, gav, alook, litOf, litAV, mget, mhas, acopy, asrc, adst, cav, look, acallPure, abin, abinN, abinP, abinI, abinS, aun, aconv, afield, afieldAddr, aindexAddr, aindex, aslice, alow, ahigh, abuild, abuildGo, cellsOf, splice, fieldTy, alen, apick, amax, amin, aload, headV, aparts, abuildSlice, elParts, abytesStr, astore, amake, aappend, aclear, anew, arith, aresults, aresList, ares, spec0, spec1, spec2, spec3, spec4, eqCells, eqCell, sFew, hf, sAlive, sValO, hs.1, hv]
  | true =>
    have hvo := voB_true.1 hv
    have hlv := live_of hvo
    have hle := sm_ents hs
    have hL : Len (entsO o) := by unfold Len; omega
    obtain ⟨p, hp⟩ : ∃ p, insO o a = p := ⟨_, rfl⟩
    obtain ⟨x, e⟩ := p
    have hbx : SmB 899 x := by have := ins_smB (n := 899) (a := a) hb; rwa [hp] at this
    have hx : e = 0 → ∃ y, delO x a.Edge = (y, 0) ∧ ValidO x ∧ ValidO y ∧ entsO y = entsO o ∧ MoreA (entsO x) (entsO o) a ∧ I64 a.Edge := fun h0 => by
      have h0' : (insO o a).2 = 0 := by rw [hp]; exact h0
      have h1 := ins_del hvo h0'
      have h2 := (ins_ok hvo h0').1.2.2
      rw [hp] at h1
      obtain ⟨q, hq⟩ : ∃ q, delO x a.Edge = q := ⟨_, rfl⟩
      obtain ⟨y, f⟩ := q
      simp only [hq] at h1
      obtain ⟨rfl, k1, k2, k3, k4⟩ := h1
      exact ⟨y, hq, k1, k2, k3, k4, id_i64' h2⟩
    simp [aev, gav, alook, litOf, litAV, mget, mhas, acopy, asrc, adst, cav, look, acallPure, abin, abinN, abinP, abinI, abinS, aun, aconv, afield, afieldAddr, aindexAddr, aindex, aslice, alow, ahigh, abuild, abuildGo, cellsOf, splice, fieldTy, alen, apick, amax, amin, aload, headV, aparts, abuildSlice, elParts, abytesStr, astore, amake, aappend, aclear, anew, arith, aresults, aresList, ares, spec0, spec1, spec2, spec3, spec4, eqCells, eqCell, sFew, hf, sAlive, sValO, hs.1, hv, sLive, hlv, sIns, hs, hp]
    rcases em2 (e = 0) with h0 | h0
    all_goals first
      | (have h0' := of_eq_true h0
         subst h0'
         obtain ⟨y, hy, vx, vy, ey, mx, ia⟩ := hx rfl
         have hby : SmB 898 y := by have := del_smB (n := 898) ia hbx; rwa [hy] at this
         have lx := live_of vx
         have ly := live_of vy
         have lex := sm_ents hbx.sm
         have hLx : Len (entsO x) := by unfold Len; omega
         simp [aev, gav, alook, litOf, litAV, mget, mhas, acopy, asrc, adst, cav, look, acallPure, abin, abinN, abinP, abinI, abinS, aun, aconv, afield, afieldAddr, aindexAddr, aindex, aslice, alow, ahigh, abuild, abuildGo, cellsOf, splice, fieldTy, alen, apick, amax, amin, aload, headV, aparts, abuildSlice, elParts, abytesStr, astore, amake, aappend, aclear, anew, arith, aresults, aresList, ares, spec0, spec1, spec2, spec3, spec4, eqCells, eqCell, sDel, hbx.sm, hy]
         refine AW_regionF sigCBk mixCBk [.pure, .pure, .pure, .read, .read, .pure, .pure, .pure, .read, .read, .pure, .pure, .pure, .read, .read, .pure, .read, .pure, .pure, .pure, .read, .read, .pure, .read, .read, .pure, .pure] [[],[0],[0,1],[1,0,2],[2,0,1,3],[3,1,0,2,4],[4,3,5,1,0,2],[2,0,1,5,3,4,6],[6,4,3,5,1,0,2,7],[7,2,0,1,5,3,4,6,8],[8,6,4,3,5,1,0,2,7,9],[9,8,10,6,4,3,5,1,0,2,7],[7,2,0,1,5,3,4,6,10,8,9,11],[11,9,8,10,6,4,3,5,1,0,2,7,12],[12,7,2,0,1,5,3,4,6,10,8,9,11,13],[11,9,8,10,6,4,3,5,1,0,2,7,12],[15,13,11,9,8,10,6,4,3,5,1,0,2,7,12,14],[14,12,7,2,0,1,5,3,4,6,10,8,9,11,13,15,16],[16,15,13,14,17,11,9,8,10,6,4,3,5,1,0,2,7,12],[12,7,2,0,1,5,3,4,6,10,8,9,11,17,14,13,15,16,18],[18,16,15,13,14,17,11,9,8,10,6,4,3,5,1,0,2,7,12,19],[19,12,7,2,0,1,5,3,4,6,10,8,9,11,17,14,13,15,16,18,20],[18,16,15,13,14,17,11,9,8,10,6,4,3,5,1,0,2,7,12,19],[18,16,15,13,14,17,11,9,8,10,6,4,3,5,1,0,2,7,12,19],[23,22,20,18,16,15,13,14,17,11,9,8,10,6,4,3,5,1,0,2,7,12,19,21],[21,19,12,7,2,0,1,5,3,4,6,10,8,9,11,17,14,13,15,16,18,20,22,23,24],[24,23,22,20,21,25,18,16,15,13,14,17,11,9,8,10,6,4,3,5,1,0,2,7,12,19]] (by kernel_rfl) (by kernel_rfl) (by kernel_rfl) (by kernel_rfl) ?_
         simp [aev, gav, alook, litOf, litAV, mget, mhas, acopy, asrc, adst, cav, look, acallPure, abin, abinN, abinP, abinI, abinS, aun, aconv, afield, afieldAddr, aindexAddr, aindex, aslice, alow, ahigh, abuild, abuildGo, cellsOf, splice, fieldTy, alen, apick, amax, amin, aload, headV, aparts, abuildSlice, elParts, abytesStr, astore, amake, aappend, aclear, anew, arith, aresults, aresList, ares, spec0, spec1, spec2, spec3, spec4, eqCells, eqCell, sValO, hbx.1, voB_true.2 vx, hby.1, voB_true.2 vy, sLive, lx, ly, ey, sAdjs, hL, sMore, hLx, moreB_true mx])
      | simp [aev, gav, alook, litOf, litAV, mget, mhas, acopy, asrc, adst, cav, look, acallPure, abin, abinN, abinP, abinI, abinS, aun, aconv, afield, afieldAddr, aindexAddr, aindex, aslice, alow, ahigh, abuild, abuildGo, cellsOf, splice, fieldTy, alen, apick, amax, amin, aload, headV, aparts, abuildSlice, elParts, abytesStr, astore, amake, aappend, aclear, anew, arith, aresults, aresList, ares, spec0, spec1, spec2, spec3, spec4, eqCells, eqCell, h0]
    all_goals rcases em2 (entsO o = []) with hE | hE
    all_goals first
      | (simp [aev, gav, alook, litOf, litAV, mget, mhas, acopy, asrc, adst, cav, look, acallPure, abin, abinN, abinP, abinI, abinS, aun, aconv, afield, afieldAddr, aindexAddr, aindex, aslice, alow, ahigh, abuild, abuildGo, cellsOf, splice, fieldTy, alen, apick, amax, amin, aload, headV, aparts, abuildSlice, elParts, abytesStr, astore, amake, aappend, aclear, anew, arith, aresults, aresList, ares, spec0, spec1, spec2, spec3, spec4, eqCells, eqCell, of_eq_true hE, sAlive]; done)
      | skip
    all_goals have hul : u.toNat < 256 := u.toNat_lt
    all_goals have hu : (Enc.enc u : AV) = .int .u8 (u.toNat : Int) := rfl
    all_goals have iu : I64 (u.toNat : Int) := by unfold I64; omega
    all_goals have h0l : ¬ ((entsO o).length : Int) = 0 := fun h => of_eq_false hE (List.length_eq_zero_iff.1 (by omega))
    all_goals
      (obtain ⟨k, hk⟩ : ∃ k, k = u.toNat % (entsO o).length := ⟨_, rfl⟩
       have hkl : k < (entsO o).length := by rw [hk]; exact Nat.mod_lt _ (by omega)
       have hw : IntKind.i64.wrap (u.toNat : Int) = (u.toNat : Int) := by rw [IntKind.wrap_i64]; omega
       have hkm : ((u.toNat : Int)).tmod ((entsO o).length : Int) = (k : Int) := by rw [hk]; rfl
       obtain ⟨b, hb0⟩ : ∃ b, ix (entsO o) k = b := ⟨_, rfl⟩
       have hbm : b ∈ entsO o := by rw [← hb0]; exact ix_mem hkl
       have hib := id_i64' (form_ents hvo hbm).2.2
       obtain ⟨q0, q1, q2, q3, q4, q5⟩ := del_ins hvo hbm
       obtain ⟨z, hz⟩ : ∃ z, delO o b.Edge = z := ⟨_, rfl⟩
       have hbz : SmB 899 z.1 := by rw [← hz]; exact del_smB (n := 899) hib hb
       rw [hz] at q0 q1 q2 q3 q4 q5
       obtain ⟨z, f⟩ := z
       simp only at q0 q1 q2 q3 q4 q5 hbz
       subst q0
       obtain ⟨w, hw1⟩ : ∃ w, insO z b = w := ⟨_, rfl⟩
       have hbw : SmB 898 w.1 := by rw [← hw1]; exact ins_smB (n := 898) hbz
       rw [hw1] at q1 q3 q5
       obtain ⟨w, g⟩ := w
       simp only at q1 q3 q5 hbw
       subst q1
       have lz := live_of q2
       have lw := live_of q3
       have lez := sm_ents hbz.sm
       have hLz : Len (entsO z) := by unfold Len; omega
       simp [aev, gav, alook, litOf, litAV, mget, mhas, acopy, asrc, adst, cav, look, acallPure, abin, abinN, abinP, abinI, abinS, aun, aconv, afield, afieldAddr, aindexAddr, aindex, aslice, alow, ahigh, abuild, abuildGo, cellsOf, splice, fieldTy, alen, apick, amax, amin, aload, headV, aparts, abuildSlice, elParts, abytesStr, astore, amake, aappend, aclear, anew, arith, aresults, aresList, ares, spec0, spec1, spec2, spec3, spec4, eqCells, eqCell, of_eq_false hE, hu, hw, h0l, hkm, hkl, rowAt_enc hkl, hb0, sDel, hs, hz, sIns, hbz.sm, hw1])
    all_goals
      (refine AW_regionF sigCBk mixCBk [.pure, .pure, .pure, .pure, .pure, .pure, .pure, .read, .read, .pure, .pure, .read, .read, .pure, .pure, .pure, .read, .read, .read, .read, .pure, .pure, .read, .read, .pure, .read, .pure, .pure, .read, .pure, .pure] [[],[0],[0,1],[1,0,2],[2,0,1,3],[3,4,1,0,2],[2,0,1,4,3,5],[5,3,4,1,0,2,6],[6,2,0,1,4,3,5,7],[7,8,5,3,4,1,0,2,6],[6,2,0,1,4,3,5,8,7,9],[9,7,8,5,3,4,1,0,2,6,10],[10,6,2,0,1,4,3,5,8,7,9,11],[11,12,9,7,8,5,3,4,1,0,2,6,10],[10,6,2,0,1,4,3,5,8,7,9,12,11,13],[13,11,12,9,7,8,5,3,4,1,0,2,6,10,14],[13,11,12,9,7,8,5,3,4,1,0,2,6,10,14],[14,10,6,2,0,1,4,3,5,8,7,9,12,11,13,16],[13,11,12,9,7,8,5,3,4,1,0,2,6,10,14],[18,16,17,14,10,6,2,0,1,4,3,5,8,7,9,12,11,13,15],[15,17,16,18,19,13,11,12,9,7,8,5,3,4,1,0,2,6,10,14],[14,10,6,2,0,1,4,3,5,8,7,9,12,11,13,19,18,16,17,15,20],[20,15,17,16,18,19,13,11,12,9,7,8,5,3,4,1,0,2,6,10,14,21],[21,14,10,6,2,0,1,4,3,5,8,7,9,12,11,13,19,18,16,17,15,20,22],[20,15,17,16,18,19,13,11,12,9,7,8,5,3,4,1,0,2,6,10,14,21],[24,22,20,15,17,16,18,19,13,11,12,9,7,8,5,3,4,1,0,2,6,10,14,21,23],[23,22,24,25,20,15,17,16,18,19,13,11,12,9,7,8,5,3,4,1,0,2,6,10,14,21],[21,14,10,6,2,0,1,4,3,5,8,7,9,12,11,13,19,18,16,17,15,20,25,24,22,23,26],[26,23,22,24,25,20,15,17,16,18,19,13,11,12,9,7,8,5,3,4,1,0,2,6,10,14,21,27],[28,26,23,22,24,25,20,15,17,16,18,19,13,11,12,9,7,8,5,3,4,1,0,2,6,10,14,21,27],[27,21,14,10,6,2,0,1,4,3,5,8,7,9,12,11,13,19,18,16,17,15,20,25,24,22,23,26,28,29]] (by kernel_rfl) (by kernel_rfl) (by kernel_rfl) (by kernel_rfl) ?_
       simp [aev, gav, alook, litOf, litAV, mget, mhas, acopy, asrc, adst, cav, look, acallPure, abin, abinN, abinP, abinI, abinS, aun, aconv, afield, afieldAddr, aindexAddr, aindex, aslice, alow, ahigh, abuild, abuildGo, cellsOf, splice, fieldTy, alen, apick, amax, amin, aload, headV, aparts, abuildSlice, elParts, abytesStr, astore, amake, aappend, aclear, anew, arith, aresults, aresList, ares, spec0, spec1, spec2, spec3, spec4, eqCells, eqCell, sValO, hbz.1, voB_true.2 q2, hbw.1, voB_true.2 q3, sLive, lz, lw, q5, sAdjs, hL, sMore, hLz, moreB_true q4, sAlive])
end Go.Proofs.Ytkhgjbjkjefeoaa


/-
  overlay: Of of the reference; Compact, both sides.
-/
namespace Go.Proofs.Ytkhgjbjkjefeoaa
open Go.RowKit
set_option linter.unusedSimpArgs false
set_option linter.unusedVariables false
set_option maxRecDepth 100000

noncomputable def COrf : Ctx := mkC Try.prog G0 [(79, .pure sId), (84, .pure sLaid)]
@[simp] theorem COrf_P : COrf.P = Try.prog := rfl
@[simp] theorem COrf_G : COrf.G = G0 := rfl
@[simp] theorem COrf_1 : COrf.S 79 = .pure sId := rfl
@[simp] theorem COrf_2 : COrf.S 84 = .pure sLaid := rfl
theorem mixCOrf : COrf.P.follows .mixedOrders = true := mixed
theorem sigCOrf : SigOK COrf := sigOK_cons (entryPure (idR) Try.func79 rfl (by decide)) (sigOK_cons (entryPure (laidR) Try.func84 rfl (by decide)) (sigOK_nil _ _))
def Z4 : Blk := ⟨24, 4, [[.slice 1 true [], .slice 1 true [], .slice 1 true [], .slice 1 true []]], true, true⟩
set_option maxHeartbeats 16000000 in
theorem ofR : PureOK Try.prog G0 56 sOf := by
  refine pureH1 (C := COrf) sigCOrf mixCOrf Try.func56 rfl rfl rfl [12] (by kernel_rfl) (by decide) (fun l hl => ?_)
  obtain ⟨r, hr⟩ : ∃ r, ofC l = r := ⟨_, rfl⟩
  rw [hr]
  simp [aev, gav, alook, litOf, litAV, mget, mhas, acopy, asrc, adst, cav, look, acallPure, abin, abinN, abinP, abinI, abinS, aun, aconv, afield, afieldAddr, aindexAddr, aindex, aslice, alow, ahigh, abuild, abuildGo, cellsOf, splice, fieldTy, alen, apick, amax, amin, aload, headV, aparts, abuildSlice, elParts, abytesStr, astore, amake, aappend, aclear, anew, arith, aresults, aresList, ares, spec0, spec1, spec2, spec3, spec4, eqCells, eqCell]
  refine loop_ruleH (C := COrf) sigCOrf mixCOrf [12] (fun k : Nat => ⟨[(0, Enc.enc l), (2, .ptr 0 1 4 0 0), (4, .int .i64 k)], [Z4]⟩) (fun k => k ≤ l.length ∧ ∀ i, i < k → FormA (ix l i)) (fun k => l.length - k) (by kernel_rfl) ⟨0, ⟨by omega, fun i hi => by omega⟩, weak_eq (by simp) (by simp [Z4])⟩ (fun k ⟨hk, hf⟩ => ?_)
  by_cases hlt : k < l.length
  · have i1 : I64 ((k : Int) + 1) := by unfold I64; omega
    have bad : ¬ FormA (ix l k) → r = (⟨[], [], [], []⟩, 1) := fun h => by rw [← hr]; exact ofC_bad (ix_mem hlt) h
    by_cases f1 : IdOK (ix l k).From
    case neg =>
      have hr0 := bad fun h => f1 h.1
      simp [aev, gav, alook, litOf, litAV, mget, mhas, acopy, asrc, adst, cav, look, acallPure, abin, abinN, abinP, abinI, abinS, aun, aconv, afield, afieldAddr, aindexAddr, aindex, aslice, alow, ahigh, abuild, abuildGo, cellsOf, splice, fieldTy, alen, apick, amax, amin, aload, headV, aparts, abuildSlice, elParts, abytesStr, astore, amake, aappend, aclear, anew, arith, aresults, aresList, ares, spec0, spec1, spec2, spec3, spec4, eqCells, eqCell, hlt, rowAt_enc hlt, sId, f1, hr0, Z4]
    by_cases f2 : IdOK (ix l k).To
    case neg =>
      have hr0 := bad fun h => f2 h.2.1
      simp [aev, gav, alook, litOf, litAV, mget, mhas, acopy, asrc, adst, cav, look, acallPure, abin, abinN, abinP, abinI, abinS, aun, aconv, afield, afieldAddr, aindexAddr, aindex, aslice, alow, ahigh, abuild, abuildGo, cellsOf, splice, fieldTy, alen, apick, amax, amin, aload, headV, aparts, abuildSlice, elParts, abytesStr, astore, amake, aappend, aclear, anew, arith, aresults, aresList, ares, spec0, spec1, spec2, spec3, spec4, eqCells, eqCell, hlt, rowAt_enc hlt, sId, f1, f2, hr0, Z4]
    by_cases f3 : IdOK (ix l k).Edge
    case neg =>
      have hr0 := bad fun h => f3 h.2.2
      simp [aev, gav, alook, litOf, litAV, mget, mhas, acopy, asrc, adst, cav, look, acallPure, abin, abinN, abinP, abinI, abinS, aun, aconv, afield, afieldAddr, aindexAddr, aindex, aslice, alow, ahigh, abuild, abuildGo, cellsOf, splice, fieldTy, alen, apick, amax, amin, aload, headV, aparts, abuildSlice, elParts, abytesStr, astore, amake, aappend, aclear, anew, arith, aresults, aresList, ares, spec0, spec1, spec2, spec3, spec4, eqCells, eqCell, hlt, rowAt_enc hlt, sId, f1, f2, f3, hr0, Z4]
    simp [aev, gav, alook, litOf, litAV, mget, mhas, acopy, asrc, adst, cav, look, acallPure, abin, abinN, abinP, abinI, abinS, aun, aconv, afield, afieldAddr, aindexAddr, aindex, aslice, alow, ahigh, abuild, abuildGo, cellsOf, splice, fieldTy, alen, apick, amax, amin, aload, headV, aparts, abuildSlice, elParts, abytesStr, astore, amake, aappend, aclear, anew, arith, aresults, aresList, ares, spec0, spec1, spec2, spec3, spec4, eqCells, eqCell, hlt, rowAt_enc hlt, sId, f1, f2, f3, i1]
    refine ⟨k + 1, ⟨by omega, fun i hi => ?_⟩, by omega, weak_eq (by simp) (by simp)⟩
    rcases Nat.lt_or_eq_of_le (Nat.le_of_lt_succ hi) with h | rfl
    · exact hf i h
    · exact ⟨f1, f2, f3⟩
  obtain rfl : k = l.length := by omega
  have hF : ∀ a ∈ l, FormA a := fun a ha => by obtain ⟨j, hj, rfl⟩ := mem_ix ha; exact hf j hj
  simp [aev, gav, alook, litOf, litAV, mget, mhas, acopy, asrc, adst, cav, look, acallPure, abin, abinN, abinP, abinI, abinS, aun, aconv, afield, afieldAddr, aindexAddr, aindex, aslice, alow, ahigh, abuild, abuildGo, cellsOf, splice, fieldTy, alen, apick, amax, amin, aload, headV, aparts, abuildSlice, elParts, abytesStr, astore, amake, aappend, aclear, anew, arith, aresults, aresList, ares, spec0, spec1, spec2, spec3, spec4, eqCells, eqCell, hlt]
  refine loop_ruleH (C := COrf) sigCOrf mixCOrf [12] (fun k : Nat => ⟨[(0, Enc.enc l), (2, .ptr 0 1 4 0 0), (5, .int .i64 k)], [Z4]⟩) (fun k => k ≤ l.length ∧ ∀ i j, i < j → j < k → (ix l i).Edge ≠ (ix l j).Edge) (fun k => l.length - k) (by kernel_rfl) ⟨0, ⟨by omega, fun i j _ hj => by omega⟩, weak_eq (by simp) (by simp [Z4])⟩ (fun k ⟨hk, hd⟩ => ?_)
  by_cases hlk : k < l.length
  · have i1 : I64 ((k : Int) + 1) := by unfold I64; omega
    simp [aev, gav, alook, litOf, litAV, mget, mhas, acopy, asrc, adst, cav, look, acallPure, abin, abinN, abinP, abinI, abinS, aun, aconv, afield, afieldAddr, aindexAddr, aindex, aslice, alow, ahigh, abuild, abuildGo, cellsOf, splice, fieldTy, alen, apick, amax, amin, aload, headV, aparts, abuildSlice, elParts, abytesStr, astore, amake, aappend, aclear, anew, arith, aresults, aresList, ares, spec0, spec1, spec2, spec3, spec4, eqCells, eqCell, hlk]
    refine loop_ruleH (C := COrf) sigCOrf mixCOrf [12] (fun j : Nat => ⟨[(0, Enc.enc l), (2, .ptr 0 1 4 0 0), (5, .int .i64 k), (6, .int .i64 j)], [Z4]⟩) (fun j => j ≤ k ∧ ∀ i, i < j → (ix l i).Edge ≠ (ix l k).Edge) (fun j => k - j) (by kernel_rfl) ⟨0, ⟨by omega, fun i hi => by omega⟩, weak_eq (by simp) (by simp [Z4])⟩ (fun j ⟨hj, he⟩ => ?_)
    by_cases hjk : j < k
    · have j1 : I64 ((j : Int) + 1) := by unfold I64; omega
      have hjl : j < l.length := by omega
      simp [aev, gav, alook, litOf, litAV, mget, mhas, acopy, asrc, adst, cav, look, acallPure, abin, abinN, abinP, abinI, abinS, aun, aconv, afield, afieldAddr, aindexAddr, aindex, aslice, alow, ahigh, abuild, abuildGo, cellsOf, splice, fieldTy, alen, apick, amax, amin, aload, headV, aparts, abuildSlice, elParts, abytesStr, astore, amake, aappend, aclear, anew, arith, aresults, aresList, ares, spec0, spec1, spec2, spec3, spec4, eqCells, eqCell, hjk]
      refine AW_regionF sigCOrf mixCOrf [.pure, .pure, .pure, .pure, .read, .pure, .pure, .pure, .pure, .read, .pure] [[],[],[1,0],[0,1,2],[2,1,0,3],[],[],[6,5],[5,6,7],[7,6,5,8],[8,5,6,7,9,3,0,1,2,4]] (by kernel_rfl) (by kernel_rfl) (by kernel_rfl) (by kernel_rfl) ?_
      by_cases h5 : (ix l j).Edge = (ix l k).Edge
      · have hr0 : r = (⟨[], [], [], []⟩, 7) := by rw [← hr]; exact ofC_twice hF fun hD => hD j k hjk hlk h5
        simp [aev, gav, alook, litOf, litAV, mget, mhas, acopy, asrc, adst, cav, look, acallPure, abin, abinN, abinP, abinI, abinS, aun, aconv, afield, afieldAddr, aindexAddr, aindex, aslice, alow, ahigh, abuild, abuildGo, cellsOf, splice, fieldTy, alen, apick, amax, amin, aload, headV, aparts, abuildSlice, elParts, abytesStr, astore, amake, aappend, aclear, anew, arith, aresults, aresList, ares, spec0, spec1, spec2, spec3, spec4, eqCells, eqCell, hlk, hjl, rowAt_enc hlk, rowAt_enc hjl, h5, hr0, Z4]
      · simp [aev, gav, alook, litOf, litAV, mget, mhas, acopy, asrc, adst, cav, look, acallPure, abin, abinN, abinP, abinI, abinS, aun, aconv, afield, afieldAddr, aindexAddr, aindex, aslice, alow, ahigh, abuild, abuildGo, cellsOf, splice, fieldTy, alen, apick, amax, amin, aload, headV, aparts, abuildSlice, elParts, abytesStr, astore, amake, aappend, aclear, anew, arith, aresults, aresList, ares, spec0, spec1, spec2, spec3, spec4, eqCells, eqCell, hlk, hjl, rowAt_enc hlk, rowAt_enc hjl, h5, j1]
        refine ⟨j + 1, ⟨by omega, fun i hi => ?_⟩, by omega, weak_eq (by simp) (by simp)⟩
        rcases Nat.lt_or_eq_of_le (Nat.le_of_lt_succ hi) with h | rfl
        · exact he i h
        · exact h5
    · obtain rfl : j = k := by omega
      simp [aev, gav, alook, litOf, litAV, mget, mhas, acopy, asrc, adst, cav, look, acallPure, abin, abinN, abinP, abinI, abinS, aun, aconv, afield, afieldAddr, aindexAddr, aindex, aslice, alow, ahigh, abuild, abuildGo, cellsOf, splice, fieldTy, alen, apick, amax, amin, aload, headV, aparts, abuildSlice, elParts, abytesStr, astore, amake, aappend, aclear, anew, arith, aresults, aresList, ares, spec0, spec1, spec2, spec3, spec4, eqCells, eqCell, hjk, i1]
      refine ⟨j + 1, ⟨by omega, fun i q hi hq => ?_⟩, by omega, weak_eq (by simp) (by simp)⟩
      rcases Nat.lt_or_eq_of_le (Nat.le_of_lt_succ hq) with h | rfl
      · exact hd i q hi h
      · exact he i hi
  · obtain rfl : k = l.length := by omega
    have hr0 : r = (packC (sortA l), 0) := by rw [← hr]; exact ofC_ok hF hd
    simp [aev, gav, alook, litOf, litAV, mget, mhas, acopy, asrc, adst, cav, look, acallPure, abin, abinN, abinP, abinI, abinS, aun, aconv, afield, afieldAddr, aindexAddr, aindex, aslice, alow, ahigh, abuild, abuildGo, cellsOf, splice, fieldTy, alen, apick, amax, amin, aload, headV, aparts, abuildSlice, elParts, abytesStr, astore, amake, aappend, aclear, anew, arith, aresults, aresList, ares, spec0, spec1, spec2, spec3, spec4, eqCells, eqCell, hlk, sLaid, hl, hr0, Z4]
noncomputable def cmpO (o : Ov) : Col × Int := if voB o = true then ofC (entsO o) else (⟨[], [], [], []⟩, 19)
noncomputable def sCompact : List AV → Option (Prop × AV) := spec1 SmO (fun o => .tup [Enc.enc (cmpO o).1, .int .i64 (cmpO o).2])
noncomputable def CCmp : Ctx := mkC Try.prog G0 [(15, .pure sValO), (32, .pure sEnts), (54, .pure sOf)]
@[simp] theorem CCmp_P : CCmp.P = Try.prog := rfl
@[simp] theorem CCmp_G : CCmp.G = G0 := rfl
@[simp] theorem CCmp_1 : CCmp.S 15 = .pure sValO := rfl
@[simp] theorem CCmp_2 : CCmp.S 32 = .pure sEnts := rfl
@[simp] theorem CCmp_3 : CCmp.S 54 = .pure sOf := rfl
theorem mixCCmp : CCmp.P.follows .mixedOrders = true := mixed
theorem sigCCmp : SigOK CCmp := sigOK_cons (entryPure (validOP) Try.func15 rfl (by decide)) (sigOK_cons (entryPure (entsP) Try.func32 rfl (by decide)) (sigOK_cons (entryPure (ofP) Try.func54 rfl (by decide)) (sigOK_nil _ _)))
noncomputable def CCmq : Ctx := mkC Try.prog G0 [(24, .pure sValO), (43, .pure sEnts), (56, .pure sOf)]
@[simp] theorem CCmq_P : CCmq.P = Try.prog := rfl
@[simp] theorem CCmq_G : CCmq.G = G0 := rfl
@[simp] theorem CCmq_1 : CCmq.S 24 = .pure sValO := rfl
@[simp] theorem CCmq_2 : CCmq.S 43 = .pure sEnts := rfl
@[simp] theorem CCmq_3 : CCmq.S 56 = .pure sOf := rfl
theorem mixCCmq : CCmq.P.follows .mixedOrders = true := mixed
theorem sigCCmq : SigOK CCmq := sigOK_cons (entryPure (validOR) Try.func24 rfl (by decide)) (sigOK_cons (entryPure (entsR) Try.func43 rfl (by decide)) (sigOK_cons (entryPure (ofR) Try.func56 rfl (by decide)) (sigOK_nil _ _)))
set_option maxHeartbeats 4000000 in
theorem compactP : PureOK Try.prog G0 21 sCompact := by
  refine pureH1 (C := CCmp) sigCCmp mixCCmp Try.func21 rfl rfl rfl [] (by kernel_rfl) (by decide) (fun o ho => ?_)
  have hle := sm_ents ho
  have hl := ho.1.l
  by_cases hv : voB o = true
  · have e : cmpO o = ofC (entsO o) := if_pos hv
    have hL : (entsO o).length ≤ 1000000 := by omega
    simp [aev, gav, alook, litOf, litAV, mget, mhas, acopy, asrc, adst, cav, look, acallPure, abin, abinN, abinP, abinI, abinS, aun, aconv, afield, afieldAddr, aindexAddr, aindex, aslice, alow, ahigh, abuild, abuildGo, cellsOf, splice, fieldTy, alen, apick, amax, amin, aload, headV, aparts, abuildSlice, elParts, abytesStr, astore, amake, aappend, aclear, anew, arith, aresults, aresList, ares, spec0, spec1, spec2, spec3, spec4, eqCells, eqCell, sValO, ho.1, hv, sEnts, hl, sOf, hL, e]
  · have e : cmpO o = (⟨[], [], [], []⟩, 19) := if_neg hv
    simp [aev, gav, alook, litOf, litAV, mget, mhas, acopy, asrc, adst, cav, look, acallPure, abin, abinN, abinP, abinI, abinS, aun, aconv, afield, afieldAddr, aindexAddr, aindex, aslice, alow, ahigh, abuild, abuildGo, cellsOf, splice, fieldTy, alen, apick, amax, amin, aload, headV, aparts, abuildSlice, elParts, abytesStr, astore, amake, aappend, aclear, anew, arith, aresults, aresList, ares, spec0, spec1, spec2, spec3, spec4, eqCells, eqCell, sValO, ho.1, hv, e]
set_option maxHeartbeats 4000000 in
theorem compactR : PureOK Try.prog G0 23 sCompact := by
  refine pureH1 (C := CCmq) sigCCmq mixCCmq Try.func23 rfl rfl rfl [] (by kernel_rfl) (by decide) (fun o ho => ?_)
  have hle := sm_ents ho
  have hl := ho.1.l
  by_cases hv : voB o = true
  · have e : cmpO o = ofC (entsO o) := if_pos hv
    have hL : (entsO o).length ≤ 1000000 := by omega
    simp [aev, gav, alook, litOf, litAV, mget, mhas, acopy, asrc, adst, cav, look, acallPure, abin, abinN, abinP, abinI, abinS, aun, aconv, afield, afieldAddr, aindexAddr, aindex, aslice, alow, ahigh, abuild, abuildGo, cellsOf, splice, fieldTy, alen, apick, amax, amin, aload, headV, aparts, abuildSlice, elParts, abytesStr, astore, amake, aappend, aclear, anew, arith, aresults, aresList, ares, spec0, spec1, spec2, spec3, spec4, eqCells, eqCell, sValO, ho.1, hv, sEnts, hl, sOf, hL, e]
  · have e : cmpO o = (⟨[], [], [], []⟩, 19) := if_neg hv
    simp [aev, gav, alook, litOf, litAV, mget, mhas, acopy, asrc, adst, cav, look, acallPure, abin, abinN, abinP, abinI, abinS, aun, aconv, afield, afieldAddr, aindexAddr, aindex, aslice, alow, ahigh, abuild, abuildGo, cellsOf, splice, fieldTy, alen, apick, amax, amin, aload, headV, aparts, abuildSlice, elParts, abytesStr, astore, amake, aappend, aclear, anew, arith, aresults, aresList, ares, spec0, spec1, spec2, spec3, spec4, eqCells, eqCell, sValO, ho.1, hv, e]
end Go.Proofs.Ytkhgjbjkjefeoaa

/-
  overlay: a column laid from sorted entries holds them, in plain words.
-/
namespace Go.Proofs.Ytkhgjbjkjefeoaa
open Go.RowKit
set_option linter.unusedSimpArgs false
set_option linter.unusedVariables false

/-- Where row i ends, when k entries are laid. -/
def nxt (B : List Nat) (k i : Nat) : Nat := if i + 1 < B.length then B.getD (i + 1) 0 else k
structure BegOK (l : List Adj) (B : List Nat) (k : Nat) : Prop where
  lt : ∀ i, i < B.length → B.getD i 0 < nxt B k i
  z : 0 < k → 0 < B.length ∧ B.getD 0 0 = 0
  e : k = 0 → B = []
  f : ∀ i, i < B.length → ∀ j, B.getD i 0 ≤ j → j < nxt B k i → (ix l j).From = (ix l (B.getD i 0)).From
  u : ∀ i, i + 1 < B.length → (ix l (B.getD i 0)).From < (ix l (B.getD (i + 1) 0)).From
theorem getD_snoc {B : List Nat} {k i : Nat} : (B ++ [k]).getD i 0 = if i < B.length then B.getD i 0 else if i = B.length then k else 0 := by
  simp only [List.getD_eq_getElem?_getD]
  rcases Nat.lt_trichotomy i B.length with h | h | h
  · rw [if_pos h, List.getElem?_append_left h]
  · subst h
    rw [if_neg (by omega), if_pos rfl, List.getElem?_append_right (Nat.le_refl _), Nat.sub_self]
    rfl
  · rw [if_neg (by omega), if_neg (by omega), List.getElem?_eq_none (by simp; omega)]
    rfl
theorem up_from {l : List Adj} (h : UpA l) {i j : Nat} (hij : i ≤ j) (hj : j < l.length) : (ix l i).From ≤ (ix l j).From := by
  rcases Nat.lt_or_eq_of_le hij with h1 | rfl
  · have := up_at h h1 hj
    unfold LtA at this
    omega
  · exact Int.le_refl _
theorem beg_ok {l : List Adj} (hu : UpA l) : ∀ k, k ≤ l.length → BegOK l (begL l k) k
  | 0, _ => ⟨fun i hi => by simp [begL] at hi, fun h => by omega, fun _ => rfl, fun i hi => by simp [begL] at hi, fun i hi => by simp [begL] at hi⟩
  | k + 1, hk => by
    have ih := beg_ok hu k (by omega)
    unfold begL
    cases hs : starts l k with
    | true =>
      simp only [if_true]
      generalize begL l k = B at ih ⊢
      have hn : ∀ i, i < B.length → nxt (B ++ [k]) (k + 1) i = nxt B k i := fun i hi => by
        unfold nxt
        rw [getD_snoc, List.length_append, List.length_singleton, if_pos (by omega)]
        by_cases h1 : i + 1 < B.length
        · rw [if_pos h1, if_pos h1]
        · rw [if_neg h1, if_neg h1, if_pos (by omega)]
      have hn2 : nxt (B ++ [k]) (k + 1) B.length = k + 1 := by
        unfold nxt
        rw [List.length_append, List.length_singleton, if_neg (by omega)]
      refine ⟨fun i hi => ?_, fun _ => ?_, fun h => by omega, fun i hi j h1 h2 => ?_, fun i hi => ?_⟩
      · rw [List.length_append, List.length_singleton] at hi
        rw [getD_snoc]
        by_cases h : i < B.length
        · rw [if_pos h, hn i h]; exact ih.lt i h
        · obtain rfl : i = B.length := by omega
          rw [if_neg h, if_pos rfl, hn2]; omega
      · refine ⟨by simp, ?_⟩
        rw [getD_snoc]
        rcases Nat.eq_zero_or_pos k with rfl | h0
        · rw [ih.e rfl]; rfl
        · obtain ⟨z1, z2⟩ := ih.z h0
          rw [if_pos z1]; exact z2
      · rw [List.length_append, List.length_singleton] at hi
        rw [getD_snoc] at h1 ⊢
        by_cases h : i < B.length
        · rw [if_pos h] at h1 ⊢
          rw [hn i h] at h2
          exact ih.f i h j h1 h2
        · obtain rfl : i = B.length := by omega
          rw [if_neg h, if_pos rfl] at h1 ⊢
          rw [hn2] at h2
          obtain rfl : j = k := by omega
          rfl
      · rw [List.length_append, List.length_singleton] at hi
        rw [getD_snoc, getD_snoc, if_pos (by omega)]
        by_cases h : i + 1 < B.length
        · rw [if_pos h]; exact ih.u i h
        · have he : i + 1 = B.length := by omega
          rw [if_neg h, if_pos he]
          have hlt := ih.lt i (by omega)
          have hnx : nxt B k i = k := by unfold nxt; rw [if_neg h]
          have hf := ih.f i (by omega) (k - 1) (by omega) (by omega)
          rw [hnx] at hlt
          rw [← hf]
          unfold starts at hs
          simp only [Bool.or_eq_true, decide_eq_true_eq] at hs
          have h3 := up_from hu (i := k - 1) (j := k) (by omega) (by omega)
          rcases hs with hs | hs
          · omega
          · omega
    | false =>
      simp only [Bool.false_eq_true, if_false]
      generalize begL l k = B at ih ⊢
      unfold starts at hs
      simp only [Bool.or_eq_false_iff, decide_eq_false_iff_not, Decidable.not_not] at hs
      obtain ⟨hk0, hf0⟩ := hs
      obtain ⟨z1, z2⟩ := ih.z (by omega)
      refine ⟨fun i hi => ?_, fun _ => ⟨z1, z2⟩, fun h => by omega, fun i hi j h1 h2 => ?_, ih.u⟩
      · have := ih.lt i hi
        unfold nxt at this ⊢
        split at this
        · rename_i h; rw [if_pos h]; exact this
        · rename_i h; rw [if_neg h]; omega
      · unfold nxt at h2
        by_cases h : i + 1 < B.length
        · rw [if_pos h] at h2
          exact ih.f i hi j h1 (by unfold nxt; rw [if_pos h]; exact h2)
        · rw [if_neg h] at h2
          have hnx : nxt B k i = k := by unfold nxt; rw [if_neg h]
          have hlt := ih.lt i hi
          rw [hnx] at hlt
          by_cases hjk : j < k
          · exact ih.f i hi j h1 (by omega)
          · obtain rfl : j = k := by omega
            rw [hf0]
            exact ih.f i hi (j - 1) (by omega) (by omega)
end Go.Proofs.Ytkhgjbjkjefeoaa

/-
  overlay: laid and read again, in plain words.
-/
namespace Go.Proofs.Ytkhgjbjkjefeoaa
open Go.RowKit
set_option linter.unusedSimpArgs false
set_option linter.unusedVariables false
set_option linter.unusedSectionVars false

theorem take_range {l : List Adj} {s : Nat} : ∀ {d : Nat}, s + d ≤ l.length → l.take s ++ (List.range' s d).map (ix l) = l.take (s + d)
  | 0, _ => by simp
  | d + 1, h => by
    rw [List.range'_concat, List.map_append, ← List.append_assoc, take_range (by omega)]
    have e : l.take (s + d + 1) = l.take (s + d) ++ [ix l (s + d)] := by rw [List.take_succ_eq_append_getElem (by omega), ix_lt (show s + d < l.length by omega)]
    rw [← Nat.add_assoc, e]
    simp
theorem ix_map {α β : Type} [Inhabited α] [Inhabited β] {f : α → β} {l : List α} {i : Nat} (h : i < l.length) : ix (l.map f) i = f (ix l i) := by
  rw [ix_lt (by simpa using h), ix_lt h, List.getElem_map]
theorem nat_ix {B : List Nat} {i : Nat} (h : i < B.length) : ix B i = B.getD i 0 := rfl
section
variable {l : List Adj} (hu : UpA l)
include hu
theorem pack_first (h0 : 0 < l.length) {i : Nat} (hi : i ≤ (begL l l.length).length) : ix (packC l).First i = ((if i < (begL l l.length).length then (begL l l.length).getD i 0 else l.length : Nat) : Int) := by
  have hF : (packC l).First = ((begL l l.length).map fun (i : Nat) => (i : Int)) ++ [(l.length : Int)] := by
    show (if l.length = 0 then [] else _) = _
    rw [if_neg (by omega)]
    rfl
  rw [hF]
  by_cases h : i < (begL l l.length).length
  · rw [if_pos h, ix_lt (by simp; omega), List.getElem_append_left (by simpa using h), List.getElem_map]
    rw [List.getD_eq_getElem?_getD, List.getElem?_eq_getElem h]
    rfl
  · obtain rfl : i = (begL l l.length).length := by omega
    rw [if_neg h, ix_lt (by simp), List.getElem_append_right (by simp)]
    simp
theorem pack_unpI (h0 : 0 < l.length) : ∀ i, i ≤ (begL l l.length).length → unpI (packC l) i = l.take (if i < (begL l l.length).length then (begL l l.length).getD i 0 else l.length)
  | 0, hi => by
    obtain ⟨z1, z2⟩ := (beg_ok hu l.length (Nat.le_refl _)).z h0
    rw [if_pos z1, z2]
    rfl
  | i + 1, hi => by
    have hB := beg_ok hu l.length (Nat.le_refl _)
    have ih := pack_unpI h0 i (by omega)
    have p1 := pack_first hu h0 (i := i) (by omega)
    have p2 := pack_first hu h0 (i := i + 1) hi
    have hil : i < (begL l l.length).length := by omega
    rw [if_pos hil] at ih p1
    have hN : (packC l).Nodes = (begL l l.length).map fun (i : Nat) => (ix l i).From := rfl
    have hT : (packC l).To = l.map (·.To) := by show (l.take l.length).map _ = _; rw [List.take_length]
    have hE : (packC l).Edge = l.map (·.Edge) := by show (l.take l.length).map _ = _; rw [List.take_length]
    have hlt := hB.lt i hil
    have hff := hB.f i hil
    have hnx : nxt (begL l l.length) l.length i = (if i + 1 < (begL l l.length).length then (begL l l.length).getD (i + 1) 0 else l.length) := rfl
    rw [← hnx] at p2 ⊢
    have hle : nxt (begL l l.length) l.length i ≤ l.length := by
      rw [hnx]
      by_cases h : i + 1 < (begL l l.length).length
      · rw [if_pos h]
        have := hB.lt (i + 1) h
        have h2 : nxt (begL l l.length) l.length (i + 1) ≤ l.length ∨ True := .inr trivial
        have key : ∀ j, j < (begL l l.length).length → (begL l l.length).getD j 0 < l.length := by
          intro j hj
          have gen : ∀ k, k ≤ l.length → ∀ j, j < (begL l k).length → (begL l k).getD j 0 < k := by
            intro k hk
            have hb := beg_ok hu k hk
            intro j hj
            have up : ∀ d j, j + d + 1 = (begL l k).length → (begL l k).getD j 0 < k := by
              intro d
              induction d with
              | zero =>
                intro j hj
                have := hb.lt j (by omega)
                unfold nxt at this
                rwa [if_neg (by omega)] at this
              | succ d ihd =>
                intro j hj
                have h1 := hb.lt j (by omega)
                unfold nxt at h1
                rw [if_pos (by omega)] at h1
                have := ihd (j + 1) (by omega)
                omega
            exact up ((begL l k).length - j - 1) j (by omega)
          exact gen l.length (Nat.le_refl _) j hj
        exact Nat.le_of_lt (key _ h)
      · rw [if_neg h]
        exact Nat.le_refl _
    unfold unpI
    rw [ih, p1, p2]
    generalize nxt (begL l l.length) l.length i = e at hlt hff hle ⊢
    have hNi : ix (packC l).Nodes i = (ix l ((begL l l.length).getD i 0)).From := by rw [hN, ix_map hil]; rfl
    generalize (begL l l.length).getD i 0 = s at hlt hff hNi ⊢
    rw [show ((e : Int) - (s : Int)).toNat = e - s by omega, Int.toNat_natCast]
    have hr : rowU (packC l) i s (e - s) = (List.range' s (e - s)).map (ix l) := by
      unfold rowU
      refine List.map_congr_left fun j hj => ?_
      rw [List.mem_range'_1] at hj
      have hjl : j < l.length := by omega
      rw [hNi, hT, hE, ix_map hjl, ix_map hjl, ← hff j hj.1 (by omega)]
    rw [hr, take_range (by omega)]
    congr 1
    omega
theorem unpack_pack : unpackC (packC l) = l := by
  have hN : (packC l).Nodes.length = (begL l l.length).length := List.length_map _
  unfold unpackC
  rw [hN]
  rcases Nat.eq_zero_or_pos l.length with h0 | h0
  · rw [List.length_eq_zero_iff.1 h0]
    rfl
  · rw [pack_unpI hu h0 _ (Nat.le_refl _), if_neg (by omega), List.take_length]
theorem pack_valid (hf : ∀ a ∈ l, FormA a) (hd : DisE l) : ValidC (packC l) := by
  have hN : (packC l).Nodes.length = (begL l l.length).length := List.length_map _
  have hT : (packC l).To.length = l.length := by show ((l.take l.length).map _).length = _; simp
  have hE : (packC l).Edge.length = l.length := by show ((l.take l.length).map _).length = _; simp
  have hB := beg_ok hu l.length (Nat.le_refl _)
  have hup := unpack_pack hu
  refine ⟨?_, ?_, by rw [hup]; exact hf, by rw [hup]; exact hu, by rw [hup]; exact hd⟩
  · rcases Nat.eq_zero_or_pos l.length with h0 | h0
    · have hl : l = [] := List.length_eq_zero_iff.1 h0
      subst hl
      unfold ShapeC
      rw [if_pos (show (packC []).Nodes.length = 0 from rfl)]
      exact ⟨rfl, rfl, .inl rfl⟩
    · obtain ⟨z1, z2⟩ := hB.z h0
      unfold ShapeC
      rw [if_neg (by omega)]
      have hFl : (packC l).First.length = (begL l l.length).length + 1 := by
        show (if l.length = 0 then [] else _).length = _
        rw [if_neg (by omega), List.length_append]
        show ((begL l l.length).map _).length + 1 = _
        rw [List.length_map]
      refine ⟨by rw [hFl, hN], ?_, by rw [hT, hE], ?_, fun i hi => ?_⟩
      · rw [pack_first hu h0 (by omega), if_pos z1, z2]; rfl
      · rw [hN, pack_first hu h0 (Nat.le_refl _), if_neg (by omega), hT]
      · rw [hN] at hi
        rw [pack_first hu h0 (by omega), pack_first hu h0 (by omega), if_pos hi]
        have := hB.lt i hi
        unfold nxt at this
        omega
  · intro i h1 h2
    rw [hN] at h2
    have e : (packC l).Nodes = (begL l l.length).map fun (i : Nat) => (ix l i).From := rfl
    rw [e, ix_map (by omega), ix_map h2]
    have := hB.u (i - 1) (by omega)
    rw [show i - 1 + 1 = i by omega] at this
    exact this
theorem entC_pack (hf : ∀ a ∈ l, FormA a) (hd : DisE l) : entC (packC l) = l := by
  unfold entC
  rw [if_pos (vcB_true.2 (pack_valid hu hf hd)), unpack_pack hu]
end
theorem cmp_valid {o : Ov} (h : ValidO o) : cmpO o = (packC (entsO o), 0) := by
  unfold cmpO
  rw [if_pos (voB_true.2 h), ofC_ok (fun a ha => form_ents h ha) (ents_dis' h)]
  rw [show sortA (entsO o) = entsO o from sortA_eq (.refl _) (ents_up h).le]
theorem cmp_entC {o : Ov} (h : ValidO o) : entC (cmpO o).1 = entsO o := by
  rw [cmp_valid h]
  exact entC_pack (ents_up h) (fun a ha => form_ents h ha) (ents_dis' h)
theorem pack_len {l : List Adj} (h : l.length ≤ 100000) : LenC (packC l) := by
  have hb := begL_le l l.length
  refine ⟨?_, ?_, ?_, ?_⟩
  · show ((begL l l.length).map _).length ≤ _; rw [List.length_map]; omega
  · show (if l.length = 0 then [] else _).length ≤ _
    split
    · simp
    · rw [List.length_append]
      show ((begL l l.length).map _).length + 1 ≤ _
      rw [List.length_map]; omega
  · show ((l.take l.length).map _).length ≤ _; simp; omega
  · show ((l.take l.length).map _).length ≤ _; simp; omega
end Go.Proofs.Ytkhgjbjkjefeoaa


/-
  overlay: the laws of reads, of plays, of rows.
-/
namespace Go.Proofs.Ytkhgjbjkjefeoaa
open Go.RowKit
set_option linter.unusedSimpArgs false
set_option linter.unusedVariables false
set_option maxRecDepth 100000

theorem new_len {c : Col} (h : LenC c) : LenO (newO c).1 := by
  unfold newO
  split
  · exact ⟨h, by simp [ovC, Len], by simp [ovC, Len]⟩
  · exact ovZ_len
theorem cmp_len {o : Ov} (h : SmO o) : LenC (cmpO o).1 := by
  have hle := sm_ents h
  unfold cmpO
  split
  · rename_i hv
    have hvo := voB_true.1 hv
    rw [ofC_ok (fun a ha => form_ents hvo ha) (ents_dis' hvo)]
    refine pack_len ?_
    rw [(sortA_perm _).length_eq]; omega
  · exact ⟨by simp [Len], by simp [Len], by simp [Len], by simp [Len]⟩
theorem row_len (o : Ov) (v : Int) : (rowO o v).length ≤ (liveO o).length := List.length_filter_le _ _
theorem live_sm {o : Ov} (h : SmO o) : (liveO o).length ≤ 10000 := by
  have := sm_ents h
  unfold liveO
  split
  · exact this
  · simp
noncomputable def CRd : Ctx := mkC Try.prog G0 [(8, .pure sFew), (9, .pure sAlive), (21, .pure sCompact), (23, .pure sCompact), (19, .pure sNew), (20, .pure sNew), (15, .pure sValO), (24, .pure sValO), (16, .pure sLive), (25, .pure sLive), (26, .pure sRow), (27, .pure sRow), (17, .pure sAdjs), (28, .pure sCols), (14, .pure sSame)]
@[simp] theorem CRd_P : CRd.P = Try.prog := rfl
@[simp] theorem CRd_G : CRd.G = G0 := rfl
@[simp] theorem CRd_1 : CRd.S 8 = .pure sFew := rfl
@[simp] theorem CRd_2 : CRd.S 9 = .pure sAlive := rfl
@[simp] theorem CRd_3 : CRd.S 21 = .pure sCompact := rfl
@[simp] theorem CRd_4 : CRd.S 23 = .pure sCompact := rfl
@[simp] theorem CRd_5 : CRd.S 19 = .pure sNew := rfl
@[simp] theorem CRd_6 : CRd.S 20 = .pure sNew := rfl
@[simp] theorem CRd_7 : CRd.S 15 = .pure sValO := rfl
@[simp] theorem CRd_8 : CRd.S 24 = .pure sValO := rfl
@[simp] theorem CRd_9 : CRd.S 16 = .pure sLive := rfl
@[simp] theorem CRd_10 : CRd.S 25 = .pure sLive := rfl
@[simp] theorem CRd_11 : CRd.S 26 = .pure sRow := rfl
@[simp] theorem CRd_12 : CRd.S 27 = .pure sRow := rfl
@[simp] theorem CRd_13 : CRd.S 17 = .pure sAdjs := rfl
@[simp] theorem CRd_14 : CRd.S 28 = .pure sCols := rfl
@[simp] theorem CRd_15 : CRd.S 14 = .pure sSame := rfl
theorem mixCRd : CRd.P.follows .mixedOrders = true := mixed
theorem sigCRd : SigOK CRd := sigOK_cons (entryPure (fewP) Try.func8 rfl (by decide)) (sigOK_cons (entryPure (aliveP) Try.func9 rfl (by decide)) (sigOK_cons (entryPure (compactP) Try.func21 rfl (by decide)) (sigOK_cons (entryPure (compactR) Try.func23 rfl (by decide)) (sigOK_cons (entryPure (newP) Try.func19 rfl (by decide)) (sigOK_cons (entryPure (newR) Try.func20 rfl (by decide)) (sigOK_cons (entryPure (validOP) Try.func15 rfl (by decide)) (sigOK_cons (entryPure (validOR) Try.func24 rfl (by decide)) (sigOK_cons (entryPure (liveP) Try.func16 rfl (by decide)) (sigOK_cons (entryPure (liveR) Try.func25 rfl (by decide)) (sigOK_cons (entryPure (rowP) Try.func26 rfl (by decide)) (sigOK_cons (entryPure (rowR) Try.func27 rfl (by decide)) (sigOK_cons (entryPure (adjsR) Try.func17 rfl (by decide)) (sigOK_cons (entryPure (colsR) Try.func28 rfl (by decide)) (sigOK_cons (entryPure (sameR) Try.func14 rfl (by decide)) (sigOK_nil _ _)))))))))))))))
set_option maxHeartbeats 16000000 in
theorem lawReads : PureOK Try.prog G0 6 (spec2 (fun (o : Ov) (_ : Int) => ∀ d ∈ o.Dels, I64 d) fun _ _ => .bool true) := by
  refine pureH2 (C := CRd) sigCRd mixCRd Try.func6 rfl rfl rfl [7] (by kernel_rfl) (by decide) (fun o v hd => ?_)
  by_cases hf : FewO o
  case neg => simp [aev, gav, alook, litOf, litAV, mget, mhas, acopy, asrc, adst, cav, look, acallPure, abin, abinN, abinP, abinI, abinS, aun, aconv, afield, afieldAddr, aindexAddr, aindex, aslice, alow, ahigh, abuild, abuildGo, cellsOf, splice, fieldTy, alen, apick, amax, amin, aload, headV, aparts, abuildSlice, elParts, abytesStr, astore, amake, aappend, aclear, anew, arith, aresults, aresList, ares, spec0, spec1, spec2, spec3, spec4, eqCells, eqCell, sFew, hf, sAlive]
  have hs := few_sm hf hd
  have hc : LenC o.Base := hs.1.l.1
  have l1 := cmp_len hs
  have l2 := new_len hc
  have l3 := live_sm hs
  have l4 : Len (liveO o) := by unfold Len; omega
  have l5 : Len (rowO o v) := by have := row_len o v; unfold Len; omega
  obtain ⟨x, hx⟩ : ∃ x, cmpO o = x := ⟨_, rfl⟩
  obtain ⟨y, hy⟩ : ∃ y, newO o.Base = y := ⟨_, rfl⟩
  rw [hx] at l1
  rw [hy] at l2
  obtain ⟨x, e⟩ := x
  obtain ⟨y, f⟩ := y
  obtain ⟨m1, m2, m3, m4⟩ := l1
  simp [aev, gav, alook, litOf, litAV, mget, mhas, acopy, asrc, adst, cav, look, acallPure, abin, abinN, abinP, abinI, abinS, aun, aconv, afield, afieldAddr, aindexAddr, aindex, aslice, alow, ahigh, abuild, abuildGo, cellsOf, splice, fieldTy, alen, apick, amax, amin, aload, headV, aparts, abuildSlice, elParts, abytesStr, astore, amake, aappend, aclear, anew, arith, aresults, aresList, ares, spec0, spec1, spec2, spec3, spec4, eqCells, eqCell, sFew, hf, sCompact, hs, hx, sNew, hc, hy]
  refine AW_regionF sigCRd mixCRd [.read, .read, .read, .read, .pure, .pure, .read, .read, .read, .read, .read, .pure, .pure, .read, .pure, .read, .read, .pure, .read, .read, .pure, .pure, .read, .read, .read, .pure, .pure, .pure, .pure, .pure, .pure, .pure, .read, .read, .read, .pure, .pure, .pure, .pure, .pure, .pure, .pure, .read, .pure, .pure] [[],[0],[],[0,1,2],[2,3,0,1],[1,0,3,2,4],[4,2,3,0,1,5],[5,1,0,3,2,4,6],[4,2,3,0,1,5],[6,7,5,1,0,3,2,4,8],[8,9,6,4,2,3,0,1,5,7],[7,6,9,8,10,4,2,3,0,1,5],[5,1,0,3,2,4,10,8,9,6,7,11],[11,7,6,9,8,10,4,2,3,0,1,5,12],[11,7,6,9,8,10,4,2,3,0,1,5,12],[14,12,5,1,0,3,2,4,10,8,9,6,7,11,13],[11,7,6,9,8,10,4,2,3,0,1,5,12],[11,7,6,9,8,10,4,2,3,0,1,5,12],[13,14,15,17,12,5,1,0,3,2,4,10,8,9,6,7,11,16],[16,17,18,13,11,7,6,9,8,10,4,2,3,0,1,5,12,14,15],[15,14,13,18,17,16,19,11,7,6,9,8,10,4,2,3,0,1,5,12],[12,5,1,0,3,2,4,10,8,9,6,7,11,19,16,17,18,13,14,15,20],[20,15,14,13,18,17,16,19,11,7,6,9,8,10,4,2,3,0,1,5,12,21],[20,15,14,13,18,17,16,19,11,7,6,9,8,10,4,2,3,0,1,5,12,21],[23,21,12,5,1,0,3,2,4,10,8,9,6,7,11,19,16,17,18,13,14,15,20,22],[22,23,24,20,15,14,13,18,17,16,19,11,7,6,9,8,10,4,2,3,0,1,5,12,21],[21,12,5,1,0,3,2,4,10,8,9,6,7,11,19,16,17,18,13,14,15,20,24,23,22,25],[25,22,23,24,20,15,14,13,18,17,16,19,11,7,6,9,8,10,4,2,3,0,1,5,12,21,26],[25,22,23,24,20,15,14,13,18,17,16,19,11,7,6,9,8,10,4,2,3,0,1,5,12,21,26],[28,26,21,12,5,1,0,3,2,4,10,8,9,6,7,11,19,16,17,18,13,14,15,20,24,23,22,25,27],[27,28,29,25,22,23,24,20,15,14,13,18,17,16,19,11,7,6,9,8,10,4,2,3,0,1,5,12,21,26],[26,21,12,5,1,0,3,2,4,10,8,9,6,7,11,19,16,17,18,13,14,15,20,24,23,22,25,29,28,27,30],[30,27,28,29,25,22,23,24,20,15,14,13,18,17,16,19,11,7,6,9,8,10,4,2,3,0,1,5,12,21,26,31],[30,27,28,29,25,22,23,24,20,15,14,13,18,17,16,19,11,7,6,9,8,10,4,2,3,0,1,5,12,21,26,31],[33,31,26,21,12,5,1,0,3,2,4,10,8,9,6,7,11,19,16,17,18,13,14,15,20,24,23,22,25,29,28,27,30,32],[32,33,34,30,27,28,29,25,22,23,24,20,15,14,13,18,17,16,19,11,7,6,9,8,10,4,2,3,0,1,5,12,21,26,31],[31,26,21,12,5,1,0,3,2,4,10,8,9,6,7,11,19,16,17,18,13,14,15,20,24,23,22,25,29,28,27,30,34,33,32,35],[35,32,33,34,30,27,28,29,25,22,23,24,20,15,14,13,18,17,16,19,11,7,6,9,8,10,4,2,3,0,1,5,12,21,26,31,36],[35,32,33,34,30,27,28,29,25,22,23,24,20,15,14,13,18,17,16,19,11,7,6,9,8,10,4,2,3,0,1,5,12,21,26,31,36],[38,36,31,26,21,12,5,1,0,3,2,4,10,8,9,6,7,11,19,16,17,18,13,14,15,20,24,23,22,25,29,28,27,30,34,33,32,35,37],[37,38,39,35,32,33,34,30,27,28,29,25,22,23,24,20,15,14,13,18,17,16,19,11,7,6,9,8,10,4,2,3,0,1,5,12,21,26,31,36],[36,31,26,21,12,5,1,0,3,2,4,10,8,9,6,7,11,19,16,17,18,13,14,15,20,24,23,22,25,29,28,27,30,34,33,32,35,39,38,37,40],[40,37,38,39,35,32,33,34,30,27,28,29,25,22,23,24,20,15,14,13,18,17,16,19,11,7,6,9,8,10,4,2,3,0,1,5,12,21,26,31,36,41],[42,40,37,38,39,35,32,33,34,30,27,28,29,25,22,23,24,20,15,14,13,18,17,16,19,11,7,6,9,8,10,4,2,3,0,1,5,12,21,26,31,36,41],[41,36,31,26,21,12,5,1,0,3,2,4,10,8,9,6,7,11,19,16,17,18,13,14,15,20,24,23,22,25,29,28,27,30,34,33,32,35,39,38,37,40,42,43]] (by kernel_rfl) (by kernel_rfl) (by kernel_rfl) (by kernel_rfl) ?_
  simp [aev, gav, alook, litOf, litAV, mget, mhas, acopy, asrc, adst, cav, look, acallPure, abin, abinN, abinP, abinI, abinS, aun, aconv, afield, afieldAddr, aindexAddr, aindex, aslice, alow, ahigh, abuild, abuildGo, cellsOf, splice, fieldTy, alen, apick, amax, amin, aload, headV, aparts, abuildSlice, elParts, abytesStr, astore, amake, aappend, aclear, anew, arith, aresults, aresList, ares, spec0, spec1, spec2, spec3, spec4, eqCells, eqCell, sValO, hs.1, sLive, sRow, sAdjs, l4, l5, sCols, m1, m2, m3, m4, sSame, l2, sAlive]
theorem del_ok {o : Ov} (h : ValidO o) {v : Int} (h0 : (delO o v).2 = 0) : HasE (entsO o) v := by
  unfold delO at h0
  rw [if_neg (by rw [voB_true.2 h]; decide)] at h0
  refine Classical.byContradiction fun hn => ?_
  rw [if_pos hn] at h0
  cases h0
structure PlSt where
  k : Nat
  o : Ov
  Z : List Blk
theorem new_ok {c : Col} (h0 : (newO c).2 = 0) : (newO c).1 = ovC c ∧ ValidO (ovC c) := by
  unfold newO at h0 ⊢
  split at h0
  · rename_i hv
    rw [if_pos hv]
    have hk : entsO (ovC c) = entC c := by
      rw [← ents_fold]
      show keptO (ovC c) = _
      unfold keptO
      rw [List.filter_eq_self.2 fun x _ => by simp [ovC]]
      rfl
    refine ⟨rfl, validO_iff.2 ⟨vcB_true.1 hv, ⟨fun i hi => by simp [ovC] at hi, fun i _ hi => by simp [ovC] at hi⟩, ⟨fun i _ hi => by simp [ovC] at hi, fun i hi => by simp [ovC] at hi⟩, ?_⟩⟩
    rw [hk]
    exact (entC_up c).2
  · cases h0
noncomputable def CPl : Ctx := mkC Try.prog G0 [(8, .pure sFew), (9, .pure sAlive), (19, .pure sNew), (20, .pure sNew), (10, .pure sIns), (11, .pure sIns), (12, .pure sDel), (13, .pure sDel), (21, .pure sCompact), (14, .pure sSame), (22, .pure sEntC), (16, .pure sLive), (17, .pure sAdjs)]
@[simp] theorem CPl_P : CPl.P = Try.prog := rfl
@[simp] theorem CPl_G : CPl.G = G0 := rfl
@[simp] theorem CPl_1 : CPl.S 8 = .pure sFew := rfl
@[simp] theorem CPl_2 : CPl.S 9 = .pure sAlive := rfl
@[simp] theorem CPl_3 : CPl.S 19 = .pure sNew := rfl
@[simp] theorem CPl_4 : CPl.S 20 = .pure sNew := rfl
@[simp] theorem CPl_5 : CPl.S 10 = .pure sIns := rfl
@[simp] theorem CPl_6 : CPl.S 11 = .pure sIns := rfl
@[simp] theorem CPl_7 : CPl.S 12 = .pure sDel := rfl
@[simp] theorem CPl_8 : CPl.S 13 = .pure sDel := rfl
@[simp] theorem CPl_9 : CPl.S 21 = .pure sCompact := rfl
@[simp] theorem CPl_10 : CPl.S 14 = .pure sSame := rfl
@[simp] theorem CPl_11 : CPl.S 22 = .pure sEntC := rfl
@[simp] theorem CPl_12 : CPl.S 16 = .pure sLive := rfl
@[simp] theorem CPl_13 : CPl.S 17 = .pure sAdjs := rfl
theorem mixCPl : CPl.P.follows .mixedOrders = true := mixed
theorem sigCPl : SigOK CPl := sigOK_cons (entryPure (fewP) Try.func8 rfl (by decide)) (sigOK_cons (entryPure (aliveP) Try.func9 rfl (by decide)) (sigOK_cons (entryPure (newP) Try.func19 rfl (by decide)) (sigOK_cons (entryPure (newR) Try.func20 rfl (by decide)) (sigOK_cons (entryPure (insPO) Try.func10 rfl (by decide)) (sigOK_cons (entryPure (insR) Try.func11 rfl (by decide)) (sigOK_cons (entryPure (delPO) Try.func12 rfl (by decide)) (sigOK_cons (entryPure (delR) Try.func13 rfl (by decide)) (sigOK_cons (entryPure (compactP) Try.func21 rfl (by decide)) (sigOK_cons (entryPure (sameR) Try.func14 rfl (by decide)) (sigOK_cons (entryPure (entCR) Try.func22 rfl (by decide)) (sigOK_cons (entryPure (liveP) Try.func16 rfl (by decide)) (sigOK_cons (entryPure (adjsR) Try.func17 rfl (by decide)) (sigOK_nil _ _)))))))))))))
set_option maxHeartbeats 32000000 in
theorem lawPlays : PureOK Try.prog G0 5 (spec2 (fun (_ : Col) (l : List Act) => WfL WfAct l) fun _ _ => .bool true) := by
  refine pureH2 (C := CPl) sigCPl mixCPl Try.func5 rfl rfl rfl [12, 13, 15, 16, 23] (by kernel_rfl) (by decide) (fun c acts hw => ?_)
  have hwa : ∀ j, j < acts.length → WfAct (ix acts j) := fun j hj => hw.2 _ (ix_mem hj)
  by_cases hf : FewO (ovC c)
  case neg =>
    have hf' : ¬ FewO ⟨c, [], []⟩ := hf
    simp [aev, gav, alook, litOf, litAV, mget, mhas, acopy, asrc, adst, cav, look, acallPure, abin, abinN, abinP, abinI, abinS, aun, aconv, afield, afieldAddr, aindexAddr, aindex, aslice, alow, ahigh, abuild, abuildGo, cellsOf, splice, fieldTy, alen, apick, amax, amin, aload, headV, aparts, abuildSlice, elParts, abytesStr, astore, amake, aappend, aclear, anew, arith, aresults, aresList, ares, spec0, spec1, spec2, spec3, spec4, eqCells, eqCell, sFew, hf', sAlive]
  have hf' : FewO ⟨c, [], []⟩ := hf
  by_cases hn : (40 : Int) < acts.length
  case pos => simp [aev, gav, alook, litOf, litAV, mget, mhas, acopy, asrc, adst, cav, look, acallPure, abin, abinN, abinP, abinI, abinS, aun, aconv, afield, afieldAddr, aindexAddr, aindex, aslice, alow, ahigh, abuild, abuildGo, cellsOf, splice, fieldTy, alen, apick, amax, amin, aload, headV, aparts, abuildSlice, elParts, abytesStr, astore, amake, aappend, aclear, anew, arith, aresults, aresList, ares, spec0, spec1, spec2, spec3, spec4, eqCells, eqCell, sFew, hf', hn, sAlive]
  have hb := few_smB hf (by simp [ovC])
  have hc : LenC c := hb.1.l.1
  obtain ⟨p, hp⟩ : ∃ p, newO c = p := ⟨_, rfl⟩
  have h1 := new_ok (c := c)
  rw [hp] at h1
  obtain ⟨o, e⟩ := p
  simp [aev, gav, alook, litOf, litAV, mget, mhas, acopy, asrc, adst, cav, look, acallPure, abin, abinN, abinP, abinI, abinS, aun, aconv, afield, afieldAddr, aindexAddr, aindex, aslice, alow, ahigh, abuild, abuildGo, cellsOf, splice, fieldTy, alen, apick, amax, amin, aload, headV, aparts, abuildSlice, elParts, abytesStr, astore, amake, aappend, aclear, anew, arith, aresults, aresList, ares, spec0, spec1, spec2, spec3, spec4, eqCells, eqCell, sFew, hf', hn, sNew, hc, hp]
  by_cases he : e = 0
  case neg => simp [aev, gav, alook, litOf, litAV, mget, mhas, acopy, asrc, adst, cav, look, acallPure, abin, abinN, abinP, abinI, abinS, aun, aconv, afield, afieldAddr, aindexAddr, aindex, aslice, alow, ahigh, abuild, abuildGo, cellsOf, splice, fieldTy, alen, apick, amax, amin, aload, headV, aparts, abuildSlice, elParts, abytesStr, astore, amake, aappend, aclear, anew, arith, aresults, aresList, ares, spec0, spec1, spec2, spec3, spec4, eqCells, eqCell, he, sAlive]
  obtain ⟨ho, hv⟩ := h1 he
  simp only at ho
  rw [← ho] at hb hv
  simp [aev, gav, alook, litOf, litAV, mget, mhas, acopy, asrc, adst, cav, look, acallPure, abin, abinN, abinP, abinI, abinS, aun, aconv, afield, afieldAddr, aindexAddr, aindex, aslice, alow, ahigh, abuild, abuildGo, cellsOf, splice, fieldTy, alen, apick, amax, amin, aload, headV, aparts, abuildSlice, elParts, abytesStr, astore, amake, aappend, aclear, anew, arith, aresults, aresList, ares, spec0, spec1, spec2, spec3, spec4, eqCells, eqCell, he]
  refine loop_ruleH (C := CPl) sigCPl mixCPl [12, 13, 15, 16, 23] (fun q : PlSt => ⟨[(1, Enc.enc acts), (2, .ptr 0 1 4 0 0), (5, .ptr 1 1 6 0 0), (7, .ptr 2 1 6 0 0), (9, .int .i64 q.k)], [CB c, OB q.o, OB q.o] ++ q.Z⟩) (fun q => q.k ≤ acts.length ∧ SmB (900 - q.k) q.o ∧ ValidO q.o) (fun q => acts.length - q.k) (by kernel_rfl) ⟨⟨0, o, []⟩, ⟨by simp, hb, hv⟩, weak_eq (by simp) (by simp [CB, OB])⟩ (fun ⟨k, o, Z⟩ ⟨hk, hb, hv⟩ => ?_)
  simp only at hk hb hv ⊢
  by_cases hlt : k < acts.length
  · have i1 : I64 ((k : Int) + 1) := by unfold I64; omega
    have hwk := hwa k hlt
    obtain ⟨x, hx⟩ : ∃ x, ix acts k = x := ⟨_, rfl⟩
    rw [hx] at hwk
    obtain ⟨off, a⟩ := x
    have hie : I64 a.Edge := hwk.2.2
    have hs := hb.sm
    have hb1 : SmB (900 - (k + 1) + 1) o := by have : 900 - (k + 1) + 1 = 900 - k := by omega
                                               rw [this]; exact hb
    obtain ⟨p, hp1⟩ : ∃ p, insO o a = p := ⟨_, rfl⟩
    have hbi := ins_smB (a := a) hb1
    have hvi : p.2 = 0 → ValidO p.1 := fun h => by
      rw [← hp1] at h ⊢
      obtain ⟨g1, g2⟩ := ins_ok hv h
      exact (ins_spec hv g1 g2).2.1
    rw [hp1] at hbi
    obtain ⟨x, g⟩ := p
    simp only at hbi hvi
    simp [aev, gav, alook, litOf, litAV, mget, mhas, acopy, asrc, adst, cav, look, acallPure, abin, abinN, abinP, abinI, abinS, aun, aconv, afield, afieldAddr, aindexAddr, aindex, aslice, alow, ahigh, abuild, abuildGo, cellsOf, splice, fieldTy, alen, apick, amax, amin, aload, headV, aparts, abuildSlice, elParts, abytesStr, astore, amake, aappend, aclear, anew, arith, aresults, aresList, ares, spec0, spec1, spec2, spec3, spec4, eqCells, eqCell, CB, OB, hlt]
    refine AW_regionF sigCPl mixCPl [.read, .pure, .pure, .pure, .pure, .read, .read, .pure, .pure, .pure, .eff, .eff, .pure] [[],[],[],[2,1],[1,2,3],[3,2,1,4],[4,1,2,3,5,0],[0,5,3,2,1,4,6],[6,4,1,2,3,5,0,7],[6,4,1,2,3,5,0,7],[],[7,0,5,3,2,1,4,6,8,10],[10,8,11,7,0,5,3,2,1,4,6,9]] (by kernel_rfl) (by kernel_rfl) (by kernel_rfl) (by kernel_rfl) ?_
    simp [aev, gav, alook, litOf, litAV, mget, mhas, acopy, asrc, adst, cav, look, acallPure, abin, abinN, abinP, abinI, abinS, aun, aconv, afield, afieldAddr, aindexAddr, aindex, aslice, alow, ahigh, abuild, abuildGo, cellsOf, splice, fieldTy, alen, apick, amax, amin, aload, headV, aparts, abuildSlice, elParts, abytesStr, astore, amake, aappend, aclear, anew, arith, aresults, aresList, ares, spec0, spec1, spec2, spec3, spec4, eqCells, eqCell, hlt, rowAt_enc hlt, hx, sIns, hs, hp1]
    refine AW_regionF sigCPl mixCPl [.read, .pure, .pure, .pure, .pure, .read, .read, .pure, .pure, .pure, .eff, .eff, .pure] [[],[],[],[2,1],[1,2,3],[3,2,1,4],[4,1,2,3,5,0],[0,5,3,2,1,4,6],[6,4,1,2,3,5,0,7],[6,4,1,2,3,5,0,7],[],[7,0,5,3,2,1,4,6,8,10],[10,8,11,7,0,5,3,2,1,4,6,9]] (by kernel_rfl) (by kernel_rfl) (by kernel_rfl) (by kernel_rfl) ?_
    simp [aev, gav, alook, litOf, litAV, mget, mhas, acopy, asrc, adst, cav, look, acallPure, abin, abinN, abinP, abinI, abinS, aun, aconv, afield, afieldAddr, aindexAddr, aindex, aslice, alow, ahigh, abuild, abuildGo, cellsOf, splice, fieldTy, alen, apick, amax, amin, aload, headV, aparts, abuildSlice, elParts, abytesStr, astore, amake, aappend, aclear, anew, arith, aresults, aresList, ares, spec0, spec1, spec2, spec3, spec4, eqCells, eqCell, hlt, rowAt_enc hlt, hx, sIns, hs, hp1]
    cases off with
    | false =>
      simp [aev, gav, alook, litOf, litAV, mget, mhas, acopy, asrc, adst, cav, look, acallPure, abin, abinN, abinP, abinI, abinS, aun, aconv, afield, afieldAddr, aindexAddr, aindex, aslice, alow, ahigh, abuild, abuildGo, cellsOf, splice, fieldTy, alen, apick, amax, amin, aload, headV, aparts, abuildSlice, elParts, abytesStr, astore, amake, aappend, aclear, anew, arith, aresults, aresList, ares, spec0, spec1, spec2, spec3, spec4, eqCells, eqCell]
      by_cases hg : g = 0
      · have hvx := hvi hg
        simp [aev, gav, alook, litOf, litAV, mget, mhas, acopy, asrc, adst, cav, look, acallPure, abin, abinN, abinP, abinI, abinS, aun, aconv, afield, afieldAddr, aindexAddr, aindex, aslice, alow, ahigh, abuild, abuildGo, cellsOf, splice, fieldTy, alen, apick, amax, amin, aload, headV, aparts, abuildSlice, elParts, abytesStr, astore, amake, aappend, aclear, anew, arith, aresults, aresList, ares, spec0, spec1, spec2, spec3, spec4, eqCells, eqCell, hg, i1]
        exact ⟨⟨k + 1, x, _⟩, ⟨by simp only; omega, hbi, hvx⟩, by simp only; omega, weak_eq (by simp) rfl⟩
      · simp [aev, gav, alook, litOf, litAV, mget, mhas, acopy, asrc, adst, cav, look, acallPure, abin, abinN, abinP, abinI, abinS, aun, aconv, afield, afieldAddr, aindexAddr, aindex, aslice, alow, ahigh, abuild, abuildGo, cellsOf, splice, fieldTy, alen, apick, amax, amin, aload, headV, aparts, abuildSlice, elParts, abytesStr, astore, amake, aappend, aclear, anew, arith, aresults, aresList, ares, spec0, spec1, spec2, spec3, spec4, eqCells, eqCell, hg, i1]
        exact ⟨⟨k + 1, o, _⟩, ⟨by simp only; omega, by simp only; exact ⟨hb.1, hb.2.1, by have := hb.2.2.1; omega, by have := hb.2.2.2; omega⟩, hv⟩, by simp only; omega, weak_eq (by simp) rfl⟩
    | true =>
      obtain ⟨q, hq1⟩ : ∃ q, delO o a.Edge = q := ⟨_, rfl⟩
      have hbd := del_smB hie hb1
      have hvd : q.2 = 0 → ValidO q.1 := fun h => by
        rw [← hq1] at h ⊢
        exact (del_spec hv (del_ok hv h)).2.1
      rw [hq1] at hbd
      obtain ⟨y, g'⟩ := q
      simp only at hbd hvd
      simp [aev, gav, alook, litOf, litAV, mget, mhas, acopy, asrc, adst, cav, look, acallPure, abin, abinN, abinP, abinI, abinS, aun, aconv, afield, afieldAddr, aindexAddr, aindex, aslice, alow, ahigh, abuild, abuildGo, cellsOf, splice, fieldTy, alen, apick, amax, amin, aload, headV, aparts, abuildSlice, elParts, abytesStr, astore, amake, aappend, aclear, anew, arith, aresults, aresList, ares, spec0, spec1, spec2, spec3, spec4, eqCells, eqCell]
      refine AW_regionF sigCPl mixCPl [.read, .pure, .pure, .pure, .pure, .pure, .read, .read, .pure, .pure, .pure, .eff, .pure] [[],[],[],[2,1],[1,2,3],[3,2,1,4],[4,1,2,3,5],[5,3,2,1,4,6,0],[0,6,4,1,2,3,5,7],[7,5,3,2,1,4,6,0,8],[7,5,3,2,1,4,6,0,8],[8,0,6,4,1,2,3,5,7,9],[9,11,8,0,6,4,1,2,3,5,7,10]] (by kernel_rfl) (by kernel_rfl) (by kernel_rfl) (by kernel_rfl) ?_
      simp [aev, gav, alook, litOf, litAV, mget, mhas, acopy, asrc, adst, cav, look, acallPure, abin, abinN, abinP, abinI, abinS, aun, aconv, afield, afieldAddr, aindexAddr, aindex, aslice, alow, ahigh, abuild, abuildGo, cellsOf, splice, fieldTy, alen, apick, amax, amin, aload, headV, aparts, abuildSlice, elParts, abytesStr, astore, amake, aappend, aclear, anew, arith, aresults, aresList, ares, spec0, spec1, spec2, spec3, spec4, eqCells, eqCell, hlt, rowAt_enc hlt, hx, sDel, hs, hq1]
      refine AW_regionF sigCPl mixCPl [.read, .pure, .pure, .pure, .pure, .pure, .read, .read, .pure, .pure, .pure, .eff, .pure] [[],[],[],[2,1],[1,2,3],[3,2,1,4],[4,1,2,3,5],[5,3,2,1,4,6,0],[0,6,4,1,2,3,5,7],[7,5,3,2,1,4,6,0,8],[7,5,3,2,1,4,6,0,8],[8,0,6,4,1,2,3,5,7,9],[9,11,8,0,6,4,1,2,3,5,7,10]] (by kernel_rfl) (by kernel_rfl) (by kernel_rfl) (by kernel_rfl) ?_
      simp [aev, gav, alook, litOf, litAV, mget, mhas, acopy, asrc, adst, cav, look, acallPure, abin, abinN, abinP, abinI, abinS, aun, aconv, afield, afieldAddr, aindexAddr, aindex, aslice, alow, ahigh, abuild, abuildGo, cellsOf, splice, fieldTy, alen, apick, amax, amin, aload, headV, aparts, abuildSlice, elParts, abytesStr, astore, amake, aappend, aclear, anew, arith, aresults, aresList, ares, spec0, spec1, spec2, spec3, spec4, eqCells, eqCell, hlt, rowAt_enc hlt, hx, sDel, hs, hq1]
      by_cases hg : g' = 0
      · have hvy := hvd hg
        simp [aev, gav, alook, litOf, litAV, mget, mhas, acopy, asrc, adst, cav, look, acallPure, abin, abinN, abinP, abinI, abinS, aun, aconv, afield, afieldAddr, aindexAddr, aindex, aslice, alow, ahigh, abuild, abuildGo, cellsOf, splice, fieldTy, alen, apick, amax, amin, aload, headV, aparts, abuildSlice, elParts, abytesStr, astore, amake, aappend, aclear, anew, arith, aresults, aresList, ares, spec0, spec1, spec2, spec3, spec4, eqCells, eqCell, hg, i1]
        exact ⟨⟨k + 1, y, _⟩, ⟨by simp only; omega, hbd, hvy⟩, by simp only; omega, weak_eq (by simp) rfl⟩
      · simp [aev, gav, alook, litOf, litAV, mget, mhas, acopy, asrc, adst, cav, look, acallPure, abin, abinN, abinP, abinI, abinS, aun, aconv, afield, afieldAddr, aindexAddr, aindex, aslice, alow, ahigh, abuild, abuildGo, cellsOf, splice, fieldTy, alen, apick, amax, amin, aload, headV, aparts, abuildSlice, elParts, abytesStr, astore, amake, aappend, aclear, anew, arith, aresults, aresList, ares, spec0, spec1, spec2, spec3, spec4, eqCells, eqCell, hg, i1]
        exact ⟨⟨k + 1, o, _⟩, ⟨by simp only; omega, by simp only; exact ⟨hb.1, hb.2.1, by have := hb.2.2.1; omega, by have := hb.2.2.2; omega⟩, hv⟩, by simp only; omega, weak_eq (by simp) rfl⟩
  · obtain rfl : k = acts.length := by omega
    have hs := hb.sm
    have hcv := cmp_valid hv
    have hce := cmp_entC hv
    have l1 := cmp_len hs
    rw [hcv] at hce l1
    have hle := sm_ents hs
    have hL : Len (entsO o) := by unfold Len; omega
    have hlv := live_of hv
    simp [aev, gav, alook, litOf, litAV, mget, mhas, acopy, asrc, adst, cav, look, acallPure, abin, abinN, abinP, abinI, abinS, aun, aconv, afield, afieldAddr, aindexAddr, aindex, aslice, alow, ahigh, abuild, abuildGo, cellsOf, splice, fieldTy, alen, apick, amax, amin, aload, headV, aparts, abuildSlice, elParts, abytesStr, astore, amake, aappend, aclear, anew, arith, aresults, aresList, ares, spec0, spec1, spec2, spec3, spec4, eqCells, eqCell, CB, OB, hlt, sCompact, hs, hcv]
    refine AW_regionF sigCPl mixCPl [.read, .read, .read, .pure, .pure, .pure, .pure, .pure, .read, .read, .read, .read, .read, .pure, .pure, .read, .pure, .pure] [[],[],[1,0],[0,1,2],[2,1,0,3],[3,0,1,2,4],[4,5,2,1,0,3],[3,0,1,2,5,4,6],[6,4,5,2,1,0,3,7],[7,3,0,1,2,5,4,6,8],[6,4,5,2,1,0,3,7],[8,9,7,3,0,1,2,5,4,6,10],[10,11,8,6,4,5,2,1,0,3,7,9],[9,8,11,10,12,6,4,5,2,1,0,3,7],[7,3,0,1,2,5,4,6,12,10,11,8,9,13],[13,9,8,11,10,12,6,4,5,2,1,0,3,7,14],[15,13,9,8,11,10,12,6,4,5,2,1,0,3,7,14],[14,7,3,0,1,2,5,4,6,12,10,11,8,9,13,15,16]] (by kernel_rfl) (by kernel_rfl) (by kernel_rfl) (by kernel_rfl) ?_
    simp [aev, gav, alook, litOf, litAV, mget, mhas, acopy, asrc, adst, cav, look, acallPure, abin, abinN, abinP, abinI, abinS, aun, aconv, afield, afieldAddr, aindexAddr, aindex, aslice, alow, ahigh, abuild, abuildGo, cellsOf, splice, fieldTy, alen, apick, amax, amin, aload, headV, aparts, abuildSlice, elParts, abytesStr, astore, amake, aappend, aclear, anew, arith, aresults, aresList, ares, spec0, spec1, spec2, spec3, spec4, eqCells, eqCell, sSame, hs.1.l, sEntC, l1, hce, sLive, hs.1, hlv, sAdjs, hL, sAlive]
end Go.Proofs.Ytkhgjbjkjefeoaa


/-
  overlay: the law of rows.
-/
namespace Go.Proofs.Ytkhgjbjkjefeoaa
open Go.RowKit
set_option linter.unusedSimpArgs false
set_option linter.unusedVariables false
set_option maxRecDepth 100000

/-- The rows of the nodes up to that of entry k - 1. -/
def upTo (f : Int) (a : Adj) : Bool := decide (a.From ≤ f)
def accL (l : List Adj) (k : Nat) : List Adj := if k = 0 then [] else l.filter (upTo (ix l (k - 1)).From)
theorem filter_split {f1 f2 : Int} (hf : f1 < f2) : ∀ {l : List Adj}, l.Pairwise (fun a b => a.From ≤ b.From) → (∀ x ∈ l, x.From ≤ f1 ∨ f2 ≤ x.From) → l.filter (upTo f1) ++ l.filter (fromP f2) = l.filter (upTo f2)
  | [], _, _ => rfl
  | x :: r, hp, ha => by
    rw [List.pairwise_cons] at hp
    have ih := filter_split hf hp.2 fun y hy => ha y (List.mem_cons_of_mem _ hy)
    rw [List.filter_cons, List.filter_cons, List.filter_cons]
    rcases ha x List.mem_cons_self with h | h
    · have e1 : upTo f1 x = true := by unfold upTo; simpa using h
      have e2 : fromP f2 x = false := by unfold fromP; simp; omega
      have e3 : upTo f2 x = true := by unfold upTo; simp; omega
      rw [e1, e2, e3]
      simp [ih]
    · have e1 : upTo f1 x = false := by unfold upTo; simp; omega
      have n1 : r.filter (upTo f1) = [] := List.filter_eq_nil_iff.2 fun y hy => by
        have := hp.1 y hy
        unfold upTo; simp; omega
      rw [n1] at ih
      rw [e1, n1]
      simp only [Bool.false_eq_true, if_false, List.nil_append] at ih ⊢
      by_cases hx : x.From = f2
      · have e2 : fromP f2 x = true := by unfold fromP; simp [hx]
        have e3 : upTo f2 x = true := by unfold upTo; simp; omega
        rw [e2, e3]
        simp [ih]
      · have e2 : fromP f2 x = false := by unfold fromP; simp [hx]
        have e3 : upTo f2 x = false := by unfold upTo; simp; omega
        rw [e2, e3]
        simp [ih]
theorem up_pair {l : List Adj} (h : UpA l) : l.Pairwise (fun a b => a.From ≤ b.From) := (up_iff.1 h).imp fun hab => by unfold LtA at hab; omega
theorem acc_succ {l : List Adj} (h : UpA l) {k : Nat} (hk : k < l.length) : accL l (k + 1) = if starts l k then accL l k ++ l.filter (fromP (ix l k).From) else accL l k := by
  have e1 : accL l (k + 1) = l.filter (upTo (ix l k).From) := rfl
  rw [e1]
  by_cases h0 : k = 0
  · subst h0
    have hs : starts l 0 = true := rfl
    rw [hs]
    show _ = [] ++ _
    rw [List.nil_append]
    refine List.filter_congr fun x hx => ?_
    obtain ⟨j, hj, rfl⟩ := mem_ix hx
    have := up_from h (i := 0) (j := j) (by omega) hj
    unfold upTo fromP
    rw [decide_eq_decide]
    omega
  · have e2 : accL l k = l.filter (upTo (ix l (k - 1)).From) := by unfold accL; rw [if_neg h0]
    rw [e2]
    have hm := up_from h (i := k - 1) (j := k) (by omega) hk
    by_cases hf : (ix l k).From = (ix l (k - 1)).From
    · have hs : starts l k = false := by unfold starts; simp [h0, hf]
      rw [hs, hf]; rfl
    · have hs : starts l k = true := by unfold starts; simp [h0, hf]
      rw [hs]
      refine (filter_split (by omega) (up_pair h) fun x hx => ?_).symm
      obtain ⟨j, hj, rfl⟩ := mem_ix hx
      rcases Nat.lt_or_ge j k with h1 | h1
      · exact .inl (up_from h (by omega) (by omega))
      · exact .inr (up_from h h1 hj)
theorem acc_end {l : List Adj} (h : UpA l) : accL l l.length = l := by
  unfold accL
  split
  · rename_i h0; exact (List.length_eq_zero_iff.1 h0).symm
  · refine List.filter_eq_self.2 fun x hx => ?_
    obtain ⟨j, hj, rfl⟩ := mem_ix hx
    have := up_from h (i := j) (j := l.length - 1) (by omega) (by omega)
    unfold upTo
    simpa using this
theorem acc_len (l : List Adj) (k : Nat) : (accL l k).length ≤ l.length := by
  unfold accL
  split
  · simp
  · exact List.length_filter_le _ _
noncomputable def CRws : Ctx := mkC Try.prog G0 [(8, .pure sFew), (9, .pure sAlive), (16, .pure sLive), (15, .pure sValO), (26, .pure sRow), (21, .pure sCompact), (19, .pure sNew), (17, .pure sAdjs)]
@[simp] theorem CRws_P : CRws.P = Try.prog := rfl
@[simp] theorem CRws_G : CRws.G = G0 := rfl
@[simp] theorem CRws_1 : CRws.S 8 = .pure sFew := rfl
@[simp] theorem CRws_2 : CRws.S 9 = .pure sAlive := rfl
@[simp] theorem CRws_3 : CRws.S 16 = .pure sLive := rfl
@[simp] theorem CRws_4 : CRws.S 15 = .pure sValO := rfl
@[simp] theorem CRws_5 : CRws.S 26 = .pure sRow := rfl
@[simp] theorem CRws_6 : CRws.S 21 = .pure sCompact := rfl
@[simp] theorem CRws_7 : CRws.S 19 = .pure sNew := rfl
@[simp] theorem CRws_8 : CRws.S 17 = .pure sAdjs := rfl
theorem mixCRws : CRws.P.follows .mixedOrders = true := mixed
theorem sigCRws : SigOK CRws := sigOK_cons (entryPure (fewP) Try.func8 rfl (by decide)) (sigOK_cons (entryPure (aliveP) Try.func9 rfl (by decide)) (sigOK_cons (entryPure (liveP) Try.func16 rfl (by decide)) (sigOK_cons (entryPure (validOP) Try.func15 rfl (by decide)) (sigOK_cons (entryPure (rowP) Try.func26 rfl (by decide)) (sigOK_cons (entryPure (compactP) Try.func21 rfl (by decide)) (sigOK_cons (entryPure (newP) Try.func19 rfl (by decide)) (sigOK_cons (entryPure (adjsR) Try.func17 rfl (by decide)) (sigOK_nil _ _))))))))
set_option maxHeartbeats 32000000 in
theorem lawRows : PureOK Try.prog G0 7 (spec1 (fun (o : Ov) => ∀ d ∈ o.Dels, I64 d) fun _ => .bool true) := by
  refine pureH1 (C := CRws) sigCRws mixCRws Try.func7 rfl rfl rfl [10, 11] (by kernel_rfl) (by decide) (fun o hd => ?_)
  by_cases hf : FewO o
  case neg => simp [aev, gav, alook, litOf, litAV, mget, mhas, acopy, asrc, adst, cav, look, acallPure, abin, abinN, abinP, abinI, abinS, aun, aconv, afield, afieldAddr, aindexAddr, aindex, aslice, alow, ahigh, abuild, abuildGo, cellsOf, splice, fieldTy, alen, apick, amax, amin, aload, headV, aparts, abuildSlice, elParts, abytesStr, astore, amake, aappend, aclear, anew, arith, aresults, aresList, ares, spec0, spec1, spec2, spec3, spec4, eqCells, eqCell, sFew, hf, sAlive]
  have hs := few_sm hf hd
  cases hvb : voB o with
  | false =>
    have hlv : liveO o = [] := by unfold liveO; rw [hvb]; rfl
    have hrw : rowO o 1 = [] := by unfold rowO; rw [hlv]; rfl
    simp [aev, gav, alook, litOf, litAV, mget, mhas, acopy, asrc, adst, cav, look, acallPure, abin, abinN, abinP, abinI, abinS, aun, aconv, afield, afieldAddr, aindexAddr, aindex, aslice, alow, ahigh, abuild, abuildGo, cellsOf, splice, fieldTy, alen, apick, amax, amin, aload, headV, aparts, abuildSlice, elParts, abytesStr, astore, amake, aappend, aclear, anew, arith, aresults, aresList, ares, spec0, spec1, spec2, spec3, spec4, eqCells, eqCell, sFew, hf, sLive, hs.1, hlv, sValO, hvb, sRow, hrw, sAlive]
  | true =>
    have hv := voB_true.1 hvb
    have hlv := live_of hv
    have hu := ents_up hv
    have hle := sm_ents hs
    have hcv := cmp_valid hv
    have hce := cmp_entC hv
    have hvc : ValidC (packC (entsO o)) := pack_valid hu (fun a ha => form_ents hv ha) (ents_dis' hv)
    have hlc : LenC (packC (entsO o)) := pack_len (by omega)
    rw [hcv] at hce
    simp only at hce
    have hnew : newO (packC (entsO o)) = (ovC (packC (entsO o)), 0) := by unfold newO; rw [if_pos (vcB_true.2 hvc)]
    have hno := new_ok (c := packC (entsO o)) (by rw [hnew])
    have hsm : SmO (ovC (packC (entsO o))) := ⟨⟨⟨hlc, by simp [ovC, Len], by simp [ovC, Len]⟩, by simp [ovC]⟩, by
      show (packC (entsO o)).To.length ≤ 1000
      have h1 := ents_len o
      have h2 := kept_small o
      have h3 : (packC (entsO o)).To.length = (entsO o).length := by show (((entsO o).take (entsO o).length).map _).length = _; simp
      obtain ⟨g1, g2, g3, g4, g5, g6⟩ := hf
      omega, by simp [ovC], by simp [ovC]⟩
    have hlp : liveO (ovC (packC (entsO o))) = entsO o := by
      rw [live_of hno.2, ← ents_fold]
      show keptO (ovC _) = _
      unfold keptO
      rw [List.filter_eq_self.2 fun x _ => by simp [ovC]]
      exact hce
    simp [aev, gav, alook, litOf, litAV, mget, mhas, acopy, asrc, adst, cav, look, acallPure, abin, abinN, abinP, abinI, abinS, aun, aconv, afield, afieldAddr, aindexAddr, aindex, aslice, alow, ahigh, abuild, abuildGo, cellsOf, splice, fieldTy, alen, apick, amax, amin, aload, headV, aparts, abuildSlice, elParts, abytesStr, astore, amake, aappend, aclear, anew, arith, aresults, aresList, ares, spec0, spec1, spec2, spec3, spec4, eqCells, eqCell, sFew, hf, sLive, hs.1, hlv, sValO, hvb]
    refine AW.weak (weak_nil 4 3 29 rfl (by decide)) ?_
    obtain ⟨l, hl0⟩ : ∃ l, entsO o = l := ⟨_, rfl⟩
    have hrow : ∀ v, rowO o v = l.filter (fromP v) := fun v => by unfold rowO; rw [hlv, hl0]
    rw [hl0] at hu hle hcv hlc hnew hno hsm hlp ⊢
    refine loop_ruleH (C := CRws) sigCRws mixCRws [10, 11] (fun k : Nat => ⟨[(1, .ptr 0 1 6 0 0), (3, Enc.enc l), (4, .own 1 (accL l k).length), (5, .int .i64 k)], [OB o, bA (accL l k)]⟩) (fun k => k ≤ l.length) (fun k => l.length - k) (by kernel_rfl) ⟨0, by omega, weak_eq (by simp [accL]) (by simp [OB, bA, accL])⟩ (fun k hk => ?_)
    have hal := acc_len l k
    by_cases hlt : k < l.length
    · have i1 : I64 ((k : Int) + 1) := by unfold I64; omega
      have hsx := acc_succ hu hlt
      have hal2 := acc_len l (k + 1)
      simp [aev, gav, alook, litOf, litAV, mget, mhas, acopy, asrc, adst, cav, look, acallPure, abin, abinN, abinP, abinI, abinS, aun, aconv, afield, afieldAddr, aindexAddr, aindex, aslice, alow, ahigh, abuild, abuildGo, cellsOf, splice, fieldTy, alen, apick, amax, amin, aload, headV, aparts, abuildSlice, elParts, abytesStr, astore, amake, aappend, aclear, anew, arith, aresults, aresList, ares, spec0, spec1, spec2, spec3, spec4, eqCells, eqCell, OB, bA, hlt]
      refine AW_regionF sigCRws mixCRws [.pure, .pure, .pure, .pure, .pure, .pure, .pure, .read, .pure, .pure, .pure, .pure, .pure, .read, .pure, .pure] [[],[0],[0,1],[1,0,2],[1,0,2],[4,2,0,1,3],[3,1,0,2,4,5],[5,4,2,0,1,3,6],[1,0,2],[1,0,2],[2,0,1,9],[9,10,2,0,1,8],[8,1,0,2,10,9,11],[11,9,10,2,0,1,8,12],[12,8,10,9,11,13,6,3,1,0,2,4,5,7],[7,5,4,3,6,13,11,9,10,8,12,14,1,0,2]] (by kernel_rfl) (by kernel_rfl) (by kernel_rfl) (by kernel_rfl) ?_
      by_cases h0 : k = 0
      · subst h0
        have hs1 : starts l 0 = true := rfl
        have w1 : w64 1 = 1 := by decide
        rw [hs1] at hsx
        simp only [if_true] at hsx
        simp [aev, gav, alook, litOf, litAV, mget, mhas, acopy, asrc, adst, cav, look, acallPure, abin, abinN, abinP, abinI, abinS, aun, aconv, afield, afieldAddr, aindexAddr, aindex, aslice, alow, ahigh, abuild, abuildGo, cellsOf, splice, fieldTy, alen, apick, amax, amin, aload, headV, aparts, abuildSlice, elParts, abytesStr, astore, amake, aappend, aclear, anew, arith, aresults, aresList, ares, spec0, spec1, spec2, spec3, spec4, eqCells, eqCell]
        refine AW_regionF sigCRws mixCRws [.pure, .read, .pure, .pure, .pure, .pure, .read, .read, .eff, .pure] [[],[],[],[],[3,2],[2,3,4],[4,3,2,5],[5,2,3,4,6,1],[1,6,4,3,2,5,7,0],[0,7,5,2,3,4,6,1,8]] (by kernel_rfl) (by kernel_rfl) (by kernel_rfl) (by kernel_rfl) ?_
        simp [aev, gav, alook, litOf, litAV, mget, mhas, acopy, asrc, adst, cav, look, acallPure, abin, abinN, abinP, abinI, abinS, aun, aconv, afield, afieldAddr, aindexAddr, aindex, aslice, alow, ahigh, abuild, abuildGo, cellsOf, splice, fieldTy, alen, apick, amax, amin, aload, headV, aparts, abuildSlice, elParts, abytesStr, astore, amake, aappend, aclear, anew, arith, aresults, aresList, ares, spec0, spec1, spec2, spec3, spec4, eqCells, eqCell, hlt, rowAt_enc hlt, sRow, hs.1, hrow, i1]
        have hln : (accL l (0 + 1)).length = (accL l 0).length + (l.filter (fromP (ix l 0).From)).length := by rw [hsx, List.length_append]
        exact ⟨by omega, 0 + 1, by omega, by omega, weak_keep 2 (by simp [hln, w1]) (by simp) (by simp [AV.clean, AV.clean1]) (by simp [AV.clean, AV.clean1]) (by simp [hsx])⟩
      · have hk1 : k - 1 < l.length := by omega
        have j1 : I64 ((k : Int) - 1) := by unfold I64; omega
        have j2 : ((k : Int) - 1).toNat = k - 1 := by omega
        have j3 : (1 : Int) ≤ (k : Int) := by omega
        have j4 : (k : Int) - 1 < l.length := by omega
        by_cases hfr : (ix l k).From = (ix l (k - 1)).From
        · have hs1 : starts l k = false := by unfold starts; simp [h0, hfr]
          rw [hs1] at hsx
          simp only [Bool.false_eq_true, if_false] at hsx
          simp [aev, gav, alook, litOf, litAV, mget, mhas, acopy, asrc, adst, cav, look, acallPure, abin, abinN, abinP, abinI, abinS, aun, aconv, afield, afieldAddr, aindexAddr, aindex, aslice, alow, ahigh, abuild, abuildGo, cellsOf, splice, fieldTy, alen, apick, amax, amin, aload, headV, aparts, abuildSlice, elParts, abytesStr, astore, amake, aappend, aclear, anew, arith, aresults, aresList, ares, spec0, spec1, spec2, spec3, spec4, eqCells, eqCell, h0, j1, j2, j3, j4, rowAt_enc hk1, hk1, hlt, rowAt_enc hlt, hfr, i1]
          exact ⟨k + 1, by omega, by omega, weak_keep 2 (by simp [hsx]) (by simp) (by simp [AV.clean, AV.clean1]) (by simp [AV.clean, AV.clean1]) (by simp [hsx])⟩
        · have hs1 : starts l k = true := by unfold starts; simp [h0, hfr]
          rw [hs1] at hsx
          simp only [if_true] at hsx
          simp [aev, gav, alook, litOf, litAV, mget, mhas, acopy, asrc, adst, cav, look, acallPure, abin, abinN, abinP, abinI, abinS, aun, aconv, afield, afieldAddr, aindexAddr, aindex, aslice, alow, ahigh, abuild, abuildGo, cellsOf, splice, fieldTy, alen, apick, amax, amin, aload, headV, aparts, abuildSlice, elParts, abytesStr, astore, amake, aappend, aclear, anew, arith, aresults, aresList, ares, spec0, spec1, spec2, spec3, spec4, eqCells, eqCell, h0, j1, j2, j3, j4, rowAt_enc hk1, hk1, hlt, rowAt_enc hlt, hfr]
          refine AW_regionF sigCRws mixCRws [.pure, .read, .pure, .pure, .pure, .pure, .read, .read, .eff, .pure] [[],[],[],[],[3,2],[2,3,4],[4,3,2,5],[5,2,3,4,6,1],[1,6,4,3,2,5,7,0],[0,7,5,2,3,4,6,1,8]] (by kernel_rfl) (by kernel_rfl) (by kernel_rfl) (by kernel_rfl) ?_
          simp [aev, gav, alook, litOf, litAV, mget, mhas, acopy, asrc, adst, cav, look, acallPure, abin, abinN, abinP, abinI, abinS, aun, aconv, afield, afieldAddr, aindexAddr, aindex, aslice, alow, ahigh, abuild, abuildGo, cellsOf, splice, fieldTy, alen, apick, amax, amin, aload, headV, aparts, abuildSlice, elParts, abytesStr, astore, amake, aappend, aclear, anew, arith, aresults, aresList, ares, spec0, spec1, spec2, spec3, spec4, eqCells, eqCell, hlt, rowAt_enc hlt, sRow, hs.1, hrow, i1]
          have hln : (accL l (k + 1)).length = (accL l k).length + (l.filter (fromP (ix l k).From)).length := by rw [hsx, List.length_append]
          exact ⟨by omega, k + 1, by omega, by omega, weak_keep 2 (by simp [hln]) (by simp) (by simp [AV.clean, AV.clean1]) (by simp [AV.clean, AV.clean1]) (by simp [hsx])⟩
    · obtain rfl : k = l.length := by omega
      have hL : Len l := by unfold Len; omega
      rw [acc_end hu]
      simp [aev, gav, alook, litOf, litAV, mget, mhas, acopy, asrc, adst, cav, look, acallPure, abin, abinN, abinP, abinI, abinS, aun, aconv, afield, afieldAddr, aindexAddr, aindex, aslice, alow, ahigh, abuild, abuildGo, cellsOf, splice, fieldTy, alen, apick, amax, amin, aload, headV, aparts, abuildSlice, elParts, abytesStr, astore, amake, aappend, aclear, anew, arith, aresults, aresList, ares, spec0, spec1, spec2, spec3, spec4, eqCells, eqCell, OB, bA, hlt, sCompact, hs, hcv, sNew, hlc, hnew, sAdjs, hL, sLive, hsm.1, hlp, sAlive]
end Go.Proofs.Ytkhgjbjkjefeoaa

/-
  overlay: the readings that the laws want besides.
-/
namespace Go.Proofs.Ytkhgjbjkjefeoaa
open Go.RowKit
theorem reads_u : Reads Try.prog 5 UInt8 (fun _ => True) := reads_u8 (by kernel_rfl)
end Go.Proofs.Ytkhgjbjkjefeoaa
