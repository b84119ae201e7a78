/-
  layer 14: the law of the depth-first walk.
-/
import Derived.Test.YtkonafdbfciikaaT37
namespace Go.Proofs.Ytkonafdbfciikaa
open Go.RowKit
set_option linter.unusedSimpArgs false
set_option linter.unusedVariables false
set_option maxRecDepth 100000

noncomputable def CWa : Ctx := mkC Try.prog G0 [(10, .pure sSmall), (11, .pure sAlive), (12, .pure sOf), (13, .pure sBuild), (15, .pure sRoot), (14, .pure (sCur downF)), (16, .pure sKey), (18, .pure (sCur onF)), (17, .pure sCmp)]
@[simp] theorem CWa_P : CWa.P = Try.prog := rfl
@[simp] theorem CWa_1 : CWa.S 10 = .pure sSmall := rfl
@[simp] theorem CWa_2 : CWa.S 11 = .pure sAlive := rfl
@[simp] theorem CWa_3 : CWa.S 12 = .pure sOf := rfl
@[simp] theorem CWa_4 : CWa.S 13 = .pure sBuild := rfl
@[simp] theorem CWa_5 : CWa.S 15 = .pure sRoot := rfl
@[simp] theorem CWa_6 : CWa.S 14 = .pure (sCur downF) := rfl
@[simp] theorem CWa_7 : CWa.S 16 = .pure sKey := rfl
@[simp] theorem CWa_8 : CWa.S 18 = .pure (sCur onF) := rfl
@[simp] theorem CWa_9 : CWa.S 17 = .pure sCmp := rfl
theorem mixCWa : CWa.P.follows .mixedOrders = true := mixed
theorem sigCWa : SigOK CWa := sigOK_cons (entryPure smallL Try.func10 rfl (by decide)) (sigOK_cons (entryPure aliveP Try.func11 rfl (by decide)) (sigOK_cons (entryPure ofR Try.func12 rfl (by decide)) (sigOK_cons (entryPure buildP Try.func13 rfl (by decide)) (sigOK_cons (entryPure rootP Try.func15 rfl (by decide))
  (sigOK_cons (entryPure downP Try.func14 rfl (by decide)) (sigOK_cons (entryPure keyP Try.func16 rfl (by decide)) (sigOK_cons (entryPure onwardL Try.func18 rfl (by decide)) (sigOK_cons (entryPure cmpR Try.func17 rfl (by decide)) (sigOK_nil _ _)))))))))

theorem Kn_le (rows : List (List Int)) (k m : Nat) : Kn rows k m ≤ m := keysF_le rows k m
theorem small_curs {rows : List (List Int)} {n i k : Nat} (hF : Fit rows n) (hi : i < rows.length) (hk : k ≤ n) : SmallC (curs rows i k) := by
  have h8 := hF.top
  have h2 := hF.few
  refine ⟨by show (atL rows i k).length ≤ _; rw [atL_len]; omega, by show (endL rows i k).length ≤ _; rw [endL_len]; omega, fun v hv => ?_, fun v hv => ?_⟩
  · obtain ⟨j, _, rfl⟩ := List.mem_map.1 hv
    have := Kn_le rows j (i + 1)
    unfold atV I64
    omega
  · obtain ⟨j, _, rfl⟩ := List.mem_map.1 hv
    cases j with
    | zero =>
      have := Kn_le rows 0 rows.length
      show I64 (Kn rows 0 rows.length : Int)
      unfold I64
      omega
    | succ j =>
      show I64 (ix (levelF rows (j + 1)).first (Kn rows j (i + 1)))
      obtain ⟨s', q1, q2, q3⟩ := key_cut (rows := rows) (k := j) (N := rows.length) (c := Kn rows j (i + 1)) (Kn_mono (by omega))
      rw [← q3, first_val q1 q2]
      have := Kn_le rows (j + 1) s'
      unfold I64
      omega

structure WSt where
  c : Cursor
  ok : Bool
  prev : List Int
  cnt : Nat
  q : Nat
  f : Bool
def Node (rows : List (List Int)) (m : Nat) (c : Cursor) (ok : Bool) (prev : List Int) (cnt q : Nat) : Prop :=
  (ok = true ∧ ∃ k, c = curs rows cnt (k + 1) ∧ cnt < rows.length ∧ k < m ∧ freshB rows cnt (k + 1) = true ∧ prev.take k = (ix rows cnt).take k ∧ k ≤ prev.length ∧ prev.length ≤ 8 ∧ q ≤ cnt * 8 + k) ∨ (ok = false ∧ c = C0 ∧ cnt = rows.length ∧ prev.length ≤ 8 ∧ q ≤ cnt * 8)
set_option maxHeartbeats 32000000 in
theorem lawWalks : PureOK Try.prog G0 3 (spec2 (fun (n : Int) (l : List (List Int)) => l.length ≤ maxLen) fun _ _ => .bool true) := by
  refine pureH2 (C := CWa) sigCWa mixCWa Try.func3 rfl rfl rfl [7] (by kernel_rfl) (by decide) (fun n l hl => ?_)
  by_cases hf : FewR l
  case neg => simp [aev, cav, look, acallPure, abin, abinN, abinP, abinI, abinS, aun, aconv, afield, afieldAddr, aindexAddr, aindex, aslice, alow, ahigh, abuild, abuildGo, cellsOf, splice, fieldTy, alen, apick, amax, amin, aload, headV, aparts, abuildSlice, elParts, abytesStr, astore, amake, aappend, aclear, anew, arith, aresults, aresList, ares, spec0, spec1, spec2, spec3, spec4, eqCells, eqCell, sSmall, sAlive, hl, fewB_no hf]
  have e0 := fewB_yes hf
  have hS := few_small hf
  by_cases h60 : 60 < l.length
  · have h60' : (60 : Int) < l.length := by omega
    simp [aev, cav, look, acallPure, abin, abinN, abinP, abinI, abinS, aun, aconv, afield, afieldAddr, aindexAddr, aindex, aslice, alow, ahigh, abuild, abuildGo, cellsOf, splice, fieldTy, alen, apick, amax, amin, aload, headV, aparts, abuildSlice, elParts, abytesStr, astore, amake, aappend, aclear, anew, arith, aresults, aresList, ares, spec0, spec1, spec2, spec3, spec4, eqCells, eqCell, sSmall, sAlive, hl, e0, h60']
  have h60' : ¬ (60 : Int) < l.length := by omega
  rcases of_few (n := n) hf with he | ⟨m, rfl, hF, h120, he, hc, hb⟩
  · simp [aev, cav, look, acallPure, abin, abinN, abinP, abinI, abinS, aun, aconv, afield, afieldAddr, aindexAddr, aindex, aslice, alow, ahigh, abuild, abuildGo, cellsOf, splice, fieldTy, alen, apick, amax, amin, aload, headV, aparts, abuildSlice, elParts, abytesStr, astore, amake, aappend, aclear, anew, arith, aresults, aresList, ares, spec0, spec1, spec2, spec3, spec4, eqCells, eqCell, sSmall, sAlive, sOf, hl, e0, hS, he, h60']
  have hrS : SmallRs (sortedF l) := ⟨by omega, fun y hy => hS.2 y ((sortedF_mem l y).1 hy)⟩
  have hT : SmallT ⟨levelsF (sortedF l) m⟩ ∧ IntsT ⟨levelsF (sortedF l) m⟩ := by have := build_small ⟨m, sortedF l⟩ (by show (sortedF l).length ≤ _; omega); rwa [hb] at this
  have hN : (sortedF l).length ≤ 60 := by have := sortedF_len l; omega
  simp [aev, cav, look, acallPure, abin, abinN, abinP, abinI, abinS, aun, aconv, afield, afieldAddr, aindexAddr, aindex, aslice, alow, ahigh, abuild, abuildGo, cellsOf, splice, fieldTy, alen, apick, amax, amin, aload, headV, aparts, abuildSlice, elParts, abytesStr, astore, amake, aappend, aclear, anew, arith, aresults, aresList, ares, spec0, spec1, spec2, spec3, spec4, eqCells, eqCell, sSmall, sAlive, sOf, sBuild, hl, e0, hS, he, h60', hrS, hb]
  generalize sortedF l = rows at *
  have hm1 := hF.pos
  have hm8 := hF.top
  refine AW_regionF sigCWa mixCWa [.read, .read, .read, .pure, .pure, .pure, .eff, .eff, .pure] [[],[],[1,0],[0,1,2],[2,1,0,3],[2,1,0,3],[],[3,0,1,2,4,6],[6,4,7,3,0,1,2,5]] (by kernel_rfl) (by kernel_rfl) (by kernel_rfl) (by kernel_rfl) ?_
  have sc0 := small_C (.inl rfl)
  have hd : ∃ c ok, downF ⟨levelsF rows m⟩ C0 = (c, ok) ∧ ok = decide (0 < rows.length) ∧ SmallC c ∧ Node rows m c ok [] 0 0 := by
    by_cases h0 : 0 < rows.length
    · refine ⟨curs rows 0 1, true, down_curs hF (i := 0) (k := 0) h0 (by omega) (fresh_zero 0), by simp [h0], small_curs hF h0 (by omega), .inl ⟨rfl, 0, rfl, h0, by omega, fresh_zero _, rfl, Nat.le_refl _, Nat.zero_le _, Nat.le_refl _⟩⟩
    · refine ⟨C0, false, ?_, by simp [h0], sc0, .inr ⟨rfl, rfl, by omega, Nat.zero_le _, Nat.le_refl _⟩⟩
      rcases down_root (t := ⟨levelsF rows m⟩) with hd | ⟨hv, hpos, _⟩
      · exact hd
      · have e : ix (⟨levelsF rows m⟩ : Trie).levels 0 = levelF rows 0 := ix_levels (by omega)
        rw [e, keys_len, show rows.length = 0 by omega, Kn_zero] at hpos
        omega
  obtain ⟨c, ok, hd, hok, hcs, hnode⟩ := hd
  simp [aev, cav, look, acallPure, abin, abinN, abinP, abinI, abinS, aun, aconv, afield, afieldAddr, aindexAddr, aindex, aslice, alow, ahigh, abuild, abuildGo, cellsOf, splice, fieldTy, alen, apick, amax, amin, aload, headV, aparts, abuildSlice, elParts, abytesStr, astore, amake, aappend, aclear, anew, arith, aresults, aresList, ares, spec0, spec1, spec2, spec3, spec4, eqCells, eqCell, sRoot, sCur, hT, sc0, hd, hok]
  refine loop_ruleH (C := CWa) sigCWa mixCWa [7] (fun x : WSt => ⟨[(0, .int .i64 m), (5, .ptr 0 1 2 0 0), (7, .ptr 1 1 1 0 0), (9, .ptr 2 1 2 0 0), (10, .bool x.ok), (11, .slice 1 x.f (encRows x.prev)), (12, .int .i64 x.cnt), (50, .int .i64 x.q)], [RB ⟨m, rows⟩, TB ⟨levelsF rows m⟩, CB x.c]⟩) (fun x => Node rows m x.c x.ok x.prev x.cnt x.q) (fun x => 2000 - x.q) (by kernel_rfl) ⟨⟨c, ok, [], 0, 0, true⟩, hnode, weak_eq (by simp [hok]) (by simp [RB, TB, CB])⟩ (fun ⟨c', ok', prev, i, q, f⟩ hx => ?_)
  clear hd hok hcs hnode c ok
  simp only at hx ⊢
  rcases hx with ⟨rfl, k, rfl, hi, hk, hfr, hp1, hp2, hp3, hq⟩ | ⟨rfl, rfl, rfl, hp3, hq⟩
  case inr =>
    have hq' : (q : Int) < 2000 := by omega
    simp [aev, cav, look, acallPure, abin, abinN, abinP, abinI, abinS, aun, aconv, afield, afieldAddr, aindexAddr, aindex, aslice, alow, ahigh, abuild, abuildGo, cellsOf, splice, fieldTy, alen, apick, amax, amin, aload, headV, aparts, abuildSlice, elParts, abytesStr, astore, amake, aappend, aclear, anew, arith, aresults, aresList, ares, spec0, spec1, spec2, spec3, spec4, eqCells, eqCell, RB, TB, CB, sAlive, hq']
  have hq' : (q : Int) < 2000 := by omega
  have i1 : I64 ((q : Int) + 1) := by unfold I64; omega
  have i2 : I64 ((i : Int) + 1) := by unfold I64; omega
  have hcs := small_curs hF hi (show k + 1 ≤ m by omega)
  have hkc := key_curs hF hi hk
  have hlen := hF.len i hi
  obtain ⟨d, ok2, hd⟩ : ∃ d b, onF ⟨levelsF rows m⟩ (curs rows i (k + 1)) = (d, b) := ⟨_, _, rfl⟩
  have hA : (curs rows i (k + 1)).at_.length = k + 1 := atL_len i (k + 1)
  generalize hcc : curs rows i (k + 1) = cc at *
  obtain ⟨A, E⟩ := cc
  simp only at hA
  have hk8 : ((m : Int) < (k : Int) + 1) = False := eq_false (by omega)
  have hk0 : ((k : Int) + 1 < 1) = False := eq_false (by omega)
  have hni : ((rows.length : Int) ≤ i) = False := eq_false (by omega)
  have w1 : w64 (k : Int) = k := w64_in (by unfold I64; omega)
  have hmin : (if k < prev.length then (k : Int) else (prev.length : Int)) = k := by split <;> omega
  have hmin2 : min k prev.length = k := by omega
  have hmin3 : min k m = k := by omega
  have hkl : (k : Int) ≤ prev.length := by omega
  by_cases hlast : k + 1 = m
  · have hlast' : ((k : Int) + 1 = m) = True := eq_true (by omega)
    have hrow : (ix rows i).take k ++ [ix (ix rows i) k] = ix rows i := by
      rw [ix_lt (show k < (ix rows i).length by omega), ← List.take_succ_eq_append_getElem, List.take_of_length_le (by omega)]
    have sr : SmallR (ix rows i) := by show _ ≤ _; omega
    have hr0 := cmpL_refl (ix rows i)
    simp [aev, cav, look, acallPure, abin, abinN, abinP, abinI, abinS, aun, aconv, afield, afieldAddr, aindexAddr, aindex, aslice, alow, ahigh, abuild, abuildGo, cellsOf, splice, fieldTy, alen, apick, amax, amin, aload, headV, aparts, abuildSlice, elParts, abytesStr, astore, amake, aappend, aclear, anew, arith, aresults, aresList, ares, spec0, spec1, spec2, spec3, spec4, eqCells, eqCell, RB, TB, CB, sKey, sCur, sCmp, hq', hT, hcs, hkc, hA, hk8, hk0, hni, w1, hd, hmin, hmin2, hkl, hlast', hi, rowAt_enc hi, hp1, hrow, sr, hr0, i1, i2, hlen, hmin3]
    have hcl : onF ⟨levelsF rows m⟩ (curs rows i m) = climb ⟨levelsF rows m⟩ 20 (curs rows i m) := by unfold onF; rw [down_last, if_neg (by simp)]
    have hnd : Node rows m d ok2 (ix rows i) (i + 1) (q + 1) := by
      subst hlast
      rw [hcc] at hcl
      rw [hcl] at hd
      by_cases hN1 : i + 1 < rows.length
      · obtain ⟨k', z1, z2, z3, z4⟩ := climb_on hF hN1 k 20 hk (by omega) (fresh_all hF hN1)
        rw [hcc, hd] at z4
        injection z4 with z4 z5
        subst z4 z5
        refine .inl ⟨rfl, k', rfl, hN1, by omega, z2, ?_, by omega, by omega, by omega⟩
        exact (fresh_no z3).2.symm
      · have z := climb_end hF (i := i) (by omega) (k + 1) 20 (by omega) (by omega)
        rw [hcc, hd] at z
        injection z with z4 z5
        subst z4 z5
        exact .inr ⟨rfl, rfl, by omega, by omega, by omega⟩
    refine ⟨⟨by omega, by omega⟩, ⟨by omega, by omega⟩, ⟨d, ok2, ix rows i, i + 1, q + 1, false⟩, hnd, by show 2000 - (q + 1) < 2000 - q; omega, (weak_view 11).trans (weak_keep 3 (by simp [hlen, hmin3, hrow]) (by simp) (by simp [AV.clean, AV.clean1]) (by simp) (by simp [RB, TB, CB]))⟩
  have hlast' : ((k : Int) + 1 = m) = False := eq_false (by omega)
  simp [aev, cav, look, acallPure, abin, abinN, abinP, abinI, abinS, aun, aconv, afield, afieldAddr, aindexAddr, aindex, aslice, alow, ahigh, abuild, abuildGo, cellsOf, splice, fieldTy, alen, apick, amax, amin, aload, headV, aparts, abuildSlice, elParts, abytesStr, astore, amake, aappend, aclear, anew, arith, aresults, aresList, ares, spec0, spec1, spec2, spec3, spec4, eqCells, eqCell, RB, TB, CB, sKey, sCur, sCmp, hq', hT, hcs, hkc, hA, hk8, hk0, hni, w1, hd, hmin, hmin2, hkl, hlast', hp1, i1, i2, hlen, hmin3]
  have hrow : (ix rows i).take k ++ [ix (ix rows i) k] = (ix rows i).take (k + 1) := by
    rw [ix_lt (show k < (ix rows i).length by omega), ← List.take_succ_eq_append_getElem]
  have hlen2 : ((ix rows i).take (k + 1)).length = k + 1 := by rw [List.length_take]; omega
  have hnd : Node rows m d ok2 ((ix rows i).take (k + 1)) i (q + 1) := by
    have hdn := down_curs hF hi (show k + 1 < m by omega) hfr
    have hon : onF ⟨levelsF rows m⟩ (curs rows i (k + 1)) = (curs rows i (k + 2), true) := by unfold onF; rw [hdn, if_pos rfl]
    rw [hcc, hd] at hon
    injection hon with z4 z5
    subst z4 z5
    exact .inl ⟨rfl, k + 1, rfl, hi, by omega, fresh_up hfr, by rw [List.take_take, Nat.min_self], by omega, by omega, by omega⟩
  refine ⟨⟨by omega, by omega⟩, ⟨by omega, by omega⟩, ⟨d, ok2, (ix rows i).take (k + 1), i, q + 1, false⟩, hnd, by show 2000 - (q + 1) < 2000 - q; omega, (weak_view 11).trans (weak_keep 3 (by simp [hlen, hmin3, hrow]; omega) (by simp) (by simp [AV.clean, AV.clean1]) (by simp) (by simp [RB, TB, CB]))⟩
end Go.Proofs.Ytkonafdbfciikaa
