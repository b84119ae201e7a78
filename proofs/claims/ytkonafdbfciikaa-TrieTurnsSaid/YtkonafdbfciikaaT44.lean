/-
  layer 14: the law of Of, Check, Permute and Build.
-/
import Derived.Test.YtkonafdbfciikaaT43
namespace Go.Proofs.Ytkonafdbfciikaa
open Go.RowKit
set_option linter.unusedSimpArgs false
set_option linter.unusedVariables false
set_option maxRecDepth 100000

theorem ofF_small {n : Int} {l : List (List Int)} (h : SmallRs l) : SmallRs (ofF n l).1.rows := by
  unfold ofF
  have h0 : SmallRs [] := ⟨Nat.zero_le _, fun r hr => by cases hr⟩
  split
  · split
    · exact h0
    · have := sortedF_len l
      have h1 := h.1
      exact ⟨by show (sortedF l).length ≤ _; omega, fun r hr => h.2 r ((sortedF_mem l r).1 hr)⟩
  · exact h0
theorem permF_small {r : Rela} {o : List Int} (h : SmallRs r.rows) (ho : SmallR o) : SmallRs (permF r o).1.rows := by
  unfold permF
  have h0 : SmallRs [] := ⟨Nat.zero_le _, fun r hr => by cases hr⟩
  split
  · split
    · have h1 := sortedF_len (mapR o r.rows)
      have h2 : (mapR o r.rows).length = r.rows.length := by unfold mapR; rw [List.length_map]
      have h3 := h.1
      refine ⟨by show (sortedF (mapR o r.rows)).length ≤ _; omega, fun x hx => ?_⟩
      have hx' := (sortedF_mem _ x).1 hx
      obtain ⟨y, _, rfl⟩ := List.mem_map.1 hx'
      show _ ≤ _
      unfold permRow
      rw [List.length_map]
      exact ho
    · exact h0
  · exact h0
theorem build_tiny {r : Rela} (h : r.rows.length ≤ 20000) : TinyT (buildF r).1 := by
  have hs := (build_small r h).1
  refine ⟨hs.1, fun x hx => ⟨(hs.2 x hx).1, ?_⟩⟩
  unfold buildF at hx
  split at hx
  · obtain ⟨k, _, rfl⟩ := List.mem_map.1 hx
    have := (level_small h k).2.1
    show _ ≤ _
    omega
  · cases hx
noncomputable def CTl : Ctx := mkC Try.prog G0 [(10, .pure sSmall), (11, .pure sAlive), (19, .pure sOf), (12, .pure sOf), (38, .pure sPermute), (39, .pure sPermute), (13, .pure sBuild), (40, .pure sBuild), (21, .pure sCheck), (42, .pure sCheck), (41, .pure sSame), (43, .pure sSameT)]
@[simp] theorem CTl_P : CTl.P = Try.prog := rfl
@[simp] theorem CTl_1 : CTl.S 10 = .pure sSmall := rfl
@[simp] theorem CTl_2 : CTl.S 11 = .pure sAlive := rfl
@[simp] theorem CTl_3 : CTl.S 19 = .pure sOf := rfl
@[simp] theorem CTl_4 : CTl.S 12 = .pure sOf := rfl
@[simp] theorem CTl_5 : CTl.S 38 = .pure sPermute := rfl
@[simp] theorem CTl_6 : CTl.S 39 = .pure sPermute := rfl
@[simp] theorem CTl_7 : CTl.S 13 = .pure sBuild := rfl
@[simp] theorem CTl_8 : CTl.S 40 = .pure sBuild := rfl
@[simp] theorem CTl_9 : CTl.S 21 = .pure sCheck := rfl
@[simp] theorem CTl_10 : CTl.S 42 = .pure sCheck := rfl
@[simp] theorem CTl_11 : CTl.S 41 = .pure sSame := rfl
@[simp] theorem CTl_12 : CTl.S 43 = .pure sSameT := rfl
theorem mixCTl : CTl.P.follows .mixedOrders = true := mixed
theorem sigCTl : SigOK CTl := sigOK_cons (entryPure smallL Try.func10 rfl (by decide)) (sigOK_cons (entryPure aliveP Try.func11 rfl (by decide)) (sigOK_cons (entryPure ofP Try.func19 rfl (by decide)) (sigOK_cons (entryPure ofR Try.func12 rfl (by decide))
  (sigOK_cons (entryPure permuteP Try.func38 rfl (by decide)) (sigOK_cons (entryPure permuteR Try.func39 rfl (by decide)) (sigOK_cons (entryPure buildP Try.func13 rfl (by decide)) (sigOK_cons (entryPure buildR Try.func40 rfl (by decide))
  (sigOK_cons (entryPure checkP Try.func21 rfl (by decide)) (sigOK_cons (entryPure checkR Try.func42 rfl (by decide)) (sigOK_cons (entryPure sameR Try.func41 rfl (by decide)) (sigOK_cons (entryPure sameTrieR Try.func43 rfl (by decide)) (sigOK_nil _ _))))))))))))
set_option maxHeartbeats 32000000 in
theorem lawTells : PureOK Try.prog G0 8 (spec3 (fun (n : Int) (l : List (List Int)) (o : List Int) => l.length ≤ maxLen) fun _ _ _ => .bool true) := by
  refine pure3 (C := CTl) sigCTl mixCTl Try.func8 rfl rfl rfl (by kernel_rfl) (by decide) (fun n l o hl => ?_)
  by_cases hf : FewR l
  case neg => simp [aev, cav, look, acallPure, abin, abinN, abinP, abinI, abinS, aun, aconv, afield, afieldAddr, aindexAddr, aindex, aslice, alow, ahigh, abuild, abuildGo, cellsOf, splice, fieldTy, alen, apick, amax, amin, aload, headV, aparts, abuildSlice, elParts, abytesStr, astore, amake, aappend, aclear, anew, arith, aresults, aresList, ares, spec0, spec1, spec2, spec3, spec4, eqCells, eqCell, sSmall, sAlive, hl, fewB_no hf]
  have e0 := fewB_yes hf
  have hS := few_small hf
  by_cases h1 : 12 < o.length
  · have h1' : (12 : Int) < o.length := by omega
    simp [aev, cav, look, acallPure, abin, abinN, abinP, abinI, abinS, aun, aconv, afield, afieldAddr, aindexAddr, aindex, aslice, alow, ahigh, abuild, abuildGo, cellsOf, splice, fieldTy, alen, apick, amax, amin, aload, headV, aparts, abuildSlice, elParts, abytesStr, astore, amake, aappend, aclear, anew, arith, aresults, aresList, ares, spec0, spec1, spec2, spec3, spec4, eqCells, eqCell, sSmall, sAlive, hl, e0, h1']
  have h1' : ¬ (12 : Int) < o.length := by omega
  have hO : SmallR o := by show _ ≤ _; omega
  have s1 := ofF_small (n := n) hS
  obtain ⟨r1, e1, q1⟩ : ∃ a b, ofF n l = (a, b) := ⟨_, _, rfl⟩
  rw [q1] at s1
  have s2 := permF_small (r := ⟨n, l⟩) hS hO
  obtain ⟨r2, e2, q2⟩ : ∃ a b, permF ⟨n, l⟩ o = (a, b) := ⟨_, _, rfl⟩
  rw [q2] at s2
  have s3 := permF_small (r := r1) s1 hO
  obtain ⟨r3, e3, q3⟩ : ∃ a b, permF r1 o = (a, b) := ⟨_, _, rfl⟩
  rw [q3] at s3
  have s4 := build_tiny (r := ⟨n, l⟩) (by have := hf.1; show l.length ≤ _; omega)
  obtain ⟨t1, e4, q4⟩ : ∃ a b, buildF ⟨n, l⟩ = (a, b) := ⟨_, _, rfl⟩
  rw [q4] at s4
  simp only at s1 s2 s3 s4
  simp [aev, cav, look, acallPure, abin, abinN, abinP, abinI, abinS, aun, aconv, afield, afieldAddr, aindexAddr, aindex, aslice, alow, ahigh, abuild, abuildGo, cellsOf, splice, fieldTy, alen, apick, amax, amin, aload, headV, aparts, abuildSlice, elParts, abytesStr, astore, amake, aappend, aclear, anew, arith, aresults, aresList, ares, spec0, spec1, spec2, spec3, spec4, eqCells, eqCell, sSmall, sAlive, sOf, sPermute, sBuild, sCheck, sSame, sSameT, hl, e0, h1', hS, hO, q1, q2, q3, q4, s1, s2, s3, s4, sameB_refl]
end Go.Proofs.Ytkonafdbfciikaa
