/-
  layer 14: the worked example.
-/
import Derived.Test.YtkonafdbfciikaaT18
namespace Go.Proofs.Ytkonafdbfciikaa
open Go.RowKit
set_option linter.unusedSimpArgs false
set_option linter.unusedVariables false
set_option maxRecDepth 100000

theorem sortBy_eq {l s : List (List Int)} (h : s.Perm l) (hs : s.Pairwise fun x y => (!ltOf cmpL y x) = true) : sortBy cmpL l = s := by
  unfold sortBy
  refine List.Perm.eq_of_pairwise (le := fun x y => (!ltOf cmpL y x) = true) ?_ ?_ hs ((List.mergeSort_perm _ _).trans h.symm)
  · intro a b _ _ h1 h2
    simp only [Bool.not_eq_true'] at h1 h2
    exact totL a b h2 h1
  · refine List.pairwise_mergeSort ?_ ?_ _
    · intro a b c h1 h2
      simp only [Bool.not_eq_true'] at h1 h2 ⊢
      exact swoL.ntrans c b a h2 h1
    · intro a b
      cases h : ltOf cmpL b a with
      | false => simp
      | true => simp [swoL.asymmA h]
def S0 : List (List Int) := [[2, 1], [1, 5], [1, 3], [2, 1]]
def S1 : List (List Int) := [[1, 3], [1, 5], [2, 1]]
def T0 : Trie := ⟨[⟨[1, 2], [0, 2]⟩, ⟨[3, 5, 1], [0, 2, 3]⟩]⟩
theorem wide_S {l : List (List Int)} (h : l = S0 ∨ l = S1) : WideR 2 l := by
  refine ⟨by decide, by decide, ?_⟩
  rcases h with rfl | rfl <;> (intro r hr; simp [S0, S1] at hr; rcases hr with rfl | rfl | rfl | rfl <;> rfl)
theorem of_S : ofF 2 S0 = (⟨2, S1⟩, 0) := by
  have e : sortedF S0 = S1 := by
    unfold sortedF
    rw [sortBy_eq (s := [[1, 3], [1, 5], [2, 1], [2, 1]]) (by decide) (by decide)]
    decide
  unfold ofF
  rw [if_pos (wide_S (.inl rfl)), e, if_neg (by decide)]
theorem check_S : checkF ⟨2, S1⟩ = 0 := by
  have h : RisesR S1 := fun i hi => by
    have hi : i + 1 < 3 := hi
    have : i = 0 ∨ i = 1 := by omega
    rcases this with rfl | rfl <;> decide
  unfold checkF
  rw [if_pos (wide_S (.inr rfl)), if_neg (by decide), if_pos h]
theorem build_S : buildF ⟨2, S1⟩ = (T0, 0) := by
  unfold buildF
  rw [if_pos check_S]
  rfl
theorem valid_T0 : ValidT T0 := by
  refine ⟨by decide, by decide, ⟨3, ⟨⟨rfl, rfl, rfl⟩, .inl rfl, ⟨rfl, rfl, rfl⟩, .inr fun i hi => ?_, rfl⟩, by decide⟩, ?_⟩
  · have hi : i < 2 := hi
    have : i = 0 ∨ i = 1 := by omega
    rcases this with rfl | rfl <;> decide
  · intro x hx
    simp [T0] at hx
    rcases hx with rfl | rfl
    · intro i hi j h1 h2
      have hi : i + 1 < 2 := hi
      have : i = 0 := by omega
      subst this
      have h1 : (0 : Int) < j := h1
      have h2 : (j : Int) < 2 := h2
      obtain rfl : j = 1 := by omega
      decide
    · intro i hi j h1 h2
      have hi : i + 1 < 3 := hi
      have : i = 0 ∨ i = 1 := by omega
      rcases this with rfl | rfl
      · have h1 : (0 : Int) < j := h1
        have h2 : (j : Int) < 2 := h2
        obtain rfl : j = 1 := by omega
        decide
      · have h1 : (2 : Int) < j := h1
        have h2 : (j : Int) < 3 := h2
        omega
theorem fine_root {t : Trie} (h : ValidT t) : FineT t C0 := ⟨h, rfl, Nat.zero_le _, fun k hk => absurd hk (Nat.not_lt_zero k)⟩
def C1 : Cursor := ⟨[0], [2]⟩
theorem down_T0 : downF T0 C0 = (C1, true) := by
  unfold downF
  rw [if_pos ⟨fine_root valid_T0, by decide, by decide⟩]
  rfl
theorem fine_C1 : FineT T0 C1 := ⟨valid_T0, rfl, by decide, fun k hk => by
  have hk : k < 1 := hk
  obtain rfl : k = 0 := by omega
  exact ⟨by decide, by decide, by decide⟩⟩
theorem key_T0 : keyF T0 C1 = (1, true) := by
  unfold keyF
  rw [if_pos ⟨fine_C1, by decide⟩]
  rfl
theorem small_T0 : SmallT T0 ∧ IntsT T0 := by
  refine ⟨⟨by decide, fun x hx => ?_⟩, fun x hx v hv => ?_⟩
  · simp [T0] at hx; rcases hx with rfl | rfl <;> decide
  · simp [T0] at hx; rcases hx with rfl | rfl <;> (simp at hv; unfold I64; omega)
theorem small_C {c : Cursor} (h : c = C0 ∨ c = C1) : SmallC c := by
  rcases h with rfl | rfl
  · exact ⟨by decide, by decide, fun v hv => by simp [C0] at hv, fun v hv => by simp [C0] at hv⟩
  · exact ⟨by decide, by decide, fun v hv => by simp [C1] at hv; unfold I64; omega, fun v hv => by simp [C1] at hv; unfold I64; omega⟩
theorem small_S {l : List (List Int)} (h : l = S0 ∨ l = S1) : SmallRs l := by
  rcases h with rfl | rfl
  · exact ⟨by decide, fun r hr => by simp [S0] at hr; rcases hr with rfl | rfl | rfl | rfl <;> (show _ ≤ _; decide)⟩
  · exact ⟨by decide, fun r hr => by simp [S1] at hr; rcases hr with rfl | rfl | rfl <;> (show _ ≤ _; decide)⟩

def sSample : List AV → Option (Prop × AV) := spec0 (Enc.enc S0)
theorem sampleP : PureOK Try.prog G0 44 sSample := by
  refine pure0 (C := CE) sigCE mixCE Try.func44 rfl rfl rfl (by kernel_rfl) ?_
  simp [aev, cav, look, acallPure, abin, abinN, abinP, abinI, abinS, aun, aconv, afield, afieldAddr, aindexAddr, aindex, aslice, alow, ahigh, abuild, abuildGo, cellsOf, splice, fieldTy, alen, apick, amax, amin, aload, headV, aparts, abuildSlice, elParts, abytesStr, astore, amake, aappend, aclear, anew, arith, aresults, aresList, ares, spec0, spec1, spec2, spec3, spec4, eqCells, eqCell, S0]
def sRoot : List AV → Option (Prop × AV) := spec0 (Enc.enc C0)
theorem rootP : PureOK Try.prog G0 15 sRoot := by
  refine pure0 (C := CE) sigCE mixCE Try.func15 rfl rfl rfl (by kernel_rfl) ?_
  simp [aev, cav, look, acallPure, abin, abinN, abinP, abinI, abinS, aun, aconv, afield, afieldAddr, aindexAddr, aindex, aslice, alow, ahigh, abuild, abuildGo, cellsOf, splice, fieldTy, alen, apick, amax, amin, aload, headV, aparts, abuildSlice, elParts, abytesStr, astore, amake, aappend, aclear, anew, arith, aresults, aresList, ares, spec0, spec1, spec2, spec3, spec4, eqCells, eqCell, C0]
noncomputable def CZ1 : Ctx := mkC Try.prog G0 [(44, .pure sSample), (15, .pure sRoot), (19, .pure sOf), (13, .pure sBuild), (14, .pure (sCur downF)), (16, .pure sKey), (22, .pure sSameRows), (17, .pure sCmp)]
@[simp] theorem CZ1_P : CZ1.P = Try.prog := rfl
@[simp] theorem CZ1_1 : CZ1.S 44 = .pure sSample := rfl
@[simp] theorem CZ1_2 : CZ1.S 15 = .pure sRoot := rfl
@[simp] theorem CZ1_3 : CZ1.S 19 = .pure sOf := rfl
@[simp] theorem CZ1_4 : CZ1.S 13 = .pure sBuild := rfl
@[simp] theorem CZ1_5 : CZ1.S 14 = .pure (sCur downF) := rfl
@[simp] theorem CZ1_6 : CZ1.S 16 = .pure sKey := rfl
@[simp] theorem CZ1_7 : CZ1.S 22 = .pure sSameRows := rfl
@[simp] theorem CZ1_8 : CZ1.S 17 = .pure sCmp := rfl
theorem mixCZ1 : CZ1.P.follows .mixedOrders = true := mixed
theorem sigCZ1 : SigOK CZ1 := sigOK_cons (entryPure sampleP Try.func44 rfl (by decide)) (sigOK_cons (entryPure rootP Try.func15 rfl (by decide)) (sigOK_cons (entryPure ofP Try.func19 rfl (by decide)) (sigOK_cons (entryPure buildP Try.func13 rfl (by decide)) (sigOK_cons (entryPure downP Try.func14 rfl (by decide)) (sigOK_cons (entryPure keyP Try.func16 rfl (by decide)) (sigOK_cons (entryPure sameRowsR Try.func22 rfl (by decide)) (sigOK_cons (entryPure cmpR Try.func17 rfl (by decide)) (sigOK_nil _ _))))))))
def sAlive : List AV → Option (Prop × AV) := spec0 (.bool true)
set_option maxHeartbeats 16000000 in
theorem aliveP : PureOK Try.prog G0 11 sAlive := by
  refine pureH0 (C := CZ1) sigCZ1 mixCZ1 Try.func11 rfl rfl rfl [3] (by kernel_rfl) ?_
  have e1 := small_S (.inl rfl)
  have e2 := small_S (.inr rfl)
  have e3 := of_S
  have e4 := build_S
  simp [aev, cav, look, acallPure, abin, abinN, abinP, abinI, abinS, aun, aconv, afield, afieldAddr, aindexAddr, aindex, aslice, alow, ahigh, abuild, abuildGo, cellsOf, splice, fieldTy, alen, apick, amax, amin, aload, headV, aparts, abuildSlice, elParts, abytesStr, astore, amake, aappend, aclear, anew, arith, aresults, aresList, ares, spec0, spec1, spec2, spec3, spec4, eqCells, eqCell, sSample, sOf, sBuild, e1, e2, e3, e4]
  have e5 := down_T0
  have e6 := key_T0
  have e7 := small_T0
  have e8 := small_C (.inl rfl)
  have e9 := small_C (.inr rfl)
  refine AW_regionF sigCZ1 mixCZ1 [.read, .read, .read, .pure, .pure, .pure, .eff, .eff, .pure] [[],[],[1,0],[0,1,2],[2,1,0,3],[2,1,0,3],[],[3,0,1,2,4,6],[6,4,7,3,0,1,2,5]] (by kernel_rfl) (by kernel_rfl) (by kernel_rfl) (by kernel_rfl) ?_
  have l0 : T0.levels.length = 2 := rfl
  have l1 : (1 : Nat) < T0.levels.length := by decide
  have l2 : ix T0.levels 1 = ⟨[3, 5, 1], [0, 2, 3]⟩ := rfl
  have e10 : SmallR [0, 2, 3] := by show _ ≤ _; decide
  have e11 : cmpL [0, 2, 3] [0, 2, 3] = 0 := cmpL_refl _
  have e12 : SmallRs [[1, 3], [1, 5], [2, 1]] := e2
  have e13 : S1 = [[1, 3], [1, 5], [2, 1]] := rfl
  simp [aev, cav, look, acallPure, abin, abinN, abinP, abinI, abinS, aun, aconv, afield, afieldAddr, aindexAddr, aindex, aslice, alow, ahigh, abuild, abuildGo, cellsOf, splice, fieldTy, alen, apick, amax, amin, aload, headV, aparts, abuildSlice, elParts, abytesStr, astore, amake, aappend, aclear, anew, arith, aresults, aresList, ares, spec0, spec1, spec2, spec3, spec4, eqCells, eqCell, sRoot, sCur, e13, e5, e6, e7, e8, e9, sKey, sSameRows, sCmp, l0, l1, rowAt_enc l1, l2, e2, e10, e11, e12]
end Go.Proofs.Ytkonafdbfciikaa
