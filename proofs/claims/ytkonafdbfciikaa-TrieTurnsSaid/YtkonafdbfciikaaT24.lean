/-
  layer 14: the law on Seek.
-/
import Derived.Test.YtkonafdbfciikaaT23
namespace Go.Proofs.Ytkonafdbfciikaa
open Go.RowKit
set_option linter.unusedSimpArgs false
set_option linter.unusedVariables false
set_option maxRecDepth 100000

def FewR (l : List (List Int)) : Prop := l.length ≤ 120 ∧ ∀ r ∈ l, r.length ≤ 12
open Classical in
noncomputable def fewB (l : List (List Int)) : Bool := decide (FewR l)
open Classical in
theorem fewB_yes {l : List (List Int)} (h : FewR l) : fewB l = true := by unfold fewB; exact decide_eq_true h
open Classical in
theorem fewB_no {l : List (List Int)} (h : ¬ FewR l) : fewB l = false := by unfold fewB; exact decide_eq_false h
theorem few_small {l : List (List Int)} (h : FewR l) : SmallRs l := ⟨by have := h.1; omega, fun r hr => by have := h.2 r hr; show _ ≤ _; omega⟩
noncomputable def sSmall : List AV → Option (Prop × AV) := spec1 (fun (l : List (List Int)) => l.length ≤ maxLen) (fun l => .bool (fewB l))
set_option maxHeartbeats 8000000 in
theorem smallL : PureOK Try.prog G0 10 sSmall := by
  refine pure1 (C := CE) sigCE mixCE Try.func10 rfl rfl rfl (by kernel_rfl) (by decide) (fun l hl => ?_)
  by_cases h1 : 120 < l.length
  · have h1' : (120 : Int) < l.length := by omega
    have e := fewB_no (l := l) fun h => by have := h.1; omega
    simp [aev, cav, look, acallPure, abin, abinN, abinP, abinI, abinS, aun, aconv, afield, afieldAddr, aindexAddr, aindex, aslice, alow, ahigh, abuild, abuildGo, cellsOf, splice, fieldTy, alen, apick, amax, amin, aload, headV, aparts, abuildSlice, elParts, abytesStr, astore, amake, aappend, aclear, anew, arith, aresults, aresList, ares, spec0, spec1, spec2, spec3, spec4, eqCells, eqCell, h1', e]
  have h1' : ¬ (120 : Int) < l.length := by omega
  simp [aev, cav, look, acallPure, abin, abinN, abinP, abinI, abinS, aun, aconv, afield, afieldAddr, aindexAddr, aindex, aslice, alow, ahigh, abuild, abuildGo, cellsOf, splice, fieldTy, alen, apick, amax, amin, aload, headV, aparts, abuildSlice, elParts, abytesStr, astore, amake, aappend, aclear, anew, arith, aresults, aresList, ares, spec0, spec1, spec2, spec3, spec4, eqCells, eqCell, h1']
  refine loop_rule (C := CE) sigCE mixCE (fun i : Nat => ⟨[(8, Enc.enc l), (9, .int .i64 l.length), (10, .int .i64 i)], []⟩) (fun i => i ≤ l.length ∧ ∀ j, j < i → (ix l j).length ≤ 12) (fun i => l.length - i) (by kernel_rfl) ⟨0, ⟨by omega, fun j hj => by omega⟩, weak_slots (by simp)⟩ (fun i ⟨h2, h3⟩ => ?_)
  by_cases hi : i < l.length
  · have i1 : I64 ((i : Int) + 1) := by unfold I64; omega
    by_cases k1 : 12 < (ix l i).length
    · have k1' : (12 : Int) < (ix l i).length := by omega
      have e := fewB_no (l := l) fun h => by have := h.2 _ (ix_mem hi); omega
      simp [aev, cav, look, acallPure, abin, abinN, abinP, abinI, abinS, aun, aconv, afield, afieldAddr, aindexAddr, aindex, aslice, alow, ahigh, abuild, abuildGo, cellsOf, splice, fieldTy, alen, apick, amax, amin, aload, headV, aparts, abuildSlice, elParts, abytesStr, astore, amake, aappend, aclear, anew, arith, aresults, aresList, ares, spec0, spec1, spec2, spec3, spec4, eqCells, eqCell, hi, rowAt_enc hi, k1', e]
    have k1' : ¬ (12 : Int) < (ix l i).length := by omega
    simp [aev, cav, look, acallPure, abin, abinN, abinP, abinI, abinS, aun, aconv, afield, afieldAddr, aindexAddr, aindex, aslice, alow, ahigh, abuild, abuildGo, cellsOf, splice, fieldTy, alen, apick, amax, amin, aload, headV, aparts, abuildSlice, elParts, abytesStr, astore, amake, aappend, aclear, anew, arith, aresults, aresList, ares, spec0, spec1, spec2, spec3, spec4, eqCells, eqCell, hi, rowAt_enc hi, k1', i1]
    exact ⟨i + 1, ⟨by omega, fun j hj => by
      rcases Nat.lt_or_eq_of_le (Nat.le_of_lt_succ hj) with h | rfl
      · exact h3 j h
      · omega⟩, by omega, weak_slots (by simp)⟩
  · have e := fewB_yes (l := l) ⟨by omega, fun x hx => by
      obtain ⟨j, hj, rfl⟩ := List.getElem_of_mem hx
      rw [← ix_lt hj]
      exact h3 j (by omega)⟩
    simp [aev, cav, look, acallPure, abin, abinN, abinP, abinI, abinS, aun, aconv, afield, afieldAddr, aindexAddr, aindex, aslice, alow, ahigh, abuild, abuildGo, cellsOf, splice, fieldTy, alen, apick, amax, amin, aload, headV, aparts, abuildSlice, elParts, abytesStr, astore, amake, aappend, aclear, anew, arith, aresults, aresList, ares, spec0, spec1, spec2, spec3, spec4, eqCells, eqCell, hi, e]

theorem marksF_bound (l : List (List Int)) (n : Nat) : ∀ m, ∀ v ∈ marksF l n m, 0 ≤ v ∧ v ≤ m
  | 0, v, hv => by simp [marksF] at hv; omega
  | m + 1, v, hv => by
    rw [marksF] at hv
    split at hv
    · rcases List.mem_append.1 hv with h | h
      · have := marksF_bound l n m v h; omega
      · have := keysF_le l n m
        simp at h
        omega
    · have := marksF_bound l n m v hv; omega
theorem level_small {l : List (List Int)} (hl : l.length ≤ 20000) (n : Nat) : (levelF l n).keys.length ≤ l.length ∧ (levelF l n).first.length ≤ l.length + 2 ∧ ∀ v ∈ (levelF l n).first, I64 v := by
  refine ⟨keysF_le l n _, ?_, ?_⟩
  · unfold levelF
    simp only
    split
    · have := marksF_le l n l.length; simp; omega
    · simp
  · intro v hv
    unfold levelF at hv
    simp only at hv
    split at hv
    · rcases List.mem_append.1 hv with h | h
      · have := marksF_bound l n _ v h; unfold I64; omega
      · have := keysF_le l n l.length
        simp at h
        unfold I64; omega
    · simp at hv; unfold I64; omega
theorem build_small (r : Rela) (hr : r.rows.length ≤ 20000) : SmallT (buildF r).1 ∧ IntsT (buildF r).1 := by
  unfold buildF
  split
  · rename_i h
    obtain ⟨⟨w1, w2, _⟩, _, _⟩ := check_ok h
    refine ⟨⟨by rw [levelsF_length]; omega, fun x hx => ?_⟩, fun x hx v hv => ?_⟩
    · obtain ⟨n, _, rfl⟩ := List.mem_map.1 hx
      have := level_small hr n
      omega
    · obtain ⟨n, _, rfl⟩ := List.mem_map.1 hx
      exact (level_small hr n).2.2 v hv
  · exact ⟨⟨Nat.zero_le _, fun x hx => by simp at hx⟩, fun x hx => by simp at hx⟩
theorem build_keys (r : Rela) (hr : r.rows.length ≤ 20000) : ∀ x ∈ (buildF r).1.levels, x.keys.length ≤ r.rows.length := by
  unfold buildF
  split
  · intro x hx
    obtain ⟨n, _, rfl⟩ := List.mem_map.1 hx
    exact (level_small hr n).1
  · intro x hx
    simp at hx

/-- The cursor at key j of the first level. -/
def cAt (n j : Nat) : Cursor := ⟨[(j : Int)], [(n : Int)]⟩
theorem first_level {t : Trie} (h : ValidT t) : 0 < t.levels.length ∧ ∀ c : Cursor, sibA t c 0 = 0 ∧ sibZ t c 0 = ((ix t.levels 0).keys.length : Int) := by
  have hp : 0 < t.levels.length := h.1
  obtain ⟨_, _, b, h3, _⟩ := valid_shaped h
  have h4 := (((shape_iff _ _ _ _).1 h3).1 0 hp).1
  rw [if_pos rfl] at h4
  exact ⟨hp, fun c => ⟨by unfold sibA grp; rw [if_pos rfl]; exact h4.2.1, by unfold sibZ grp; rw [if_pos rfl]; exact h4.2.2⟩⟩
theorem fine_cAt {t : Trie} (h : ValidT t) {n j : Nat} (hn : (ix t.levels 0).keys.length = n) (hj : j < n) : FineT t (cAt n j) := by
  obtain ⟨hp, hs⟩ := first_level h
  refine ⟨h, rfl, hp, fun k hk => ?_⟩
  have hk : k < 1 := hk
  obtain rfl : k = 0 := by omega
  obtain ⟨s1, s2⟩ := hs (cAt n j)
  unfold StepOK
  rw [s1, s2, hn]
  exact ⟨Int.natCast_nonneg j, Int.ofNat_lt.2 hj, rfl⟩
theorem key_cAt {t : Trie} (h : ValidT t) {n j : Nat} (hn : (ix t.levels 0).keys.length = n) (hj : j < n) : keyF t (cAt n j) = (ix (ix t.levels 0).keys j, true) := by
  unfold keyF
  rw [if_pos ⟨fine_cAt h hn hj, by simp [cAt]⟩]
  rfl
theorem moved_cAt (n j : Nat) (x : Nat) : movedF (cAt n j) x = if n ≤ x then (C0, false) else (cAt n x, true) := by
  have e : ix (cAt n j).end_ ((cAt n j).at_.length - 1) = (n : Int) := rfl
  unfold movedF
  rw [e]
  by_cases h : n ≤ x
  · rw [if_pos (Int.ofNat_le.2 h), if_pos h]
  · rw [if_neg (fun h2 => h (Int.ofNat_le.1 h2)), if_neg h]; rfl
theorem next_cAt {t : Trie} (h : ValidT t) {n j : Nat} (hn : (ix t.levels 0).keys.length = n) (hj : j < n) : nextF t (cAt n j) = if n ≤ j + 1 then (C0, false) else (cAt n (j + 1), true) := by
  unfold nextF
  rw [if_pos ⟨fine_cAt h hn hj, by simp [cAt]⟩]
  exact moved_cAt n j (j + 1)
theorem seek_cAt {t : Trie} (h : ValidT t) {n j : Nat} (hn : (ix t.levels 0).keys.length = n) (hj : j < n) (x : Int) : seekF t (cAt n j) x = if n ≤ j + lbd ((ix t.levels 0).keys.drop j) x then (C0, false) else (cAt n (j + lbd ((ix t.levels 0).keys.drop j) x), true) := by
  unfold seekF
  rw [if_pos ⟨fine_cAt h hn hj, by simp [cAt]⟩]
  have e1 : ix (cAt n j).at_ ((cAt n j).at_.length - 1) = (j : Int) := rfl
  have e2 : ix (cAt n j).end_ ((cAt n j).at_.length - 1) = (n : Int) := rfl
  have e3 : (cAt n j).at_.length - 1 = 0 := rfl
  rw [e1, e2, e3, Int.toNat_natCast, Int.toNat_natCast]
  have e4 : segL (ix t.levels 0).keys j n = (ix t.levels 0).keys.drop j := by unfold segL; rw [← hn, List.take_length]
  rw [e4]
  exact moved_cAt n j _
theorem down_root {t : Trie} : (downF t C0 = (C0, false)) ∨ (ValidT t ∧ 0 < (ix t.levels 0).keys.length ∧ downF t C0 = (cAt (ix t.levels 0).keys.length 0, true)) := by
  by_cases h : FineT t C0 ∧ C0.at_.length < t.levels.length ∧ sibA t C0 C0.at_.length ≠ sibZ t C0 C0.at_.length
  · right
    obtain ⟨hF, h1, h2⟩ := h
    have hv := hF.1
    obtain ⟨hp, hs⟩ := first_level hv
    obtain ⟨s1, s2⟩ := hs C0
    have e : C0.at_.length = 0 := rfl
    rw [e, s1, s2] at h2
    refine ⟨hv, by omega, ?_⟩
    unfold downF
    rw [if_pos ⟨hF, h1, by rw [e, s1, s2]; exact h2⟩, e, s1, s2]
    rfl
  · left
    unfold downF
    rw [if_neg h]

noncomputable def CT1 : Ctx := mkC Try.prog G0 [(10, .pure sSmall), (11, .pure sAlive), (12, .pure sOf), (13, .pure sBuild), (15, .pure sRoot), (14, .pure (sCur downF)), (24, .pure sSeek), (16, .pure sKey), (25, .pure (sCur nextF)), (26, .pure sSameC), (30, .pure (sCur upF)), (20, .pure sValid), (19, .pure sOf), (21, .pure sCheck), (22, .pure sSameRows), (17, .pure sCmp)]
@[simp] theorem CT1_1 : CT1.S 10 = .pure (sSmall) := rfl
@[simp] theorem CT1_2 : CT1.S 11 = .pure (sAlive) := rfl
@[simp] theorem CT1_3 : CT1.S 12 = .pure (sOf) := rfl
@[simp] theorem CT1_4 : CT1.S 13 = .pure (sBuild) := rfl
@[simp] theorem CT1_5 : CT1.S 15 = .pure (sRoot) := rfl
@[simp] theorem CT1_6 : CT1.S 14 = .pure (sCur downF) := rfl
@[simp] theorem CT1_7 : CT1.S 24 = .pure (sSeek) := rfl
@[simp] theorem CT1_8 : CT1.S 16 = .pure (sKey) := rfl
@[simp] theorem CT1_9 : CT1.S 25 = .pure (sCur nextF) := rfl
@[simp] theorem CT1_10 : CT1.S 26 = .pure (sSameC) := rfl
@[simp] theorem CT1_11 : CT1.S 30 = .pure (sCur upF) := rfl
@[simp] theorem CT1_12 : CT1.S 20 = .pure (sValid) := rfl
@[simp] theorem CT1_13 : CT1.S 19 = .pure (sOf) := rfl
@[simp] theorem CT1_14 : CT1.S 21 = .pure (sCheck) := rfl
@[simp] theorem CT1_15 : CT1.S 22 = .pure (sSameRows) := rfl
@[simp] theorem CT1_16 : CT1.S 17 = .pure (sCmp) := rfl
@[simp] theorem CT1_P : CT1.P = Try.prog := rfl
theorem mixCT1 : CT1.P.follows .mixedOrders = true := mixed
theorem sigCT1 : SigOK CT1 := sigOK_cons (entryPure smallL Try.func10 rfl (by decide)) (sigOK_cons (entryPure aliveP Try.func11 rfl (by decide)) (sigOK_cons (entryPure ofR Try.func12 rfl (by decide)) (sigOK_cons (entryPure buildP Try.func13 rfl (by decide)) (sigOK_cons (entryPure rootP Try.func15 rfl (by decide)) (sigOK_cons (entryPure downP Try.func14 rfl (by decide)) (sigOK_cons (entryPure seekP Try.func24 rfl (by decide)) (sigOK_cons (entryPure keyP Try.func16 rfl (by decide)) (sigOK_cons (entryPure nextP Try.func25 rfl (by decide)) (sigOK_cons (entryPure sameCursorR Try.func26 rfl (by decide))
  (sigOK_cons (entryPure upP Try.func30 rfl (by decide)) (sigOK_cons (entryPure validP Try.func20 rfl (by decide)) (sigOK_cons (entryPure ofP Try.func19 rfl (by decide)) (sigOK_cons (entryPure checkP Try.func21 rfl (by decide)) (sigOK_cons (entryPure sameRowsR Try.func22 rfl (by decide)) (sigOK_cons (entryPure cmpR Try.func17 rfl (by decide)) (sigOK_nil _ _))))))))))))))))

theorem small_cAt {n j : Nat} (hn : n ≤ 1000000) (hj : j < n) : SmallC (cAt n j) := ⟨by show 1 ≤ _; decide, by show 1 ≤ _; decide, fun v hv => by simp [cAt] at hv; unfold I64; omega, fun v hv => by simp [cAt] at hv; unfold I64; omega⟩
set_option maxHeartbeats 16000000 in
theorem lawSeeks : PureOK Try.prog G0 5 (spec2 (fun (l : List (List Int)) (x : Int) => l.length ≤ maxLen) fun _ _ => .bool true) := by
  refine pureH2 (C := CT1) sigCT1 mixCT1 Try.func5 rfl rfl rfl [7] (by kernel_rfl) (by decide) (fun l x hl => ?_)
  by_cases hf : FewR l
  case neg => simp [aev, cav, look, acallPure, abin, abinN, abinP, abinI, abinS, aun, aconv, afield, afieldAddr, aindexAddr, aindex, aslice, alow, ahigh, abuild, abuildGo, cellsOf, splice, fieldTy, alen, apick, amax, amin, aload, headV, aparts, abuildSlice, elParts, abytesStr, astore, amake, aappend, aclear, anew, arith, aresults, aresList, ares, spec0, spec1, spec2, spec3, spec4, eqCells, eqCell, sSmall, sAlive, hl, fewB_no hf]
  have e0 := fewB_yes hf
  have hS := few_small hf
  obtain ⟨r, e, he⟩ : ∃ r e, ofF 2 l = (r, e) := ⟨_, _, rfl⟩
  rcases em2 (e = 0) with h0 | h0
  case inr => simp [aev, cav, look, acallPure, abin, abinN, abinP, abinI, abinS, aun, aconv, afield, afieldAddr, aindexAddr, aindex, aslice, alow, ahigh, abuild, abuildGo, cellsOf, splice, fieldTy, alen, apick, amax, amin, aload, headV, aparts, abuildSlice, elParts, abytesStr, astore, amake, aappend, aclear, anew, arith, aresults, aresList, ares, spec0, spec1, spec2, spec3, spec4, eqCells, eqCell, sSmall, sAlive, sOf, hl, e0, hS, he, h0]
  have h0' := of_eq_true h0
  subst h0'
  have hr : r.rows = sortedF l ∧ r.rows.length ≤ 120 := by
    have h1 := sortedF_len l
    have h2 := hf.1
    unfold ofF at he
    split at he
    · split at he
      · cases he
      · injection he with he1 he2; subst he1; exact ⟨rfl, by show (sortedF l).length ≤ 120; omega⟩
    · cases he
  have hrS : SmallRs r.rows := ⟨by omega, fun y hy => hS.2 y (by rw [hr.1] at hy; exact (sortedF_mem l y).1 hy)⟩
  obtain ⟨t, e2, ht⟩ : ∃ t e, buildF r = (t, e) := ⟨_, _, rfl⟩
  have hT : SmallT t ∧ IntsT t := by have := build_small r (by omega); rwa [ht] at this
  have hK : ∀ y ∈ t.levels, y.keys.length ≤ 120 := by
    intro y hy
    have := build_keys r (by omega)
    rw [ht] at this
    have := this y hy
    omega
  have sc0 := small_C (.inl rfl)
  have sh0 := short_C0
  simp [aev, cav, look, acallPure, abin, abinN, abinP, abinI, abinS, aun, aconv, afield, afieldAddr, aindexAddr, aindex, aslice, alow, ahigh, abuild, abuildGo, cellsOf, splice, fieldTy, alen, apick, amax, amin, aload, headV, aparts, abuildSlice, elParts, abytesStr, astore, amake, aappend, aclear, anew, arith, aresults, aresList, ares, spec0, spec1, spec2, spec3, spec4, eqCells, eqCell, sSmall, sAlive, sOf, sBuild, hl, e0, hS, he, hrS, ht]
  refine AW_regionF sigCT1 mixCT1 [.read, .read, .read, .pure, .pure, .pure, .eff, .eff, .pure] [[],[],[1,0],[0,1,2],[2,1,0,3],[2,1,0,3],[],[3,0,1,2,4,6],[6,4,7,3,0,1,2,5]] (by kernel_rfl) (by kernel_rfl) (by kernel_rfl) (by kernel_rfl) ?_
  rcases down_root (t := t) with hd | ⟨hv, hpos, hd⟩
  · have hsk : seekF t C0 x = (C0, false) := by unfold seekF; rw [if_neg (fun h => h.2 rfl)]
    simp [aev, cav, look, acallPure, abin, abinN, abinP, abinI, abinS, aun, aconv, afield, afieldAddr, aindexAddr, aindex, aslice, alow, ahigh, abuild, abuildGo, cellsOf, splice, fieldTy, alen, apick, amax, amin, aload, headV, aparts, abuildSlice, elParts, abytesStr, astore, amake, aappend, aclear, anew, arith, aresults, aresList, ares, spec0, spec1, spec2, spec3, spec4, eqCells, eqCell, sRoot, sCur, sSeek, hT, sc0, hd, hsk]
    refine loop_ruleH (C := CT1) sigCT1 mixCT1 [7] (fun _ : Unit => ⟨[(1, .int .i64 x), (7, .ptr 1 1 1 0 0), (9, .ptr 2 1 2 0 0), (10, .bool false), (11, .ptr 3 1 2 0 0), (12, .bool false), (45, .int .i64 0)], [RB r, TB t, CB C0, CB C0]⟩) (fun _ => True) (fun _ => 0) (by kernel_rfl) ⟨(), trivial, weak_eq (by simp) (by simp [RB, TB, CB])⟩ (fun _ _ => ?_)
    simp [aev, cav, look, acallPure, abin, abinN, abinP, abinI, abinS, aun, aconv, afield, afieldAddr, aindexAddr, aindex, aslice, alow, ahigh, abuild, abuildGo, cellsOf, splice, fieldTy, alen, apick, amax, amin, aload, headV, aparts, abuildSlice, elParts, abytesStr, astore, amake, aappend, aclear, anew, arith, aresults, aresList, ares, spec0, spec1, spec2, spec3, spec4, eqCells, eqCell, RB, TB, CB, sAlive]
  · obtain ⟨n, hn⟩ : ∃ n, (ix t.levels 0).keys.length = n := ⟨_, rfl⟩
    rw [hn] at hd hpos
    have hn120 : n ≤ 120 := by rw [← hn]; exact hK _ (ix_mem (first_level hv).1)
    have hsk := seek_cAt hv hn hpos x
    rw [List.drop_zero, Nat.zero_add] at hsk
    obtain ⟨d, is_, hd2⟩ : ∃ d b, seekF t (cAt n 0) x = (d, b) := ⟨_, _, rfl⟩
    rw [hd2] at hsk
    have sc1 := small_cAt (n := n) (j := 0) (by omega) hpos
    simp [aev, cav, look, acallPure, abin, abinN, abinP, abinI, abinS, aun, aconv, afield, afieldAddr, aindexAddr, aindex, aslice, alow, ahigh, abuild, abuildGo, cellsOf, splice, fieldTy, alen, apick, amax, amin, aload, headV, aparts, abuildSlice, elParts, abytesStr, astore, amake, aappend, aclear, anew, arith, aresults, aresList, ares, spec0, spec1, spec2, spec3, spec4, eqCells, eqCell, sRoot, sCur, sSeek, hT, sc0, sc1, hd, hd2]
    refine loop_ruleH (C := CT1) sigCT1 mixCT1 [7] (fun i : Nat => ⟨[(1, .int .i64 x), (7, .ptr 1 1 1 0 0), (9, .ptr 2 1 2 0 0), (10, .bool (decide (i < n))), (11, .ptr 3 1 2 0 0), (12, .bool is_), (45, .int .i64 i)], [RB r, TB t, CB (if i < n then cAt n i else C0), CB d]⟩) (fun i => i ≤ n ∧ ∀ j, j < i → ix (ix t.levels 0).keys j < x) (fun i => n - i) (by kernel_rfl) ⟨0, ⟨Nat.zero_le _, fun j hj => absurd hj (Nat.not_lt_zero j)⟩, weak_eq (by simp [hpos]) (by simp [RB, TB, CB, hpos])⟩ (fun i ⟨h1, h2⟩ => ?_)
    have i200 : (i : Int) < 200 := by omega
    by_cases hi : i < n
    · have i1 : I64 ((i : Int) + 1) := by unfold I64; omega
      have sci := small_cAt (n := n) (j := i) (by omega) hi
      have hk := key_cAt hv hn hi
      have hx := next_cAt hv hn hi
      have hil : i < (ix t.levels 0).keys.length := by omega
      by_cases hge : x ≤ ix (ix t.levels 0).keys i
      · have hl : lbd (ix t.levels 0).keys x = i := lbd_at h2 (by omega) (fun _ => hge)
        rw [hl, if_neg (by omega)] at hsk
        injection hsk with q1 q2
        subst q1 q2
        have sh := short_of sci
        simp [aev, cav, look, acallPure, abin, abinN, abinP, abinI, abinS, aun, aconv, afield, afieldAddr, aindexAddr, aindex, aslice, alow, ahigh, abuild, abuildGo, cellsOf, splice, fieldTy, alen, apick, amax, amin, aload, headV, aparts, abuildSlice, elParts, abytesStr, astore, amake, aappend, aclear, anew, arith, aresults, aresList, ares, spec0, spec1, spec2, spec3, spec4, eqCells, eqCell, RB, TB, CB, sKey, sSameC, sAlive, i200, hi, hT, sci, sh, hk, hge]
      · by_cases hlast : n ≤ i + 1
        · rw [if_pos hlast] at hx
          have hni : ¬ i + 1 < n := by omega
          simp [aev, cav, look, acallPure, abin, abinN, abinP, abinI, abinS, aun, aconv, afield, afieldAddr, aindexAddr, aindex, aslice, alow, ahigh, abuild, abuildGo, cellsOf, splice, fieldTy, alen, apick, amax, amin, aload, headV, aparts, abuildSlice, elParts, abytesStr, astore, amake, aappend, aclear, anew, arith, aresults, aresList, ares, spec0, spec1, spec2, spec3, spec4, eqCells, eqCell, RB, TB, CB, sKey, sCur, sSameC, sAlive, i200, hi, hT, sci, hk, hge, hx, i1]
          exact ⟨i + 1, ⟨by omega, fun j hj => by
            rcases Nat.lt_or_eq_of_le (Nat.le_of_lt_succ hj) with h | rfl
            · exact h2 j h
            · omega⟩, by omega, weak_eq (by simp [hni]) (by simp [hni])⟩
        · rw [if_neg hlast] at hx
          have hni : i + 1 < n := by omega
          simp [aev, cav, look, acallPure, abin, abinN, abinP, abinI, abinS, aun, aconv, afield, afieldAddr, aindexAddr, aindex, aslice, alow, ahigh, abuild, abuildGo, cellsOf, splice, fieldTy, alen, apick, amax, amin, aload, headV, aparts, abuildSlice, elParts, abytesStr, astore, amake, aappend, aclear, anew, arith, aresults, aresList, ares, spec0, spec1, spec2, spec3, spec4, eqCells, eqCell, RB, TB, CB, sKey, sCur, sSameC, sAlive, i200, hi, hT, sci, hk, hge, hx, i1]
          exact ⟨i + 1, ⟨by omega, fun j hj => by
            rcases Nat.lt_or_eq_of_le (Nat.le_of_lt_succ hj) with h | rfl
            · exact h2 j h
            · omega⟩, by omega, weak_eq (by simp [hni]) (by simp [hni])⟩
    · have hin : i = n := by omega
      subst hin
      have hl : lbd (ix t.levels 0).keys x = i := lbd_at h2 (by omega) (fun h => by omega)
      rw [hl, if_pos (Nat.le_refl _)] at hsk
      injection hsk with q1 q2
      subst q1 q2
      simp [aev, cav, look, acallPure, abin, abinN, abinP, abinI, abinS, aun, aconv, afield, afieldAddr, aindexAddr, aindex, aslice, alow, ahigh, abuild, abuildGo, cellsOf, splice, fieldTy, alen, apick, amax, amin, aload, headV, aparts, abuildSlice, elParts, abytesStr, astore, amake, aappend, aclear, anew, arith, aresults, aresList, ares, spec0, spec1, spec2, spec3, spec4, eqCells, eqCell, RB, TB, CB, sAlive, i200, hi]
end Go.Proofs.Ytkonafdbfciikaa
