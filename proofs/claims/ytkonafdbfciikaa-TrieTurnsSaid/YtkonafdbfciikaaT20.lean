/-
  layer 14: the law of the cursor functions.
-/
import Derived.Test.YtkonafdbfciikaaT19
namespace Go.Proofs.Ytkonafdbfciikaa
open Go.RowKit
set_option linter.unusedSimpArgs false
set_option linter.unusedVariables false
set_option maxRecDepth 100000

def WfI (l : List Int) : Prop := WfL I64 l
def WfLev (x : Level) : Prop := WfI x.keys ∧ WfI x.first
def WfTrie (t : Trie) : Prop := WfL WfLev t.levels
def WfCur (c : Cursor) : Prop := WfI c.at_ ∧ WfI c.end_
def TameT (t : Trie) : Prop := t.levels.length ≤ 12 ∧ ∀ x ∈ t.levels, x.keys.length ≤ 120 ∧ x.first.length ≤ 130
open Classical in
noncomputable def tameB (t : Trie) : Bool := decide (TameT t)
open Classical in
theorem tameB_yes {t : Trie} (h : TameT t) : tameB t = true := by unfold tameB; exact decide_eq_true h
open Classical in
theorem tameB_no {t : Trie} (h : ¬ TameT t) : tameB t = false := by unfold tameB; exact decide_eq_false h
theorem tame_small {t : Trie} (h : TameT t) (hw : WfTrie t) : SmallT t ∧ IntsT t :=
  ⟨⟨by have := h.1; omega, fun x hx => by have := h.2 x hx; omega⟩, fun x hx v hv => (hw.2 x hx).2.2 v hv⟩
noncomputable def sTame : List AV → Option (Prop × AV) := spec1 WfTrie (fun t => .bool (tameB t))
set_option maxHeartbeats 8000000 in
theorem tameL : PureOK Try.prog G0 27 sTame := by
  refine pure1 (C := CE) sigCE mixCE Try.func27 rfl rfl rfl (by kernel_rfl) (by decide) (fun t ⟨hl, hw⟩ => ?_)
  by_cases h1 : 12 < t.levels.length
  · have h1' : (12 : Int) < t.levels.length := by omega
    have e := tameB_no (t := t) fun h => by have := h.1; omega
    simp [aev, cav, look, acallPure, abin, abinN, abinP, abinI, abinS, aun, aconv, afield, afieldAddr, aindexAddr, aindex, aslice, alow, ahigh, abuild, abuildGo, cellsOf, splice, fieldTy, alen, apick, amax, amin, aload, headV, aparts, abuildSlice, elParts, abytesStr, astore, amake, aappend, aclear, anew, arith, aresults, aresList, ares, spec0, spec1, spec2, spec3, spec4, eqCells, eqCell, h1', e]
  have h1' : ¬ (12 : Int) < t.levels.length := by omega
  simp [aev, cav, look, acallPure, abin, abinN, abinP, abinI, abinS, aun, aconv, afield, afieldAddr, aindexAddr, aindex, aslice, alow, ahigh, abuild, abuildGo, cellsOf, splice, fieldTy, alen, apick, amax, amin, aload, headV, aparts, abuildSlice, elParts, abytesStr, astore, amake, aappend, aclear, anew, arith, aresults, aresList, ares, spec0, spec1, spec2, spec3, spec4, eqCells, eqCell, h1']
  refine loop_rule (C := CE) sigCE mixCE (fun i : Nat => ⟨[(1, .ptr 0 1 1 0 0), (10, Enc.enc t.levels), (11, .int .i64 t.levels.length), (12, .int .i64 i)], [TB t]⟩) (fun i => i ≤ t.levels.length ∧ ∀ j, j < i → (ix t.levels j).keys.length ≤ 120 ∧ (ix t.levels j).first.length ≤ 130) (fun i => t.levels.length - i) (by kernel_rfl) ⟨0, ⟨by omega, fun j hj => by omega⟩, weak_slots (by simp [TB])⟩ (fun i ⟨h2, h3⟩ => ?_)
  by_cases hi : i < t.levels.length
  · have i1 : I64 ((i : Int) + 1) := by unfold I64; omega
    by_cases k1 : 120 < (ix t.levels i).keys.length
    · have k1' : (120 : Int) < (ix t.levels i).keys.length := by omega
      have e := tameB_no (t := t) fun h => by have := (h.2 _ (ix_mem hi)).1; omega
      simp [aev, cav, look, acallPure, abin, abinN, abinP, abinI, abinS, aun, aconv, afield, afieldAddr, aindexAddr, aindex, aslice, alow, ahigh, abuild, abuildGo, cellsOf, splice, fieldTy, alen, apick, amax, amin, aload, headV, aparts, abuildSlice, elParts, abytesStr, astore, amake, aappend, aclear, anew, arith, aresults, aresList, ares, spec0, spec1, spec2, spec3, spec4, eqCells, eqCell, TB, hi, rowAt_enc hi, k1', e]
    have k1' : ¬ (120 : Int) < (ix t.levels i).keys.length := by omega
    by_cases k2 : 130 < (ix t.levels i).first.length
    · have k2' : (130 : Int) < (ix t.levels i).first.length := by omega
      have e := tameB_no (t := t) fun h => by have := (h.2 _ (ix_mem hi)).2; omega
      simp [aev, cav, look, acallPure, abin, abinN, abinP, abinI, abinS, aun, aconv, afield, afieldAddr, aindexAddr, aindex, aslice, alow, ahigh, abuild, abuildGo, cellsOf, splice, fieldTy, alen, apick, amax, amin, aload, headV, aparts, abuildSlice, elParts, abytesStr, astore, amake, aappend, aclear, anew, arith, aresults, aresList, ares, spec0, spec1, spec2, spec3, spec4, eqCells, eqCell, TB, hi, rowAt_enc hi, k1', k2', e]
    have k2' : ¬ (130 : Int) < (ix t.levels i).first.length := by omega
    simp [aev, cav, look, acallPure, abin, abinN, abinP, abinI, abinS, aun, aconv, afield, afieldAddr, aindexAddr, aindex, aslice, alow, ahigh, abuild, abuildGo, cellsOf, splice, fieldTy, alen, apick, amax, amin, aload, headV, aparts, abuildSlice, elParts, abytesStr, astore, amake, aappend, aclear, anew, arith, aresults, aresList, ares, spec0, spec1, spec2, spec3, spec4, eqCells, eqCell, TB, hi, rowAt_enc hi, k1', k2', i1]
    exact ⟨i + 1, ⟨by omega, fun j hj => by
      rcases Nat.lt_or_eq_of_le (Nat.le_of_lt_succ hj) with h | rfl
      · exact h3 j h
      · exact ⟨by omega, by omega⟩⟩, by omega, weak_keep 1 (by simp) (by simp) (by simp [AV.clean, AV.clean1]) (by simp) (by simp [TB])⟩
  · have e := tameB_yes (t := t) ⟨by omega, fun x hx => by
      obtain ⟨j, hj, rfl⟩ := List.getElem_of_mem hx
      rw [← ix_lt hj]
      exact h3 j (by omega)⟩
    simp [aev, cav, look, acallPure, abin, abinN, abinP, abinI, abinS, aun, aconv, afield, afieldAddr, aindexAddr, aindex, aslice, alow, ahigh, abuild, abuildGo, cellsOf, splice, fieldTy, alen, apick, amax, amin, aload, headV, aparts, abuildSlice, elParts, abytesStr, astore, amake, aappend, aclear, anew, arith, aresults, aresList, ares, spec0, spec1, spec2, spec3, spec4, eqCells, eqCell, TB, hi, e]

theorem short_of {c : Cursor} (h : SmallC c) : ShortC c := ⟨h.1, h.2.1⟩
theorem short_C0 : ShortC C0 := ⟨by show _ ≤ _; decide, by show _ ≤ _; decide⟩
theorem moved_short {c : Cursor} (h : ShortC c) (x : Int) : ShortC (movedF c x).1 := by
  unfold movedF
  split
  · exact short_C0
  · exact ⟨by have := h.1; unfold SmallR at this ⊢; simp only [mvC, List.length_set]; exact this, h.2⟩
theorem next_short {t : Trie} {c : Cursor} (h : ShortC c) : ShortC (nextF t c).1 := by
  unfold nextF
  split
  · exact moved_short h _
  · exact short_C0
theorem seek_short {t : Trie} {c : Cursor} (h : ShortC c) (x : Int) : ShortC (seekF t c x).1 := by
  unfold seekF
  split
  · exact moved_short h _
  · exact short_C0
theorem up_short {t : Trie} {c : Cursor} (h : ShortC c) : ShortC (upF t c).1 := by
  unfold upF
  split
  · obtain ⟨h1, h2⟩ := h
    unfold SmallR at h1 h2
    exact ⟨by show _ ≤ _; rw [List.length_take]; omega, by show _ ≤ _; rw [List.length_take]; omega⟩
  · exact short_C0
theorem down_short {t : Trie} {c : Cursor} (h1 : c.at_.length < 1000000) (h2 : c.end_.length < 1000000) : ShortC (downF t c).1 := by
  unfold downF
  split
  · exact ⟨by show _ ≤ _; simp; omega, by show _ ≤ _; simp; omega⟩
  · exact short_C0

noncomputable def CQ1 : Ctx := mkC Try.prog G0 [(27, .pure sTame), (11, .pure sAlive), (16, .pure sKey), (28, .pure sKey), (14, .pure (sCur downF)), (29, .pure (sCur downF)), (30, .pure (sCur upF)), (31, .pure (sCur upF)), (25, .pure (sCur nextF)), (32, .pure (sCur nextF)), (24, .pure sSeek), (33, .pure sSeek), (26, .pure sSameC)]
@[simp] theorem CQ1_P : CQ1.P = Try.prog := rfl
@[simp] theorem CQ1_1 : CQ1.S 27 = .pure sTame := rfl
@[simp] theorem CQ1_2 : CQ1.S 11 = .pure sAlive := rfl
@[simp] theorem CQ1_3 : CQ1.S 16 = .pure sKey := rfl
@[simp] theorem CQ1_4 : CQ1.S 28 = .pure sKey := rfl
@[simp] theorem CQ1_5 : CQ1.S 14 = .pure (sCur downF) := rfl
@[simp] theorem CQ1_6 : CQ1.S 29 = .pure (sCur downF) := rfl
@[simp] theorem CQ1_7 : CQ1.S 30 = .pure (sCur upF) := rfl
@[simp] theorem CQ1_8 : CQ1.S 31 = .pure (sCur upF) := rfl
@[simp] theorem CQ1_9 : CQ1.S 25 = .pure (sCur nextF) := rfl
@[simp] theorem CQ1_10 : CQ1.S 32 = .pure (sCur nextF) := rfl
@[simp] theorem CQ1_11 : CQ1.S 24 = .pure sSeek := rfl
@[simp] theorem CQ1_12 : CQ1.S 33 = .pure sSeek := rfl
@[simp] theorem CQ1_13 : CQ1.S 26 = .pure sSameC := rfl
theorem mixCQ1 : CQ1.P.follows .mixedOrders = true := mixed
theorem sigCQ1 : SigOK CQ1 := sigOK_cons (entryPure tameL Try.func27 rfl (by decide)) (sigOK_cons (entryPure aliveP Try.func11 rfl (by decide)) (sigOK_cons (entryPure keyP Try.func16 rfl (by decide)) (sigOK_cons (entryPure keyR Try.func28 rfl (by decide))
  (sigOK_cons (entryPure downP Try.func14 rfl (by decide)) (sigOK_cons (entryPure downR Try.func29 rfl (by decide)) (sigOK_cons (entryPure upP Try.func30 rfl (by decide)) (sigOK_cons (entryPure upR Try.func31 rfl (by decide))
  (sigOK_cons (entryPure nextP Try.func25 rfl (by decide)) (sigOK_cons (entryPure nextR Try.func32 rfl (by decide)) (sigOK_cons (entryPure seekP Try.func24 rfl (by decide)) (sigOK_cons (entryPure seekR Try.func33 rfl (by decide)) (sigOK_cons (entryPure sameCursorR Try.func26 rfl (by decide)) (sigOK_nil _ _)))))))))))))
set_option maxHeartbeats 16000000 in
theorem lawSteps : PureOK Try.prog G0 6 (spec3 (fun (t : Trie) (c : Cursor) (x : Int) => WfTrie t ∧ WfCur c) fun _ _ _ => .bool true) := by
  refine pure3 (C := CQ1) sigCQ1 mixCQ1 Try.func6 rfl rfl rfl (by kernel_rfl) (by decide) (fun t c x ⟨hT, hC⟩ => ?_)
  by_cases ht : TameT t
  case neg => simp [aev, cav, look, acallPure, abin, abinN, abinP, abinI, abinS, aun, aconv, afield, afieldAddr, aindexAddr, aindex, aslice, alow, ahigh, abuild, abuildGo, cellsOf, splice, fieldTy, alen, apick, amax, amin, aload, headV, aparts, abuildSlice, elParts, abytesStr, astore, amake, aappend, aclear, anew, arith, aresults, aresList, ares, spec0, spec1, spec2, spec3, spec4, eqCells, eqCell, sTame, sAlive, hT, tameB_no ht]
  have e0 := tameB_yes ht
  by_cases h1 : 20 < c.at_.length
  · have h1' : (20 : Int) < c.at_.length := by omega
    simp [aev, cav, look, acallPure, abin, abinN, abinP, abinI, abinS, aun, aconv, afield, afieldAddr, aindexAddr, aindex, aslice, alow, ahigh, abuild, abuildGo, cellsOf, splice, fieldTy, alen, apick, amax, amin, aload, headV, aparts, abuildSlice, elParts, abytesStr, astore, amake, aappend, aclear, anew, arith, aresults, aresList, ares, spec0, spec1, spec2, spec3, spec4, eqCells, eqCell, sTame, sAlive, hT, e0, h1']
  have h1' : ¬ (20 : Int) < c.at_.length := by omega
  by_cases h2 : 20 < c.end_.length
  · have h2' : (20 : Int) < c.end_.length := by omega
    simp [aev, cav, look, acallPure, abin, abinN, abinP, abinI, abinS, aun, aconv, afield, afieldAddr, aindexAddr, aindex, aslice, alow, ahigh, abuild, abuildGo, cellsOf, splice, fieldTy, alen, apick, amax, amin, aload, headV, aparts, abuildSlice, elParts, abytesStr, astore, amake, aappend, aclear, anew, arith, aresults, aresList, ares, spec0, spec1, spec2, spec3, spec4, eqCells, eqCell, sTame, sAlive, hT, e0, h1', h2']
  have h2' : ¬ (20 : Int) < c.end_.length := by omega
  have hS := tame_small ht hT
  have hc : SmallC c := ⟨by omega, by omega, hC.1.2, hC.2.2⟩
  have sc := short_of hc
  obtain ⟨k, b, hk⟩ : ∃ k b, keyF t c = (k, b) := ⟨_, _, rfl⟩
  obtain ⟨c1, b1, k1⟩ : ∃ k b, downF t c = (k, b) := ⟨_, _, rfl⟩
  obtain ⟨c2, b2, k2⟩ : ∃ k b, upF t c = (k, b) := ⟨_, _, rfl⟩
  obtain ⟨c3, b3, k3⟩ : ∃ k b, nextF t c = (k, b) := ⟨_, _, rfl⟩
  obtain ⟨c4, b4, k4⟩ : ∃ k b, seekF t c x = (k, b) := ⟨_, _, rfl⟩
  have s1 : ShortC c1 := by have := down_short (t := t) (c := c) (by omega) (by omega); rwa [k1] at this
  have s2 : ShortC c2 := by have := up_short (t := t) sc; rwa [k2] at this
  have s3 : ShortC c3 := by have := next_short (t := t) sc; rwa [k3] at this
  have s4 : ShortC c4 := by have := seek_short (t := t) sc x; rwa [k4] at this
  simp [aev, cav, look, acallPure, abin, abinN, abinP, abinI, abinS, aun, aconv, afield, afieldAddr, aindexAddr, aindex, aslice, alow, ahigh, abuild, abuildGo, cellsOf, splice, fieldTy, alen, apick, amax, amin, aload, headV, aparts, abuildSlice, elParts, abytesStr, astore, amake, aappend, aclear, anew, arith, aresults, aresList, ares, spec0, spec1, spec2, spec3, spec4, eqCells, eqCell, sTame, sAlive, sKey, sCur, sSeek, sSameC, hT, e0, h1', h2', hS, hc, hk, k1, k2, k3, k4, s1, s2, s3, s4]
end Go.Proofs.Ytkonafdbfciikaa
