/-
  layer 18: what a path pattern and a clause are held against, the reference's side: leaf functions.
-/
import Derived.Test.YthcfnaglgoaikaaGreatR1
namespace Go.Proofs.YthcfnaglgoaikaaGreat
open Go.RowKit
set_option linter.unusedSimpArgs false
set_option linter.unusedVariables false
set_option maxRecDepth 100000

section
variable {m : Int}
def sWd : List AV → Option (Prop × AV) := spec1 (fun (_ : ByteArray) => True) (fun s => .bool (wordB s))
noncomputable def CWr (m : Int) : Ctx := mkC Tryz.prog (G m) [(70, .pure sWd)]
@[simp] theorem CWr_P (m : Int) : (CWr m).P = Tryz.prog := rfl
@[simp] theorem CWr_1 (m : Int) : (CWr m).S 70 = .pure sWd := rfl
theorem mixCWr (m : Int) : (CWr m).P.follows .mixedOrders = true := mixed
theorem sigCWr (m : Int) : SigOK (CWr m) := sigOK_cons (entryPure wordR Tryz.func70 rfl (by decide)) (sigOK_nil _ _)
def sFree : List AV → Option (Prop × AV) := spec1 (fun (_ : ByteArray) => True) (fun s => .bool (freeB s))
theorem freeR : PureOK Tryz.prog (G m) 57 sFree := by
  refine pure1 (C := CWr m) (sigCWr m) (mixCWr m) Tryz.func57 rfl rfl rfl (by kernel_rfl) (by decide) (fun s _ => ?_)
  rcases em2 (s = ⟨#[]⟩) with h | h <;> simp [aev, cav, look, acallPure, abin, abinN, abinP, abinI, abinS, aun, aconv, afield, afieldAddr, aindexAddr, aindex, aslice, alow, ahigh, abuild, abuildGo, cellsOf, splice, fieldTy, alen, apick, amax, amin, aload, headV, aparts, abuildSlice, elParts, abytesStr, astore, amake, aappend, anew, arith, aresults, aresList, ares, spec0, spec1, spec2, spec3, spec4, eqCells, eqCell, sWd, freeB, h]
theorem all_at {α : Type} [Inhabited α] {f : α → Bool} {l : List α} {i : Nat} (h : i < l.length) (h' : f (ix l i) = false) : l.all f = false := by
  rw [List.all_eq_false]
  exact ⟨ix l i, ix_mem h, by rw [h']; simp⟩
set_option maxHeartbeats 4000000 in
theorem wsR : PureOK Tryz.prog (G m) 59 sWs := by
  refine pure1 (C := CWr m) (sigCWr m) (mixCWr m) Tryz.func59 rfl rfl rfl (by kernel_rfl) (by decide) (fun l hl => ?_)
  have hl' := maxLen_le hl
  obtain ⟨R, hR⟩ : ∃ R, R = l.all wordB := ⟨_, rfl⟩
  rw [← hR]
  simp [aev, cav, look, acallPure, abin, abinN, abinP, abinI, abinS, aun, aconv, afield, afieldAddr, aindexAddr, aindex, aslice, alow, ahigh, abuild, abuildGo, cellsOf, splice, fieldTy, alen, apick, amax, amin, aload, headV, aparts, abuildSlice, elParts, abytesStr, astore, amake, aappend, anew, arith, aresults, aresList, ares, spec0, spec1, spec2, spec3, spec4, eqCells, eqCell]
  refine loop_rule (C := CWr m) (sigCWr m) (mixCWr m) (fun i : Nat => ⟨[(0, Enc.enc l), (3, .int .i64 i)], []⟩) (fun i => i ≤ l.length ∧ (l.drop i).all wordB = R) (fun i => l.length - i) (by kernel_rfl) ⟨0, ⟨by omega, by rw [hR]; rfl⟩, weak_slots (by simp)⟩ (fun i ⟨hi, hs⟩ => ?_)
  by_cases hlt : i < l.length
  · have i1 : I64 ((i : Int) + 1) := by unfold I64; omega
    rw [all_drop hlt] at hs
    cases h3 : wordB (ix l i)
    · rw [h3, Bool.false_and] at hs
      simp [aev, cav, look, acallPure, abin, abinN, abinP, abinI, abinS, aun, aconv, afield, afieldAddr, aindexAddr, aindex, aslice, alow, ahigh, abuild, abuildGo, cellsOf, splice, fieldTy, alen, apick, amax, amin, aload, headV, aparts, abuildSlice, elParts, abytesStr, astore, amake, aappend, anew, arith, aresults, aresList, ares, spec0, spec1, spec2, spec3, spec4, eqCells, eqCell, hlt, rowAt_enc hlt, sWd, h3, ← hs]
    · rw [h3, Bool.true_and] at hs
      simp [aev, cav, look, acallPure, abin, abinN, abinP, abinI, abinS, aun, aconv, afield, afieldAddr, aindexAddr, aindex, aslice, alow, ahigh, abuild, abuildGo, cellsOf, splice, fieldTy, alen, apick, amax, amin, aload, headV, aparts, abuildSlice, elParts, abytesStr, astore, amake, aappend, anew, arith, aresults, aresList, ares, spec0, spec1, spec2, spec3, spec4, eqCells, eqCell, hlt, rowAt_enc hlt, sWd, h3, i1]
      exact ⟨i + 1, ⟨by omega, hs⟩, by omega, weak_slots (by simp)⟩
  · rw [List.drop_eq_nil_of_le (by omega), List.all_nil] at hs
    simp [aev, cav, look, acallPure, abin, abinN, abinP, abinI, abinS, aun, aconv, afield, afieldAddr, aindexAddr, aindex, aslice, alow, ahigh, abuild, abuildGo, cellsOf, splice, fieldTy, alen, apick, amax, amin, aload, headV, aparts, abuildSlice, elParts, abytesStr, astore, amake, aappend, anew, arith, aresults, aresList, ares, spec0, spec1, spec2, spec3, spec4, eqCells, eqCell, hlt, ← hs]
set_option maxHeartbeats 4000000 in
theorem risesR : PureOK Tryz.prog (G m) 61 sRs := by
  refine pure1 (C := CE m) (sigCE m) (mixCE m) Tryz.func61 rfl rfl rfl (by kernel_rfl) (by decide) (fun l hl => ?_)
  have hl' := maxLen_le hl
  simp [aev, cav, look, acallPure, abin, abinN, abinP, abinI, abinS, aun, aconv, afield, afieldAddr, aindexAddr, aindex, aslice, alow, ahigh, abuild, abuildGo, cellsOf, splice, fieldTy, alen, apick, amax, amin, aload, headV, aparts, abuildSlice, elParts, abytesStr, astore, amake, aappend, anew, arith, aresults, aresList, ares, spec0, spec1, spec2, spec3, spec4, eqCells, eqCell]
  refine loop_rule (C := CE m) (sigCE m) (mixCE m) (fun i : Nat => ⟨[(0, Enc.enc l), (3, .int .i64 ((i : Int) + 1))], []⟩) (fun i => i ≤ l.length ∧ ∀ j, j < i → Op.bytesLess (ix l j).toList (ix l (j + 1)).toList = true) (fun i => l.length - i) (by kernel_rfl) ⟨0, by simp, weak_slots (by simp)⟩ (fun i ⟨hi, hs⟩ => ?_)
  by_cases hlt : i + 1 < l.length
  · have i0 : I64 (i : Int) := by unfold I64; omega
    have i1 : I64 ((i : Int) + 1) := by unfold I64; omega
    have i2 : I64 ((i : Int) + 1 + 1) := by unfold I64; omega
    have h1 : (i : Int) + 1 < l.length := by omega
    have h2 : i < l.length := by omega
    have e1 : ((i : Int) + 1).toNat = i + 1 := by omega
    cases h3 : Op.bytesLess (ix l i).toList (ix l (i + 1)).toList
    · have hB : risesB l = false := by
        unfold risesB
        rw [decide_eq_false_iff_not]
        intro h
        rw [h i (by omega)] at h3
        cases h3
      simp [aev, cav, look, acallPure, abin, abinN, abinP, abinI, abinS, aun, aconv, afield, afieldAddr, aindexAddr, aindex, aslice, alow, ahigh, abuild, abuildGo, cellsOf, splice, fieldTy, alen, apick, amax, amin, aload, headV, aparts, abuildSlice, elParts, abytesStr, astore, amake, aappend, anew, arith, aresults, aresList, ares, spec0, spec1, spec2, spec3, spec4, eqCells, eqCell, h1, h2, hlt, e1, rowAt_enc h2, rowAt_enc hlt, i0, i1, i2, h3, hB]
      omega
    · simp [aev, cav, look, acallPure, abin, abinN, abinP, abinI, abinS, aun, aconv, afield, afieldAddr, aindexAddr, aindex, aslice, alow, ahigh, abuild, abuildGo, cellsOf, splice, fieldTy, alen, apick, amax, amin, aload, headV, aparts, abuildSlice, elParts, abytesStr, astore, amake, aappend, anew, arith, aresults, aresList, ares, spec0, spec1, spec2, spec3, spec4, eqCells, eqCell, h1, h2, hlt, e1, rowAt_enc h2, rowAt_enc hlt, i0, i1, i2, h3]
      refine ⟨by omega, i + 1, ⟨by omega, fun j hj => ?_⟩, by omega, weak_slots (by simp)⟩
      rcases Nat.lt_or_eq_of_le (Nat.le_of_lt_succ hj) with h | rfl
      · exact hs j h
      · exact h3
  · have h1 : ¬ (i : Int) + 1 < l.length := by omega
    have hB : risesB l = true := by
      unfold risesB
      rw [decide_eq_true_eq]
      exact fun j hj => hs j (by omega)
    simp [aev, cav, look, acallPure, abin, abinN, abinP, abinI, abinS, aun, aconv, afield, afieldAddr, aindexAddr, aindex, aslice, alow, ahigh, abuild, abuildGo, cellsOf, splice, fieldTy, alen, apick, amax, amin, aload, headV, aparts, abuildSlice, elParts, abytesStr, astore, amake, aappend, anew, arith, aresults, aresList, ares, spec0, spec1, spec2, spec3, spec4, eqCells, eqCell, h1, hB]
set_option maxHeartbeats 4000000 in
theorem keysR : PureOK Tryz.prog (G m) 60 sKs := by
  refine pure1 (C := CE m) (sigCE m) (mixCE m) Tryz.func60 rfl rfl rfl (by kernel_rfl) (by decide) (fun l hl => ?_)
  simp [aev, cav, look, acallPure, abin, abinN, abinP, abinI, abinS, aun, aconv, afield, afieldAddr, aindexAddr, aindex, aslice, alow, ahigh, abuild, abuildGo, cellsOf, splice, fieldTy, alen, apick, amax, amin, aload, headV, aparts, abuildSlice, elParts, abytesStr, astore, amake, aappend, anew, arith, aresults, aresList, ares, spec0, spec1, spec2, spec3, spec4, eqCells, eqCell]
  refine loop_rule (C := CE m) (sigCE m) (mixCE m) (fun i : Nat => ⟨[(0, Enc.enc l), (3, .own 0 (keysL (l.take i)).length), (4, .int .i64 i)], [⟨9, 1, encRows (keysL (l.take i)), true, true⟩]⟩) (fun i => i ≤ l.length) (fun i => l.length - i) (by kernel_rfl) ⟨0, by simp, (weak_nil 3 1 9 (by simp) (by decide)).trans (weak_slots (by simp [keysL]))⟩ (fun i hi => ?_)
  by_cases hlt : i < l.length
  · have i1 : I64 ((i : Int) + 1) := by unfold I64; omega
    have hk : (keysL (l.take i)).length = i := by simp [keysL]; omega
    simp [aev, cav, look, acallPure, abin, abinN, abinP, abinI, abinS, aun, aconv, afield, afieldAddr, aindexAddr, aindex, aslice, alow, ahigh, abuild, abuildGo, cellsOf, splice, fieldTy, alen, apick, amax, amin, aload, headV, aparts, abuildSlice, elParts, abytesStr, astore, amake, aappend, anew, arith, aresults, aresList, ares, spec0, spec1, spec2, spec3, spec4, eqCells, eqCell, hlt, rowAt_enc hlt, i1, hk]
    refine ⟨⟨by omega, by omega⟩, i + 1, by omega, by omega, ?_⟩
    rw [keysL_take hlt]
    exact weak_keep 1 (by simp [hk]) (by simp) (by simp [AV.clean, AV.clean1]) (by simp) (by simp [encRows])
  · have e : l.take i = l := List.take_of_length_le (by omega)
    simp [aev, cav, look, acallPure, abin, abinN, abinP, abinI, abinS, aun, aconv, afield, afieldAddr, aindexAddr, aindex, aslice, alow, ahigh, abuild, abuildGo, cellsOf, splice, fieldTy, alen, apick, amax, amin, aload, headV, aparts, abuildSlice, elParts, abytesStr, astore, amake, aappend, anew, arith, aresults, aresList, ares, spec0, spec1, spec2, spec3, spec4, eqCells, eqCell, hlt, e]

set_option maxHeartbeats 8000000 in
theorem boundsR : PureOK Tryz.prog (G m) 58 sHop := by
  refine pure1 (C := CE m) (sigCE m) (mixCE m) Tryz.func58 rfl rfl rfl (by kernel_rfl) (by decide) (fun e _ => ?_)
  by_cases hd : ¬ e.dir = 1 ∧ ¬ e.dir = 2 ∧ ¬ e.dir = 3
  · have hB : hopB e = false := by simp only [hopB, Bool.and_eq_false_iff, decide_eq_false_iff_not]; left; omega
    obtain ⟨d1, d2, d3⟩ := hd
    simp [aev, cav, look, acallPure, abin, abinN, abinP, abinI, abinS, aun, aconv, afield, afieldAddr, aindexAddr, aindex, aslice, alow, ahigh, abuild, abuildGo, cellsOf, splice, fieldTy, alen, apick, amax, amin, aload, headV, aparts, abuildSlice, elParts, abytesStr, astore, amake, aappend, anew, arith, aresults, aresList, ares, spec0, spec1, spec2, spec3, spec4, eqCells, eqCell, d1, d2, d3, hB]
  have hd' : e.dir = 1 ∨ e.dir = 2 ∨ e.dir = 3 := by omega
  rcases hd' with d | d | d
  · have d1 : (e.dir = 1) = (1 = (1 : Nat)) := by rw [d]; simp
    have d2 : (e.dir = 2) = (1 = (2 : Nat)) := by rw [d]; simp
    have d3 : (e.dir = 3) = (1 = (3 : Nat)) := by rw [d]; simp
    simp only [Nat.reduceEqDiff] at d1 d2 d3
    by_cases h3 : e.mode < 0
    · have hB : hopB e = false := by simp only [hopB, Bool.and_eq_false_iff, decide_eq_false_iff_not]; left; omega
      simp [aev, cav, look, acallPure, abin, abinN, abinP, abinI, abinS, aun, aconv, afield, afieldAddr, aindexAddr, aindex, aslice, alow, ahigh, abuild, abuildGo, cellsOf, splice, fieldTy, alen, apick, amax, amin, aload, headV, aparts, abuildSlice, elParts, abytesStr, astore, amake, aappend, anew, arith, aresults, aresList, ares, spec0, spec1, spec2, spec3, spec4, eqCells, eqCell, d1, d2, d3, h3, hB]
    by_cases h4 : 5 < e.mode
    · have hB : hopB e = false := by simp only [hopB, Bool.and_eq_false_iff, decide_eq_false_iff_not]; left; omega
      simp [aev, cav, look, acallPure, abin, abinN, abinP, abinI, abinS, aun, aconv, afield, afieldAddr, aindexAddr, aindex, aslice, alow, ahigh, abuild, abuildGo, cellsOf, splice, fieldTy, alen, apick, amax, amin, aload, headV, aparts, abuildSlice, elParts, abytesStr, astore, amake, aappend, anew, arith, aresults, aresList, ares, spec0, spec1, spec2, spec3, spec4, eqCells, eqCell, d1, d2, d3, h3, h4, hB]
    have hd : decide (1 ≤ e.dir ∧ e.dir ≤ 3 ∧ 0 ≤ e.mode ∧ e.mode ≤ 5) = true := by rw [decide_eq_true_eq]; omega
    rcases em2 (e.mode = 0) with h5 | h5
    · have hB : hopB e = decide (e.lo = 0 ∧ e.hi = 0) := by unfold hopB; rw [hd, if_pos (of_eq_true h5)]; simp
      rcases em2 (e.lo = 0) with h6 | h6 <;> rcases em2 (e.hi = 0) with h7 | h7 <;> simp [aev, cav, look, acallPure, abin, abinN, abinP, abinI, abinS, aun, aconv, afield, afieldAddr, aindexAddr, aindex, aslice, alow, ahigh, abuild, abuildGo, cellsOf, splice, fieldTy, alen, apick, amax, amin, aload, headV, aparts, abuildSlice, elParts, abytesStr, astore, amake, aappend, anew, arith, aresults, aresList, ares, spec0, spec1, spec2, spec3, spec4, eqCells, eqCell, d1, d2, d3, h3, h4, h5, h6, h7, hB]
    · have hB : hopB e = (decide (0 ≤ e.lo ∧ e.lo ≤ e.hi ∧ 1 ≤ e.hi ∧ e.hi ≤ 6) && decide (e.props = [])) := by unfold hopB; rw [hd, if_neg (of_eq_false h5)]; simp
      by_cases h6 : 0 ≤ e.lo
      case neg => simp [aev, cav, look, acallPure, abin, abinN, abinP, abinI, abinS, aun, aconv, afield, afieldAddr, aindexAddr, aindex, aslice, alow, ahigh, abuild, abuildGo, cellsOf, splice, fieldTy, alen, apick, amax, amin, aload, headV, aparts, abuildSlice, elParts, abytesStr, astore, amake, aappend, anew, arith, aresults, aresList, ares, spec0, spec1, spec2, spec3, spec4, eqCells, eqCell, d1, d2, d3, h3, h4, h5, h6, hB]
      by_cases h7 : e.lo ≤ e.hi
      case neg => simp [aev, cav, look, acallPure, abin, abinN, abinP, abinI, abinS, aun, aconv, afield, afieldAddr, aindexAddr, aindex, aslice, alow, ahigh, abuild, abuildGo, cellsOf, splice, fieldTy, alen, apick, amax, amin, aload, headV, aparts, abuildSlice, elParts, abytesStr, astore, amake, aappend, anew, arith, aresults, aresList, ares, spec0, spec1, spec2, spec3, spec4, eqCells, eqCell, d1, d2, d3, h3, h4, h5, h6, h7, hB]
      by_cases h8 : 1 ≤ e.hi
      case neg => simp [aev, cav, look, acallPure, abin, abinN, abinP, abinI, abinS, aun, aconv, afield, afieldAddr, aindexAddr, aindex, aslice, alow, ahigh, abuild, abuildGo, cellsOf, splice, fieldTy, alen, apick, amax, amin, aload, headV, aparts, abuildSlice, elParts, abytesStr, astore, amake, aappend, anew, arith, aresults, aresList, ares, spec0, spec1, spec2, spec3, spec4, eqCells, eqCell, d1, d2, d3, h3, h4, h5, h6, h7, h8, hB]
      by_cases h9 : e.hi ≤ 6
      case neg => simp [aev, cav, look, acallPure, abin, abinN, abinP, abinI, abinS, aun, aconv, afield, afieldAddr, aindexAddr, aindex, aslice, alow, ahigh, abuild, abuildGo, cellsOf, splice, fieldTy, alen, apick, amax, amin, aload, headV, aparts, abuildSlice, elParts, abytesStr, astore, amake, aappend, anew, arith, aresults, aresList, ares, spec0, spec1, spec2, spec3, spec4, eqCells, eqCell, d1, d2, d3, h3, h4, h5, h6, h7, h8, h9, hB]
      rcases em2 (e.props = []) with h10 | h10 <;> simp [aev, cav, look, acallPure, abin, abinN, abinP, abinI, abinS, aun, aconv, afield, afieldAddr, aindexAddr, aindex, aslice, alow, ahigh, abuild, abuildGo, cellsOf, splice, fieldTy, alen, apick, amax, amin, aload, headV, aparts, abuildSlice, elParts, abytesStr, astore, amake, aappend, anew, arith, aresults, aresList, ares, spec0, spec1, spec2, spec3, spec4, eqCells, eqCell, d1, d2, d3, h3, h4, h5, h6, h7, h8, h9, h10, hB]
  · have d1 : (e.dir = 1) = (2 = (1 : Nat)) := by rw [d]; simp
    have d2 : (e.dir = 2) = (2 = (2 : Nat)) := by rw [d]; simp
    have d3 : (e.dir = 3) = (2 = (3 : Nat)) := by rw [d]; simp
    simp only [Nat.reduceEqDiff] at d1 d2 d3
    by_cases h3 : e.mode < 0
    · have hB : hopB e = false := by simp only [hopB, Bool.and_eq_false_iff, decide_eq_false_iff_not]; left; omega
      simp [aev, cav, look, acallPure, abin, abinN, abinP, abinI, abinS, aun, aconv, afield, afieldAddr, aindexAddr, aindex, aslice, alow, ahigh, abuild, abuildGo, cellsOf, splice, fieldTy, alen, apick, amax, amin, aload, headV, aparts, abuildSlice, elParts, abytesStr, astore, amake, aappend, anew, arith, aresults, aresList, ares, spec0, spec1, spec2, spec3, spec4, eqCells, eqCell, d1, d2, d3, h3, hB]
    by_cases h4 : 5 < e.mode
    · have hB : hopB e = false := by simp only [hopB, Bool.and_eq_false_iff, decide_eq_false_iff_not]; left; omega
      simp [aev, cav, look, acallPure, abin, abinN, abinP, abinI, abinS, aun, aconv, afield, afieldAddr, aindexAddr, aindex, aslice, alow, ahigh, abuild, abuildGo, cellsOf, splice, fieldTy, alen, apick, amax, amin, aload, headV, aparts, abuildSlice, elParts, abytesStr, astore, amake, aappend, anew, arith, aresults, aresList, ares, spec0, spec1, spec2, spec3, spec4, eqCells, eqCell, d1, d2, d3, h3, h4, hB]
    have hd : decide (1 ≤ e.dir ∧ e.dir ≤ 3 ∧ 0 ≤ e.mode ∧ e.mode ≤ 5) = true := by rw [decide_eq_true_eq]; omega
    rcases em2 (e.mode = 0) with h5 | h5
    · have hB : hopB e = decide (e.lo = 0 ∧ e.hi = 0) := by unfold hopB; rw [hd, if_pos (of_eq_true h5)]; simp
      rcases em2 (e.lo = 0) with h6 | h6 <;> rcases em2 (e.hi = 0) with h7 | h7 <;> simp [aev, cav, look, acallPure, abin, abinN, abinP, abinI, abinS, aun, aconv, afield, afieldAddr, aindexAddr, aindex, aslice, alow, ahigh, abuild, abuildGo, cellsOf, splice, fieldTy, alen, apick, amax, amin, aload, headV, aparts, abuildSlice, elParts, abytesStr, astore, amake, aappend, anew, arith, aresults, aresList, ares, spec0, spec1, spec2, spec3, spec4, eqCells, eqCell, d1, d2, d3, h3, h4, h5, h6, h7, hB]
    · have hB : hopB e = (decide (0 ≤ e.lo ∧ e.lo ≤ e.hi ∧ 1 ≤ e.hi ∧ e.hi ≤ 6) && decide (e.props = [])) := by unfold hopB; rw [hd, if_neg (of_eq_false h5)]; simp
      by_cases h6 : 0 ≤ e.lo
      case neg => simp [aev, cav, look, acallPure, abin, abinN, abinP, abinI, abinS, aun, aconv, afield, afieldAddr, aindexAddr, aindex, aslice, alow, ahigh, abuild, abuildGo, cellsOf, splice, fieldTy, alen, apick, amax, amin, aload, headV, aparts, abuildSlice, elParts, abytesStr, astore, amake, aappend, anew, arith, aresults, aresList, ares, spec0, spec1, spec2, spec3, spec4, eqCells, eqCell, d1, d2, d3, h3, h4, h5, h6, hB]
      by_cases h7 : e.lo ≤ e.hi
      case neg => simp [aev, cav, look, acallPure, abin, abinN, abinP, abinI, abinS, aun, aconv, afield, afieldAddr, aindexAddr, aindex, aslice, alow, ahigh, abuild, abuildGo, cellsOf, splice, fieldTy, alen, apick, amax, amin, aload, headV, aparts, abuildSlice, elParts, abytesStr, astore, amake, aappend, anew, arith, aresults, aresList, ares, spec0, spec1, spec2, spec3, spec4, eqCells, eqCell, d1, d2, d3, h3, h4, h5, h6, h7, hB]
      by_cases h8 : 1 ≤ e.hi
      case neg => simp [aev, cav, look, acallPure, abin, abinN, abinP, abinI, abinS, aun, aconv, afield, afieldAddr, aindexAddr, aindex, aslice, alow, ahigh, abuild, abuildGo, cellsOf, splice, fieldTy, alen, apick, amax, amin, aload, headV, aparts, abuildSlice, elParts, abytesStr, astore, amake, aappend, anew, arith, aresults, aresList, ares, spec0, spec1, spec2, spec3, spec4, eqCells, eqCell, d1, d2, d3, h3, h4, h5, h6, h7, h8, hB]
      by_cases h9 : e.hi ≤ 6
      case neg => simp [aev, cav, look, acallPure, abin, abinN, abinP, abinI, abinS, aun, aconv, afield, afieldAddr, aindexAddr, aindex, aslice, alow, ahigh, abuild, abuildGo, cellsOf, splice, fieldTy, alen, apick, amax, amin, aload, headV, aparts, abuildSlice, elParts, abytesStr, astore, amake, aappend, anew, arith, aresults, aresList, ares, spec0, spec1, spec2, spec3, spec4, eqCells, eqCell, d1, d2, d3, h3, h4, h5, h6, h7, h8, h9, hB]
      rcases em2 (e.props = []) with h10 | h10 <;> simp [aev, cav, look, acallPure, abin, abinN, abinP, abinI, abinS, aun, aconv, afield, afieldAddr, aindexAddr, aindex, aslice, alow, ahigh, abuild, abuildGo, cellsOf, splice, fieldTy, alen, apick, amax, amin, aload, headV, aparts, abuildSlice, elParts, abytesStr, astore, amake, aappend, anew, arith, aresults, aresList, ares, spec0, spec1, spec2, spec3, spec4, eqCells, eqCell, d1, d2, d3, h3, h4, h5, h6, h7, h8, h9, h10, hB]
  · have d1 : (e.dir = 1) = (3 = (1 : Nat)) := by rw [d]; simp
    have d2 : (e.dir = 2) = (3 = (2 : Nat)) := by rw [d]; simp
    have d3 : (e.dir = 3) = (3 = (3 : Nat)) := by rw [d]; simp
    simp only [Nat.reduceEqDiff] at d1 d2 d3
    by_cases h3 : e.mode < 0
    · have hB : hopB e = false := by simp only [hopB, Bool.and_eq_false_iff, decide_eq_false_iff_not]; left; omega
      simp [aev, cav, look, acallPure, abin, abinN, abinP, abinI, abinS, aun, aconv, afield, afieldAddr, aindexAddr, aindex, aslice, alow, ahigh, abuild, abuildGo, cellsOf, splice, fieldTy, alen, apick, amax, amin, aload, headV, aparts, abuildSlice, elParts, abytesStr, astore, amake, aappend, anew, arith, aresults, aresList, ares, spec0, spec1, spec2, spec3, spec4, eqCells, eqCell, d1, d2, d3, h3, hB]
    by_cases h4 : 5 < e.mode
    · have hB : hopB e = false := by simp only [hopB, Bool.and_eq_false_iff, decide_eq_false_iff_not]; left; omega
      simp [aev, cav, look, acallPure, abin, abinN, abinP, abinI, abinS, aun, aconv, afield, afieldAddr, aindexAddr, aindex, aslice, alow, ahigh, abuild, abuildGo, cellsOf, splice, fieldTy, alen, apick, amax, amin, aload, headV, aparts, abuildSlice, elParts, abytesStr, astore, amake, aappend, anew, arith, aresults, aresList, ares, spec0, spec1, spec2, spec3, spec4, eqCells, eqCell, d1, d2, d3, h3, h4, hB]
    have hd : decide (1 ≤ e.dir ∧ e.dir ≤ 3 ∧ 0 ≤ e.mode ∧ e.mode ≤ 5) = true := by rw [decide_eq_true_eq]; omega
    rcases em2 (e.mode = 0) with h5 | h5
    · have hB : hopB e = decide (e.lo = 0 ∧ e.hi = 0) := by unfold hopB; rw [hd, if_pos (of_eq_true h5)]; simp
      rcases em2 (e.lo = 0) with h6 | h6 <;> rcases em2 (e.hi = 0) with h7 | h7 <;> simp [aev, cav, look, acallPure, abin, abinN, abinP, abinI, abinS, aun, aconv, afield, afieldAddr, aindexAddr, aindex, aslice, alow, ahigh, abuild, abuildGo, cellsOf, splice, fieldTy, alen, apick, amax, amin, aload, headV, aparts, abuildSlice, elParts, abytesStr, astore, amake, aappend, anew, arith, aresults, aresList, ares, spec0, spec1, spec2, spec3, spec4, eqCells, eqCell, d1, d2, d3, h3, h4, h5, h6, h7, hB]
    · have hB : hopB e = (decide (0 ≤ e.lo ∧ e.lo ≤ e.hi ∧ 1 ≤ e.hi ∧ e.hi ≤ 6) && decide (e.props = [])) := by unfold hopB; rw [hd, if_neg (of_eq_false h5)]; simp
      by_cases h6 : 0 ≤ e.lo
      case neg => simp [aev, cav, look, acallPure, abin, abinN, abinP, abinI, abinS, aun, aconv, afield, afieldAddr, aindexAddr, aindex, aslice, alow, ahigh, abuild, abuildGo, cellsOf, splice, fieldTy, alen, apick, amax, amin, aload, headV, aparts, abuildSlice, elParts, abytesStr, astore, amake, aappend, anew, arith, aresults, aresList, ares, spec0, spec1, spec2, spec3, spec4, eqCells, eqCell, d1, d2, d3, h3, h4, h5, h6, hB]
      by_cases h7 : e.lo ≤ e.hi
      case neg => simp [aev, cav, look, acallPure, abin, abinN, abinP, abinI, abinS, aun, aconv, afield, afieldAddr, aindexAddr, aindex, aslice, alow, ahigh, abuild, abuildGo, cellsOf, splice, fieldTy, alen, apick, amax, amin, aload, headV, aparts, abuildSlice, elParts, abytesStr, astore, amake, aappend, anew, arith, aresults, aresList, ares, spec0, spec1, spec2, spec3, spec4, eqCells, eqCell, d1, d2, d3, h3, h4, h5, h6, h7, hB]
      by_cases h8 : 1 ≤ e.hi
      case neg => simp [aev, cav, look, acallPure, abin, abinN, abinP, abinI, abinS, aun, aconv, afield, afieldAddr, aindexAddr, aindex, aslice, alow, ahigh, abuild, abuildGo, cellsOf, splice, fieldTy, alen, apick, amax, amin, aload, headV, aparts, abuildSlice, elParts, abytesStr, astore, amake, aappend, anew, arith, aresults, aresList, ares, spec0, spec1, spec2, spec3, spec4, eqCells, eqCell, d1, d2, d3, h3, h4, h5, h6, h7, h8, hB]
      by_cases h9 : e.hi ≤ 6
      case neg => simp [aev, cav, look, acallPure, abin, abinN, abinP, abinI, abinS, aun, aconv, afield, afieldAddr, aindexAddr, aindex, aslice, alow, ahigh, abuild, abuildGo, cellsOf, splice, fieldTy, alen, apick, amax, amin, aload, headV, aparts, abuildSlice, elParts, abytesStr, astore, amake, aappend, anew, arith, aresults, aresList, ares, spec0, spec1, spec2, spec3, spec4, eqCells, eqCell, d1, d2, d3, h3, h4, h5, h6, h7, h8, h9, hB]
      rcases em2 (e.props = []) with h10 | h10 <;> simp [aev, cav, look, acallPure, abin, abinN, abinP, abinI, abinS, aun, aconv, afield, afieldAddr, aindexAddr, aindex, aslice, alow, ahigh, abuild, abuildGo, cellsOf, splice, fieldTy, alen, apick, amax, amin, aload, headV, aparts, abuildSlice, elParts, abytesStr, astore, amake, aappend, anew, arith, aresults, aresList, ares, spec0, spec1, spec2, spec3, spec4, eqCells, eqCell, d1, d2, d3, h3, h4, h5, h6, h7, h8, h9, h10, hB]

def sHp : List AV → Option (Prop × AV) := spec1 (fun (p : PathPat) => p.edges.length ≤ maxLen) (fun p => .bool (!longB p))
set_option maxHeartbeats 4000000 in
theorem hopsR : PureOK Tryz.prog (G m) 56 sHp := by
  refine pure1 (C := CE m) (sigCE m) (mixCE m) Tryz.func56 rfl rfl rfl (by kernel_rfl) (by decide) (fun p hl => ?_)
  have hl' := maxLen_le hl
  rcases em2 (p.nodes = []) with h1 | h1
  · simp [aev, cav, look, acallPure, abin, abinN, abinP, abinI, abinS, aun, aconv, afield, afieldAddr, aindexAddr, aindex, aslice, alow, ahigh, abuild, abuildGo, cellsOf, splice, fieldTy, alen, apick, amax, amin, aload, headV, aparts, abuildSlice, elParts, abytesStr, astore, amake, aappend, anew, arith, aresults, aresList, ares, spec0, spec1, spec2, spec3, spec4, eqCells, eqCell, longB, h1]
  by_cases h2 : 6 < p.edges.length
  · have h2' : (6 : Int) < p.edges.length := by omega
    simp [aev, cav, look, acallPure, abin, abinN, abinP, abinI, abinS, aun, aconv, afield, afieldAddr, aindexAddr, aindex, aslice, alow, ahigh, abuild, abuildGo, cellsOf, splice, fieldTy, alen, apick, amax, amin, aload, headV, aparts, abuildSlice, elParts, abytesStr, astore, amake, aappend, anew, arith, aresults, aresList, ares, spec0, spec1, spec2, spec3, spec4, eqCells, eqCell, longB, h1, h2, h2']
  have h2' : ¬ (6 : Int) < p.edges.length := by omega
  have hB : longB p = decide (12 < hopL 0 p.edges) := by unfold longB; rw [decide_eq_false (of_eq_false h1), decide_eq_false h2]; simp
  rw [hB]
  simp [aev, cav, look, acallPure, abin, abinN, abinP, abinI, abinS, aun, aconv, afield, afieldAddr, aindexAddr, aindex, aslice, alow, ahigh, abuild, abuildGo, cellsOf, splice, fieldTy, alen, apick, amax, amin, aload, headV, aparts, abuildSlice, elParts, abytesStr, astore, amake, aappend, anew, arith, aresults, aresList, ares, spec0, spec1, spec2, spec3, spec4, eqCells, eqCell, h1, h2, h2']
  refine loop_rule (C := CE m) (sigCE m) (mixCE m) (fun q : Nat × Int => ⟨[(1, .ptr 0 1 3 0 0), (3, .int .i64 q.2), (4, .int .i64 q.1)], [PB p]⟩) (fun q => q.1 ≤ p.edges.length ∧ 0 ≤ q.2 ∧ q.2 ≤ 13 * q.1 ∧ hopL q.2 (p.edges.drop q.1) = hopL 0 p.edges) (fun q => p.edges.length - q.1) (by kernel_rfl) ⟨(0, 0), by simp, weak_slots (by simp)⟩ (fun ⟨i, a⟩ ⟨hi, ha, hb, hs⟩ => ?_)
  simp only at hi ha hb hs ⊢
  by_cases hlt : i < p.edges.length
  · have i1 : I64 ((i : Int) + 1) := by unfold I64; omega
    have hn := hopN_in (ix p.edges i)
    rw [hopL_drop hlt] at hs
    rcases em2 ((ix p.edges i).mode = 0) with h3 | h3
    · have i2 : I64 (a + 1) := by unfold I64; omega
      have hN : hopN (ix p.edges i) = 1 := by simp [hopN, h3]
      rw [hN] at hs
      simp [aev, cav, look, acallPure, abin, abinN, abinP, abinI, abinS, aun, aconv, afield, afieldAddr, aindexAddr, aindex, aslice, alow, ahigh, abuild, abuildGo, cellsOf, splice, fieldTy, alen, apick, amax, amin, aload, headV, aparts, abuildSlice, elParts, abytesStr, astore, amake, aappend, anew, arith, aresults, aresList, ares, spec0, spec1, spec2, spec3, spec4, eqCells, eqCell, PB, hlt, rowAt_enc hlt, i1, i2, h3]
      exact ⟨i + 1, a + 1, ⟨by omega, by omega, by omega, hs⟩, by omega, weak_slots (by simp)⟩
    · have hN : hopN (ix p.edges i) = min (max (ix p.edges i).hi 0) 13 := by unfold hopN; rw [if_neg (of_eq_false h3)]
      by_cases h4 : 12 < (ix p.edges i).hi
      · have h5 := hopL_ge (p.edges.drop (i + 1)) (a + hopN (ix p.edges i))
        have h6 : (12 < hopL 0 p.edges) = True := eq_true (by omega)
        have h7 : ¬ hopL 0 p.edges ≤ 12 := by omega
        simp [aev, cav, look, acallPure, abin, abinN, abinP, abinI, abinS, aun, aconv, afield, afieldAddr, aindexAddr, aindex, aslice, alow, ahigh, abuild, abuildGo, cellsOf, splice, fieldTy, alen, apick, amax, amin, aload, headV, aparts, abuildSlice, elParts, abytesStr, astore, amake, aappend, anew, arith, aresults, aresList, ares, spec0, spec1, spec2, spec3, spec4, eqCells, eqCell, PB, hlt, rowAt_enc hlt, i1, h3, h4, h6, h7]
      · by_cases h5 : 0 < (ix p.edges i).hi
        · have i2 : I64 (a + (ix p.edges i).hi) := by unfold I64; omega
          rw [show hopN (ix p.edges i) = (ix p.edges i).hi by omega] at hs
          simp [aev, cav, look, acallPure, abin, abinN, abinP, abinI, abinS, aun, aconv, afield, afieldAddr, aindexAddr, aindex, aslice, alow, ahigh, abuild, abuildGo, cellsOf, splice, fieldTy, alen, apick, amax, amin, aload, headV, aparts, abuildSlice, elParts, abytesStr, astore, amake, aappend, anew, arith, aresults, aresList, ares, spec0, spec1, spec2, spec3, spec4, eqCells, eqCell, PB, hlt, rowAt_enc hlt, i1, i2, h3, h4, h5]
          exact ⟨i + 1, a + (ix p.edges i).hi, ⟨by omega, by omega, by omega, hs⟩, by omega, weak_slots (by simp)⟩
        · rw [show a + hopN (ix p.edges i) = a by omega] at hs
          simp [aev, cav, look, acallPure, abin, abinN, abinP, abinI, abinS, aun, aconv, afield, afieldAddr, aindexAddr, aindex, aslice, alow, ahigh, abuild, abuildGo, cellsOf, splice, fieldTy, alen, apick, amax, amin, aload, headV, aparts, abuildSlice, elParts, abytesStr, astore, amake, aappend, anew, arith, aresults, aresList, ares, spec0, spec1, spec2, spec3, spec4, eqCells, eqCell, PB, hlt, rowAt_enc hlt, i1, h3, h4, h5]
          exact ⟨i + 1, a, ⟨by omega, by omega, by omega, hs⟩, by omega, weak_slots (by simp)⟩
  · rw [List.drop_eq_nil_of_le (by omega), hopL] at hs
    by_cases h4 : a ≤ 12
    · have h5 : ¬ 12 < a := by omega
      simp [aev, cav, look, acallPure, abin, abinN, abinP, abinI, abinS, aun, aconv, afield, afieldAddr, aindexAddr, aindex, aslice, alow, ahigh, abuild, abuildGo, cellsOf, splice, fieldTy, alen, apick, amax, amin, aload, headV, aparts, abuildSlice, elParts, abytesStr, astore, amake, aappend, anew, arith, aresults, aresList, ares, spec0, spec1, spec2, spec3, spec4, eqCells, eqCell, PB, hlt, ← hs, h4, h5]
    · have h5 : 12 < a := by omega
      simp [aev, cav, look, acallPure, abin, abinN, abinP, abinI, abinS, aun, aconv, afield, afieldAddr, aindexAddr, aindex, aslice, alow, ahigh, abuild, abuildGo, cellsOf, splice, fieldTy, alen, apick, amax, amin, aload, headV, aparts, abuildSlice, elParts, abytesStr, astore, amake, aappend, anew, arith, aresults, aresList, ares, spec0, spec1, spec2, spec3, spec4, eqCells, eqCell, PB, hlt, ← hs, h4, h5]

set_option maxHeartbeats 4000000 in
theorem noneR : PureOK Tryz.prog (G m) 69 sZE := by
  have sig : SigOK (mkC Tryz.prog (G m) [(85, .pure sZ)]) := sigOK_cons (entryPure zeroR Tryz.func85 rfl (by decide)) (sigOK_nil _ _)
  refine pure1 (C := mkC Tryz.prog (G m) [(85, .pure sZ)]) sig mixed Tryz.func69 rfl rfl rfl (by kernel_rfl) (by decide) (fun e _ => ?_)
  rcases em2 (e.op = 0) with h1 | h1
  case inr => simp [aev, cav, look, acallPure, abin, abinN, abinP, abinI, abinS, aun, aconv, afield, afieldAddr, aindexAddr, aindex, aslice, alow, ahigh, abuild, abuildGo, cellsOf, splice, fieldTy, alen, apick, amax, amin, aload, headV, aparts, abuildSlice, elParts, abytesStr, astore, amake, aappend, anew, arith, aresults, aresList, ares, spec0, spec1, spec2, spec3, spec4, eqCells, eqCell, zeroE, h1]
  cases h2 : zeroV e.v
  case false => simp [aev, cav, look, acallPure, abin, abinN, abinP, abinI, abinS, aun, aconv, afield, afieldAddr, aindexAddr, aindex, aslice, alow, ahigh, abuild, abuildGo, cellsOf, splice, fieldTy, alen, apick, amax, amin, aload, headV, aparts, abuildSlice, elParts, abytesStr, astore, amake, aappend, anew, arith, aresults, aresList, ares, spec0, spec1, spec2, spec3, spec4, eqCells, eqCell, zeroE, sZ, h1, h2]
  rcases em2 (e.name = ⟨#[]⟩) with h3 | h3
  case inr => simp [aev, cav, look, acallPure, abin, abinN, abinP, abinI, abinS, aun, aconv, afield, afieldAddr, aindexAddr, aindex, aslice, alow, ahigh, abuild, abuildGo, cellsOf, splice, fieldTy, alen, apick, amax, amin, aload, headV, aparts, abuildSlice, elParts, abytesStr, astore, amake, aappend, anew, arith, aresults, aresList, ares, spec0, spec1, spec2, spec3, spec4, eqCells, eqCell, zeroE, sZ, h1, h2, h3]
  cases h4 : e.dist
  case true => simp [aev, cav, look, acallPure, abin, abinN, abinP, abinI, abinS, aun, aconv, afield, afieldAddr, aindexAddr, aindex, aslice, alow, ahigh, abuild, abuildGo, cellsOf, splice, fieldTy, alen, apick, amax, amin, aload, headV, aparts, abuildSlice, elParts, abytesStr, astore, amake, aappend, anew, arith, aresults, aresList, ares, spec0, spec1, spec2, spec3, spec4, eqCells, eqCell, zeroE, sZ, h1, h2, h3, h4, eta_d h4]
  rcases em2 (e.kids = []) with h5 | h5 <;> simp [aev, cav, look, acallPure, abin, abinN, abinP, abinI, abinS, aun, aconv, afield, afieldAddr, aindexAddr, aindex, aslice, alow, ahigh, abuild, abuildGo, cellsOf, splice, fieldTy, alen, apick, amax, amin, aload, headV, aparts, abuildSlice, elParts, abytesStr, astore, amake, aappend, anew, arith, aresults, aresList, ares, spec0, spec1, spec2, spec3, spec4, eqCells, eqCell, zeroE, sZ, h1, h2, h3, h4, eta_d h4, h5]

noncomputable def CSr (m : Int) : Ctx := mkC Tryz.prog (G m) [(69, .pure sZE), (70, .pure sWd), (36, .pure sChk)]
@[simp] theorem CSr_P (m : Int) : (CSr m).P = Tryz.prog := rfl
@[simp] theorem CSr_1 (m : Int) : (CSr m).S 69 = .pure sZE := rfl
@[simp] theorem CSr_2 (m : Int) : (CSr m).S 70 = .pure sWd := rfl
@[simp] theorem CSr_3 (m : Int) : (CSr m).S 36 = .pure sChk := rfl
theorem mixCSr (m : Int) : (CSr m).P.follows .mixedOrders = true := mixed
theorem sigCSr (m : Int) : SigOK (CSr m) := sigOK_cons (entryPure noneR Tryz.func69 rfl (by decide)) (sigOK_cons (entryPure wordR Tryz.func70 rfl (by decide)) (sigOK_cons (entryPure checkR Tryz.func36 rfl (by decide)) (sigOK_nil _ _)))
set_option maxHeartbeats 8000000 in
theorem setR : PureOK Tryz.prog (G m) 71 sSetE := by
  refine pure1 (C := CSr m) (sigCSr m) (mixCSr m) Tryz.func71 rfl rfl rfl (by kernel_rfl) (by decide) (fun s hw => ?_)
  rcases em2 (s.label = ⟨#[]⟩) with h1 | h1
  · cases h2 : s.off
    case true => simp [aev, cav, look, acallPure, abin, abinN, abinP, abinI, abinS, aun, aconv, afield, afieldAddr, aindexAddr, aindex, aslice, alow, ahigh, abuild, abuildGo, cellsOf, splice, fieldTy, alen, apick, amax, amin, aload, headV, aparts, abuildSlice, elParts, abytesStr, astore, amake, aappend, anew, arith, aresults, aresList, ares, spec0, spec1, spec2, spec3, spec4, eqCells, eqCell, setE, sZE, h1, h2]
    cases h3 : wordB s.var
    case false => simp [aev, cav, look, acallPure, abin, abinN, abinP, abinI, abinS, aun, aconv, afield, afieldAddr, aindexAddr, aindex, aslice, alow, ahigh, abuild, abuildGo, cellsOf, splice, fieldTy, alen, apick, amax, amin, aload, headV, aparts, abuildSlice, elParts, abytesStr, astore, amake, aappend, anew, arith, aresults, aresList, ares, spec0, spec1, spec2, spec3, spec4, eqCells, eqCell, setE, sZE, sWd, h1, h2, h3]
    cases h4 : wordB s.key <;> simp [aev, cav, look, acallPure, abin, abinN, abinP, abinI, abinS, aun, aconv, afield, afieldAddr, aindexAddr, aindex, aslice, alow, ahigh, abuild, abuildGo, cellsOf, splice, fieldTy, alen, apick, amax, amin, aload, headV, aparts, abuildSlice, elParts, abytesStr, astore, amake, aappend, anew, arith, aresults, aresList, ares, spec0, spec1, spec2, spec3, spec4, eqCells, eqCell, setE, sZE, sWd, sChk, h1, h2, h3, h4, hw]
  · rcases em2 (s.key = ⟨#[]⟩) with h2 | h2
    case inr => simp [aev, cav, look, acallPure, abin, abinN, abinP, abinI, abinS, aun, aconv, afield, afieldAddr, aindexAddr, aindex, aslice, alow, ahigh, abuild, abuildGo, cellsOf, splice, fieldTy, alen, apick, amax, amin, aload, headV, aparts, abuildSlice, elParts, abytesStr, astore, amake, aappend, anew, arith, aresults, aresList, ares, spec0, spec1, spec2, spec3, spec4, eqCells, eqCell, setE, sZE, h1, h2]
    cases h3 : zeroE s.e
    case false => simp [aev, cav, look, acallPure, abin, abinN, abinP, abinI, abinS, aun, aconv, afield, afieldAddr, aindexAddr, aindex, aslice, alow, ahigh, abuild, abuildGo, cellsOf, splice, fieldTy, alen, apick, amax, amin, aload, headV, aparts, abuildSlice, elParts, abytesStr, astore, amake, aappend, anew, arith, aresults, aresList, ares, spec0, spec1, spec2, spec3, spec4, eqCells, eqCell, setE, sZE, h1, h2, h3]
    cases h4 : wordB s.var
    case false => simp [aev, cav, look, acallPure, abin, abinN, abinP, abinI, abinS, aun, aconv, afield, afieldAddr, aindexAddr, aindex, aslice, alow, ahigh, abuild, abuildGo, cellsOf, splice, fieldTy, alen, apick, amax, amin, aload, headV, aparts, abuildSlice, elParts, abytesStr, astore, amake, aappend, anew, arith, aresults, aresList, ares, spec0, spec1, spec2, spec3, spec4, eqCells, eqCell, setE, sZE, sWd, h1, h2, h3, h4]
    cases h5 : wordB s.label <;> simp [aev, cav, look, acallPure, abin, abinN, abinP, abinI, abinS, aun, aconv, afield, afieldAddr, aindexAddr, aindex, aslice, alow, ahigh, abuild, abuildGo, cellsOf, splice, fieldTy, alen, apick, amax, amin, aload, headV, aparts, abuildSlice, elParts, abytesStr, astore, amake, aappend, anew, arith, aresults, aresList, ares, spec0, spec1, spec2, spec3, spec4, eqCells, eqCell, setE, sZE, sWd, sChk, h1, h2, h3, h4, h5]
end
end Go.Proofs.YthcfnaglgoaikaaGreat
