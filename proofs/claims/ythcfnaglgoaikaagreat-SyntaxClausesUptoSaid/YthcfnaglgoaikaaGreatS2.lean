/-
  layer 18: names and words.
-/
import Derived.Test.YthcfnaglgoaikaaGreatS0
namespace Go.Proofs.YthcfnaglgoaikaaGreat
open Go.RowKit
set_option linter.unusedSimpArgs false
set_option linter.unusedVariables false
set_option maxRecDepth 100000

def letterB (c : Int) : Bool := decide (97 ≤ c ∧ c ≤ 122) || decide (65 ≤ c ∧ c ≤ 90)
def nameC (c : Int) : Bool := letterB c || decide (48 ≤ c ∧ c ≤ 57) || decide (c = 95)
def nameB (s : ByteArray) : Bool := decide (1 ≤ s.size ∧ s.size ≤ 20 ∧ letterB (btA s 0) = true ∧ ∀ j, j < s.size → nameC (btA s j) = true)
def wordB (s : ByteArray) : Bool := nameB s && !Plain.reserved s
theorem nameC_letter {c : Int} (h : letterB c = true) : nameC c = true := by simp [nameC, h]
theorem nameB_false {s : ByteArray} {j : Nat} (h : j < s.size) (hc : nameC (btA s j) = false) : nameB s = false := by
  unfold nameB
  simp only [decide_eq_false_iff_not]
  rintro ⟨_, _, _, h4⟩
  rw [h4 j h] at hc
  cases hc

noncomputable def CE (m : Int) : Ctx := mkC Tryz.prog (G m) []
@[simp] theorem CE_P (m : Int) : (CE m).P = Tryz.prog := rfl
theorem sigCE (m : Int) : SigOK (CE m) := sigOK_nil _ _
theorem mixCE (m : Int) : (CE m).P.follows .mixedOrders = true := mixed

section
variable {m : Int}
set_option maxHeartbeats 2000000 in
theorem letterP : PureOK Tryz.prog (G m) 78 (spec1 (fun (_ : B8) => True) (fun c => .bool (letterB c.v))) := by
  refine pure1 (C := CE m) (sigCE m) (mixCE m) Tryz.func78 rfl rfl rfl (by kernel_rfl) (by decide) (fun ⟨c⟩ _ => ?_)
  by_cases h1 : 97 ≤ c <;> by_cases h2 : c ≤ 122 <;> by_cases h3 : 65 ≤ c <;> by_cases h4 : c ≤ 90 <;> simp [aev, cav, look, acallPure, abin, abinN, abinP, abinI, abinS, aun, aconv, afield, afieldAddr, aindexAddr, aindex, aslice, alow, ahigh, abuild, abuildGo, cellsOf, splice, fieldTy, alen, apick, amax, amin, aload, headV, aparts, abuildSlice, elParts, abytesStr, astore, amake, aappend, anew, arith, aresults, aresList, ares, spec0, spec1, spec2, spec3, spec4, eqCells, eqCell, letterB, h1, h2, h3, h4]
set_option maxHeartbeats 2000000 in
theorem letterR : PureOK Tryz.prog (G m) 95 (spec1 (fun (_ : B8) => True) (fun c => .bool (letterB c.v))) := by
  refine pure1 (C := CE m) (sigCE m) (mixCE m) Tryz.func95 rfl rfl rfl (by kernel_rfl) (by decide) (fun ⟨c⟩ _ => ?_)
  by_cases h1 : 97 ≤ c <;> by_cases h2 : c ≤ 122 <;> by_cases h3 : 65 ≤ c <;> by_cases h4 : c ≤ 90 <;> simp [aev, cav, look, acallPure, abin, abinN, abinP, abinI, abinS, aun, aconv, afield, afieldAddr, aindexAddr, aindex, aslice, alow, ahigh, abuild, abuildGo, cellsOf, splice, fieldTy, alen, apick, amax, amin, aload, headV, aparts, abuildSlice, elParts, abytesStr, astore, amake, aappend, anew, arith, aresults, aresList, ares, spec0, spec1, spec2, spec3, spec4, eqCells, eqCell, letterB, h1, h2, h3, h4]
def sLetter : List AV → Option (Prop × AV) := spec1 (fun (_ : B8) => True) (fun c => .bool (letterB c.v))
noncomputable def CL (m : Int) : Ctx := mkC Tryz.prog (G m) [(78, .pure sLetter), (95, .pure sLetter)]
@[simp] theorem CL_P (m : Int) : (CL m).P = Tryz.prog := rfl
@[simp] theorem CL_1 (m : Int) : (CL m).S 78 = .pure sLetter := rfl
@[simp] theorem CL_2 (m : Int) : (CL m).S 95 = .pure sLetter := rfl
theorem sigCL (m : Int) : SigOK (CL m) := sigOK_cons (entryPure letterP Tryz.func78 rfl (by decide)) (sigOK_cons (entryPure letterR Tryz.func95 rfl (by decide)) (sigOK_nil _ _))
theorem mixCL (m : Int) : (CL m).P.follows .mixedOrders = true := mixed

theorem nameB_true {s : ByteArray} (h0 : ¬ s.size = 0) (h1 : ¬ 20 < s.size) (h2 : letterB (btA s 0) = true) (h : ∀ j, j < s.size → nameC (btA s j) = true) : nameB s = true := by
  unfold nameB
  simp only [decide_eq_true_eq]
  exact ⟨by omega, by omega, h2, h⟩
theorem nameB_first {s : ByteArray} (h2 : letterB (btA s 0) = false) : nameB s = false := by
  unfold nameB
  simp [h2]
theorem empty_size {s : ByteArray} (h : s.size = 0) : s = ⟨#[]⟩ := str_ext (by rw [h]; rfl) fun i hi => by omega

set_option maxHeartbeats 8000000 in
theorem nameP : PureOK Tryz.prog (G m) 52 (spec1 (fun (_ : ByteArray) => True) (fun s => .bool (nameB s))) := by
  refine pure1 (C := CL m) (sigCL m) (mixCL m) Tryz.func52 rfl rfl rfl (by kernel_rfl) (by decide) (fun s _ => ?_)
  by_cases h0 : s.size = 0
  · have e := empty_size h0
    subst e
    have en : nameB ⟨#[]⟩ = false := by simp [nameB]; intro h; exact absurd h (by decide)
    simp [aev, cav, look, acallPure, abin, abinN, abinP, abinI, abinS, aun, aconv, afield, afieldAddr, aindexAddr, aindex, aslice, alow, ahigh, abuild, abuildGo, cellsOf, splice, fieldTy, alen, apick, amax, amin, aload, headV, aparts, abuildSlice, elParts, abytesStr, astore, amake, aappend, anew, arith, aresults, aresList, ares, spec0, spec1, spec2, spec3, spec4, eqCells, eqCell, en]
  have e : ¬ s = ⟨#[]⟩ := fun e => h0 (by rw [e]; rfl)
  by_cases h1 : 20 < s.size
  · have h1' : (20 : Int) < s.size := by omega
    have en : nameB s = false := by simp [nameB]; omega
    simp [aev, cav, look, acallPure, abin, abinN, abinP, abinI, abinS, aun, aconv, afield, afieldAddr, aindexAddr, aindex, aslice, alow, ahigh, abuild, abuildGo, cellsOf, splice, fieldTy, alen, apick, amax, amin, aload, headV, aparts, abuildSlice, elParts, abytesStr, astore, amake, aappend, anew, arith, aresults, aresList, ares, spec0, spec1, spec2, spec3, spec4, eqCells, eqCell, h1', e, en]
  have h1' : ¬ (20 : Int) < s.size := by omega
  have hpos : 0 < s.size := by omega
  have hpos' : (0 : Int) < s.size := by omega
  cases h2 : letterB (btA s 0)
  · simp [aev, cav, look, acallPure, abin, abinN, abinP, abinI, abinS, aun, aconv, afield, afieldAddr, aindexAddr, aindex, aslice, alow, ahigh, abuild, abuildGo, cellsOf, splice, fieldTy, alen, apick, amax, amin, aload, headV, aparts, abuildSlice, elParts, abytesStr, astore, amake, aappend, anew, arith, aresults, aresList, ares, spec0, spec1, spec2, spec3, spec4, eqCells, eqCell, h1', e, hpos, hpos', sLetter, h2, nameB_first h2]
  · simp [aev, cav, look, acallPure, abin, abinN, abinP, abinI, abinS, aun, aconv, afield, afieldAddr, aindexAddr, aindex, aslice, alow, ahigh, abuild, abuildGo, cellsOf, splice, fieldTy, alen, apick, amax, amin, aload, headV, aparts, abuildSlice, elParts, abytesStr, astore, amake, aappend, anew, arith, aresults, aresList, ares, spec0, spec1, spec2, spec3, spec4, eqCells, eqCell, h1', e, hpos, hpos', sLetter, h2]
    refine loop_rule (C := CL m) (sigCL m) (mixCL m) (fun i : Nat => ⟨[(0, .str s), (18, .int .i64 s.size), (19, .int .i64 i)], []⟩) (fun i => i ≤ s.size ∧ ∀ j, j < i → nameC (btA s j) = true) (fun i => s.size - i) (by kernel_rfl) ⟨0, by simp, weak_slots (by simp)⟩ (fun i ⟨hi, hall⟩ => ?_)
    by_cases hlt : i < s.size
    · have i1 : I64 ((i : Int) + 1) := by unfold I64; omega
      have step : nameC (btA s i) = true → ∀ j, j < i + 1 → nameC (btA s j) = true := fun hc j hj => by
        rcases Nat.lt_or_ge j i with h | h
        · exact hall j h
        · rw [show j = i by omega]; exact hc
      cases h3 : letterB (btA s i)
      · by_cases h4 : (btA s i : Int) < 48
        · have hn : nameC (btA s i) = false := by simp [nameC, h3]; omega
          have h4' : btA s i < 48 := by omega
          have h5 : ¬ btA s i = 95 := by omega
          have h5' : ¬ (btA s i : Int) = 95 := by omega
          simp [aev, cav, look, acallPure, abin, abinN, abinP, abinI, abinS, aun, aconv, afield, afieldAddr, aindexAddr, aindex, aslice, alow, ahigh, abuild, abuildGo, cellsOf, splice, fieldTy, alen, apick, amax, amin, aload, headV, aparts, abuildSlice, elParts, abytesStr, astore, amake, aappend, anew, arith, aresults, aresList, ares, spec0, spec1, spec2, spec3, spec4, eqCells, eqCell, hlt, sLetter, h3, h4, h4', h5, h5', nameB_false hlt hn]
        · have h4' : ¬ btA s i < 48 := by omega
          by_cases h5 : 57 < (btA s i : Int)
          · have h5' : 57 < btA s i := by omega
            by_cases h6 : btA s i = 95
            · have hn : nameC (btA s i) = true := by simp [nameC, h6]
              have h3' : letterB 95 = false := by rw [h6] at h3; exact h3
              simp [aev, cav, look, acallPure, abin, abinN, abinP, abinI, abinS, aun, aconv, afield, afieldAddr, aindexAddr, aindex, aslice, alow, ahigh, abuild, abuildGo, cellsOf, splice, fieldTy, alen, apick, amax, amin, aload, headV, aparts, abuildSlice, elParts, abytesStr, astore, amake, aappend, anew, arith, aresults, aresList, ares, spec0, spec1, spec2, spec3, spec4, eqCells, eqCell, hlt, sLetter, h3, h3', h4, h4', h5, h5', h6, i1]
              exact ⟨i + 1, ⟨by omega, step hn⟩, by omega, weak_slots (by simp)⟩
            · have hn : nameC (btA s i) = false := by simp [nameC, h3]; omega
              have h6' : ¬ (btA s i : Int) = 95 := by omega
              simp [aev, cav, look, acallPure, abin, abinN, abinP, abinI, abinS, aun, aconv, afield, afieldAddr, aindexAddr, aindex, aslice, alow, ahigh, abuild, abuildGo, cellsOf, splice, fieldTy, alen, apick, amax, amin, aload, headV, aparts, abuildSlice, elParts, abytesStr, astore, amake, aappend, anew, arith, aresults, aresList, ares, spec0, spec1, spec2, spec3, spec4, eqCells, eqCell, hlt, sLetter, h3, h4, h4', h5, h5', h6, h6', nameB_false hlt hn]
          · have h5' : ¬ 57 < btA s i := by omega
            have hn : nameC (btA s i) = true := by simp [nameC]; omega
            simp [aev, cav, look, acallPure, abin, abinN, abinP, abinI, abinS, aun, aconv, afield, afieldAddr, aindexAddr, aindex, aslice, alow, ahigh, abuild, abuildGo, cellsOf, splice, fieldTy, alen, apick, amax, amin, aload, headV, aparts, abuildSlice, elParts, abytesStr, astore, amake, aappend, anew, arith, aresults, aresList, ares, spec0, spec1, spec2, spec3, spec4, eqCells, eqCell, hlt, sLetter, h3, h4, h4', h5, h5', i1]
            exact ⟨i + 1, ⟨by omega, step hn⟩, by omega, weak_slots (by simp)⟩
      · simp [aev, cav, look, acallPure, abin, abinN, abinP, abinI, abinS, aun, aconv, afield, afieldAddr, aindexAddr, aindex, aslice, alow, ahigh, abuild, abuildGo, cellsOf, splice, fieldTy, alen, apick, amax, amin, aload, headV, aparts, abuildSlice, elParts, abytesStr, astore, amake, aappend, anew, arith, aresults, aresList, ares, spec0, spec1, spec2, spec3, spec4, eqCells, eqCell, hlt, sLetter, h3, i1]
        exact ⟨i + 1, ⟨by omega, step (nameC_letter h3)⟩, by omega, weak_slots (by simp)⟩
    · have en := nameB_true h0 h1 h2 (fun j hj => hall j (by omega))
      simp [aev, cav, look, acallPure, abin, abinN, abinP, abinI, abinS, aun, aconv, afield, afieldAddr, aindexAddr, aindex, aslice, alow, ahigh, abuild, abuildGo, cellsOf, splice, fieldTy, alen, apick, amax, amin, aload, headV, aparts, abuildSlice, elParts, abytesStr, astore, amake, aappend, anew, arith, aresults, aresList, ares, spec0, spec1, spec2, spec3, spec4, eqCells, eqCell, hlt, en]

set_option maxHeartbeats 8000000 in
theorem nameR : PureOK Tryz.prog (G m) 86 (spec1 (fun (_ : ByteArray) => True) (fun s => .bool (nameB s))) := by
  refine pure1 (C := CL m) (sigCL m) (mixCL m) Tryz.func86 rfl rfl rfl (by kernel_rfl) (by decide) (fun s _ => ?_)
  by_cases h0 : s.size = 0
  · have e := empty_size h0
    subst e
    have en : nameB ⟨#[]⟩ = false := by simp [nameB]; intro h; exact absurd h (by decide)
    have h0' : ((⟨#[]⟩ : ByteArray).size : Int) < 1 := by decide
    simp [aev, cav, look, acallPure, abin, abinN, abinP, abinI, abinS, aun, aconv, afield, afieldAddr, aindexAddr, aindex, aslice, alow, ahigh, abuild, abuildGo, cellsOf, splice, fieldTy, alen, apick, amax, amin, aload, headV, aparts, abuildSlice, elParts, abytesStr, astore, amake, aappend, anew, arith, aresults, aresList, ares, spec0, spec1, spec2, spec3, spec4, eqCells, eqCell, en, h0']
  have e : ¬ (s.size : Int) < 1 := by omega
  by_cases h1 : 20 < s.size
  · have h1' : (20 : Int) < s.size := by omega
    have en : nameB s = false := by simp [nameB]; omega
    simp [aev, cav, look, acallPure, abin, abinN, abinP, abinI, abinS, aun, aconv, afield, afieldAddr, aindexAddr, aindex, aslice, alow, ahigh, abuild, abuildGo, cellsOf, splice, fieldTy, alen, apick, amax, amin, aload, headV, aparts, abuildSlice, elParts, abytesStr, astore, amake, aappend, anew, arith, aresults, aresList, ares, spec0, spec1, spec2, spec3, spec4, eqCells, eqCell, h1', e, en]
  have h1' : ¬ (20 : Int) < s.size := by omega
  have hpos : 0 < s.size := by omega
  have hpos' : (0 : Int) < s.size := by omega
  cases h2 : letterB (btA s 0)
  · simp [aev, cav, look, acallPure, abin, abinN, abinP, abinI, abinS, aun, aconv, afield, afieldAddr, aindexAddr, aindex, aslice, alow, ahigh, abuild, abuildGo, cellsOf, splice, fieldTy, alen, apick, amax, amin, aload, headV, aparts, abuildSlice, elParts, abytesStr, astore, amake, aappend, anew, arith, aresults, aresList, ares, spec0, spec1, spec2, spec3, spec4, eqCells, eqCell, h1', e, hpos, hpos', sLetter, h2, nameB_first h2]
  · simp [aev, cav, look, acallPure, abin, abinN, abinP, abinI, abinS, aun, aconv, afield, afieldAddr, aindexAddr, aindex, aslice, alow, ahigh, abuild, abuildGo, cellsOf, splice, fieldTy, alen, apick, amax, amin, aload, headV, aparts, abuildSlice, elParts, abytesStr, astore, amake, aappend, anew, arith, aresults, aresList, ares, spec0, spec1, spec2, spec3, spec4, eqCells, eqCell, h1', e, hpos, hpos', sLetter, h2]
    refine loop_rule (C := CL m) (sigCL m) (mixCL m) (fun i : Nat => ⟨[(0, .str s), (3, .int .i64 i)], []⟩) (fun i => i ≤ s.size ∧ ∀ j, j < i → nameC (btA s j) = true) (fun i => s.size - i) (by kernel_rfl) ⟨1, ⟨by omega, fun j hj => by rw [show j = 0 by omega]; exact nameC_letter h2⟩, weak_slots (by simp)⟩ (fun i ⟨hi, hall⟩ => ?_)
    by_cases hlt : i < s.size
    · have i1 : I64 ((i : Int) + 1) := by unfold I64; omega
      have step : nameC (btA s i) = true → ∀ j, j < i + 1 → nameC (btA s j) = true := fun hc j hj => by
        rcases Nat.lt_or_ge j i with h | h
        · exact hall j h
        · rw [show j = i by omega]; exact hc
      cases h3 : letterB (btA s i)
      · by_cases h6 : btA s i = 95
        · have h6' : (btA s i : Int) = 95 := by omega
          have hn : nameC (btA s i) = true := by simp [nameC, h6]
          have h3' : letterB 95 = false := by rw [h6'] at h3; exact h3
          simp [aev, cav, look, acallPure, abin, abinN, abinP, abinI, abinS, aun, aconv, afield, afieldAddr, aindexAddr, aindex, aslice, alow, ahigh, abuild, abuildGo, cellsOf, splice, fieldTy, alen, apick, amax, amin, aload, headV, aparts, abuildSlice, elParts, abytesStr, astore, amake, aappend, anew, arith, aresults, aresList, ares, spec0, spec1, spec2, spec3, spec4, eqCells, eqCell, hlt, sLetter, h3, h3', h6, h6', i1]
          exact ⟨i + 1, ⟨by omega, step hn⟩, by omega, weak_slots (by simp)⟩
        · have h6' : ¬ (btA s i : Int) = 95 := by omega
          by_cases h4 : (btA s i : Int) < 48
          · have hn : nameC (btA s i) = false := by simp [nameC, h3]; omega
            have h4' : btA s i < 48 := by omega
            simp [aev, cav, look, acallPure, abin, abinN, abinP, abinI, abinS, aun, aconv, afield, afieldAddr, aindexAddr, aindex, aslice, alow, ahigh, abuild, abuildGo, cellsOf, splice, fieldTy, alen, apick, amax, amin, aload, headV, aparts, abuildSlice, elParts, abytesStr, astore, amake, aappend, anew, arith, aresults, aresList, ares, spec0, spec1, spec2, spec3, spec4, eqCells, eqCell, hlt, sLetter, h3, h4, h4', h6, h6', nameB_false hlt hn]
          · have h4' : ¬ btA s i < 48 := by omega
            by_cases h5 : 57 < (btA s i : Int)
            · have h5' : 57 < btA s i := by omega
              have hn : nameC (btA s i) = false := by simp [nameC, h3]; omega
              simp [aev, cav, look, acallPure, abin, abinN, abinP, abinI, abinS, aun, aconv, afield, afieldAddr, aindexAddr, aindex, aslice, alow, ahigh, abuild, abuildGo, cellsOf, splice, fieldTy, alen, apick, amax, amin, aload, headV, aparts, abuildSlice, elParts, abytesStr, astore, amake, aappend, anew, arith, aresults, aresList, ares, spec0, spec1, spec2, spec3, spec4, eqCells, eqCell, hlt, sLetter, h3, h4, h4', h5, h5', h6, h6', nameB_false hlt hn]
            · have h5' : ¬ 57 < btA s i := by omega
              have hn : nameC (btA s i) = true := by simp [nameC]; omega
              simp [aev, cav, look, acallPure, abin, abinN, abinP, abinI, abinS, aun, aconv, afield, afieldAddr, aindexAddr, aindex, aslice, alow, ahigh, abuild, abuildGo, cellsOf, splice, fieldTy, alen, apick, amax, amin, aload, headV, aparts, abuildSlice, elParts, abytesStr, astore, amake, aappend, anew, arith, aresults, aresList, ares, spec0, spec1, spec2, spec3, spec4, eqCells, eqCell, hlt, sLetter, h3, h4, h4', h5, h5', h6, h6', i1]
              exact ⟨i + 1, ⟨by omega, step hn⟩, by omega, weak_slots (by simp)⟩
      · simp [aev, cav, look, acallPure, abin, abinN, abinP, abinI, abinS, aun, aconv, afield, afieldAddr, aindexAddr, aindex, aslice, alow, ahigh, abuild, abuildGo, cellsOf, splice, fieldTy, alen, apick, amax, amin, aload, headV, aparts, abuildSlice, elParts, abytesStr, astore, amake, aappend, anew, arith, aresults, aresList, ares, spec0, spec1, spec2, spec3, spec4, eqCells, eqCell, hlt, sLetter, h3, i1]
        exact ⟨i + 1, ⟨by omega, step (nameC_letter h3)⟩, by omega, weak_slots (by simp)⟩
    · have en := nameB_true h0 h1 h2 (fun j hj => hall j (by omega))
      simp [aev, cav, look, acallPure, abin, abinN, abinP, abinI, abinS, aun, aconv, afield, afieldAddr, aindexAddr, aindex, aslice, alow, ahigh, abuild, abuildGo, cellsOf, splice, fieldTy, alen, apick, amax, amin, aload, headV, aparts, abuildSlice, elParts, abytesStr, astore, amake, aappend, anew, arith, aresults, aresList, ares, spec0, spec1, spec2, spec3, spec4, eqCells, eqCell, hlt, en]

theorem resP : PureOK Tryz.prog (G m) 53 (spec1 (fun (s : ByteArray) => s.size < 1000000) (fun s => .bool (Plain.reserved s))) := pure1_calls fun w X v s hX hG hs h => by
  obtain rfl := repS h
  exact (reservedP s w (hasMax_G hG) hs).mono fun e w' ⟨he, hb⟩ => ⟨_, he, keeps_of_below hb (Nat.le_refl _), .bool _⟩
theorem resR : PureOK Tryz.prog (G m) 87 (spec1 (fun (s : ByteArray) => s.size < 1000000) (fun s => .bool (Plain.reserved s))) := pure1_calls fun w X v s hX hG hs h => by
  obtain rfl := repS h
  exact (reservedR s w hs).mono fun e w' ⟨he, hb⟩ => ⟨_, he, keeps_of_below hb (Nat.le_refl _), .bool _⟩

def sName : List AV → Option (Prop × AV) := spec1 (fun (_ : ByteArray) => True) (fun s => .bool (nameB s))
def sRes : List AV → Option (Prop × AV) := spec1 (fun (s : ByteArray) => s.size < 1000000) (fun s => .bool (Plain.reserved s))
noncomputable def CW (m : Int) : Ctx := mkC Tryz.prog (G m) [(52, .pure sName), (86, .pure sName), (53, .pure sRes), (87, .pure sRes)]
@[simp] theorem CW_P (m : Int) : (CW m).P = Tryz.prog := rfl
@[simp] theorem CW_1 (m : Int) : (CW m).S 52 = .pure sName := rfl
@[simp] theorem CW_2 (m : Int) : (CW m).S 86 = .pure sName := rfl
@[simp] theorem CW_3 (m : Int) : (CW m).S 53 = .pure sRes := rfl
@[simp] theorem CW_4 (m : Int) : (CW m).S 87 = .pure sRes := rfl
theorem sigCW (m : Int) : SigOK (CW m) := sigOK_cons (entryPure nameP Tryz.func52 rfl (by decide)) (sigOK_cons (entryPure nameR Tryz.func86 rfl (by decide)) (sigOK_cons (entryPure resP Tryz.func53 rfl (by decide)) (sigOK_cons (entryPure resR Tryz.func87 rfl (by decide)) (sigOK_nil _ _))))
theorem mixCW (m : Int) : (CW m).P.follows .mixedOrders = true := mixed
set_option maxHeartbeats 4000000 in
theorem wordP : PureOK Tryz.prog (G m) 29 (spec1 (fun (_ : ByteArray) => True) (fun s => .bool (wordB s))) := by
  refine pure1 (C := CW m) (sigCW m) (mixCW m) Tryz.func29 rfl rfl rfl (by kernel_rfl) (by decide) (fun s _ => ?_)
  cases h : nameB s
  · simp [aev, cav, look, acallPure, abin, abinN, abinP, abinI, abinS, aun, aconv, afield, afieldAddr, aindexAddr, aindex, aslice, alow, ahigh, abuild, abuildGo, cellsOf, splice, fieldTy, alen, apick, amax, amin, aload, headV, aparts, abuildSlice, elParts, abytesStr, astore, amake, aappend, anew, arith, aresults, aresList, ares, spec0, spec1, spec2, spec3, spec4, eqCells, eqCell, sName, wordB, h]
  · have hs : s.size < 1000000 := by simp [nameB] at h; omega
    simp [aev, cav, look, acallPure, abin, abinN, abinP, abinI, abinS, aun, aconv, afield, afieldAddr, aindexAddr, aindex, aslice, alow, ahigh, abuild, abuildGo, cellsOf, splice, fieldTy, alen, apick, amax, amin, aload, headV, aparts, abuildSlice, elParts, abytesStr, astore, amake, aappend, anew, arith, aresults, aresList, ares, spec0, spec1, spec2, spec3, spec4, eqCells, eqCell, sName, sRes, wordB, h, hs]
set_option maxHeartbeats 4000000 in
theorem wordR : PureOK Tryz.prog (G m) 70 (spec1 (fun (_ : ByteArray) => True) (fun s => .bool (wordB s))) := by
  refine pure1 (C := CW m) (sigCW m) (mixCW m) Tryz.func70 rfl rfl rfl (by kernel_rfl) (by decide) (fun s _ => ?_)
  cases h : nameB s
  · simp [aev, cav, look, acallPure, abin, abinN, abinP, abinI, abinS, aun, aconv, afield, afieldAddr, aindexAddr, aindex, aslice, alow, ahigh, abuild, abuildGo, cellsOf, splice, fieldTy, alen, apick, amax, amin, aload, headV, aparts, abuildSlice, elParts, abytesStr, astore, amake, aappend, anew, arith, aresults, aresList, ares, spec0, spec1, spec2, spec3, spec4, eqCells, eqCell, sName, wordB, h]
  · have hs : s.size < 1000000 := by simp [nameB] at h; omega
    simp [aev, cav, look, acallPure, abin, abinN, abinP, abinI, abinS, aun, aconv, afield, afieldAddr, aindexAddr, aindex, aslice, alow, ahigh, abuild, abuildGo, cellsOf, splice, fieldTy, alen, apick, amax, amin, aload, headV, aparts, abuildSlice, elParts, abytesStr, astore, amake, aappend, anew, arith, aresults, aresList, ares, spec0, spec1, spec2, spec3, spec4, eqCells, eqCell, sName, sRes, wordB, h, hs]
end
end Go.Proofs.YthcfnaglgoaikaaGreat
