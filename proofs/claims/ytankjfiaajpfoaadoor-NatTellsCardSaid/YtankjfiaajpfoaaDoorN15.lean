/-
  nat: the laws.
-/
import Derived.Test.YtankjfiaajpfoaaDoorN14
namespace Go.Proofs.YtankjfiaajpfoaaDoor
open Go.RowKit
set_option linter.unusedSimpArgs false
set_option linter.unusedVariables false
set_option maxRecDepth 100000

theorem powT_some (v : Nat) (k : Int) : ∃ (l : List Int) (b : Bool), powT v k = .tup [.slice 1 false (encRows l), .bool b] ∧ l.length ≤ 64 := by
  by_cases h : k < 0
  · exact ⟨[], false, powT_neg h, by simp⟩
  · refine ⟨_, _, powT_of h rfl, ?_⟩
    split <;> simp_all

theorem ten_le {n : Nat} (h : n ≤ 576) : 10 ^ n ≤ B9 ^ 64 := ten_B9 (c := 64) h

set_option maxHeartbeats 4000000 in
theorem law9 : PureOK Tryd.prog G1 9 (spec2 (fun (_ _ : List Int) => True) (fun _ _ => .bool true)) := by
  refine pure2 (C := C9) sig9 mix9 Tryd.func9 rfl rfl rfl (by kernel_rfl) (by decide) (fun a b _ => ?_)
  by_cases h1 : a.length ≤ 80
  · by_cases h2 : b.length ≤ 80
    · have ha : a.length ≤ 1000000 := by omega
      have hb : b.length ≤ 1000000 := by omega
      have hc : ∀ n : Nat, (if (canon n).length ≤ 64 then canon n else []).length ≤ 1000000 := fun n => by split <;> first | omega | simp
      have hm := canon_mono (Nat.sub_le (nv a) (nv b))
      have hl := numL_len a
      rw [← canon_nv] at hl
      have hd : (canon (nv a - nv b)).length ≤ 1000000 := by omega
      by_cases hs : nv a ≤ 9223372036854775807
      · simp [aev, cav, look, acallPure, abin, abinN, abinP, abinI, abinS, aun, aconv, afield, afieldAddr, aindexAddr, aindex, aslice, alow, ahigh, abuild, abuildGo, cellsOf, splice, fieldTy, alen, apick, amax, amin, aload, headV, aparts, abuildSlice, elParts, abytesStr, astore, amake, aappend, anew, arith, aresults, aresList, ares, spec0, spec1, spec2, spec3, spec4, eqCells, eqCell, s27, s10, h1, h2, ha, hb, s22, s28, s13, s15, s29, s25, s30, s23, s31, s24, s32, s26, s14, fitT, hs, hc, hd]
      · simp [aev, cav, look, acallPure, abin, abinN, abinP, abinI, abinS, aun, aconv, afield, afieldAddr, aindexAddr, aindex, aslice, alow, ahigh, abuild, abuildGo, cellsOf, splice, fieldTy, alen, apick, amax, amin, aload, headV, aparts, abuildSlice, elParts, abytesStr, astore, amake, aappend, anew, arith, aresults, aresList, ares, spec0, spec1, spec2, spec3, spec4, eqCells, eqCell, s27, s10, h1, h2, ha, hb, s22, s28, s13, s15, s29, s25, s30, s23, s31, s24, s32, s26, s14, fitT, hs, hc, hd]
    · simp [aev, cav, look, acallPure, abin, abinN, abinP, abinI, abinS, aun, aconv, afield, afieldAddr, aindexAddr, aindex, aslice, alow, ahigh, abuild, abuildGo, cellsOf, splice, fieldTy, alen, apick, amax, amin, aload, headV, aparts, abuildSlice, elParts, abytesStr, astore, amake, aappend, anew, arith, aresults, aresList, ares, spec0, spec1, spec2, spec3, spec4, eqCells, eqCell, s27, s10, h1, h2]
  · simp [aev, cav, look, acallPure, abin, abinN, abinP, abinI, abinS, aun, aconv, afield, afieldAddr, aindexAddr, aindex, aslice, alow, ahigh, abuild, abuildGo, cellsOf, splice, fieldTy, alen, apick, amax, amin, aload, headV, aparts, abuildSlice, elParts, abytesStr, astore, amake, aappend, anew, arith, aresults, aresList, ares, spec0, spec1, spec2, spec3, spec4, eqCells, eqCell, s27, s10, h1]

set_option maxHeartbeats 4000000 in
theorem law3 : PureOK Tryd.prog G1 3 (spec2 (fun (_ : List Int) (k : Int) => I64 k) (fun _ _ => .bool true)) := by
  refine pure2 (C := C9) sig9 mix9 Tryd.func3 rfl rfl rfl (by kernel_rfl) (by decide) (fun a k hk => ?_)
  by_cases h1 : 80 < a.length
  · have h1' : (80 : Int) < a.length := by omega
    simp [aev, cav, look, acallPure, abin, abinN, abinP, abinI, abinS, aun, aconv, afield, afieldAddr, aindexAddr, aindex, aslice, alow, ahigh, abuild, abuildGo, cellsOf, splice, fieldTy, alen, apick, amax, amin, aload, headV, aparts, abuildSlice, elParts, abytesStr, astore, amake, aappend, anew, arith, aresults, aresList, ares, spec0, spec1, spec2, spec3, spec4, eqCells, eqCell, s10, h1']
  · have h1' : ¬ (80 : Int) < a.length := by omega
    have ha : a.length ≤ 1000000 := by omega
    obtain ⟨l, b, hp, hl⟩ := powT_some (nv a) k
    have hl' : l.length ≤ 1000000 := by omega
    simp [aev, cav, look, acallPure, abin, abinN, abinP, abinI, abinS, aun, aconv, afield, afieldAddr, aindexAddr, aindex, aslice, alow, ahigh, abuild, abuildGo, cellsOf, splice, fieldTy, alen, apick, amax, amin, aload, headV, aparts, abuildSlice, elParts, abytesStr, astore, amake, aappend, anew, arith, aresults, aresList, ares, spec0, spec1, spec2, spec3, spec4, eqCells, eqCell, s10, h1', s11, s12, s13, ha, hk, hp, hl']

set_option maxHeartbeats 4000000 in
theorem law5 : PureOK Tryd.prog G1 5 (spec3 (fun (_ : List Int) (n : Int) (_ : ByteArray) => I64 n) (fun _ _ _ => .bool true)) := by
  refine pure3 (C := C9) sig9 mix9 Tryd.func5 rfl rfl rfl (by kernel_rfl) (by decide) (fun a n s hn => ?_)
  by_cases h1 : 80 < a.length
  · have h1' : (80 : Int) < a.length := by omega
    simp [aev, cav, look, acallPure, abin, abinN, abinP, abinI, abinS, aun, aconv, afield, afieldAddr, aindexAddr, aindex, aslice, alow, ahigh, abuild, abuildGo, cellsOf, splice, fieldTy, alen, apick, amax, amin, aload, headV, aparts, abuildSlice, elParts, abytesStr, astore, amake, aappend, anew, arith, aresults, aresList, ares, spec0, spec1, spec2, spec3, spec4, eqCells, eqCell, s10, h1']
  have h1' : ¬ (80 : Int) < a.length := by omega
  by_cases h2 : 700 < s.size
  · have h2' : (700 : Int) < s.size := by omega
    simp [aev, cav, look, acallPure, abin, abinN, abinP, abinI, abinS, aun, aconv, afield, afieldAddr, aindexAddr, aindex, aslice, alow, ahigh, abuild, abuildGo, cellsOf, splice, fieldTy, alen, apick, amax, amin, aload, headV, aparts, abuildSlice, elParts, abytesStr, astore, amake, aappend, anew, arith, aresults, aresList, ares, spec0, spec1, spec2, spec3, spec4, eqCells, eqCell, s10, h1', h2']
  have h2' : ¬ (700 : Int) < s.size := by omega
  have ha : a.length ≤ 1000000 := by omega
  have hs : s.size ≤ 1000000 := by omega
  have hc : (canon n.toNat).length ≤ 1000000 := by
    have := canon_len 3 n.toNat (by unfold I64 at hn; unfold B9; omega)
    omega
  by_cases hp : parseOK s
  · have hq : (canon (dnum s 0 s.size)).length ≤ 1000000 := by
      have h3 := dnum_lt hp.2.2.2 0 s.size (by omega)
      have h4 := hp.2.1
      have := canon_len 64 (dnum s 0 s.size) (Nat.lt_of_lt_of_le h3 (ten_le h4))
      omega
    simp [aev, cav, look, acallPure, abin, abinN, abinP, abinI, abinS, aun, aconv, afield, afieldAddr, aindexAddr, aindex, aslice, alow, ahigh, abuild, abuildGo, cellsOf, splice, fieldTy, alen, apick, amax, amin, aload, headV, aparts, abuildSlice, elParts, abytesStr, astore, amake, aappend, anew, arith, aresults, aresList, ares, spec0, spec1, spec2, spec3, spec4, eqCells, eqCell, s10, h1', h2', s16, s17, s13, s18, s19, s20, s21, ha, hs, hn, parseT_yes hp, hc, hq]
  · simp [aev, cav, look, acallPure, abin, abinN, abinP, abinI, abinS, aun, aconv, afield, afieldAddr, aindexAddr, aindex, aslice, alow, ahigh, abuild, abuildGo, cellsOf, splice, fieldTy, alen, apick, amax, amin, aload, headV, aparts, abuildSlice, elParts, abytesStr, astore, amake, aappend, anew, arith, aresults, aresList, ares, spec0, spec1, spec2, spec3, spec4, eqCells, eqCell, s10, h1', h2', s16, s17, s13, s18, s19, s20, s21, ha, hs, hn, parseT_no hp, hc]
end Go.Proofs.YtankjfiaajpfoaaDoor
