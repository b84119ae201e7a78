/-
  lex: LexTells.
-/
import Derived.Test.YtogepfcmmmokdaaL3
import Derived.Test.YtogepfcmmmokdaaShape
namespace Go.Proofs.Ytogepfcmmmokdaa
open Go.RowKit
set_option linter.unusedSimpArgs false
set_option linter.unusedVariables false
set_option maxRecDepth 100000

theorem lexGo_len {s : ByteArray} : ∀ (f k : Nat) (ts us : List Tok), k ≤ s.size → lexGo s f k ts = .done us → us.length ≤ ts.length + (s.size - k) + 1
  | 0, k, ts, us, _, h => by cases h
  | f + 1, k, ts, us, hk, h => by
    rw [lexGo] at h
    have hge := runP_ge spaceB s _ k (Nat.le_refl _)
    have hle := runP_le spaceB s _ k (Nat.le_refl _) hk
    split at h
    · injection h with h
      rw [← h]
      simp
    · split at h
      · rename_i t en hst
        have h1 := stepR_ok (by omega) hst
        have := lexGo_len f en (ts ++ [t]) us h1.2 h
        simp at this
        omega
      · cases h
theorem tokens_len {s : ByteArray} {us : List Tok} (h : tokens s = .done us) : us.length ≤ 2001 := by
  unfold tokens at h
  split at h
  · cases h
  · have := lexGo_len _ _ _ _ (Nat.zero_le _) h
    simp at this
    omega

def s8 : List AV → Option (Prop × AV) := spec0 (.bool true)
def s9 : List AV → Option (Prop × AV) := spec1 (fun (_ : ByteArray) => True) (fun s => outAV (tokens s))
def s10 : List AV → Option (Prop × AV) := spec1 (fun (s : ByteArray) => s.size ≤ 1000000) (fun s => outAV (tokens s))
def s11 : List AV → Option (Prop × AV) := spec2 (fun (a b : List Tok) => a.length ≤ 1000000 ∧ b.length ≤ 1000000) (fun a b => .bool (decide (a = b)))
noncomputable def D3 (m : Int) : Ctx := mkC Try.prog (G m) [(8, .pure s8), (9, .pure s9), (10, .pure s10), (11, .pure s11)]
@[simp] theorem D3_P (m : Int) : (D3 m).P = Try.prog := rfl
@[simp] theorem D3_8 (m : Int) : (D3 m).S 8 = .pure s8 := rfl
@[simp] theorem D3_9 (m : Int) : (D3 m).S 9 = .pure s9 := rfl
@[simp] theorem D3_10 (m : Int) : (D3 m).S 10 = .pure s10 := rfl
@[simp] theorem D3_11 (m : Int) : (D3 m).S 11 = .pure s11 := rfl
theorem sigD3 (m : Int) : SigOK (D3 m) := sigOK_cons (entryPure p8 Try.func8 rfl (by decide)) (sigOK_cons (entryPure p9 Try.func9 rfl (by decide)) (sigOK_cons (entryPure p10 Try.func10 rfl (by decide)) (sigOK_cons (entryPure p11 Try.func11 rfl (by decide)) (sigOK_nil _ _))))
theorem mixD3 (m : Int) : (D3 m).P.follows .mixedOrders = true := mixed

section
variable {m : Int}
set_option maxHeartbeats 4000000 in
theorem law3 : PureOK Try.prog (G m) 3 (spec1 (fun (_ : ByteArray) => True) (fun _ => .bool true)) := by
  refine pure1 (C := D3 m) (sigD3 m) (mixD3 m) Try.func3 rfl rfl rfl (by kernel_rfl) (by decide) (fun s _ => ?_)
  by_cases hbig : 2100 < s.size
  · have h1 : (2100 : Int) < s.size := by omega
    simp [aev, cav, look, acallPure, abin, abinN, abinP, abinI, abinS, aun, aconv, afield, afieldAddr, aindexAddr, aindex, aslice, alow, ahigh, abuild, abuildGo, cellsOf, splice, fieldTy, alen, apick, amax, amin, aload, headV, aparts, abuildSlice, elParts, abytesStr, astore, amake, aappend, anew, arith, aresults, aresList, ares, spec0, spec1, spec2, spec3, spec4, eqCells, eqCell, h1, s8]
  have h1 : ¬ (2100 : Int) < s.size := by omega
  have hs : s.size ≤ 1000000 := by omega
  cases ht : tokens s with
  | done ts =>
    have hl := tokens_len ht
    have hl' : ts.length ≤ 1000000 := by omega
    simp [aev, cav, look, acallPure, abin, abinN, abinP, abinI, abinS, aun, aconv, afield, afieldAddr, aindexAddr, aindex, aslice, alow, ahigh, abuild, abuildGo, cellsOf, splice, fieldTy, alen, apick, amax, amin, aload, headV, aparts, abuildSlice, elParts, abytesStr, astore, amake, aappend, anew, arith, aresults, aresList, ares, spec0, spec1, spec2, spec3, spec4, eqCells, eqCell, h1, s8, s9, s10, s11, hs, ht, outAV, hl']
  | fault a c =>
    simp [aev, cav, look, acallPure, abin, abinN, abinP, abinI, abinS, aun, aconv, afield, afieldAddr, aindexAddr, aindex, aslice, alow, ahigh, abuild, abuildGo, cellsOf, splice, fieldTy, alen, apick, amax, amin, aload, headV, aparts, abuildSlice, elParts, abytesStr, astore, amake, aappend, anew, arith, aresults, aresList, ares, spec0, spec1, spec2, spec3, spec4, eqCells, eqCell, h1, s8, s9, s10, s11, hs, ht, outAV]
end
theorem strR : Reads Try.prog 9 ByteArray (fun s => s.size ≤ maxLen) := reads_str (by kernel_rfl)
end Go.Proofs.Ytogepfcmmmokdaa
