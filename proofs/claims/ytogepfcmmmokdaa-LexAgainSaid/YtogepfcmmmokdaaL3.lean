/-
  lex: the reference's Tokens; LexTells.
-/
import Derived.Test.YtogepfcmmmokdaaL2
namespace Go.Proofs.Ytogepfcmmmokdaa
open Go.RowKit
set_option linter.unusedSimpArgs false
set_option linter.unusedVariables false
set_option maxRecDepth 100000

def s21 : List AV → Option (Prop × AV) := spec2 (fun (s : ByteArray) (k : Int) => s.size ≤ 2000 ∧ 0 ≤ k ∧ k < s.size) (resP stepR)
noncomputable def D2 (m : Int) : Ctx := mkC Try.prog (G m) [(21, .pure s21)]
@[simp] theorem D2_P (m : Int) : (D2 m).P = Try.prog := rfl
@[simp] theorem D2_21 (m : Int) : (D2 m).S 21 = .pure s21 := rfl
theorem sigD2 (m : Int) : SigOK (D2 m) := sigOK_cons (entryPure p21 Try.func21 rfl (by decide)) (sigOK_nil _ _)
theorem mixD2 (m : Int) : (D2 m).P.follows .mixedOrders = true := mixed

theorem lexGo_space {s : ByteArray} {f k : Nat} {ts : List Tok} (h : k < s.size) (hp : spaceB (bt s k) = true) : lexGo s f k ts = lexGo s f (k + 1) ts := by
  cases f with
  | zero => rfl
  | succ f => rw [lexGo, lexGo, runP_go h hp]
theorem lexGo_tok {s : ByteArray} {f k : Nat} {ts : List Tok} (h : k < s.size) (hp : spaceB (bt s k) = false) : lexGo s (f + 1) k ts = match stepR s k with | .ok t en => lexGo s f en (ts ++ [t]) | .err a c => .fault a c := by
  rw [lexGo, runP_stop (fun _ => hp), if_neg (by omega)]
  cases stepR s k <;> rfl
theorem lexGo_done {s : ByteArray} {f : Nat} {ts : List Tok} : lexGo s (f + 1) s.size ts = .done (ts ++ [endTok s]) := by
  rw [lexGo, runP_stop (fun h => absurd h (by omega)), if_pos rfl]

theorem textGo_code (s : ByteArray) (k : Nat) : ∀ (n j : Nat) (acc : List UInt8) (a c : Int), s.size - j ≤ n → textGo s k j acc = .err a c → c ≠ 0
  | 0, j, acc, a, c, hn, h => by
    rw [textGo, if_neg (by omega)] at h
    injection h with _ h
    omega
  | n + 1, j, acc, a, c, hn, h => by
    rw [textGo] at h
    by_cases hlt : j < s.size
    · rw [if_pos hlt] at h
      by_cases h1 : bt s j = 39 ∧ j + 1 < s.size ∧ bt s (j + 1) = 39
      · rw [if_pos h1] at h
        exact textGo_code s k n (j + 2) _ a c (by omega) h
      · rw [if_neg h1] at h
        by_cases h2 : bt s j = 39
        · rw [if_pos h2] at h
          split at h
          · injection h with _ h; omega
          · cases h
        · rw [if_neg h2] at h
          split at h
          · injection h with _ h; omega
          · exact textGo_code s k n (j + 1) _ a c (by omega) h
    · rw [if_neg hlt] at h
      injection h with _ h
      omega
theorem stepR_code {s : ByteArray} {k : Nat} {a c : Int} (h : stepR s k = .err a c) : c ≠ 0 := by
  unfold stepR at h
  split at h
  · simp only [wordR] at h
    split at h
    · cases h
    · split at h
      · injection h with _ h; omega
      · cases h
  · split at h
    · simp only [numR] at h
      split at h
      · injection h with _ h; omega
      · split at h
        · injection h with _ h; omega
        · split at h
          · injection h with _ h; omega
          · cases h
    · split at h
      · exact textGo_code s k s.size _ _ a c (by omega) h
      · simp only [signR] at h
        split at h
        · cases h
        · split at h
          · cases h
          · injection h with _ h; omega

section
variable {m : Int}
set_option maxHeartbeats 4000000 in
theorem p10 : PureOK Try.prog (G m) 10 (spec1 (fun (s : ByteArray) => s.size ≤ 1000000) (fun s => outAV (tokens s))) := by
  refine pure1 (C := D2 m) (sigD2 m) (mixD2 m) Try.func10 rfl rfl rfl (by kernel_rfl) (by decide) (fun s hs => ?_)
  by_cases hbig : 2000 < s.size
  · have h1 : (2000 : Int) < s.size := by omega
    rw [tokens, if_pos hbig]
    simp [aev, cav, look, acallPure, abin, abinN, abinP, abinI, abinS, aun, aconv, afield, afieldAddr, aindexAddr, aindex, aslice, alow, ahigh, abuild, abuildGo, cellsOf, splice, fieldTy, alen, apick, amax, amin, aload, headV, aparts, abuildSlice, elParts, abytesStr, astore, amake, aappend, anew, arith, aresults, aresList, ares, spec0, spec1, spec2, spec3, spec4, eqCells, eqCell, h1, outAV]
  have h1 : ¬ (2000 : Int) < s.size := by omega
  have hs2 : s.size ≤ 2000 := by omega
  rw [tokens, if_neg hbig]
  simp [aev, cav, look, acallPure, abin, abinN, abinP, abinI, abinS, aun, aconv, afield, afieldAddr, aindexAddr, aindex, aslice, alow, ahigh, abuild, abuildGo, cellsOf, splice, fieldTy, alen, apick, amax, amin, aload, headV, aparts, abuildSlice, elParts, abytesStr, astore, amake, aappend, anew, arith, aresults, aresList, ares, spec0, spec1, spec2, spec3, spec4, eqCells, eqCell, h1]
  refine loop_rule (C := D2 m) (sigD2 m) (mixD2 m) (fun p : Nat × Nat × List Tok => ⟨[(0, .str s), (5, .own 0 p.2.2.length), (6, .int .i64 p.2.1)], [⟨31, 5, encRows p.2.2, true, true⟩]⟩)
    (fun p => p.2.1 ≤ s.size ∧ s.size - p.2.1 < p.1 ∧ p.2.2.length ≤ p.2.1 ∧ lexGo s p.1 p.2.1 p.2.2 = lexGo s (s.size + 1) 0 []) (fun p => s.size - p.2.1) (by kernel_rfl)
    ⟨(s.size + 1, 0, []), ⟨Nat.zero_le _, by omega, by simp, rfl⟩, (weak_nil 5 5 31 (by simp) (by decide)).trans (weak_slots (by simp))⟩ (fun ⟨f, k, ts⟩ ⟨hk, hf, hl, hr⟩ => ?_)
  simp only at hk hf hl hr ⊢
  rw [← hr]
  obtain ⟨f, rfl⟩ : ∃ g, f = g + 1 := ⟨f - 1, by omega⟩
  by_cases hlt : k < s.size
  · have i1 : I64 ((k : Int) + 1) := by unfold I64; omega
    cases hsp : spaceB (bt s k)
    · have hn : ¬ btA s k = 32 ∧ ¬ btA s k = 9 ∧ ¬ btA s k = 10 := by
        simp only [spaceB, decide_eq_false_iff_not] at hsp
        rw [bt_btA]
        omega
      obtain ⟨n1, n2, n3⟩ := hn
      have n1' : ¬ (btA s k : Int) = 32 := by omega
      have n2' : ¬ (btA s k : Int) = 9 := by omega
      have n3' : ¬ (btA s k : Int) = 10 := by omega
      have e0 : resP stepR s (k : Int) = resAV (stepR s k) := rfl
      rw [lexGo_tok hlt hsp]
      cases hst : stepR s k with
      | ok t en =>
        obtain ⟨h2, h3⟩ := stepR_ok hlt hst
        have hr2 : resAV (stepR s k) = .agg [.int .i64 t.kind, .int .i64 t.at_, .int .i64 t.size, .int .i64 t.n, .str t.s, .int .i64 en, .int .i64 0, .int .i64 0] := by rw [hst]; rfl
        simp [aev, cav, look, acallPure, abin, abinN, abinP, abinI, abinS, aun, aconv, afield, afieldAddr, aindexAddr, aindex, aslice, alow, ahigh, abuild, abuildGo, cellsOf, splice, fieldTy, alen, apick, amax, amin, aload, headV, aparts, abuildSlice, elParts, abytesStr, astore, amake, aappend, anew, arith, aresults, aresList, ares, spec0, spec1, spec2, spec3, spec4, eqCells, eqCell, hlt, n1, n1', n2, n2', n3, n3', s21, hs2, e0, hr2]
        exact ⟨by omega, f, en, ts ++ [t], ⟨h3, by omega, by simp; omega, rfl⟩, by omega, weak_keep 1 (by simp) (by decide) (by simp [AV.clean, AV.clean1]) (by simp) rfl⟩
      | err a c =>
        have h2 := stepR_code hst
        have hr2 : resAV (stepR s k) = .agg [.int .i64 0, .int .i64 0, .int .i64 0, .int .i64 0, .str ByteArray.empty, .int .i64 0, .int .i64 a, .int .i64 c] := by rw [hst]; rfl
        simp [aev, cav, look, acallPure, abin, abinN, abinP, abinI, abinS, aun, aconv, afield, afieldAddr, aindexAddr, aindex, aslice, alow, ahigh, abuild, abuildGo, cellsOf, splice, fieldTy, alen, apick, amax, amin, aload, headV, aparts, abuildSlice, elParts, abytesStr, astore, amake, aappend, anew, arith, aresults, aresList, ares, spec0, spec1, spec2, spec3, spec4, eqCells, eqCell, hlt, n1, n1', n2, n2', n3, n3', s21, hs2, e0, hr2, h2, outAV]
    · have hy : btA s k = 32 ∨ btA s k = 9 ∨ btA s k = 10 := by
        simp only [spaceB, decide_eq_true_eq] at hsp
        rw [bt_btA]
        omega
      rcases hy with hy | hy | hy
      all_goals
        have hy' : (btA s k : Int) = _ := congrArg Nat.cast hy
        simp [aev, cav, look, acallPure, abin, abinN, abinP, abinI, abinS, aun, aconv, afield, afieldAddr, aindexAddr, aindex, aslice, alow, ahigh, abuild, abuildGo, cellsOf, splice, fieldTy, alen, apick, amax, amin, aload, headV, aparts, abuildSlice, elParts, abytesStr, astore, amake, aappend, anew, arith, aresults, aresList, ares, spec0, spec1, spec2, spec3, spec4, eqCells, eqCell, hlt, hy, hy', i1]
        exact ⟨f + 1, k + 1, ts, ⟨by omega, by omega, by omega, (lexGo_space hlt hsp).symm⟩, by omega, weak_slots (by simp)⟩
  · have hke : k = s.size := by omega
    subst hke
    rw [lexGo_done]
    simp [aev, cav, look, acallPure, abin, abinN, abinP, abinI, abinS, aun, aconv, afield, afieldAddr, aindexAddr, aindex, aslice, alow, ahigh, abuild, abuildGo, cellsOf, splice, fieldTy, alen, apick, amax, amin, aload, headV, aparts, abuildSlice, elParts, abytesStr, astore, amake, aappend, anew, arith, aresults, aresList, ares, spec0, spec1, spec2, spec3, spec4, eqCells, eqCell, hlt, outAV, endTok]
    exact ⟨by omega, rfl⟩

instance : DecidableEq Tok := fun a b => decidable_of_iff (a.kind = b.kind ∧ a.at_ = b.at_ ∧ a.size = b.size ∧ a.n = b.n ∧ a.s = b.s) (by cases a; cases b; simp)
theorem tok_ne {x y : Tok} (h : ¬ x = y) : (!decide (x.kind = y.kind) || (!decide (x.at_ = y.at_) || (!decide (x.size = y.size) || (!decide (x.n = y.n) || !decide (x.s = y.s))))) = true := by
  refine Classical.byContradiction fun hn => h ?_
  simp only [Bool.or_eq_true, Bool.not_eq_true', decide_eq_false_iff_not, not_or, Classical.not_not] at hn
  cases x; cases y
  simp_all
theorem take_succ_ix {α : Type} [Inhabited α] {l : List α} {i : Nat} (h : i < l.length) : l.take (i + 1) = l.take i ++ [ix l i] := by
  rw [List.take_add_one, List.getElem?_eq_getElem h, ix_lt h]; rfl

/-- The comparison of tokens. -/
theorem p11 : PureOK Try.prog (G m) 11 (spec2 (fun (a b : List Tok) => a.length ≤ 1000000 ∧ b.length ≤ 1000000) (fun a b => .bool (decide (a = b)))) := by
  refine pure2 (C := D2 m) (sigD2 m) (mixD2 m) Try.func11 rfl rfl rfl (by kernel_rfl) (by decide) (fun a b ⟨ha, hb⟩ => ?_)
  by_cases hl : a.length = b.length
  · have hl' : (a.length : Int) = b.length := by omega
    simp [aev, cav, look, acallPure, abin, abinN, abinP, abinI, abinS, aun, aconv, afield, afieldAddr, aindexAddr, aindex, aslice, alow, ahigh, abuild, abuildGo, cellsOf, splice, fieldTy, alen, apick, amax, amin, aload, headV, aparts, abuildSlice, elParts, abytesStr, astore, amake, aappend, anew, arith, aresults, aresList, ares, spec0, spec1, spec2, spec3, spec4, eqCells, eqCell, hl']
    refine loop_rule (C := D2 m) (sigD2 m) (mixD2 m) (fun i : Nat => ⟨[(0, Enc.enc a), (1, Enc.enc b), (5, .int .i64 i)], []⟩) (fun i => i ≤ a.length ∧ a.take i = b.take i) (fun i => a.length - i) (by kernel_rfl) ⟨0, by simp, weak_slots (by simp)⟩ (fun i ⟨hi, hb⟩ => ?_)
    by_cases h1 : i < a.length
    · have h2 : i < b.length := by omega
      by_cases he : ix a i = ix b i
      · simp [aev, cav, look, acallPure, abin, abinN, abinP, abinI, abinS, aun, aconv, afield, afieldAddr, aindexAddr, aindex, aslice, alow, ahigh, abuild, abuildGo, cellsOf, splice, fieldTy, alen, apick, amax, amin, aload, headV, aparts, abuildSlice, elParts, abytesStr, astore, amake, aappend, anew, arith, aresults, aresList, ares, spec0, spec1, spec2, spec3, spec4, eqCells, eqCell, h1, h2, rowAt_enc h1, rowAt_enc h2, he]
        exact ⟨by unfold I64; omega, i + 1, ⟨by omega, by rw [take_succ_ix h1, take_succ_ix h2, hb, he]⟩, by omega, weak_slots (by simp)⟩
      · have hne : ¬ a = b := fun h => he (by rw [h])
        simp [aev, cav, look, acallPure, abin, abinN, abinP, abinI, abinS, aun, aconv, afield, afieldAddr, aindexAddr, aindex, aslice, alow, ahigh, abuild, abuildGo, cellsOf, splice, fieldTy, alen, apick, amax, amin, aload, headV, aparts, abuildSlice, elParts, abytesStr, astore, amake, aappend, anew, arith, aresults, aresList, ares, spec0, spec1, spec2, spec3, spec4, eqCells, eqCell, h1, h2, rowAt_enc h1, rowAt_enc h2, tok_ne he, hne]
    · have : a = b := by rwa [List.take_of_length_le (by omega), List.take_of_length_le (by omega)] at hb
      have h2 : ¬ i < b.length := by omega
      simp [aev, cav, look, acallPure, abin, abinN, abinP, abinI, abinS, aun, aconv, afield, afieldAddr, aindexAddr, aindex, aslice, alow, ahigh, abuild, abuildGo, cellsOf, splice, fieldTy, alen, apick, amax, amin, aload, headV, aparts, abuildSlice, elParts, abytesStr, astore, amake, aappend, anew, arith, aresults, aresList, ares, spec0, spec1, spec2, spec3, spec4, eqCells, eqCell, h1, h2, this]
  · have hl' : ¬ (a.length : Int) = b.length := by omega
    have hne : ¬ a = b := fun h => hl (by rw [h])
    simp [aev, cav, look, acallPure, abin, abinN, abinP, abinI, abinS, aun, aconv, afield, afieldAddr, aindexAddr, aindex, aslice, alow, ahigh, abuild, abuildGo, cellsOf, splice, fieldTy, alen, apick, amax, amin, aload, headV, aparts, abuildSlice, elParts, abytesStr, astore, amake, aappend, anew, arith, aresults, aresList, ares, spec0, spec1, spec2, spec3, spec4, eqCells, eqCell, hl', hne]
end
end Go.Proofs.Ytogepfcmmmokdaa
