/-
  lex: LexAgain.
-/
import Derived.Test.YtogepfcmmmokdaaL5
import Derived.Test.YtogepfcmmmokdaaAmF
namespace Go.Proofs.Ytogepfcmmmokdaa
open Go.RowKit
set_option linter.unusedSimpArgs false
set_option linter.unusedVariables false
set_option linter.unnecessarySimpa false
set_option maxRecDepth 100000

theorem chain_fits {s : ByteArray} {k : Nat} {r : List Tok} (h : Chain s k r) : k ≤ s.size → (∀ x ∈ r, 0 ≤ x.at_ ∧ 0 ≤ x.size ∧ x.at_ + x.size ≤ s.size) ∧ (joinT s r).length ≤ 2 * (s.size - k) + 1 := by
  induction h with
  | fin k he =>
    intro hk
    have : (s.extract s.size s.size).data.toList.length = 0 := by
      have : (s.extract s.size s.size).size = s.size - s.size := extract_size (Nat.le_refl _) (Nat.le_refl _)
      simp only [Array.length_toList]
      show (s.extract s.size s.size).size = 0
      omega
    refine ⟨fun x hx => ?_, ?_⟩
    · simp only [List.mem_singleton] at hx
      subst hx
      simp [endTok]
    · have e : (endTok s).at_.toNat = s.size := rfl
      have e2 : ((endTok s).at_ + (endTok s).size).toNat = s.size := by simp [endTok]
      rw [joinT, e, e2, List.length_append, this]
      simp [joinT]
  | tok k x en r hlt hst hc ih =>
    intro hk
    have hge := runP_ge spaceB s _ k (Nat.le_refl _)
    obtain ⟨h1, h2⟩ := stepR_ok hlt hst
    obtain ⟨h3, h4, _⟩ := stepR_tok hst
    obtain ⟨i1, i2⟩ := ih h2
    have e1 : x.at_.toNat = runP spaceB s k := by omega
    have e2 : (x.at_ + x.size).toNat = en := by omega
    refine ⟨fun y hy => ?_, ?_⟩
    · rcases List.mem_cons.1 hy with rfl | hy
      · exact ⟨by omega, by omega, by omega⟩
      · exact i1 y hy
    · have hlen : (s.extract (runP spaceB s k) en).data.toList.length = en - runP spaceB s k := by
        have : (s.extract (runP spaceB s k) en).size = en - runP spaceB s k := extract_size (by omega) h2
        simp only [Array.length_toList]
        exact this
      rw [joinT, e1, e2, List.length_append, hlen, List.length_cons]
      omega

theorem again {s : ByteArray} {l : List Tok} (hs : s.size ≤ 900) (h : tokens s = .done l) : (∀ x ∈ l, 0 ≤ x.at_ ∧ 0 ≤ x.size ∧ x.at_ + x.size ≤ s.size) ∧ (joinT s l).length ≤ 2000 ∧ ∃ l', tokens (bs (joinT s l)) = .done l' ∧ l'.map zeroAt = l.map zeroAt ∧ l'.length ≤ 2001 := by
  have h0 := h
  unfold tokens at h0
  rw [if_neg (by omega)] at h0
  obtain ⟨r, h1, h2⟩ := lexGo_chain _ _ _ _ (Nat.zero_le _) h0
  rw [List.nil_append] at h1
  subst h1
  obtain ⟨h3, h4⟩ := chain_fits h2 (Nat.zero_le _)
  obtain ⟨l', h5, h6⟩ := chain_again h2 [] (Nat.zero_le _)
  have h7 : tokens (bs (joinT s l)) = .done l' := by
    unfold tokens
    rw [if_neg (by rw [bs_size]; omega)]
    exact chain_lexGo (k := 0) h5 _ [] (by simp)
  exact ⟨h3, by omega, l', h7, h6, tokens_len h7⟩

theorem zero_ne {x y : Tok} (h : ¬ zeroAt x = zeroAt y) : (!decide (x.kind = y.kind) || (!decide (x.size = y.size) || (!decide (x.n = y.n) || !decide (x.s = y.s)))) = true := by
  refine Classical.byContradiction fun hn => h ?_
  simp only [Bool.or_eq_true, Bool.not_eq_true', decide_eq_false_iff_not, not_or, Classical.not_not] at hn
  cases x; cases y
  simp_all [zeroAt]
theorem zero_eq {x y : Tok} (h : zeroAt x = zeroAt y) : x.kind = y.kind ∧ x.size = y.size ∧ x.n = y.n ∧ x.s = y.s := by
  cases x; cases y
  simpa [zeroAt] using h


theorem enc_tokE (t : Tok) : Enc.enc t = .agg [.int .i64 t.kind, .int .i64 t.at_, .int .i64 t.size, .int .i64 t.n, .str t.s] := rfl
def Zb : Blk := ⟨31, 5, [[.int .i64 0, .int .i64 0, .int .i64 0, .int .i64 0, .str ByteArray.empty]], true, true⟩
def TB (x : Tok) : Blk := ⟨31, 5, [Enc.cells x], true, true⟩
def HB (o : Bool) (A B : Blk) : List Blk := if o then [A, B] else [B, A]
def heap16 (x y : Tok) (o l8 l9 l10 l11 : Bool) : List Blk :=
  if l11 then HB o (TB x) (TB y) else if l10 then HB o (TB x) Zb else if l8 && l9 then HB o Zb Zb else if l8 || l9 then [Zb] else []
/-- What stands while the two copies are made, in whatever order. -/
structure I16 (a b : List Tok) (i : Nat) (o : Bool) (L : Nat → Bool) (st : ASt) : Prop where
  s0 : getA st.ρ 0 = Enc.enc a
  s1 : getA st.ρ 1 = Enc.enc b
  s5 : getA st.ρ 5 = .int .i64 i
  s14 : getA st.ρ 14 = .int .i64 a.length
  s15 : getA st.ρ 15 = .int .i64 i
  v0 : L 0 = true → getA st.ρ 18 = Enc.enc a
  v1 : L 1 = true → getA st.ρ 19 = .int .i64 i
  v2 : L 2 = true → getA st.ρ 20 = .iptr (Enc.cells (ix a i))
  v3 : L 3 = true → getA st.ρ 21 = Enc.enc (ix a i)
  v4 : L 4 = true → getA st.ρ 22 = Enc.enc b
  v5 : L 5 = true → getA st.ρ 23 = .int .i64 i
  v6 : L 6 = true → getA st.ρ 24 = .iptr (Enc.cells (ix b i))
  v7 : L 7 = true → getA st.ρ 25 = Enc.enc (ix b i)
  v8 : L 8 = true → getA st.ρ 6 = .ptr (if o then 0 else 1) 1 5 0 0
  v9 : L 9 = true → getA st.ρ 7 = .ptr (if o then 1 else 0) 1 5 0 0
  c8 : L 8 = true → L 9 = false → o = true
  c9 : L 9 = true → L 8 = false → o = false
  c10 : L 10 = true → L 8 = true ∧ L 9 = true
  c11 : L 11 = true → L 10 = true
  hp : st.H = heap16 (ix a i) (ix b i) o (L 8) (L 9) (L 10) (L 11)
def J16 (a b : List Tok) (i : Nat) (L : Nat → Bool) (st : ASt) : Prop := ∃ o, I16 a b i o L st

section
variable {m : Int}
set_option maxHeartbeats 4000000 in
theorem p16 : PureOK Try.prog (G m) 16 (spec2 (fun (a b : List Tok) => a.length ≤ 1000000 ∧ b.length ≤ 1000000) (fun a b => .bool (decide (a.map zeroAt = b.map zeroAt)))) := by
  refine pure2W (C := D2 m) Try.func16 rfl rfl rfl (by decide) (fun a b ⟨ha, hb⟩ => ?_)
  by_cases hl : a.length = b.length
  · have hl' : (a.length : Int) = b.length := by omega
    refine AW_seq (avc_sound (sigD2 m) (mixD2 m) _ (by kernel_rfl) ?_)
    simp [aev, cav, look, acallPure, abin, abinN, abinP, abinI, abinS, aun, aconv, afield, afieldAddr, aindexAddr, aindex, aslice, alow, ahigh, abuild, abuildGo, cellsOf, splice, fieldTy, alen, apick, amax, amin, aload, headV, aparts, abuildSlice, elParts, abytesStr, astore, amake, aappend, anew, arith, aresults, aresList, ares, spec0, spec1, spec2, spec3, spec4, eqCells, eqCell, hl']
    refine AW_seq (avc_sound (sigD2 m) (mixD2 m) _ (by kernel_rfl) ?_)
    simp [aev, cav, look, acallPure, abin, abinN, abinP, abinI, abinS, aun, aconv, afield, afieldAddr, aindexAddr, aindex, aslice, alow, ahigh, abuild, abuildGo, cellsOf, splice, fieldTy, alen, apick, amax, amin, aload, headV, aparts, abuildSlice, elParts, abytesStr, astore, amake, aappend, anew, arith, aresults, aresList, ares, spec0, spec1, spec2, spec3, spec4, eqCells, eqCell, hl']
    refine AW_seq (AW_seq (avc_sound (sigD2 m) (mixD2 m) _ (by kernel_rfl) ?_))
    simp [aev, cav, look, acallPure, abin, abinN, abinP, abinI, abinS, aun, aconv, afield, afieldAddr, aindexAddr, aindex, aslice, alow, ahigh, abuild, abuildGo, cellsOf, splice, fieldTy, alen, apick, amax, amin, aload, headV, aparts, abuildSlice, elParts, abytesStr, astore, amake, aappend, anew, arith, aresults, aresList, ares, spec0, spec1, spec2, spec3, spec4, eqCells, eqCell, hl']
    refine AW_block (AW_loopW (fun i : Nat => ⟨[(0, Enc.enc a), (1, Enc.enc b), (14, .int .i64 a.length), (15, .int .i64 i)], []⟩) (fun i => i ≤ a.length ∧ (a.take i).map zeroAt = (b.take i).map zeroAt) (fun i => a.length - i) ⟨0, by simp, weak_slots (by simp [hl'])⟩ (fun i ⟨hi, hb⟩ => ?_))
    by_cases h1 : i < a.length
    · have h2 : i < b.length := by omega
      refine AW_seq (avc_sound (sigD2 m) (mixD2 m) _ (by kernel_rfl) ?_)
      simp [aev, cav, look, acallPure, abin, abinN, abinP, abinI, abinS, aun, aconv, afield, afieldAddr, aindexAddr, aindex, aslice, alow, ahigh, abuild, abuildGo, cellsOf, splice, fieldTy, alen, apick, amax, amin, aload, headV, aparts, abuildSlice, elParts, abytesStr, astore, amake, aappend, anew, arith, aresults, aresList, ares, spec0, spec1, spec2, spec3, spec4, eqCells, eqCell, h1]
      refine AW_seq (avc_sound (sigD2 m) (mixD2 m) _ (by kernel_rfl) ?_)
      simp [aev, cav, look, acallPure, abin, abinN, abinP, abinI, abinS, aun, aconv, afield, afieldAddr, aindexAddr, aindex, aslice, alow, ahigh, abuild, abuildGo, cellsOf, splice, fieldTy, alen, apick, amax, amin, aload, headV, aparts, abuildSlice, elParts, abytesStr, astore, amake, aappend, anew, arith, aresults, aresList, ares, spec0, spec1, spec2, spec3, spec4, eqCells, eqCell, h1]
      refine AW_seq (AW_block (AW_seq (avc_sound (sigD2 m) (mixD2 m) _ (by kernel_rfl) ?_)))
      simp [aev, cav, look, acallPure, abin, abinN, abinP, abinI, abinS, aun, aconv, afield, afieldAddr, aindexAddr, aindex, aslice, alow, ahigh, abuild, abuildGo, cellsOf, splice, fieldTy, alen, apick, amax, amin, aload, headV, aparts, abuildSlice, elParts, abytesStr, astore, amake, aappend, anew, arith, aresults, aresList, ares, spec0, spec1, spec2, spec3, spec4, eqCells, eqCell, h1]
      refine AW_seq (AW_region (sigD2 m) (mixD2 m) [[], [], [0, 1], [2], [], [], [4, 5], [6], [], [], [8, 3, 0, 1, 2, 3, 8, 9], [9, 7, 10, 0, 1, 2, 3, 4, 5, 6, 7, 8, 9, 10]] (by kernel_rfl) (by kernel_rfl) (J16 a b i) ?_ ?_ ?_ ?_)
      · exact ⟨true, by constructor <;> simp [heap16]⟩
      · intro k o ho L st' ⟨o', hI⟩ hLi hd
        obtain ⟨ρ, H⟩ := st'
        match k, ho with
        | 0, ho =>
          have ho := Option.some.inj ho
          subst ho
          simp [aev, cav, look, acallPure, abin, abinN, abinP, abinI, abinS, aun, aconv, afield, afieldAddr, aindexAddr, aindex, aslice, alow, ahigh, abuild, abuildGo, cellsOf, splice, fieldTy, alen, apick, amax, amin, aload, headV, aparts, abuildSlice, elParts, abytesStr, astore, amake, aappend, anew, arith, aresults, aresList, ares, spec0, spec1, spec2, spec3, spec4, eqCells, eqCell, hI.s0, h1, h2, rowAt_enc h1, rowAt_enc h2]
          exact ⟨o', ⟨(by first | simpa using hI.s0 | (simp; done) | (simp [Enc.enc]; done)), (by first | simpa using hI.s1 | (simp; done) | (simp [Enc.enc]; done)), (by first | simpa using hI.s5 | (simp; done) | (simp [Enc.enc]; done)), (by first | simpa using hI.s14 | (simp; done) | (simp [Enc.enc]; done)), (by first | simpa using hI.s15 | (simp; done) | (simp [Enc.enc]; done)), (by first | simpa using hI.v0 | (simp; done) | (simp [Enc.enc]; done)), (by first | simpa using hI.v1 | (simp; done) | (simp [Enc.enc]; done)), (by first | simpa using hI.v2 | (simp; done) | (simp [Enc.enc]; done)), (by first | simpa using hI.v3 | (simp; done) | (simp [Enc.enc]; done)), (by first | simpa using hI.v4 | (simp; done) | (simp [Enc.enc]; done)), (by first | simpa using hI.v5 | (simp; done) | (simp [Enc.enc]; done)), (by first | simpa using hI.v6 | (simp; done) | (simp [Enc.enc]; done)), (by first | simpa using hI.v7 | (simp; done) | (simp [Enc.enc]; done)), (by first | simpa using hI.v8 | (simp; done) | (simp [Enc.enc]; done)), (by first | simpa using hI.v9 | (simp; done) | (simp [Enc.enc]; done)), (by first | simpa using hI.c8 | (simp; done) | (simp [Enc.enc]; done)), (by first | simpa using hI.c9 | (simp; done) | (simp [Enc.enc]; done)), (by first | simpa using hI.c10 | (simp; done) | (simp [Enc.enc]; done)), (by first | simpa using hI.c11 | (simp; done) | (simp [Enc.enc]; done)), (by simpa using hI.hp)⟩⟩
        | 1, ho =>
          have ho := Option.some.inj ho
          subst ho
          simp [aev, cav, look, acallPure, abin, abinN, abinP, abinI, abinS, aun, aconv, afield, afieldAddr, aindexAddr, aindex, aslice, alow, ahigh, abuild, abuildGo, cellsOf, splice, fieldTy, alen, apick, amax, amin, aload, headV, aparts, abuildSlice, elParts, abytesStr, astore, amake, aappend, anew, arith, aresults, aresList, ares, spec0, spec1, spec2, spec3, spec4, eqCells, eqCell, hI.s5, h1, h2, rowAt_enc h1, rowAt_enc h2]
          exact ⟨o', ⟨(by first | simpa using hI.s0 | (simp; done) | (simp [Enc.enc]; done)), (by first | simpa using hI.s1 | (simp; done) | (simp [Enc.enc]; done)), (by first | simpa using hI.s5 | (simp; done) | (simp [Enc.enc]; done)), (by first | simpa using hI.s14 | (simp; done) | (simp [Enc.enc]; done)), (by first | simpa using hI.s15 | (simp; done) | (simp [Enc.enc]; done)), (by first | simpa using hI.v0 | (simp; done) | (simp [Enc.enc]; done)), (by first | simpa using hI.v1 | (simp; done) | (simp [Enc.enc]; done)), (by first | simpa using hI.v2 | (simp; done) | (simp [Enc.enc]; done)), (by first | simpa using hI.v3 | (simp; done) | (simp [Enc.enc]; done)), (by first | simpa using hI.v4 | (simp; done) | (simp [Enc.enc]; done)), (by first | simpa using hI.v5 | (simp; done) | (simp [Enc.enc]; done)), (by first | simpa using hI.v6 | (simp; done) | (simp [Enc.enc]; done)), (by first | simpa using hI.v7 | (simp; done) | (simp [Enc.enc]; done)), (by first | simpa using hI.v8 | (simp; done) | (simp [Enc.enc]; done)), (by first | simpa using hI.v9 | (simp; done) | (simp [Enc.enc]; done)), (by first | simpa using hI.c8 | (simp; done) | (simp [Enc.enc]; done)), (by first | simpa using hI.c9 | (simp; done) | (simp [Enc.enc]; done)), (by first | simpa using hI.c10 | (simp; done) | (simp [Enc.enc]; done)), (by first | simpa using hI.c11 | (simp; done) | (simp [Enc.enc]; done)), (by simpa using hI.hp)⟩⟩
        | 2, ho =>
          have ho := Option.some.inj ho
          subst ho
          simp [aev, cav, look, acallPure, abin, abinN, abinP, abinI, abinS, aun, aconv, afield, afieldAddr, aindexAddr, aindex, aslice, alow, ahigh, abuild, abuildGo, cellsOf, splice, fieldTy, alen, apick, amax, amin, aload, headV, aparts, abuildSlice, elParts, abytesStr, astore, amake, aappend, anew, arith, aresults, aresList, ares, spec0, spec1, spec2, spec3, spec4, eqCells, eqCell, hI.v0 (hd 0 (by simp)), hI.v1 (hd 1 (by simp)), h1, h2, rowAt_enc h1, rowAt_enc h2]
          exact ⟨o', ⟨(by first | simpa using hI.s0 | (simp; done) | (simp [Enc.enc]; done)), (by first | simpa using hI.s1 | (simp; done) | (simp [Enc.enc]; done)), (by first | simpa using hI.s5 | (simp; done) | (simp [Enc.enc]; done)), (by first | simpa using hI.s14 | (simp; done) | (simp [Enc.enc]; done)), (by first | simpa using hI.s15 | (simp; done) | (simp [Enc.enc]; done)), (by first | simpa using hI.v0 | (simp; done) | (simp [Enc.enc]; done)), (by first | simpa using hI.v1 | (simp; done) | (simp [Enc.enc]; done)), (by first | simpa using hI.v2 | (simp; done) | (simp [Enc.enc]; done)), (by first | simpa using hI.v3 | (simp; done) | (simp [Enc.enc]; done)), (by first | simpa using hI.v4 | (simp; done) | (simp [Enc.enc]; done)), (by first | simpa using hI.v5 | (simp; done) | (simp [Enc.enc]; done)), (by first | simpa using hI.v6 | (simp; done) | (simp [Enc.enc]; done)), (by first | simpa using hI.v7 | (simp; done) | (simp [Enc.enc]; done)), (by first | simpa using hI.v8 | (simp; done) | (simp [Enc.enc]; done)), (by first | simpa using hI.v9 | (simp; done) | (simp [Enc.enc]; done)), (by first | simpa using hI.c8 | (simp; done) | (simp [Enc.enc]; done)), (by first | simpa using hI.c9 | (simp; done) | (simp [Enc.enc]; done)), (by first | simpa using hI.c10 | (simp; done) | (simp [Enc.enc]; done)), (by first | simpa using hI.c11 | (simp; done) | (simp [Enc.enc]; done)), (by simpa using hI.hp)⟩⟩
        | 3, ho =>
          have ho := Option.some.inj ho
          subst ho
          simp [aev, cav, look, acallPure, abin, abinN, abinP, abinI, abinS, aun, aconv, afield, afieldAddr, aindexAddr, aindex, aslice, alow, ahigh, abuild, abuildGo, cellsOf, splice, fieldTy, alen, apick, amax, amin, aload, headV, aparts, abuildSlice, elParts, abytesStr, astore, amake, aappend, anew, arith, aresults, aresList, ares, spec0, spec1, spec2, spec3, spec4, eqCells, eqCell, hI.v2 (hd 2 (by simp)), h1, h2, rowAt_enc h1, rowAt_enc h2]
          exact ⟨o', ⟨(by first | simpa using hI.s0 | (simp; done) | (simp [Enc.enc]; done)), (by first | simpa using hI.s1 | (simp; done) | (simp [Enc.enc]; done)), (by first | simpa using hI.s5 | (simp; done) | (simp [Enc.enc]; done)), (by first | simpa using hI.s14 | (simp; done) | (simp [Enc.enc]; done)), (by first | simpa using hI.s15 | (simp; done) | (simp [Enc.enc]; done)), (by first | simpa using hI.v0 | (simp; done) | (simp [Enc.enc]; done)), (by first | simpa using hI.v1 | (simp; done) | (simp [Enc.enc]; done)), (by first | simpa using hI.v2 | (simp; done) | (simp [Enc.enc]; done)), (by first | simpa using hI.v3 | (simp; done) | (simp [Enc.enc]; done)), (by first | simpa using hI.v4 | (simp; done) | (simp [Enc.enc]; done)), (by first | simpa using hI.v5 | (simp; done) | (simp [Enc.enc]; done)), (by first | simpa using hI.v6 | (simp; done) | (simp [Enc.enc]; done)), (by first | simpa using hI.v7 | (simp; done) | (simp [Enc.enc]; done)), (by first | simpa using hI.v8 | (simp; done) | (simp [Enc.enc]; done)), (by first | simpa using hI.v9 | (simp; done) | (simp [Enc.enc]; done)), (by first | simpa using hI.c8 | (simp; done) | (simp [Enc.enc]; done)), (by first | simpa using hI.c9 | (simp; done) | (simp [Enc.enc]; done)), (by first | simpa using hI.c10 | (simp; done) | (simp [Enc.enc]; done)), (by first | simpa using hI.c11 | (simp; done) | (simp [Enc.enc]; done)), (by simpa using hI.hp)⟩⟩
        | 4, ho =>
          have ho := Option.some.inj ho
          subst ho
          simp [aev, cav, look, acallPure, abin, abinN, abinP, abinI, abinS, aun, aconv, afield, afieldAddr, aindexAddr, aindex, aslice, alow, ahigh, abuild, abuildGo, cellsOf, splice, fieldTy, alen, apick, amax, amin, aload, headV, aparts, abuildSlice, elParts, abytesStr, astore, amake, aappend, anew, arith, aresults, aresList, ares, spec0, spec1, spec2, spec3, spec4, eqCells, eqCell, hI.s1, h1, h2, rowAt_enc h1, rowAt_enc h2]
          exact ⟨o', ⟨(by first | simpa using hI.s0 | (simp; done) | (simp [Enc.enc]; done)), (by first | simpa using hI.s1 | (simp; done) | (simp [Enc.enc]; done)), (by first | simpa using hI.s5 | (simp; done) | (simp [Enc.enc]; done)), (by first | simpa using hI.s14 | (simp; done) | (simp [Enc.enc]; done)), (by first | simpa using hI.s15 | (simp; done) | (simp [Enc.enc]; done)), (by first | simpa using hI.v0 | (simp; done) | (simp [Enc.enc]; done)), (by first | simpa using hI.v1 | (simp; done) | (simp [Enc.enc]; done)), (by first | simpa using hI.v2 | (simp; done) | (simp [Enc.enc]; done)), (by first | simpa using hI.v3 | (simp; done) | (simp [Enc.enc]; done)), (by first | simpa using hI.v4 | (simp; done) | (simp [Enc.enc]; done)), (by first | simpa using hI.v5 | (simp; done) | (simp [Enc.enc]; done)), (by first | simpa using hI.v6 | (simp; done) | (simp [Enc.enc]; done)), (by first | simpa using hI.v7 | (simp; done) | (simp [Enc.enc]; done)), (by first | simpa using hI.v8 | (simp; done) | (simp [Enc.enc]; done)), (by first | simpa using hI.v9 | (simp; done) | (simp [Enc.enc]; done)), (by first | simpa using hI.c8 | (simp; done) | (simp [Enc.enc]; done)), (by first | simpa using hI.c9 | (simp; done) | (simp [Enc.enc]; done)), (by first | simpa using hI.c10 | (simp; done) | (simp [Enc.enc]; done)), (by first | simpa using hI.c11 | (simp; done) | (simp [Enc.enc]; done)), (by simpa using hI.hp)⟩⟩
        | 5, ho =>
          have ho := Option.some.inj ho
          subst ho
          simp [aev, cav, look, acallPure, abin, abinN, abinP, abinI, abinS, aun, aconv, afield, afieldAddr, aindexAddr, aindex, aslice, alow, ahigh, abuild, abuildGo, cellsOf, splice, fieldTy, alen, apick, amax, amin, aload, headV, aparts, abuildSlice, elParts, abytesStr, astore, amake, aappend, anew, arith, aresults, aresList, ares, spec0, spec1, spec2, spec3, spec4, eqCells, eqCell, hI.s5, h1, h2, rowAt_enc h1, rowAt_enc h2]
          exact ⟨o', ⟨(by first | simpa using hI.s0 | (simp; done) | (simp [Enc.enc]; done)), (by first | simpa using hI.s1 | (simp; done) | (simp [Enc.enc]; done)), (by first | simpa using hI.s5 | (simp; done) | (simp [Enc.enc]; done)), (by first | simpa using hI.s14 | (simp; done) | (simp [Enc.enc]; done)), (by first | simpa using hI.s15 | (simp; done) | (simp [Enc.enc]; done)), (by first | simpa using hI.v0 | (simp; done) | (simp [Enc.enc]; done)), (by first | simpa using hI.v1 | (simp; done) | (simp [Enc.enc]; done)), (by first | simpa using hI.v2 | (simp; done) | (simp [Enc.enc]; done)), (by first | simpa using hI.v3 | (simp; done) | (simp [Enc.enc]; done)), (by first | simpa using hI.v4 | (simp; done) | (simp [Enc.enc]; done)), (by first | simpa using hI.v5 | (simp; done) | (simp [Enc.enc]; done)), (by first | simpa using hI.v6 | (simp; done) | (simp [Enc.enc]; done)), (by first | simpa using hI.v7 | (simp; done) | (simp [Enc.enc]; done)), (by first | simpa using hI.v8 | (simp; done) | (simp [Enc.enc]; done)), (by first | simpa using hI.v9 | (simp; done) | (simp [Enc.enc]; done)), (by first | simpa using hI.c8 | (simp; done) | (simp [Enc.enc]; done)), (by first | simpa using hI.c9 | (simp; done) | (simp [Enc.enc]; done)), (by first | simpa using hI.c10 | (simp; done) | (simp [Enc.enc]; done)), (by first | simpa using hI.c11 | (simp; done) | (simp [Enc.enc]; done)), (by simpa using hI.hp)⟩⟩
        | 6, ho =>
          have ho := Option.some.inj ho
          subst ho
          simp [aev, cav, look, acallPure, abin, abinN, abinP, abinI, abinS, aun, aconv, afield, afieldAddr, aindexAddr, aindex, aslice, alow, ahigh, abuild, abuildGo, cellsOf, splice, fieldTy, alen, apick, amax, amin, aload, headV, aparts, abuildSlice, elParts, abytesStr, astore, amake, aappend, anew, arith, aresults, aresList, ares, spec0, spec1, spec2, spec3, spec4, eqCells, eqCell, hI.v4 (hd 4 (by simp)), hI.v5 (hd 5 (by simp)), h1, h2, rowAt_enc h1, rowAt_enc h2]
          exact ⟨o', ⟨(by first | simpa using hI.s0 | (simp; done) | (simp [Enc.enc]; done)), (by first | simpa using hI.s1 | (simp; done) | (simp [Enc.enc]; done)), (by first | simpa using hI.s5 | (simp; done) | (simp [Enc.enc]; done)), (by first | simpa using hI.s14 | (simp; done) | (simp [Enc.enc]; done)), (by first | simpa using hI.s15 | (simp; done) | (simp [Enc.enc]; done)), (by first | simpa using hI.v0 | (simp; done) | (simp [Enc.enc]; done)), (by first | simpa using hI.v1 | (simp; done) | (simp [Enc.enc]; done)), (by first | simpa using hI.v2 | (simp; done) | (simp [Enc.enc]; done)), (by first | simpa using hI.v3 | (simp; done) | (simp [Enc.enc]; done)), (by first | simpa using hI.v4 | (simp; done) | (simp [Enc.enc]; done)), (by first | simpa using hI.v5 | (simp; done) | (simp [Enc.enc]; done)), (by first | simpa using hI.v6 | (simp; done) | (simp [Enc.enc]; done)), (by first | simpa using hI.v7 | (simp; done) | (simp [Enc.enc]; done)), (by first | simpa using hI.v8 | (simp; done) | (simp [Enc.enc]; done)), (by first | simpa using hI.v9 | (simp; done) | (simp [Enc.enc]; done)), (by first | simpa using hI.c8 | (simp; done) | (simp [Enc.enc]; done)), (by first | simpa using hI.c9 | (simp; done) | (simp [Enc.enc]; done)), (by first | simpa using hI.c10 | (simp; done) | (simp [Enc.enc]; done)), (by first | simpa using hI.c11 | (simp; done) | (simp [Enc.enc]; done)), (by simpa using hI.hp)⟩⟩
        | 7, ho =>
          have ho := Option.some.inj ho
          subst ho
          simp [aev, cav, look, acallPure, abin, abinN, abinP, abinI, abinS, aun, aconv, afield, afieldAddr, aindexAddr, aindex, aslice, alow, ahigh, abuild, abuildGo, cellsOf, splice, fieldTy, alen, apick, amax, amin, aload, headV, aparts, abuildSlice, elParts, abytesStr, astore, amake, aappend, anew, arith, aresults, aresList, ares, spec0, spec1, spec2, spec3, spec4, eqCells, eqCell, hI.v6 (hd 6 (by simp)), h1, h2, rowAt_enc h1, rowAt_enc h2]
          exact ⟨o', ⟨(by first | simpa using hI.s0 | (simp; done) | (simp [Enc.enc]; done)), (by first | simpa using hI.s1 | (simp; done) | (simp [Enc.enc]; done)), (by first | simpa using hI.s5 | (simp; done) | (simp [Enc.enc]; done)), (by first | simpa using hI.s14 | (simp; done) | (simp [Enc.enc]; done)), (by first | simpa using hI.s15 | (simp; done) | (simp [Enc.enc]; done)), (by first | simpa using hI.v0 | (simp; done) | (simp [Enc.enc]; done)), (by first | simpa using hI.v1 | (simp; done) | (simp [Enc.enc]; done)), (by first | simpa using hI.v2 | (simp; done) | (simp [Enc.enc]; done)), (by first | simpa using hI.v3 | (simp; done) | (simp [Enc.enc]; done)), (by first | simpa using hI.v4 | (simp; done) | (simp [Enc.enc]; done)), (by first | simpa using hI.v5 | (simp; done) | (simp [Enc.enc]; done)), (by first | simpa using hI.v6 | (simp; done) | (simp [Enc.enc]; done)), (by first | simpa using hI.v7 | (simp; done) | (simp [Enc.enc]; done)), (by first | simpa using hI.v8 | (simp; done) | (simp [Enc.enc]; done)), (by first | simpa using hI.v9 | (simp; done) | (simp [Enc.enc]; done)), (by first | simpa using hI.c8 | (simp; done) | (simp [Enc.enc]; done)), (by first | simpa using hI.c9 | (simp; done) | (simp [Enc.enc]; done)), (by first | simpa using hI.c10 | (simp; done) | (simp [Enc.enc]; done)), (by first | simpa using hI.c11 | (simp; done) | (simp [Enc.enc]; done)), (by simpa using hI.hp)⟩⟩
        | 8, ho =>
          have ho := Option.some.inj ho
          subst ho
          have n10 : L 10 = false := by cases h : L 10 <;> simp_all [hI.c10]
          have n11 : L 11 = false := by cases h : L 11 <;> simp_all [hI.c11]
          cases l9 : L 9
          · have hH : H = [] := by simpa [heap16, hLi, l9, n10, n11] using hI.hp
            subst hH
            simp [aev, cav, look, acallPure, abin, abinN, abinP, abinI, abinS, aun, aconv, afield, afieldAddr, aindexAddr, aindex, aslice, alow, ahigh, abuild, abuildGo, cellsOf, splice, fieldTy, alen, apick, amax, amin, aload, headV, aparts, abuildSlice, elParts, abytesStr, astore, amake, aappend, anew, arith, aresults, aresList, ares, spec0, spec1, spec2, spec3, spec4, eqCells, eqCell]
            exact ⟨true, ⟨(by first | (simpa using hI.s0) | (simp [l9]; done) | (simp_all; done)), (by first | (simpa using hI.s1) | (simp [l9]; done) | (simp_all; done)), (by first | (simpa using hI.s5) | (simp [l9]; done) | (simp_all; done)), (by first | (simpa using hI.s14) | (simp [l9]; done) | (simp_all; done)), (by first | (simpa using hI.s15) | (simp [l9]; done) | (simp_all; done)), (by first | (simpa using hI.v0) | (simp [l9]; done) | (simp_all; done)), (by first | (simpa using hI.v1) | (simp [l9]; done) | (simp_all; done)), (by first | (simpa using hI.v2) | (simp [l9]; done) | (simp_all; done)), (by first | (simpa using hI.v3) | (simp [l9]; done) | (simp_all; done)), (by first | (simpa using hI.v4) | (simp [l9]; done) | (simp_all; done)), (by first | (simpa using hI.v5) | (simp [l9]; done) | (simp_all; done)), (by first | (simpa using hI.v6) | (simp [l9]; done) | (simp_all; done)), (by first | (simpa using hI.v7) | (simp [l9]; done) | (simp_all; done)), (by first | (simpa using hI.v8) | (simp [l9]; done) | (simp_all; done)), (by first | (simpa using hI.v9) | (simp [l9]; done) | (simp_all; done)), (by first | (simpa using hI.c8) | (simp [l9]; done) | (simp_all; done)), (by first | (simpa using hI.c9) | (simp [l9]; done) | (simp_all; done)), (by first | (simpa using hI.c10) | (simp [l9]; done) | (simp_all; done)), (by first | (simpa using hI.c11) | (simp [l9]; done) | (simp_all; done)), (by simp [heap16, l9, n10, n11, Zb])⟩⟩
          · have e := hI.c9 l9 hLi
            subst e
            have hH : H = [Zb] := by simpa [heap16, hLi, l9, n10, n11] using hI.hp
            subst hH
            simp [aev, cav, look, acallPure, abin, abinN, abinP, abinI, abinS, aun, aconv, afield, afieldAddr, aindexAddr, aindex, aslice, alow, ahigh, abuild, abuildGo, cellsOf, splice, fieldTy, alen, apick, amax, amin, aload, headV, aparts, abuildSlice, elParts, abytesStr, astore, amake, aappend, anew, arith, aresults, aresList, ares, spec0, spec1, spec2, spec3, spec4, eqCells, eqCell]
            exact ⟨false, ⟨(by first | (simpa using hI.s0) | (simp [l9]; done) | (simp_all; done)), (by first | (simpa using hI.s1) | (simp [l9]; done) | (simp_all; done)), (by first | (simpa using hI.s5) | (simp [l9]; done) | (simp_all; done)), (by first | (simpa using hI.s14) | (simp [l9]; done) | (simp_all; done)), (by first | (simpa using hI.s15) | (simp [l9]; done) | (simp_all; done)), (by first | (simpa using hI.v0) | (simp [l9]; done) | (simp_all; done)), (by first | (simpa using hI.v1) | (simp [l9]; done) | (simp_all; done)), (by first | (simpa using hI.v2) | (simp [l9]; done) | (simp_all; done)), (by first | (simpa using hI.v3) | (simp [l9]; done) | (simp_all; done)), (by first | (simpa using hI.v4) | (simp [l9]; done) | (simp_all; done)), (by first | (simpa using hI.v5) | (simp [l9]; done) | (simp_all; done)), (by first | (simpa using hI.v6) | (simp [l9]; done) | (simp_all; done)), (by first | (simpa using hI.v7) | (simp [l9]; done) | (simp_all; done)), (by first | (simpa using hI.v8) | (simp [l9]; done) | (simp_all; done)), (by first | (simpa using hI.v9) | (simp [l9]; done) | (simp_all; done)), (by first | (simpa using hI.c8) | (simp [l9]; done) | (simp_all; done)), (by first | (simpa using hI.c9) | (simp [l9]; done) | (simp_all; done)), (by first | (simpa using hI.c10) | (simp [l9]; done) | (simp_all; done)), (by first | (simpa using hI.c11) | (simp [l9]; done) | (simp_all; done)), (by simp [heap16, l9, n10, n11, HB, Zb])⟩⟩
        | 9, ho =>
          have ho := Option.some.inj ho
          subst ho
          have n10 : L 10 = false := by cases h : L 10 <;> simp_all [hI.c10]
          have n11 : L 11 = false := by cases h : L 11 <;> simp_all [hI.c11]
          cases l8 : L 8
          · have hH : H = [] := by simpa [heap16, hLi, l8, n10, n11] using hI.hp
            subst hH
            simp [aev, cav, look, acallPure, abin, abinN, abinP, abinI, abinS, aun, aconv, afield, afieldAddr, aindexAddr, aindex, aslice, alow, ahigh, abuild, abuildGo, cellsOf, splice, fieldTy, alen, apick, amax, amin, aload, headV, aparts, abuildSlice, elParts, abytesStr, astore, amake, aappend, anew, arith, aresults, aresList, ares, spec0, spec1, spec2, spec3, spec4, eqCells, eqCell]
            exact ⟨false, ⟨(by first | (simpa using hI.s0) | (simp [l8]; done) | (simp_all; done)), (by first | (simpa using hI.s1) | (simp [l8]; done) | (simp_all; done)), (by first | (simpa using hI.s5) | (simp [l8]; done) | (simp_all; done)), (by first | (simpa using hI.s14) | (simp [l8]; done) | (simp_all; done)), (by first | (simpa using hI.s15) | (simp [l8]; done) | (simp_all; done)), (by first | (simpa using hI.v0) | (simp [l8]; done) | (simp_all; done)), (by first | (simpa using hI.v1) | (simp [l8]; done) | (simp_all; done)), (by first | (simpa using hI.v2) | (simp [l8]; done) | (simp_all; done)), (by first | (simpa using hI.v3) | (simp [l8]; done) | (simp_all; done)), (by first | (simpa using hI.v4) | (simp [l8]; done) | (simp_all; done)), (by first | (simpa using hI.v5) | (simp [l8]; done) | (simp_all; done)), (by first | (simpa using hI.v6) | (simp [l8]; done) | (simp_all; done)), (by first | (simpa using hI.v7) | (simp [l8]; done) | (simp_all; done)), (by first | (simpa using hI.v8) | (simp [l8]; done) | (simp_all; done)), (by first | (simpa using hI.v9) | (simp [l8]; done) | (simp_all; done)), (by first | (simpa using hI.c8) | (simp [l8]; done) | (simp_all; done)), (by first | (simpa using hI.c9) | (simp [l8]; done) | (simp_all; done)), (by first | (simpa using hI.c10) | (simp [l8]; done) | (simp_all; done)), (by first | (simpa using hI.c11) | (simp [l8]; done) | (simp_all; done)), (by simp [heap16, l8, n10, n11, Zb])⟩⟩
          · have e := hI.c8 l8 hLi
            subst e
            have hH : H = [Zb] := by simpa [heap16, hLi, l8, n10, n11] using hI.hp
            subst hH
            simp [aev, cav, look, acallPure, abin, abinN, abinP, abinI, abinS, aun, aconv, afield, afieldAddr, aindexAddr, aindex, aslice, alow, ahigh, abuild, abuildGo, cellsOf, splice, fieldTy, alen, apick, amax, amin, aload, headV, aparts, abuildSlice, elParts, abytesStr, astore, amake, aappend, anew, arith, aresults, aresList, ares, spec0, spec1, spec2, spec3, spec4, eqCells, eqCell]
            exact ⟨true, ⟨(by first | (simpa using hI.s0) | (simp [l8]; done) | (simp_all; done)), (by first | (simpa using hI.s1) | (simp [l8]; done) | (simp_all; done)), (by first | (simpa using hI.s5) | (simp [l8]; done) | (simp_all; done)), (by first | (simpa using hI.s14) | (simp [l8]; done) | (simp_all; done)), (by first | (simpa using hI.s15) | (simp [l8]; done) | (simp_all; done)), (by first | (simpa using hI.v0) | (simp [l8]; done) | (simp_all; done)), (by first | (simpa using hI.v1) | (simp [l8]; done) | (simp_all; done)), (by first | (simpa using hI.v2) | (simp [l8]; done) | (simp_all; done)), (by first | (simpa using hI.v3) | (simp [l8]; done) | (simp_all; done)), (by first | (simpa using hI.v4) | (simp [l8]; done) | (simp_all; done)), (by first | (simpa using hI.v5) | (simp [l8]; done) | (simp_all; done)), (by first | (simpa using hI.v6) | (simp [l8]; done) | (simp_all; done)), (by first | (simpa using hI.v7) | (simp [l8]; done) | (simp_all; done)), (by first | (simpa using hI.v8) | (simp [l8]; done) | (simp_all; done)), (by first | (simpa using hI.v9) | (simp [l8]; done) | (simp_all; done)), (by first | (simpa using hI.c8) | (simp [l8]; done) | (simp_all; done)), (by first | (simpa using hI.c9) | (simp [l8]; done) | (simp_all; done)), (by first | (simpa using hI.c10) | (simp [l8]; done) | (simp_all; done)), (by first | (simpa using hI.c11) | (simp [l8]; done) | (simp_all; done)), (by simp [heap16, l8, n10, n11, HB, Zb])⟩⟩
        | 10, ho =>
          have ho := Option.some.inj ho
          subst ho
          have l8 : L 8 = true := hd 8 (by simp)
          have l9 : L 9 = true := hd 9 (by simp)
          have l3 : L 3 = true := hd 3 (by simp)
          have n11 : L 11 = false := by cases h : L 11 <;> simp_all [hI.c11]
          cases o'
          · have hH : H = [Zb, Zb] := by simpa [heap16, hLi, l8, l9, n11, HB] using hI.hp
            subst hH
            simp [aev, cav, look, acallPure, abin, abinN, abinP, abinI, abinS, aun, aconv, afield, afieldAddr, aindexAddr, aindex, aslice, alow, ahigh, abuild, abuildGo, cellsOf, splice, fieldTy, alen, apick, amax, amin, aload, headV, aparts, abuildSlice, elParts, abytesStr, astore, amake, aappend, anew, arith, aresults, aresList, ares, spec0, spec1, spec2, spec3, spec4, eqCells, eqCell, hI.v8 l8, (hI.v3 l3).trans (enc_tokE _), Zb, TB]
            try simp
            exact ⟨false, ⟨(by first | (simpa using hI.s0) | (simp [l8, l9]; done) | (simp_all; done)), (by first | (simpa using hI.s1) | (simp [l8, l9]; done) | (simp_all; done)), (by first | (simpa using hI.s5) | (simp [l8, l9]; done) | (simp_all; done)), (by first | (simpa using hI.s14) | (simp [l8, l9]; done) | (simp_all; done)), (by first | (simpa using hI.s15) | (simp [l8, l9]; done) | (simp_all; done)), (by first | (simpa using hI.v0) | (simp [l8, l9]; done) | (simp_all; done)), (by first | (simpa using hI.v1) | (simp [l8, l9]; done) | (simp_all; done)), (by first | (simpa using hI.v2) | (simp [l8, l9]; done) | (simp_all; done)), (by first | (simpa using hI.v3) | (simp [l8, l9]; done) | (simp_all; done)), (by first | (simpa using hI.v4) | (simp [l8, l9]; done) | (simp_all; done)), (by first | (simpa using hI.v5) | (simp [l8, l9]; done) | (simp_all; done)), (by first | (simpa using hI.v6) | (simp [l8, l9]; done) | (simp_all; done)), (by first | (simpa using hI.v7) | (simp [l8, l9]; done) | (simp_all; done)), (by first | (simpa using hI.v8) | (simp [l8, l9]; done) | (simp_all; done)), (by first | (simpa using hI.v9) | (simp [l8, l9]; done) | (simp_all; done)), (by first | (simpa using hI.c8) | (simp [l8, l9]; done) | (simp_all; done)), (by first | (simpa using hI.c9) | (simp [l8, l9]; done) | (simp_all; done)), (by first | (simpa using hI.c10) | (simp [l8, l9]; done) | (simp_all; done)), (by first | (simpa using hI.c11) | (simp [l8, l9]; done) | (simp_all; done)), (by simp [heap16, l8, l9, n11, HB, Zb, TB])⟩⟩
          · have hH : H = [Zb, Zb] := by simpa [heap16, hLi, l8, l9, n11, HB] using hI.hp
            subst hH
            simp [aev, cav, look, acallPure, abin, abinN, abinP, abinI, abinS, aun, aconv, afield, afieldAddr, aindexAddr, aindex, aslice, alow, ahigh, abuild, abuildGo, cellsOf, splice, fieldTy, alen, apick, amax, amin, aload, headV, aparts, abuildSlice, elParts, abytesStr, astore, amake, aappend, anew, arith, aresults, aresList, ares, spec0, spec1, spec2, spec3, spec4, eqCells, eqCell, hI.v8 l8, (hI.v3 l3).trans (enc_tokE _), Zb, TB]
            try simp
            exact ⟨true, ⟨(by first | (simpa using hI.s0) | (simp [l8, l9]; done) | (simp_all; done)), (by first | (simpa using hI.s1) | (simp [l8, l9]; done) | (simp_all; done)), (by first | (simpa using hI.s5) | (simp [l8, l9]; done) | (simp_all; done)), (by first | (simpa using hI.s14) | (simp [l8, l9]; done) | (simp_all; done)), (by first | (simpa using hI.s15) | (simp [l8, l9]; done) | (simp_all; done)), (by first | (simpa using hI.v0) | (simp [l8, l9]; done) | (simp_all; done)), (by first | (simpa using hI.v1) | (simp [l8, l9]; done) | (simp_all; done)), (by first | (simpa using hI.v2) | (simp [l8, l9]; done) | (simp_all; done)), (by first | (simpa using hI.v3) | (simp [l8, l9]; done) | (simp_all; done)), (by first | (simpa using hI.v4) | (simp [l8, l9]; done) | (simp_all; done)), (by first | (simpa using hI.v5) | (simp [l8, l9]; done) | (simp_all; done)), (by first | (simpa using hI.v6) | (simp [l8, l9]; done) | (simp_all; done)), (by first | (simpa using hI.v7) | (simp [l8, l9]; done) | (simp_all; done)), (by first | (simpa using hI.v8) | (simp [l8, l9]; done) | (simp_all; done)), (by first | (simpa using hI.v9) | (simp [l8, l9]; done) | (simp_all; done)), (by first | (simpa using hI.c8) | (simp [l8, l9]; done) | (simp_all; done)), (by first | (simpa using hI.c9) | (simp [l8, l9]; done) | (simp_all; done)), (by first | (simpa using hI.c10) | (simp [l8, l9]; done) | (simp_all; done)), (by first | (simpa using hI.c11) | (simp [l8, l9]; done) | (simp_all; done)), (by simp [heap16, l8, l9, n11, HB, Zb, TB])⟩⟩
        | 11, ho =>
          have ho := Option.some.inj ho
          subst ho
          have l8 : L 8 = true := hd 8 (by simp)
          have l9 : L 9 = true := hd 9 (by simp)
          have l3 : L 3 = true := hd 3 (by simp)
          have l10 : L 10 = true := hd 10 (by simp)
          have l7 : L 7 = true := hd 7 (by simp)
          cases o'
          · have hH : H = [Zb, TB (ix a i)] := by simpa [heap16, hLi, l8, l9, l10, HB] using hI.hp
            subst hH
            simp [aev, cav, look, acallPure, abin, abinN, abinP, abinI, abinS, aun, aconv, afield, afieldAddr, aindexAddr, aindex, aslice, alow, ahigh, abuild, abuildGo, cellsOf, splice, fieldTy, alen, apick, amax, amin, aload, headV, aparts, abuildSlice, elParts, abytesStr, astore, amake, aappend, anew, arith, aresults, aresList, ares, spec0, spec1, spec2, spec3, spec4, eqCells, eqCell, hI.v9 l9, (hI.v7 l7).trans (enc_tokE _), Zb, TB]
            try simp
            exact ⟨false, ⟨(by first | (simpa using hI.s0) | (simp [l8, l9, l10]; done) | (simp_all; done)), (by first | (simpa using hI.s1) | (simp [l8, l9, l10]; done) | (simp_all; done)), (by first | (simpa using hI.s5) | (simp [l8, l9, l10]; done) | (simp_all; done)), (by first | (simpa using hI.s14) | (simp [l8, l9, l10]; done) | (simp_all; done)), (by first | (simpa using hI.s15) | (simp [l8, l9, l10]; done) | (simp_all; done)), (by first | (simpa using hI.v0) | (simp [l8, l9, l10]; done) | (simp_all; done)), (by first | (simpa using hI.v1) | (simp [l8, l9, l10]; done) | (simp_all; done)), (by first | (simpa using hI.v2) | (simp [l8, l9, l10]; done) | (simp_all; done)), (by first | (simpa using hI.v3) | (simp [l8, l9, l10]; done) | (simp_all; done)), (by first | (simpa using hI.v4) | (simp [l8, l9, l10]; done) | (simp_all; done)), (by first | (simpa using hI.v5) | (simp [l8, l9, l10]; done) | (simp_all; done)), (by first | (simpa using hI.v6) | (simp [l8, l9, l10]; done) | (simp_all; done)), (by first | (simpa using hI.v7) | (simp [l8, l9, l10]; done) | (simp_all; done)), (by first | (simpa using hI.v8) | (simp [l8, l9, l10]; done) | (simp_all; done)), (by first | (simpa using hI.v9) | (simp [l8, l9, l10]; done) | (simp_all; done)), (by first | (simpa using hI.c8) | (simp [l8, l9, l10]; done) | (simp_all; done)), (by first | (simpa using hI.c9) | (simp [l8, l9, l10]; done) | (simp_all; done)), (by first | (simpa using hI.c10) | (simp [l8, l9, l10]; done) | (simp_all; done)), (by first | (simpa using hI.c11) | (simp [l8, l9, l10]; done) | (simp_all; done)), (by simp [heap16, l8, l9, l10, HB, Zb, TB])⟩⟩
          · have hH : H = [TB (ix a i), Zb] := by simpa [heap16, hLi, l8, l9, l10, HB] using hI.hp
            subst hH
            simp [aev, cav, look, acallPure, abin, abinN, abinP, abinI, abinS, aun, aconv, afield, afieldAddr, aindexAddr, aindex, aslice, alow, ahigh, abuild, abuildGo, cellsOf, splice, fieldTy, alen, apick, amax, amin, aload, headV, aparts, abuildSlice, elParts, abytesStr, astore, amake, aappend, anew, arith, aresults, aresList, ares, spec0, spec1, spec2, spec3, spec4, eqCells, eqCell, hI.v9 l9, (hI.v7 l7).trans (enc_tokE _), Zb, TB]
            try simp
            exact ⟨true, ⟨(by first | (simpa using hI.s0) | (simp [l8, l9, l10]; done) | (simp_all; done)), (by first | (simpa using hI.s1) | (simp [l8, l9, l10]; done) | (simp_all; done)), (by first | (simpa using hI.s5) | (simp [l8, l9, l10]; done) | (simp_all; done)), (by first | (simpa using hI.s14) | (simp [l8, l9, l10]; done) | (simp_all; done)), (by first | (simpa using hI.s15) | (simp [l8, l9, l10]; done) | (simp_all; done)), (by first | (simpa using hI.v0) | (simp [l8, l9, l10]; done) | (simp_all; done)), (by first | (simpa using hI.v1) | (simp [l8, l9, l10]; done) | (simp_all; done)), (by first | (simpa using hI.v2) | (simp [l8, l9, l10]; done) | (simp_all; done)), (by first | (simpa using hI.v3) | (simp [l8, l9, l10]; done) | (simp_all; done)), (by first | (simpa using hI.v4) | (simp [l8, l9, l10]; done) | (simp_all; done)), (by first | (simpa using hI.v5) | (simp [l8, l9, l10]; done) | (simp_all; done)), (by first | (simpa using hI.v6) | (simp [l8, l9, l10]; done) | (simp_all; done)), (by first | (simpa using hI.v7) | (simp [l8, l9, l10]; done) | (simp_all; done)), (by first | (simpa using hI.v8) | (simp [l8, l9, l10]; done) | (simp_all; done)), (by first | (simpa using hI.v9) | (simp [l8, l9, l10]; done) | (simp_all; done)), (by first | (simpa using hI.c8) | (simp [l8, l9, l10]; done) | (simp_all; done)), (by first | (simpa using hI.c9) | (simp [l8, l9, l10]; done) | (simp_all; done)), (by first | (simpa using hI.c10) | (simp [l8, l9, l10]; done) | (simp_all; done)), (by first | (simpa using hI.c11) | (simp [l8, l9, l10]; done) | (simp_all; done)), (by simp [heap16, l8, l9, l10, HB, Zb, TB])⟩⟩
        | k + 12, ho => exact absurd ho (by simp)
      · intro L st' ⟨o, hI⟩ hall
        obtain ⟨ρ, H⟩ := st'
        have hp := hI.hp
        have e6 := hI.v8 (hall 8 (by decide))
        have e7 := hI.v9 (hall 9 (by decide))
        simp only [heap16, hall 11 (by decide), if_true] at hp
        subst hp
        refine AW.weak (weak_slots (ρ' := [(6, .ptr (if o then 0 else 1) 1 5 0 0), (7, .ptr (if o then 1 else 0) 1 5 0 0), (0, Enc.enc a), (1, Enc.enc b), (14, .int .i64 a.length), (15, .int .i64 i)]) (by simp [e6, e7, hI.s0, hI.s1, hI.s14, hI.s15])) (avc_sound (sigD2 m) (mixD2 m) _ (by kernel_rfl) ?_)
        by_cases he : zeroAt (ix a i) = zeroAt (ix b i)
        · obtain ⟨e1, e2, e3, e4⟩ := zero_eq he
          cases o
          · simp [aev, cav, look, acallPure, abin, abinN, abinP, abinI, abinS, aun, aconv, afield, afieldAddr, aindexAddr, aindex, aslice, alow, ahigh, abuild, abuildGo, cellsOf, splice, fieldTy, alen, apick, amax, amin, aload, headV, aparts, abuildSlice, elParts, abytesStr, astore, amake, aappend, anew, arith, aresults, aresList, ares, spec0, spec1, spec2, spec3, spec4, eqCells, eqCell, HB, TB, h1, h2, e1, e2, e3, e4]
            refine avc_sound (sigD2 m) (mixD2 m) _ (by kernel_rfl) ?_
            simp [aev, cav, look, acallPure, abin, abinN, abinP, abinI, abinS, aun, aconv, afield, afieldAddr, aindexAddr, aindex, aslice, alow, ahigh, abuild, abuildGo, cellsOf, splice, fieldTy, alen, apick, amax, amin, aload, headV, aparts, abuildSlice, elParts, abytesStr, astore, amake, aappend, anew, arith, aresults, aresList, ares, spec0, spec1, spec2, spec3, spec4, eqCells, eqCell]
            exact ⟨by unfold I64; omega, i + 1, ⟨by omega, by rw [← List.map_take, ← List.map_take, take_succ_ix h1, take_succ_ix h2, List.map_append, List.map_append, hb, List.map_singleton, List.map_singleton, he]⟩, by omega, weak_keep 0 (by simp) (by simp) (by simp [AV.clean, AV.clean1, Enc.enc]) (by simp) (by simp)⟩
          · simp [aev, cav, look, acallPure, abin, abinN, abinP, abinI, abinS, aun, aconv, afield, afieldAddr, aindexAddr, aindex, aslice, alow, ahigh, abuild, abuildGo, cellsOf, splice, fieldTy, alen, apick, amax, amin, aload, headV, aparts, abuildSlice, elParts, abytesStr, astore, amake, aappend, anew, arith, aresults, aresList, ares, spec0, spec1, spec2, spec3, spec4, eqCells, eqCell, HB, TB, h1, h2, e1, e2, e3, e4]
            refine avc_sound (sigD2 m) (mixD2 m) _ (by kernel_rfl) ?_
            simp [aev, cav, look, acallPure, abin, abinN, abinP, abinI, abinS, aun, aconv, afield, afieldAddr, aindexAddr, aindex, aslice, alow, ahigh, abuild, abuildGo, cellsOf, splice, fieldTy, alen, apick, amax, amin, aload, headV, aparts, abuildSlice, elParts, abytesStr, astore, amake, aappend, anew, arith, aresults, aresList, ares, spec0, spec1, spec2, spec3, spec4, eqCells, eqCell]
            exact ⟨by unfold I64; omega, i + 1, ⟨by omega, by rw [← List.map_take, ← List.map_take, take_succ_ix h1, take_succ_ix h2, List.map_append, List.map_append, hb, List.map_singleton, List.map_singleton, he]⟩, by omega, weak_keep 0 (by simp) (by simp) (by simp [AV.clean, AV.clean1, Enc.enc]) (by simp) (by simp)⟩
        · have hne : ¬ a.map zeroAt = b.map zeroAt := fun h => he (by
            have := congrArg (fun l : List Tok => l[i]?) h
            simpa [h1, h2, ix_lt h1, ix_lt h2] using this)
          cases o
          · simp [aev, cav, look, acallPure, abin, abinN, abinP, abinI, abinS, aun, aconv, afield, afieldAddr, aindexAddr, aindex, aslice, alow, ahigh, abuild, abuildGo, cellsOf, splice, fieldTy, alen, apick, amax, amin, aload, headV, aparts, abuildSlice, elParts, abytesStr, astore, amake, aappend, anew, arith, aresults, aresList, ares, spec0, spec1, spec2, spec3, spec4, eqCells, eqCell, HB, TB, h1, h2, zero_ne he, hne]
          · simp [aev, cav, look, acallPure, abin, abinN, abinP, abinI, abinS, aun, aconv, afield, afieldAddr, aindexAddr, aindex, aslice, alow, ahigh, abuild, abuildGo, cellsOf, splice, fieldTy, alen, apick, amax, amin, aload, headV, aparts, abuildSlice, elParts, abytesStr, astore, amake, aappend, anew, arith, aresults, aresList, ares, spec0, spec1, spec2, spec3, spec4, eqCells, eqCell, HB, TB, h1, h2, zero_ne he, hne]
      · rintro L L' st' hL ⟨o, hI⟩
        have : L = L' := funext hL
        exact ⟨o, this ▸ hI⟩
    · have h2 : ¬ i < b.length := by omega
      have : a.map zeroAt = b.map zeroAt := by rwa [List.take_of_length_le (by omega), List.take_of_length_le (by omega)] at hb
      refine AW_seq (avc_sound (sigD2 m) (mixD2 m) _ (by kernel_rfl) ?_)
      simp [aev, cav, look, acallPure, abin, abinN, abinP, abinI, abinS, aun, aconv, afield, afieldAddr, aindexAddr, aindex, aslice, alow, ahigh, abuild, abuildGo, cellsOf, splice, fieldTy, alen, apick, amax, amin, aload, headV, aparts, abuildSlice, elParts, abytesStr, astore, amake, aappend, anew, arith, aresults, aresList, ares, spec0, spec1, spec2, spec3, spec4, eqCells, eqCell, h1, h2]
      refine AW_seq (avc_sound (sigD2 m) (mixD2 m) _ (by kernel_rfl) ?_)
      simp [aev, cav, look, acallPure, abin, abinN, abinP, abinI, abinS, aun, aconv, afield, afieldAddr, aindexAddr, aindex, aslice, alow, ahigh, abuild, abuildGo, cellsOf, splice, fieldTy, alen, apick, amax, amin, aload, headV, aparts, abuildSlice, elParts, abytesStr, astore, amake, aappend, anew, arith, aresults, aresList, ares, spec0, spec1, spec2, spec3, spec4, eqCells, eqCell, h1, h2]
      refine avc_sound (sigD2 m) (mixD2 m) _ (by kernel_rfl) ?_
      simp [aev, cav, look, acallPure, abin, abinN, abinP, abinI, abinS, aun, aconv, afield, afieldAddr, aindexAddr, aindex, aslice, alow, ahigh, abuild, abuildGo, cellsOf, splice, fieldTy, alen, apick, amax, amin, aload, headV, aparts, abuildSlice, elParts, abytesStr, astore, amake, aappend, anew, arith, aresults, aresList, ares, spec0, spec1, spec2, spec3, spec4, eqCells, eqCell, this]
  · have hl' : ¬ (a.length : Int) = b.length := by omega
    have hne : ¬ a.map zeroAt = b.map zeroAt := fun h => hl (by simpa using congrArg List.length h)
    refine AW_seq (avc_sound (sigD2 m) (mixD2 m) _ (by kernel_rfl) ?_)
    simp [aev, cav, look, acallPure, abin, abinN, abinP, abinI, abinS, aun, aconv, afield, afieldAddr, aindexAddr, aindex, aslice, alow, ahigh, abuild, abuildGo, cellsOf, splice, fieldTy, alen, apick, amax, amin, aload, headV, aparts, abuildSlice, elParts, abytesStr, astore, amake, aappend, anew, arith, aresults, aresList, ares, spec0, spec1, spec2, spec3, spec4, eqCells, eqCell, hl', hne]
    refine AW_seq (avc_sound (sigD2 m) (mixD2 m) _ (by kernel_rfl) ?_)
    simp [aev, cav, look, acallPure, abin, abinN, abinP, abinI, abinS, aun, aconv, afield, afieldAddr, aindexAddr, aindex, aslice, alow, ahigh, abuild, abuildGo, cellsOf, splice, fieldTy, alen, apick, amax, amin, aload, headV, aparts, abuildSlice, elParts, abytesStr, astore, amake, aappend, anew, arith, aresults, aresList, ares, spec0, spec1, spec2, spec3, spec4, eqCells, eqCell, hl', hne]

def s16 : List AV → Option (Prop × AV) := spec2 (fun (a b : List Tok) => a.length ≤ 1000000 ∧ b.length ≤ 1000000) (fun a b => .bool (decide (a.map zeroAt = b.map zeroAt)))
noncomputable def D4 (m : Int) : Ctx := mkC Try.prog (G m) [(8, .pure s8), (9, .pure s9), (16, .pure s16)]
@[simp] theorem D4_P (m : Int) : (D4 m).P = Try.prog := rfl
@[simp] theorem D4_8 (m : Int) : (D4 m).S 8 = .pure s8 := rfl
@[simp] theorem D4_9 (m : Int) : (D4 m).S 9 = .pure s9 := rfl
@[simp] theorem D4_16 (m : Int) : (D4 m).S 16 = .pure s16 := rfl
theorem sigD4 (m : Int) : SigOK (D4 m) := sigOK_cons (entryPure p8 Try.func8 rfl (by decide)) (sigOK_cons (entryPure p9 Try.func9 rfl (by decide)) (sigOK_cons (entryPure p16 Try.func16 rfl (by decide)) (sigOK_nil _ _)))
theorem mixD4 (m : Int) : (D4 m).P.follows .mixedOrders = true := mixed

set_option maxHeartbeats 4000000 in
theorem law6 : PureOK Try.prog (G m) 6 (spec1 (fun (_ : ByteArray) => True) (fun _ => .bool true)) := by
  refine pure1 (C := D4 m) (sigD4 m) (mixD4 m) Try.func6 rfl rfl rfl (by kernel_rfl) (by decide) (fun s _ => ?_)
  by_cases hbig : 900 < s.size
  · have h1 : (900 : Int) < s.size := by omega
    simp [aev, cav, look, acallPure, abin, abinN, abinP, abinI, abinS, aun, aconv, afield, afieldAddr, aindexAddr, aindex, aslice, alow, ahigh, abuild, abuildGo, cellsOf, splice, fieldTy, alen, apick, amax, amin, aload, headV, aparts, abuildSlice, elParts, abytesStr, astore, amake, aappend, anew, arith, aresults, aresList, ares, spec0, spec1, spec2, spec3, spec4, eqCells, eqCell, h1, s8]
  have h1 : ¬ (900 : Int) < s.size := by omega
  have hs : s.size ≤ 900 := by omega
  cases ht : tokens s with
  | done l =>
    have hll := tokens_len ht
    obtain ⟨hfit, hjl, l', ht2, hz, hl'⟩ := again hs ht
    simp [aev, cav, look, acallPure, abin, abinN, abinP, abinI, abinS, aun, aconv, afield, afieldAddr, aindexAddr, aindex, aslice, alow, ahigh, abuild, abuildGo, cellsOf, splice, fieldTy, alen, apick, amax, amin, aload, headV, aparts, abuildSlice, elParts, abytesStr, astore, amake, aappend, anew, arith, aresults, aresList, ares, spec0, spec1, spec2, spec3, spec4, eqCells, eqCell, h1, s8, s9, ht, outAV]
    refine loop_rule (C := D4 m) (sigD4 m) (mixD4 m) (fun i : Nat => ⟨[(0, .str s), (3, Enc.enc l), (25, Enc.enc l), (26, .int .i64 l.length), (27, .int .i64 i), (6, .str (bs (joinT s (l.take i))))], []⟩) (fun i => i ≤ l.length) (fun i => l.length - i) (by kernel_rfl) ⟨0, by simp, weak_slots (by simp [joinT, bs])⟩ (fun i hi => ?_)
    by_cases h2 : i < l.length
    · obtain ⟨f1, f2, f3⟩ := hfit (ix l i) (ix_mem h2)
      have g1 : ¬ (ix l i).at_ < 0 := by omega
      have g2 : ¬ (ix l i).size < 0 := by omega
      have g3 : ¬ (s.size : Int) < (ix l i).at_ := by omega
      have g4 : ¬ (s.size : Int) - (ix l i).at_ < (ix l i).size := by omega
      have g5 : I64 ((s.size : Int) - (ix l i).at_) := by unfold I64; omega
      have g6 : I64 ((ix l i).at_ + (ix l i).size) := by unfold I64; omega
      simp [aev, cav, look, acallPure, abin, abinN, abinP, abinI, abinS, aun, aconv, afield, afieldAddr, aindexAddr, aindex, aslice, alow, ahigh, abuild, abuildGo, cellsOf, splice, fieldTy, alen, apick, amax, amin, aload, headV, aparts, abuildSlice, elParts, abytesStr, astore, amake, aappend, anew, arith, aresults, aresList, ares, spec0, spec1, spec2, spec3, spec4, eqCells, eqCell, h2, rowAt_enc h2, g1, g2, g3, g4, g5, g6, f1, f2, f3]
      have hsplit : bs (joinT s (l.take i)) ++ (s.extract (ix l i).at_.toNat ((ix l i).at_ + (ix l i).size).toNat ++ ⟨#[32]⟩) = bs (joinT s (l.take (i + 1))) := by
        rw [take_succ_ix h2, joinT_append, ← bs_append]
        congr 1
      have hle : (joinT s (l.take i)).length ≤ (joinT s l).length := by
        conv => rhs; rw [← List.take_append_drop i l, joinT_append]
        simp
      have e32 : (⟨#[32]⟩ : ByteArray).size = 1 := rfl
      refine ⟨by omega, by omega, by omega, by unfold I64; omega, i + 1, by omega, by omega, ?_⟩
      rw [hsplit]
      exact weak_keep 0 (by simp) (by simp) (by simp [AV.clean, AV.clean1, Enc.enc]) (by simp) (by simp)
    · have h3 : l.take i = l := List.take_of_length_le (by omega)
      simp [aev, cav, look, acallPure, abin, abinN, abinP, abinI, abinS, aun, aconv, afield, afieldAddr, aindexAddr, aindex, aslice, alow, ahigh, abuild, abuildGo, cellsOf, splice, fieldTy, alen, apick, amax, amin, aload, headV, aparts, abuildSlice, elParts, abytesStr, astore, amake, aappend, anew, arith, aresults, aresList, ares, spec0, spec1, spec2, spec3, spec4, eqCells, eqCell, h2, h3, s8, s9, s16, ht2, outAV, hz]
      exact ⟨by omega, by omega⟩
  | fault a c =>
    have hc : c ≠ 0 := by
      have := tokens_fine (s := s) (by omega)
      rw [ht] at this
      exact this.2.2
    simp [aev, cav, look, acallPure, abin, abinN, abinP, abinI, abinS, aun, aconv, afield, afieldAddr, aindexAddr, aindex, aslice, alow, ahigh, abuild, abuildGo, cellsOf, splice, fieldTy, alen, apick, amax, amin, aload, headV, aparts, abuildSlice, elParts, abytesStr, astore, amake, aappend, anew, arith, aresults, aresList, ares, spec0, spec1, spec2, spec3, spec4, eqCells, eqCell, h1, s8, s9, ht, outAV, hc]
end
end Go.Proofs.Ytogepfcmmmokdaa
