/-
  layer 14: the levels of a trie are built.
-/
import Derived.Test.YtkonafdbfciikaaT12
namespace Go.Proofs.Ytkonafdbfciikaa
open Go.RowKit
set_option linter.unusedSimpArgs false
set_option linter.unusedVariables false
set_option maxRecDepth 100000

/-- Does row i begin with another path of n keys than the row before it? -/
def freshB (rows : List (List Int)) (i n : Nat) : Bool := decide (i = 0) || !decide ((ix rows i).take n = (ix rows (i - 1)).take n)
def keysF (rows : List (List Int)) (k : Nat) : Nat → List Int
  | 0 => []
  | m + 1 => if freshB rows m (k + 1) then keysF rows k m ++ [ix (ix rows m) k] else keysF rows k m
def marksF (rows : List (List Int)) (k : Nat) : Nat → List Int
  | 0 => [0]
  | m + 1 => if m ≠ 0 ∧ freshB rows m k = true then marksF rows k m ++ [((keysF rows k m).length : Int)] else marksF rows k m
def levelF (rows : List (List Int)) (k : Nat) : Level := ⟨keysF rows k rows.length, if k = 0 ∨ 0 < rows.length then marksF rows k rows.length ++ [((keysF rows k rows.length).length : Int)] else [0]⟩
theorem keysF_le (rows : List (List Int)) (k : Nat) : ∀ m, (keysF rows k m).length ≤ m
  | 0 => Nat.le_refl _
  | m + 1 => by
    have := keysF_le rows k m
    rw [keysF]
    split
    · simp; omega
    · omega
theorem marksF_le (rows : List (List Int)) (k : Nat) : ∀ m, (marksF rows k m).length ≤ m + 1
  | 0 => Nat.le_refl _
  | m + 1 => by
    have := marksF_le rows k m
    rw [marksF]
    split
    · simp; omega
    · omega
theorem weak_eq {C : Ctx} {N h0 : Nat} {ρ ρ' : List (Nat × AV)} {H H' : List Blk} (h : ∀ p ∈ ρ', getA ρ p.1 = p.2) (hH : H = H') : Weak C N h0 ⟨ρ, H⟩ ⟨ρ', H'⟩ := by
  subst hH
  exact weak_slots h
theorem app_int (l : List Int) (x : Int) : encRows l ++ [[.int .i64 x]] = encRows (l ++ [x]) := (encRows_append l [x]).symm

noncomputable def CV3 : Ctx := mkC Try.prog G0 [(56, .pure sEq)]
@[simp] theorem CV3_P : CV3.P = Try.prog := rfl
@[simp] theorem CV3_1 : CV3.S 56 = .pure sEq := rfl
theorem mixCV3 : CV3.P.follows .mixedOrders = true := mixed
theorem sigCV3 : SigOK CV3 := sigOK_cons (entryPure equalP Try.func56 rfl (by decide)) (sigOK_nil _ _)
/-- The rows are long enough for the k-th column. -/
def DeepR (rows : List (List Int)) (k : Nat) : Prop := SmallRs rows ∧ k < 1000000 ∧ ∀ r ∈ rows, k < r.length
def sLevel : List AV → Option (Prop × AV) := spec2 (fun (l : List (List Int)) (k : Int) => ∃ n : Nat, k = n ∧ DeepR l n) (fun l k => Enc.enc (levelF l k.toNat))
def ZL : Blk := ⟨62, 2, [[.slice 1 true [], .slice 1 true []]], true, true⟩
def LB (a b : AV) (d : Bool) : Blk := ⟨62, 2, [[a, b]], true, d⟩
def bK (l : List Int) : Blk := ⟨3, 1, encRows l, true, true⟩
def levH (l : List (List Int)) (n i : Nat) : List Blk :=
  if i = 0 then [ZL, LB (.slice 1 true []) (.slice 1 true [[.int .i64 0]]) true]
  else if (marksF l n i).length = 1 then [ZL, LB (.own 2 (keysF l n i).length) (.slice 1 true [[.int .i64 0]]) false, bK (keysF l n i)]
  else [ZL, LB (.own 2 (keysF l n i).length) (.own 3 (marksF l n i).length) false, bK (keysF l n i), bK (marksF l n i)]
theorem marksF_pos (l : List (List Int)) (n : Nat) : ∀ m, 0 < (marksF l n m).length
  | 0 => Nat.zero_lt_one
  | m + 1 => by
    have := marksF_pos l n m
    rw [marksF]
    split
    · simp
    · exact this
theorem marksF_one (l : List (List Int)) (n : Nat) : ∀ m, (marksF l n m).length = 1 → marksF l n m = [0]
  | 0, _ => rfl
  | m + 1, h => by
    have := marksF_pos l n m
    rw [marksF] at h ⊢
    split
    · rename_i h2
      rw [if_pos h2, List.length_append] at h
      simp at h
      rw [h] at this
      exact absurd this (Nat.lt_irrefl 0)
    · rename_i h2
      rw [if_neg h2] at h
      exact marksF_one l n m h
theorem keysF_pos (l : List (List Int)) (n : Nat) : ∀ m, 0 < m → 0 < (keysF l n m).length
  | 0, h => absurd h (Nat.lt_irrefl 0)
  | m + 1, _ => by
    rw [keysF]
    by_cases h0 : m = 0
    · subst h0
      rw [if_pos (by simp [freshB])]
      simp
    · have := keysF_pos l n m (by omega)
      split
      · simp
      · exact this
set_option maxHeartbeats 8000000 in
theorem levelP : PureOK Try.prog G0 47 sLevel := by
  refine pure2 (C := CV3) sigCV3 mixCV3 Try.func47 rfl rfl rfl (by kernel_rfl) (by decide) (fun l k ⟨n, hk, ⟨hl, hl2⟩, hn, hd⟩ => ?_)
  subst hk
  simp [aev, cav, look, acallPure, abin, abinN, abinP, abinI, abinS, aun, aconv, afield, afieldAddr, aindexAddr, aindex, aslice, alow, ahigh, abuild, abuildGo, cellsOf, splice, fieldTy, alen, apick, amax, amin, aload, headV, aparts, abuildSlice, elParts, abytesStr, astore, amake, aappend, aclear, anew, arith, aresults, aresList, ares, spec0, spec1, spec2, spec3, spec4, eqCells, eqCell]
  refine loop_rule (C := CV3) sigCV3 mixCV3 (fun i : Nat => ⟨[(0, Enc.enc l), (1, .int .i64 n), (4, .ptr 0 1 2 0 0), (5, .ptr 1 1 2 0 0), (10, Enc.enc l), (11, .int .i64 l.length), (12, .int .i64 i)], levH l n i⟩) (fun i => i ≤ l.length) (fun i => l.length - i) (by kernel_rfl) ⟨0, by omega, weak_slots (by simp [levH, ZL, LB])⟩ (fun i hi => ?_)
  have kl := keysF_le l n i
  have ml := marksF_le l n i
  have mp := marksF_pos l n i
  by_cases hlt : i < l.length
  · have i1 : I64 ((i : Int) + 1) := by unfold I64; omega
    have n1 : I64 ((n : Int) + 1) := by unfold I64; omega
    have nn : ((n : Int) + 1).toNat = n + 1 := by omega
    have np : (0 : Int) ≤ (n : Int) + 1 := by omega
    have hr := hd _ (ix_mem hlt)
    have hr' : (n : Int) ≤ (ix l i).length := by omega
    have hr2 : (n : Int) + 1 ≤ (ix l i).length := by omega
    have sr := hl2 _ (ix_mem hlt)
    by_cases h0 : i = 0
    · subst h0
      have e0 : levH l n 0 = [ZL, LB (.slice 1 true []) (.slice 1 true [[.int .i64 0]]) true] := rfl
      have e1 : levH l n 1 = [ZL, LB (.own 2 (keysF l n 1).length) (.slice 1 true [[.int .i64 0]]) false, bK (keysF l n 1)] := rfl
      have e2 : keysF l n 1 = [ix (ix l 0) n] := by rw [keysF, if_pos (by simp [freshB])]; rfl
      rw [e2] at e1
      have w1 : w64 1 = 1 := rfl
      simp [aev, cav, look, acallPure, abin, abinN, abinP, abinI, abinS, aun, aconv, afield, afieldAddr, aindexAddr, aindex, aslice, alow, ahigh, abuild, abuildGo, cellsOf, splice, fieldTy, alen, apick, amax, amin, aload, headV, aparts, abuildSlice, elParts, abytesStr, astore, amake, aappend, aclear, anew, arith, aresults, aresList, ares, spec0, spec1, spec2, spec3, spec4, eqCells, eqCell, e0, ZL, LB, hlt, rowAt_enc hlt, hr, rowAt_enc hr, i1]
      exact ⟨1, by omega, by omega, weak_slots (by simp [e1, ZL, LB, bK, w1])⟩
    · have hp : i - 1 < l.length := by omega
      have i2 : I64 ((i : Int) - 1) := by unfold I64; omega
      have j1 : ((i : Int) - 1).toNat = i - 1 := by omega
      have j2 : (0 : Int) ≤ (i : Int) - 1 := by omega
      have j3 : (i : Int) - 1 < l.length := by omega
      have j4 : (0 < i) = True := eq_true (by omega)
      have j5 : (i = 0) = False := eq_false h0
      have hq := hd _ (ix_mem hp)
      have hq' : (n : Int) ≤ (ix l (i - 1)).length := by omega
      have hq2 : (n : Int) + 1 ≤ (ix l (i - 1)).length := by omega
      have sq := hl2 _ (ix_mem hp)
      have s1 : SmallR ((ix l i).take n) := by unfold SmallR at sr ⊢; simp; omega
      have s2 : SmallR ((ix l (i - 1)).take n) := by unfold SmallR at sq ⊢; simp; omega
      have s3 : SmallR ((ix l i).take (n + 1)) := by unfold SmallR at sr ⊢; simp; omega
      have s4 : SmallR ((ix l (i - 1)).take (n + 1)) := by unfold SmallR at sq ⊢; simp; omega
      by_cases hm : (marksF l n i).length = 1
      · have e0 : levH l n i = [ZL, LB (.own 2 (keysF l n i).length) (.slice 1 true [[.int .i64 0]]) false, bK (keysF l n i)] := by unfold levH; rw [if_neg h0, if_pos hm]
        have hm1 := marksF_one l n i hm
        rcases em2 ((ix l i).take n = (ix l (i - 1)).take n) with f1 | f1
        · rcases em2 ((ix l i).take (n + 1) = (ix l (i - 1)).take (n + 1)) with f2 | f2
          · skip
            have hkf : keysF l n (i + 1) = keysF l n i := by rw [keysF, if_neg (by simp [freshB, h0, f2])]
            have hmf : marksF l n (i + 1) = marksF l n i := by rw [marksF, if_neg (by simp [freshB, h0, f1])]
            have e1 : levH l n (i + 1) = [ZL, LB (.own 2 (keysF l n i).length) (.slice 1 true [[.int .i64 0]]) false, bK (keysF l n i)] := by unfold levH; rw [if_neg (by omega), hmf, if_pos hm, hkf]
            simp [aev, cav, look, acallPure, abin, abinN, abinP, abinI, abinS, aun, aconv, afield, afieldAddr, aindexAddr, aindex, aslice, alow, ahigh, abuild, abuildGo, cellsOf, splice, fieldTy, alen, apick, amax, amin, aload, headV, aparts, abuildSlice, elParts, abytesStr, astore, amake, aappend, aclear, anew, arith, aresults, aresList, ares, spec0, spec1, spec2, spec3, spec4, eqCells, eqCell, sEq, e0, ZL, LB, bK, hlt, rowAt_enc hlt, hr, rowAt_enc hr, i1, n1, nn, np, hr', hr2, hp, rowAt_enc hp, i2, j1, j2, j3, j4, j5, hq', hq2, s1, s2, s3, s4, f1, f2]
            repeat (refine And.intro (by omega) ?_)
            exact ⟨i + 1, by omega, by omega, weak_eq (by simp) (by rw [e1]; simp [ZL, LB, bK])⟩
          · skip
            have hkf : keysF l n (i + 1) = keysF l n i ++ [ix (ix l i) n] := by rw [keysF, if_pos (by simp [freshB, h0, f2])]
            have hmf : marksF l n (i + 1) = marksF l n i := by rw [marksF, if_neg (by simp [freshB, h0, f1])]
            have e1 : levH l n (i + 1) = [ZL, LB (.own 2 (keysF l n i ++ [ix (ix l i) n]).length) (.slice 1 true [[.int .i64 0]]) false, bK (keysF l n i ++ [ix (ix l i) n])] := by unfold levH; rw [if_neg (by omega), hmf, if_pos hm, hkf]
            simp [aev, cav, look, acallPure, abin, abinN, abinP, abinI, abinS, aun, aconv, afield, afieldAddr, aindexAddr, aindex, aslice, alow, ahigh, abuild, abuildGo, cellsOf, splice, fieldTy, alen, apick, amax, amin, aload, headV, aparts, abuildSlice, elParts, abytesStr, astore, amake, aappend, aclear, anew, arith, aresults, aresList, ares, spec0, spec1, spec2, spec3, spec4, eqCells, eqCell, sEq, e0, ZL, LB, bK, hlt, rowAt_enc hlt, hr, rowAt_enc hr, i1, n1, nn, np, hr', hr2, hp, rowAt_enc hp, i2, j1, j2, j3, j4, j5, hq', hq2, s1, s2, s3, s4, f1, f2]
            repeat (refine And.intro (by omega) ?_)
            exact ⟨i + 1, by omega, by omega, weak_eq (by simp) (by rw [e1]; simp [ZL, LB, bK])⟩
        · have f2 : ((ix l i).take (n + 1) = (ix l (i - 1)).take (n + 1)) = False := eq_false fun h => of_eq_false f1 (by have := congrArg (List.take n) h; simpa [List.take_take] using this)
          have hkf : keysF l n (i + 1) = keysF l n i ++ [ix (ix l i) n] := by rw [keysF, if_pos (by simp [freshB, h0, f2])]
          have hmf : marksF l n (i + 1) = marksF l n i ++ [((keysF l n i).length : Int)] := by rw [marksF, if_pos (by simp [freshB, h0, f1])]
          have e1 : levH l n (i + 1) = [ZL, LB (.own 2 (keysF l n i ++ [ix (ix l i) n]).length) (.own 3 (marksF l n i ++ [((keysF l n i).length : Int)]).length) false, bK (keysF l n i ++ [ix (ix l i) n]), bK (marksF l n i ++ [((keysF l n i).length : Int)])] := by unfold levH; rw [if_neg (by omega), hmf, if_neg (by rw [List.length_append, List.length_singleton]; omega), hkf]
          simp [aev, cav, look, acallPure, abin, abinN, abinP, abinI, abinS, aun, aconv, afield, afieldAddr, aindexAddr, aindex, aslice, alow, ahigh, abuild, abuildGo, cellsOf, splice, fieldTy, alen, apick, amax, amin, aload, headV, aparts, abuildSlice, elParts, abytesStr, astore, amake, aappend, aclear, anew, arith, aresults, aresList, ares, spec0, spec1, spec2, spec3, spec4, eqCells, eqCell, sEq, e0, ZL, LB, bK, hlt, rowAt_enc hlt, hr, rowAt_enc hr, i1, n1, nn, np, hr', hr2, hp, rowAt_enc hp, i2, j1, j2, j3, j4, j5, hq', hq2, s1, s2, s3, s4, f1, f2]
          repeat (refine And.intro (by omega) ?_)
          exact ⟨i + 1, by omega, by omega, weak_eq (by simp) (by rw [e1]; simp [ZL, LB, bK, hm1])⟩
      · have e0 : levH l n i = [ZL, LB (.own 2 (keysF l n i).length) (.own 3 (marksF l n i).length) false, bK (keysF l n i), bK (marksF l n i)] := by unfold levH; rw [if_neg h0, if_neg hm]
        rcases em2 ((ix l i).take n = (ix l (i - 1)).take n) with f1 | f1
        · rcases em2 ((ix l i).take (n + 1) = (ix l (i - 1)).take (n + 1)) with f2 | f2
          · skip
            have hkf : keysF l n (i + 1) = keysF l n i := by rw [keysF, if_neg (by simp [freshB, h0, f2])]
            have hmf : marksF l n (i + 1) = marksF l n i := by rw [marksF, if_neg (by simp [freshB, h0, f1])]
            have e1 : levH l n (i + 1) = [ZL, LB (.own 2 (keysF l n i).length) (.own 3 (marksF l n i).length) false, bK (keysF l n i), bK (marksF l n i)] := by unfold levH; rw [if_neg (by omega), hmf, if_neg hm, hkf]
            simp [aev, cav, look, acallPure, abin, abinN, abinP, abinI, abinS, aun, aconv, afield, afieldAddr, aindexAddr, aindex, aslice, alow, ahigh, abuild, abuildGo, cellsOf, splice, fieldTy, alen, apick, amax, amin, aload, headV, aparts, abuildSlice, elParts, abytesStr, astore, amake, aappend, aclear, anew, arith, aresults, aresList, ares, spec0, spec1, spec2, spec3, spec4, eqCells, eqCell, sEq, e0, ZL, LB, bK, hlt, rowAt_enc hlt, hr, rowAt_enc hr, i1, n1, nn, np, hr', hr2, hp, rowAt_enc hp, i2, j1, j2, j3, j4, j5, hq', hq2, s1, s2, s3, s4, f1, f2]
            repeat (refine And.intro (by omega) ?_)
            exact ⟨i + 1, by omega, by omega, weak_eq (by simp) (by rw [e1]; simp [ZL, LB, bK])⟩
          · skip
            have hkf : keysF l n (i + 1) = keysF l n i ++ [ix (ix l i) n] := by rw [keysF, if_pos (by simp [freshB, h0, f2])]
            have hmf : marksF l n (i + 1) = marksF l n i := by rw [marksF, if_neg (by simp [freshB, h0, f1])]
            have e1 : levH l n (i + 1) = [ZL, LB (.own 2 (keysF l n i ++ [ix (ix l i) n]).length) (.own 3 (marksF l n i).length) false, bK (keysF l n i ++ [ix (ix l i) n]), bK (marksF l n i)] := by unfold levH; rw [if_neg (by omega), hmf, if_neg hm, hkf]
            simp [aev, cav, look, acallPure, abin, abinN, abinP, abinI, abinS, aun, aconv, afield, afieldAddr, aindexAddr, aindex, aslice, alow, ahigh, abuild, abuildGo, cellsOf, splice, fieldTy, alen, apick, amax, amin, aload, headV, aparts, abuildSlice, elParts, abytesStr, astore, amake, aappend, aclear, anew, arith, aresults, aresList, ares, spec0, spec1, spec2, spec3, spec4, eqCells, eqCell, sEq, e0, ZL, LB, bK, hlt, rowAt_enc hlt, hr, rowAt_enc hr, i1, n1, nn, np, hr', hr2, hp, rowAt_enc hp, i2, j1, j2, j3, j4, j5, hq', hq2, s1, s2, s3, s4, f1, f2]
            repeat (refine And.intro (by omega) ?_)
            exact ⟨i + 1, by omega, by omega, weak_eq (by simp) (by rw [e1]; simp [ZL, LB, bK])⟩
        · have f2 : ((ix l i).take (n + 1) = (ix l (i - 1)).take (n + 1)) = False := eq_false fun h => of_eq_false f1 (by have := congrArg (List.take n) h; simpa [List.take_take] using this)
          have hkf : keysF l n (i + 1) = keysF l n i ++ [ix (ix l i) n] := by rw [keysF, if_pos (by simp [freshB, h0, f2])]
          have hmf : marksF l n (i + 1) = marksF l n i ++ [((keysF l n i).length : Int)] := by rw [marksF, if_pos (by simp [freshB, h0, f1])]
          have e1 : levH l n (i + 1) = [ZL, LB (.own 2 (keysF l n i ++ [ix (ix l i) n]).length) (.own 3 (marksF l n i ++ [((keysF l n i).length : Int)]).length) false, bK (keysF l n i ++ [ix (ix l i) n]), bK (marksF l n i ++ [((keysF l n i).length : Int)])] := by unfold levH; rw [if_neg (by omega), hmf, if_neg (by rw [List.length_append, List.length_singleton]; omega), hkf]
          simp [aev, cav, look, acallPure, abin, abinN, abinP, abinI, abinS, aun, aconv, afield, afieldAddr, aindexAddr, aindex, aslice, alow, ahigh, abuild, abuildGo, cellsOf, splice, fieldTy, alen, apick, amax, amin, aload, headV, aparts, abuildSlice, elParts, abytesStr, astore, amake, aappend, aclear, anew, arith, aresults, aresList, ares, spec0, spec1, spec2, spec3, spec4, eqCells, eqCell, sEq, e0, ZL, LB, bK, hlt, rowAt_enc hlt, hr, rowAt_enc hr, i1, n1, nn, np, hr', hr2, hp, rowAt_enc hp, i2, j1, j2, j3, j4, j5, hq', hq2, s1, s2, s3, s4, f1, f2]
          repeat (refine And.intro (by omega) ?_)
          exact ⟨i + 1, by omega, by omega, weak_eq (by simp) (by rw [e1]; simp [ZL, LB, bK])⟩
  · have hil : i = l.length := by omega
    subst hil
    by_cases h0 : l.length = 0
    · have hnil : l = [] := List.length_eq_zero_iff.1 h0
      subst hnil
      have e0 : levH [] n 0 = [ZL, LB (.slice 1 true []) (.slice 1 true [[.int .i64 0]]) true] := rfl
      rcases em2 (n = 0) with hn0 | hn0
      · have eL : levelF [] n = ⟨[], [0, 0]⟩ := by rw [of_eq_true hn0]; rfl
        simp [aev, cav, look, acallPure, abin, abinN, abinP, abinI, abinS, aun, aconv, afield, afieldAddr, aindexAddr, aindex, aslice, alow, ahigh, abuild, abuildGo, cellsOf, splice, fieldTy, alen, apick, amax, amin, aload, headV, aparts, abuildSlice, elParts, abytesStr, astore, amake, aappend, aclear, anew, arith, aresults, aresList, ares, spec0, spec1, spec2, spec3, spec4, eqCells, eqCell, e0, ZL, LB, hn0, eL]
      · have eL : levelF [] n = ⟨[], [0]⟩ := by unfold levelF; rw [if_neg (by simpa using of_eq_false hn0)]; rfl
        simp [aev, cav, look, acallPure, abin, abinN, abinP, abinI, abinS, aun, aconv, afield, afieldAddr, aindexAddr, aindex, aslice, alow, ahigh, abuild, abuildGo, cellsOf, splice, fieldTy, alen, apick, amax, amin, aload, headV, aparts, abuildSlice, elParts, abytesStr, astore, amake, aappend, aclear, anew, arith, aresults, aresList, ares, spec0, spec1, spec2, spec3, spec4, eqCells, eqCell, e0, ZL, LB, hn0, eL]
    · have eL : levelF l n = ⟨keysF l n l.length, marksF l n l.length ++ [((keysF l n l.length).length : Int)]⟩ := by unfold levelF; rw [if_pos (.inr (by omega))]
      have hpos : (0 < l.length) = True := eq_true (by omega)
      have hnn : (l = []) = False := eq_false fun h => h0 (by rw [h]; rfl)
      by_cases hm : (marksF l n l.length).length = 1
      · have e0 : levH l n l.length = [ZL, LB (.own 2 (keysF l n l.length).length) (.slice 1 true [[.int .i64 0]]) false, bK (keysF l n l.length)] := by unfold levH; rw [if_neg h0, if_pos hm]
        have hm1 := marksF_one l n _ hm
        rcases em2 (n = 0) with hn0 | hn0
        · simp [aev, cav, look, acallPure, abin, abinN, abinP, abinI, abinS, aun, aconv, afield, afieldAddr, aindexAddr, aindex, aslice, alow, ahigh, abuild, abuildGo, cellsOf, splice, fieldTy, alen, apick, amax, amin, aload, headV, aparts, abuildSlice, elParts, abytesStr, astore, amake, aappend, aclear, anew, arith, aresults, aresList, ares, spec0, spec1, spec2, spec3, spec4, eqCells, eqCell, e0, ZL, LB, bK, hn0, eL, hpos, hnn, hm1]
        · simp [aev, cav, look, acallPure, abin, abinN, abinP, abinI, abinS, aun, aconv, afield, afieldAddr, aindexAddr, aindex, aslice, alow, ahigh, abuild, abuildGo, cellsOf, splice, fieldTy, alen, apick, amax, amin, aload, headV, aparts, abuildSlice, elParts, abytesStr, astore, amake, aappend, aclear, anew, arith, aresults, aresList, ares, spec0, spec1, spec2, spec3, spec4, eqCells, eqCell, e0, ZL, LB, bK, hn0, eL, hpos, hnn, hm1]
      · have e0 : levH l n l.length = [ZL, LB (.own 2 (keysF l n l.length).length) (.own 3 (marksF l n l.length).length) false, bK (keysF l n l.length), bK (marksF l n l.length)] := by unfold levH; rw [if_neg h0, if_neg hm]
        rcases em2 (n = 0) with hn0 | hn0
        · simp [aev, cav, look, acallPure, abin, abinN, abinP, abinI, abinS, aun, aconv, afield, afieldAddr, aindexAddr, aindex, aslice, alow, ahigh, abuild, abuildGo, cellsOf, splice, fieldTy, alen, apick, amax, amin, aload, headV, aparts, abuildSlice, elParts, abytesStr, astore, amake, aappend, aclear, anew, arith, aresults, aresList, ares, spec0, spec1, spec2, spec3, spec4, eqCells, eqCell, e0, ZL, LB, bK, hn0, eL, hpos, hnn] <;> omega
        · simp [aev, cav, look, acallPure, abin, abinN, abinP, abinI, abinS, aun, aconv, afield, afieldAddr, aindexAddr, aindex, aslice, alow, ahigh, abuild, abuildGo, cellsOf, splice, fieldTy, alen, apick, amax, amin, aload, headV, aparts, abuildSlice, elParts, abytesStr, astore, amake, aappend, aclear, anew, arith, aresults, aresList, ares, spec0, spec1, spec2, spec3, spec4, eqCells, eqCell, e0, ZL, LB, bK, hn0, eL, hpos, hnn] <;> omega
end Go.Proofs.Ytkonafdbfciikaa
