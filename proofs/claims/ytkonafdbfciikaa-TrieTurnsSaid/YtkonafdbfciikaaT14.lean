/-
  layer 14: the trie of a relation, both sides.
-/
import Derived.Test.YtkonafdbfciikaaT13
namespace Go.Proofs.Ytkonafdbfciikaa
open Go.RowKit
set_option linter.unusedSimpArgs false
set_option linter.unusedVariables false
set_option maxRecDepth 100000

def FreshPre (l : List (List Int)) (i k : Int) : Prop := ∃ j n : Nat, i = j ∧ k = n ∧ j < l.length ∧ SmallRs l ∧ n ≤ 1000000 ∧ ∀ r ∈ l, n ≤ r.length
def sFresh : List AV → Option (Prop × AV) := spec3 FreshPre (fun l i k => .bool (freshB l i.toNat k.toNat))
set_option maxHeartbeats 8000000 in
theorem freshR : PureOK Try.prog G0 82 sFresh := by
  refine pure3 (C := CI1) sigCI1 mixCI1 Try.func82 rfl rfl rfl (by kernel_rfl) (by decide) (fun l i k ⟨j, n, hi, hk, hj, ⟨hl, hl2⟩, hn, hd⟩ => ?_)
  subst hi hk
  rcases em2 (j = 0) with h0 | h0
  · simp [aev, cav, look, acallPure, abin, abinN, abinP, abinI, abinS, aun, aconv, afield, afieldAddr, aindexAddr, aindex, aslice, alow, ahigh, abuild, abuildGo, cellsOf, splice, fieldTy, alen, apick, amax, amin, aload, headV, aparts, abuildSlice, elParts, abytesStr, astore, amake, aappend, aclear, anew, arith, aresults, aresList, ares, spec0, spec1, spec2, spec3, spec4, eqCells, eqCell, freshB, h0]
  · have h0' := of_eq_false h0
    have hp : j - 1 < l.length := by omega
    have i2 : I64 ((j : Int) - 1) := by unfold I64; omega
    have j1 : ((j : Int) - 1).toNat = j - 1 := by omega
    have j2 : (0 : Int) ≤ (j : Int) - 1 := by omega
    have j3 : (j : Int) - 1 < l.length := by omega
    have hq := hd _ (ix_mem hp)
    have hr := hd _ (ix_mem hj)
    have sq := hl2 _ (ix_mem hp)
    have sr := hl2 _ (ix_mem hj)
    have s1 : SmallR ((ix l j).take n) := by unfold SmallR at sr ⊢; simp; omega
    have s2 : SmallR ((ix l (j - 1)).take n) := by unfold SmallR at sq ⊢; simp; omega
    rcases em2 ((ix l j).take n = (ix l (j - 1)).take n) with f | f
    · have c : cmpL ((ix l (j - 1)).take n) ((ix l j).take n) = 0 := by rw [of_eq_true f]; exact cmpL_refl _
      simp [aev, cav, look, acallPure, abin, abinN, abinP, abinI, abinS, aun, aconv, afield, afieldAddr, aindexAddr, aindex, aslice, alow, ahigh, abuild, abuildGo, cellsOf, splice, fieldTy, alen, apick, amax, amin, aload, headV, aparts, abuildSlice, elParts, abytesStr, astore, amake, aappend, aclear, anew, arith, aresults, aresList, ares, spec0, spec1, spec2, spec3, spec4, eqCells, eqCell, sCmp, freshB, h0, hp, hj, i2, j1, j2, j3, hq, hr, rowAt_enc hp, rowAt_enc hj, s1, s2, f, c] <;> omega
    · have c : (cmpL ((ix l (j - 1)).take n) ((ix l j).take n) = 0) = False := eq_false fun h => of_eq_false f (cmpL_eq h).symm
      simp [aev, cav, look, acallPure, abin, abinN, abinP, abinI, abinS, aun, aconv, afield, afieldAddr, aindexAddr, aindex, aslice, alow, ahigh, abuild, abuildGo, cellsOf, splice, fieldTy, alen, apick, amax, amin, aload, headV, aparts, abuildSlice, elParts, abytesStr, astore, amake, aappend, aclear, anew, arith, aresults, aresList, ares, spec0, spec1, spec2, spec3, spec4, eqCells, eqCell, sCmp, freshB, h0, hp, hj, i2, j1, j2, j3, hq, hr, rowAt_enc hp, rowAt_enc hj, s1, s2, f, c] <;> omega

noncomputable def CW1 : Ctx := mkC Try.prog G0 [(82, .pure sFresh)]
@[simp] theorem CW1_P : CW1.P = Try.prog := rfl
@[simp] theorem CW1_1 : CW1.S 82 = .pure sFresh := rfl
theorem mixCW1 : CW1.P.follows .mixedOrders = true := mixed
theorem sigCW1 : SigOK CW1 := sigOK_cons (entryPure freshR Try.func82 rfl (by decide)) (sigOK_nil _ _)
theorem marksF_zero (l : List (List Int)) : ∀ m, marksF l 0 m = [0]
  | 0 => rfl
  | m + 1 => by
    rw [marksF, if_neg, marksF_zero l m]
    rintro ⟨h1, h2⟩
    simp [freshB, h1] at h2
def levR (l : List (List Int)) (n i : Nat) : List Blk :=
  if i = 0 then (if n = 0 then [ZL, LB (.slice 1 true []) (.own 2 1) false, bK [0]] else [ZL, ZL])
  else [ZL, LB (.own 3 (keysF l n i).length) (.own 2 (marksF l n i).length) false, bK (marksF l n i), bK (keysF l n i)]
set_option maxHeartbeats 8000000 in
theorem levelR : PureOK Try.prog G0 70 sLevel := by
  refine pure2 (C := CW1) sigCW1 mixCW1 Try.func70 rfl rfl rfl (by kernel_rfl) (by decide) (fun l k ⟨n, hk, hS, hn, hd⟩ => ?_)
  subst hk
  obtain ⟨hl, hl2⟩ := hS
  have n1 : I64 ((n : Int) + 1) := by unfold I64; omega
  have pr : ∀ j m : Nat, j < l.length → (m = n ∨ m = n + 1) → FreshPre l (j : Int) (m : Int) := fun j m hj hm => ⟨j, m, rfl, rfl, hj, ⟨hl, hl2⟩, by omega, fun r hr => by have := hd r hr; omega⟩
  have pr2 : ∀ j : Nat, j < l.length → FreshPre l (j : Int) ((n : Int) + 1) := fun j hj => by have := pr j (n + 1) hj (.inr rfl); simpa using this
  have nn : ((n : Int) + 1).toNat = n + 1 := by omega
  have w1 : w64 1 = 1 := rfl
  rcases em2 (n = 0) with hn0 | hn0
  · have hn0' := of_eq_true hn0
    subst hn0'
    have mz : ∀ m, marksF l 0 m = [0] := marksF_zero l
    simp [aev, cav, look, acallPure, abin, abinN, abinP, abinI, abinS, aun, aconv, afield, afieldAddr, aindexAddr, aindex, aslice, alow, ahigh, abuild, abuildGo, cellsOf, splice, fieldTy, alen, apick, amax, amin, aload, headV, aparts, abuildSlice, elParts, abytesStr, astore, amake, aappend, aclear, anew, arith, aresults, aresList, ares, spec0, spec1, spec2, spec3, spec4, eqCells, eqCell]
    refine loop_rule (C := CW1) sigCW1 mixCW1 (fun i : Nat => ⟨[(0, Enc.enc l), (1, .int .i64 0), (4, .ptr 0 1 2 0 0), (5, .ptr 1 1 2 0 0), (6, .int .i64 i)], levR l 0 i⟩) (fun i => i ≤ l.length) (fun i => l.length - i) (by kernel_rfl) ⟨0, by omega, weak_eq (by simp) (by simp [levR, ZL, LB, bK])⟩ (fun i hi => ?_)
    have kl := keysF_le l 0 i
    have ml := marksF_le l 0 i
    by_cases hlt : i < l.length
    · have i1 : I64 ((i : Int) + 1) := by unfold I64; omega
      have hr := hd _ (ix_mem hlt)
      have p1 := pr i 0 hlt (.inl rfl)
      have p2 := pr2 i hlt
      simp only [Int.ofNat_zero, Int.natCast_zero, Int.zero_add] at p1 p2
      by_cases h0 : i = 0
      · subst h0
        have f1 : freshB l 0 0 = true := by simp [freshB]
        have f2 : freshB l 0 (0 + 1) = true := by simp [freshB]
        simp only [Nat.zero_add] at f2
        simp only [Int.ofNat_zero, Int.natCast_zero] at p1 p2
        have e0 : levR l 0 0 = [ZL, LB (.slice 1 true []) (.own 2 1) false, bK [0]] := rfl
        have e2 : keysF l 0 1 = [ix (ix l 0) 0] := by rw [keysF, if_pos (by simp [freshB])]; rfl
        have e3 : marksF l 0 1 = [0] := by rw [marksF, if_neg (by simp)]; rfl
        have e1 : levR l 0 1 = [ZL, LB (.own 3 1) (.own 2 1) false, bK [0], bK [ix (ix l 0) 0]] := by unfold levR; rw [if_neg (by decide), e2, e3]; rfl
        simp [aev, cav, look, acallPure, abin, abinN, abinP, abinI, abinS, aun, aconv, afield, afieldAddr, aindexAddr, aindex, aslice, alow, ahigh, abuild, abuildGo, cellsOf, splice, fieldTy, alen, apick, amax, amin, aload, headV, aparts, abuildSlice, elParts, abytesStr, astore, amake, aappend, aclear, anew, arith, aresults, aresList, ares, spec0, spec1, spec2, spec3, spec4, eqCells, eqCell, sFresh, e0, ZL, LB, bK, hlt, rowAt_enc hlt, hr, rowAt_enc hr, i1, n1, nn, w1, p1, p2, f1, f2]
        exact ⟨1, by omega, by omega, weak_eq (by simp [w1]) (by rw [e1]; simp [ZL, LB, bK])⟩
      · have e0 : levR l 0 i = [ZL, LB (.own 3 (keysF l 0 i).length) (.own 2 (marksF l 0 i).length) false, bK (marksF l 0 i), bK (keysF l 0 i)] := by unfold levR; rw [if_neg h0]
        have f1 : True := trivial
        cases f2 : freshB l i (0 + 1)
        · skip
          have hkf : keysF l 0 (i + 1) = keysF l 0 i := by rw [keysF, if_neg (by rw [f2]; decide)]
          have hmf : marksF l 0 (i + 1) = marksF l 0 i := by rw [mz, mz]
          have e1 : levR l 0 (i + 1) = [ZL, LB (.own 3 (keysF l 0 i).length) (.own 2 (marksF l 0 i).length) false, bK (marksF l 0 i), bK (keysF l 0 i)] := by unfold levR; rw [if_neg (by omega), hmf, hkf]
          simp only [Nat.zero_add] at f2
          simp [aev, cav, look, acallPure, abin, abinN, abinP, abinI, abinS, aun, aconv, afield, afieldAddr, aindexAddr, aindex, aslice, alow, ahigh, abuild, abuildGo, cellsOf, splice, fieldTy, alen, apick, amax, amin, aload, headV, aparts, abuildSlice, elParts, abytesStr, astore, amake, aappend, aclear, anew, arith, aresults, aresList, ares, spec0, spec1, spec2, spec3, spec4, eqCells, eqCell, sFresh, e0, ZL, LB, bK, hlt, rowAt_enc hlt, hr, rowAt_enc hr, i1, n1, nn, w1, p1, p2, f1, f2]
          repeat (refine And.intro (by omega) ?_)
          exact ⟨i + 1, by omega, by omega, weak_eq (by simp) (by rw [e1]; simp [ZL, LB, bK])⟩
        · skip
          have hkf : keysF l 0 (i + 1) = keysF l 0 i ++ [ix (ix l i) 0] := by rw [keysF, if_pos f2]
          have hmf : marksF l 0 (i + 1) = marksF l 0 i := by rw [mz, mz]
          have e1 : levR l 0 (i + 1) = [ZL, LB (.own 3 (keysF l 0 i ++ [ix (ix l i) 0]).length) (.own 2 (marksF l 0 i).length) false, bK (marksF l 0 i), bK (keysF l 0 i ++ [ix (ix l i) 0])] := by unfold levR; rw [if_neg (by omega), hmf, hkf]
          simp only [Nat.zero_add] at f2
          simp [aev, cav, look, acallPure, abin, abinN, abinP, abinI, abinS, aun, aconv, afield, afieldAddr, aindexAddr, aindex, aslice, alow, ahigh, abuild, abuildGo, cellsOf, splice, fieldTy, alen, apick, amax, amin, aload, headV, aparts, abuildSlice, elParts, abytesStr, astore, amake, aappend, aclear, anew, arith, aresults, aresList, ares, spec0, spec1, spec2, spec3, spec4, eqCells, eqCell, sFresh, e0, ZL, LB, bK, hlt, rowAt_enc hlt, hr, rowAt_enc hr, i1, n1, nn, w1, p1, p2, f1, f2]
          repeat (refine And.intro (by omega) ?_)
          exact ⟨i + 1, by omega, by omega, weak_eq (by simp) (by rw [e1]; simp [ZL, LB, bK])⟩
    · have hil : i = l.length := by omega
      subst hil
      by_cases h0 : l.length = 0
      · have hnil : l = [] := List.length_eq_zero_iff.1 h0
        subst hnil
        have e0 : levR [] 0 0 = [ZL, LB (.slice 1 true []) (.own 2 1) false, bK [0]] := rfl
        have eL : levelF [] 0 = ⟨[], [0, 0]⟩ := rfl
        simp [aev, cav, look, acallPure, abin, abinN, abinP, abinI, abinS, aun, aconv, afield, afieldAddr, aindexAddr, aindex, aslice, alow, ahigh, abuild, abuildGo, cellsOf, splice, fieldTy, alen, apick, amax, amin, aload, headV, aparts, abuildSlice, elParts, abytesStr, astore, amake, aappend, aclear, anew, arith, aresults, aresList, ares, spec0, spec1, spec2, spec3, spec4, eqCells, eqCell, e0, ZL, LB, bK, eL]
      · have eL : levelF l 0 = ⟨keysF l 0 l.length, marksF l 0 l.length ++ [((keysF l 0 l.length).length : Int)]⟩ := by unfold levelF; rw [if_pos (.inr (by omega))]
        have e0 : levR l 0 l.length = [ZL, LB (.own 3 (keysF l 0 l.length).length) (.own 2 (marksF l 0 l.length).length) false, bK (marksF l 0 l.length), bK (keysF l 0 l.length)] := by unfold levR; rw [if_neg h0]
        simp [aev, cav, look, acallPure, abin, abinN, abinP, abinI, abinS, aun, aconv, afield, afieldAddr, aindexAddr, aindex, aslice, alow, ahigh, abuild, abuildGo, cellsOf, splice, fieldTy, alen, apick, amax, amin, aload, headV, aparts, abuildSlice, elParts, abytesStr, astore, amake, aappend, aclear, anew, arith, aresults, aresList, ares, spec0, spec1, spec2, spec3, spec4, eqCells, eqCell, e0, ZL, LB, bK, eL] <;> omega
  · have hnp : (0 < n) = True := eq_true (by have := of_eq_false hn0; omega)
    have hn0' := of_eq_false hn0
    simp [aev, cav, look, acallPure, abin, abinN, abinP, abinI, abinS, aun, aconv, afield, afieldAddr, aindexAddr, aindex, aslice, alow, ahigh, abuild, abuildGo, cellsOf, splice, fieldTy, alen, apick, amax, amin, aload, headV, aparts, abuildSlice, elParts, abytesStr, astore, amake, aappend, aclear, anew, arith, aresults, aresList, ares, spec0, spec1, spec2, spec3, spec4, eqCells, eqCell, hn0]
    refine loop_rule (C := CW1) sigCW1 mixCW1 (fun i : Nat => ⟨[(0, Enc.enc l), (1, .int .i64 n), (4, .ptr 0 1 2 0 0), (5, .ptr 1 1 2 0 0), (6, .int .i64 i)], levR l n i⟩) (fun i => i ≤ l.length) (fun i => l.length - i) (by kernel_rfl) ⟨0, by omega, weak_eq (by simp) (by simp [levR, ZL, LB, bK, hn0])⟩ (fun i hi => ?_)
    have kl := keysF_le l n i
    have ml := marksF_le l n i
    by_cases hlt : i < l.length
    · have i1 : I64 ((i : Int) + 1) := by unfold I64; omega
      have hr := hd _ (ix_mem hlt)
      have p1 := pr i n hlt (.inl rfl)
      have p2 := pr2 i hlt
      by_cases h0 : i = 0
      · subst h0
        have f1 : freshB l 0 n = true := by simp [freshB]
        have f2 : freshB l 0 (n + 1) = true := by simp [freshB]
        simp only [Int.ofNat_zero, Int.natCast_zero] at p1 p2
        have e0 : levR l n 0 = [ZL, ZL] := by unfold levR; rw [if_pos rfl, if_neg hn0']
        have e2 : keysF l n 1 = [ix (ix l 0) n] := by rw [keysF, if_pos (by simp [freshB])]; rfl
        have e3 : marksF l n 1 = [0] := by rw [marksF, if_neg (by simp)]; rfl
        have e1 : levR l n 1 = [ZL, LB (.own 3 1) (.own 2 1) false, bK [0], bK [ix (ix l 0) n]] := by unfold levR; rw [if_neg (by decide), e2, e3]; rfl
        simp [aev, cav, look, acallPure, abin, abinN, abinP, abinI, abinS, aun, aconv, afield, afieldAddr, aindexAddr, aindex, aslice, alow, ahigh, abuild, abuildGo, cellsOf, splice, fieldTy, alen, apick, amax, amin, aload, headV, aparts, abuildSlice, elParts, abytesStr, astore, amake, aappend, aclear, anew, arith, aresults, aresList, ares, spec0, spec1, spec2, spec3, spec4, eqCells, eqCell, sFresh, e0, ZL, LB, bK, hlt, rowAt_enc hlt, hr, rowAt_enc hr, i1, n1, nn, w1, p1, p2, f1, f2, hnp, hn0]
        exact ⟨1, by omega, by omega, weak_eq (by simp [w1]) (by rw [e1]; simp [ZL, LB, bK])⟩
      · have e0 : levR l n i = [ZL, LB (.own 3 (keysF l n i).length) (.own 2 (marksF l n i).length) false, bK (marksF l n i), bK (keysF l n i)] := by unfold levR; rw [if_neg h0]
        cases f1 : freshB l i n
        · cases f2 : freshB l i (n + 1)
          · skip
            have hkf : keysF l n (i + 1) = keysF l n i := by rw [keysF, if_neg (by rw [f2]; decide)]
            have hmf : marksF l n (i + 1) = marksF l n i := by rw [marksF, if_neg (fun h => by rw [f1] at h; exact absurd h.2 (by decide))]
            have e1 : levR l n (i + 1) = [ZL, LB (.own 3 (keysF l n i).length) (.own 2 (marksF l n i).length) false, bK (marksF l n i), bK (keysF l n i)] := by unfold levR; rw [if_neg (by omega), hmf, hkf]
            simp [aev, cav, look, acallPure, abin, abinN, abinP, abinI, abinS, aun, aconv, afield, afieldAddr, aindexAddr, aindex, aslice, alow, ahigh, abuild, abuildGo, cellsOf, splice, fieldTy, alen, apick, amax, amin, aload, headV, aparts, abuildSlice, elParts, abytesStr, astore, amake, aappend, aclear, anew, arith, aresults, aresList, ares, spec0, spec1, spec2, spec3, spec4, eqCells, eqCell, sFresh, e0, ZL, LB, bK, hlt, rowAt_enc hlt, hr, rowAt_enc hr, i1, n1, nn, w1, p1, p2, f1, f2, hnp, hn0]
            repeat (refine And.intro (by omega) ?_)
            exact ⟨i + 1, by omega, by omega, weak_eq (by simp) (by rw [e1]; simp [ZL, LB, bK])⟩
          · skip
            have hkf : keysF l n (i + 1) = keysF l n i ++ [ix (ix l i) n] := by rw [keysF, if_pos f2]
            have hmf : marksF l n (i + 1) = marksF l n i := by rw [marksF, if_neg (fun h => by rw [f1] at h; exact absurd h.2 (by decide))]
            have e1 : levR l n (i + 1) = [ZL, LB (.own 3 (keysF l n i ++ [ix (ix l i) n]).length) (.own 2 (marksF l n i).length) false, bK (marksF l n i), bK (keysF l n i ++ [ix (ix l i) n])] := by unfold levR; rw [if_neg (by omega), hmf, hkf]
            simp [aev, cav, look, acallPure, abin, abinN, abinP, abinI, abinS, aun, aconv, afield, afieldAddr, aindexAddr, aindex, aslice, alow, ahigh, abuild, abuildGo, cellsOf, splice, fieldTy, alen, apick, amax, amin, aload, headV, aparts, abuildSlice, elParts, abytesStr, astore, amake, aappend, aclear, anew, arith, aresults, aresList, ares, spec0, spec1, spec2, spec3, spec4, eqCells, eqCell, sFresh, e0, ZL, LB, bK, hlt, rowAt_enc hlt, hr, rowAt_enc hr, i1, n1, nn, w1, p1, p2, f1, f2, hnp, hn0]
            repeat (refine And.intro (by omega) ?_)
            exact ⟨i + 1, by omega, by omega, weak_eq (by simp) (by rw [e1]; simp [ZL, LB, bK])⟩
        · cases f2 : freshB l i (n + 1)
          · skip
            have hkf : keysF l n (i + 1) = keysF l n i := by rw [keysF, if_neg (by rw [f2]; decide)]
            have hmf : marksF l n (i + 1) = marksF l n i ++ [((keysF l n i).length : Int)] := by rw [marksF, if_pos ⟨h0, f1⟩]
            have e1 : levR l n (i + 1) = [ZL, LB (.own 3 (keysF l n i).length) (.own 2 (marksF l n i ++ [((keysF l n i).length : Int)]).length) false, bK (marksF l n i ++ [((keysF l n i).length : Int)]), bK (keysF l n i)] := by unfold levR; rw [if_neg (by omega), hmf, hkf]
            simp [aev, cav, look, acallPure, abin, abinN, abinP, abinI, abinS, aun, aconv, afield, afieldAddr, aindexAddr, aindex, aslice, alow, ahigh, abuild, abuildGo, cellsOf, splice, fieldTy, alen, apick, amax, amin, aload, headV, aparts, abuildSlice, elParts, abytesStr, astore, amake, aappend, aclear, anew, arith, aresults, aresList, ares, spec0, spec1, spec2, spec3, spec4, eqCells, eqCell, sFresh, e0, ZL, LB, bK, hlt, rowAt_enc hlt, hr, rowAt_enc hr, i1, n1, nn, w1, p1, p2, f1, f2, hnp, hn0]
            repeat (refine And.intro (by omega) ?_)
            exact ⟨i + 1, by omega, by omega, weak_eq (by simp) (by rw [e1]; simp [ZL, LB, bK])⟩
          · skip
            have hkf : keysF l n (i + 1) = keysF l n i ++ [ix (ix l i) n] := by rw [keysF, if_pos f2]
            have hmf : marksF l n (i + 1) = marksF l n i ++ [((keysF l n i).length : Int)] := by rw [marksF, if_pos ⟨h0, f1⟩]
            have e1 : levR l n (i + 1) = [ZL, LB (.own 3 (keysF l n i ++ [ix (ix l i) n]).length) (.own 2 (marksF l n i ++ [((keysF l n i).length : Int)]).length) false, bK (marksF l n i ++ [((keysF l n i).length : Int)]), bK (keysF l n i ++ [ix (ix l i) n])] := by unfold levR; rw [if_neg (by omega), hmf, hkf]
            simp [aev, cav, look, acallPure, abin, abinN, abinP, abinI, abinS, aun, aconv, afield, afieldAddr, aindexAddr, aindex, aslice, alow, ahigh, abuild, abuildGo, cellsOf, splice, fieldTy, alen, apick, amax, amin, aload, headV, aparts, abuildSlice, elParts, abytesStr, astore, amake, aappend, aclear, anew, arith, aresults, aresList, ares, spec0, spec1, spec2, spec3, spec4, eqCells, eqCell, sFresh, e0, ZL, LB, bK, hlt, rowAt_enc hlt, hr, rowAt_enc hr, i1, n1, nn, w1, p1, p2, f1, f2, hnp, hn0]
            repeat (refine And.intro (by omega) ?_)
            exact ⟨i + 1, by omega, by omega, weak_eq (by simp) (by rw [e1]; simp [ZL, LB, bK])⟩
    · have hil : i = l.length := by omega
      subst hil
      by_cases h0 : l.length = 0
      · have hnil : l = [] := List.length_eq_zero_iff.1 h0
        subst hnil
        have e0 : levR [] n 0 = [ZL, ZL] := by unfold levR; rw [if_pos rfl, if_neg hn0']
        have eL : levelF [] n = ⟨[], [0]⟩ := by unfold levelF; rw [if_neg (by simpa using hn0')]; rfl
        simp [aev, cav, look, acallPure, abin, abinN, abinP, abinI, abinS, aun, aconv, afield, afieldAddr, aindexAddr, aindex, aslice, alow, ahigh, abuild, abuildGo, cellsOf, splice, fieldTy, alen, apick, amax, amin, aload, headV, aparts, abuildSlice, elParts, abytesStr, astore, amake, aappend, aclear, anew, arith, aresults, aresList, ares, spec0, spec1, spec2, spec3, spec4, eqCells, eqCell, e0, ZL, LB, bK, eL]
      · have eL : levelF l n = ⟨keysF l n l.length, marksF l n l.length ++ [((keysF l n l.length).length : Int)]⟩ := by unfold levelF; rw [if_pos (.inr (by omega))]
        have e0 : levR l n l.length = [ZL, LB (.own 3 (keysF l n l.length).length) (.own 2 (marksF l n l.length).length) false, bK (marksF l n l.length), bK (keysF l n l.length)] := by unfold levR; rw [if_neg h0]
        simp [aev, cav, look, acallPure, abin, abinN, abinP, abinI, abinS, aun, aconv, afield, afieldAddr, aindexAddr, aindex, aslice, alow, ahigh, abuild, abuildGo, cellsOf, splice, fieldTy, alen, apick, amax, amin, aload, headV, aparts, abuildSlice, elParts, abytesStr, astore, amake, aappend, aclear, anew, arith, aresults, aresList, ares, spec0, spec1, spec2, spec3, spec4, eqCells, eqCell, e0, ZL, LB, bK, eL] <;> omega
end Go.Proofs.Ytkonafdbfciikaa
