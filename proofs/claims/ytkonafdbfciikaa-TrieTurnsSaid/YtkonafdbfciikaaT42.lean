/-
  layer 14: the columns turned, by the program: the walk.
-/
import Derived.Test.YtkonafdbfciikaaT41
namespace Go.Proofs.Ytkonafdbfciikaa
open Go.RowKit
set_option linter.unusedSimpArgs false
set_option linter.unusedVariables false
set_option maxRecDepth 100000

theorem rowAt_mid (l : List (List AV)) (x : List AV) (r : List (List AV)) : rowAt (l ++ x :: r) l.length = x := by
  unfold rowAt
  rw [List.getD_eq_getElem?_getD, List.getElem?_append_right (Nat.le_refl _), Nat.sub_self]
  rfl
theorem set_mid (l : List (List AV)) (x y : List AV) (r : List (List AV)) : (l ++ x :: r).set l.length y = l ++ y :: r := by
  rw [List.set_append_right _ _ (Nat.le_refl _), Nat.sub_self]; rfl
theorem close_row2 {C : Ctx} {N h0 : Nat} {ρ : List (Nat × AV)} {a b : Blk} {L : List (List Int)} {D : List (List AV)} {P : List Int} {k m : Nat} (hD : encRows L = D) (hm : P.length = m) : Weak C N h0 ⟨ρ, [a, b, ⟨35, 1, D ++ [.own 3 m] :: List.replicate k zR, true, false⟩, bK P]⟩ ⟨ρ, [a, b, rB 35 (encRows (L ++ [P]) ++ List.replicate k zR), ⟨3, 1, encRows P, false, true⟩]⟩ := by
  subst hD hm
  exact close_row
theorem encRows_rep (n : Nat) : encRows (List.replicate n (0 : Int)) = List.replicate n [.int .i64 0] := by
  unfold encRows
  rw [List.map_replicate]
  rfl
def rowQ (o row : List Int) (m q : Nat) : List Int := (o.take q).map (fun c => ix row c.toNat) ++ List.replicate (m - q) 0
theorem rowQ_len {o row : List Int} {m q : Nat} (h : o.length = m) (hq : q ≤ m) : (rowQ o row m q).length = m := by
  unfold rowQ
  rw [List.length_append, List.length_map, List.length_take, List.length_replicate]
  omega
theorem rowQ_set {o row : List Int} {m q : Nat} (h : o.length = m) (hq : q < m) : (rowQ o row m q).set q (ix row (ix o q).toNat) = rowQ o row m (q + 1) := by
  unfold rowQ
  have hl : ((o.take q).map fun c => ix row c.toNat).length = q := by rw [List.length_map, List.length_take]; omega
  rw [permRow_take (by omega), List.set_append_right _ _ (by omega), hl, Nat.sub_self, show m - q = m - (q + 1) + 1 by omega, List.replicate_succ, List.set_cons_zero, List.append_assoc]
  rfl
set_option maxHeartbeats 32000000 in
theorem permuteP : PureOK Try.prog G0 38 sPermute := by
  refine pureH2 (C := CPp) sigCPp mixCPp Try.func38 rfl rfl rfl [24] (by kernel_rfl) (by decide) (fun r o ⟨hS, hO⟩ => ?_)
  obtain ⟨n, rows⟩ := r
  simp only at hS
  rcases em2 (checkF ⟨n, rows⟩ = 0) with hc | hc
  case inr =>
    have e : permF ⟨n, rows⟩ o = (⟨0, []⟩, checkF ⟨n, rows⟩) := by unfold permF; rw [if_neg (of_eq_false hc)]
    simp [aev, cav, look, acallPure, abin, abinN, abinP, abinI, abinS, aun, aconv, afield, afieldAddr, aindexAddr, aindex, aslice, alow, ahigh, abuild, abuildGo, cellsOf, splice, fieldTy, alen, apick, amax, amin, aload, headV, aparts, abuildSlice, elParts, abytesStr, astore, amake, aappend, aclear, anew, arith, aresults, aresList, ares, spec0, spec1, spec2, spec3, spec4, eqCells, eqCell, sCheck, hS, hc, e]
  have hc' := of_eq_true hc
  obtain ⟨m, m1, m8, h20, hrm, _⟩ := arity_of hc'
  simp only [Rela.mk.injEq, and_true] at hrm
  subst hrm
  simp only at h20
  have hw := (check_ok hc').1
  have ho : o.length ≤ 1000000 := hO
  have hsl : (sortI o).length = o.length := (sortI_perm o).length_eq
  have eno : ¬ PermOK m o → permF ⟨m, rows⟩ o = (⟨0, []⟩, 1) := fun hp => by unfold permF; rw [if_pos hc']; simp only [Int.toNat_natCast]; rw [if_neg hp]
  rcases em2 (o.length = m) with hom | hom
  case inr =>
    have hom' : ((o.length : Int) = m) = False := eq_false (by have := of_eq_false hom; omega)
    have e := eno fun h => of_eq_false hom h.1
    simp [aev, cav, look, acallPure, abin, abinN, abinP, abinI, abinS, aun, aconv, afield, afieldAddr, aindexAddr, aindex, aslice, alow, ahigh, abuild, abuildGo, cellsOf, splice, fieldTy, alen, apick, amax, amin, aload, headV, aparts, abuildSlice, elParts, abytesStr, astore, amake, aappend, aclear, anew, arith, aresults, aresList, ares, spec0, spec1, spec2, spec3, spec4, eqCells, eqCell, sCheck, sValues, hS, hO, hc, hsl, hom, hom', e]
  have hom2 := of_eq_true hom
  have hom' : ((o.length : Int) = m) = True := eq_true (by omega)
  have hsm := mapR_small (o := o) h20 ho
  have hwl : ∀ i, i < rows.length → (ix rows i).length = m := fun i hi => by have := hw.2.2 _ (ix_mem hi); simp only at this; omega
  simp [aev, cav, look, acallPure, abin, abinN, abinP, abinI, abinS, aun, aconv, afield, afieldAddr, aindexAddr, aindex, aslice, alow, ahigh, abuild, abuildGo, cellsOf, splice, fieldTy, alen, apick, amax, amin, aload, headV, aparts, abuildSlice, elParts, abytesStr, astore, amake, aappend, aclear, anew, arith, aresults, aresList, ares, spec0, spec1, spec2, spec3, spec4, eqCells, eqCell, sCheck, sValues, hS, hO, hc, hsl, hom, hom']
  refine loop_ruleH (C := CPp) sigCPp mixCPp [24] (fun i : Nat => ⟨[(1, Enc.enc o), (2, .ptr 0 1 2 0 0), (4, .ptr 1 1 2 0 0), (30, Enc.enc (sortI o)), (31, .int .i64 m), (32, .int .i64 i)], [RB ⟨m, rows⟩, ZR]⟩) (fun i => i ≤ m ∧ ∀ j : Nat, j < i → ix (sortI o) j = j) (fun i => m - i) (by kernel_rfl) ⟨0, ⟨Nat.zero_le _, fun j hj => by omega⟩, weak_eq (by simp [hom2]) (by simp [RB, ZR])⟩ (fun i ⟨h1, h2⟩ => ?_)
  by_cases hi : i < m
  · have i1 : I64 ((i : Int) + 1) := by unfold I64; omega
    have his : i < (sortI o).length := by omega
    rcases em2 ((i : Int) = ix (sortI o) i) with q | q
    · simp [aev, cav, look, acallPure, abin, abinN, abinP, abinI, abinS, aun, aconv, afield, afieldAddr, aindexAddr, aindex, aslice, alow, ahigh, abuild, abuildGo, cellsOf, splice, fieldTy, alen, apick, amax, amin, aload, headV, aparts, abuildSlice, elParts, abytesStr, astore, amake, aappend, aclear, anew, arith, aresults, aresList, ares, spec0, spec1, spec2, spec3, spec4, eqCells, eqCell, RB, ZR, hi, his, rowAt_enc his, q, i1]
      exact ⟨i + 1, ⟨by omega, fun j hj => by
        rcases Nat.lt_or_eq_of_le (Nat.le_of_lt_succ hj) with h | rfl
        · exact h2 j h
        · exact (of_eq_true q).symm⟩, by omega, weak_keep 2 (by simp) (by simp) (by simp [AV.clean, AV.clean1]) (by simp) (by simp)⟩
    · have e := eno fun h => of_eq_false q (by rw [h.2, rangeZ_ix hi])
      simp [aev, cav, look, acallPure, abin, abinN, abinP, abinI, abinS, aun, aconv, afield, afieldAddr, aindexAddr, aindex, aslice, alow, ahigh, abuild, abuildGo, cellsOf, splice, fieldTy, alen, apick, amax, amin, aload, headV, aparts, abuildSlice, elParts, abytesStr, astore, amake, aappend, aclear, anew, arith, aresults, aresList, ares, spec0, spec1, spec2, spec3, spec4, eqCells, eqCell, RB, ZR, hi, his, rowAt_enc his, q, e]
  have him : i = m := by omega
  subst him
  have hp : PermOK i o := ⟨hom2, List.ext_getElem (by rw [hsl, rangeZ_len, hom2]) fun j hj1 hj2 => by
    rw [← ix_lt hj1, ← ix_lt hj2, rangeZ_ix (by rw [rangeZ_len] at hj2; exact hj2)]
    exact h2 j (by omega)⟩
  have e : permF ⟨i, rows⟩ o = (⟨i, sortedF (mapR o rows)⟩, 0) := by unfold permF; rw [if_pos hc']; simp only [Int.toNat_natCast]; rw [if_pos hp]
  have eO : ofF i (mapR o rows) = (⟨i, sortedF (mapR o rows)⟩, 0) := by
    have hl2 := sortedF_len (mapR o rows)
    have hl3 : (mapR o rows).length = rows.length := by unfold mapR; rw [List.length_map]
    unfold ofF
    rw [if_pos ⟨hw.1, hw.2.1, fun x hx => by
      obtain ⟨y, _, rfl⟩ := List.mem_map.1 hx
      unfold permRow
      rw [List.length_map]; omega⟩, if_neg (by omega)]
  obtain ⟨N, hN⟩ : ∃ N, rows.length = N := ⟨_, rfl⟩
  have hN2 : N ≤ 20000 := by omega
  simp [aev, cav, look, acallPure, abin, abinN, abinP, abinI, abinS, aun, aconv, afield, afieldAddr, aindexAddr, aindex, aslice, alow, ahigh, abuild, abuildGo, cellsOf, splice, fieldTy, alen, apick, amax, amin, aload, headV, aparts, abuildSlice, elParts, abytesStr, astore, amake, aappend, aclear, anew, arith, aresults, aresList, ares, spec0, spec1, spec2, spec3, spec4, eqCells, eqCell, RB, ZR, hi, hN]
  refine ⟨by omega, ?_⟩
  refine loop_ruleH (C := CPp) sigCPp mixCPp [24] (fun k : Nat => ⟨[(1, Enc.enc o), (2, .ptr 0 1 2 0 0), (4, .ptr 1 1 2 0 0), (10, .own 2 N), (47, Enc.enc rows), (48, .int .i64 N), (49, .int .i64 k)], [RB ⟨i, rows⟩, ZR, rB 35 (encRows (mapR o (rows.take k)) ++ List.replicate (N - k) zR)]⟩) (fun k => k ≤ N) (fun k => N - k) (by kernel_rfl) ⟨0, Nat.zero_le _, weak_eq (by simp) (by simp [RB, ZR, rB, mapR, zR])⟩ (fun k hk => ?_)
  have hml : (mapR o (rows.take k)).length = k := by unfold mapR; rw [List.length_map, List.length_take]; omega
  by_cases hkN : k < N
  · have hkr : k < rows.length := by omega
    have i1 : I64 ((k : Int) + 1) := by unfold I64; omega
    have hrl := hwl k hkr
    have eR : N - k = N - (k + 1) + 1 := by omega
    have eM : ∀ x, (encRows (mapR o (rows.take k)) ++ List.replicate (N - k) zR).set k x = encRows (mapR o (rows.take k)) ++ x :: List.replicate (N - (k + 1)) zR := fun x => by
      have h := set_mid (encRows (mapR o (rows.take k))) zR x (List.replicate (N - (k + 1)) zR)
      rw [encRows_length, hml] at h
      rw [eR, List.replicate_succ]
      exact h
    have eG : rowAt (encRows (mapR o (rows.take k)) ++ List.replicate (N - k) zR) k = zR := by
      have h := rowAt_mid (encRows (mapR o (rows.take k))) zR (List.replicate (N - (k + 1)) zR)
      rw [encRows_length, hml] at h
      rw [eR, List.replicate_succ]
      exact h
    have hkk : k + (N - k) = N := by omega
    have hDl : (encRows (mapR o (rows.take k))).length = k := by rw [encRows_length, hml]
    generalize hD : encRows (mapR o (rows.take k)) = D at *
    have eG2 : rowAt (D ++ [.own 3 i] :: List.replicate (N - (k + 1)) zR) k = [.own 3 i] := by have h := rowAt_mid D [.own 3 i] (List.replicate (N - (k + 1)) zR); rw [hDl] at h; exact h
    have hkk2 : k + (N - (k + 1) + 1) = N := by omega
    have zl : zR.length = 1 := rfl
    have zt : zR.tail = [] := rfl
    simp [aev, cav, look, acallPure, abin, abinN, abinP, abinI, abinS, aun, aconv, afield, afieldAddr, aindexAddr, aindex, aslice, alow, ahigh, abuild, abuildGo, cellsOf, splice, fieldTy, alen, apick, amax, amin, aload, headV, aparts, abuildSlice, elParts, abytesStr, astore, amake, aappend, aclear, anew, arith, aresults, aresList, ares, spec0, spec1, spec2, spec3, spec4, eqCells, eqCell, RB, ZR, rB, hkN, hkr, rowAt_enc hkr, hml, hDl, hkk, eG, eM, zl, zt]
    refine ⟨by omega, ?_⟩
    have eP0 : bK (rowQ o (ix rows k) i 0) = ⟨3, 1, List.replicate i [.int .i64 0], true, true⟩ := by
      have h : rowQ o (ix rows k) i 0 = List.replicate i 0 := rfl
      unfold bK
      rw [h, encRows_rep]
    refine loop_ruleH (C := CPp) sigCPp mixCPp [24] (fun q : Nat => ⟨[(1, Enc.enc o), (2, .ptr 0 1 2 0 0), (4, .ptr 1 1 2 0 0), (10, .own 2 N), (47, Enc.enc rows), (48, .int .i64 N), (49, .int .i64 k), (11, .int .i64 k), (12, Enc.enc (ix rows k)), (60, Enc.enc o), (61, .int .i64 i), (62, .int .i64 q)], [RB ⟨i, rows⟩, ZR, ⟨35, 1, D ++ [.own 3 i] :: List.replicate (N - (k + 1)) zR, true, false⟩, bK (rowQ o (ix rows k) i q)]⟩) (fun q => q ≤ i) (fun q => i - q) (by kernel_rfl) ⟨0, Nat.zero_le _, weak_eq (by simp [hom2]) (by rw [eP0]; simp [RB, ZR])⟩ (fun q hq => ?_)
    have hQl := rowQ_len (row := ix rows k) hom2 hq
    by_cases hqi : q < i
    · have hqo : q < o.length := by omega
      have i2 : I64 ((q : Int) + 1) := by unfold I64; omega
      obtain ⟨p1, p2⟩ := perm_mem hp (ix_mem hqo)
      have hcx : (ix o q).toNat < (ix rows k).length := by omega
      have p3 : ix o q < (ix rows k).length := by omega
      have eS := rowQ_set (row := ix rows k) hom2 hqi
      generalize hQ : rowQ o (ix rows k) i q = Q at *
      have hqQ : q < Q.length := by omega
      simp [aev, cav, look, acallPure, abin, abinN, abinP, abinI, abinS, aun, aconv, afield, afieldAddr, aindexAddr, aindex, aslice, alow, ahigh, abuild, abuildGo, cellsOf, splice, fieldTy, alen, apick, amax, amin, aload, headV, aparts, abuildSlice, elParts, abytesStr, astore, amake, aappend, aclear, anew, arith, aresults, aresList, ares, spec0, spec1, spec2, spec3, spec4, eqCells, eqCell, RB, ZR, bK, hqi, hqo, rowAt_enc hqo, hcx, rowAt_enc hcx, p1, p3, i2, hkN, hDl, hkk2, eG2, hQl, hqQ, rowAt_enc hqQ]
      exact ⟨q + 1, by omega, by omega, weak_eq (by simp) (by simp [eS])⟩
    · have hqe : q = i := by omega
      subst hqe
      have hPq : rowQ o (ix rows k) q q = permRow o (ix rows k) := by
        unfold rowQ permRow
        rw [Nat.sub_self, List.take_of_length_le (by omega)]
        simp
      have hPl : (permRow o (ix rows k)).length = q := by unfold permRow; rw [List.length_map]; exact hom2
      have em : mapR o (rows.take (k + 1)) = mapR o (rows.take k) ++ [permRow o (ix rows k)] := by unfold mapR; rw [List.take_succ_eq_append_getElem hkr, List.map_append, ix_lt hkr]; rfl
      simp [aev, cav, look, acallPure, abin, abinN, abinP, abinI, abinS, aun, aconv, afield, afieldAddr, aindexAddr, aindex, aslice, alow, ahigh, abuild, abuildGo, cellsOf, splice, fieldTy, alen, apick, amax, amin, aload, headV, aparts, abuildSlice, elParts, abytesStr, astore, amake, aappend, aclear, anew, arith, aresults, aresList, ares, spec0, spec1, spec2, spec3, spec4, eqCells, eqCell, hqi, i1]
      rw [hPq]
      exact ⟨k + 1, by omega, by omega, (close_row2 hD hPl).trans (weak_keep 3 (by simp) (by simp) (by simp [AV.clean, AV.clean1]) (by simp [RB, ZR, rB]) (by simp [RB, ZR, rB, em]))⟩
  · have hke : k = N := by omega
    subst hke
    have et : rows.take k = rows := List.take_of_length_le (by omega)
    have hml2 : (mapR o rows).length = k := by unfold mapR; rw [List.length_map]; exact hN
    simp [aev, cav, look, acallPure, abin, abinN, abinP, abinI, abinS, aun, aconv, afield, afieldAddr, aindexAddr, aindex, aslice, alow, ahigh, abuild, abuildGo, cellsOf, splice, fieldTy, alen, apick, amax, amin, aload, headV, aparts, abuildSlice, elParts, abytesStr, astore, amake, aappend, aclear, anew, arith, aresults, aresList, ares, spec0, spec1, spec2, spec3, spec4, eqCells, eqCell, RB, ZR, rB, et]
    refine AW.weak (weak_view 10) ?_
    refine AW_regionS sigCPp mixCPp (by kernel_rfl) ?_
    simp [aev, cav, look, acallPure, abin, abinN, abinP, abinI, abinS, aun, aconv, afield, afieldAddr, aindexAddr, aindex, aslice, alow, ahigh, abuild, abuildGo, cellsOf, splice, fieldTy, alen, apick, amax, amin, aload, headV, aparts, abuildSlice, elParts, abytesStr, astore, amake, aappend, aclear, anew, arith, aresults, aresList, ares, spec0, spec1, spec2, spec3, spec4, eqCells, eqCell, sOf, hsm, hml2, eO, e]
end Go.Proofs.Ytkonafdbfciikaa
