/-
  layer 14: the library's CompactFunc on the call's own rows.
-/
import Derived.Test.YtkonafdbfciikaaT16
namespace Go.Proofs.Ytkonafdbfciikaa
open Go.RowKit
set_option linter.unusedSimpArgs false
set_option linter.unusedVariables false
set_option maxRecDepth 100000

/-- Each run of equal rows is one. -/
def ddF (p : List Int) : List (List Int) → List (List Int)
  | [] => []
  | y :: r => if y = p then ddF y r else y :: ddF y r
def dd : List (List Int) → List (List Int)
  | [] => []
  | x :: r => x :: ddF x r
theorem ddF_snoc : ∀ (l : List (List Int)) (p y : List Int), ddF p (l ++ [y]) = ddF p l ++ (if y = l.getLastD p then [] else [y])
  | [], p, y => by
    show ddF p [y] = _
    rw [ddF]
    show (if y = p then [] else [y]) = [] ++ (if y = p then [] else [y])
    by_cases h : y = p
    · rw [if_pos h]; rfl
    · rw [if_neg h]; rfl
  | z :: r, p, y => by
    have ih := ddF_snoc r z y
    rw [List.cons_append, ddF, ddF, ih]
    have e : (z :: r).getLastD p = r.getLastD z := by cases r <;> rfl
    rw [e]
    split <;> rfl
theorem getLast_D : ∀ (r : List (List Int)) (x : List Int) (h : x :: r ≠ []), (x :: r).getLast h = r.getLastD x
  | [], _, _ => rfl
  | y :: q, x, h => by
    rw [List.getLast_cons (by simp), getLast_D q y]
    cases q <;> rfl
theorem dd_snoc {l : List (List Int)} (h : l ≠ []) (y : List Int) : dd (l ++ [y]) = dd l ++ (if y = l.getLast h then [] else [y]) := by
  cases l with
  | nil => exact absurd rfl h
  | cons x r =>
    rw [List.cons_append, dd, dd, ddF_snoc, List.cons_append]
    rw [getLast_D]
theorem dd_take {xs : List (List Int)} {p : Nat} (h1 : 1 ≤ p) (h2 : p < xs.length) : dd (xs.take (p + 1)) = dd (xs.take p) ++ (if ix xs p = ix xs (p - 1) then [] else [ix xs p]) := by
  have hne : xs.take p ≠ [] := by
    intro h
    have : (xs.take p).length = 0 := by rw [h]; rfl
    rw [List.length_take] at this
    omega
  have hl : (xs.take p).getLast hne = ix xs (p - 1) := by
    have e : (xs.take p).length - 1 = p - 1 := by rw [List.length_take, Nat.min_eq_left (by omega)]
    rw [List.getLast_eq_getElem, List.getElem_take, ← ix_lt (show (xs.take p).length - 1 < xs.length by rw [e]; omega), e]
  rw [List.take_succ_eq_append_getElem h2, dd_snoc hne, hl, ix_lt h2]
theorem dd_le (xs : List (List Int)) : (dd xs).length ≤ xs.length := by
  have h : ∀ (l : List (List Int)) (p : List Int), (ddF p l).length ≤ l.length := by
    intro l
    induction l with
    | nil => intro p; exact Nat.le_refl _
    | cons y r ih => intro p; rw [ddF]; have := ih y; split <;> simp <;> omega
  cases xs with
  | nil => exact Nat.le_refl _
  | cons x r => have := h r x; simp [dd]; omega

theorem set_same {α : Type} {l : List α} {i : Nat} {x : α} (h : l[i]? = some x) : l.set i x = l := by
  refine List.ext_getElem? fun j => ?_
  by_cases e : i = j
  · subst e
    obtain ⟨hi, rfl⟩ := List.getElem?_eq_some_iff.1 h
    simp [hi]
  · simp [e]
def zR : List AV := [.slice 1 true []]
def rB (e : TypeId) (rows : List (List AV)) : Blk := ⟨e, 1, rows, true, true⟩
def CompPre (b : Blk) (n : Nat) (xs : List (List Int)) : Prop := b = rB 35 (encRows xs) ∧ xs.length = n ∧ SmallRs xs
/-- The rows without the runs; what is behind them is empty. -/
def sCompact : List AV → List Blk → Option (Prop × AV × List Blk) := fun args H => match args with
  | [.own l n, .fn f []] => if f = 56 then (match H[l]? with
    | some b => some (CompPre b n (decRows b.rows), if (dd (decRows b.rows)).length = n then .own l n else .osl l n 1 0 (dd (decRows b.rows)).length, if (dd (decRows b.rows)).length = n then H else H.set l (rB 35 (encRows (dd (decRows b.rows)) ++ List.replicate (n - (dd (decRows b.rows)).length) zR)))
    | none => none) else none
  | _ => none
theorem sCompact_inv {args : List AV} {H : List Blk} {ob : Prop} {r : AV} {H' : List Blk} (h : sCompact args H = some (ob, r, H')) (hob : ob) : ∃ l n xs, args = [.own l n, .fn 56 []] ∧ H[l]? = some (rB 35 (encRows xs)) ∧ xs.length = n ∧ SmallRs xs ∧ (r = if (dd xs).length = n then .own l n else .osl l n 1 0 (dd xs).length) ∧ H' = if (dd xs).length = n then H else H.set l (rB 35 (encRows (dd xs) ++ List.replicate (n - (dd xs).length) zR)) := by
  unfold sCompact at h
  split at h
  · rename_i l n f
    split at h
    · rename_i hf
      subst hf
      split at h
      · rename_i b hb
        simp only [Option.some.injEq, Prod.mk.injEq] at h
        obtain ⟨h1, h2, h3⟩ := h
        rw [← h1] at hob
        obtain ⟨p1, p2, p3⟩ := hob
        refine ⟨l, n, decRows b.rows, rfl, ?_, p2, p3, h2.symm, h3.symm⟩
        rw [hb, ← p1]
      · cases h
    · cases h
  · cases h

noncomputable def CE2 : Ctx := mkC Try.prog G0 [(56, .pure sEq)]
@[simp] theorem CE2_P : CE2.P = Try.prog := rfl
@[simp] theorem CE2_1 : CE2.S 56 = .pure sEq := rfl
theorem mixCE2 : CE2.P.follows .mixedOrders = true := mixed
theorem sigCE2 : SigOK CE2 := sigOK_cons (entryPure equalP Try.func56 rfl (by decide)) (sigOK_nil _ _)
set_option maxHeartbeats 16000000 in
theorem compactP : GenOK Try.prog G0 55 sCompact := by
  refine gen_of_avc (C := CE2) sigCE2 mixCE2 Try.func55 rfl (by kernel_rfl) (fun avs H ob r H' h hob => ?_)
  obtain ⟨l, n, xs, rfl, hb, hxl, hS, hr, hH⟩ := sCompact_inv h hob
  clear h hob ob
  refine ⟨(by show 2 ≤ _; decide), ?_⟩
  have hl : l < H.length := (List.getElem?_eq_some_iff.1 hb).1
  have hn : n ≤ 1000000 := by rw [← hxl]; exact hS.1
  have hsame := set_same hb
  by_cases h2 : n < 2
  · have hd : (dd xs).length = n := by
      cases xs with
      | nil => exact hxl
      | cons x r => cases r with
        | nil => exact hxl
        | cons y q => simp at hxl; omega
    rw [if_pos hd] at hr hH
    subst hr hH
    have h2' : (n : Int) < 2 := by omega
    simp [aev, cav, look, acallPure, abin, abinN, abinP, abinI, abinS, aun, aconv, afield, afieldAddr, aindexAddr, aindex, aslice, alow, ahigh, abuild, abuildGo, cellsOf, splice, fieldTy, alen, apick, amax, amin, aload, headV, aparts, abuildSlice, elParts, abytesStr, astore, amake, aappend, aclear, anew, arith, aresults, aresList, ares, spec0, spec1, spec2, spec3, spec4, eqCells, eqCell, argsρ, h2, h2']
    exact ⟨True, trivial⟩
  have h2' : ¬ (n : Int) < 2 := by omega
  have hb' : H[l]? = some ⟨35, 1, encRows xs, true, true⟩ := hb
  simp [aev, cav, look, acallPure, abin, abinN, abinP, abinI, abinS, aun, aconv, afield, afieldAddr, aindexAddr, aindex, aslice, alow, ahigh, abuild, abuildGo, cellsOf, splice, fieldTy, alen, apick, amax, amin, aload, headV, aparts, abuildSlice, elParts, abytesStr, astore, amake, aappend, aclear, anew, arith, aresults, aresList, ares, spec0, spec1, spec2, spec3, spec4, eqCells, eqCell, argsρ, h2, h2']
  refine loop_rule (C := CE2) sigCE2 mixCE2 (fun k : Nat => ⟨[(0, .own l n), (1, .fn 56 []), (5, .int .i64 k)], H⟩) (fun k => 1 ≤ k ∧ k ≤ n ∧ dd (xs.take k) = xs.take k) (fun k => n - k) (by kernel_rfl) ⟨1, ⟨Nat.le_refl _, by omega, by cases xs with | nil => rfl | cons x r => rfl⟩, weak_slots (by simp)⟩ (fun k ⟨k1, k2, k3⟩ => ?_)
  by_cases hk : k < n
  · have hkx : k < xs.length := by omega
    have hpx : k - 1 < xs.length := by omega
    have i1 : I64 ((k : Int) + 1) := by unfold I64; omega
    have i2 : I64 ((k : Int) - 1) := by unfold I64; omega
    have j1 : ((k : Int) - 1).toNat = k - 1 := by omega
    have j2 : (0 : Int) ≤ (k : Int) - 1 := by omega
    have j3 : (k : Int) - 1 < n := by omega
    have j4 : k - 1 < n := by omega
    have sa := hS.2 _ (ix_mem hkx)
    have sb := hS.2 _ (ix_mem hpx)
    have dt := dd_take k1 hkx
    rcases em2 (ix xs k = ix xs (k - 1)) with e | e
    · rw [if_pos (of_eq_true e), List.append_nil, k3] at dt
      simp [aev, cav, look, acallPure, abin, abinN, abinP, abinI, abinS, aun, aconv, afield, afieldAddr, aindexAddr, aindex, aslice, alow, ahigh, abuild, abuildGo, cellsOf, splice, fieldTy, alen, apick, amax, amin, aload, headV, aparts, abuildSlice, elParts, abytesStr, astore, amake, aappend, aclear, anew, arith, aresults, aresList, ares, spec0, spec1, spec2, spec3, spec4, eqCells, eqCell, sEq, hb', hxl, hk, hkx, hpx, rowAt_enc hkx, rowAt_enc hpx, i1, i2, j1, j2, j3, j4, sa, sb, e]
      refine ⟨by omega, by omega, ?_⟩
      refine loop_rule (C := CE2) sigCE2 mixCE2 (fun x : Nat × Nat × List (List Int) => ⟨[(0, .own l n), (1, .fn 56 []), (5, .int .i64 x.2.1), (6, .osl l n 1 k (n - k)), (7, .int .i64 x.1)], H.set l (rB 35 (encRows x.2.2))⟩) (fun x => 1 ≤ x.1 ∧ k + x.1 ≤ n ∧ x.2.1 + 1 ≤ k + x.1 ∧ x.2.2.length = n ∧ x.2.2.take x.2.1 = dd (xs.take (k + x.1)) ∧ (dd (xs.take (k + x.1))).length = x.2.1 ∧ ∀ i, k + x.1 - 1 ≤ i → i < n → ix x.2.2 i = ix xs i) (fun x => n - k - x.1) (by kernel_rfl) ⟨(1, k, xs), ⟨Nat.le_refl _, by omega, Nat.le_refl _, hxl, by rw [dt], by rw [dt, List.length_take]; show min k xs.length = k; omega, fun i _ _ => rfl⟩, weak_eq (by simp) hsame.symm⟩ (fun ⟨q, w, R⟩ ⟨q1, q2, q3, q4, q5, q6, q7⟩ => ?_)
      simp only at q1 q2 q3 q4 q5 q6 q7 ⊢
      by_cases hq : k + q < n
      · have hqn : q < n - k := by omega
        have hqx : k + q < R.length := by omega
        have hqp : k + (q - 1) < R.length := by omega
        have hqxs : k + q < xs.length := by omega
        have a1 : I64 ((q : Int) + 1) := by unfold I64; omega
        have a2 : I64 ((q : Int) - 1) := by unfold I64; omega
        have a3 : I64 ((w : Int) + 1) := by unfold I64; omega
        have b1 : ((q : Int) - 1).toNat = q - 1 := by omega
        have b2 : (0 : Int) ≤ (q : Int) - 1 := by omega
        have b3 : (q : Int) - 1 < ((n - k : Nat) : Int) := by omega
        have b4 : (q : Int) < ((n - k : Nat) : Int) := by omega
        have b5 : w < n := by omega
        have hwR : w < R.length := by omega
        have r1 : ix R (k + q) = ix xs (k + q) := q7 _ (by omega) hq
        have r2 : ix R (k + (q - 1)) = ix xs (k + q - 1) := by rw [q7 _ (by omega) (by omega)]; congr 1; omega
        have sa2 := hS.2 _ (ix_mem hqxs)
        have sb2 := hS.2 _ (ix_mem (show k + q - 1 < xs.length by omega))
        have dt2 := dd_take (xs := xs) (p := k + q) (by omega) hqxs
        rcases em2 (ix xs (k + q) = ix xs (k + q - 1)) with e2 | e2
        · rw [if_pos (of_eq_true e2), List.append_nil] at dt2
          simp [aev, cav, look, acallPure, abin, abinN, abinP, abinI, abinS, aun, aconv, afield, afieldAddr, aindexAddr, aindex, aslice, alow, ahigh, abuild, abuildGo, cellsOf, splice, fieldTy, alen, apick, amax, amin, aload, headV, aparts, abuildSlice, elParts, abytesStr, astore, amake, aappend, aclear, anew, arith, aresults, aresList, ares, spec0, spec1, spec2, spec3, spec4, eqCells, eqCell, rB, sEq, hl, hqn, hqx, hqp, rowAt_enc hqx, rowAt_enc hqp, a1, a2, b1, b2, b3, b4, r1, r2, sa2, sb2, e2, q4]
          refine ⟨hq, by omega, by omega, q + 1, w, R, ⟨by omega, by omega, by omega, q4, ?_, ?_, fun i h1 h2 => q7 i (by omega) h2⟩, by omega, weak_eq (by simp) (by first | rfl | simp [rB])⟩
          · rw [q5, ← dt2]; rfl
          · rw [show k + (q + 1) = k + q + 1 by omega, dt2]; exact q6
        · rw [if_neg (of_eq_false e2)] at dt2
          simp [aev, cav, look, acallPure, abin, abinN, abinP, abinI, abinS, aun, aconv, afield, afieldAddr, aindexAddr, aindex, aslice, alow, ahigh, abuild, abuildGo, cellsOf, splice, fieldTy, alen, apick, amax, amin, aload, headV, aparts, abuildSlice, elParts, abytesStr, astore, amake, aappend, aclear, anew, arith, aresults, aresList, ares, spec0, spec1, spec2, spec3, spec4, eqCells, eqCell, rB, sEq, hl, hqn, hqx, hqp, rowAt_enc hqx, rowAt_enc hqp, hwR, rowAt_enc hwR, a1, a2, a3, b1, b2, b3, b4, b5, r1, r2, sa2, sb2, e2, q4]
          refine ⟨hq, by omega, by omega, hq, q + 1, w + 1, R.set w (ix xs (k + q)), ⟨by omega, by omega, by omega, by rw [List.length_set]; exact q4, ?_, ?_, fun i h1 h2 => ?_⟩, by omega, weak_eq (by simp) (by first | rfl | (rw [← encRows_set]; rfl))⟩
          · rw [show k + (q + 1) = k + q + 1 by omega, dt2, ← q5]
            rw [List.take_succ_eq_append_getElem (by rw [List.length_set]; omega), List.take_set_of_le (Nat.le_refl w), List.getElem_set_self]
          · rw [show k + (q + 1) = k + q + 1 by omega, dt2, List.length_append, q6]; rfl
          · rw [← q7 i (by omega) h2]
            unfold ix
            simp only [List.getD_eq_getElem?_getD]
            rw [List.getElem?_set_ne (by omega)]
      · have hqe : k + q = n := by omega
        have hdd : dd (xs.take (k + q)) = dd xs := by rw [List.take_of_length_le (by omega)]
        rw [hdd] at q5 q6
        rw [if_neg (by omega), q6] at hr
        rw [if_neg (by omega), q6] at hH
        subst hr hH
        have b4 : ¬ (q : Int) < ((n - k : Nat) : Int) := by omega
        have b5 : w ≤ n := by omega
        have hnq : q = n - k := by omega
        simp [aev, cav, look, acallPure, abin, abinN, abinP, abinI, abinS, aun, aconv, afield, afieldAddr, aindexAddr, aindex, aslice, alow, ahigh, abuild, abuildGo, cellsOf, splice, fieldTy, alen, apick, amax, amin, aload, headV, aparts, abuildSlice, elParts, abytesStr, astore, amake, aappend, aclear, anew, arith, aresults, aresList, ares, spec0, spec1, spec2, spec3, spec4, eqCells, eqCell, rB, hl, b4, q4, b5, q5]
        refine ⟨⟨True, trivial⟩, ?_⟩
        rw [List.drop_of_length_le (by omega)]
        simp [zR]
    · rw [if_neg (of_eq_false e), k3] at dt
      simp [aev, cav, look, acallPure, abin, abinN, abinP, abinI, abinS, aun, aconv, afield, afieldAddr, aindexAddr, aindex, aslice, alow, ahigh, abuild, abuildGo, cellsOf, splice, fieldTy, alen, apick, amax, amin, aload, headV, aparts, abuildSlice, elParts, abytesStr, astore, amake, aappend, aclear, anew, arith, aresults, aresList, ares, spec0, spec1, spec2, spec3, spec4, eqCells, eqCell, sEq, hb', hxl, hk, hkx, hpx, rowAt_enc hkx, rowAt_enc hpx, i1, i2, j1, j2, j3, j4, sa, sb, e]
      refine ⟨by omega, k + 1, ⟨by omega, by omega, ?_⟩, by omega, weak_slots (by simp)⟩
      rw [dt, List.take_succ_eq_append_getElem hkx, ix_lt hkx]
  · have hkn : k = n := by omega
    subst hkn
    have hd : (dd xs).length = k := by rw [List.take_of_length_le (by omega)] at k3; rw [k3, hxl]
    rw [if_pos hd] at hr hH
    subst hr hH
    simp [aev, cav, look, acallPure, abin, abinN, abinP, abinI, abinS, aun, aconv, afield, afieldAddr, aindexAddr, aindex, aslice, alow, ahigh, abuild, abuildGo, cellsOf, splice, fieldTy, alen, apick, amax, amin, aload, headV, aparts, abuildSlice, elParts, abytesStr, astore, amake, aappend, aclear, anew, arith, aresults, aresList, ares, spec0, spec1, spec2, spec3, spec4, eqCells, eqCell]
    exact ⟨True, trivial⟩
end Go.Proofs.Ytkonafdbfciikaa
