/-
  layer 14: rows sorted by merging: the walks.
-/
import Derived.Test.YtkonafdbfciikaaT22
namespace Go.Proofs.Ytkonafdbfciikaa
open Go.RowKit
set_option linter.unusedSimpArgs false
set_option linter.unusedVariables false
set_option maxRecDepth 100000

@[simp] theorem app_row (l : List (List Int)) (x : List Int) : encRows l ++ [[.slice 1 false (encRows x)]] = encRows (l ++ [x]) := (encRows_append l [x]).symm
def MergePre (a b : List (List Int)) : Prop := SmallRs a ∧ SmallRs b ∧ a.length + b.length ≤ 1000000
def sMerge : List AV → Option (Prop × AV) := spec2 MergePre (fun a b => Enc.enc (mergeF a b))
set_option maxHeartbeats 16000000 in
theorem mergeR : PureOK Try.prog G0 71 sMerge := by
  refine pure2 (C := CI1) sigCI1 mixCI1 Try.func71 rfl rfl rfl (by kernel_rfl) (by decide) (fun a b ⟨⟨ha, ha2⟩, ⟨hb, hb2⟩, hab⟩ => ?_)
  simp [aev, cav, look, acallPure, abin, abinN, abinP, abinI, abinS, aun, aconv, afield, afieldAddr, aindexAddr, aindex, aslice, alow, ahigh, abuild, abuildGo, cellsOf, splice, fieldTy, alen, apick, amax, amin, aload, headV, aparts, abuildSlice, elParts, abytesStr, astore, amake, aappend, aclear, anew, arith, aresults, aresList, ares, spec0, spec1, spec2, spec3, spec4, eqCells, eqCell]
  refine loop_rule (C := CI1) sigCI1 mixCI1 (fun q : Nat × Nat × List (List Int) => ⟨[(0, Enc.enc a), (1, Enc.enc b), (5, .own 0 q.2.2.length), (6, .int .i64 q.1), (7, .int .i64 q.2.1)], [rB 35 (encRows q.2.2)]⟩) (fun q => q.1 ≤ a.length ∧ q.2.1 ≤ b.length ∧ q.2.2.length ≤ q.1 + q.2.1 ∧ q.2.2 ++ mergeF (a.drop q.1) (b.drop q.2.1) = mergeF a b) (fun q => a.length - q.1 + (b.length - q.2.1)) (by kernel_rfl) ⟨(0, 0, []), ⟨Nat.zero_le _, Nat.zero_le _, Nat.le_refl _, rfl⟩, (weak_nil 5 1 35 rfl (by decide)).trans (weak_eq (by simp) (by simp [rB]))⟩ (fun ⟨i, k, out⟩ ⟨h1, h2, h3, h4⟩ => ?_)
  simp only at h1 h2 h3 h4 ⊢
  by_cases hi : i < a.length
  · have i1 : I64 ((i : Int) + 1) := by unfold I64; omega
    have ni : ((i : Int) = a.length) = False := eq_false (by omega)
    have ni' : (i = a.length) = False := eq_false (by omega)
    have sa := ha2 _ (ix_mem hi)
    by_cases hk : k < b.length
    · have k1 : I64 ((k : Int) + 1) := by unfold I64; omega
      have sb := hb2 _ (ix_mem hk)
      rw [mergeF_drop hi hk] at h4
      obtain ⟨c, hc⟩ : ∃ c, cmpL (ix a i) (ix b k) = c := ⟨_, rfl⟩
      rw [hc] at h4
      by_cases c1 : c < 0
      · have c2 : c ≤ 0 := by omega
        have c3 : ¬ 0 ≤ c := by omega
        rw [if_pos c1] at h4
        simp [aev, cav, look, acallPure, abin, abinN, abinP, abinI, abinS, aun, aconv, afield, afieldAddr, aindexAddr, aindex, aslice, alow, ahigh, abuild, abuildGo, cellsOf, splice, fieldTy, alen, apick, amax, amin, aload, headV, aparts, abuildSlice, elParts, abytesStr, astore, amake, aappend, aclear, anew, arith, aresults, aresList, ares, spec0, spec1, spec2, spec3, spec4, eqCells, eqCell, rB, sCmp, hi, hk, ni, ni', rowAt_enc hi, rowAt_enc hk, sa, sb, hc, c2, c3, i1]
        exact ⟨by omega, i + 1, k, out ++ [ix a i], ⟨by omega, by omega, by simp; omega, by rw [List.append_assoc]; exact h4⟩, by omega, weak_eq (by simp) (by simp [rB])⟩
      · rw [if_neg c1] at h4
        by_cases c0 : c = 0
        · subst c0
          rw [if_pos rfl] at h4
          simp [aev, cav, look, acallPure, abin, abinN, abinP, abinI, abinS, aun, aconv, afield, afieldAddr, aindexAddr, aindex, aslice, alow, ahigh, abuild, abuildGo, cellsOf, splice, fieldTy, alen, apick, amax, amin, aload, headV, aparts, abuildSlice, elParts, abytesStr, astore, amake, aappend, aclear, anew, arith, aresults, aresList, ares, spec0, spec1, spec2, spec3, spec4, eqCells, eqCell, rB, sCmp, hi, hk, ni, ni', rowAt_enc hi, rowAt_enc hk, sa, sb, hc, i1, k1]
          exact ⟨by omega, i + 1, k + 1, out ++ [ix a i], ⟨by omega, by omega, by simp; omega, by rw [List.append_assoc]; exact h4⟩, by omega, weak_eq (by simp) (by simp [rB])⟩
        · have c2 : ¬ c ≤ 0 := by omega
          have c3 : 0 ≤ c := by omega
          rw [if_neg c0] at h4
          simp [aev, cav, look, acallPure, abin, abinN, abinP, abinI, abinS, aun, aconv, afield, afieldAddr, aindexAddr, aindex, aslice, alow, ahigh, abuild, abuildGo, cellsOf, splice, fieldTy, alen, apick, amax, amin, aload, headV, aparts, abuildSlice, elParts, abytesStr, astore, amake, aappend, aclear, anew, arith, aresults, aresList, ares, spec0, spec1, spec2, spec3, spec4, eqCells, eqCell, rB, sCmp, hi, hk, ni, ni', rowAt_enc hi, rowAt_enc hk, sa, sb, hc, c2, c3, k1]
          exact ⟨by omega, i, k + 1, out ++ [ix b k], ⟨by omega, by omega, by simp; omega, by rw [List.append_assoc]; exact h4⟩, by omega, weak_eq (by simp) (by simp [rB])⟩
    · rw [mergeF_dropA hi (by omega)] at h4
      simp [aev, cav, look, acallPure, abin, abinN, abinP, abinI, abinS, aun, aconv, afield, afieldAddr, aindexAddr, aindex, aslice, alow, ahigh, abuild, abuildGo, cellsOf, splice, fieldTy, alen, apick, amax, amin, aload, headV, aparts, abuildSlice, elParts, abytesStr, astore, amake, aappend, aclear, anew, arith, aresults, aresList, ares, spec0, spec1, spec2, spec3, spec4, eqCells, eqCell, rB, sCmp, hi, hk, ni, ni', rowAt_enc hi, i1]
      exact ⟨by omega, i + 1, k, out ++ [ix a i], ⟨by omega, by omega, by simp; omega, by rw [List.append_assoc]; exact h4⟩, by omega, weak_eq (by simp) (by simp [rB])⟩
  · have ni : ((i : Int) = a.length) = True := eq_true (by omega)
    have ni' : (i = a.length) = True := eq_true (by omega)
    by_cases hk : k < b.length
    · have k1 : I64 ((k : Int) + 1) := by unfold I64; omega
      rw [mergeF_dropB (by omega) hk] at h4
      simp [aev, cav, look, acallPure, abin, abinN, abinP, abinI, abinS, aun, aconv, afield, afieldAddr, aindexAddr, aindex, aslice, alow, ahigh, abuild, abuildGo, cellsOf, splice, fieldTy, alen, apick, amax, amin, aload, headV, aparts, abuildSlice, elParts, abytesStr, astore, amake, aappend, aclear, anew, arith, aresults, aresList, ares, spec0, spec1, spec2, spec3, spec4, eqCells, eqCell, rB, sCmp, hi, hk, ni, ni', rowAt_enc hk, k1]
      exact ⟨by omega, i, k + 1, out ++ [ix b k], ⟨by omega, by omega, by simp; omega, by rw [List.append_assoc]; exact h4⟩, by omega, weak_eq (by simp) (by simp [rB])⟩
    · have hd : out = mergeF a b := by
        rw [List.drop_eq_nil_of_le (show a.length ≤ i by omega), List.drop_eq_nil_of_le (show b.length ≤ k by omega), mergeF, List.append_nil] at h4
        exact h4
      simp [aev, cav, look, acallPure, abin, abinN, abinP, abinI, abinS, aun, aconv, afield, afieldAddr, aindexAddr, aindex, aslice, alow, ahigh, abuild, abuildGo, cellsOf, splice, fieldTy, alen, apick, amax, amin, aload, headV, aparts, abuildSlice, elParts, abytesStr, astore, amake, aappend, aclear, anew, arith, aresults, aresList, ares, spec0, spec1, spec2, spec3, spec4, eqCells, eqCell, rB, hi, hk, hd]

def sSortN (N : Nat) : List AV → Option (Prop × AV) := spec1 (fun (l : List (List Int)) => SmallRs l ∧ l.length < N) (fun l => Enc.enc (sortedF l))
noncomputable def CSN (N : Nat) : Ctx := mkC Try.prog G0 [(46, .pure (sSortN N)), (71, .pure sMerge)]
@[simp] theorem CSN_P (N : Nat) : (CSN N).P = Try.prog := rfl
@[simp] theorem CSN_1 (N : Nat) : (CSN N).S 46 = .pure (sSortN N) := rfl
@[simp] theorem CSN_2 (N : Nat) : (CSN N).S 71 = .pure sMerge := rfl
theorem mixCSN (N : Nat) : (CSN N).P.follows .mixedOrders = true := mixed
theorem sigCSN {N : Nat} (h : PureOK Try.prog G0 46 (sSortN N)) : SigOK (CSN N) := sigOK_cons (entryPure h Try.func46 rfl (by decide)) (sigOK_cons (entryPure mergeR Try.func71 rfl (by decide)) (sigOK_nil _ _))
theorem scal22 (N : Nat) : isScalT (CSN N) 22 = false := by show isScalT ⟨Try.prog, fun _ => .no, G0⟩ 22 = false; kernel_rfl
set_option maxHeartbeats 16000000 in
theorem sortN : ∀ N, PureOK Try.prog G0 46 (sSortN N)
  | 0 => fun w X args avs ob r _ _ _ _ hp hob => by
    unfold sSortN spec1 at hp
    split at hp
    · injection hp with hp; injection hp with e1 e2; subst e1
      exact absurd hob.2.2 (Nat.not_lt_zero _)
    · cases hp
  | N + 1 => by
    have ih := sortN N
    refine pure1 (C := CSN N) (sigCSN ih) (mixCSN N) Try.func46 rfl rfl rfl (by kernel_rfl) (by decide) (fun l ⟨hS, hN⟩ => ?_)
    have hl := hS.1
    by_cases h1 : l.length ≤ 1
    · have h1' : (l.length : Int) ≤ 1 := by omega
      simp [aev, cav, look, acallPure, abin, abinN, abinP, abinI, abinS, aun, aconv, afield, afieldAddr, aindexAddr, aindex, aslice, alow, ahigh, abuild, abuildGo, cellsOf, splice, fieldTy, alen, apick, amax, amin, aload, headV, aparts, abuildSlice, elParts, abytesStr, astore, amake, aappend, aclear, anew, arith, aresults, aresList, ares, spec0, spec1, spec2, spec3, spec4, eqCells, eqCell, h1, h1']
      refine loop_rule (C := CSN N) (sigCSN ih) (mixCSN N) (fun i : Nat => ⟨[(0, Enc.enc l), (3, .own 0 i), (4, .int .i64 i)], [rB 35 (encRows (l.take i))]⟩) (fun i => i ≤ l.length) (fun i => l.length - i) (by kernel_rfl) ⟨0, by omega, (weak_nil 3 1 35 rfl (by decide)).trans (weak_eq (by simp) (by simp [rB]))⟩ (fun i hi => ?_)
      have hlen : (l.take i).length = i := by rw [List.length_take]; omega
      by_cases hlt : i < l.length
      · have i1 : I64 ((i : Int) + 1) := by unfold I64; omega
        have sr : (ix l i).length ≤ 1000000 := hS.2 _ (ix_mem hlt)
        have e1 : l.take (i + 1) = l.take i ++ [ix l i] := by rw [List.take_succ_eq_append_getElem hlt, ix_lt hlt]
        simp [aev, cav, look, acallPure, abin, abinN, abinP, abinI, abinS, aun, aconv, afield, afieldAddr, aindexAddr, aindex, aslice, alow, ahigh, abuild, abuildGo, cellsOf, splice, fieldTy, alen, apick, amax, amin, aload, headV, aparts, abuildSlice, elParts, abytesStr, astore, amake, aappend, aclear, anew, arith, aresults, aresList, ares, spec0, spec1, spec2, spec3, spec4, eqCells, eqCell, rB, hlt, rowAt_enc hlt, hlen, i1, scal22]
        exact ⟨⟨by omega, by omega⟩, ⟨by omega, by omega⟩, i + 1, by omega, by omega, weak_keep 1 (by simp) (by simp) (by simp [AV.clean, AV.clean1]) (by simp) (by simp [rB, e1])⟩
      · have e : i = l.length := by omega
        subst e
        have e2 : sortedF l = l := sorted_short h1
        simp [aev, cav, look, acallPure, abin, abinN, abinP, abinI, abinS, aun, aconv, afield, afieldAddr, aindexAddr, aindex, aslice, alow, ahigh, abuild, abuildGo, cellsOf, splice, fieldTy, alen, apick, amax, amin, aload, headV, aparts, abuildSlice, elParts, abytesStr, astore, amake, aappend, aclear, anew, arith, aresults, aresList, ares, spec0, spec1, spec2, spec3, spec4, eqCells, eqCell, rB, e2]
    · have h1' : ¬ (l.length : Int) ≤ 1 := by omega
      obtain ⟨m, hm⟩ : ∃ m, m = l.length / 2 := ⟨_, rfl⟩
      have hd : (l.length : Int).tdiv 2 = m := by rw [Int.tdiv_eq_ediv_of_nonneg (by omega)]; omega
      have hm1 : I64 (m : Int) := by unfold I64; omega
      have w1 : w64 ((l.length : Int).tdiv 2) = m := by rw [hd]; exact w64_in hm1
      have hml : m ≤ l.length := by omega
      have s1 : SmallRs (l.take m) := ⟨by rw [List.length_take]; omega, fun r hr => hS.2 r (List.mem_of_mem_take hr)⟩
      have s2 : SmallRs (l.drop m) := ⟨by rw [List.length_drop]; omega, fun r hr => hS.2 r (List.mem_of_mem_drop hr)⟩
      have n1 : (l.take m).length < N := by rw [List.length_take]; omega
      have n2 : (l.drop m).length < N := by rw [List.length_drop]; omega
      have p1 : SmallRs (l.take m) ∧ (l.take m).length < N := ⟨s1, n1⟩
      have hp : MergePre (sortedF (l.take m)) (sortedF (l.drop m)) := by
        have q1 := sortedF_len (l.take m)
        have q2 := sortedF_len (l.drop m)
        rw [List.length_take] at q1
        rw [List.length_drop] at q2
        exact ⟨⟨by omega, fun r hr => s1.2 r ((sortedF_mem _ r).1 hr)⟩, ⟨by omega, fun r hr => s2.2 r ((sortedF_mem _ r).1 hr)⟩, by omega⟩
      have he := sorted_merge l m
      have n1' : min m l.length < N := by rwa [List.length_take] at n1
      have n2' : l.length - m < N := by rwa [List.length_drop] at n2
      simp [aev, cav, look, acallPure, abin, abinN, abinP, abinI, abinS, aun, aconv, afield, afieldAddr, aindexAddr, aindex, aslice, alow, ahigh, abuild, abuildGo, cellsOf, splice, fieldTy, alen, apick, amax, amin, aload, headV, aparts, abuildSlice, elParts, abytesStr, astore, amake, aappend, aclear, anew, arith, aresults, aresList, ares, spec0, spec1, spec2, spec3, spec4, eqCells, eqCell, h1, h1', sSortN, sMerge, hd, hm1, hml, s1, s2, n1', n2', hp, he] <;> omega
def sSorted : List AV → Option (Prop × AV) := spec1 (fun (l : List (List Int)) => SmallRs l) (fun l => Enc.enc (sortedF l))
theorem sortedR : PureOK Try.prog G0 46 sSorted := fun w X args avs ob r hX hG hsz harg hp hob => by
  unfold sSorted spec1 at hp
  split at hp
  · rename_i a
    injection hp with hp; injection hp with e1 e2; subst e1 e2
    exact sortN ((Enc.dec a : List (List Int)).length + 1) w X args [a] _ _ hX hG hsz harg rfl ⟨hob.1, hob.2, Nat.lt_succ_self _⟩
  · cases hp
noncomputable def CO2 : Ctx := mkC Try.prog G0 [(45, .pure sWide), (46, .pure sSorted)]
@[simp] theorem CO2_P : CO2.P = Try.prog := rfl
@[simp] theorem CO2_1 : CO2.S 45 = .pure sWide := rfl
@[simp] theorem CO2_2 : CO2.S 46 = .pure sSorted := rfl
theorem mixCO2 : CO2.P.follows .mixedOrders = true := mixed
theorem sigCO2 : SigOK CO2 := sigOK_cons (entryPure wideR Try.func45 rfl (by decide)) (sigOK_cons (entryPure sortedR Try.func46 rfl (by decide)) (sigOK_nil _ _))
set_option maxHeartbeats 8000000 in
theorem ofR : PureOK Try.prog G0 12 sOf := by
  refine pure2 (C := CO2) sigCO2 mixCO2 Try.func12 rfl rfl rfl (by kernel_rfl) (by decide) (fun n l hS => ?_)
  by_cases hw : WideR n l
  case neg =>
    have e : ofF n l = (⟨0, []⟩, 1) := by unfold ofF; rw [if_neg hw]
    simp [aev, cav, look, acallPure, abin, abinN, abinP, abinI, abinS, aun, aconv, afield, afieldAddr, aindexAddr, aindex, aslice, alow, ahigh, abuild, abuildGo, cellsOf, splice, fieldTy, alen, apick, amax, amin, aload, headV, aparts, abuildSlice, elParts, abytesStr, astore, amake, aappend, aclear, anew, arith, aresults, aresList, ares, spec0, spec1, spec2, spec3, spec4, eqCells, eqCell, sWide, hS, hw, e]
  by_cases h2 : 20000 < (sortedF l).length
  · have h2' : (20000 : Int) < (sortedF l).length := by omega
    have e : ofF n l = (⟨0, []⟩, 4) := by unfold ofF; rw [if_pos hw, if_pos h2]
    simp [aev, cav, look, acallPure, abin, abinN, abinP, abinI, abinS, aun, aconv, afield, afieldAddr, aindexAddr, aindex, aslice, alow, ahigh, abuild, abuildGo, cellsOf, splice, fieldTy, alen, apick, amax, amin, aload, headV, aparts, abuildSlice, elParts, abytesStr, astore, amake, aappend, aclear, anew, arith, aresults, aresList, ares, spec0, spec1, spec2, spec3, spec4, eqCells, eqCell, sWide, sSorted, hS, hw, h2', e]
  · have h2' : ¬ (20000 : Int) < (sortedF l).length := by omega
    have e : ofF n l = (⟨n, sortedF l⟩, 0) := by unfold ofF; rw [if_pos hw, if_neg h2]
    simp [aev, cav, look, acallPure, abin, abinN, abinP, abinI, abinS, aun, aconv, afield, afieldAddr, aindexAddr, aindex, aslice, alow, ahigh, abuild, abuildGo, cellsOf, splice, fieldTy, alen, apick, amax, amin, aload, headV, aparts, abuildSlice, elParts, abytesStr, astore, amake, aappend, aclear, anew, arith, aresults, aresList, ares, spec0, spec1, spec2, spec3, spec4, eqCells, eqCell, sWide, sSorted, hS, hw, h2', e]
end Go.Proofs.Ytkonafdbfciikaa
