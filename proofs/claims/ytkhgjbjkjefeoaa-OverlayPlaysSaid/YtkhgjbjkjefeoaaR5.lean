/-
  Texts joined: O3 O4 O5 O33 O34 P1 O6 O7 O8 P2 O9 O10 Shelf O11 O35 P3 O12 O13 P4 O14.
-/
import Derived.Test.YtkhgjbjkjefeoaaR4
import Derived.RangeFuncBox
import Derived.RangeFuncLeaves
import Derived.RangeFuncWrites
import Derived.Shelf.Abstract
import Derived.WalkKit
import Derived.OwnWalkIn
import Derived.TacticsInMore
import Derived.LoopNIn
import Derived.LoopIn
import Derived.Shelf.SlSortCmp.NoneTotal
import Derived.Shelf.SlGeneric
import Derived.Ground.SlsfProg
import Derived.Test.YtkhgjbjkjefeoaaProg

/-
  overlay: equal columns and overlays; formed; less; the closure of find; clones.
-/
namespace Go.Proofs.Ytkhgjbjkjefeoaa
open Go.RowKit
set_option linter.unusedSimpArgs false
set_option linter.unusedVariables false
set_option maxRecDepth 100000

theorem adj_bne (a b : Adj) : (!decide (a.From = b.From) || (!decide (a.To = b.To) || !decide (a.Edge = b.Edge))) = !decide (a = b) := by
  rw [← adj_beq, Bool.not_and, Bool.not_and]
def sInts : List AV → Option (Prop × AV) := spec2 (fun (a _ : List Int) => Len a) (fun a b => .bool (decide (a = b)))
def sAdjs : List AV → Option (Prop × AV) := spec2 (fun (a _ : List Adj) => Len a) (fun a b => .bool (decide (a = b)))
set_option maxHeartbeats 4000000 in
theorem intsR : PureOK Try.prog G0 50 sInts := by
  refine pureH2 (C := CE) sigCE mixCE Try.func50 rfl rfl rfl [6] (by kernel_rfl) (by decide) (fun a b hl => ?_)
  by_cases h1 : a.length = b.length
  case neg =>
    have h1' : ¬ (a.length : Int) = b.length := by omega
    have no : ¬ a = b := fun h => h1 (by rw [h])
    simp [aev, gav, alook, litOf, litAV, mget, mhas, acopy, asrc, adst, cav, look, acallPure, abin, abinN, abinP, abinI, abinS, aun, aconv, afield, afieldAddr, aindexAddr, aindex, aslice, alow, ahigh, abuild, abuildGo, cellsOf, splice, fieldTy, alen, apick, amax, amin, aload, headV, aparts, abuildSlice, elParts, abytesStr, astore, amake, aappend, aclear, anew, arith, aresults, aresList, ares, spec0, spec1, spec2, spec3, spec4, eqCells, eqCell, h1', no]
  obtain ⟨r, hr⟩ : ∃ r, decide (a = b) = r := ⟨_, rfl⟩
  rw [hr]
  simp [aev, gav, alook, litOf, litAV, mget, mhas, acopy, asrc, adst, cav, look, acallPure, abin, abinN, abinP, abinI, abinS, aun, aconv, afield, afieldAddr, aindexAddr, aindex, aslice, alow, ahigh, abuild, abuildGo, cellsOf, splice, fieldTy, alen, apick, amax, amin, aload, headV, aparts, abuildSlice, elParts, abytesStr, astore, amake, aappend, aclear, anew, arith, aresults, aresList, ares, spec0, spec1, spec2, spec3, spec4, eqCells, eqCell, h1]
  refine loop_ruleH (C := CE) sigCE mixCE [6] (fun q : Nat => ⟨[(0, Enc.enc a), (1, Enc.enc b), (5, .int .i64 q)], []⟩) (fun q => q ≤ a.length ∧ ∀ j, j < q → ix a j = ix b j) (fun q => a.length - q) (by kernel_rfl) ⟨0, ⟨by simp, fun j hj => by simp at hj⟩, weak_eq (by simp) rfl⟩ (fun k ⟨hk, hv⟩ => ?_)
  by_cases hlt : k < a.length
  · have hltb : k < b.length := by omega
    have i1 := (len_i hl hk).1
    simp [aev, gav, alook, litOf, litAV, mget, mhas, acopy, asrc, adst, cav, look, acallPure, abin, abinN, abinP, abinI, abinS, aun, aconv, afield, afieldAddr, aindexAddr, aindex, aslice, alow, ahigh, abuild, abuildGo, cellsOf, splice, fieldTy, alen, apick, amax, amin, aload, headV, aparts, abuildSlice, elParts, abytesStr, astore, amake, aappend, aclear, anew, arith, aresults, aresList, ares, spec0, spec1, spec2, spec3, spec4, eqCells, eqCell, hlt]
    refine AW_regionF sigCE mixCE [.pure, .pure, .pure, .read, .pure, .pure, .pure, .read, .pure] [[],[],[1,0],[0,1,2],[],[],[5,4],[4,5,6],[6,5,4,7,2,1,0,3]] (by kernel_rfl) (by kernel_rfl) (by kernel_rfl) (by kernel_rfl) ?_
    by_cases h2 : ix a k = ix b k
    · simp [aev, gav, alook, litOf, litAV, mget, mhas, acopy, asrc, adst, cav, look, acallPure, abin, abinN, abinP, abinI, abinS, aun, aconv, afield, afieldAddr, aindexAddr, aindex, aslice, alow, ahigh, abuild, abuildGo, cellsOf, splice, fieldTy, alen, apick, amax, amin, aload, headV, aparts, abuildSlice, elParts, abytesStr, astore, amake, aappend, aclear, anew, arith, aresults, aresList, ares, spec0, spec1, spec2, spec3, spec4, eqCells, eqCell, hlt, rowAt_enc hlt, hltb, rowAt_enc hltb, h2, i1]
      exact ⟨k + 1, ⟨by omega, fun j hj => by
        rcases Nat.lt_or_eq_of_le (Nat.le_of_lt_succ hj) with h | rfl
        · exact hv j h
        · exact h2⟩, by omega, weak_eq (by simp) rfl⟩
    · have no : ¬ a = b := fun h => h2 (by rw [h])
      have hr0 : r = false := by rw [← hr]; exact decide_eq_false no
      simp [aev, gav, alook, litOf, litAV, mget, mhas, acopy, asrc, adst, cav, look, acallPure, abin, abinN, abinP, abinI, abinS, aun, aconv, afield, afieldAddr, aindexAddr, aindex, aslice, alow, ahigh, abuild, abuildGo, cellsOf, splice, fieldTy, alen, apick, amax, amin, aload, headV, aparts, abuildSlice, elParts, abytesStr, astore, amake, aappend, aclear, anew, arith, aresults, aresList, ares, spec0, spec1, spec2, spec3, spec4, eqCells, eqCell, hlt, rowAt_enc hlt, hltb, rowAt_enc hltb, adj_bne, h2, hr0]
  · have yes : a = b := list_eq_upto h1 hv (by omega)
    have hr1 : r = true := by rw [← hr]; exact decide_eq_true yes
    simp [aev, gav, alook, litOf, litAV, mget, mhas, acopy, asrc, adst, cav, look, acallPure, abin, abinN, abinP, abinI, abinS, aun, aconv, afield, afieldAddr, aindexAddr, aindex, aslice, alow, ahigh, abuild, abuildGo, cellsOf, splice, fieldTy, alen, apick, amax, amin, aload, headV, aparts, abuildSlice, elParts, abytesStr, astore, amake, aappend, aclear, anew, arith, aresults, aresList, ares, spec0, spec1, spec2, spec3, spec4, eqCells, eqCell, hlt, hr1]
set_option maxHeartbeats 4000000 in
theorem adjsR : PureOK Try.prog G0 17 sAdjs := by
  refine pureH2 (C := CE) sigCE mixCE Try.func17 rfl rfl rfl [6] (by kernel_rfl) (by decide) (fun a b hl => ?_)
  by_cases h1 : a.length = b.length
  case neg =>
    have h1' : ¬ (a.length : Int) = b.length := by omega
    have no : ¬ a = b := fun h => h1 (by rw [h])
    simp [aev, gav, alook, litOf, litAV, mget, mhas, acopy, asrc, adst, cav, look, acallPure, abin, abinN, abinP, abinI, abinS, aun, aconv, afield, afieldAddr, aindexAddr, aindex, aslice, alow, ahigh, abuild, abuildGo, cellsOf, splice, fieldTy, alen, apick, amax, amin, aload, headV, aparts, abuildSlice, elParts, abytesStr, astore, amake, aappend, aclear, anew, arith, aresults, aresList, ares, spec0, spec1, spec2, spec3, spec4, eqCells, eqCell, h1', no]
  obtain ⟨r, hr⟩ : ∃ r, decide (a = b) = r := ⟨_, rfl⟩
  rw [hr]
  simp [aev, gav, alook, litOf, litAV, mget, mhas, acopy, asrc, adst, cav, look, acallPure, abin, abinN, abinP, abinI, abinS, aun, aconv, afield, afieldAddr, aindexAddr, aindex, aslice, alow, ahigh, abuild, abuildGo, cellsOf, splice, fieldTy, alen, apick, amax, amin, aload, headV, aparts, abuildSlice, elParts, abytesStr, astore, amake, aappend, aclear, anew, arith, aresults, aresList, ares, spec0, spec1, spec2, spec3, spec4, eqCells, eqCell, h1]
  refine loop_ruleH (C := CE) sigCE mixCE [6] (fun q : Nat => ⟨[(0, Enc.enc a), (1, Enc.enc b), (5, .int .i64 q)], []⟩) (fun q => q ≤ a.length ∧ ∀ j, j < q → ix a j = ix b j) (fun q => a.length - q) (by kernel_rfl) ⟨0, ⟨by simp, fun j hj => by simp at hj⟩, weak_eq (by simp) rfl⟩ (fun k ⟨hk, hv⟩ => ?_)
  by_cases hlt : k < a.length
  · have hltb : k < b.length := by omega
    have i1 := (len_i hl hk).1
    simp [aev, gav, alook, litOf, litAV, mget, mhas, acopy, asrc, adst, cav, look, acallPure, abin, abinN, abinP, abinI, abinS, aun, aconv, afield, afieldAddr, aindexAddr, aindex, aslice, alow, ahigh, abuild, abuildGo, cellsOf, splice, fieldTy, alen, apick, amax, amin, aload, headV, aparts, abuildSlice, elParts, abytesStr, astore, amake, aappend, aclear, anew, arith, aresults, aresList, ares, spec0, spec1, spec2, spec3, spec4, eqCells, eqCell, hlt]
    refine AW_regionF sigCE mixCE [.pure, .pure, .pure, .read, .pure, .pure, .pure, .read, .pure] [[],[],[1,0],[0,1,2],[],[],[5,4],[4,5,6],[6,5,4,7,2,1,0,3]] (by kernel_rfl) (by kernel_rfl) (by kernel_rfl) (by kernel_rfl) ?_
    by_cases h2 : ix a k = ix b k
    · simp [aev, gav, alook, litOf, litAV, mget, mhas, acopy, asrc, adst, cav, look, acallPure, abin, abinN, abinP, abinI, abinS, aun, aconv, afield, afieldAddr, aindexAddr, aindex, aslice, alow, ahigh, abuild, abuildGo, cellsOf, splice, fieldTy, alen, apick, amax, amin, aload, headV, aparts, abuildSlice, elParts, abytesStr, astore, amake, aappend, aclear, anew, arith, aresults, aresList, ares, spec0, spec1, spec2, spec3, spec4, eqCells, eqCell, hlt, rowAt_enc hlt, hltb, rowAt_enc hltb, h2, i1]
      exact ⟨k + 1, ⟨by omega, fun j hj => by
        rcases Nat.lt_or_eq_of_le (Nat.le_of_lt_succ hj) with h | rfl
        · exact hv j h
        · exact h2⟩, by omega, weak_eq (by simp) rfl⟩
    · have no : ¬ a = b := fun h => h2 (by rw [h])
      have hr0 : r = false := by rw [← hr]; exact decide_eq_false no
      simp [aev, gav, alook, litOf, litAV, mget, mhas, acopy, asrc, adst, cav, look, acallPure, abin, abinN, abinP, abinI, abinS, aun, aconv, afield, afieldAddr, aindexAddr, aindex, aslice, alow, ahigh, abuild, abuildGo, cellsOf, splice, fieldTy, alen, apick, amax, amin, aload, headV, aparts, abuildSlice, elParts, abytesStr, astore, amake, aappend, aclear, anew, arith, aresults, aresList, ares, spec0, spec1, spec2, spec3, spec4, eqCells, eqCell, hlt, rowAt_enc hlt, hltb, rowAt_enc hltb, adj_bne, h2, hr0]
  · have yes : a = b := list_eq_upto h1 hv (by omega)
    have hr1 : r = true := by rw [← hr]; exact decide_eq_true yes
    simp [aev, gav, alook, litOf, litAV, mget, mhas, acopy, asrc, adst, cav, look, acallPure, abin, abinN, abinP, abinI, abinS, aun, aconv, afield, afieldAddr, aindexAddr, aindex, aslice, alow, ahigh, abuild, abuildGo, cellsOf, splice, fieldTy, alen, apick, amax, amin, aload, headV, aparts, abuildSlice, elParts, abytesStr, astore, amake, aappend, aclear, anew, arith, aresults, aresList, ares, spec0, spec1, spec2, spec3, spec4, eqCells, eqCell, hlt, hr1]
theorem col_eq {a b : Col} : a = b ↔ a.Nodes = b.Nodes ∧ a.First = b.First ∧ a.To = b.To ∧ a.Edge = b.Edge := by
  constructor
  · rintro rfl; exact ⟨rfl, rfl, rfl, rfl⟩
  · obtain ⟨a1, a2, a3, a4⟩ := a
    obtain ⟨b1, b2, b3, b4⟩ := b
    rintro ⟨h1, h2, h3, h4⟩
    simp only at h1 h2 h3 h4
    subst h1 h2 h3 h4; rfl
instance : DecidableEq Col := fun a b => decidable_of_iff _ col_eq.symm
theorem ov_eq {a b : Ov} : a = b ↔ a.Base = b.Base ∧ a.Adds = b.Adds ∧ a.Dels = b.Dels := by
  constructor
  · rintro rfl; exact ⟨rfl, rfl, rfl⟩
  · obtain ⟨a1, a2, a3⟩ := a
    obtain ⟨b1, b2, b3⟩ := b
    rintro ⟨h1, h2, h3⟩
    simp only at h1 h2 h3
    subst h1 h2 h3; rfl
instance : DecidableEq Ov := fun a b => decidable_of_iff _ ov_eq.symm
def sCols : List AV → Option (Prop × AV) := spec2 (fun (a _ : Col) => Len a.Nodes ∧ Len a.First ∧ Len a.To ∧ Len a.Edge) (fun a b => .bool (decide (a = b)))
noncomputable def CCs : Ctx := mkC Try.prog G0 [(50, .pure sInts), (17, .pure sAdjs)]
@[simp] theorem CCs_P : CCs.P = Try.prog := rfl
@[simp] theorem CCs_G : CCs.G = G0 := rfl
@[simp] theorem CCs_1 : CCs.S 50 = .pure sInts := rfl
@[simp] theorem CCs_2 : CCs.S 17 = .pure sAdjs := rfl
theorem mixCCs : CCs.P.follows .mixedOrders = true := mixed
theorem sigCCs : SigOK CCs := sigOK_cons (entryPure (intsR) Try.func50 rfl (by decide)) (sigOK_cons (entryPure (adjsR) Try.func17 rfl (by decide)) (sigOK_nil _ _))
set_option maxHeartbeats 4000000 in
theorem colsR : PureOK Try.prog G0 28 sCols := by
  refine pureH2 (C := CCs) sigCCs mixCCs Try.func28 rfl rfl rfl [] (by kernel_rfl) (by decide) (fun a b ⟨h1, h2, h3, h4⟩ => ?_)
  obtain ⟨r, hr⟩ : ∃ r, decide (a = b) = r := ⟨_, rfl⟩
  rw [hr]
  have no : (¬ (a.Nodes = b.Nodes ∧ a.First = b.First ∧ a.To = b.To ∧ a.Edge = b.Edge)) → r = false := fun h => by rw [← hr]; exact decide_eq_false (mt col_eq.1 h)
  rcases em2 (a.Nodes = b.Nodes) with e1 | e1
  case inr =>
    have hr0 := no fun h => of_eq_false e1 h.1
    simp [aev, gav, alook, litOf, litAV, mget, mhas, acopy, asrc, adst, cav, look, acallPure, abin, abinN, abinP, abinI, abinS, aun, aconv, afield, afieldAddr, aindexAddr, aindex, aslice, alow, ahigh, abuild, abuildGo, cellsOf, splice, fieldTy, alen, apick, amax, amin, aload, headV, aparts, abuildSlice, elParts, abytesStr, astore, amake, aappend, aclear, anew, arith, aresults, aresList, ares, spec0, spec1, spec2, spec3, spec4, eqCells, eqCell, sInts, h1, h2, h3, h4, e1, hr0]
  rcases em2 (a.First = b.First) with e2 | e2
  case inr =>
    have hr0 := no fun h => of_eq_false e2 h.2.1
    simp [aev, gav, alook, litOf, litAV, mget, mhas, acopy, asrc, adst, cav, look, acallPure, abin, abinN, abinP, abinI, abinS, aun, aconv, afield, afieldAddr, aindexAddr, aindex, aslice, alow, ahigh, abuild, abuildGo, cellsOf, splice, fieldTy, alen, apick, amax, amin, aload, headV, aparts, abuildSlice, elParts, abytesStr, astore, amake, aappend, aclear, anew, arith, aresults, aresList, ares, spec0, spec1, spec2, spec3, spec4, eqCells, eqCell, sInts, h1, h2, h3, h4, e1, e2, hr0]
  rcases em2 (a.To = b.To) with e3 | e3
  case inr =>
    have hr0 := no fun h => of_eq_false e3 h.2.2.1
    simp [aev, gav, alook, litOf, litAV, mget, mhas, acopy, asrc, adst, cav, look, acallPure, abin, abinN, abinP, abinI, abinS, aun, aconv, afield, afieldAddr, aindexAddr, aindex, aslice, alow, ahigh, abuild, abuildGo, cellsOf, splice, fieldTy, alen, apick, amax, amin, aload, headV, aparts, abuildSlice, elParts, abytesStr, astore, amake, aappend, aclear, anew, arith, aresults, aresList, ares, spec0, spec1, spec2, spec3, spec4, eqCells, eqCell, sInts, h1, h2, h3, h4, e1, e2, e3, hr0]
  rcases em2 (a.Edge = b.Edge) with e4 | e4
  case inr =>
    have hr0 := no fun h => of_eq_false e4 h.2.2.2
    simp [aev, gav, alook, litOf, litAV, mget, mhas, acopy, asrc, adst, cav, look, acallPure, abin, abinN, abinP, abinI, abinS, aun, aconv, afield, afieldAddr, aindexAddr, aindex, aslice, alow, ahigh, abuild, abuildGo, cellsOf, splice, fieldTy, alen, apick, amax, amin, aload, headV, aparts, abuildSlice, elParts, abytesStr, astore, amake, aappend, aclear, anew, arith, aresults, aresList, ares, spec0, spec1, spec2, spec3, spec4, eqCells, eqCell, sInts, h1, h2, h3, h4, e1, e2, e3, e4, hr0]
  have hr0 : r = true := by rw [← hr]; exact decide_eq_true (col_eq.2 ⟨of_eq_true e1, of_eq_true e2, of_eq_true e3, of_eq_true e4⟩)
  simp [aev, gav, alook, litOf, litAV, mget, mhas, acopy, asrc, adst, cav, look, acallPure, abin, abinN, abinP, abinI, abinS, aun, aconv, afield, afieldAddr, aindexAddr, aindex, aslice, alow, ahigh, abuild, abuildGo, cellsOf, splice, fieldTy, alen, apick, amax, amin, aload, headV, aparts, abuildSlice, elParts, abytesStr, astore, amake, aappend, aclear, anew, arith, aresults, aresList, ares, spec0, spec1, spec2, spec3, spec4, eqCells, eqCell, sInts, h1, h2, h3, h4, e1, e2, e3, e4, hr0]
def LenO (o : Ov) : Prop := (Len o.Base.Nodes ∧ Len o.Base.First ∧ Len o.Base.To ∧ Len o.Base.Edge) ∧ Len o.Adds ∧ Len o.Dels
def sSame : List AV → Option (Prop × AV) := spec2 (fun (a _ : Ov) => LenO a) (fun a b => .bool (decide (a = b)))
def FormA (a : Adj) : Prop := IdOK a.From ∧ IdOK a.To ∧ IdOK a.Edge
instance (a : Adj) : Decidable (FormA a) := inferInstanceAs (Decidable (_ ∧ _))
def sForm : List AV → Option (Prop × AV) := spec1 (fun (_ : Adj) => True) (fun a => .bool (decide (FormA a)))
noncomputable def CSm : Ctx := mkC Try.prog G0 [(50, .pure sInts), (17, .pure sAdjs), (28, .pure sCols)]
@[simp] theorem CSm_P : CSm.P = Try.prog := rfl
@[simp] theorem CSm_G : CSm.G = G0 := rfl
@[simp] theorem CSm_1 : CSm.S 50 = .pure sInts := rfl
@[simp] theorem CSm_2 : CSm.S 17 = .pure sAdjs := rfl
@[simp] theorem CSm_3 : CSm.S 28 = .pure sCols := rfl
theorem mixCSm : CSm.P.follows .mixedOrders = true := mixed
theorem sigCSm : SigOK CSm := sigOK_cons (entryPure (intsR) Try.func50 rfl (by decide)) (sigOK_cons (entryPure (adjsR) Try.func17 rfl (by decide)) (sigOK_cons (entryPure (colsR) Try.func28 rfl (by decide)) (sigOK_nil _ _)))
set_option maxHeartbeats 4000000 in
theorem sameR : PureOK Try.prog G0 14 sSame := by
  refine pureH2 (C := CSm) sigCSm mixCSm Try.func14 rfl rfl rfl [] (by kernel_rfl) (by decide) (fun a b ⟨⟨h1, h2, h3, h4⟩, h5, h6⟩ => ?_)
  obtain ⟨r, hr⟩ : ∃ r, decide (a = b) = r := ⟨_, rfl⟩
  rw [hr]
  have no : (¬ (a.Base = b.Base ∧ a.Adds = b.Adds ∧ a.Dels = b.Dels)) → r = false := fun h => by rw [← hr]; exact decide_eq_false (mt ov_eq.1 h)
  obtain ⟨⟨n, f, t, e⟩, ad, de⟩ := a
  obtain ⟨⟨n', f', t', e'⟩, ad', de'⟩ := b
  simp only at no h1 h2 h3 h4 h5 h6
  rcases em2 ((⟨n, f, t, e⟩ : Col) = ⟨n', f', t', e'⟩) with e1 | e1
  case inr =>
    have hr0 := no fun h => of_eq_false e1 h.1
    simp [aev, gav, alook, litOf, litAV, mget, mhas, acopy, asrc, adst, cav, look, acallPure, abin, abinN, abinP, abinI, abinS, aun, aconv, afield, afieldAddr, aindexAddr, aindex, aslice, alow, ahigh, abuild, abuildGo, cellsOf, splice, fieldTy, alen, apick, amax, amin, aload, headV, aparts, abuildSlice, elParts, abytesStr, astore, amake, aappend, aclear, anew, arith, aresults, aresList, ares, spec0, spec1, spec2, spec3, spec4, eqCells, eqCell, sCols, h1, h2, h3, h4, e1, hr0]
  rcases em2 (ad = ad') with e2 | e2
  case inr =>
    have hr0 := no fun h => of_eq_false e2 h.2.1
    simp [aev, gav, alook, litOf, litAV, mget, mhas, acopy, asrc, adst, cav, look, acallPure, abin, abinN, abinP, abinI, abinS, aun, aconv, afield, afieldAddr, aindexAddr, aindex, aslice, alow, ahigh, abuild, abuildGo, cellsOf, splice, fieldTy, alen, apick, amax, amin, aload, headV, aparts, abuildSlice, elParts, abytesStr, astore, amake, aappend, aclear, anew, arith, aresults, aresList, ares, spec0, spec1, spec2, spec3, spec4, eqCells, eqCell, sCols, sAdjs, h1, h2, h3, h4, h5, e1, e2, hr0]
  rcases em2 (de = de') with e3 | e3
  case inr =>
    have hr0 := no fun h => of_eq_false e3 h.2.2
    simp [aev, gav, alook, litOf, litAV, mget, mhas, acopy, asrc, adst, cav, look, acallPure, abin, abinN, abinP, abinI, abinS, aun, aconv, afield, afieldAddr, aindexAddr, aindex, aslice, alow, ahigh, abuild, abuildGo, cellsOf, splice, fieldTy, alen, apick, amax, amin, aload, headV, aparts, abuildSlice, elParts, abytesStr, astore, amake, aappend, aclear, anew, arith, aresults, aresList, ares, spec0, spec1, spec2, spec3, spec4, eqCells, eqCell, sCols, sAdjs, sInts, h1, h2, h3, h4, h5, h6, e1, e2, e3, hr0]
  have hr0 : r = true := by rw [← hr]; exact decide_eq_true (ov_eq.2 ⟨of_eq_true e1, of_eq_true e2, of_eq_true e3⟩)
  simp [aev, gav, alook, litOf, litAV, mget, mhas, acopy, asrc, adst, cav, look, acallPure, abin, abinN, abinP, abinI, abinS, aun, aconv, afield, afieldAddr, aindexAddr, aindex, aslice, alow, ahigh, abuild, abuildGo, cellsOf, splice, fieldTy, alen, apick, amax, amin, aload, headV, aparts, abuildSlice, elParts, abytesStr, astore, amake, aappend, aclear, anew, arith, aresults, aresList, ares, spec0, spec1, spec2, spec3, spec4, eqCells, eqCell, sCols, sAdjs, sInts, h1, h2, h3, h4, h5, h6, e1, e2, e3, hr0]
noncomputable def CFo : Ctx := mkC Try.prog G0 [(57, .pure sId)]
@[simp] theorem CFo_P : CFo.P = Try.prog := rfl
@[simp] theorem CFo_G : CFo.G = G0 := rfl
@[simp] theorem CFo_1 : CFo.S 57 = .pure sId := rfl
theorem mixCFo : CFo.P.follows .mixedOrders = true := mixed
theorem sigCFo : SigOK CFo := sigOK_cons (entryPure (idO) Try.func57 rfl (by decide)) (sigOK_nil _ _)
theorem formP : PureOK Try.prog G0 30 sForm := by
  refine pure1 (C := CFo) sigCFo mixCFo Try.func30 rfl rfl rfl (by kernel_rfl) (by decide) (fun a _ => ?_)
  obtain ⟨r, hr⟩ : ∃ r, decide (FormA a) = r := ⟨_, rfl⟩
  rw [hr]
  by_cases e1 : IdOK a.From
  · by_cases e2 : IdOK a.To
    · by_cases e3 : IdOK a.Edge
      · have hr0 : r = true := by rw [← hr]; exact decide_eq_true ⟨e1, e2, e3⟩
        simp [aev, gav, alook, litOf, litAV, mget, mhas, acopy, asrc, adst, cav, look, acallPure, abin, abinN, abinP, abinI, abinS, aun, aconv, afield, afieldAddr, aindexAddr, aindex, aslice, alow, ahigh, abuild, abuildGo, cellsOf, splice, fieldTy, alen, apick, amax, amin, aload, headV, aparts, abuildSlice, elParts, abytesStr, astore, amake, aappend, aclear, anew, arith, aresults, aresList, ares, spec0, spec1, spec2, spec3, spec4, eqCells, eqCell, sId, e1, e2, e3, hr0]
      · have hr0 : r = false := by rw [← hr]; exact decide_eq_false fun h => e3 h.2.2
        simp [aev, gav, alook, litOf, litAV, mget, mhas, acopy, asrc, adst, cav, look, acallPure, abin, abinN, abinP, abinI, abinS, aun, aconv, afield, afieldAddr, aindexAddr, aindex, aslice, alow, ahigh, abuild, abuildGo, cellsOf, splice, fieldTy, alen, apick, amax, amin, aload, headV, aparts, abuildSlice, elParts, abytesStr, astore, amake, aappend, aclear, anew, arith, aresults, aresList, ares, spec0, spec1, spec2, spec3, spec4, eqCells, eqCell, sId, e1, e2, e3, hr0]
    · have hr0 : r = false := by rw [← hr]; exact decide_eq_false fun h => e2 h.2.1
      simp [aev, gav, alook, litOf, litAV, mget, mhas, acopy, asrc, adst, cav, look, acallPure, abin, abinN, abinP, abinI, abinS, aun, aconv, afield, afieldAddr, aindexAddr, aindex, aslice, alow, ahigh, abuild, abuildGo, cellsOf, splice, fieldTy, alen, apick, amax, amin, aload, headV, aparts, abuildSlice, elParts, abytesStr, astore, amake, aappend, aclear, anew, arith, aresults, aresList, ares, spec0, spec1, spec2, spec3, spec4, eqCells, eqCell, sId, e1, e2, hr0]
  · have hr0 : r = false := by rw [← hr]; exact decide_eq_false fun h => e1 h.1
    simp [aev, gav, alook, litOf, litAV, mget, mhas, acopy, asrc, adst, cav, look, acallPure, abin, abinN, abinP, abinI, abinS, aun, aconv, afield, afieldAddr, aindexAddr, aindex, aslice, alow, ahigh, abuild, abuildGo, cellsOf, splice, fieldTy, alen, apick, amax, amin, aload, headV, aparts, abuildSlice, elParts, abytesStr, astore, amake, aappend, aclear, anew, arith, aresults, aresList, ares, spec0, spec1, spec2, spec3, spec4, eqCells, eqCell, sId, e1, hr0]
def LtA (a b : Adj) : Prop := a.From < b.From ∨ a.From = b.From ∧ (a.To < b.To ∨ a.To = b.To ∧ a.Edge < b.Edge)
instance (a b : Adj) : Decidable (LtA a b) := inferInstanceAs (Decidable (_ ∨ _))
def sLt : List AV → Option (Prop × AV) := spec2 (fun (_ _ : Adj) => True) (fun a b => .bool (decide (LtA a b)))
set_option maxHeartbeats 4000000 in
theorem ltR : PureOK Try.prog G0 80 sLt := by
  refine pure2 (C := CE) sigCE mixCE Try.func80 rfl rfl rfl (by kernel_rfl) (by decide) (fun a b _ => ?_)
  obtain ⟨r, hr⟩ : ∃ r, decide (LtA a b) = r := ⟨_, rfl⟩
  rw [hr]
  by_cases h1 : a.From = b.From
  · by_cases h2 : a.To = b.To
    · have hr0 : r = decide (a.Edge < b.Edge) := by rw [← hr]; exact decide_eq_decide.2 (by unfold LtA; omega)
      simp [aev, gav, alook, litOf, litAV, mget, mhas, acopy, asrc, adst, cav, look, acallPure, abin, abinN, abinP, abinI, abinS, aun, aconv, afield, afieldAddr, aindexAddr, aindex, aslice, alow, ahigh, abuild, abuildGo, cellsOf, splice, fieldTy, alen, apick, amax, amin, aload, headV, aparts, abuildSlice, elParts, abytesStr, astore, amake, aappend, aclear, anew, arith, aresults, aresList, ares, spec0, spec1, spec2, spec3, spec4, eqCells, eqCell, h1, h2, hr0]
    · have hr0 : r = decide (a.To < b.To) := by rw [← hr]; exact decide_eq_decide.2 (by unfold LtA; omega)
      simp [aev, gav, alook, litOf, litAV, mget, mhas, acopy, asrc, adst, cav, look, acallPure, abin, abinN, abinP, abinI, abinS, aun, aconv, afield, afieldAddr, aindexAddr, aindex, aslice, alow, ahigh, abuild, abuildGo, cellsOf, splice, fieldTy, alen, apick, amax, amin, aload, headV, aparts, abuildSlice, elParts, abytesStr, astore, amake, aappend, aclear, anew, arith, aresults, aresList, ares, spec0, spec1, spec2, spec3, spec4, eqCells, eqCell, h1, h2, hr0]
  · have hr0 : r = decide (a.From < b.From) := by rw [← hr]; exact decide_eq_decide.2 (by unfold LtA; omega)
    simp [aev, gav, alook, litOf, litAV, mget, mhas, acopy, asrc, adst, cav, look, acallPure, abin, abinN, abinP, abinI, abinS, aun, aconv, afield, afieldAddr, aindexAddr, aindex, aslice, alow, ahigh, abuild, abuildGo, cellsOf, splice, fieldTy, alen, apick, amax, amin, aload, headV, aparts, abuildSlice, elParts, abytesStr, astore, amake, aappend, aclear, anew, arith, aresults, aresList, ares, spec0, spec1, spec2, spec3, spec4, eqCells, eqCell, h1, hr0]
set_option maxHeartbeats 4000000 in
theorem ltS : PureOK Try.prog G0 52 sLt := by
  refine pure2 (C := CE) sigCE mixCE Try.func52 rfl rfl rfl (by kernel_rfl) (by decide) (fun a b _ => ?_)
  obtain ⟨r, hr⟩ : ∃ r, decide (LtA a b) = r := ⟨_, rfl⟩
  rw [hr]
  by_cases h1 : a.From = b.From
  · by_cases h2 : a.To = b.To
    · have hr0 : r = decide (a.Edge < b.Edge) := by rw [← hr]; exact decide_eq_decide.2 (by unfold LtA; omega)
      simp [aev, gav, alook, litOf, litAV, mget, mhas, acopy, asrc, adst, cav, look, acallPure, abin, abinN, abinP, abinI, abinS, aun, aconv, afield, afieldAddr, aindexAddr, aindex, aslice, alow, ahigh, abuild, abuildGo, cellsOf, splice, fieldTy, alen, apick, amax, amin, aload, headV, aparts, abuildSlice, elParts, abytesStr, astore, amake, aappend, aclear, anew, arith, aresults, aresList, ares, spec0, spec1, spec2, spec3, spec4, eqCells, eqCell, h1, h2, hr0]
    · have hr0 : r = decide (a.To < b.To) := by rw [← hr]; exact decide_eq_decide.2 (by unfold LtA; omega)
      simp [aev, gav, alook, litOf, litAV, mget, mhas, acopy, asrc, adst, cav, look, acallPure, abin, abinN, abinP, abinI, abinS, aun, aconv, afield, afieldAddr, aindexAddr, aindex, aslice, alow, ahigh, abuild, abuildGo, cellsOf, splice, fieldTy, alen, apick, amax, amin, aload, headV, aparts, abuildSlice, elParts, abytesStr, astore, amake, aappend, aclear, anew, arith, aresults, aresList, ares, spec0, spec1, spec2, spec3, spec4, eqCells, eqCell, h1, h2, hr0]
  · have hr0 : r = decide (a.From < b.From) := by rw [← hr]; exact decide_eq_decide.2 (by unfold LtA; omega)
    simp [aev, gav, alook, litOf, litAV, mget, mhas, acopy, asrc, adst, cav, look, acallPure, abin, abinN, abinP, abinI, abinS, aun, aconv, afield, afieldAddr, aindexAddr, aindex, aslice, alow, ahigh, abuild, abuildGo, cellsOf, splice, fieldTy, alen, apick, amax, amin, aload, headV, aparts, abuildSlice, elParts, abytesStr, astore, amake, aappend, aclear, anew, arith, aresults, aresList, ares, spec0, spec1, spec2, spec3, spec4, eqCells, eqCell, h1, hr0]
theorem cmpI_neg {x y : Int} : cmpI x y < 0 ↔ x < y := by unfold cmpI; split <;> (try split) <;> omega
theorem cmpI_zero {x y : Int} : cmpI x y = 0 ↔ x = y := by unfold cmpI; split <;> (try split) <;> omega
theorem cmpA_lt {a b : Adj} : cmpA a b < 0 ↔ LtA a b := by
  unfold cmpA or3 LtA
  have h1 := @cmpI_zero a.From b.From
  have h2 := @cmpI_zero a.To b.To
  have h3 := @cmpI_neg a.From b.From
  have h4 := @cmpI_neg a.To b.To
  have h5 := @cmpI_neg a.Edge b.Edge
  split
  · rename_i h; rw [h3]; omega
  · split
    · rw [h4]; omega
    · rw [h5]; omega
theorem cmpA_zero {a b : Adj} : cmpA a b = 0 ↔ a = b := by
  unfold cmpA or3
  have h1 := @cmpI_zero a.From b.From
  have h2 := @cmpI_zero a.To b.To
  have h3 := @cmpI_zero a.Edge b.Edge
  rw [adj_eq]
  split
  · omega
  · split <;> omega
theorem lt_tri (a b : Adj) : LtA a b ∨ a = b ∨ LtA b a := by rw [adj_eq]; unfold LtA; omega
theorem lt_irr (a : Adj) : ¬ LtA a a := by unfold LtA; omega
theorem lt_trans {a b c : Adj} (h : LtA a b) (h' : LtA b c) : LtA a c := by unfold LtA at *; omega
theorem lt_asymm {a b : Adj} (h : LtA a b) : ¬ LtA b a := fun h' => lt_irr a (lt_trans h h')
theorem cmpA_gt {a b : Adj} : 0 < cmpA a b ↔ LtA b a := by
  rcases lt_tri a b with h | rfl | h
  · have := cmpA_lt.2 h
    exact ⟨fun h' => by omega, fun h' => absurd h (lt_asymm h')⟩
  · have := (cmpA_zero (a := a)).2 rfl
    exact ⟨fun h' => by omega, fun h' => absurd h' (lt_irr a)⟩
  · refine ⟨fun _ => h, fun _ => ?_⟩
    have h1 : ¬ cmpA a b < 0 := mt cmpA_lt.1 (lt_asymm h)
    have h2 : ¬ cmpA a b = 0 := fun e => by rw [cmpA_zero] at e; subst e; exact lt_irr a h
    omega
end Go.Proofs.Ytkhgjbjkjefeoaa


/-
  overlay: find, clones, few.
-/
namespace Go.Proofs.Ytkhgjbjkjefeoaa
open Go.RowKit
set_option linter.unusedSimpArgs false
set_option linter.unusedVariables false
set_option maxRecDepth 100000

def sFd1 : List AV → Option (Prop × AV)
  | [a, .iptr [.int .i64 v]] => some (nrmV a = Enc.enc (Enc.dec a : Adj), .bool (decide ((Enc.dec a : Adj).Edge = v)))
  | _ => none
@[simp] theorem sFd1_eq (a : AV) (v : Int) : sFd1 [a, .iptr [.int .i64 v]] = some (nrmV a = Enc.enc (Enc.dec a : Adj), .bool (decide ((Enc.dec a : Adj).Edge = v))) := rfl
theorem fd1P : PureOK Try.prog G0 59 sFd1 :=
  pure_of (C := CE) sigCE mixCE Try.func59 rfl rfl rfl (by kernel_rfl) fun avs ob r hp hob => by
    unfold sFd1 at hp
    split at hp
    · rename_i a v
      injection hp with hp; injection hp with e1 e2; subst e1 e2
      refine ⟨Nat.le_of_ble_eq_true rfl, ?_⟩
      generalize (Enc.dec a : Adj) = x at hob ⊢
      show avc CE _ 0 _ ⟨[(0, nrmV a), (1, .iptr [.int .i64 v])], []⟩ _
      rw [hob]
      simp [aev, gav, alook, litOf, litAV, mget, mhas, acopy, asrc, adst, cav, look, acallPure, abin, abinN, abinP, abinI, abinS, aun, aconv, afield, afieldAddr, aindexAddr, aindex, aslice, alow, ahigh, abuild, abuildGo, cellsOf, splice, fieldTy, alen, apick, amax, amin, aload, headV, aparts, abuildSlice, elParts, abytesStr, astore, amake, aappend, aclear, anew, arith, aresults, aresList, ares, spec0, spec1, spec2, spec3, spec4, eqCells, eqCell]
    · cases hp
noncomputable def CIf : Ctx := mkC Try.prog G0 [(59, .pure sFd1)]
@[simp] theorem CIf_P : CIf.P = Try.prog := rfl
@[simp] theorem CIf_G : CIf.G = G0 := rfl
@[simp] theorem CIf_1 : CIf.S 59 = .pure sFd1 := rfl
theorem mixCIf : CIf.P.follows .mixedOrders = true := mixed
theorem sigCIf : SigOK CIf := sigOK_cons (entryPure (fd1P) Try.func59 rfl (by decide)) (sigOK_nil _ _)
def idxE (l : List Adj) (v : Int) : Int := idxL (fun x => decide (x.Edge = v)) l
theorem idxE_pos {l : List Adj} {v : Int} : 0 ≤ idxE l v ↔ HasE l v := by
  unfold idxE HasE
  rw [idx_pos]
  simp
def sIdxF : List AV → Option (Prop × AV)
  | [a, .fn f [.iptr [.int .i64 v]]] => if f = 59 then some (nrmV a = Enc.enc (Enc.dec a : List Adj) ∧ Len (Enc.dec a : List Adj), .int .i64 (idxE (Enc.dec a) v)) else none
  | _ => none
@[simp] theorem sIdxF_eq (a : AV) (v : Int) : sIdxF [a, .fn 59 [.iptr [.int .i64 v]]] = some (nrmV a = Enc.enc (Enc.dec a : List Adj) ∧ Len (Enc.dec a : List Adj), .int .i64 (idxE (Enc.dec a) v)) := rfl
set_option maxHeartbeats 8000000 in
theorem idxFP : PureOK Try.prog G0 58 sIdxF :=
  pure_of (C := CIf) sigCIf mixCIf Try.func58 rfl rfl rfl (by kernel_rfl) fun avs ob r hp hob => by
    unfold sIdxF at hp
    split at hp
    · rename_i a f v
      split at hp
      · rename_i hf
        subst hf
        injection hp with hp; injection hp with e1 e2; subst e1 e2
        refine ⟨Nat.le_of_ble_eq_true rfl, ?_⟩
        obtain ⟨h1, hl⟩ := hob
        generalize (Enc.dec a : List Adj) = ls at h1 hl ⊢
        show avc CIf _ 0 _ ⟨[(0, nrmV a), (1, .fn 59 [.iptr [.int .i64 v]])], []⟩ _
        rw [h1]
        simp [aev, gav, alook, litOf, litAV, mget, mhas, acopy, asrc, adst, cav, look, acallPure, abin, abinN, abinP, abinI, abinS, aun, aconv, afield, afieldAddr, aindexAddr, aindex, aslice, alow, ahigh, abuild, abuildGo, cellsOf, splice, fieldTy, alen, apick, amax, amin, aload, headV, aparts, abuildSlice, elParts, abytesStr, astore, amake, aappend, aclear, anew, arith, aresults, aresList, ares, spec0, spec1, spec2, spec3, spec4, eqCells, eqCell]
        refine loop_rule (C := CIf) sigCIf mixCIf (fun i : Nat => ⟨[(0, Enc.enc ls), (1, .fn 59 [.iptr [.int .i64 v]]), (7, .int .i64 ls.length), (8, .int .i64 i)], []⟩) (fun i => i ≤ ls.length ∧ ∀ j, j < i → decide ((ix ls j).Edge = v) = false) (fun i => ls.length - i) (by kernel_rfl) ⟨0, ⟨by omega, fun j hj => by omega⟩, weak_slots (by simp)⟩ (fun i ⟨h3, h4⟩ => ?_)
        by_cases hi : i < ls.length
        · have i1 := (len_i hl h3).1
          by_cases e : (ix ls i).Edge = v
          · have hE : idxE ls v = i := idx_at (p := fun x : Adj => decide (x.Edge = v)) hi h4 (by simp [e])
            simp [aev, gav, alook, litOf, litAV, mget, mhas, acopy, asrc, adst, cav, look, acallPure, abin, abinN, abinP, abinI, abinS, aun, aconv, afield, afieldAddr, aindexAddr, aindex, aslice, alow, ahigh, abuild, abuildGo, cellsOf, splice, fieldTy, alen, apick, amax, amin, aload, headV, aparts, abuildSlice, elParts, abytesStr, astore, amake, aappend, aclear, anew, arith, aresults, aresList, ares, spec0, spec1, spec2, spec3, spec4, eqCells, eqCell, hi, rowAt_enc hi, e, hE]
          · simp [aev, gav, alook, litOf, litAV, mget, mhas, acopy, asrc, adst, cav, look, acallPure, abin, abinN, abinP, abinI, abinS, aun, aconv, afield, afieldAddr, aindexAddr, aindex, aslice, alow, ahigh, abuild, abuildGo, cellsOf, splice, fieldTy, alen, apick, amax, amin, aload, headV, aparts, abuildSlice, elParts, abytesStr, astore, amake, aappend, aclear, anew, arith, aresults, aresList, ares, spec0, spec1, spec2, spec3, spec4, eqCells, eqCell, hi, rowAt_enc hi, e, i1]
            exact ⟨i + 1, ⟨by omega, fun j hj => by
              rcases Nat.lt_or_eq_of_le (Nat.le_of_lt_succ hj) with h | rfl
              · simpa using h4 j h
              · exact e⟩, by omega, weak_slots (by simp)⟩
        · have hE : idxE ls v = -1 := idx_none (p := fun x : Adj => decide (x.Edge = v)) fun j hj => h4 j (by omega)
          simp [aev, gav, alook, litOf, litAV, mget, mhas, acopy, asrc, adst, cav, look, acallPure, abin, abinN, abinP, abinI, abinS, aun, aconv, afield, afieldAddr, aindexAddr, aindex, aslice, alow, ahigh, abuild, abuildGo, cellsOf, splice, fieldTy, alen, apick, amax, amin, aload, headV, aparts, abuildSlice, elParts, abytesStr, astore, amake, aappend, aclear, anew, arith, aresults, aresList, ares, spec0, spec1, spec2, spec3, spec4, eqCells, eqCell, hi, hE]
      · cases hp
    · cases hp
def sFind : List AV → Option (Prop × AV) := spec2 (fun (l : List Adj) (_ : Int) => Len l) (fun l v => .int .i64 (idxE l v))
noncomputable def CFi : Ctx := mkC Try.prog G0 [(58, .pure sIdxF)]
@[simp] theorem CFi_P : CFi.P = Try.prog := rfl
@[simp] theorem CFi_G : CFi.G = G0 := rfl
@[simp] theorem CFi_1 : CFi.S 58 = .pure sIdxF := rfl
theorem mixCFi : CFi.P.follows .mixedOrders = true := mixed
theorem sigCFi : SigOK CFi := sigOK_cons (entryPure (idxFP) Try.func58 rfl (by decide)) (sigOK_nil _ _)
theorem findP : PureOK Try.prog G0 31 sFind := by
  refine pureH2 (C := CFi) sigCFi mixCFi Try.func31 rfl rfl rfl [] (by kernel_rfl) (by decide) (fun l v hl => ?_)
  simp [aev, gav, alook, litOf, litAV, mget, mhas, acopy, asrc, adst, cav, look, acallPure, abin, abinN, abinP, abinI, abinS, aun, aconv, afield, afieldAddr, aindexAddr, aindex, aslice, alow, ahigh, abuild, abuildGo, cellsOf, splice, fieldTy, alen, apick, amax, amin, aload, headV, aparts, abuildSlice, elParts, abytesStr, astore, amake, aappend, aclear, anew, arith, aresults, aresList, ares, spec0, spec1, spec2, spec3, spec4, eqCells, eqCell, hl]
def bI (l : List Int) : Blk := ⟨3, 1, encRows l, true, true⟩
def bA (l : List Adj) : Blk := ⟨29, 3, encRows l, true, true⟩
@[simp] theorem okB_adj (m : Nat) (t : TypeId) (n : Nat) (x y : Bool) (l : List Adj) : okB m ⟨t, n, encRows l, x, y⟩ = true := by
  unfold okB encRows
  simp [AV.clean1]
@[simp] theorem ren_adj (s : Nat → Nat) (l : List Adj) : (encRows l).map (fun r => r.map (ren1 s)) = encRows l := by
  unfold encRows
  simp
def nCloneI : List AV → Option (Prop × AV × List Blk) := nspec1 (fun (l : List Int) => Len l) (fun l => .own 0 l.length) (fun l => [bI l])
def nCloneA : List AV → Option (Prop × AV × List Blk) := nspec1 (fun (l : List Adj) => Len l) (fun l => .own 0 l.length) (fun l => [bA l])
set_option maxHeartbeats 8000000 in
theorem cloneI : GenOK Try.prog G0 62 (genNew nCloneI) := by
  refine newH1 (C := CE) sigCE mixCE Try.func62 rfl rfl rfl [] (by kernel_rfl) (by decide) (fun _ => [0]) (fun _ => by decide) (fun l => ⟨rfl, by simp [bI]⟩) (fun l hl => ?_)
  unfold Len at hl
  by_cases hz : l.length = 0
  · have hA : l = [] := List.length_eq_zero_iff.1 hz
    subst hA
    simp [aev, gav, alook, litOf, litAV, mget, mhas, acopy, asrc, adst, cav, look, acallPure, abin, abinN, abinP, abinI, abinS, aun, aconv, afield, afieldAddr, aindexAddr, aindex, aslice, alow, ahigh, abuild, abuildGo, cellsOf, splice, fieldTy, alen, apick, amax, amin, aload, headV, aparts, abuildSlice, elParts, abytesStr, astore, amake, aappend, aclear, anew, arith, aresults, aresList, ares, spec0, spec1, spec2, spec3, spec4, eqCells, eqCell]
    refine ⟨wEnd_nil 2 1 3 rfl (by decide) ?_, wEnd_here ?_⟩ <;> simp [aev, gav, alook, litOf, litAV, mget, mhas, acopy, asrc, adst, cav, look, acallPure, abin, abinN, abinP, abinI, abinS, aun, aconv, afield, afieldAddr, aindexAddr, aindex, aslice, alow, ahigh, abuild, abuildGo, cellsOf, splice, fieldTy, alen, apick, amax, amin, aload, headV, aparts, abuildSlice, elParts, abytesStr, astore, amake, aappend, aclear, anew, arith, aresults, aresList, ares, spec0, spec1, spec2, spec3, spec4, eqCells, eqCell, bI]
  · have hz' : 0 < l.length := by omega
    simp [aev, gav, alook, litOf, litAV, mget, mhas, acopy, asrc, adst, cav, look, acallPure, abin, abinN, abinP, abinI, abinS, aun, aconv, afield, afieldAddr, aindexAddr, aindex, aslice, alow, ahigh, abuild, abuildGo, cellsOf, splice, fieldTy, alen, apick, amax, amin, aload, headV, aparts, abuildSlice, elParts, abytesStr, astore, amake, aappend, aclear, anew, arith, aresults, aresList, ares, spec0, spec1, spec2, spec3, spec4, eqCells, eqCell, hz, hz']
    refine ⟨by omega, wEnd_here ?_⟩
    simp [aev, gav, alook, litOf, litAV, mget, mhas, acopy, asrc, adst, cav, look, acallPure, abin, abinN, abinP, abinI, abinS, aun, aconv, afield, afieldAddr, aindexAddr, aindex, aslice, alow, ahigh, abuild, abuildGo, cellsOf, splice, fieldTy, alen, apick, amax, amin, aload, headV, aparts, abuildSlice, elParts, abytesStr, astore, amake, aappend, aclear, anew, arith, aresults, aresList, ares, spec0, spec1, spec2, spec3, spec4, eqCells, eqCell, bI]
set_option maxHeartbeats 8000000 in
theorem cloneA : GenOK Try.prog G0 63 (genNew nCloneA) := by
  refine newH1 (C := CE) sigCE mixCE Try.func63 rfl rfl rfl [] (by kernel_rfl) (by decide) (fun _ => [0]) (fun _ => by decide) (fun l => ⟨rfl, by simp [bA]⟩) (fun l hl => ?_)
  unfold Len at hl
  by_cases hz : l.length = 0
  · have hA : l = [] := List.length_eq_zero_iff.1 hz
    subst hA
    simp [aev, gav, alook, litOf, litAV, mget, mhas, acopy, asrc, adst, cav, look, acallPure, abin, abinN, abinP, abinI, abinS, aun, aconv, afield, afieldAddr, aindexAddr, aindex, aslice, alow, ahigh, abuild, abuildGo, cellsOf, splice, fieldTy, alen, apick, amax, amin, aload, headV, aparts, abuildSlice, elParts, abytesStr, astore, amake, aappend, aclear, anew, arith, aresults, aresList, ares, spec0, spec1, spec2, spec3, spec4, eqCells, eqCell]
    refine ⟨wEnd_nil 2 3 29 rfl (by decide) ?_, wEnd_here ?_⟩ <;> simp [aev, gav, alook, litOf, litAV, mget, mhas, acopy, asrc, adst, cav, look, acallPure, abin, abinN, abinP, abinI, abinS, aun, aconv, afield, afieldAddr, aindexAddr, aindex, aslice, alow, ahigh, abuild, abuildGo, cellsOf, splice, fieldTy, alen, apick, amax, amin, aload, headV, aparts, abuildSlice, elParts, abytesStr, astore, amake, aappend, aclear, anew, arith, aresults, aresList, ares, spec0, spec1, spec2, spec3, spec4, eqCells, eqCell, bA]
  · have hz' : 0 < l.length := by omega
    simp [aev, gav, alook, litOf, litAV, mget, mhas, acopy, asrc, adst, cav, look, acallPure, abin, abinN, abinP, abinI, abinS, aun, aconv, afield, afieldAddr, aindexAddr, aindex, aslice, alow, ahigh, abuild, abuildGo, cellsOf, splice, fieldTy, alen, apick, amax, amin, aload, headV, aparts, abuildSlice, elParts, abytesStr, astore, amake, aappend, aclear, anew, arith, aresults, aresList, ares, spec0, spec1, spec2, spec3, spec4, eqCells, eqCell, hz, hz']
    refine ⟨by omega, wEnd_here ?_⟩
    simp [aev, gav, alook, litOf, litAV, mget, mhas, acopy, asrc, adst, cav, look, acallPure, abin, abinN, abinP, abinI, abinS, aun, aconv, afield, afieldAddr, aindexAddr, aindex, aslice, alow, ahigh, abuild, abuildGo, cellsOf, splice, fieldTy, alen, apick, amax, amin, aload, headV, aparts, abuildSlice, elParts, abytesStr, astore, amake, aappend, aclear, anew, arith, aresults, aresList, ares, spec0, spec1, spec2, spec3, spec4, eqCells, eqCell, bA]
end Go.Proofs.Ytkhgjbjkjefeoaa


/-
  overlay: clone, few.
-/
namespace Go.Proofs.Ytkhgjbjkjefeoaa
open Go.RowKit
set_option linter.unusedSimpArgs false
set_option linter.unusedVariables false
set_option maxRecDepth 100000

def cloV (o : Ov) : AV := .agg [.own 0 o.Base.Nodes.length, .own 1 o.Base.First.length, .own 2 o.Base.To.length, .own 3 o.Base.Edge.length, .own 4 o.Adds.length, .own 5 o.Dels.length]
def cloB (o : Ov) : List Blk := [bI o.Base.Nodes, bI o.Base.First, bI o.Base.To, bI o.Base.Edge, bA o.Adds, bI o.Dels]
def nCloneO : List AV → Option (Prop × AV × List Blk) := nspec1 LenO cloV cloB
noncomputable def CCl : Ctx := mkC Try.prog G0 [(62, .gen (genNew nCloneI)), (63, .gen (genNew nCloneA))]
@[simp] theorem CCl_P : CCl.P = Try.prog := rfl
@[simp] theorem CCl_G : CCl.G = G0 := rfl
@[simp] theorem CCl_1 : CCl.S 62 = .gen (genNew nCloneI) := rfl
@[simp] theorem CCl_2 : CCl.S 63 = .gen (genNew nCloneA) := rfl
theorem mixCCl : CCl.P.follows .mixedOrders = true := mixed
theorem sigCCl : SigOK CCl := sigOK_cons (entryGen (cloneI) Try.func62 rfl (by decide)) (sigOK_cons (entryGen (cloneA) Try.func63 rfl (by decide)) (sigOK_nil _ _))
set_option maxHeartbeats 8000000 in
theorem cloneO : GenOK Try.prog G0 33 (genNew nCloneO) := by
  refine newH1 (C := CCl) sigCCl mixCCl Try.func33 rfl rfl rfl [2, 3] (by kernel_rfl) (by decide) (fun _ => [3, 4, 5, 6, 7, 8]) (fun _ => by decide) (fun o => ⟨rfl, by simp [cloB, bI, bA]⟩) (fun o ⟨⟨h1, h2, h3, h4⟩, h5, h6⟩ => ?_)
  simp [aev, gav, alook, litOf, litAV, mget, mhas, acopy, asrc, adst, cav, look, acallPure, abin, abinN, abinP, abinI, abinS, aun, aconv, afield, afieldAddr, aindexAddr, aindex, aslice, alow, ahigh, abuild, abuildGo, cellsOf, splice, fieldTy, alen, apick, amax, amin, aload, headV, aparts, abuildSlice, elParts, abytesStr, astore, amake, aappend, aclear, anew, arith, aresults, aresList, ares, spec0, spec1, spec2, spec3, spec4, eqCells, eqCell]
  refine AW_regionF sigCCl mixCCl [.pure, .read, .eff, .pure, .read, .eff, .pure, .read, .eff, .pure, .read, .eff, .pure, .eff] [[],[0],[0,1],[],[3],[1,0,2,3,4],[],[6],[4,3,2,0,1,5,6,7],[],[9],[7,6,5,1,0,2,3,4,8,9,10],[10,9,11,7,6,8,4,3,5,1,0,2],[2,0,1,5,3,4,8,6,7,11,9,10,12]] (by kernel_rfl) (by kernel_rfl) (by kernel_rfl) (by kernel_rfl) ?_
  simp [aev, gav, alook, litOf, litAV, mget, mhas, acopy, asrc, adst, cav, look, acallPure, abin, abinN, abinP, abinI, abinS, aun, aconv, afield, afieldAddr, aindexAddr, aindex, aslice, alow, ahigh, abuild, abuildGo, cellsOf, splice, fieldTy, alen, apick, amax, amin, aload, headV, aparts, abuildSlice, elParts, abytesStr, astore, amake, aappend, aclear, anew, arith, aresults, aresList, ares, spec0, spec1, spec2, spec3, spec4, eqCells, eqCell, nCloneI, h1, h2, h3, h4, bI]
  refine AW_regionF sigCCl mixCCl [.read, .pure, .read, .eff, .pure, .read, .eff, .pure, .eff] [[],[],[1],[1,2],[],[4],[2,1,3,4,5],[5,4,6,2,1,3,0],[0,3,1,2,6,4,5,7]] (by kernel_rfl) (by kernel_rfl) (by kernel_rfl) (by kernel_rfl) ?_
  simp [aev, gav, alook, litOf, litAV, mget, mhas, acopy, asrc, adst, cav, look, acallPure, abin, abinN, abinP, abinI, abinS, aun, aconv, afield, afieldAddr, aindexAddr, aindex, aslice, alow, ahigh, abuild, abuildGo, cellsOf, splice, fieldTy, alen, apick, amax, amin, aload, headV, aparts, abuildSlice, elParts, abytesStr, astore, amake, aappend, aclear, anew, arith, aresults, aresList, ares, spec0, spec1, spec2, spec3, spec4, eqCells, eqCell, nCloneI, nCloneA, h5, h6, bI, bA]
  refine wEnd_here ?_
  simp [aev, gav, alook, litOf, litAV, mget, mhas, acopy, asrc, adst, cav, look, acallPure, abin, abinN, abinP, abinI, abinS, aun, aconv, afield, afieldAddr, aindexAddr, aindex, aslice, alow, ahigh, abuild, abuildGo, cellsOf, splice, fieldTy, alen, apick, amax, amin, aload, headV, aparts, abuildSlice, elParts, abytesStr, astore, amake, aappend, aclear, anew, arith, aresults, aresList, ares, spec0, spec1, spec2, spec3, spec4, eqCells, eqCell, cloV, cloB, bI, bA]
def FewO (o : Ov) : Prop := o.Base.Nodes.length ≤ 100 ∧ o.Base.First.length ≤ 101 ∧ o.Base.To.length ≤ 100 ∧ o.Base.Edge.length ≤ 100 ∧ o.Adds.length ≤ 60 ∧ o.Dels.length ≤ 60
instance (o : Ov) : Decidable (FewO o) := inferInstanceAs (Decidable (_ ∧ _))
theorem few_len {o : Ov} (h : FewO o) : LenO o := by
  obtain ⟨h1, h2, h3, h4, h5, h6⟩ := h
  refine ⟨⟨?_, ?_, ?_, ?_⟩, ?_, ?_⟩ <;> unfold Len <;> omega
def sFew : List AV → Option (Prop × AV) := spec1 (fun (_ : Ov) => True) (fun o => .bool (decide (FewO o)))
set_option maxHeartbeats 4000000 in
theorem fewP : PureOK Try.prog G0 8 sFew := by
  refine pure1 (C := CE) sigCE mixCE Try.func8 rfl rfl rfl (by kernel_rfl) (by decide) (fun o _ => ?_)
  obtain ⟨r, hr⟩ : ∃ r, decide (FewO o) = r := ⟨_, rfl⟩
  rw [hr]
  have no : ¬ FewO o → r = false := fun h => by rw [← hr]; exact decide_eq_false h
  by_cases h1 : o.Base.Nodes.length ≤ 100
  case neg =>
    have h1' : ¬ (o.Base.Nodes.length : Int) ≤ 100 := by omega
    have hr0 := no fun h => h1 h.1
    simp [aev, gav, alook, litOf, litAV, mget, mhas, acopy, asrc, adst, cav, look, acallPure, abin, abinN, abinP, abinI, abinS, aun, aconv, afield, afieldAddr, aindexAddr, aindex, aslice, alow, ahigh, abuild, abuildGo, cellsOf, splice, fieldTy, alen, apick, amax, amin, aload, headV, aparts, abuildSlice, elParts, abytesStr, astore, amake, aappend, aclear, anew, arith, aresults, aresList, ares, spec0, spec1, spec2, spec3, spec4, eqCells, eqCell, h1', hr0]
  have h1' : (o.Base.Nodes.length : Int) ≤ 100 := by omega
  by_cases h2 : o.Base.First.length ≤ 101
  case neg =>
    have h2' : ¬ (o.Base.First.length : Int) ≤ 101 := by omega
    have hr0 := no fun h => h2 h.2.1
    simp [aev, gav, alook, litOf, litAV, mget, mhas, acopy, asrc, adst, cav, look, acallPure, abin, abinN, abinP, abinI, abinS, aun, aconv, afield, afieldAddr, aindexAddr, aindex, aslice, alow, ahigh, abuild, abuildGo, cellsOf, splice, fieldTy, alen, apick, amax, amin, aload, headV, aparts, abuildSlice, elParts, abytesStr, astore, amake, aappend, aclear, anew, arith, aresults, aresList, ares, spec0, spec1, spec2, spec3, spec4, eqCells, eqCell, h1', h2', hr0]
  have h2' : (o.Base.First.length : Int) ≤ 101 := by omega
  by_cases h3 : o.Base.To.length ≤ 100
  case neg =>
    have h3' : ¬ (o.Base.To.length : Int) ≤ 100 := by omega
    have hr0 := no fun h => h3 h.2.2.1
    simp [aev, gav, alook, litOf, litAV, mget, mhas, acopy, asrc, adst, cav, look, acallPure, abin, abinN, abinP, abinI, abinS, aun, aconv, afield, afieldAddr, aindexAddr, aindex, aslice, alow, ahigh, abuild, abuildGo, cellsOf, splice, fieldTy, alen, apick, amax, amin, aload, headV, aparts, abuildSlice, elParts, abytesStr, astore, amake, aappend, aclear, anew, arith, aresults, aresList, ares, spec0, spec1, spec2, spec3, spec4, eqCells, eqCell, h1', h2', h3', hr0]
  have h3' : (o.Base.To.length : Int) ≤ 100 := by omega
  by_cases h4 : o.Base.Edge.length ≤ 100
  case neg =>
    have h4' : ¬ (o.Base.Edge.length : Int) ≤ 100 := by omega
    have hr0 := no fun h => h4 h.2.2.2.1
    simp [aev, gav, alook, litOf, litAV, mget, mhas, acopy, asrc, adst, cav, look, acallPure, abin, abinN, abinP, abinI, abinS, aun, aconv, afield, afieldAddr, aindexAddr, aindex, aslice, alow, ahigh, abuild, abuildGo, cellsOf, splice, fieldTy, alen, apick, amax, amin, aload, headV, aparts, abuildSlice, elParts, abytesStr, astore, amake, aappend, aclear, anew, arith, aresults, aresList, ares, spec0, spec1, spec2, spec3, spec4, eqCells, eqCell, h1', h2', h3', h4', hr0]
  have h4' : (o.Base.Edge.length : Int) ≤ 100 := by omega
  by_cases h5 : o.Adds.length ≤ 60
  case neg =>
    have h5' : ¬ (o.Adds.length : Int) ≤ 60 := by omega
    have hr0 := no fun h => h5 h.2.2.2.2.1
    simp [aev, gav, alook, litOf, litAV, mget, mhas, acopy, asrc, adst, cav, look, acallPure, abin, abinN, abinP, abinI, abinS, aun, aconv, afield, afieldAddr, aindexAddr, aindex, aslice, alow, ahigh, abuild, abuildGo, cellsOf, splice, fieldTy, alen, apick, amax, amin, aload, headV, aparts, abuildSlice, elParts, abytesStr, astore, amake, aappend, aclear, anew, arith, aresults, aresList, ares, spec0, spec1, spec2, spec3, spec4, eqCells, eqCell, h1', h2', h3', h4', h5', hr0]
  have h5' : (o.Adds.length : Int) ≤ 60 := by omega
  have hr1 : r = decide ((o.Dels.length : Int) ≤ 60) := by rw [← hr]; exact decide_eq_decide.2 ⟨fun h => by have := h.2.2.2.2.2; omega, fun h => ⟨h1, h2, h3, h4, h5, by omega⟩⟩
  simp [aev, gav, alook, litOf, litAV, mget, mhas, acopy, asrc, adst, cav, look, acallPure, abin, abinN, abinP, abinI, abinS, aun, aconv, afield, afieldAddr, aindexAddr, aindex, aslice, alow, ahigh, abuild, abuildGo, cellsOf, splice, fieldTy, alen, apick, amax, amin, aload, headV, aparts, abuildSlice, elParts, abytesStr, astore, amake, aappend, aclear, anew, arith, aresults, aresList, ares, spec0, spec1, spec2, spec3, spec4, eqCells, eqCell, h1', h2', h3', h4', h5', hr1]
end Go.Proofs.Ytkhgjbjkjefeoaa


/-
  overlay: the closure of slices.Values at entries: its loop (after the kit's worked proofs of a range over a function).
-/
namespace Go.Proofs.Ytkhgjbjkjefeoaa
open Go.RowKit Go.Shelf Go.Proofs

attribute [local go_sem] Oper.semAt_some

set_option maxRecDepth 100000 in
set_option maxHeartbeats 2000000 in
theorem vals_in (F : Fence) (n : Nat) (h7 : F.fn 91) (hro : F.round = none) (hn : 1 ≤ n) (l Bs bo b off len cap : Nat) (hlen : len ≤ 1000000) (J : Nat → World → Prop) (l0 : List Adj)
    (hJa : ∀ k W o, J k W → J k (W.alloc o))
    (hC : ∀ k W, J k W → k < len → W.cell? ⟨b, off + k * 3, none⟩ = some (.int .i64 (ix l0 k).From) ∧ W.cell? ⟨b, off + k * 3 + 1, none⟩ = some (.int .i64 (ix l0 k).To) ∧ W.cell? ⟨b, off + k * 3 + 2, none⟩ = some (.int .i64 (ix l0 k).Edge))
    (hY : ∀ k W, J k W → k < len → YieldAt F (n - 1) Try.prog l #[.agg #[.int .i64 (ix l0 k).From, .int .i64 (ix l0 k).To, .int .i64 (ix l0 k).Edge]] W fun e W' => e = .returned (.bool true) ∧ J (k + 1) W')
    (W : World) (hB : W.cell? ⟨Bs, bo, none⟩ = some (.slice (some ⟨b, off, none⟩) len cap)) (h0 : J 0 W) :
    CallsIn F n Try.prog 91 #[.func (.yield l) #[] #[], .pointer (some ⟨Bs, bo, none⟩)] W fun e W' => (∃ v, e = .returned v) ∧ J len W' := by
  refine callsIn_of_wp Try.func91 rfl h7 ?_ hro
  simp only [Try.ntmps91, List.size_toArray, List.length_cons, List.length_nil, Nat.reduceAdd, Nat.reduceSub, Array.replicate_succ, Array.replicate_zero, List.push_toArray, List.append_toArray, List.nil_append, List.cons_append]
  gi_wp2
  gi_loopw [7] (fun i wr => ∃ k : Nat, k ≤ len ∧ i = .int .i64 k ∧ J k wr)
    (fun i _ => len - (intOf i).toNat)
  case atStart => exact ⟨0, Nat.zero_le _, rfl, h0⟩
  case round =>
    obtain ⟨k, hk, rfl, hJs⟩ := hrel
    by_cases hlt : k < len
    · obtain ⟨c0, c1, c2⟩ := hC k wr hJs hlt
      have hJ2 : J k (wr.alloc (.cells #[.int .i64 (ix l0 k).From, .int .i64 (ix l0 k).To, .int .i64 (ix l0 k).Edge] 29)) := hJa _ _ _ hJs
      obtain ⟨fn, tmps, assign, body, hy, hR⟩ := hY k _ hJ2 hlt
      generalize ix l0 k = x at c0 c1 c2 hy hR hJ2
      gi_wp2
      refine hR.mono ?_
      rintro e W3 ⟨rfl, hJ3⟩
      gi_wp2
      go_roundw
      case rel => exact ⟨k + 1, by omega, by simp, hJ3⟩
      case measure => simp [intOf]; omega
    · obtain rfl : k = len := by omega
      gi_wp2
      go_end0
      exact ⟨⟨_, rfl⟩, hJs⟩
set_option maxRecDepth 100000 in
set_option maxHeartbeats 1000000 in
theorem vals_nil_in (F : Fence) (n : Nat) (h7 : F.fn 91) (hro : F.round = none) (l Bs bo : Nat) (J : World → Prop) (a : Option Addr) (cap : Nat) (W : World) (hBs : W.cell? ⟨Bs, bo, none⟩ = some (.slice a 0 cap)) (h0 : J W) :
    CallsIn F n Try.prog 91 #[.func (.yield l) #[] #[], .pointer (some ⟨Bs, bo, none⟩)] W fun e W' => (∃ v, e = .returned v) ∧ J W' := by
  refine callsIn_of_wp Try.func91 rfl h7 ?_ hro
  simp only [Try.ntmps91, List.size_toArray, List.length_cons, List.length_nil, Nat.reduceAdd, Nat.reduceSub, Array.replicate_succ, Array.replicate_zero, List.push_toArray, List.append_toArray, List.nil_append, List.cons_append]
  gi_wp2
  gi_loopw [7] (fun i wr => i = .int .i64 0 ∧ J wr) (fun _ _ => 0)
  case atStart => exact ⟨rfl, h0⟩
  case round =>
    obtain ⟨rfl, hJs⟩ := hrel
    gi_wp2
    go_end0
    exact ⟨⟨_, rfl⟩, hJs⟩

section
variable {C : Ctx} {N : Nat} {X : Nat → Prop} {w0 : World} {β0 : List BI} {H0 : List Blk}
theorem rel_put64 {st : ASt} {a : Go.Act} {w : World} (h : Rel C N X w0 β0 H0 st a w) {d : Tmp} (hd : d < N) {v : Value} {av : AV} (hv : ∀ β, HRel w X β st.H → StepR w0 β0 H0 w β st.H → Rep w (Mu X β st.H) β st.H v av) : Rel C N X w0 β0 H0 ⟨putA st.ρ (some d) av, st.H⟩ (a.put (some d) v) w := by
  obtain ⟨β, R, S, T, G, hN, hdef⟩ := h
  exact rel_put S T G hN hdef R (StepR.refl _ _ _ R.len) (hv β R S) (some d) (fun d' e => by cases e; exact hd)
theorem rel_loop {w w1 : World} {ex : ASt} {a' : Go.Act} {β : List BI} {H : List Blk} {o : Obj} {L : Nat} (hL : w1.heap[L]? = some o) (ho : isOdd o = true) (R : HRel w1 X β H) (h' : Rel C N X w1 β H ex a' w) : w.heap[L]? = some o := by
  obtain ⟨β', R', S', _⟩ := h'
  have hlt : L < w1.heap.size := (Array.getElem?_eq_some_iff.1 hL).1
  rw [S'.keeps.block L hlt fun ⟨l, c, blk, k1, k2, k3⟩ => ?_, hL]
  obtain ⟨cur, q1, _⟩ := R.blk l _ _ k1 k2
  rw [hL] at q1
  cases q1
  cases ho
end
end Go.Proofs.Ytkhgjbjkjefeoaa


/-
  overlay: 'for v := range seq' over slices.Values of entries, as a rule.
-/
namespace Go.Proofs.Ytkhgjbjkjefeoaa
open Go.RowKit Go.Shelf Go.Proofs
set_option linter.unusedVariables false

theorem cell_int {w : World} {X : Nat → Prop} {v : Value} {n : Int} (h : RepD w X v (.int .i64 n)) : v = .int .i64 n := by cases h; rfl
set_option maxHeartbeats 4000000 in
theorem range_vals {C : Ctx} (hP : C.P = Try.prog) {N : Nat} {fn : Func} {X : Nat → Prop} {w0 : World} {Fin : ASt → Prop} {Post : Ending → World → Prop} (hF : FinOK C N fn X w0 Fin Post) (hS : SigOK C) {bid : Nat} {g p1 : Tmp} {assign body tail : Code} {st : ASt} {vs : List Adj} (hg : getA st.ρ g = .fn 91 [.iptr [.slice 3 false (encRows vs)]]) (hl : vs.length ≤ 1000000)
    (hp1 : p1 < N) (oka : codeR N assign = true) (okb : codeR N body = true) (okt : codeR N tail = true) (Hf : Nat → List Blk) (hH0 : Hf 0 = st.H)
    (hround : ∀ k, k < vs.length → avcH C [] N 0 assign ⟨putA st.ρ (some p1) (Enc.enc (ix vs k)), Hf k⟩ fun ex st1 => ex = .normal ∧ avcH C [] N 0 body st1 fun ex2 st2 => ex2 = .normal ∧ Weak C N st.H.length ⟨st.ρ, st2.H⟩ ⟨st.ρ, Hf (k + 1)⟩)
    (htail : avcH C [] N 0 tail ⟨st.ρ, Hf vs.length⟩ (finG Fin)) :
    AWGb C N fn X w0 Post (.block bid (.rangeFunc (.tmp g) #[p1] assign body)) tail st := fun a w hr => by
  obtain ⟨P0, Sg, Gv⟩ := C
  simp only at hP
  subst hP
  obtain ⟨β, R, S1, T, G, hN, hdef⟩ := hr
  have hbase : Rel ⟨Try.prog, Sg, Gv⟩ N X w β st.H ⟨st.ρ, Hf 0⟩ a w := by rw [hH0]; exact ⟨β, R, StepR.refl _ _ _ R.len, T, G, hN, hdef⟩
  have T0 := T g
  rw [hg] at T0
  obtain ⟨Bs, bo, sv, hfv, hBs, hBm, hBc, hsv⟩ : ∃ Bs bo sv, a.tmps.getD g undef = .func (.func 91) #[] #[.pointer (some ⟨Bs, bo, none⟩)] ∧ Bs < w.heap.size ∧ ¬ Mu X β st.H Bs ∧ w.cell? ⟨Bs, bo, none⟩ = some sv ∧ RepD w (Mu X β st.H) sv (.slice 3 false (encRows vs)) := by
    generalize a.tmps.getD g undef = fv at T0
    have key : ∀ cs : Array Value, cs.size = 1 → (∀ q, cs[0]? = some q → RepD w (Mu X β st.H) q (.iptr [.slice 3 false (encRows vs)])) → ∃ Bs bo sv, Value.func (.func 91) #[] cs = .func (.func 91) #[] #[.pointer (some ⟨Bs, bo, none⟩)] ∧ Bs < w.heap.size ∧ ¬ Mu X β st.H Bs ∧ w.cell? ⟨Bs, bo, none⟩ = some sv ∧ RepD w (Mu X β st.H) sv (.slice 3 false (encRows vs)) := by
      intro cs hcs hq
      obtain ⟨q, rfl⟩ : ∃ q, cs = #[q] := by
        refine ⟨cs[0]'(by omega), ?_⟩
        apply Array.ext (by simpa using hcs)
        intro i h1 h2
        have : i = 0 := by omega
        subst this
        rfl
      have hq := hq q rfl
      cases hq with
      | iptr c o cells val hlt hx hm hv =>
        obtain ⟨m1, m2⟩ := hm 0 (by simp)
        exact ⟨c, o, _, rfl, hlt, hx, m1, hv 0 _ rfl⟩
    cases T0 with
    | deep h =>
      cases h with
      | fn f cs cells val hl hm hv =>
        refine key cs hl fun q hq => ?_
        rw [hm 0 (by simp)] at hq
        cases hq
        exact hv 0 _ rfl
    | fn f cs cells val hl hm hv =>
      refine key cs hl fun q hq => ?_
      rw [hm 0 (by simp)] at hq
      injection hq with hq
      have := hv 0 _ rfl
      rw [hq] at this
      exact rep_iptr this
  obtain ⟨a0, cap, val, rfl, k1, k2, k3, k4, k5, k6⟩ := repD_slice hsv
  rw [encRows_length] at k1 k5 hBc
  refine wpIn_block (wpIn_rangeFunc ?_)
  intro fid hfn
  obtain ⟨rec, hrec⟩ : ∃ rec : LoopState → Loop, rec = fun st => { state := st, pending := none, fn := fid, tmps := a.tmps, params := #[p1], assign, body, defers := w.heap.size } := ⟨_, rfl⟩
  obtain ⟨W1, hW1⟩ : ∃ W1, (w.alloc (.deferred (some []))).alloc (.loop (rec .ready)) = W1 := ⟨_, rfl⟩
  obtain ⟨J, hJ⟩ : ∃ J : Nat → World → Prop, J = fun k W => Rel ⟨Try.prog, Sg, Gv⟩ N X w β st.H ⟨st.ρ, Hf k⟩ a W ∧ W.heap[w.heap.size + 1]? = some (.loop (rec .ready)) ∧ W.heap[w.heap.size]? = some (.deferred (some [])) := ⟨_, rfl⟩
  have hJ0 : J 0 W1 := by
    rw [hJ, ← hW1]
    refine ⟨(hbase.alloc _).alloc _, ?_, ?_⟩
    · have := World.alloc_heap_new (w.alloc (.deferred (some []))) (.loop (rec .ready)); rwa [World.size_alloc] at this
    · exact (Below.heap_alloc _ _ _ (by simp)).trans (World.alloc_heap_new w _)
  have hJa : ∀ k W o, J k W → J k (W.alloc o) := fun k W o h => by
    rw [hJ] at h ⊢
    obtain ⟨h1, h2, h3⟩ := h
    exact ⟨h1.alloc o, (Below.heap_alloc _ _ _ (Array.getElem?_eq_some_iff.1 h2).1).trans h2, (Below.heap_alloc _ _ _ (Array.getElem?_eq_some_iff.1 h3).1).trans h3⟩
  have hkeep : ∀ k W, J k W → ∀ c, c < w.heap.size → ¬ Mu X β st.H c → W.heap[c]? = w.heap[c]? := fun k W h c hc hm => by
    rw [hJ] at h
    obtain ⟨⟨β', R', S', _⟩, _⟩ := h
    exact S'.keeps.block c hc fun h => hm (.inr h)
  have hend : ∀ W2, J vs.length W2 → ∃ p W3, (Instr.endLoop (w.heap.size + 1)).run Try.prog W2 = .ok p W3 ∧ p = none ∧ tail.wpIn Fence.wide 9 Try.prog (PG ⟨Try.prog, Sg, Gv⟩ fn Post) { a with defers := [{ target := .collected w.heap.size, args := #[] }] ++ a.defers } W3 := by
    intro W2 h
    rw [hJ] at h
    obtain ⟨h2, hl2, hd2⟩ := h
    have hr2 := run_endLoop (P := Try.prog) hl2 (by rw [hrec]; simp)
    rw [hrec] at hr2
    refine ⟨none, _, hr2, rfl, ?_⟩
    have h3 := h2.odd (o := .loop { rec .ready with state := .exhausted }) hl2 rfl (Nat.le_succ _)
    have hd3 := (World.putObj_heap_other (o := .loop { rec .ready with state := .exhausted }) (show w.heap.size ≠ w.heap.size + 1 by omega)).trans hd2
    rw [hrec] at h3 hd3
    have h4 := h3.there S1
    obtain ⟨β6, R6, S6, T6, G6, hN6, hdef6⟩ := h4
    have h5 : Rel ⟨Try.prog, Sg, Gv⟩ N X _ β6 (Hf vs.length) ⟨st.ρ, Hf vs.length⟩ a _ := ⟨β6, R6, StepR.refl _ _ _ R6.len, T6, G6, hN6, hdef6⟩
    have ht := inR_sound hS (ro := none) (n := 9) (ds := [{ target := .collected w.heap.size, args := #[] }]) tail okt htail h5
    have ea : withD a [{ target := .collected w.heap.size, args := #[] }] = { a with defers := [{ target := .collected w.heap.size, args := #[] }] ++ a.defers } := by
      unfold withD
      rw [hdef]; rfl
    rw [ea] at ht
    refine wpIn_mono ht ?_
    rintro e a' w' ⟨a'', ⟨st', hq, hr'⟩, rfl⟩
    exact pg_mark hF (rel_loop hd3 rfl R6 hr') S1.keeps.size hq (hr'.there S6)
  refine ⟨w.heap.size + 1, [{ target := .collected w.heap.size, args := #[] }], W1, { target := .fn (.func 91) #[.pointer (some ⟨Bs, bo, none⟩)], args := #[.func (.yield (w.heap.size + 1)) #[] #[]] }, W1, 91,
    #[.func (.yield (w.heap.size + 1)) #[] #[]] ++ #[.pointer (some ⟨Bs, bo, none⟩)], W1, ?_, ?_, fun _ _ => trivial, ?_, fun _ => by omega, ?_⟩
  · rw [← hW1, hrec]; exact run_enterLoop_outer _ _ _ _ _
  · have he : a.eval (.tmp g) = .func (.func 91) #[] #[.pointer (some ⟨Bs, bo, none⟩)] := hfv
    simp only [resolve, he]
    simp [go_sem]
  · simp [invoke, go_sem]
  · have hcB : W1.cell? ⟨Bs, bo, none⟩ = some (.slice a0 vs.length cap) := by
      rw [← hBc]
      exact World.cell?_of_block (hkeep 0 W1 hJ0 Bs hBs hBm)
    by_cases h1 : vs.length = 0
    · rw [h1] at hcB hend
      refine (vals_nil_in Fence.wide 8 trivial rfl (w.heap.size + 1) Bs bo (J 0) a0 cap W1 hcB hJ0).mono ?_
      rintro e W2 ⟨⟨v, rfl⟩, h⟩
      obtain ⟨p, W3, hr, rfl, ht⟩ := hend W2 h
      exact ⟨none, W3, hr, ht⟩
    obtain ⟨b, off, rfl, hb, hbm, hbc⟩ := k5 h1
    have hY := vals_in Fence.wide 8 trivial rfl (by omega) (w.heap.size + 1) Bs bo b off vs.length cap hl J vs hJa (fun k W h hk => ?_) (fun k W h hk => ?_) W1 hcB hJ0
    · refine hY.mono ?_
      rintro e W2 ⟨⟨v, rfl⟩, h⟩
      obtain ⟨p, W3, hr, rfl, ht⟩ := hend W2 h
      exact ⟨none, W3, hr, ht⟩
    · have hrow : (encRows vs)[k]? = some (Enc.cells (ix vs k)) := by unfold encRows; rw [List.getElem?_map, List.getElem?_eq_getElem hk, ix_lt hk]; rfl
      have e0 := cell_int (k6 k 0 _ _ hrow (by simp; rfl))
      have e1 := cell_int (k6 k 1 _ _ hrow (by simp; rfl))
      have e2 := cell_int (k6 k 2 _ _ hrow (by simp; rfl))
      have c0 := (hbc k 0 hk (by decide)).1
      have c1 := (hbc k 1 hk (by decide)).1
      have c2 := (hbc k 2 hk (by decide)).1
      rw [e0] at c0
      rw [e1] at c1
      rw [e2] at c2
      exact ⟨(World.cell?_of_block (hkeep k W h b hb hbm)).trans c0, (World.cell?_of_block (hkeep k W h b hb hbm)).trans c1, (World.cell?_of_block (hkeep k W h b hb hbm)).trans c2⟩
    · rw [hJ] at h
      obtain ⟨hk1, hk2, hk3⟩ := h
      obtain ⟨x, hx⟩ : ∃ x, ix vs k = x := ⟨_, rfl⟩
      have hro := hround k hk
      rw [hx] at hro ⊢
      obtain ⟨xv, hxv⟩ : ∃ xv : Value, xv = .agg #[.int .i64 x.From, .int .i64 x.To, .int .i64 x.Edge] := ⟨_, rfl⟩
      rw [← hxv]
      have hxr : ∀ (w' : World) (Y : Nat → Prop), RepD w' Y xv (Enc.enc x) := fun w' Y => by
        rw [hxv]
        refine .agg _ [.int .i64 x.From, .int .i64 x.To, .int .i64 x.Edge] (fun j => #[Value.int .i64 x.From, .int .i64 x.To, .int .i64 x.Edge].getD j undef) rfl (fun j hj => ?_) (fun j v hj => ?_)
        · match j, hj with
          | 0, _ => exact ⟨rfl, rfl⟩
          | 1, _ => exact ⟨rfl, rfl⟩
          | 2, _ => exact ⟨rfl, rfl⟩
          | j + 3, hj => simp at hj; omega
        · match j, hj with
          | 0, hj => injection hj with hj; subst hj; exact .int _ _
          | 1, hj => injection hj with hj; subst hj; exact .int _ _
          | 2, hj => injection hj with hj; subst hj; exact .int _ _
          | j + 3, hj => simp at hj
      refine ⟨fid, (#[p1].zip #[xv]).foldl (fun tmps (t, a) => tmps.setIfInBounds t a) a.tmps, assign, body, ?_, ?_⟩
      · have hy := run_yield (P := Try.prog) (args := #[xv]) hk2 (by rw [hrec]; rfl)
        rw [hrec] at hy
        exact hy
      refine roundIn_of_wpIn trivial ?_
      have hact : ({ tmps := (#[p1].zip #[xv]).foldl (fun tmps (t, a) => tmps.setIfInBounds t a) a.tmps, defers := [] } : Go.Act) = a.put (some p1) xv := by
        simp [Act.put, hdef]
      have hA0 := rel_put64 hk1 hp1 (v := xv) (av := Enc.enc x) fun β' R' S' => .deep (hxr _ _)
      rw [← hact] at hA0
      obtain ⟨β2, R2, S2, T2, G2, hN2, hd2⟩ := hA0
      have hA1 : Rel ⟨Try.prog, Sg, Gv⟩ N X W β2 (Hf k) _ _ W := ⟨β2, R2, StepR.refl _ _ _ R2.len, T2, G2, hN2, hd2⟩
      refine wpIn_mono (inR_sound hS (ro := some (w.heap.size + 1)) (n := 7) (ds := []) assign oka hro hA1) ?_
      rintro e a1 w1 ⟨a1', ⟨st1, ⟨rfl, hb1⟩, hr3⟩, rfl⟩
      have hl1 := rel_loop hk2 rfl R2 hr3
      have hd1 := rel_loop hk3 rfl R2 hr3
      refine ⟨_, run_beginRound hl1 (by rw [hrec]), ?_⟩
      have hr4 := (hr3.there S2).odd (o := .loop { rec .ready with state := .busy }) hl1 rfl (Nat.le_succ _)
      have hlt1 : w.heap.size + 1 < w1.heap.size := (Array.getElem?_eq_some_iff.1 hl1).1
      obtain ⟨W2, hW2⟩ : ∃ W2, w1.putObj (w.heap.size + 1) (.loop { rec .ready with state := .busy }) = W2 := ⟨_, rfl⟩
      have hl2 : W2.heap[w.heap.size + 1]? = some (.loop { rec .ready with state := .busy }) := by rw [← hW2]; exact World.putObj_heap_same hlt1
      have hd2' : W2.heap[w.heap.size]? = some (.deferred (some [])) := by rw [← hW2]; exact (World.putObj_heap_other (by omega)).trans hd1
      rw [hW2] at hr4 ⊢
      obtain ⟨β4, R4, S4, T4, G4, hN4, hd4⟩ := hr4
      have hB1 : Rel ⟨Try.prog, Sg, Gv⟩ N X W2 β4 st1.H st1 a1' W2 := ⟨β4, R4, StepR.refl _ _ _ R4.len, T4, G4, hN4, hd4⟩
      refine wpIn_mono (inR_sound hS (ro := some (w.heap.size + 1)) (n := 7) (ds := []) body okb hb1 hB1) ?_
      rintro e a3 w3 ⟨a3', ⟨⟨ρ3, H3⟩, ⟨rfl, hH3⟩, hr5⟩, rfl⟩
      simp only at hH3
      have hl3 := rel_loop hl2 rfl R4 hr5
      have hd3 := rel_loop hd2' rfl R4 hr5
      have hre := run_endRound (P := Try.prog) none hl3
      refine ⟨_, _, hre, rfl, ?_⟩
      obtain ⟨β5, R5, S5, T5, G5, hN5, hd5⟩ := hr5.there S4
      have hr6 : Rel ⟨Try.prog, Sg, Gv⟩ N X w β st.H ⟨st.ρ, H3⟩ a w3 := ⟨β5, R5, S5, fun t => (T t).keep S5, G5, hN, hdef⟩
      have hr6 := hH3 X w β st.H a w3 rfl hr6
      have hlt3 : w.heap.size + 1 < w3.heap.size := (Array.getElem?_eq_some_iff.1 hl3).1
      rw [hJ]
      refine ⟨hr6.odd hl3 rfl (Nat.le_succ _), ?_, (World.putObj_heap_other (by omega)).trans hd3⟩
      rw [World.putObj_heap_same hlt3, hrec]
      rfl
end Go.Proofs.Ytkhgjbjkjefeoaa

/-
  overlay: the shape of a column and what it unpacks to (plain).
-/
namespace Go.Proofs.Ytkhgjbjkjefeoaa
open Go.RowKit
set_option linter.unusedSimpArgs false
set_option linter.unusedVariables false

/-- The shape that a column with nodes has. -/
structure Shp (c : Col) : Prop where
  f : c.First.length = c.Nodes.length + 1
  z : ix c.First 0 = 0
  te : c.To.length = c.Edge.length
  l : ix c.First c.Nodes.length = c.To.length
  up : ∀ i, i < c.Nodes.length → ix c.First i < ix c.First (i + 1)
def ShapeC (c : Col) : Prop := if c.Nodes.length = 0 then c.To.length = 0 ∧ c.Edge.length = 0 ∧ (c.First.length = 0 ∨ c.First.length = 1 ∧ ix c.First 0 = 0) else Shp c
theorem Shp.mono {c : Col} (h : Shp c) : ∀ i j, i ≤ j → j ≤ c.Nodes.length → ix c.First i ≤ ix c.First j := by
  intro i j hij
  induction j with
  | zero => intro _; obtain rfl : i = 0 := by omega
            exact Int.le_refl _
  | succ j ih =>
    intro hj
    rcases Nat.lt_or_eq_of_le hij with h1 | rfl
    · have := ih (by omega) (by omega)
      have := h.up j (by omega)
      omega
    · exact Int.le_refl _
theorem Shp.nn {c : Col} (h : Shp c) {i : Nat} (hi : i ≤ c.Nodes.length) : 0 ≤ ix c.First i ∧ ix c.First i ≤ c.To.length := by
  have h1 := h.mono 0 i (Nat.zero_le _) hi
  have h2 := h.mono i _ hi (Nat.le_refl _)
  rw [h.z] at h1
  rw [h.l] at h2
  exact ⟨h1, h2⟩
def rowU (c : Col) (i s n : Nat) : List Adj := (List.range' s n).map fun j => ⟨ix c.Nodes i, ix c.To j, ix c.Edge j⟩
def unpI (c : Col) : Nat → List Adj
  | 0 => []
  | i + 1 => unpI c i ++ rowU c i (ix c.First i).toNat (ix c.First (i + 1) - ix c.First i).toNat
def unpackC (c : Col) : List Adj := unpI c c.Nodes.length
theorem rowU_len (c : Col) (i s n : Nat) : (rowU c i s n).length = n := by unfold rowU; simp
theorem rowU_succ (c : Col) (i s n : Nat) : rowU c i s (n + 1) = rowU c i s n ++ [⟨ix c.Nodes i, ix c.To (s + n), ix c.Edge (s + n)⟩] := by
  unfold rowU
  rw [List.range'_concat, List.map_append]
  simp
theorem unpI_len {c : Col} (h : Shp c) : ∀ i, i ≤ c.Nodes.length → (unpI c i).length = (ix c.First i).toNat
  | 0, _ => by rw [h.z]; rfl
  | i + 1, hi => by
    unfold unpI
    rw [List.length_append, rowU_len, unpI_len h i (by omega)]
    have := h.up i (by omega)
    have := h.nn (i := i) (by omega)
    omega
/-- The numbers of the cells, laid end to end, are the cells in their order. -/
theorem unpI_to {c : Col} (h : Shp c) : ∀ i, i ≤ c.Nodes.length → (unpI c i).map (fun a => (a.To, a.Edge)) = (List.range (ix c.First i).toNat).map fun j => (ix c.To j, ix c.Edge j)
  | 0, _ => by rw [h.z]; rfl
  | i + 1, hi => by
    have h1 := h.up i (by omega)
    have h2 := h.nn (i := i) (by omega)
    unfold unpI rowU
    rw [List.map_append, unpI_to h i (by omega), List.map_map]
    have e : (ix c.First (i + 1)).toNat = (ix c.First i).toNat + (ix c.First (i + 1) - ix c.First i).toNat := by omega
    rw [e, List.range_add, List.map_append, List.map_map, List.range'_eq_map_range, List.map_map]
    rfl
theorem unp_to {c : Col} (h : Shp c) : (unpackC c).map (fun a => (a.To, a.Edge)) = (List.range c.To.length).map fun j => (ix c.To j, ix c.Edge j) := by
  unfold unpackC
  rw [unpI_to h _ (Nat.le_refl _), h.l]
  rfl
theorem unp_len {c : Col} (h : ShapeC c) : (unpackC c).length = c.To.length := by
  unfold ShapeC at h
  split at h
  · rename_i h0
    unfold unpackC
    rw [h0, h.1]; rfl
  · unfold unpackC
    rw [unpI_len h _ (Nat.le_refl _), h.l]; rfl
theorem unp_nodes {c : Col} (h : Shp c) {i : Nat} (hi : i < c.Nodes.length) : ∃ a ∈ unpackC c, a.From = ix c.Nodes i := by
  have key : ∀ k, i < k → k ≤ c.Nodes.length → ∃ a ∈ unpI c k, a.From = ix c.Nodes i := by
    intro k
    induction k with
    | zero => intro h; omega
    | succ k ih =>
      intro h1 h2
      unfold unpI
      rcases Nat.lt_or_eq_of_le (Nat.le_of_lt_succ h1) with h3 | rfl
      · obtain ⟨a, ha, e⟩ := ih h3 (by omega)
        exact ⟨a, List.mem_append_left _ ha, e⟩
      · have hu := h.up i hi
        obtain ⟨n, hn⟩ : ∃ n, (ix c.First (i + 1) - ix c.First i).toNat = n + 1 := ⟨(ix c.First (i + 1) - ix c.First i).toNat - 1, by omega⟩
        rw [hn, rowU_succ]
        exact ⟨_, List.mem_append_right _ (List.mem_append_right _ (List.mem_singleton.2 rfl)), rfl⟩
  exact key _ hi (Nat.le_refl _)
theorem unp_mem {c : Col} {a : Adj} (h : a ∈ unpackC c) : ∃ i, i < c.Nodes.length ∧ a.From = ix c.Nodes i := by
  have key : ∀ k, k ≤ c.Nodes.length → a ∈ unpI c k → ∃ i, i < c.Nodes.length ∧ a.From = ix c.Nodes i := by
    intro k
    induction k with
    | zero => intro _ h; cases h
    | succ k ih =>
      intro hk hm
      unfold unpI at hm
      rcases List.mem_append.1 hm with hm | hm
      · exact ih (by omega) hm
      · unfold rowU at hm
        obtain ⟨j, _, rfl⟩ := List.mem_map.1 hm
        exact ⟨k, by omega, rfl⟩
  exact key _ (Nat.le_refl _) h
end Go.Proofs.Ytkhgjbjkjefeoaa


/-
  overlay: the shape of a column, both sides; unpack, both sides.
-/
namespace Go.Proofs.Ytkhgjbjkjefeoaa
open Go.RowKit
set_option linter.unusedSimpArgs false
set_option linter.unusedVariables false
set_option maxRecDepth 100000

def LenC (c : Col) : Prop := Len c.Nodes ∧ Len c.First ∧ Len c.To ∧ Len c.Edge
def CB (c : Col) : Blk := ⟨24, 4, [[.slice 1 false (encRows c.Nodes), .slice 1 false (encRows c.First), .slice 1 false (encRows c.To), .slice 1 false (encRows c.Edge)]], true, true⟩
noncomputable def shB (c : Col) : Bool := @decide (ShapeC c) (Classical.propDecidable _)
theorem shB_true {c : Col} : shB c = true ↔ ShapeC c := @decide_eq_true_iff _ (Classical.propDecidable _)
theorem shB_false {c : Col} : shB c = false ↔ ¬ ShapeC c := @decide_eq_false_iff_not _ (Classical.propDecidable _)
noncomputable def sShape : List AV → Option (Prop × AV) := spec1 LenC (fun c => .bool (shB c))
set_option maxHeartbeats 16000000 in
theorem shapeP : PureOK Try.prog G0 75 sShape := by
  refine pureH1 (C := CE) sigCE mixCE Try.func75 rfl rfl rfl [3, 8] (by kernel_rfl) (by decide) (fun c ⟨l1, l2, l3, l4⟩ => ?_)
  obtain ⟨r, hr⟩ : ∃ r, shB c = r := ⟨_, rfl⟩
  rw [hr]
  have yes : ShapeC c → r = true := fun h => by rw [← hr]; exact shB_true.2 h
  have no : ¬ ShapeC c → r = false := fun h => by rw [← hr]; exact shB_false.2 h
  clear hr
  unfold ShapeC at yes no
  by_cases h0 : c.Nodes.length = 0
  · rw [if_pos h0] at yes no
    by_cases h1 : c.To.length = 0
    case neg =>
      have hr0 := no fun h => h1 h.1
      simp [aev, gav, alook, litOf, litAV, mget, mhas, acopy, asrc, adst, cav, look, acallPure, abin, abinN, abinP, abinI, abinS, aun, aconv, afield, afieldAddr, aindexAddr, aindex, aslice, alow, ahigh, abuild, abuildGo, cellsOf, splice, fieldTy, alen, apick, amax, amin, aload, headV, aparts, abuildSlice, elParts, abytesStr, astore, amake, aappend, aclear, anew, arith, aresults, aresList, ares, spec0, spec1, spec2, spec3, spec4, eqCells, eqCell, h0, h1, hr0]
    by_cases h2 : c.Edge.length = 0
    case neg =>
      have hr0 := no fun h => h2 h.2.1
      simp [aev, gav, alook, litOf, litAV, mget, mhas, acopy, asrc, adst, cav, look, acallPure, abin, abinN, abinP, abinI, abinS, aun, aconv, afield, afieldAddr, aindexAddr, aindex, aslice, alow, ahigh, abuild, abuildGo, cellsOf, splice, fieldTy, alen, apick, amax, amin, aload, headV, aparts, abuildSlice, elParts, abytesStr, astore, amake, aappend, aclear, anew, arith, aresults, aresList, ares, spec0, spec1, spec2, spec3, spec4, eqCells, eqCell, h0, h1, h2, hr0]
    by_cases h3 : c.First.length = 0
    · have hr0 := yes ⟨h1, h2, .inl h3⟩
      simp [aev, gav, alook, litOf, litAV, mget, mhas, acopy, asrc, adst, cav, look, acallPure, abin, abinN, abinP, abinI, abinS, aun, aconv, afield, afieldAddr, aindexAddr, aindex, aslice, alow, ahigh, abuild, abuildGo, cellsOf, splice, fieldTy, alen, apick, amax, amin, aload, headV, aparts, abuildSlice, elParts, abytesStr, astore, amake, aappend, aclear, anew, arith, aresults, aresList, ares, spec0, spec1, spec2, spec3, spec4, eqCells, eqCell, h0, h1, h2, h3, hr0]
    by_cases h4 : c.First.length = 1
    case neg =>
      have hr0 := no fun h => by rcases h.2.2 with h | h; exact h3 h; exact h4 h.1
      have h4' : ¬ (c.First.length : Int) = 1 := by omega
      simp [aev, gav, alook, litOf, litAV, mget, mhas, acopy, asrc, adst, cav, look, acallPure, abin, abinN, abinP, abinI, abinS, aun, aconv, afield, afieldAddr, aindexAddr, aindex, aslice, alow, ahigh, abuild, abuildGo, cellsOf, splice, fieldTy, alen, apick, amax, amin, aload, headV, aparts, abuildSlice, elParts, abytesStr, astore, amake, aappend, aclear, anew, arith, aresults, aresList, ares, spec0, spec1, spec2, spec3, spec4, eqCells, eqCell, h0, h1, h2, h3, h4', hr0]
    have hlt : 0 < c.First.length := by omega
    have h4' : (c.First.length : Int) = 1 := by omega
    by_cases h5 : ix c.First 0 = 0
    · have hr0 := yes ⟨h1, h2, .inr ⟨h4, h5⟩⟩
      simp [aev, gav, alook, litOf, litAV, mget, mhas, acopy, asrc, adst, cav, look, acallPure, abin, abinN, abinP, abinI, abinS, aun, aconv, afield, afieldAddr, aindexAddr, aindex, aslice, alow, ahigh, abuild, abuildGo, cellsOf, splice, fieldTy, alen, apick, amax, amin, aload, headV, aparts, abuildSlice, elParts, abytesStr, astore, amake, aappend, aclear, anew, arith, aresults, aresList, ares, spec0, spec1, spec2, spec3, spec4, eqCells, eqCell, h0, h1, h2, h4, rowAt_enc hlt, h5, hr0]
    · have hr0 := no fun h => by rcases h.2.2 with h | h; exact h3 h; exact h5 h.2
      simp [aev, gav, alook, litOf, litAV, mget, mhas, acopy, asrc, adst, cav, look, acallPure, abin, abinN, abinP, abinI, abinS, aun, aconv, afield, afieldAddr, aindexAddr, aindex, aslice, alow, ahigh, abuild, abuildGo, cellsOf, splice, fieldTy, alen, apick, amax, amin, aload, headV, aparts, abuildSlice, elParts, abytesStr, astore, amake, aappend, aclear, anew, arith, aresults, aresList, ares, spec0, spec1, spec2, spec3, spec4, eqCells, eqCell, h0, h1, h2, h4, rowAt_enc hlt, h5, hr0]
  rw [if_neg h0] at yes no
  simp [aev, gav, alook, litOf, litAV, mget, mhas, acopy, asrc, adst, cav, look, acallPure, abin, abinN, abinP, abinI, abinS, aun, aconv, afield, afieldAddr, aindexAddr, aindex, aslice, alow, ahigh, abuild, abuildGo, cellsOf, splice, fieldTy, alen, apick, amax, amin, aload, headV, aparts, abuildSlice, elParts, abytesStr, astore, amake, aappend, aclear, anew, arith, aresults, aresList, ares, spec0, spec1, spec2, spec3, spec4, eqCells, eqCell, h0]
  refine AW_regionF sigCE mixCE [.pure, .read, .pure, .pure, .read, .pure, .pure, .pure, .pure, .pure, .read, .pure, .read, .pure, .pure, .pure, .pure, .read, .pure, .pure, .read, .pure, .pure, .pure, .pure, .pure, .read, .pure, .read, .pure, .pure, .read, .pure, .read, .pure, .pure, .pure] [[],[0],[0,1],[],[3],[3,4],[4,3,5],[5,3,4,6,1,0,2],[2,0,1,6,4,3,5,7],[7,5,3,4,6,1,0,2,8],[8,2,0,1,6,4,3,5,7,9],[9,7,5,3,4,6,1,0,2,8,10],[10,8,2,0,1,6,4,3,5,7,9,11],[11,9,7,5,3,4,6,1,0,2,8,10,12],[12,10,9,11,13,7,5,3,4,6,1,0,2,8],[8,2,0,1,6,4,3,5,7,13,11,9,10,12,14],[14,12,10,9,11,13,7,5,3,4,6,1,0,2,8,15],[15,8,2,0,1,6,4,3,5,7,13,11,9,10,12,14,16],[16,14,12,10,9,11,13,7,5,3,4,6,1,0,2,8,15,17],[14,12,10,9,11,13,7,5,3,4,6,1,0,2,8,15],[15,8,2,0,1,6,4,3,5,7,13,11,9,10,12,14,19],[19,14,12,10,9,11,13,7,5,3,4,6,1,0,2,8,15,20],[20,19,21,17,15,8,2,0,1,6,4,3,5,7,13,11,9,10,12,14,16,18],[18,16,17,21,19,20,22,14,12,10,9,11,13,7,5,3,4,6,1,0,2,8,15],[15,8,2,0,1,6,4,3,5,7,13,11,9,10,12,14,22,20,19,21,17,16,18,23],[23,18,16,17,21,19,20,22,14,12,10,9,11,13,7,5,3,4,6,1,0,2,8,15,24],[24,15,8,2,0,1,6,4,3,5,7,13,11,9,10,12,14,22,20,19,21,17,16,18,23,25],[23,18,16,17,21,19,20,22,14,12,10,9,11,13,7,5,3,4,6,1,0,2,8,15,24],[24,15,8,2,0,1,6,4,3,5,7,13,11,9,10,12,14,22,20,19,21,17,16,18,23,27],[27,23,18,16,17,21,19,20,22,14,12,10,9,11,13,7,5,3,4,6,1,0,2,8,15,24,28],[28,27,29,25,23,18,16,17,21,19,20,22,14,12,10,9,11,13,7,5,3,4,6,1,0,2,8,15,24,26],[26,24,15,8,2,0,1,6,4,3,5,7,13,11,9,10,12,14,22,20,19,21,17,16,18,23,25,29,27,28,30],[23,18,16,17,21,19,20,22,14,12,10,9,11,13,7,5,3,4,6,1,0,2,8,15,24],[24,15,8,2,0,1,6,4,3,5,7,13,11,9,10,12,14,22,20,19,21,17,16,18,23,32],[32,23,18,16,17,21,19,20,22,14,12,10,9,11,13,7,5,3,4,6,1,0,2,8,15,24,33],[33,32,34,30,28,27,29,25,23,18,16,17,21,19,20,22,14,12,10,9,11,13,7,5,3,4,6,1,0,2,8,15,24,26,31],[31,26,25,29,27,28,30,34,32,33,35,23,18,16,17,21,19,20,22,14,12,10,9,11,13,7,5,3,4,6,1,0,2,8,15,24]] (by kernel_rfl) (by kernel_rfl) (by kernel_rfl) (by kernel_rfl) ?_
  have i0 := (len_i l1 (Nat.le_refl _)).1
  by_cases h1 : c.First.length = c.Nodes.length + 1
  case neg =>
    have hr0 := no fun h => h1 h.f
    have h1' : ¬ (c.First.length : Int) = (c.Nodes.length : Int) + 1 := by omega
    simp [aev, gav, alook, litOf, litAV, mget, mhas, acopy, asrc, adst, cav, look, acallPure, abin, abinN, abinP, abinI, abinS, aun, aconv, afield, afieldAddr, aindexAddr, aindex, aslice, alow, ahigh, abuild, abuildGo, cellsOf, splice, fieldTy, alen, apick, amax, amin, aload, headV, aparts, abuildSlice, elParts, abytesStr, astore, amake, aappend, aclear, anew, arith, aresults, aresList, ares, spec0, spec1, spec2, spec3, spec4, eqCells, eqCell, h0, i0, h1', hr0]
  have h1' : (c.First.length : Int) = (c.Nodes.length : Int) + 1 := by omega
  have hlt : 0 < c.First.length := by omega
  by_cases h2 : ix c.First 0 = 0
  case neg =>
    have hr0 := no fun h => h2 h.z
    simp [aev, gav, alook, litOf, litAV, mget, mhas, acopy, asrc, adst, cav, look, acallPure, abin, abinN, abinP, abinI, abinS, aun, aconv, afield, afieldAddr, aindexAddr, aindex, aslice, alow, ahigh, abuild, abuildGo, cellsOf, splice, fieldTy, alen, apick, amax, amin, aload, headV, aparts, abuildSlice, elParts, abytesStr, astore, amake, aappend, aclear, anew, arith, aresults, aresList, ares, spec0, spec1, spec2, spec3, spec4, eqCells, eqCell, h0, i0, h1', rowAt_enc hlt, h2, hr0]
  by_cases h3 : c.To.length = c.Edge.length
  case neg =>
    have hr0 := no fun h => h3 h.te
    have h3' : ¬ (c.To.length : Int) = c.Edge.length := by omega
    simp [aev, gav, alook, litOf, litAV, mget, mhas, acopy, asrc, adst, cav, look, acallPure, abin, abinN, abinP, abinI, abinS, aun, aconv, afield, afieldAddr, aindexAddr, aindex, aslice, alow, ahigh, abuild, abuildGo, cellsOf, splice, fieldTy, alen, apick, amax, amin, aload, headV, aparts, abuildSlice, elParts, abytesStr, astore, amake, aappend, aclear, anew, arith, aresults, aresList, ares, spec0, spec1, spec2, spec3, spec4, eqCells, eqCell, h0, i0, h1', rowAt_enc hlt, h2, h3', hr0]
  have h3' : (c.To.length : Int) = c.Edge.length := by omega
  have hltN : c.Nodes.length < c.First.length := by omega
  have hself : (c.Nodes.length : Int) < (c.Nodes.length : Int) + 1 := by omega
  by_cases h4 : ix c.First c.Nodes.length = c.To.length
  case neg =>
    have hr0 := no fun h => h4 h.l
    have h4' : ¬ ix c.First c.Nodes.length = c.Edge.length := by omega
    simp [aev, gav, alook, litOf, litAV, mget, mhas, acopy, asrc, adst, cav, look, acallPure, abin, abinN, abinP, abinI, abinS, aun, aconv, afield, afieldAddr, aindexAddr, aindex, aslice, alow, ahigh, abuild, abuildGo, cellsOf, splice, fieldTy, alen, apick, amax, amin, aload, headV, aparts, abuildSlice, elParts, abytesStr, astore, amake, aappend, aclear, anew, arith, aresults, aresList, ares, spec0, spec1, spec2, spec3, spec4, eqCells, eqCell, h0, i0, h1', rowAt_enc hlt, h2, h3', hltN, rowAt_enc hltN, hself, h4', hr0]
  have h4' : ix c.First c.Nodes.length = c.Edge.length := by omega
  simp [aev, gav, alook, litOf, litAV, mget, mhas, acopy, asrc, adst, cav, look, acallPure, abin, abinN, abinP, abinI, abinS, aun, aconv, afield, afieldAddr, aindexAddr, aindex, aslice, alow, ahigh, abuild, abuildGo, cellsOf, splice, fieldTy, alen, apick, amax, amin, aload, headV, aparts, abuildSlice, elParts, abytesStr, astore, amake, aappend, aclear, anew, arith, aresults, aresList, ares, spec0, spec1, spec2, spec3, spec4, eqCells, eqCell, h0, i0, h1', rowAt_enc hlt, h2, h3', hltN, rowAt_enc hltN, hself, h4']
  refine loop_ruleH (C := CE) sigCE mixCE [8] (fun q : Nat => ⟨[(1, .ptr 0 1 4 0 0), (76, .int .i64 c.Nodes.length), (77, .int .i64 q)], [CB c]⟩) (fun q => q ≤ c.Nodes.length ∧ ∀ j, j < q → ix c.First j < ix c.First (j + 1)) (fun q => c.Nodes.length - q) (by kernel_rfl) ⟨0, ⟨by omega, fun j hj => by omega⟩, weak_eq (by simp) (by simp [CB])⟩ (fun k ⟨hk, hv⟩ => ?_)
  by_cases hkl : k < c.Nodes.length
  · have i1 := (len_i l1 hk).1
    have k1 : k < c.First.length := by omega
    have k2 : k + 1 < c.First.length := by omega
    have k2' : (k : Int) + 1 < (c.Nodes.length : Int) + 1 := by omega
    have k3 : ((k : Int) + 1).toNat = k + 1 := by omega
    simp [aev, gav, alook, litOf, litAV, mget, mhas, acopy, asrc, adst, cav, look, acallPure, abin, abinN, abinP, abinI, abinS, aun, aconv, afield, afieldAddr, aindexAddr, aindex, aslice, alow, ahigh, abuild, abuildGo, cellsOf, splice, fieldTy, alen, apick, amax, amin, aload, headV, aparts, abuildSlice, elParts, abytesStr, astore, amake, aappend, aclear, anew, arith, aresults, aresList, ares, spec0, spec1, spec2, spec3, spec4, eqCells, eqCell, CB, hkl]
    refine AW_regionF sigCE mixCE [.pure, .read, .pure, .pure, .read, .pure, .read, .pure, .pure, .pure, .read, .pure] [[],[0],[],[2,0,1],[1,0,2,3],[],[5],[],[7],[7,8,5,6],[6,5,8,7,9],[9,7,8,5,6,10,3,2,0,1,4]] (by kernel_rfl) (by kernel_rfl) (by kernel_rfl) (by kernel_rfl) ?_
    by_cases h5 : ix c.First k < ix c.First (k + 1)
    · have h5' : ¬ ix c.First (k + 1) ≤ ix c.First k := by omega
      simp [aev, gav, alook, litOf, litAV, mget, mhas, acopy, asrc, adst, cav, look, acallPure, abin, abinN, abinP, abinI, abinS, aun, aconv, afield, afieldAddr, aindexAddr, aindex, aslice, alow, ahigh, abuild, abuildGo, cellsOf, splice, fieldTy, alen, apick, amax, amin, aload, headV, aparts, abuildSlice, elParts, abytesStr, astore, amake, aappend, aclear, anew, arith, aresults, aresList, ares, spec0, spec1, spec2, spec3, spec4, eqCells, eqCell, hkl, i1, k1, k2, k2', k3, h1, h1', rowAt_enc k1, rowAt_enc k2, h5, h5']
      refine ⟨by omega, by omega, k + 1, ⟨by omega, fun j hj => ?_⟩, by omega, weak_eq (by simp) (by simp [CB])⟩
      rcases Nat.lt_or_eq_of_le (Nat.le_of_lt_succ hj) with h | rfl
      · exact hv j h
      · exact h5
    · have hr0 := no fun h => h5 (h.up k hkl)
      have h5' : ix c.First (k + 1) ≤ ix c.First k := by omega
      simp [aev, gav, alook, litOf, litAV, mget, mhas, acopy, asrc, adst, cav, look, acallPure, abin, abinN, abinP, abinI, abinS, aun, aconv, afield, afieldAddr, aindexAddr, aindex, aslice, alow, ahigh, abuild, abuildGo, cellsOf, splice, fieldTy, alen, apick, amax, amin, aload, headV, aparts, abuildSlice, elParts, abytesStr, astore, amake, aappend, aclear, anew, arith, aresults, aresList, ares, spec0, spec1, spec2, spec3, spec4, eqCells, eqCell, hkl, i1, k1, k2, k2', k3, h1, h1', rowAt_enc k1, rowAt_enc k2, h5, h5', hr0]
      omega
  · have hr0 := yes ⟨h1, h2, h3, h4, fun i hi => hv i (by omega)⟩
    simp [aev, gav, alook, litOf, litAV, mget, mhas, acopy, asrc, adst, cav, look, acallPure, abin, abinN, abinP, abinI, abinS, aun, aconv, afield, afieldAddr, aindexAddr, aindex, aslice, alow, ahigh, abuild, abuildGo, cellsOf, splice, fieldTy, alen, apick, amax, amin, aload, headV, aparts, abuildSlice, elParts, abytesStr, astore, amake, aappend, aclear, anew, arith, aresults, aresList, ares, spec0, spec1, spec2, spec3, spec4, eqCells, eqCell, CB, hkl, hr0]
end Go.Proofs.Ytkhgjbjkjefeoaa


/-
  overlay: the shape of a column, the reference's side.
-/
namespace Go.Proofs.Ytkhgjbjkjefeoaa
open Go.RowKit
set_option linter.unusedSimpArgs false
set_option linter.unusedVariables false
set_option maxRecDepth 100000

def ShapeR (c : Col) : Prop := ShapeC c ∧ (∀ i, i < c.Nodes.length → IdOK (ix c.Nodes i)) ∧ ∀ i, 0 < i → i < c.Nodes.length → ix c.Nodes (i - 1) < ix c.Nodes i
noncomputable def shR (c : Col) : Bool := @decide (ShapeR c) (Classical.propDecidable _)
theorem shR_true {c : Col} : shR c = true ↔ ShapeR c := @decide_eq_true_iff _ (Classical.propDecidable _)
theorem shR_false {c : Col} : shR c = false ↔ ¬ ShapeR c := @decide_eq_false_iff_not _ (Classical.propDecidable _)
noncomputable def sShapeR : List AV → Option (Prop × AV) := spec1 LenC (fun c => .bool (shR c))
noncomputable def CSr : Ctx := mkC Try.prog G0 [(79, .pure sId)]
@[simp] theorem CSr_P : CSr.P = Try.prog := rfl
@[simp] theorem CSr_G : CSr.G = G0 := rfl
@[simp] theorem CSr_1 : CSr.S 79 = .pure sId := rfl
theorem mixCSr : CSr.P.follows .mixedOrders = true := mixed
theorem sigCSr : SigOK CSr := sigOK_cons (entryPure (idR) Try.func79 rfl (by decide)) (sigOK_nil _ _)
set_option maxHeartbeats 16000000 in
theorem shapeR : PureOK Try.prog G0 78 sShapeR := by
  refine pureH1 (C := CSr) sigCSr mixCSr Try.func78 rfl rfl rfl [5, 10] (by kernel_rfl) (by decide) (fun c ⟨l1, l2, l3, l4⟩ => ?_)
  obtain ⟨r, hr⟩ : ∃ r, shR c = r := ⟨_, rfl⟩
  rw [hr]
  have yes : ShapeR c → r = true := fun h => by rw [← hr]; exact shR_true.2 h
  have no : ¬ ShapeR c → r = false := fun h => by rw [← hr]; exact shR_false.2 h
  have no' : ¬ ShapeC c → r = false := fun h => no fun h' => h h'.1
  clear hr
  have i0 := (len_i l1 (Nat.le_refl _)).1
  have hte : ShapeC c → c.To.length = c.Edge.length := fun h => by
    unfold ShapeC at h
    split at h
    · rw [h.1, h.2.1]
    · exact h.te
  by_cases h3 : c.To.length = c.Edge.length
  case neg =>
    have hr0 := no' fun h => h3 (hte h)
    have h3' : ¬ (c.To.length : Int) = c.Edge.length := by omega
    simp [aev, gav, alook, litOf, litAV, mget, mhas, acopy, asrc, adst, cav, look, acallPure, abin, abinN, abinP, abinI, abinS, aun, aconv, afield, afieldAddr, aindexAddr, aindex, aslice, alow, ahigh, abuild, abuildGo, cellsOf, splice, fieldTy, alen, apick, amax, amin, aload, headV, aparts, abuildSlice, elParts, abytesStr, astore, amake, aappend, aclear, anew, arith, aresults, aresList, ares, spec0, spec1, spec2, spec3, spec4, eqCells, eqCell, h3', hr0]
  have h3' : (c.To.length : Int) = c.Edge.length := by omega
  by_cases hA : c.Nodes.length = 0 ∧ c.First.length = 0
  · obtain ⟨h0, hF⟩ := hA
    have hx : ShapeC c ↔ c.To.length = 0 := by
      unfold ShapeC
      rw [if_pos h0]
      exact ⟨fun h => h.1, fun h => ⟨h, by omega, .inl hF⟩⟩
    have hre : r = decide (c.Edge.length = 0) := by
      by_cases h1 : c.Edge.length = 0
      · rw [decide_eq_true h1]
        exact yes ⟨hx.2 (by omega), fun i hi => by omega, fun i _ hi => by omega⟩
      · rw [decide_eq_false h1]
        exact no' fun h => h1 (by have := hx.1 h; omega)
    simp [aev, gav, alook, litOf, litAV, mget, mhas, acopy, asrc, adst, cav, look, acallPure, abin, abinN, abinP, abinI, abinS, aun, aconv, afield, afieldAddr, aindexAddr, aindex, aslice, alow, ahigh, abuild, abuildGo, cellsOf, splice, fieldTy, alen, apick, amax, amin, aload, headV, aparts, abuildSlice, elParts, abytesStr, astore, amake, aappend, aclear, anew, arith, aresults, aresList, ares, spec0, spec1, spec2, spec3, spec4, eqCells, eqCell, h3', h0, hF, hre]
  have hcond : ¬ (c.Nodes.length = 0 ∧ c.First.length = 0) := hA
  have hS : ShapeC c ↔ Shp c := by
    unfold ShapeC
    split
    · rename_i h0
      constructor
      · rintro ⟨h1, h2, h | ⟨h, h'⟩⟩
        · exact absurd ⟨h0, h⟩ hcond
        · exact ⟨by omega, h', h3, by rw [h0, h1]; exact h', fun i hi => by omega⟩
      · intro h
        have h1 := h.l
        rw [h0, h.z] at h1
        have := h.f
        exact ⟨by omega, by omega, .inr ⟨by omega, h.z⟩⟩
    · exact Iff.rfl
  have hgo : c.Nodes.length = 0 ∧ ¬ c.First.length = 0 ∨ ¬ c.Nodes.length = 0 := by omega
  rcases hgo with hgo | hgo
  all_goals
    first
      | (obtain ⟨h0, hF⟩ := hgo
         simp [aev, gav, alook, litOf, litAV, mget, mhas, acopy, asrc, adst, cav, look, acallPure, abin, abinN, abinP, abinI, abinS, aun, aconv, afield, afieldAddr, aindexAddr, aindex, aslice, alow, ahigh, abuild, abuildGo, cellsOf, splice, fieldTy, alen, apick, amax, amin, aload, headV, aparts, abuildSlice, elParts, abytesStr, astore, amake, aappend, aclear, anew, arith, aresults, aresList, ares, spec0, spec1, spec2, spec3, spec4, eqCells, eqCell, h3', h0, hF]
         refine AW.weak (st' := ⟨[(1, .ptr 0 1 4 0 0)], [CB c]⟩) (weak_eq (by simp) (by simp [CB])) ?_
         clear h0 hF)
      | (have h0 := hgo
         simp [aev, gav, alook, litOf, litAV, mget, mhas, acopy, asrc, adst, cav, look, acallPure, abin, abinN, abinP, abinI, abinS, aun, aconv, afield, afieldAddr, aindexAddr, aindex, aslice, alow, ahigh, abuild, abuildGo, cellsOf, splice, fieldTy, alen, apick, amax, amin, aload, headV, aparts, abuildSlice, elParts, abytesStr, astore, amake, aappend, aclear, anew, arith, aresults, aresList, ares, spec0, spec1, spec2, spec3, spec4, eqCells, eqCell, h3', h0]
         refine AW.weak (st' := ⟨[(1, .ptr 0 1 4 0 0)], [CB c]⟩) (weak_eq (by simp) (by simp [CB])) ?_
         clear h0 hgo)
    have hln : c.Nodes.length ≤ 1000000000 := l1
    have hself : (c.Nodes.length : Int) < (c.Nodes.length : Int) + 1 := by omega
    refine AW_regionF sigCSr mixCSr [.pure, .read, .pure, .pure, .read, .pure, .pure, .pure, .pure, .pure, .read, .pure, .read, .pure, .pure, .pure, .pure, .read, .pure, .read, .pure, .pure, .read, .pure, .read, .pure, .pure, .pure] [[],[0],[0,1],[],[3],[3,4],[4,3,5],[5,3,4,6,1,0,2],[2,0,1,6,4,3,5,7],[7,5,3,4,6,1,0,2,8],[8,2,0,1,6,4,3,5,7,9],[9,7,5,3,4,6,1,0,2,8,10],[10,8,2,0,1,6,4,3,5,7,9,11],[11,9,7,5,3,4,6,1,0,2,8,10,12],[12,10,9,11,13,7,5,3,4,6,1,0,2,8],[8,2,0,1,6,4,3,5,7,13,11,9,10,12,14],[14,12,10,9,11,13,7,5,3,4,6,1,0,2,8,15],[15,8,2,0,1,6,4,3,5,7,13,11,9,10,12,14,16],[14,12,10,9,11,13,7,5,3,4,6,1,0,2,8,15],[15,8,2,0,1,6,4,3,5,7,13,11,9,10,12,14,18],[18,14,12,10,9,11,13,7,5,3,4,6,1,0,2,8,15,19],[19,18,20,16,14,12,10,9,11,13,7,5,3,4,6,1,0,2,8,15,17],[17,15,8,2,0,1,6,4,3,5,7,13,11,9,10,12,14,16,20,18,19,21],[14,12,10,9,11,13,7,5,3,4,6,1,0,2,8,15],[15,8,2,0,1,6,4,3,5,7,13,11,9,10,12,14,23],[23,14,12,10,9,11,13,7,5,3,4,6,1,0,2,8,15,24],[24,23,25,21,19,18,20,16,14,12,10,9,11,13,7,5,3,4,6,1,0,2,8,15,17,22],[22,17,16,20,18,19,21,25,23,24,26,14,12,10,9,11,13,7,5,3,4,6,1,0,2,8,15]] (by kernel_rfl) (by kernel_rfl) (by kernel_rfl) (by kernel_rfl) ?_
    by_cases h1 : c.First.length = c.Nodes.length + 1
    case neg =>
      have hr0 := no' fun h => h1 (hS.1 h).f
      have h1' : ¬ (c.First.length : Int) = (c.Nodes.length : Int) + 1 := by omega
      simp [aev, gav, alook, litOf, litAV, mget, mhas, acopy, asrc, adst, cav, look, acallPure, abin, abinN, abinP, abinI, abinS, aun, aconv, afield, afieldAddr, aindexAddr, aindex, aslice, alow, ahigh, abuild, abuildGo, cellsOf, splice, fieldTy, alen, apick, amax, amin, aload, headV, aparts, abuildSlice, elParts, abytesStr, astore, amake, aappend, aclear, anew, arith, aresults, aresList, ares, spec0, spec1, spec2, spec3, spec4, eqCells, eqCell, CB, i0, h1', hr0]
    have h1' : (c.First.length : Int) = (c.Nodes.length : Int) + 1 := by omega
    have hlt : 0 < c.First.length := by omega
    by_cases h2 : ix c.First 0 = 0
    case neg =>
      have hr0 := no' fun h => h2 (hS.1 h).z
      simp [aev, gav, alook, litOf, litAV, mget, mhas, acopy, asrc, adst, cav, look, acallPure, abin, abinN, abinP, abinI, abinS, aun, aconv, afield, afieldAddr, aindexAddr, aindex, aslice, alow, ahigh, abuild, abuildGo, cellsOf, splice, fieldTy, alen, apick, amax, amin, aload, headV, aparts, abuildSlice, elParts, abytesStr, astore, amake, aappend, aclear, anew, arith, aresults, aresList, ares, spec0, spec1, spec2, spec3, spec4, eqCells, eqCell, CB, i0, h1', rowAt_enc hlt, h2, hr0]
    have hltN : c.Nodes.length < c.First.length := by omega
    by_cases h4 : ix c.First c.Nodes.length = c.To.length
    case neg =>
      have hr0 := no' fun h => h4 (hS.1 h).l
      have h4' : ¬ ix c.First c.Nodes.length = c.Edge.length := by omega
      simp [aev, gav, alook, litOf, litAV, mget, mhas, acopy, asrc, adst, cav, look, acallPure, abin, abinN, abinP, abinI, abinS, aun, aconv, afield, afieldAddr, aindexAddr, aindex, aslice, alow, ahigh, abuild, abuildGo, cellsOf, splice, fieldTy, alen, apick, amax, amin, aload, headV, aparts, abuildSlice, elParts, abytesStr, astore, amake, aappend, aclear, anew, arith, aresults, aresList, ares, spec0, spec1, spec2, spec3, spec4, eqCells, eqCell, CB, i0, h1', rowAt_enc hlt, h2, h3', rowAt_enc hltN, hself, h4', hr0]
    have h4' : ix c.First c.Nodes.length = c.Edge.length := by omega
    simp [aev, gav, alook, litOf, litAV, mget, mhas, acopy, asrc, adst, cav, look, acallPure, abin, abinN, abinP, abinI, abinS, aun, aconv, afield, afieldAddr, aindexAddr, aindex, aslice, alow, ahigh, abuild, abuildGo, cellsOf, splice, fieldTy, alen, apick, amax, amin, aload, headV, aparts, abuildSlice, elParts, abytesStr, astore, amake, aappend, aclear, anew, arith, aresults, aresList, ares, spec0, spec1, spec2, spec3, spec4, eqCells, eqCell, CB, i0, h1', rowAt_enc hlt, h2, h3', rowAt_enc hltN, hself, h4']
    refine loop_ruleH (C := CSr) sigCSr mixCSr [5, 10] (fun q : Nat => ⟨[(1, .ptr 0 1 4 0 0), (3, .int .i64 q)], [CB c]⟩) (fun q => q ≤ c.Nodes.length ∧ (∀ j, j < q → ix c.First j < ix c.First (j + 1) ∧ IdOK (ix c.Nodes j)) ∧ ∀ j, 0 < j → j < q → ix c.Nodes (j - 1) < ix c.Nodes j) (fun q => c.Nodes.length - q) (by kernel_rfl) ⟨0, ⟨by omega, fun j hj => by omega, fun j _ hj => by omega⟩, weak_eq (by simp) (by simp [CB])⟩ (fun k ⟨hk, hv, hw⟩ => ?_)
    by_cases hkl : k < c.Nodes.length
    case neg =>
      have hr0 := yes ⟨hS.2 ⟨h1, h2, h3, h4, fun i hi => (hv i (by omega)).1⟩, fun i hi => (hv i (by omega)).2, fun i h hi => hw i h (by omega)⟩
      simp [aev, gav, alook, litOf, litAV, mget, mhas, acopy, asrc, adst, cav, look, acallPure, abin, abinN, abinP, abinI, abinS, aun, aconv, afield, afieldAddr, aindexAddr, aindex, aslice, alow, ahigh, abuild, abuildGo, cellsOf, splice, fieldTy, alen, apick, amax, amin, aload, headV, aparts, abuildSlice, elParts, abytesStr, astore, amake, aappend, aclear, anew, arith, aresults, aresList, ares, spec0, spec1, spec2, spec3, spec4, eqCells, eqCell, CB, hkl, hr0]
    have i1 := (len_i l1 hk).1
    have k1 : k < c.First.length := by omega
    have k2 : k + 1 < c.First.length := by omega
    have k2' : (k : Int) + 1 < (c.Nodes.length : Int) + 1 := by omega
    have k3 : ((k : Int) + 1).toNat = k + 1 := by omega
    have k4 : (k : Int) < (c.Nodes.length : Int) + 1 := by omega
    have k5 : (0 : Int) ≤ (k : Int) + 1 := by omega
    simp [aev, gav, alook, litOf, litAV, mget, mhas, acopy, asrc, adst, cav, look, acallPure, abin, abinN, abinP, abinI, abinS, aun, aconv, afield, afieldAddr, aindexAddr, aindex, aslice, alow, ahigh, abuild, abuildGo, cellsOf, splice, fieldTy, alen, apick, amax, amin, aload, headV, aparts, abuildSlice, elParts, abytesStr, astore, amake, aappend, aclear, anew, arith, aresults, aresList, ares, spec0, spec1, spec2, spec3, spec4, eqCells, eqCell, CB, hkl]
    refine AW_regionF sigCSr mixCSr [.pure, .read, .pure, .pure, .read, .pure, .read, .pure, .pure, .pure, .read, .pure, .pure, .pure, .read, .pure, .pure, .read, .read, .pure, .pure, .pure, .pure, .pure, .pure, .pure, .read, .pure, .pure, .pure, .read, .pure, .read, .pure, .pure, .read, .pure, .pure, .pure] [[],[0],[],[2,0,1],[1,0,2,3],[],[5],[],[7],[7,8,5,6],[6,5,8,7,9],[9,7,8,5,6,10,3,2,0,1,4],[4,1,0,2,3,10,6,5,8,7,9,11],[11,9,7,8,5,6,10,3,2,0,1,4,12],[12,4,1,0,2,3,10,6,5,8,7,9,11,13],[11,9,7,8,5,6,10,3,2,0,1,4,12],[15,13,11,9,7,8,5,6,10,3,2,0,1,4,12,14],[14,12,4,1,0,2,3,10,6,5,8,7,9,11,13,15,16],[16,15,13,11,9,7,8,5,6,10,3,2,0,1,4,12,14,17],[17,14,12,4,1,0,2,3,10,6,5,8,7,9,11,13,15,16,18],[18,16,15,13,14,17,19,11,9,7,8,5,6,10,3,2,0,1,4,12],[12,4,1,0,2,3,10,6,5,8,7,9,11,19,17,14,13,15,16,18,20],[20,18,16,15,13,14,17,19,11,9,7,8,5,6,10,3,2,0,1,4,12,21],[21,12,4,1,0,2,3,10,6,5,8,7,9,11,19,17,14,13,15,16,18,20,22],[22,20,18,16,15,13,14,17,19,11,9,7,8,5,6,10,3,2,0,1,4,12,21,23],[23,21,12,4,1,0,2,3,10,6,5,8,7,9,11,19,17,14,13,15,16,18,20,22,24],[24,22,20,18,16,15,13,14,17,19,11,9,7,8,5,6,10,3,2,0,1,4,12,21,23,25],[23,21,12,4,1,0,2,3,10,6,5,8,7,9,11,19,17,14,13,15,16,18,20,22,24],[24,22,20,18,16,15,13,14,17,19,11,9,7,8,5,6,10,3,2,0,1,4,12,21,23,27],[27,28,25,23,21,12,4,1,0,2,3,10,6,5,8,7,9,11,19,17,14,13,15,16,18,20,22,24,26],[26,24,22,20,18,16,15,13,14,17,19,11,9,7,8,5,6,10,3,2,0,1,4,12,21,23,25,28,27,29],[23,21,12,4,1,0,2,3,10,6,5,8,7,9,11,19,17,14,13,15,16,18,20,22,24],[24,22,20,18,16,15,13,14,17,19,11,9,7,8,5,6,10,3,2,0,1,4,12,21,23,31],[23,21,12,4,1,0,2,3,10,6,5,8,7,9,11,19,17,14,13,15,16,18,20,22,24],[33,31,23,21,12,4,1,0,2,3,10,6,5,8,7,9,11,19,17,14,13,15,16,18,20,22,24,32],[32,24,22,20,18,16,15,13,14,17,19,11,9,7,8,5,6,10,3,2,0,1,4,12,21,23,31,33,34],[34,33,31,32,35,29,27,28,25,23,21,12,4,1,0,2,3,10,6,5,8,7,9,11,19,17,14,13,15,16,18,20,22,24,26,30],[30,26,25,28,27,29,35,32,31,33,34,36,23,21,12,4,1,0,2,3,10,6,5,8,7,9,11,19,17,14,13,15,16,18,20,22,24],[24,22,23,36,34,33,31,32,35,29,27,28,25,26,30,37,20,18,16,15,13,14,17,19,11,9,7,8,5,6,10,3,2,0,1,4,12,21]] (by kernel_rfl) (by kernel_rfl) (by kernel_rfl) (by kernel_rfl) ?_
    by_cases h5 : ix c.First k < ix c.First (k + 1)
    case neg =>
      have hr0 := no' fun h => h5 ((hS.1 h).up k hkl)
      have h5' : ix c.First (k + 1) ≤ ix c.First k := by omega
      simp [aev, gav, alook, litOf, litAV, mget, mhas, acopy, asrc, adst, cav, look, acallPure, abin, abinN, abinP, abinI, abinS, aun, aconv, afield, afieldAddr, aindexAddr, aindex, aslice, alow, ahigh, abuild, abuildGo, cellsOf, splice, fieldTy, alen, apick, amax, amin, aload, headV, aparts, abuildSlice, elParts, abytesStr, astore, amake, aappend, aclear, anew, arith, aresults, aresList, ares, spec0, spec1, spec2, spec3, spec4, eqCells, eqCell, hkl, i1, k1, k2, k2', k3, k4, k5, h1, h1', rowAt_enc k1, rowAt_enc k2, h5, h5', hr0]
    have h5' : ¬ ix c.First (k + 1) ≤ ix c.First k := by omega
    by_cases h6 : IdOK (ix c.Nodes k)
    case neg =>
      have hr0 := no fun h => h6 (h.2.1 k hkl)
      simp [aev, gav, alook, litOf, litAV, mget, mhas, acopy, asrc, adst, cav, look, acallPure, abin, abinN, abinP, abinI, abinS, aun, aconv, afield, afieldAddr, aindexAddr, aindex, aslice, alow, ahigh, abuild, abuildGo, cellsOf, splice, fieldTy, alen, apick, amax, amin, aload, headV, aparts, abuildSlice, elParts, abytesStr, astore, amake, aappend, aclear, anew, arith, aresults, aresList, ares, spec0, spec1, spec2, spec3, spec4, eqCells, eqCell, hkl, i1, k1, k2, k2', k3, k4, k5, h1, h1', rowAt_enc k1, rowAt_enc k2, h5', rowAt_enc hkl, sId, h6, hr0]
    by_cases h7 : k = 0
    · have h7' : ¬ 0 < k := by omega
      simp [aev, gav, alook, litOf, litAV, mget, mhas, acopy, asrc, adst, cav, look, acallPure, abin, abinN, abinP, abinI, abinS, aun, aconv, afield, afieldAddr, aindexAddr, aindex, aslice, alow, ahigh, abuild, abuildGo, cellsOf, splice, fieldTy, alen, apick, amax, amin, aload, headV, aparts, abuildSlice, elParts, abytesStr, astore, amake, aappend, aclear, anew, arith, aresults, aresList, ares, spec0, spec1, spec2, spec3, spec4, eqCells, eqCell, hkl, i1, k1, k2, k2', k3, k4, k5, h7', h1, h1', rowAt_enc k1, rowAt_enc k2, h5', rowAt_enc hkl, sId, h6]
      refine ⟨k + 1, ⟨by omega, fun j hj => ?_, fun j h hj => ?_⟩, by omega, weak_eq (by simp) (by simp [CB])⟩
      · rcases Nat.lt_or_eq_of_le (Nat.le_of_lt_succ hj) with h | rfl
        · exact hv j h
        · exact ⟨h5, h6⟩
      · omega
    · have k6 : 0 < k := by omega
      have k7 : I64 ((k : Int) - 1) := by unfold I64; omega
      have k8 : ((k : Int) - 1).toNat = k - 1 := by omega
      have k9 : k - 1 < c.Nodes.length := by omega
      have k10 : (1 : Int) ≤ k := by omega
      have k11 : (k : Int) - 1 < c.Nodes.length := by omega
      by_cases h8 : ix c.Nodes (k - 1) < ix c.Nodes k
      · have h8' : ¬ ix c.Nodes k ≤ ix c.Nodes (k - 1) := by omega
        simp [aev, gav, alook, litOf, litAV, mget, mhas, acopy, asrc, adst, cav, look, acallPure, abin, abinN, abinP, abinI, abinS, aun, aconv, afield, afieldAddr, aindexAddr, aindex, aslice, alow, ahigh, abuild, abuildGo, cellsOf, splice, fieldTy, alen, apick, amax, amin, aload, headV, aparts, abuildSlice, elParts, abytesStr, astore, amake, aappend, aclear, anew, arith, aresults, aresList, ares, spec0, spec1, spec2, spec3, spec4, eqCells, eqCell, hkl, i1, k1, k2, k2', k3, k4, k5, k6, k7, k8, k9, k10, k11, h1, h1', rowAt_enc k1, rowAt_enc k2, h5', rowAt_enc hkl, rowAt_enc k9, sId, h6, h8']
        refine ⟨k + 1, ⟨by omega, fun j hj => ?_, fun j h hj => ?_⟩, by omega, weak_eq (by simp) (by simp [CB])⟩
        · rcases Nat.lt_or_eq_of_le (Nat.le_of_lt_succ hj) with h | rfl
          · exact hv j h
          · exact ⟨h5, h6⟩
        · rcases Nat.lt_or_eq_of_le (Nat.le_of_lt_succ hj) with h' | rfl
          · exact hw j h h'
          · exact h8
      · have hr0 := no fun h => h8 (h.2.2 k k6 hkl)
        have h8' : ix c.Nodes k ≤ ix c.Nodes (k - 1) := by omega
        simp [aev, gav, alook, litOf, litAV, mget, mhas, acopy, asrc, adst, cav, look, acallPure, abin, abinN, abinP, abinI, abinS, aun, aconv, afield, afieldAddr, aindexAddr, aindex, aslice, alow, ahigh, abuild, abuildGo, cellsOf, splice, fieldTy, alen, apick, amax, amin, aload, headV, aparts, abuildSlice, elParts, abytesStr, astore, amake, aappend, aclear, anew, arith, aresults, aresList, ares, spec0, spec1, spec2, spec3, spec4, eqCells, eqCell, hkl, i1, k1, k2, k2', k3, k4, k5, k6, k7, k8, k9, k10, k11, h1, h1', rowAt_enc k1, rowAt_enc k2, h5', rowAt_enc hkl, rowAt_enc k9, sId, h6, h8', hr0]
end Go.Proofs.Ytkhgjbjkjefeoaa


/-
  overlay: unpack, both sides.
-/
namespace Go.Proofs.Ytkhgjbjkjefeoaa
open Go.RowKit
set_option linter.unusedSimpArgs false
set_option linter.unusedVariables false
set_option maxRecDepth 100000

@[simp] theorem rows_snoc_adj (l : List Adj) (x y z : Int) : encRows l ++ [[.int .i64 x, .int .i64 y, .int .i64 z]] = encRows (l ++ [⟨x, y, z⟩]) := by rw [encRows_append]; rfl
def PreU (c : Col) : Prop := ShapeC c ∧ LenC c
noncomputable def sUnp : List AV → Option (Prop × AV) := spec1 PreU (fun c => Enc.enc (unpackC c))
theorem unp_get {c : Col} (h : ShapeC c) {i : Nat} (hi : i < c.Nodes.length) : Shp c := by
  unfold ShapeC at h
  rwa [if_neg (by omega)] at h
theorem unpI_le {c : Col} (h : ShapeC c) (hl : LenC c) {i n : Nat} (hi : i < c.Nodes.length) (hn : (ix c.First i).toNat + n ≤ (ix c.First (i + 1)).toNat) : (unpI c i).length + n ≤ 1000000000 := by
  have hs := unp_get h hi
  rw [unpI_len hs i (by omega)]
  have := (hs.nn (i := i + 1) (by omega)).2
  have h3 : c.To.length ≤ 1000000000 := hl.2.2.1
  omega
set_option maxHeartbeats 16000000 in
theorem unpP : PureOK Try.prog G0 65 sUnp := by
  refine pureH1 (C := CE) sigCE mixCE Try.func65 rfl rfl rfl [8] (by kernel_rfl) (by decide) (fun c ⟨hs, hl⟩ => ?_)
  obtain ⟨l1, l2, l3, l4⟩ := hl
  obtain ⟨r, hr⟩ : ∃ r, unpackC c = r := ⟨_, rfl⟩
  rw [hr]
  simp [aev, gav, alook, litOf, litAV, mget, mhas, acopy, asrc, adst, cav, look, acallPure, abin, abinN, abinP, abinI, abinS, aun, aconv, afield, afieldAddr, aindexAddr, aindex, aslice, alow, ahigh, abuild, abuildGo, cellsOf, splice, fieldTy, alen, apick, amax, amin, aload, headV, aparts, abuildSlice, elParts, abytesStr, astore, amake, aappend, aclear, anew, arith, aresults, aresList, ares, spec0, spec1, spec2, spec3, spec4, eqCells, eqCell]
  refine AW.weak (weak_nil 3 3 29 rfl (by decide)) ?_
  refine loop_ruleH (C := CE) sigCE mixCE [8] (fun i : Nat => ⟨[(1, .ptr 0 1 4 0 0), (3, .own 1 (unpI c i).length), (8, Enc.enc c.Nodes), (9, .int .i64 c.Nodes.length), (10, .int .i64 i)], [CB c, bA (unpI c i)]⟩) (fun i => i ≤ c.Nodes.length) (fun i => c.Nodes.length - i) (by kernel_rfl) ⟨0, by omega, weak_eq (by simp [unpI]) (by simp [CB, bA, unpI])⟩ (fun i hi => ?_)
  by_cases hlt : i < c.Nodes.length
  case neg =>
    obtain rfl : i = c.Nodes.length := by omega
    have hr' : unpI c c.Nodes.length = r := hr
    simp [aev, gav, alook, litOf, litAV, mget, mhas, acopy, asrc, adst, cav, look, acallPure, abin, abinN, abinP, abinI, abinS, aun, aconv, afield, afieldAddr, aindexAddr, aindex, aslice, alow, ahigh, abuild, abuildGo, cellsOf, splice, fieldTy, alen, apick, amax, amin, aload, headV, aparts, abuildSlice, elParts, abytesStr, astore, amake, aappend, aclear, anew, arith, aresults, aresList, ares, spec0, spec1, spec2, spec3, spec4, eqCells, eqCell, CB, bA, hr']
  have hS := unp_get hs hlt
  have i1 := (len_i l1 hi).1
  have k1 : i < c.First.length := by have := hS.f; omega
  have k2 : i + 1 < c.First.length := by have := hS.f; omega
  have k3 : ((i : Int) + 1).toNat = i + 1 := by omega
  have hn1 := hS.nn (i := i) (by omega)
  have hn2 := hS.nn (i := i + 1) (by omega)
  have hup := hS.up i hlt
  have hte := hS.te
  simp [aev, gav, alook, litOf, litAV, mget, mhas, acopy, asrc, adst, cav, look, acallPure, abin, abinN, abinP, abinI, abinS, aun, aconv, afield, afieldAddr, aindexAddr, aindex, aslice, alow, ahigh, abuild, abuildGo, cellsOf, splice, fieldTy, alen, apick, amax, amin, aload, headV, aparts, abuildSlice, elParts, abytesStr, astore, amake, aappend, aclear, anew, arith, aresults, aresList, ares, spec0, spec1, spec2, spec3, spec4, eqCells, eqCell, CB, bA, hlt, rowAt_enc hlt, k1, rowAt_enc k1]
  refine loop_ruleH (C := CE) sigCE mixCE [8] (fun n : Nat => ⟨[(1, .ptr 0 1 4 0 0), (3, .own 1 ((unpI c i).length + n)), (8, Enc.enc c.Nodes), (9, .int .i64 c.Nodes.length), (10, .int .i64 i), (4, .int .i64 i), (5, .int .i64 (ix c.Nodes i)), (6, .int .i64 (ix c.First i + n))], [CB c, bA (unpI c i ++ rowU c i (ix c.First i).toNat n)]⟩) (fun n => (ix c.First i).toNat + n ≤ (ix c.First (i + 1)).toNat) (fun n => (ix c.First (i + 1)).toNat - n) (by kernel_rfl) ⟨0, by omega, weak_eq (by simp) (by simp [CB, bA, rowU])⟩ (fun n hn => ?_)
  have hle := unpI_le hs ⟨l1, l2, l3, l4⟩ hlt hn
  by_cases hnl : (ix c.First i).toNat + n < (ix c.First (i + 1)).toNat
  · have j1 : ix c.First i + n < ix c.First (i + 1) := by omega
    have j2 : (ix c.First i + n).toNat = (ix c.First i).toNat + n := by omega
    have j3 : (ix c.First i).toNat + n < c.To.length := by omega
    have j4 : (ix c.First i).toNat + n < c.Edge.length := by omega
    have j5 : 0 ≤ ix c.First i + n := by omega
    have j6 : ix c.First i + n < c.To.length := by omega
    have j7 : ix c.First i + n < c.Edge.length := by omega
    have j8 : I64 (ix c.First i + n + 1) := by have := l3; unfold Len at this; unfold I64; omega
    have hro := rowU_succ c i (ix c.First i).toNat n
    have hrl := rowU_len c i (ix c.First i).toNat n
    simp [aev, gav, alook, litOf, litAV, mget, mhas, acopy, asrc, adst, cav, look, acallPure, abin, abinN, abinP, abinI, abinS, aun, aconv, afield, afieldAddr, aindexAddr, aindex, aslice, alow, ahigh, abuild, abuildGo, cellsOf, splice, fieldTy, alen, apick, amax, amin, aload, headV, aparts, abuildSlice, elParts, abytesStr, astore, amake, aappend, aclear, anew, arith, aresults, aresList, ares, spec0, spec1, spec2, spec3, spec4, eqCells, eqCell, CB, bA, i1, k2, k3, rowAt_enc k2, j1]
    refine ⟨by omega, ?_⟩
    refine AW_regionF sigCE mixCE [.pure, .pure, .pure, .read, .pure, .pure, .read, .pure, .read, .pure, .pure, .read, .pure, .read, .eff, .pure] [[],[],[],[2],[],[4,2,3],[3,2,4,5],[],[7],[],[9,7,8],[8,7,9,10],[10,9,7,8,11,5,4,2,3,6,1],[1,6,3,2,4,5,11,8,7,9,10,12],[12,10,9,7,8,11,5,4,2,3,6,1,13,0],[0,13,1,6,3,2,4,5,11,8,7,9,10,12,14]] (by kernel_rfl) (by kernel_rfl) (by kernel_rfl) (by kernel_rfl) ?_
    simp [aev, gav, alook, litOf, litAV, mget, mhas, acopy, asrc, adst, cav, look, acallPure, abin, abinN, abinP, abinI, abinS, aun, aconv, afield, afieldAddr, aindexAddr, aindex, aslice, alow, ahigh, abuild, abuildGo, cellsOf, splice, fieldTy, alen, apick, amax, amin, aload, headV, aparts, abuildSlice, elParts, abytesStr, astore, amake, aappend, aclear, anew, arith, aresults, aresList, ares, spec0, spec1, spec2, spec3, spec4, eqCells, eqCell, CB, bA, i1, j2, j3, j4, j5, j6, j7, j8, rowAt_enc j3, rowAt_enc j4, hrl]
    refine ⟨by omega, n + 1, by omega, by omega, weak_eq (by simp; omega) ?_⟩
    rw [hro]
    try simp [CB, bA]
  · have j1 : ¬ ix c.First i + n < ix c.First (i + 1) := by omega
    have e : n = (ix c.First (i + 1) - ix c.First i).toNat := by omega
    have hun : unpI c (i + 1) = unpI c i ++ rowU c i (ix c.First i).toNat n := by rw [e]; rfl
    have hrl := rowU_len c i (ix c.First i).toNat n
    simp [aev, gav, alook, litOf, litAV, mget, mhas, acopy, asrc, adst, cav, look, acallPure, abin, abinN, abinP, abinI, abinS, aun, aconv, afield, afieldAddr, aindexAddr, aindex, aslice, alow, ahigh, abuild, abuildGo, cellsOf, splice, fieldTy, alen, apick, amax, amin, aload, headV, aparts, abuildSlice, elParts, abytesStr, astore, amake, aappend, aclear, anew, arith, aresults, aresList, ares, spec0, spec1, spec2, spec3, spec4, eqCells, eqCell, CB, bA, i1, k2, k3, rowAt_enc k2, j1]
    refine ⟨by omega, i + 1, by omega, by omega, weak_eq (by simp [hun, hrl]) (by simp [CB, bA, hun])⟩
set_option maxHeartbeats 16000000 in
theorem flatR : PureOK Try.prog G0 55 sUnp := by
  refine pureH1 (C := CE) sigCE mixCE Try.func55 rfl rfl rfl [8] (by kernel_rfl) (by decide) (fun c ⟨hs, hl⟩ => ?_)
  obtain ⟨l1, l2, l3, l4⟩ := hl
  obtain ⟨r, hr⟩ : ∃ r, unpackC c = r := ⟨_, rfl⟩
  rw [hr]
  simp [aev, gav, alook, litOf, litAV, mget, mhas, acopy, asrc, adst, cav, look, acallPure, abin, abinN, abinP, abinI, abinS, aun, aconv, afield, afieldAddr, aindexAddr, aindex, aslice, alow, ahigh, abuild, abuildGo, cellsOf, splice, fieldTy, alen, apick, amax, amin, aload, headV, aparts, abuildSlice, elParts, abytesStr, astore, amake, aappend, aclear, anew, arith, aresults, aresList, ares, spec0, spec1, spec2, spec3, spec4, eqCells, eqCell]
  refine AW.weak (weak_nil 3 3 29 rfl (by decide)) ?_
  refine loop_ruleH (C := CE) sigCE mixCE [8] (fun i : Nat => ⟨[(1, .ptr 0 1 4 0 0), (3, .own 1 (unpI c i).length), (4, .int .i64 i)], [CB c, bA (unpI c i)]⟩) (fun i => i ≤ c.Nodes.length) (fun i => c.Nodes.length - i) (by kernel_rfl) ⟨0, by omega, weak_eq (by simp [unpI]) (by simp [CB, bA, unpI])⟩ (fun i hi => ?_)
  by_cases hlt : i < c.Nodes.length
  case neg =>
    obtain rfl : i = c.Nodes.length := by omega
    have hr' : unpI c c.Nodes.length = r := hr
    simp [aev, gav, alook, litOf, litAV, mget, mhas, acopy, asrc, adst, cav, look, acallPure, abin, abinN, abinP, abinI, abinS, aun, aconv, afield, afieldAddr, aindexAddr, aindex, aslice, alow, ahigh, abuild, abuildGo, cellsOf, splice, fieldTy, alen, apick, amax, amin, aload, headV, aparts, abuildSlice, elParts, abytesStr, astore, amake, aappend, aclear, anew, arith, aresults, aresList, ares, spec0, spec1, spec2, spec3, spec4, eqCells, eqCell, CB, bA, hr']
  have hS := unp_get hs hlt
  have i1 := (len_i l1 hi).1
  have k1 : i < c.First.length := by have := hS.f; omega
  have k2 : i + 1 < c.First.length := by have := hS.f; omega
  have k3 : ((i : Int) + 1).toNat = i + 1 := by omega
  have hn1 := hS.nn (i := i) (by omega)
  have hn2 := hS.nn (i := i + 1) (by omega)
  have hup := hS.up i hlt
  have hte := hS.te
  simp [aev, gav, alook, litOf, litAV, mget, mhas, acopy, asrc, adst, cav, look, acallPure, abin, abinN, abinP, abinI, abinS, aun, aconv, afield, afieldAddr, aindexAddr, aindex, aslice, alow, ahigh, abuild, abuildGo, cellsOf, splice, fieldTy, alen, apick, amax, amin, aload, headV, aparts, abuildSlice, elParts, abytesStr, astore, amake, aappend, aclear, anew, arith, aresults, aresList, ares, spec0, spec1, spec2, spec3, spec4, eqCells, eqCell, CB, bA, hlt, rowAt_enc hlt, k1, rowAt_enc k1]
  refine loop_ruleH (C := CE) sigCE mixCE [8] (fun n : Nat => ⟨[(1, .ptr 0 1 4 0 0), (3, .own 1 ((unpI c i).length + n)), (4, .int .i64 i), (5, .int .i64 (ix c.First i + n))], [CB c, bA (unpI c i ++ rowU c i (ix c.First i).toNat n)]⟩) (fun n => (ix c.First i).toNat + n ≤ (ix c.First (i + 1)).toNat) (fun n => (ix c.First (i + 1)).toNat - n) (by kernel_rfl) ⟨0, by omega, weak_eq (by simp) (by simp [CB, bA, rowU])⟩ (fun n hn => ?_)
  have hle := unpI_le hs ⟨l1, l2, l3, l4⟩ hlt hn
  by_cases hnl : (ix c.First i).toNat + n < (ix c.First (i + 1)).toNat
  · have j1 : ix c.First i + n < ix c.First (i + 1) := by omega
    have j2 : (ix c.First i + n).toNat = (ix c.First i).toNat + n := by omega
    have j3 : (ix c.First i).toNat + n < c.To.length := by omega
    have j4 : (ix c.First i).toNat + n < c.Edge.length := by omega
    have j5 : 0 ≤ ix c.First i + n := by omega
    have j6 : ix c.First i + n < c.To.length := by omega
    have j7 : ix c.First i + n < c.Edge.length := by omega
    have j8 : I64 (ix c.First i + n + 1) := by have := l3; unfold Len at this; unfold I64; omega
    have hro := rowU_succ c i (ix c.First i).toNat n
    have hrl := rowU_len c i (ix c.First i).toNat n
    simp [aev, gav, alook, litOf, litAV, mget, mhas, acopy, asrc, adst, cav, look, acallPure, abin, abinN, abinP, abinI, abinS, aun, aconv, afield, afieldAddr, aindexAddr, aindex, aslice, alow, ahigh, abuild, abuildGo, cellsOf, splice, fieldTy, alen, apick, amax, amin, aload, headV, aparts, abuildSlice, elParts, abytesStr, astore, amake, aappend, aclear, anew, arith, aresults, aresList, ares, spec0, spec1, spec2, spec3, spec4, eqCells, eqCell, CB, bA, i1, k2, k3, rowAt_enc k2, j1]
    refine ⟨by omega, ?_⟩
    refine AW_regionF sigCE mixCE [.pure, .pure, .read, .pure, .pure, .read, .pure, .read, .pure, .pure, .read, .pure, .read, .pure, .pure, .read, .pure, .read, .eff, .pure] [[],[],[1],[],[3,1,2],[2,1,3,4],[],[6],[],[8,6,7],[7,6,8,9],[],[11],[],[13,11,12],[12,11,13,14],[14,13,11,12,15,9,8,6,7,10,4,3,1,2,5],[5,2,1,3,4,10,7,6,8,9,15,12,11,13,14,16],[16,14,13,11,12,15,9,8,6,7,10,4,3,1,2,5,17,0],[0,17,5,2,1,3,4,10,7,6,8,9,15,12,11,13,14,16,18]] (by kernel_rfl) (by kernel_rfl) (by kernel_rfl) (by kernel_rfl) ?_
    simp [aev, gav, alook, litOf, litAV, mget, mhas, acopy, asrc, adst, cav, look, acallPure, abin, abinN, abinP, abinI, abinS, aun, aconv, afield, afieldAddr, aindexAddr, aindex, aslice, alow, ahigh, abuild, abuildGo, cellsOf, splice, fieldTy, alen, apick, amax, amin, aload, headV, aparts, abuildSlice, elParts, abytesStr, astore, amake, aappend, aclear, anew, arith, aresults, aresList, ares, spec0, spec1, spec2, spec3, spec4, eqCells, eqCell, CB, bA, i1, j2, j3, j4, j5, j6, j7, j8, hlt, rowAt_enc hlt, rowAt_enc j3, rowAt_enc j4, hrl]
    refine ⟨by omega, n + 1, by omega, by omega, weak_eq (by simp; omega) ?_⟩
    rw [hro]
    try simp [CB, bA]
  · have j1 : ¬ ix c.First i + n < ix c.First (i + 1) := by omega
    have e : n = (ix c.First (i + 1) - ix c.First i).toNat := by omega
    have hun : unpI c (i + 1) = unpI c i ++ rowU c i (ix c.First i).toNat n := by rw [e]; rfl
    have hrl := rowU_len c i (ix c.First i).toNat n
    simp [aev, gav, alook, litOf, litAV, mget, mhas, acopy, asrc, adst, cav, look, acallPure, abin, abinN, abinP, abinI, abinS, aun, aconv, afield, afieldAddr, aindexAddr, aindex, aslice, alow, ahigh, abuild, abuildGo, cellsOf, splice, fieldTy, alen, apick, amax, amin, aload, headV, aparts, abuildSlice, elParts, abytesStr, astore, amake, aappend, aclear, anew, arith, aresults, aresList, ares, spec0, spec1, spec2, spec3, spec4, eqCells, eqCell, CB, bA, i1, k2, k3, rowAt_enc k2, j1]
    refine ⟨by omega, i + 1, by omega, by omega, weak_eq (by simp [hun, hrl]) (by simp [CB, bA, hun])⟩
end Go.Proofs.Ytkhgjbjkjefeoaa

/-
  overlay: valid columns (plain).
-/
namespace Go.Proofs.Ytkhgjbjkjefeoaa
open Go.RowKit
set_option linter.unusedSimpArgs false
set_option linter.unusedVariables false

/-- Strictly rising, neighbour by neighbour. -/
def UpA (l : List Adj) : Prop := ∀ i, 0 < i → i < l.length → LtA (ix l (i - 1)) (ix l i)
/-- No two of the same edge. -/
def DisE (l : List Adj) : Prop := ∀ i j, i < j → j < l.length → (ix l i).Edge ≠ (ix l j).Edge
theorem UpA.pw {l : List Adj} (h : UpA l) : ∀ i j, i < j → j < l.length → LtA (ix l i) (ix l j) := by
  intro i j
  induction j with
  | zero => intro h; omega
  | succ j ih =>
    intro hij hj
    have h1 := h (j + 1) (by omega) hj
    rw [Nat.add_sub_cancel] at h1
    rcases Nat.lt_or_eq_of_le (Nat.le_of_lt_succ hij) with h2 | rfl
    · exact lt_trans (ih h2 (by omega)) h1
    · exact h1
theorem up_iff {l : List Adj} : UpA l ↔ l.Pairwise LtA := by
  rw [List.pairwise_iff_getElem]
  constructor
  · intro h i j hi hj hij
    have := h.pw i j hij hj
    rwa [ix_lt hi, ix_lt hj] at this
  · intro h i h0 hi
    have := h (i - 1) i (by omega) hi (by omega)
    rwa [← ix_lt hi, ← ix_lt (show i - 1 < l.length by omega)] at this
theorem dis_iff {l : List Adj} : DisE l ↔ (l.map (·.Edge)).Nodup := by
  rw [List.Nodup, List.pairwise_map, List.pairwise_iff_getElem]
  constructor
  · intro h i j hi hj hij
    have := h i j hij hj
    rwa [ix_lt hi, ix_lt hj] at this
  · intro h i j hij hj
    have := h i j (by omega) hj hij
    rwa [← ix_lt hj, ← ix_lt (show i < l.length by omega)] at this
structure ValidC (c : Col) : Prop where
  s : ShapeC c
  n : ∀ i, 0 < i → i < c.Nodes.length → ix c.Nodes (i - 1) < ix c.Nodes i
  f : ∀ a ∈ unpackC c, FormA a
  u : UpA (unpackC c)
  d : DisE (unpackC c)
/-- What the reference asks is the same. -/
theorem validC_iff {c : Col} : ValidC c ↔ ShapeR c ∧ (∀ j, j < c.To.length → IdOK (ix c.To j) ∧ IdOK (ix c.Edge j)) ∧ UpA (unpackC c) ∧ DisE (unpackC c) := by
  have hto : ShapeC c → ((∀ a ∈ unpackC c, FormA a) ↔ (∀ a ∈ unpackC c, IdOK a.From) ∧ ∀ j, j < c.To.length → IdOK (ix c.To j) ∧ IdOK (ix c.Edge j)) := fun hs => by
    by_cases h0 : c.Nodes.length = 0
    · unfold ShapeC at hs
      rw [if_pos h0] at hs
      have e : unpackC c = [] := by unfold unpackC; rw [h0]; rfl
      rw [e, hs.1]
      simp
    · unfold ShapeC at hs
      rw [if_neg h0] at hs
      have hm := unp_to hs
      have key : (∀ a ∈ unpackC c, IdOK a.To ∧ IdOK a.Edge) ↔ ∀ j, j < c.To.length → IdOK (ix c.To j) ∧ IdOK (ix c.Edge j) := by
        have h1 : (∀ p ∈ (unpackC c).map (fun a => (a.To, a.Edge)), IdOK p.1 ∧ IdOK p.2) ↔ ∀ a ∈ unpackC c, IdOK a.To ∧ IdOK a.Edge := by simp
        rw [← h1, hm]
        simp
      rw [← key]
      unfold FormA
      constructor
      · intro h; exact ⟨fun a ha => (h a ha).1, fun a ha => (h a ha).2⟩
      · intro h a ha; exact ⟨h.1 a ha, h.2 a ha⟩
  have hfr : ShapeC c → ((∀ a ∈ unpackC c, IdOK a.From) ↔ ∀ i, i < c.Nodes.length → IdOK (ix c.Nodes i)) := fun hs => by
    constructor
    · intro h i hi
      obtain ⟨a, ha, e⟩ := unp_nodes (unp_get hs hi) hi
      rw [← e]; exact h a ha
    · intro h a ha
      obtain ⟨i, hi, e⟩ := unp_mem ha
      rw [e]; exact h i hi
  constructor
  · intro h
    obtain ⟨h1, h2⟩ := (hto h.s).1 h.f
    exact ⟨⟨h.s, (hfr h.s).1 h1, h.n⟩, h2, h.u, h.d⟩
  · rintro ⟨⟨h1, h2, h3⟩, h4, h5, h6⟩
    exact ⟨h1, h3, (hto h1).2 ⟨(hfr h1).2 h2, h4⟩, h5, h6⟩
noncomputable def vcB (c : Col) : Bool := @decide (ValidC c) (Classical.propDecidable _)
theorem vcB_true {c : Col} : vcB c = true ↔ ValidC c := @decide_eq_true_iff _ (Classical.propDecidable _)
theorem vcB_false {c : Col} : vcB c = false ↔ ¬ ValidC c := @decide_eq_false_iff_not _ (Classical.propDecidable _)
/-- A set of numbers as puts into a map of booleans. -/
def setL (l : List Int) : List (Lit × Lit) := l.map fun e => (.int .i64 e, .bool true)
theorem mget_set (l : List Int) (v : Int) : mget (setL l) (.int .i64 v) (.bool false) = .bool (decide (v ∈ l)) := by
  induction l with
  | nil => rfl
  | cons a r ih =>
    show (if (Lit.int .i64 a).sameKey (.int .i64 v) then Lit.bool true else mget (setL r) _ _) = _
    rw [ih]
    have hk : (Lit.int .i64 a).sameKey (.int .i64 v) = decide (a = v) := by
      rw [Bool.eq_iff_iff, WideAt.sameKey_iff (by trivial)]
      simp
    rw [hk]
    by_cases h : a = v
    · simp [h]
    · have h' : ¬ v = a := fun e => h e.symm
      simp [h, h']
/-- The edges of the first k entries, the newest first. -/
def seenL (l : List Adj) (k : Nat) : List (Lit × Lit) := setL ((l.take k).map (·.Edge)).reverse
def SeenE (l : List Adj) (k : Nat) (v : Int) : Prop := v ∈ (l.take k).map (·.Edge)
instance (l : List Adj) (k : Nat) (v : Int) : Decidable (SeenE l k v) := inferInstanceAs (Decidable (_ ∈ _))
theorem seen_iff {l : List Adj} {k : Nat} (hk : k ≤ l.length) {v : Int} : SeenE l k v ↔ ∃ j, j < k ∧ (ix l j).Edge = v := by
  unfold SeenE
  rw [List.mem_map]
  constructor
  · rintro ⟨a, ha, rfl⟩
    obtain ⟨j, hj, rfl⟩ := List.getElem_of_mem ha
    rw [List.length_take] at hj
    refine ⟨j, by omega, ?_⟩
    rw [List.getElem_take, ← ix_lt (show j < l.length by omega)]
  · rintro ⟨j, hj, rfl⟩
    refine ⟨ix l j, ?_, rfl⟩
    rw [List.mem_take_iff_getElem]
    exact ⟨j, by omega, (ix_lt (by omega)).symm⟩
theorem seen_get (l : List Adj) (k : Nat) (v : Int) : mget (seenL l k) (.int .i64 v) (.bool false) = .bool (decide (SeenE l k v)) := by
  unfold seenL SeenE
  rw [mget_set]
  simp
theorem seen_zero (l : List Adj) : seenL l 0 = [] := rfl
theorem seen_succ {l : List Adj} {k : Nat} (hk : k < l.length) : (Lit.int .i64 (ix l k).Edge, Lit.bool true) :: seenL l k = seenL l (k + 1) := by
  unfold seenL
  rw [List.take_succ_eq_append_getElem hk, List.map_append, List.reverse_append, ix_lt hk]
  rfl
theorem seen_len {l : List Adj} {k : Nat} (hk : k ≤ l.length) : (seenL l k).length = k := by
  unfold seenL setL
  simp [hk]
end Go.Proofs.Ytkhgjbjkjefeoaa


/-
  overlay: Valid of a column, the program's side (a map of the edges seen).
-/
namespace Go.Proofs.Ytkhgjbjkjefeoaa
open Go.RowKit
set_option linter.unusedSimpArgs false
set_option linter.unusedVariables false
set_option maxRecDepth 100000

noncomputable def sValC : List AV → Option (Prop × AV) := spec1 LenC (fun c => .bool (vcB c))
noncomputable def CVc : Ctx := mkC Try.prog G0 [(75, .pure sShape), (65, .pure sUnp), (76, .pure sId), (77, .pure sOrder)]
@[simp] theorem CVc_P : CVc.P = Try.prog := rfl
@[simp] theorem CVc_G : CVc.G = G0 := rfl
@[simp] theorem CVc_1 : CVc.S 75 = .pure sShape := rfl
@[simp] theorem CVc_2 : CVc.S 65 = .pure sUnp := rfl
@[simp] theorem CVc_3 : CVc.S 76 = .pure sId := rfl
@[simp] theorem CVc_4 : CVc.S 77 = .pure sOrder := rfl
theorem mixCVc : CVc.P.follows .mixedOrders = true := mixed
theorem sigCVc : SigOK CVc := sigOK_cons (entryPure (shapeP) Try.func75 rfl (by decide)) (sigOK_cons (entryPure (unpP) Try.func65 rfl (by decide)) (sigOK_cons (entryPure (idC) Try.func76 rfl (by decide)) (sigOK_cons (entryPure (orderC) Try.func77 rfl (by decide)) (sigOK_nil _ _))))
theorem noMap {C : Ctx} (h : C.G = G0) : ∀ g k e L, C.G g ≠ .mapof k e L := fun g k e L => by rw [h]; simp [G0]
theorem id_i64 {n : Int} (h : IdOK n) : I64 n := by unfold IdOK at h; unfold I64; omega
theorem unp_len1 {c : Col} (hs : ShapeC c) (hl : LenC c) : Len (unpackC c) := by
  unfold Len
  rw [unp_len hs]
  exact hl.2.2.1
set_option maxHeartbeats 16000000 in
theorem validCP : PureOK Try.prog G0 51 sValC := by
  refine pureM1 (C := CVc) sigCVc mixCVc (noMap rfl) Try.func51 rfl rfl rfl [10, 16] [14] (by kernel_rfl) (by decide) (fun c hl => ?_)
  obtain ⟨r, hr⟩ : ∃ r, vcB c = r := ⟨_, rfl⟩
  rw [hr]
  have yes : ValidC c → r = true := fun h => by rw [← hr]; exact vcB_true.2 h
  have no : ¬ ValidC c → r = false := fun h => by rw [← hr]; exact vcB_false.2 h
  clear hr
  by_cases hs : ShapeC c
  case neg =>
    have hr0 := no fun h => hs h.s
    have hb := shB_false.2 hs
    simp [aev, gav, alook, litOf, litAV, mget, mhas, acopy, asrc, adst, cav, look, acallPure, abin, abinN, abinP, abinI, abinS, aun, aconv, afield, afieldAddr, aindexAddr, aindex, aslice, alow, ahigh, abuild, abuildGo, cellsOf, splice, fieldTy, alen, apick, amax, amin, aload, headV, aparts, abuildSlice, elParts, abytesStr, astore, amake, aappend, aclear, anew, arith, aresults, aresList, ares, spec0, spec1, spec2, spec3, spec4, eqCells, eqCell, sShape, hl, hb, hr0]
  have hb := shB_true.2 hs
  obtain ⟨l1, l2, l3, l4⟩ := id hl
  simp [aev, gav, alook, litOf, litAV, mget, mhas, acopy, asrc, adst, cav, look, acallPure, abin, abinN, abinP, abinI, abinS, aun, aconv, afield, afieldAddr, aindexAddr, aindex, aslice, alow, ahigh, abuild, abuildGo, cellsOf, splice, fieldTy, alen, apick, amax, amin, aload, headV, aparts, abuildSlice, elParts, abytesStr, astore, amake, aappend, aclear, anew, arith, aresults, aresList, ares, spec0, spec1, spec2, spec3, spec4, eqCells, eqCell, sShape, hl, hb]
  refine loop_ruleM (C := CVc) sigCVc mixCVc [10, 16] [14] (fun q : Nat => ⟨[(1, .ptr 0 1 4 0 0), (13, Enc.enc c.Nodes), (14, .int .i64 c.Nodes.length), (15, .int .i64 q)], [CB c]⟩) (fun _ => G0) (fun q => q ≤ c.Nodes.length ∧ ∀ i, 0 < i → i < q → ix c.Nodes (i - 1) < ix c.Nodes i) (fun q => c.Nodes.length - q) (by kernel_rfl) ⟨0, ⟨by omega, fun i _ hi => by omega⟩, rfl, weak_eq (by simp) (by simp [CB])⟩ (fun k ⟨hk, hn⟩ => ?_)
  by_cases hlt : k < c.Nodes.length
  · have i1 := (len_i l1 hk).1
    by_cases h7 : k = 0
    · have h7' : ¬ 0 < k := by omega
      simp [aev, gav, alook, litOf, litAV, mget, mhas, acopy, asrc, adst, cav, look, acallPure, abin, abinN, abinP, abinI, abinS, aun, aconv, afield, afieldAddr, aindexAddr, aindex, aslice, alow, ahigh, abuild, abuildGo, cellsOf, splice, fieldTy, alen, apick, amax, amin, aload, headV, aparts, abuildSlice, elParts, abytesStr, astore, amake, aappend, aclear, anew, arith, aresults, aresList, ares, spec0, spec1, spec2, spec3, spec4, eqCells, eqCell, CB, hlt, rowAt_enc hlt, h7', i1]
      exact ⟨k + 1, ⟨by omega, fun i h hi => by omega⟩, by omega, weak_eq (by simp) (by simp [CB])⟩
    · have k6 : 0 < k := by omega
      have hln : c.Nodes.length ≤ 1000000000 := l1
      have k7 : I64 ((k : Int) - 1) := by unfold I64; omega
      have k8 : ((k : Int) - 1).toNat = k - 1 := by omega
      have k9 : k - 1 < c.Nodes.length := by omega
      have k10 : (1 : Int) ≤ k := by omega
      have k11 : (k : Int) - 1 < c.Nodes.length := by omega
      by_cases h8 : ix c.Nodes (k - 1) < ix c.Nodes k
      · have h8' : ¬ ix c.Nodes k ≤ ix c.Nodes (k - 1) := by omega
        simp [aev, gav, alook, litOf, litAV, mget, mhas, acopy, asrc, adst, cav, look, acallPure, abin, abinN, abinP, abinI, abinS, aun, aconv, afield, afieldAddr, aindexAddr, aindex, aslice, alow, ahigh, abuild, abuildGo, cellsOf, splice, fieldTy, alen, apick, amax, amin, aload, headV, aparts, abuildSlice, elParts, abytesStr, astore, amake, aappend, aclear, anew, arith, aresults, aresList, ares, spec0, spec1, spec2, spec3, spec4, eqCells, eqCell, CB, hlt, rowAt_enc hlt, k6, k7, k8, k9, k10, k11, rowAt_enc k9, h8', i1]
        refine ⟨k + 1, ⟨by omega, fun i h hi => ?_⟩, by omega, weak_eq (by simp) (by simp [CB])⟩
        rcases Nat.lt_or_eq_of_le (Nat.le_of_lt_succ hi) with h' | rfl
        · exact hn i h h'
        · exact h8
      · have h8' : ix c.Nodes k ≤ ix c.Nodes (k - 1) := by omega
        have hr0 := no fun h => h8 (h.n k k6 hlt)
        simp [aev, gav, alook, litOf, litAV, mget, mhas, acopy, asrc, adst, cav, look, acallPure, abin, abinN, abinP, abinI, abinS, aun, aconv, afield, afieldAddr, aindexAddr, aindex, aslice, alow, ahigh, abuild, abuildGo, cellsOf, splice, fieldTy, alen, apick, amax, amin, aload, headV, aparts, abuildSlice, elParts, abytesStr, astore, amake, aappend, aclear, anew, arith, aresults, aresList, ares, spec0, spec1, spec2, spec3, spec4, eqCells, eqCell, CB, hlt, rowAt_enc hlt, k6, k7, k8, k9, k10, k11, rowAt_enc k9, h8', hr0]
  obtain rfl : k = c.Nodes.length := by omega
  clear hlt hk
  have hu : PreU c := ⟨hs, hl⟩
  simp [aev, gav, alook, litOf, litAV, mget, mhas, acopy, asrc, adst, cav, look, acallPure, abin, abinN, abinP, abinI, abinS, aun, aconv, afield, afieldAddr, aindexAddr, aindex, aslice, alow, ahigh, abuild, abuildGo, cellsOf, splice, fieldTy, alen, apick, amax, amin, aload, headV, aparts, abuildSlice, elParts, abytesStr, astore, amake, aappend, aclear, anew, arith, aresults, aresList, ares, spec0, spec1, spec2, spec3, spec4, eqCells, eqCell, CB, sUnp, hu]
  intro b hb0
  have hLl := unp_len1 hs hl
  have hll : (unpackC c).length ≤ 1000000000 := hLl
  generalize hU : unpackC c = l at *
  refine loop_ruleM (C := CVc) sigCVc mixCVc [10, 16] [14] (fun q : Nat × List Blk => ⟨[(1, .ptr 0 1 4 0 0), (5, Enc.enc l), (6, .mapp b), (36, Enc.enc l), (37, .int .i64 l.length), (38, .int .i64 q.1)], [CB c] ++ q.2⟩) (fun q => upd G0 b (.mapof 3 4 (seenL l q.1))) (fun q => q.1 ≤ l.length ∧ (∀ i, i < q.1 → FormA (ix l i)) ∧ (∀ i, 0 < i → i < q.1 → LtA (ix l (i - 1)) (ix l i)) ∧ ∀ i j, i < j → j < q.1 → (ix l i).Edge ≠ (ix l j).Edge) (fun q => l.length - q.1) (by kernel_rfl) ⟨(0, []), ⟨by simp, fun i hi => by simp at hi, fun i _ hi => by simp at hi, fun i j _ hj => by simp at hj⟩, by simp [seen_zero], weak_eq (by simp) (by simp [CB])⟩ (fun ⟨k, Z⟩ ⟨hk, hf, hu1, hd1⟩ => ?_)
  simp only at hk hf hu1 hd1 ⊢
  by_cases hlt : k < l.length
  case neg =>
    obtain rfl : k = l.length := by omega
    have hr0 := yes ⟨hs, hn, fun a ha => by rw [hU] at ha; obtain ⟨j, hj, rfl⟩ := mem_ix ha; exact hf j hj, by rw [hU]; exact hu1, by rw [hU]; exact hd1⟩
    simp [aev, gav, alook, litOf, litAV, mget, mhas, acopy, asrc, adst, cav, look, acallPure, abin, abinN, abinP, abinI, abinS, aun, aconv, afield, afieldAddr, aindexAddr, aindex, aslice, alow, ahigh, abuild, abuildGo, cellsOf, splice, fieldTy, alen, apick, amax, amin, aload, headV, aparts, abuildSlice, elParts, abytesStr, astore, amake, aappend, aclear, anew, arith, aresults, aresList, ares, spec0, spec1, spec2, spec3, spec4, eqCells, eqCell, CB, hlt, hr0]
  have i1 := (len_i hLl hk).1
  simp [aev, gav, alook, litOf, litAV, mget, mhas, acopy, asrc, adst, cav, look, acallPure, abin, abinN, abinP, abinI, abinS, aun, aconv, afield, afieldAddr, aindexAddr, aindex, aslice, alow, ahigh, abuild, abuildGo, cellsOf, splice, fieldTy, alen, apick, amax, amin, aload, headV, aparts, abuildSlice, elParts, abytesStr, astore, amake, aappend, aclear, anew, arith, aresults, aresList, ares, spec0, spec1, spec2, spec3, spec4, eqCells, eqCell, CB, hlt, rowAt_enc hlt]
  refine AWm_regionF sigCVc mixCVc [.pure, .read, .read, .pure, .pure, .pure, .read, .read, .pure, .pure, .pure, .pure, .read, .read, .pure, .pure, .pure, .pure, .pure, .read, .pure, .pure, .pure, .pure, .pure, .pure, .pure, .pure, .pure, .pure, .read, .read, .read, .pure, .pure, .pure] [[],[0],[0,1],[1,0,2],[2,0,1,3],[3,1,0,2,4],[4,2,0,1,3,5],[5,3,1,0,2,4,6],[6,4,2,0,1,3,5,7],[7,5,6,8,3,1,0,2,4],[4,2,0,1,3,8,6,5,7,9],[9,7,5,6,8,3,1,0,2,4,10],[10,4,2,0,1,3,8,6,5,7,9,11],[11,9,7,5,6,8,3,1,0,2,4,10,12],[12,10,4,2,0,1,3,8,6,5,7,9,11,13],[13,11,12,14,9,7,5,6,8,3,1,0,2,4,10],[10,4,2,0,1,3,8,6,5,7,9,14,12,11,13,15],[15,13,11,12,14,9,7,5,6,8,3,1,0,2,4,10,16],[15,13,11,12,14,9,7,5,6,8,3,1,0,2,4,10,16],[16,10,4,2,0,1,3,8,6,5,7,9,14,12,11,13,15,18],[18,19,16,10,4,2,0,1,3,8,6,5,7,9,14,12,11,13,15,17],[17,19,18,20,15,13,11,12,14,9,7,5,6,8,3,1,0,2,4,10,16],[16,10,4,2,0,1,3,8,6,5,7,9,14,12,11,13,15,20,18,19,17,21],[21,17,19,18,20,15,13,11,12,14,9,7,5,6,8,3,1,0,2,4,10,16,22],[22,16,10,4,2,0,1,3,8,6,5,7,9,14,12,11,13,15,20,18,19,17,21,23],[23,21,17,19,18,20,15,13,11,12,14,9,7,5,6,8,3,1,0,2,4,10,16,22,24],[24,22,16,10,4,2,0,1,3,8,6,5,7,9,14,12,11,13,15,20,18,19,17,21,23,25],[24,22,16,10,4,2,0,1,3,8,6,5,7,9,14,12,11,13,15,20,18,19,17,21,23,25],[25,23,21,17,19,18,20,15,13,11,12,14,9,7,5,6,8,3,1,0,2,4,10,16,22,24,27],[27,28,25,23,21,17,19,18,20,15,13,11,12,14,9,7,5,6,8,3,1,0,2,4,10,16,22,24,26],[26,24,22,16,10,4,2,0,1,3,8,6,5,7,9,14,12,11,13,15,20,18,19,17,21,23,25,28,27,29],[24,22,16,10,4,2,0,1,3,8,6,5,7,9,14,12,11,13,15,20,18,19,17,21,23,25],[31,29,27,28,25,23,21,17,19,18,20,15,13,11,12,14,9,7,5,6,8,3,1,0,2,4,10,16,22,24,26,30],[30,26,24,22,16,10,4,2,0,1,3,8,6,5,7,9,14,12,11,13,15,20,18,19,17,21,23,25,28,27,29,31,32],[32,31,29,27,28,26,30,33,24,22,16,10,4,2,0,1,3,8,6,5,7,9,14,12,11,13,15,20,18,19,17,21,23,25],[25,23,24,33,30,26,28,27,29,31,32,34,21,17,19,18,20,15,13,11,12,14,9,7,5,6,8,3,1,0,2,4,10,16,22]] (by kernel_rfl) (by kernel_rfl) (by kernel_rfl) (by kernel_rfl) ?_
  have hsl := seen_len hk
  have hsi : ∀ v, SeenE l k v ↔ ∃ j, j < k ∧ (ix l j).Edge = v := fun v => seen_iff hk
  by_cases f1 : IdOK (ix l k).From
  case neg =>
    have hr0 := no fun h => f1 (h.f _ (by rw [hU]; exact ix_mem hlt)).1
    simp [aev, gav, alook, litOf, litAV, mget, mhas, acopy, asrc, adst, cav, look, acallPure, abin, abinN, abinP, abinI, abinS, aun, aconv, afield, afieldAddr, aindexAddr, aindex, aslice, alow, ahigh, abuild, abuildGo, cellsOf, splice, fieldTy, alen, apick, amax, amin, aload, headV, aparts, abuildSlice, elParts, abytesStr, astore, amake, aappend, aclear, anew, arith, aresults, aresList, ares, spec0, spec1, spec2, spec3, spec4, eqCells, eqCell, hlt, rowAt_enc hlt, sId, f1, hr0]
  by_cases f2 : IdOK (ix l k).To
  case neg =>
    have hr0 := no fun h => f2 (h.f _ (by rw [hU]; exact ix_mem hlt)).2.1
    simp [aev, gav, alook, litOf, litAV, mget, mhas, acopy, asrc, adst, cav, look, acallPure, abin, abinN, abinP, abinI, abinS, aun, aconv, afield, afieldAddr, aindexAddr, aindex, aslice, alow, ahigh, abuild, abuildGo, cellsOf, splice, fieldTy, alen, apick, amax, amin, aload, headV, aparts, abuildSlice, elParts, abytesStr, astore, amake, aappend, aclear, anew, arith, aresults, aresList, ares, spec0, spec1, spec2, spec3, spec4, eqCells, eqCell, hlt, rowAt_enc hlt, sId, f1, f2, hr0]
  by_cases f3 : IdOK (ix l k).Edge
  case neg =>
    have hr0 := no fun h => f3 (h.f _ (by rw [hU]; exact ix_mem hlt)).2.2
    simp [aev, gav, alook, litOf, litAV, mget, mhas, acopy, asrc, adst, cav, look, acallPure, abin, abinN, abinP, abinI, abinS, aun, aconv, afield, afieldAddr, aindexAddr, aindex, aslice, alow, ahigh, abuild, abuildGo, cellsOf, splice, fieldTy, alen, apick, amax, amin, aload, headV, aparts, abuildSlice, elParts, abytesStr, astore, amake, aappend, aclear, anew, arith, aresults, aresList, ares, spec0, spec1, spec2, spec3, spec4, eqCells, eqCell, hlt, rowAt_enc hlt, sId, f1, f2, f3, hr0]
  have f4 := id_i64 f3
  by_cases f5 : SeenE l k (ix l k).Edge
  case pos =>
    obtain ⟨j, hj, e⟩ := (hsi _).1 f5
    have hr0 := no fun h => by have h1 := h.d; rw [hU] at h1; exact h1 j k hj hlt e
    simp [aev, gav, alook, litOf, litAV, mget, mhas, acopy, asrc, adst, cav, look, acallPure, abin, abinN, abinP, abinI, abinS, aun, aconv, afield, afieldAddr, aindexAddr, aindex, aslice, alow, ahigh, abuild, abuildGo, cellsOf, splice, fieldTy, alen, apick, amax, amin, aload, headV, aparts, abuildSlice, elParts, abytesStr, astore, amake, aappend, aclear, anew, arith, aresults, aresList, ares, spec0, spec1, spec2, spec3, spec4, eqCells, eqCell, hlt, rowAt_enc hlt, sId, f1, f2, f3, f4, seen_get, f5, hr0]
  have nx : ∀ (h : 0 < k → LtA (ix l (k - 1)) (ix l k)), k + 1 ≤ l.length ∧ (∀ i, i < k + 1 → FormA (ix l i)) ∧ (∀ i, 0 < i → i < k + 1 → LtA (ix l (i - 1)) (ix l i)) ∧ ∀ i j, i < j → j < k + 1 → (ix l i).Edge ≠ (ix l j).Edge := fun h => by
    refine ⟨by omega, fun i hi => ?_, fun i h0 hi => ?_, fun i j hij hj => ?_⟩
    · rcases Nat.lt_or_eq_of_le (Nat.le_of_lt_succ hi) with h' | rfl
      · exact hf i h'
      · exact ⟨f1, f2, f3⟩
    · rcases Nat.lt_or_eq_of_le (Nat.le_of_lt_succ hi) with h' | rfl
      · exact hu1 i h0 h'
      · exact h h0
    · rcases Nat.lt_or_eq_of_le (Nat.le_of_lt_succ hj) with h' | rfl
      · exact hd1 i j hij h'
      · exact fun e => f5 ((hsi _).2 ⟨i, hij, e⟩)
  by_cases h7 : k = 0
  · have h7' : ¬ 0 < k := by omega
    simp [aev, gav, alook, litOf, litAV, mget, mhas, acopy, asrc, adst, cav, look, acallPure, abin, abinN, abinP, abinI, abinS, aun, aconv, afield, afieldAddr, aindexAddr, aindex, aslice, alow, ahigh, abuild, abuildGo, cellsOf, splice, fieldTy, alen, apick, amax, amin, aload, headV, aparts, abuildSlice, elParts, abytesStr, astore, amake, aappend, aclear, anew, arith, aresults, aresList, ares, spec0, spec1, spec2, spec3, spec4, eqCells, eqCell, hlt, rowAt_enc hlt, sId, f1, f2, f3, f4, seen_get, f5, h7', i1, hsl, seen_succ hlt]
    refine ⟨by omega, k + 1, nx fun h => absurd h h7', by omega, rfl, ?_⟩
    exact ⟨_, weak_eq (by simp) rfl⟩
  have k6 : 0 < k := by omega
  have k7 : I64 ((k : Int) - 1) := by unfold I64; omega
  have k8 : ((k : Int) - 1).toNat = k - 1 := by omega
  have k9 : k - 1 < l.length := by omega
  have k10 : (1 : Int) ≤ k := by omega
  have k11 : (k : Int) - 1 < l.length := by omega
  by_cases h8 : LtA (ix l (k - 1)) (ix l k)
  · have h8' : ¬ 0 ≤ cmpA (ix l (k - 1)) (ix l k) := by have := cmpA_lt.2 h8; omega
    simp [aev, gav, alook, litOf, litAV, mget, mhas, acopy, asrc, adst, cav, look, acallPure, abin, abinN, abinP, abinI, abinS, aun, aconv, afield, afieldAddr, aindexAddr, aindex, aslice, alow, ahigh, abuild, abuildGo, cellsOf, splice, fieldTy, alen, apick, amax, amin, aload, headV, aparts, abuildSlice, elParts, abytesStr, astore, amake, aappend, aclear, anew, arith, aresults, aresList, ares, spec0, spec1, spec2, spec3, spec4, eqCells, eqCell, hlt, rowAt_enc hlt, sId, f1, f2, f3, f4, seen_get, f5, k6, k7, k8, k9, k10, k11, rowAt_enc k9, sOrder, h8', i1, hsl, seen_succ hlt]
    refine ⟨by omega, k + 1, nx fun _ => h8, by omega, rfl, ?_⟩
    exact ⟨_, weak_eq (by simp) rfl⟩
  · have h8' : 0 ≤ cmpA (ix l (k - 1)) (ix l k) := by have := mt cmpA_lt.1 h8; omega
    have hr0 := no fun h => by have h1 := h.u; rw [hU] at h1; exact h8 (h1 k k6 hlt)
    simp [aev, gav, alook, litOf, litAV, mget, mhas, acopy, asrc, adst, cav, look, acallPure, abin, abinN, abinP, abinI, abinS, aun, aconv, afield, afieldAddr, aindexAddr, aindex, aslice, alow, ahigh, abuild, abuildGo, cellsOf, splice, fieldTy, alen, apick, amax, amin, aload, headV, aparts, abuildSlice, elParts, abytesStr, astore, amake, aappend, aclear, anew, arith, aresults, aresList, ares, spec0, spec1, spec2, spec3, spec4, eqCells, eqCell, hlt, rowAt_enc hlt, sId, f1, f2, f3, f4, seen_get, f5, k6, k7, k8, k9, k10, k11, rowAt_enc k9, sOrder, h8', hr0]
end Go.Proofs.Ytkhgjbjkjefeoaa


/-
  overlay: Valid of a column, the reference's side; Entries of a column.
-/
namespace Go.Proofs.Ytkhgjbjkjefeoaa
open Go.RowKit
set_option linter.unusedSimpArgs false
set_option linter.unusedVariables false
set_option maxRecDepth 100000

noncomputable def CVr : Ctx := mkC Try.prog G0 [(78, .pure sShapeR), (55, .pure sUnp), (79, .pure sId), (80, .pure sLt)]
@[simp] theorem CVr_P : CVr.P = Try.prog := rfl
@[simp] theorem CVr_G : CVr.G = G0 := rfl
@[simp] theorem CVr_1 : CVr.S 78 = .pure sShapeR := rfl
@[simp] theorem CVr_2 : CVr.S 55 = .pure sUnp := rfl
@[simp] theorem CVr_3 : CVr.S 79 = .pure sId := rfl
@[simp] theorem CVr_4 : CVr.S 80 = .pure sLt := rfl
theorem mixCVr : CVr.P.follows .mixedOrders = true := mixed
theorem sigCVr : SigOK CVr := sigOK_cons (entryPure (shapeR) Try.func78 rfl (by decide)) (sigOK_cons (entryPure (flatR) Try.func55 rfl (by decide)) (sigOK_cons (entryPure (idR) Try.func79 rfl (by decide)) (sigOK_cons (entryPure (ltR) Try.func80 rfl (by decide)) (sigOK_nil _ _))))
theorem shape_te {c : Col} (h : ShapeC c) : c.To.length = c.Edge.length := by
  unfold ShapeC at h
  split at h
  · rw [h.1, h.2.1]
  · exact h.te
set_option maxHeartbeats 16000000 in
theorem validCR : PureOK Try.prog G0 53 sValC := by
  refine pureH1 (C := CVr) sigCVr mixCVr Try.func53 rfl rfl rfl [12, 20] (by kernel_rfl) (by decide) (fun c hl => ?_)
  obtain ⟨r, hr⟩ : ∃ r, vcB c = r := ⟨_, rfl⟩
  rw [hr]
  have yes : ValidC c → r = true := fun h => by rw [← hr]; exact vcB_true.2 h
  have no : ¬ ValidC c → r = false := fun h => by rw [← hr]; exact vcB_false.2 h
  rw [validC_iff] at yes no
  clear hr
  by_cases hs : ShapeR c
  case neg =>
    have hr0 := no fun h => hs h.1
    have hb := shR_false.2 hs
    simp [aev, gav, alook, litOf, litAV, mget, mhas, acopy, asrc, adst, cav, look, acallPure, abin, abinN, abinP, abinI, abinS, aun, aconv, afield, afieldAddr, aindexAddr, aindex, aslice, alow, ahigh, abuild, abuildGo, cellsOf, splice, fieldTy, alen, apick, amax, amin, aload, headV, aparts, abuildSlice, elParts, abytesStr, astore, amake, aappend, aclear, anew, arith, aresults, aresList, ares, spec0, spec1, spec2, spec3, spec4, eqCells, eqCell, sShapeR, hl, hb, hr0]
  have hb := shR_true.2 hs
  obtain ⟨l1, l2, l3, l4⟩ := id hl
  have hte := shape_te hs.1
  simp [aev, gav, alook, litOf, litAV, mget, mhas, acopy, asrc, adst, cav, look, acallPure, abin, abinN, abinP, abinI, abinS, aun, aconv, afield, afieldAddr, aindexAddr, aindex, aslice, alow, ahigh, abuild, abuildGo, cellsOf, splice, fieldTy, alen, apick, amax, amin, aload, headV, aparts, abuildSlice, elParts, abytesStr, astore, amake, aappend, aclear, anew, arith, aresults, aresList, ares, spec0, spec1, spec2, spec3, spec4, eqCells, eqCell, sShapeR, hl, hb]
  refine loop_ruleH (C := CVr) sigCVr mixCVr [12, 20] (fun q : Nat => ⟨[(1, .ptr 0 1 4 0 0), (3, .int .i64 q)], [CB c]⟩) (fun q => q ≤ c.To.length ∧ ∀ i, i < q → IdOK (ix c.To i) ∧ IdOK (ix c.Edge i)) (fun q => c.To.length - q) (by kernel_rfl) ⟨0, ⟨by omega, fun i hi => by omega⟩, weak_eq (by simp) (by simp [CB])⟩ (fun k ⟨hk, hn⟩ => ?_)
  by_cases hlt : k < c.To.length
  · have i1 := (len_i l3 hk).1
    have hlte : k < c.Edge.length := by omega
    by_cases f1 : IdOK (ix c.To k)
    case neg =>
      have hr0 := no fun h => f1 (h.2.1 k hlt).1
      simp [aev, gav, alook, litOf, litAV, mget, mhas, acopy, asrc, adst, cav, look, acallPure, abin, abinN, abinP, abinI, abinS, aun, aconv, afield, afieldAddr, aindexAddr, aindex, aslice, alow, ahigh, abuild, abuildGo, cellsOf, splice, fieldTy, alen, apick, amax, amin, aload, headV, aparts, abuildSlice, elParts, abytesStr, astore, amake, aappend, aclear, anew, arith, aresults, aresList, ares, spec0, spec1, spec2, spec3, spec4, eqCells, eqCell, CB, hlt, rowAt_enc hlt, sId, f1, hr0]
    by_cases f2 : IdOK (ix c.Edge k)
    case neg =>
      have hr0 := no fun h => f2 (h.2.1 k hlt).2
      simp [aev, gav, alook, litOf, litAV, mget, mhas, acopy, asrc, adst, cav, look, acallPure, abin, abinN, abinP, abinI, abinS, aun, aconv, afield, afieldAddr, aindexAddr, aindex, aslice, alow, ahigh, abuild, abuildGo, cellsOf, splice, fieldTy, alen, apick, amax, amin, aload, headV, aparts, abuildSlice, elParts, abytesStr, astore, amake, aappend, aclear, anew, arith, aresults, aresList, ares, spec0, spec1, spec2, spec3, spec4, eqCells, eqCell, CB, hlt, rowAt_enc hlt, hlte, rowAt_enc hlte, sId, f1, f2, hr0]
    simp [aev, gav, alook, litOf, litAV, mget, mhas, acopy, asrc, adst, cav, look, acallPure, abin, abinN, abinP, abinI, abinS, aun, aconv, afield, afieldAddr, aindexAddr, aindex, aslice, alow, ahigh, abuild, abuildGo, cellsOf, splice, fieldTy, alen, apick, amax, amin, aload, headV, aparts, abuildSlice, elParts, abytesStr, astore, amake, aappend, aclear, anew, arith, aresults, aresList, ares, spec0, spec1, spec2, spec3, spec4, eqCells, eqCell, CB, hlt, rowAt_enc hlt, hlte, rowAt_enc hlte, sId, f1, f2, i1]
    refine ⟨k + 1, ⟨by omega, fun i hi => ?_⟩, by omega, weak_eq (by simp) (by simp [CB])⟩
    rcases Nat.lt_or_eq_of_le (Nat.le_of_lt_succ hi) with h' | rfl
    · exact hn i h'
    · exact ⟨f1, f2⟩
  obtain rfl : k = c.To.length := by omega
  clear hlt hk
  have hu : PreU c := ⟨hs.1, hl⟩
  simp [aev, gav, alook, litOf, litAV, mget, mhas, acopy, asrc, adst, cav, look, acallPure, abin, abinN, abinP, abinI, abinS, aun, aconv, afield, afieldAddr, aindexAddr, aindex, aslice, alow, ahigh, abuild, abuildGo, cellsOf, splice, fieldTy, alen, apick, amax, amin, aload, headV, aparts, abuildSlice, elParts, abytesStr, astore, amake, aappend, aclear, anew, arith, aresults, aresList, ares, spec0, spec1, spec2, spec3, spec4, eqCells, eqCell, CB, sUnp, hu]
  have hLl := unp_len1 hs.1 hl
  have hll : (unpackC c).length ≤ 1000000000 := hLl
  generalize hU : unpackC c = l at *
  refine loop_ruleH (C := CVr) sigCVr mixCVr [12, 20] (fun q : Nat => ⟨[(1, .ptr 0 1 4 0 0), (4, Enc.enc l), (5, .int .i64 q)], [CB c]⟩) (fun q => 1 ≤ q ∧ (q ≤ l.length ∨ q = 1) ∧ ∀ i, 0 < i → i < q → LtA (ix l (i - 1)) (ix l i)) (fun q => l.length - q) (by kernel_rfl) ⟨1, ⟨by omega, .inr rfl, fun i h hi => by omega⟩, weak_eq (by simp) (by simp [CB])⟩ (fun k ⟨hk1, hk, hu1⟩ => ?_)
  by_cases hlt : k < l.length
  · have i1 : I64 ((k : Int) + 1) := by unfold I64; omega
    have k7 : I64 ((k : Int) - 1) := by unfold I64; omega
    have k8 : ((k : Int) - 1).toNat = k - 1 := by omega
    have k9 : k - 1 < l.length := by omega
    have k10 : (1 : Int) ≤ k := by omega
    have k11 : (k : Int) - 1 < l.length := by omega
    simp [aev, gav, alook, litOf, litAV, mget, mhas, acopy, asrc, adst, cav, look, acallPure, abin, abinN, abinP, abinI, abinS, aun, aconv, afield, afieldAddr, aindexAddr, aindex, aslice, alow, ahigh, abuild, abuildGo, cellsOf, splice, fieldTy, alen, apick, amax, amin, aload, headV, aparts, abuildSlice, elParts, abytesStr, astore, amake, aappend, aclear, anew, arith, aresults, aresList, ares, spec0, spec1, spec2, spec3, spec4, eqCells, eqCell, CB, hlt]
    refine AW_regionF sigCVr mixCVr [.pure, .pure, .pure, .pure, .read, .pure, .pure, .pure, .read, .read, .pure] [[],[],[1],[1,2,0],[0,2,1,3],[],[],[6,5],[5,6,7],[7,6,5,8,3,1,2,0,4],[4,0,2,1,3,8,5,6,7,9]] (by kernel_rfl) (by kernel_rfl) (by kernel_rfl) (by kernel_rfl) ?_
    by_cases h8 : LtA (ix l (k - 1)) (ix l k)
    · simp [aev, gav, alook, litOf, litAV, mget, mhas, acopy, asrc, adst, cav, look, acallPure, abin, abinN, abinP, abinI, abinS, aun, aconv, afield, afieldAddr, aindexAddr, aindex, aslice, alow, ahigh, abuild, abuildGo, cellsOf, splice, fieldTy, alen, apick, amax, amin, aload, headV, aparts, abuildSlice, elParts, abytesStr, astore, amake, aappend, aclear, anew, arith, aresults, aresList, ares, spec0, spec1, spec2, spec3, spec4, eqCells, eqCell, CB, hlt, rowAt_enc hlt, k7, k8, k9, hk1, k10, k11, rowAt_enc k9, sLt, h8, i1]
      refine ⟨k + 1, ⟨by omega, .inl (by omega), fun i h0 hi => ?_⟩, by omega, weak_eq (by simp) (by simp [CB])⟩
      rcases Nat.lt_or_eq_of_le (Nat.le_of_lt_succ hi) with h' | rfl
      · exact hu1 i h0 h'
      · exact h8
    · have hr0 := no fun h => h8 (h.2.2.1 k (by omega) hlt)
      simp [aev, gav, alook, litOf, litAV, mget, mhas, acopy, asrc, adst, cav, look, acallPure, abin, abinN, abinP, abinI, abinS, aun, aconv, afield, afieldAddr, aindexAddr, aindex, aslice, alow, ahigh, abuild, abuildGo, cellsOf, splice, fieldTy, alen, apick, amax, amin, aload, headV, aparts, abuildSlice, elParts, abytesStr, astore, amake, aappend, aclear, anew, arith, aresults, aresList, ares, spec0, spec1, spec2, spec3, spec4, eqCells, eqCell, CB, hlt, rowAt_enc hlt, k7, k8, k9, hk1, k10, k11, rowAt_enc k9, sLt, h8, hr0]
  have hup : UpA l := fun i h0 hi => hu1 i h0 (by omega)
  simp [aev, gav, alook, litOf, litAV, mget, mhas, acopy, asrc, adst, cav, look, acallPure, abin, abinN, abinP, abinI, abinS, aun, aconv, afield, afieldAddr, aindexAddr, aindex, aslice, alow, ahigh, abuild, abuildGo, cellsOf, splice, fieldTy, alen, apick, amax, amin, aload, headV, aparts, abuildSlice, elParts, abytesStr, astore, amake, aappend, aclear, anew, arith, aresults, aresList, ares, spec0, spec1, spec2, spec3, spec4, eqCells, eqCell, CB, hlt]
  refine loop_ruleH (C := CVr) sigCVr mixCVr [12, 20] (fun q : Nat => ⟨[(1, .ptr 0 1 4 0 0), (4, Enc.enc l), (6, .int .i64 q)], [CB c]⟩) (fun q => q ≤ l.length ∧ ∀ i j, i < j → j < q → (ix l i).Edge ≠ (ix l j).Edge) (fun q => l.length - q) (by kernel_rfl) ⟨0, ⟨by omega, fun i j _ hj => by omega⟩, weak_eq (by simp) (by simp [CB])⟩ (fun k ⟨hk, hd⟩ => ?_)
  by_cases hlt : k < l.length
  · have i1 := (len_i hLl hk).1
    simp [aev, gav, alook, litOf, litAV, mget, mhas, acopy, asrc, adst, cav, look, acallPure, abin, abinN, abinP, abinI, abinS, aun, aconv, afield, afieldAddr, aindexAddr, aindex, aslice, alow, ahigh, abuild, abuildGo, cellsOf, splice, fieldTy, alen, apick, amax, amin, aload, headV, aparts, abuildSlice, elParts, abytesStr, astore, amake, aappend, aclear, anew, arith, aresults, aresList, ares, spec0, spec1, spec2, spec3, spec4, eqCells, eqCell, CB, hlt]
    refine loop_ruleH (C := CVr) sigCVr mixCVr [12, 20] (fun q : Nat => ⟨[(1, .ptr 0 1 4 0 0), (4, Enc.enc l), (6, .int .i64 k), (7, .int .i64 q)], [CB c]⟩) (fun q => q ≤ k ∧ ∀ i, i < q → (ix l i).Edge ≠ (ix l k).Edge) (fun q => k - q) (by kernel_rfl) ⟨0, ⟨by omega, fun i hi => by omega⟩, weak_eq (by simp) (by simp [CB])⟩ (fun m ⟨hm, he⟩ => ?_)
    by_cases hmk : m < k
    · have i2 := (len_i hLl (show m ≤ l.length by omega)).1
      have hml : m < l.length := by omega
      simp [aev, gav, alook, litOf, litAV, mget, mhas, acopy, asrc, adst, cav, look, acallPure, abin, abinN, abinP, abinI, abinS, aun, aconv, afield, afieldAddr, aindexAddr, aindex, aslice, alow, ahigh, abuild, abuildGo, cellsOf, splice, fieldTy, alen, apick, amax, amin, aload, headV, aparts, abuildSlice, elParts, abytesStr, astore, amake, aappend, aclear, anew, arith, aresults, aresList, ares, spec0, spec1, spec2, spec3, spec4, eqCells, eqCell, CB, hmk]
      refine AW_regionF sigCVr mixCVr [.pure, .pure, .pure, .pure, .read, .pure, .pure, .pure, .pure, .read, .pure] [[],[],[1,0],[0,1,2],[2,1,0,3],[],[],[6,5],[5,6,7],[7,6,5,8],[8,5,6,7,9,3,0,1,2,4]] (by kernel_rfl) (by kernel_rfl) (by kernel_rfl) (by kernel_rfl) ?_
      by_cases h8 : (ix l m).Edge = (ix l k).Edge
      · have hr0 := no fun h => h.2.2.2 m k hmk hlt h8
        simp [aev, gav, alook, litOf, litAV, mget, mhas, acopy, asrc, adst, cav, look, acallPure, abin, abinN, abinP, abinI, abinS, aun, aconv, afield, afieldAddr, aindexAddr, aindex, aslice, alow, ahigh, abuild, abuildGo, cellsOf, splice, fieldTy, alen, apick, amax, amin, aload, headV, aparts, abuildSlice, elParts, abytesStr, astore, amake, aappend, aclear, anew, arith, aresults, aresList, ares, spec0, spec1, spec2, spec3, spec4, eqCells, eqCell, CB, hlt, rowAt_enc hlt, hml, rowAt_enc hml, h8, hr0]
      · simp [aev, gav, alook, litOf, litAV, mget, mhas, acopy, asrc, adst, cav, look, acallPure, abin, abinN, abinP, abinI, abinS, aun, aconv, afield, afieldAddr, aindexAddr, aindex, aslice, alow, ahigh, abuild, abuildGo, cellsOf, splice, fieldTy, alen, apick, amax, amin, aload, headV, aparts, abuildSlice, elParts, abytesStr, astore, amake, aappend, aclear, anew, arith, aresults, aresList, ares, spec0, spec1, spec2, spec3, spec4, eqCells, eqCell, CB, hlt, rowAt_enc hlt, hml, rowAt_enc hml, h8, i2]
        refine ⟨m + 1, ⟨by omega, fun i hi => ?_⟩, by omega, weak_eq (by simp) (by simp [CB])⟩
        rcases Nat.lt_or_eq_of_le (Nat.le_of_lt_succ hi) with h' | rfl
        · exact he i h'
        · exact h8
    · simp [aev, gav, alook, litOf, litAV, mget, mhas, acopy, asrc, adst, cav, look, acallPure, abin, abinN, abinP, abinI, abinS, aun, aconv, afield, afieldAddr, aindexAddr, aindex, aslice, alow, ahigh, abuild, abuildGo, cellsOf, splice, fieldTy, alen, apick, amax, amin, aload, headV, aparts, abuildSlice, elParts, abytesStr, astore, amake, aappend, aclear, anew, arith, aresults, aresList, ares, spec0, spec1, spec2, spec3, spec4, eqCells, eqCell, CB, hmk, i1]
      refine ⟨k + 1, ⟨by omega, fun i j hij hj => ?_⟩, by omega, weak_eq (by simp) (by simp [CB])⟩
      rcases Nat.lt_or_eq_of_le (Nat.le_of_lt_succ hj) with h' | rfl
      · exact hd i j hij h'
      · exact he i (by omega)
  · have hr0 := yes ⟨hs, hn, hup, fun i j hij hj => hd i j hij (by omega)⟩
    simp [aev, gav, alook, litOf, litAV, mget, mhas, acopy, asrc, adst, cav, look, acallPure, abin, abinN, abinP, abinI, abinS, aun, aconv, afield, afieldAddr, aindexAddr, aindex, aslice, alow, ahigh, abuild, abuildGo, cellsOf, splice, fieldTy, alen, apick, amax, amin, aload, headV, aparts, abuildSlice, elParts, abytesStr, astore, amake, aappend, aclear, anew, arith, aresults, aresList, ares, spec0, spec1, spec2, spec3, spec4, eqCells, eqCell, CB, hlt, hr0]
noncomputable def entC (c : Col) : List Adj := if vcB c = true then unpackC c else []
noncomputable def sEntC : List AV → Option (Prop × AV) := spec1 LenC (fun c => Enc.enc (entC c))
noncomputable def CEc : Ctx := mkC Try.prog G0 [(51, .pure sValC), (65, .pure sUnp)]
@[simp] theorem CEc_P : CEc.P = Try.prog := rfl
@[simp] theorem CEc_G : CEc.G = G0 := rfl
@[simp] theorem CEc_1 : CEc.S 51 = .pure sValC := rfl
@[simp] theorem CEc_2 : CEc.S 65 = .pure sUnp := rfl
theorem mixCEc : CEc.P.follows .mixedOrders = true := mixed
theorem sigCEc : SigOK CEc := sigOK_cons (entryPure (validCP) Try.func51 rfl (by decide)) (sigOK_cons (entryPure (unpP) Try.func65 rfl (by decide)) (sigOK_nil _ _))
noncomputable def CEr : Ctx := mkC Try.prog G0 [(53, .pure sValC), (55, .pure sUnp)]
@[simp] theorem CEr_P : CEr.P = Try.prog := rfl
@[simp] theorem CEr_G : CEr.G = G0 := rfl
@[simp] theorem CEr_1 : CEr.S 53 = .pure sValC := rfl
@[simp] theorem CEr_2 : CEr.S 55 = .pure sUnp := rfl
theorem mixCEr : CEr.P.follows .mixedOrders = true := mixed
theorem sigCEr : SigOK CEr := sigOK_cons (entryPure (validCR) Try.func53 rfl (by decide)) (sigOK_cons (entryPure (flatR) Try.func55 rfl (by decide)) (sigOK_nil _ _))
theorem entCP : PureOK Try.prog G0 36 sEntC := by
  refine pureH1 (C := CEc) sigCEc mixCEc Try.func36 rfl rfl rfl [] (by kernel_rfl) (by decide) (fun c hl => ?_)
  by_cases hv : vcB c = true
  · have e : entC c = unpackC c := if_pos hv
    have hu : PreU c := ⟨(vcB_true.1 hv).s, hl⟩
    simp [aev, gav, alook, litOf, litAV, mget, mhas, acopy, asrc, adst, cav, look, acallPure, abin, abinN, abinP, abinI, abinS, aun, aconv, afield, afieldAddr, aindexAddr, aindex, aslice, alow, ahigh, abuild, abuildGo, cellsOf, splice, fieldTy, alen, apick, amax, amin, aload, headV, aparts, abuildSlice, elParts, abytesStr, astore, amake, aappend, aclear, anew, arith, aresults, aresList, ares, spec0, spec1, spec2, spec3, spec4, eqCells, eqCell, sValC, hl, hv, sUnp, hu, e]
  · have e : entC c = [] := if_neg hv
    simp [aev, gav, alook, litOf, litAV, mget, mhas, acopy, asrc, adst, cav, look, acallPure, abin, abinN, abinP, abinI, abinS, aun, aconv, afield, afieldAddr, aindexAddr, aindex, aslice, alow, ahigh, abuild, abuildGo, cellsOf, splice, fieldTy, alen, apick, amax, amin, aload, headV, aparts, abuildSlice, elParts, abytesStr, astore, amake, aappend, aclear, anew, arith, aresults, aresList, ares, spec0, spec1, spec2, spec3, spec4, eqCells, eqCell, sValC, hl, hv, e]
theorem entCR : PureOK Try.prog G0 22 sEntC := by
  refine pureH1 (C := CEr) sigCEr mixCEr Try.func22 rfl rfl rfl [] (by kernel_rfl) (by decide) (fun c hl => ?_)
  by_cases hv : vcB c = true
  · have e : entC c = unpackC c := if_pos hv
    have hu : PreU c := ⟨(vcB_true.1 hv).s, hl⟩
    simp [aev, gav, alook, litOf, litAV, mget, mhas, acopy, asrc, adst, cav, look, acallPure, abin, abinN, abinP, abinI, abinS, aun, aconv, afield, afieldAddr, aindexAddr, aindex, aslice, alow, ahigh, abuild, abuildGo, cellsOf, splice, fieldTy, alen, apick, amax, amin, aload, headV, aparts, abuildSlice, elParts, abytesStr, astore, amake, aappend, aclear, anew, arith, aresults, aresList, ares, spec0, spec1, spec2, spec3, spec4, eqCells, eqCell, sValC, hl, hv, sUnp, hu, e]
  · have e : entC c = [] := if_neg hv
    simp [aev, gav, alook, litOf, litAV, mget, mhas, acopy, asrc, adst, cav, look, acallPure, abin, abinN, abinP, abinI, abinS, aun, aconv, afield, afieldAddr, aindexAddr, aindex, aslice, alow, ahigh, abuild, abuildGo, cellsOf, splice, fieldTy, alen, apick, amax, amin, aload, headV, aparts, abuildSlice, elParts, abytesStr, astore, amake, aappend, aclear, anew, arith, aresults, aresList, ares, spec0, spec1, spec2, spec3, spec4, eqCells, eqCell, sValC, hl, hv, e]
end Go.Proofs.Ytkhgjbjkjefeoaa

/-
  overlay: how SortFunc at neighbours lies in this program (written by the kit's tool lay-plain).
-/
namespace Go.Proofs
open Go.Shelf
def Try.sortA_ren : Go.Shelf.Ren := ⟨fun | 6 => 61 | 15 => 86 | 14 => 85 | 28 => 101 | 29 => 102 | 20 => 93 | 21 => 94 | 22 => 95 | 23 => 96 | 24 => 97 | 25 => 98 | 26 => 99 | 27 => 100 | 46 => 106 | 47 => 107 | 48 => 108 | 49 => 109 | 50 => 110 | 57 => 111 | n => n, fun | 22 => 25 | 24 => 29 | 25 => 62 | 3 => 3 | 39 => 82 | 0 => 0 | 53 => 105 | 55 => 107 | 4 => 4 | 46 => 99 | 45 => 98 | 50 => 60 | 5 => 5 | 9 => 9 | 66 => 111 | 70 => 115 | 76 => 117 | 77 => 118 | n => n, fun | n => n⟩
theorem Try.sortA : Go.Proofs.SlLaysF0.n6 Try.prog Try.sortA_ren := {
  mixed := by kernel_rfl
  f6 := ⟨Try.f61.name, by decide, Try.func61.trans (congrArg some (by kernel_rfl))⟩
  f14 := ⟨Try.f85.name, by decide, Try.func85.trans (congrArg some (by kernel_rfl))⟩
  f15 := Try.func86.trans (congrArg some (by kernel_rfl))
  f20 := ⟨Try.f93.name, by decide, Try.func93.trans (congrArg some (by kernel_rfl))⟩
  f21 := ⟨Try.f94.name, by decide, Try.func94.trans (congrArg some (by kernel_rfl))⟩
  f22 := ⟨Try.f95.name, by decide, Try.func95.trans (congrArg some (by kernel_rfl))⟩
  f23 := ⟨Try.f96.name, by decide, Try.func96.trans (congrArg some (by kernel_rfl))⟩
  f24 := ⟨Try.f97.name, by decide, Try.func97.trans (congrArg some (by kernel_rfl))⟩
  f25 := ⟨Try.f98.name, by decide, Try.func98.trans (congrArg some (by kernel_rfl))⟩
  f26 := ⟨Try.f99.name, by decide, Try.func99.trans (congrArg some (by kernel_rfl))⟩
  f27 := ⟨Try.f100.name, by decide, Try.func100.trans (congrArg some (by kernel_rfl))⟩
  f28 := Try.func101.trans (congrArg some (by kernel_rfl))
  f29 := Try.func102.trans (congrArg some (by kernel_rfl))
  f46 := ⟨Try.f106.name, by decide, Try.func106.trans (congrArg some (by kernel_rfl))⟩
  f47 := Try.func107.trans (congrArg some (by kernel_rfl))
  f48 := Try.func108.trans (congrArg some (by kernel_rfl))
  f49 := ⟨Try.f109.name, by decide, Try.func109.trans (congrArg some (by kernel_rfl))⟩
  f50 := ⟨Try.f110.name, by decide, Try.func110.trans (congrArg some (by kernel_rfl))⟩
  f57 := ⟨Try.f111.name, by decide, Try.func111.trans (congrArg some (by kernel_rfl))⟩
  t0 := Try.underlying0
  a0 := Try.isAgg0
  z0 := Try.sizeOf0
  v0 := Try.zeroValue0
  t3 := Try.underlying3
  a3 := Try.isAgg3
  z3 := Try.sizeOf3
  v3 := Try.zeroValue3
  t4 := Try.underlying4
  a4 := Try.isAgg4
  z4 := Try.sizeOf4
  v4 := Try.zeroValue4
  t5 := Try.underlying5
  a5 := Try.isAgg5
  z5 := Try.sizeOf5
  v5 := Try.zeroValue5
  t9 := Try.underlying9
  a9 := Try.isAgg9
  z9 := Try.sizeOf9
  v9 := Try.zeroValue9
  t22 := Try.underlying25
  a22 := Try.isAgg25
  z22 := Try.sizeOf25
  v22 := Try.zeroValue25
  t25 := Try.underlying62
  a25 := Try.isAgg62
  z25 := Try.sizeOf62
  v25 := Try.zeroValue62
  t39 := Try.underlying82
  a39 := Try.isAgg82
  z39 := Try.sizeOf82
  v39 := Try.zeroValue82
  t45 := Try.underlying98
  a45 := Try.isAgg98
  z45 := Try.sizeOf98
  v45 := Try.zeroValue98
  t46 := Try.underlying99
  a46 := Try.isAgg99
  z46 := Try.sizeOf99
  v46 := Try.zeroValue99
  t50 := Try.underlying60
  a50 := Try.isAgg60
  z50 := Try.sizeOf60
  v50 := Try.zeroValue60
  t53 := Try.underlying105
  a53 := Try.isAgg105
  z53 := Try.sizeOf105
  v53 := Try.zeroValue105
  t55 := Try.underlying107
  a55 := Try.isAgg107
  z55 := Try.sizeOf107
  v55 := Try.zeroValue107
  t66 := Try.underlying111
  a66 := Try.isAgg111
  z66 := Try.sizeOf111
  v66 := Try.zeroValue111
  t70 := Try.underlying115
  a70 := Try.isAgg115
  z70 := Try.sizeOf115
  v70 := Try.zeroValue115
  t76 := Try.underlying117
  a76 := Try.isAgg117
  z76 := Try.sizeOf117
  v76 := Try.zeroValue117
  t77 := Try.underlying118
  a77 := Try.isAgg118
  z77 := Try.sizeOf118
  v77 := Try.zeroValue118 }
end Go.Proofs


/-
  overlay: the entries of an overlay, the program's side: kept, added, sorted.
-/
namespace Go.Proofs.Ytkhgjbjkjefeoaa
open Go.RowKit Go.Sort
set_option linter.unusedSimpArgs false
set_option linter.unusedVariables false
set_option maxRecDepth 100000

def encA (a : Adj) : List Value := [.int .i64 a.From, .int .i64 a.To, .int .i64 a.Edge]
theorem rep_int' {w : World} {X : Nat → Prop} {β : List BI} {H : List Blk} {v : Value} {k : IntKind} {n : Int} (h : Rep w X β H v (.int k n)) : v = .int k n := by
  cases h with
  | deep h => cases h; rfl
theorem flatAdj : FlatE Adj 3 encA where
  pos := by decide
  len _ := rfl
  clen _ := rfl
  one a v hv := by
    simp only [encA, List.mem_cons, List.not_mem_nil, or_false] at hv
    rcases hv with rfl | rfl | rfl <;> rfl
  rep a j av hj w X β H v hr := by
    match j with
    | 0 => injection hj with hj; subst hj; rw [rep_int' hr]; rfl
    | 1 => injection hj with hj; subst hj; rw [rep_int' hr]; rfl
    | 2 => injection hj with hj; subst hj; rw [rep_int' hr]; rfl
    | j + 3 => exact absurd hj (by simp)
  val a j v hj := by
    match j with
    | 0 => injection hj with hj; subst hj; exact ⟨_, rfl, fun _ _ => .int _ _⟩
    | 1 => injection hj with hj; subst hj; exact ⟨_, rfl, fun _ _ => .int _ _⟩
    | 2 => injection hj with hj; subst hj; exact ⟨_, rfl, fun _ _ => .int _ _⟩
    | j + 3 => exact absurd hj (by simp [encA])
  enc _ := rfl
  nrm a := by simp
theorem ltOf_A (a b : Adj) : ltOf cmpA a b = decide (LtA a b) := by
  unfold ltOf
  rw [Bool.eq_iff_iff]
  simp [cmpA_lt]
theorem swoA : SWO (ltOf cmpA) where
  irrefl x := by rw [ltOf_A]; exact decide_eq_false (lt_irr x)
  trans x y z h1 h2 := by rw [ltOf_A, decide_eq_true_iff] at *; exact lt_trans h1 h2
  ntrans x y z h1 h2 := by
    rw [ltOf_A, decide_eq_false_iff_not] at *
    intro h
    rcases lt_tri x y with h3 | rfl | h3
    · exact h1 h3
    · exact h2 h
    · exact h2 (lt_trans h3 h)
theorem totA (x y : Adj) (h1 : ltOf cmpA x y = false) (h2 : ltOf cmpA y x = false) : x = y := by
  rw [ltOf_A, decide_eq_false_iff_not] at h1 h2
  rcases lt_tri x y with h | h | h
  · exact absurd h h1
  · exact h
  · exact absurd h h2
def sortA (l : List Adj) : List Adj := sortBy cmpA l
theorem sortO : GenOK Try.prog G0 61 (sortGK 3 39 cmpA) :=
  gen_sortK Try.sortA rfl flatAdj Try.isAgg29 Try.sizeOf29 cmpA orderO (enters_of Try.func39 (by kernel_rfl) rfl) swoA totA
theorem sortC : GenOK Try.prog G0 61 (sortGK 3 77 cmpA) :=
  gen_sortK Try.sortA rfl flatAdj Try.isAgg29 Try.sizeOf29 cmpA orderC (enters_of Try.func77 (by kernel_rfl) rfl) swoA totA
end Go.Proofs.Ytkhgjbjkjefeoaa


/-
  overlay: AppendSeq, Collect and SortedFunc over slices.Values of entries.
-/
namespace Go.Proofs.Ytkhgjbjkjefeoaa
open Go.RowKit
set_option linter.unusedSimpArgs false
set_option linter.unusedVariables false
set_option maxRecDepth 100000

def sVals : List AV → Option (Prop × AV) := spec1 (fun (_ : List Adj) => True) (fun l => .fn 91 [.iptr [Enc.enc l]])
theorem valsP : PureOK Try.prog G0 83 sVals := by
  refine pureH1 (C := CE) sigCE mixCE Try.func83 rfl rfl rfl [] (by kernel_rfl) (by decide) (fun l _ => ?_)
  simp [aev, gav, alook, litOf, litAV, mget, mhas, acopy, asrc, adst, cav, look, acallPure, abin, abinN, abinP, abinI, abinS, aun, aconv, afield, afieldAddr, aindexAddr, aindex, aslice, alow, ahigh, abuild, abuildGo, cellsOf, splice, fieldTy, alen, apick, amax, amin, aload, headV, aparts, abuildSlice, elParts, abytesStr, astore, amake, aappend, aclear, anew, arith, aresults, aresList, ares, spec0, spec1, spec2, spec3, spec4, eqCells, eqCell]
def nApp : List AV → Option (Prop × AV × List Blk)
  | [.slice sz true [], .fn f [.iptr [v]]] => if f = 91 then some (sz = 3 ∧ v = Enc.enc (Enc.dec v : List Adj) ∧ (Enc.dec v : List Adj).length ≤ 1000000, .own 0 (Enc.dec v : List Adj).length, [bA (Enc.dec v)]) else none
  | _ => none
def appH (l : List Adj) (k : Nat) : List Blk := [⟨25, 1, [[.own 1 k]], true, false⟩, bA (l.take k)]
set_option maxHeartbeats 4000000 in
theorem appS : GenOK Try.prog G0 105 (genNew nApp) := by
  refine newX_of (C := CE) Try.func105 rfl rfl rfl (fun avs ob r Nn hp hob => ?_)
  unfold nApp at hp
  split at hp
  case h_2 => cases hp
  rename_i sz f v
  split at hp
  case isFalse => cases hp
  rename_i hf
  subst hf
  injection hp with hp; injection hp with e1 e2; injection e2 with e2 e3; subst e1 e2 e3
  obtain ⟨rfl, hv, hl⟩ := hob
  generalize (Enc.dec v : List Adj) = l at hv hl ⊢
  subst hv
  refine ⟨(by show 2 ≤ _; decide), by simp [okR, ok2, AV.clean1], by simp [bA], [1], by simp, fun X w0 Post hF => ?_⟩
  refine AWG_seq (C := CE) hF sigCE mixCE [] (by kernel_rfl) ?_
  simp [aev, gav, alook, litOf, litAV, mget, mhas, acopy, asrc, adst, cav, look, acallPure, abin, abinN, abinP, abinI, abinS, aun, aconv, afield, afieldAddr, aindexAddr, aindex, aslice, alow, ahigh, abuild, abuildGo, cellsOf, splice, fieldTy, alen, apick, amax, amin, aload, headV, aparts, abuildSlice, elParts, abytesStr, astore, amake, aappend, aclear, anew, arith, aresults, aresList, ares, spec0, spec1, spec2, spec3, spec4, eqCells, eqCell, argsρ]
  refine AWG_seq2 (C := CE) hF sigCE mixCE [] (by kernel_rfl) ?_
  simp [aev, gav, alook, litOf, litAV, mget, mhas, acopy, asrc, adst, cav, look, acallPure, abin, abinN, abinP, abinI, abinS, aun, aconv, afield, afieldAddr, aindexAddr, aindex, aslice, alow, ahigh, abuild, abuildGo, cellsOf, splice, fieldTy, alen, apick, amax, amin, aload, headV, aparts, abuildSlice, elParts, abytesStr, astore, amake, aappend, aclear, anew, arith, aresults, aresList, ares, spec0, spec1, spec2, spec3, spec4, eqCells, eqCell]
  refine AWGb.weak (weak_nilcell 0 0 0 3 29 rfl rfl rfl (by decide)) ?_
  refine range_vals (C := CE) rfl hF sigCE (vs := l) rfl hl (by decide) (by kernel_rfl) (by kernel_rfl) (by kernel_rfl) (appH l) rfl (fun k hk => ?_) ?_
  · have hm : min k l.length = k := by omega
    have e : l.take k ++ [ix l k] = l.take (k + 1) := by rw [List.take_succ_eq_append_getElem hk, ix_lt hk]
    simp [aev, gav, alook, litOf, litAV, mget, mhas, acopy, asrc, adst, cav, look, acallPure, abin, abinN, abinP, abinI, abinS, aun, aconv, afield, afieldAddr, aindexAddr, aindex, aslice, alow, ahigh, abuild, abuildGo, cellsOf, splice, fieldTy, alen, apick, amax, amin, aload, headV, aparts, abuildSlice, elParts, abytesStr, astore, amake, aappend, aclear, anew, arith, aresults, aresList, ares, spec0, spec1, spec2, spec3, spec4, eqCells, eqCell, appH, bA, hm]
    refine ⟨by omega, weak_keep 2 (by simp) (by simp) (by simp [AV.clean, AV.clean1]) (by simp [AV.clean, AV.clean1]) ?_⟩
    simp [← e]
  · simp [aev, gav, alook, litOf, litAV, mget, mhas, acopy, asrc, adst, cav, look, acallPure, abin, abinN, abinP, abinI, abinS, aun, aconv, afield, afieldAddr, aindexAddr, aindex, aslice, alow, ahigh, abuild, abuildGo, cellsOf, splice, fieldTy, alen, apick, amax, amin, aload, headV, aparts, abuildSlice, elParts, abytesStr, astore, amake, aappend, aclear, anew, arith, aresults, aresList, ares, spec0, spec1, spec2, spec3, spec4, eqCells, eqCell, appH, bA]
    simp [finG, finN, aev, gav, alook, litOf, litAV, mget, mhas, acopy, asrc, adst, cav, look, acallPure, abin, abinN, abinP, abinI, abinS, aun, aconv, afield, afieldAddr, aindexAddr, aindex, aslice, alow, ahigh, abuild, abuildGo, cellsOf, splice, fieldTy, alen, apick, amax, amin, aload, headV, aparts, abuildSlice, elParts, abytesStr, astore, amake, aappend, aclear, anew, arith, aresults, aresList, ares, spec0, spec1, spec2, spec3, spec4, eqCells, eqCell, bA]
def nCol : List AV → Option (Prop × AV × List Blk)
  | [.fn f [.iptr [v]]] => if f = 91 then some (v = Enc.enc (Enc.dec v : List Adj) ∧ (Enc.dec v : List Adj).length ≤ 1000000, .own 0 (Enc.dec v : List Adj).length, [bA (Enc.dec v)]) else none
  | _ => none
noncomputable def CCol : Ctx := mkC Try.prog G0 [(105, .gen (genNew nApp))]
@[simp] theorem CCol_P : CCol.P = Try.prog := rfl
@[simp] theorem CCol_G : CCol.G = G0 := rfl
@[simp] theorem CCol_1 : CCol.S 105 = .gen (genNew nApp) := rfl
theorem mixCCol : CCol.P.follows .mixedOrders = true := mixed
theorem sigCCol : SigOK CCol := sigOK_cons (entryGen (appS) Try.func105 rfl (by decide)) (sigOK_nil _ _)
set_option maxHeartbeats 4000000 in
theorem colS : GenOK Try.prog G0 90 (genNew nCol) := by
  refine new_of_AW (C := CCol) Try.func90 rfl rfl rfl (fun avs ob r Nn hp hob => ?_)
  unfold nCol at hp
  split at hp
  case h_2 => cases hp
  rename_i f v
  split at hp
  case isFalse => cases hp
  rename_i hf
  subst hf
  injection hp with hp; injection hp with e1 e2; injection e2 with e2 e3; subst e1 e2 e3
  obtain ⟨hv, hl⟩ := hob
  generalize (Enc.dec v : List Adj) = l at hv hl ⊢
  subst hv
  refine ⟨(by show 1 ≤ _; decide), by simp [okR, ok2, AV.clean1], by simp [bA], [0], by simp, avcH_sound (hd := []) sigCCol mixCCol _ (by kernel_rfl) ?_⟩
  simp [aev, gav, alook, litOf, litAV, mget, mhas, acopy, asrc, adst, cav, look, acallPure, abin, abinN, abinP, abinI, abinS, aun, aconv, afield, afieldAddr, aindexAddr, aindex, aslice, alow, ahigh, abuild, abuildGo, cellsOf, splice, fieldTy, alen, apick, amax, amin, aload, headV, aparts, abuildSlice, elParts, abytesStr, astore, amake, aappend, aclear, anew, arith, aresults, aresList, ares, spec0, spec1, spec2, spec3, spec4, eqCells, eqCell, argsρ, genNew, nApp, hl, bA]
def sSorted : List AV → Option (Prop × AV)
  | [.fn f [.iptr [v]], .fn g []] => if f = 91 ∧ g = 77 then some (v = Enc.enc (Enc.dec v : List Adj) ∧ (Enc.dec v : List Adj).length ≤ 1000000, Enc.enc (sortA (Enc.dec v))) else none
  | _ => none
noncomputable def CSrt : Ctx := mkC Try.prog G0 [(90, .gen (genNew nCol)), (61, .gen (sortGK 3 77 cmpA))]
@[simp] theorem CSrt_P : CSrt.P = Try.prog := rfl
@[simp] theorem CSrt_G : CSrt.G = G0 := rfl
@[simp] theorem CSrt_1 : CSrt.S 90 = .gen (genNew nCol) := rfl
@[simp] theorem CSrt_2 : CSrt.S 61 = .gen (sortGK 3 77 cmpA) := rfl
theorem mixCSrt : CSrt.P.follows .mixedOrders = true := mixed
theorem sigCSrt : SigOK CSrt := sigOK_cons (entryGen (colS) Try.func90 rfl (by decide)) (sigOK_cons (entryGen (sortC) Try.func61 rfl (by decide)) (sigOK_nil _ _))
set_option maxHeartbeats 4000000 in
theorem sortedS : PureOK Try.prog G0 82 sSorted :=
  pure_of_AW (C := CSrt) Try.func82 rfl rfl rfl fun avs ob r hp hob => by
    unfold sSorted at hp
    split at hp
    case h_2 => cases hp
    rename_i f v g
    split at hp
    case isFalse => cases hp
    rename_i hf
    obtain ⟨rfl, rfl⟩ := hf
    injection hp with hp; injection hp with e1 e2; subst e1 e2
    obtain ⟨hv, hl⟩ := hob
    generalize (Enc.dec v : List Adj) = l at hv hl ⊢
    subst hv
    refine ⟨Nat.le_of_ble_eq_true rfl, avcH_sound (hd := []) sigCSrt mixCSrt _ (by kernel_rfl) ?_⟩
    simp [aev, gav, alook, litOf, litAV, mget, mhas, acopy, asrc, adst, cav, look, acallPure, abin, abinN, abinP, abinI, abinS, aun, aconv, afield, afieldAddr, aindexAddr, aindex, aslice, alow, ahigh, abuild, abuildGo, cellsOf, splice, fieldTy, alen, apick, amax, amin, aload, headV, aparts, abuildSlice, elParts, abytesStr, astore, amake, aappend, aclear, anew, arith, aresults, aresList, ares, spec0, spec1, spec2, spec3, spec4, eqCells, eqCell, argsρ, genNew, nCol, hl, bA, sortGK]
    have e : (sortBy cmpA l).length = l.length := (List.mergeSort_perm _ _).length_eq
    rw [if_pos e]
    exact ⟨by omega, rfl⟩
end Go.Proofs.Ytkhgjbjkjefeoaa

/-
  overlay: sorted lists, insertion, the entries of an overlay (plain).
-/
namespace Go.Proofs.Ytkhgjbjkjefeoaa
open Go.RowKit Go.Sort
set_option linter.unusedSimpArgs false
set_option linter.unusedVariables false

def LeA (a b : Adj) : Prop := a = b ∨ LtA a b
theorem not_lt {a b : Adj} : ¬ LtA a b ↔ LeA b a := by
  constructor
  · intro h
    rcases lt_tri a b with h1 | rfl | h1
    · exact absurd h1 h
    · exact .inl rfl
    · exact .inr h1
  · rintro (rfl | h)
    · exact lt_irr _
    · exact lt_asymm h
theorem le_trans {a b c : Adj} (h : LeA a b) (h' : LeA b c) : LeA a c := by
  rcases h with rfl | h
  · exact h'
  · rcases h' with rfl | h'
    · exact .inr h
    · exact .inr (lt_trans h h')
theorem le_antisymm {a b : Adj} (h : LeA a b) (h' : LeA b a) : a = b := by
  rcases h with rfl | h
  · rfl
  · rcases h' with rfl | h'
    · rfl
    · exact absurd h' (lt_asymm h)
theorem sortA_perm (l : List Adj) : (sortA l).Perm l := List.mergeSort_perm _ _
theorem sortA_le (l : List Adj) : (sortA l).Pairwise LeA := by
  have h : (sortA l).Pairwise fun x y => (!(ltOf cmpA y x)) = true := by
    refine List.pairwise_mergeSort ?_ ?_ _
    · intro a b c h1 h2
      simp only [Bool.not_eq_true'] at h1 h2 ⊢
      exact swoA.ntrans c b a h2 h1
    · intro a b
      cases h : ltOf cmpA b a with
      | false => simp
      | true => simp [swoA.asymmA h]
  refine h.imp ?_
  intro a b hab
  simp only [ltOf_A, Bool.not_eq_true', decide_eq_false_iff_not] at hab
  exact not_lt.1 hab
theorem sorted_uniq {l m : List Adj} (hp : l.Perm m) (hl : l.Pairwise LeA) (hm : m.Pairwise LeA) : l = m :=
  List.Perm.eq_of_pairwise (fun a b _ _ h h' => le_antisymm h h') hl hm hp
theorem sortA_eq {l m : List Adj} (hp : m.Perm l) (hm : m.Pairwise LeA) : sortA l = m :=
  sorted_uniq ((sortA_perm l).trans hp.symm) (sortA_le l) hm
theorem UpA.le {l : List Adj} (h : UpA l) : l.Pairwise LeA := (up_iff.1 h).imp fun h => .inr h
theorem le_up {l : List Adj} (h : l.Pairwise LeA) (hd : l.Nodup) : UpA l := by
  rw [up_iff]
  exact (h.and hd).imp fun ⟨h1, h2⟩ => by
    rcases h1 with h1 | h1
    · exact absurd h1 h2
    · exact h1
/-- a, ahead of the first that is greater. -/
def insA (a : Adj) : List Adj → List Adj
  | [] => [a]
  | b :: r => if LtA a b then a :: b :: r else b :: insA a r
theorem insA_perm (a : Adj) : ∀ l, (insA a l).Perm (a :: l)
  | [] => .refl _
  | b :: r => by
    unfold insA
    split
    · exact .refl _
    · exact ((insA_perm a r).cons b).trans (.swap a b r)
theorem insA_le {a : Adj} : ∀ {l}, l.Pairwise LeA → (insA a l).Pairwise LeA
  | [], _ => by simp [insA]
  | b :: r, h => by
    rw [List.pairwise_cons] at h
    unfold insA
    split
    · rename_i h1
      rw [List.pairwise_cons, List.pairwise_cons]
      refine ⟨fun c hc => ?_, h⟩
      rcases List.mem_cons.1 hc with rfl | hc
      · exact .inr h1
      · exact le_trans (.inr h1) (h.1 c hc)
    · rename_i h1
      rw [List.pairwise_cons]
      refine ⟨fun c hc => ?_, insA_le h.2⟩
      rcases List.mem_cons.1 ((insA_perm a r).mem_iff.1 hc) with rfl | hc
      · exact not_lt.1 h1
      · exact h.1 c hc
theorem insA_len (a : Adj) (l : List Adj) : (insA a l).length = l.length + 1 := by rw [(insA_perm a l).length_eq]; rfl
theorem insA_sort (a : Adj) (l : List Adj) : insA a (sortA l) = sortA (a :: l) :=
  (sortA_eq ((insA_perm a _).trans ((sortA_perm l).cons a)) (insA_le (sortA_le l))).symm
theorem insI_fold (l m : List Adj) : m.foldl (fun x a => insA a x) (sortA l) = sortA (l ++ m) := by
  induction m generalizing l with
  | nil => simp
  | cons a r ih =>
    rw [List.foldl_cons, insA_sort, ih]
    refine sortA_eq ?_ (sortA_le _)
    refine (sortA_perm _).trans ?_
    rw [List.cons_append]
    exact List.perm_middle (l₁ := l)
/-- What is kept of the base. -/
noncomputable def keptO (o : Ov) : List Adj := (entC o.Base).filter fun a => decide (¬ a.Edge ∈ o.Dels)
theorem entC_up (c : Col) : UpA (entC c) ∧ DisE (entC c) := by
  unfold entC
  split
  · rename_i h
    have := vcB_true.1 h
    exact ⟨this.u, this.d⟩
  · exact ⟨fun i _ hi => by simp at hi, fun i j _ hj => by simp at hj⟩
theorem kept_up (o : Ov) : UpA (keptO o) := up_iff.2 ((up_iff.1 (entC_up o.Base).1).filter _)
noncomputable def entsO (o : Ov) : List Adj := sortA (keptO o ++ o.Adds)
/-- The reference's way. -/
theorem ents_fold (o : Ov) : o.Adds.foldl (fun x a => insA a x) (keptO o) = entsO o := by
  have h : sortA (keptO o) = keptO o := sortA_eq (.refl _) (kept_up o).le
  have := insI_fold (keptO o) o.Adds
  rw [h] at this
  exact this
theorem entC_len {c : Col} (hl : LenC c) : Len (entC c) := by
  unfold entC
  split
  · rename_i h
    exact unp_len1 (vcB_true.1 h).s hl
  · unfold Len; simp
theorem kept_len {o : Ov} (hl : LenO o) : (keptO o).length ≤ 1000000000 := Nat.le_trans (List.length_filter_le _ _) (entC_len hl.1)
theorem ents_len (o : Ov) : (entsO o).length = (keptO o).length + o.Adds.length := by
  unfold entsO
  rw [(sortA_perm _).length_eq, List.length_append]
end Go.Proofs.Ytkhgjbjkjefeoaa


/-
  overlay: the entries of an overlay, both sides.
-/
namespace Go.Proofs.Ytkhgjbjkjefeoaa
open Go.RowKit
set_option linter.unusedSimpArgs false
set_option linter.unusedVariables false
set_option maxRecDepth 100000

def OB (o : Ov) : Blk := ⟨27, 6, [[.slice 1 false (encRows o.Base.Nodes), .slice 1 false (encRows o.Base.First), .slice 1 false (encRows o.Base.To), .slice 1 false (encRows o.Base.Edge), .slice 3 false (encRows o.Adds), .slice 1 false (encRows o.Dels)]], true, true⟩
noncomputable def sEnts : List AV → Option (Prop × AV) := spec1 LenO (fun o => Enc.enc (entsO o))
def keepP (o : Ov) (a : Adj) : Bool := decide (¬ a.Edge ∈ o.Dels)
theorem kept_succ {o : Ov} {l : List Adj} {k : Nat} (hk : k < l.length) : (l.take (k + 1)).filter (keepP o) = if keepP o (ix l k) then (l.take k).filter (keepP o) ++ [ix l k] else (l.take k).filter (keepP o) := by
  rw [List.take_succ_eq_append_getElem hk, List.filter_append, ix_lt hk]
  split
  · rename_i h; simp [h]
  · rename_i h; simp [h]
noncomputable def CEn : Ctx := mkC Try.prog G0 [(36, .pure sEntC), (60, .pure sHasI), (61, .gen (sortGK 3 39 cmpA))]
@[simp] theorem CEn_P : CEn.P = Try.prog := rfl
@[simp] theorem CEn_G : CEn.G = G0 := rfl
@[simp] theorem CEn_1 : CEn.S 36 = .pure sEntC := rfl
@[simp] theorem CEn_2 : CEn.S 60 = .pure sHasI := rfl
@[simp] theorem CEn_3 : CEn.S 61 = .gen (sortGK 3 39 cmpA) := rfl
theorem mixCEn : CEn.P.follows .mixedOrders = true := mixed
theorem sigCEn : SigOK CEn := sigOK_cons (entryPure (entCP) Try.func36 rfl (by decide)) (sigOK_cons (entryPure (conI) Try.func60 rfl (by decide)) (sigOK_cons (entryGen (sortO) Try.func61 rfl (by decide)) (sigOK_nil _ _)))
set_option maxHeartbeats 16000000 in
theorem entsP : PureOK Try.prog G0 32 sEnts := by
  refine pureH1 (C := CEn) sigCEn mixCEn Try.func32 rfl rfl rfl [] (by kernel_rfl) (by decide) (fun o hl => ?_)
  obtain ⟨r, hr⟩ : ∃ r, entsO o = r := ⟨_, rfl⟩
  rw [hr]
  have hlc : LenC o.Base := hl.1
  obtain ⟨⟨h1, h2, h3, h4⟩, h5, h6⟩ := id hl
  have hel := entC_len hlc
  have hel' : (entC o.Base).length ≤ 1000000000 := hel
  have hal : o.Adds.length ≤ 1000000000 := h5
  have hkl := kept_len hl
  have hk0 : keptO o = (entC o.Base).filter (keepP o) := rfl
  simp [aev, gav, alook, litOf, litAV, mget, mhas, acopy, asrc, adst, cav, look, acallPure, abin, abinN, abinP, abinI, abinS, aun, aconv, afield, afieldAddr, aindexAddr, aindex, aslice, alow, ahigh, abuild, abuildGo, cellsOf, splice, fieldTy, alen, apick, amax, amin, aload, headV, aparts, abuildSlice, elParts, abytesStr, astore, amake, aappend, aclear, anew, arith, aresults, aresList, ares, spec0, spec1, spec2, spec3, spec4, eqCells, eqCell, sEntC, hlc]
  refine AW.weak (weak_nil 3 3 29 rfl (by decide)) ?_
  generalize hE : entC o.Base = l at *
  refine loop_ruleH (C := CEn) sigCEn mixCEn [] (fun q : Nat => ⟨[(1, .ptr 0 1 6 0 0), (3, .own 1 ((l.take q).filter (keepP o)).length), (8, Enc.enc l), (9, .int .i64 l.length), (10, .int .i64 q)], [OB o, bA ((l.take q).filter (keepP o))]⟩) (fun q => q ≤ l.length) (fun q => l.length - q) (by kernel_rfl) ⟨0, by omega, weak_eq (by simp) (by simp [OB, bA])⟩ (fun k hk => ?_)
  have hfl : ((l.take k).filter (keepP o)).length ≤ 1000000000 := by
    have := List.length_filter_le (keepP o) (l.take k)
    rw [List.length_take] at this
    omega
  by_cases hlt : k < l.length
  · have i1 := (len_i hel hk).1
    have hsx := kept_succ (o := o) hlt
    by_cases hd : (ix l k).Edge ∈ o.Dels
    · have hkp : keepP o (ix l k) = false := by unfold keepP; simp [hd]
      rw [hkp] at hsx
      simp only [Bool.false_eq_true, if_false] at hsx
      simp [aev, gav, alook, litOf, litAV, mget, mhas, acopy, asrc, adst, cav, look, acallPure, abin, abinN, abinP, abinI, abinS, aun, aconv, afield, afieldAddr, aindexAddr, aindex, aslice, alow, ahigh, abuild, abuildGo, cellsOf, splice, fieldTy, alen, apick, amax, amin, aload, headV, aparts, abuildSlice, elParts, abytesStr, astore, amake, aappend, aclear, anew, arith, aresults, aresList, ares, spec0, spec1, spec2, spec3, spec4, eqCells, eqCell, OB, bA, hlt, rowAt_enc hlt, sHasI, h6, hd, i1]
      refine ⟨k + 1, by omega, by omega, weak_keep 2 (by simp [hsx]) (by simp) (by simp [AV.clean, AV.clean1]) (by simp [AV.clean, AV.clean1]) (by simp [OB, bA, hsx])⟩
    · have hkp : keepP o (ix l k) = true := by unfold keepP; simp [hd]
      rw [hkp] at hsx
      simp only [if_true] at hsx
      simp [aev, gav, alook, litOf, litAV, mget, mhas, acopy, asrc, adst, cav, look, acallPure, abin, abinN, abinP, abinI, abinS, aun, aconv, afield, afieldAddr, aindexAddr, aindex, aslice, alow, ahigh, abuild, abuildGo, cellsOf, splice, fieldTy, alen, apick, amax, amin, aload, headV, aparts, abuildSlice, elParts, abytesStr, astore, amake, aappend, aclear, anew, arith, aresults, aresList, ares, spec0, spec1, spec2, spec3, spec4, eqCells, eqCell, OB, bA, hlt, rowAt_enc hlt, sHasI, h6, hd, i1]
      refine ⟨by omega, k + 1, by omega, by omega, weak_keep 2 (by simp [hsx]) (by simp) (by simp [AV.clean, AV.clean1]) (by simp [AV.clean, AV.clean1]) (by simp [OB, bA, hsx])⟩
  · have hkk : k = l.length := by omega
    subst hkk
    have ht : (l.take l.length).filter (keepP o) = keptO o := by rw [List.take_length, hk0]
    rw [ht] at hfl ⊢
    have hso : sortA (keptO o ++ o.Adds) = r := hr
    have hso' : sortBy cmpA (keptO o ++ o.Adds) = r := hr
    have hrl : r.length = (keptO o).length + o.Adds.length := by rw [← hr, ents_len]
    simp [aev, gav, alook, litOf, litAV, mget, mhas, acopy, asrc, adst, cav, look, acallPure, abin, abinN, abinP, abinI, abinS, aun, aconv, afield, afieldAddr, aindexAddr, aindex, aslice, alow, ahigh, abuild, abuildGo, cellsOf, splice, fieldTy, alen, apick, amax, amin, aload, headV, aparts, abuildSlice, elParts, abytesStr, astore, amake, aappend, aclear, anew, arith, aresults, aresList, ares, spec0, spec1, spec2, spec3, spec4, eqCells, eqCell, OB, bA, hlt, sortGK, hso', hrl]
    omega
def sWithin : List AV → Option (Prop × AV) := spec2 (fun (l : List Adj) (_ : Adj) => l.length ≤ 2000000000) (fun l a => Enc.enc (insA a l))
/-- What within has laid when it stands at k: whether a is in it, too. -/
def witB (l : List Adj) (a : Adj) (k : Nat) : Bool := (l.take k).any fun b => decide (LtA a b)
def witL (l : List Adj) (a : Adj) (k : Nat) : List Adj := if witB l a k then insA a (l.take k) else l.take k
theorem insA_app {a : Adj} : ∀ {l : List Adj} (r : List Adj), (l.any fun b => decide (LtA a b)) = true → insA a (l ++ r) = insA a l ++ r
  | [], _, h => by simp at h
  | b :: l, r, h => by
    rw [List.cons_append]
    unfold insA
    split
    · rfl
    · rename_i h1
      have h' : (l.any fun b => decide (LtA a b)) = true := by
        rw [List.any_cons, Bool.or_eq_true, decide_eq_true_iff] at h
        exact h.resolve_left h1
      rw [insA_app r h', List.cons_append]
theorem insA_none {a : Adj} : ∀ {l : List Adj} (r : List Adj), (l.any fun b => decide (LtA a b)) = false → insA a (l ++ r) = l ++ insA a r
  | [], _, _ => rfl
  | b :: l, r, h => by
    rw [List.any_cons, Bool.or_eq_false_iff, decide_eq_false_iff_not] at h
    rw [List.cons_append]
    show (if LtA a b then _ else _) = _
    rw [if_neg h.1, insA_none r h.2, List.cons_append]
theorem wit_succ {l : List Adj} {a : Adj} {k : Nat} (hk : k < l.length) : witB l a (k + 1) = (witB l a k || decide (LtA a (ix l k))) ∧ witL l a (k + 1) = if witB l a k then witL l a k ++ [ix l k] else if LtA a (ix l k) then witL l a k ++ [a] ++ [ix l k] else witL l a k ++ [ix l k] := by
  have ht : l.take (k + 1) = l.take k ++ [ix l k] := by rw [List.take_succ_eq_append_getElem hk, ix_lt hk]
  have h1 : witB l a (k + 1) = (witB l a k || decide (LtA a (ix l k))) := by unfold witB; rw [ht, List.any_append]; simp
  refine ⟨h1, ?_⟩
  unfold witL
  rw [h1, ht]
  cases hB : witB l a k with
  | true => simp only [Bool.true_or, if_true]; rw [insA_app _ hB]
  | false =>
    simp only [Bool.false_or, Bool.false_eq_true, if_false, decide_eq_true_iff]
    split
    · rename_i h2
      rw [insA_none _ hB]
      simp [insA, h2]
    · rfl
theorem wit_end (l : List Adj) (a : Adj) : (if witB l a l.length then witL l a l.length else witL l a l.length ++ [a]) = insA a l := by
  unfold witL
  rw [List.take_length]
  cases h : witB l a l.length with
  | true => simp
  | false =>
    unfold witB at h
    rw [List.take_length] at h
    have := insA_none (a := a) [] h
    rw [List.append_nil] at this
    simp [this, insA]
theorem wit_len {l : List Adj} {a : Adj} {k : Nat} (hk : k ≤ l.length) : (witL l a k).length ≤ k + 1 := by
  unfold witL
  split
  · rw [insA_len, List.length_take]; omega
  · rw [List.length_take]; omega
noncomputable def CWi : Ctx := mkC Try.prog G0 [(52, .pure sLt)]
@[simp] theorem CWi_P : CWi.P = Try.prog := rfl
@[simp] theorem CWi_G : CWi.G = G0 := rfl
@[simp] theorem CWi_1 : CWi.S 52 = .pure sLt := rfl
theorem mixCWi : CWi.P.follows .mixedOrders = true := mixed
theorem sigCWi : SigOK CWi := sigOK_cons (entryPure (ltS) Try.func52 rfl (by decide)) (sigOK_nil _ _)
set_option maxHeartbeats 16000000 in
theorem withinR : PureOK Try.prog G0 46 sWithin := by
  refine pureH2 (C := CWi) sigCWi mixCWi Try.func46 rfl rfl rfl [6] (by kernel_rfl) (by decide) (fun l a hl => ?_)
  obtain ⟨r, hr⟩ : ∃ r, insA a l = r := ⟨_, rfl⟩
  rw [hr]
  simp [aev, gav, alook, litOf, litAV, mget, mhas, acopy, asrc, adst, cav, look, acallPure, abin, abinN, abinP, abinI, abinS, aun, aconv, afield, afieldAddr, aindexAddr, aindex, aslice, alow, ahigh, abuild, abuildGo, cellsOf, splice, fieldTy, alen, apick, amax, amin, aload, headV, aparts, abuildSlice, elParts, abytesStr, astore, amake, aappend, aclear, anew, arith, aresults, aresList, ares, spec0, spec1, spec2, spec3, spec4, eqCells, eqCell]
  refine AW.weak (weak_nil 5 3 29 rfl (by decide)) ?_
  refine loop_ruleH (C := CWi) sigCWi mixCWi [6] (fun q : Nat => ⟨[(0, Enc.enc l), (3, .ptr 0 1 3 0 0), (5, .own 1 (witL l a q).length), (6, .bool (witB l a q)), (7, .int .i64 q)], [AB a, bA (witL l a q)]⟩) (fun q => q ≤ l.length) (fun q => l.length - q) (by kernel_rfl) ⟨0, by omega, weak_eq (by simp [witL, witB]) (by simp [AB, bA, witL, witB])⟩ (fun k hk => ?_)
  have hwl := wit_len (l := l) (a := a) hk
  by_cases hlt : k < l.length
  · have i1 : I64 ((k : Int) + 1) := by unfold I64; omega
    obtain ⟨w1, w2⟩ := wit_succ (l := l) (a := a) hlt
    simp [aev, gav, alook, litOf, litAV, mget, mhas, acopy, asrc, adst, cav, look, acallPure, abin, abinN, abinP, abinI, abinS, aun, aconv, afield, afieldAddr, aindexAddr, aindex, aslice, alow, ahigh, abuild, abuildGo, cellsOf, splice, fieldTy, alen, apick, amax, amin, aload, headV, aparts, abuildSlice, elParts, abytesStr, astore, amake, aappend, aclear, anew, arith, aresults, aresList, ares, spec0, spec1, spec2, spec3, spec4, eqCells, eqCell, AB, bA, hlt]
    refine AW_regionF sigCWi mixCWi [.pure, .pure, .pure, .read, .pure, .pure, .pure, .read, .read, .pure] [[],[0],[0,1],[1,0,2],[1,0,2],[1,0,2],[5,2,0,1,4],[4,1,0,2,5,6],[6,5,4,7,2,0,1,3],[3,7,4,5,6,8,1,0,2]] (by kernel_rfl) (by kernel_rfl) (by kernel_rfl) (by kernel_rfl) ?_
    cases hB : witB l a k with
    | true =>
      rw [hB] at w1 w2
      simp only [Bool.true_or, if_true] at w1 w2
      simp [aev, gav, alook, litOf, litAV, mget, mhas, acopy, asrc, adst, cav, look, acallPure, abin, abinN, abinP, abinI, abinS, aun, aconv, afield, afieldAddr, aindexAddr, aindex, aslice, alow, ahigh, abuild, abuildGo, cellsOf, splice, fieldTy, alen, apick, amax, amin, aload, headV, aparts, abuildSlice, elParts, abytesStr, astore, amake, aappend, aclear, anew, arith, aresults, aresList, ares, spec0, spec1, spec2, spec3, spec4, eqCells, eqCell, AB, bA, hlt, rowAt_enc hlt, i1]
      refine ⟨by omega, k + 1, by omega, by omega, weak_eq (by simp [w1, w2]) (by simp [AB, bA, w2])⟩
    | false =>
      rw [hB] at w1 w2
      simp only [Bool.false_or, Bool.false_eq_true, if_false] at w1 w2
      by_cases h8 : LtA a (ix l k)
      · rw [if_pos h8] at w2
        rw [decide_eq_true h8] at w1
        simp [aev, gav, alook, litOf, litAV, mget, mhas, acopy, asrc, adst, cav, look, acallPure, abin, abinN, abinP, abinI, abinS, aun, aconv, afield, afieldAddr, aindexAddr, aindex, aslice, alow, ahigh, abuild, abuildGo, cellsOf, splice, fieldTy, alen, apick, amax, amin, aload, headV, aparts, abuildSlice, elParts, abytesStr, astore, amake, aappend, aclear, anew, arith, aresults, aresList, ares, spec0, spec1, spec2, spec3, spec4, eqCells, eqCell, AB, bA, hlt, rowAt_enc hlt, sLt, h8, i1]
        refine ⟨by omega, by omega, k + 1, by omega, by omega, weak_eq (by simp [w1, w2]) (by simp [AB, bA, w2])⟩
      · rw [if_neg h8] at w2
        rw [decide_eq_false h8] at w1
        simp [aev, gav, alook, litOf, litAV, mget, mhas, acopy, asrc, adst, cav, look, acallPure, abin, abinN, abinP, abinI, abinS, aun, aconv, afield, afieldAddr, aindexAddr, aindex, aslice, alow, ahigh, abuild, abuildGo, cellsOf, splice, fieldTy, alen, apick, amax, amin, aload, headV, aparts, abuildSlice, elParts, abytesStr, astore, amake, aappend, aclear, anew, arith, aresults, aresList, ares, spec0, spec1, spec2, spec3, spec4, eqCells, eqCell, AB, bA, hlt, rowAt_enc hlt, sLt, h8, i1]
        refine ⟨by omega, k + 1, by omega, by omega, weak_eq (by simp [w1, w2]) (by simp [AB, bA, w2])⟩
  · have hkk : k = l.length := by omega
    subst hkk
    have he := wit_end l a
    rw [hr] at he
    cases hB : witB l a l.length with
    | true =>
      rw [hB] at he
      simp only [if_true] at he
      simp [aev, gav, alook, litOf, litAV, mget, mhas, acopy, asrc, adst, cav, look, acallPure, abin, abinN, abinP, abinI, abinS, aun, aconv, afield, afieldAddr, aindexAddr, aindex, aslice, alow, ahigh, abuild, abuildGo, cellsOf, splice, fieldTy, alen, apick, amax, amin, aload, headV, aparts, abuildSlice, elParts, abytesStr, astore, amake, aappend, aclear, anew, arith, aresults, aresList, ares, spec0, spec1, spec2, spec3, spec4, eqCells, eqCell, AB, bA, hlt, he]
    | false =>
      rw [hB] at he
      simp only [Bool.false_eq_true, if_false] at he
      have hrl : r.length = l.length + 1 := by rw [← hr, insA_len]
      simp [aev, gav, alook, litOf, litAV, mget, mhas, acopy, asrc, adst, cav, look, acallPure, abin, abinN, abinP, abinI, abinS, aun, aconv, afield, afieldAddr, aindexAddr, aindex, aslice, alow, ahigh, abuild, abuildGo, cellsOf, splice, fieldTy, alen, apick, amax, amin, aload, headV, aparts, abuildSlice, elParts, abytesStr, astore, amake, aappend, aclear, anew, arith, aresults, aresList, ares, spec0, spec1, spec2, spec3, spec4, eqCells, eqCell, AB, bA, hlt, he]
      omega
end Go.Proofs.Ytkhgjbjkjefeoaa


/-
  overlay: the entries of an overlay, the reference's side; Valid, both sides.
-/
namespace Go.Proofs.Ytkhgjbjkjefeoaa
open Go.RowKit
set_option linter.unusedSimpArgs false
set_option linter.unusedVariables false
set_option maxRecDepth 100000

theorem foldl_take_succ {α β : Type} [Inhabited β] (f : α → β → α) (a : α) {l : List β} {k : Nat} (hk : k < l.length) : (l.take (k + 1)).foldl f a = f ((l.take k).foldl f a) (ix l k) := by
  rw [List.take_succ_eq_append_getElem hk, List.foldl_append, ix_lt hk]; rfl
def insAll (l m : List Adj) : List Adj := m.foldl (fun x a => insA a x) l
theorem insAll_len (l : List Adj) : ∀ m, (insAll l m).length = l.length + m.length := by
  intro m
  induction m generalizing l with
  | nil => rfl
  | cons a r ih =>
    show (insAll (insA a l) r).length = _
    rw [ih, insA_len]; simp; omega
noncomputable def CEm : Ctx := mkC Try.prog G0 [(22, .pure sEntC), (70, .pure sHasI), (46, .pure sWithin)]
@[simp] theorem CEm_P : CEm.P = Try.prog := rfl
@[simp] theorem CEm_G : CEm.G = G0 := rfl
@[simp] theorem CEm_1 : CEm.S 22 = .pure sEntC := rfl
@[simp] theorem CEm_2 : CEm.S 70 = .pure sHasI := rfl
@[simp] theorem CEm_3 : CEm.S 46 = .pure sWithin := rfl
theorem mixCEm : CEm.P.follows .mixedOrders = true := mixed
theorem sigCEm : SigOK CEm := sigOK_cons (entryPure (entCR) Try.func22 rfl (by decide)) (sigOK_cons (entryPure (hasR) Try.func70 rfl (by decide)) (sigOK_cons (entryPure (withinR) Try.func46 rfl (by decide)) (sigOK_nil _ _)))
set_option maxHeartbeats 16000000 in
theorem entsR : PureOK Try.prog G0 43 sEnts := by
  refine pureH1 (C := CEm) sigCEm mixCEm Try.func43 rfl rfl rfl [6] (by kernel_rfl) (by decide) (fun o hl => ?_)
  obtain ⟨r, hr⟩ : ∃ r, entsO o = r := ⟨_, rfl⟩
  rw [hr]
  have hfold : insAll (keptO o) o.Adds = r := by rw [← hr]; exact ents_fold o
  have hlc : LenC o.Base := hl.1
  obtain ⟨⟨h1, h2, h3, h4⟩, h5, h6⟩ := id hl
  have hel := entC_len hlc
  have hel' : (entC o.Base).length ≤ 1000000000 := hel
  have hal : o.Adds.length ≤ 1000000000 := h5
  have hkl := kept_len hl
  have hk0 : keptO o = (entC o.Base).filter (keepP o) := rfl
  simp [aev, gav, alook, litOf, litAV, mget, mhas, acopy, asrc, adst, cav, look, acallPure, abin, abinN, abinP, abinI, abinS, aun, aconv, afield, afieldAddr, aindexAddr, aindex, aslice, alow, ahigh, abuild, abuildGo, cellsOf, splice, fieldTy, alen, apick, amax, amin, aload, headV, aparts, abuildSlice, elParts, abytesStr, astore, amake, aappend, aclear, anew, arith, aresults, aresList, ares, spec0, spec1, spec2, spec3, spec4, eqCells, eqCell, sEntC, hlc]
  refine AW.weak (weak_nil 3 3 29 rfl (by decide)) ?_
  generalize hE : entC o.Base = l at *
  refine loop_ruleH (C := CEm) sigCEm mixCEm [6] (fun q : Nat => ⟨[(1, .ptr 0 1 6 0 0), (3, .own 1 ((l.take q).filter (keepP o)).length), (4, Enc.enc l), (5, .int .i64 q)], [OB o, bA ((l.take q).filter (keepP o))]⟩) (fun q => q ≤ l.length) (fun q => l.length - q) (by kernel_rfl) ⟨0, by omega, weak_eq (by simp) (by simp [OB, bA])⟩ (fun k hk => ?_)
  have hfl : ((l.take k).filter (keepP o)).length ≤ 1000000000 := by
    have := List.length_filter_le (keepP o) (l.take k)
    rw [List.length_take] at this
    omega
  by_cases hlt : k < l.length
  · have i1 := (len_i hel hk).1
    have hsx := kept_succ (o := o) hlt
    simp [aev, gav, alook, litOf, litAV, mget, mhas, acopy, asrc, adst, cav, look, acallPure, abin, abinN, abinP, abinI, abinS, aun, aconv, afield, afieldAddr, aindexAddr, aindex, aslice, alow, ahigh, abuild, abuildGo, cellsOf, splice, fieldTy, alen, apick, amax, amin, aload, headV, aparts, abuildSlice, elParts, abytesStr, astore, amake, aappend, aclear, anew, arith, aresults, aresList, ares, spec0, spec1, spec2, spec3, spec4, eqCells, eqCell, OB, bA, hlt]
    refine AW_regionF sigCEm mixCEm [.pure, .read, .pure, .pure, .pure, .pure, .read, .read, .pure] [[],[0],[],[],[3,2],[2,3,4],[4,3,2,5],[5,2,3,4,6,0,1],[1,0,6,4,3,2,5,7]] (by kernel_rfl) (by kernel_rfl) (by kernel_rfl) (by kernel_rfl) ?_
    by_cases hd : (ix l k).Edge ∈ o.Dels
    · have hkp : keepP o (ix l k) = false := by unfold keepP; simp [hd]
      rw [hkp] at hsx
      simp only [Bool.false_eq_true, if_false] at hsx
      simp [aev, gav, alook, litOf, litAV, mget, mhas, acopy, asrc, adst, cav, look, acallPure, abin, abinN, abinP, abinI, abinS, aun, aconv, afield, afieldAddr, aindexAddr, aindex, aslice, alow, ahigh, abuild, abuildGo, cellsOf, splice, fieldTy, alen, apick, amax, amin, aload, headV, aparts, abuildSlice, elParts, abytesStr, astore, amake, aappend, aclear, anew, arith, aresults, aresList, ares, spec0, spec1, spec2, spec3, spec4, eqCells, eqCell, OB, bA, hlt, rowAt_enc hlt, sHasI, h6, hd, i1]
      exact ⟨k + 1, by omega, by omega, weak_eq (by simp [hsx]) (by simp [OB, bA, hsx])⟩
    · have hkp : keepP o (ix l k) = true := by unfold keepP; simp [hd]
      rw [hkp] at hsx
      simp only [if_true] at hsx
      simp [aev, gav, alook, litOf, litAV, mget, mhas, acopy, asrc, adst, cav, look, acallPure, abin, abinN, abinP, abinI, abinS, aun, aconv, afield, afieldAddr, aindexAddr, aindex, aslice, alow, ahigh, abuild, abuildGo, cellsOf, splice, fieldTy, alen, apick, amax, amin, aload, headV, aparts, abuildSlice, elParts, abytesStr, astore, amake, aappend, aclear, anew, arith, aresults, aresList, ares, spec0, spec1, spec2, spec3, spec4, eqCells, eqCell, OB, bA, hlt, rowAt_enc hlt, sHasI, h6, hd, i1]
      exact ⟨by omega, k + 1, by omega, by omega, weak_eq (by simp [hsx]) (by simp [OB, bA, hsx])⟩
  have hkk : k = l.length := by omega
  subst hkk
  have ht : (l.take l.length).filter (keepP o) = keptO o := by rw [List.take_length, hk0]
  rw [ht] at hfl ⊢
  simp [aev, gav, alook, litOf, litAV, mget, mhas, acopy, asrc, adst, cav, look, acallPure, abin, abinN, abinP, abinI, abinS, aun, aconv, afield, afieldAddr, aindexAddr, aindex, aslice, alow, ahigh, abuild, abuildGo, cellsOf, splice, fieldTy, alen, apick, amax, amin, aload, headV, aparts, abuildSlice, elParts, abytesStr, astore, amake, aappend, aclear, anew, arith, aresults, aresList, ares, spec0, spec1, spec2, spec3, spec4, eqCells, eqCell, OB, bA, hlt]
  refine AW.weak (weak_view 3) ?_
  refine loop_ruleH (C := CEm) sigCEm mixCEm [6] (fun q : Nat => ⟨[(1, .ptr 0 1 6 0 0), (3, .slice 3 false (encRows (insAll (keptO o) (o.Adds.take q)))), (6, .int .i64 q)], [OB o, { bA (keptO o) with mu := false }]⟩) (fun q => q ≤ o.Adds.length) (fun q => o.Adds.length - q) (by kernel_rfl) ⟨0, by omega, weak_eq ?_ ?_⟩ (fun k hk => ?_)
  · simp [aev, gav, alook, litOf, litAV, mget, mhas, acopy, asrc, adst, cav, look, acallPure, abin, abinN, abinP, abinI, abinS, aun, aconv, afield, afieldAddr, aindexAddr, aindex, aslice, alow, ahigh, abuild, abuildGo, cellsOf, splice, fieldTy, alen, apick, amax, amin, aload, headV, aparts, abuildSlice, elParts, abytesStr, astore, amake, aappend, aclear, anew, arith, aresults, aresList, ares, spec0, spec1, spec2, spec3, spec4, eqCells, eqCell, OB, bA, insAll]
  · simp [aev, gav, alook, litOf, litAV, mget, mhas, acopy, asrc, adst, cav, look, acallPure, abin, abinN, abinP, abinI, abinS, aun, aconv, afield, afieldAddr, aindexAddr, aindex, aslice, alow, ahigh, abuild, abuildGo, cellsOf, splice, fieldTy, alen, apick, amax, amin, aload, headV, aparts, abuildSlice, elParts, abytesStr, astore, amake, aappend, aclear, anew, arith, aresults, aresList, ares, spec0, spec1, spec2, spec3, spec4, eqCells, eqCell, OB, bA]
  have hlen := insAll_len (keptO o) (o.Adds.take k)
  rw [List.length_take] at hlen
  have hle2 : (insAll (keptO o) (o.Adds.take k)).length ≤ 2000000000 := by omega
  by_cases hlt : k < o.Adds.length
  · have i1 := (len_i h5 hk).1
    have hsx : insAll (keptO o) (o.Adds.take (k + 1)) = insA (ix o.Adds k) (insAll (keptO o) (o.Adds.take k)) := foldl_take_succ _ _ hlt
    simp [aev, gav, alook, litOf, litAV, mget, mhas, acopy, asrc, adst, cav, look, acallPure, abin, abinN, abinP, abinI, abinS, aun, aconv, afield, afieldAddr, aindexAddr, aindex, aslice, alow, ahigh, abuild, abuildGo, cellsOf, splice, fieldTy, alen, apick, amax, amin, aload, headV, aparts, abuildSlice, elParts, abytesStr, astore, amake, aappend, aclear, anew, arith, aresults, aresList, ares, spec0, spec1, spec2, spec3, spec4, eqCells, eqCell, OB, bA, hlt, rowAt_enc hlt, sWithin, hle2, i1]
    exact ⟨k + 1, by omega, by omega, weak_eq (by simp [hsx]) (by simp [OB, bA])⟩
  · have hkk : k = o.Adds.length := by omega
    subst hkk
    rw [List.take_length] at hlen ⊢
    simp [aev, gav, alook, litOf, litAV, mget, mhas, acopy, asrc, adst, cav, look, acallPure, abin, abinN, abinP, abinI, abinS, aun, aconv, afield, afieldAddr, aindexAddr, aindex, aslice, alow, ahigh, abuild, abuildGo, cellsOf, splice, fieldTy, alen, apick, amax, amin, aload, headV, aparts, abuildSlice, elParts, abytesStr, astore, amake, aappend, aclear, anew, arith, aresults, aresList, ares, spec0, spec1, spec2, spec3, spec4, eqCells, eqCell, OB, bA, hlt, hfold]
end Go.Proofs.Ytkhgjbjkjefeoaa

/-
  overlay: valid overlays (plain).
-/
namespace Go.Proofs.Ytkhgjbjkjefeoaa
open Go.RowKit
set_option linter.unusedSimpArgs false
set_option linter.unusedVariables false

structure WfO (o : Ov) : Prop where
  l : LenO o
  d : ∀ d ∈ o.Dels, I64 d
def UpI (l : List Int) : Prop := ∀ i, 0 < i → i < l.length → ix l (i - 1) < ix l i
structure ValidO (o : Ov) : Prop where
  b : ValidC o.Base
  f : ∀ i, i < o.Adds.length → FormA (ix o.Adds i)
  u : UpA o.Adds
  du : UpI o.Dels
  dm : ∀ i, i < o.Dels.length → HasE (entC o.Base) (ix o.Dels i)
  e : ∀ i, i < o.Adds.length → ¬ HasE (keptO o) (ix o.Adds i).Edge
  d : DisE o.Adds
theorem dis_app {l m : List Adj} (h : DisE l) : DisE (l ++ m) ↔ (∀ i, i < m.length → ¬ HasE l (ix m i).Edge) ∧ DisE m := by
  rw [dis_iff] at h
  rw [dis_iff, dis_iff, List.map_append, List.nodup_append]
  constructor
  · rintro ⟨_, h2, h3⟩
    refine ⟨fun i hi ⟨x, hx, e⟩ => ?_, h2⟩
    exact h3 x.Edge (List.mem_map_of_mem hx) _ (List.mem_map_of_mem (ix_mem hi)) e
  · rintro ⟨h1, h2⟩
    refine ⟨h, h2, fun a ha b hb e => ?_⟩
    subst e
    obtain ⟨x, hx, rfl⟩ := List.mem_map.1 ha
    obtain ⟨y, hy, e⟩ := List.mem_map.1 hb
    obtain ⟨j, hj, rfl⟩ := mem_ix hy
    exact h1 j hj ⟨x, hx, e.symm⟩
theorem dis_perm {l m : List Adj} (h : l.Perm m) : DisE l ↔ DisE m := by
  rw [dis_iff, dis_iff]
  exact (h.map _).nodup_iff
theorem kept_dis (o : Ov) : DisE (keptO o) := by
  rw [dis_iff]
  exact (dis_iff.1 (entC_up o.Base).2).sublist ((List.filter_sublist).map _)
theorem ents_dis {o : Ov} : DisE (entsO o) ↔ (∀ i, i < o.Adds.length → ¬ HasE (keptO o) (ix o.Adds i).Edge) ∧ DisE o.Adds := by
  unfold entsO
  rw [dis_perm (sortA_perm _), dis_app (kept_dis o)]
theorem validO_iff {o : Ov} : ValidO o ↔ ValidC o.Base ∧ ((∀ i, i < o.Adds.length → FormA (ix o.Adds i)) ∧ UpA o.Adds) ∧ (UpI o.Dels ∧ ∀ i, i < o.Dels.length → HasE (entC o.Base) (ix o.Dels i)) ∧ DisE (entsO o) := by
  rw [ents_dis]
  constructor
  · intro h; exact ⟨h.b, ⟨h.f, h.u⟩, ⟨h.du, h.dm⟩, h.e, h.d⟩
  · rintro ⟨h1, ⟨h2, h3⟩, ⟨h4, h5⟩, h6, h7⟩; exact ⟨h1, h2, h3, h4, h5, h6, h7⟩
noncomputable def voB (o : Ov) : Bool := @decide (ValidO o) (Classical.propDecidable _)
theorem voB_true {o : Ov} : voB o = true ↔ ValidO o := @decide_eq_true_iff _ (Classical.propDecidable _)
theorem voB_false {o : Ov} : voB o = false ↔ ¬ ValidO o := @decide_eq_false_iff_not _ (Classical.propDecidable _)
/-- The first k of l put with x, the newest first. -/
def putN (l : List Int) (k : Nat) (x : Int) : List (Lit × Lit) := ((l.take k).reverse).map fun e => (.int .i64 e, .int .i64 x)
theorem mget_app (l : List Int) (x : Int) (R : List (Lit × Lit)) (v : Int) (z : Lit) : mget (l.map (fun e => (Lit.int .i64 e, Lit.int .i64 x)) ++ R) (.int .i64 v) z = if v ∈ l then .int .i64 x else mget R (.int .i64 v) z := by
  induction l with
  | nil => simp
  | cons a r ih =>
    show (if (Lit.int .i64 a).sameKey (.int .i64 v) then Lit.int .i64 x else mget (_ ++ R) _ _) = _
    rw [ih]
    have hk : (Lit.int .i64 a).sameKey (.int .i64 v) = decide (a = v) := by
      rw [Bool.eq_iff_iff, WideAt.sameKey_iff (by trivial)]
      simp
    rw [hk]
    by_cases h : a = v
    · simp [h]
    · have h' : ¬ v = a := fun e => h e.symm
      simp [h, h']
theorem mget_putN (l : List Int) (k : Nat) (x : Int) (R : List (Lit × Lit)) (v : Int) (z : Lit) : mget (putN l k x ++ R) (.int .i64 v) z = if v ∈ l.take k then .int .i64 x else mget R (.int .i64 v) z := by
  unfold putN
  rw [mget_app]
  simp
theorem putN_zero (l : List Int) (x : Int) (R : List (Lit × Lit)) : putN l 0 x ++ R = R := rfl
theorem putN_succ {l : List Int} {k : Nat} (hk : k < l.length) (x : Int) (R : List (Lit × Lit)) : (Lit.int .i64 (ix l k), Lit.int .i64 x) :: (putN l k x ++ R) = putN l (k + 1) x ++ R := by
  unfold putN
  rw [List.take_succ_eq_append_getElem hk, List.reverse_append, ix_lt hk]
  rfl
theorem putN_len {l : List Int} {k : Nat} (hk : k ≤ l.length) (x : Int) : (putN l k x).length = k := by
  unfold putN
  simp [hk]
def edgesA (l : List Adj) : List Int := l.map (·.Edge)
theorem edges_ix {l : List Adj} {k : Nat} (hk : k < l.length) : ix (edgesA l) k = (ix l k).Edge := by
  unfold edgesA
  rw [ix_lt (by simpa using hk), ix_lt hk]
  simp
theorem edges_len (l : List Adj) : (edgesA l).length = l.length := by unfold edgesA; simp
theorem edges_mem {l : List Adj} {v : Int} : v ∈ edgesA l ↔ HasE l v := by unfold edgesA HasE; simp
theorem mem_take_ix {l : List Int} {k : Nat} (hk : k ≤ l.length) {v : Int} : v ∈ l.take k ↔ ∃ j, j < k ∧ ix l j = v := by
  rw [List.mem_take_iff_getElem]
  constructor
  · rintro ⟨j, hj, e⟩; exact ⟨j, by omega, by rw [ix_lt (by omega)]; exact e⟩
  · rintro ⟨j, hj, e⟩; exact ⟨j, by omega, by rw [← ix_lt (by omega)]; exact e⟩
theorem UpI.pw {l : List Int} (h : UpI l) : ∀ i j, i < j → j < l.length → ix l i < ix l j := by
  intro i j
  induction j with
  | zero => intro h; omega
  | succ j ih =>
    intro hij hj
    have h1 := h (j + 1) (by omega) hj
    rw [Nat.add_sub_cancel] at h1
    rcases Nat.lt_or_eq_of_le (Nat.le_of_lt_succ hij) with h2 | rfl
    · have := ih h2 (by omega); omega
    · exact h1
theorem kept_has {o : Ov} {v : Int} : HasE (keptO o) v ↔ HasE (entC o.Base) v ∧ v ∉ o.Dels := by
  unfold HasE keptO
  constructor
  · rintro ⟨x, hx, rfl⟩
    rw [List.mem_filter] at hx
    exact ⟨⟨x, hx.1, rfl⟩, of_decide_eq_true hx.2⟩
  · rintro ⟨⟨x, hx, rfl⟩, h⟩
    exact ⟨x, List.mem_filter.2 ⟨hx, decide_eq_true h⟩, rfl⟩
end Go.Proofs.Ytkhgjbjkjefeoaa


/-
  overlay: Valid of an overlay, the program's side (a map of the edges' states).
-/
namespace Go.Proofs.Ytkhgjbjkjefeoaa
open Go.RowKit
set_option linter.unusedSimpArgs false
set_option linter.unusedVariables false
set_option maxRecDepth 100000

noncomputable def sValO : List AV → Option (Prop × AV) := spec1 WfO (fun o => .bool (voB o))
noncomputable def CVo : Ctx := mkC Try.prog G0 [(51, .pure sValC), (36, .pure sEntC), (30, .pure sForm), (39, .pure sOrder)]
@[simp] theorem CVo_P : CVo.P = Try.prog := rfl
@[simp] theorem CVo_G : CVo.G = G0 := rfl
@[simp] theorem CVo_1 : CVo.S 51 = .pure sValC := rfl
@[simp] theorem CVo_2 : CVo.S 36 = .pure sEntC := rfl
@[simp] theorem CVo_3 : CVo.S 30 = .pure sForm := rfl
@[simp] theorem CVo_4 : CVo.S 39 = .pure sOrder := rfl
theorem mixCVo : CVo.P.follows .mixedOrders = true := mixed
theorem sigCVo : SigOK CVo := sigOK_cons (entryPure (validCP) Try.func51 rfl (by decide)) (sigOK_cons (entryPure (entCP) Try.func36 rfl (by decide)) (sigOK_cons (entryPure (formP) Try.func30 rfl (by decide)) (sigOK_cons (entryPure (orderO) Try.func39 rfl (by decide)) (sigOK_nil _ _))))
set_option maxHeartbeats 32000000 in
theorem validOP : PureOK Try.prog G0 15 sValO := by
  refine pureM1 (C := CVo) sigCVo mixCVo (noMap rfl) Try.func15 rfl rfl rfl [9, 13, 20, 27] [6] (by kernel_rfl) (by decide) (fun o hw => ?_)
  obtain ⟨hl, hdi⟩ := hw
  obtain ⟨r, hr⟩ : ∃ r, voB o = r := ⟨_, rfl⟩
  rw [hr]
  have yes : ValidO o → r = true := fun h => by rw [← hr]; exact voB_true.2 h
  have no : ¬ ValidO o → r = false := fun h => by rw [← hr]; exact voB_false.2 h
  clear hr
  have hlc : LenC o.Base := hl.1
  obtain ⟨⟨h1, h2, h3, h4⟩, l5, l6⟩ := id hl
  have hal : o.Adds.length ≤ 1000000000 := l5
  have hdl : o.Dels.length ≤ 1000000000 := l6
  by_cases hv : ValidC o.Base
  case neg =>
    have hr0 := no fun h => hv h.b
    have hb := vcB_false.2 hv
    simp [aev, gav, alook, litOf, litAV, mget, mhas, acopy, asrc, adst, cav, look, acallPure, abin, abinN, abinP, abinI, abinS, aun, aconv, afield, afieldAddr, aindexAddr, aindex, aslice, alow, ahigh, abuild, abuildGo, cellsOf, splice, fieldTy, alen, apick, amax, amin, aload, headV, aparts, abuildSlice, elParts, abytesStr, astore, amake, aappend, aclear, anew, arith, aresults, aresList, ares, spec0, spec1, spec2, spec3, spec4, eqCells, eqCell, sValC, hlc, hb, hr0]
  have hb := vcB_true.2 hv
  simp [aev, gav, alook, litOf, litAV, mget, mhas, acopy, asrc, adst, cav, look, acallPure, abin, abinN, abinP, abinI, abinS, aun, aconv, afield, afieldAddr, aindexAddr, aindex, aslice, alow, ahigh, abuild, abuildGo, cellsOf, splice, fieldTy, alen, apick, amax, amin, aload, headV, aparts, abuildSlice, elParts, abytesStr, astore, amake, aappend, aclear, anew, arith, aresults, aresList, ares, spec0, spec1, spec2, spec3, spec4, eqCells, eqCell, sValC, hlc, hb]
  refine loop_ruleM (C := CVo) sigCVo mixCVo [9, 13, 20, 27] [6] (fun q : Nat × List Blk => ⟨[(1, .ptr 0 1 6 0 0), (17, Enc.enc o.Adds), (18, .int .i64 o.Adds.length), (19, .int .i64 q.1)], [OB o] ++ q.2⟩) (fun _ => G0) (fun q => q.1 ≤ o.Adds.length ∧ (∀ i, i < q.1 → FormA (ix o.Adds i)) ∧ ∀ i, 0 < i → i < q.1 → LtA (ix o.Adds (i - 1)) (ix o.Adds i)) (fun q => o.Adds.length - q.1) (by kernel_rfl) ⟨(0, []), ⟨by simp, fun i hi => by simp at hi, fun i _ hi => by simp at hi⟩, rfl, weak_eq (by simp) (by simp [OB])⟩ (fun ⟨k, Z⟩ ⟨hk, hf, hu⟩ => ?_)
  simp only at hk hf hu ⊢
  by_cases hlt : k < o.Adds.length
  · have i1 := (len_i l5 hk).1
    simp [aev, gav, alook, litOf, litAV, mget, mhas, acopy, asrc, adst, cav, look, acallPure, abin, abinN, abinP, abinI, abinS, aun, aconv, afield, afieldAddr, aindexAddr, aindex, aslice, alow, ahigh, abuild, abuildGo, cellsOf, splice, fieldTy, alen, apick, amax, amin, aload, headV, aparts, abuildSlice, elParts, abytesStr, astore, amake, aappend, aclear, anew, arith, aresults, aresList, ares, spec0, spec1, spec2, spec3, spec4, eqCells, eqCell, OB, hlt, rowAt_enc hlt]
    refine AWm_regionF sigCVo mixCVo [.read, .read, .pure, .pure, .pure, .pure, .pure, .pure, .read, .pure, .pure, .pure, .read, .read, .read, .pure, .pure, .pure] [[],[0],[0,1],[1,0,2],[2,0,1,3],[3,1,0,2,4],[4,2,0,1,3,5],[5,3,1,0,2,4,6],[6,4,2,0,1,3,5,7],[5,3,1,0,2,4,6],[6,4,2,0,1,3,5,9],[9,10,7,5,3,1,0,2,4,6,8],[8,6,4,2,0,1,3,5,7,10,9,11],[5,3,1,0,2,4,6],[13,11,9,10,7,5,3,1,0,2,4,6,8,12],[12,8,6,4,2,0,1,3,5,7,10,9,11,13,14],[14,13,11,9,10,7,8,12,15,5,3,1,0,2,4,6],[6,4,5,15,12,8,7,10,9,11,13,14,16,2,0,1,3]] (by kernel_rfl) (by kernel_rfl) (by kernel_rfl) (by kernel_rfl) ?_
    by_cases f1 : FormA (ix o.Adds k)
    case neg =>
      have hr0 := no fun h => f1 (h.f k hlt)
      simp [aev, gav, alook, litOf, litAV, mget, mhas, acopy, asrc, adst, cav, look, acallPure, abin, abinN, abinP, abinI, abinS, aun, aconv, afield, afieldAddr, aindexAddr, aindex, aslice, alow, ahigh, abuild, abuildGo, cellsOf, splice, fieldTy, alen, apick, amax, amin, aload, headV, aparts, abuildSlice, elParts, abytesStr, astore, amake, aappend, aclear, anew, arith, aresults, aresList, ares, spec0, spec1, spec2, spec3, spec4, eqCells, eqCell, hlt, rowAt_enc hlt, sForm, f1, hr0]
    have nx : ∀ (h : 0 < k → LtA (ix o.Adds (k - 1)) (ix o.Adds k)), k + 1 ≤ o.Adds.length ∧ (∀ i, i < k + 1 → FormA (ix o.Adds i)) ∧ ∀ i, 0 < i → i < k + 1 → LtA (ix o.Adds (i - 1)) (ix o.Adds i) := fun h => by
      refine ⟨by omega, fun i hi => ?_, fun i h0 hi => ?_⟩
      · rcases Nat.lt_or_eq_of_le (Nat.le_of_lt_succ hi) with h' | rfl
        · exact hf i h'
        · exact f1
      · rcases Nat.lt_or_eq_of_le (Nat.le_of_lt_succ hi) with h' | rfl
        · exact hu i h0 h'
        · exact h h0
    by_cases h7 : k = 0
    · have h7' : ¬ 0 < k := by omega
      simp [aev, gav, alook, litOf, litAV, mget, mhas, acopy, asrc, adst, cav, look, acallPure, abin, abinN, abinP, abinI, abinS, aun, aconv, afield, afieldAddr, aindexAddr, aindex, aslice, alow, ahigh, abuild, abuildGo, cellsOf, splice, fieldTy, alen, apick, amax, amin, aload, headV, aparts, abuildSlice, elParts, abytesStr, astore, amake, aappend, aclear, anew, arith, aresults, aresList, ares, spec0, spec1, spec2, spec3, spec4, eqCells, eqCell, hlt, rowAt_enc hlt, sForm, f1, h7', i1]
      refine ⟨k + 1, nx fun h => absurd h h7', by omega, ?_⟩
      exact ⟨_, weak_eq (by simp) rfl⟩
    have k6 : 0 < k := by omega
    have k7 : I64 ((k : Int) - 1) := by unfold I64; omega
    have k8 : ((k : Int) - 1).toNat = k - 1 := by omega
    have k9 : k - 1 < o.Adds.length := by omega
    have k10 : (1 : Int) ≤ k := by omega
    have k11 : (k : Int) - 1 < o.Adds.length := by omega
    by_cases h8 : LtA (ix o.Adds (k - 1)) (ix o.Adds k)
    · have h8' : ¬ 0 ≤ cmpA (ix o.Adds (k - 1)) (ix o.Adds k) := by have := cmpA_lt.2 h8; omega
      simp [aev, gav, alook, litOf, litAV, mget, mhas, acopy, asrc, adst, cav, look, acallPure, abin, abinN, abinP, abinI, abinS, aun, aconv, afield, afieldAddr, aindexAddr, aindex, aslice, alow, ahigh, abuild, abuildGo, cellsOf, splice, fieldTy, alen, apick, amax, amin, aload, headV, aparts, abuildSlice, elParts, abytesStr, astore, amake, aappend, aclear, anew, arith, aresults, aresList, ares, spec0, spec1, spec2, spec3, spec4, eqCells, eqCell, hlt, rowAt_enc hlt, sForm, f1, k6, k7, k8, k9, k10, k11, rowAt_enc k9, sOrder, h8', i1]
      refine ⟨k + 1, nx fun _ => h8, by omega, ?_⟩
      exact ⟨_, weak_eq (by simp) rfl⟩
    · have h8' : 0 ≤ cmpA (ix o.Adds (k - 1)) (ix o.Adds k) := by have := mt cmpA_lt.1 h8; omega
      have hr0 := no fun h => h8 (h.u k k6 hlt)
      simp [aev, gav, alook, litOf, litAV, mget, mhas, acopy, asrc, adst, cav, look, acallPure, abin, abinN, abinP, abinI, abinS, aun, aconv, afield, afieldAddr, aindexAddr, aindex, aslice, alow, ahigh, abuild, abuildGo, cellsOf, splice, fieldTy, alen, apick, amax, amin, aload, headV, aparts, abuildSlice, elParts, abytesStr, astore, amake, aappend, aclear, anew, arith, aresults, aresList, ares, spec0, spec1, spec2, spec3, spec4, eqCells, eqCell, hlt, rowAt_enc hlt, sForm, f1, k6, k7, k8, k9, k10, k11, rowAt_enc k9, sOrder, h8', hr0]
  have hkk : k = o.Adds.length := by omega
  subst hkk
  clear hlt hk
  have hel := entC_len hlc
  have hel' : (entC o.Base).length ≤ 1000000000 := hel
  simp [aev, gav, alook, litOf, litAV, mget, mhas, acopy, asrc, adst, cav, look, acallPure, abin, abinN, abinP, abinI, abinS, aun, aconv, afield, afieldAddr, aindexAddr, aindex, aslice, alow, ahigh, abuild, abuildGo, cellsOf, splice, fieldTy, alen, apick, amax, amin, aload, headV, aparts, abuildSlice, elParts, abytesStr, astore, amake, aappend, aclear, anew, arith, aresults, aresList, ares, spec0, spec1, spec2, spec3, spec4, eqCells, eqCell, OB, sEntC, hlc]
  intro b hb0
  have hE : ∀ v, HasE (entC o.Base) v ↔ v ∈ (edgesA (entC o.Base)).take (entC o.Base).length := fun v => by
    rw [← edges_mem, ← edges_len, List.take_length]
  have hform : ∀ i, i < (entC o.Base).length → I64 (ix (entC o.Base) i).Edge := fun i hi => by
    have e : entC o.Base = unpackC o.Base := if_pos hb
    have := hv.f (ix (entC o.Base) i) (by rw [← e]; exact ix_mem hi)
    exact id_i64 this.2.2
  have hkh := fun v => kept_has (o := o) (v := v)
  have hdis := (entC_up o.Base).2
  have j1 : I64 1 := by unfold I64; omega
  have j2 : I64 2 := by unfold I64; omega
  generalize hEl : entC o.Base = l at *
  refine loop_ruleM (C := CVo) sigCVo mixCVo [9, 13, 20, 27] [6] (fun q : Nat × List Blk => ⟨[(1, .ptr 0 1 6 0 0), (5, .mapp b), (46, Enc.enc l), (47, .int .i64 l.length), (48, .int .i64 q.1)], [OB o] ++ q.2⟩) (fun q => upd G0 b (.mapof 3 3 (putN (edgesA l) q.1 1 ++ []))) (fun q => q.1 ≤ l.length) (fun q => l.length - q.1) (by kernel_rfl) ⟨(0, Z), by simp, by simp [putN], weak_eq (by simp) (by simp [OB])⟩ (fun ⟨k, Z⟩ hk => ?_)
  simp only at hk ⊢
  by_cases hlt : k < l.length
  · have i1 := (len_i hel hk).1
    have hpl := putN_len (show k ≤ (edgesA l).length by rw [edges_len]; exact hk) 1
    have hps := putN_succ (show k < (edgesA l).length by rw [edges_len]; exact hlt) 1 []
    rw [edges_ix hlt] at hps
    have hf6 := hform k hlt
    simp only [List.append_nil] at hps ⊢
    simp [aev, gav, alook, litOf, litAV, mget, mhas, acopy, asrc, adst, cav, look, acallPure, abin, abinN, abinP, abinI, abinS, aun, aconv, afield, afieldAddr, aindexAddr, aindex, aslice, alow, ahigh, abuild, abuildGo, cellsOf, splice, fieldTy, alen, apick, amax, amin, aload, headV, aparts, abuildSlice, elParts, abytesStr, astore, amake, aappend, aclear, anew, arith, aresults, aresList, ares, spec0, spec1, spec2, spec3, spec4, eqCells, eqCell, OB, hlt, rowAt_enc hlt, i1, j1, hf6, hpl, hps]
    refine ⟨by omega, k + 1, by omega, by omega, rfl, ?_⟩
    exact ⟨_, weak_eq (by simp) rfl⟩
  have hkk : k = l.length := by omega
  subst hkk
  clear hlt hk
  simp [aev, gav, alook, litOf, litAV, mget, mhas, acopy, asrc, adst, cav, look, acallPure, abin, abinN, abinP, abinI, abinS, aun, aconv, afield, afieldAddr, aindexAddr, aindex, aslice, alow, ahigh, abuild, abuildGo, cellsOf, splice, fieldTy, alen, apick, amax, amin, aload, headV, aparts, abuildSlice, elParts, abytesStr, astore, amake, aappend, aclear, anew, arith, aresults, aresList, ares, spec0, spec1, spec2, spec3, spec4, eqCells, eqCell, OB]
  have hR : ∀ v, mget (putN (edgesA l) l.length 1) (.int .i64 v) (.int .i64 0) = if HasE l v then .int .i64 1 else .int .i64 0 := fun v => by
    have := mget_putN (edgesA l) l.length 1 [] v (.int .i64 0)
    rw [List.append_nil] at this
    rw [this]
    by_cases h : HasE l v
    · rw [if_pos h, if_pos ((hE v).1 h)]
    · rw [if_neg h, if_neg (mt (hE v).2 h)]; rfl
  have hRl : (putN (edgesA l) l.length 1).length = l.length := putN_len (by rw [edges_len]; exact Nat.le_refl _) 1
  generalize putN (edgesA l) l.length 1 = R at *
  refine loop_ruleM (C := CVo) sigCVo mixCVo [9, 13, 20, 27] [6] (fun q : Nat => ⟨[(1, .ptr 0 1 6 0 0), (5, .mapp b), (57, Enc.enc o.Dels), (58, .int .i64 o.Dels.length), (59, .int .i64 q)], [OB o] ++ Z⟩) (fun q => upd G0 b (.mapof 3 3 (putN o.Dels q 2 ++ R))) (fun q => q ≤ o.Dels.length ∧ (∀ i, i < q → HasE l (ix o.Dels i)) ∧ ∀ i, 0 < i → i < q → ix o.Dels (i - 1) < ix o.Dels i) (fun q => o.Dels.length - q) (by kernel_rfl) ⟨0, ⟨by omega, fun i hi => by omega, fun i _ hi => by omega⟩, by simp [putN], weak_eq (by simp) (by simp [OB])⟩ (fun k ⟨hk, hm, hdu⟩ => ?_)
  by_cases hlt : k < o.Dels.length
  · have i1 := (len_i l6 hk).1
    have hki := hdi _ (ix_mem hlt)
    have hget := mget_putN o.Dels k 2 R (ix o.Dels k) (.int .i64 0)
    rw [hR] at hget
    have hps := putN_succ hlt 2 R
    have hpl := putN_len hk 2
    have hlen : (putN o.Dels k 2 ++ R).length = k + l.length := by rw [List.length_append, hpl, hRl]
    by_cases c1 : ix o.Dels k ∈ o.Dels.take k
    · rw [if_pos c1] at hget
      obtain ⟨j, hj, e⟩ := (mem_take_ix hk).1 c1
      have hr0 := no fun h => by have := h.du.pw j k hj hlt; omega
      simp [aev, gav, alook, litOf, litAV, mget, mhas, acopy, asrc, adst, cav, look, acallPure, abin, abinN, abinP, abinI, abinS, aun, aconv, afield, afieldAddr, aindexAddr, aindex, aslice, alow, ahigh, abuild, abuildGo, cellsOf, splice, fieldTy, alen, apick, amax, amin, aload, headV, aparts, abuildSlice, elParts, abytesStr, astore, amake, aappend, aclear, anew, arith, aresults, aresList, ares, spec0, spec1, spec2, spec3, spec4, eqCells, eqCell, OB, hlt, rowAt_enc hlt, hki, hget, hr0]
    rw [if_neg c1] at hget
    by_cases c2 : HasE l (ix o.Dels k)
    case neg =>
      rw [if_neg c2] at hget
      have hr0 := no fun h => c2 (by have := h.dm k hlt; rwa [hEl] at this)
      simp [aev, gav, alook, litOf, litAV, mget, mhas, acopy, asrc, adst, cav, look, acallPure, abin, abinN, abinP, abinI, abinS, aun, aconv, afield, afieldAddr, aindexAddr, aindex, aslice, alow, ahigh, abuild, abuildGo, cellsOf, splice, fieldTy, alen, apick, amax, amin, aload, headV, aparts, abuildSlice, elParts, abytesStr, astore, amake, aappend, aclear, anew, arith, aresults, aresList, ares, spec0, spec1, spec2, spec3, spec4, eqCells, eqCell, OB, hlt, rowAt_enc hlt, hki, hget, hr0]
    rw [if_pos c2] at hget
    have nx : ∀ (h : 0 < k → ix o.Dels (k - 1) < ix o.Dels k), k + 1 ≤ o.Dels.length ∧ (∀ i, i < k + 1 → HasE l (ix o.Dels i)) ∧ ∀ i, 0 < i → i < k + 1 → ix o.Dels (i - 1) < ix o.Dels i := fun h => by
      refine ⟨by omega, fun i hi => ?_, fun i h0 hi => ?_⟩
      · rcases Nat.lt_or_eq_of_le (Nat.le_of_lt_succ hi) with h' | rfl
        · exact hm i h'
        · exact c2
      · rcases Nat.lt_or_eq_of_le (Nat.le_of_lt_succ hi) with h' | rfl
        · exact hdu i h0 h'
        · exact h h0
    by_cases h7 : k = 0
    · have h7' : ¬ 0 < k := by omega
      simp [aev, gav, alook, litOf, litAV, mget, mhas, acopy, asrc, adst, cav, look, acallPure, abin, abinN, abinP, abinI, abinS, aun, aconv, afield, afieldAddr, aindexAddr, aindex, aslice, alow, ahigh, abuild, abuildGo, cellsOf, splice, fieldTy, alen, apick, amax, amin, aload, headV, aparts, abuildSlice, elParts, abytesStr, astore, amake, aappend, aclear, anew, arith, aresults, aresList, ares, spec0, spec1, spec2, spec3, spec4, eqCells, eqCell, OB, hlt, rowAt_enc hlt, hki, hget, h7', i1, j2, hlen, hps]
      refine ⟨by omega, k + 1, nx fun h => absurd h h7', by omega, rfl, weak_eq (by simp) (by simp [OB])⟩
    have k6 : 0 < k := by omega
    have k7 : I64 ((k : Int) - 1) := by unfold I64; omega
    have k8 : ((k : Int) - 1).toNat = k - 1 := by omega
    have k9 : k - 1 < o.Dels.length := by omega
    have k10 : (1 : Int) ≤ k := by omega
    have k11 : (k : Int) - 1 < o.Dels.length := by omega
    by_cases h8 : ix o.Dels (k - 1) < ix o.Dels k
    · have h8' : ¬ ix o.Dels k ≤ ix o.Dels (k - 1) := by omega
      simp [aev, gav, alook, litOf, litAV, mget, mhas, acopy, asrc, adst, cav, look, acallPure, abin, abinN, abinP, abinI, abinS, aun, aconv, afield, afieldAddr, aindexAddr, aindex, aslice, alow, ahigh, abuild, abuildGo, cellsOf, splice, fieldTy, alen, apick, amax, amin, aload, headV, aparts, abuildSlice, elParts, abytesStr, astore, amake, aappend, aclear, anew, arith, aresults, aresList, ares, spec0, spec1, spec2, spec3, spec4, eqCells, eqCell, OB, hlt, rowAt_enc hlt, hki, hget, k6, k7, k8, k9, k10, k11, rowAt_enc k9, h8', i1, j2, hlen, hps]
      refine ⟨by omega, k + 1, nx fun _ => h8, by omega, rfl, weak_eq (by simp) (by simp [OB])⟩
    · have h8' : ix o.Dels k ≤ ix o.Dels (k - 1) := by omega
      have hr0 := no fun h => h8 (h.du k k6 hlt)
      simp [aev, gav, alook, litOf, litAV, mget, mhas, acopy, asrc, adst, cav, look, acallPure, abin, abinN, abinP, abinI, abinS, aun, aconv, afield, afieldAddr, aindexAddr, aindex, aslice, alow, ahigh, abuild, abuildGo, cellsOf, splice, fieldTy, alen, apick, amax, amin, aload, headV, aparts, abuildSlice, elParts, abytesStr, astore, amake, aappend, aclear, anew, arith, aresults, aresList, ares, spec0, spec1, spec2, spec3, spec4, eqCells, eqCell, OB, hlt, rowAt_enc hlt, hki, hget, k6, k7, k8, k9, k10, k11, rowAt_enc k9, h8', hr0]
  have hkk : k = o.Dels.length := by omega
  subst hkk
  clear hlt hk
  simp [aev, gav, alook, litOf, litAV, mget, mhas, acopy, asrc, adst, cav, look, acallPure, abin, abinN, abinP, abinI, abinS, aun, aconv, afield, afieldAddr, aindexAddr, aindex, aslice, alow, ahigh, abuild, abuildGo, cellsOf, splice, fieldTy, alen, apick, amax, amin, aload, headV, aparts, abuildSlice, elParts, abytesStr, astore, amake, aappend, aclear, anew, arith, aresults, aresList, ares, spec0, spec1, spec2, spec3, spec4, eqCells, eqCell, OB]
  have hR2 : ∀ v, mget (putN o.Dels o.Dels.length 2 ++ R) (.int .i64 v) (.int .i64 0) = if v ∈ o.Dels then .int .i64 2 else if HasE l v then .int .i64 1 else .int .i64 0 := fun v => by
    rw [mget_putN, List.take_length, hR]
  have hRl2 : (putN o.Dels o.Dels.length 2 ++ R).length = o.Dels.length + l.length := by rw [List.length_append, putN_len (Nat.le_refl _), hRl]
  generalize putN o.Dels o.Dels.length 2 ++ R = R2 at *
  refine loop_ruleM (C := CVo) sigCVo mixCVo [9, 13, 20, 27] [6] (fun q : Nat × List Blk => ⟨[(1, .ptr 0 1 6 0 0), (5, .mapp b), (86, Enc.enc o.Adds), (87, .int .i64 o.Adds.length), (88, .int .i64 q.1)], [OB o] ++ q.2⟩) (fun q => upd G0 b (.mapof 3 3 (putN (edgesA o.Adds) q.1 1 ++ R2))) (fun q => q.1 ≤ o.Adds.length ∧ (∀ i, i < q.1 → ¬ HasE (keptO o) (ix o.Adds i).Edge) ∧ ∀ i j, i < j → j < q.1 → (ix o.Adds i).Edge ≠ (ix o.Adds j).Edge) (fun q => o.Adds.length - q.1) (by kernel_rfl) ⟨(0, Z), ⟨by simp, fun i hi => by simp at hi, fun i j _ hj => by simp at hj⟩, by simp [putN], weak_eq (by simp) (by simp [OB])⟩ (fun ⟨k, Z⟩ ⟨hk, he, hd⟩ => ?_)
  simp only at hk he hd ⊢
  by_cases hlt : k < o.Adds.length
  · have i1 := (len_i l5 hk).1
    have hki := id_i64 (hf k hlt).2.2
    have hke : k ≤ (edgesA o.Adds).length := by rw [edges_len]; exact hk
    have hget := mget_putN (edgesA o.Adds) k 1 R2 (ix o.Adds k).Edge (.int .i64 0)
    rw [hR2] at hget
    have hps := putN_succ (show k < (edgesA o.Adds).length by rw [edges_len]; exact hlt) 1 R2
    rw [edges_ix hlt] at hps
    have hlen : (putN (edgesA o.Adds) k 1 ++ R2).length = k + (o.Dels.length + l.length) := by rw [List.length_append, putN_len hke, hRl2]
    by_cases c1 : (ix o.Adds k).Edge ∈ (edgesA o.Adds).take k
    · rw [if_pos c1] at hget
      obtain ⟨j, hj, e⟩ := (mem_take_ix hke).1 c1
      rw [edges_ix (by omega)] at e
      have hr0 := no fun h => h.d j k hj hlt e
      simp [aev, gav, alook, litOf, litAV, mget, mhas, acopy, asrc, adst, cav, look, acallPure, abin, abinN, abinP, abinI, abinS, aun, aconv, afield, afieldAddr, aindexAddr, aindex, aslice, alow, ahigh, abuild, abuildGo, cellsOf, splice, fieldTy, alen, apick, amax, amin, aload, headV, aparts, abuildSlice, elParts, abytesStr, astore, amake, aappend, aclear, anew, arith, aresults, aresList, ares, spec0, spec1, spec2, spec3, spec4, eqCells, eqCell, OB, hlt, rowAt_enc hlt, hki, hget, hr0]
    rw [if_neg c1] at hget
    have c1' : ∀ j, j < k → (ix o.Adds j).Edge ≠ (ix o.Adds k).Edge := fun j hj e => c1 ((mem_take_ix hke).2 ⟨j, hj, by rw [edges_ix (by omega)]; exact e⟩)
    by_cases c2 : HasE (keptO o) (ix o.Adds k).Edge
    · have hr0 := no fun h => h.e k hlt c2
      obtain ⟨c3, c4⟩ := (hkh _).1 c2
      rw [if_neg c4, if_pos c3] at hget
      simp [aev, gav, alook, litOf, litAV, mget, mhas, acopy, asrc, adst, cav, look, acallPure, abin, abinN, abinP, abinI, abinS, aun, aconv, afield, afieldAddr, aindexAddr, aindex, aslice, alow, ahigh, abuild, abuildGo, cellsOf, splice, fieldTy, alen, apick, amax, amin, aload, headV, aparts, abuildSlice, elParts, abytesStr, astore, amake, aappend, aclear, anew, arith, aresults, aresList, ares, spec0, spec1, spec2, spec3, spec4, eqCells, eqCell, OB, hlt, rowAt_enc hlt, hki, hget, hr0]
    have hst : ∃ z, (if (ix o.Adds k).Edge ∈ o.Dels then Lit.int .i64 2 else if HasE l (ix o.Adds k).Edge then Lit.int .i64 1 else Lit.int .i64 0) = Lit.int .i64 z ∧ ¬ z = 1 := by
      by_cases c4 : (ix o.Adds k).Edge ∈ o.Dels
      · exact ⟨2, by rw [if_pos c4], by decide⟩
      · have c3 : ¬ HasE l (ix o.Adds k).Edge := fun h => c2 ((hkh _).2 ⟨h, c4⟩)
        exact ⟨0, by rw [if_neg c4, if_neg c3], by decide⟩
    obtain ⟨z, hz1, hz2⟩ := hst
    rw [hz1] at hget
    simp [aev, gav, alook, litOf, litAV, mget, mhas, acopy, asrc, adst, cav, look, acallPure, abin, abinN, abinP, abinI, abinS, aun, aconv, afield, afieldAddr, aindexAddr, aindex, aslice, alow, ahigh, abuild, abuildGo, cellsOf, splice, fieldTy, alen, apick, amax, amin, aload, headV, aparts, abuildSlice, elParts, abytesStr, astore, amake, aappend, aclear, anew, arith, aresults, aresList, ares, spec0, spec1, spec2, spec3, spec4, eqCells, eqCell, OB, hlt, rowAt_enc hlt, hki, hget, hz2, i1, j1, hlen, hps]
    refine ⟨by omega, k + 1, ⟨by omega, fun i hi => ?_, fun i j hij hj => ?_⟩, by omega, rfl, ?_⟩
    · rcases Nat.lt_or_eq_of_le (Nat.le_of_lt_succ hi) with h' | rfl
      · exact he i h'
      · exact c2
    · rcases Nat.lt_or_eq_of_le (Nat.le_of_lt_succ hj) with h' | rfl
      · exact hd i j hij h'
      · exact c1' i hij
    · exact ⟨_, weak_eq (by simp) rfl⟩
  · have hkk : k = o.Adds.length := by omega
    subst hkk
    have hr0 := yes ⟨hv, hf, hu, hdu, fun i hi => by rw [hEl]; exact hm i hi, he, hd⟩
    simp [aev, gav, alook, litOf, litAV, mget, mhas, acopy, asrc, adst, cav, look, acallPure, abin, abinN, abinP, abinI, abinS, aun, aconv, afield, afieldAddr, aindexAddr, aindex, aslice, alow, ahigh, abuild, abuildGo, cellsOf, splice, fieldTy, alen, apick, amax, amin, aload, headV, aparts, abuildSlice, elParts, abytesStr, astore, amake, aappend, aclear, anew, arith, aresults, aresList, ares, spec0, spec1, spec2, spec3, spec4, eqCells, eqCell, OB, hr0]
end Go.Proofs.Ytkhgjbjkjefeoaa
