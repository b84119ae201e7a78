/-
  layer 18: what a path pattern is held against, the program's side.
-/
import Derived.Test.YthcfnaglgoaikaaGreatSP
namespace Go.Proofs.YthcfnaglgoaikaaGreat
open Go.RowKit
set_option linter.unusedSimpArgs false
set_option linter.unusedVariables false
set_option maxRecDepth 100000

def findAt {α : Type} (f : α → Bool) : List α → Nat → Int
  | [], _ => -1
  | x :: r, i => if f x = true then i else findAt f r (i + 1)
theorem findAt_iff {α : Type} (f : α → Bool) : ∀ (l : List α) (i : Nat), decide (0 ≤ findAt f l i) = l.any f
  | [], i => by simp [findAt]
  | e :: r, i => by
    rw [findAt, List.any_cons]
    cases h : f e
    · simpa using findAt_iff f r (i + 1)
    · simp
theorem findAt_drop {α : Type} [Inhabited α] {f : α → Bool} {l : List α} {i k : Nat} (h : i < l.length) : findAt f (l.drop i) k = if f (ix l i) = true then (k : Int) else findAt f (l.drop (i + 1)) (k + 1) := by
  rw [List.drop_eq_getElem_cons h, findAt, ix_lt h]
theorem maxLen_le {n : Nat} (h : n ≤ maxLen) : n ≤ 9223372036854775807 := by unfold maxLen at h; omega

def updB (c : Clause) : Bool := decide (5 ≤ c.kind) && decide (c.kind ≤ 8)
/-- The two tests of an edge pattern, as functions that are handed on. -/
structure HopF where
  v : Bool
instance : Enc HopF where
  sz := 1
  cells b := [.fn (if b.v = true then 26 else 33) []]
  enc b := .fn (if b.v = true then 26 else 33) []
  unc c := match c with | [.fn k _] => ⟨decide (k = 26)⟩ | _ => ⟨false⟩
  dec c := match c with | .fn k _ => ⟨decide (k = 26)⟩ | _ => ⟨false⟩
  unc_cells b := by cases b with | mk v => cases v <;> rfl
  dec_enc b := by cases b with | mk v => cases v <;> rfl
@[simp] theorem enc_hopF1 : Enc.enc (⟨true⟩ : HopF) = .fn 26 [] := rfl
@[simp] theorem enc_hopF2 : Enc.enc (⟨false⟩ : HopF) = .fn 33 [] := rfl
@[simp] theorem dec_hopF1 : (Enc.dec (.fn 26 []) : HopF) = ⟨true⟩ := rfl
@[simp] theorem dec_hopF2 : (Enc.dec (.fn 33 []) : HopF) = ⟨false⟩ := rfl
def hopT (b : Bool) (e : EdgePat) : Bool := if b = true then !hopB e else !creB e

def PB (p : PathPat) : Blk := ⟨25, 3, [[.str p.var, .slice 3 false (encRows p.nodes), .slice 7 false (encRows p.edges)]], true, true⟩

section
variable {m : Int}
def sHop : List AV → Option (Prop × AV) := spec1 (fun (_ : EdgePat) => True) (fun e => .bool (hopB e))
def sCre : List AV → Option (Prop × AV) := spec1 (fun (_ : EdgePat) => True) (fun e => .bool (creB e))

set_option maxHeartbeats 8000000 in
theorem hopP : PureOK Tryz.prog (G m) 27 sHop := by
  refine pure1 (C := CE m) (sigCE m) (mixCE m) Tryz.func27 rfl rfl rfl (by kernel_rfl) (by decide) (fun e _ => ?_)
  by_cases h1 : e.dir < 1
  · have hB : hopB e = false := by simp only [hopB, Bool.and_eq_false_iff, decide_eq_false_iff_not]; left; omega
    simp [aev, cav, look, acallPure, abin, abinN, abinP, abinI, abinS, aun, aconv, afield, afieldAddr, aindexAddr, aindex, aslice, alow, ahigh, abuild, abuildGo, cellsOf, splice, fieldTy, alen, apick, amax, amin, aload, headV, aparts, abuildSlice, elParts, abytesStr, astore, amake, aappend, anew, arith, aresults, aresList, ares, spec0, spec1, spec2, spec3, spec4, eqCells, eqCell, h1, hB]
  by_cases h2 : 3 < e.dir
  · have hB : hopB e = false := by simp only [hopB, Bool.and_eq_false_iff, decide_eq_false_iff_not]; left; omega
    simp [aev, cav, look, acallPure, abin, abinN, abinP, abinI, abinS, aun, aconv, afield, afieldAddr, aindexAddr, aindex, aslice, alow, ahigh, abuild, abuildGo, cellsOf, splice, fieldTy, alen, apick, amax, amin, aload, headV, aparts, abuildSlice, elParts, abytesStr, astore, amake, aappend, anew, arith, aresults, aresList, ares, spec0, spec1, spec2, spec3, spec4, eqCells, eqCell, h1, h2, hB]
  by_cases h3 : e.mode < 0
  · have hB : hopB e = false := by simp only [hopB, Bool.and_eq_false_iff, decide_eq_false_iff_not]; left; omega
    simp [aev, cav, look, acallPure, abin, abinN, abinP, abinI, abinS, aun, aconv, afield, afieldAddr, aindexAddr, aindex, aslice, alow, ahigh, abuild, abuildGo, cellsOf, splice, fieldTy, alen, apick, amax, amin, aload, headV, aparts, abuildSlice, elParts, abytesStr, astore, amake, aappend, anew, arith, aresults, aresList, ares, spec0, spec1, spec2, spec3, spec4, eqCells, eqCell, h1, h2, h3, hB]
  by_cases h4 : 5 < e.mode
  · have hB : hopB e = false := by simp only [hopB, Bool.and_eq_false_iff, decide_eq_false_iff_not]; left; omega
    simp [aev, cav, look, acallPure, abin, abinN, abinP, abinI, abinS, aun, aconv, afield, afieldAddr, aindexAddr, aindex, aslice, alow, ahigh, abuild, abuildGo, cellsOf, splice, fieldTy, alen, apick, amax, amin, aload, headV, aparts, abuildSlice, elParts, abytesStr, astore, amake, aappend, anew, arith, aresults, aresList, ares, spec0, spec1, spec2, spec3, spec4, eqCells, eqCell, h1, h2, h3, h4, hB]
  have hd : decide (1 ≤ e.dir ∧ e.dir ≤ 3 ∧ 0 ≤ e.mode ∧ e.mode ≤ 5) = true := by rw [decide_eq_true_eq]; omega
  rcases em2 (e.mode = 0) with h5 | h5
  · have hB : hopB e = decide (e.lo = 0 ∧ e.hi = 0) := by unfold hopB; rw [hd, if_pos (of_eq_true h5)]; simp
    rcases em2 (e.lo = 0) with h6 | h6 <;> rcases em2 (e.hi = 0) with h7 | h7 <;> simp [aev, cav, look, acallPure, abin, abinN, abinP, abinI, abinS, aun, aconv, afield, afieldAddr, aindexAddr, aindex, aslice, alow, ahigh, abuild, abuildGo, cellsOf, splice, fieldTy, alen, apick, amax, amin, aload, headV, aparts, abuildSlice, elParts, abytesStr, astore, amake, aappend, anew, arith, aresults, aresList, ares, spec0, spec1, spec2, spec3, spec4, eqCells, eqCell, h1, h2, h3, h4, h5, h6, h7, hB]
  · have hB : hopB e = (decide (0 ≤ e.lo ∧ e.lo ≤ e.hi ∧ 1 ≤ e.hi ∧ e.hi ≤ 6) && decide (e.props = [])) := by unfold hopB; rw [hd, if_neg (of_eq_false h5)]; simp
    by_cases h6 : 0 ≤ e.lo
    case neg => simp [aev, cav, look, acallPure, abin, abinN, abinP, abinI, abinS, aun, aconv, afield, afieldAddr, aindexAddr, aindex, aslice, alow, ahigh, abuild, abuildGo, cellsOf, splice, fieldTy, alen, apick, amax, amin, aload, headV, aparts, abuildSlice, elParts, abytesStr, astore, amake, aappend, anew, arith, aresults, aresList, ares, spec0, spec1, spec2, spec3, spec4, eqCells, eqCell, h1, h2, h3, h4, h5, h6, hB]
    by_cases h7 : e.lo ≤ e.hi
    case neg => simp [aev, cav, look, acallPure, abin, abinN, abinP, abinI, abinS, aun, aconv, afield, afieldAddr, aindexAddr, aindex, aslice, alow, ahigh, abuild, abuildGo, cellsOf, splice, fieldTy, alen, apick, amax, amin, aload, headV, aparts, abuildSlice, elParts, abytesStr, astore, amake, aappend, anew, arith, aresults, aresList, ares, spec0, spec1, spec2, spec3, spec4, eqCells, eqCell, h1, h2, h3, h4, h5, h6, h7, hB]
    by_cases h8 : 1 ≤ e.hi
    case neg => simp [aev, cav, look, acallPure, abin, abinN, abinP, abinI, abinS, aun, aconv, afield, afieldAddr, aindexAddr, aindex, aslice, alow, ahigh, abuild, abuildGo, cellsOf, splice, fieldTy, alen, apick, amax, amin, aload, headV, aparts, abuildSlice, elParts, abytesStr, astore, amake, aappend, anew, arith, aresults, aresList, ares, spec0, spec1, spec2, spec3, spec4, eqCells, eqCell, h1, h2, h3, h4, h5, h6, h7, h8, hB]
    by_cases h9 : e.hi ≤ 6
    case neg => simp [aev, cav, look, acallPure, abin, abinN, abinP, abinI, abinS, aun, aconv, afield, afieldAddr, aindexAddr, aindex, aslice, alow, ahigh, abuild, abuildGo, cellsOf, splice, fieldTy, alen, apick, amax, amin, aload, headV, aparts, abuildSlice, elParts, abytesStr, astore, amake, aappend, anew, arith, aresults, aresList, ares, spec0, spec1, spec2, spec3, spec4, eqCells, eqCell, h1, h2, h3, h4, h5, h6, h7, h8, h9, hB]
    rcases em2 (e.props = []) with h10 | h10 <;> simp [aev, cav, look, acallPure, abin, abinN, abinP, abinI, abinS, aun, aconv, afield, afieldAddr, aindexAddr, aindex, aslice, alow, ahigh, abuild, abuildGo, cellsOf, splice, fieldTy, alen, apick, amax, amin, aload, headV, aparts, abuildSlice, elParts, abytesStr, astore, amake, aappend, anew, arith, aresults, aresList, ares, spec0, spec1, spec2, spec3, spec4, eqCells, eqCell, h1, h2, h3, h4, h5, h6, h7, h8, h9, h10, hB]

set_option maxHeartbeats 8000000 in
theorem creP : PureOK Tryz.prog (G m) 34 sCre := by
  refine pure1 (C := CE m) (sigCE m) (mixCE m) Tryz.func34 rfl rfl rfl (by kernel_rfl) (by decide) (fun e _ => ?_)
  rcases em2 (e.mode = 0) with h1 | h1
  case inr => simp [aev, cav, look, acallPure, abin, abinN, abinP, abinI, abinS, aun, aconv, afield, afieldAddr, aindexAddr, aindex, aslice, alow, ahigh, abuild, abuildGo, cellsOf, splice, fieldTy, alen, apick, amax, amin, aload, headV, aparts, abuildSlice, elParts, abytesStr, astore, amake, aappend, anew, arith, aresults, aresList, ares, spec0, spec1, spec2, spec3, spec4, eqCells, eqCell, creB, h1]
  by_cases h2 : e.types.length = 1
  · rcases em2 (e.dir = 3) with h3 | h3 <;> simp [aev, cav, look, acallPure, abin, abinN, abinP, abinI, abinS, aun, aconv, afield, afieldAddr, aindexAddr, aindex, aslice, alow, ahigh, abuild, abuildGo, cellsOf, splice, fieldTy, alen, apick, amax, amin, aload, headV, aparts, abuildSlice, elParts, abytesStr, astore, amake, aappend, anew, arith, aresults, aresList, ares, spec0, spec1, spec2, spec3, spec4, eqCells, eqCell, creB, h1, h2, h3]
  · have h2' : ¬ (e.types.length : Int) = 1 := by omega
    simp [aev, cav, look, acallPure, abin, abinN, abinP, abinI, abinS, aun, aconv, afield, afieldAddr, aindexAddr, aindex, aslice, alow, ahigh, abuild, abuildGo, cellsOf, splice, fieldTy, alen, apick, amax, amin, aload, headV, aparts, abuildSlice, elParts, abytesStr, astore, amake, aappend, anew, arith, aresults, aresList, ares, spec0, spec1, spec2, spec3, spec4, eqCells, eqCell, creB, h1, h2, h2']

def sHop1 : List AV → Option (Prop × AV) := spec1 (fun (_ : EdgePat) => True) (fun e => .bool (hopT true e))
def sHop2 : List AV → Option (Prop × AV) := spec1 (fun (_ : EdgePat) => True) (fun e => .bool (hopT false e))
def sUpd : List AV → Option (Prop × AV) := spec1 (fun (_ : Clause) => True) (fun e => .bool (updB e))
def sNW : List AV → Option (Prop × AV) := spec1 (fun (_ : ByteArray) => True) (fun e => .bool (!wordB e))
noncomputable def CLf (m : Int) : Ctx := mkC Tryz.prog (G m) [(27, .pure sHop), (34, .pure sCre), (29, .pure sWord)]
@[simp] theorem CLf_P (m : Int) : (CLf m).P = Tryz.prog := rfl
@[simp] theorem CLf_1 (m : Int) : (CLf m).S 27 = .pure sHop := rfl
@[simp] theorem CLf_2 (m : Int) : (CLf m).S 34 = .pure sCre := rfl
@[simp] theorem CLf_3 (m : Int) : (CLf m).S 29 = .pure sWord := rfl
theorem mixCLf (m : Int) : (CLf m).P.follows .mixedOrders = true := mixed
theorem sigCLf (m : Int) : SigOK (CLf m) := sigOK_cons (entryPure hopP Tryz.func27 rfl (by decide)) (sigOK_cons (entryPure creP Tryz.func34 rfl (by decide)) (sigOK_cons (entryPure wordP Tryz.func29 rfl (by decide)) (sigOK_nil _ _)))
theorem hop1P : PureOK Tryz.prog (G m) 26 sHop1 := by
  refine pure1 (C := CLf m) (sigCLf m) (mixCLf m) Tryz.func26 rfl rfl rfl (by kernel_rfl) (by decide) (fun e _ => ?_)
  simp [aev, cav, look, acallPure, abin, abinN, abinP, abinI, abinS, aun, aconv, afield, afieldAddr, aindexAddr, aindex, aslice, alow, ahigh, abuild, abuildGo, cellsOf, splice, fieldTy, alen, apick, amax, amin, aload, headV, aparts, abuildSlice, elParts, abytesStr, astore, amake, aappend, anew, arith, aresults, aresList, ares, spec0, spec1, spec2, spec3, spec4, eqCells, eqCell, sHop, hopT]
theorem hop2P : PureOK Tryz.prog (G m) 33 sHop2 := by
  refine pure1 (C := CLf m) (sigCLf m) (mixCLf m) Tryz.func33 rfl rfl rfl (by kernel_rfl) (by decide) (fun e _ => ?_)
  simp [aev, cav, look, acallPure, abin, abinN, abinP, abinI, abinS, aun, aconv, afield, afieldAddr, aindexAddr, aindex, aslice, alow, ahigh, abuild, abuildGo, cellsOf, splice, fieldTy, alen, apick, amax, amin, aload, headV, aparts, abuildSlice, elParts, abytesStr, astore, amake, aappend, anew, arith, aresults, aresList, ares, spec0, spec1, spec2, spec3, spec4, eqCells, eqCell, sCre, hopT]
theorem nwP : PureOK Tryz.prog (G m) 55 sNW := by
  refine pure1 (C := CLf m) (sigCLf m) (mixCLf m) Tryz.func55 rfl rfl rfl (by kernel_rfl) (by decide) (fun e _ => ?_)
  simp [aev, cav, look, acallPure, abin, abinN, abinP, abinI, abinS, aun, aconv, afield, afieldAddr, aindexAddr, aindex, aslice, alow, ahigh, abuild, abuildGo, cellsOf, splice, fieldTy, alen, apick, amax, amin, aload, headV, aparts, abuildSlice, elParts, abytesStr, astore, amake, aappend, anew, arith, aresults, aresList, ares, spec0, spec1, spec2, spec3, spec4, eqCells, eqCell, sWord]
theorem updP : PureOK Tryz.prog (G m) 47 sUpd := by
  refine pure1 (C := CE m) (sigCE m) (mixCE m) Tryz.func47 rfl rfl rfl (by kernel_rfl) (by decide) (fun e _ => ?_)
  by_cases h1 : 5 ≤ e.kind <;> by_cases h2 : e.kind ≤ 8 <;> simp [aev, cav, look, acallPure, abin, abinN, abinP, abinI, abinS, aun, aconv, afield, afieldAddr, aindexAddr, aindex, aslice, alow, ahigh, abuild, abuildGo, cellsOf, splice, fieldTy, alen, apick, amax, amin, aload, headV, aparts, abuildSlice, elParts, abytesStr, astore, amake, aappend, anew, arith, aresults, aresList, ares, spec0, spec1, spec2, spec3, spec4, eqCells, eqCell, updB, h1, h2]

noncomputable def CIx (m : Int) : Ctx := mkC Tryz.prog (G m) [(26, .pure sHop1), (33, .pure sHop2), (55, .pure sNW), (47, .pure sUpd)]
@[simp] theorem CIx_P (m : Int) : (CIx m).P = Tryz.prog := rfl
@[simp] theorem CIx_1 (m : Int) : (CIx m).S 26 = .pure sHop1 := rfl
@[simp] theorem CIx_2 (m : Int) : (CIx m).S 33 = .pure sHop2 := rfl
@[simp] theorem CIx_3 (m : Int) : (CIx m).S 55 = .pure sNW := rfl
@[simp] theorem CIx_4 (m : Int) : (CIx m).S 47 = .pure sUpd := rfl
theorem mixCIx (m : Int) : (CIx m).P.follows .mixedOrders = true := mixed
theorem sigCIx (m : Int) : SigOK (CIx m) := sigOK_cons (entryPure hop1P Tryz.func26 rfl (by decide)) (sigOK_cons (entryPure hop2P Tryz.func33 rfl (by decide)) (sigOK_cons (entryPure nwP Tryz.func55 rfl (by decide)) (sigOK_cons (entryPure updP Tryz.func47 rfl (by decide)) (sigOK_nil _ _))))

def sIxS : List AV → Option (Prop × AV) := spec2 (fun (l : List ByteArray) (_ : (FnV 55)) => l.length ≤ maxLen) (fun l _ => .int .i64 (findAt (fun x : ByteArray => !wordB x) l 0))
def sCoS : List AV → Option (Prop × AV) := spec2 (fun (l : List ByteArray) (_ : (FnV 55)) => l.length ≤ maxLen) (fun l _ => .bool (l.any (fun x : ByteArray => !wordB x)))
set_option maxHeartbeats 4000000 in
theorem ixS : PureOK Tryz.prog (G m) 81 sIxS := by
  refine pure2 (C := CIx m) (sigCIx m) (mixCIx m) Tryz.func81 rfl rfl rfl (by kernel_rfl) (by decide) (fun l f hl => ?_)
  have hl' := maxLen_le hl
  simp [aev, cav, look, acallPure, abin, abinN, abinP, abinI, abinS, aun, aconv, afield, afieldAddr, aindexAddr, aindex, aslice, alow, ahigh, abuild, abuildGo, cellsOf, splice, fieldTy, alen, apick, amax, amin, aload, headV, aparts, abuildSlice, elParts, abytesStr, astore, amake, aappend, anew, arith, aresults, aresList, ares, spec0, spec1, spec2, spec3, spec4, eqCells, eqCell]
  refine loop_rule (C := CIx m) (sigCIx m) (mixCIx m) (fun i : Nat => ⟨[(0, Enc.enc l), (1, .fn 55 []), (7, .int .i64 l.length), (8, .int .i64 i)], []⟩) (fun i => i ≤ l.length ∧ findAt (fun x : ByteArray => !wordB x) (l.drop i) i = findAt (fun x : ByteArray => !wordB x) l 0) (fun i => l.length - i) (by kernel_rfl) ⟨0, by simp, weak_slots (by simp)⟩ (fun i ⟨hi, hs⟩ => ?_)
  by_cases hlt : i < l.length
  · have i1 : I64 ((i : Int) + 1) := by unfold I64; omega
    rw [findAt_drop hlt] at hs
    cases h3 : (fun x : ByteArray => !wordB x) (ix l i)
    · rw [if_neg (fun h => Bool.false_ne_true (h3.symm.trans h))] at hs
      try simp at h3
      simp [aev, cav, look, acallPure, abin, abinN, abinP, abinI, abinS, aun, aconv, afield, afieldAddr, aindexAddr, aindex, aslice, alow, ahigh, abuild, abuildGo, cellsOf, splice, fieldTy, alen, apick, amax, amin, aload, headV, aparts, abuildSlice, elParts, abytesStr, astore, amake, aappend, anew, arith, aresults, aresList, ares, spec0, spec1, spec2, spec3, spec4, eqCells, eqCell, hlt, rowAt_enc hlt, sNW, h3, i1]
      exact ⟨i + 1, ⟨by omega, hs⟩, by omega, weak_slots (by simp)⟩
    · rw [if_pos h3] at hs
      try simp at h3
      simp [aev, cav, look, acallPure, abin, abinN, abinP, abinI, abinS, aun, aconv, afield, afieldAddr, aindexAddr, aindex, aslice, alow, ahigh, abuild, abuildGo, cellsOf, splice, fieldTy, alen, apick, amax, amin, aload, headV, aparts, abuildSlice, elParts, abytesStr, astore, amake, aappend, anew, arith, aresults, aresList, ares, spec0, spec1, spec2, spec3, spec4, eqCells, eqCell, hlt, rowAt_enc hlt, sNW, h3, ← hs]
  · rw [List.drop_eq_nil_of_le (by omega), findAt] at hs
    simp [aev, cav, look, acallPure, abin, abinN, abinP, abinI, abinS, aun, aconv, afield, afieldAddr, aindexAddr, aindex, aslice, alow, ahigh, abuild, abuildGo, cellsOf, splice, fieldTy, alen, apick, amax, amin, aload, headV, aparts, abuildSlice, elParts, abytesStr, astore, amake, aappend, anew, arith, aresults, aresList, ares, spec0, spec1, spec2, spec3, spec4, eqCells, eqCell, hlt, ← hs]
theorem coS : PureOK Tryz.prog (G m) 54 sCoS := by
  have sig : SigOK (mkC Tryz.prog (G m) [(81, .pure sIxS)]) := sigOK_cons (entryPure ixS Tryz.func81 rfl (by decide)) (sigOK_nil _ _)
  refine pure2 (C := mkC Tryz.prog (G m) [(81, .pure sIxS)]) sig mixed Tryz.func54 rfl rfl rfl (by kernel_rfl) (by decide) (fun l f hl => ?_)
  simp [aev, cav, look, acallPure, abin, abinN, abinP, abinI, abinS, aun, aconv, afield, afieldAddr, aindexAddr, aindex, aslice, alow, ahigh, abuild, abuildGo, cellsOf, splice, fieldTy, alen, apick, amax, amin, aload, headV, aparts, abuildSlice, elParts, abytesStr, astore, amake, aappend, anew, arith, aresults, aresList, ares, spec0, spec1, spec2, spec3, spec4, eqCells, eqCell, sIxS, hl, findAt_iff]
def sIxC : List AV → Option (Prop × AV) := spec2 (fun (l : List Clause) (_ : (FnV 47)) => l.length ≤ maxLen) (fun l _ => .int .i64 (findAt updB l 0))
def sCoC : List AV → Option (Prop × AV) := spec2 (fun (l : List Clause) (_ : (FnV 47)) => l.length ≤ maxLen) (fun l _ => .bool (l.any updB))
set_option maxHeartbeats 4000000 in
theorem ixC : PureOK Tryz.prog (G m) 72 sIxC := by
  refine pure2 (C := CIx m) (sigCIx m) (mixCIx m) Tryz.func72 rfl rfl rfl (by kernel_rfl) (by decide) (fun l f hl => ?_)
  have hl' := maxLen_le hl
  simp [aev, cav, look, acallPure, abin, abinN, abinP, abinI, abinS, aun, aconv, afield, afieldAddr, aindexAddr, aindex, aslice, alow, ahigh, abuild, abuildGo, cellsOf, splice, fieldTy, alen, apick, amax, amin, aload, headV, aparts, abuildSlice, elParts, abytesStr, astore, amake, aappend, anew, arith, aresults, aresList, ares, spec0, spec1, spec2, spec3, spec4, eqCells, eqCell]
  refine loop_rule (C := CIx m) (sigCIx m) (mixCIx m) (fun i : Nat => ⟨[(0, Enc.enc l), (1, .fn 47 []), (7, .int .i64 l.length), (8, .int .i64 i)], []⟩) (fun i => i ≤ l.length ∧ findAt updB (l.drop i) i = findAt updB l 0) (fun i => l.length - i) (by kernel_rfl) ⟨0, by simp, weak_slots (by simp)⟩ (fun i ⟨hi, hs⟩ => ?_)
  by_cases hlt : i < l.length
  · have i1 : I64 ((i : Int) + 1) := by unfold I64; omega
    rw [findAt_drop hlt] at hs
    cases h3 : updB (ix l i)
    · rw [if_neg (fun h => Bool.false_ne_true (h3.symm.trans h))] at hs
      try simp at h3
      simp [aev, cav, look, acallPure, abin, abinN, abinP, abinI, abinS, aun, aconv, afield, afieldAddr, aindexAddr, aindex, aslice, alow, ahigh, abuild, abuildGo, cellsOf, splice, fieldTy, alen, apick, amax, amin, aload, headV, aparts, abuildSlice, elParts, abytesStr, astore, amake, aappend, anew, arith, aresults, aresList, ares, spec0, spec1, spec2, spec3, spec4, eqCells, eqCell, hlt, rowAt_enc hlt, sUpd, h3, i1]
      exact ⟨i + 1, ⟨by omega, hs⟩, by omega, weak_slots (by simp)⟩
    · rw [if_pos h3] at hs
      try simp at h3
      simp [aev, cav, look, acallPure, abin, abinN, abinP, abinI, abinS, aun, aconv, afield, afieldAddr, aindexAddr, aindex, aslice, alow, ahigh, abuild, abuildGo, cellsOf, splice, fieldTy, alen, apick, amax, amin, aload, headV, aparts, abuildSlice, elParts, abytesStr, astore, amake, aappend, anew, arith, aresults, aresList, ares, spec0, spec1, spec2, spec3, spec4, eqCells, eqCell, hlt, rowAt_enc hlt, sUpd, h3, ← hs]
  · rw [List.drop_eq_nil_of_le (by omega), findAt] at hs
    simp [aev, cav, look, acallPure, abin, abinN, abinP, abinI, abinS, aun, aconv, afield, afieldAddr, aindexAddr, aindex, aslice, alow, ahigh, abuild, abuildGo, cellsOf, splice, fieldTy, alen, apick, amax, amin, aload, headV, aparts, abuildSlice, elParts, abytesStr, astore, amake, aappend, anew, arith, aresults, aresList, ares, spec0, spec1, spec2, spec3, spec4, eqCells, eqCell, hlt, ← hs]
theorem coC : PureOK Tryz.prog (G m) 46 sCoC := by
  have sig : SigOK (mkC Tryz.prog (G m) [(72, .pure sIxC)]) := sigOK_cons (entryPure ixC Tryz.func72 rfl (by decide)) (sigOK_nil _ _)
  refine pure2 (C := mkC Tryz.prog (G m) [(72, .pure sIxC)]) sig mixed Tryz.func46 rfl rfl rfl (by kernel_rfl) (by decide) (fun l f hl => ?_)
  simp [aev, cav, look, acallPure, abin, abinN, abinP, abinI, abinS, aun, aconv, afield, afieldAddr, aindexAddr, aindex, aslice, alow, ahigh, abuild, abuildGo, cellsOf, splice, fieldTy, alen, apick, amax, amin, aload, headV, aparts, abuildSlice, elParts, abytesStr, astore, amake, aappend, anew, arith, aresults, aresList, ares, spec0, spec1, spec2, spec3, spec4, eqCells, eqCell, sIxC, hl, findAt_iff]

def sIxE : List AV → Option (Prop × AV) := spec2 (fun (l : List EdgePat) (_ : HopF) => l.length ≤ maxLen) (fun l f => .int .i64 (findAt (hopT f.v) l 0))
def sCoE : List AV → Option (Prop × AV) := spec2 (fun (l : List EdgePat) (_ : HopF) => l.length ≤ maxLen) (fun l f => .bool (l.any (hopT f.v)))
set_option maxHeartbeats 4000000 in
theorem ixE : PureOK Tryz.prog (G m) 51 sIxE := by
  refine pure2 (C := CIx m) (sigCIx m) (mixCIx m) Tryz.func51 rfl rfl rfl (by kernel_rfl) (by decide) (fun l f hl => ?_)
  have hl' := maxLen_le hl
  obtain ⟨b⟩ := f
  cases b
  · simp [aev, cav, look, acallPure, abin, abinN, abinP, abinI, abinS, aun, aconv, afield, afieldAddr, aindexAddr, aindex, aslice, alow, ahigh, abuild, abuildGo, cellsOf, splice, fieldTy, alen, apick, amax, amin, aload, headV, aparts, abuildSlice, elParts, abytesStr, astore, amake, aappend, anew, arith, aresults, aresList, ares, spec0, spec1, spec2, spec3, spec4, eqCells, eqCell]
    refine loop_rule (C := CIx m) (sigCIx m) (mixCIx m) (fun i : Nat => ⟨[(0, Enc.enc l), (1, .fn 33 []), (7, .int .i64 l.length), (8, .int .i64 i)], []⟩) (fun i => i ≤ l.length ∧ findAt (hopT false) (l.drop i) i = findAt (hopT false) l 0) (fun i => l.length - i) (by kernel_rfl) ⟨0, by simp, weak_slots (by simp)⟩ (fun i ⟨hi, hs⟩ => ?_)
    by_cases hlt : i < l.length
    · have i1 : I64 ((i : Int) + 1) := by unfold I64; omega
      rw [findAt_drop hlt] at hs
      cases h3 : hopT false (ix l i)
      · rw [if_neg (fun h => Bool.false_ne_true (h3.symm.trans h))] at hs
        simp [aev, cav, look, acallPure, abin, abinN, abinP, abinI, abinS, aun, aconv, afield, afieldAddr, aindexAddr, aindex, aslice, alow, ahigh, abuild, abuildGo, cellsOf, splice, fieldTy, alen, apick, amax, amin, aload, headV, aparts, abuildSlice, elParts, abytesStr, astore, amake, aappend, anew, arith, aresults, aresList, ares, spec0, spec1, spec2, spec3, spec4, eqCells, eqCell, hlt, rowAt_enc hlt, sHop2, h3, i1]
        exact ⟨i + 1, ⟨by omega, hs⟩, by omega, weak_slots (by simp)⟩
      · rw [if_pos h3] at hs
        simp [aev, cav, look, acallPure, abin, abinN, abinP, abinI, abinS, aun, aconv, afield, afieldAddr, aindexAddr, aindex, aslice, alow, ahigh, abuild, abuildGo, cellsOf, splice, fieldTy, alen, apick, amax, amin, aload, headV, aparts, abuildSlice, elParts, abytesStr, astore, amake, aappend, anew, arith, aresults, aresList, ares, spec0, spec1, spec2, spec3, spec4, eqCells, eqCell, hlt, rowAt_enc hlt, sHop2, h3, ← hs]
    · rw [List.drop_eq_nil_of_le (by omega), findAt] at hs
      simp [aev, cav, look, acallPure, abin, abinN, abinP, abinI, abinS, aun, aconv, afield, afieldAddr, aindexAddr, aindex, aslice, alow, ahigh, abuild, abuildGo, cellsOf, splice, fieldTy, alen, apick, amax, amin, aload, headV, aparts, abuildSlice, elParts, abytesStr, astore, amake, aappend, anew, arith, aresults, aresList, ares, spec0, spec1, spec2, spec3, spec4, eqCells, eqCell, hlt, ← hs]
  · simp [aev, cav, look, acallPure, abin, abinN, abinP, abinI, abinS, aun, aconv, afield, afieldAddr, aindexAddr, aindex, aslice, alow, ahigh, abuild, abuildGo, cellsOf, splice, fieldTy, alen, apick, amax, amin, aload, headV, aparts, abuildSlice, elParts, abytesStr, astore, amake, aappend, anew, arith, aresults, aresList, ares, spec0, spec1, spec2, spec3, spec4, eqCells, eqCell]
    refine loop_rule (C := CIx m) (sigCIx m) (mixCIx m) (fun i : Nat => ⟨[(0, Enc.enc l), (1, .fn 26 []), (7, .int .i64 l.length), (8, .int .i64 i)], []⟩) (fun i => i ≤ l.length ∧ findAt (hopT true) (l.drop i) i = findAt (hopT true) l 0) (fun i => l.length - i) (by kernel_rfl) ⟨0, by simp, weak_slots (by simp)⟩ (fun i ⟨hi, hs⟩ => ?_)
    by_cases hlt : i < l.length
    · have i1 : I64 ((i : Int) + 1) := by unfold I64; omega
      rw [findAt_drop hlt] at hs
      cases h3 : hopT true (ix l i)
      · rw [if_neg (fun h => Bool.false_ne_true (h3.symm.trans h))] at hs
        simp [aev, cav, look, acallPure, abin, abinN, abinP, abinI, abinS, aun, aconv, afield, afieldAddr, aindexAddr, aindex, aslice, alow, ahigh, abuild, abuildGo, cellsOf, splice, fieldTy, alen, apick, amax, amin, aload, headV, aparts, abuildSlice, elParts, abytesStr, astore, amake, aappend, anew, arith, aresults, aresList, ares, spec0, spec1, spec2, spec3, spec4, eqCells, eqCell, hlt, rowAt_enc hlt, sHop1, h3, i1]
        exact ⟨i + 1, ⟨by omega, hs⟩, by omega, weak_slots (by simp)⟩
      · rw [if_pos h3] at hs
        simp [aev, cav, look, acallPure, abin, abinN, abinP, abinI, abinS, aun, aconv, afield, afieldAddr, aindexAddr, aindex, aslice, alow, ahigh, abuild, abuildGo, cellsOf, splice, fieldTy, alen, apick, amax, amin, aload, headV, aparts, abuildSlice, elParts, abytesStr, astore, amake, aappend, anew, arith, aresults, aresList, ares, spec0, spec1, spec2, spec3, spec4, eqCells, eqCell, hlt, rowAt_enc hlt, sHop1, h3, ← hs]
    · rw [List.drop_eq_nil_of_le (by omega), findAt] at hs
      simp [aev, cav, look, acallPure, abin, abinN, abinP, abinI, abinS, aun, aconv, afield, afieldAddr, aindexAddr, aindex, aslice, alow, ahigh, abuild, abuildGo, cellsOf, splice, fieldTy, alen, apick, amax, amin, aload, headV, aparts, abuildSlice, elParts, abytesStr, astore, amake, aappend, anew, arith, aresults, aresList, ares, spec0, spec1, spec2, spec3, spec4, eqCells, eqCell, hlt, ← hs]
theorem coE : PureOK Tryz.prog (G m) 25 sCoE := by
  have sig : SigOK (mkC Tryz.prog (G m) [(51, .pure sIxE)]) := sigOK_cons (entryPure ixE Tryz.func51 rfl (by decide)) (sigOK_nil _ _)
  refine pure2 (C := mkC Tryz.prog (G m) [(51, .pure sIxE)]) sig mixed Tryz.func25 rfl rfl rfl (by kernel_rfl) (by decide) (fun l f hl => ?_)
  obtain ⟨b⟩ := f
  cases b <;> simp [aev, cav, look, acallPure, abin, abinN, abinP, abinI, abinS, aun, aconv, afield, afieldAddr, aindexAddr, aindex, aslice, alow, ahigh, abuild, abuildGo, cellsOf, splice, fieldTy, alen, apick, amax, amin, aload, headV, aparts, abuildSlice, elParts, abytesStr, astore, amake, aappend, anew, arith, aresults, aresList, ares, spec0, spec1, spec2, spec3, spec4, eqCells, eqCell, sIxE, hl, findAt_iff]
end
end Go.Proofs.YthcfnaglgoaikaaGreat
