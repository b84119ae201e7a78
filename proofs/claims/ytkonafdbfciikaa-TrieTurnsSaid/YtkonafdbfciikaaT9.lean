/-
  layer 14: the search, and Seek.
-/
import Derived.Test.YtkonafdbfciikaaT8
namespace Go.Proofs.Ytkonafdbfciikaa
open Go.RowKit
set_option linter.unusedSimpArgs false
set_option linter.unusedVariables false
set_option maxRecDepth 100000

def isNaNs : List AV → Option (Prop × AV) := spec1 (fun (_ : Int) => True) (fun _ => .bool false)
theorem isNaN1 : PureOK Try.prog G0 78 isNaNs := by
  refine pure1 (C := CE) sigCE mixCE Try.func78 rfl rfl rfl (by kernel_rfl) (by decide) (fun x _ => ?_)
  simp [aev, cav, look, acallPure, abin, abinN, abinP, abinI, abinS, aun, aconv, afield, afieldAddr, aindexAddr, aindex, aslice, alow, ahigh, abuild, abuildGo, cellsOf, splice, fieldTy, alen, apick, amax, amin, aload, headV, aparts, abuildSlice, elParts, abytesStr, astore, amake, aappend, aclear, anew, arith, aresults, aresList, ares, spec0, spec1, spec2, spec3, spec4, eqCells, eqCell]
theorem isNaN2 : PureOK Try.prog G0 93 isNaNs := by
  refine pure1 (C := CE) sigCE mixCE Try.func93 rfl rfl rfl (by kernel_rfl) (by decide) (fun x _ => ?_)
  simp [aev, cav, look, acallPure, abin, abinN, abinP, abinI, abinS, aun, aconv, afield, afieldAddr, aindexAddr, aindex, aslice, alow, ahigh, abuild, abuildGo, cellsOf, splice, fieldTy, alen, apick, amax, amin, aload, headV, aparts, abuildSlice, elParts, abytesStr, astore, amake, aappend, aclear, anew, arith, aresults, aresList, ares, spec0, spec1, spec2, spec3, spec4, eqCells, eqCell]
noncomputable def CL1 : Ctx := mkC Try.prog G0 [(93, .pure isNaNs)]
@[simp] theorem CL1_P : CL1.P = Try.prog := rfl
@[simp] theorem CL1_1 : CL1.S 93 = .pure isNaNs := rfl
theorem mixCL1 : CL1.P.follows .mixedOrders = true := mixed
theorem sigCL1 : SigOK CL1 := sigOK_cons (entryPure isNaN2 Try.func93 rfl (by decide)) (sigOK_nil _ _)
def sLess : List AV → Option (Prop × AV) := spec2 (fun (_ _ : Int) => True) (fun a b => .bool (decide (a < b)))
theorem lessP : PureOK Try.prog G0 77 sLess := by
  refine pure2 (C := CL1) sigCL1 mixCL1 Try.func77 rfl rfl rfl (by kernel_rfl) (by decide) (fun a b _ => ?_)
  simp [aev, cav, look, acallPure, abin, abinN, abinP, abinI, abinS, aun, aconv, afield, afieldAddr, aindexAddr, aindex, aslice, alow, ahigh, abuild, abuildGo, cellsOf, splice, fieldTy, alen, apick, amax, amin, aload, headV, aparts, abuildSlice, elParts, abytesStr, astore, amake, aappend, aclear, anew, arith, aresults, aresList, ares, spec0, spec1, spec2, spec3, spec4, eqCells, eqCell, isNaNs]

/-- How many at the front are less. -/
def lbd (l : List Int) (x : Int) : Nat := (l.takeWhile fun y => decide (y < x)).length
theorem lbd_at : ∀ {l : List Int} {x : Int} {d : Nat}, (∀ j, j < d → ix l j < x) → d ≤ l.length → (d < l.length → x ≤ ix l d) → lbd l x = d
  | [], x, d, _, hd, _ => by have : d = 0 := by simpa using hd
                             subst this; rfl
  | y :: r, x, 0, _, _, h => by
    have := h (by simp)
    have h0 : ¬ y < x := by have e : ix (y :: r) 0 = y := rfl
                            rw [e] at this; omega
    unfold lbd
    rw [List.takeWhile_cons, if_neg (by simpa using h0)]
    rfl
  | y :: r, x, d + 1, h1, hd, h => by
    have h0 : y < x := h1 0 (by omega)
    have ih := lbd_at (l := r) (x := x) (d := d) (fun j hj => h1 (j + 1) (by omega)) (by simpa using hd) (fun hd2 => h (by simpa using hd2))
    unfold lbd at ih ⊢
    rw [List.takeWhile_cons, if_pos (by simpa using h0), List.length_cons, ih]
theorem lbd_le (l : List Int) (x : Int) : lbd l x ≤ l.length := by
  unfold lbd
  exact (List.takeWhile_prefix _).length_le
def SortedZ (l : List Int) : Prop := ∀ i j, i < j → j < l.length → ix l i ≤ ix l j
def foundB (l : List Int) (x : Int) : Bool := decide (lbd l x < l.length) && decide (ix l (lbd l x) = x)

noncomputable def CB1 : Ctx := mkC Try.prog G0 [(77, .pure sLess), (78, .pure isNaNs)]
@[simp] theorem CB1_P : CB1.P = Try.prog := rfl
@[simp] theorem CB1_1 : CB1.S 77 = .pure sLess := rfl
@[simp] theorem CB1_2 : CB1.S 78 = .pure isNaNs := rfl
theorem mixCB1 : CB1.P.follows .mixedOrders = true := mixed
theorem sigCB1 : SigOK CB1 := sigOK_cons (entryPure lessP Try.func77 rfl (by decide)) (sigOK_cons (entryPure isNaN1 Try.func78 rfl (by decide)) (sigOK_nil _ _))
def sBin : List AV → Option (Prop × AV) := spec2 (fun (l : List Int) (_ : Int) => l.length ≤ 1000000 ∧ SortedZ l) (fun l x => .tup [.int .i64 (lbd l x), .bool (foundB l x)])
set_option maxHeartbeats 8000000 in
theorem binP : PureOK Try.prog G0 61 sBin := by
  refine pure2 (C := CB1) sigCB1 mixCB1 Try.func61 rfl rfl rfl (by kernel_rfl) (by decide) (fun l x ⟨hl, hs⟩ => ?_)
  simp [aev, cav, look, acallPure, abin, abinN, abinP, abinI, abinS, aun, aconv, afield, afieldAddr, aindexAddr, aindex, aslice, alow, ahigh, abuild, abuildGo, cellsOf, splice, fieldTy, alen, apick, amax, amin, aload, headV, aparts, abuildSlice, elParts, abytesStr, astore, amake, aappend, aclear, anew, arith, aresults, aresList, ares, spec0, spec1, spec2, spec3, spec4, eqCells, eqCell]
  refine loop_rule (C := CB1) sigCB1 mixCB1 (fun q : Nat × Nat => ⟨[(0, Enc.enc l), (1, .int .i64 x), (6, .int .i64 l.length), (7, .int .i64 q.1), (8, .int .i64 q.2)], []⟩) (fun q => q.1 ≤ q.2 ∧ q.2 ≤ l.length ∧ (∀ j, j < q.1 → ix l j < x) ∧ ∀ j, q.2 ≤ j → j < l.length → x ≤ ix l j) (fun q => q.2 - q.1) (by kernel_rfl) ⟨(0, l.length), ⟨by omega, by omega, fun j hj => by omega, fun j h1 h2 => by omega⟩, weak_slots (by simp)⟩ (fun ⟨i, j⟩ ⟨h1, h2, h3, h4⟩ => ?_)
  simp only at h1 h2 h3 h4 ⊢
  by_cases hij : i < j
  · have i1 : I64 ((i : Int) + j) := by unfold I64; omega
    have u1 : IntKind.wrap .u64 ((i : Int) + j) = (i : Int) + j := by simp [IntKind.wrap, IntKind.bits, IntKind.signed]; omega
    obtain ⟨m, hm⟩ : ∃ m, m = (i + j) / 2 := ⟨_, rfl⟩
    have m1 : i ≤ m := by omega
    have m2 : m < j := by omega
    have hml : m < l.length := by omega
    have fd : ((i : Int) + j).fdiv (2 ^ min 1 IntKind.u64.bits) = (m : Int) := by
      have e : (2 : Int) ^ min 1 IntKind.u64.bits = 2 := rfl
      rw [e, Int.fdiv_eq_ediv_of_nonneg _ (by omega)]; omega
    have i2 : I64 (m : Int) := by unfold I64; omega
    have i3 : I64 ((m : Int) + 1) := by unfold I64; omega
    have u2 : IntKind.wrap .i64 (m : Int) = (m : Int) := w64_in i2
    by_cases hlt : ix l m < x
    · simp [aev, cav, look, acallPure, abin, abinN, abinP, abinI, abinS, aun, aconv, afield, afieldAddr, aindexAddr, aindex, aslice, alow, ahigh, abuild, abuildGo, cellsOf, splice, fieldTy, alen, apick, amax, amin, aload, headV, aparts, abuildSlice, elParts, abytesStr, astore, amake, aappend, aclear, anew, arith, aresults, aresList, ares, spec0, spec1, spec2, spec3, spec4, eqCells, eqCell, sLess, hij, i1, u1, fd, u2, i3, hml, rowAt_enc hml, hlt]
      exact ⟨m + 1, j, ⟨by omega, by omega, fun k hk => by
        rcases Nat.lt_or_eq_of_le (Nat.le_of_lt_succ hk) with h | rfl
        · have := hs k m h hml; omega
        · exact hlt, h4⟩, by omega, weak_slots (by simp)⟩
    · simp [aev, cav, look, acallPure, abin, abinN, abinP, abinI, abinS, aun, aconv, afield, afieldAddr, aindexAddr, aindex, aslice, alow, ahigh, abuild, abuildGo, cellsOf, splice, fieldTy, alen, apick, amax, amin, aload, headV, aparts, abuildSlice, elParts, abytesStr, astore, amake, aappend, aclear, anew, arith, aresults, aresList, ares, spec0, spec1, spec2, spec3, spec4, eqCells, eqCell, sLess, hij, i1, u1, fd, u2, i3, hml, rowAt_enc hml, hlt]
      exact ⟨i, m, ⟨by omega, by omega, h3, fun k hk hkl => by
        rcases Nat.lt_or_eq_of_le hk with h | rfl
        · have := hs m k h hkl; omega
        · omega⟩, by omega, weak_slots (by simp)⟩
  · have hb : lbd l x = i := lbd_at h3 (by omega) (fun h => h4 i (by omega) h)
    by_cases hil : i < l.length
    · have hf : foundB l x = decide (ix l i = x) := by unfold foundB; rw [hb]; simp [hil]
      rcases em2 (ix l i = x) with e | e
      · simp [aev, cav, look, acallPure, abin, abinN, abinP, abinI, abinS, aun, aconv, afield, afieldAddr, aindexAddr, aindex, aslice, alow, ahigh, abuild, abuildGo, cellsOf, splice, fieldTy, alen, apick, amax, amin, aload, headV, aparts, abuildSlice, elParts, abytesStr, astore, amake, aappend, aclear, anew, arith, aresults, aresList, ares, spec0, spec1, spec2, spec3, spec4, eqCells, eqCell, isNaNs, hij, hil, rowAt_enc hil, hb, hf, e]
      · simp [aev, cav, look, acallPure, abin, abinN, abinP, abinI, abinS, aun, aconv, afield, afieldAddr, aindexAddr, aindex, aslice, alow, ahigh, abuild, abuildGo, cellsOf, splice, fieldTy, alen, apick, amax, amin, aload, headV, aparts, abuildSlice, elParts, abytesStr, astore, amake, aappend, aclear, anew, arith, aresults, aresList, ares, spec0, spec1, spec2, spec3, spec4, eqCells, eqCell, isNaNs, hij, hil, rowAt_enc hil, hb, hf, e]
    · have hf : foundB l x = false := by unfold foundB; rw [hb]; simp [hil]
      simp [aev, cav, look, acallPure, abin, abinN, abinP, abinI, abinS, aun, aconv, afield, afieldAddr, aindexAddr, aindex, aslice, alow, ahigh, abuild, abuildGo, cellsOf, splice, fieldTy, alen, apick, amax, amin, aload, headV, aparts, abuildSlice, elParts, abytesStr, astore, amake, aappend, aclear, anew, arith, aresults, aresList, ares, spec0, spec1, spec2, spec3, spec4, eqCells, eqCell, isNaNs, hij, hil, hb, hf]
end Go.Proofs.Ytkonafdbfciikaa
