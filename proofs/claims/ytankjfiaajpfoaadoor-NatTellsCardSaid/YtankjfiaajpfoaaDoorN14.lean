/-
  nat: the laws' own functions.
-/
import Derived.Test.YtankjfiaajpfoaaDoorN13
namespace Go.Proofs.YtankjfiaajpfoaaDoor
open Go.RowKit
set_option linter.unusedSimpArgs false
set_option linter.unusedVariables false
set_option maxRecDepth 100000

def s11 : List AV → Option (Prop × AV) := spec2 (fun (a : List Int) (k : Int) => a.length ≤ 1000000 ∧ I64 k) (fun a k => powT (nv a) k)
def s12 : List AV → Option (Prop × AV) := spec2 (fun (a : List Int) (k : Int) => a.length ≤ 1000000 ∧ I64 k) (fun a k => powT (nv a) k)
noncomputable def s16 : List AV → Option (Prop × AV) := spec1 (fun s : ByteArray => s.size ≤ 1000000) (fun s => parseT s)
noncomputable def s17 : List AV → Option (Prop × AV) := spec1 (fun s : ByteArray => s.size ≤ 1000000) (fun s => parseT s)
def s18 : List AV → Option (Prop × AV) := spec1 (fun a : List Int => a.length ≤ 1000000) (fun a => .str (bs (textN (nv a))))
def s19 : List AV → Option (Prop × AV) := spec1 (fun a : List Int => a.length ≤ 1000000) (fun a => .str (bs (textN (nv a))))
def s30 : List AV → Option (Prop × AV) := spec1 (fun (a : List Int) => a.length ≤ 1000000) (fun a => if nv a ≤ 9223372036854775807 then .tup [.int .i64 (nv a), .bool true] else .tup [.int .i64 0, .bool false])
noncomputable def C8 : Ctx := mkC Tryd.prog G1 [(11, .pure s11), (12, .pure s12), (13, .pure s13), (14, .pure s14), (15, .pure s15), (16, .pure s16), (17, .pure s17), (18, .pure s18), (19, .pure s19), (20, .pure s20), (21, .pure s21), (22, .pure s22), (23, .pure s23), (24, .pure s24), (25, .pure s25), (26, .pure s26),
  (28, .pure s28), (29, .pure s29), (30, .pure s30), (31, .pure s31), (32, .pure s32)]
@[simp] theorem C8_P : C8.P = Tryd.prog := rfl
@[simp] theorem C8_11 : C8.S 11 = .pure s11 := rfl
@[simp] theorem C8_12 : C8.S 12 = .pure s12 := rfl
@[simp] theorem C8_13 : C8.S 13 = .pure s13 := rfl
@[simp] theorem C8_14 : C8.S 14 = .pure s14 := rfl
@[simp] theorem C8_15 : C8.S 15 = .pure s15 := rfl
@[simp] theorem C8_16 : C8.S 16 = .pure s16 := rfl
@[simp] theorem C8_17 : C8.S 17 = .pure s17 := rfl
@[simp] theorem C8_18 : C8.S 18 = .pure s18 := rfl
@[simp] theorem C8_19 : C8.S 19 = .pure s19 := rfl
@[simp] theorem C8_20 : C8.S 20 = .pure s20 := rfl
@[simp] theorem C8_21 : C8.S 21 = .pure s21 := rfl
@[simp] theorem C8_22 : C8.S 22 = .pure s22 := rfl
@[simp] theorem C8_23 : C8.S 23 = .pure s23 := rfl
@[simp] theorem C8_24 : C8.S 24 = .pure s24 := rfl
@[simp] theorem C8_25 : C8.S 25 = .pure s25 := rfl
@[simp] theorem C8_26 : C8.S 26 = .pure s26 := rfl
@[simp] theorem C8_28 : C8.S 28 = .pure s28 := rfl
@[simp] theorem C8_29 : C8.S 29 = .pure s29 := rfl
@[simp] theorem C8_30 : C8.S 30 = .pure s30 := rfl
@[simp] theorem C8_31 : C8.S 31 = .pure s31 := rfl
@[simp] theorem C8_32 : C8.S 32 = .pure s32 := rfl
theorem sig8 : SigOK C8 := by
  refine sigOK_cons (entryPure pow11.anyG Tryd.func11 rfl (by decide)) ?_
  refine sigOK_cons (entryPure pow12.anyG Tryd.func12 rfl (by decide)) ?_
  refine sigOK_cons (entryPure same13.anyG Tryd.func13 rfl (by decide)) ?_
  refine sigOK_cons (entryPure valid14.anyG Tryd.func14 rfl (by decide)) ?_
  refine sigOK_cons (entryPure mul15.anyG Tryd.func15 rfl (by decide)) ?_
  refine sigOK_cons (entryPure parse16.anyG Tryd.func16 rfl (by decide)) ?_
  refine sigOK_cons (entryPure parse17.anyG Tryd.func17 rfl (by decide)) ?_
  refine sigOK_cons (entryPure text18 Tryd.func18 rfl (by decide)) ?_
  refine sigOK_cons (entryPure text19.anyG Tryd.func19 rfl (by decide)) ?_
  refine sigOK_cons (entryPure of20.anyG Tryd.func20 rfl (by decide)) ?_
  refine sigOK_cons (entryPure of21.anyG Tryd.func21 rfl (by decide)) ?_
  refine sigOK_cons (entryPure add22.anyG Tryd.func22 rfl (by decide)) ?_
  refine sigOK_cons (entryPure sub23.anyG Tryd.func23 rfl (by decide)) ?_
  refine sigOK_cons (entryPure cmp24.anyG Tryd.func24 rfl (by decide)) ?_
  refine sigOK_cons (entryPure small25.anyG Tryd.func25 rfl (by decide)) ?_
  refine sigOK_cons (entryPure valid26.anyG Tryd.func26 rfl (by decide)) ?_
  refine sigOK_cons (entryPure add28.anyG Tryd.func28 rfl (by decide)) ?_
  refine sigOK_cons (entryPure mul29.anyG Tryd.func29 rfl (by decide)) ?_
  refine sigOK_cons (entryPure small30.anyG Tryd.func30 rfl (by decide)) ?_
  refine sigOK_cons (entryPure sub31.anyG Tryd.func31 rfl (by decide)) ?_
  refine sigOK_cons (entryPure cmp32.anyG Tryd.func32 rfl (by decide)) ?_
  exact sigOK_nil _ _
theorem mix8 : C8.P.follows .mixedOrders = true := mixed

theorem canon_lit {n : Nat} {l : List Int} (h : val l = n) (hg : Good l) (hn : Norm l) : canon n = l := by rw [← h]; exact canon_val hg hn
theorem canon_1e9 : canon 1000000000 = [0, 1] := canon_lit (by decide) (fun x hx => by simp at hx; omega) (fun _ => by simp [ix])
theorem canon_5 : canon 5 = [5] := canon_lit (by decide) (fun x hx => by simp at hx; omega) (fun _ => by simp [ix])
theorem canon_2 : canon 2 = [2] := canon_lit (by decide) (fun x hx => by simp at hx; omega) (fun _ => by simp [ix])
theorem canon_1e9_5 : canon 1000000005 = [5, 1] := canon_lit (by decide) (fun x hx => by simp at hx; omega) (fun _ => by simp [ix])
theorem canon_1e18 : canon 1000000000000000000 = [0, 0, 1] := canon_lit (by decide) (fun x hx => by simp at hx; omega) (fun _ => by simp [ix])
theorem len_1e9 : (canon 1000000000).length ≤ 64 := by rw [canon_1e9]; decide
theorem len_5 : (canon 5).length ≤ 64 := by rw [canon_5]; decide
theorem len_2 : (canon 2).length ≤ 64 := by rw [canon_2]; decide
theorem len_1e9_5 : (canon 1000000005).length ≤ 64 := by rw [canon_1e9_5]; decide
theorem len_1e18 : (canon 1000000000000000000).length ≤ 64 := by rw [canon_1e18]; decide
theorem text_alive : bs (textN 1000000005) = ⟨#[49, 48, 48, 48, 48, 48, 48, 48, 48, 53]⟩ := by
  have : textN 1000000005 = [49, 48, 48, 48, 48, 48, 48, 48, 48, 53] := by rw [textN]; repeat rw [Lib.decDigits]; simp
  rw [this]; rfl

set_option maxHeartbeats 4000000 in
theorem alive10 : PureOK Tryd.prog G1 10 (spec0 (.bool true)) := by
  refine pure0 (C := C8) sig8 mix8 Tryd.func10 rfl rfl rfl (by kernel_rfl) ?_
  have i1 : I64 1000000000 := by unfold I64; omega
  have i2 : I64 5 := by unfold I64; omega
  have i3 : I64 2 := by unfold I64; omega
  have i4 : I64 (-1) := by unfold I64; omega
  have m1 : ∀ n, (canon n).length ≤ 64 → (canon n).length ≤ 1000000 := fun n h => by omega
  have p1 : powT 2 (-1) = .tup [.slice 1 false [], .bool false] := powT_neg (by omega)
  have c1 : cmpN 1000000005 1000000000000000000 = -1 := by decide
  have d1 : (canon 1000000005 = [5, 1]) = True := eq_true canon_1e9_5
  have d2 : (canon 1000000000000000000 = [0, 0, 1]) = True := eq_true canon_1e18
  simp [aev, cav, look, acallPure, abin, abinN, abinP, abinI, abinS, aun, aconv, afield, afieldAddr, aindexAddr, aindex, aslice, alow, ahigh, abuild, abuildGo, cellsOf, splice, fieldTy, alen, apick, amax, amin, aload, headV, aparts, abuildSlice, elParts, abytesStr, astore, amake, aappend, anew, arith, aresults, aresList, ares, spec0, spec1, spec2, spec3, spec4, eqCells, eqCell, s20, s22, s15, s11, s13, s18, s24, i1, i2, i3, i4, len_1e9, len_5, len_2, len_1e9_5, len_1e18, nv_canon, fitT, m1, p1, c1, text_alive, d1, d2]

def s10 : List AV → Option (Prop × AV) := spec0 (.bool true)
theorem short27 : PureOK Tryd.prog G1 27 (spec2 (fun (_ _ : List Int) => True) (fun a b => .bool (decide (a.length ≤ 80) && decide (b.length ≤ 80)))) := by
  refine pure2 (C := C8) sig8 mix8 Tryd.func27 rfl rfl rfl (by kernel_rfl) (by decide) (fun a b _ => ?_)
  by_cases h : a.length ≤ 80
  · have h' : (a.length : Int) ≤ 80 := by omega
    by_cases h2 : b.length ≤ 80
    · have h2' : (b.length : Int) ≤ 80 := by omega
      simp [aev, cav, look, acallPure, abin, abinN, abinP, abinI, abinS, aun, aconv, afield, afieldAddr, aindexAddr, aindex, aslice, alow, ahigh, abuild, abuildGo, cellsOf, splice, fieldTy, alen, apick, amax, amin, aload, headV, aparts, abuildSlice, elParts, abytesStr, astore, amake, aappend, anew, arith, aresults, aresList, ares, spec0, spec1, spec2, spec3, spec4, eqCells, eqCell, h, h', h2, h2']
    · have h2' : ¬ (b.length : Int) ≤ 80 := by omega
      simp [aev, cav, look, acallPure, abin, abinN, abinP, abinI, abinS, aun, aconv, afield, afieldAddr, aindexAddr, aindex, aslice, alow, ahigh, abuild, abuildGo, cellsOf, splice, fieldTy, alen, apick, amax, amin, aload, headV, aparts, abuildSlice, elParts, abytesStr, astore, amake, aappend, anew, arith, aresults, aresList, ares, spec0, spec1, spec2, spec3, spec4, eqCells, eqCell, h, h', h2, h2']
  · have h' : ¬ (a.length : Int) ≤ 80 := by omega
    simp [aev, cav, look, acallPure, abin, abinN, abinP, abinI, abinS, aun, aconv, afield, afieldAddr, aindexAddr, aindex, aslice, alow, ahigh, abuild, abuildGo, cellsOf, splice, fieldTy, alen, apick, amax, amin, aload, headV, aparts, abuildSlice, elParts, abytesStr, astore, amake, aappend, anew, arith, aresults, aresList, ares, spec0, spec1, spec2, spec3, spec4, eqCells, eqCell, h, h']
def s27 : List AV → Option (Prop × AV) := spec2 (fun (_ _ : List Int) => True) (fun a b => .bool (decide (a.length ≤ 80) && decide (b.length ≤ 80)))

noncomputable def C9 : Ctx := mkC Tryd.prog G1 [(10, .pure s10), (27, .pure s27), (11, .pure s11), (12, .pure s12), (13, .pure s13), (14, .pure s14), (15, .pure s15), (16, .pure s16), (17, .pure s17), (18, .pure s18), (19, .pure s19), (20, .pure s20), (21, .pure s21), (22, .pure s22), (23, .pure s23), (24, .pure s24), (25, .pure s25), (26, .pure s26),
  (28, .pure s28), (29, .pure s29), (30, .pure s30), (31, .pure s31), (32, .pure s32)]
@[simp] theorem C9_P : C9.P = Tryd.prog := rfl
@[simp] theorem C9_10 : C9.S 10 = .pure s10 := rfl
@[simp] theorem C9_27 : C9.S 27 = .pure s27 := rfl
@[simp] theorem C9_11 : C9.S 11 = .pure s11 := rfl
@[simp] theorem C9_12 : C9.S 12 = .pure s12 := rfl
@[simp] theorem C9_13 : C9.S 13 = .pure s13 := rfl
@[simp] theorem C9_14 : C9.S 14 = .pure s14 := rfl
@[simp] theorem C9_15 : C9.S 15 = .pure s15 := rfl
@[simp] theorem C9_16 : C9.S 16 = .pure s16 := rfl
@[simp] theorem C9_17 : C9.S 17 = .pure s17 := rfl
@[simp] theorem C9_18 : C9.S 18 = .pure s18 := rfl
@[simp] theorem C9_19 : C9.S 19 = .pure s19 := rfl
@[simp] theorem C9_20 : C9.S 20 = .pure s20 := rfl
@[simp] theorem C9_21 : C9.S 21 = .pure s21 := rfl
@[simp] theorem C9_22 : C9.S 22 = .pure s22 := rfl
@[simp] theorem C9_23 : C9.S 23 = .pure s23 := rfl
@[simp] theorem C9_24 : C9.S 24 = .pure s24 := rfl
@[simp] theorem C9_25 : C9.S 25 = .pure s25 := rfl
@[simp] theorem C9_26 : C9.S 26 = .pure s26 := rfl
@[simp] theorem C9_28 : C9.S 28 = .pure s28 := rfl
@[simp] theorem C9_29 : C9.S 29 = .pure s29 := rfl
@[simp] theorem C9_30 : C9.S 30 = .pure s30 := rfl
@[simp] theorem C9_31 : C9.S 31 = .pure s31 := rfl
@[simp] theorem C9_32 : C9.S 32 = .pure s32 := rfl
theorem sig9 : SigOK C9 := sigOK_cons (entryPure alive10 Tryd.func10 rfl (by decide)) (sigOK_cons (entryPure short27 Tryd.func27 rfl (by decide)) sig8)
theorem mix9 : C9.P.follows .mixedOrders = true := mixed
end Go.Proofs.YtankjfiaajpfoaaDoor
