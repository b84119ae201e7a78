/-
  layer 18: the reference's validity of values, which runs through lists.
-/
import Derived.Test.YthcfnaglgoaikaaGreatS3
namespace Go.Proofs.YthcfnaglgoaikaaGreat
open Go.RowKit
set_option linter.unusedSimpArgs false
set_option linter.unusedVariables false
set_option maxRecDepth 100000

theorem pure1_none {P : Program} {G : Nat → AV} {f : FuncId} {α : Type} [Enc α] {pre : α → Prop} {res : α → AV} (h : ∀ a, ¬ pre a) : PureOK P G f (spec1 pre res) := by
  intro w X args avs ob r hX hG hsz harg hp hob
  match avs, hp with
  | [a], hp =>
    simp only [spec1, Option.some.injEq, Prod.mk.injEq] at hp
    obtain ⟨rfl, rfl⟩ := hp
    exact absurd hob.2 (h _)
theorem pure2_none {P : Program} {G : Nat → AV} {f : FuncId} {α β : Type} [Enc α] [Enc β] {pre : α → β → Prop} {res : α → β → AV} (h : ∀ a b, ¬ pre a b) : PureOK P G f (spec2 pre res) := by
  intro w X args avs ob r hX hG hsz harg hp hob
  match avs, hp with
  | [a, b], hp =>
    simp only [spec2, Option.some.injEq, Prod.mk.injEq] at hp
    obtain ⟨rfl, rfl⟩ := hp
    exact absurd hob.2.2 (h _ _)

structure Fr where
  n : Int
  d : Int
instance : Enc Fr where
  sz := 2
  cells b := [.int .i64 b.n, .int .i64 b.d]
  enc b := .agg [.int .i64 b.n, .int .i64 b.d]
  unc l := match l with | [.int _ n, .int _ d] => ⟨n, d⟩ | _ => ⟨0, 0⟩
  dec v := match v with | .agg [.int _ n, .int _ d] => ⟨n, d⟩ | _ => ⟨0, 0⟩
  unc_cells _ := rfl
  dec_enc _ := rfl
@[simp] theorem enc_fr (b : Fr) : Enc.enc b = .agg [.int .i64 b.n, .int .i64 b.d] := rfl
@[simp] theorem dec_fr (k j : IntKind) (n d : Int) : (Enc.dec (.agg [.int k n, .int j d]) : Fr) = ⟨n, d⟩ := rfl

inductive WfV : Val → Prop
  | mk (k n d : Int) (s : ByteArray) (l : List Val) (hs : s.size ≤ maxLen) (hl : l.length ≤ maxLen) (h : ∀ x ∈ l, WfV x) : WfV (.mk k n d s l)
theorem WfV.str {v : Val} (h : WfV v) : v.s.size ≤ maxLen := by cases h; assumption
theorem WfV.kids {v : Val} (h : WfV v) : ∀ x ∈ v.l, WfV x := by cases h; assumption
theorem WfV.len {v : Val} (h : WfV v) : v.l.length ≤ maxLen := by cases h; assumption
theorem val_mem {v x : Val} (h : x ∈ v.l) : SizeOf.sizeOf x < SizeOf.sizeOf v := by
  cases v with
  | mk k n d s l =>
    have := List.sizeOf_lt_of_mem h
    simp at this ⊢
    omega
theorem val_pos (v : Val) : 0 < SizeOf.sizeOf v := by cases v; simp; omega

mutual
def okR : Val → Int → Bool
  | .mk k n d s l, nest =>
    if k = 0 then bareB (.mk k n d s l) false false false false
    else if k = 1 then bareB (.mk k n d s l) true false false false && (decide (n = 0) || decide (n = 1))
    else if k = 2 then bareB (.mk k n d s l) true false false false && inB n
    else if k = 3 then bareB (.mk k n d s l) true true false false && decide (2 ≤ d) && fracB n d
    else if k = 4 then bareB (.mk k n d s l) false false true false && strB s
    else if k = 5 ∨ k = 6 then bareB (.mk k n d s l) true false false false && decide (1 ≤ n) && decide (n ≤ 1000000)
    else if k = 7 then bareB (.mk k n d s l) false false false true && (!(decide (l.length % 2 = 0) || decide (25 < l.length)) && pathL l 0)
    else if k = 8 then bareB (.mk k n d s l) false false false true && (!(decide (nest < 1) || decide (64 < l.length)) && allL l (nest - 1))
    else false
def allL : List Val → Int → Bool
  | [], _ => true
  | v :: r, nest => okR v nest && allL r nest
def pathL : List Val → Nat → Bool
  | [], _ => true
  | v :: r, i => (decide (v.kind = (if i % 2 = 1 then 6 else 5)) && okR v 0) && pathL r (i + 1)
end
theorem okR_eq (v : Val) (nest : Int) : okR v nest =
    if v.kind = 0 then bareB v false false false false
    else if v.kind = 1 then bareB v true false false false && (decide (v.n = 0) || decide (v.n = 1))
    else if v.kind = 2 then bareB v true false false false && inB v.n
    else if v.kind = 3 then bareB v true true false false && decide (2 ≤ v.d) && fracB v.n v.d
    else if v.kind = 4 then bareB v false false true false && strB v.s
    else if v.kind = 5 ∨ v.kind = 6 then bareB v true false false false && decide (1 ≤ v.n) && decide (v.n ≤ 1000000)
    else if v.kind = 7 then bareB v false false false true && (!(decide (v.l.length % 2 = 0) || decide (25 < v.l.length)) && pathL v.l 0)
    else if v.kind = 8 then bareB v false false false true && (!(decide (nest < 1) || decide (64 < v.l.length)) && allL v.l (nest - 1))
    else false := by
  cases v
  rw [okR]
  rfl
theorem allL_iff : ∀ (l : List Val) (nest : Int), allL l nest = true ↔ ∀ j, j < l.length → okR (ix l j) nest = true
  | [], nest => by simp [allL]
  | v :: r, nest => by
    rw [allL, Bool.and_eq_true, allL_iff r nest]
    constructor
    · rintro ⟨h1, h2⟩ j hj
      match j, hj with
      | 0, _ => exact h1
      | j + 1, hj => exact h2 j (by simpa using hj)
    · intro h
      exact ⟨h 0 (by simp), fun j hj => h (j + 1) (by simpa using hj)⟩
theorem pathL_iff : ∀ (l : List Val) (k : Nat), pathL l k = true ↔ ∀ j, j < l.length → (ix l j).kind = (if (k + j) % 2 = 1 then 6 else 5) ∧ okR (ix l j) 0 = true
  | [], k => by simp [pathL]
  | v :: r, k => by
    rw [pathL, Bool.and_eq_true, Bool.and_eq_true, pathL_iff r (k + 1), decide_eq_true_eq]
    constructor
    · rintro ⟨h1, h2⟩ j hj
      match j, hj with
      | 0, _ => exact h1
      | j + 1, hj =>
        have := h2 j (by simpa using hj)
        rw [show k + 1 + j = k + (j + 1) by omega] at this
        exact this
    · intro h
      refine ⟨h 0 (by simp), fun j hj => ?_⟩
      have := h (j + 1) (by simpa using hj)
      rw [show k + (j + 1) = k + 1 + j by omega] at this
      exact this
theorem eta_k {v : Val} {k : Int} (h : v.kind = k) : Val.mk k v.n v.d v.s v.l = v := by rw [← h]; exact Val.eta v
theorem eta_kn {v : Val} {k n : Int} (h : v.kind = k) (h' : v.n = n) : Val.mk k n v.d v.s v.l = v := by rw [← h, ← h']; exact Val.eta v
theorem bool_iff {a : Bool} {p : Prop} (h : a = true ↔ p) (hn : ¬ p) : a = false := by
  cases e : a
  · rfl
  · exact absurd (h.1 e) hn

section
variable {m : Int}
def sSize : List AV → Option (Prop × AV) := spec1 (fun (n : Int) => inB n = true) (fun n => .int .i64 n.natAbs)
def sGcd : List AV → Option (Prop × AV) := spec2 (fun (a b : Int) => 0 ≤ a ∧ 0 ≤ b) (fun a b => .int .i64 (Nat.gcd a.toNat b.toNat))
noncomputable def CG (m : Int) : Ctx := mkC Tryz.prog (G m) [(121, .pure sSize), (120, .pure sGcd)]
@[simp] theorem CG_P (m : Int) : (CG m).P = Tryz.prog := rfl
@[simp] theorem CG_1 (m : Int) : (CG m).S 121 = .pure sSize := rfl
@[simp] theorem CG_2 (m : Int) : (CG m).S 120 = .pure sGcd := rfl
theorem sigCG (m : Int) : SigOK (CG m) := sigOK_cons (entryPure sizeR Tryz.func121 rfl (by decide)) (sigOK_cons (entryPure gcdR Tryz.func120 rfl (by decide)) (sigOK_nil _ _))
theorem mixCG (m : Int) : (CG m).P.follows .mixedOrders = true := mixed
set_option maxHeartbeats 4000000 in
theorem fracR : PureOK Tryz.prog (G m) 112 (spec1 (fun (_ : Fr) => True) (fun a => .bool (fracB a.n a.d))) := by
  refine pure1 (C := CG m) (sigCG m) (mixCG m) Tryz.func112 rfl rfl rfl (by kernel_rfl) (by decide) (fun ⟨n, d⟩ _ => ?_)
  by_cases h1 : 1 ≤ d
  rotate_left
  · simp [aev, cav, look, acallPure, abin, abinN, abinP, abinI, abinS, aun, aconv, afield, afieldAddr, aindexAddr, aindex, aslice, alow, ahigh, abuild, abuildGo, cellsOf, splice, fieldTy, alen, apick, amax, amin, aload, headV, aparts, abuildSlice, elParts, abytesStr, astore, amake, aappend, anew, arith, aresults, aresList, ares, spec0, spec1, spec2, spec3, spec4, eqCells, eqCell, fracB, h1]
  by_cases h2 : d ≤ 1000000000000000
  rotate_left
  · simp [aev, cav, look, acallPure, abin, abinN, abinP, abinI, abinS, aun, aconv, afield, afieldAddr, aindexAddr, aindex, aslice, alow, ahigh, abuild, abuildGo, cellsOf, splice, fieldTy, alen, apick, amax, amin, aload, headV, aparts, abuildSlice, elParts, abytesStr, astore, amake, aappend, anew, arith, aresults, aresList, ares, spec0, spec1, spec2, spec3, spec4, eqCells, eqCell, fracB, h1, h2]
  by_cases h3 : -1000000000000000 ≤ n
  rotate_left
  · simp [aev, cav, look, acallPure, abin, abinN, abinP, abinI, abinS, aun, aconv, afield, afieldAddr, aindexAddr, aindex, aslice, alow, ahigh, abuild, abuildGo, cellsOf, splice, fieldTy, alen, apick, amax, amin, aload, headV, aparts, abuildSlice, elParts, abytesStr, astore, amake, aappend, anew, arith, aresults, aresList, ares, spec0, spec1, spec2, spec3, spec4, eqCells, eqCell, fracB, inB, h1, h2, h3]
  by_cases h4 : n ≤ 1000000000000000
  rotate_left
  · simp [aev, cav, look, acallPure, abin, abinN, abinP, abinI, abinS, aun, aconv, afield, afieldAddr, aindexAddr, aindex, aslice, alow, ahigh, abuild, abuildGo, cellsOf, splice, fieldTy, alen, apick, amax, amin, aload, headV, aparts, abuildSlice, elParts, abytesStr, astore, amake, aappend, anew, arith, aresults, aresList, ares, spec0, spec1, spec2, spec3, spec4, eqCells, eqCell, fracB, inB, h1, h2, h3, h4]
  have hin : inB n = true := by simp [inB, h3, h4]
  have h5 : (0 : Int) ≤ d := by omega
  simp [aev, cav, look, acallPure, abin, abinN, abinP, abinI, abinS, aun, aconv, afield, afieldAddr, aindexAddr, aindex, aslice, alow, ahigh, abuild, abuildGo, cellsOf, splice, fieldTy, alen, apick, amax, amin, aload, headV, aparts, abuildSlice, elParts, abytesStr, astore, amake, aappend, anew, arith, aresults, aresList, ares, spec0, spec1, spec2, spec3, spec4, eqCells, eqCell, fracB, hin, h1, h2, h3, h4, sSize, sGcd, h5]
  omega

def sV (n : Nat) : List AV → Option (Prop × AV) := spec2 (fun (v : Val) (k : Int) => (WfV v ∧ 0 ≤ k ∧ k ≤ 8) ∧ SizeOf.sizeOf v ≤ n) (fun v k => .bool (okR v k))
noncomputable def CV (m : Int) (n : Nat) : Ctx := mkC Tryz.prog (G m) [(100, .pure (sV n))]
@[simp] theorem CV_P (m : Int) (n : Nat) : (CV m n).P = Tryz.prog := rfl
@[simp] theorem CV_1 (m : Int) (n : Nat) : (CV m n).S 100 = .pure (sV n) := rfl
theorem sigCV {n : Nat} (h : PureOK Tryz.prog (G m) 100 (sV n)) : SigOK (CV m n) := sigOK_cons (entryPure h Tryz.func100 rfl (by decide)) (sigOK_nil _ _)
theorem mixCV (m : Int) (n : Nat) : (CV m n).P.follows .mixedOrders = true := mixed
set_option maxHeartbeats 4000000 in
theorem listR {n : Nat} (h : PureOK Tryz.prog (G m) 100 (sV n)) : PureOK Tryz.prog (G m) 115 (spec2 (fun (l : List Val) (k : Int) => (∀ x ∈ l, WfV x ∧ SizeOf.sizeOf x ≤ n) ∧ 0 ≤ k ∧ k ≤ 8) (fun l k => .bool (!(decide (k < 1) || decide (64 < l.length)) && allL l (k - 1)))) := by
  refine pure2 (C := CV m n) (sigCV h) (mixCV m n) Tryz.func115 rfl rfl rfl (by kernel_rfl) (by decide) (fun l k ⟨hx, hk0, hk8⟩ => ?_)
  by_cases h1 : k < 1
  · simp [aev, cav, look, acallPure, abin, abinN, abinP, abinI, abinS, aun, aconv, afield, afieldAddr, aindexAddr, aindex, aslice, alow, ahigh, abuild, abuildGo, cellsOf, splice, fieldTy, alen, apick, amax, amin, aload, headV, aparts, abuildSlice, elParts, abytesStr, astore, amake, aappend, anew, arith, aresults, aresList, ares, spec0, spec1, spec2, spec3, spec4, eqCells, eqCell, h1]
  by_cases h2 : 64 < l.length
  · have h2' : (64 : Int) < l.length := by omega
    simp [aev, cav, look, acallPure, abin, abinN, abinP, abinI, abinS, aun, aconv, afield, afieldAddr, aindexAddr, aindex, aslice, alow, ahigh, abuild, abuildGo, cellsOf, splice, fieldTy, alen, apick, amax, amin, aload, headV, aparts, abuildSlice, elParts, abytesStr, astore, amake, aappend, anew, arith, aresults, aresList, ares, spec0, spec1, spec2, spec3, spec4, eqCells, eqCell, h1, h2, h2']
  have h2' : ¬ (64 : Int) < l.length := by omega
  have hk1 : 0 ≤ k - 1 := by omega
  have hk1' : 1 ≤ k := by omega
  have hk2 : k - 1 ≤ 8 := by omega
  have i2 : I64 (k - 1) := by unfold I64; omega
  simp [aev, cav, look, acallPure, abin, abinN, abinP, abinI, abinS, aun, aconv, afield, afieldAddr, aindexAddr, aindex, aslice, alow, ahigh, abuild, abuildGo, cellsOf, splice, fieldTy, alen, apick, amax, amin, aload, headV, aparts, abuildSlice, elParts, abytesStr, astore, amake, aappend, anew, arith, aresults, aresList, ares, spec0, spec1, spec2, spec3, spec4, eqCells, eqCell, h1, h2, h2']
  refine loop_rule (C := CV m n) (sigCV h) (mixCV m n) (fun i : Nat => ⟨[(0, Enc.enc l), (1, .int .i64 k), (5, .int .i64 i)], []⟩) (fun i => i ≤ l.length ∧ ∀ j, j < i → okR (ix l j) (k - 1) = true) (fun i => l.length - i) (by kernel_rfl) ⟨0, by simp, weak_slots (by simp)⟩ (fun i ⟨hi, hall⟩ => ?_)
  by_cases hlt : i < l.length
  · have i1 : I64 ((i : Int) + 1) := by unfold I64; omega
    obtain ⟨w1, w2⟩ := hx _ (ix_mem hlt)
    cases h3 : okR (ix l i) (k - 1)
    · have e : allL l (k - 1) = false := bool_iff (allL_iff l (k - 1)) (fun h => by rw [h i hlt] at h3; cases h3)
      simp [aev, cav, look, acallPure, abin, abinN, abinP, abinI, abinS, aun, aconv, afield, afieldAddr, aindexAddr, aindex, aslice, alow, ahigh, abuild, abuildGo, cellsOf, splice, fieldTy, alen, apick, amax, amin, aload, headV, aparts, abuildSlice, elParts, abytesStr, astore, amake, aappend, anew, arith, aresults, aresList, ares, spec0, spec1, spec2, spec3, spec4, eqCells, eqCell, hlt, rowAt_enc hlt, sV, w1, w2, hk1, hk1', hk2, i2, h3, e]
    · simp [aev, cav, look, acallPure, abin, abinN, abinP, abinI, abinS, aun, aconv, afield, afieldAddr, aindexAddr, aindex, aslice, alow, ahigh, abuild, abuildGo, cellsOf, splice, fieldTy, alen, apick, amax, amin, aload, headV, aparts, abuildSlice, elParts, abytesStr, astore, amake, aappend, anew, arith, aresults, aresList, ares, spec0, spec1, spec2, spec3, spec4, eqCells, eqCell, hlt, rowAt_enc hlt, sV, w1, w2, hk1, hk1', hk2, i2, h3, i1]
      refine ⟨i + 1, ⟨by omega, fun j hj => ?_⟩, by omega, weak_slots (by simp)⟩
      rcases Nat.lt_or_ge j i with h | h
      · exact hall j h
      · rw [show j = i by omega]; exact h3
  · have e : allL l (k - 1) = true := (allL_iff l (k - 1)).2 fun j hj => hall j (by omega)
    simp [aev, cav, look, acallPure, abin, abinN, abinP, abinI, abinS, aun, aconv, afield, afieldAddr, aindexAddr, aindex, aslice, alow, ahigh, abuild, abuildGo, cellsOf, splice, fieldTy, alen, apick, amax, amin, aload, headV, aparts, abuildSlice, elParts, abytesStr, astore, amake, aappend, anew, arith, aresults, aresList, ares, spec0, spec1, spec2, spec3, spec4, eqCells, eqCell, hlt, e]

set_option maxHeartbeats 4000000 in
theorem pathR {n : Nat} (h : PureOK Tryz.prog (G m) 100 (sV n)) : PureOK Tryz.prog (G m) 114 (spec1 (fun (l : List Val) => l.length ≤ maxLen ∧ ∀ x ∈ l, WfV x ∧ SizeOf.sizeOf x ≤ n) (fun l => .bool (!(decide (l.length % 2 = 0) || decide (25 < l.length)) && pathL l 0))) := by
  refine pure1 (C := CV m n) (sigCV h) (mixCV m n) Tryz.func114 rfl rfl rfl (by kernel_rfl) (by decide) (fun l ⟨hl, hx⟩ => ?_)
  have hl' : l.length ≤ 9223372036854775807 := by unfold maxLen at hl; omega
  have ht : ((l.length : Int)).tmod 2 = ((l.length % 2 : Nat) : Int) := by rw [Int.tmod_eq_emod_of_nonneg (by omega)]; omega
  by_cases h1 : l.length % 2 = 0
  · simp [aev, cav, look, acallPure, abin, abinN, abinP, abinI, abinS, aun, aconv, afield, afieldAddr, aindexAddr, aindex, aslice, alow, ahigh, abuild, abuildGo, cellsOf, splice, fieldTy, alen, apick, amax, amin, aload, headV, aparts, abuildSlice, elParts, abytesStr, astore, amake, aappend, anew, arith, aresults, aresList, ares, spec0, spec1, spec2, spec3, spec4, eqCells, eqCell, ht, h1]
  have h1' : l.length % 2 = 1 := by omega
  by_cases h2 : 25 < l.length
  · have h2' : (25 : Int) < l.length := by omega
    simp [aev, cav, look, acallPure, abin, abinN, abinP, abinI, abinS, aun, aconv, afield, afieldAddr, aindexAddr, aindex, aslice, alow, ahigh, abuild, abuildGo, cellsOf, splice, fieldTy, alen, apick, amax, amin, aload, headV, aparts, abuildSlice, elParts, abytesStr, astore, amake, aappend, anew, arith, aresults, aresList, ares, spec0, spec1, spec2, spec3, spec4, eqCells, eqCell, ht, h1', h2, h2']
  have h2' : ¬ (25 : Int) < l.length := by omega
  simp [aev, cav, look, acallPure, abin, abinN, abinP, abinI, abinS, aun, aconv, afield, afieldAddr, aindexAddr, aindex, aslice, alow, ahigh, abuild, abuildGo, cellsOf, splice, fieldTy, alen, apick, amax, amin, aload, headV, aparts, abuildSlice, elParts, abytesStr, astore, amake, aappend, anew, arith, aresults, aresList, ares, spec0, spec1, spec2, spec3, spec4, eqCells, eqCell, ht, h1', h2, h2']
  refine loop_rule (C := CV m n) (sigCV h) (mixCV m n) (fun i : Nat => ⟨[(0, Enc.enc l), (3, .int .i64 i)], []⟩) (fun i => i ≤ l.length ∧ ∀ j, j < i → (ix l j).kind = (if (0 + j) % 2 = 1 then 6 else 5) ∧ okR (ix l j) 0 = true) (fun i => l.length - i) (by kernel_rfl) ⟨0, by simp, weak_slots (by simp)⟩ (fun i ⟨hi, hall⟩ => ?_)
  by_cases hlt : i < l.length
  · have i1 : I64 ((i : Int) + 1) := by unfold I64; omega
    obtain ⟨w1, w2⟩ := hx _ (ix_mem hlt)
    have hti : ((i : Int)).tmod 2 = ((i % 2 : Nat) : Int) := by rw [Int.tmod_eq_emod_of_nonneg (by omega)]; omega
    have fail : ¬ ((ix l i).kind = (if (0 + i) % 2 = 1 then 6 else 5) ∧ okR (ix l i) 0 = true) → pathL l 0 = false := fun hn => bool_iff (pathL_iff l 0) (fun h => hn (h i hlt))
    have step : (ix l i).kind = (if (0 + i) % 2 = 1 then 6 else 5) ∧ okR (ix l i) 0 = true → ∀ j, j < i + 1 → (ix l j).kind = (if (0 + j) % 2 = 1 then 6 else 5) ∧ okR (ix l j) 0 = true := fun h j hj => by
      rcases Nat.lt_or_ge j i with h' | h'
      · exact hall j h'
      · rw [show j = i by omega]; exact h
    rw [Nat.zero_add] at fail step
    by_cases h3 : i % 2 = 1
    · rw [if_pos h3] at fail step
      by_cases h4 : (ix l i).kind = 6
      · cases h5 : okR (ix l i) 0
        · simp [aev, cav, look, acallPure, abin, abinN, abinP, abinI, abinS, aun, aconv, afield, afieldAddr, aindexAddr, aindex, aslice, alow, ahigh, abuild, abuildGo, cellsOf, splice, fieldTy, alen, apick, amax, amin, aload, headV, aparts, abuildSlice, elParts, abytesStr, astore, amake, aappend, anew, arith, aresults, aresList, ares, spec0, spec1, spec2, spec3, spec4, eqCells, eqCell, hlt, rowAt_enc hlt, hti, h3, h4, eta_k h4, sV, w1, w2, h5, fail (by simp [h5])]
        · simp [aev, cav, look, acallPure, abin, abinN, abinP, abinI, abinS, aun, aconv, afield, afieldAddr, aindexAddr, aindex, aslice, alow, ahigh, abuild, abuildGo, cellsOf, splice, fieldTy, alen, apick, amax, amin, aload, headV, aparts, abuildSlice, elParts, abytesStr, astore, amake, aappend, anew, arith, aresults, aresList, ares, spec0, spec1, spec2, spec3, spec4, eqCells, eqCell, hlt, rowAt_enc hlt, hti, h3, h4, eta_k h4, sV, w1, w2, h5, i1]
          exact ⟨i + 1, ⟨by omega, by simpa using step ⟨h4, h5⟩⟩, by omega, weak_slots (by simp)⟩
      · simp [aev, cav, look, acallPure, abin, abinN, abinP, abinI, abinS, aun, aconv, afield, afieldAddr, aindexAddr, aindex, aslice, alow, ahigh, abuild, abuildGo, cellsOf, splice, fieldTy, alen, apick, amax, amin, aload, headV, aparts, abuildSlice, elParts, abytesStr, astore, amake, aappend, anew, arith, aresults, aresList, ares, spec0, spec1, spec2, spec3, spec4, eqCells, eqCell, hlt, rowAt_enc hlt, hti, h3, h4, fail (by simp [h4])]
    · rw [if_neg h3] at fail step
      have h3' : i % 2 = 0 := by omega
      by_cases h4 : (ix l i).kind = 5
      · cases h5 : okR (ix l i) 0
        · simp [aev, cav, look, acallPure, abin, abinN, abinP, abinI, abinS, aun, aconv, afield, afieldAddr, aindexAddr, aindex, aslice, alow, ahigh, abuild, abuildGo, cellsOf, splice, fieldTy, alen, apick, amax, amin, aload, headV, aparts, abuildSlice, elParts, abytesStr, astore, amake, aappend, anew, arith, aresults, aresList, ares, spec0, spec1, spec2, spec3, spec4, eqCells, eqCell, hlt, rowAt_enc hlt, hti, h3', h4, eta_k h4, sV, w1, w2, h5, fail (by simp [h5])]
        · simp [aev, cav, look, acallPure, abin, abinN, abinP, abinI, abinS, aun, aconv, afield, afieldAddr, aindexAddr, aindex, aslice, alow, ahigh, abuild, abuildGo, cellsOf, splice, fieldTy, alen, apick, amax, amin, aload, headV, aparts, abuildSlice, elParts, abytesStr, astore, amake, aappend, anew, arith, aresults, aresList, ares, spec0, spec1, spec2, spec3, spec4, eqCells, eqCell, hlt, rowAt_enc hlt, hti, h3', h4, eta_k h4, sV, w1, w2, h5, i1]
          exact ⟨i + 1, ⟨by omega, by simpa using step ⟨h4, h5⟩⟩, by omega, weak_slots (by simp)⟩
      · simp [aev, cav, look, acallPure, abin, abinN, abinP, abinI, abinS, aun, aconv, afield, afieldAddr, aindexAddr, aindex, aslice, alow, ahigh, abuild, abuildGo, cellsOf, splice, fieldTy, alen, apick, amax, amin, aload, headV, aparts, abuildSlice, elParts, abytesStr, astore, amake, aappend, anew, arith, aresults, aresList, ares, spec0, spec1, spec2, spec3, spec4, eqCells, eqCell, hlt, rowAt_enc hlt, hti, h3', h4, fail (by simp [h4])]
  · have e : pathL l 0 = true := (pathL_iff l 0).2 fun j hj => hall j (by omega)
    simp [aev, cav, look, acallPure, abin, abinN, abinP, abinI, abinS, aun, aconv, afield, afieldAddr, aindexAddr, aindex, aslice, alow, ahigh, abuild, abuildGo, cellsOf, splice, fieldTy, alen, apick, amax, amin, aload, headV, aparts, abuildSlice, elParts, abytesStr, astore, amake, aappend, anew, arith, aresults, aresList, ares, spec0, spec1, spec2, spec3, spec4, eqCells, eqCell, hlt, e]

def sBare : List AV → Option (Prop × AV) := spec5 (fun (_ : Val) (_ _ _ _ : Bool) => True) (fun v n d s l => .bool (bareB v n d s l))
def sIn : List AV → Option (Prop × AV) := spec1 (fun (_ : Int) => True) (fun n => .bool (inB n))
def sFrac : List AV → Option (Prop × AV) := spec1 (fun (_ : Fr) => True) (fun a => .bool (fracB a.n a.d))
def sStr : List AV → Option (Prop × AV) := spec1 (fun (s : ByteArray) => s.size ≤ maxLen) (fun s => .bool (strB s))
def sPath (n : Nat) : List AV → Option (Prop × AV) := spec1 (fun (l : List Val) => l.length ≤ maxLen ∧ ∀ x ∈ l, WfV x ∧ SizeOf.sizeOf x ≤ n) (fun l => .bool (!(decide (l.length % 2 = 0) || decide (25 < l.length)) && pathL l 0))
def sList (n : Nat) : List AV → Option (Prop × AV) := spec2 (fun (l : List Val) (k : Int) => (∀ x ∈ l, WfV x ∧ SizeOf.sizeOf x ≤ n) ∧ 0 ≤ k ∧ k ≤ 8) (fun l k => .bool (!(decide (k < 1) || decide (64 < l.length)) && allL l (k - 1)))
noncomputable def CVV (m : Int) (n : Nat) : Ctx := mkC Tryz.prog (G m) [(110, .pure sBare), (111, .pure sIn), (112, .pure sFrac), (113, .pure sStr), (114, .pure (sPath n)), (115, .pure (sList n))]
@[simp] theorem CVV_P (m : Int) (n : Nat) : (CVV m n).P = Tryz.prog := rfl
@[simp] theorem CVV_1 (m : Int) (n : Nat) : (CVV m n).S 110 = .pure sBare := rfl
@[simp] theorem CVV_2 (m : Int) (n : Nat) : (CVV m n).S 111 = .pure sIn := rfl
@[simp] theorem CVV_3 (m : Int) (n : Nat) : (CVV m n).S 112 = .pure sFrac := rfl
@[simp] theorem CVV_4 (m : Int) (n : Nat) : (CVV m n).S 113 = .pure sStr := rfl
@[simp] theorem CVV_5 (m : Int) (n : Nat) : (CVV m n).S 114 = .pure (sPath n) := rfl
@[simp] theorem CVV_6 (m : Int) (n : Nat) : (CVV m n).S 115 = .pure (sList n) := rfl
theorem sigCVV {n : Nat} (h : PureOK Tryz.prog (G m) 100 (sV n)) : SigOK (CVV m n) :=
  sigOK_cons (entryPure bareR Tryz.func110 rfl (by decide)) (sigOK_cons (entryPure inR Tryz.func111 rfl (by decide)) (sigOK_cons (entryPure fracR Tryz.func112 rfl (by decide)) (sigOK_cons (entryPure strR Tryz.func113 rfl (by decide)) (sigOK_cons (entryPure (pathR h) Tryz.func114 rfl (by decide)) (sigOK_cons (entryPure (listR h) Tryz.func115 rfl (by decide)) (sigOK_nil _ _))))))
theorem mixCVV (m : Int) (n : Nat) : (CVV m n).P.follows .mixedOrders = true := mixed

set_option maxHeartbeats 8000000 in
theorem validR : ∀ n : Nat, PureOK Tryz.prog (G m) 100 (sV n)
  | 0 => pure2_none fun v k h => by have := val_pos v; omega
  | n + 1 => by
    have ih := validR n
    refine pure2 (C := CVV m n) (sigCVV ih) (mixCVV m n) Tryz.func100 rfl rfl rfl (by kernel_rfl) (by decide) (fun v k ⟨⟨hw, hk0, hk8⟩, hn⟩ => ?_)
    have hs := hw.str
    have hl := hw.len
    have hx : ∀ x ∈ v.l, WfV x ∧ SizeOf.sizeOf x ≤ n := fun x hx => ⟨hw.kids x hx, by have := val_mem hx; omega⟩
    rw [okR_eq]
    by_cases c0 : v.kind = 0
    · simp [aev, cav, look, acallPure, abin, abinN, abinP, abinI, abinS, aun, aconv, afield, afieldAddr, aindexAddr, aindex, aslice, alow, ahigh, abuild, abuildGo, cellsOf, splice, fieldTy, alen, apick, amax, amin, aload, headV, aparts, abuildSlice, elParts, abytesStr, astore, amake, aappend, anew, arith, aresults, aresList, ares, spec0, spec1, spec2, spec3, spec4, eqCells, eqCell, spec5, sBare, c0, eta_k c0]
    by_cases c1 : v.kind = 1
    · cases hb : bareB v true false false false
      · simp [aev, cav, look, acallPure, abin, abinN, abinP, abinI, abinS, aun, aconv, afield, afieldAddr, aindexAddr, aindex, aslice, alow, ahigh, abuild, abuildGo, cellsOf, splice, fieldTy, alen, apick, amax, amin, aload, headV, aparts, abuildSlice, elParts, abytesStr, astore, amake, aappend, anew, arith, aresults, aresList, ares, spec0, spec1, spec2, spec3, spec4, eqCells, eqCell, spec5, sBare, c1, eta_k c1, hb]
      by_cases a0 : v.n = 0
      · simp [aev, cav, look, acallPure, abin, abinN, abinP, abinI, abinS, aun, aconv, afield, afieldAddr, aindexAddr, aindex, aslice, alow, ahigh, abuild, abuildGo, cellsOf, splice, fieldTy, alen, apick, amax, amin, aload, headV, aparts, abuildSlice, elParts, abytesStr, astore, amake, aappend, anew, arith, aresults, aresList, ares, spec0, spec1, spec2, spec3, spec4, eqCells, eqCell, spec5, sBare, c1, eta_kn c1 a0, hb, a0]
      by_cases a1 : v.n = 1
      · simp [aev, cav, look, acallPure, abin, abinN, abinP, abinI, abinS, aun, aconv, afield, afieldAddr, aindexAddr, aindex, aslice, alow, ahigh, abuild, abuildGo, cellsOf, splice, fieldTy, alen, apick, amax, amin, aload, headV, aparts, abuildSlice, elParts, abytesStr, astore, amake, aappend, anew, arith, aresults, aresList, ares, spec0, spec1, spec2, spec3, spec4, eqCells, eqCell, spec5, sBare, c1, eta_kn c1 a1, hb, a1]
      simp [aev, cav, look, acallPure, abin, abinN, abinP, abinI, abinS, aun, aconv, afield, afieldAddr, aindexAddr, aindex, aslice, alow, ahigh, abuild, abuildGo, cellsOf, splice, fieldTy, alen, apick, amax, amin, aload, headV, aparts, abuildSlice, elParts, abytesStr, astore, amake, aappend, anew, arith, aresults, aresList, ares, spec0, spec1, spec2, spec3, spec4, eqCells, eqCell, spec5, sBare, c1, eta_k c1, hb, a0, a1]
    by_cases c2 : v.kind = 2
    · cases hb : bareB v true false false false <;> simp [aev, cav, look, acallPure, abin, abinN, abinP, abinI, abinS, aun, aconv, afield, afieldAddr, aindexAddr, aindex, aslice, alow, ahigh, abuild, abuildGo, cellsOf, splice, fieldTy, alen, apick, amax, amin, aload, headV, aparts, abuildSlice, elParts, abytesStr, astore, amake, aappend, anew, arith, aresults, aresList, ares, spec0, spec1, spec2, spec3, spec4, eqCells, eqCell, spec5, sBare, sIn, c2, eta_k c2, hb]
    by_cases c3 : v.kind = 3
    · cases hb : bareB v true true false false <;> by_cases a0 : 2 ≤ v.d <;> simp [aev, cav, look, acallPure, abin, abinN, abinP, abinI, abinS, aun, aconv, afield, afieldAddr, aindexAddr, aindex, aslice, alow, ahigh, abuild, abuildGo, cellsOf, splice, fieldTy, alen, apick, amax, amin, aload, headV, aparts, abuildSlice, elParts, abytesStr, astore, amake, aappend, anew, arith, aresults, aresList, ares, spec0, spec1, spec2, spec3, spec4, eqCells, eqCell, spec5, sBare, sFrac, c3, eta_k c3, hb, a0]
    by_cases c4 : v.kind = 4
    · cases hb : bareB v false false true false <;> simp [aev, cav, look, acallPure, abin, abinN, abinP, abinI, abinS, aun, aconv, afield, afieldAddr, aindexAddr, aindex, aslice, alow, ahigh, abuild, abuildGo, cellsOf, splice, fieldTy, alen, apick, amax, amin, aload, headV, aparts, abuildSlice, elParts, abytesStr, astore, amake, aappend, anew, arith, aresults, aresList, ares, spec0, spec1, spec2, spec3, spec4, eqCells, eqCell, spec5, sBare, sStr, c4, eta_k c4, hb, hs]
    by_cases c5 : v.kind = 5
    · cases hb : bareB v true false false false <;> by_cases a0 : 1 ≤ v.n <;> by_cases a1 : v.n ≤ 1000000 <;> simp [aev, cav, look, acallPure, abin, abinN, abinP, abinI, abinS, aun, aconv, afield, afieldAddr, aindexAddr, aindex, aslice, alow, ahigh, abuild, abuildGo, cellsOf, splice, fieldTy, alen, apick, amax, amin, aload, headV, aparts, abuildSlice, elParts, abytesStr, astore, amake, aappend, anew, arith, aresults, aresList, ares, spec0, spec1, spec2, spec3, spec4, eqCells, eqCell, spec5, sBare, c5, eta_k c5, hb, a0, a1]
    by_cases c6 : v.kind = 6
    · cases hb : bareB v true false false false <;> by_cases a0 : 1 ≤ v.n <;> by_cases a1 : v.n ≤ 1000000 <;> simp [aev, cav, look, acallPure, abin, abinN, abinP, abinI, abinS, aun, aconv, afield, afieldAddr, aindexAddr, aindex, aslice, alow, ahigh, abuild, abuildGo, cellsOf, splice, fieldTy, alen, apick, amax, amin, aload, headV, aparts, abuildSlice, elParts, abytesStr, astore, amake, aappend, anew, arith, aresults, aresList, ares, spec0, spec1, spec2, spec3, spec4, eqCells, eqCell, spec5, sBare, c6, eta_k c6, hb, a0, a1]
    by_cases c7 : v.kind = 7
    · cases hb : bareB v false false false true
      · simp [aev, cav, look, acallPure, abin, abinN, abinP, abinI, abinS, aun, aconv, afield, afieldAddr, aindexAddr, aindex, aslice, alow, ahigh, abuild, abuildGo, cellsOf, splice, fieldTy, alen, apick, amax, amin, aload, headV, aparts, abuildSlice, elParts, abytesStr, astore, amake, aappend, anew, arith, aresults, aresList, ares, spec0, spec1, spec2, spec3, spec4, eqCells, eqCell, spec5, sBare, c7, eta_k c7, hb]
      · simp [aev, cav, look, acallPure, abin, abinN, abinP, abinI, abinS, aun, aconv, afield, afieldAddr, aindexAddr, aindex, aslice, alow, ahigh, abuild, abuildGo, cellsOf, splice, fieldTy, alen, apick, amax, amin, aload, headV, aparts, abuildSlice, elParts, abytesStr, astore, amake, aappend, anew, arith, aresults, aresList, ares, spec0, spec1, spec2, spec3, spec4, eqCells, eqCell, spec5, sBare, sPath, c7, eta_k c7, hb, hl]
        exact hx
    by_cases c8 : v.kind = 8
    · cases hb : bareB v false false false true
      · simp [aev, cav, look, acallPure, abin, abinN, abinP, abinI, abinS, aun, aconv, afield, afieldAddr, aindexAddr, aindex, aslice, alow, ahigh, abuild, abuildGo, cellsOf, splice, fieldTy, alen, apick, amax, amin, aload, headV, aparts, abuildSlice, elParts, abytesStr, astore, amake, aappend, anew, arith, aresults, aresList, ares, spec0, spec1, spec2, spec3, spec4, eqCells, eqCell, spec5, sBare, c8, eta_k c8, hb]
      · simp [aev, cav, look, acallPure, abin, abinN, abinP, abinI, abinS, aun, aconv, afield, afieldAddr, aindexAddr, aindex, aslice, alow, ahigh, abuild, abuildGo, cellsOf, splice, fieldTy, alen, apick, amax, amin, aload, headV, aparts, abuildSlice, elParts, abytesStr, astore, amake, aappend, anew, arith, aresults, aresList, ares, spec0, spec1, spec2, spec3, spec4, eqCells, eqCell, spec5, sBare, sList, c8, eta_k c8, hb, hk0, hk8]
        exact hx
    simp [aev, cav, look, acallPure, abin, abinN, abinP, abinI, abinS, aun, aconv, afield, afieldAddr, aindexAddr, aindex, aslice, alow, ahigh, abuild, abuildGo, cellsOf, splice, fieldTy, alen, apick, amax, amin, aload, headV, aparts, abuildSlice, elParts, abytesStr, astore, amake, aappend, anew, arith, aresults, aresList, ares, spec0, spec1, spec2, spec3, spec4, eqCells, eqCell, c0, c1, c2, c3, c4, c5, c6, c7, c8]
end
end Go.Proofs.YthcfnaglgoaikaaGreat
