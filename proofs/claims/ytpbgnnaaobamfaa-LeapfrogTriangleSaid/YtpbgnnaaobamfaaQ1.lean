/-
  Texts joined: L1 P1 P2 D1 ShelfS L2 L3 L4 L5 L6 R1 R2 R3 R4.
-/
import Derived.Test.YtpbgnnaaobamfaaAmK
import Derived.Test.YtpbgnnaaobamfaaT
import Derived.Test.YtpbgnnaaobamfaaAmE
import Derived.Shelf.SortM.Plain
import Derived.Shelf.SortM.SortNone
import Derived.Test.YtpbgnnaaobamfaaProg
import Derived.Test.YtpbgnnaaobamfaaAmL
/-
  layer 33: the base; the library's search.
-/
namespace Go.Proofs.Ytpbgnnaaobamfaa
open Go.RowKit
set_option linter.unusedSimpArgs false
set_option linter.unusedVariables false
set_option maxRecDepth 100000

theorem em2 (p : Prop) : (p = True) ∨ (p = False) := by
  by_cases h : p
  · exact .inl (eq_true h)
  · exact .inr (eq_false h)
def G0 : Nat → AV := fun _ => .undef
noncomputable def CE : Ctx := mkC Try.prog G0 []
@[simp] theorem CE_P : CE.P = Try.prog := rfl
theorem sigCE : SigOK CE := sigOK_nil _ _
theorem mixCE : CE.P.follows .mixedOrders = true := mixed
def isNaNs : List AV → Option (Prop × AV) := spec1 (fun (_ : Int) => True) (fun _ => .bool false)
theorem isNaN1 : PureOK Try.prog G0 61 isNaNs := by
  refine pure1 (C := CE) sigCE mixCE Try.func61 rfl rfl rfl (by kernel_rfl) (by decide) (fun x _ => ?_)
  simp [aev, cav, look, acallPure, abin, abinN, abinP, abinI, abinS, aun, aconv, afield, afieldAddr, aindexAddr, aindex, aslice, alow, ahigh, abuild, abuildGo, cellsOf, splice, fieldTy, alen, apick, amax, amin, aload, headV, aparts, abuildSlice, elParts, abytesStr, astore, amake, aappend, aclear, anew, arith, aresults, aresList, ares, spec0, spec1, spec2, spec3, spec4, eqCells, eqCell]
theorem isNaN2 : PureOK Try.prog G0 77 isNaNs := by
  refine pure1 (C := CE) sigCE mixCE Try.func77 rfl rfl rfl (by kernel_rfl) (by decide) (fun x _ => ?_)
  simp [aev, cav, look, acallPure, abin, abinN, abinP, abinI, abinS, aun, aconv, afield, afieldAddr, aindexAddr, aindex, aslice, alow, ahigh, abuild, abuildGo, cellsOf, splice, fieldTy, alen, apick, amax, amin, aload, headV, aparts, abuildSlice, elParts, abytesStr, astore, amake, aappend, aclear, anew, arith, aresults, aresList, ares, spec0, spec1, spec2, spec3, spec4, eqCells, eqCell]
noncomputable def CL1 : Ctx := mkC Try.prog G0 [(77, .pure isNaNs)]
@[simp] theorem CL1_P : CL1.P = Try.prog := rfl
@[simp] theorem CL1_1 : CL1.S 77 = .pure isNaNs := rfl
theorem mixCL1 : CL1.P.follows .mixedOrders = true := mixed
theorem sigCL1 : SigOK CL1 := sigOK_cons (entryPure isNaN2 Try.func77 rfl (by decide)) (sigOK_nil _ _)
def sLess : List AV → Option (Prop × AV) := spec2 (fun (_ _ : Int) => True) (fun a b => .bool (decide (a < b)))
theorem lessP : PureOK Try.prog G0 60 sLess := by
  refine pure2 (C := CL1) sigCL1 mixCL1 Try.func60 rfl rfl rfl (by kernel_rfl) (by decide) (fun a b _ => ?_)
  simp [aev, cav, look, acallPure, abin, abinN, abinP, abinI, abinS, aun, aconv, afield, afieldAddr, aindexAddr, aindex, aslice, alow, ahigh, abuild, abuildGo, cellsOf, splice, fieldTy, alen, apick, amax, amin, aload, headV, aparts, abuildSlice, elParts, abytesStr, astore, amake, aappend, aclear, anew, arith, aresults, aresList, ares, spec0, spec1, spec2, spec3, spec4, eqCells, eqCell, isNaNs]

/-- How many at the front are less. -/
def lbd (l : List Int) (x : Int) : Nat := (l.takeWhile fun y => decide (y < x)).length
theorem lbd_at : ∀ {l : List Int} {x : Int} {d : Nat}, (∀ j, j < d → ix l j < x) → d ≤ l.length → (d < l.length → x ≤ ix l d) → lbd l x = d
  | [], x, d, _, hd, _ => by have : d = 0 := by simpa using hd
                             subst this; rfl
  | y :: r, x, 0, _, _, h => by
    have := h (by simp)
    have h0 : ¬ y < x := by have e : ix (y :: r) 0 = y := rfl
                            rw [e] at this; omega
    unfold lbd
    rw [List.takeWhile_cons, if_neg (by simpa using h0)]
    rfl
  | y :: r, x, d + 1, h1, hd, h => by
    have h0 : y < x := h1 0 (by omega)
    have ih := lbd_at (l := r) (x := x) (d := d) (fun j hj => h1 (j + 1) (by omega)) (by simpa using hd) (fun hd2 => h (by simpa using hd2))
    unfold lbd at ih ⊢
    rw [List.takeWhile_cons, if_pos (by simpa using h0), List.length_cons, ih]
theorem lbd_le (l : List Int) (x : Int) : lbd l x ≤ l.length := by
  unfold lbd
  exact (List.takeWhile_prefix _).length_le
def SortedZ (l : List Int) : Prop := ∀ i j, i < j → j < l.length → ix l i ≤ ix l j
def foundB (l : List Int) (x : Int) : Bool := decide (lbd l x < l.length) && decide (ix l (lbd l x) = x)

noncomputable def CB1 : Ctx := mkC Try.prog G0 [(60, .pure sLess), (61, .pure isNaNs)]
@[simp] theorem CB1_P : CB1.P = Try.prog := rfl
@[simp] theorem CB1_1 : CB1.S 60 = .pure sLess := rfl
@[simp] theorem CB1_2 : CB1.S 61 = .pure isNaNs := rfl
theorem mixCB1 : CB1.P.follows .mixedOrders = true := mixed
theorem sigCB1 : SigOK CB1 := sigOK_cons (entryPure lessP Try.func60 rfl (by decide)) (sigOK_cons (entryPure isNaN1 Try.func61 rfl (by decide)) (sigOK_nil _ _))
def sBin : List AV → Option (Prop × AV) := spec2 (fun (l : List Int) (_ : Int) => l.length ≤ 1000000 ∧ SortedZ l) (fun l x => .tup [.int .i64 (lbd l x), .bool (foundB l x)])
set_option maxHeartbeats 8000000 in
theorem binP : PureOK Try.prog G0 46 sBin := by
  refine pure2 (C := CB1) sigCB1 mixCB1 Try.func46 rfl rfl rfl (by kernel_rfl) (by decide) (fun l x ⟨hl, hs⟩ => ?_)
  simp [aev, cav, look, acallPure, abin, abinN, abinP, abinI, abinS, aun, aconv, afield, afieldAddr, aindexAddr, aindex, aslice, alow, ahigh, abuild, abuildGo, cellsOf, splice, fieldTy, alen, apick, amax, amin, aload, headV, aparts, abuildSlice, elParts, abytesStr, astore, amake, aappend, aclear, anew, arith, aresults, aresList, ares, spec0, spec1, spec2, spec3, spec4, eqCells, eqCell]
  refine loop_rule (C := CB1) sigCB1 mixCB1 (fun q : Nat × Nat => ⟨[(0, Enc.enc l), (1, .int .i64 x), (6, .int .i64 l.length), (7, .int .i64 q.1), (8, .int .i64 q.2)], []⟩) (fun q => q.1 ≤ q.2 ∧ q.2 ≤ l.length ∧ (∀ j, j < q.1 → ix l j < x) ∧ ∀ j, q.2 ≤ j → j < l.length → x ≤ ix l j) (fun q => q.2 - q.1) (by kernel_rfl) ⟨(0, l.length), ⟨by omega, by omega, fun j hj => by omega, fun j h1 h2 => by omega⟩, weak_slots (by simp)⟩ (fun ⟨i, j⟩ ⟨h1, h2, h3, h4⟩ => ?_)
  simp only at h1 h2 h3 h4 ⊢
  by_cases hij : i < j
  · have i1 : I64 ((i : Int) + j) := by unfold I64; omega
    have u1 : IntKind.wrap .u64 ((i : Int) + j) = (i : Int) + j := by simp [IntKind.wrap, IntKind.bits, IntKind.signed]; omega
    obtain ⟨m, hm⟩ : ∃ m, m = (i + j) / 2 := ⟨_, rfl⟩
    have m1 : i ≤ m := by omega
    have m2 : m < j := by omega
    have hml : m < l.length := by omega
    have fd : ((i : Int) + j).fdiv (2 ^ min 1 IntKind.u64.bits) = (m : Int) := by
      have e : (2 : Int) ^ min 1 IntKind.u64.bits = 2 := rfl
      rw [e, Int.fdiv_eq_ediv_of_nonneg _ (by omega)]; omega
    have i2 : I64 (m : Int) := by unfold I64; omega
    have i3 : I64 ((m : Int) + 1) := by unfold I64; omega
    have u2 : IntKind.wrap .i64 (m : Int) = (m : Int) := w64_in i2
    by_cases hlt : ix l m < x
    · simp [aev, cav, look, acallPure, abin, abinN, abinP, abinI, abinS, aun, aconv, afield, afieldAddr, aindexAddr, aindex, aslice, alow, ahigh, abuild, abuildGo, cellsOf, splice, fieldTy, alen, apick, amax, amin, aload, headV, aparts, abuildSlice, elParts, abytesStr, astore, amake, aappend, aclear, anew, arith, aresults, aresList, ares, spec0, spec1, spec2, spec3, spec4, eqCells, eqCell, sLess, hij, i1, u1, fd, u2, i3, hml, rowAt_enc hml, hlt]
      exact ⟨m + 1, j, ⟨by omega, by omega, fun k hk => by
        rcases Nat.lt_or_eq_of_le (Nat.le_of_lt_succ hk) with h | rfl
        · have := hs k m h hml; omega
        · exact hlt, h4⟩, by omega, weak_slots (by simp)⟩
    · simp [aev, cav, look, acallPure, abin, abinN, abinP, abinI, abinS, aun, aconv, afield, afieldAddr, aindexAddr, aindex, aslice, alow, ahigh, abuild, abuildGo, cellsOf, splice, fieldTy, alen, apick, amax, amin, aload, headV, aparts, abuildSlice, elParts, abytesStr, astore, amake, aappend, aclear, anew, arith, aresults, aresList, ares, spec0, spec1, spec2, spec3, spec4, eqCells, eqCell, sLess, hij, i1, u1, fd, u2, i3, hml, rowAt_enc hml, hlt]
      exact ⟨i, m, ⟨by omega, by omega, h3, fun k hk hkl => by
        rcases Nat.lt_or_eq_of_le hk with h | rfl
        · have := hs m k h hkl; omega
        · omega⟩, by omega, weak_slots (by simp)⟩
  · have hb : lbd l x = i := lbd_at h3 (by omega) (fun h => h4 i (by omega) h)
    by_cases hil : i < l.length
    · have hf : foundB l x = decide (ix l i = x) := by unfold foundB; rw [hb]; simp [hil]
      rcases em2 (ix l i = x) with e | e
      · simp [aev, cav, look, acallPure, abin, abinN, abinP, abinI, abinS, aun, aconv, afield, afieldAddr, aindexAddr, aindex, aslice, alow, ahigh, abuild, abuildGo, cellsOf, splice, fieldTy, alen, apick, amax, amin, aload, headV, aparts, abuildSlice, elParts, abytesStr, astore, amake, aappend, aclear, anew, arith, aresults, aresList, ares, spec0, spec1, spec2, spec3, spec4, eqCells, eqCell, isNaNs, hij, hil, rowAt_enc hil, hb, hf, e]
      · simp [aev, cav, look, acallPure, abin, abinN, abinP, abinI, abinS, aun, aconv, afield, afieldAddr, aindexAddr, aindex, aslice, alow, ahigh, abuild, abuildGo, cellsOf, splice, fieldTy, alen, apick, amax, amin, aload, headV, aparts, abuildSlice, elParts, abytesStr, astore, amake, aappend, aclear, anew, arith, aresults, aresList, ares, spec0, spec1, spec2, spec3, spec4, eqCells, eqCell, isNaNs, hij, hil, rowAt_enc hil, hb, hf, e]
    · have hf : foundB l x = false := by unfold foundB; rw [hb]; simp [hil]
      simp [aev, cav, look, acallPure, abin, abinN, abinP, abinI, abinS, aun, aconv, afield, afieldAddr, aindexAddr, aindex, aslice, alow, ahigh, abuild, abuildGo, cellsOf, splice, fieldTy, alen, apick, amax, amin, aload, headV, aparts, abuildSlice, elParts, abytesStr, astore, amake, aappend, aclear, anew, arith, aresults, aresList, ares, spec0, spec1, spec2, spec3, spec4, eqCells, eqCell, isNaNs, hij, hil, hb, hf]
end Go.Proofs.Ytpbgnnaaobamfaa

/-
  layer 6, in plain words: sets of integers as increasing lists (after wip/intset's own text).
-/

namespace Go.Proofs.Ytpbgnnaaobamfaa

set_option linter.unusedVariables false

def valid (zs : List Int) : Bool := decide (zs.Pairwise (· < ·))

theorem pairwise_of_adj : ∀ (zs : List Int), (∀ i (h : i + 1 < zs.length), zs[i] < zs[i + 1]) → zs.Pairwise (· < ·)
  | [], _ => .nil
  | [_], _ => List.pairwise_singleton _ _
  | a :: b :: r, h => by
    have ih := pairwise_of_adj (b :: r) (fun i hi => h (i + 1) (by simp only [List.length_cons] at hi ⊢; omega))
    have hab : a < b := h 0 (by simp)
    refine List.Pairwise.cons (fun x hx => ?_) ih
    rcases List.mem_cons.1 hx with rfl | hx
    · exact hab
    · have := (List.pairwise_cons.1 ih).1 x hx
      omega

theorem adj_of_pairwise {zs : List Int} (h : zs.Pairwise (· < ·)) (i : Nat) (hi : i + 1 < zs.length) : zs[i] < zs[i + 1] :=
  List.pairwise_iff_getElem.1 h i (i + 1) (by omega) hi (by omega)

theorem valid_true {zs : List Int} (h : ∀ i (h : i + 1 < zs.length), zs[i] < zs[i + 1]) : valid zs = true := decide_eq_true (pairwise_of_adj zs h)
theorem valid_false {zs : List Int} {i : Nat} (hi : i + 1 < zs.length) (h : zs[i + 1] ≤ zs[i]) : valid zs = false :=
  decide_eq_false fun hp => by have := adj_of_pairwise hp i hi; omega

/-- The reference's insertion, as its loop does it. -/
def ins (x : Int) : List Int → Bool → List Int
  | [], d => if d then [] else [x]
  | y :: r, d => if x < y ∧ (d || y == x) = false then x :: y :: ins x r true else y :: ins x r (d || y == x)

theorem ins_true (x : Int) : ∀ l, ins x l true = l
  | [] => rfl
  | y :: r => by simp [ins, ins_true x r]

theorem ins_length (x : Int) : ∀ l d, (ins x l d).length ≤ l.length + 1
  | [], d => by cases d <;> simp [ins]
  | y :: r, d => by
    simp only [ins]
    split
    · simp [ins_true]
    · simpa using ins_length x r _

theorem mem_ins (x : Int) : ∀ l d z, z ∈ ins x l d ↔ z ∈ l ∨ (d = false ∧ z = x)
  | [], d, z => by cases d <;> simp [ins]
  | y :: r, d, z => by
    simp only [ins]
    split
    · rename_i h
      have hd : d = false := by
        cases d
        · rfl
        · simp at h
      simp only [ins_true, List.mem_cons, hd, true_and]
      constructor
      · rintro (h | h | h) <;> simp_all
      · rintro ((h | h) | h) <;> simp_all
    · simp only [List.mem_cons, mem_ins x r, Bool.or_eq_false_iff, beq_eq_false_iff_ne]
      constructor
      · rintro (h | h | h)
        · exact .inl (.inl h)
        · exact .inl (.inr h)
        · exact .inr ⟨h.1.1, h.2⟩
      · rintro ((h | h) | ⟨h1, h2⟩)
        · exact .inl h
        · exact .inr (.inl h)
        · by_cases e : y = x
          · exact .inl (by omega)
          · exact .inr (.inr ⟨⟨h1, e⟩, h2⟩)

theorem ins_sorted (x : Int) : ∀ l d, l.Pairwise (· < ·) → (ins x l d).Pairwise (· < ·)
  | [], d, _ => by cases d <;> simp [ins]
  | y :: r, d, h => by
    have hr := List.pairwise_cons.1 h
    simp only [ins]
    split
    · rename_i hx
      rw [ins_true]
      refine List.Pairwise.cons (fun z hz => ?_) h
      rcases List.mem_cons.1 hz with rfl | hz
      · exact hx.1
      · have := hr.1 z hz
        omega
    · rename_i hx
      refine List.Pairwise.cons (fun z hz => ?_) (ins_sorted x r _ hr.2)
      rcases (mem_ins x r _ z).1 hz with hz | ⟨hd, rfl⟩
      · exact hr.1 z hz
      · have h1 : ¬ z < y := fun hlt => hx ⟨hlt, hd⟩
        have h2 : y ≠ z := by
          intro e
          simp [e] at hd
        omega

theorem ins_step_two {x : Int} {zs ys : List Int} {k : Nat} {b : Bool} (h : k < zs.length) (hx : x < zs[k]) (hb : (b || zs[k] == x) = false) :
    (ys ++ [x]) ++ [zs[k]] ++ ins x (zs.drop (k + 1)) true = ys ++ ins x (zs.drop k) b := by
  rw [List.drop_eq_getElem_cons h]
  rw [ins, if_pos ⟨hx, hb⟩]
  simp only [List.append_assoc, List.cons_append, List.nil_append]

theorem ins_step_one {x : Int} {zs ys : List Int} {k : Nat} {b d : Bool} (h : k < zs.length) (hx : ¬ (x < zs[k] ∧ (b || zs[k] == x) = false)) (hd : d = (b || zs[k] == x)) :
    ys ++ [zs[k]] ++ ins x (zs.drop (k + 1)) d = ys ++ ins x (zs.drop k) b := by
  subst hd
  rw [List.drop_eq_getElem_cons h, ins, if_neg hx]
  simp

/-- Two strictly increasing lists with the same elements are one. -/
theorem sorted_ext : ∀ {a b : List Int}, a.Pairwise (· < ·) → b.Pairwise (· < ·) → (∀ z, z ∈ a ↔ z ∈ b) → a = b
  | [], [], _, _, _ => rfl
  | [], y :: r, _, _, h => by have := (h y).2 (by simp); simp at this
  | x :: q, [], _, _, h => by have := (h x).1 (by simp); simp at this
  | x :: q, y :: r, ha, hb, h => by
    have ha' := List.pairwise_cons.1 ha
    have hb' := List.pairwise_cons.1 hb
    have e : x = y := by
      have h1 := (h x).1 (by simp)
      have h2 := (h y).2 (by simp)
      rcases List.mem_cons.1 h1 with h1 | h1
      · exact h1
      · rcases List.mem_cons.1 h2 with h2 | h2
        · exact h2.symm
        · have := hb'.1 x h1
          have := ha'.1 y h2
          omega
    subst e
    congr 1
    refine sorted_ext ha'.2 hb'.2 fun z => ⟨fun hz => ?_, fun hz => ?_⟩
    · have := ha'.1 z hz
      rcases List.mem_cons.1 ((h z).1 (by simp [hz])) with h1 | h1
      · omega
      · exact h1
    · have := hb'.1 z hz
      rcases List.mem_cons.1 ((h z).2 (by simp [hz])) with h1 | h1
      · omega
      · exact h1

/-- The reference's set of the elements. -/
def of (l : List Int) : List Int := l.foldl (fun s x => ins x s false) []

theorem foldl_ins (l : List Int) : ∀ s : List Int, s.Pairwise (· < ·) → (l.foldl (fun s x => ins x s false) s).Pairwise (· < ·) ∧ ∀ z, z ∈ l.foldl (fun s x => ins x s false) s ↔ z ∈ s ∨ z ∈ l := by
  induction l with
  | nil => intro s h; simp [h]
  | cons x r ih =>
    intro s h
    obtain ⟨h1, h2⟩ := ih (ins x s false) (ins_sorted x s false h)
    refine ⟨h1, fun z => ?_⟩
    rw [List.foldl_cons, h2, mem_ins, List.mem_cons]
    constructor
    · rintro ((h | ⟨_, h⟩) | h)
      · exact .inl h
      · exact .inr (.inl h)
      · exact .inr (.inr h)
    · rintro (h | h | h)
      · exact .inl (.inl h)
      · exact .inl (.inr ⟨rfl, h⟩)
      · exact .inr h

theorem of_sorted (l : List Int) : (of l).Pairwise (· < ·) := (foldl_ins l [] .nil).1
theorem mem_of (l : List Int) (z : Int) : z ∈ of l ↔ z ∈ l := by simpa [of] using (foldl_ins l [] .nil).2 z

theorem foldl_ins_length (l : List Int) : ∀ s : List Int, (l.foldl (fun s x => ins x s false) s).length ≤ s.length + l.length := by
  induction l with
  | nil => intro s; simp
  | cons x r ih =>
    intro s
    have := ih (ins x s false)
    have := ins_length x s false
    simp only [List.foldl_cons, List.length_cons]
    omega

theorem of_length (l : List Int) : (of l).length ≤ l.length := by simpa [of] using foldl_ins_length l []

/-- The union, as the reference makes it: the second list put into the first one's set. -/
def into (s l : List Int) : List Int := l.foldl (fun s x => ins x s false) s

theorem into_nil (s : List Int) : into s [] = s := rfl
theorem into_drop {s l : List Int} {k : Nat} (h : k < l.length) : into (ins l[k] s false) (l.drop (k + 1)) = into s (l.drop k) := by
  rw [List.drop_eq_getElem_cons h]; rfl
theorem into_end {s l : List Int} {k : Nat} (h : ¬ k < l.length) : into s (l.drop k) = s := by
  rw [List.drop_eq_nil_of_le (by omega)]; rfl
theorem of_valid {zs : List Int} (h : valid zs = true) : of zs = zs :=
  sorted_ext (of_sorted zs) (of_decide_eq_true h) fun z => mem_of zs z
end Go.Proofs.Ytpbgnnaaobamfaa

/-
  layer 33, in plain words: the leapfrogging meet; it ends, it is the meet, and it makes few seeks.
-/
namespace Go.Proofs.Ytpbgnnaaobamfaa
set_option linter.unusedSimpArgs false
set_option linter.unusedVariables false

theorem mem_ix {α : Type} [Inhabited α] {l : List α} {z : α} (h : z ∈ l) : ∃ j, j < l.length ∧ ix l j = z := by
  obtain ⟨j, hj, e⟩ := List.mem_iff_getElem.1 h
  exact ⟨j, hj, by rw [ix_lt hj]; exact e⟩
theorem ix_set {α : Type} [Inhabited α] {l : List α} {i j : Nat} {v : α} : ix (l.set i v) j = if i = j ∧ j < l.length then v else ix l j := by
  unfold ix
  simp only [List.getD_eq_getElem?_getD, List.getElem?_set]
  split
  · rename_i h
    subst h
    split
    · rename_i h; simp [h]
    · rename_i h
      rw [if_neg (fun h2 => h h2.2), List.getElem?_eq_none (by omega)]
  · rename_i h
    rw [if_neg (fun h2 => h h2.1)]

structure MSt where
  ats : List Nat
  x : Int
  i : Nat
  agree : Nat
  seeks : Nat
  out : List Int

def seekP (l : List Int) (p : Nat) (x : Int) : Nat := p + lbd (l.drop p) x
def live (S : List (List Int)) (s : MSt) : Prop := ix s.ats s.i < (ix S s.i).length
instance (S : List (List Int)) (s : MSt) : Decidable (live S s) := inferInstanceAs (Decidable (_ < _))
def appS (S : List (List Int)) (s : MSt) : MSt :=
  ⟨s.ats.set s.i (ix s.ats s.i + 1), if ix s.ats s.i + 1 < (ix S s.i).length then ix (ix S s.i) (ix s.ats s.i + 1) else s.x, s.i, 1, s.seeks, s.out ++ [s.x]⟩
def nxt (S : List (List Int)) (s : MSt) : Nat := (s.i + 1) % S.length
def nxP (S : List (List Int)) (s : MSt) : Nat := seekP (ix S (nxt S s)) (ix s.ats (nxt S s)) s.x
def skS (S : List (List Int)) (s : MSt) : MSt :=
  ⟨s.ats.set (nxt S s) (nxP S s),
   if nxP S s < (ix S (nxt S s)).length then ix (ix S (nxt S s)) (nxP S s) else s.x,
   nxt S s,
   if nxP S s < (ix S (nxt S s)).length then (if ix (ix S (nxt S s)) (nxP S s) = s.x then s.agree + 1 else 1) else s.agree,
   s.seeks + 1, s.out⟩
def mstep (S : List (List Int)) (s : MSt) : MSt := if s.agree = S.length then appS S s else skS S s
def meetN (S : List (List Int)) : Nat → MSt → Option (List Int × Nat)
  | 0, _ => none
  | f + 1, s => if live S s then meetN S f (mstep S s) else some (s.out, s.seeks)

def Inc (l : List Int) : Prop := l.Pairwise (· < ·)
theorem inc_ix {l : List Int} (h : Inc l) {a b : Nat} (hab : a < b) (hb : b < l.length) : ix l a < ix l b := by
  rw [ix_lt hb, ix_lt (show a < l.length by omega)]
  exact List.pairwise_iff_getElem.1 h a b _ _ hab
theorem inc_le {l : List Int} (h : Inc l) {a b : Nat} (hab : a ≤ b) (hb : b < l.length) : ix l a ≤ ix l b := by
  rcases Nat.lt_or_eq_of_le hab with h1 | rfl
  · exact Int.le_of_lt (inc_ix h h1 hb)
  · exact Int.le_refl _
theorem lbd_before : ∀ {l : List Int} {x : Int} {j : Nat}, j < lbd l x → ix l j < x
  | y :: r, x, j, h => by
    unfold lbd at h
    rw [List.takeWhile_cons] at h
    split at h
    · rename_i hy
      cases j with
      | zero => simpa [ix] using hy
      | succ j =>
        have := lbd_before (l := r) (x := x) (j := j) (by unfold lbd; simpa using h)
        simpa [ix] using this
    · simp at h
theorem lbd_after : ∀ {l : List Int} {x : Int}, lbd l x < l.length → x ≤ ix l (lbd l x)
  | y :: r, x, h => by
    by_cases hy : y < x
    · have e : lbd (y :: r) x = lbd r x + 1 := by unfold lbd; rw [List.takeWhile_cons, if_pos (by simpa using hy)]; rfl
      rw [e] at h ⊢
      have := lbd_after (l := r) (x := x) (by simpa using h)
      simpa [ix] using this
    · have e : lbd (y :: r) x = 0 := by unfold lbd; rw [List.takeWhile_cons, if_neg (by simpa using hy)]; rfl
      rw [e]
      simp [ix]; omega
theorem ix_drop {α : Type} [Inhabited α] {l : List α} {p j : Nat} : ix (l.drop p) j = ix l (p + j) := by
  unfold ix
  simp only [List.getD_eq_getElem?_getD, List.getElem?_drop]
theorem seekP_ge (l : List Int) (p : Nat) (x : Int) : p ≤ seekP l p x := Nat.le_add_right _ _
theorem seekP_le {l : List Int} {p : Nat} (x : Int) (h : p ≤ l.length) : seekP l p x ≤ l.length := by
  have := lbd_le (l.drop p) x
  rw [List.length_drop] at this
  unfold seekP; omega
theorem seekP_before {l : List Int} {p : Nat} {x : Int} {j : Nat} (h1 : p ≤ j) (h2 : j < seekP l p x) : ix l j < x := by
  unfold seekP at h2
  have := lbd_before (l := l.drop p) (x := x) (j := j - p) (by omega)
  rw [ix_drop, show p + (j - p) = j by omega] at this
  exact this
theorem seekP_after {l : List Int} {p : Nat} {x : Int} (h : seekP l p x < l.length) : x ≤ ix l (seekP l p x) := by
  unfold seekP at h ⊢
  have := lbd_after (l := l.drop p) (x := x) (by rw [List.length_drop]; omega)
  rw [ix_drop] at this
  exact this

/-- The common elements. -/
def common (S : List (List Int)) : List Int := (ix S 0).filter fun z => decide (∀ l ∈ S, z ∈ l)
theorem mem_common {S : List (List Int)} (h : S ≠ []) {z : Int} : z ∈ common S ↔ ∀ l ∈ S, z ∈ l := by
  unfold common
  rw [List.mem_filter]
  constructor
  · rintro ⟨_, h2⟩; simpa using h2
  · intro h2
    exact ⟨h2 _ (ix_mem (by cases S with | nil => exact absurd rfl h | cons a r => simp)), by simpa using h2⟩
theorem common_inc {S : List (List Int)} (h : S ≠ []) (hS : ∀ l ∈ S, Inc l) : Inc (common S) :=
  (hS _ (ix_mem (by cases S with | nil => exact absurd rfl h | cons a r => simp))).filter _

def under (S : List (List Int)) (x : Int) : List Int := (common S).filter fun c => decide (c < x)
theorem under_same {S : List (List Int)} {x y : Int} (h : ∀ c ∈ common S, c < x ↔ c < y) : under S x = under S y := by
  unfold under
  refine List.filter_congr fun c hc => ?_
  simp only [h c hc]
theorem under_all {S : List (List Int)} {x : Int} (h : ∀ c ∈ common S, c < x) : under S x = common S := by
  unfold under
  rw [List.filter_eq_self]
  intro c hc; simpa using h c hc
theorem under_snoc {S : List (List Int)} (h : S ≠ []) (hS : ∀ l ∈ S, Inc l) {x : Int} (hx : x ∈ common S) {L : List Int} (hL : Inc L) (hm : ∀ z, z ∈ L ↔ z ∈ common S ∧ z ≤ x) : under S x ++ [x] = L := by
  have ci := common_inc h hS
  refine sorted_ext ?_ hL fun z => ?_
  · refine List.pairwise_append.2 ⟨ci.filter _, List.pairwise_singleton _ _, fun a ha b hb => ?_⟩
    rw [List.mem_singleton] at hb
    subst hb
    unfold under at ha
    simpa using (List.mem_filter.1 ha).2
  · rw [hm]
    unfold under
    rw [List.mem_append, List.mem_filter, List.mem_singleton]
    constructor
    · rintro (⟨h1, h2⟩ | rfl)
      · have : z < x := by simpa using h2
        exact ⟨h1, by omega⟩
      · exact ⟨hx, Int.le_refl _⟩
    · rintro ⟨h1, h2⟩
      by_cases e : z = x
      · exact .inr e
      · exact .inl ⟨h1, by simp; omega⟩

structure MI (S : List (List Int)) (s : MSt) (q : Nat) : Prop where
  i : s.i < S.length
  len : s.ats.length = S.length
  a1 : 1 ≤ s.agree
  a2 : s.agree ≤ S.length
  le : ∀ j, j < S.length → ix s.ats j ≤ (ix S j).length
  bef : ∀ j, j < S.length → ∀ p, p < ix s.ats j → ix (ix S j) p < s.x
  win : ∀ j, j < S.length → (j ≤ s.i ∧ s.i < s.agree + j ∨ s.i < j ∧ S.length + s.i < s.agree + j) → ix s.ats j < (ix S j).length ∧ ix (ix S j) (ix s.ats j) = s.x
  old : ∀ j, j < S.length → (j ≤ s.i ∧ s.agree + j ≤ s.i ∨ s.i < j ∧ s.agree + j ≤ S.length + s.i ∧ 1 ≤ q) → ix s.ats j < (ix S j).length ∧ ix (ix S j) (ix s.ats j) < s.x
  out : s.out = under S s.x
  cnt : s.seeks = q * S.length + s.i
  f1 : ∀ j, j ≤ s.i → q ≤ ix s.ats j
  f2 : ∀ j, s.i < j → j < S.length → q ≤ ix s.ats j + 1

/-- How many are above, in all. -/
def above (S : List (List Int)) (x : Int) : Nat := S.flatten.countP fun z => decide (x < z)
theorem countP_lt : ∀ {l : List Int} {x y : Int}, x < y → y ∈ l → l.countP (fun z => decide (y < z)) < l.countP (fun z => decide (x < z))
  | a :: r, x, y, h, hm => by
    have mono : r.countP (fun z => decide (y < z)) ≤ r.countP (fun z => decide (x < z)) :=
      List.countP_mono_left fun z _ hz => by simp only [decide_eq_true_eq] at hz ⊢; omega
    rw [List.countP_cons, List.countP_cons]
    rcases List.mem_cons.1 hm with rfl | hm
    · simp [h]; omega
    · have := countP_lt h hm
      by_cases h1 : y < a
      · simp [h1, show x < a by omega]; exact this
      · by_cases h2 : x < a <;> simp [h1, h2] <;> omega
theorem above_lt {S : List (List Int)} {x y : Int} (h : x < y) {l : List Int} (hl : l ∈ S) (hy : y ∈ l) : above S y < above S x :=
  countP_lt h (List.mem_flatten.2 ⟨l, hl, hy⟩)
def mu (S : List (List Int)) (s : MSt) : Nat := above S s.x * (S.length + 1) + (S.length - s.agree)
theorem mu_lt {S : List (List Int)} {s t : MSt} (h : above S t.x < above S s.x) : mu S t < mu S s := by
  unfold mu
  have : (above S t.x + 1) * (S.length + 1) ≤ above S s.x * (S.length + 1) := Nat.mul_le_mul_right _ h
  rw [Nat.add_mul, Nat.one_mul] at this
  omega
def Good (S : List (List Int)) (r : List Int × Nat) : Prop := r.1 = common S ∧ ∀ j, j < S.length → r.2 ≤ S.length * ((ix S j).length + 1)

theorem bound_all {S : List (List Int)} {q i : Nat} {a : List Nat} (hi : i < S.length) (hle : ∀ j, j < S.length → ix a j ≤ (ix S j).length) (f1 : ∀ j, j ≤ i → q ≤ ix a j) (f2 : ∀ j, i < j → j < S.length → q ≤ (ix S j).length) : ∀ j, j < S.length → q * S.length + i ≤ S.length * ((ix S j).length + 1) := by
  intro j hj
  have hq : q ≤ (ix S j).length := by
    rcases Nat.lt_or_ge i j with h | h
    · exact f2 j h hj
    · exact Nat.le_trans (f1 j h) (hle j hj)
  have := Nat.mul_le_mul_right S.length hq
  rw [Nat.mul_add, Nat.mul_one, Nat.mul_comm S.length]
  omega
theorem app_ok {S : List (List Int)} (hS : ∀ l ∈ S, Inc l) {s : MSt} {q : Nat} (h : MI S s q) (hl : live S s) (ha : s.agree = S.length) :
    (live S (appS S s) → MI S (appS S s) q ∧ mu S (appS S s) < mu S s) ∧ (¬ live S (appS S s) → Good S ((appS S s).out, (appS S s).seeks)) := by
  obtain ⟨ats, x, i, agree, seeks, out⟩ := s
  obtain ⟨h1, h2, h3, h4, h5, h6, h7, h8, h9, h10, h11, h12⟩ := h
  simp only at h1 h2 h3 h4 h5 h6 h7 h8 h9 h10 h11 h12 ha
  unfold live at hl
  simp only at hl
  have hne : S ≠ [] := by intro e; rw [e] at h1; simp at h1
  have hw : ∀ j, j < S.length → ix ats j < (ix S j).length ∧ ix (ix S j) (ix ats j) = x := fun j hj => h7 j hj (by omega)
  have hx : x ∈ common S := (mem_common hne).2 fun l hm => by
    obtain ⟨j, hj, rfl⟩ := mem_ix hm
    obtain ⟨e1, e2⟩ := hw j hj
    rw [← e2]; exact ix_mem e1
  have hi := hw i h1
  have hinc := hS _ (ix_mem h1)
  -- a common element is in list i
  have hci : ∀ c ∈ common S, ∃ r, r < (ix S i).length ∧ ix (ix S i) r = c := fun c hc => mem_ix ((mem_common hne).1 hc _ (ix_mem h1))
  have hats : ∀ j, ix (ats.set i (ix ats i + 1)) j = if i = j ∧ j < ats.length then ix ats i + 1 else ix ats j := fun j => ix_set
  have hati : ix (ats.set i (ix ats i + 1)) i = ix ats i + 1 := by rw [hats, if_pos ⟨rfl, by omega⟩]
  unfold appS live
  simp only [hati]
  constructor
  · intro hlv
    rw [if_pos hlv]
    have hlt : x < ix (ix S i) (ix ats i + 1) := by rw [← hi.2]; exact inc_ix hinc (Nat.lt_succ_self _) hlv
    obtain ⟨y, hy⟩ : ∃ y, y = ix (ix S i) (ix ats i + 1) := ⟨_, rfl⟩
    rw [← hy] at hlt ⊢
    refine ⟨⟨h1, by simpa using h2, Nat.le_refl _, by simp only; omega, fun j hj => ?_, fun j hj p hp => ?_, fun j hj hc => ?_, fun j hj hc => ?_, ?_, h10, fun j hj => ?_, fun j hj hj2 => ?_⟩, ?_⟩
    · show ix (ats.set i _) j ≤ _
      rw [hats]; have := h5 j hj
      split
      · rename_i e; rw [← e.1]; exact Nat.le_of_lt hlv
      · exact this
    · show ix (ix S j) p < y
      simp only [hats] at hp
      split at hp
      · rename_i e
        obtain ⟨rfl, _⟩ := e
        have : ix (ix S i) p ≤ ix (ix S i) (ix ats i) := inc_le hinc (by omega) hi.1
        rw [hi.2] at this; omega
      · have := h6 j hj p hp; omega
    · have e : j = i := by simp only at hc; omega
      subst e
      show ix (ats.set _ _) _ < _ ∧ ix (ix S _) (ix (ats.set _ _) _) = y
      rw [hati]; exact ⟨hlv, hy.symm⟩
    · have e : i ≠ j := by simp only at hc; omega
      show ix (ats.set _ _) _ < _ ∧ ix (ix S _) (ix (ats.set _ _) _) < y
      rw [hats, if_neg (fun h => e h.1)]
      obtain ⟨e1, e2⟩ := hw j hj
      rw [e2]; exact ⟨e1, hlt⟩
    · show out ++ [x] = under S y
      rw [h9]
      refine under_snoc hne hS hx ((common_inc hne hS).filter _) fun z => ?_
      unfold under
      rw [List.mem_filter]
      refine and_congr_right fun hz => ?_
      simp only [decide_eq_true_eq]
      obtain ⟨r, hr, rfl⟩ := hci z hz
      constructor
      · intro hz2
        have : r ≤ ix ats i := by
          apply Nat.le_of_not_lt; intro hc
          have := inc_le hinc (show ix ats i + 1 ≤ r by omega) hr
          rw [← hy] at this; omega
        rw [← hi.2]; exact inc_le hinc this hi.1
      · intro hz2; omega
    · show q ≤ ix (ats.set _ _) _
      rw [hats]; have := h11 j hj
      split
      · rename_i e; rw [← e.1] at this; omega
      · exact this
    · show q ≤ ix (ats.set _ _) _ + 1
      rw [hats, if_neg (fun e => by simp only at hj; omega)]
      exact h12 j hj hj2
    · exact mu_lt (above_lt hlt (ix_mem h1) (by rw [hy]; exact ix_mem hlv))
  · intro hd
    refine ⟨?_, ?_⟩
    · show out ++ [x] = common S
      rw [h9]
      refine under_snoc hne hS hx (common_inc hne hS) fun z => ⟨fun hz => ⟨hz, ?_⟩, fun hz => hz.1⟩
      obtain ⟨r, hr, rfl⟩ := hci z hz
      rw [← hi.2]; exact inc_le hinc (by omega) hi.1
    · show ∀ j, j < S.length → seeks ≤ _
      rw [h10]
      exact bound_all h1 h5 h11 fun j hj hj2 => by have := h12 j hj hj2; have := (hw j hj2).1; omega
theorem sk_ok {S : List (List Int)} (hS : ∀ l ∈ S, Inc l) {s : MSt} {q : Nat} (h : MI S s q) (hl : live S s) (ha : s.agree ≠ S.length) :
    (live S (skS S s) → ∃ q, MI S (skS S s) q ∧ mu S (skS S s) < mu S s) ∧ (¬ live S (skS S s) → Good S ((skS S s).out, (skS S s).seeks)) := by
  obtain ⟨ats, x, i, agree, seeks, out⟩ := s
  obtain ⟨h1, h2, h3, h4, h5, h6, h7, h8, h9, h10, h11, h12⟩ := h
  simp only at h1 h2 h3 h4 h5 h6 h7 h8 h9 h10 h11 h12 ha
  unfold live at hl
  simp only at hl
  have hne : S ≠ [] := by intro e; rw [e] at h1; simp at h1
  obtain ⟨n, hn⟩ : ∃ n, nxt S ⟨ats, x, i, agree, seeks, out⟩ = n := ⟨_, rfl⟩
  have hn0 : (i + 1) % S.length = n := hn
  obtain ⟨p, hp⟩ : ∃ p, nxP S ⟨ats, x, i, agree, seeks, out⟩ = p := ⟨_, rfl⟩
  have hp0 : seekP (ix S n) (ix ats n) x = p := by rw [← hp]; unfold nxP; rw [hn]
  -- the next list, and the round
  have hcase : (n = i + 1 ∧ n < S.length) ∨ (n = 0 ∧ i + 1 = S.length) := by
    rcases Nat.lt_or_ge (i + 1) S.length with h | h
    · left; rw [← hn0, Nat.mod_eq_of_lt h]; exact ⟨rfl, h⟩
    · right; have e : i + 1 = S.length := by omega
      rw [← hn0, e, Nat.mod_self]; exact ⟨rfl, rfl⟩
  have hnS : n < S.length := by omega
  have hinc := hS _ (ix_mem hnS)
  have hci : ∀ c ∈ common S, ∃ r, r < (ix S n).length ∧ ix (ix S n) r = c := fun c hc => mem_ix ((mem_common hne).1 hc _ (ix_mem hnS))
  have p1 : ix ats n ≤ p := by rw [← hp0]; exact seekP_ge _ _ _
  have p2 : p ≤ (ix S n).length := by rw [← hp0]; exact seekP_le _ (h5 n hnS)
  have p3 : ∀ j, j < p → ix (ix S n) j < x := fun j hj => by
    rcases Nat.lt_or_ge j (ix ats n) with h | h
    · exact h6 n hnS j h
    · exact seekP_before h (by rw [hp0]; exact hj)
  have p4 : p < (ix S n).length → x ≤ ix (ix S n) p := fun h => by rw [← hp0] at h ⊢; exact seekP_after h
  obtain ⟨q', hq'⟩ : ∃ q', q' = if n = 0 then q + 1 else q := ⟨_, rfl⟩
  -- a list that was sought before goes on
  have hadv : (n ≤ i ∨ 1 ≤ q) → ix ats n < p := fun hc => by
    have ho := h8 n hnS (by omega)
    apply Nat.lt_of_not_le; intro hle
    have e : p = ix ats n := by omega
    have := p4 (by omega)
    rw [e] at this; omega
  have hcnt : seeks + 1 = q' * S.length + n := by
    rw [h10, hq']
    rcases hcase with ⟨e1, e2⟩ | ⟨e1, e2⟩
    · rw [if_neg (by omega)]; omega
    · rw [if_pos e1, Nat.add_mul, Nat.one_mul]; omega
  have hats : ∀ j, ix (ats.set n p) j = if n = j ∧ j < ats.length then p else ix ats j := fun j => ix_set
  have hatn : ix (ats.set n p) n = p := by rw [hats, if_pos ⟨rfl, by omega⟩]
  have hato : ∀ j, j ≠ n → ix (ats.set n p) j = ix ats j := fun j hj => by rw [hats, if_neg (fun h => hj h.1.symm)]
  have hle' : ∀ j, j < S.length → ix (ats.set n p) j ≤ (ix S j).length := fun j hj => by
    by_cases e : j = n
    · subst e; rw [hatn]; exact p2
    · rw [hato j e]; exact h5 j hj
  have f1' : ∀ j, j ≤ n → q' ≤ ix (ats.set n p) j := fun j hj => by
    by_cases e : j = n
    · subst e
      rw [hatn, hq']
      rcases hcase with ⟨e1, e2⟩ | ⟨e1, e2⟩
      · rw [if_neg (by omega)]
        have := h12 j (by omega) (by omega)
        by_cases hq : 1 ≤ q
        · have := hadv (.inr hq); omega
        · omega
      · rw [if_pos e1]
        have := h11 j (by omega)
        have := hadv (.inl (by omega)); omega
    · rw [hato j e, hq', if_neg (by omega)]
      exact h11 j (by omega)
  have f2' : ∀ j, n < j → j < S.length → q' ≤ ix (ats.set n p) j + 1 := fun j hj hj2 => by
    rw [hato j (by omega), hq']
    rcases hcase with ⟨e1, e2⟩ | ⟨e1, e2⟩
    · rw [if_neg (by omega)]; exact h12 j (by omega) hj2
    · rw [if_pos e1]; have := h11 j (by omega); omega
  unfold skS live
  simp only [hn, hp, hatn]
  constructor
  · intro hlv
    refine ⟨q', ?_⟩
    rw [if_pos hlv, if_pos hlv]
    have hxy := p4 hlv
    by_cases hy : ix (ix S n) p = x
    · rw [if_pos hy, hy]
      refine ⟨⟨hnS, by simpa using h2, by simp, by simp only; omega, hle', fun j hj r hr => ?_, fun j hj hc => ?_, fun j hj hc => ?_, h9, hcnt, f1', f2'⟩, ?_⟩
      · by_cases e : j = n
        · subst e; simp only [hatn] at hr; exact p3 r hr
        · simp only [hato j e] at hr; exact h6 j hj r hr
      · simp only at hc
        by_cases e : j = n
        · subst e
          show ix (ats.set _ _) _ < _ ∧ ix _ (ix (ats.set _ _) _) = x
          rw [hatn]; exact ⟨hlv, hy⟩
        · show ix (ats.set _ _) _ < _ ∧ ix _ (ix (ats.set _ _) _) = x
          rw [hato j e]; exact h7 j hj (by omega)
      · simp only at hc
        have e : j ≠ n := by omega
        show ix (ats.set _ _) _ < _ ∧ ix _ (ix (ats.set _ _) _) < x
        rw [hato j e]
        refine h8 j hj ?_
        rcases hcase with ⟨e1, e2⟩ | ⟨e1, e2⟩
        · rw [if_neg (by omega)] at hq'; omega
        · omega
      · unfold mu; simp only
        omega
    · rw [if_neg hy]
      have hlt : x < ix (ix S n) p := by omega
      refine ⟨⟨hnS, by simpa using h2, Nat.le_refl _, by simp only; omega, hle', fun j hj r hr => ?_, fun j hj hc => ?_, fun j hj hc => ?_, ?_, hcnt, f1', f2'⟩, mu_lt (above_lt hlt (ix_mem hnS) (ix_mem hlv))⟩
      · show _ < ix (ix S n) p
        by_cases e : j = n
        · subst e; simp only [hatn] at hr; have := p3 r hr; omega
        · simp only [hato j e] at hr; have := h6 j hj r hr; omega
      · have e : j = n := by simp only at hc; omega
        subst e
        show ix (ats.set _ _) _ < _ ∧ ix _ (ix (ats.set _ _) _) = ix (ix S _) p
        rw [hatn]; exact ⟨hlv, rfl⟩
      · simp only at hc
        have e : j ≠ n := by omega
        show ix (ats.set _ _) _ < _ ∧ ix _ (ix (ats.set _ _) _) < ix (ix S n) p
        rw [hato j e]
        by_cases hwn : j ≤ i ∧ i < agree + j ∨ i < j ∧ S.length + i < agree + j
        · obtain ⟨e1, e2⟩ := h7 j hj hwn
          exact ⟨e1, by omega⟩
        · obtain ⟨e1, e2⟩ := h8 j hj (by
            rcases hcase with ⟨e1, e2⟩ | ⟨e1, e2⟩
            · rw [if_neg (by omega)] at hq'; omega
            · omega)
          exact ⟨e1, by omega⟩
      · show out = under S _
        rw [h9]
        refine under_same fun c hc => ⟨fun h => by simp only; omega, fun h => ?_⟩
        simp only at h
        obtain ⟨r, hr, rfl⟩ := hci c hc
        apply p3
        apply Nat.lt_of_not_le; intro hle
        have := inc_le hinc hle hr
        omega
  · intro hd
    have e : p = (ix S n).length := by omega
    refine ⟨?_, ?_⟩
    · show out = common S
      rw [h9]
      exact under_all fun c hc => by obtain ⟨r, hr, rfl⟩ := hci c hc; exact p3 r (by omega)
    · show ∀ j, j < S.length → seeks + 1 ≤ _
      rw [hcnt]
      refine bound_all hnS hle' f1' fun j hj hj2 => ?_
      have := f2' j hj hj2
      rw [hato j (by omega)] at this
      have h5j := h5 j hj2
      by_cases hq : 1 ≤ q
      · by_cases hwn : j ≤ i ∧ i < agree + j ∨ i < j ∧ S.length + i < agree + j
        · obtain ⟨e1, e2⟩ := h7 j hj2 hwn
          omega
        · obtain ⟨e1, e2⟩ := h8 j hj2 (by omega)
          omega
      · rcases hcase with ⟨e1, e2⟩ | ⟨e1, e2⟩
        · rw [if_neg (by omega)] at hq'; omega
        · by_cases hwn : j ≤ i ∧ i < agree + j ∨ i < j ∧ S.length + i < agree + j
          · obtain ⟨e1, e2⟩ := h7 j hj2 hwn
            omega
          · obtain ⟨e1, e2⟩ := h8 j hj2 (by omega)
            omega
theorem meetN_ok {S : List (List Int)} (hS : ∀ l ∈ S, Inc l) : ∀ (f : Nat) {s : MSt} {q : Nat}, MI S s q → live S s → mu S s + 1 < f → ∃ r, meetN S f s = some r ∧ Good S r := by
  intro f
  induction f with
  | zero => intro s q _ _ h; omega
  | succ f ih =>
    intro s q h hl hm
    rw [meetN, if_pos hl]
    unfold mstep
    by_cases ha : s.agree = S.length
    · rw [if_pos ha]
      obtain ⟨h1, h2⟩ := app_ok hS h hl ha
      by_cases hl2 : live S (appS S s)
      · obtain ⟨h3, h4⟩ := h1 hl2
        exact ih h3 hl2 (by omega)
      · cases f with
        | zero => omega
        | succ f => rw [meetN, if_neg hl2]; exact ⟨_, rfl, h2 hl2⟩
    · rw [if_neg ha]
      obtain ⟨h1, h2⟩ := sk_ok hS h hl ha
      by_cases hl2 : live S (skS S s)
      · obtain ⟨q', h3, h4⟩ := h1 hl2
        exact ih h3 hl2 (by omega)
      · cases f with
        | zero => omega
        | succ f => rw [meetN, if_neg hl2]; exact ⟨_, rfl, h2 hl2⟩
/-- At the start. -/
def init (S : List (List Int)) : MSt := ⟨List.replicate S.length 0, ix (ix S 0) 0, 0, 1, 0, []⟩
theorem ix_rep0 (n j : Nat) : ix (List.replicate n 0) j = 0 := by
  unfold ix
  simp only [List.getD_eq_getElem?_getD, List.getElem?_replicate]
  split <;> rfl
theorem init_ok {S : List (List Int)} (hS : ∀ l ∈ S, Inc l) (h0 : S ≠ []) (h1 : ix S 0 ≠ []) : MI S (init S) 0 ∧ live S (init S) := by
  have hk : 0 < S.length := List.length_pos_iff.2 h0
  have hl : 0 < (ix S 0).length := List.length_pos_iff.2 h1
  unfold init
  refine ⟨⟨hk, by simp, Nat.le_refl _, hk, fun j hj => by simp only [ix_rep0]; omega, fun j hj p hp => by simp only [ix_rep0] at hp; omega, fun j hj hc => ?_, fun j hj hc => ?_, ?_, by simp, fun j hj => Nat.zero_le _, fun j hj hj2 => Nat.zero_le _⟩, by unfold live; simp only [ix_rep0]; exact hl⟩
  · simp only at hc
    have e : j = 0 := by omega
    subst e
    simp only [ix_rep0, and_true]; exact hl
  · simp only at hc; omega
  · symm
    show under S (ix (ix S 0) 0) = []
    unfold under
    rw [List.filter_eq_nil_iff]
    intro c hc
    obtain ⟨r, hr, rfl⟩ := mem_ix ((mem_common h0).1 hc _ (ix_mem hk))
    have := inc_le (hS _ (ix_mem hk)) (Nat.zero_le r) hr
    simp; omega
def fuelM (S : List (List Int)) : Nat := S.flatten.length * (S.length + 1) + S.length + 2
theorem mu_init (S : List (List Int)) : mu S (init S) + 1 < fuelM S := by
  unfold mu fuelM
  have : above S (init S).x ≤ S.flatten.length := List.countP_le_length
  have := Nat.mul_le_mul_right (S.length + 1) this
  omega
def meetF (S : List (List Int)) : List Int × Nat := if S = [] ∨ ix S 0 = [] then ([], 0) else (meetN S (fuelM S) (init S)).getD ([], 0)
theorem meetF_run {S : List (List Int)} (hS : ∀ l ∈ S, Inc l) (h0 : S ≠ []) (h1 : ix S 0 ≠ []) : meetN S (fuelM S) (init S) = some (meetF S) ∧ Good S (meetF S) := by
  obtain ⟨a, b⟩ := init_ok hS h0 h1
  obtain ⟨r, e, g⟩ := meetN_ok hS (fuelM S) a b (mu_init S)
  have : meetF S = r := by unfold meetF; rw [if_neg (by rintro (h | h); exact h0 h; exact h1 h), e]; rfl
  rw [this]; exact ⟨e, g⟩
theorem meetF_good {S : List (List Int)} (hS : ∀ l ∈ S, Inc l) (h0 : S ≠ []) : Good S (meetF S) := by
  by_cases h1 : ix S 0 = []
  · have : meetF S = ([], 0) := by unfold meetF; rw [if_pos (.inr h1)]
    rw [this]
    exact ⟨by show [] = common S; unfold common; rw [h1]; rfl, fun j _ => Nat.zero_le _⟩
  · exact (meetF_run hS h0 h1).2
end Go.Proofs.Ytpbgnnaaobamfaa

/-
  trie: tries and relations as plain values. Printed by gent.py (after trie/TD).
-/
namespace Go.Proofs.Ytpbgnnaaobamfaa
open Go.RowKit
set_option linter.unusedSimpArgs false
set_option linter.unusedVariables false

theorem map_unc {α : Type} [Enc α] (l : List α) : (encRows l).map Enc.unc = l := by unfold encRows; simp only [List.map_map, Function.comp_def, Enc.unc_cells, List.map_id']
structure Level where
  keys : List (Int)
  first : List (Int)
instance : Inhabited Level := ⟨⟨[], []⟩⟩
@[simp] theorem Level.eta (x : Level) : Level.mk x.keys x.first = x := rfl
def Level.cells (x : Level) : List AV := [.slice 1 false (encRows x.keys), .slice 1 false (encRows x.first)]
def Level.unc (c : List AV) : Level :=
  match c with
  | [.slice _ _ a0, .slice _ _ a1] => ⟨(a0.map Enc.unc), (a1.map Enc.unc)⟩
  | _ => default
theorem Level.unc_cells (x : Level) : Level.unc x.cells = x := by
  cases x
  simp only [Level.cells, Level.unc, map_unc]
instance : Enc Level where
  sz := 2
  cells := Level.cells
  enc x := .agg x.cells
  unc := Level.unc
  dec v := match v with | .agg c => Level.unc c | _ => default
  unc_cells := Level.unc_cells
  dec_enc x := Level.unc_cells x
@[simp] theorem sz_Level : Enc.sz Level = 2 := rfl
@[simp] theorem cells_Level (x : Level) : Enc.cells x = [.slice 1 false (encRows x.keys), .slice 1 false (encRows x.first)] := rfl
@[simp] theorem enc_Level (x : Level) : Enc.enc x = .agg [.slice 1 false (encRows x.keys), .slice 1 false (encRows x.first)] := rfl
@[simp] theorem unc_Level (s0 : Nat) (f0 : Bool) (a0 : List (List AV)) (s1 : Nat) (f1 : Bool) (a1 : List (List AV)) : (Enc.unc [.slice s0 f0 a0, .slice s1 f1 a1] : Level) = ⟨(Enc.dec (.slice s0 f0 a0)), (Enc.dec (.slice s1 f1 a1))⟩ := rfl
@[simp] theorem dec_Level (l : List AV) : (Enc.dec (.agg l) : Level) = Enc.unc l := rfl

structure Trie where
  levels : List (Level)
instance : Inhabited Trie := ⟨⟨[]⟩⟩
@[simp] theorem Trie.eta (x : Trie) : Trie.mk x.levels = x := rfl
def Trie.cells (x : Trie) : List AV := [.slice 2 false (encRows x.levels)]
def Trie.unc (c : List AV) : Trie :=
  match c with
  | [.slice _ _ a0] => ⟨(a0.map Enc.unc)⟩
  | _ => default
theorem Trie.unc_cells (x : Trie) : Trie.unc x.cells = x := by
  cases x
  simp only [Trie.cells, Trie.unc, map_unc]
instance : Enc Trie where
  sz := 1
  cells := Trie.cells
  enc x := .agg x.cells
  unc := Trie.unc
  dec v := match v with | .agg c => Trie.unc c | _ => default
  unc_cells := Trie.unc_cells
  dec_enc x := Trie.unc_cells x
@[simp] theorem sz_Trie : Enc.sz Trie = 1 := rfl
@[simp] theorem cells_Trie (x : Trie) : Enc.cells x = [.slice 2 false (encRows x.levels)] := rfl
@[simp] theorem enc_Trie (x : Trie) : Enc.enc x = .agg [.slice 2 false (encRows x.levels)] := rfl
@[simp] theorem unc_Trie (s0 : Nat) (f0 : Bool) (a0 : List (List AV)) : (Enc.unc [.slice s0 f0 a0] : Trie) = ⟨(Enc.dec (.slice s0 f0 a0))⟩ := rfl
@[simp] theorem dec_Trie (l : List AV) : (Enc.dec (.agg l) : Trie) = Enc.unc l := rfl

structure Rela where
  arity : Int
  rows : List (List Int)
instance : Inhabited Rela := ⟨⟨0, []⟩⟩
@[simp] theorem Rela.eta (x : Rela) : Rela.mk x.arity x.rows = x := rfl
def Rela.cells (x : Rela) : List AV := [.int .i64 x.arity, .slice 1 false (encRows x.rows)]
def Rela.unc (c : List AV) : Rela :=
  match c with
  | [.int _ a0, .slice _ _ a1] => ⟨a0, (a1.map Enc.unc)⟩
  | _ => default
theorem Rela.unc_cells (x : Rela) : Rela.unc x.cells = x := by
  cases x
  simp only [Rela.cells, Rela.unc, map_unc]
instance : Enc Rela where
  sz := 2
  cells := Rela.cells
  enc x := .agg x.cells
  unc := Rela.unc
  dec v := match v with | .agg c => Rela.unc c | _ => default
  unc_cells := Rela.unc_cells
  dec_enc x := Rela.unc_cells x
@[simp] theorem sz_Rela : Enc.sz Rela = 2 := rfl
@[simp] theorem cells_Rela (x : Rela) : Enc.cells x = [.int .i64 x.arity, .slice 1 false (encRows x.rows)] := rfl
@[simp] theorem enc_Rela (x : Rela) : Enc.enc x = .agg [.int .i64 x.arity, .slice 1 false (encRows x.rows)] := rfl
@[simp] theorem unc_Rela (k0 : IntKind) (a0 : Int) (s1 : Nat) (f1 : Bool) (a1 : List (List AV)) : (Enc.unc [.int k0 a0, .slice s1 f1 a1] : Rela) = ⟨a0, (Enc.dec (.slice s1 f1 a1))⟩ := rfl
@[simp] theorem dec_Rela (l : List AV) : (Enc.dec (.agg l) : Rela) = Enc.unc l := rfl

end Go.Proofs.Ytpbgnnaaobamfaa

/-
  layer 33: how the library's Sort at ints lies in this program (written by the kit's tool lay-plain).
-/
namespace Go.Proofs
open Go.Shelf
def Try.laysSlM5_f44_ren : Go.Shelf.Ren := ⟨fun | 5 => 44 | 8 => 59 | 7 => 58 | 19 => 75 | 20 => 76 | 10 => 67 | 11 => 68 | 12 => 69 | 13 => 70 | 14 => 71 | 15 => 72 | 16 => 60 | 17 => 73 | 18 => 74 | 30 => 79 | 31 => 80 | 32 => 81 | 33 => 82 | 34 => 83 | 35 => 77 | 40 => 84 | n => n, fun | 23 => 25 | 25 => 3 | 3 => 3 | 32 => 84 | 22 => 25 | 0 => 0 | 44 => 101 | 46 => 103 | 4 => 4 | 36 => 95 | 35 => 94 | 41 => 66 | 5 => 5 | 9 => 9 | 53 => 104 | 57 => 108 | 63 => 110 | 64 => 90 | n => n, fun | n => n⟩
theorem Try.laysSlM5_f44 : Go.Proofs.SlLaysM.n5 Try.prog Try.laysSlM5_f44_ren := {
  mixed := by kernel_rfl
  f5 := ⟨Try.f44.name, by decide, Try.func44.trans (congrArg some (by kernel_rfl))⟩
  f7 := ⟨Try.f58.name, by decide, Try.func58.trans (congrArg some (by kernel_rfl))⟩
  f8 := Try.func59.trans (congrArg some (by kernel_rfl))
  f10 := ⟨Try.f67.name, by decide, Try.func67.trans (congrArg some (by kernel_rfl))⟩
  f11 := ⟨Try.f68.name, by decide, Try.func68.trans (congrArg some (by kernel_rfl))⟩
  f12 := ⟨Try.f69.name, by decide, Try.func69.trans (congrArg some (by kernel_rfl))⟩
  f13 := ⟨Try.f70.name, by decide, Try.func70.trans (congrArg some (by kernel_rfl))⟩
  f14 := ⟨Try.f71.name, by decide, Try.func71.trans (congrArg some (by kernel_rfl))⟩
  f15 := ⟨Try.f72.name, by decide, Try.func72.trans (congrArg some (by kernel_rfl))⟩
  f16 := ⟨Try.f60.name, by decide, Try.func60.trans (congrArg some (by kernel_rfl))⟩
  f17 := ⟨Try.f73.name, by decide, Try.func73.trans (congrArg some (by kernel_rfl))⟩
  f18 := ⟨Try.f74.name, by decide, Try.func74.trans (congrArg some (by kernel_rfl))⟩
  f19 := Try.func75.trans (congrArg some (by kernel_rfl))
  f20 := Try.func76.trans (congrArg some (by kernel_rfl))
  f30 := ⟨Try.f79.name, by decide, Try.func79.trans (congrArg some (by kernel_rfl))⟩
  f31 := Try.func80.trans (congrArg some (by kernel_rfl))
  f32 := Try.func81.trans (congrArg some (by kernel_rfl))
  f33 := ⟨Try.f82.name, by decide, Try.func82.trans (congrArg some (by kernel_rfl))⟩
  f34 := ⟨Try.f83.name, by decide, Try.func83.trans (congrArg some (by kernel_rfl))⟩
  f35 := ⟨Try.f77.name, by decide, Try.func77.trans (congrArg some (by kernel_rfl))⟩
  f40 := ⟨Try.f84.name, by decide, Try.func84.trans (congrArg some (by kernel_rfl))⟩
  t0 := Try.underlying0
  a0 := Try.isAgg0
  z0 := Try.sizeOf0
  v0 := Try.zeroValue0
  t3 := Try.underlying3
  a3 := Try.isAgg3
  z3 := Try.sizeOf3
  v3 := Try.zeroValue3
  t4 := Try.underlying4
  a4 := Try.isAgg4
  z4 := Try.sizeOf4
  v4 := Try.zeroValue4
  t5 := Try.underlying5
  a5 := Try.isAgg5
  z5 := Try.sizeOf5
  v5 := Try.zeroValue5
  t9 := Try.underlying9
  a9 := Try.isAgg9
  z9 := Try.sizeOf9
  v9 := Try.zeroValue9
  t22 := Try.underlying25
  a22 := Try.isAgg25
  z22 := Try.sizeOf25
  v22 := Try.zeroValue25
  t23 := Try.underlying25
  a23 := Try.isAgg25
  z23 := Try.sizeOf25
  v23 := Try.zeroValue25
  t25 := Try.underlying3
  a25 := Try.isAgg3
  z25 := Try.sizeOf3
  v25 := Try.zeroValue3
  t32 := Try.underlying84
  a32 := Try.isAgg84
  z32 := Try.sizeOf84
  v32 := Try.zeroValue84
  t35 := Try.underlying94
  a35 := Try.isAgg94
  z35 := Try.sizeOf94
  v35 := Try.zeroValue94
  t36 := Try.underlying95
  a36 := Try.isAgg95
  z36 := Try.sizeOf95
  v36 := Try.zeroValue95
  t41 := Try.underlying66
  a41 := Try.isAgg66
  z41 := Try.sizeOf66
  v41 := Try.zeroValue66
  t44 := Try.underlying101
  a44 := Try.isAgg101
  z44 := Try.sizeOf101
  v44 := Try.zeroValue101
  t46 := Try.underlying103
  a46 := Try.isAgg103
  z46 := Try.sizeOf103
  v46 := Try.zeroValue103
  t53 := Try.underlying104
  a53 := Try.isAgg104
  z53 := Try.sizeOf104
  v53 := Try.zeroValue104
  t57 := Try.underlying108
  a57 := Try.isAgg108
  z57 := Try.sizeOf108
  v57 := Try.zeroValue108
  t63 := Try.underlying110
  a63 := Try.isAgg110
  z63 := Try.sizeOf110
  v63 := Try.zeroValue110
  t64 := Try.underlying90
  a64 := Try.isAgg90
  z64 := Try.sizeOf90
  v64 := Try.zeroValue90 }
end Go.Proofs

/-
  layer 6: Sort and Compact of the library on the call's own integers; Valid, Clone, Of.
-/
namespace Go.Proofs.Ytpbgnnaaobamfaa
open Go.RowKit
set_option linter.unusedSimpArgs false
set_option linter.unusedVariables false
set_option maxRecDepth 100000

def SmallR (l : List Int) : Prop := l.length ≤ 1000000
def bI (l : List Int) : Blk := ⟨3, 1, encRows l, true, true⟩
theorem sortIP : GenOK Try.prog G0 44 sortIG := gen_sortI Try.laysSlM5_f44 rfl
/-- Each run is one. -/
def ddF (p : Int) : List Int → List Int
  | [] => []
  | y :: r => if y = p then ddF y r else y :: ddF y r
def dd : List Int → List Int
  | [] => []
  | x :: r => x :: ddF x r
theorem ddF_snoc : ∀ (l : List Int) (p y : Int), ddF p (l ++ [y]) = ddF p l ++ (if y = l.getLastD p then [] else [y])
  | [], p, y => by
    show ddF p [y] = _
    rw [ddF]
    show (if y = p then [] else [y]) = [] ++ (if y = p then [] else [y])
    by_cases h : y = p
    · rw [if_pos h]; rfl
    · rw [if_neg h]; rfl
  | z :: r, p, y => by
    have ih := ddF_snoc r z y
    rw [List.cons_append, ddF, ddF, ih]
    have e : (z :: r).getLastD p = r.getLastD z := by cases r <;> rfl
    rw [e]
    split <;> rfl
theorem getLast_D : ∀ (r : List Int) (x : Int) (h : x :: r ≠ []), (x :: r).getLast h = r.getLastD x
  | [], _, _ => rfl
  | y :: q, x, h => by
    rw [List.getLast_cons (by simp), getLast_D q y]
    cases q <;> rfl
theorem dd_snoc {l : List Int} (h : l ≠ []) (y : Int) : dd (l ++ [y]) = dd l ++ (if y = l.getLast h then [] else [y]) := by
  cases l with
  | nil => exact absurd rfl h
  | cons x r =>
    rw [List.cons_append, dd, dd, ddF_snoc, List.cons_append]
    rw [getLast_D]
theorem dd_take {xs : List Int} {p : Nat} (h1 : 1 ≤ p) (h2 : p < xs.length) : dd (xs.take (p + 1)) = dd (xs.take p) ++ (if ix xs p = ix xs (p - 1) then [] else [ix xs p]) := by
  have hne : xs.take p ≠ [] := by
    intro h
    have : (xs.take p).length = 0 := by rw [h]; rfl
    rw [List.length_take] at this
    omega
  have hl : (xs.take p).getLast hne = ix xs (p - 1) := by
    have e : (xs.take p).length - 1 = p - 1 := by rw [List.length_take, Nat.min_eq_left (by omega)]
    rw [List.getLast_eq_getElem, List.getElem_take, ← ix_lt (show (xs.take p).length - 1 < xs.length by rw [e]; omega), e]
  rw [List.take_succ_eq_append_getElem h2, dd_snoc hne, hl, ix_lt h2]
theorem dd_le (xs : List Int) : (dd xs).length ≤ xs.length := by
  have h : ∀ (l : List Int) (p : Int), (ddF p l).length ≤ l.length := by
    intro l
    induction l with
    | nil => intro p; exact Nat.le_refl _
    | cons y r ih => intro p; rw [ddF]; have := ih y; split <;> simp <;> omega
  cases xs with
  | nil => exact Nat.le_refl _
  | cons x r => have := h r x; simp [dd]; omega
theorem ddF_full : ∀ (l : List Int) (p : Int), (ddF p l).length = l.length → ddF p l = l
  | [], _, _ => rfl
  | y :: r, p, h => by
    rw [ddF] at h ⊢
    split
    · rename_i e
      rw [if_pos e] at h
      have h2 := dd_le (y :: r)
      simp only [dd, List.length_cons] at h h2
      omega
    · rename_i e
      rw [if_neg e] at h
      rw [ddF_full r y (by simpa using h)]
theorem dd_full : ∀ {l : List Int}, (dd l).length = l.length → dd l = l
  | [], _ => rfl
  | x :: r, h => by
    rw [dd] at h ⊢
    rw [ddF_full r x (by simpa using h)]
theorem ddF_mem : ∀ (l : List Int) (p z : Int), z ∈ l → z ∈ ddF p l ∨ z = p
  | y :: r, p, z, h => by
    rw [ddF]
    rcases List.mem_cons.1 h with rfl | h
    · split
      · rename_i e; exact .inr e
      · exact .inl List.mem_cons_self
    · rcases ddF_mem r y z h with h1 | h1
      · split
        · exact .inl h1
        · exact .inl (List.mem_cons_of_mem _ h1)
      · split
        · rename_i e; exact .inr (h1.trans e)
        · exact .inl (by rw [h1]; exact List.mem_cons_self)
theorem mem_ddF : ∀ (l : List Int) (p z : Int), z ∈ ddF p l → z ∈ l
  | y :: r, p, z, h => by
    rw [ddF] at h
    split at h
    · exact List.mem_cons_of_mem _ (mem_ddF r y z h)
    · rcases List.mem_cons.1 h with rfl | h
      · exact List.mem_cons_self
      · exact List.mem_cons_of_mem _ (mem_ddF r y z h)
theorem dd_mem {l : List Int} {z : Int} : z ∈ dd l ↔ z ∈ l := by
  cases l with
  | nil => exact Iff.rfl
  | cons x r =>
    rw [dd]
    constructor
    · intro h
      rcases List.mem_cons.1 h with rfl | h
      · exact List.mem_cons_self
      · exact List.mem_cons_of_mem _ (mem_ddF r x z h)
    · intro h
      rcases List.mem_cons.1 h with rfl | h
      · exact List.mem_cons_self
      · rcases ddF_mem r x z h with h | h
        · exact List.mem_cons_of_mem _ h
        · rw [h]; exact List.mem_cons_self
theorem ddF_inc : ∀ (l : List Int) (p : Int), (p :: l).Pairwise (· ≤ ·) → (ddF p l).Pairwise (· < ·) ∧ ∀ z ∈ ddF p l, p < z
  | [], p, _ => ⟨.nil, fun z hz => by cases hz⟩
  | y :: r, p, h => by
    obtain ⟨h1, h2⟩ := List.pairwise_cons.1 h
    obtain ⟨i1, i2⟩ := ddF_inc r y h2
    have hpy := h1 y List.mem_cons_self
    rw [ddF]
    split
    · rename_i e
      subst e
      exact ⟨i1, i2⟩
    · rename_i e
      refine ⟨List.pairwise_cons.2 ⟨i2, i1⟩, fun z hz => ?_⟩
      rcases List.mem_cons.1 hz with rfl | hz
      · omega
      · have := i2 z hz; omega
theorem dd_inc {l : List Int} (h : l.Pairwise (· ≤ ·)) : (dd l).Pairwise (· < ·) := by
  cases l with
  | nil => exact .nil
  | cons x r =>
    obtain ⟨i1, i2⟩ := ddF_inc r x h
    exact List.pairwise_cons.2 ⟨i2, i1⟩
theorem sortI_inc (l : List Int) : (sortI l).Pairwise (· ≤ ·) := by
  refine List.Pairwise.imp ?_ (List.pairwise_mergeSort (le := fun x y : Int => decide (x ≤ y)) ?_ ?_ l)
  · intro a b h; simpa using h
  · intro a b c h1 h2; simp only [decide_eq_true_eq] at h1 h2 ⊢; omega
  · intro a b; simp; omega
theorem dd_sort (l : List Int) : dd (sortI l) = of l :=
  sorted_ext (dd_inc (sortI_inc l)) (of_sorted l) fun z => by rw [dd_mem, mem_of]; unfold sortI; rw [List.mem_mergeSort]
theorem set_same {α : Type} {l : List α} {i : Nat} {x : α} (h : l[i]? = some x) : l.set i x = l := by
  refine List.ext_getElem? fun j => ?_
  by_cases e : i = j
  · subst e
    obtain ⟨hi, rfl⟩ := List.getElem?_eq_some_iff.1 h
    simp [hi]
  · simp [e]
def zI : List AV := [.int .i64 0]
def rB (e : TypeId) (rows : List (List AV)) : Blk := ⟨e, 1, rows, true, true⟩
def CompPre (b : Blk) (n : Nat) (xs : List Int) : Prop := b = rB 3 (encRows xs) ∧ xs.length = n ∧ SmallR xs
def sCompact : List AV → List Blk → Option (Prop × AV × List Blk) := fun args H => match args with
  | [.own l n] => (match H[l]? with
    | some b => some (CompPre b n (decI b.rows), if (dd (decI b.rows)).length = n then .own l n else .osl l n 1 0 (dd (decI b.rows)).length, if (dd (decI b.rows)).length = n then H else H.set l (rB 3 (encRows (dd (decI b.rows)) ++ List.replicate (n - (dd (decI b.rows)).length) zI)))
    | none => none)
  | _ => none
theorem sCompact_inv {args : List AV} {H : List Blk} {ob : Prop} {r : AV} {H' : List Blk} (h : sCompact args H = some (ob, r, H')) (hob : ob) : ∃ l n xs, args = [.own l n] ∧ H[l]? = some (rB 3 (encRows xs)) ∧ xs.length = n ∧ SmallR xs ∧ (r = if (dd xs).length = n then .own l n else .osl l n 1 0 (dd xs).length) ∧ H' = if (dd xs).length = n then H else H.set l (rB 3 (encRows (dd xs) ++ List.replicate (n - (dd xs).length) zI)) := by
  unfold sCompact at h
  split at h
  · rename_i l n
    split at h
    · rename_i b hb
      simp only [Option.some.injEq, Prod.mk.injEq] at h
      obtain ⟨h1, h2, h3⟩ := h
      rw [← h1] at hob
      obtain ⟨p1, p2, p3⟩ := hob
      refine ⟨l, n, decI b.rows, rfl, ?_, p2, p3, h2.symm, h3.symm⟩
      rw [hb, ← p1]
    · cases h
  · cases h
set_option maxHeartbeats 16000000 in
theorem compactP : GenOK Try.prog G0 45 sCompact := by
  refine gen_of_avc (C := CE) sigCE mixCE Try.func45 rfl (by kernel_rfl) (fun avs H ob r H' h hob => ?_)
  obtain ⟨l, n, xs, rfl, hb, hxl, hS, hr, hH⟩ := sCompact_inv h hob
  clear h hob ob
  refine ⟨(by show 1 ≤ _; decide), ?_⟩
  have hl : l < H.length := (List.getElem?_eq_some_iff.1 hb).1
  have hn : n ≤ 1000000 := by rw [← hxl]; exact hS
  have hsame := set_same hb
  by_cases h2 : n < 2
  · have hd : (dd xs).length = n := by
      cases xs with
      | nil => exact hxl
      | cons x r => cases r with
        | nil => exact hxl
        | cons y q => simp at hxl; omega
    rw [if_pos hd] at hr hH
    subst hr hH
    have h2' : (n : Int) < 2 := by omega
    simp [aev, cav, look, acallPure, abin, abinN, abinP, abinI, abinS, aun, aconv, afield, afieldAddr, aindexAddr, aindex, aslice, alow, ahigh, abuild, abuildGo, cellsOf, splice, fieldTy, alen, apick, amax, amin, aload, headV, aparts, abuildSlice, elParts, abytesStr, astore, amake, aappend, aclear, anew, arith, aresults, aresList, ares, spec0, spec1, spec2, spec3, spec4, eqCells, eqCell, argsρ, h2, h2']
    exact ⟨True, trivial⟩
  have h2' : ¬ (n : Int) < 2 := by omega
  have hb' : H[l]? = some ⟨3, 1, encRows xs, true, true⟩ := hb
  simp [aev, cav, look, acallPure, abin, abinN, abinP, abinI, abinS, aun, aconv, afield, afieldAddr, aindexAddr, aindex, aslice, alow, ahigh, abuild, abuildGo, cellsOf, splice, fieldTy, alen, apick, amax, amin, aload, headV, aparts, abuildSlice, elParts, abytesStr, astore, amake, aappend, aclear, anew, arith, aresults, aresList, ares, spec0, spec1, spec2, spec3, spec4, eqCells, eqCell, argsρ, h2, h2']
  refine loop_rule (C := CE) sigCE mixCE (fun k : Nat => ⟨[(0, .own l n), (3, .int .i64 k)], H⟩) (fun k => 1 ≤ k ∧ k ≤ n ∧ dd (xs.take k) = xs.take k) (fun k => n - k) (by kernel_rfl) ⟨1, ⟨Nat.le_refl _, by omega, by cases xs with | nil => rfl | cons x r => rfl⟩, weak_slots (by simp)⟩ (fun k ⟨k1, k2, k3⟩ => ?_)
  by_cases hk : k < n
  · have hkx : k < xs.length := by omega
    have hpx : k - 1 < xs.length := by omega
    have i1 : I64 ((k : Int) + 1) := by unfold I64; omega
    have i2 : I64 ((k : Int) - 1) := by unfold I64; omega
    have j1 : ((k : Int) - 1).toNat = k - 1 := by omega
    have j2 : (0 : Int) ≤ (k : Int) - 1 := by omega
    have j3 : (k : Int) - 1 < n := by omega
    have j4 : k - 1 < n := by omega
    have dt := dd_take k1 hkx
    rcases em2 (ix xs k = ix xs (k - 1)) with e | e
    · rw [if_pos (of_eq_true e), List.append_nil, k3] at dt
      simp [aev, cav, look, acallPure, abin, abinN, abinP, abinI, abinS, aun, aconv, afield, afieldAddr, aindexAddr, aindex, aslice, alow, ahigh, abuild, abuildGo, cellsOf, splice, fieldTy, alen, apick, amax, amin, aload, headV, aparts, abuildSlice, elParts, abytesStr, astore, amake, aappend, aclear, anew, arith, aresults, aresList, ares, spec0, spec1, spec2, spec3, spec4, eqCells, eqCell, hb', hxl, hk, hkx, hpx, rowAt_enc hkx, rowAt_enc hpx, i1, i2, j1, j2, j3, j4, e]
      refine ⟨by omega, by omega, ?_⟩
      refine loop_rule (C := CE) sigCE mixCE (fun x : Nat × Nat × List Int => ⟨[(0, .own l n), (3, .int .i64 x.2.1), (4, .osl l n 1 k (n - k)), (5, .int .i64 x.1)], H.set l (rB 3 (encRows x.2.2))⟩) (fun x => 1 ≤ x.1 ∧ k + x.1 ≤ n ∧ x.2.1 + 1 ≤ k + x.1 ∧ x.2.2.length = n ∧ x.2.2.take x.2.1 = dd (xs.take (k + x.1)) ∧ (dd (xs.take (k + x.1))).length = x.2.1 ∧ ∀ i, k + x.1 - 1 ≤ i → i < n → ix x.2.2 i = ix xs i) (fun x => n - k - x.1) (by kernel_rfl) ⟨(1, k, xs), ⟨Nat.le_refl _, by omega, Nat.le_refl _, hxl, by rw [dt], by rw [dt, List.length_take]; show min k xs.length = k; omega, fun i _ _ => rfl⟩, weak_eq (by simp) hsame.symm⟩ (fun ⟨q, w, R⟩ ⟨q1, q2, q3, q4, q5, q6, q7⟩ => ?_)
      simp only at q1 q2 q3 q4 q5 q6 q7 ⊢
      by_cases hq : k + q < n
      · have hqn : q < n - k := by omega
        have hqx : k + q < R.length := by omega
        have hqp : k + (q - 1) < R.length := by omega
        have hqxs : k + q < xs.length := by omega
        have a1 : I64 ((q : Int) + 1) := by unfold I64; omega
        have a2 : I64 ((q : Int) - 1) := by unfold I64; omega
        have a3 : I64 ((w : Int) + 1) := by unfold I64; omega
        have b1 : ((q : Int) - 1).toNat = q - 1 := by omega
        have b2 : (0 : Int) ≤ (q : Int) - 1 := by omega
        have b3 : (q : Int) - 1 < ((n - k : Nat) : Int) := by omega
        have b4 : (q : Int) < ((n - k : Nat) : Int) := by omega
        have b5 : w < n := by omega
        have hwR : w < R.length := by omega
        have r1 : ix R (k + q) = ix xs (k + q) := q7 _ (by omega) hq
        have r2 : ix R (k + (q - 1)) = ix xs (k + q - 1) := by rw [q7 _ (by omega) (by omega)]; congr 1; omega
        have dt2 := dd_take (xs := xs) (p := k + q) (by omega) hqxs
        rcases em2 (ix xs (k + q) = ix xs (k + q - 1)) with e2 | e2
        · rw [if_pos (of_eq_true e2), List.append_nil] at dt2
          simp [aev, cav, look, acallPure, abin, abinN, abinP, abinI, abinS, aun, aconv, afield, afieldAddr, aindexAddr, aindex, aslice, alow, ahigh, abuild, abuildGo, cellsOf, splice, fieldTy, alen, apick, amax, amin, aload, headV, aparts, abuildSlice, elParts, abytesStr, astore, amake, aappend, aclear, anew, arith, aresults, aresList, ares, spec0, spec1, spec2, spec3, spec4, eqCells, eqCell, rB, hl, hqn, hqx, hqp, rowAt_enc hqx, rowAt_enc hqp, a1, a2, b1, b2, b3, b4, r1, r2, e2, q4]
          refine ⟨hq, by omega, by omega, q + 1, w, R, ⟨by omega, by omega, by omega, q4, ?_, ?_, fun i h1 h2 => q7 i (by omega) h2⟩, by omega, weak_eq (by simp) (by first | rfl | simp [rB])⟩
          · rw [q5, ← dt2]; rfl
          · rw [show k + (q + 1) = k + q + 1 by omega, dt2]; exact q6
        · rw [if_neg (of_eq_false e2)] at dt2
          simp [aev, cav, look, acallPure, abin, abinN, abinP, abinI, abinS, aun, aconv, afield, afieldAddr, aindexAddr, aindex, aslice, alow, ahigh, abuild, abuildGo, cellsOf, splice, fieldTy, alen, apick, amax, amin, aload, headV, aparts, abuildSlice, elParts, abytesStr, astore, amake, aappend, aclear, anew, arith, aresults, aresList, ares, spec0, spec1, spec2, spec3, spec4, eqCells, eqCell, rB, hl, hqn, hqx, hqp, rowAt_enc hqx, rowAt_enc hqp, hwR, rowAt_enc hwR, a1, a2, a3, b1, b2, b3, b4, b5, r1, r2, e2, q4]
          refine ⟨hq, by omega, by omega, hq, q + 1, w + 1, R.set w (ix xs (k + q)), ⟨by omega, by omega, by omega, by rw [List.length_set]; exact q4, ?_, ?_, fun i h1 h2 => ?_⟩, by omega, weak_eq (by simp) (by first | rfl | (rw [← encRows_set]; rfl))⟩
          · rw [show k + (q + 1) = k + q + 1 by omega, dt2, ← q5]
            rw [List.take_succ_eq_append_getElem (by rw [List.length_set]; omega), List.take_set_of_le (Nat.le_refl w), List.getElem_set_self]
          · rw [show k + (q + 1) = k + q + 1 by omega, dt2, List.length_append, q6]; rfl
          · rw [← q7 i (by omega) h2]
            unfold ix
            simp only [List.getD_eq_getElem?_getD]
            rw [List.getElem?_set_ne (by omega)]
      · have hqe : k + q = n := by omega
        have hdd : dd (xs.take (k + q)) = dd xs := by rw [List.take_of_length_le (by omega)]
        rw [hdd] at q5 q6
        rw [if_neg (by omega), q6] at hr
        rw [if_neg (by omega), q6] at hH
        subst hr hH
        have b4 : ¬ (q : Int) < ((n - k : Nat) : Int) := by omega
        have b5 : w ≤ n := by omega
        have hnq : q = n - k := by omega
        simp [aev, cav, look, acallPure, abin, abinN, abinP, abinI, abinS, aun, aconv, afield, afieldAddr, aindexAddr, aindex, aslice, alow, ahigh, abuild, abuildGo, cellsOf, splice, fieldTy, alen, apick, amax, amin, aload, headV, aparts, abuildSlice, elParts, abytesStr, astore, amake, aappend, aclear, anew, arith, aresults, aresList, ares, spec0, spec1, spec2, spec3, spec4, eqCells, eqCell, rB, hl, b4, q4, b5, q5]
        refine ⟨⟨True, trivial⟩, ?_⟩
        rw [List.drop_of_length_le (by omega)]
        simp [zI]
    · rw [if_neg (of_eq_false e), k3] at dt
      simp [aev, cav, look, acallPure, abin, abinN, abinP, abinI, abinS, aun, aconv, afield, afieldAddr, aindexAddr, aindex, aslice, alow, ahigh, abuild, abuildGo, cellsOf, splice, fieldTy, alen, apick, amax, amin, aload, headV, aparts, abuildSlice, elParts, abytesStr, astore, amake, aappend, aclear, anew, arith, aresults, aresList, ares, spec0, spec1, spec2, spec3, spec4, eqCells, eqCell, hb', hxl, hk, hkx, hpx, rowAt_enc hkx, rowAt_enc hpx, i1, i2, j1, j2, j3, j4, e]
      refine ⟨by omega, k + 1, ⟨by omega, by omega, ?_⟩, by omega, weak_slots (by simp)⟩
      rw [dt, List.take_succ_eq_append_getElem hkx, ix_lt hkx]
  · have hkn : k = n := by omega
    subst hkn
    have hd : (dd xs).length = k := by rw [List.take_of_length_le (by omega)] at k3; rw [k3, hxl]
    rw [if_pos hd] at hr hH
    subst hr hH
    simp [aev, cav, look, acallPure, abin, abinN, abinP, abinI, abinS, aun, aconv, afield, afieldAddr, aindexAddr, aindex, aslice, alow, ahigh, abuild, abuildGo, cellsOf, splice, fieldTy, alen, apick, amax, amin, aload, headV, aparts, abuildSlice, elParts, abytesStr, astore, amake, aappend, aclear, anew, arith, aresults, aresList, ares, spec0, spec1, spec2, spec3, spec4, eqCells, eqCell]
    exact ⟨True, trivial⟩
end Go.Proofs.Ytpbgnnaaobamfaa

/-
  layer 6: Valid, Clone, Of; the reference's With and Of; the statement's has, Ints, brief.
-/
namespace Go.Proofs.Ytpbgnnaaobamfaa
open Go.RowKit
set_option linter.unusedSimpArgs false
set_option linter.unusedVariables false
set_option maxRecDepth 100000

@[simp] theorem app_int (l : List Int) (x : Int) : encRows l ++ [[.int .i64 x]] = encRows (l ++ [x]) := (encRows_append l [x]).symm
def sValid : List AV → Option (Prop × AV) := spec1 (fun (l : List Int) => SmallR l) (fun l => .bool (valid l))
set_option maxHeartbeats 8000000 in
theorem validP : PureOK Try.prog G0 38 sValid := by
  refine pure1 (C := CE) sigCE mixCE Try.func38 rfl rfl rfl (by kernel_rfl) (by decide) (fun l hl => ?_)
  unfold SmallR at hl
  simp [aev, cav, look, acallPure, abin, abinN, abinP, abinI, abinS, aun, aconv, afield, afieldAddr, aindexAddr, aindex, aslice, alow, ahigh, abuild, abuildGo, cellsOf, splice, fieldTy, alen, apick, amax, amin, aload, headV, aparts, abuildSlice, elParts, abytesStr, astore, amake, aappend, aclear, anew, arith, aresults, aresList, ares, spec0, spec1, spec2, spec3, spec4, eqCells, eqCell]
  refine loop_rule (C := CE) sigCE mixCE (fun i : Nat => ⟨[(0, Enc.enc l), (3, .int .i64 ((i : Int) + 1))], []⟩) (fun i => (i = 0 ∨ i < l.length) ∧ ∀ j (h : j + 1 < l.length), j < i → l[j] < l[j + 1]) (fun i => l.length - i) (by kernel_rfl) ⟨0, ⟨.inl rfl, fun j hj hk => by omega⟩, weak_slots (by simp)⟩ (fun i ⟨h0, h1⟩ => ?_)
  by_cases hi : i + 1 < l.length
  · have hi0 : i < l.length := by omega
    have i1 : I64 ((i : Int) + 1 + 1) := by unfold I64; omega
    have i2 : I64 ((i : Int)) := by unfold I64; omega
    have c1 : (i : Int) + 1 < l.length := by omega
    have c2 : ((i : Int) + 1 - 1) = i := by omega
    have c3 : ((i : Int) + 1).toNat = i + 1 := by omega
    have c4 : (0 : Int) ≤ (i : Int) + 1 := by omega
    by_cases hle : ix l (i + 1) ≤ ix l i
    · have hv : valid l = false := valid_false hi (by rwa [ix_lt hi, ix_lt hi0] at hle)
      simp [aev, cav, look, acallPure, abin, abinN, abinP, abinI, abinS, aun, aconv, afield, afieldAddr, aindexAddr, aindex, aslice, alow, ahigh, abuild, abuildGo, cellsOf, splice, fieldTy, alen, apick, amax, amin, aload, headV, aparts, abuildSlice, elParts, abytesStr, astore, amake, aappend, aclear, anew, arith, aresults, aresList, ares, spec0, spec1, spec2, spec3, spec4, eqCells, eqCell, hi, hi0, c1, c2, c3, c4, i1, i2, rowAt_enc hi, rowAt_enc hi0, hle, hv]
    · simp [aev, cav, look, acallPure, abin, abinN, abinP, abinI, abinS, aun, aconv, afield, afieldAddr, aindexAddr, aindex, aslice, alow, ahigh, abuild, abuildGo, cellsOf, splice, fieldTy, alen, apick, amax, amin, aload, headV, aparts, abuildSlice, elParts, abytesStr, astore, amake, aappend, aclear, anew, arith, aresults, aresList, ares, spec0, spec1, spec2, spec3, spec4, eqCells, eqCell, hi, hi0, c1, c2, c3, c4, i1, i2, rowAt_enc hi, rowAt_enc hi0, hle]
      exact ⟨i + 1, ⟨.inr hi, fun j hj hji => by
        rcases Nat.lt_or_eq_of_le (Nat.le_of_lt_succ hji) with h | rfl
        · exact h1 j hj h
        · rw [ix_lt hi, ix_lt hi0] at hle; omega⟩, by omega, weak_slots (by simp)⟩
  · have hv : valid l = true := valid_true fun j hj => h1 j hj (by omega)
    have c1 : ¬ (i : Int) + 1 < l.length := by omega
    simp [aev, cav, look, acallPure, abin, abinN, abinP, abinI, abinS, aun, aconv, afield, afieldAddr, aindexAddr, aindex, aslice, alow, ahigh, abuild, abuildGo, cellsOf, splice, fieldTy, alen, apick, amax, amin, aload, headV, aparts, abuildSlice, elParts, abytesStr, astore, amake, aappend, aclear, anew, arith, aresults, aresList, ares, spec0, spec1, spec2, spec3, spec4, eqCells, eqCell, c1, hv]

noncomputable def sClone : List AV → List Blk → Option (Prop × AV × List Blk) := genNew (nspec1 (fun (l : List Int) => l.length ≤ 1000000) (fun l => .own 0 l.length) fun l => [bI l])
set_option maxHeartbeats 8000000 in
theorem cloneP : GenOK Try.prog G0 43 sClone := by
  refine new1 (C := CE) sigCE mixCE Try.func43 rfl rfl rfl (by kernel_rfl) (by decide) (fun l => [0]) (by simp) (fun l => ⟨by simp [okR, ok2, AV.clean1], by simp [bI]⟩) (fun l hl => ?_)
  by_cases h : l = []
  · simp [aev, cav, look, acallPure, abin, abinN, abinP, abinI, abinS, aun, aconv, afield, afieldAddr, aindexAddr, aindex, aslice, alow, ahigh, abuild, abuildGo, cellsOf, splice, fieldTy, alen, apick, amax, amin, aload, headV, aparts, abuildSlice, elParts, abytesStr, astore, amake, aappend, aclear, anew, arith, aresults, aresList, ares, spec0, spec1, spec2, spec3, spec4, eqCells, eqCell, h]
    exact ⟨wEnd_nil 2 1 3 rfl (by decide) (by simp [aev, cav, look, acallPure, abin, abinN, abinP, abinI, abinS, aun, aconv, afield, afieldAddr, aindexAddr, aindex, aslice, alow, ahigh, abuild, abuildGo, cellsOf, splice, fieldTy, alen, apick, amax, amin, aload, headV, aparts, abuildSlice, elParts, abytesStr, astore, amake, aappend, aclear, anew, arith, aresults, aresList, ares, spec0, spec1, spec2, spec3, spec4, eqCells, eqCell, h, bI]), wEnd_here (by simp [aev, cav, look, acallPure, abin, abinN, abinP, abinI, abinS, aun, aconv, afield, afieldAddr, aindexAddr, aindex, aslice, alow, ahigh, abuild, abuildGo, cellsOf, splice, fieldTy, alen, apick, amax, amin, aload, headV, aparts, abuildSlice, elParts, abytesStr, astore, amake, aappend, aclear, anew, arith, aresults, aresList, ares, spec0, spec1, spec2, spec3, spec4, eqCells, eqCell, h, bI])⟩
  · simp [aev, cav, look, acallPure, abin, abinN, abinP, abinI, abinS, aun, aconv, afield, afieldAddr, aindexAddr, aindex, aslice, alow, ahigh, abuild, abuildGo, cellsOf, splice, fieldTy, alen, apick, amax, amin, aload, headV, aparts, abuildSlice, elParts, abytesStr, astore, amake, aappend, aclear, anew, arith, aresults, aresList, ares, spec0, spec1, spec2, spec3, spec4, eqCells, eqCell, h]
    exact ⟨(by first | omega | (unfold I64; omega)), wEnd_here (by simp [aev, cav, look, acallPure, abin, abinN, abinP, abinI, abinS, aun, aconv, afield, afieldAddr, aindexAddr, aindex, aslice, alow, ahigh, abuild, abuildGo, cellsOf, splice, fieldTy, alen, apick, amax, amin, aload, headV, aparts, abuildSlice, elParts, abytesStr, astore, amake, aappend, aclear, anew, arith, aresults, aresList, ares, spec0, spec1, spec2, spec3, spec4, eqCells, eqCell, h, bI])⟩

noncomputable def COf : Ctx := mkC Try.prog G0 [(43, .gen sClone), (38, .pure sValid), (44, .gen sortIG), (45, .gen sCompact)]
@[simp] theorem COf_P : COf.P = Try.prog := rfl
@[simp] theorem COf_1 : COf.S 43 = .gen sClone := rfl
@[simp] theorem COf_2 : COf.S 38 = .pure sValid := rfl
@[simp] theorem COf_3 : COf.S 44 = .gen sortIG := rfl
@[simp] theorem COf_4 : COf.S 45 = .gen sCompact := rfl
theorem mixCOf : COf.P.follows .mixedOrders = true := mixed
theorem sigCOf : SigOK COf := sigOK_cons (entryGen cloneP Try.func43 rfl (by decide)) (sigOK_cons (entryPure validP Try.func38 rfl (by decide)) (sigOK_cons (entryGen sortIP Try.func44 rfl (by decide)) (sigOK_cons (entryGen compactP Try.func45 rfl (by decide)) (sigOK_nil _ _))))
theorem of_valid' {l : List Int} (h : valid l = true) : of l = l := of_valid h
def sOf : List AV → Option (Prop × AV) := spec1 (fun (l : List Int) => SmallR l) (fun l => Enc.enc (of l))
set_option maxHeartbeats 16000000 in
theorem ofP : PureOK Try.prog G0 28 sOf := by
  refine pure1 (C := COf) sigCOf mixCOf Try.func28 rfl rfl rfl (by kernel_rfl) (by decide) (fun l hl => ?_)
  have hl' : l.length ≤ 1000000 := hl
  by_cases hv : valid l = true
  · have e := of_valid hv
    simp [aev, cav, look, acallPure, abin, abinN, abinP, abinI, abinS, aun, aconv, afield, afieldAddr, aindexAddr, aindex, aslice, alow, ahigh, abuild, abuildGo, cellsOf, splice, fieldTy, alen, apick, amax, amin, aload, headV, aparts, abuildSlice, elParts, abytesStr, astore, amake, aappend, aclear, anew, arith, aresults, aresList, ares, spec0, spec1, spec2, spec3, spec4, eqCells, eqCell, sClone, sValid, hl, hl', hv, e, bI]
  · have hv : valid l = false := by simpa using hv
    simp [aev, cav, look, acallPure, abin, abinN, abinP, abinI, abinS, aun, aconv, afield, afieldAddr, aindexAddr, aindex, aslice, alow, ahigh, abuild, abuildGo, cellsOf, splice, fieldTy, alen, apick, amax, amin, aload, headV, aparts, abuildSlice, elParts, abytesStr, astore, amake, aappend, aclear, anew, arith, aresults, aresList, ares, spec0, spec1, spec2, spec3, spec4, eqCells, eqCell, sClone, sValid, sortIG, sCompact, hl, hl', hv, bI, rB]
    have hs : (sortI l).length = l.length := by unfold sortI; exact List.length_mergeSort _
    refine ⟨by omega, ⟨rfl, hs, by unfold SmallR; omega⟩, ?_⟩
    have hd := dd_sort l
    by_cases hc : (dd (sortI l)).length = l.length
    · have e : of l = sortI l := by rw [← hd]; exact dd_full (by omega)
      rw [if_pos hc, if_pos hc]
      simp [aev, cav, look, acallPure, abin, abinN, abinP, abinI, abinS, aun, aconv, afield, afieldAddr, aindexAddr, aindex, aslice, alow, ahigh, abuild, abuildGo, cellsOf, splice, fieldTy, alen, apick, amax, amin, aload, headV, aparts, abuildSlice, elParts, abytesStr, astore, amake, aappend, aclear, anew, arith, aresults, aresList, ares, spec0, spec1, spec2, spec3, spec4, eqCells, eqCell, e, hs]
    · rw [if_neg hc, if_neg hc]
      have g := dd_le (sortI l)
      rw [hd] at g
      have g2 : (of l).length + (l.length - (of l).length) = l.length := by omega
      simp [aev, cav, look, acallPure, abin, abinN, abinP, abinI, abinS, aun, aconv, afield, afieldAddr, aindexAddr, aindex, aslice, alow, ahigh, abuild, abuildGo, cellsOf, splice, fieldTy, alen, apick, amax, amin, aload, headV, aparts, abuildSlice, elParts, abytesStr, astore, amake, aappend, aclear, anew, arith, aresults, aresList, ares, spec0, spec1, spec2, spec3, spec4, eqCells, eqCell, hd, hs, g2]

def sWith : List AV → Option (Prop × AV) := spec2 (fun (l : List Int) (_ : Int) => l.length ≤ 900000) (fun l x => Enc.enc (ins x l false))
set_option maxHeartbeats 16000000 in
theorem withP : PureOK Try.prog G0 31 sWith := by
  refine pure2 (C := CE) sigCE mixCE Try.func31 rfl rfl rfl (by kernel_rfl) (by decide) (fun l x hl => ?_)
  simp [aev, cav, look, acallPure, abin, abinN, abinP, abinI, abinS, aun, aconv, afield, afieldAddr, aindexAddr, aindex, aslice, alow, ahigh, abuild, abuildGo, cellsOf, splice, fieldTy, alen, apick, amax, amin, aload, headV, aparts, abuildSlice, elParts, abytesStr, astore, amake, aappend, aclear, anew, arith, aresults, aresList, ares, spec0, spec1, spec2, spec3, spec4, eqCells, eqCell]
  refine loop_rule (C := CE) sigCE mixCE (fun q : Nat × List Int × Bool => ⟨[(0, Enc.enc l), (1, .int .i64 x), (5, .own 0 q.2.1.length), (6, .bool q.2.2), (7, .int .i64 q.1)], [bI q.2.1]⟩) (fun q => q.1 ≤ l.length ∧ q.2.1.length ≤ q.1 + q.2.2.toNat ∧ q.2.1 ++ ins x (l.drop q.1) q.2.2 = ins x l false) (fun q => l.length - q.1) (by kernel_rfl) ⟨(0, [], false), ⟨Nat.zero_le _, Nat.zero_le _, rfl⟩, (weak_nil 5 1 3 rfl (by decide)).trans (weak_eq (by simp) (by simp [bI]))⟩ (fun ⟨k, out, d⟩ ⟨h1, h2, h3⟩ => ?_)
  simp only at h1 h2 h3 ⊢
  have hd1 := Bool.toNat_le d
  by_cases hk : k < l.length
  · have i1 : I64 ((k : Int) + 1) := by unfold I64; omega
    have hk2 := hk
    rw [List.drop_eq_getElem_cons hk, ← ix_lt hk, ins] at h3
    rcases em2 (ix l k = x) with e | e
    · have e' := of_eq_true e
      have c1 : ¬ (x < ix l k ∧ (d || ix l k == x) = false) := by rintro ⟨h, _⟩; omega
      have c2 : (d || ix l k == x) = true := by simp [e']
      rw [if_neg c1, c2, ins_true] at h3
      have c3 : ¬ x < ix l k := by omega
      simp [-Bool.exists_bool, aev, cav, look, acallPure, abin, abinN, abinP, abinI, abinS, aun, aconv, afield, afieldAddr, aindexAddr, aindex, aslice, alow, ahigh, abuild, abuildGo, cellsOf, splice, fieldTy, alen, apick, amax, amin, aload, headV, aparts, abuildSlice, elParts, abytesStr, astore, amake, aappend, aclear, anew, arith, aresults, aresList, ares, spec0, spec1, spec2, spec3, spec4, eqCells, eqCell, bI, hk, rowAt_enc hk, e, c3, i1]
      refine ⟨(by first | omega | (unfold I64; omega)), k + 1, out ++ [ix l k], true, ⟨by omega, by simp; omega, ?_⟩, by omega, weak_eq (by simp [e']) (by simp [bI, e'])⟩
      rw [ins_true, List.append_assoc]; exact h3
    · have e' := of_eq_false e
      have c2 : (d || ix l k == x) = d := by simp [e']
      rw [c2] at h3
      by_cases c3 : x < ix l k
      · cases d
        · rw [if_pos ⟨c3, rfl⟩] at h3
          simp [-Bool.exists_bool, aev, cav, look, acallPure, abin, abinN, abinP, abinI, abinS, aun, aconv, afield, afieldAddr, aindexAddr, aindex, aslice, alow, ahigh, abuild, abuildGo, cellsOf, splice, fieldTy, alen, apick, amax, amin, aload, headV, aparts, abuildSlice, elParts, abytesStr, astore, amake, aappend, aclear, anew, arith, aresults, aresList, ares, spec0, spec1, spec2, spec3, spec4, eqCells, eqCell, bI, hk, rowAt_enc hk, e, c3, i1]
          simp only [Bool.toNat_false] at h2
          refine ⟨(by first | omega | (unfold I64; omega)), (by first | omega | (unfold I64; omega)), k + 1, out ++ [x, ix l k], true, ⟨by omega, by simp; omega, ?_⟩, by omega, weak_eq (by simp) (by simp [bI])⟩
          simp only [ins_true] at h3 ⊢
          rw [List.append_assoc]; exact h3
        · rw [if_neg (by simp)] at h3
          simp [-Bool.exists_bool, aev, cav, look, acallPure, abin, abinN, abinP, abinI, abinS, aun, aconv, afield, afieldAddr, aindexAddr, aindex, aslice, alow, ahigh, abuild, abuildGo, cellsOf, splice, fieldTy, alen, apick, amax, amin, aload, headV, aparts, abuildSlice, elParts, abytesStr, astore, amake, aappend, aclear, anew, arith, aresults, aresList, ares, spec0, spec1, spec2, spec3, spec4, eqCells, eqCell, bI, hk, rowAt_enc hk, e, c3, i1]
          refine ⟨(by first | omega | (unfold I64; omega)), k + 1, out ++ [ix l k], true, ⟨by omega, by simp; omega, ?_⟩, by omega, weak_eq (by simp) (by simp [bI])⟩
          rw [List.append_assoc]; exact h3
      · rw [if_neg (fun h => c3 h.1)] at h3
        simp [-Bool.exists_bool, aev, cav, look, acallPure, abin, abinN, abinP, abinI, abinS, aun, aconv, afield, afieldAddr, aindexAddr, aindex, aslice, alow, ahigh, abuild, abuildGo, cellsOf, splice, fieldTy, alen, apick, amax, amin, aload, headV, aparts, abuildSlice, elParts, abytesStr, astore, amake, aappend, aclear, anew, arith, aresults, aresList, ares, spec0, spec1, spec2, spec3, spec4, eqCells, eqCell, bI, hk, rowAt_enc hk, e, c3, i1]
        refine ⟨(by first | omega | (unfold I64; omega)), k + 1, out ++ [ix l k], d, ⟨by omega, by simp; omega, ?_⟩, by omega, weak_eq (by simp) (by simp [bI])⟩
        rw [List.append_assoc]; exact h3
  · have hk2 : l.drop k = [] := List.drop_eq_nil_of_le (by omega)
    rw [hk2, ins] at h3
    cases d
    · simp [-Bool.exists_bool, aev, cav, look, acallPure, abin, abinN, abinP, abinI, abinS, aun, aconv, afield, afieldAddr, aindexAddr, aindex, aslice, alow, ahigh, abuild, abuildGo, cellsOf, splice, fieldTy, alen, apick, amax, amin, aload, headV, aparts, abuildSlice, elParts, abytesStr, astore, amake, aappend, aclear, anew, arith, aresults, aresList, ares, spec0, spec1, spec2, spec3, spec4, eqCells, eqCell, bI, hk]
      refine ⟨(by first | omega | (unfold I64; omega)), ?_⟩
      rw [← h3]
      simp [aev, cav, look, acallPure, abin, abinN, abinP, abinI, abinS, aun, aconv, afield, afieldAddr, aindexAddr, aindex, aslice, alow, ahigh, abuild, abuildGo, cellsOf, splice, fieldTy, alen, apick, amax, amin, aload, headV, aparts, abuildSlice, elParts, abytesStr, astore, amake, aappend, aclear, anew, arith, aresults, aresList, ares, spec0, spec1, spec2, spec3, spec4, eqCells, eqCell]
    · have h4 : out = ins x l false := by rw [← h3]; simp
      simp [-Bool.exists_bool, aev, cav, look, acallPure, abin, abinN, abinP, abinI, abinS, aun, aconv, afield, afieldAddr, aindexAddr, aindex, aslice, alow, ahigh, abuild, abuildGo, cellsOf, splice, fieldTy, alen, apick, amax, amin, aload, headV, aparts, abuildSlice, elParts, abytesStr, astore, amake, aappend, aclear, anew, arith, aresults, aresList, ares, spec0, spec1, spec2, spec3, spec4, eqCells, eqCell, bI, hk, h4]
noncomputable def COr : Ctx := mkC Try.prog G0 [(31, .pure sWith)]
@[simp] theorem COr_P : COr.P = Try.prog := rfl
@[simp] theorem COr_1 : COr.S 31 = .pure sWith := rfl
theorem mixCOr : COr.P.follows .mixedOrders = true := mixed
theorem sigCOr : SigOK COr := sigOK_cons (entryPure withP Try.func31 rfl (by decide)) (sigOK_nil _ _)
theorem of_len (l : List Int) : (of l).length ≤ l.length := by
  have h := dd_le (sortI l)
  rw [dd_sort] at h
  have hs : (sortI l).length = l.length := by unfold sortI; exact List.length_mergeSort _
  omega
theorem of_take {l : List Int} {k : Nat} (h : k < l.length) : of (l.take (k + 1)) = ins (ix l k) (of (l.take k)) false := by
  rw [List.take_succ_eq_append_getElem h]
  unfold of
  rw [List.foldl_append, ix_lt h]; rfl
def sOfR : List AV → Option (Prop × AV) := spec1 (fun (l : List Int) => l.length ≤ 900000) (fun l => Enc.enc (of l))
set_option maxHeartbeats 16000000 in
theorem ofR : PureOK Try.prog G0 14 sOfR := by
  refine pure1 (C := COr) sigCOr mixCOr Try.func14 rfl rfl rfl (by kernel_rfl) (by decide) (fun l hl => ?_)
  simp [aev, cav, look, acallPure, abin, abinN, abinP, abinI, abinS, aun, aconv, afield, afieldAddr, aindexAddr, aindex, aslice, alow, ahigh, abuild, abuildGo, cellsOf, splice, fieldTy, alen, apick, amax, amin, aload, headV, aparts, abuildSlice, elParts, abytesStr, astore, amake, aappend, aclear, anew, arith, aresults, aresList, ares, spec0, spec1, spec2, spec3, spec4, eqCells, eqCell]
  refine loop_rule (C := COr) sigCOr mixCOr (fun q : Nat × Bool => ⟨[(0, Enc.enc l), (3, .slice 1 q.2 (encRows (of (l.take q.1)))), (4, .int .i64 q.1)], []⟩) (fun q => q.1 ≤ l.length) (fun q => l.length - q.1) (by kernel_rfl) ⟨(0, true), Nat.zero_le _, weak_slots (by simp [of])⟩ (fun ⟨k, f⟩ h1 => ?_)
  simp only at h1 ⊢
  by_cases hk : k < l.length
  · have i1 : I64 ((k : Int) + 1) := by unfold I64; omega
    have hlen : (of (l.take k)).length ≤ 900000 := by have := of_len (l.take k); rw [List.length_take] at this; omega
    have hlen1 : (of (l.take k)).length < 1000000000000 := by omega
    simp [-Bool.exists_bool, aev, cav, look, acallPure, abin, abinN, abinP, abinI, abinS, aun, aconv, afield, afieldAddr, aindexAddr, aindex, aslice, alow, ahigh, abuild, abuildGo, cellsOf, splice, fieldTy, alen, apick, amax, amin, aload, headV, aparts, abuildSlice, elParts, abytesStr, astore, amake, aappend, aclear, anew, arith, aresults, aresList, ares, spec0, spec1, spec2, spec3, spec4, eqCells, eqCell, sWith, hk, rowAt_enc hk, i1, hlen]
    exact ⟨k + 1, by omega, by omega, false, weak_slots (by simp [of_take hk])⟩
  · have e : k = l.length := by omega
    subst e
    simp [aev, cav, look, acallPure, abin, abinN, abinP, abinI, abinS, aun, aconv, afield, afieldAddr, aindexAddr, aindex, aslice, alow, ahigh, abuild, abuildGo, cellsOf, splice, fieldTy, alen, apick, amax, amin, aload, headV, aparts, abuildSlice, elParts, abytesStr, astore, amake, aappend, aclear, anew, arith, aresults, aresList, ares, spec0, spec1, spec2, spec3, spec4, eqCells, eqCell, hk]

def hasL (l : List Int) (x : Int) : Bool := l.contains x
def sHas : List AV → Option (Prop × AV) := spec2 (fun (l : List Int) (_ : Int) => SmallR l) (fun l x => .bool (decide (x ∈ l)))
set_option maxHeartbeats 8000000 in
theorem hasP : PureOK Try.prog G0 15 sHas := by
  refine pure2 (C := CE) sigCE mixCE Try.func15 rfl rfl rfl (by kernel_rfl) (by decide) (fun l x hl => ?_)
  unfold SmallR at hl
  simp [aev, cav, look, acallPure, abin, abinN, abinP, abinI, abinS, aun, aconv, afield, afieldAddr, aindexAddr, aindex, aslice, alow, ahigh, abuild, abuildGo, cellsOf, splice, fieldTy, alen, apick, amax, amin, aload, headV, aparts, abuildSlice, elParts, abytesStr, astore, amake, aappend, aclear, anew, arith, aresults, aresList, ares, spec0, spec1, spec2, spec3, spec4, eqCells, eqCell]
  refine loop_rule (C := CE) sigCE mixCE (fun i : Nat => ⟨[(0, Enc.enc l), (1, .int .i64 x), (5, .int .i64 i)], []⟩) (fun i => i ≤ l.length ∧ ∀ j, j < i → ix l j ≠ x) (fun i => l.length - i) (by kernel_rfl) ⟨0, ⟨Nat.zero_le _, fun j hj => by omega⟩, weak_slots (by simp)⟩ (fun i ⟨h0, h1⟩ => ?_)
  by_cases hi : i < l.length
  · have i1 : I64 ((i : Int) + 1) := by unfold I64; omega
    rcases em2 (ix l i = x) with e | e
    · have hm : x ∈ l := of_eq_true e ▸ ix_mem hi
      simp [aev, cav, look, acallPure, abin, abinN, abinP, abinI, abinS, aun, aconv, afield, afieldAddr, aindexAddr, aindex, aslice, alow, ahigh, abuild, abuildGo, cellsOf, splice, fieldTy, alen, apick, amax, amin, aload, headV, aparts, abuildSlice, elParts, abytesStr, astore, amake, aappend, aclear, anew, arith, aresults, aresList, ares, spec0, spec1, spec2, spec3, spec4, eqCells, eqCell, hi, rowAt_enc hi, e, hm]
    · simp [aev, cav, look, acallPure, abin, abinN, abinP, abinI, abinS, aun, aconv, afield, afieldAddr, aindexAddr, aindex, aslice, alow, ahigh, abuild, abuildGo, cellsOf, splice, fieldTy, alen, apick, amax, amin, aload, headV, aparts, abuildSlice, elParts, abytesStr, astore, amake, aappend, aclear, anew, arith, aresults, aresList, ares, spec0, spec1, spec2, spec3, spec4, eqCells, eqCell, hi, rowAt_enc hi, e, i1]
      exact ⟨i + 1, ⟨by omega, fun j hj => by
        rcases Nat.lt_or_eq_of_le (Nat.le_of_lt_succ hj) with h | rfl
        · exact h1 j h
        · exact of_eq_false e⟩, by omega, weak_slots (by simp)⟩
  · have hm : x ∉ l := fun hx => by
      obtain ⟨j, hj, e⟩ := List.mem_iff_getElem.1 hx
      exact h1 j (by omega) (by rw [ix_lt hj]; exact e)
    simp [aev, cav, look, acallPure, abin, abinN, abinP, abinI, abinS, aun, aconv, afield, afieldAddr, aindexAddr, aindex, aslice, alow, ahigh, abuild, abuildGo, cellsOf, splice, fieldTy, alen, apick, amax, amin, aload, headV, aparts, abuildSlice, elParts, abytesStr, astore, amake, aappend, aclear, anew, arith, aresults, aresList, ares, spec0, spec1, spec2, spec3, spec4, eqCells, eqCell, hi, hm]

theorem list_ext_ix {a b : List Int} (hl : a.length = b.length) (h : ∀ j, j < a.length → ix a j = ix b j) : a = b :=
  List.ext_getElem hl fun i h1 h2 => by have := h i h1; rwa [ix_lt h1, ix_lt h2] at this
def sInts : List AV → Option (Prop × AV) := spec2 (fun (a b : List Int) => a.length ≤ 10000000 ∧ b.length ≤ 10000000) (fun a b => .bool (decide (a = b)))
set_option maxHeartbeats 8000000 in
theorem intsP : PureOK Try.prog G0 13 sInts := by
  refine pure2 (C := CE) sigCE mixCE Try.func13 rfl rfl rfl (by kernel_rfl) (by decide) (fun a b ⟨ha, hb⟩ => ?_)
  rcases em2 (a.length = b.length) with hl | hl
  · have hl' := of_eq_true hl
    have hl2 : ((a.length : Int) = b.length) = True := eq_true (by omega)
    simp [aev, cav, look, acallPure, abin, abinN, abinP, abinI, abinS, aun, aconv, afield, afieldAddr, aindexAddr, aindex, aslice, alow, ahigh, abuild, abuildGo, cellsOf, splice, fieldTy, alen, apick, amax, amin, aload, headV, aparts, abuildSlice, elParts, abytesStr, astore, amake, aappend, aclear, anew, arith, aresults, aresList, ares, spec0, spec1, spec2, spec3, spec4, eqCells, eqCell, hl, hl2]
    refine loop_rule (C := CE) sigCE mixCE (fun i : Nat => ⟨[(0, Enc.enc a), (1, Enc.enc b), (5, .int .i64 i)], []⟩) (fun i => i ≤ a.length ∧ ∀ j, j < i → ix a j = ix b j) (fun i => a.length - i) (by kernel_rfl) ⟨0, ⟨Nat.zero_le _, fun j hj => by omega⟩, weak_slots (by simp)⟩ (fun i ⟨h0, h1⟩ => ?_)
    by_cases hi : i < a.length
    · have i1 : I64 ((i : Int) + 1) := by unfold I64; omega
      have hib : i < b.length := by omega
      rcases em2 (ix a i = ix b i) with e | e
      · simp [aev, cav, look, acallPure, abin, abinN, abinP, abinI, abinS, aun, aconv, afield, afieldAddr, aindexAddr, aindex, aslice, alow, ahigh, abuild, abuildGo, cellsOf, splice, fieldTy, alen, apick, amax, amin, aload, headV, aparts, abuildSlice, elParts, abytesStr, astore, amake, aappend, aclear, anew, arith, aresults, aresList, ares, spec0, spec1, spec2, spec3, spec4, eqCells, eqCell, hi, hib, rowAt_enc hi, rowAt_enc hib, e, i1]
        try refine ⟨hib, ?_⟩
        exact ⟨i + 1, ⟨by omega, fun j hj => by
          rcases Nat.lt_or_eq_of_le (Nat.le_of_lt_succ hj) with h | rfl
          · exact h1 j h
          · exact of_eq_true e⟩, by omega, weak_slots (by simp)⟩
      · have hne : (a = b) = False := eq_false fun h => of_eq_false e (by rw [h])
        simp [aev, cav, look, acallPure, abin, abinN, abinP, abinI, abinS, aun, aconv, afield, afieldAddr, aindexAddr, aindex, aslice, alow, ahigh, abuild, abuildGo, cellsOf, splice, fieldTy, alen, apick, amax, amin, aload, headV, aparts, abuildSlice, elParts, abytesStr, astore, amake, aappend, aclear, anew, arith, aresults, aresList, ares, spec0, spec1, spec2, spec3, spec4, eqCells, eqCell, hi, hib, rowAt_enc hi, rowAt_enc hib, e, hne]
    · have hab : (a = b) = True := eq_true (list_ext_ix hl' fun j hj => h1 j (by omega))
      simp [aev, cav, look, acallPure, abin, abinN, abinP, abinI, abinS, aun, aconv, afield, afieldAddr, aindexAddr, aindex, aslice, alow, ahigh, abuild, abuildGo, cellsOf, splice, fieldTy, alen, apick, amax, amin, aload, headV, aparts, abuildSlice, elParts, abytesStr, astore, amake, aappend, aclear, anew, arith, aresults, aresList, ares, spec0, spec1, spec2, spec3, spec4, eqCells, eqCell, hi, hab]
  · have hne : (a = b) = False := eq_false fun h => of_eq_false hl (by rw [h])
    have hl2 : ((a.length : Int) = b.length) = False := eq_false fun h => of_eq_false hl (by omega)
    simp [aev, cav, look, acallPure, abin, abinN, abinP, abinI, abinS, aun, aconv, afield, afieldAddr, aindexAddr, aindex, aslice, alow, ahigh, abuild, abuildGo, cellsOf, splice, fieldTy, alen, apick, amax, amin, aload, headV, aparts, abuildSlice, elParts, abytesStr, astore, amake, aappend, aclear, anew, arith, aresults, aresList, ares, spec0, spec1, spec2, spec3, spec4, eqCells, eqCell, hl, hl2, hne]

def Brief (ls : List (List Int)) : Prop := ls.length ≤ 30 ∧ ∀ l ∈ ls, l.length ≤ 60
instance (ls : List (List Int)) : Decidable (Brief ls) := inferInstanceAs (Decidable (_ ∧ _))
def sBrief : List AV → Option (Prop × AV) := spec1 (fun (_ : List (List Int)) => True) (fun ls => .bool (decide (Brief ls)))
set_option maxHeartbeats 8000000 in
theorem briefP : PureOK Try.prog G0 9 sBrief := by
  refine pure1 (C := CE) sigCE mixCE Try.func9 rfl rfl rfl (by kernel_rfl) (by decide) (fun ls _ => ?_)
  by_cases hl : ls.length ≤ 30
  case neg =>
    have hl1 : (30 : Int) < ls.length := by omega
    have hl2 : 30 < ls.length := by omega
    have hB : Brief ls = False := eq_false fun h => hl h.1
    simp [aev, cav, look, acallPure, abin, abinN, abinP, abinI, abinS, aun, aconv, afield, afieldAddr, aindexAddr, aindex, aslice, alow, ahigh, abuild, abuildGo, cellsOf, splice, fieldTy, alen, apick, amax, amin, aload, headV, aparts, abuildSlice, elParts, abytesStr, astore, amake, aappend, aclear, anew, arith, aresults, aresList, ares, spec0, spec1, spec2, spec3, spec4, eqCells, eqCell, hl, hl1, hl2, hB]
  have hl1 : ¬ (30 : Int) < ls.length := by omega
  have hl2 : ¬ 30 < ls.length := by omega
  simp [aev, cav, look, acallPure, abin, abinN, abinP, abinI, abinS, aun, aconv, afield, afieldAddr, aindexAddr, aindex, aslice, alow, ahigh, abuild, abuildGo, cellsOf, splice, fieldTy, alen, apick, amax, amin, aload, headV, aparts, abuildSlice, elParts, abytesStr, astore, amake, aappend, aclear, anew, arith, aresults, aresList, ares, spec0, spec1, spec2, spec3, spec4, eqCells, eqCell, hl, hl1, hl2]
  refine loop_rule (C := CE) sigCE mixCE (fun i : Nat => ⟨[(0, Enc.enc ls), (3, .int .i64 i)], []⟩) (fun i => i ≤ ls.length ∧ ∀ j, j < i → (ix ls j).length ≤ 60) (fun i => ls.length - i) (by kernel_rfl) ⟨0, ⟨Nat.zero_le _, fun j hj => by omega⟩, weak_slots (by simp)⟩ (fun i ⟨h0, h1⟩ => ?_)
  by_cases hi : i < ls.length
  · have i1 : I64 ((i : Int) + 1) := by unfold I64; omega
    by_cases hb : (ix ls i).length ≤ 60
    · have hb1 : ¬ (60 : Int) < (ix ls i).length := by omega
      have hb2 : ¬ 60 < (ix ls i).length := by omega
      simp [aev, cav, look, acallPure, abin, abinN, abinP, abinI, abinS, aun, aconv, afield, afieldAddr, aindexAddr, aindex, aslice, alow, ahigh, abuild, abuildGo, cellsOf, splice, fieldTy, alen, apick, amax, amin, aload, headV, aparts, abuildSlice, elParts, abytesStr, astore, amake, aappend, aclear, anew, arith, aresults, aresList, ares, spec0, spec1, spec2, spec3, spec4, eqCells, eqCell, hi, rowAt_enc hi, hb, hb1, hb2, i1]
      exact ⟨i + 1, ⟨by omega, fun j hj => by
        rcases Nat.lt_or_eq_of_le (Nat.le_of_lt_succ hj) with h | rfl
        · exact h1 j h
        · exact hb⟩, by omega, weak_slots (by simp)⟩
    · have hb1 : (60 : Int) < (ix ls i).length := by omega
      have hb2 : 60 < (ix ls i).length := by omega
      have hB : Brief ls = False := eq_false fun h => hb (h.2 _ (ix_mem hi))
      simp [aev, cav, look, acallPure, abin, abinN, abinP, abinI, abinS, aun, aconv, afield, afieldAddr, aindexAddr, aindex, aslice, alow, ahigh, abuild, abuildGo, cellsOf, splice, fieldTy, alen, apick, amax, amin, aload, headV, aparts, abuildSlice, elParts, abytesStr, astore, amake, aappend, aclear, anew, arith, aresults, aresList, ares, spec0, spec1, spec2, spec3, spec4, eqCells, eqCell, hi, rowAt_enc hi, hb, hb1, hb2, hB]
  · have hB : Brief ls = True := eq_true ⟨hl, fun l hm => by
      obtain ⟨j, hj, e⟩ := List.mem_iff_getElem.1 hm
      have := h1 j (by omega)
      rw [ix_lt hj, e] at this
      exact this⟩
    simp [aev, cav, look, acallPure, abin, abinN, abinP, abinI, abinS, aun, aconv, afield, afieldAddr, aindexAddr, aindex, aslice, alow, ahigh, abuild, abuildGo, cellsOf, splice, fieldTy, alen, apick, amax, amin, aload, headV, aparts, abuildSlice, elParts, abytesStr, astore, amake, aappend, aclear, anew, arith, aresults, aresList, ares, spec0, spec1, spec2, spec3, spec4, eqCells, eqCell, hi, hB]
end Go.Proofs.Ytpbgnnaaobamfaa

/-
  layer 33: meet; the reference's seek and Meet; Meet.
-/
namespace Go.Proofs.Ytpbgnnaaobamfaa
open Go.RowKit
set_option linter.unusedSimpArgs false
set_option linter.unusedVariables false
set_option maxRecDepth 100000

theorem run_step {S : List (List Int)} {s : MSt} {f : Nat} {R : List Int × Nat} (hl : live S s) (h : meetN S f s = some R) : ∃ g, f = g + 1 ∧ meetN S g (mstep S s) = some R := by
  cases f with
  | zero => cases h
  | succ g => rw [meetN, if_pos hl] at h; exact ⟨g, rfl, h⟩
theorem run_done {S : List (List Int)} {s : MSt} {f : Nat} {R : List Int × Nat} (hl : ¬ live S s) (h : meetN S f s = some R) : R = (s.out, s.seeks) := by
  cases f with
  | zero => cases h
  | succ g => rw [meetN, if_neg hl] at h; injection h with h; exact h.symm
def MeetPre (S : List (List Int)) : Prop := S.length ≤ 1000 ∧ ∀ l ∈ S, l.length ≤ 10000 ∧ Inc l
theorem flat_le : ∀ {S : List (List Int)} {n : Nat}, (∀ l ∈ S, l.length ≤ n) → S.flatten.length ≤ S.length * n
  | [], n, _ => by simp
  | a :: r, n, h => by
    have ih := flat_le (S := r) (n := n) fun l hl => h l (List.mem_cons_of_mem _ hl)
    have := h a List.mem_cons_self
    simp only [List.flatten_cons, List.length_append, List.length_cons, Nat.add_mul, Nat.one_mul]
    omega
theorem fuel_le {S : List (List Int)} (h : MeetPre S) : fuelM S ≤ 100000000000 := by
  have h1 := flat_le (n := 10000) fun l hl => (h.2 l hl).1
  have h0 := h.1
  have h2 : S.flatten.length ≤ 10000000 := by omega
  have h3 : S.flatten.length * (S.length + 1) ≤ 10000000 * 1001 := Nat.mul_le_mul h2 (by omega)
  unfold fuelM; omega
/-- Indices as integers. -/
def zs (a : List Nat) : List Int := a.map fun (n : Nat) => ((n : Nat) : Int)
@[simp] theorem zs_len (a : List Nat) : (zs a).length = a.length := List.length_map _
@[simp] theorem zs_ix {a : List Nat} {i : Nat} : ix (zs a) i = ((ix a i : Nat) : Int) := by
  unfold ix zs
  simp only [List.getD_eq_getElem?_getD, List.getElem?_map]
  cases a[i]? <;> rfl
theorem zs_set (a : List Nat) (i v : Nat) : (zs a).set i (v : Int) = zs (a.set i v) := by unfold zs; rw [List.map_set]
theorem zs_rep (n : Nat) : zs (List.replicate n 0) = List.replicate n 0 := by unfold zs; rw [List.map_replicate]; rfl
noncomputable def CMe : Ctx := mkC Try.prog G0 [(46, .pure sBin)]
@[simp] theorem CMe_P : CMe.P = Try.prog := rfl
@[simp] theorem CMe_1 : CMe.S 46 = .pure sBin := rfl
theorem mixCMe : CMe.P.follows .mixedOrders = true := mixed
theorem sigCMe : SigOK CMe := sigOK_cons (entryPure binP Try.func46 rfl (by decide)) (sigOK_nil _ _)
theorem inc_sorted {l : List Int} (h : Inc l) : SortedZ l := fun i j hij hj => Int.le_of_lt (inc_ix h hij hj)
def RunI (S : List (List Int)) (x : MSt × Nat) : Prop := (∃ q, MI S x.1 q) ∧ live S x.1 ∧ meetN S x.2 x.1 = some (meetF S) ∧ x.1.seeks + x.2 ≤ fuelM S ∧ x.1.out.length ≤ 10000
def resM (r : List Int × Nat) : AV := .tup [Enc.enc r.1, .int .i64 r.2]
theorem under_len {S : List (List Int)} (h : MeetPre S) (hne : S ≠ []) (x : Int) : (under S x).length ≤ 10000 := by
  have h1 : (under S x).length ≤ (common S).length := List.length_filter_le _ _
  have h2 : (common S).length ≤ (ix S 0).length := List.length_filter_le _ _
  have h3 := (h.2 _ (ix_mem (List.length_pos_iff.2 hne))).1
  omega
def sMeetI : List AV → Option (Prop × AV) := spec1 MeetPre (fun S => resM (meetF S))
set_option maxHeartbeats 32000000 in
theorem meetP : PureOK Try.prog G0 29 sMeetI := by
  refine pure1 (C := CMe) sigCMe mixCMe Try.func29 rfl rfl rfl (by kernel_rfl) (by decide) (fun S hS => ?_)
  have hF := fuel_le hS
  have hk := hS.1
  rcases em2 (S.length = 0) with h0 | h0
  · have h0' := of_eq_true h0
    have e : S = [] := List.length_eq_zero_iff.1 h0'
    have hm : meetF S = ([], 0) := by unfold meetF; rw [if_pos (.inl e)]
    simp [aev, cav, look, acallPure, abin, abinN, abinP, abinI, abinS, aun, aconv, afield, afieldAddr, aindexAddr, aindex, aslice, alow, ahigh, abuild, abuildGo, cellsOf, splice, fieldTy, alen, apick, amax, amin, aload, headV, aparts, abuildSlice, elParts, abytesStr, astore, amake, aappend, aclear, anew, arith, aresults, aresList, ares, spec0, spec1, spec2, spec3, spec4, eqCells, eqCell, h0, hm, resM]
  have h0' := of_eq_false h0
  have hne : S ≠ [] := fun e => h0' (by rw [e]; rfl)
  have hk0 : 0 < S.length := by omega
  rcases em2 ((ix S 0).length = 0) with h1 | h1
  · have e : ix S 0 = [] := List.length_eq_zero_iff.1 (of_eq_true h1)
    have hm : meetF S = ([], 0) := by unfold meetF; rw [if_pos (.inr e)]
    simp [aev, cav, look, acallPure, abin, abinN, abinP, abinI, abinS, aun, aconv, afield, afieldAddr, aindexAddr, aindex, aslice, alow, ahigh, abuild, abuildGo, cellsOf, splice, fieldTy, alen, apick, amax, amin, aload, headV, aparts, abuildSlice, elParts, abytesStr, astore, amake, aappend, aclear, anew, arith, aresults, aresList, ares, spec0, spec1, spec2, spec3, spec4, eqCells, eqCell, h0, hk0, rowAt_enc hk0, h1, hm, resM]
  have h1' := of_eq_false h1
  have hl0 : 0 < (ix S 0).length := by omega
  have hInc : ∀ l ∈ S, Inc l := fun l hl => (hS.2 l hl).2
  obtain ⟨hrun, hgood⟩ := meetF_run hInc hne (fun e => h1' (by rw [e]; rfl))
  obtain ⟨hi0, hl00⟩ := init_ok hInc hne (fun e => h1' (by rw [e]; rfl))
  simp [aev, cav, look, acallPure, abin, abinN, abinP, abinI, abinS, aun, aconv, afield, afieldAddr, aindexAddr, aindex, aslice, alow, ahigh, abuild, abuildGo, cellsOf, splice, fieldTy, alen, apick, amax, amin, aload, headV, aparts, abuildSlice, elParts, abytesStr, astore, amake, aappend, aclear, anew, arith, aresults, aresList, ares, spec0, spec1, spec2, spec3, spec4, eqCells, eqCell, h0, hk0, rowAt_enc hk0, h1, hl0, rowAt_enc hl0]
  refine ⟨by omega, ?_⟩
  refine loop_rule (C := CMe) sigCMe mixCMe (fun y : MSt × Nat => ⟨[(0, Enc.enc S), (4, .own 1 y.1.out.length), (5, .own 0 S.length), (6, .int .i64 y.1.x), (7, .int .i64 y.1.i), (8, .int .i64 y.1.agree), (9, .int .i64 y.1.seeks)], [bI (zs y.1.ats), bI y.1.out]⟩) (RunI S) (fun y => y.2) (by kernel_rfl) ⟨(init S, fuelM S), ⟨⟨0, hi0⟩, hl00, hrun, Nat.le_of_eq (Nat.zero_add _), Nat.zero_le _⟩, (weak_nil 4 1 3 rfl (by decide)).trans (weak_eq (by simp [init]) (by simp [bI, init, zs_rep]))⟩ (fun ⟨s, f⟩ ⟨⟨q, hI⟩, hlv, hr, hb, ho⟩ => ?_)
  obtain ⟨g, rfl, hr⟩ := run_step hlv hr
  unfold mstep at hr
  obtain ⟨ats, x, i, agree, seeks, out⟩ := s
  have hI2 := hI
  have hlv2 := hlv
  obtain ⟨i1, i2, i3, i4, i5, i6, i7, i8, i9, i10, i11, i12⟩ := hI2
  unfold live at hlv2
  simp only at i1 i2 i3 i4 i5 i6 i7 i8 i9 i10 i11 i12 hlv2 hb ho hr ⊢
  have hia : i < ats.length := by omega
  have hai : ix ats i ≤ 10000 := by have := (hS.2 _ (ix_mem i1)).1; omega
  rcases em2 (agree = S.length) with ha | ha
  · have ha' := of_eq_true ha
    rw [if_pos ha'] at hr
    obtain ⟨n1, n2⟩ := app_ok hInc hI hlv ha'
    obtain ⟨p, hp⟩ : ∃ p, p = ix ats i + 1 := ⟨_, rfl⟩
    have pe : ((ix ats i : Nat) : Int) + 1 = (p : Int) := by omega
    have j1 : I64 (p : Int) := by unfold I64; omega
    have hli := (hS.2 _ (ix_mem i1)).1
    have hz : i < (zs ats).length := by rw [zs_len]; exact hia
    have r1 : rowAt (encRows (zs (ats.set i p))) i = [.int .i64 (p : Int)] := by
      rw [rowAt_enc (show i < (zs (ats.set i p)).length by rw [zs_len, List.length_set]; exact hia), zs_ix, ix_set, if_pos ⟨rfl, hia⟩]; rfl
    have ht : appS S ⟨ats, x, i, agree, seeks, out⟩ = ⟨ats.set i p, if p < (ix S i).length then ix (ix S i) p else x, i, 1, seeks, out ++ [x]⟩ := by rw [hp]; rfl
    simp only [ht] at hr n1 n2
    have hsp : ix (ats.set i p) i = p := by rw [ix_set, if_pos ⟨rfl, hia⟩]
    by_cases hpl : p < (ix S i).length
    · have pe2 : (p : Int) = (ix S i).length ↔ False := ⟨fun h => by omega, False.elim⟩
      have pe3 : (p = (ix S i).length) = False := eq_false (by omega)
      simp only [if_pos hpl] at hr n1 n2
      have hlv3 : live S ⟨ats.set i p, ix (ix S i) p, i, 1, seeks, out ++ [x]⟩ := by unfold live; simp only [hsp]; exact hpl
      obtain ⟨m1, m2⟩ := n1 hlv3
      have hol : (out ++ [x]).length ≤ 10000 := by
        have := m1.out; simp only at this; rw [this]; exact under_len hS hne _
      simp [aev, cav, look, acallPure, abin, abinN, abinP, abinI, abinS, aun, aconv, afield, afieldAddr, aindexAddr, aindex, aslice, alow, ahigh, abuild, abuildGo, cellsOf, splice, fieldTy, alen, apick, amax, amin, aload, headV, aparts, abuildSlice, elParts, abytesStr, astore, amake, aappend, aclear, anew, arith, aresults, aresList, ares, spec0, spec1, spec2, spec3, spec4, eqCells, eqCell, bI, ha', i1, i2, hia, rowAt_enc i1, rowAt_enc hz, pe, pe2, pe3, j1, zs_set, r1, hpl, rowAt_enc hpl]
      exact ⟨by omega, ⟨ats.set i p, ix (ix S i) p, i, 1, seeks, out ++ [x]⟩, g, ⟨⟨q, m1⟩, hlv3, hr, by simp only; omega, hol⟩, by omega, weak_eq (by simp) (by simp [bI])⟩
    · have hpe : p = (ix S i).length := by omega
      simp only [if_neg hpl] at hr n1 n2
      have hlv3 : ¬ live S ⟨ats.set i p, x, i, 1, seeks, out ++ [x]⟩ := by unfold live; simp only [hsp]; exact hpl
      have hR := run_done hlv3 hr
      have j2 : I64 (((ix S i).length : Nat) : Int) := by rw [← hpe]; exact j1
      rw [hpe] at r1 pe
      simp [aev, cav, look, acallPure, abin, abinN, abinP, abinI, abinS, aun, aconv, afield, afieldAddr, aindexAddr, aindex, aslice, alow, ahigh, abuild, abuildGo, cellsOf, splice, fieldTy, alen, apick, amax, amin, aload, headV, aparts, abuildSlice, elParts, abytesStr, astore, amake, aappend, aclear, anew, arith, aresults, aresList, ares, spec0, spec1, spec2, spec3, spec4, eqCells, eqCell, bI, ha', i1, i2, hia, rowAt_enc i1, rowAt_enc hz, pe, j2, zs_set, r1, hR, resM]
      omega
  · have ha' := of_eq_false ha
    rw [if_neg ha'] at hr
    obtain ⟨n1, n2⟩ := sk_ok hInc hI hlv ha'
    obtain ⟨n, hn⟩ : ∃ n, n = (i + 1) % S.length := ⟨_, rfl⟩
    have hn1 : n < S.length := by rw [hn]; exact Nat.mod_lt _ hk0
    have c1 : I64 ((i : Int) + 1) := by unfold I64; omega
    have c2 : ((i : Int) + 1).tmod (S.length : Int) = (n : Int) := by rw [hn]; rfl
    have c3 : I64 (n : Int) := by unfold I64; omega
    have w1 : w64 (((i : Int) + 1).tmod (S.length : Int)) = (n : Int) := by rw [c2]; exact w64_in c3
    have hna : n < ats.length := by omega
    have hz : n < (zs ats).length := by rw [zs_len]; exact hna
    have hln := (hS.2 _ (ix_mem hn1)).1
    have hIn := (hS.2 _ (ix_mem hn1)).2
    have hle := i5 n hn1
    have an : I64 ((agree : Int) + 1) := by unfold I64; omega
    have sn : I64 ((seeks : Int) + 1) := by unfold I64; omega
    have kn : ((S.length : Int) = 0) = False := eq_false (by omega)
    obtain ⟨p, hp⟩ : ∃ p, p = ix ats n + lbd ((ix S n).drop (ix ats n)) x := ⟨_, rfl⟩
    have hlb := lbd_le ((ix S n).drop (ix ats n)) x
    rw [List.length_drop] at hlb
    have pe : ((ix ats n : Nat) : Int) + ((lbd ((ix S n).drop (ix ats n)) x : Nat) : Int) = (p : Int) := by omega
    have j1 : I64 (p : Int) := by unfold I64; omega
    have hdI : SortedZ ((ix S n).drop (ix ats n)) := inc_sorted (hIn.sublist (List.drop_sublist _ _))
    have hdl : ((ix S n).drop (ix ats n)).length ≤ 1000000 := by rw [List.length_drop]; omega
    have r1 : rowAt (encRows (zs (ats.set n p))) n = [.int .i64 (p : Int)] := by
      rw [rowAt_enc (show n < (zs (ats.set n p)).length by rw [zs_len, List.length_set]; exact hna), zs_ix, ix_set, if_pos ⟨rfl, hna⟩]; rfl
    have ht : skS S ⟨ats, x, i, agree, seeks, out⟩ = ⟨ats.set n p, if p < (ix S n).length then ix (ix S n) p else x, n, if p < (ix S n).length then (if ix (ix S n) p = x then agree + 1 else 1) else agree, seeks + 1, out⟩ := by rw [hp, hn]; rfl
    simp only [ht] at hr n1 n2
    have hsp : ix (ats.set n p) n = p := by rw [ix_set, if_pos ⟨rfl, hna⟩]
    have ha2 : ((agree : Int) = S.length) = False := eq_false (by omega)
    by_cases hpl : p < (ix S n).length
    · have pe2 : ((p : Int) = (ix S n).length) = False := eq_false (by omega)
      have pe3 : (p = (ix S n).length) = False := eq_false (by omega)
      simp only [if_pos hpl] at hr n1 n2
      rcases em2 (ix (ix S n) p = x) with e | e
      · have e' := of_eq_true e
        rw [if_pos e', e'] at hr n1
        have hlv3 : live S ⟨ats.set n p, x, n, agree + 1, seeks + 1, out⟩ := by unfold live; simp only [hsp]; exact hpl
        obtain ⟨q', m1, m2⟩ := n1 hlv3
        simp [aev, cav, look, acallPure, abin, abinN, abinP, abinI, abinS, aun, aconv, afield, afieldAddr, aindexAddr, aindex, aslice, alow, ahigh, abuild, abuildGo, cellsOf, splice, fieldTy, alen, apick, amax, amin, aload, headV, aparts, abuildSlice, elParts, abytesStr, astore, amake, aappend, aclear, anew, arith, aresults, aresList, ares, spec0, spec1, spec2, spec3, spec4, eqCells, eqCell, bI, sBin, ha', ha2, i1, i2, hn1, hna, hz, c1, c2, c3, w1, kn, hne, rowAt_enc hn1, rowAt_enc hz, hdI, hdl, pe, j1, sn, an, zs_set, r1, pe2, pe3, hpl, rowAt_enc hpl, e]
        exact ⟨by omega, by omega, ⟨ats.set n p, x, n, agree + 1, seeks + 1, out⟩, g, ⟨⟨q', m1⟩, hlv3, hr, by simp only; omega, ho⟩, by omega, weak_eq (by simp) (by simp [bI])⟩
      · have e' := of_eq_false e
        rw [if_neg e'] at hr n1
        have hlv3 : live S ⟨ats.set n p, ix (ix S n) p, n, 1, seeks + 1, out⟩ := by unfold live; simp only [hsp]; exact hpl
        obtain ⟨q', m1, m2⟩ := n1 hlv3
        simp [aev, cav, look, acallPure, abin, abinN, abinP, abinI, abinS, aun, aconv, afield, afieldAddr, aindexAddr, aindex, aslice, alow, ahigh, abuild, abuildGo, cellsOf, splice, fieldTy, alen, apick, amax, amin, aload, headV, aparts, abuildSlice, elParts, abytesStr, astore, amake, aappend, aclear, anew, arith, aresults, aresList, ares, spec0, spec1, spec2, spec3, spec4, eqCells, eqCell, bI, sBin, ha', ha2, i1, i2, hn1, hna, hz, c1, c2, c3, w1, kn, hne, rowAt_enc hn1, rowAt_enc hz, hdI, hdl, pe, j1, sn, an, zs_set, r1, pe2, pe3, hpl, rowAt_enc hpl, e]
        exact ⟨by omega, by omega, ⟨ats.set n p, ix (ix S n) p, n, 1, seeks + 1, out⟩, g, ⟨⟨q', m1⟩, hlv3, hr, by simp only; omega, ho⟩, by omega, weak_eq (by simp) (by simp [bI])⟩
    · have hpe : p = (ix S n).length := by omega
      simp only [if_neg hpl] at hr n1 n2
      have hlv3 : ¬ live S ⟨ats.set n p, x, n, agree, seeks + 1, out⟩ := by unfold live; simp only [hsp]; exact hpl
      have hR := run_done hlv3 hr
      have j2 : I64 (((ix S n).length : Nat) : Int) := by rw [← hpe]; exact j1
      rw [hpe] at r1 pe
      simp [aev, cav, look, acallPure, abin, abinN, abinP, abinI, abinS, aun, aconv, afield, afieldAddr, aindexAddr, aindex, aslice, alow, ahigh, abuild, abuildGo, cellsOf, splice, fieldTy, alen, apick, amax, amin, aload, headV, aparts, abuildSlice, elParts, abytesStr, astore, amake, aappend, aclear, anew, arith, aresults, aresList, ares, spec0, spec1, spec2, spec3, spec4, eqCells, eqCell, bI, sBin, ha', ha2, i1, i2, hn1, hna, hz, c1, c2, c3, w1, kn, hne, rowAt_enc hn1, rowAt_enc hz, hdI, hdl, pe, j2, sn, zs_set, r1, hR, resM]
      omega
end Go.Proofs.Ytpbgnnaaobamfaa

/-
  layer 33: Meet; the reference's seek and Meet.
-/
namespace Go.Proofs.Ytpbgnnaaobamfaa
open Go.RowKit
set_option linter.unusedSimpArgs false
set_option linter.unusedVariables false
set_option maxRecDepth 100000

theorem ix_map {α β : Type} [Inhabited α] [Inhabited β] {f : α → β} {l : List α} {i : Nat} (h : i < l.length) : ix (l.map f) i = f (ix l i) := by
  rw [ix_lt h, ix_lt (show i < (l.map f).length by rw [List.length_map]; exact h), List.getElem_map]
theorem take_snoc {α : Type} [Inhabited α] {l : List α} {k : Nat} (h : k < l.length) : l.take (k + 1) = l.take k ++ [ix l k] := by rw [List.take_succ_eq_append_getElem h, ix_lt h]
@[simp] theorem app_rowI (l : List (List Int)) (x : List Int) : encRows l ++ [[.slice 1 false (encRows x)]] = encRows (l ++ [x]) := (encRows_append l [x]).symm
def MeetIn (ls : List (List Int)) : Prop := ls.length ≤ 1000 ∧ ∀ l ∈ ls, l.length ≤ 10000
theorem meetIn_of {ls : List (List Int)} (h : MeetIn ls) : MeetPre (ls.map of) := by
  refine ⟨by rw [List.length_map]; exact h.1, fun l hl => ?_⟩
  obtain ⟨a, ha, rfl⟩ := List.mem_map.1 hl
  exact ⟨Nat.le_trans (of_len a) (h.2 a ha), of_sorted a⟩
theorem scal22 (C : Ctx) (h : C.P = Try.prog) : isScalT C 22 = false := by
  obtain ⟨P, S, G⟩ := C
  cases h
  show isScalT ⟨Try.prog, fun _ => .no, G0⟩ 22 = false
  kernel_rfl
noncomputable def CM1 : Ctx := mkC Try.prog G0 [(28, .pure sOf), (29, .frz sMeetI)]
@[simp] theorem CM1_P : CM1.P = Try.prog := rfl
@[simp] theorem CM1_G : CM1.G = G0 := rfl
@[simp] theorem CM1_1 : CM1.S 28 = .pure sOf := rfl
@[simp] theorem CM1_2 : CM1.S 29 = .frz sMeetI := rfl
theorem mixCM1 : CM1.P.follows .mixedOrders = true := mixed
theorem sigCM1 : SigOK CM1 := sigOK_cons (entryPure (ofP) Try.func28 rfl (by decide)) (sigOK_cons (entryFrz (meetP) Try.func29 rfl (by decide)) (sigOK_nil _ _))
def bR (l : List (List Int)) : Blk := ⟨25, 1, encRows l, true, true⟩
def sMeet : List AV → Option (Prop × AV) := spec1 MeetIn (fun ls => resM (meetF (ls.map of)))
theorem scalCM1 : isScalT CM1 22 = false := by show isScalT ⟨Try.prog, fun _ => .no, G0⟩ 22 = false; kernel_rfl
set_option maxHeartbeats 16000000 in
theorem meetT : PureOK Try.prog G0 11 sMeet := by
  refine pure1 (C := CM1) sigCM1 mixCM1 Try.func11 rfl rfl rfl (by kernel_rfl) (by decide) (fun ls hS => ?_)
  have hk := hS.1
  simp [aev, cav, look, acallPure, abin, abinN, abinP, abinI, abinS, aun, aconv, afield, afieldAddr, aindexAddr, aindex, aslice, alow, ahigh, abuild, abuildGo, cellsOf, splice, fieldTy, alen, apick, amax, amin, aload, headV, aparts, abuildSlice, elParts, abytesStr, astore, amake, aappend, aclear, anew, arith, aresults, aresList, ares, spec0, spec1, spec2, spec3, spec4, eqCells, eqCell]
  refine loop_rule (C := CM1) sigCM1 mixCM1 (fun i : Nat => ⟨[(4, .own 0 i), (7, Enc.enc ls), (8, .int .i64 ls.length), (9, .int .i64 i)], [bR ((ls.map of).take i)]⟩) (fun i => i ≤ ls.length) (fun i => ls.length - i) (by kernel_rfl) ⟨0, Nat.zero_le _, (weak_nil 4 1 25 rfl (by decide)).trans (weak_eq (by simp) (by simp [bR]))⟩ (fun i hi => ?_)
  have hlen : ((ls.map of).take i).length = i := by rw [List.length_take, List.length_map]; omega
  by_cases hlt : i < ls.length
  · have i1 : I64 ((i : Int) + 1) := by unfold I64; omega
    have sr : (ix ls i).length ≤ 10000 := hS.2 _ (ix_mem hlt)
    have sS : SmallR (ix ls i) := by unfold SmallR; omega
    have so : (of (ix ls i)).length ≤ 10000 := Nat.le_trans (of_len _) sr
    have e1 : (ls.map of).take (i + 1) = (ls.map of).take i ++ [of (ix ls i)] := by rw [take_snoc (by rw [List.length_map]; exact hlt), ix_map hlt]
    simp [aev, cav, look, acallPure, abin, abinN, abinP, abinI, abinS, aun, aconv, afield, afieldAddr, aindexAddr, aindex, aslice, alow, ahigh, abuild, abuildGo, cellsOf, splice, fieldTy, alen, apick, amax, amin, aload, headV, aparts, abuildSlice, elParts, abytesStr, astore, amake, aappend, aclear, anew, arith, aresults, aresList, ares, spec0, spec1, spec2, spec3, spec4, eqCells, eqCell, bR, sOf, hlt, rowAt_enc hlt, hlen, i1, sS, scalCM1]
    exact ⟨by omega, i + 1, by omega, by omega, weak_keep 1 (by simp) (by simp) (by simp [AV.clean, AV.clean1]) (by simp) (by simp [bR, e1])⟩
  · have e : i = ls.length := by omega
    subst e
    have e2 : (ls.map of).take ls.length = ls.map of := List.take_of_length_le (by rw [List.length_map]; exact Nat.le_refl _)
    have hp := meetIn_of hS
    rw [e2]
    simp [aev, cav, look, acallPure, abin, abinN, abinP, abinI, abinS, aun, aconv, afield, afieldAddr, aindexAddr, aindex, aslice, alow, ahigh, abuild, abuildGo, cellsOf, splice, fieldTy, alen, apick, amax, amin, aload, headV, aparts, abuildSlice, elParts, abytesStr, astore, amake, aappend, aclear, anew, arith, aresults, aresList, ares, spec0, spec1, spec2, spec3, spec4, eqCells, eqCell, bR, sMeetI, hlt, hp, resM]

def sSeek : List AV → Option (Prop × AV) := spec3 (fun (l : List Int) (p x : Int) => l.length ≤ 1000000 ∧ 0 ≤ p ∧ p ≤ l.length) (fun l p x => .int .i64 (seekP l p.toNat x))
set_option maxHeartbeats 8000000 in
theorem seekR : PureOK Try.prog G0 30 sSeek := by
  refine pure3 (C := CE) sigCE mixCE Try.func30 rfl rfl rfl (by kernel_rfl) (by decide) (fun l p x ⟨hl, hp0, hp⟩ => ?_)
  obtain ⟨p, rfl⟩ : ∃ n : Nat, p = n := ⟨p.toNat, by omega⟩
  have hp : p ≤ l.length := by omega
  simp [aev, cav, look, acallPure, abin, abinN, abinP, abinI, abinS, aun, aconv, afield, afieldAddr, aindexAddr, aindex, aslice, alow, ahigh, abuild, abuildGo, cellsOf, splice, fieldTy, alen, apick, amax, amin, aload, headV, aparts, abuildSlice, elParts, abytesStr, astore, amake, aappend, aclear, anew, arith, aresults, aresList, ares, spec0, spec1, spec2, spec3, spec4, eqCells, eqCell]
  refine loop_rule (C := CE) sigCE mixCE (fun i : Nat => ⟨[(0, Enc.enc l), (2, .int .i64 x), (7, .int .i64 i)], []⟩) (fun i => p ≤ i ∧ i ≤ seekP l p x) (fun i => l.length - i) (by kernel_rfl) ⟨p, ⟨Nat.le_refl _, seekP_ge _ _ _⟩, weak_slots (by simp)⟩ (fun i ⟨h1, h2⟩ => ?_)
  have h3 := seekP_le x hp
  by_cases hi : i < l.length
  · have i1 : I64 ((i : Int) + 1) := by unfold I64; omega
    by_cases hx : ix l i < x
    · have : i ≠ seekP l p x := by
        intro e
        have := seekP_after (l := l) (p := p) (x := x) (by omega)
        rw [← e] at this; omega
      simp [aev, cav, look, acallPure, abin, abinN, abinP, abinI, abinS, aun, aconv, afield, afieldAddr, aindexAddr, aindex, aslice, alow, ahigh, abuild, abuildGo, cellsOf, splice, fieldTy, alen, apick, amax, amin, aload, headV, aparts, abuildSlice, elParts, abytesStr, astore, amake, aappend, aclear, anew, arith, aresults, aresList, ares, spec0, spec1, spec2, spec3, spec4, eqCells, eqCell, hi, rowAt_enc hi, hx, i1]
      exact ⟨i + 1, ⟨by omega, by omega⟩, by omega, weak_slots (by simp)⟩
    · have e : i = seekP l p x := by
        apply Nat.le_antisymm h2
        apply Nat.le_of_not_lt; intro hc
        exact hx (seekP_before h1 hc)
      simp [aev, cav, look, acallPure, abin, abinN, abinP, abinI, abinS, aun, aconv, afield, afieldAddr, aindexAddr, aindex, aslice, alow, ahigh, abuild, abuildGo, cellsOf, splice, fieldTy, alen, apick, amax, amin, aload, headV, aparts, abuildSlice, elParts, abytesStr, astore, amake, aappend, aclear, anew, arith, aresults, aresList, ares, spec0, spec1, spec2, spec3, spec4, eqCells, eqCell, hi, rowAt_enc hi, hx, ← e]
  · have e : i = seekP l p x := by omega
    simp [aev, cav, look, acallPure, abin, abinN, abinP, abinI, abinS, aun, aconv, afield, afieldAddr, aindexAddr, aindex, aslice, alow, ahigh, abuild, abuildGo, cellsOf, splice, fieldTy, alen, apick, amax, amin, aload, headV, aparts, abuildSlice, elParts, abytesStr, astore, amake, aappend, aclear, anew, arith, aresults, aresList, ares, spec0, spec1, spec2, spec3, spec4, eqCells, eqCell, hi, ← e]
end Go.Proofs.Ytpbgnnaaobamfaa

/-
  layer 33: the reference's Meet.
-/
namespace Go.Proofs.Ytpbgnnaaobamfaa
open Go.RowKit
set_option linter.unusedSimpArgs false
set_option linter.unusedVariables false
set_option maxRecDepth 100000

noncomputable def CRm : Ctx := mkC Try.prog G0 [(14, .pure sOfR), (30, .pure sSeek)]
@[simp] theorem CRm_P : CRm.P = Try.prog := rfl
@[simp] theorem CRm_G : CRm.G = G0 := rfl
@[simp] theorem CRm_1 : CRm.S 14 = .pure sOfR := rfl
@[simp] theorem CRm_2 : CRm.S 30 = .pure sSeek := rfl
theorem mixCRm : CRm.P.follows .mixedOrders = true := mixed
theorem sigCRm : SigOK CRm := sigOK_cons (entryPure (ofR) Try.func14 rfl (by decide)) (sigOK_cons (entryPure (seekR) Try.func30 rfl (by decide)) (sigOK_nil _ _))
theorem scalCRm : isScalT CRm 22 = false := by show isScalT ⟨Try.prog, fun _ => .no, G0⟩ 22 = false; kernel_rfl
structure RunR (S : List (List Int)) (y : MSt × Nat) : Prop where
  mi : live S y.1 → ∃ q, MI S y.1 q
  run : meetN S y.2 y.1 = some (meetF S)
  len : y.1.ats.length = S.length
  i : y.1.i < S.length
  sk : y.1.seeks + y.2 ≤ fuelM S
  out : y.1.out.length ≤ 10000
set_option maxHeartbeats 32000000 in
theorem meetR : PureOK Try.prog G0 12 sMeet := by
  refine pure1 (C := CRm) sigCRm mixCRm Try.func12 rfl rfl rfl (by kernel_rfl) (by decide) (fun ls hL => ?_)
  have hk := hL.1
  obtain ⟨S, hSe⟩ : ∃ S, S = ls.map of := ⟨_, rfl⟩
  have hS : MeetPre S := by rw [hSe]; exact meetIn_of hL
  have hSl : S.length = ls.length := by rw [hSe, List.length_map]
  rw [← hSe]
  simp [aev, cav, look, acallPure, abin, abinN, abinP, abinI, abinS, aun, aconv, afield, afieldAddr, aindexAddr, aindex, aslice, alow, ahigh, abuild, abuildGo, cellsOf, splice, fieldTy, alen, apick, amax, amin, aload, headV, aparts, abuildSlice, elParts, abytesStr, astore, amake, aappend, aclear, anew, arith, aresults, aresList, ares, spec0, spec1, spec2, spec3, spec4, eqCells, eqCell]
  refine loop_rule (C := CRm) sigCRm mixCRm (fun i : Nat => ⟨[(0, Enc.enc ls), (4, .own 0 i), (5, .own 1 i), (6, .int .i64 i)], [bR (S.take i), bI (zs (List.replicate i 0))]⟩) (fun i => i ≤ ls.length) (fun i => ls.length - i) (by kernel_rfl) ⟨0, Nat.zero_le _, ((weak_nil 4 1 25 rfl (by decide)).trans (weak_nil 5 1 3 rfl (by decide))).trans (weak_eq (by simp) (by simp [bR, bI, zs]))⟩ (fun i hi => ?_)
  have hlen : (S.take i).length = i := by rw [List.length_take]; omega
  by_cases hlt : i < ls.length
  · have i1 : I64 ((i : Int) + 1) := by unfold I64; omega
    have sr : (ix ls i).length ≤ 10000 := hL.2 _ (ix_mem hlt)
    have sS : (ix ls i).length ≤ 900000 := by omega
    have e1 : S.take (i + 1) = S.take i ++ [of (ix ls i)] := by rw [take_snoc (by omega), hSe, ix_map hlt]
    have e3 : zs (List.replicate (i + 1) 0) = List.replicate i 0 ++ [0] := by rw [zs_rep, List.replicate_succ']
    simp [aev, cav, look, acallPure, abin, abinN, abinP, abinI, abinS, aun, aconv, afield, afieldAddr, aindexAddr, aindex, aslice, alow, ahigh, abuild, abuildGo, cellsOf, splice, fieldTy, alen, apick, amax, amin, aload, headV, aparts, abuildSlice, elParts, abytesStr, astore, amake, aappend, aclear, anew, arith, aresults, aresList, ares, spec0, spec1, spec2, spec3, spec4, eqCells, eqCell, bR, bI, sOfR, hlt, rowAt_enc hlt, hlen, i1, sS, scalCRm]
    exact ⟨by omega, by omega, i + 1, by omega, by omega, weak_keep 2 (by simp) (by simp) (by simp [AV.clean, AV.clean1]) (by simp) (by simp [bR, bI, e1, e3, zs_rep])⟩
  have e : i = ls.length := by omega
  have e2 : S.take i = S := List.take_of_length_le (by omega)
  have hF := fuel_le hS
  have hk0 := hS.1
  have hiS : i = S.length := by omega
  have hilt : ¬ S.length < ls.length := by omega
  clear hlen hi hlt
  subst hiS
  rcases em2 (S.length = 0) with h0 | h0
  · have h0' := of_eq_true h0
    have e : S = [] := List.length_eq_zero_iff.1 h0'
    have hm : meetF S = ([], 0) := by unfold meetF; rw [if_pos (.inl e)]
    rw [e2]
    simp [aev, cav, look, acallPure, abin, abinN, abinP, abinI, abinS, aun, aconv, afield, afieldAddr, aindexAddr, aindex, aslice, alow, ahigh, abuild, abuildGo, cellsOf, splice, fieldTy, alen, apick, amax, amin, aload, headV, aparts, abuildSlice, elParts, abytesStr, astore, amake, aappend, aclear, anew, arith, aresults, aresList, ares, spec0, spec1, spec2, spec3, spec4, eqCells, eqCell, bR, bI, hilt, h0, hm, resM]
  have h0' := of_eq_false h0
  have hne : S ≠ [] := fun e => h0' (by rw [e]; rfl)
  have hk0 : 0 < S.length := by omega
  rcases em2 ((ix S 0).length = 0) with h1 | h1
  · have e : ix S 0 = [] := List.length_eq_zero_iff.1 (of_eq_true h1)
    have hm : meetF S = ([], 0) := by unfold meetF; rw [if_pos (.inr e)]
    rw [e2]
    simp [aev, cav, look, acallPure, abin, abinN, abinP, abinI, abinS, aun, aconv, afield, afieldAddr, aindexAddr, aindex, aslice, alow, ahigh, abuild, abuildGo, cellsOf, splice, fieldTy, alen, apick, amax, amin, aload, headV, aparts, abuildSlice, elParts, abytesStr, astore, amake, aappend, aclear, anew, arith, aresults, aresList, ares, spec0, spec1, spec2, spec3, spec4, eqCells, eqCell, bR, bI, hilt, h0, hk0, rowAt_enc hk0, h1, hm, resM]
  have h1' := of_eq_false h1
  have hl0 : 0 < (ix S 0).length := by omega
  have hInc : ∀ l ∈ S, Inc l := fun l hl => (hS.2 l hl).2
  obtain ⟨hrun, hgood⟩ := meetF_run hInc hne (fun e => h1' (by rw [e]; rfl))
  obtain ⟨hi0, hl00⟩ := init_ok hInc hne (fun e => h1' (by rw [e]; rfl))
  rw [e2]
  simp [aev, cav, look, acallPure, abin, abinN, abinP, abinI, abinS, aun, aconv, afield, afieldAddr, aindexAddr, aindex, aslice, alow, ahigh, abuild, abuildGo, cellsOf, splice, fieldTy, alen, apick, amax, amin, aload, headV, aparts, abuildSlice, elParts, abytesStr, astore, amake, aappend, aclear, anew, arith, aresults, aresList, ares, spec0, spec1, spec2, spec3, spec4, eqCells, eqCell, bR, bI, hilt, h0, hk0, rowAt_enc hk0, h1, hl0, rowAt_enc hl0]
  refine loop_rule (C := CRm) sigCRm mixCRm (fun y : MSt × Nat => ⟨[(4, .own 0 S.length), (5, .own 1 S.length), (7, .own 2 y.1.out.length), (8, .int .i64 y.1.seeks), (9, .int .i64 y.1.x), (10, .int .i64 y.1.i), (11, .int .i64 y.1.agree)], [bR S, bI (zs y.1.ats), bI y.1.out]⟩) (RunR S) (fun y => y.2) (by kernel_rfl) ⟨(init S, fuelM S), ⟨fun _ => ⟨0, hi0⟩, hrun, by simp [init], hk0, Nat.le_of_eq (Nat.zero_add _), Nat.zero_le _⟩, (weak_nil 7 1 3 rfl (by decide)).trans (weak_eq (by simp [init]) (by simp [bR, bI, init, zs_rep]))⟩ (fun ⟨s, f⟩ hR => ?_)
  obtain ⟨hmi, hr, i2, i1, hb, ho⟩ := hR
  obtain ⟨ats, x, i, agree, seeks, out⟩ := s
  simp only at hmi hr i2 i1 hb ho ⊢
  have hia : i < ats.length := by omega
  have hz : i < (zs ats).length := by rw [zs_len]; exact hia
  by_cases hlv : live S ⟨ats, x, i, agree, seeks, out⟩
  case neg =>
    have hlv2 : ¬ ix ats i < (ix S i).length := hlv
    have hRd := run_done hlv hr
    have ck : ¬ (((ix ats i : Nat) : Int) < (ix S i).length) := by omega
    simp [aev, cav, look, acallPure, abin, abinN, abinP, abinI, abinS, aun, aconv, afield, afieldAddr, aindexAddr, aindex, aslice, alow, ahigh, abuild, abuildGo, cellsOf, splice, fieldTy, alen, apick, amax, amin, aload, headV, aparts, abuildSlice, elParts, abytesStr, astore, amake, aappend, aclear, anew, arith, aresults, aresList, ares, spec0, spec1, spec2, spec3, spec4, eqCells, eqCell, bR, bI, i1, hia, hz, rowAt_enc i1, rowAt_enc hz, i2, hlv2, ck, hRd, resM]
  obtain ⟨q, hI⟩ := hmi hlv
  obtain ⟨g, hg, hr2⟩ := run_step hlv hr
  subst hg
  clear hr
  have hr := hr2
  clear hr2
  unfold mstep at hr
  have hI2 := hI
  have hlv2 : ix ats i < (ix S i).length := hlv
  obtain ⟨_, _, i3, i4, i5, i6, i7, i8, i9, i10, i11, i12⟩ := hI2
  simp only at i3 i4 i5 i6 i7 i8 i9 i10 i11 i12 hr
  have hai : ix ats i ≤ 10000 := by have := (hS.2 _ (ix_mem i1)).1; omega
  have hol (c : Int) : (under S c).length ≤ 10000 := under_len hS hne c
  have hcm : (common S).length ≤ 10000 := by
    have h2 : (common S).length ≤ (ix S 0).length := List.length_filter_le _ _
    have h3 := (hS.2 _ (ix_mem hk0)).1
    omega
  rcases em2 (agree = S.length) with ha | ha
  · have ha' := of_eq_true ha
    rw [if_pos ha'] at hr
    obtain ⟨n1, n2⟩ := app_ok hInc hI hlv ha'
    obtain ⟨p, hp⟩ : ∃ p, p = ix ats i + 1 := ⟨_, rfl⟩
    have pe : ((ix ats i : Nat) : Int) + 1 = (p : Int) := by omega
    have j1 : I64 (p : Int) := by unfold I64; omega
    have r1 : rowAt (encRows (zs (ats.set i p))) i = [.int .i64 (p : Int)] := by
      rw [rowAt_enc (show i < (zs (ats.set i p)).length by rw [zs_len, List.length_set]; exact hia), zs_ix, ix_set, if_pos ⟨rfl, hia⟩]; rfl
    have ht : appS S ⟨ats, x, i, agree, seeks, out⟩ = ⟨ats.set i p, if p < (ix S i).length then ix (ix S i) p else x, i, 1, seeks, out ++ [x]⟩ := by rw [hp]; rfl
    simp only [ht] at hr n1 n2
    have hsp : ix (ats.set i p) i = p := by rw [ix_set, if_pos ⟨rfl, hia⟩]
    by_cases hpl : p < (ix S i).length
    · simp only [if_pos hpl] at hr n1 n2
      have hlv3 : live S ⟨ats.set i p, ix (ix S i) p, i, 1, seeks, out ++ [x]⟩ := by unfold live; simp only [hsp]; exact hpl
      obtain ⟨m1, m2⟩ := n1 hlv3
      have hol2 : (out ++ [x]).length ≤ 10000 := by
        have := m1.out; simp only at this; rw [this]; exact hol _
      simp [aev, cav, look, acallPure, abin, abinN, abinP, abinI, abinS, aun, aconv, afield, afieldAddr, aindexAddr, aindex, aslice, alow, ahigh, abuild, abuildGo, cellsOf, splice, fieldTy, alen, apick, amax, amin, aload, headV, aparts, abuildSlice, elParts, abytesStr, astore, amake, aappend, aclear, anew, arith, aresults, aresList, ares, spec0, spec1, spec2, spec3, spec4, eqCells, eqCell, bR, bI, ha', i1, i2, hia, hlv2, rowAt_enc i1, rowAt_enc hz, pe, j1, zs_set, r1, hpl, rowAt_enc hpl]
      exact ⟨by omega, ⟨ats.set i p, ix (ix S i) p, i, 1, seeks, out ++ [x]⟩, g, ⟨fun _ => ⟨q, m1⟩, hr, by simp [i2], i1, by simp only; omega, hol2⟩, by omega, weak_eq (by simp) (by simp [bR, bI])⟩
    · have hpe : p = (ix S i).length := by omega
      simp only [if_neg hpl] at hr n1 n2
      have hlv3 : ¬ live S ⟨ats.set i p, x, i, 1, seeks, out ++ [x]⟩ := by unfold live; simp only [hsp]; exact hpl
      have hol2 : (out ++ [x]).length ≤ 10000 := by have := (n2 hlv3).1; simp only at this; rw [this]; exact hcm
      simp [aev, cav, look, acallPure, abin, abinN, abinP, abinI, abinS, aun, aconv, afield, afieldAddr, aindexAddr, aindex, aslice, alow, ahigh, abuild, abuildGo, cellsOf, splice, fieldTy, alen, apick, amax, amin, aload, headV, aparts, abuildSlice, elParts, abytesStr, astore, amake, aappend, aclear, anew, arith, aresults, aresList, ares, spec0, spec1, spec2, spec3, spec4, eqCells, eqCell, bR, bI, ha', i1, i2, hia, hlv2, rowAt_enc i1, rowAt_enc hz, pe, j1, zs_set, r1, hpl]
      exact ⟨by omega, ⟨ats.set i p, x, i, 1, seeks, out ++ [x]⟩, g, ⟨fun h => absurd h hlv3, hr, by simp [i2], i1, by simp only; omega, hol2⟩, by omega, weak_eq (by simp) (by simp [bR, bI])⟩
  · have ha' := of_eq_false ha
    rw [if_neg ha'] at hr
    obtain ⟨n1, n2⟩ := sk_ok hInc hI hlv ha'
    obtain ⟨n, hn⟩ : ∃ n, n = (i + 1) % S.length := ⟨_, rfl⟩
    have hn1 : n < S.length := by rw [hn]; exact Nat.mod_lt _ hk0
    have c1 : I64 ((i : Int) + 1) := by unfold I64; omega
    have c2 : ((i : Int) + 1).tmod (S.length : Int) = (n : Int) := by rw [hn]; rfl
    have c3 : I64 (n : Int) := by unfold I64; omega
    have w1 : w64 (((i : Int) + 1).tmod (S.length : Int)) = (n : Int) := by rw [c2]; exact w64_in c3
    have hna : n < ats.length := by omega
    have hzn : n < (zs ats).length := by rw [zs_len]; exact hna
    have hln := (hS.2 _ (ix_mem hn1)).1
    have hIn := (hS.2 _ (ix_mem hn1)).2
    have hle := i5 n hn1
    have an : I64 ((agree : Int) + 1) := by unfold I64; omega
    have sn : I64 ((seeks : Int) + 1) := by unfold I64; omega
    have kn : ((S.length : Int) = 0) = False := eq_false (by omega)
    have hl6 : (ix S n).length ≤ 1000000 := by omega
    obtain ⟨p, hp⟩ : ∃ p, seekP (ix S n) (ix ats n) x = p := ⟨_, rfl⟩
    have j1 : I64 (p : Int) := by unfold I64; have := seekP_le x hle; omega
    have r1 : rowAt (encRows (zs (ats.set n p))) n = [.int .i64 (p : Int)] := by
      rw [rowAt_enc (show n < (zs (ats.set n p)).length by rw [zs_len, List.length_set]; exact hna), zs_ix, ix_set, if_pos ⟨rfl, hna⟩]; rfl
    have ht : skS S ⟨ats, x, i, agree, seeks, out⟩ = ⟨ats.set n p, if p < (ix S n).length then ix (ix S n) p else x, n, if p < (ix S n).length then (if ix (ix S n) p = x then agree + 1 else 1) else agree, seeks + 1, out⟩ := by rw [← hp, hn]; rfl
    simp only [ht] at hr n1 n2
    have hsp : ix (ats.set n p) n = p := by rw [ix_set, if_pos ⟨rfl, hna⟩]
    have ha2 : ((agree : Int) = S.length) = False := eq_false (by omega)
    by_cases hpl : p < (ix S n).length
    · simp only [if_pos hpl] at hr n1 n2
      rcases em2 (ix (ix S n) p = x) with e | e
      · have e' := of_eq_true e
        rw [if_pos e', e'] at hr n1
        have hlv3 : live S ⟨ats.set n p, x, n, agree + 1, seeks + 1, out⟩ := by unfold live; simp only [hsp]; exact hpl
        obtain ⟨q', m1, m2⟩ := n1 hlv3
        simp [aev, cav, look, acallPure, abin, abinN, abinP, abinI, abinS, aun, aconv, afield, afieldAddr, aindexAddr, aindex, aslice, alow, ahigh, abuild, abuildGo, cellsOf, splice, fieldTy, alen, apick, amax, amin, aload, headV, aparts, abuildSlice, elParts, abytesStr, astore, amake, aappend, aclear, anew, arith, aresults, aresList, ares, spec0, spec1, spec2, spec3, spec4, eqCells, eqCell, bR, bI, sSeek, ha', ha2, i1, i2, hia, hlv2, hn1, hna, hz, hzn, c1, c2, c3, w1, kn, hne, rowAt_enc i1, rowAt_enc hz, rowAt_enc hn1, rowAt_enc hzn, hle, hl6, hp, j1, sn, an, zs_set, r1, hpl, rowAt_enc hpl, e]
        exact ⟨⟨ats.set n p, x, n, agree + 1, seeks + 1, out⟩, g, ⟨fun _ => ⟨q', m1⟩, hr, by simp [i2], hn1, by simp only; omega, ho⟩, by omega, weak_eq (by simp) (by simp [bR, bI])⟩
      · have e' := of_eq_false e
        rw [if_neg e'] at hr n1
        have hlv3 : live S ⟨ats.set n p, ix (ix S n) p, n, 1, seeks + 1, out⟩ := by unfold live; simp only [hsp]; exact hpl
        obtain ⟨q', m1, m2⟩ := n1 hlv3
        simp [aev, cav, look, acallPure, abin, abinN, abinP, abinI, abinS, aun, aconv, afield, afieldAddr, aindexAddr, aindex, aslice, alow, ahigh, abuild, abuildGo, cellsOf, splice, fieldTy, alen, apick, amax, amin, aload, headV, aparts, abuildSlice, elParts, abytesStr, astore, amake, aappend, aclear, anew, arith, aresults, aresList, ares, spec0, spec1, spec2, spec3, spec4, eqCells, eqCell, bR, bI, sSeek, ha', ha2, i1, i2, hia, hlv2, hn1, hna, hz, hzn, c1, c2, c3, w1, kn, hne, rowAt_enc i1, rowAt_enc hz, rowAt_enc hn1, rowAt_enc hzn, hle, hl6, hp, j1, sn, an, zs_set, r1, hpl, rowAt_enc hpl, e]
        exact ⟨⟨ats.set n p, ix (ix S n) p, n, 1, seeks + 1, out⟩, g, ⟨fun _ => ⟨q', m1⟩, hr, by simp [i2], hn1, by simp only; omega, ho⟩, by omega, weak_eq (by simp) (by simp [bR, bI])⟩
    · simp only [if_neg hpl] at hr n1 n2
      have hlv3 : ¬ live S ⟨ats.set n p, x, n, agree, seeks + 1, out⟩ := by unfold live; simp only [hsp]; exact hpl
      simp [aev, cav, look, acallPure, abin, abinN, abinP, abinI, abinS, aun, aconv, afield, afieldAddr, aindexAddr, aindex, aslice, alow, ahigh, abuild, abuildGo, cellsOf, splice, fieldTy, alen, apick, amax, amin, aload, headV, aparts, abuildSlice, elParts, abytesStr, astore, amake, aappend, aclear, anew, arith, aresults, aresList, ares, spec0, spec1, spec2, spec3, spec4, eqCells, eqCell, bR, bI, sSeek, ha', ha2, i1, i2, hia, hlv2, hn1, hna, hz, hzn, c1, c2, c3, w1, kn, hne, rowAt_enc i1, rowAt_enc hz, rowAt_enc hn1, rowAt_enc hzn, hle, hl6, hp, j1, sn, zs_set, r1, hpl]
      exact ⟨⟨ats.set n p, x, n, agree, seeks + 1, out⟩, g, ⟨fun h => absurd h hlv3, hr, by simp [i2], hn1, by simp only; omega, ho⟩, by omega, weak_eq (by simp) (by simp [bR, bI])⟩
end Go.Proofs.Ytpbgnnaaobamfaa

/-
  layer 14: rows compared (after trie/T11).
-/
namespace Go.Proofs.Ytpbgnnaaobamfaa
open Go.RowKit
set_option linter.unusedSimpArgs false
set_option linter.unusedVariables false
set_option maxRecDepth 100000

/-- Two rows compared, place by place. -/
def cmpL : List Int → List Int → Int
  | [], [] => 0
  | [], _ :: _ => -1
  | _ :: _, [] => 1
  | a :: r, b :: q => if a < b then -1 else if b < a then 1 else cmpL r q
theorem cmpL_refl : ∀ a, cmpL a a = 0
  | [] => rfl
  | a :: r => by rw [cmpL, if_neg (Int.lt_irrefl a), if_neg (Int.lt_irrefl a), cmpL_refl r]
theorem cmpL_eq : ∀ {a b : List Int}, cmpL a b = 0 → a = b
  | [], [], _ => rfl
  | [], _ :: _, h => by cases h
  | _ :: _, [], h => by cases h
  | a :: r, b :: q, h => by
    rw [cmpL] at h
    split at h
    · cases h
    · split at h
      · cases h
      · rw [cmpL_eq h, show a = b by omega]
theorem cmpL_range : ∀ (a b : List Int), cmpL a b = -1 ∨ cmpL a b = 0 ∨ cmpL a b = 1
  | [], [] => .inr (.inl rfl)
  | [], _ :: _ => .inl rfl
  | _ :: _, [] => .inr (.inr rfl)
  | a :: r, b :: q => by
    rw [cmpL]
    split
    · exact .inl rfl
    · split
      · exact .inr (.inr rfl)
      · exact cmpL_range r q
theorem cmpL_swap : ∀ (a b : List Int), cmpL b a = - cmpL a b
  | [], [] => rfl
  | [], _ :: _ => rfl
  | _ :: _, [] => rfl
  | a :: r, b :: q => by
    rw [cmpL, cmpL]
    by_cases h1 : a < b
    · rw [if_pos h1, if_neg (by omega), if_pos h1]; rfl
    · by_cases h2 : b < a
      · rw [if_pos h2, if_neg h1, if_pos h2]
      · rw [if_neg h1, if_neg h2, if_neg h2, if_neg h1, cmpL_swap r q]
theorem cmpL_trans : ∀ {a b c : List Int}, cmpL a b < 0 → cmpL b c < 0 → cmpL a c < 0
  | [], [], _, h, _ => by cases h
  | [], _ :: _, [], _, h => by cases h
  | [], _ :: _, _ :: _, _, _ => by show (-1 : Int) < 0; decide
  | _ :: _, [], _, h, _ => by cases h
  | _ :: _, _ :: _, [], _, h => by cases h
  | a :: r, b :: q, c :: s, h1, h2 => by
    rw [cmpL] at h1 h2 ⊢
    split at h1
    · split at h2
      · rw [if_pos (by omega)]; decide
      · split at h2
        · cases h2
        · rw [if_pos (by omega)]; decide
    · split at h1
      · cases h1
      · split at h2
        · rw [if_pos (by omega)]; decide
        · split at h2
          · cases h2
          · rw [if_neg (by omega), if_neg (by omega)]
            exact cmpL_trans h1 h2
theorem cmpL_drop {a b : List Int} {i : Nat} (ha : i < a.length) (hb : i < b.length) : cmpL (a.drop i) (b.drop i) = if ix a i < ix b i then -1 else if ix b i < ix a i then 1 else cmpL (a.drop (i + 1)) (b.drop (i + 1)) := by
  rw [List.drop_eq_getElem_cons ha, List.drop_eq_getElem_cons hb, cmpL, ix_lt ha, ix_lt hb]
theorem cmpL_left {a b : List Int} {i : Nat} (ha : i < a.length) (hb : b.length ≤ i) : cmpL (a.drop i) (b.drop i) = 1 := by
  rw [List.drop_eq_getElem_cons ha, List.drop_eq_nil_of_le hb, cmpL]
theorem cmpL_right {a b : List Int} {i : Nat} (ha : a.length ≤ i) (hb : i < b.length) : cmpL (a.drop i) (b.drop i) = -1 := by
  rw [List.drop_eq_getElem_cons hb, List.drop_eq_nil_of_le ha, cmpL]
theorem cmpL_none {a b : List Int} {i : Nat} (ha : a.length ≤ i) (hb : b.length ≤ i) : cmpL (a.drop i) (b.drop i) = 0 := by
  rw [List.drop_eq_nil_of_le hb, List.drop_eq_nil_of_le ha, cmpL]

def sCmp : List AV → Option (Prop × AV) := spec2 (fun (a b : List Int) => SmallR a ∧ SmallR b) (fun a b => .int .i64 (cmpL a b))
set_option maxHeartbeats 8000000 in
theorem cmpR : PureOK Try.prog G0 48 sCmp := by
  refine pure2 (C := CE) sigCE mixCE Try.func48 rfl rfl rfl (by kernel_rfl) (by decide) (fun a b ⟨ha, hb⟩ => ?_)
  unfold SmallR at ha hb
  simp [aev, cav, look, acallPure, abin, abinN, abinP, abinI, abinS, aun, aconv, afield, afieldAddr, aindexAddr, aindex, aslice, alow, ahigh, abuild, abuildGo, cellsOf, splice, fieldTy, alen, apick, amax, amin, aload, headV, aparts, abuildSlice, elParts, abytesStr, astore, amake, aappend, aclear, anew, arith, aresults, aresList, ares, spec0, spec1, spec2, spec3, spec4, eqCells, eqCell]
  refine loop_rule (C := CE) sigCE mixCE (fun i : Nat => ⟨[(0, Enc.enc a), (1, Enc.enc b), (5, .int .i64 i)], []⟩) (fun i => i ≤ a.length ∧ i ≤ b.length ∧ cmpL (a.drop i) (b.drop i) = cmpL a b) (fun i => a.length - i) (by kernel_rfl) ⟨0, ⟨by omega, by omega, rfl⟩, weak_slots (by simp)⟩ (fun i ⟨h1, h2, h3⟩ => ?_)
  by_cases ia : i < a.length
  · by_cases ib : i < b.length
    · have i1 : I64 ((i : Int) + 1) := by unfold I64; omega
      rw [cmpL_drop ia ib] at h3
      by_cases x1 : ix a i < ix b i
      · rw [if_pos x1] at h3
        simp [aev, cav, look, acallPure, abin, abinN, abinP, abinI, abinS, aun, aconv, afield, afieldAddr, aindexAddr, aindex, aslice, alow, ahigh, abuild, abuildGo, cellsOf, splice, fieldTy, alen, apick, amax, amin, aload, headV, aparts, abuildSlice, elParts, abytesStr, astore, amake, aappend, aclear, anew, arith, aresults, aresList, ares, spec0, spec1, spec2, spec3, spec4, eqCells, eqCell, ia, ib, rowAt_enc ia, rowAt_enc ib, x1, ← h3]
      · by_cases x2 : ix b i < ix a i
        · rw [if_neg x1, if_pos x2] at h3
          simp [aev, cav, look, acallPure, abin, abinN, abinP, abinI, abinS, aun, aconv, afield, afieldAddr, aindexAddr, aindex, aslice, alow, ahigh, abuild, abuildGo, cellsOf, splice, fieldTy, alen, apick, amax, amin, aload, headV, aparts, abuildSlice, elParts, abytesStr, astore, amake, aappend, aclear, anew, arith, aresults, aresList, ares, spec0, spec1, spec2, spec3, spec4, eqCells, eqCell, ia, ib, rowAt_enc ia, rowAt_enc ib, x1, x2, ← h3]
        · rw [if_neg x1, if_neg x2] at h3
          simp [aev, cav, look, acallPure, abin, abinN, abinP, abinI, abinS, aun, aconv, afield, afieldAddr, aindexAddr, aindex, aslice, alow, ahigh, abuild, abuildGo, cellsOf, splice, fieldTy, alen, apick, amax, amin, aload, headV, aparts, abuildSlice, elParts, abytesStr, astore, amake, aappend, aclear, anew, arith, aresults, aresList, ares, spec0, spec1, spec2, spec3, spec4, eqCells, eqCell, ia, ib, rowAt_enc ia, rowAt_enc ib, x1, x2, i1]
          exact ⟨i + 1, ⟨by omega, by omega, h3⟩, by omega, weak_slots (by simp)⟩
    · rw [cmpL_left ia (by omega)] at h3
      have l1 : ¬ a.length < b.length := by omega
      have l2 : b.length < a.length := by omega
      simp [aev, cav, look, acallPure, abin, abinN, abinP, abinI, abinS, aun, aconv, afield, afieldAddr, aindexAddr, aindex, aslice, alow, ahigh, abuild, abuildGo, cellsOf, splice, fieldTy, alen, apick, amax, amin, aload, headV, aparts, abuildSlice, elParts, abytesStr, astore, amake, aappend, aclear, anew, arith, aresults, aresList, ares, spec0, spec1, spec2, spec3, spec4, eqCells, eqCell, ia, ib, l1, l2, ← h3]
  · by_cases ib : i < b.length
    · rw [cmpL_right (by omega) ib] at h3
      have l1 : a.length < b.length := by omega
      simp [aev, cav, look, acallPure, abin, abinN, abinP, abinI, abinS, aun, aconv, afield, afieldAddr, aindexAddr, aindex, aslice, alow, ahigh, abuild, abuildGo, cellsOf, splice, fieldTy, alen, apick, amax, amin, aload, headV, aparts, abuildSlice, elParts, abytesStr, astore, amake, aappend, aclear, anew, arith, aresults, aresList, ares, spec0, spec1, spec2, spec3, spec4, eqCells, eqCell, ia, ib, l1, ← h3]
    · rw [cmpL_none (by omega) (by omega)] at h3
      have l1 : ¬ a.length < b.length := by omega
      have l2 : ¬ b.length < a.length := by omega
      simp [aev, cav, look, acallPure, abin, abinN, abinP, abinI, abinS, aun, aconv, afield, afieldAddr, aindexAddr, aindex, aslice, alow, ahigh, abuild, abuildGo, cellsOf, splice, fieldTy, alen, apick, amax, amin, aload, headV, aparts, abuildSlice, elParts, abytesStr, astore, amake, aappend, aclear, anew, arith, aresults, aresList, ares, spec0, spec1, spec2, spec3, spec4, eqCells, eqCell, ia, ib, l1, l2, ← h3]

def cmp1 (a b : Int) : Int := if a < b then -1 else if b < a then 1 else 0
def sCmp1 : List AV → Option (Prop × AV) := spec2 (fun (_ _ : Int) => True) (fun a b => .int .i64 (cmp1 a b))
theorem cmp1P : PureOK Try.prog G0 66 sCmp1 := by
  refine pure2 (C := CL1) sigCL1 mixCL1 Try.func66 rfl rfl rfl (by kernel_rfl) (by decide) (fun a b _ => ?_)
  by_cases x1 : a < b
  · have e : cmp1 a b = -1 := by unfold cmp1; rw [if_pos x1]
    simp [aev, cav, look, acallPure, abin, abinN, abinP, abinI, abinS, aun, aconv, afield, afieldAddr, aindexAddr, aindex, aslice, alow, ahigh, abuild, abuildGo, cellsOf, splice, fieldTy, alen, apick, amax, amin, aload, headV, aparts, abuildSlice, elParts, abytesStr, astore, amake, aappend, aclear, anew, arith, aresults, aresList, ares, spec0, spec1, spec2, spec3, spec4, eqCells, eqCell, isNaNs, x1, e]
  · by_cases x2 : b < a
    · have e : cmp1 a b = 1 := by unfold cmp1; rw [if_neg x1, if_pos x2]
      simp [aev, cav, look, acallPure, abin, abinN, abinP, abinI, abinS, aun, aconv, afield, afieldAddr, aindexAddr, aindex, aslice, alow, ahigh, abuild, abuildGo, cellsOf, splice, fieldTy, alen, apick, amax, amin, aload, headV, aparts, abuildSlice, elParts, abytesStr, astore, amake, aappend, aclear, anew, arith, aresults, aresList, ares, spec0, spec1, spec2, spec3, spec4, eqCells, eqCell, isNaNs, x1, x2, e]
    · have e : cmp1 a b = 0 := by unfold cmp1; rw [if_neg x1, if_neg x2]
      simp [aev, cav, look, acallPure, abin, abinN, abinP, abinI, abinS, aun, aconv, afield, afieldAddr, aindexAddr, aindex, aslice, alow, ahigh, abuild, abuildGo, cellsOf, splice, fieldTy, alen, apick, amax, amin, aload, headV, aparts, abuildSlice, elParts, abytesStr, astore, amake, aappend, aclear, anew, arith, aresults, aresList, ares, spec0, spec1, spec2, spec3, spec4, eqCells, eqCell, isNaNs, x1, x2, e]
noncomputable def CC2 : Ctx := mkC Try.prog G0 [(66, .pure sCmp1)]
@[simp] theorem CC2_P : CC2.P = Try.prog := rfl
@[simp] theorem CC2_1 : CC2.S 66 = .pure sCmp1 := rfl
theorem mixCC2 : CC2.P.follows .mixedOrders = true := mixed
theorem sigCC2 : SigOK CC2 := sigOK_cons (entryPure cmp1P Try.func66 rfl (by decide)) (sigOK_nil _ _)
set_option maxHeartbeats 8000000 in
theorem compareP : PureOK Try.prog G0 55 sCmp := by
  refine pure2 (C := CC2) sigCC2 mixCC2 Try.func55 rfl rfl rfl (by kernel_rfl) (by decide) (fun a b ⟨ha, hb⟩ => ?_)
  unfold SmallR at ha hb
  simp [aev, cav, look, acallPure, abin, abinN, abinP, abinI, abinS, aun, aconv, afield, afieldAddr, aindexAddr, aindex, aslice, alow, ahigh, abuild, abuildGo, cellsOf, splice, fieldTy, alen, apick, amax, amin, aload, headV, aparts, abuildSlice, elParts, abytesStr, astore, amake, aappend, aclear, anew, arith, aresults, aresList, ares, spec0, spec1, spec2, spec3, spec4, eqCells, eqCell]
  refine loop_rule (C := CC2) sigCC2 mixCC2 (fun i : Nat => ⟨[(0, Enc.enc a), (1, Enc.enc b), (9, Enc.enc a), (10, .int .i64 a.length), (11, .int .i64 i)], []⟩) (fun i => i ≤ a.length ∧ i ≤ b.length ∧ cmpL (a.drop i) (b.drop i) = cmpL a b) (fun i => a.length - i) (by kernel_rfl) ⟨0, ⟨by omega, by omega, rfl⟩, weak_slots (by simp)⟩ (fun i ⟨h1, h2, h3⟩ => ?_)
  by_cases ia : i < a.length
  · by_cases ib : i < b.length
    · have i1 : I64 ((i : Int) + 1) := by unfold I64; omega
      have nb : ¬ b.length ≤ i := by omega
      rw [cmpL_drop ia ib] at h3
      by_cases x1 : ix a i < ix b i
      · have e : cmp1 (ix a i) (ix b i) = -1 := by unfold cmp1; rw [if_pos x1]
        rw [if_pos x1] at h3
        simp [aev, cav, look, acallPure, abin, abinN, abinP, abinI, abinS, aun, aconv, afield, afieldAddr, aindexAddr, aindex, aslice, alow, ahigh, abuild, abuildGo, cellsOf, splice, fieldTy, alen, apick, amax, amin, aload, headV, aparts, abuildSlice, elParts, abytesStr, astore, amake, aappend, aclear, anew, arith, aresults, aresList, ares, spec0, spec1, spec2, spec3, spec4, eqCells, eqCell, sCmp1, ia, ib, nb, rowAt_enc ia, rowAt_enc ib, e, ← h3]
      · by_cases x2 : ix b i < ix a i
        · have e : cmp1 (ix a i) (ix b i) = 1 := by unfold cmp1; rw [if_neg x1, if_pos x2]
          rw [if_neg x1, if_pos x2] at h3
          simp [aev, cav, look, acallPure, abin, abinN, abinP, abinI, abinS, aun, aconv, afield, afieldAddr, aindexAddr, aindex, aslice, alow, ahigh, abuild, abuildGo, cellsOf, splice, fieldTy, alen, apick, amax, amin, aload, headV, aparts, abuildSlice, elParts, abytesStr, astore, amake, aappend, aclear, anew, arith, aresults, aresList, ares, spec0, spec1, spec2, spec3, spec4, eqCells, eqCell, sCmp1, ia, ib, nb, rowAt_enc ia, rowAt_enc ib, e, ← h3]
        · have e : cmp1 (ix a i) (ix b i) = 0 := by unfold cmp1; rw [if_neg x1, if_neg x2]
          rw [if_neg x1, if_neg x2] at h3
          simp [aev, cav, look, acallPure, abin, abinN, abinP, abinI, abinS, aun, aconv, afield, afieldAddr, aindexAddr, aindex, aslice, alow, ahigh, abuild, abuildGo, cellsOf, splice, fieldTy, alen, apick, amax, amin, aload, headV, aparts, abuildSlice, elParts, abytesStr, astore, amake, aappend, aclear, anew, arith, aresults, aresList, ares, spec0, spec1, spec2, spec3, spec4, eqCells, eqCell, sCmp1, ia, ib, nb, rowAt_enc ia, rowAt_enc ib, e, i1]
          exact ⟨i + 1, ⟨by omega, by omega, h3⟩, by omega, weak_slots (by simp)⟩
    · rw [cmpL_left ia (by omega)] at h3
      have nb : b.length ≤ i := by omega
      simp [aev, cav, look, acallPure, abin, abinN, abinP, abinI, abinS, aun, aconv, afield, afieldAddr, aindexAddr, aindex, aslice, alow, ahigh, abuild, abuildGo, cellsOf, splice, fieldTy, alen, apick, amax, amin, aload, headV, aparts, abuildSlice, elParts, abytesStr, astore, amake, aappend, aclear, anew, arith, aresults, aresList, ares, spec0, spec1, spec2, spec3, spec4, eqCells, eqCell, ia, ib, nb, rowAt_enc ia, ← h3]
  · by_cases ib : i < b.length
    · rw [cmpL_right (by omega) ib] at h3
      have l1 : a.length < b.length := by omega
      simp [aev, cav, look, acallPure, abin, abinN, abinP, abinI, abinS, aun, aconv, afield, afieldAddr, aindexAddr, aindex, aslice, alow, ahigh, abuild, abuildGo, cellsOf, splice, fieldTy, alen, apick, amax, amin, aload, headV, aparts, abuildSlice, elParts, abytesStr, astore, amake, aappend, aclear, anew, arith, aresults, aresList, ares, spec0, spec1, spec2, spec3, spec4, eqCells, eqCell, ia, ib, l1, ← h3]
    · rw [cmpL_none (by omega) (by omega)] at h3
      have l1 : ¬ a.length < b.length := by omega
      simp [aev, cav, look, acallPure, abin, abinN, abinP, abinI, abinS, aun, aconv, afield, afieldAddr, aindexAddr, aindex, aslice, alow, ahigh, abuild, abuildGo, cellsOf, splice, fieldTy, alen, apick, amax, amin, aload, headV, aparts, abuildSlice, elParts, abytesStr, astore, amake, aappend, aclear, anew, arith, aresults, aresList, ares, spec0, spec1, spec2, spec3, spec4, eqCells, eqCell, ia, ib, l1, ← h3]

def sEq : List AV → Option (Prop × AV) := spec2 (fun (a b : List Int) => SmallR a ∧ SmallR b) (fun a b => .bool (decide (a = b)))
set_option maxHeartbeats 8000000 in
theorem equalP : PureOK Try.prog G0 78 sEq := by
  refine pure2 (C := CE) sigCE mixCE Try.func78 rfl rfl rfl (by kernel_rfl) (by decide) (fun a b ⟨ha, hb⟩ => ?_)
  unfold SmallR at ha hb
  rcases em2 ((a.length : Int) = b.length) with hl | hl
  case inr =>
    have hd : (a = b) = False := eq_false fun h => of_eq_false hl (by rw [h])
    simp [aev, cav, look, acallPure, abin, abinN, abinP, abinI, abinS, aun, aconv, afield, afieldAddr, aindexAddr, aindex, aslice, alow, ahigh, abuild, abuildGo, cellsOf, splice, fieldTy, alen, apick, amax, amin, aload, headV, aparts, abuildSlice, elParts, abytesStr, astore, amake, aappend, aclear, anew, arith, aresults, aresList, ares, spec0, spec1, spec2, spec3, spec4, eqCells, eqCell, hl, hd]
  have hl' : a.length = b.length := by have := of_eq_true hl; omega
  simp [aev, cav, look, acallPure, abin, abinN, abinP, abinI, abinS, aun, aconv, afield, afieldAddr, aindexAddr, aindex, aslice, alow, ahigh, abuild, abuildGo, cellsOf, splice, fieldTy, alen, apick, amax, amin, aload, headV, aparts, abuildSlice, elParts, abytesStr, astore, amake, aappend, aclear, anew, arith, aresults, aresList, ares, spec0, spec1, spec2, spec3, spec4, eqCells, eqCell, hl]
  refine loop_rule (C := CE) sigCE mixCE (fun i : Nat => ⟨[(0, Enc.enc a), (1, Enc.enc b), (12, .int .i64 a.length), (13, .int .i64 i)], []⟩) (fun i => i ≤ a.length ∧ a.take i = b.take i) (fun i => a.length - i) (by kernel_rfl) ⟨0, ⟨by omega, rfl⟩, weak_slots (by simp)⟩ (fun i ⟨h1, h2⟩ => ?_)
  by_cases ia : i < a.length
  · have ib : i < b.length := by omega
    have i1 : I64 ((i : Int) + 1) := by unfold I64; omega
    rcases em2 (ix a i = ix b i) with x | x
    · simp [aev, cav, look, acallPure, abin, abinN, abinP, abinI, abinS, aun, aconv, afield, afieldAddr, aindexAddr, aindex, aslice, alow, ahigh, abuild, abuildGo, cellsOf, splice, fieldTy, alen, apick, amax, amin, aload, headV, aparts, abuildSlice, elParts, abytesStr, astore, amake, aappend, aclear, anew, arith, aresults, aresList, ares, spec0, spec1, spec2, spec3, spec4, eqCells, eqCell, ia, ib, rowAt_enc ia, rowAt_enc ib, x, i1]
      refine ⟨i + 1, ⟨by omega, ?_⟩, by omega, weak_slots (by simp)⟩
      rw [List.take_succ_eq_append_getElem ia, List.take_succ_eq_append_getElem ib, h2, ← ix_lt ia, ← ix_lt ib, of_eq_true x]
    · have hd : (a = b) = False := eq_false fun h => of_eq_false x (by rw [h])
      simp [aev, cav, look, acallPure, abin, abinN, abinP, abinI, abinS, aun, aconv, afield, afieldAddr, aindexAddr, aindex, aslice, alow, ahigh, abuild, abuildGo, cellsOf, splice, fieldTy, alen, apick, amax, amin, aload, headV, aparts, abuildSlice, elParts, abytesStr, astore, amake, aappend, aclear, anew, arith, aresults, aresList, ares, spec0, spec1, spec2, spec3, spec4, eqCells, eqCell, ia, ib, rowAt_enc ia, rowAt_enc ib, x, hd]
  · have hd : (a = b) = True := eq_true (by rwa [List.take_of_length_le (by omega), List.take_of_length_le (by omega)] at h2)
    simp [aev, cav, look, acallPure, abin, abinN, abinP, abinI, abinS, aun, aconv, afield, afieldAddr, aindexAddr, aindex, aslice, alow, ahigh, abuild, abuildGo, cellsOf, splice, fieldTy, alen, apick, amax, amin, aload, headV, aparts, abuildSlice, elParts, abytesStr, astore, amake, aappend, aclear, anew, arith, aresults, aresList, ares, spec0, spec1, spec2, spec3, spec4, eqCells, eqCell, ia, hd]

def SmallRs (l : List (List Int)) : Prop := l.length ≤ 9223372036854775807 ∧ ∀ r ∈ l, SmallR r
end Go.Proofs.Ytpbgnnaaobamfaa

/-
  layer 14: which relations are checked (after trie/T12).
-/
namespace Go.Proofs.Ytpbgnnaaobamfaa
open Go.RowKit
set_option linter.unusedSimpArgs false
set_option linter.unusedVariables false
set_option maxRecDepth 100000

def LenAll (rows : List (List Int)) (n : Int) : Prop := ∀ r ∈ rows, (r.length : Int) = n
open Classical in
noncomputable def lenB (rows : List (List Int)) (n : Int) : Bool := decide (LenAll rows n)
open Classical in
theorem lenB_yes {rows : List (List Int)} {n : Int} (h : LenAll rows n) : lenB rows n = true := by unfold lenB; exact decide_eq_true h
open Classical in
theorem lenB_no {rows : List (List Int)} {n : Int} (h : ¬ LenAll rows n) : lenB rows n = false := by unfold lenB; exact decide_eq_false h

def sClos : List AV → Option (Prop × AV)
  | [a, .iptr [.int .i64 n]] => some (nrmV a = Enc.enc (Enc.dec a : List Int) ∧ SmallR (Enc.dec a : List Int), .bool (decide (((Enc.dec a : List Int).length : Int) = n)))
  | _ => none
@[simp] theorem sClos_eq (a : AV) (n : Int) : sClos [a, .iptr [.int .i64 n]] = some (nrmV a = Enc.enc (Enc.dec a : List Int) ∧ SmallR (Enc.dec a : List Int), .bool (decide (((Enc.dec a : List Int).length : Int) = n))) := rfl
theorem closP : PureOK Try.prog G0 65 sClos :=
  pure_of (C := CE) sigCE mixCE Try.func65 rfl rfl rfl (by kernel_rfl) fun avs ob r hp hob => by
    unfold sClos at hp
    split at hp
    · rename_i a n
      injection hp with hp; injection hp with e1 e2; subst e1 e2
      refine ⟨Nat.le_of_ble_eq_true rfl, ?_⟩
      obtain ⟨h1, h2⟩ := hob
      generalize (Enc.dec a : List Int) = l at h1 h2 ⊢
      have hl : l.length ≤ 1000000 := h2
      show avc CE _ 0 _ ⟨[(0, nrmV a), (1, .iptr [.int .i64 n])], []⟩ _
      rw [h1]
      simp [aev, cav, look, acallPure, abin, abinN, abinP, abinI, abinS, aun, aconv, afield, afieldAddr, aindexAddr, aindex, aslice, alow, ahigh, abuild, abuildGo, cellsOf, splice, fieldTy, alen, apick, amax, amin, aload, headV, aparts, abuildSlice, elParts, abytesStr, astore, amake, aappend, aclear, anew, arith, aresults, aresList, ares, spec0, spec1, spec2, spec3, spec4, eqCells, eqCell]
    · cases hp
noncomputable def CA1 : Ctx := mkC Try.prog G0 [(65, .pure sClos)]
@[simp] theorem CA1_P : CA1.P = Try.prog := rfl
@[simp] theorem CA1_1 : CA1.S 65 = .pure sClos := rfl
theorem mixCA1 : CA1.P.follows .mixedOrders = true := mixed
theorem sigCA1 : SigOK CA1 := sigOK_cons (entryPure closP Try.func65 rfl (by decide)) (sigOK_nil _ _)
noncomputable def sAll : List AV → Option (Prop × AV)
  | [a, .fn f [.iptr [.int .i64 n]]] => if f = 65 then some (nrmV a = Enc.enc (Enc.dec a : List (List Int)) ∧ SmallRs (Enc.dec a : List (List Int)), .bool (lenB (Enc.dec a) n)) else none
  | _ => none
@[simp] theorem sAll_eq (a : AV) (n : Int) : sAll [a, .fn 65 [.iptr [.int .i64 n]]] = some (nrmV a = Enc.enc (Enc.dec a : List (List Int)) ∧ SmallRs (Enc.dec a : List (List Int)), .bool (lenB (Enc.dec a) n)) := rfl
set_option maxHeartbeats 8000000 in
theorem allP : PureOK Try.prog G0 64 sAll :=
  pure_of (C := CA1) sigCA1 mixCA1 Try.func64 rfl rfl rfl (by kernel_rfl) fun avs ob r hp hob => by
    unfold sAll at hp
    split at hp
    · rename_i a f n
      split at hp
      · rename_i hf
        subst hf
        injection hp with hp; injection hp with e1 e2; subst e1 e2
        refine ⟨Nat.le_of_ble_eq_true rfl, ?_⟩
        obtain ⟨h1, h2⟩ := hob
        generalize (Enc.dec a : List (List Int)) = l at h1 h2 ⊢
        obtain ⟨hl, hl2⟩ := h2
        show avc CA1 _ 0 _ ⟨[(0, nrmV a), (1, .fn 65 [.iptr [.int .i64 n]])], []⟩ _
        rw [h1]
        simp [aev, cav, look, acallPure, abin, abinN, abinP, abinI, abinS, aun, aconv, afield, afieldAddr, aindexAddr, aindex, aslice, alow, ahigh, abuild, abuildGo, cellsOf, splice, fieldTy, alen, apick, amax, amin, aload, headV, aparts, abuildSlice, elParts, abytesStr, astore, amake, aappend, aclear, anew, arith, aresults, aresList, ares, spec0, spec1, spec2, spec3, spec4, eqCells, eqCell]
        refine loop_rule (C := CA1) sigCA1 mixCA1 (fun i : Nat => ⟨[(1, .fn 65 [.iptr [.int .i64 n]]), (7, Enc.enc l), (8, .int .i64 l.length), (9, .int .i64 i)], []⟩) (fun i => i ≤ l.length ∧ ∀ j, j < i → ((ix l j).length : Int) = n) (fun i => l.length - i) (by kernel_rfl) ⟨0, ⟨by omega, fun j hj => by omega⟩, weak_slots (by simp)⟩ (fun i ⟨h3, h4⟩ => ?_)
        by_cases hi : i < l.length
        · have i1 : I64 ((i : Int) + 1) := by unfold I64; omega
          have sa := hl2 _ (ix_mem hi)
          rcases em2 (((ix l i).length : Int) = n) with e | e
          · simp [aev, cav, look, acallPure, abin, abinN, abinP, abinI, abinS, aun, aconv, afield, afieldAddr, aindexAddr, aindex, aslice, alow, ahigh, abuild, abuildGo, cellsOf, splice, fieldTy, alen, apick, amax, amin, aload, headV, aparts, abuildSlice, elParts, abytesStr, astore, amake, aappend, aclear, anew, arith, aresults, aresList, ares, spec0, spec1, spec2, spec3, spec4, eqCells, eqCell, hi, rowAt_enc hi, sa, e, i1]
            exact ⟨i + 1, ⟨by omega, fun j hj => by
              rcases Nat.lt_or_eq_of_le (Nat.le_of_lt_succ hj) with h | rfl
              · exact h4 j h
              · exact of_eq_true e⟩, by omega, weak_slots (by simp)⟩
          · have hB : lenB l n = false := lenB_no fun h => of_eq_false e (h _ (ix_mem hi))
            simp [aev, cav, look, acallPure, abin, abinN, abinP, abinI, abinS, aun, aconv, afield, afieldAddr, aindexAddr, aindex, aslice, alow, ahigh, abuild, abuildGo, cellsOf, splice, fieldTy, alen, apick, amax, amin, aload, headV, aparts, abuildSlice, elParts, abytesStr, astore, amake, aappend, aclear, anew, arith, aresults, aresList, ares, spec0, spec1, spec2, spec3, spec4, eqCells, eqCell, hi, rowAt_enc hi, sa, e, hB]
        · have hB : lenB l n = true := lenB_yes fun r hr => by
            obtain ⟨j, hj, rfl⟩ := List.getElem_of_mem hr
            rw [← ix_lt hj]
            exact h4 j (by omega)
          simp [aev, cav, look, acallPure, abin, abinN, abinP, abinI, abinS, aun, aconv, afield, afieldAddr, aindexAddr, aindex, aslice, alow, ahigh, abuild, abuildGo, cellsOf, splice, fieldTy, alen, apick, amax, amin, aload, headV, aparts, abuildSlice, elParts, abytesStr, astore, amake, aappend, aclear, anew, arith, aresults, aresList, ares, spec0, spec1, spec2, spec3, spec4, eqCells, eqCell, hi, hB]
      · cases hp
    · cases hp

def WideR (n : Int) (rows : List (List Int)) : Prop := 1 ≤ n ∧ n ≤ 8 ∧ LenAll rows n
open Classical in
noncomputable def shapeF (n : Int) (rows : List (List Int)) : Int := if WideR n rows then 0 else 1
noncomputable def CP1 : Ctx := mkC Try.prog G0 [(64, .pure sAll)]
@[simp] theorem CP1_P : CP1.P = Try.prog := rfl
@[simp] theorem CP1_1 : CP1.S 64 = .pure sAll := rfl
theorem mixCP1 : CP1.P.follows .mixedOrders = true := mixed
theorem sigCP1 : SigOK CP1 := sigOK_cons (entryPure allP Try.func64 rfl (by decide)) (sigOK_nil _ _)
noncomputable def sShape : List AV → Option (Prop × AV) := spec2 (fun (n : Int) (l : List (List Int)) => SmallRs l) (fun n l => .int .i64 (shapeF n l))
set_option maxHeartbeats 8000000 in
theorem shapeP : PureOK Try.prog G0 54 sShape := by
  refine pure2 (C := CP1) sigCP1 mixCP1 Try.func54 rfl rfl rfl (by kernel_rfl) (by decide) (fun n l hl => ?_)
  by_cases h1 : n < 1
  · have e : shapeF n l = 1 := by unfold shapeF; rw [if_neg (fun h => by have := h.1; omega)]
    simp [aev, cav, look, acallPure, abin, abinN, abinP, abinI, abinS, aun, aconv, afield, afieldAddr, aindexAddr, aindex, aslice, alow, ahigh, abuild, abuildGo, cellsOf, splice, fieldTy, alen, apick, amax, amin, aload, headV, aparts, abuildSlice, elParts, abytesStr, astore, amake, aappend, aclear, anew, arith, aresults, aresList, ares, spec0, spec1, spec2, spec3, spec4, eqCells, eqCell, h1, e]
  by_cases h2 : 8 < n
  · have e : shapeF n l = 1 := by unfold shapeF; rw [if_neg (fun h => by have := h.2.1; omega)]
    simp [aev, cav, look, acallPure, abin, abinN, abinP, abinI, abinS, aun, aconv, afield, afieldAddr, aindexAddr, aindex, aslice, alow, ahigh, abuild, abuildGo, cellsOf, splice, fieldTy, alen, apick, amax, amin, aload, headV, aparts, abuildSlice, elParts, abytesStr, astore, amake, aappend, aclear, anew, arith, aresults, aresList, ares, spec0, spec1, spec2, spec3, spec4, eqCells, eqCell, h1, h2, e]
  by_cases h3 : LenAll l n
  · have e : shapeF n l = 0 := by unfold shapeF; rw [if_pos ⟨by omega, by omega, h3⟩]
    simp [aev, cav, look, acallPure, abin, abinN, abinP, abinI, abinS, aun, aconv, afield, afieldAddr, aindexAddr, aindex, aslice, alow, ahigh, abuild, abuildGo, cellsOf, splice, fieldTy, alen, apick, amax, amin, aload, headV, aparts, abuildSlice, elParts, abytesStr, astore, amake, aappend, aclear, anew, arith, aresults, aresList, ares, spec0, spec1, spec2, spec3, spec4, eqCells, eqCell, h1, h2, hl, lenB_yes h3, e]
  · have e : shapeF n l = 1 := by unfold shapeF; rw [if_neg (fun h => h3 h.2.2)]
    simp [aev, cav, look, acallPure, abin, abinN, abinP, abinI, abinS, aun, aconv, afield, afieldAddr, aindexAddr, aindex, aslice, alow, ahigh, abuild, abuildGo, cellsOf, splice, fieldTy, alen, apick, amax, amin, aload, headV, aparts, abuildSlice, elParts, abytesStr, astore, amake, aappend, aclear, anew, arith, aresults, aresList, ares, spec0, spec1, spec2, spec3, spec4, eqCells, eqCell, h1, h2, hl, lenB_no h3, e]

open Classical in
noncomputable def sWide : List AV → Option (Prop × AV) := spec2 (fun (n : Int) (l : List (List Int)) => SmallRs l) (fun n l => .bool (decide (WideR n l)))
set_option maxHeartbeats 8000000 in
open Classical in
theorem wideR : PureOK Try.prog G0 47 sWide := by
  refine pure2 (C := CE) sigCE mixCE Try.func47 rfl rfl rfl (by kernel_rfl) (by decide) (fun n l ⟨hl, hl2⟩ => ?_)
  simp [aev, cav, look, acallPure, abin, abinN, abinP, abinI, abinS, aun, aconv, afield, afieldAddr, aindexAddr, aindex, aslice, alow, ahigh, abuild, abuildGo, cellsOf, splice, fieldTy, alen, apick, amax, amin, aload, headV, aparts, abuildSlice, elParts, abytesStr, astore, amake, aappend, aclear, anew, arith, aresults, aresList, ares, spec0, spec1, spec2, spec3, spec4, eqCells, eqCell]
  refine loop_rule (C := CE) sigCE mixCE (fun i : Nat => ⟨[(0, .int .i64 n), (1, Enc.enc l), (5, .int .i64 i)], []⟩) (fun i => i ≤ l.length ∧ ∀ j, j < i → ((ix l j).length : Int) = n) (fun i => l.length - i) (by kernel_rfl) ⟨0, ⟨by omega, fun j hj => by omega⟩, weak_slots (by simp)⟩ (fun i ⟨h3, h4⟩ => ?_)
  by_cases hi : i < l.length
  · have i1 : I64 ((i : Int) + 1) := by unfold I64; omega
    rcases em2 (((ix l i).length : Int) = n) with e | e
    · simp [aev, cav, look, acallPure, abin, abinN, abinP, abinI, abinS, aun, aconv, afield, afieldAddr, aindexAddr, aindex, aslice, alow, ahigh, abuild, abuildGo, cellsOf, splice, fieldTy, alen, apick, amax, amin, aload, headV, aparts, abuildSlice, elParts, abytesStr, astore, amake, aappend, aclear, anew, arith, aresults, aresList, ares, spec0, spec1, spec2, spec3, spec4, eqCells, eqCell, hi, rowAt_enc hi, e, i1]
      exact ⟨i + 1, ⟨by omega, fun j hj => by
        rcases Nat.lt_or_eq_of_le (Nat.le_of_lt_succ hj) with h | rfl
        · exact h4 j h
        · exact of_eq_true e⟩, by omega, weak_slots (by simp)⟩
    · have hB : WideR n l = False := eq_false fun h => of_eq_false e (h.2.2 _ (ix_mem hi))
      simp [aev, cav, look, acallPure, abin, abinN, abinP, abinI, abinS, aun, aconv, afield, afieldAddr, aindexAddr, aindex, aslice, alow, ahigh, abuild, abuildGo, cellsOf, splice, fieldTy, alen, apick, amax, amin, aload, headV, aparts, abuildSlice, elParts, abytesStr, astore, amake, aappend, aclear, anew, arith, aresults, aresList, ares, spec0, spec1, spec2, spec3, spec4, eqCells, eqCell, hi, rowAt_enc hi, e, hB]
  · have hL : LenAll l n := fun r hr => by
      obtain ⟨j, hj, rfl⟩ := List.getElem_of_mem hr
      rw [← ix_lt hj]
      exact h4 j (by omega)
    by_cases h1 : 1 ≤ n
    · by_cases h2 : n ≤ 8
      · have hB : WideR n l = True := eq_true ⟨h1, h2, hL⟩
        simp [aev, cav, look, acallPure, abin, abinN, abinP, abinI, abinS, aun, aconv, afield, afieldAddr, aindexAddr, aindex, aslice, alow, ahigh, abuild, abuildGo, cellsOf, splice, fieldTy, alen, apick, amax, amin, aload, headV, aparts, abuildSlice, elParts, abytesStr, astore, amake, aappend, aclear, anew, arith, aresults, aresList, ares, spec0, spec1, spec2, spec3, spec4, eqCells, eqCell, hi, h1, h2, hB]
      · have hB : WideR n l = False := eq_false fun h => h2 h.2.1
        simp [aev, cav, look, acallPure, abin, abinN, abinP, abinI, abinS, aun, aconv, afield, afieldAddr, aindexAddr, aindex, aslice, alow, ahigh, abuild, abuildGo, cellsOf, splice, fieldTy, alen, apick, amax, amin, aload, headV, aparts, abuildSlice, elParts, abytesStr, astore, amake, aappend, aclear, anew, arith, aresults, aresList, ares, spec0, spec1, spec2, spec3, spec4, eqCells, eqCell, hi, h1, h2, hB]
    · have hB : WideR n l = False := eq_false fun h => h1 h.1
      simp [aev, cav, look, acallPure, abin, abinN, abinP, abinI, abinS, aun, aconv, afield, afieldAddr, aindexAddr, aindex, aslice, alow, ahigh, abuild, abuildGo, cellsOf, splice, fieldTy, alen, apick, amax, amin, aload, headV, aparts, abuildSlice, elParts, abytesStr, astore, amake, aappend, aclear, anew, arith, aresults, aresList, ares, spec0, spec1, spec2, spec3, spec4, eqCells, eqCell, hi, h1, hB]

/-- The rows rise. -/
def RisesR (l : List (List Int)) : Prop := ∀ i, i + 1 < l.length → cmpL (ix l i) (ix l (i + 1)) < 0
open Classical in
noncomputable def checkF (r : Rela) : Int := if WideR r.arity r.rows then (if 20000 < r.rows.length then 4 else if RisesR r.rows then 0 else 26) else 1
noncomputable def CK2 : Ctx := mkC Try.prog G0 [(54, .pure sShape), (55, .pure sCmp), (47, .pure sWide), (48, .pure sCmp)]
@[simp] theorem CK2_P : CK2.P = Try.prog := rfl
@[simp] theorem CK2_1 : CK2.S 54 = .pure sShape := rfl
@[simp] theorem CK2_2 : CK2.S 55 = .pure sCmp := rfl
@[simp] theorem CK2_3 : CK2.S 47 = .pure sWide := rfl
@[simp] theorem CK2_4 : CK2.S 48 = .pure sCmp := rfl
theorem mixCK2 : CK2.P.follows .mixedOrders = true := mixed
theorem sigCK2 : SigOK CK2 := sigOK_cons (entryPure shapeP Try.func54 rfl (by decide)) (sigOK_cons (entryPure compareP Try.func55 rfl (by decide)) (sigOK_cons (entryPure wideR Try.func47 rfl (by decide)) (sigOK_cons (entryPure cmpR Try.func48 rfl (by decide)) (sigOK_nil _ _))))
def RB (r : Rela) : Blk := ⟨36, 2, [[.int .i64 r.arity, .slice 1 false (encRows r.rows)]], true, true⟩
noncomputable def sCheck : List AV → Option (Prop × AV) := spec1 (fun (r : Rela) => SmallRs r.rows) (fun r => .int .i64 (checkF r))
set_option maxHeartbeats 8000000 in
theorem checkP : PureOK Try.prog G0 39 sCheck := by
  refine pure1 (C := CK2) sigCK2 mixCK2 Try.func39 rfl rfl rfl (by kernel_rfl) (by decide) (fun r hr => ?_)
  have hl := hr.1
  have hl2 := hr.2
  by_cases hw : WideR r.arity r.rows
  case neg =>
    have e : checkF r = 1 := by unfold checkF; rw [if_neg hw]
    have e2 : shapeF r.arity r.rows = 1 := by unfold shapeF; rw [if_neg hw]
    simp [aev, cav, look, acallPure, abin, abinN, abinP, abinI, abinS, aun, aconv, afield, afieldAddr, aindexAddr, aindex, aslice, alow, ahigh, abuild, abuildGo, cellsOf, splice, fieldTy, alen, apick, amax, amin, aload, headV, aparts, abuildSlice, elParts, abytesStr, astore, amake, aappend, aclear, anew, arith, aresults, aresList, ares, spec0, spec1, spec2, spec3, spec4, eqCells, eqCell, sShape, sWide, hr, hw, e, e2]
  have e2 : shapeF r.arity r.rows = 0 := by unfold shapeF; rw [if_pos hw]
  by_cases hb : 20000 < r.rows.length
  · have hb' : (20000 : Int) < r.rows.length := by omega
    have e : checkF r = 4 := by unfold checkF; rw [if_pos hw, if_pos hb]
    simp [aev, cav, look, acallPure, abin, abinN, abinP, abinI, abinS, aun, aconv, afield, afieldAddr, aindexAddr, aindex, aslice, alow, ahigh, abuild, abuildGo, cellsOf, splice, fieldTy, alen, apick, amax, amin, aload, headV, aparts, abuildSlice, elParts, abytesStr, astore, amake, aappend, aclear, anew, arith, aresults, aresList, ares, spec0, spec1, spec2, spec3, spec4, eqCells, eqCell, sShape, sWide, hr, hw, e, e2, hb, hb']
  have hb' : ¬ (20000 : Int) < r.rows.length := by omega
  simp [aev, cav, look, acallPure, abin, abinN, abinP, abinI, abinS, aun, aconv, afield, afieldAddr, aindexAddr, aindex, aslice, alow, ahigh, abuild, abuildGo, cellsOf, splice, fieldTy, alen, apick, amax, amin, aload, headV, aparts, abuildSlice, elParts, abytesStr, astore, amake, aappend, aclear, anew, arith, aresults, aresList, ares, spec0, spec1, spec2, spec3, spec4, eqCells, eqCell, sShape, sWide, hr, hw, e2, hb, hb']
  refine loop_rule (C := CK2) sigCK2 mixCK2 (fun i : Nat => ⟨[(1, .ptr 0 1 2 0 0), (4, .int .i64 ((i : Int) + 1))], [RB r]⟩) (fun i => (i = 0 ∨ i < r.rows.length) ∧ ∀ j, j < i → cmpL (ix r.rows j) (ix r.rows (j + 1)) < 0) (fun i => r.rows.length - i) (by kernel_rfl) ⟨0, ⟨.inl rfl, fun j hj => by omega⟩, weak_slots (by simp [RB])⟩ (fun i ⟨h3, h4⟩ => ?_)
  by_cases hi : i + 1 < r.rows.length
  · have hi' : (i : Int) + 1 < r.rows.length := by omega
    have hi0 : i < r.rows.length := by omega
    have i1 : I64 ((i : Int) + 1 + 1) := by unfold I64; omega
    have i2 : I64 (i : Int) := by unfold I64; omega
    have j4 : ((i : Int) + 1).toNat = i + 1 := by omega
    have j5 : (0 : Int) ≤ (i : Int) + 1 := by omega
    have sa := hl2 _ (ix_mem hi0)
    have sb := hl2 _ (ix_mem hi)
    by_cases hc : cmpL (ix r.rows i) (ix r.rows (i + 1)) < 0
    · have hc' : ¬ 0 ≤ cmpL (ix r.rows i) (ix r.rows (i + 1)) := by omega
      simp [aev, cav, look, acallPure, abin, abinN, abinP, abinI, abinS, aun, aconv, afield, afieldAddr, aindexAddr, aindex, aslice, alow, ahigh, abuild, abuildGo, cellsOf, splice, fieldTy, alen, apick, amax, amin, aload, headV, aparts, abuildSlice, elParts, abytesStr, astore, amake, aappend, aclear, anew, arith, aresults, aresList, ares, spec0, spec1, spec2, spec3, spec4, eqCells, eqCell, RB, sCmp, hi, hi', hi0, i1, i2, j4, j5, rowAt_enc hi, rowAt_enc hi0, sa, sb, hc, hc']
      exact ⟨i + 1, ⟨.inr hi, fun j hj => by
        rcases Nat.lt_or_eq_of_le (Nat.le_of_lt_succ hj) with h | rfl
        · exact h4 j h
        · exact hc⟩, by omega, weak_slots (by simp)⟩
    · have hc' : 0 ≤ cmpL (ix r.rows i) (ix r.rows (i + 1)) := by omega
      have e : checkF r = 26 := by unfold checkF; rw [if_pos hw, if_neg hb, if_neg (fun h => hc (h i hi))]
      simp [aev, cav, look, acallPure, abin, abinN, abinP, abinI, abinS, aun, aconv, afield, afieldAddr, aindexAddr, aindex, aslice, alow, ahigh, abuild, abuildGo, cellsOf, splice, fieldTy, alen, apick, amax, amin, aload, headV, aparts, abuildSlice, elParts, abytesStr, astore, amake, aappend, aclear, anew, arith, aresults, aresList, ares, spec0, spec1, spec2, spec3, spec4, eqCells, eqCell, RB, sCmp, hi, hi', hi0, i1, i2, j4, j5, rowAt_enc hi, rowAt_enc hi0, sa, sb, hc, hc', e]
  · have hi' : ¬ (i : Int) + 1 < r.rows.length := by omega
    have hR : RisesR r.rows := fun j hj => h4 j (by omega)
    have e : checkF r = 0 := by unfold checkF; rw [if_pos hw, if_neg hb, if_pos hR]
    simp [aev, cav, look, acallPure, abin, abinN, abinP, abinI, abinS, aun, aconv, afield, afieldAddr, aindexAddr, aindex, aslice, alow, ahigh, abuild, abuildGo, cellsOf, splice, fieldTy, alen, apick, amax, amin, aload, headV, aparts, abuildSlice, elParts, abytesStr, astore, amake, aappend, aclear, anew, arith, aresults, aresList, ares, spec0, spec1, spec2, spec3, spec4, eqCells, eqCell, RB, hi', e]
set_option maxHeartbeats 8000000 in
theorem checkR : PureOK Try.prog G0 33 sCheck := by
  refine pure1 (C := CK2) sigCK2 mixCK2 Try.func33 rfl rfl rfl (by kernel_rfl) (by decide) (fun r hr => ?_)
  have hl := hr.1
  have hl2 := hr.2
  by_cases hw : WideR r.arity r.rows
  case neg =>
    have e : checkF r = 1 := by unfold checkF; rw [if_neg hw]
    have e2 : shapeF r.arity r.rows = 1 := by unfold shapeF; rw [if_neg hw]
    simp [aev, cav, look, acallPure, abin, abinN, abinP, abinI, abinS, aun, aconv, afield, afieldAddr, aindexAddr, aindex, aslice, alow, ahigh, abuild, abuildGo, cellsOf, splice, fieldTy, alen, apick, amax, amin, aload, headV, aparts, abuildSlice, elParts, abytesStr, astore, amake, aappend, aclear, anew, arith, aresults, aresList, ares, spec0, spec1, spec2, spec3, spec4, eqCells, eqCell, sShape, sWide, hr, hw, e, e2]
  have e2 : shapeF r.arity r.rows = 0 := by unfold shapeF; rw [if_pos hw]
  by_cases hb : 20000 < r.rows.length
  · have hb' : (20000 : Int) < r.rows.length := by omega
    have e : checkF r = 4 := by unfold checkF; rw [if_pos hw, if_pos hb]
    simp [aev, cav, look, acallPure, abin, abinN, abinP, abinI, abinS, aun, aconv, afield, afieldAddr, aindexAddr, aindex, aslice, alow, ahigh, abuild, abuildGo, cellsOf, splice, fieldTy, alen, apick, amax, amin, aload, headV, aparts, abuildSlice, elParts, abytesStr, astore, amake, aappend, aclear, anew, arith, aresults, aresList, ares, spec0, spec1, spec2, spec3, spec4, eqCells, eqCell, sShape, sWide, hr, hw, e, e2, hb, hb']
  have hb' : ¬ (20000 : Int) < r.rows.length := by omega
  simp [aev, cav, look, acallPure, abin, abinN, abinP, abinI, abinS, aun, aconv, afield, afieldAddr, aindexAddr, aindex, aslice, alow, ahigh, abuild, abuildGo, cellsOf, splice, fieldTy, alen, apick, amax, amin, aload, headV, aparts, abuildSlice, elParts, abytesStr, astore, amake, aappend, aclear, anew, arith, aresults, aresList, ares, spec0, spec1, spec2, spec3, spec4, eqCells, eqCell, sShape, sWide, hr, hw, e2, hb, hb']
  refine loop_rule (C := CK2) sigCK2 mixCK2 (fun i : Nat => ⟨[(1, .ptr 0 1 2 0 0), (3, .int .i64 ((i : Int) + 1))], [RB r]⟩) (fun i => (i = 0 ∨ i < r.rows.length) ∧ ∀ j, j < i → cmpL (ix r.rows j) (ix r.rows (j + 1)) < 0) (fun i => r.rows.length - i) (by kernel_rfl) ⟨0, ⟨.inl rfl, fun j hj => by omega⟩, weak_slots (by simp [RB])⟩ (fun i ⟨h3, h4⟩ => ?_)
  by_cases hi : i + 1 < r.rows.length
  · have hi' : (i : Int) + 1 < r.rows.length := by omega
    have hi0 : i < r.rows.length := by omega
    have i1 : I64 ((i : Int) + 1 + 1) := by unfold I64; omega
    have i2 : I64 (i : Int) := by unfold I64; omega
    have j4 : ((i : Int) + 1).toNat = i + 1 := by omega
    have j5 : (0 : Int) ≤ (i : Int) + 1 := by omega
    have sa := hl2 _ (ix_mem hi0)
    have sb := hl2 _ (ix_mem hi)
    by_cases hc : cmpL (ix r.rows i) (ix r.rows (i + 1)) < 0
    · have hc' : ¬ 0 ≤ cmpL (ix r.rows i) (ix r.rows (i + 1)) := by omega
      simp [aev, cav, look, acallPure, abin, abinN, abinP, abinI, abinS, aun, aconv, afield, afieldAddr, aindexAddr, aindex, aslice, alow, ahigh, abuild, abuildGo, cellsOf, splice, fieldTy, alen, apick, amax, amin, aload, headV, aparts, abuildSlice, elParts, abytesStr, astore, amake, aappend, aclear, anew, arith, aresults, aresList, ares, spec0, spec1, spec2, spec3, spec4, eqCells, eqCell, RB, sCmp, hi, hi', hi0, i1, i2, j4, j5, rowAt_enc hi, rowAt_enc hi0, sa, sb, hc, hc']
      exact ⟨i + 1, ⟨.inr hi, fun j hj => by
        rcases Nat.lt_or_eq_of_le (Nat.le_of_lt_succ hj) with h | rfl
        · exact h4 j h
        · exact hc⟩, by omega, weak_slots (by simp)⟩
    · have hc' : 0 ≤ cmpL (ix r.rows i) (ix r.rows (i + 1)) := by omega
      have e : checkF r = 26 := by unfold checkF; rw [if_pos hw, if_neg hb, if_neg (fun h => hc (h i hi))]
      simp [aev, cav, look, acallPure, abin, abinN, abinP, abinI, abinS, aun, aconv, afield, afieldAddr, aindexAddr, aindex, aslice, alow, ahigh, abuild, abuildGo, cellsOf, splice, fieldTy, alen, apick, amax, amin, aload, headV, aparts, abuildSlice, elParts, abytesStr, astore, amake, aappend, aclear, anew, arith, aresults, aresList, ares, spec0, spec1, spec2, spec3, spec4, eqCells, eqCell, RB, sCmp, hi, hi', hi0, i1, i2, j4, j5, rowAt_enc hi, rowAt_enc hi0, sa, sb, hc, hc', e]
  · have hi' : ¬ (i : Int) + 1 < r.rows.length := by omega
    have hR : RisesR r.rows := fun j hj => h4 j (by omega)
    have e : checkF r = 0 := by unfold checkF; rw [if_pos hw, if_neg hb, if_pos hR]
    simp [aev, cav, look, acallPure, abin, abinN, abinP, abinI, abinS, aun, aconv, afield, afieldAddr, aindexAddr, aindex, aslice, alow, ahigh, abuild, abuildGo, cellsOf, splice, fieldTy, alen, apick, amax, amin, aload, headV, aparts, abuildSlice, elParts, abytesStr, astore, amake, aappend, aclear, anew, arith, aresults, aresList, ares, spec0, spec1, spec2, spec3, spec4, eqCells, eqCell, RB, hi', e]
end Go.Proofs.Ytpbgnnaaobamfaa

/-
  layer 14: the levels of a trie are built (after trie/T13).
-/
namespace Go.Proofs.Ytpbgnnaaobamfaa
open Go.RowKit
set_option linter.unusedSimpArgs false
set_option linter.unusedVariables false
set_option maxRecDepth 100000

/-- Does row i begin with another path of n keys than the row before it? -/
def freshB (rows : List (List Int)) (i n : Nat) : Bool := decide (i = 0) || !decide ((ix rows i).take n = (ix rows (i - 1)).take n)
def keysF (rows : List (List Int)) (k : Nat) : Nat → List Int
  | 0 => []
  | m + 1 => if freshB rows m (k + 1) then keysF rows k m ++ [ix (ix rows m) k] else keysF rows k m
def marksF (rows : List (List Int)) (k : Nat) : Nat → List Int
  | 0 => [0]
  | m + 1 => if m ≠ 0 ∧ freshB rows m k = true then marksF rows k m ++ [((keysF rows k m).length : Int)] else marksF rows k m
def levelF (rows : List (List Int)) (k : Nat) : Level := ⟨keysF rows k rows.length, if k = 0 ∨ 0 < rows.length then marksF rows k rows.length ++ [((keysF rows k rows.length).length : Int)] else [0]⟩
theorem keysF_le (rows : List (List Int)) (k : Nat) : ∀ m, (keysF rows k m).length ≤ m
  | 0 => Nat.le_refl _
  | m + 1 => by
    have := keysF_le rows k m
    rw [keysF]
    split
    · simp; omega
    · omega
theorem marksF_le (rows : List (List Int)) (k : Nat) : ∀ m, (marksF rows k m).length ≤ m + 1
  | 0 => Nat.le_refl _
  | m + 1 => by
    have := marksF_le rows k m
    rw [marksF]
    split
    · simp; omega
    · omega
noncomputable def CV3 : Ctx := mkC Try.prog G0 [(78, .pure sEq)]
@[simp] theorem CV3_P : CV3.P = Try.prog := rfl
@[simp] theorem CV3_1 : CV3.S 78 = .pure sEq := rfl
theorem mixCV3 : CV3.P.follows .mixedOrders = true := mixed
theorem sigCV3 : SigOK CV3 := sigOK_cons (entryPure equalP Try.func78 rfl (by decide)) (sigOK_nil _ _)
/-- The rows are long enough for the k-th column. -/
def DeepR (rows : List (List Int)) (k : Nat) : Prop := (rows.length ≤ 1000000 ∧ ∀ r ∈ rows, SmallR r) ∧ k < 1000000 ∧ ∀ r ∈ rows, k < r.length
def sLevel : List AV → Option (Prop × AV) := spec2 (fun (l : List (List Int)) (k : Int) => ∃ n : Nat, k = n ∧ DeepR l n) (fun l k => Enc.enc (levelF l k.toNat))
def ZL : Blk := ⟨88, 2, [[.slice 1 true [], .slice 1 true []]], true, true⟩
def LB (a b : AV) (d : Bool) : Blk := ⟨88, 2, [[a, b]], true, d⟩
def bK (l : List Int) : Blk := ⟨3, 1, encRows l, true, true⟩
def levH (l : List (List Int)) (n i : Nat) : List Blk :=
  if i = 0 then [ZL, LB (.slice 1 true []) (.slice 1 true [[.int .i64 0]]) true]
  else if (marksF l n i).length = 1 then [ZL, LB (.own 2 (keysF l n i).length) (.slice 1 true [[.int .i64 0]]) false, bK (keysF l n i)]
  else [ZL, LB (.own 2 (keysF l n i).length) (.own 3 (marksF l n i).length) false, bK (keysF l n i), bK (marksF l n i)]
theorem marksF_pos (l : List (List Int)) (n : Nat) : ∀ m, 0 < (marksF l n m).length
  | 0 => Nat.zero_lt_one
  | m + 1 => by
    have := marksF_pos l n m
    rw [marksF]
    split
    · simp
    · exact this
theorem marksF_one (l : List (List Int)) (n : Nat) : ∀ m, (marksF l n m).length = 1 → marksF l n m = [0]
  | 0, _ => rfl
  | m + 1, h => by
    have := marksF_pos l n m
    rw [marksF] at h ⊢
    split
    · rename_i h2
      rw [if_pos h2, List.length_append] at h
      simp at h
      rw [h] at this
      exact absurd this (Nat.lt_irrefl 0)
    · rename_i h2
      rw [if_neg h2] at h
      exact marksF_one l n m h
theorem keysF_pos (l : List (List Int)) (n : Nat) : ∀ m, 0 < m → 0 < (keysF l n m).length
  | 0, h => absurd h (Nat.lt_irrefl 0)
  | m + 1, _ => by
    rw [keysF]
    by_cases h0 : m = 0
    · subst h0
      rw [if_pos (by simp [freshB])]
      simp
    · have := keysF_pos l n m (by omega)
      split
      · simp
      · exact this
set_option maxHeartbeats 8000000 in
theorem levelP : PureOK Try.prog G0 62 sLevel := by
  refine pure2 (C := CV3) sigCV3 mixCV3 Try.func62 rfl rfl rfl (by kernel_rfl) (by decide) (fun l k ⟨n, hk, ⟨hl, hl2⟩, hn, hd⟩ => ?_)
  subst hk
  simp [aev, cav, look, acallPure, abin, abinN, abinP, abinI, abinS, aun, aconv, afield, afieldAddr, aindexAddr, aindex, aslice, alow, ahigh, abuild, abuildGo, cellsOf, splice, fieldTy, alen, apick, amax, amin, aload, headV, aparts, abuildSlice, elParts, abytesStr, astore, amake, aappend, aclear, anew, arith, aresults, aresList, ares, spec0, spec1, spec2, spec3, spec4, eqCells, eqCell]
  refine loop_rule (C := CV3) sigCV3 mixCV3 (fun i : Nat => ⟨[(0, Enc.enc l), (1, .int .i64 n), (4, .ptr 0 1 2 0 0), (5, .ptr 1 1 2 0 0), (10, Enc.enc l), (11, .int .i64 l.length), (12, .int .i64 i)], levH l n i⟩) (fun i => i ≤ l.length) (fun i => l.length - i) (by kernel_rfl) ⟨0, by omega, weak_slots (by simp [levH, ZL, LB])⟩ (fun i hi => ?_)
  have kl := keysF_le l n i
  have ml := marksF_le l n i
  have mp := marksF_pos l n i
  by_cases hlt : i < l.length
  · have i1 : I64 ((i : Int) + 1) := by unfold I64; omega
    have n1 : I64 ((n : Int) + 1) := by unfold I64; omega
    have nn : ((n : Int) + 1).toNat = n + 1 := by omega
    have np : (0 : Int) ≤ (n : Int) + 1 := by omega
    have hr := hd _ (ix_mem hlt)
    have hr' : (n : Int) ≤ (ix l i).length := by omega
    have hr2 : (n : Int) + 1 ≤ (ix l i).length := by omega
    have sr := hl2 _ (ix_mem hlt)
    by_cases h0 : i = 0
    · subst h0
      have e0 : levH l n 0 = [ZL, LB (.slice 1 true []) (.slice 1 true [[.int .i64 0]]) true] := rfl
      have e1 : levH l n 1 = [ZL, LB (.own 2 (keysF l n 1).length) (.slice 1 true [[.int .i64 0]]) false, bK (keysF l n 1)] := rfl
      have e2 : keysF l n 1 = [ix (ix l 0) n] := by rw [keysF, if_pos (by simp [freshB])]; rfl
      rw [e2] at e1
      have w1 : w64 1 = 1 := rfl
      simp [aev, cav, look, acallPure, abin, abinN, abinP, abinI, abinS, aun, aconv, afield, afieldAddr, aindexAddr, aindex, aslice, alow, ahigh, abuild, abuildGo, cellsOf, splice, fieldTy, alen, apick, amax, amin, aload, headV, aparts, abuildSlice, elParts, abytesStr, astore, amake, aappend, aclear, anew, arith, aresults, aresList, ares, spec0, spec1, spec2, spec3, spec4, eqCells, eqCell, e0, ZL, LB, hlt, rowAt_enc hlt, hr, rowAt_enc hr, i1]
      exact ⟨1, by omega, by omega, weak_slots (by simp [e1, ZL, LB, bK, w1])⟩
    · have hp : i - 1 < l.length := by omega
      have i2 : I64 ((i : Int) - 1) := by unfold I64; omega
      have j1 : ((i : Int) - 1).toNat = i - 1 := by omega
      have j2 : (0 : Int) ≤ (i : Int) - 1 := by omega
      have j3 : (i : Int) - 1 < l.length := by omega
      have j4 : (0 < i) = True := eq_true (by omega)
      have j5 : (i = 0) = False := eq_false h0
      have hq := hd _ (ix_mem hp)
      have hq' : (n : Int) ≤ (ix l (i - 1)).length := by omega
      have hq2 : (n : Int) + 1 ≤ (ix l (i - 1)).length := by omega
      have sq := hl2 _ (ix_mem hp)
      have s1 : SmallR ((ix l i).take n) := by unfold SmallR at sr ⊢; simp; omega
      have s2 : SmallR ((ix l (i - 1)).take n) := by unfold SmallR at sq ⊢; simp; omega
      have s3 : SmallR ((ix l i).take (n + 1)) := by unfold SmallR at sr ⊢; simp; omega
      have s4 : SmallR ((ix l (i - 1)).take (n + 1)) := by unfold SmallR at sq ⊢; simp; omega
      by_cases hm : (marksF l n i).length = 1
      · have e0 : levH l n i = [ZL, LB (.own 2 (keysF l n i).length) (.slice 1 true [[.int .i64 0]]) false, bK (keysF l n i)] := by unfold levH; rw [if_neg h0, if_pos hm]
        have hm1 := marksF_one l n i hm
        rcases em2 ((ix l i).take n = (ix l (i - 1)).take n) with f1 | f1
        · rcases em2 ((ix l i).take (n + 1) = (ix l (i - 1)).take (n + 1)) with f2 | f2
          · skip
            have hkf : keysF l n (i + 1) = keysF l n i := by rw [keysF, if_neg (by simp [freshB, h0, f2])]
            have hmf : marksF l n (i + 1) = marksF l n i := by rw [marksF, if_neg (by simp [freshB, h0, f1])]
            have e1 : levH l n (i + 1) = [ZL, LB (.own 2 (keysF l n i).length) (.slice 1 true [[.int .i64 0]]) false, bK (keysF l n i)] := by unfold levH; rw [if_neg (by omega), hmf, if_pos hm, hkf]
            simp [aev, cav, look, acallPure, abin, abinN, abinP, abinI, abinS, aun, aconv, afield, afieldAddr, aindexAddr, aindex, aslice, alow, ahigh, abuild, abuildGo, cellsOf, splice, fieldTy, alen, apick, amax, amin, aload, headV, aparts, abuildSlice, elParts, abytesStr, astore, amake, aappend, aclear, anew, arith, aresults, aresList, ares, spec0, spec1, spec2, spec3, spec4, eqCells, eqCell, sEq, e0, ZL, LB, bK, hlt, rowAt_enc hlt, hr, rowAt_enc hr, i1, n1, nn, np, hr', hr2, hp, rowAt_enc hp, i2, j1, j2, j3, j4, j5, hq', hq2, s1, s2, s3, s4, f1, f2]
            repeat (refine And.intro (by omega) ?_)
            exact ⟨i + 1, by omega, by omega, weak_eq (by simp) (by rw [e1]; simp [ZL, LB, bK])⟩
          · skip
            have hkf : keysF l n (i + 1) = keysF l n i ++ [ix (ix l i) n] := by rw [keysF, if_pos (by simp [freshB, h0, f2])]
            have hmf : marksF l n (i + 1) = marksF l n i := by rw [marksF, if_neg (by simp [freshB, h0, f1])]
            have e1 : levH l n (i + 1) = [ZL, LB (.own 2 (keysF l n i ++ [ix (ix l i) n]).length) (.slice 1 true [[.int .i64 0]]) false, bK (keysF l n i ++ [ix (ix l i) n])] := by unfold levH; rw [if_neg (by omega), hmf, if_pos hm, hkf]
            simp [aev, cav, look, acallPure, abin, abinN, abinP, abinI, abinS, aun, aconv, afield, afieldAddr, aindexAddr, aindex, aslice, alow, ahigh, abuild, abuildGo, cellsOf, splice, fieldTy, alen, apick, amax, amin, aload, headV, aparts, abuildSlice, elParts, abytesStr, astore, amake, aappend, aclear, anew, arith, aresults, aresList, ares, spec0, spec1, spec2, spec3, spec4, eqCells, eqCell, sEq, e0, ZL, LB, bK, hlt, rowAt_enc hlt, hr, rowAt_enc hr, i1, n1, nn, np, hr', hr2, hp, rowAt_enc hp, i2, j1, j2, j3, j4, j5, hq', hq2, s1, s2, s3, s4, f1, f2]
            repeat (refine And.intro (by omega) ?_)
            exact ⟨i + 1, by omega, by omega, weak_eq (by simp) (by rw [e1]; simp [ZL, LB, bK])⟩
        · have f2 : ((ix l i).take (n + 1) = (ix l (i - 1)).take (n + 1)) = False := eq_false fun h => of_eq_false f1 (by have := congrArg (List.take n) h; simpa [List.take_take] using this)
          have hkf : keysF l n (i + 1) = keysF l n i ++ [ix (ix l i) n] := by rw [keysF, if_pos (by simp [freshB, h0, f2])]
          have hmf : marksF l n (i + 1) = marksF l n i ++ [((keysF l n i).length : Int)] := by rw [marksF, if_pos (by simp [freshB, h0, f1])]
          have e1 : levH l n (i + 1) = [ZL, LB (.own 2 (keysF l n i ++ [ix (ix l i) n]).length) (.own 3 (marksF l n i ++ [((keysF l n i).length : Int)]).length) false, bK (keysF l n i ++ [ix (ix l i) n]), bK (marksF l n i ++ [((keysF l n i).length : Int)])] := by unfold levH; rw [if_neg (by omega), hmf, if_neg (by rw [List.length_append, List.length_singleton]; omega), hkf]
          simp [aev, cav, look, acallPure, abin, abinN, abinP, abinI, abinS, aun, aconv, afield, afieldAddr, aindexAddr, aindex, aslice, alow, ahigh, abuild, abuildGo, cellsOf, splice, fieldTy, alen, apick, amax, amin, aload, headV, aparts, abuildSlice, elParts, abytesStr, astore, amake, aappend, aclear, anew, arith, aresults, aresList, ares, spec0, spec1, spec2, spec3, spec4, eqCells, eqCell, sEq, e0, ZL, LB, bK, hlt, rowAt_enc hlt, hr, rowAt_enc hr, i1, n1, nn, np, hr', hr2, hp, rowAt_enc hp, i2, j1, j2, j3, j4, j5, hq', hq2, s1, s2, s3, s4, f1, f2]
          repeat (refine And.intro (by omega) ?_)
          exact ⟨i + 1, by omega, by omega, weak_eq (by simp) (by rw [e1]; simp [ZL, LB, bK, hm1])⟩
      · have e0 : levH l n i = [ZL, LB (.own 2 (keysF l n i).length) (.own 3 (marksF l n i).length) false, bK (keysF l n i), bK (marksF l n i)] := by unfold levH; rw [if_neg h0, if_neg hm]
        rcases em2 ((ix l i).take n = (ix l (i - 1)).take n) with f1 | f1
        · rcases em2 ((ix l i).take (n + 1) = (ix l (i - 1)).take (n + 1)) with f2 | f2
          · skip
            have hkf : keysF l n (i + 1) = keysF l n i := by rw [keysF, if_neg (by simp [freshB, h0, f2])]
            have hmf : marksF l n (i + 1) = marksF l n i := by rw [marksF, if_neg (by simp [freshB, h0, f1])]
            have e1 : levH l n (i + 1) = [ZL, LB (.own 2 (keysF l n i).length) (.own 3 (marksF l n i).length) false, bK (keysF l n i), bK (marksF l n i)] := by unfold levH; rw [if_neg (by omega), hmf, if_neg hm, hkf]
            simp [aev, cav, look, acallPure, abin, abinN, abinP, abinI, abinS, aun, aconv, afield, afieldAddr, aindexAddr, aindex, aslice, alow, ahigh, abuild, abuildGo, cellsOf, splice, fieldTy, alen, apick, amax, amin, aload, headV, aparts, abuildSlice, elParts, abytesStr, astore, amake, aappend, aclear, anew, arith, aresults, aresList, ares, spec0, spec1, spec2, spec3, spec4, eqCells, eqCell, sEq, e0, ZL, LB, bK, hlt, rowAt_enc hlt, hr, rowAt_enc hr, i1, n1, nn, np, hr', hr2, hp, rowAt_enc hp, i2, j1, j2, j3, j4, j5, hq', hq2, s1, s2, s3, s4, f1, f2]
            repeat (refine And.intro (by omega) ?_)
            exact ⟨i + 1, by omega, by omega, weak_eq (by simp) (by rw [e1]; simp [ZL, LB, bK])⟩
          · skip
            have hkf : keysF l n (i + 1) = keysF l n i ++ [ix (ix l i) n] := by rw [keysF, if_pos (by simp [freshB, h0, f2])]
            have hmf : marksF l n (i + 1) = marksF l n i := by rw [marksF, if_neg (by simp [freshB, h0, f1])]
            have e1 : levH l n (i + 1) = [ZL, LB (.own 2 (keysF l n i ++ [ix (ix l i) n]).length) (.own 3 (marksF l n i).length) false, bK (keysF l n i ++ [ix (ix l i) n]), bK (marksF l n i)] := by unfold levH; rw [if_neg (by omega), hmf, if_neg hm, hkf]
            simp [aev, cav, look, acallPure, abin, abinN, abinP, abinI, abinS, aun, aconv, afield, afieldAddr, aindexAddr, aindex, aslice, alow, ahigh, abuild, abuildGo, cellsOf, splice, fieldTy, alen, apick, amax, amin, aload, headV, aparts, abuildSlice, elParts, abytesStr, astore, amake, aappend, aclear, anew, arith, aresults, aresList, ares, spec0, spec1, spec2, spec3, spec4, eqCells, eqCell, sEq, e0, ZL, LB, bK, hlt, rowAt_enc hlt, hr, rowAt_enc hr, i1, n1, nn, np, hr', hr2, hp, rowAt_enc hp, i2, j1, j2, j3, j4, j5, hq', hq2, s1, s2, s3, s4, f1, f2]
            repeat (refine And.intro (by omega) ?_)
            exact ⟨i + 1, by omega, by omega, weak_eq (by simp) (by rw [e1]; simp [ZL, LB, bK])⟩
        · have f2 : ((ix l i).take (n + 1) = (ix l (i - 1)).take (n + 1)) = False := eq_false fun h => of_eq_false f1 (by have := congrArg (List.take n) h; simpa [List.take_take] using this)
          have hkf : keysF l n (i + 1) = keysF l n i ++ [ix (ix l i) n] := by rw [keysF, if_pos (by simp [freshB, h0, f2])]
          have hmf : marksF l n (i + 1) = marksF l n i ++ [((keysF l n i).length : Int)] := by rw [marksF, if_pos (by simp [freshB, h0, f1])]
          have e1 : levH l n (i + 1) = [ZL, LB (.own 2 (keysF l n i ++ [ix (ix l i) n]).length) (.own 3 (marksF l n i ++ [((keysF l n i).length : Int)]).length) false, bK (keysF l n i ++ [ix (ix l i) n]), bK (marksF l n i ++ [((keysF l n i).length : Int)])] := by unfold levH; rw [if_neg (by omega), hmf, if_neg (by rw [List.length_append, List.length_singleton]; omega), hkf]
          simp [aev, cav, look, acallPure, abin, abinN, abinP, abinI, abinS, aun, aconv, afield, afieldAddr, aindexAddr, aindex, aslice, alow, ahigh, abuild, abuildGo, cellsOf, splice, fieldTy, alen, apick, amax, amin, aload, headV, aparts, abuildSlice, elParts, abytesStr, astore, amake, aappend, aclear, anew, arith, aresults, aresList, ares, spec0, spec1, spec2, spec3, spec4, eqCells, eqCell, sEq, e0, ZL, LB, bK, hlt, rowAt_enc hlt, hr, rowAt_enc hr, i1, n1, nn, np, hr', hr2, hp, rowAt_enc hp, i2, j1, j2, j3, j4, j5, hq', hq2, s1, s2, s3, s4, f1, f2]
          repeat (refine And.intro (by omega) ?_)
          exact ⟨i + 1, by omega, by omega, weak_eq (by simp) (by rw [e1]; simp [ZL, LB, bK])⟩
  · have hil : i = l.length := by omega
    subst hil
    by_cases h0 : l.length = 0
    · have hnil : l = [] := List.length_eq_zero_iff.1 h0
      subst hnil
      have e0 : levH [] n 0 = [ZL, LB (.slice 1 true []) (.slice 1 true [[.int .i64 0]]) true] := rfl
      rcases em2 (n = 0) with hn0 | hn0
      · have eL : levelF [] n = ⟨[], [0, 0]⟩ := by rw [of_eq_true hn0]; rfl
        simp [aev, cav, look, acallPure, abin, abinN, abinP, abinI, abinS, aun, aconv, afield, afieldAddr, aindexAddr, aindex, aslice, alow, ahigh, abuild, abuildGo, cellsOf, splice, fieldTy, alen, apick, amax, amin, aload, headV, aparts, abuildSlice, elParts, abytesStr, astore, amake, aappend, aclear, anew, arith, aresults, aresList, ares, spec0, spec1, spec2, spec3, spec4, eqCells, eqCell, e0, ZL, LB, hn0, eL]
      · have eL : levelF [] n = ⟨[], [0]⟩ := by unfold levelF; rw [if_neg (by simpa using of_eq_false hn0)]; rfl
        simp [aev, cav, look, acallPure, abin, abinN, abinP, abinI, abinS, aun, aconv, afield, afieldAddr, aindexAddr, aindex, aslice, alow, ahigh, abuild, abuildGo, cellsOf, splice, fieldTy, alen, apick, amax, amin, aload, headV, aparts, abuildSlice, elParts, abytesStr, astore, amake, aappend, aclear, anew, arith, aresults, aresList, ares, spec0, spec1, spec2, spec3, spec4, eqCells, eqCell, e0, ZL, LB, hn0, eL]
    · have eL : levelF l n = ⟨keysF l n l.length, marksF l n l.length ++ [((keysF l n l.length).length : Int)]⟩ := by unfold levelF; rw [if_pos (.inr (by omega))]
      have hpos : (0 < l.length) = True := eq_true (by omega)
      have hnn : (l = []) = False := eq_false fun h => h0 (by rw [h]; rfl)
      by_cases hm : (marksF l n l.length).length = 1
      · have e0 : levH l n l.length = [ZL, LB (.own 2 (keysF l n l.length).length) (.slice 1 true [[.int .i64 0]]) false, bK (keysF l n l.length)] := by unfold levH; rw [if_neg h0, if_pos hm]
        have hm1 := marksF_one l n _ hm
        rcases em2 (n = 0) with hn0 | hn0
        · simp [aev, cav, look, acallPure, abin, abinN, abinP, abinI, abinS, aun, aconv, afield, afieldAddr, aindexAddr, aindex, aslice, alow, ahigh, abuild, abuildGo, cellsOf, splice, fieldTy, alen, apick, amax, amin, aload, headV, aparts, abuildSlice, elParts, abytesStr, astore, amake, aappend, aclear, anew, arith, aresults, aresList, ares, spec0, spec1, spec2, spec3, spec4, eqCells, eqCell, e0, ZL, LB, bK, hn0, eL, hpos, hnn, hm1]
        · simp [aev, cav, look, acallPure, abin, abinN, abinP, abinI, abinS, aun, aconv, afield, afieldAddr, aindexAddr, aindex, aslice, alow, ahigh, abuild, abuildGo, cellsOf, splice, fieldTy, alen, apick, amax, amin, aload, headV, aparts, abuildSlice, elParts, abytesStr, astore, amake, aappend, aclear, anew, arith, aresults, aresList, ares, spec0, spec1, spec2, spec3, spec4, eqCells, eqCell, e0, ZL, LB, bK, hn0, eL, hpos, hnn, hm1]
      · have e0 : levH l n l.length = [ZL, LB (.own 2 (keysF l n l.length).length) (.own 3 (marksF l n l.length).length) false, bK (keysF l n l.length), bK (marksF l n l.length)] := by unfold levH; rw [if_neg h0, if_neg hm]
        rcases em2 (n = 0) with hn0 | hn0
        · simp [aev, cav, look, acallPure, abin, abinN, abinP, abinI, abinS, aun, aconv, afield, afieldAddr, aindexAddr, aindex, aslice, alow, ahigh, abuild, abuildGo, cellsOf, splice, fieldTy, alen, apick, amax, amin, aload, headV, aparts, abuildSlice, elParts, abytesStr, astore, amake, aappend, aclear, anew, arith, aresults, aresList, ares, spec0, spec1, spec2, spec3, spec4, eqCells, eqCell, e0, ZL, LB, bK, hn0, eL, hpos, hnn] <;> omega
        · simp [aev, cav, look, acallPure, abin, abinN, abinP, abinI, abinS, aun, aconv, afield, afieldAddr, aindexAddr, aindex, aslice, alow, ahigh, abuild, abuildGo, cellsOf, splice, fieldTy, alen, apick, amax, amin, aload, headV, aparts, abuildSlice, elParts, abytesStr, astore, amake, aappend, aclear, anew, arith, aresults, aresList, ares, spec0, spec1, spec2, spec3, spec4, eqCells, eqCell, e0, ZL, LB, bK, hn0, eL, hpos, hnn] <;> omega
end Go.Proofs.Ytpbgnnaaobamfaa

/-
  layer 14: the trie of a relation (after trie/T15).
-/
namespace Go.Proofs.Ytpbgnnaaobamfaa
open Go.RowKit
set_option linter.unusedSimpArgs false
set_option linter.unusedVariables false
set_option maxRecDepth 100000

def levelsF (rows : List (List Int)) (n : Nat) : List Level := (List.range n).map (levelF rows)
theorem levelsF_succ (rows : List (List Int)) (n : Nat) : levelsF rows (n + 1) = levelsF rows n ++ [levelF rows n] := by unfold levelsF; rw [List.range_succ, List.map_append]; rfl
theorem levelsF_length (rows : List (List Int)) (n : Nat) : (levelsF rows n).length = n := by unfold levelsF; simp
noncomputable def buildF (r : Rela) : Trie × Int := if checkF r = 0 then (⟨levelsF r.rows r.arity.toNat⟩, 0) else (⟨[]⟩, checkF r)
theorem check_ok {r : Rela} (h : checkF r = 0) : WideR r.arity r.rows ∧ r.rows.length ≤ 20000 ∧ RisesR r.rows := by
  unfold checkF at h
  split at h
  · rename_i hw
    split at h
    · cases h
    · split at h
      · rename_i h2 h3
        exact ⟨hw, by omega, h3⟩
      · cases h
  · cases h
theorem deep_of {r : Rela} (hS : SmallRs r.rows) (h : checkF r = 0) {k : Nat} (hk : k < r.arity.toNat) : DeepR r.rows k := by
  obtain ⟨hw, h20, _⟩ := check_ok h
  obtain ⟨w1, w2, w3⟩ := hw
  exact ⟨⟨by omega, hS.2⟩, by omega, fun x hx => by have := w3 x hx; omega⟩
def LevPre (l : List (List Int)) (k : Int) : Prop := ∃ n : Nat, k = n ∧ DeepR l n
def sLev2 : List AV → Option (Prop × AV) := spec2 LevPre (fun l k => Enc.enc (levelF l k.toNat))
def pairT (p : Trie × Int) : AV := .tup [.agg [.slice 2 false (encRows p.1.levels)], .int .i64 p.2]
@[simp] theorem pairT_mk (t : Trie) (b : Int) : pairT (t, b) = .tup [.agg [.slice 2 false (encRows t.levels)], .int .i64 b] := rfl
noncomputable def CB2 : Ctx := mkC Try.prog G0 [(39, .pure sCheck), (62, .pure sLev2)]
@[simp] theorem CB2_P : CB2.P = Try.prog := rfl
@[simp] theorem CB2_G : CB2.G = G0 := rfl
@[simp] theorem CB2_1 : CB2.S 39 = .pure sCheck := rfl
@[simp] theorem CB2_2 : CB2.S 62 = .pure sLev2 := rfl
theorem mixCB2 : CB2.P.follows .mixedOrders = true := mixed
theorem sigCB2 : SigOK CB2 := sigOK_cons (entryPure (checkP) Try.func39 rfl (by decide)) (sigOK_cons (entryPure (levelP) Try.func62 rfl (by decide)) (sigOK_nil _ _))
noncomputable def sBuild : List AV → Option (Prop × AV) := spec1 (fun (r : Rela) => SmallRs r.rows) (fun r => pairT (buildF r))
theorem set_fill (L : List Level) (x : Level) (z : List AV) (m : Nat) : (encRows L ++ List.replicate (m + 1) z).set L.length (Enc.cells x) = encRows (L ++ [x]) ++ List.replicate m z := by
  rw [List.set_append_right _ _ (by simp), encRows_length, Nat.sub_self, List.replicate_succ, List.set_cons_zero, encRows_append, List.append_assoc]
  rfl
def fillB (L : List Level) (m : Nat) : Blk := ⟨88, 2, encRows L ++ List.replicate m [.slice 1 true [], .slice 1 true []], true, true⟩
theorem arity_of {r : Rela} (h : checkF r = 0) : ∃ n : Nat, 1 ≤ n ∧ n ≤ 8 ∧ r.rows.length ≤ 20000 ∧ r = ⟨n, r.rows⟩ ∧ buildF r = (⟨levelsF r.rows n⟩, 0) := by
  obtain ⟨⟨w1, w2, _⟩, h20, _⟩ := check_ok h
  refine ⟨r.arity.toNat, by omega, by omega, h20, ?_, by unfold buildF; rw [if_pos h]⟩
  cases r
  simp only at w1 w2 ⊢
  rw [Int.toNat_of_nonneg (by omega)]
set_option maxHeartbeats 8000000 in
theorem buildP : PureOK Try.prog G0 49 sBuild := by
  refine pure1 (C := CB2) sigCB2 mixCB2 Try.func49 rfl rfl rfl (by kernel_rfl) (by decide) (fun r hS => ?_)
  rcases em2 (checkF r = 0) with hc | hc
  case inr =>
    have e : buildF r = (⟨[]⟩, checkF r) := by unfold buildF; rw [if_neg (of_eq_false hc)]
    simp [aev, cav, look, acallPure, abin, abinN, abinP, abinI, abinS, aun, aconv, afield, afieldAddr, aindexAddr, aindex, aslice, alow, ahigh, abuild, abuildGo, cellsOf, splice, fieldTy, alen, apick, amax, amin, aload, headV, aparts, abuildSlice, elParts, abytesStr, astore, amake, aappend, aclear, anew, arith, aresults, aresList, ares, spec0, spec1, spec2, spec3, spec4, eqCells, eqCell, sCheck, hS, hc, e]
  have hc' := of_eq_true hc
  obtain ⟨n, n1, n8, h20, hr, e⟩ := arity_of hc'
  obtain ⟨ar, rows⟩ := r
  simp only [Rela.mk.injEq, and_true] at hr
  subst hr
  simp only at hS h20 e
  simp [aev, cav, look, acallPure, abin, abinN, abinP, abinI, abinS, aun, aconv, afield, afieldAddr, aindexAddr, aindex, aslice, alow, ahigh, abuild, abuildGo, cellsOf, splice, fieldTy, alen, apick, amax, amin, aload, headV, aparts, abuildSlice, elParts, abytesStr, astore, amake, aappend, aclear, anew, arith, aresults, aresList, ares, spec0, spec1, spec2, spec3, spec4, eqCells, eqCell, sCheck, hS, hc', e]
  repeat (refine And.intro (by omega) ?_)
  refine loop_rule (C := CB2) sigCB2 mixCB2 (fun i : Nat => ⟨[(1, .ptr 0 1 2 0 0), (2, .ptr 1 1 1 0 0), (5, .ptr 3 1 1 0 0), (19, .int .i64 n), (20, .int .i64 i)], [RB ⟨n, rows⟩, ⟨72, 1, [[.slice 2 true []]], true, true⟩, fillB (levelsF rows i) (n - i), ⟨72, 1, [[.own 2 n]], true, false⟩]⟩) (fun i => i ≤ n) (fun i => n - i) (by kernel_rfl) ⟨0, by omega, weak_eq (by simp) (by simp [RB, fillB, levelsF])⟩ (fun i hi => ?_)
  have hlen : (levelsF rows i).length = i := levelsF_length _ _
  by_cases hlt : i < n
  · have i1 : I64 ((i : Int) + 1) := by unfold I64; omega
    have hp : LevPre rows i := ⟨i, rfl, deep_of (r := ⟨n, rows⟩) hS hc' (by simpa using hlt)⟩
    have hin : i + (n - i) = n := by omega
    have hz : rowAt (encRows (levelsF rows i) ++ List.replicate (n - i) [.slice 1 true [], .slice 1 true []]) i = [.slice 1 true [], .slice 1 true []] := by
      unfold rowAt
      rw [List.getD_eq_getElem?_getD, List.getElem?_append_right (by simp [hlen]), encRows_length, hlen, Nat.sub_self, List.getElem?_replicate, if_pos (by omega)]
      rfl
    have hset : ∀ c : List AV, (List.replicate (n - i) [AV.slice 1 true [], AV.slice 1 true []]).set 0 c = c :: List.replicate (n - (i + 1)) [AV.slice 1 true [], AV.slice 1 true []] := fun c => by
      rw [show n - i = n - (i + 1) + 1 by omega, List.replicate_succ, List.set_cons_zero]
    simp [aev, cav, look, acallPure, abin, abinN, abinP, abinI, abinS, aun, aconv, afield, afieldAddr, aindexAddr, aindex, aslice, alow, ahigh, abuild, abuildGo, cellsOf, splice, fieldTy, alen, apick, amax, amin, aload, headV, aparts, abuildSlice, elParts, abytesStr, astore, amake, aappend, aclear, anew, arith, aresults, aresList, ares, spec0, spec1, spec2, spec3, spec4, eqCells, eqCell, RB, fillB, sLev2, hlt, hp, i1, hlen, hin, hz, hset]
    exact ⟨i + 1, by omega, by omega, weak_eq (by simp) (by simp [levelsF_succ, encRows_append])⟩
  · have hin : i = n := by omega
    subst hin
    simp [aev, cav, look, acallPure, abin, abinN, abinP, abinI, abinS, aun, aconv, afield, afieldAddr, aindexAddr, aindex, aslice, alow, ahigh, abuild, abuildGo, cellsOf, splice, fieldTy, alen, apick, amax, amin, aload, headV, aparts, abuildSlice, elParts, abytesStr, astore, amake, aappend, aclear, anew, arith, aresults, aresList, ares, spec0, spec1, spec2, spec3, spec4, eqCells, eqCell, RB, fillB, hlt, hlen, e]
end Go.Proofs.Ytpbgnnaaobamfaa
