/-
  Texts joined: FD QD F1 F2 F3 F4 F5 F6 F7 F8 F9 F10 F11 F12 F13 F14 F15 F16 G1 G2 G3 G4 G5 G6 G7 G8 G9 G10.
-/
import Derived.Test.YtfoipbjhaiimlaaDoorAmE
import Derived.Test.YtfoipbjhaiimlaaDoorT
import Derived.Test.YtfoipbjhaiimlaaDoorAmI
import Derived.Laws.Externs
import Derived.Lib.Mul64
import Derived.Test.YtfoipbjhaiimlaaDoorAmK

/-
  simplex: fractions, programs and tableaus as plain values. Printed by wip/enc.py.
-/
namespace Go.Proofs.YtfoipbjhaiimlaaDoor
attribute [simp] aev gav alook litOf litAV mget mhas acopy asrc adst cav look acallPure abin abinN abinP abinI abinS aun aconv afield afieldAddr aindexAddr aindex aslice alow ahigh abuild abuildGo cellsOf splice fieldTy alen apick amax amin aload headV aparts abuildSlice elParts abytesStr astore amake aappend aclear anew arith aresults aresList ares spec0 spec1 spec2 spec3 spec4 eqCells eqCell
open Go.RowKit
set_option linter.unusedSimpArgs false
set_option linter.unusedVariables false

theorem map_unc {α : Type} [Enc α] (l : List α) : (encRows l).map Enc.unc = l := by unfold encRows; simp only [List.map_map, Function.comp_def, Enc.unc_cells, List.map_id']
structure Fr where
  N : Int
  D : Int
instance : Inhabited Fr := ⟨⟨0, 0⟩⟩
@[simp] theorem Fr.eta (x : Fr) : Fr.mk x.N x.D = x := rfl
def Fr.cells (x : Fr) : List AV := [.int .i64 x.N, .int .i64 x.D]
def Fr.unc (c : List AV) : Fr :=
  match c with
  | [.int _ a0, .int _ a1] => ⟨a0, a1⟩
  | _ => default
theorem Fr.unc_cells (x : Fr) : Fr.unc x.cells = x := by
  cases x
  simp only [Fr.cells, Fr.unc, map_unc]
instance : Enc Fr where
  sz := 2
  cells := Fr.cells
  enc x := .agg x.cells
  unc := Fr.unc
  dec v := match v with | .agg c => Fr.unc c | _ => default
  unc_cells := Fr.unc_cells
  dec_enc x := Fr.unc_cells x
@[simp] theorem sz_Fr : Enc.sz Fr = 2 := rfl
@[simp] theorem cells_Fr (x : Fr) : Enc.cells x = [.int .i64 x.N, .int .i64 x.D] := rfl
@[simp] theorem enc_Fr (x : Fr) : Enc.enc x = .agg [.int .i64 x.N, .int .i64 x.D] := rfl
@[simp] theorem unc_Fr (k0 : IntKind) (a0 : Int) (k1 : IntKind) (a1 : Int) : (Enc.unc [.int k0 a0, .int k1 a1] : Fr) = ⟨a0, a1⟩ := rfl
@[simp] theorem dec_Fr (l : List AV) : (Enc.dec (.agg l) : Fr) = Enc.unc l := rfl

structure Lin where
  A : List (List Fr)
  B : List (Fr)
  C : List (Fr)
instance : Inhabited Lin := ⟨⟨[], [], []⟩⟩
@[simp] theorem Lin.eta (x : Lin) : Lin.mk x.A x.B x.C = x := rfl
def Lin.cells (x : Lin) : List AV := [.slice 1 false (encRows x.A), .slice 2 false (encRows x.B), .slice 2 false (encRows x.C)]
def Lin.unc (c : List AV) : Lin :=
  match c with
  | [.slice _ _ a0, .slice _ _ a1, .slice _ _ a2] => ⟨(a0.map Enc.unc), (a1.map Enc.unc), (a2.map Enc.unc)⟩
  | _ => default
theorem Lin.unc_cells (x : Lin) : Lin.unc x.cells = x := by
  cases x
  simp only [Lin.cells, Lin.unc, map_unc]
instance : Enc Lin where
  sz := 3
  cells := Lin.cells
  enc x := .agg x.cells
  unc := Lin.unc
  dec v := match v with | .agg c => Lin.unc c | _ => default
  unc_cells := Lin.unc_cells
  dec_enc x := Lin.unc_cells x
@[simp] theorem sz_Lin : Enc.sz Lin = 3 := rfl
@[simp] theorem cells_Lin (x : Lin) : Enc.cells x = [.slice 1 false (encRows x.A), .slice 2 false (encRows x.B), .slice 2 false (encRows x.C)] := rfl
@[simp] theorem enc_Lin (x : Lin) : Enc.enc x = .agg [.slice 1 false (encRows x.A), .slice 2 false (encRows x.B), .slice 2 false (encRows x.C)] := rfl
@[simp] theorem unc_Lin (s0 : Nat) (f0 : Bool) (a0 : List (List AV)) (s1 : Nat) (f1 : Bool) (a1 : List (List AV)) (s2 : Nat) (f2 : Bool) (a2 : List (List AV)) : (Enc.unc [.slice s0 f0 a0, .slice s1 f1 a1, .slice s2 f2 a2] : Lin) = ⟨(Enc.dec (.slice s0 f0 a0)), (Enc.dec (.slice s1 f1 a1)), (Enc.dec (.slice s2 f2 a2))⟩ := rfl
@[simp] theorem dec_Lin (l : List AV) : (Enc.dec (.agg l) : Lin) = Enc.unc l := rfl

structure Wide where
  neg : Bool
  hi : Int
  lo : Int
instance : Inhabited Wide := ⟨⟨false, 0, 0⟩⟩
@[simp] theorem Wide.eta (x : Wide) : Wide.mk x.neg x.hi x.lo = x := rfl
def Wide.cells (x : Wide) : List AV := [.bool x.neg, .int .u64 x.hi, .int .u64 x.lo]
def Wide.unc (c : List AV) : Wide :=
  match c with
  | [.bool a0, .int _ a1, .int _ a2] => ⟨a0, a1, a2⟩
  | _ => default
theorem Wide.unc_cells (x : Wide) : Wide.unc x.cells = x := by
  cases x
  simp only [Wide.cells, Wide.unc, map_unc]
instance : Enc Wide where
  sz := 3
  cells := Wide.cells
  enc x := .agg x.cells
  unc := Wide.unc
  dec v := match v with | .agg c => Wide.unc c | _ => default
  unc_cells := Wide.unc_cells
  dec_enc x := Wide.unc_cells x
@[simp] theorem sz_Wide : Enc.sz Wide = 3 := rfl
@[simp] theorem cells_Wide (x : Wide) : Enc.cells x = [.bool x.neg, .int .u64 x.hi, .int .u64 x.lo] := rfl
@[simp] theorem enc_Wide (x : Wide) : Enc.enc x = .agg [.bool x.neg, .int .u64 x.hi, .int .u64 x.lo] := rfl
@[simp] theorem unc_Wide (a0 : Bool) (k1 : IntKind) (a1 : Int) (k2 : IntKind) (a2 : Int) : (Enc.unc [.bool a0, .int k1 a1, .int k2 a2] : Wide) = ⟨a0, a1, a2⟩ := rfl
@[simp] theorem dec_Wide (l : List AV) : (Enc.dec (.agg l) : Wide) = Enc.unc l := rfl

structure RTab where
  T : List (List Fr)
  Basic : List (Int)
  Cost : List (Fr)
  Over : Bool
instance : Inhabited RTab := ⟨⟨[], [], [], false⟩⟩
@[simp] theorem RTab.eta (x : RTab) : RTab.mk x.T x.Basic x.Cost x.Over = x := rfl
def RTab.cells (x : RTab) : List AV := [.slice 1 false (encRows x.T), .slice 1 false (encRows x.Basic), .slice 2 false (encRows x.Cost), .bool x.Over]
def RTab.unc (c : List AV) : RTab :=
  match c with
  | [.slice _ _ a0, .slice _ _ a1, .slice _ _ a2, .bool a3] => ⟨(a0.map Enc.unc), (a1.map Enc.unc), (a2.map Enc.unc), a3⟩
  | _ => default
theorem RTab.unc_cells (x : RTab) : RTab.unc x.cells = x := by
  cases x
  simp only [RTab.cells, RTab.unc, map_unc]
instance : Enc RTab where
  sz := 4
  cells := RTab.cells
  enc x := .agg x.cells
  unc := RTab.unc
  dec v := match v with | .agg c => RTab.unc c | _ => default
  unc_cells := RTab.unc_cells
  dec_enc x := RTab.unc_cells x
@[simp] theorem sz_RTab : Enc.sz RTab = 4 := rfl
@[simp] theorem cells_RTab (x : RTab) : Enc.cells x = [.slice 1 false (encRows x.T), .slice 1 false (encRows x.Basic), .slice 2 false (encRows x.Cost), .bool x.Over] := rfl
@[simp] theorem enc_RTab (x : RTab) : Enc.enc x = .agg [.slice 1 false (encRows x.T), .slice 1 false (encRows x.Basic), .slice 2 false (encRows x.Cost), .bool x.Over] := rfl
@[simp] theorem unc_RTab (s0 : Nat) (f0 : Bool) (a0 : List (List AV)) (s1 : Nat) (f1 : Bool) (a1 : List (List AV)) (s2 : Nat) (f2 : Bool) (a2 : List (List AV)) (a3 : Bool) : (Enc.unc [.slice s0 f0 a0, .slice s1 f1 a1, .slice s2 f2 a2, .bool a3] : RTab) = ⟨(Enc.dec (.slice s0 f0 a0)), (Enc.dec (.slice s1 f1 a1)), (Enc.dec (.slice s2 f2 a2)), a3⟩ := rfl
@[simp] theorem dec_RTab (l : List AV) : (Enc.dec (.agg l) : RTab) = Enc.unc l := rfl

end Go.Proofs.YtfoipbjhaiimlaaDoor


/-
  cover: hypergraphs as plain values. Printed by wip/enc.py.
-/
namespace Go.Proofs.YtfoipbjhaiimlaaDoor
open Go.RowKit
set_option linter.unusedSimpArgs false
set_option linter.unusedVariables false

structure Hy where
  N : Int
  E : List (List Int)
instance : Inhabited Hy := ⟨⟨0, []⟩⟩
@[simp] theorem Hy.eta (x : Hy) : Hy.mk x.N x.E = x := rfl
def Hy.cells (x : Hy) : List AV := [.int .i64 x.N, .slice 1 false (encRows x.E)]
def Hy.unc (c : List AV) : Hy :=
  match c with
  | [.int _ a0, .slice _ _ a1] => ⟨a0, (a1.map Enc.unc)⟩
  | _ => default
theorem Hy.unc_cells (x : Hy) : Hy.unc x.cells = x := by
  cases x
  simp only [Hy.cells, Hy.unc, map_unc]
instance : Enc Hy where
  sz := 2
  cells := Hy.cells
  enc x := .agg x.cells
  unc := Hy.unc
  dec v := match v with | .agg c => Hy.unc c | _ => default
  unc_cells := Hy.unc_cells
  dec_enc x := Hy.unc_cells x
@[simp] theorem sz_Hy : Enc.sz Hy = 2 := rfl
@[simp] theorem cells_Hy (x : Hy) : Enc.cells x = [.int .i64 x.N, .slice 1 false (encRows x.E)] := rfl
@[simp] theorem enc_Hy (x : Hy) : Enc.enc x = .agg [.int .i64 x.N, .slice 1 false (encRows x.E)] := rfl
@[simp] theorem unc_Hy (k0 : IntKind) (a0 : Int) (s1 : Nat) (f1 : Bool) (a1 : List (List AV)) : (Enc.unc [.int k0 a0, .slice s1 f1 a1] : Hy) = ⟨a0, (Enc.dec (.slice s1 f1 a1))⟩ := rfl
@[simp] theorem dec_Hy (l : List AV) : (Enc.dec (.agg l) : Hy) = Enc.unc l := rfl

end Go.Proofs.YtfoipbjhaiimlaaDoor

/-
  layer 3: fractions, in plain words: lowest terms, sums, products.
-/
namespace Go.Proofs.YtfoipbjhaiimlaaDoor
open Go.RowKit
set_option linter.unusedSimpArgs false
set_option linter.unusedVariables false

instance : DecidableEq Fr := fun a b => match a, b with
  | ⟨n, d⟩, ⟨n', d'⟩ => if h : n = n' ∧ d = d' then .isTrue (by rw [h.1, h.2]) else .isFalse (fun e => h (by injection e with e1 e2; exact ⟨e1, e2⟩))
@[simp] theorem rows_snoc_fr (l : List Fr) (n d : Int) : encRows l ++ [[.int .i64 n, .int .i64 d]] = encRows (l ++ [⟨n, d⟩]) := by rw [encRows_append]; rfl
@[simp] theorem rows_set_fr (l : List Fr) (i : Nat) (n d : Int) : (encRows l).set i [.int .i64 n, .int .i64 d] = encRows (l.set i ⟨n, d⟩) := encRows_set l i ⟨n, d⟩

/-- In range. -/
def InR (n : Int) : Prop := -1000000000000000 ≤ n ∧ n ≤ 1000000000000000
instance (n : Int) : Decidable (InR n) := inferInstanceAs (Decidable (_ ∧ _))
def ValidF (a : Fr) : Prop := 1 ≤ a.D ∧ a.D ≤ 1000000000000000 ∧ InR a.N ∧ Int.gcd a.N a.D = 1
instance (a : Fr) : Decidable (ValidF a) := inferInstanceAs (Decidable (_ ∧ _ ∧ _ ∧ _))
def F00 : Fr := ⟨0, 0⟩
def F01 : Fr := ⟨0, 1⟩
def F11 : Fr := ⟨1, 1⟩
/-- In range, or nothing. -/
def rngF (n d : Int) : Fr × Bool := if InR n ∧ InR d then (⟨n, d⟩, true) else (F00, false)
/-- In lowest terms. -/
def normF (n d : Int) : Fr × Bool := rngF (n.tdiv (Int.gcd n d)) (d.tdiv (Int.gcd n d))
def addF (a b : Fr) : Fr × Bool := if ValidF a ∧ ValidF b then normF (a.N * b.D + b.N * a.D) (a.D * b.D) else (F00, false)
def mulF (a b : Fr) : Fr × Bool := if ValidF a ∧ ValidF b then normF (a.N * b.N) (a.D * b.D) else (F00, false)
def negF (a : Fr) : Fr := ⟨w64 (-a.N), a.D⟩
def subF (a b : Fr) : Fr × Bool := addF a (negF b)
def divF (a b : Fr) : Fr × Bool := if ValidF b ∧ b.N ≠ 0 then (if b.N < 0 then mulF a ⟨-b.D, -b.N⟩ else mulF a ⟨b.D, b.N⟩) else (F00, false)
def fixF (a : Fr) : Fr := if ValidF a then a else F01
def sgn (n : Int) : Int := if n < 0 then -1 else if 0 < n then 1 else 0
def cmpF (a b : Fr) : Int := sgn ((fixF a).N * (fixF b).D - (fixF b).N * (fixF a).D)

theorem norm_eq {n d k : Int} (hk : 0 < k) (hg : Int.gcd n d = 1) : normF (n * k) (d * k) = rngF n d := by
  unfold normF
  have e : Int.gcd (n * k) (d * k) = k.natAbs := by rw [Int.gcd_mul_right, hg, Nat.one_mul]
  have e2 : ((k.natAbs : Nat) : Int) = k := by omega
  rw [e, e2, Int.mul_tdiv_cancel _ (by omega), Int.mul_tdiv_cancel _ (by omega)]

/-- The parts of a product that stay when what is shared crosswise is struck. -/
theorem mul_parts {a b : Fr} (ha : ValidF a) (hb : ValidF b) : mulF a b = rngF (a.N.tdiv (Int.gcd a.N b.D) * b.N.tdiv (Int.gcd b.N a.D)) (a.D.tdiv (Int.gcd b.N a.D) * b.D.tdiv (Int.gcd a.N b.D)) := by
  obtain ⟨a1, a2, a3, a4⟩ := ha
  obtain ⟨b1, b2, b3, b4⟩ := hb
  obtain ⟨x, hx⟩ := Int.gcd_dvd_left a.N b.D
  obtain ⟨y, hy⟩ := Int.gcd_dvd_right a.N b.D
  obtain ⟨u, hu⟩ := Int.gcd_dvd_left b.N a.D
  obtain ⟨v, hv⟩ := Int.gcd_dvd_right b.N a.D
  have g1 : 0 < Int.gcd a.N b.D := Int.gcd_pos_of_ne_zero_right _ (by omega)
  have h1 : 0 < Int.gcd b.N a.D := Int.gcd_pos_of_ne_zero_right _ (by omega)
  have xy : Int.gcd x y = 1 := by
    have := Int.gcd_mul_left (Int.gcd a.N b.D) x y
    rw [← hx, ← hy, Int.natAbs_natCast] at this
    exact Nat.eq_of_mul_eq_mul_left g1 (by omega)
  have uv : Int.gcd u v = 1 := by
    have := Int.gcd_mul_left (Int.gcd b.N a.D) u v
    rw [← hu, ← hv, Int.natAbs_natCast] at this
    exact Nat.eq_of_mul_eq_mul_left h1 (by omega)
  generalize hgg : Int.gcd a.N b.D = g at *
  generalize hhh : Int.gcd b.N a.D = h at *
  have gp : (0 : Int) < (g : Int) := by omega
  have hp : (0 : Int) < (h : Int) := by omega
  have q1 : a.N.tdiv g = x := by rw [hx, Int.mul_tdiv_cancel_left _ (by omega)]
  have q2 : b.D.tdiv g = y := by rw [hy, Int.mul_tdiv_cancel_left _ (by omega)]
  have q3 : b.N.tdiv h = u := by rw [hu, Int.mul_tdiv_cancel_left _ (by omega)]
  have q4 : a.D.tdiv h = v := by rw [hv, Int.mul_tdiv_cancel_left _ (by omega)]
  have xv : Int.gcd x v = 1 := by
    rw [Int.gcd_eq_one_iff] at a4 ⊢
    exact fun c c1 c2 => a4 c (by rw [hx]; exact Int.dvd_mul_of_dvd_right c1) (by rw [hv]; exact Int.dvd_mul_of_dvd_right c2)
  have uy : Int.gcd u y = 1 := by
    rw [Int.gcd_eq_one_iff] at b4 ⊢
    exact fun c c1 c2 => b4 c (by rw [hu]; exact Int.dvd_mul_of_dvd_right c1) (by rw [hy]; exact Int.dvd_mul_of_dvd_right c2)
  have all : Int.gcd (x * u) (v * y) = 1 := by
    unfold Int.gcd at *
    rw [Int.natAbs_mul, Int.natAbs_mul]
    exact Nat.Coprime.mul_left (Nat.Coprime.mul_right xv xy) (Nat.Coprime.mul_right uv uy)
  unfold mulF
  rw [if_pos ⟨⟨a1, a2, a3, a4⟩, ⟨b1, b2, b3, b4⟩⟩, q1, q2, q3, q4, ← norm_eq (k := g * h) (Int.mul_pos gp hp) all]
  congr 1
  · rw [hx, hu]; ac_rfl
  · rw [hv, hy]; ac_rfl

/-- The parts of a sum. -/
def tF (a b : Fr) : Int := a.N * b.D.tdiv (Int.gcd a.D b.D) + b.N * a.D.tdiv (Int.gcd a.D b.D)
theorem add_parts {a b : Fr} (ha : ValidF a) (hb : ValidF b) : 0 < Int.gcd (tF a b) (Int.gcd a.D b.D) ∧ addF a b = rngF ((tF a b).tdiv (Int.gcd (tF a b) (Int.gcd a.D b.D))) (a.D.tdiv (Int.gcd a.D b.D) * b.D.tdiv (Int.gcd (tF a b) (Int.gcd a.D b.D))) := by
  obtain ⟨a1, a2, a3, a4⟩ := ha
  obtain ⟨b1, b2, b3, b4⟩ := hb
  obtain ⟨x, hx⟩ := Int.gcd_dvd_left a.D b.D
  obtain ⟨y, hy⟩ := Int.gcd_dvd_right a.D b.D
  have g1 : 0 < Int.gcd a.D b.D := Int.gcd_pos_of_ne_zero_right _ (by omega)
  have xy : Int.gcd x y = 1 := by
    have := Int.gcd_mul_left (Int.gcd a.D b.D) x y
    rw [← hx, ← hy, Int.natAbs_natCast] at this
    exact Nat.eq_of_mul_eq_mul_left g1 (by omega)
  unfold tF
  generalize hgg : Int.gcd a.D b.D = g at *
  have gp : (0 : Int) < (g : Int) := by omega
  have q1 : a.D.tdiv g = x := by rw [hx, Int.mul_tdiv_cancel_left _ (by omega)]
  have q2 : b.D.tdiv g = y := by rw [hy, Int.mul_tdiv_cancel_left _ (by omega)]
  rw [q1, q2]
  generalize ht : a.N * y + b.N * x = t
  have h1 : 0 < Int.gcd t g := Int.gcd_pos_of_ne_zero_right _ (by omega)
  obtain ⟨t', ht'⟩ := Int.gcd_dvd_left t (g : Int)
  obtain ⟨g', hg'⟩ := Int.gcd_dvd_right t (g : Int)
  have tg : Int.gcd t' g' = 1 := by
    have := Int.gcd_mul_left (Int.gcd t g) t' g'
    rw [← ht', ← hg', Int.natAbs_natCast] at this
    exact Nat.eq_of_mul_eq_mul_left h1 (by omega)
  generalize hhh : Int.gcd t g = h at *
  have hp : (0 : Int) < (h : Int) := by omega
  have q3 : t.tdiv h = t' := by rw [ht', Int.mul_tdiv_cancel_left _ (by omega)]
  have q4 : b.D.tdiv h = g' * y := by rw [hy, hg', Int.mul_assoc, Int.mul_tdiv_cancel_left _ (by omega)]
  refine ⟨h1, ?_⟩
  rw [q3, q4]
  have nx : Int.gcd a.N x = 1 := by
    rw [Int.gcd_eq_one_iff] at a4 ⊢
    exact fun c c1 c2 => a4 c c1 (by rw [hx]; exact Int.dvd_mul_of_dvd_right c2)
  have ny : Int.gcd b.N y = 1 := by
    rw [Int.gcd_eq_one_iff] at b4 ⊢
    exact fun c c1 c2 => b4 c c1 (by rw [hy]; exact Int.dvd_mul_of_dvd_right c2)
  have tx : Int.gcd t x = 1 := by
    have e : Int.gcd (a.N * y) x = 1 := by
      unfold Int.gcd at *
      rw [Int.natAbs_mul]
      exact Nat.Coprime.mul_left nx (Nat.Coprime.symm xy)
    rw [← ht, Int.gcd_eq_one_iff] at *
    refine fun c c1 c2 => e c ?_ c2
    have : a.N * y = (a.N * y + b.N * x) - b.N * x := by omega
    rw [this]
    exact Int.dvd_sub c1 (Int.dvd_mul_of_dvd_right c2)
  have ty : Int.gcd t y = 1 := by
    have e : Int.gcd (b.N * x) y = 1 := by
      unfold Int.gcd at *
      rw [Int.natAbs_mul]
      exact Nat.Coprime.mul_left ny xy
    rw [← ht, Int.gcd_eq_one_iff] at *
    refine fun c c1 c2 => e c ?_ c2
    have : b.N * x = (a.N * y + b.N * x) - a.N * y := by omega
    rw [this]
    exact Int.dvd_sub c1 (Int.dvd_mul_of_dvd_right c2)
  have part : ∀ z : Int, Int.gcd t z = 1 → Int.gcd t' z = 1 := fun z hz => by
    rw [Int.gcd_eq_one_iff] at hz ⊢
    exact fun c c1 c2 => hz c (by rw [ht']; exact Int.dvd_mul_of_dvd_right c1) c2
  have all : Int.gcd t' (x * (g' * y)) = 1 := by
    have p1 := part x tx
    have p2 := part y ty
    unfold Int.gcd at *
    rw [Int.natAbs_mul, Int.natAbs_mul]
    exact Nat.Coprime.mul_right p1 (Nat.Coprime.mul_right tg p2)
  unfold addF
  rw [if_pos ⟨⟨a1, a2, a3, a4⟩, ⟨b1, b2, b3, b4⟩⟩, ← norm_eq (k := h * g) (Int.mul_pos hp gp) all]
  congr 1
  · have e1 : a.N * b.D + b.N * a.D = (a.N * y + b.N * x) * g := by rw [hx, hy, Int.add_mul]; congr 1 <;> ac_rfl
    rw [e1, ht, ht']; ac_rfl
  · rw [hx, hy]
    rw [show x * (g' * y) * (h * g) = (h * g') * x * y * g by ac_rfl, ← hg']
    ac_rfl
theorem add_zero_parts {a b : Fr} (ha : ValidF a) (hb : ValidF b) (h : tF a b = 0) : addF a b = (F01, true) := by
  obtain ⟨h1, h2⟩ := add_parts ha hb
  obtain ⟨a1, a2, a3, a4⟩ := ha
  obtain ⟨b1, b2, b3, b4⟩ := hb
  have e : addF a b = normF (0 * (a.D * b.D)) (1 * (a.D * b.D)) := by
    unfold addF
    rw [if_pos ⟨⟨a1, a2, a3, a4⟩, ⟨b1, b2, b3, b4⟩⟩, Int.zero_mul, Int.one_mul]
    congr 1
    obtain ⟨x, hx⟩ := Int.gcd_dvd_left a.D b.D
    obtain ⟨y, hy⟩ := Int.gcd_dvd_right a.D b.D
    have g1 : 0 < Int.gcd a.D b.D := Int.gcd_pos_of_ne_zero_right _ (by omega)
    unfold tF at h
    generalize Int.gcd a.D b.D = g at *
    have q1 : a.D.tdiv g = x := by rw [hx, Int.mul_tdiv_cancel_left _ (by omega)]
    have q2 : b.D.tdiv g = y := by rw [hy, Int.mul_tdiv_cancel_left _ (by omega)]
    rw [q1, q2] at h
    have e1 : a.N * b.D + b.N * a.D = (a.N * y + b.N * x) * g := by rw [hx, hy, Int.add_mul]; congr 1 <;> ac_rfl
    rw [e1, h, Int.zero_mul]
  rw [e, norm_eq (Int.mul_pos (by omega) (by omega)) (by decide)]
  rfl
end Go.Proofs.YtfoipbjhaiimlaaDoor


/-
  layers 1 and 3: range, absolute value, divisor, product of integers; the program's side.
-/
namespace Go.Proofs.YtfoipbjhaiimlaaDoor
open Go.RowKit
set_option linter.unusedSimpArgs false
set_option linter.unusedVariables false
set_option maxRecDepth 100000

theorem em2 (p : Prop) : (p = True) ∨ (p = False) := by
  by_cases h : p
  · exact .inl (eq_true h)
  · exact .inr (eq_false h)
/-- The package's variables: the fraction 0. -/
def G0 : Nat → AV := fun g => if g = 0 then .iptr [.int .i64 0, .int .i64 1] else .undef
@[simp] theorem G0_0 : G0 0 = .iptr [.int .i64 0, .int .i64 1] := rfl
@[simp] theorem G0_1 : G0 1 = .undef := rfl
@[simp] theorem G0_2 : G0 2 = .undef := rfl
noncomputable def CE : Ctx := mkC Tryd.prog G0 []
@[simp] theorem CE_P : CE.P = Tryd.prog := rfl
@[simp] theorem CE_G : CE.G = G0 := rfl
theorem mixCE : CE.P.follows .mixedOrders = true := mixed
theorem sigCE : SigOK CE := sigOK_nil _ _

def sIn : List AV → Option (Prop × AV) := spec1 (fun (_ : Int) => True) (fun n => .bool (decide (InR n)))
theorem inP : PureOK Tryd.prog G0 57 sIn := by
  refine pure1 (C := CE) sigCE mixCE Tryd.func57 rfl rfl rfl (by kernel_rfl) (by decide) (fun n _ => ?_)
  by_cases h1 : -1000000000000000 ≤ n
  · by_cases h2 : n ≤ 1000000000000000
    · simp [h1, h2, InR]
    · simp [h1, h2, InR]
  · simp [h1, InR]
def absI (n : Int) : Int := n.natAbs
theorem absI_pos {n : Int} (h : 0 ≤ n) : absI n = n := by unfold absI; omega
theorem absI_neg {n : Int} (h : n ≤ 0) : absI n = -n := by unfold absI; omega
theorem absI_nn (n : Int) : 0 ≤ absI n := by unfold absI; omega
theorem absI_R {n : Int} (h : InR n) : 0 ≤ absI n ∧ absI n ≤ 1000000000000000 := by unfold InR at h; unfold absI; omega
def sAbs : List AV → Option (Prop × AV) := spec1 (fun (n : Int) => InR n) (fun n => .int .i64 (absI n))
theorem absP : PureOK Tryd.prog G0 86 sAbs := by
  refine pure1 (C := CE) sigCE mixCE Tryd.func86 rfl rfl rfl (by kernel_rfl) (by decide) (fun n h => ?_)
  unfold InR at h
  by_cases h1 : 0 ≤ n
  · have e := absI_pos h1
    have i1 : IntKind.wrap .i64 (-n) = -n := IntWalk.i64_in _ (by omega)
    have n1 : ¬ n < -n := by omega
    simp [e, i1, n1]
  · have e := absI_neg (n := n) (by omega)
    have i1 : IntKind.wrap .i64 (-n) = -n := IntWalk.i64_in _ (by omega)
    have n1 : n < -n := by omega
    simp [e, i1, n1]

noncomputable def CN : Ctx := mkC Tryd.prog G0 [(57, .pure sIn), (86, .pure sAbs)]
@[simp] theorem CN_P : CN.P = Tryd.prog := rfl
@[simp] theorem CN_G : CN.G = G0 := rfl
@[simp] theorem CN_1 : CN.S 57 = .pure sIn := rfl
@[simp] theorem CN_2 : CN.S 86 = .pure sAbs := rfl
theorem mixCN : CN.P.follows .mixedOrders = true := mixed
theorem sigCN : SigOK CN := sigOK_cons (entryPure (inP) Tryd.func57 rfl (by decide)) (sigOK_cons (entryPure (absP) Tryd.func86 rfl (by decide)) (sigOK_nil _ _))
def gcdI (a b : Int) : Int := if InR a ∧ InR b then Int.gcd a b else 0
theorem gcd_step {a b : Int} (hb : 0 < b) (ha : 0 ≤ a) : Int.gcd b (a.tmod b) = Int.gcd a b := by
  rw [Int.tmod_eq_emod_of_nonneg ha]
  unfold Int.gcd
  rw [Int.natAbs_emod_of_nonneg ha, Nat.gcd_comm a.natAbs, Nat.gcd_rec b.natAbs a.natAbs, Nat.gcd_comm]
def sGcd : List AV → Option (Prop × AV) := spec2 (fun (_ _ : Int) => True) (fun a b => .int .i64 (gcdI a b))
set_option maxHeartbeats 4000000 in
theorem gcdP : PureOK Tryd.prog G0 58 sGcd := by
  refine pure2 (C := CN) sigCN mixCN Tryd.func58 rfl rfl rfl (by kernel_rfl) (by decide) (fun a b _ => ?_)
  by_cases h1 : InR a
  case neg => simp [sIn, h1, gcdI]
  by_cases h2 : InR b
  case neg => simp [sIn, h1, h2, gcdI]
  have e : gcdI a b = Int.gcd (absI a) (absI b) := by
    unfold gcdI absI
    rw [if_pos ⟨h1, h2⟩]
    rfl
  rw [e]
  have a1 := absI_R h1
  have b1 := absI_R h2
  simp [sIn, sAbs, h1, h2]
  refine loop_rule (C := CN) sigCN mixCN (fun q : Int × Int => ⟨[(0, .int .i64 q.1), (1, .int .i64 q.2), (4, .int .i64 0)], []⟩) (fun q => 0 ≤ q.1 ∧ 0 ≤ q.2 ∧ q.2 ≤ 1000000000000000 ∧ Int.gcd q.1 q.2 = Int.gcd (absI a) (absI b)) (fun q => q.2.toNat) (by kernel_rfl) ⟨(absI a, absI b), ⟨a1.1, b1.1, b1.2, rfl⟩, weak_slots (by simp)⟩ (fun ⟨u, v⟩ ⟨p1, p2, p3, p4⟩ => ?_)
  simp only at p1 p2 p3 p4 ⊢
  by_cases hv : v = 0
  · subst hv
    rw [Int.gcd_zero_right] at p4
    have e2 : u = Int.gcd (absI a) (absI b) := by omega
    simp [e2]
  · have hv' : 0 < v := by omega
    have m1 := Int.emod_nonneg u hv
    have m2 := Int.emod_lt_of_pos u hv'
    have m3 := gcd_step hv' p1
    rw [Int.tmod_eq_emod_of_nonneg p1] at m3
    have e3 := Int.tmod_eq_emod_of_nonneg (b := v) p1
    simp [hv, e3]
    exact ⟨v, u % v, ⟨p2, m1, by omega, by omega⟩, by omega, weak_slots (by simp)⟩

/-- The product, where it is in range. -/
def mulI (a b : Int) : Int × Bool := if InR a ∧ InR b ∧ InR (a * b) then (a * b, true) else (0, false)
theorem mulI_yes {a b : Int} (h1 : InR a) (h2 : InR b) (h3 : InR (a * b)) : mulI a b = (a * b, true) := if_pos ⟨h1, h2, h3⟩
theorem mulI_no {a b : Int} (h : ¬ (InR a ∧ InR b ∧ InR (a * b))) : mulI a b = (0, false) := if_neg h
theorem quo_in {a b : Int} (ha : InR a) (hb : InR b) (h0 : a ≠ 0) : (absI b ≤ (1000000000000000 : Int).tdiv (absI a)) ↔ InR (a * b) := by
  have a1 := absI_R ha
  have pa : 0 < absI a := by unfold absI; omega
  rw [Int.tdiv_eq_ediv_of_nonneg (by decide), Int.le_ediv_iff_mul_le pa]
  have e : absI b * absI a = absI (a * b) := by
    unfold absI
    rw [Int.natAbs_mul, Int.natCast_mul, Int.mul_comm]
  rw [e]
  unfold absI InR
  omega
theorem quo_I64 {a : Int} (h0 : a ≠ 0) : I64 ((1000000000000000 : Int).tdiv (absI a)) := by
  have pa : 0 < absI a := by unfold absI; omega
  rw [Int.tdiv_eq_ediv_of_nonneg (by decide)]
  have h1 := Int.ediv_nonneg (a := 1000000000000000) (b := absI a) (by decide) (by omega)
  have h2 := Int.ediv_le_self (a := 1000000000000000) (absI a) (by decide)
  unfold I64
  omega
def sMulI : List AV → Option (Prop × AV) := spec2 (fun (_ _ : Int) => True) (fun a b => .tup [.int .i64 (mulI a b).1, .bool (mulI a b).2])
set_option maxHeartbeats 4000000 in
theorem mulIP : PureOK Tryd.prog G0 108 sMulI := by
  refine pure2 (C := CN) sigCN mixCN Tryd.func108 rfl rfl rfl (by kernel_rfl) (by decide) (fun a b _ => ?_)
  by_cases h1 : InR a
  case neg =>
    have e := mulI_no (a := a) (b := b) (fun h => h1 h.1)
    simp [sIn, h1, e]
  by_cases h2 : InR b
  case neg =>
    have e := mulI_no (a := a) (b := b) (fun h => h2 h.2.1)
    simp [sIn, h1, h2, e]
  by_cases h0 : a = 0
  · have e := mulI_yes h1 h2 (by rw [h0, Int.zero_mul]; decide)
    subst h0
    rw [Int.zero_mul] at e
    have i0 : I64 (0 : Int) := by unfold I64; omega
    simp [sIn, sAbs, h1, h2, e, i0]
  have i1 := quo_I64 h0
  have q := quo_in h1 h2 h0
  have z : absI a ≠ 0 := by unfold absI; omega
  have z' : ¬ absI a = 0 := z
  by_cases h3 : InR (a * b)
  · have e := mulI_yes h1 h2 h3
    have n1 : ¬ (1000000000000000 : Int).tdiv (absI a) < absI b := by have := q.2 h3; omega
    have i2 : I64 (a * b) := by unfold InR at h3; unfold I64; omega
    simp [sIn, sAbs, h1, h2, h0, i1, n1, i2, e, z']
  · have e := mulI_no (a := a) (b := b) (fun h => h3 h.2.2)
    have n1 : (1000000000000000 : Int).tdiv (absI a) < absI b := by
      have := mt q.1 h3
      omega
    simp [sIn, sAbs, h1, h2, h0, i1, n1, e, z']

def sSizeP : List AV → Option (Prop × AV) := spec1 (fun (n : Int) => InR n) (fun n => .int .u64 (absI n))
theorem wrap_u64_in {n : Int} (h : 0 ≤ n) (h' : n < 18446744073709551616) : IntKind.wrap .u64 n = n := by rw [IntKind.wrap_u64]; omega
theorem sizeP : PureOK Tryd.prog G0 115 sSizeP := by
  refine pure1 (C := CE) sigCE mixCE Tryd.func115 rfl rfl rfl (by kernel_rfl) (by decide) (fun n h => ?_)
  unfold InR at h
  by_cases h1 : n < 0
  · have e := absI_neg (n := n) (by omega)
    have i1 : IntKind.wrap .u64 (-(IntKind.wrap .u64 n)) = -n := by rw [IntKind.wrap_u64, IntKind.wrap_u64]; omega
    simp [e, i1, h1]
  · have e := absI_pos (n := n) (by omega)
    have i1 : IntKind.wrap .u64 n = n := by rw [IntKind.wrap_u64]; omega
    simp [e, i1, h1]
end Go.Proofs.YtfoipbjhaiimlaaDoor


/-
  layer 3: the words of the library: sums with carry, the long product, the length.
-/
namespace Go.Proofs.YtfoipbjhaiimlaaDoor
open Go.RowKit
set_option linter.unusedSimpArgs false
set_option linter.unusedVariables false
set_option maxRecDepth 100000

/-- A word. -/
def W64 (x : Int) : Prop := 0 ≤ x ∧ x < 18446744073709551616
def sAdd64 : List AV → Option (Prop × AV)
  | [.int .u64 x, .int .u64 y, .int .u64 c] => some (W64 x ∧ W64 y ∧ (c = 0 ∨ c = 1), .tup [.int .u64 ((x + y + c) % 18446744073709551616), .int .u64 ((x + y + c) / 18446744073709551616)])
  | _ => none
def sSub64 : List AV → Option (Prop × AV)
  | [.int .u64 x, .int .u64 y, .int .u64 c] => some (W64 x ∧ W64 y ∧ (c = 0 ∨ c = 1), .tup [.int .u64 ((x - y - c) % 18446744073709551616), .int .u64 (if x < y + c then 1 else 0)])
  | _ => none
theorem repD_intv {w : World} {X : Nat → Prop} {v : Value} {k : IntKind} {n : Int} (h : RepD w X v (.int k n)) : v = .int k n := by cases h; rfl
theorem repD_pair {w : World} {X : Nat → Prop} (k k' : IntKind) (a b : Int) : RepD w X (.tuple #[.int k a, .int k' b]) (.tup [.int k a, .int k' b]) :=
  .tup #[.int k a, .int k' b] [.int k a, .int k' b] (fun i => if i = 0 then .int k a else .int k' b) rfl (fun j hj => by
    match j, hj with
    | 0, _ => rfl
    | 1, _ => rfl
    | j + 2, hj => simp at hj; omega) (fun j v hj => by
    match j, hj with
    | 0, hj => obtain rfl : AV.int k a = v := by simpa using hj
               exact .int _ _
    | 1, hj => obtain rfl : AV.int k' b = v := by simpa using hj
               exact .int _ _
    | j + 2, hj => simp at hj)
theorem three_args {w : World} {X : Nat → Prop} {args : Array Value} {k : IntKind} {x y c : Int} (hsz : args.size = 3) (harg : ∀ (j : Nat) (u : AV), [AV.int k x, .int k y, .int k c][j]? = some u → ∃ v, args[j]? = some v ∧ RepD w X v u) : args = #[.int k x, .int k y, .int k c] := by
  obtain ⟨v0, a0, b0⟩ := harg 0 _ rfl
  obtain ⟨v1, a1, b1⟩ := harg 1 _ rfl
  obtain ⟨v2, a2, b2⟩ := harg 2 _ rfl
  rw [repD_intv b0] at a0
  rw [repD_intv b1] at a1
  rw [repD_intv b2] at a2
  apply Array.ext'
  match args, hsz with
  | ⟨[p, q, r]⟩, _ => simp at a0 a1 a2; simp [a0, a1, a2]
theorem add64X : ExtOK Tryd.prog 116 sAdd64 := by
  intro w X args avs ob r hsz harg hp hob
  unfold sAdd64 at hp
  split at hp
  · rename_i x y c
    injection hp with hp; injection hp with e1 e2; subst e1 e2
    obtain ⟨⟨x0, x1⟩, ⟨y0, y1⟩, hc⟩ := hob
    rw [three_args hsz harg]
    obtain ⟨x, rfl⟩ := Int.eq_ofNat_of_zero_le x0
    obtain ⟨y, rfl⟩ := Int.eq_ofNat_of_zero_le y0
    obtain ⟨c, rfl⟩ := Int.eq_ofNat_of_zero_le (a := c) (by omega)
    refine ⟨_, ?_, repD_pair _ _ _ _⟩
    rw [run_callFunc_extern Tryd.func116 (by kernel_rfl) (by kernel_rfl) (by kernel_rfl) (e := add64Entry) (by kernel_rfl), run_add64 x y c (by omega) (by omega) (by omega) (by omega)]
    simp only [Result.andThen]
  · cases hp
def sub64Entry : Array Value → Sem Value := fun args => do
  let (x, y, b) ← Extern.MathBitsCarry.three "Sub64" args
  pure (Extern.MathBitsCarry.pair ((x + Extern.MathBitsCarry.m64 - y - b) % Extern.MathBitsCarry.m64) (if x < y + b then 1 else 0))
theorem run_sub64 (x y b : Nat) (hb : b ≤ 1) (P : Program) (w : World) :
    (sub64Entry #[.int .u64 x, .int .u64 y, .int .u64 b]).run P w =
      .ok (.tuple #[.int .u64 (((x + 18446744073709551616 - y - b) % 18446744073709551616 : Nat) : Int), .int .u64 ((if x < y + b then 1 else 0 : Nat) : Int)]) w := by
  have : b = 0 ∨ b = 1 := by omega
  rcases this with rfl | rfl <;> rfl
theorem sub64X : ExtOK Tryd.prog 118 sSub64 := by
  intro w X args avs ob r hsz harg hp hob
  unfold sSub64 at hp
  split at hp
  · rename_i x y c
    injection hp with hp; injection hp with e1 e2; subst e1 e2
    obtain ⟨⟨x0, x1⟩, ⟨y0, y1⟩, hc⟩ := hob
    rw [three_args hsz harg]
    obtain ⟨x, rfl⟩ := Int.eq_ofNat_of_zero_le x0
    obtain ⟨y, rfl⟩ := Int.eq_ofNat_of_zero_le y0
    obtain ⟨c, rfl⟩ := Int.eq_ofNat_of_zero_le (a := c) (by omega)
    refine ⟨_, ?_, repD_pair _ _ _ _⟩
    rw [run_callFunc_extern Tryd.func118 (by kernel_rfl) (by kernel_rfl) (by kernel_rfl) (e := sub64Entry) (by kernel_rfl), run_sub64 x y c (by omega)]
    simp only [Result.andThen]
    have e1 : (((x + 18446744073709551616 - y - c) % 18446744073709551616 : Nat) : Int) = ((x : Int) - y - c) % 18446744073709551616 := by omega
    have e2 : ((if x < y + c then 1 else 0 : Nat) : Int) = if (x : Int) < y + c then 1 else 0 := by split <;> split <;> omega
    rw [e1, e2]
  · cases hp

theorem shr_k {a : Int} (k : Nat) (hk : k ≤ 64) : a.fdiv (2 ^ (min (k : Int).toNat (IntKind.bits .u64))) = a / (2 ^ k) := by
  have e : min (k : Int).toNat (IntKind.bits .u64) = k := by
    show min _ 64 = k
    omega
  rw [e, Int.fdiv_eq_ediv_of_nonneg _ (Int.pow_nonneg (by decide))]
theorem and32 {a : Int} (h : W64 a) : bits2 .and .u64 a 4294967295 = a % 4294967296 := by
  obtain ⟨h1, h2⟩ := h
  obtain ⟨a, rfl⟩ := Int.eq_ofNat_of_zero_le h1
  show IntKind.wrap .u64 ((BitVec.ofInt 64 (a : Int) &&& BitVec.ofInt 64 ((4294967295 : Nat) : Int)).toNat : Int) = _
  rw [BitVec.ofInt_natCast, BitVec.ofInt_natCast, BitVec.toNat_and, BitVec.toNat_ofNat, BitVec.toNat_ofNat, Nat.mod_eq_of_lt (by omega), show 4294967295 % 2 ^ 64 = 2 ^ 32 - 1 by decide, Nat.and_two_pow_sub_one_eq_mod, IntKind.wrap_u64]
  omega
theorem or_zero_iff {a b : Int} (ha : W64 a) (hb : W64 b) : bits2 .or .u64 a b = 0 ↔ a = 0 ∧ b = 0 := by
  obtain ⟨h1, h2⟩ := ha
  obtain ⟨h3, h4⟩ := hb
  obtain ⟨a, rfl⟩ := Int.eq_ofNat_of_zero_le h1
  obtain ⟨b, rfl⟩ := Int.eq_ofNat_of_zero_le h3
  show IntKind.wrap .u64 ((BitVec.ofInt 64 (a : Int) ||| BitVec.ofInt 64 (b : Int)).toNat : Int) = _ ↔ _
  rw [BitVec.ofInt_natCast, BitVec.ofInt_natCast]
  have hlt := (BitVec.ofNat 64 a ||| BitVec.ofNat 64 b).isLt
  have e : IntKind.wrap .u64 ((BitVec.ofNat 64 a ||| BitVec.ofNat 64 b).toNat : Int) = 0 ↔ (BitVec.ofNat 64 a ||| BitVec.ofNat 64 b) = 0#64 := by
    rw [IntKind.wrap_u64, ← BitVec.toNat_inj]
    simp only [BitVec.toNat_ofNat]
    omega
  rw [e, BitVec.or_eq_zero_iff, ← BitVec.toNat_inj, ← BitVec.toNat_inj]
  simp only [BitVec.toNat_ofNat]
  omega
theorem or_add {a b : Int} (ha : W64 a) (hb : W64 b) (k : Nat) (hk : k ≤ 64) (h1 : a % 2 ^ k = 0) (h2 : b < 2 ^ k) : bits2 .or .u64 a b = a + b := by
  obtain ⟨h3, h4⟩ := ha
  obtain ⟨h5, h6⟩ := hb
  obtain ⟨a, rfl⟩ := Int.eq_ofNat_of_zero_le h3
  obtain ⟨b, rfl⟩ := Int.eq_ofNat_of_zero_le h5
  have h2' : b < 2 ^ k := by
    have : ((2 ^ k : Nat) : Int) = 2 ^ k := by simp
    omega
  have h1' : a % 2 ^ k = 0 := by
    have : ((a % 2 ^ k : Nat) : Int) = (a : Int) % 2 ^ k := by simp
    omega
  obtain ⟨c, hc⟩ := Nat.dvd_of_mod_eq_zero h1'
  show IntKind.wrap .u64 ((BitVec.ofInt 64 (a : Int) ||| BitVec.ofInt 64 (b : Int)).toNat : Int) = _
  rw [BitVec.ofInt_natCast, BitVec.ofInt_natCast, BitVec.toNat_or, BitVec.toNat_ofNat, BitVec.toNat_ofNat, Nat.mod_eq_of_lt (by omega), Nat.mod_eq_of_lt (by omega), hc, ← Nat.two_pow_add_eq_or_of_lt h2' c, ← hc, IntKind.wrap_u64]
  have hab : a + b < 18446744073709551616 := by
    have e64 : (18446744073709551616 : Nat) = 2 ^ k * 2 ^ (64 - k) := by rw [← Nat.pow_add, Nat.add_sub_cancel' hk]
    have hcl : c < 2 ^ (64 - k) := by
      have : 2 ^ k * c < 2 ^ k * 2 ^ (64 - k) := by rw [← hc, ← e64]; omega
      exact Nat.lt_of_mul_lt_mul_left this
    have : 2 ^ k * (c + 1) ≤ 2 ^ k * 2 ^ (64 - k) := Nat.mul_le_mul_left _ hcl
    rw [← e64, Nat.mul_succ, ← hc] at this
    omega
  omega
theorem wrapU {a : Int} (h : W64 a) : IntKind.wrap .u64 a = a := by
  obtain ⟨h1, h2⟩ := h
  rw [IntKind.wrap_u64]
  omega
theorem wrapU' (a : Int) : IntKind.wrap .u64 a = a % 18446744073709551616 := IntKind.wrap_u64 a
theorem fd32 (a : Nat) : (a : Int).fdiv (2 ^ min 32 (IntKind.bits .u64)) = ((a / 4294967296 : Nat) : Int) := by
  show (a : Int).fdiv 4294967296 = _
  rw [Int.fdiv_eq_ediv_of_nonneg _ (by decide)]
  omega
theorem mod32 (a : Nat) : (a : Int) % 4294967296 = ((a % 4294967296 : Nat) : Int) := by omega
theorem mulN (a b : Nat) : (a : Int) * (b : Int) = ((a * b : Nat) : Int) := (Int.natCast_mul a b).symm
theorem addN (a b : Nat) : (a : Int) + (b : Int) = ((a + b : Nat) : Int) := (Int.natCast_add a b).symm
theorem wrapN (a : Nat) (ha : a < 18446744073709551616) : IntKind.wrap .u64 (a : Int) = (a : Int) := by rw [IntKind.wrap_u64]; omega
theorem and32N (a : Nat) (ha : a < 18446744073709551616) : bits2 .and .u64 (a : Int) 4294967295 = ((a % 4294967296 : Nat) : Int) := by
  rw [and32 ⟨by omega, by omega⟩, mod32]
def sMul64 : List AV → Option (Prop × AV)
  | [.int .u64 x, .int .u64 y] => some (W64 x ∧ W64 y, .tup [.int .u64 (x * y / 18446744073709551616), .int .u64 (x * y % 18446744073709551616)])
  | _ => none
theorem mul64P : PureOK Tryd.prog G0 103 sMul64 := by
  refine pure_of (C := CE) sigCE mixCE Tryd.func103 rfl rfl rfl (by kernel_rfl) (fun avs ob r hp hob => ?_)
  unfold sMul64 at hp
  split at hp
  case h_2 => cases hp
  rename_i x y
  injection hp with hp; injection hp with e1 e2; subst e1 e2
  obtain ⟨hx, hy⟩ := hob
  refine ⟨(by show 2 ≤ _; decide), ?_⟩
  obtain ⟨bd, bt, bw, hhi⟩ := Lib.mul64_hi x.toNat y.toNat (by have := hx.2; omega) (by have := hy.2; omega)
  have x0 := hx.1
  have y0 := hy.1
  obtain ⟨x, rfl⟩ := Int.eq_ofNat_of_zero_le x0
  obtain ⟨y, rfl⟩ := Int.eq_ofNat_of_zero_le y0
  have hx' : x < 18446744073709551616 := by have := hx.2; omega
  have hy' : y < 18446744073709551616 := by have := hy.2; omega
  simp only [Int.toNat_natCast] at bd bt bw hhi
  have ba := Lib.half_mul_le (a := x / 4294967296) (b := y / 4294967296) (by omega) (by omega)
  have bb := Lib.half_mul_le (a := x / 4294967296) (b := y % 4294967296) (by omega) (by omega)
  have bc := Lib.half_mul_le (a := x % 4294967296) (b := y / 4294967296) (by omega) (by omega)
  have ba' : x / 4294967296 * (y / 4294967296) < 18446744073709551616 := by omega
  have bb' : x / 4294967296 * (y % 4294967296) < 18446744073709551616 := by omega
  have bc' : x % 4294967296 * (y / 4294967296) < 18446744073709551616 := by omega
  have bh1 : x / 4294967296 * (y / 4294967296) + (x / 4294967296 * (y % 4294967296) + x % 4294967296 * (y % 4294967296) / 4294967296) / 4294967296 < 18446744073709551616 := by omega
  have bh : x / 4294967296 * (y / 4294967296) + (x / 4294967296 * (y % 4294967296) + x % 4294967296 * (y % 4294967296) / 4294967296) / 4294967296 + ((x / 4294967296 * (y % 4294967296) + x % 4294967296 * (y % 4294967296) / 4294967296) % 4294967296 + x % 4294967296 * (y / 4294967296)) / 4294967296 < 18446744073709551616 := by omega
  simp [argsρ]
  simp only [and32N x hx', and32N y hy', fd32, mulN, addN, wrapN _ bd, wrapN _ bb', wrapN _ bt, and32N _ bt, wrapN _ bc', wrapN _ bw, wrapN _ ba', wrapN _ bh1, wrapN _ bh]
  rw [hhi]
  refine ⟨by omega, by rw [IntKind.wrap_u64]⟩
end Go.Proofs.YtfoipbjhaiimlaaDoor


/-
  layer 3: numbers of two words.
-/
namespace Go.Proofs.YtfoipbjhaiimlaaDoor
open Go.RowKit
set_option linter.unusedSimpArgs false
set_option linter.unusedVariables false
set_option maxRecDepth 100000

def wideOf (neg : Bool) (m : Nat) : Wide := ⟨neg, ((m / 18446744073709551616 : Nat) : Int), ((m % 18446744073709551616 : Nat) : Int)⟩
def magW (x : Wide) : Nat := x.hi.toNat * 18446744073709551616 + x.lo.toNat
structure GoodW (x : Wide) : Prop where
  hi : 0 ≤ x.hi ∧ x.hi < 9223372036854775808
  lo : 0 ≤ x.lo ∧ x.lo < 18446744073709551616
@[simp] theorem mag_of (n : Bool) (m : Nat) : magW (wideOf n m) = m := by unfold magW wideOf; simp only [Int.toNat_natCast]; omega
@[simp] theorem neg_of (n : Bool) (m : Nat) : (wideOf n m).neg = n := rfl
theorem good_of {n : Bool} {m : Nat} (h : m < 170141183460469231731687303715884105728) : GoodW (wideOf n m) := ⟨by unfold wideOf; simp only; omega, by unfold wideOf; simp only; omega⟩

def prodF (a b : Int) : Wide := wideOf (decide (a < 0) != decide (b < 0)) (a.natAbs * b.natAbs)
theorem abs_mul_lt {a b : Int} (ha : InR a) (hb : InR b) : a.natAbs * b.natAbs ≤ 1000000000000000000000000000000 := by
  unfold InR at ha hb
  exact Nat.mul_le_mul (n₂ := 1000000000000000) (m₂ := 1000000000000000) (by omega) (by omega)
theorem good_prod {a b : Int} (ha : InR a) (hb : InR b) : GoodW (prodF a b) := good_of (by have := abs_mul_lt ha hb; omega)
noncomputable def CP : Ctx := mkC Tryd.prog G0 [(115, .pure sSizeP), (103, .pure sMul64)]
@[simp] theorem CP_P : CP.P = Tryd.prog := rfl
@[simp] theorem CP_G : CP.G = G0 := rfl
@[simp] theorem CP_1 : CP.S 115 = .pure sSizeP := rfl
@[simp] theorem CP_2 : CP.S 103 = .pure sMul64 := rfl
theorem mixCP : CP.P.follows .mixedOrders = true := mixed
theorem sigCP : SigOK CP := sigOK_cons (entryPure (sizeP) Tryd.func115 rfl (by decide)) (sigOK_cons (entryPure (mul64P) Tryd.func103 rfl (by decide)) (sigOK_nil _ _))
def sProd : List AV → Option (Prop × AV) := spec2 (fun (a b : Int) => InR a ∧ InR b) (fun a b => Enc.enc (prodF a b))
theorem W64_abs {a : Int} (h : InR a) : W64 (absI a) := by have := absI_R h; unfold W64; omega
theorem abs_mul (a b : Int) : absI a * absI b = ((a.natAbs * b.natAbs : Nat) : Int) := by unfold absI; rw [Int.natCast_mul]
theorem prodP : PureOK Tryd.prog G0 110 sProd := by
  refine pure2 (C := CP) sigCP mixCP Tryd.func110 rfl rfl rfl (by kernel_rfl) (by decide) (fun a b ⟨h1, h2⟩ => ?_)
  have w1 := W64_abs h1
  have w2 := W64_abs h2
  simp [sSizeP, sMul64, h1, h2, w1, w2, abs_mul, prodF, wideOf]
  cases decide (a < 0) <;> cases decide (b < 0) <;> rfl

def sLessW : List AV → Option (Prop × AV) := spec2 (fun (x y : Wide) => GoodW x ∧ GoodW y) (fun x y => .bool (decide (magW x < magW y)))
set_option maxHeartbeats 4000000 in
theorem lessWP : PureOK Tryd.prog G0 117 sLessW := by
  refine pure2 (C := CE) sigCE mixCE Tryd.func117 rfl rfl rfl (by kernel_rfl) (by decide) (fun x y ⟨⟨h1, h2⟩, ⟨h3, h4⟩⟩ => ?_)
  obtain ⟨xn, xh, xl⟩ := x
  obtain ⟨yn, yh, yl⟩ := y
  simp only at h1 h2 h3 h4
  unfold magW
  rcases em2 (xh < yh) with q1 | q1
  · have e : (xh.toNat * 18446744073709551616 + xl.toNat < yh.toNat * 18446744073709551616 + yl.toNat) = True := eq_true (by have := of_eq_true q1; omega)
    simp [q1, e]
  · rcases em2 (xh = yh) with q2 | q2
    · have e : (xh.toNat * 18446744073709551616 + xl.toNat < yh.toNat * 18446744073709551616 + yl.toNat) = (xl < yl) := propext (by have := of_eq_true q2; omega)
      simp [q1, q2, e]
    · have e : (xh.toNat * 18446744073709551616 + xl.toNat < yh.toNat * 18446744073709551616 + yl.toNat) = False := eq_false (by have := of_eq_false q2; have := of_eq_false q1; omega)
      simp [q1, q2, e]
def signW (x : Wide) : Int := if magW x = 0 then 0 else if x.neg then -1 else 1
def sSignW : List AV → Option (Prop × AV) := spec1 (fun (x : Wide) => GoodW x) (fun x => .int .i64 (signW x))
theorem signWP : PureOK Tryd.prog G0 112 sSignW := by
  refine pure1 (C := CE) sigCE mixCE Tryd.func112 rfl rfl rfl (by kernel_rfl) (by decide) (fun x ⟨h1, h2⟩ => ?_)
  obtain ⟨xn, xh, xl⟩ := x
  simp only at h1 h2
  have e0 := or_zero_iff (a := xh) (b := xl) ⟨h1.1, by omega⟩ h2
  unfold signW magW
  by_cases h : xh = 0 ∧ xl = 0
  · obtain ⟨rfl, rfl⟩ := h
    have e := e0.2 ⟨rfl, rfl⟩
    simp [e]
  · have e : (bits2 .or .u64 xh xl = 0) = False := eq_false (mt e0.1 h)
    have n0 : ¬ (xh.toNat * 18446744073709551616 + xl.toNat = 0) := by omega
    cases xn
    · simp only [n0, if_false]
      simp [e]
    · simp only [n0, if_false]
      simp [e]
noncomputable def CW : Ctx := mkC Tryd.prog G0 [(116, .pure sAdd64), (118, .pure sSub64), (117, .pure sLessW)]
@[simp] theorem CW_P : CW.P = Tryd.prog := rfl
@[simp] theorem CW_G : CW.G = G0 := rfl
@[simp] theorem CW_1 : CW.S 116 = .pure sAdd64 := rfl
@[simp] theorem CW_2 : CW.S 118 = .pure sSub64 := rfl
@[simp] theorem CW_3 : CW.S 117 = .pure sLessW := rfl
theorem mixCW : CW.P.follows .mixedOrders = true := mixed
theorem sigCW : SigOK CW := sigOK_cons (entryExt add64X) (sigOK_cons (entryExt sub64X) (sigOK_cons (entryPure (lessWP) Tryd.func117 rfl (by decide)) (sigOK_nil _ _)))
def plusW (x y : Wide) : Wide := if x.neg = y.neg then wideOf x.neg (magW x + magW y) else if magW x < magW y then wideOf y.neg (magW y - magW x) else wideOf x.neg (magW x - magW y)
def sPlus : List AV → Option (Prop × AV) := spec2 (fun (x y : Wide) => GoodW x ∧ GoodW y) (fun x y => Enc.enc (plusW x y))
set_option maxHeartbeats 4000000 in
theorem plusP : PureOK Tryd.prog G0 111 sPlus := by
  refine pure2 (C := CW) sigCW mixCW Tryd.func111 rfl rfl rfl (by kernel_rfl) (by decide) (fun x y ⟨g1, g2⟩ => ?_)
  obtain ⟨h1, h2⟩ := g1
  obtain ⟨h3, h4⟩ := g2
  have w1 : W64 x.hi := ⟨h1.1, by omega⟩
  have w2 : W64 y.hi := ⟨h3.1, by omega⟩
  have w3 : W64 x.lo := h2
  have w4 : W64 y.lo := h4
  by_cases hn : x.neg = y.neg
  · have e : plusW x y = wideOf y.neg (magW x + magW y) := by unfold plusW; rw [if_pos hn, hn]
    have c1 : (x.lo + y.lo) / 18446744073709551616 = 0 ∨ (x.lo + y.lo) / 18446744073709551616 = 1 := by omega
    simp [hn, e, sAdd64, w1, w2, w3, w4, c1]
    unfold wideOf magW
    simp only
    omega
  · have hn' : (x.neg == y.neg) = false := by simpa using hn
    by_cases hl : magW x < magW y
    · have e : plusW x y = wideOf y.neg (magW y - magW x) := by unfold plusW; rw [if_neg hn, if_pos hl]
      have c1 : (if y.lo < x.lo then (1 : Int) else 0) = 0 ∨ (if y.lo < x.lo then (1 : Int) else 0) = 1 := by split <;> simp
      simp [hn', sLessW, e, sSub64, w1, w2, w3, w4, hl, (⟨h1, h2⟩ : GoodW x), (⟨h3, h4⟩ : GoodW y), -ite_eq_left_iff, -ite_eq_right_iff, c1]
      unfold magW at hl
      unfold wideOf magW
      simp only
      split <;> omega
    · have e : plusW x y = wideOf x.neg (magW x - magW y) := by unfold plusW; rw [if_neg hn, if_neg hl]
      have c1 : (if x.lo < y.lo then (1 : Int) else 0) = 0 ∨ (if x.lo < y.lo then (1 : Int) else 0) = 1 := by split <;> simp
      simp [hn', sLessW, e, sSub64, w1, w2, w3, w4, hl, (⟨h1, h2⟩ : GoodW x), (⟨h3, h4⟩ : GoodW y), -ite_eq_left_iff, -ite_eq_right_iff, c1]
      unfold magW at hl
      unfold wideOf magW
      simp only
      split <;> omega
end Go.Proofs.YtfoipbjhaiimlaaDoor


/-
  layer 3: the length of a word.
-/
namespace Go.Proofs.YtfoipbjhaiimlaaDoor
open Go.RowKit
set_option linter.unusedSimpArgs false
set_option linter.unusedVariables false
set_option maxRecDepth 100000

/-- How many bits. -/
def bl (x : Nat) : Nat := if x = 0 then 0 else x.log2 + 1
theorem bl_lt (x : Nat) : x < 2 ^ bl x := by
  unfold bl
  split
  · rename_i h; simp [h]
  · exact Nat.lt_log2_self
theorem bl_le {x : Nat} (h : x ≠ 0) : 2 ^ (bl x - 1) ≤ x := by
  unfold bl
  rw [if_neg h, Nat.add_sub_cancel]
  exact Nat.log2_self_le h
theorem bl_eq {x n : Nat} (h : 2 ^ n ≤ x) (h' : x < 2 ^ (n + 1)) : bl x = n + 1 := by
  have h0 : x ≠ 0 := by have := Nat.two_pow_pos n; omega
  unfold bl
  rw [if_neg h0]
  have h1 := (Nat.le_log2 h0).2 h
  have h2 := (Nat.log2_lt h0).2 h'
  omega
theorem bl_shift {x s : Nat} (h : x / 2 ^ s ≠ 0) : bl x = bl (x / 2 ^ s) + s := by
  have h1 := bl_le h
  have h2 := bl_lt (x / 2 ^ s)
  have h3 : bl (x / 2 ^ s) ≠ 0 := by unfold bl; rw [if_neg h]; omega
  obtain ⟨n, hn⟩ : ∃ n, bl (x / 2 ^ s) = n + 1 := ⟨bl (x / 2 ^ s) - 1, by omega⟩
  rw [hn] at h1 h2 ⊢
  rw [Nat.add_sub_cancel] at h1
  have p := Nat.two_pow_pos s
  rw [show n + 1 + s = (n + s) + 1 by omega]
  refine bl_eq ?_ ?_
  · rw [Nat.pow_add]
    exact (Nat.le_div_iff_mul_le p).1 h1
  · rw [show n + s + 1 = (n + 1) + s by omega, Nat.pow_add]
    exact (Nat.div_lt_iff_lt_mul p).1 h2
theorem use_tab (s : ByteArray) (h : (List.range 256).all (fun j => btA s j == bl j) = true) {j : Nat} (hj : j < 256) : btA s j = bl j := by
  have := List.all_eq_true.1 h j (List.mem_range.2 hj)
  simpa using this
def sLen64 : List AV → Option (Prop × AV)
  | [.int .u64 x] => some (W64 x, .int .i64 (bl x.toNat : Int))
  | _ => none
set_option maxHeartbeats 4000000 in
theorem len64P : PureOK Tryd.prog G0 121 sLen64 := by
  refine pure_of (C := CE) sigCE mixCE Tryd.func121 rfl rfl rfl (by kernel_rfl) (fun avs ob r hp hob => ?_)
  unfold sLen64 at hp
  split at hp
  case h_2 => cases hp
  rename_i x
  injection hp with hp; injection hp with e1 e2; subst e1 e2
  obtain ⟨x0, x1⟩ := hob
  obtain ⟨x, rfl⟩ := Int.eq_ofNat_of_zero_le x0
  refine ⟨(by show 1 ≤ _; decide), ?_⟩
  have v0 : w64 0 = 0 := rfl
  have v8 : w64 8 = 8 := rfl
  have v16 : w64 16 = 16 := rfl
  have v32 : w64 32 = 32 := rfl
  have v48 : w64 48 = 48 := rfl
  have v24 : w64 24 = 24 := rfl
  have v40 : w64 40 = 40 := rfl
  have v56 : w64 56 = 56 := rfl
  have wi : ∀ x : Nat, x < 1000 → IntKind.wrap .i64 (x : Int) = x := fun x h => IntWalk.i64_in _ (by omega)
  have hb : ∀ j, j < 256 → bl j ≤ 8 := fun j hj => by
    by_cases h : j = 0
    · subst h; decide
    · have := bl_le h
      by_cases h8 : bl j ≤ 8
      · exact h8
      · have : 2 ^ 8 ≤ 2 ^ (bl j - 1) := Nat.pow_le_pow_right (by decide) (by omega)
        omega
  by_cases c0 : 4294967296 ≤ x
  · have d0 : (4294967296 : Int) ≤ x := by omega
    obtain ⟨y, e0⟩ : ∃ yy, yy = x / 4294967296 := ⟨_, rfl⟩
    have s0 : (x : Int).fdiv (2 ^ (min 32 (IntKind.bits .u64))) = (y : Int) := by show (x : Int).fdiv 4294967296 = _; rw [Int.fdiv_eq_ediv_of_nonneg _ (by decide)]; omega
    by_cases c1 : 65536 ≤ y
    · have d1 : (65536 : Int) ≤ y := by omega
      obtain ⟨z, e1⟩ : ∃ yy, yy = y / 65536 := ⟨_, rfl⟩
      have s1 : (y : Int).fdiv (2 ^ (min 16 (IntKind.bits .u64))) = (z : Int) := by show (y : Int).fdiv 65536 = _; rw [Int.fdiv_eq_ediv_of_nonneg _ (by decide)]; omega
      by_cases c2 : 256 ≤ z
      · have d2 : (256 : Int) ≤ z := by omega
        obtain ⟨u, e2⟩ : ∃ yy, yy = z / 256 := ⟨_, rfl⟩
        have s2 : (z : Int).fdiv (2 ^ (min 8 (IntKind.bits .u64))) = (u : Int) := by show (z : Int).fdiv 256 = _; rw [Int.fdiv_eq_ediv_of_nonneg _ (by decide)]; omega
        have q : u < 256 := by omega
        have q1 : IntKind.wrap .u8 (u : Int) = u := by rw [IntKind.wrap_u8]; omega
        have q2 := hb u q
        have q5 : (u : Int) < 256 := by omega
        have q6 : ∀ n : Nat, n ≤ 8 → IntKind.wrap .i64 (n : Int) = n := fun n h => IntWalk.i64_in _ (by omega)
        simp [argsρ, d0, s0, d1, s1, d2, s2, q1, q5, v0, v8, v16, v24, v32, v40, v48, v56]
        rw [use_tab _ (by kernel_rfl) q, q6 _ q2]
        have q3 := bl_shift (x := x) (s := 56) (by omega)
        have q4 : x / 2 ^ 56 = u := by omega
        rw [q4] at q3
        refine ⟨Nat.lt_of_lt_of_eq q (by kernel_rfl), ?_⟩
        rw [w64_in (by unfold I64; omega)]
        all_goals omega
      · have d2 : ¬ (256 : Int) ≤ z := by omega
        have q : z < 256 := by omega
        have q1 : IntKind.wrap .u8 (z : Int) = z := by rw [IntKind.wrap_u8]; omega
        have q2 := hb z q
        have q5 : (z : Int) < 256 := by omega
        have q6 : ∀ n : Nat, n ≤ 8 → IntKind.wrap .i64 (n : Int) = n := fun n h => IntWalk.i64_in _ (by omega)
        simp [argsρ, d0, s0, d1, s1, d2, q1, q5, v0, v8, v16, v24, v32, v40, v48, v56]
        rw [use_tab _ (by kernel_rfl) q, q6 _ q2]
        have q3 := bl_shift (x := x) (s := 48) (by omega)
        have q4 : x / 2 ^ 48 = z := by omega
        rw [q4] at q3
        refine ⟨Nat.lt_of_lt_of_eq q (by kernel_rfl), ?_⟩
        rw [w64_in (by unfold I64; omega)]
        all_goals omega
    · have d1 : ¬ (65536 : Int) ≤ y := by omega
      by_cases c2 : 256 ≤ y
      · have d2 : (256 : Int) ≤ y := by omega
        obtain ⟨u, e2⟩ : ∃ yy, yy = y / 256 := ⟨_, rfl⟩
        have s2 : (y : Int).fdiv (2 ^ (min 8 (IntKind.bits .u64))) = (u : Int) := by show (y : Int).fdiv 256 = _; rw [Int.fdiv_eq_ediv_of_nonneg _ (by decide)]; omega
        have q : u < 256 := by omega
        have q1 : IntKind.wrap .u8 (u : Int) = u := by rw [IntKind.wrap_u8]; omega
        have q2 := hb u q
        have q5 : (u : Int) < 256 := by omega
        have q6 : ∀ n : Nat, n ≤ 8 → IntKind.wrap .i64 (n : Int) = n := fun n h => IntWalk.i64_in _ (by omega)
        simp [argsρ, d0, s0, d1, d2, s2, q1, q5, v0, v8, v16, v24, v32, v40, v48, v56]
        rw [use_tab _ (by kernel_rfl) q, q6 _ q2]
        have q3 := bl_shift (x := x) (s := 40) (by omega)
        have q4 : x / 2 ^ 40 = u := by omega
        rw [q4] at q3
        refine ⟨Nat.lt_of_lt_of_eq q (by kernel_rfl), ?_⟩
        rw [w64_in (by unfold I64; omega)]
        all_goals omega
      · have d2 : ¬ (256 : Int) ≤ y := by omega
        have q : y < 256 := by omega
        have q1 : IntKind.wrap .u8 (y : Int) = y := by rw [IntKind.wrap_u8]; omega
        have q2 := hb y q
        have q5 : (y : Int) < 256 := by omega
        have q6 : ∀ n : Nat, n ≤ 8 → IntKind.wrap .i64 (n : Int) = n := fun n h => IntWalk.i64_in _ (by omega)
        simp [argsρ, d0, s0, d1, d2, q1, q5, v0, v8, v16, v24, v32, v40, v48, v56]
        rw [use_tab _ (by kernel_rfl) q, q6 _ q2]
        have q3 := bl_shift (x := x) (s := 32) (by omega)
        have q4 : x / 2 ^ 32 = y := by omega
        rw [q4] at q3
        refine ⟨Nat.lt_of_lt_of_eq q (by kernel_rfl), ?_⟩
        rw [w64_in (by unfold I64; omega)]
        all_goals omega
  · have d0 : ¬ (4294967296 : Int) ≤ x := by omega
    by_cases c1 : 65536 ≤ x
    · have d1 : (65536 : Int) ≤ x := by omega
      obtain ⟨z, e1⟩ : ∃ yy, yy = x / 65536 := ⟨_, rfl⟩
      have s1 : (x : Int).fdiv (2 ^ (min 16 (IntKind.bits .u64))) = (z : Int) := by show (x : Int).fdiv 65536 = _; rw [Int.fdiv_eq_ediv_of_nonneg _ (by decide)]; omega
      by_cases c2 : 256 ≤ z
      · have d2 : (256 : Int) ≤ z := by omega
        obtain ⟨u, e2⟩ : ∃ yy, yy = z / 256 := ⟨_, rfl⟩
        have s2 : (z : Int).fdiv (2 ^ (min 8 (IntKind.bits .u64))) = (u : Int) := by show (z : Int).fdiv 256 = _; rw [Int.fdiv_eq_ediv_of_nonneg _ (by decide)]; omega
        have q : u < 256 := by omega
        have q1 : IntKind.wrap .u8 (u : Int) = u := by rw [IntKind.wrap_u8]; omega
        have q2 := hb u q
        have q5 : (u : Int) < 256 := by omega
        have q6 : ∀ n : Nat, n ≤ 8 → IntKind.wrap .i64 (n : Int) = n := fun n h => IntWalk.i64_in _ (by omega)
        simp [argsρ, d0, d1, s1, d2, s2, q1, q5, v0, v8, v16, v24, v32, v40, v48, v56]
        rw [use_tab _ (by kernel_rfl) q, q6 _ q2]
        have q3 := bl_shift (x := x) (s := 24) (by omega)
        have q4 : x / 2 ^ 24 = u := by omega
        rw [q4] at q3
        refine ⟨Nat.lt_of_lt_of_eq q (by kernel_rfl), ?_⟩
        rw [w64_in (by unfold I64; omega)]
        all_goals omega
      · have d2 : ¬ (256 : Int) ≤ z := by omega
        have q : z < 256 := by omega
        have q1 : IntKind.wrap .u8 (z : Int) = z := by rw [IntKind.wrap_u8]; omega
        have q2 := hb z q
        have q5 : (z : Int) < 256 := by omega
        have q6 : ∀ n : Nat, n ≤ 8 → IntKind.wrap .i64 (n : Int) = n := fun n h => IntWalk.i64_in _ (by omega)
        simp [argsρ, d0, d1, s1, d2, q1, q5, v0, v8, v16, v24, v32, v40, v48, v56]
        rw [use_tab _ (by kernel_rfl) q, q6 _ q2]
        have q3 := bl_shift (x := x) (s := 16) (by omega)
        have q4 : x / 2 ^ 16 = z := by omega
        rw [q4] at q3
        refine ⟨Nat.lt_of_lt_of_eq q (by kernel_rfl), ?_⟩
        rw [w64_in (by unfold I64; omega)]
        all_goals omega
    · have d1 : ¬ (65536 : Int) ≤ x := by omega
      by_cases c2 : 256 ≤ x
      · have d2 : (256 : Int) ≤ x := by omega
        obtain ⟨u, e2⟩ : ∃ yy, yy = x / 256 := ⟨_, rfl⟩
        have s2 : (x : Int).fdiv (2 ^ (min 8 (IntKind.bits .u64))) = (u : Int) := by show (x : Int).fdiv 256 = _; rw [Int.fdiv_eq_ediv_of_nonneg _ (by decide)]; omega
        have q : u < 256 := by omega
        have q1 : IntKind.wrap .u8 (u : Int) = u := by rw [IntKind.wrap_u8]; omega
        have q2 := hb u q
        have q5 : (u : Int) < 256 := by omega
        have q6 : ∀ n : Nat, n ≤ 8 → IntKind.wrap .i64 (n : Int) = n := fun n h => IntWalk.i64_in _ (by omega)
        simp [argsρ, d0, d1, d2, s2, q1, q5, v0, v8, v16, v24, v32, v40, v48, v56]
        rw [use_tab _ (by kernel_rfl) q, q6 _ q2]
        have q3 := bl_shift (x := x) (s := 8) (by omega)
        have q4 : x / 2 ^ 8 = u := by omega
        rw [q4] at q3
        refine ⟨Nat.lt_of_lt_of_eq q (by kernel_rfl), ?_⟩
        rw [w64_in (by unfold I64; omega)]
        all_goals omega
      · have d2 : ¬ (256 : Int) ≤ x := by omega
        have q : x < 256 := by omega
        have q1 : IntKind.wrap .u8 (x : Int) = x := by rw [IntKind.wrap_u8]; omega
        have q2 := hb x q
        have q5 : (x : Int) < 256 := by omega
        have q6 : ∀ n : Nat, n ≤ 8 → IntKind.wrap .i64 (n : Int) = n := fun n h => IntWalk.i64_in _ (by omega)
        simp [argsρ, d0, d1, d2, q1, q5, v0, v8, v16, v24, v32, v40, v48, v56]
        rw [use_tab _ (by kernel_rfl) q, q6 _ q2]
        refine ⟨Nat.lt_of_lt_of_eq q (by kernel_rfl), ?_⟩
        rw [w64_in (by unfold I64; omega)]
        all_goals omega
noncomputable def CLz : Ctx := mkC Tryd.prog G0 [(121, .pure sLen64)]
@[simp] theorem CLz_P : CLz.P = Tryd.prog := rfl
@[simp] theorem CLz_G : CLz.G = G0 := rfl
@[simp] theorem CLz_1 : CLz.S 121 = .pure sLen64 := rfl
theorem mixCLz : CLz.P.follows .mixedOrders = true := mixed
theorem sigCLz : SigOK CLz := sigOK_cons (entryPure (len64P) Tryd.func121 rfl (by decide)) (sigOK_nil _ _)
theorem bl_le64 {x : Nat} (h : x < 18446744073709551616) : bl x ≤ 64 := by
  by_cases h0 : x = 0
  · subst h0; decide
  · have := bl_le h0
    by_cases h8 : bl x ≤ 64
    · exact h8
    · have : 2 ^ 64 ≤ 2 ^ (bl x - 1) := Nat.pow_le_pow_right (by decide) (by omega)
      omega
def sLz64 : List AV → Option (Prop × AV)
  | [.int .u64 x] => some (W64 x, .int .i64 ((64 - bl x.toNat : Nat) : Int))
  | _ => none
theorem lz64P : PureOK Tryd.prog G0 120 sLz64 := by
  refine pure_of (C := CLz) sigCLz mixCLz Tryd.func120 rfl rfl rfl (by kernel_rfl) (fun avs ob r hp hob => ?_)
  unfold sLz64 at hp
  split at hp
  case h_2 => cases hp
  rename_i x
  injection hp with hp; injection hp with e1 e2; subst e1 e2
  have h := bl_le64 (x := x.toNat) (by have := hob.2; have := hob.1; omega)
  have e : w64 (64 - (bl x.toNat : Int)) = ((64 - bl x.toNat : Nat) : Int) := by rw [w64_in (by unfold I64; omega)]; omega
  refine ⟨(by show 1 ≤ _; decide), ?_⟩
  simp [argsρ, sLen64, hob, e]
end Go.Proofs.YtfoipbjhaiimlaaDoor


/-
  layer 3: the long division.
-/
namespace Go.Proofs.YtfoipbjhaiimlaaDoor
open Go.RowKit
set_option linter.unusedSimpArgs false
set_option linter.unusedVariables false
set_option maxRecDepth 100000

/-! ### One digit of a quotient -/
structure DigOK (v u d q r : Nat) : Prop where
  sum : q * (v / 4294967296) + r = u
  up : (u * 4294967296 + d) / v ≤ q
  small : r < 4294967296
  near : q ≤ 4294967297
  fine : r < v / 4294967296 ∨ q ≤ 4294967296
theorem dig_start {v u d : Nat} (hv : 9223372036854775808 ≤ v) (hv' : v < 18446744073709551616) (hu : u < v) (hd : d < 4294967296) : DigOK v u d (u / (v / 4294967296)) (u - u / (v / 4294967296) * (v / 4294967296)) := by
  obtain ⟨a, ha⟩ : ∃ a, a = v / 4294967296 := ⟨_, rfl⟩
  rw [← ha]
  have a1 : 2147483648 ≤ a := by omega
  have a2 : a < 4294967296 := by omega
  have e := Nat.div_add_mod u a
  have hm := Nat.mod_lt u (show 0 < a by omega)
  have e' : u / a * a + u % a = u := by rw [Nat.mul_comm]; exact e
  have e2 : u - u / a * a = u % a := by omega
  refine ⟨by rw [← ha]; omega, ?_, by omega, ?_, .inl (by rw [← ha]; omega)⟩
  · -- the true digit is not greater
    have h1 : (u * 4294967296 + d) / v ≤ (u * 4294967296 + d) / (a * 4294967296) := Nat.div_le_div_left (by omega) (by omega)
    refine Nat.le_trans h1 ?_
    rw [Nat.mul_comm a, ← Nat.div_div_eq_div_mul]
    have : (u * 4294967296 + d) / 4294967296 = u := by omega
    rw [this]
    exact Nat.le_refl _
  · have h1 : u < (4294967298 : Nat) * a := by omega
    have := (Nat.div_lt_iff_lt_mul (show 0 < a by omega)).2 h1
    omega
theorem dig_small {v u d : Nat} (hv : 0 < v) (hu : u < v) (hd : d < 4294967296) : (u * 4294967296 + d) / v < 4294967296 := by
  rw [Nat.div_lt_iff_lt_mul hv]
  have : (u + 1) * 4294967296 ≤ v * 4294967296 := Nat.mul_le_mul_right _ hu
  omega
theorem dig_mul {v u d q r : Nat} (h : DigOK v u d q r) : q * v + r * 4294967296 = u * 4294967296 + q * (v % 4294967296) := by
  have e : q * v = q * (v / 4294967296) * 4294967296 + q * (v % 4294967296) := by
    have := Nat.div_add_mod v 4294967296
    calc q * v = q * (4294967296 * (v / 4294967296) + v % 4294967296) := by rw [this]
      _ = _ := by rw [Nat.mul_add]; congr 1; ac_rfl
  have := h.sum
  have e3 : u * 4294967296 = (q * (v / 4294967296) + r) * 4294967296 := by rw [this]
  rw [Nat.add_mul] at e3
  omega
/-- The guess is right where the test fails. -/
theorem dig_done {v u d q r : Nat} (hv : 0 < v) (h : DigOK v u d q r) (hq : q * (v % 4294967296) ≤ 4294967296 * r + d) : q = (u * 4294967296 + d) / v := by
  refine Nat.le_antisymm ?_ h.up
  rw [Nat.le_div_iff_mul_le hv]
  have := dig_mul h
  omega
/-- The guess is too great where it does not. -/
theorem dig_more {v u d q r : Nat} (hv : 0 < v) (hu : u < v) (hd : d < 4294967296) (h : DigOK v u d q r) (hq : 4294967296 ≤ q ∨ 4294967296 * r + d < q * (v % 4294967296)) : (u * 4294967296 + d) / v < q := by
  rcases hq with hq | hq
  · have := dig_small hv hu hd
    omega
  · rw [Nat.div_lt_iff_lt_mul hv]
    have := dig_mul h
    omega
theorem dig_next {v u d q r : Nat} (hv : 9223372036854775808 ≤ v) (hv' : v < 18446744073709551616) (hu : u < v) (hd : d < 4294967296) (h : DigOK v u d q r) (hq : 4294967296 ≤ q ∨ 4294967296 * r + d < q * (v % 4294967296)) :
    1 ≤ q ∧ (q - 1) * (v / 4294967296) + (r + v / 4294967296) = u ∧ (r + v / 4294967296 < 4294967296 → DigOK v u d (q - 1) (r + v / 4294967296)) ∧ (4294967296 ≤ r + v / 4294967296 → q - 1 = (u * 4294967296 + d) / v) := by
  have hm := dig_more (by omega) hu hd h hq
  have hq0 : 0 < q := Nat.lt_of_le_of_lt (Nat.zero_le _) hm
  obtain ⟨p, rfl⟩ : ∃ p, q = p + 1 := ⟨q - 1, by omega⟩
  rw [Nat.add_sub_cancel]
  have hs : p * (v / 4294967296) + (r + v / 4294967296) = u := by
    have := h.sum
    rw [Nat.add_mul, Nat.one_mul] at this
    omega
  have hn := h.near
  refine ⟨by omega, hs, fun h1 => ⟨hs, by omega, h1, by omega, .inr (by omega)⟩, fun h1 => ?_⟩
  refine Nat.le_antisymm ?_ (by omega)
  rw [Nat.le_div_iff_mul_le (by omega)]
  have e : p * v = p * (v / 4294967296) * 4294967296 + p * (v % 4294967296) := by
    have := Nat.div_add_mod v 4294967296
    calc p * v = p * (4294967296 * (v / 4294967296) + v % 4294967296) := by rw [this]
      _ = _ := by rw [Nat.mul_add]; congr 1; ac_rfl
  have e2 : p * (v % 4294967296) ≤ 4294967296 * 4294967296 := Nat.mul_le_mul (by omega) (by omega)
  have e3 : (p * (v / 4294967296) + (r + v / 4294967296)) * 4294967296 = u * 4294967296 := by rw [hs]
  rw [Nat.add_mul] at e3
  omega
/-- The remainder, as the words reckon it. -/
theorem dig_rem {v u d : Nat} (hv : 0 < v) (hv' : v < 18446744073709551616) : IntKind.wrap .u64 (IntKind.wrap .u64 (IntKind.wrap .u64 ((u : Int) * 4294967296) + (d : Int)) - IntKind.wrap .u64 ((((u * 4294967296 + d) / v : Nat) : Int) * (v : Int))) = (((u * 4294967296 + d) % v : Nat) : Int) := by
  have e := Nat.div_add_mod (u * 4294967296 + d) v
  have hm := Nat.mod_lt (u * 4294967296 + d) hv
  rw [Nat.mul_comm v] at e
  generalize hQ : (u * 4294967296 + d) / v = Q at *
  have e2 : ((Q * v : Nat) : Int) = (Q : Int) * (v : Int) := Int.natCast_mul _ _
  rw [← e2, IntKind.wrap_u64, IntKind.wrap_u64, IntKind.wrap_u64, IntKind.wrap_u64]
  omega
/-- Two digits are the quotient. -/
theorem two_digits {X y s : Nat} (hy : 0 < y) : ∃ v U, v = y * 2 ^ s ∧ U = X * 2 ^ s ∧ X / y = (U / 18446744073709551616 * 4294967296 + U % 18446744073709551616 / 4294967296) / v * 4294967296 + ((U / 18446744073709551616 * 4294967296 + U % 18446744073709551616 / 4294967296) % v * 4294967296 + U % 4294967296) / v ∧
    X % y * 2 ^ s = ((U / 18446744073709551616 * 4294967296 + U % 18446744073709551616 / 4294967296) % v * 4294967296 + U % 4294967296) % v := by
  refine ⟨_, _, rfl, rfl, ?_⟩
  have hp := Nat.two_pow_pos s
  have hv : 0 < y * 2 ^ s := Nat.mul_pos hy hp
  have h1 : X / y = X * 2 ^ s / (y * 2 ^ s) := (Nat.mul_div_mul_right X y hp).symm
  have h2 : X % y * 2 ^ s = X * 2 ^ s % (y * 2 ^ s) := (Nat.mul_mod_mul_right _ _ _).symm
  rw [h1, h2]
  generalize y * 2 ^ s = v at *
  generalize X * 2 ^ s = U at *
  have e0 : U / 18446744073709551616 * 4294967296 + U % 18446744073709551616 / 4294967296 = U / 4294967296 := by omega
  rw [e0]
  generalize hA : U / 4294967296 = A at *
  have eU : U = A * 4294967296 + U % 4294967296 := by omega
  generalize hd : U % 4294967296 = d at *
  have eA := Nat.div_add_mod A v
  generalize hQ : A / v = Q at *
  generalize hR : A % v = R at *
  have e1 : U = v * (Q * 4294967296) + (R * 4294967296 + d) := by
    rw [eU, ← eA, Nat.add_mul]
    rw [Nat.mul_assoc]
    omega
  rw [e1, Nat.mul_add_div hv, Nat.mul_add_mod]
  exact ⟨rfl, rfl⟩
end Go.Proofs.YtfoipbjhaiimlaaDoor


/-
  layer 3: the long division, walked.
-/
namespace Go.Proofs.YtfoipbjhaiimlaaDoor
open Go.RowKit
set_option linter.unusedSimpArgs false
set_option linter.unusedVariables false
set_option maxRecDepth 100000

noncomputable def CD : Ctx := mkC Tryd.prog G0 [(120, .pure sLz64)]
@[simp] theorem CD_P : CD.P = Tryd.prog := rfl
@[simp] theorem CD_G : CD.G = G0 := rfl
@[simp] theorem CD_1 : CD.S 120 = .pure sLz64 := rfl
theorem mixCD : CD.P.follows .mixedOrders = true := mixed
theorem sigCD : SigOK CD := sigOK_cons (entryPure (lz64P) Tryd.func120 rfl (by decide)) (sigOK_nil _ _)
def QOK (v u d q : Nat) : Prop := q = (u * 4294967296 + d) / v
/-- The words at the start: shifted until the divisor's first bit is set. -/
structure Shifted (hi lo y s v u w : Nat) : Prop where
  hv : 9223372036854775808 ≤ v
  hv' : v < 18446744073709551616
  e1 : IntKind.wrap .u64 ((y : Int) * 2 ^ (min s (IntKind.bits .u64))) = (v : Int)
  e2 : bits2 .or .u64 (IntKind.wrap .u64 ((hi : Int) * 2 ^ (min s (IntKind.bits .u64)))) ((lo : Int).fdiv (2 ^ (min (IntKind.wrap .u64 (64 - (s : Int))).toNat (IntKind.bits .u64)))) = (u : Int)
  e3 : IntKind.wrap .u64 ((lo : Int) * 2 ^ (min s (IntKind.bits .u64))) = (w : Int)
  e4 : 0 ≤ IntKind.wrap .u64 (64 - (s : Int))
  hu : u < v
  hw : w < 18446744073709551616
  quo : (hi * 18446744073709551616 + lo) / y = (u * 4294967296 + w / 4294967296) / v * 4294967296 + ((u * 4294967296 + w / 4294967296) % v * 4294967296 + w % 4294967296) / v
  rem : (((u * 4294967296 + w / 4294967296) % v * 4294967296 + w % 4294967296) % v : Nat) = (hi * 18446744073709551616 + lo) % y * 2 ^ s
  hs : s ≤ 63
theorem shifted {hi lo y : Nat} (h1 : hi < y) (h2 : lo < 18446744073709551616) (h3 : y < 18446744073709551616) : ∃ v u w, Shifted hi lo y (64 - bl y) v u w := by
  have hy0 : y ≠ 0 := by omega
  have b1 := bl_le hy0
  have b2 := bl_lt y
  have b3 := bl_le64 h3
  have b4 : 1 ≤ bl y := by unfold bl; rw [if_neg hy0]; omega
  obtain ⟨n, hn⟩ : ∃ n, bl y = n + 1 := ⟨bl y - 1, by omega⟩
  rw [hn] at b1 b2 b3 b4 ⊢
  rw [Nat.add_sub_cancel] at b1
  obtain ⟨s, hs⟩ : ∃ s, 64 - (n + 1) = s := ⟨_, rfl⟩
  rw [hs]
  have hsn : n + 1 + s = 64 := by omega
  have p2 : 2 ^ (n + 1) * 2 ^ s = 18446744073709551616 := by rw [← Nat.pow_add, hsn]
  have p1 : 2 ^ n * 2 ^ s = 9223372036854775808 := by
    rw [Nat.pow_succ, Nat.mul_right_comm] at p2
    omega
  have ps := Nat.two_pow_pos s
  have v1 : 9223372036854775808 ≤ y * 2 ^ s := by rw [← p1]; exact Nat.mul_le_mul_right _ b1
  have v2 : y * 2 ^ s < 18446744073709551616 := by rw [← p2]; exact Nat.mul_lt_mul_of_pos_right b2 ps
  obtain ⟨v, U, rfl, rfl, q1, q2⟩ := two_digits (X := hi * 18446744073709551616 + lo) (y := y) (s := s) (by omega)
  rw [show (hi * 18446744073709551616 + lo) * 2 ^ s % 4294967296 = (hi * 18446744073709551616 + lo) * 2 ^ s % 18446744073709551616 % 4294967296 by omega] at q1 q2
  have hh : (hi + 1) * 2 ^ s ≤ y * 2 ^ s := Nat.mul_le_mul_right _ h1
  rw [Nat.add_mul, Nat.one_mul] at hh
  have m0 : min s (IntKind.bits .u64) = s := by show min s 64 = s; omega
  have eU : (hi * 18446744073709551616 + lo) * 2 ^ s = hi * 2 ^ s * 18446744073709551616 + lo * 2 ^ s := by rw [Nat.add_mul]; congr 1; ac_rfl
  have w1 : IntKind.wrap .u64 (64 - (s : Int)) = ((64 - s : Nat) : Int) := by rw [IntKind.wrap_u64]; omega
  have lo1 : lo * 2 ^ s / 18446744073709551616 = lo / 2 ^ (64 - s) := by
    have : 18446744073709551616 = 2 ^ (64 - s) * 2 ^ s := by rw [← Nat.pow_add]; rw [show 64 - s + s = 64 by omega]
    rw [this, Nat.mul_div_mul_right _ _ ps]
  have lo2 : lo / 2 ^ (64 - s) < 2 ^ s := by
    rw [Nat.div_lt_iff_lt_mul (Nat.two_pow_pos _), ← Nat.pow_add, show s + (64 - s) = 64 by omega]
    exact h2
  refine ⟨y * 2 ^ s, (hi * 18446744073709551616 + lo) * 2 ^ s / 18446744073709551616, (hi * 18446744073709551616 + lo) * 2 ^ s % 18446744073709551616, ⟨v1, v2, ?_, ?_, ?_, by omega, ?_, by omega, q1, q2.symm, by omega⟩⟩
  · rw [m0, show (y : Int) * 2 ^ s = ((y * 2 ^ s : Nat) : Int) by simp, IntKind.wrap_u64]
    omega
  · have m1 : min (IntKind.wrap .u64 (64 - (s : Int))).toNat (IntKind.bits .u64) = 64 - s := by rw [w1]; show min _ 64 = _; omega
    rw [m0, m1, show (hi : Int) * 2 ^ s = ((hi * 2 ^ s : Nat) : Int) by simp, wrapN _ (by omega), Int.fdiv_eq_ediv_of_nonneg _ (Int.pow_nonneg (by decide)), show (lo : Int) / 2 ^ (64 - s) = ((lo / 2 ^ (64 - s) : Nat) : Int) by simp]
    rw [or_add ⟨by omega, by omega⟩ ⟨by omega, by omega⟩ s (by omega) (by
      rw [show ((2 : Int) ^ s) = ((2 ^ s : Nat) : Int) by simp]
      have : hi * 2 ^ s % 2 ^ s = 0 := Nat.mul_mod_left _ _
      omega) (by
      rw [show ((2 : Int) ^ s) = ((2 ^ s : Nat) : Int) by simp]
      omega)]
    rw [eU, Nat.add_comm, Nat.add_mul_div_right _ _ (by decide), lo1]
    omega
  · rw [m0, show (lo : Int) * 2 ^ s = ((lo * 2 ^ s : Nat) : Int) by simp, IntKind.wrap_u64, eU, Nat.mul_add_mod_self_right]
    omega
  · rw [eU, Nat.div_lt_iff_lt_mul (by decide)]
    have : lo * 2 ^ s < 18446744073709551616 * 2 ^ s := Nat.mul_lt_mul_of_pos_right h2 ps
    have e3 : (hi * 2 ^ s + 2 ^ s) * 18446744073709551616 ≤ y * 2 ^ s * 18446744073709551616 := Nat.mul_le_mul_right _ hh
    rw [Nat.add_mul] at e3
    omega
def sDiv64 : List AV → Option (Prop × AV)
  | [.int .u64 hi, .int .u64 lo, .int .u64 y] => some (0 ≤ hi ∧ hi < y ∧ W64 lo ∧ y < 18446744073709551616, .tup [.int .u64 ((hi * 18446744073709551616 + lo) / y), .int .u64 ((hi * 18446744073709551616 + lo) % y)])
  | _ => none
set_option maxHeartbeats 16000000 in
theorem div64P : PureOK Tryd.prog G0 119 sDiv64 := by
  refine pure_of (C := CD) sigCD mixCD Tryd.func119 rfl rfl rfl (by kernel_rfl) (fun avs ob r hp hob => ?_)
  unfold sDiv64 at hp
  split at hp
  case h_2 => cases hp
  rename_i hi lo y
  injection hp with hp; injection hp with e1 e2; subst e1 e2
  obtain ⟨i0, i1, ⟨l0, l1⟩, y1⟩ := hob
  obtain ⟨hi, rfl⟩ := Int.eq_ofNat_of_zero_le i0
  obtain ⟨lo, rfl⟩ := Int.eq_ofNat_of_zero_le l0
  obtain ⟨y, rfl⟩ := Int.eq_ofNat_of_zero_le (a := y) (by omega)
  refine ⟨(by show 3 ≤ _; decide), ?_⟩
  have n1 : ¬ y = 0 := by omega
  have n2 : ¬ (y : Int) ≤ hi := by omega
  by_cases h0 : hi = 0
  · subst h0
    have q1 : ((lo : Int)).tdiv y = (lo : Int) / y := Int.tdiv_eq_ediv_of_nonneg (by omega)
    have q2 : ((lo : Int)).tmod y = (lo : Int) % y := Int.tmod_eq_emod_of_nonneg (by omega)
    have q3 : IntKind.wrap .u64 ((lo : Int) / y) = (lo : Int) / y := by
      have : ((lo / y : Nat) : Int) = (lo : Int) / y := Int.natCast_ediv _ _
      have h := Nat.div_le_self lo y
      rw [← this, wrapN _ (by omega)]
    have n3 : 0 < y := by omega
    simp [argsρ, n1, n2, q1, q2, q3, n3]
  obtain ⟨v, u, w, S⟩ := shifted (hi := hi) (lo := lo) (y := y) (by omega) (by omega) (by omega)
  have wy : W64 (y : Int) := ⟨by omega, y1⟩
  have w1 : IntKind.wrap .u64 (((64 - bl y : Nat) : Int)) = ((64 - bl y : Nat) : Int) := wrapN _ (by omega)
  have E1 := S.e1
  have E2 := S.e2
  have E3 := S.e3
  have E4 := S.e4
  generalize hs : 64 - bl y = s at *
  have hv := S.hv
  have hv' := S.hv'
  have hu := S.hu
  have hw := S.hw
  have a1 := and32N v hv'
  have a2 := and32N w hw
  have f1 := fd32 v
  have f2 := fd32 w
  obtain ⟨d1, hd1⟩ : ∃ d, w / 4294967296 = d := ⟨_, rfl⟩
  obtain ⟨d0, hd0⟩ : ∃ d, w % 4294967296 = d := ⟨_, rfl⟩
  obtain ⟨b1, hb1⟩ : ∃ d, v / 4294967296 = d := ⟨_, rfl⟩
  obtain ⟨b0, hb0⟩ : ∃ d, v % 4294967296 = d := ⟨_, rfl⟩
  rw [hd1] at f2
  rw [hd0] at a2
  rw [hb1] at f1
  rw [hb0] at a1
  have hd1' : d1 < 4294967296 := by omega
  have hd0' : d0 < 4294967296 := by omega
  have hb0' : b0 < 4294967296 := by omega
  have b1n : ¬ b1 = 0 := by omega
  have HsA := dig_start (d := d1) hv hv' hu hd1'
  have cA1 : IntKind.wrap .u64 ((u : Int) / b1) = ((u / b1 : Nat) : Int) := by
    rw [← Int.natCast_ediv]
    have := Nat.div_le_self u b1
    exact wrapN _ (by omega)
  have mA := Nat.div_mul_le_self u b1
  rw [hb1] at HsA
  obtain ⟨qA, hqA⟩ : ∃ q, u / b1 = q := ⟨_, rfl⟩
  rw [hqA] at HsA cA1 mA
  have cA2 : IntKind.wrap .u64 ((u : Int) - IntKind.wrap .u64 ((qA : Int) * b1)) = ((u - qA * b1 : Nat) : Int) := by
    rw [← Int.natCast_mul, wrapN _ (by omega), wrapU']
    omega
  obtain ⟨rA, hrA⟩ : ∃ r, u - qA * b1 = r := ⟨_, rfl⟩
  rw [hrA] at HsA cA2
  simp [argsρ, n1, n2, h0, sLz64, wy, hs, w1, E1, E2, E3, E4, a1, a2, f1, f2, cA1, cA2, b1n]
  refine loop_cut (C := CD) sigCD mixCD 0 (fun p : Nat × Nat => ⟨[(2, .int .u64 v), (6, .int .u64 0), (7, .int .u64 0), (8, .int .u64 s), (9, .int .u64 b1), (10, .int .u64 b0), (11, .int .u64 u), (12, .int .u64 w), (13, .int .u64 d1), (14, .int .u64 d0), (15, .int .u64 p.1), (16, .int .u64 p.2)], []⟩) (fun p => QOK v u d1 p.1) (fun p : Nat × Nat => ⟨[(2, .int .u64 v), (6, .int .u64 0), (7, .int .u64 0), (8, .int .u64 s), (9, .int .u64 b1), (10, .int .u64 b0), (11, .int .u64 u), (12, .int .u64 w), (13, .int .u64 d1), (14, .int .u64 d0), (15, .int .u64 p.1), (16, .int .u64 p.2)], []⟩) (fun p => DigOK v u d1 p.1 p.2) (fun p => p.1) (by kernel_rfl) ⟨(qA, rA), HsA, weak_slots (by simp)⟩ (fun ⟨q, r⟩ H => ?_) (fun ⟨q, r⟩ H => ?_)
  · simp only at H ⊢
    have hn := H.near
    have hr := H.small
    have k1 : IntKind.wrap .u64 (4294967296 * (r : Int)) = ((4294967296 * r : Nat) : Int) := by rw [wrapU']; omega
    have k2 : IntKind.wrap .u64 (((4294967296 * r : Nat) : Int) + d1) = ((4294967296 * r + d1 : Nat) : Int) := by rw [wrapU']; omega
    have step : (4294967296 ≤ q ∨ 4294967296 * r + d1 < q * b0) → IntKind.wrap .u64 ((q : Int) - 1) = ((q - 1 : Nat) : Int) ∧ IntKind.wrap .u64 ((r : Int) + b1) = ((r + b1 : Nat) : Int) ∧ q - 1 < q ∧ (r + b1 < 4294967296 → DigOK v u d1 (q - 1) (r + b1)) ∧ (4294967296 ≤ r + b1 → q - 1 = (u * 4294967296 + d1) / v) := fun h => by
      have := dig_next hv hv' hu hd1' H (by rw [hb0]; exact h)
      rw [hb1] at this
      refine ⟨by rw [wrapU']; omega, by rw [wrapU']; omega, by omega, this.2.2.1, this.2.2.2⟩
    by_cases t1 : 4294967296 ≤ q
    · obtain ⟨s1, s2, s5, s3, s4⟩ := step (.inl t1)
      generalize q - 1 = q' at s1 s3 s4 s5
      generalize r + b1 = r' at s2 s3 s4
      have t1' : (4294967296 : Int) ≤ q := by omega
      by_cases t2 : 4294967296 ≤ r'
      · have t2' : (4294967296 : Int) ≤ r' := by omega
        simp [t1', s1, s2, t2']
        exact ⟨q', s4 t2, r', weak_slots (by simp)⟩
      · have t2' : ¬ (4294967296 : Int) ≤ r' := by omega
        simp [t1', s1, s2, t2']
        exact ⟨q', r', s3 (by omega), s5, weak_slots (by simp)⟩
    · have t1' : ¬ (4294967296 : Int) ≤ q := by omega
      have qb : q * b0 < 18446744073709551616 := Nat.lt_of_le_of_lt (Nat.mul_le_mul (n₂ := 4294967295) (m₂ := 4294967295) (by omega) (by omega)) (by decide)
      have k3 : IntKind.wrap .u64 ((q : Int) * b0) = ((q * b0 : Nat) : Int) := by rw [← Int.natCast_mul]; exact wrapN _ qb
      obtain ⟨x1, hx1⟩ : ∃ x, 4294967296 * r = x := ⟨_, rfl⟩
      obtain ⟨x2, hx2⟩ : ∃ x, x1 + d1 = x := ⟨_, rfl⟩
      obtain ⟨x3, hx3⟩ : ∃ x, q * b0 = x := ⟨_, rfl⟩
      rw [hx1] at k1 k2 step
      rw [hx2] at k2 step
      rw [hx3] at k3 step
      by_cases t3 : x2 < x3
      · obtain ⟨s1, s2, s5, s3, s4⟩ := step (.inr t3)
        generalize q - 1 = q' at s1 s3 s4 s5
        generalize r + b1 = r' at s2 s3 s4
        by_cases t2 : 4294967296 ≤ r'
        · have t2' : (4294967296 : Int) ≤ r' := by omega
          simp [t1', k1, k2, k3, t3, s1, s2, t2']
          exact ⟨q', s4 t2, r', weak_slots (by simp)⟩
        · have t2' : ¬ (4294967296 : Int) ≤ r' := by omega
          simp [t1', k1, k2, k3, t3, s1, s2, t2']
          exact ⟨q', r', s3 (by omega), s5, weak_slots (by simp)⟩
      · simp [t1', k1, k2, k3, t3]
        exact ⟨q, dig_done (by omega) H (by rw [hb0]; omega), r, weak_slots (by simp)⟩
  · simp only at H ⊢
    have g1 := dig_rem (u := u) (d := d1) (by omega : 0 < v) hv'
    have hu1 := Nat.mod_lt (u * 4294967296 + d1) (by omega : 0 < v)
    have Q := S.quo
    have R := S.rem
    rw [hd1, hd0] at Q R
    unfold QOK at H
    rw [← H] at g1 Q
    obtain ⟨u1, hu1e⟩ : ∃ x, (u * 4294967296 + d1) % v = x := ⟨_, rfl⟩
    rw [hu1e] at g1 hu1 Q R
    have HsB := dig_start (d := d0) hv hv' hu1 hd0'
    have cB1 : IntKind.wrap .u64 ((u1 : Int) / b1) = ((u1 / b1 : Nat) : Int) := by
      rw [← Int.natCast_ediv]
      have := Nat.div_le_self u1 b1
      exact wrapN _ (by omega)
    have mB := Nat.div_mul_le_self u1 b1
    rw [hb1] at HsB
    obtain ⟨qB, hqB⟩ : ∃ q, u1 / b1 = q := ⟨_, rfl⟩
    rw [hqB] at HsB cB1 mB
    have cB2 : IntKind.wrap .u64 ((u1 : Int) - IntKind.wrap .u64 ((qB : Int) * b1)) = ((u1 - qB * b1 : Nat) : Int) := by
      rw [← Int.natCast_mul, wrapN _ (by omega), wrapU']
      omega
    obtain ⟨rB, hrB⟩ : ∃ r, u1 - qB * b1 = r := ⟨_, rfl⟩
    rw [hrB] at HsB cB2
    simp [g1, cB1, cB2, b1n]
    refine loop_cut (C := CD) sigCD mixCD 2 (fun p : Nat × Nat => ⟨[(2, .int .u64 v), (6, .int .u64 0), (7, .int .u64 0), (8, .int .u64 s), (9, .int .u64 b1), (10, .int .u64 b0), (11, .int .u64 u), (12, .int .u64 w), (13, .int .u64 d1), (14, .int .u64 d0), (15, .int .u64 q), (17, .int .u64 u1), (18, .int .u64 p.1), (16, .int .u64 p.2)], []⟩) (fun p => QOK v u1 d0 p.1) (fun p : Nat × Nat => ⟨[(2, .int .u64 v), (6, .int .u64 0), (7, .int .u64 0), (8, .int .u64 s), (9, .int .u64 b1), (10, .int .u64 b0), (11, .int .u64 u), (12, .int .u64 w), (13, .int .u64 d1), (14, .int .u64 d0), (15, .int .u64 q), (17, .int .u64 u1), (18, .int .u64 p.1), (16, .int .u64 p.2)], []⟩) (fun p => DigOK v u1 d0 p.1 p.2) (fun p => p.1) (by kernel_rfl) ⟨(qB, rB), HsB, weak_slots (by simp)⟩ (fun ⟨q, r⟩ H => ?_) (fun ⟨q2, r2⟩ H2 => ?_)
    · simp only at H ⊢
      have hn := H.near
      have hr := H.small
      have k1 : IntKind.wrap .u64 (4294967296 * (r : Int)) = ((4294967296 * r : Nat) : Int) := by rw [wrapU']; omega
      have k2 : IntKind.wrap .u64 (((4294967296 * r : Nat) : Int) + d0) = ((4294967296 * r + d0 : Nat) : Int) := by rw [wrapU']; omega
      have step : (4294967296 ≤ q ∨ 4294967296 * r + d0 < q * b0) → IntKind.wrap .u64 ((q : Int) - 1) = ((q - 1 : Nat) : Int) ∧ IntKind.wrap .u64 ((r : Int) + b1) = ((r + b1 : Nat) : Int) ∧ q - 1 < q ∧ (r + b1 < 4294967296 → DigOK v u1 d0 (q - 1) (r + b1)) ∧ (4294967296 ≤ r + b1 → q - 1 = (u1 * 4294967296 + d0) / v) := fun h => by
        have := dig_next hv hv' hu1 hd0' H (by rw [hb0]; exact h)
        rw [hb1] at this
        refine ⟨by rw [wrapU']; omega, by rw [wrapU']; omega, by omega, this.2.2.1, this.2.2.2⟩
      by_cases t1 : 4294967296 ≤ q
      · obtain ⟨s1, s2, s5, s3, s4⟩ := step (.inl t1)
        generalize q - 1 = q' at s1 s3 s4 s5
        generalize r + b1 = r' at s2 s3 s4
        have t1' : (4294967296 : Int) ≤ q := by omega
        by_cases t2 : 4294967296 ≤ r'
        · have t2' : (4294967296 : Int) ≤ r' := by omega
          simp [t1', s1, s2, t2']
          exact ⟨q', s4 t2, r', weak_slots (by simp)⟩
        · have t2' : ¬ (4294967296 : Int) ≤ r' := by omega
          simp [t1', s1, s2, t2']
          exact ⟨q', r', s3 (by omega), s5, weak_slots (by simp)⟩
      · have t1' : ¬ (4294967296 : Int) ≤ q := by omega
        have qb : q * b0 < 18446744073709551616 := Nat.lt_of_le_of_lt (Nat.mul_le_mul (n₂ := 4294967295) (m₂ := 4294967295) (by omega) (by omega)) (by decide)
        have k3 : IntKind.wrap .u64 ((q : Int) * b0) = ((q * b0 : Nat) : Int) := by rw [← Int.natCast_mul]; exact wrapN _ qb
        obtain ⟨x1, hx1⟩ : ∃ x, 4294967296 * r = x := ⟨_, rfl⟩
        obtain ⟨x2, hx2⟩ : ∃ x, x1 + d0 = x := ⟨_, rfl⟩
        obtain ⟨x3, hx3⟩ : ∃ x, q * b0 = x := ⟨_, rfl⟩
        rw [hx1] at k1 k2 step
        rw [hx2] at k2 step
        rw [hx3] at k3 step
        by_cases t3 : x2 < x3
        · obtain ⟨s1, s2, s5, s3, s4⟩ := step (.inr t3)
          generalize q - 1 = q' at s1 s3 s4 s5
          generalize r + b1 = r' at s2 s3 s4
          by_cases t2 : 4294967296 ≤ r'
          · have t2' : (4294967296 : Int) ≤ r' := by omega
            simp [t1', k1, k2, k3, t3, s1, s2, t2']
            exact ⟨q', s4 t2, r', weak_slots (by simp)⟩
          · have t2' : ¬ (4294967296 : Int) ≤ r' := by omega
            simp [t1', k1, k2, k3, t3, s1, s2, t2']
            exact ⟨q', r', s3 (by omega), s5, weak_slots (by simp)⟩
        · simp [t1', k1, k2, k3, t3]
          exact ⟨q, dig_done (by omega) H (by rw [hb0]; omega), r, weak_slots (by simp)⟩
    · simp only at H2 ⊢
      have z2 := dig_rem (u := u1) (d := d0) (by omega : 0 < v) hv'
      unfold QOK at H2
      rw [← H2] at z2 Q
      rw [R] at z2
      have hq1 : q < 4294967296 := by rw [H]; exact dig_small (by omega) hu hd1'
      have hq2 : q2 < 4294967296 := by rw [H2]; exact dig_small (by omega) hu1 hd0'
      have z1 : IntKind.wrap .u64 (IntKind.wrap .u64 ((q : Int) * 4294967296) + q2) = ((hi : Int) * 18446744073709551616 + lo) / y := by
        have e : (((hi * 18446744073709551616 + lo) / y : Nat) : Int) = ((hi : Int) * 18446744073709551616 + lo) / y := by simp
        rw [← e, Q, wrapU', wrapU']
        omega
      have z3 : (((hi * 18446744073709551616 + lo) % y * 2 ^ s : Nat) : Int).fdiv (2 ^ min s (IntKind.bits .u64)) = ((hi : Int) * 18446744073709551616 + lo) % y := by
        have e : (((hi * 18446744073709551616 + lo) % y : Nat) : Int) = ((hi : Int) * 18446744073709551616 + lo) % y := by simp
        have m0 : min s (IntKind.bits .u64) = s := by have := S.hs; show min s 64 = s; omega
        rw [m0, ← e, Int.natCast_mul, Int.fdiv_eq_ediv_of_nonneg _ (Int.pow_nonneg (by decide)), show (((2 ^ s : Nat)) : Int) = (2 : Int) ^ s by simp, Int.mul_ediv_cancel]
        have := Nat.two_pow_pos s
        have e2 : ((2 ^ s : Nat) : Int) = (2 : Int) ^ s := by simp
        omega
      generalize ((hi * 18446744073709551616 + lo) % y * 2 ^ s : Nat) = z at z2 z3
      simp [z1, z2, z3]
end Go.Proofs.YtfoipbjhaiimlaaDoor


/-
  layer 3: fractions, the program's side.
-/
namespace Go.Proofs.YtfoipbjhaiimlaaDoor
open Go.RowKit
set_option linter.unusedSimpArgs false
set_option linter.unusedVariables false
set_option maxRecDepth 100000

noncomputable def CM1 : Ctx := mkC Tryd.prog G0 [(119, .pure sDiv64)]
@[simp] theorem CM1_P : CM1.P = Tryd.prog := rfl
@[simp] theorem CM1_G : CM1.G = G0 := rfl
@[simp] theorem CM1_1 : CM1.S 119 = .pure sDiv64 := rfl
theorem mixCM1 : CM1.P.follows .mixedOrders = true := mixed
theorem sigCM1 : SigOK CM1 := sigOK_cons (entryPure (div64P) Tryd.func119 rfl (by decide)) (sigOK_nil _ _)
theorem mag_int {x : Wide} (g : GoodW x) : (magW x : Int) = x.hi * 18446744073709551616 + x.lo := by
  have := g.hi.1
  have := g.lo.1
  unfold magW
  omega
def sModW : List AV → Option (Prop × AV)
  | [.agg [.bool n, .int .u64 h, .int .u64 l], .int .u64 m] => some (GoodW ⟨n, h, l⟩ ∧ 0 < m ∧ m < 18446744073709551616, .int .u64 ((magW ⟨n, h, l⟩ : Int) % m))
  | _ => none
theorem modWP : PureOK Tryd.prog G0 113 sModW := by
  refine pure_of (C := CM1) sigCM1 mixCM1 Tryd.func113 rfl rfl rfl (by kernel_rfl) (fun avs ob r hp hob => ?_)
  unfold sModW at hp
  split at hp
  case h_2 => cases hp
  rename_i n h l m
  injection hp with hp; injection hp with e1 e2; subst e1 e2
  obtain ⟨g, m0, m1⟩ := hob
  have e := mag_int g
  obtain ⟨⟨h0, h1⟩, ⟨l0, l1⟩⟩ := g
  simp only at h0 h1 l0 l1 e
  refine ⟨(by show 2 ≤ _; decide), ?_⟩
  have t1 : h.tmod m = h % m := Int.tmod_eq_emod_of_nonneg h0
  have t2 := Int.emod_nonneg h (show m ≠ 0 by omega)
  have t3 := Int.emod_lt_of_pos h m0
  have t4 : ¬ m = 0 := by omega
  have e2 : (h % m * 18446744073709551616 + l) % m = (h * 18446744073709551616 + l) % m := by
    rw [Int.add_emod, Int.mul_emod, Int.emod_emod_of_dvd _ (Int.dvd_refl m), ← Int.mul_emod, ← Int.add_emod]
  simp [argsρ, sDiv64, t1, t2, t3, t4, W64, l0, l1, m1, e, e2]
def overI (x : Wide) (m : Int) : Int × Bool := if InR ((magW x : Int) / m) then (if x.neg then -((magW x : Int) / m) else (magW x : Int) / m, true) else (0, false)
def sOverW : List AV → Option (Prop × AV)
  | [.agg [.bool n, .int .u64 h, .int .u64 l], .int .u64 m] => some (GoodW ⟨n, h, l⟩ ∧ 0 < m ∧ m ≤ 1000000000000000, .tup [.int .i64 (overI ⟨n, h, l⟩ m).1, .bool (overI ⟨n, h, l⟩ m).2])
  | _ => none
set_option maxHeartbeats 4000000 in
theorem overWP : PureOK Tryd.prog G0 114 sOverW := by
  refine pure_of (C := CM1) sigCM1 mixCM1 Tryd.func114 rfl rfl rfl (by kernel_rfl) (fun avs ob r hp hob => ?_)
  unfold sOverW at hp
  split at hp
  case h_2 => cases hp
  rename_i n h l m
  injection hp with hp; injection hp with e1 e2; subst e1 e2
  obtain ⟨g, m0, m1⟩ := hob
  have e := mag_int g
  obtain ⟨⟨h0, h1⟩, ⟨l0, l1⟩⟩ := g
  simp only at h0 h1 l0 l1 e
  refine ⟨(by show 2 ≤ _; decide), ?_⟩
  unfold overI
  rw [e]
  by_cases hm : m ≤ h
  · have big : 18446744073709551616 ≤ (h * 18446744073709551616 + l) / m := by
      rw [Int.le_ediv_iff_mul_le m0]
      omega
    have no : ¬ InR ((h * 18446744073709551616 + l) / m) := by unfold InR; omega
    simp [argsρ, hm, no]
  have m2 : m < 18446744073709551616 := by omega
  have hm' : h < m := by omega
  have q0 : 0 ≤ (h * 18446744073709551616 + l) / m := Int.ediv_nonneg (by omega) (by omega)
  obtain ⟨q, hqe⟩ : ∃ q, (h * 18446744073709551616 + l) / m = q := ⟨_, rfl⟩
  rw [hqe] at q0 ⊢
  by_cases hq : 1000000000000000 < q
  · have no : ¬ InR q := by unfold InR; omega
    simp [argsρ, sDiv64, hm, hm', hq, no, W64, l0, l1, m2, h0, hqe]
  · have yes : InR q := by unfold InR; omega
    have w1 : IntKind.wrap .i64 q = q := IntWalk.i64_in _ (by omega)
    have w2 : IntKind.wrap .i64 (-q) = -q := IntWalk.i64_in _ (by omega)
    cases n
    · simp [argsρ, sDiv64, hm, hm', hq, yes, W64, l0, l1, m2, h0, w1, w2, hqe]
    · simp [argsρ, sDiv64, hm, hm', hq, yes, W64, l0, l1, m2, h0, w1, w2, hqe]
def sValidF : List AV → Option (Prop × AV) := spec1 (fun (_ : Fr) => True) (fun a => .bool (decide (ValidF a)))
noncomputable def CV : Ctx := mkC Tryd.prog G0 [(57, .pure sIn), (58, .pure sGcd)]
@[simp] theorem CV_P : CV.P = Tryd.prog := rfl
@[simp] theorem CV_G : CV.G = G0 := rfl
@[simp] theorem CV_1 : CV.S 57 = .pure sIn := rfl
@[simp] theorem CV_2 : CV.S 58 = .pure sGcd := rfl
theorem mixCV : CV.P.follows .mixedOrders = true := mixed
theorem sigCV : SigOK CV := sigOK_cons (entryPure (inP) Tryd.func57 rfl (by decide)) (sigOK_cons (entryPure (gcdP) Tryd.func58 rfl (by decide)) (sigOK_nil _ _))
theorem gcdI_in {a b : Int} (ha : InR a) (hb : InR b) : gcdI a b = Int.gcd a b := if_pos ⟨ha, hb⟩
theorem validP : PureOK Tryd.prog G0 25 sValidF := by
  refine pure1 (C := CV) sigCV mixCV Tryd.func25 rfl rfl rfl (by kernel_rfl) (by decide) (fun a _ => ?_)
  obtain ⟨n, d⟩ := a
  by_cases h1 : 1 ≤ d
  case neg => simp [sIn, sGcd, h1, ValidF]
  by_cases h2 : d ≤ 1000000000000000
  case neg => simp [sIn, sGcd, h1, h2, ValidF]
  by_cases h3 : InR n
  case neg => simp [sIn, sGcd, h1, h2, h3, ValidF]
  have e := gcdI_in h3 (show InR d by unfold InR; omega)
  have e2 : ((Int.gcd n d : Nat) : Int) = 1 ↔ Int.gcd n d = 1 := by omega
  simp [sIn, sGcd, h1, h2, h3, ValidF, e, e2]

noncomputable def CFr : Ctx := mkC Tryd.prog G0 [(25, .pure sValidF), (58, .pure sGcd), (108, .pure sMulI), (110, .pure sProd), (111, .pure sPlus), (112, .pure sSignW), (113, .pure sModW), (114, .pure sOverW)]
@[simp] theorem CFr_P : CFr.P = Tryd.prog := rfl
@[simp] theorem CFr_G : CFr.G = G0 := rfl
@[simp] theorem CFr_1 : CFr.S 25 = .pure sValidF := rfl
@[simp] theorem CFr_2 : CFr.S 58 = .pure sGcd := rfl
@[simp] theorem CFr_3 : CFr.S 108 = .pure sMulI := rfl
@[simp] theorem CFr_4 : CFr.S 110 = .pure sProd := rfl
@[simp] theorem CFr_5 : CFr.S 111 = .pure sPlus := rfl
@[simp] theorem CFr_6 : CFr.S 112 = .pure sSignW := rfl
@[simp] theorem CFr_7 : CFr.S 113 = .pure sModW := rfl
@[simp] theorem CFr_8 : CFr.S 114 = .pure sOverW := rfl
theorem mixCFr : CFr.P.follows .mixedOrders = true := mixed
theorem sigCFr : SigOK CFr := sigOK_cons (entryPure (validP) Tryd.func25 rfl (by decide)) (sigOK_cons (entryPure (gcdP) Tryd.func58 rfl (by decide)) (sigOK_cons (entryPure (mulIP) Tryd.func108 rfl (by decide)) (sigOK_cons (entryPure (prodP) Tryd.func110 rfl (by decide)) (sigOK_cons (entryPure (plusP) Tryd.func111 rfl (by decide)) (sigOK_cons (entryPure (signWP) Tryd.func112 rfl (by decide)) (sigOK_cons (entryPure (modWP) Tryd.func113 rfl (by decide)) (sigOK_cons (entryPure (overWP) Tryd.func114 rfl (by decide)) (sigOK_nil _ _))))))))
theorem tdiv_R {n g : Int} (h : InR n) (hg : 0 < g) : InR (n.tdiv g) ∧ IntKind.wrap .i64 (n.tdiv g) = n.tdiv g := by
  have h1 : (n.tdiv g).natAbs ≤ n.natAbs := by rw [Int.natAbs_tdiv]; exact Nat.div_le_self _ _
  unfold InR at h
  have : InR (n.tdiv g) := by unfold InR; omega
  refine ⟨this, IntWalk.i64_in _ ?_⟩
  unfold InR at this
  omega
theorem tdiv_w {n g : Int} (h : InR n) (hg : 0 < g) : w64 (n.tdiv g) = n.tdiv g := (tdiv_R h hg).2
def sMulF : List AV → Option (Prop × AV) := spec2 (fun (_ _ : Fr) => True) (fun a b => .tup [Enc.enc (mulF a b).1, .bool (mulF a b).2])
theorem mulF_no {a b : Fr} (h : ¬ (ValidF a ∧ ValidF b)) : mulF a b = (F00, false) := if_neg h
theorem gcd_R {a b : Int} (ha : InR a) (hb : InR b) (h0 : b ≠ 0) : 0 < Int.gcd a b ∧ InR (Int.gcd a b) := by
  have h1 := Int.gcd_pos_of_ne_zero_right a h0
  have h2 := Int.gcd_le_natAbs_right a h0
  unfold InR at *
  omega
theorem rng_mul {a b : Int} {c d : Int} (h1 : InR a) (h2 : InR b) (h3 : InR c) (h4 : InR d) : rngF (a * b) (c * d) = if (mulI a b).2 = true ∧ (mulI c d).2 = true then (⟨(mulI a b).1, (mulI c d).1⟩, true) else (F00, false) := by
  unfold rngF mulI
  by_cases h5 : InR (a * b) <;> by_cases h6 : InR (c * d) <;> simp [h1, h2, h3, h4, h5, h6]
set_option maxHeartbeats 4000000 in
theorem mulP : PureOK Tryd.prog G0 104 sMulF := by
  refine pure2 (C := CFr) sigCFr mixCFr Tryd.func104 rfl rfl rfl (by kernel_rfl) (by decide) (fun a b _ => ?_)
  by_cases ha : ValidF a
  case neg =>
    have e := mulF_no (a := a) (b := b) (fun h => ha h.1)
    simp [sValidF, ha, e, F00]
  by_cases hb : ValidF b
  case neg =>
    have e := mulF_no (a := a) (b := b) (fun h => hb h.2)
    simp [sValidF, ha, hb, e, F00]
  have e := mul_parts ha hb
  have ha' := ha
  have hb' := hb
  obtain ⟨a1, a2, a3, a4⟩ := ha'
  obtain ⟨b1, b2, b3, b4⟩ := hb'
  have a5 : InR a.D := by unfold InR; omega
  have b5 : InR b.D := by unfold InR; omega
  obtain ⟨g0, g1⟩ := gcd_R a3 b5 (by omega)
  obtain ⟨h0, h1⟩ := gcd_R b3 a5 (by omega)
  have i1 := gcdI_in a3 b5
  have i2 := gcdI_in b3 a5
  generalize Int.gcd a.N b.D = g at *
  generalize Int.gcd b.N a.D = h at *
  obtain ⟨p1, q1⟩ := tdiv_R a3 (g := g) (by omega)
  obtain ⟨p2, q2⟩ := tdiv_R b3 (g := h) (by omega)
  obtain ⟨p3, q3⟩ := tdiv_R a5 (g := h) (by omega)
  obtain ⟨p4, q4⟩ := tdiv_R b5 (g := g) (by omega)
  rw [rng_mul p1 p2 p3 p4] at e
  have g2 : ¬ g = 0 := by omega
  have h2 : ¬ h = 0 := by omega
  have q1 : w64 _ = _ := q1
  have q2 : w64 _ = _ := q2
  have q3 : w64 _ = _ := q3
  have q4 : w64 _ = _ := q4
  obtain ⟨n1, f1, e1⟩ : ∃ n f, mulI (a.N.tdiv g) (b.N.tdiv h) = (n, f) := ⟨_, _, rfl⟩
  obtain ⟨n2, f2, e2⟩ : ∃ n f, mulI (a.D.tdiv h) (b.D.tdiv g) = (n, f) := ⟨_, _, rfl⟩
  rw [e1, e2] at e
  simp only at e
  cases f1
  · simp [sValidF, sGcd, sMulI, ha, hb, i1, i2, q1, q2, q3, q4, g2, h2, e1, e2, e, F00]
  · cases f2
    · simp [sValidF, sGcd, sMulI, ha, hb, i1, i2, q1, q2, q3, q4, g2, h2, e1, e2, e, F00]
    · simp [sValidF, sGcd, sMulI, ha, hb, i1, i2, q1, q2, q3, q4, g2, h2, e1, e2, e, F00]
end Go.Proofs.YtfoipbjhaiimlaaDoor


/-
  layer 3: sums and quotients of fractions, the program's side.
-/
namespace Go.Proofs.YtfoipbjhaiimlaaDoor
open Go.RowKit
set_option linter.unusedSimpArgs false
set_option linter.unusedVariables false
set_option maxRecDepth 100000

theorem pair_of {α β : Type} (x : α × β) : ∃ a b, x = (a, b) := ⟨x.1, x.2, rfl⟩
theorem quo_R {n g : Int} (h : InR n) (hg : 0 < g) : InR (n.tdiv g) := (tdiv_R h hg).1
/-- What the words say of two products added. -/
theorem plus_val {x y : Wide} (gx : GoodW x) (gy : GoodW y) : ((if (plusW x y).neg then -(magW (plusW x y) : Int) else magW (plusW x y)) : Int) = (if x.neg then -(magW x : Int) else magW x) + (if y.neg then -(magW y : Int) else magW y) := by
  unfold plusW
  cases hx : x.neg <;> cases hy : y.neg <;> simp
  · split <;> simp <;> omega
  · split <;> simp <;> omega
  · omega
def valW (x : Wide) : Int := if x.neg then -(magW x : Int) else magW x
theorem prod_val {a b : Int} : valW (prodF a b) = a * b := by
  unfold valW prodF
  rw [mag_of, neg_of, Int.natCast_mul]
  by_cases ha : a < 0 <;> by_cases hb : b < 0
  · have e1 : (a.natAbs : Int) = -a := by omega
    have e2 : (b.natAbs : Int) = -b := by omega
    simp [ha, hb, e1, e2, Int.neg_mul, Int.mul_neg]
  · have e1 : (a.natAbs : Int) = -a := by omega
    have e2 : (b.natAbs : Int) = b := by omega
    simp [ha, hb, e1, e2, Int.neg_mul, Int.mul_neg]
  · have e1 : (a.natAbs : Int) = a := by omega
    have e2 : (b.natAbs : Int) = -b := by omega
    simp [ha, hb, e1, e2, Int.neg_mul, Int.mul_neg]
  · have e1 : (a.natAbs : Int) = a := by omega
    have e2 : (b.natAbs : Int) = b := by omega
    simp [ha, hb, e1, e2, Int.neg_mul, Int.mul_neg]
theorem good_plus {x y : Wide} (gx : GoodW x) (gy : GoodW y) (hx : magW x ≤ 10000000000000000000000000000000) (hy : magW y ≤ 10000000000000000000000000000000) : GoodW (plusW x y) := by
  unfold plusW
  split
  · exact good_of (by omega)
  · split
    · exact good_of (by omega)
    · exact good_of (by omega)
/-- What stands in the words behind the two products. -/
structure SumW (T : Wide) (t : Int) : Prop where
  good : GoodW T
  mag : magW T = t.natAbs
  val : T.neg = true → t ≤ 0
  val' : T.neg = false → 0 ≤ t
theorem sumW {a b c d : Int} (ha : InR a) (hb : InR b) (hc : InR c) (hd : InR d) : SumW (plusW (prodF a b) (prodF c d)) (a * b + c * d) := by
  have g1 := good_prod ha hb
  have g2 := good_prod hc hd
  have m1 : magW (prodF a b) = a.natAbs * b.natAbs := mag_of _ _
  have m2 : magW (prodF c d) = c.natAbs * d.natAbs := mag_of _ _
  have b1 := abs_mul_lt ha hb
  have b2 := abs_mul_lt hc hd
  have v1 := prod_val (a := a) (b := b)
  have v2 := prod_val (a := c) (b := d)
  have v := plus_val g1 g2
  have e1 : valW (prodF a b) = if (prodF a b).neg = true then -(magW (prodF a b) : Int) else magW (prodF a b) := rfl
  have e2 : valW (prodF c d) = if (prodF c d).neg = true then -(magW (prodF c d) : Int) else magW (prodF c d) := rfl
  rw [← e1, ← e2, v1, v2] at v
  have g3 := good_plus g1 g2 (by omega) (by omega)
  generalize plusW (prodF a b) (prodF c d) = T at *
  generalize a * b + c * d = t at *
  refine ⟨g3, ?_, fun h => ?_, fun h => ?_⟩
  · cases h : T.neg <;> rw [h] at v <;> simp at v <;> omega
  · rw [h] at v; simp at v; omega
  · rw [h] at v; simp at v; omega
theorem gcd_abs_mod (t : Int) (g : Nat) : Int.gcd ((t.natAbs : Int) % (g : Int)) g = Int.gcd t g := by
  have e : ((t.natAbs : Int) % (g : Int)) = ((t.natAbs % g : Nat) : Int) := by simp
  rw [e]
  unfold Int.gcd
  rw [Int.natAbs_natCast, Int.natAbs_natCast, Nat.gcd_comm t.natAbs, Nat.gcd_rec g t.natAbs]
theorem tdiv_le0 {t : Int} (h : t ≤ 0) {m : Nat} (hm : 0 < m) : t.tdiv m ≤ 0 := by
  have h1 : (-t).tdiv m = -(t.tdiv m) := Int.neg_tdiv _ _
  have h2 := Int.tdiv_nonneg (a := -t) (b := m) (by omega) (by omega)
  omega
theorem over_sum {T : Wide} {t : Int} (h : SumW T t) {m : Nat} (hm : 0 < m) : overI T m = if InR (t.tdiv m) then (t.tdiv m, true) else (0, false) := by
  unfold overI
  rw [h.mag]
  have e : ((t.natAbs : Int) / (m : Int)) = ((t.tdiv m).natAbs : Int) := by
    rw [Int.natAbs_tdiv, Int.natAbs_natCast]
    exact (Int.natCast_ediv _ _).symm
  rw [e]
  have hR : InR ((t.tdiv m).natAbs : Int) ↔ InR (t.tdiv m) := by unfold InR; omega
  by_cases hr : InR (t.tdiv m)
  · rw [if_pos (hR.2 hr), if_pos hr]
    cases hn : T.neg with
    | true =>
      have e2 := tdiv_le0 (h.val hn) hm
      simp only [if_true]
      rw [show -((t.tdiv m).natAbs : Int) = t.tdiv m by omega]
    | false =>
      have : 0 ≤ t.tdiv m := Int.tdiv_nonneg (h.val' hn) (by omega)
      simp only [Bool.false_eq_true, if_false]
      rw [show ((t.tdiv m).natAbs : Int) = t.tdiv m by omega]
  · rw [if_neg (mt hR.1 hr), if_neg hr]
theorem addF_no {a b : Fr} (h : ¬ (ValidF a ∧ ValidF b)) : addF a b = (F00, false) := if_neg h
def sAddF : List AV → Option (Prop × AV) := spec2 (fun (_ _ : Fr) => True) (fun a b => .tup [Enc.enc (addF a b).1, .bool (addF a b).2])
set_option maxHeartbeats 8000000 in
theorem addP : PureOK Tryd.prog G0 109 sAddF := by
  refine pureH2 (C := CFr) sigCFr mixCFr Tryd.func109 rfl rfl rfl [4] (by kernel_rfl) (by decide) (fun a b _ => ?_)
  by_cases ha : ValidF a
  case neg =>
    have e := addF_no (a := a) (b := b) (fun h => ha h.1)
    simp [sValidF, ha, e, F00]
  by_cases hb : ValidF b
  case neg =>
    have e := addF_no (a := a) (b := b) (fun h => hb h.2)
    simp [sValidF, ha, hb, e, F00]
  obtain ⟨hh0, e⟩ := add_parts ha hb
  have ez := add_zero_parts ha hb
  have ha' := ha
  have hb' := hb
  obtain ⟨a1, a2, a3, a4⟩ := ha'
  obtain ⟨b1, b2, b3, b4⟩ := hb'
  have a5 : InR a.D := by unfold InR; omega
  have b5 : InR b.D := by unfold InR; omega
  obtain ⟨g0, g1⟩ := gcd_R a5 b5 (by omega)
  have i1 := gcdI_in a5 b5
  have et : tF a b = a.N * b.D.tdiv (Int.gcd a.D b.D) + b.N * a.D.tdiv (Int.gcd a.D b.D) := rfl
  generalize Int.gcd a.D b.D = g at *
  obtain ⟨p1, q1⟩ := tdiv_R a5 (g := g) (by omega)
  obtain ⟨p2, q2⟩ := tdiv_R b5 (g := g) (by omega)
  have S := sumW a3 p2 b3 p1
  rw [← et] at S
  generalize hT : plusW (prodF a.N (b.D.tdiv g)) (prodF b.N (a.D.tdiv g)) = T at *
  generalize tF a b = t at *
  have gp1 := good_prod a3 p2
  have gp2 := good_prod b3 p1
  have gT := S.good
  have g2 : ¬ g = 0 := by omega
  have q1 : w64 _ = _ := q1
  have q2 : w64 _ = _ := q2
  have step0 : ∀ {X : Prop}, X → X := id
  rcases em2 (t = 0) with ht | ht
  · have hs : signW T = 0 := by unfold signW; rw [S.mag, of_eq_true ht]; rfl
    have e := ez (of_eq_true ht)
    simp [sValidF, sGcd, ha, hb, i1]
    refine AW_regionF sigCFr mixCFr [.pure, .read, .pure, .read, .pure, .pure, .read, .pure, .read, .pure, .read, .pure, .pure, .read, .read, .eff, .eff] [[],[0],[],[2],[],[4,2,3],[3,2,4,5,0,1],[],[7],[],[9],[],[11,9,10],[1,0,5,4,2,3,6,10,9,11,12,7,8],[8,7,12,11,9,10,13,1,0,5,4,2,3,6],[],[6,3,2,4,5,0,1,13,10,9,11,12,7,8,14,15]] (by kernel_rfl) (by kernel_rfl) (by kernel_rfl) (by kernel_rfl) ?_
    simp [sProd, sPlus, sSignW, g2, q1, q2, a3, b3, p1, p2, gp1, gp2, hT, gT, hs, e, F01]
  have hs : (signW T = 0) = False := eq_false (by
    have := of_eq_false ht
    unfold signW
    rw [if_neg (by rw [S.mag]; omega)]
    split <;> decide)
  have g3 : IntKind.wrap .u64 (g : Int) = g := by unfold InR at g1; rw [IntKind.wrap_u64]; omega
  have r0 := Int.emod_nonneg (t.natAbs : Int) (show (g : Int) ≠ 0 by omega)
  have r1 := Int.emod_lt_of_pos (t.natAbs : Int) (show (0 : Int) < g by omega)
  have r2 := gcd_abs_mod t g
  have rR : InR ((t.natAbs : Int) % g) := by unfold InR at *; omega
  have r3 : IntKind.wrap .i64 ((t.natAbs : Int) % g) = (t.natAbs : Int) % g := IntWalk.i64_in _ (by unfold InR at rR; omega)
  have i2 := gcdI_in rR g1
  rw [r2] at i2
  have h1 : InR (Int.gcd t g : Int) := by have := Int.gcd_le_natAbs_right t (show (g : Int) ≠ 0 by omega); unfold InR at *; omega
  generalize Int.gcd t g = h at *
  have ov := over_sum S (m := h) hh0
  obtain ⟨p3, q3⟩ := tdiv_R b5 (g := h) (by omega)
  have q3 : w64 _ = _ := q3
  have h2 : ¬ h = 0 := by omega
  have h3 : IntKind.wrap .u64 (h : Int) = h := by unfold InR at h1; rw [IntKind.wrap_u64]; omega
  have hm : magW T = t.natAbs := S.mag
  have h4 : (h : Int) ≤ 1000000000000000 := by unfold InR at h1; omega
  have g4 : (g : Int) < 18446744073709551616 := by unfold InR at g1; omega
  have e : addF a b = if (overI T h).2 = true ∧ (mulI (a.D.tdiv g) (b.D.tdiv h)).2 = true then (⟨(overI T h).1, (mulI (a.D.tdiv g) (b.D.tdiv h)).1⟩, true) else (F00, false) := by
    rw [e, ov]
    unfold rngF mulI
    by_cases h5 : InR (t.tdiv h) <;> by_cases h6 : InR (a.D.tdiv g * b.D.tdiv h) <;> simp [p1, p3, h5, h6]
  obtain ⟨n1, f1, e1⟩ := pair_of (overI T h)
  obtain ⟨n2, f2, e2⟩ := pair_of (mulI (a.D.tdiv g) (b.D.tdiv h))
  rw [e1, e2] at e
  simp only at e
  cases f1
  · simp [sValidF, sGcd, ha, hb, i1]
    refine AW_regionF sigCFr mixCFr [.pure, .read, .pure, .read, .pure, .pure, .read, .pure, .read, .pure, .read, .pure, .pure, .read, .read, .eff, .eff] [[],[0],[],[2],[],[4,2,3],[3,2,4,5,0,1],[],[7],[],[9],[],[11,9,10],[1,0,5,4,2,3,6,10,9,11,12,7,8],[8,7,12,11,9,10,13,1,0,5,4,2,3,6],[],[6,3,2,4,5,0,1,13,10,9,11,12,7,8,14,15]] (by kernel_rfl) (by kernel_rfl) (by kernel_rfl) (by kernel_rfl) ?_
    simp [sProd, sPlus, sSignW, sModW, sOverW, sGcd, sMulI, g0, g2, g3, g4, q1, q2, a3, b3, p1, p2, gp1, gp2, hT, gT, hs, hm, r3, i2, h2, h3, h4, hh0, q3, e1, e2, e, F00]
  · cases f2
    · simp [sValidF, sGcd, ha, hb, i1]
      refine AW_regionF sigCFr mixCFr [.pure, .read, .pure, .read, .pure, .pure, .read, .pure, .read, .pure, .read, .pure, .pure, .read, .read, .eff, .eff] [[],[0],[],[2],[],[4,2,3],[3,2,4,5,0,1],[],[7],[],[9],[],[11,9,10],[1,0,5,4,2,3,6,10,9,11,12,7,8],[8,7,12,11,9,10,13,1,0,5,4,2,3,6],[],[6,3,2,4,5,0,1,13,10,9,11,12,7,8,14,15]] (by kernel_rfl) (by kernel_rfl) (by kernel_rfl) (by kernel_rfl) ?_
      simp [sProd, sPlus, sSignW, sModW, sOverW, sGcd, sMulI, g0, g2, g3, g4, q1, q2, a3, b3, p1, p2, gp1, gp2, hT, gT, hs, hm, r3, i2, h2, h3, h4, hh0, q3, e1, e2, e, F00]
    · simp [sValidF, sGcd, ha, hb, i1]
      refine AW_regionF sigCFr mixCFr [.pure, .read, .pure, .read, .pure, .pure, .read, .pure, .read, .pure, .read, .pure, .pure, .read, .read, .eff, .eff] [[],[0],[],[2],[],[4,2,3],[3,2,4,5,0,1],[],[7],[],[9],[],[11,9,10],[1,0,5,4,2,3,6,10,9,11,12,7,8],[8,7,12,11,9,10,13,1,0,5,4,2,3,6],[],[6,3,2,4,5,0,1,13,10,9,11,12,7,8,14,15]] (by kernel_rfl) (by kernel_rfl) (by kernel_rfl) (by kernel_rfl) ?_
      simp [sProd, sPlus, sSignW, sModW, sOverW, sGcd, sMulI, g0, g2, g3, g4, q1, q2, a3, b3, p1, p2, gp1, gp2, hT, gT, hs, hm, r3, i2, h2, h3, h4, hh0, q3, e1, e2, e, F00]
end Go.Proofs.YtfoipbjhaiimlaaDoor


/-
  layer 3: difference, quotient, order, the program's side.
-/
namespace Go.Proofs.YtfoipbjhaiimlaaDoor
open Go.RowKit
set_option linter.unusedSimpArgs false
set_option linter.unusedVariables false
set_option maxRecDepth 100000

theorem w64_R {n : Int} (h : InR n) : w64 n = n := w64_in (by unfold InR at h; unfold I64; omega)
theorem InR_neg {n : Int} : InR (-n) ↔ InR n := by unfold InR; omega
theorem negF_valid {a : Fr} (h : ValidF a) : negF a = ⟨-a.N, a.D⟩ := by
  unfold negF
  rw [w64_R (InR_neg.2 h.2.2.1)]
theorem valid_neg {a : Fr} (h : ValidF a) : ValidF (negF a) := by
  rw [negF_valid h]
  obtain ⟨h1, h2, h3, h4⟩ := h
  exact ⟨h1, h2, InR_neg.2 h3, by rw [Int.neg_gcd]; exact h4⟩
noncomputable def CSb : Ctx := mkC Tryd.prog G0 [(109, .pure sAddF), (104, .pure sMulF), (25, .pure sValidF), (110, .pure sProd), (111, .pure sPlus), (112, .pure sSignW)]
@[simp] theorem CSb_P : CSb.P = Tryd.prog := rfl
@[simp] theorem CSb_G : CSb.G = G0 := rfl
@[simp] theorem CSb_1 : CSb.S 109 = .pure sAddF := rfl
@[simp] theorem CSb_2 : CSb.S 104 = .pure sMulF := rfl
@[simp] theorem CSb_3 : CSb.S 25 = .pure sValidF := rfl
@[simp] theorem CSb_4 : CSb.S 110 = .pure sProd := rfl
@[simp] theorem CSb_5 : CSb.S 111 = .pure sPlus := rfl
@[simp] theorem CSb_6 : CSb.S 112 = .pure sSignW := rfl
theorem mixCSb : CSb.P.follows .mixedOrders = true := mixed
theorem sigCSb : SigOK CSb := sigOK_cons (entryPure (addP) Tryd.func109 rfl (by decide)) (sigOK_cons (entryPure (mulP) Tryd.func104 rfl (by decide)) (sigOK_cons (entryPure (validP) Tryd.func25 rfl (by decide)) (sigOK_cons (entryPure (prodP) Tryd.func110 rfl (by decide)) (sigOK_cons (entryPure (plusP) Tryd.func111 rfl (by decide)) (sigOK_cons (entryPure (signWP) Tryd.func112 rfl (by decide)) (sigOK_nil _ _))))))
def sSubF : List AV → Option (Prop × AV) := spec2 (fun (_ b : Fr) => I64 b.N) (fun a b => .tup [Enc.enc (subF a b).1, .bool (subF a b).2])
theorem subP : PureOK Tryd.prog G0 105 sSubF := by
  refine pure2 (C := CSb) sigCSb mixCSb Tryd.func105 rfl rfl rfl (by kernel_rfl) (by decide) (fun a b _ => ?_)
  have e : addF a ⟨IntKind.wrap .i64 (-b.N), b.D⟩ = subF a b := rfl
  obtain ⟨r, f, hr⟩ := pair_of (subF a b)
  simp [sAddF, e, hr]
def sDivF : List AV → Option (Prop × AV) := spec2 (fun (_ _ : Fr) => True) (fun a b => .tup [Enc.enc (divF a b).1, .bool (divF a b).2])
theorem divP : PureOK Tryd.prog G0 106 sDivF := by
  refine pure2 (C := CSb) sigCSb mixCSb Tryd.func106 rfl rfl rfl (by kernel_rfl) (by decide) (fun a b _ => ?_)
  by_cases hb : ValidF b
  case neg =>
    have e : divF a b = (F00, false) := if_neg (fun h => hb h.1)
    simp [sValidF, hb, e, F00]
  rcases em2 (b.N = 0) with h0 | h0
  · have e : divF a b = (F00, false) := if_neg (fun h => h.2 (of_eq_true h0))
    simp [sValidF, hb, h0, e, F00]
  obtain ⟨b1, b2, b3, b4⟩ := hb
  have hb : ValidF b := ⟨b1, b2, b3, b4⟩
  have n1 : IntKind.wrap .i64 (-b.N) = -b.N := w64_R (InR_neg.2 b3)
  have n2 : IntKind.wrap .i64 (-b.D) = -b.D := w64_R (InR_neg.2 (by unfold InR; omega))
  by_cases h1 : b.N < 0
  · have e : divF a b = mulF a ⟨-b.D, -b.N⟩ := by unfold divF; rw [if_pos ⟨hb, of_eq_false h0⟩, if_pos h1]
    obtain ⟨r, f, hr⟩ := pair_of (mulF a ⟨-b.D, -b.N⟩)
    simp [sValidF, sMulF, hb, h0, h1, n1, n2, e, hr]
  · have e : divF a b = mulF a ⟨b.D, b.N⟩ := by unfold divF; rw [if_pos ⟨hb, of_eq_false h0⟩, if_neg h1]
    obtain ⟨r, f, hr⟩ := pair_of (mulF a ⟨b.D, b.N⟩)
    simp [sValidF, sMulF, hb, h0, h1, n1, n2, e, hr]
theorem valid01 : ValidF F01 := by decide
theorem fix_valid (a : Fr) : ValidF (fixF a) := by
  unfold fixF
  split
  · assumption
  · exact valid01
theorem sign_sum {T : Wide} {t : Int} (h : SumW T t) : signW T = sgn t := by
  unfold signW sgn
  rw [h.mag]
  have h1 := h.val
  have h2 := h.val'
  cases hn : T.neg with
  | true =>
    have := h1 hn
    by_cases h0 : t = 0
    · subst h0; rfl
    · rw [if_neg (by omega), if_pos rfl, if_pos (by omega)]
  | false =>
    have := h2 hn
    by_cases h0 : t = 0
    · subst h0; rfl
    · rw [if_neg (by omega), if_neg (by decide), if_neg (by omega), if_pos (by omega)]
def sCmpF : List AV → Option (Prop × AV) := spec2 (fun (_ _ : Fr) => True) (fun a b => .int .i64 (cmpF a b))
set_option maxHeartbeats 4000000 in
theorem cmpP : PureOK Tryd.prog G0 107 sCmpF := by
  refine pure2 (C := CSb) sigCSb mixCSb Tryd.func107 rfl rfl rfl (by kernel_rfl) (by decide) (fun a b _ => ?_)
  have va := fix_valid a
  have vb := fix_valid b
  obtain ⟨x, hx⟩ : ∃ x, fixF a = x := ⟨_, rfl⟩
  obtain ⟨y, hy⟩ : ∃ y, fixF b = y := ⟨_, rfl⟩
  have ec : cmpF a b = sgn (x.N * y.D + -y.N * x.D) := by unfold cmpF; rw [hx, hy, Int.neg_mul]; rfl
  rw [hx] at va
  rw [hy] at vb
  obtain ⟨a1, a2, a3, a4⟩ := va
  obtain ⟨b1, b2, b3, b4⟩ := vb
  have a5 : InR x.D := by unfold InR; omega
  have b5 : InR y.D := by unfold InR; omega
  have b6 := InR_neg.2 b3
  have n1 : IntKind.wrap .i64 (-y.N) = -y.N := w64_R b6
  have S := sumW a3 b5 b6 a5
  have gp1 := good_prod a3 b5
  have gp2 := good_prod b6 a5
  have hs := sign_sum S
  have gT := S.good
  generalize hT : plusW (prodF x.N y.D) (prodF (-y.N) x.D) = T at *
  rw [← hs] at ec
  by_cases ha : ValidF a
  · have hx' : a = x := by rw [← hx]; exact (if_pos ha).symm
    by_cases hb : ValidF b
    · have hy' : b = y := by rw [← hy]; exact (if_pos hb).symm
      subst hx' hy'
      simp [sValidF, sProd, sPlus, sSignW, ha, hb, a3, a5, b3, b5, b6, n1, gp1, gp2, hT, gT, ec]
    · have hy' : F01 = y := by rw [← hy]; exact (if_neg hb).symm
      subst hx' hy'
      simp only [F01, Int.neg_zero] at a3 a5 b3 b5 b6 n1 gp1 gp2 hT
      simp [sValidF, sProd, sPlus, sSignW, ha, hb, a3, a5, b3, b5, b6, n1, gp1, gp2, hT, gT, ec]
  · have hx' : F01 = x := by rw [← hx]; exact (if_neg ha).symm
    by_cases hb : ValidF b
    · have hy' : b = y := by rw [← hy]; exact (if_pos hb).symm
      subst hx' hy'
      simp only [F01, Int.neg_zero] at a3 a5 b3 b5 b6 n1 gp1 gp2 hT
      simp [sValidF, sProd, sPlus, sSignW, ha, hb, a3, a5, b3, b5, b6, n1, gp1, gp2, hT, gT, ec]
    · have hy' : F01 = y := by rw [← hy]; exact (if_neg hb).symm
      subst hx' hy'
      simp only [F01, Int.neg_zero] at a3 a5 b3 b5 b6 n1 gp1 gp2 hT
      simp [sValidF, sProd, sPlus, sSignW, ha, hb, a3, a5, b3, b5, b6, n1, gp1, gp2, hT, gT, ec]
end Go.Proofs.YtfoipbjhaiimlaaDoor

/-
  layer 3, the reference: numbers as fourteen digits to the base 1000, in plain words.
-/
namespace Go.Proofs.YtfoipbjhaiimlaaDoor
open Go.RowKit
set_option linter.unusedSimpArgs false
set_option linter.unusedVariables false

def tab14 (f : Nat → Nat) : List Int := (List.range 14).map fun j => (f j : Int)
theorem tab14_len (f : Nat → Nat) : (tab14 f).length = 14 := by unfold tab14; rw [List.length_map, List.length_range]
theorem tab14_ix (f : Nat → Nat) {j : Nat} (h : j < 14) : ix (tab14 f) j = f j := by
  rw [ix_lt (by rw [tab14_len]; exact h)]
  unfold tab14
  rw [List.getElem_map, List.getElem_range]
theorem tab14_congr {f g : Nat → Nat} (h : ∀ j, j < 14 → f j = g j) : tab14 f = tab14 g := by
  unfold tab14
  refine List.map_congr_left fun j hj => ?_
  rw [h j (List.mem_range.1 hj)]
theorem tab14_set {f g : Nat → Nat} {k : Nat} {v : Int} (hv : v = g k) (h : ∀ j, j < 14 → j ≠ k → g j = f j) : (tab14 f).set k v = tab14 g := by
  refine List.ext_getElem (by rw [List.length_set, tab14_len, tab14_len]) fun j h1 h2 => ?_
  rw [tab14_len] at h2
  rw [List.getElem_set]
  have e1 := tab14_ix g h2
  rw [ix_lt (by rw [tab14_len]; exact h2)] at e1
  have e2 := tab14_ix f h2
  rw [ix_lt (by rw [tab14_len]; exact h2)] at e2
  rw [e1, e2]
  split
  · rename_i h3; subst h3; exact hv
  · rename_i h3; rw [h j h2 (fun e => h3 e.symm)]
theorem tab14_zero : tab14 (fun _ => 0) = List.replicate 14 0 := rfl

/-- The digit at place j. -/
def dgt (n j : Nat) : Nat := n / 1000 ^ j % 1000
def digs (n : Nat) : List Int := tab14 (dgt n)
theorem dgt_lt (n j : Nat) : dgt n j < 1000 := Nat.mod_lt _ (by decide)
theorem up1 (n j : Nat) : n / 1000 ^ j = 1000 * (n / 1000 ^ (j + 1)) + dgt n j := by
  unfold dgt
  rw [Nat.pow_succ, ← Nat.div_div_eq_div_mul]
  omega
def vl : List Int → Nat
  | [] => 0
  | x :: r => x.toNat + 1000 * vl r
def B14 : Nat := 1000000000000000000000000000000000000000000
theorem vl_digs {n : Nat} (h : n < B14) : vl (digs n) = n := by
  have key : ∀ (m k : Nat), vl ((List.range' k m).map fun j => ((dgt n j : Nat) : Int)) + 1000 ^ m * (n / 1000 ^ (k + m)) = n / 1000 ^ k := by
    intro m
    induction m with
    | zero => intro k; simp [vl]
    | succ m ih =>
      intro k
      have h1 := ih (k + 1)
      have h2 := up1 n k
      rw [List.range'_succ, List.map_cons, vl, Int.toNat_natCast, Nat.pow_succ, show k + (m + 1) = k + 1 + m by omega, show 1000 ^ m * 1000 * (n / 1000 ^ (k + 1 + m)) = 1000 * (1000 ^ m * (n / 1000 ^ (k + 1 + m))) by ac_rfl]
      omega
  have h1 := key 14 0
  have z : n / 1000 ^ (0 + 14) = 0 := Nat.div_eq_of_lt (by unfold B14 at h; simpa using h)
  rw [z, Nat.mul_zero, Nat.add_zero, Nat.pow_zero, Nat.div_one, ← List.range_eq_range'] at h1
  exact h1
structure IsD (x : List Int) : Prop where
  eq : x = digs (vl x)
  lt : vl x < B14
theorem isD_digs {n : Nat} (h : n < B14) : IsD (digs n) := ⟨by rw [vl_digs h], by rw [vl_digs h]; exact h⟩
theorem digs_len (n : Nat) : (digs n).length = 14 := tab14_len _
theorem isD_len {x : List Int} (h : IsD x) : x.length = 14 := by rw [h.eq]; exact digs_len _

/-! ### One place, from below -/
theorem place_up {S A c k : Nat} (h : S / 1000 ^ k = c + A) : dgt S k = (c + A) % 1000 ∧ S / 1000 ^ (k + 1) = (c + A) / 1000 := by
  refine ⟨by unfold dgt; rw [h], ?_⟩
  rw [Nat.pow_succ, ← Nat.div_div_eq_div_mul, h]
/-- A product's place. -/
theorem mul_place {S P d c r k : Nat} (h : S / 1000 ^ k = r + P / 1000 ^ k + d * c) : dgt S k = (r + dgt P k + d * (c % 1000)) % 1000 ∧ S / 1000 ^ (k + 1) = (r + dgt P k + d * (c % 1000)) / 1000 + P / 1000 ^ (k + 1) + d * (c / 1000) := by
  have u := up1 P k
  have ec : d * c = 1000 * (d * (c / 1000)) + d * (c % 1000) := by
    have := Nat.div_add_mod c 1000
    calc d * c = d * (1000 * (c / 1000) + c % 1000) := by rw [this]
      _ = _ := by rw [Nat.mul_add]; congr 1; ac_rfl
  have h' : S / 1000 ^ k = 0 + (r + P / 1000 ^ k + d * c) := by omega
  obtain ⟨e1, e2⟩ := place_up h'
  rw [e1, e2]
  generalize d * (c / 1000) = y at *
  generalize d * (c % 1000) = z at *
  generalize P / 1000 ^ (k + 1) = w at *
  omega
theorem add_place {S X Y r k : Nat} (h : S / 1000 ^ k = r + X / 1000 ^ k + Y / 1000 ^ k) : dgt S k = (r + dgt X k + dgt Y k) % 1000 ∧ S / 1000 ^ (k + 1) = (r + dgt X k + dgt Y k) / 1000 + X / 1000 ^ (k + 1) + Y / 1000 ^ (k + 1) := by
  have u := up1 X k
  have v := up1 Y k
  have h' : S / 1000 ^ k = 0 + (r + X / 1000 ^ k + Y / 1000 ^ k) := by omega
  obtain ⟨e1, e2⟩ := place_up h'
  rw [e1, e2]
  generalize X / 1000 ^ (k + 1) = w at *
  generalize Y / 1000 ^ (k + 1) = z at *
  omega
/-- A difference's place; r: nothing borrowed, or one. -/
theorem sub_place {S X Y k : Nat} {r : Int} (hr : r = 0 ∨ r = -1) (h : ((S / 1000 ^ k : Nat) : Int) = r + (X / 1000 ^ k : Nat) - (Y / 1000 ^ k : Nat)) :
    (r + dgt X k - dgt Y k < 0 → (dgt S k : Int) = r + dgt X k - dgt Y k + 1000 ∧ ((S / 1000 ^ (k + 1) : Nat) : Int) = -1 + (X / 1000 ^ (k + 1) : Nat) - (Y / 1000 ^ (k + 1) : Nat)) ∧
    (¬ r + dgt X k - dgt Y k < 0 → (dgt S k : Int) = r + dgt X k - dgt Y k ∧ ((S / 1000 ^ (k + 1) : Nat) : Int) = 0 + (X / 1000 ^ (k + 1) : Nat) - (Y / 1000 ^ (k + 1) : Nat)) := by
  have u := up1 X k
  have v := up1 Y k
  have w := up1 S k
  have a := dgt_lt X k
  have b := dgt_lt Y k
  have c := dgt_lt S k
  omega
/-- A quotient's place, from above. -/
theorem div_place {X d k : Nat} (hd : 0 < d) : (X / 1000 ^ (k + 1) % d * 1000 + dgt X k) / d = dgt (X / d) k ∧ (X / 1000 ^ (k + 1) % d * 1000 + dgt X k) % d = X / 1000 ^ k % d := by
  have u := up1 X k
  have e : X / d / 1000 ^ k = X / 1000 ^ k / d := by rw [Nat.div_div_eq_div_mul, Nat.div_div_eq_div_mul, Nat.mul_comm]
  have a := dgt_lt X k
  unfold dgt at e ⊢
  rw [e]
  unfold dgt at u a
  generalize X / 1000 ^ k = B at *
  generalize X / 1000 ^ (k + 1) = A at *
  generalize B % 1000 = x at *
  have eA := Nat.div_add_mod A d
  have lA := Nat.mod_lt A hd
  have e2 : B = d * (1000 * (A / d)) + (A % d * 1000 + x) := by
    rw [u]
    have : 1000 * A = 1000 * (d * (A / d) + A % d) := by rw [eA]
    rw [this, Nat.mul_add]
    have : 1000 * (d * (A / d)) = d * (1000 * (A / d)) := by ac_rfl
    omega
  have l2 : (A % d * 1000 + x) / d < 1000 := by
    rw [Nat.div_lt_iff_lt_mul hd]
    omega
  rw [e2, Nat.mul_add_div hd, Nat.mul_add_mod]
  generalize (A % d * 1000 + x) / d = z at *
  generalize A / d = y at *
  refine ⟨by omega, ?_⟩
  rw [Nat.mul_add_mod]
end Go.Proofs.YtfoipbjhaiimlaaDoor


/-
  layer 3, the reference: the long product.
-/
namespace Go.Proofs.YtfoipbjhaiimlaaDoor
open Go.RowKit
set_option linter.unusedSimpArgs false
set_option linter.unusedVariables false
set_option maxRecDepth 100000

/-- The digits of S below k, those of P from k on. -/
def mixD (k S P : Nat) : List Int := tab14 fun j => if j < k then dgt S j else dgt P j
theorem mix_len (k S P : Nat) : (mixD k S P).length = 14 := tab14_len _
theorem mix_ix {k S P : Nat} (h : k < 14) : ix (mixD k S P) k = dgt P k := by unfold mixD; rw [tab14_ix _ h, if_neg (Nat.lt_irrefl k)]
theorem mix_set {k S P : Nat} {v : Int} (hv : v = dgt S k) (hk : k < 14) : (mixD k S P).set k v = mixD (k + 1) S P := by
  refine tab14_set (by rw [hv, if_pos (Nat.lt_succ_self k)]) fun j hj hne => ?_
  by_cases h : j < k
  · rw [if_pos h, if_pos (by omega)]
  · rw [if_neg h, if_neg (by omega)]
theorem mix_start {k P d b : Nat} : mixD k (P + d * b * 1000 ^ k) P = digs P := by
  refine tab14_congr fun j hj => ?_
  split
  · rename_i h
    unfold dgt
    have e : 1000 ^ k = 1000 ^ j * (1000 * 1000 ^ (k - j - 1)) := by rw [← Nat.pow_succ', ← Nat.pow_add]; congr 1; omega
    rw [e, show d * b * (1000 ^ j * (1000 * 1000 ^ (k - j - 1))) = 1000 ^ j * (1000 * (d * b * 1000 ^ (k - j - 1))) by ac_rfl, Nat.add_comm, Nat.mul_add_div (Nat.pow_pos (by decide)), Nat.mul_add_mod]
  · rfl
theorem mix_end {k S P : Nat} (h : S / 1000 ^ k = P / 1000 ^ k) : mixD k S P = digs S := by
  refine tab14_congr fun j hj => ?_
  split
  · rfl
  · rename_i h'
    unfold dgt
    have e : ∀ X : Nat, X / 1000 ^ j = X / 1000 ^ k / 1000 ^ (j - k) := fun X => by rw [Nat.div_div_eq_div_mul, ← Nat.pow_add]; congr 2; omega
    rw [e S, e P, h]
theorem digs_zero : digs 0 = List.replicate 14 0 := rfl
structure TimesAt (d b i S P k r c : Nat) : Prop where
  ge : i ≤ k
  val : S / 1000 ^ k = r + P / 1000 ^ k + d * c
  small : r ≤ 1000
  cut : c = b / 1000 ^ (k - i)
theorem times_next {d b i S P k r c : Nat} (hd : d < 1000) (h : TimesAt d b i S P k r c) : dgt S k = (r + dgt P k + d * (c % 1000)) % 1000 ∧ TimesAt d b i S P (k + 1) ((r + dgt P k + d * (c % 1000)) / 1000) (c / 1000) ∧ r + dgt P k + d * (c % 1000) ≤ 1000000 ∧ d * (c % 1000) ≤ 998001 := by
  obtain ⟨e1, e2⟩ := mul_place h.val
  have l1 := dgt_lt P k
  have l2 : d * (c % 1000) ≤ 999 * 999 := Nat.mul_le_mul (by omega) (by omega)
  have l3 := h.small
  have l4 := h.ge
  refine ⟨e1, ⟨by omega, e2, by omega, ?_⟩, by omega, by omega⟩
  rw [h.cut, Nat.div_div_eq_div_mul, ← Nat.pow_succ]
  congr 2
  omega
theorem pow_le_of_div {n k : Nat} (m : Nat) (hn : n < 1000 ^ (m + 1)) (h : 0 < n / 1000 ^ k) : k ≤ m := by
  have l := (Nat.le_div_iff_mul_le (Nat.pow_pos (n := k) (show 0 < 1000 by decide))).1 h
  by_cases hk : k ≤ m
  · exact hk
  · have : 1000 ^ (m + 1) ≤ 1000 ^ k := Nat.pow_le_pow_right (by decide) (by omega)
    omega
theorem times_few {d b i S P k r c : Nat} (hS : S ≤ 1000000000000000000000000000000) (hi : i ≤ 5) (hb : b ≤ 1000000000000000) (h : TimesAt d b i S P k r c) (hc : 0 < c ∨ 0 < r) : k ≤ 10 := by
  have e := h.val
  rcases hc with hc | hc
  · rw [h.cut] at hc
    have := pow_le_of_div 5 (by omega) hc
    have := h.ge
    omega
  · refine pow_le_of_div 10 (by omega) (n := S) ?_
    rw [e]
    generalize P / 1000 ^ k = z
    generalize d * c = y
    omega
theorem gcdR_step (a b : Nat) : (a : Int).tmod b = ((a % b : Nat) : Int) := by
  rw [Int.tmod_eq_emod_of_nonneg (by omega)]
  simp
theorem divR_step (a b : Nat) : (a : Int).tdiv b = ((a / b : Nat) : Int) := by
  rw [Int.tdiv_eq_ediv_of_nonneg (by omega)]
  simp
def quoT (a i : Nat) : Int := ((a / 1000 ^ i : Nat) : Int)
def sTimes : List AV → Option (Prop × AV) := spec2 (fun (a b : Int) => 0 ≤ a ∧ a ≤ 1000000000000000 ∧ 0 ≤ b ∧ b ≤ 1000000000000000) (fun a b => Enc.enc (digs (a.toNat * b.toNat)))
set_option maxHeartbeats 16000000 in
theorem timesR : PureOK Tryd.prog G0 49 sTimes := by
  refine pure2 (C := CE) sigCE mixCE Tryd.func49 rfl rfl rfl (by kernel_rfl) (by decide) (fun a b ⟨a0, a1, b0, b1⟩ => ?_)
  obtain ⟨a, rfl⟩ := Int.eq_ofNat_of_zero_le a0
  obtain ⟨b, rfl⟩ := Int.eq_ofNat_of_zero_le b0
  have ha : a ≤ 1000000000000000 := by omega
  have hb : b ≤ 1000000000000000 := by omega
  have hab : a * b ≤ 1000000000000000000000000000000 := Nat.mul_le_mul (n₂ := 1000000000000000) (m₂ := 1000000000000000) ha hb
  simp
  refine loop_rule (C := CE) sigCE mixCE (fun i : Nat => ⟨[(0, .int .i64 (quoT a i)), (1, .int .i64 b), (5, .own 0 14), (6, .int .i64 i)], [⟨3, 1, encRows (digs (a % 1000 ^ i * b)), true, true⟩]⟩) (fun i => i ≤ 6) (fun i => 6 - i) (by kernel_rfl) ⟨0, by omega, weak_eq (by simp [quoT]) (by simp [digs_zero, Nat.mod_one])⟩ (fun i hi => ?_)
  obtain ⟨x, hx⟩ : ∃ x, a / 1000 ^ i = x := ⟨_, rfl⟩
  rw [show quoT a i = (x : Int) by unfold quoT; rw [hx]]
  by_cases h0 : 0 < x
  case neg =>
    have x0 : ¬ (0 : Int) < (x : Int) := by omega
    have ea : a % 1000 ^ i = a := by
      refine Nat.mod_eq_of_lt ?_
      by_cases h : a < 1000 ^ i
      · exact h
      · have := (Nat.le_div_iff_mul_le (Nat.pow_pos (n := i) (show 0 < 1000 by decide)) (x := 1) (y := a)).2 (by omega)
        omega
    rw [ea]
    simp [h0, digs_len]
  have hi5 : i ≤ 5 := pow_le_of_div (n := a) 5 (by omega) (by rw [hx]; exact h0)
  obtain ⟨P, hP⟩ : ∃ P, a % 1000 ^ i * b = P := ⟨_, rfl⟩
  obtain ⟨d, hd⟩ : ∃ d, x % 1000 = d := ⟨_, rfl⟩
  obtain ⟨x', hx'⟩ : ∃ d, x / 1000 = d := ⟨_, rfl⟩
  have ex' : a / 1000 ^ (i + 1) = x' := by rw [Nat.pow_succ, ← Nat.div_div_eq_div_mul, hx, hx']
  have eS : a % 1000 ^ (i + 1) * b = P + d * b * 1000 ^ i := by
    rw [Nat.mod_pow_succ, hx, hd, Nat.add_mul, hP]
    congr 1
    ac_rfl
  have hd' : d < 1000 := by omega
  have m1 : (x : Int).tmod 1000 = d := by rw [show (1000 : Int) = ((1000 : Nat) : Int) from rfl, gcdR_step, hd]
  have m2 : (x : Int).tdiv 1000 = x' := by rw [show (1000 : Int) = ((1000 : Nat) : Int) from rfl, divR_step, hx']
  have m3 : w64 (x' : Int) = x' := w64_in (by have := Nat.div_le_self a (1000 ^ (i + 1)); unfold I64; omega)
  have hS : P + d * b * 1000 ^ i ≤ 1000000000000000000000000000000 := by
    rw [← eS]
    exact Nat.le_trans (Nat.mul_le_mul_right _ (Nat.mod_le _ _)) hab
  obtain ⟨S, hSe⟩ : ∃ S, P + d * b * 1000 ^ i = S := ⟨_, rfl⟩
  rw [hSe] at eS hS
  have iI : I64 ((i : Int) + 1) := by unfold I64; omega
  simp [hP, h0, m1, m2, m3, digs_len]
  refine loop_rule (C := CE) sigCE mixCE (fun q : Nat × Nat × Nat => ⟨[(0, .int .i64 x'), (1, .int .i64 b), (5, .own 0 14), (6, .int .i64 i), (7, .int .i64 d), (8, .int .i64 q.2.2), (9, .int .i64 q.2.1), (10, .int .i64 q.1)], [⟨3, 1, encRows (mixD q.1 S P), true, true⟩]⟩) (fun q => TimesAt d b i S P q.1 q.2.1 q.2.2) (fun q => 11 - q.1) (by kernel_rfl) ⟨(i, 0, b), ⟨Nat.le_refl i, ?_, Nat.zero_le _, by rw [Nat.sub_self, Nat.pow_zero, Nat.div_one]⟩, weak_eq (by simp) (by rw [← hSe, mix_start])⟩ (fun ⟨k, r, c⟩ H => ?_)
  · simp only
    rw [← hSe, Nat.add_mul_div_right _ _ (Nat.pow_pos (by decide))]
    omega
  simp only at H ⊢
  have hc1 : c ≤ 1000000000000000 := by rw [H.cut]; exact Nat.le_trans (Nat.div_le_self _ _) hb
  by_cases hg : 0 < c ∨ 0 < r
  · obtain ⟨e1, H', l1, l2⟩ := times_next hd' H
    have hk := times_few hS hi5 hb H hg
    have hr := H.small
    have hkl : k < 14 := by omega
    obtain ⟨dg, hdg⟩ : ∃ x, dgt P k = x := ⟨_, rfl⟩
    have ixk : ix (mixD k S P) k = dg := by rw [mix_ix hkl, hdg]
    rw [hdg] at e1 H' l1
    have hkM : k < (mixD k S P).length := by rw [mix_len]; exact hkl
    obtain ⟨y, hy⟩ : ∃ y, c % 1000 = y := ⟨_, rfl⟩
    obtain ⟨c', hc'⟩ : ∃ y, c / 1000 = y := ⟨_, rfl⟩
    rw [hy] at e1 H' l1 l2
    rw [hc'] at H'
    obtain ⟨z, hz⟩ : ∃ z, d * y = z := ⟨_, rfl⟩
    rw [hz] at e1 H' l1 l2
    obtain ⟨t, ht⟩ : ∃ t, r + dg + z = t := ⟨_, rfl⟩
    rw [ht] at e1 H' l1
    have n1 : (c : Int).tmod 1000 = y := by rw [show (1000 : Int) = ((1000 : Nat) : Int) from rfl, gcdR_step, hy]
    have n2 : (c : Int).tdiv 1000 = c' := by rw [show (1000 : Int) = ((1000 : Nat) : Int) from rfl, divR_step, hc']
    have n3 : (t : Int).tmod 1000 = (t % 1000 : Nat) := by rw [show (1000 : Int) = ((1000 : Nat) : Int) from rfl, gcdR_step]
    have n4 : (t : Int).tdiv 1000 = (t / 1000 : Nat) := by rw [show (1000 : Int) = ((1000 : Nat) : Int) from rfl, divR_step]
    have k1 : w64 ((r : Int) + dg) = ((r + dg : Nat) : Int) := by rw [w64_in (by unfold I64; omega)]; omega
    have k2 : w64 ((d : Int) * y) = z := by rw [← Int.natCast_mul, hz]; exact w64_in (by unfold I64; omega)
    have k3 : w64 (((r + dg : Nat) : Int) + z) = t := by rw [w64_in (by unfold I64; omega)]; omega
    have k4 : w64 (c' : Int) = c' := w64_in (by unfold I64; omega)
    obtain ⟨t1, ht1⟩ : ∃ z, t % 1000 = z := ⟨_, rfl⟩
    obtain ⟨t2, ht2⟩ : ∃ z, t / 1000 = z := ⟨_, rfl⟩
    rw [ht1] at n3 e1
    rw [ht2] at n4 H'
    have k5 : w64 (t2 : Int) = t2 := w64_in (by unfold I64; omega)
    have k6 : I64 ((k : Int) + 1) := by unfold I64; omega
    obtain ⟨s0, hs0⟩ : ∃ s, r + dg = s := ⟨_, rfl⟩
    rw [hs0] at k1 k3
    rcases Nat.eq_zero_or_pos c with hc0 | hc0
    · have hr0 : 0 < r := by omega
      have hcn : (0 < c) = False := eq_false (by omega)
      simp [hcn, hr0, hkM, rowAt_enc hkM, ixk, mix_len, hkl, n1, n2, n3, n4, k1, k2, k3, k4, k5, k6]
      refine ⟨by omega, k + 1, t2, c', H', by omega, weak_eq (by simp) (by rw [← e1, mix_set rfl hkl])⟩
    · simp [hc0, hkM, rowAt_enc hkM, ixk, mix_len, hkl, n1, n2, n3, n4, k1, k2, k3, k4, k5, k6]
      refine ⟨by omega, k + 1, t2, c', H', by omega, weak_eq (by simp) (by rw [← e1, mix_set rfl hkl])⟩
  · obtain rfl : c = 0 := by omega
    obtain rfl : r = 0 := by omega
    have eE : mixD k S P = digs S := mix_end (by have := H.val; omega)
    simp [eE, iI]
    exact ⟨i + 1, by omega, by omega, weak_eq (by simp [show quoT a (i + 1) = (x' : Int) by unfold quoT; rw [ex']]) (by rw [eS])⟩
end Go.Proofs.YtfoipbjhaiimlaaDoor


/-
  layer 3, the reference: sums, differences, order and quotients of digits.
-/
namespace Go.Proofs.YtfoipbjhaiimlaaDoor
open Go.RowKit
set_option linter.unusedSimpArgs false
set_option linter.unusedVariables false
set_option maxRecDepth 100000

theorem digs_ix (n : Nat) {j : Nat} (h : j < 14) : ix (digs n) j = dgt n j := tab14_ix _ h
theorem mix_zero (S P : Nat) : mixD 0 S P = digs P := tab14_congr fun j _ => if_neg (Nat.not_lt_zero j)
theorem mix_all (S P : Nat) : mixD 14 S P = digs S := tab14_congr fun j h => if_pos h
def PreAdd (x y : List Int) : Prop := IsD x ∧ IsD y ∧ vl x + vl y < B14
def sPlusR : List AV → Option (Prop × AV) := spec2 PreAdd (fun x y => Enc.enc (digs (vl x + vl y)))
set_option maxHeartbeats 8000000 in
theorem plusR : PureOK Tryd.prog G0 80 sPlusR := by
  refine pure2 (C := CE) sigCE mixCE Tryd.func80 rfl rfl rfl (by kernel_rfl) (by decide) (fun x y ⟨⟨ex, lx⟩, ⟨ey, ly⟩, hl⟩ => ?_)
  generalize vl x = X at *
  generalize vl y = Y at *
  subst ex ey
  obtain ⟨S, hS⟩ : ∃ S, X + Y = S := ⟨_, rfl⟩
  rw [hS]
  simp [digs_len]
  refine loop_rule (C := CE) sigCE mixCE (fun q : Nat × Nat => ⟨[(0, Enc.enc (digs X)), (1, Enc.enc (digs Y)), (5, .own 0 14), (6, .int .i64 q.2), (7, .int .i64 q.1)], [⟨3, 1, encRows (mixD q.1 S 0), true, true⟩]⟩) (fun q => q.1 ≤ 14 ∧ q.2 ≤ 1 ∧ S / 1000 ^ q.1 = q.2 + X / 1000 ^ q.1 + Y / 1000 ^ q.1) (fun q => 14 - q.1) (by kernel_rfl) ⟨(0, 0), ⟨by simp, by simp, by simp [hS]⟩, weak_eq (by simp) (by simp [mix_zero, digs_zero])⟩ (fun ⟨k, r⟩ ⟨hk, hr, hv⟩ => ?_)
  simp only at hk hr hv ⊢
  by_cases hlt : k < 14
  · obtain ⟨e1, e2⟩ := add_place hv
    have x1 := dgt_lt X k
    have y1 := dgt_lt Y k
    have ix1 := digs_ix X hlt
    have ix2 := digs_ix Y hlt
    generalize dgt X k = a at *
    generalize dgt Y k = b at *
    have hXl : k < (digs X).length := by rw [digs_len]; exact hlt
    have hYl : k < (digs Y).length := by rw [digs_len]; exact hlt
    have hMl : k < (mixD k S 0).length := by rw [mix_len]; exact hlt
    obtain ⟨s1, hs1⟩ : ∃ z, r + a = z := ⟨_, rfl⟩
    obtain ⟨s2, hs2⟩ : ∃ z, s1 + b = z := ⟨_, rfl⟩
    rw [hs1, hs2] at e1 e2
    have k1 : w64 ((r : Int) + a) = s1 := by rw [w64_in (by unfold I64; omega)]; omega
    have k2 : w64 ((s1 : Int) + b) = s2 := by rw [w64_in (by unfold I64; omega)]; omega
    have n3 : (s2 : Int).tmod 1000 = (s2 % 1000 : Nat) := by rw [show (1000 : Int) = ((1000 : Nat) : Int) from rfl, gcdR_step]
    have n4 : (s2 : Int).tdiv 1000 = (s2 / 1000 : Nat) := by rw [show (1000 : Int) = ((1000 : Nat) : Int) from rfl, divR_step]
    obtain ⟨t1, ht1⟩ : ∃ z, s2 % 1000 = z := ⟨_, rfl⟩
    obtain ⟨t2, ht2⟩ : ∃ z, s2 / 1000 = z := ⟨_, rfl⟩
    rw [ht1] at n3 e1
    rw [ht2] at n4 e2
    have k5 : w64 (t2 : Int) = t2 := w64_in (by unfold I64; omega)
    have k6 : I64 ((k : Int) + 1) := by unfold I64; omega
    have hlt' : (k : Int) < 14 := by omega
    simp [hlt, hlt', digs_len, hXl, rowAt_enc hXl, hYl, rowAt_enc hYl, hMl, rowAt_enc hMl, mix_len, ix1, ix2, k1, k2, n3, n4, k5, k6]
    exact ⟨k + 1, t2, ⟨by omega, by omega, e2⟩, by omega, weak_eq (by simp) (by rw [← e1, mix_set rfl hlt])⟩
  · have hk14 : k = 14 := by omega
    subst hk14
    simp [digs_len, mix_len, mix_all]
def PreSub (x y : List Int) : Prop := IsD x ∧ IsD y ∧ vl y ≤ vl x
def sMinusR : List AV → Option (Prop × AV) := spec2 PreSub (fun x y => Enc.enc (digs (vl x - vl y)))
set_option maxHeartbeats 8000000 in
theorem minusR : PureOK Tryd.prog G0 82 sMinusR := by
  refine pure2 (C := CE) sigCE mixCE Tryd.func82 rfl rfl rfl (by kernel_rfl) (by decide) (fun x y ⟨⟨ex, lx⟩, ⟨ey, ly⟩, hl⟩ => ?_)
  generalize vl x = X at *
  generalize vl y = Y at *
  subst ex ey
  obtain ⟨S, hS⟩ : ∃ S, X - Y = S := ⟨_, rfl⟩
  rw [hS]
  simp [digs_len]
  refine loop_rule (C := CE) sigCE mixCE (fun q : Nat × Int => ⟨[(0, Enc.enc (digs X)), (1, Enc.enc (digs Y)), (5, .own 0 14), (6, .int .i64 q.2), (7, .int .i64 q.1)], [⟨3, 1, encRows (mixD q.1 S 0), true, true⟩]⟩) (fun q => q.1 ≤ 14 ∧ (q.2 = 0 ∨ q.2 = -1) ∧ ((S / 1000 ^ q.1 : Nat) : Int) = q.2 + (X / 1000 ^ q.1 : Nat) - (Y / 1000 ^ q.1 : Nat)) (fun q => 14 - q.1) (by kernel_rfl) ⟨(0, 0), ⟨by simp, by simp, by simp; omega⟩, weak_eq (by simp) (by simp [mix_zero, digs_zero])⟩ (fun ⟨k, r⟩ ⟨hk, hr, hv⟩ => ?_)
  simp only at hk hr hv ⊢
  by_cases hlt : k < 14
  · obtain ⟨e1, e2⟩ := sub_place hr hv
    have x1 := dgt_lt X k
    have y1 := dgt_lt Y k
    have ix1 := digs_ix X hlt
    have ix2 := digs_ix Y hlt
    generalize dgt X k = a at *
    generalize dgt Y k = b at *
    have hXl : k < (digs X).length := by rw [digs_len]; exact hlt
    have hYl : k < (digs Y).length := by rw [digs_len]; exact hlt
    have hMl : k < (mixD k S 0).length := by rw [mix_len]; exact hlt
    obtain ⟨s1, hs1⟩ : ∃ z, r + (a : Int) = z := ⟨_, rfl⟩
    obtain ⟨s2, hs2⟩ : ∃ z, s1 - (b : Int) = z := ⟨_, rfl⟩
    rw [hs1, hs2] at e1 e2
    have k1 : w64 s1 = s1 := w64_in (by unfold I64; omega)
    have k2 : w64 s2 = s2 := w64_in (by unfold I64; omega)
    have k3 : w64 (s2 + 1000) = s2 + 1000 := w64_in (by unfold I64; omega)
    have k6 : I64 ((k : Int) + 1) := by unfold I64; omega
    have hlt' : (k : Int) < 14 := by omega
    by_cases hneg : s2 < 0
    · obtain ⟨f1, f2⟩ := e1 hneg
      simp [hlt, hlt', digs_len, hXl, rowAt_enc hXl, hYl, rowAt_enc hYl, hMl, rowAt_enc hMl, mix_len, ix1, ix2, hs1, hs2, k1, k2, k3, k6, hneg]
      exact ⟨k + 1, -1, ⟨by omega, by omega, f2⟩, by omega, weak_eq (by simp) (by rw [mix_set f1.symm hlt])⟩
    · obtain ⟨f1, f2⟩ := e2 hneg
      simp [hlt, hlt', digs_len, hXl, rowAt_enc hXl, hYl, rowAt_enc hYl, hMl, rowAt_enc hMl, mix_len, ix1, ix2, hs1, hs2, k1, k2, k3, k6, hneg]
      exact ⟨k + 1, 0, ⟨by omega, by omega, f2⟩, by omega, weak_eq (by simp) (by rw [mix_set f1.symm hlt])⟩
  · have hk14 : k = 14 := by omega
    subst hk14
    simp [digs_len, mix_len, mix_all]
/-! ### From above -/
theorem ord_top {X : Nat} (h : X < B14) : X / 1000 ^ 14 = 0 := Nat.div_eq_of_lt (by unfold B14 at h; simpa using h)
def ordN (X Y : Nat) : Int := if X < Y then -1 else if Y < X then 1 else 0
def PreOrd (x y : List Int) : Prop := IsD x ∧ IsD y
theorem ord_place {X Y k : Nat} (h : X / 1000 ^ (k + 1) = Y / 1000 ^ (k + 1)) : (dgt X k < dgt Y k → X < Y) ∧ (dgt X k = dgt Y k → X / 1000 ^ k = Y / 1000 ^ k) := by
  have u := up1 X k
  have v := up1 Y k
  refine ⟨fun hl => ?_, fun he => by omega⟩
  have h1 : X / 1000 ^ k < Y / 1000 ^ k := by omega
  by_cases hxy : X < Y
  · exact hxy
  · have := Nat.div_le_div_right (c := 1000 ^ k) (show Y ≤ X by omega)
    omega
def sOrdR : List AV → Option (Prop × AV) := spec2 PreOrd (fun x y => .int .i64 (ordN (vl x) (vl y)))
set_option maxHeartbeats 8000000 in
theorem orderR : PureOK Tryd.prog G0 81 sOrdR := by
  refine pure2 (C := CE) sigCE mixCE Tryd.func81 rfl rfl rfl (by kernel_rfl) (by decide) (fun x y ⟨⟨ex, lx⟩, ⟨ey, ly⟩⟩ => ?_)
  generalize vl x = X at *
  generalize vl y = Y at *
  subst ex ey
  have i13 : I64 (13 : Int) := by unfold I64; omega
  simp [digs_len, i13]
  refine loop_rule (C := CE) sigCE mixCE (fun k : Nat => ⟨[(0, Enc.enc (digs X)), (1, Enc.enc (digs Y)), (5, .int .i64 ((k : Int) - 1))], []⟩) (fun k => k ≤ 14 ∧ X / 1000 ^ k = Y / 1000 ^ k) (fun k => k) (by kernel_rfl) ⟨14, ⟨by omega, by rw [ord_top lx, ord_top ly]⟩, weak_eq (by simp) rfl⟩ (fun k ⟨hk, hv⟩ => ?_)
  match k, hk, hv with
  | 0, hk, hv =>
    have e : ordN X Y = 0 := by
      rw [Nat.pow_zero, Nat.div_one, Nat.div_one] at hv
      unfold ordN
      rw [if_neg (by omega), if_neg (by omega)]
    simp [e]
  | k + 1, hk, hv =>
    have hlt : k < 14 := by omega
    obtain ⟨p1, p2⟩ := ord_place hv
    obtain ⟨p3, _⟩ := ord_place hv.symm
    have ix1 := digs_ix X hlt
    have ix2 := digs_ix Y hlt
    generalize dgt X k = a at *
    generalize dgt Y k = b at *
    have hXl : k < (digs X).length := by rw [digs_len]; exact hlt
    have hYl : k < (digs Y).length := by rw [digs_len]; exact hlt
    have q1 : ((k : Int) + 1 - 1) = k := by omega
    have hlt' : (k : Int) < 14 := by omega
    have i1 : I64 ((k : Int) - 1) := by unfold I64; omega
    rcases Nat.lt_trichotomy a b with h | h | h
    · have e : ordN X Y = -1 := by unfold ordN; rw [if_pos (p1 h)]
      simp [q1, hlt, hlt', digs_len, hXl, rowAt_enc hXl, hYl, rowAt_enc hYl, ix1, ix2, h, e]
    · subst h
      simp [q1, hlt, hlt', digs_len, hXl, rowAt_enc hXl, hYl, rowAt_enc hYl, ix1, ix2, i1]
      exact ⟨k, ⟨by omega, p2 rfl⟩, by omega, weak_eq (by simp) rfl⟩
    · have e : ordN X Y = 1 := by unfold ordN; have := p3 h; rw [if_neg (by omega), if_pos this]
      have h' : ¬ a < b := by omega
      simp [q1, hlt, hlt', digs_len, hXl, rowAt_enc hXl, hYl, rowAt_enc hYl, ix1, ix2, h, h', e]
def PreParts (x : List Int) (d : Int) : Prop := IsD x ∧ 0 < d ∧ d ≤ 1000000000000000
def sParts : List AV → Option (Prop × AV) := spec2 PreParts (fun x d => .tup [Enc.enc (digs (vl x / d.toNat)), .int .i64 ((vl x % d.toNat : Nat) : Int)])
/-- The digits of S from k on; nothing below. -/
def hiD (k S : Nat) : List Int := tab14 fun j => if j < k then 0 else dgt S j
theorem hi_len (k S : Nat) : (hiD k S).length = 14 := tab14_len _
theorem hi_ix {k S : Nat} (h : k < 14) : ix (hiD (k + 1) S) k = 0 := by unfold hiD; rw [tab14_ix _ h, if_pos (Nat.lt_succ_self k)]; rfl
theorem hi_set {k S : Nat} {v : Int} (hv : v = dgt S k) (hk : k < 14) : (hiD (k + 1) S).set k v = hiD k S := by
  refine tab14_set (by rw [hv, if_neg (Nat.lt_irrefl k)]) fun j hj hne => ?_
  by_cases h : j < k
  · rw [if_pos h, if_pos (by omega)]
  · rw [if_neg h, if_neg (by omega)]
theorem hi_zero (S : Nat) : hiD 0 S = digs S := tab14_congr fun j _ => if_neg (Nat.not_lt_zero j)
theorem hi_all (S : Nat) : hiD 14 S = List.replicate 14 0 := by rw [← digs_zero]; exact tab14_congr fun j h => by rw [if_pos h]; unfold dgt; simp
set_option maxHeartbeats 8000000 in
theorem partsR : PureOK Tryd.prog G0 51 sParts := by
  refine pure2 (C := CE) sigCE mixCE Tryd.func51 rfl rfl rfl (by kernel_rfl) (by decide) (fun x d ⟨⟨ex, lx⟩, d0, d1⟩ => ?_)
  generalize vl x = X at *
  subst ex
  obtain ⟨d, rfl⟩ := Int.eq_ofNat_of_zero_le (a := d) (by omega)
  have hd : 0 < d := by omega
  have hdn : ¬ d = 0 := by omega
  rw [Int.toNat_natCast]
  have i13 : I64 (13 : Int) := by unfold I64; omega
  simp [digs_len, i13]
  refine loop_rule (C := CE) sigCE mixCE (fun q : Nat × Nat => ⟨[(0, Enc.enc (digs X)), (1, .int .i64 d), (6, .own 0 14), (7, .int .i64 q.2), (8, .int .i64 ((q.1 : Int) - 1))], [⟨3, 1, encRows (hiD q.1 (X / d)), true, true⟩]⟩) (fun q => q.1 ≤ 14 ∧ q.2 = X / 1000 ^ q.1 % d) (fun q => q.1) (by kernel_rfl) ⟨(14, 0), ⟨by simp, by rw [ord_top lx]; simp⟩, weak_eq (by simp) (by simp [hi_all])⟩ (fun ⟨k, r⟩ ⟨hk, hv⟩ => ?_)
  simp only at hk hv ⊢
  match k, hk, hv with
  | 0, hk, hv =>
    rw [Nat.pow_zero, Nat.div_one] at hv
    simp [hi_zero, digs_len, hv]
  | k + 1, hk, hv =>
    have hlt : k < 14 := by omega
    obtain ⟨p1, p2⟩ := div_place (X := X) (k := k) hd
    rw [← hv] at p1 p2
    have hr : r < d := by rw [hv]; exact Nat.mod_lt _ hd
    have x1 := dgt_lt X k
    have ix1 := digs_ix X hlt
    have ix3 := hi_ix (S := X / d) hlt
    generalize dgt X k = a at *
    have hXl : k < (digs X).length := by rw [digs_len]; exact hlt
    have hMl : k < (hiD (k + 1) (X / d)).length := by rw [hi_len]; exact hlt
    have q1 : ((k : Int) + 1 - 1) = k := by omega
    have hlt' : (k : Int) < 14 := by omega
    have i1 : I64 ((k : Int) - 1) := by unfold I64; omega
    obtain ⟨s, hs⟩ : ∃ z, r * 1000 + a = z := ⟨_, rfl⟩
    rw [hs] at p1 p2
    have k1 : w64 ((r : Int) * 1000) = ((r * 1000 : Nat) : Int) := by rw [w64_in (by unfold I64; omega)]; omega
    have k2 : w64 (((r * 1000 : Nat) : Int) + a) = s := by rw [w64_in (by unfold I64; omega)]; omega
    obtain ⟨r1, hr1⟩ : ∃ z, r * 1000 = z := ⟨_, rfl⟩
    rw [hr1] at k1 k2
    have n3 : (s : Int).tmod d = (s % d : Nat) := gcdR_step s d
    have n4 : (s : Int).tdiv d = (s / d : Nat) := divR_step s d
    have l4 := Nat.div_le_self s d
    rw [p1] at n4 l4
    rw [p2] at n3
    obtain ⟨t1, ht1⟩ : ∃ z, dgt (X / d) k = z := ⟨_, rfl⟩
    obtain ⟨t2, ht2⟩ : ∃ z, X / 1000 ^ k % d = z := ⟨_, rfl⟩
    rw [ht1] at n4 l4
    rw [ht2] at n3
    have n5 : (s : Int) % d = t2 := by rw [← n3, Int.tmod_eq_emod_of_nonneg (by omega)]
    have n6 : (s : Int) / d = t1 := by rw [← n4, Int.tdiv_eq_ediv_of_nonneg (by omega)]
    have k5 : w64 (t1 : Int) = t1 := w64_in (by unfold I64; omega)
    simp [q1, hlt, hlt', digs_len, hXl, rowAt_enc hXl, hMl, rowAt_enc hMl, hi_len, ix1, ix3, k1, k2, n3, n4, n5, n6, k5, i1, hdn]
    exact ⟨k, t2, ⟨by omega, ht2.symm⟩, by omega, weak_eq (by simp) (by rw [hi_set (by rw [ht1]) hlt])⟩
def PreNarrow (x : List Int) : Prop := IsD x
def narI (X : Nat) : Int × Bool := if X ≤ 1000000000000000 then (X, true) else (0, false)
def sNarrow : List AV → Option (Prop × AV) := spec1 PreNarrow (fun x => .tup [.int .i64 (narI (vl x)).1, .bool (narI (vl x)).2])
set_option maxHeartbeats 8000000 in
theorem narrowR : PureOK Tryd.prog G0 52 sNarrow := by
  refine pure1 (C := CE) sigCE mixCE Tryd.func52 rfl rfl rfl (by kernel_rfl) (by decide) (fun x ⟨ex, lx⟩ => ?_)
  generalize vl x = X at *
  subst ex
  have i13 : I64 (13 : Int) := by unfold I64; omega
  simp [digs_len, i13]
  refine loop_rule (C := CE) sigCE mixCE (fun q : Nat × Nat => ⟨[(0, Enc.enc (digs X)), (4, .int .i64 q.2), (5, .int .i64 ((q.1 : Int) - 1))], []⟩) (fun q => q.1 ≤ 14 ∧ q.2 = X / 1000 ^ q.1 ∧ q.2 ≤ 1000000000000999) (fun q => q.1) (by kernel_rfl) ⟨(14, 0), ⟨by simp, by rw [ord_top lx], by simp⟩, weak_eq (by simp) rfl⟩ (fun ⟨k, r⟩ ⟨hk, hv, hr⟩ => ?_)
  simp only at hk hv hr ⊢
  match k, hk, hv with
  | 0, hk, hv =>
    rw [Nat.pow_zero, Nat.div_one] at hv
    subst hv
    by_cases h : 1000000000000000 < r
    · have h' : (1000000000000000 : Int) < r := by omega
      have e : narI r = (0, false) := if_neg (by omega)
      simp [h', e]
    · have h' : ¬ (1000000000000000 : Int) < r := by omega
      have e : narI r = ((r : Int), true) := if_pos (by omega)
      simp [h', e]
  | k + 1, hk, hv =>
    have hlt : k < 14 := by omega
    have u := up1 X k
    rw [← hv] at u
    have x1 := dgt_lt X k
    have ix1 := digs_ix X hlt
    generalize dgt X k = a at *
    have hXl : k < (digs X).length := by rw [digs_len]; exact hlt
    have q1 : ((k : Int) + 1 - 1) = k := by omega
    have hlt' : (k : Int) < 14 := by omega
    have i1 : I64 ((k : Int) - 1) := by unfold I64; omega
    by_cases hb : 1000000000000 < r
    · have hb' : (1000000000000 : Int) < r := by omega
      have e : narI X = (0, false) := if_neg (by
        have h1 : X / 1000 ^ k ≤ X := Nat.div_le_self _ _
        omega)
      simp [q1, hb', e]
    · have hb' : ¬ (1000000000000 : Int) < r := by omega
      obtain ⟨s, hs⟩ : ∃ z, r * 1000 + a = z := ⟨_, rfl⟩
      have k1 : w64 ((r : Int) * 1000) = ((r * 1000 : Nat) : Int) := by rw [w64_in (by unfold I64; omega)]; omega
      have k2 : w64 (((r * 1000 : Nat) : Int) + a) = s := by rw [w64_in (by unfold I64; omega)]; omega
      obtain ⟨r1, hr1⟩ : ∃ z, r * 1000 = z := ⟨_, rfl⟩
      rw [hr1] at k1 k2
      simp [q1, hb', hlt, hlt', digs_len, hXl, rowAt_enc hXl, ix1, k1, k2, i1]
      exact ⟨k, s, ⟨by omega, by omega, by omega⟩, by omega, weak_eq (by simp) rfl⟩
end Go.Proofs.YtfoipbjhaiimlaaDoor


/-
  layer 3, the reference: sums with signs; validity.
-/
namespace Go.Proofs.YtfoipbjhaiimlaaDoor
open Go.RowKit
set_option linter.unusedSimpArgs false
set_option linter.unusedVariables false
set_option maxRecDepth 100000

def sGcdR : List AV → Option (Prop × AV) := spec2 (fun (a b : Int) => 0 ≤ a ∧ 0 ≤ b ∧ b ≤ 1000000000000000) (fun a b => .int .i64 (Int.gcd a b))
theorem gcdR : PureOK Tryd.prog G0 46 sGcdR := by
  refine pure2 (C := CE) sigCE mixCE Tryd.func46 rfl rfl rfl (by kernel_rfl) (by decide) (fun a b ⟨a0, b0, b1⟩ => ?_)
  simp
  refine loop_rule (C := CE) sigCE mixCE (fun q : Int × Int => ⟨[(0, .int .i64 q.1), (1, .int .i64 q.2)], []⟩) (fun q => 0 ≤ q.1 ∧ 0 ≤ q.2 ∧ q.2 ≤ 1000000000000000 ∧ Int.gcd q.1 q.2 = Int.gcd a b) (fun q => q.2.toNat) (by kernel_rfl) ⟨(a, b), ⟨a0, b0, b1, rfl⟩, weak_slots (by simp)⟩ (fun ⟨u, v⟩ ⟨p1, p2, p3, p4⟩ => ?_)
  simp only at p1 p2 p3 p4 ⊢
  by_cases hv' : 0 < v
  · have hv : ¬ v = 0 := by omega
    have m1 := Int.emod_nonneg u hv
    have m2 := Int.emod_lt_of_pos u hv'
    have m3 := gcd_step hv' p1
    rw [Int.tmod_eq_emod_of_nonneg p1] at m3
    have e3 := Int.tmod_eq_emod_of_nonneg (b := v) p1
    simp [hv, hv', e3]
    exact ⟨v, u % v, ⟨p2, m1, by omega, by omega⟩, by omega, weak_slots (by simp)⟩
  · obtain rfl : v = 0 := by omega
    rw [Int.gcd_zero_right] at p4
    have e2 : u = Int.gcd a b := by omega
    simp [e2]
theorem sizeR : PureOK Tryd.prog G0 50 sAbs := by
  refine pure1 (C := CE) sigCE mixCE Tryd.func50 rfl rfl rfl (by kernel_rfl) (by decide) (fun n h => ?_)
  have h' := h
  unfold InR at h
  by_cases h1 : n < 0
  · have e := absI_neg (n := n) (by omega)
    have i1 : IntKind.wrap .i64 (-n) = -n := IntWalk.i64_in _ (by omega)
    simp [e, i1, h1]
  · have e := absI_pos (n := n) (by omega)
    simp [e, h1]
def sSgn : List AV → Option (Prop × AV) := spec1 (fun (_ : Int) => True) (fun n => .int .i64 (sgn n))
theorem signR : PureOK Tryd.prog G0 48 sSgn := by
  refine pure1 (C := CE) sigCE mixCE Tryd.func48 rfl rfl rfl (by kernel_rfl) (by decide) (fun n _ => ?_)
  by_cases h1 : n < 0
  · simp [sgn, h1]
  · by_cases h2 : 0 < n
    · simp [sgn, h1, h2]
    · simp [sgn, h1, h2]
noncomputable def CVR : Ctx := mkC Tryd.prog G0 [(50, .pure sAbs), (46, .pure sGcdR)]
@[simp] theorem CVR_P : CVR.P = Tryd.prog := rfl
@[simp] theorem CVR_G : CVR.G = G0 := rfl
@[simp] theorem CVR_1 : CVR.S 50 = .pure sAbs := rfl
@[simp] theorem CVR_2 : CVR.S 46 = .pure sGcdR := rfl
theorem mixCVR : CVR.P.follows .mixedOrders = true := mixed
theorem sigCVR : SigOK CVR := sigOK_cons (entryPure (sizeR) Tryd.func50 rfl (by decide)) (sigOK_cons (entryPure (gcdR) Tryd.func46 rfl (by decide)) (sigOK_nil _ _))
theorem gcd_absI (a b : Int) : Int.gcd (absI a) b = Int.gcd a b := by unfold absI Int.gcd; rw [Int.natAbs_natCast]
set_option maxHeartbeats 4000000 in
theorem validR : PureOK Tryd.prog G0 29 sValidF := by
  refine pure1 (C := CVR) sigCVR mixCVR Tryd.func29 rfl rfl rfl (by kernel_rfl) (by decide) (fun a _ => ?_)
  obtain ⟨n, d⟩ := a
  by_cases h1 : 1 ≤ d
  case neg => simp [h1, ValidF]
  by_cases h2 : d ≤ 1000000000000000
  case neg => simp [h1, h2, ValidF]
  by_cases h3 : -1000000000000000 ≤ n
  case neg => simp [h1, h2, h3, ValidF, InR]
  by_cases h4 : n ≤ 1000000000000000
  case neg => simp [h1, h2, h3, h4, ValidF, InR]
  have hR : InR n := ⟨h3, h4⟩
  have e2 : ((Int.gcd n d : Nat) : Int) = 1 ↔ Int.gcd n d = 1 := by omega
  have a0 := absI_nn n
  have d0 : 0 ≤ d := by omega
  simp [sAbs, sGcdR, h1, h2, h3, h4, hR, a0, d0, gcd_absI, e2, ValidF]

def IsSgn (s : Int) (n : Nat) : Prop := (s = 0 ∧ n = 0) ∨ ((s = 1 ∨ s = -1) ∧ 0 < n)
structure PreSum (s : Int) (x : List Int) (t : Int) (y : List Int) : Prop where
  hx : IsD x
  hy : IsD y
  hs : IsSgn s (vl x)
  ht : IsSgn t (vl y)
  lt : vl x + vl y < B14
def sumV (s : Int) (x : List Int) (t : Int) (y : List Int) : Int := s * vl x + t * vl y
def sSumR : List AV → Option (Prop × AV) := spec4 PreSum (fun s x t y => .tup [.int .i64 (sgn (sumV s x t y)), Enc.enc (digs (sumV s x t y).natAbs)])
noncomputable def CSm : Ctx := mkC Tryd.prog G0 [(80, .frz sPlusR), (81, .pure sOrdR), (82, .pure sMinusR)]
@[simp] theorem CSm_P : CSm.P = Tryd.prog := rfl
@[simp] theorem CSm_G : CSm.G = G0 := rfl
@[simp] theorem CSm_1 : CSm.S 80 = .frz sPlusR := rfl
@[simp] theorem CSm_2 : CSm.S 81 = .pure sOrdR := rfl
@[simp] theorem CSm_3 : CSm.S 82 = .pure sMinusR := rfl
theorem mixCSm : CSm.P.follows .mixedOrders = true := mixed
theorem sigCSm : SigOK CSm := sigOK_cons (entryFrz (plusR) Tryd.func80 rfl (by decide)) (sigOK_cons (entryPure (orderR) Tryd.func81 rfl (by decide)) (sigOK_cons (entryPure (minusR) Tryd.func82 rfl (by decide)) (sigOK_nil _ _)))
def Z14 (H : List Blk) (i : Nat) : Prop := ∃ mu, H[i]? = some ⟨3, 1, encRows (digs 0), mu, true⟩
structure JSum (L : Nat → Bool) (st : ASt) : Prop where
  v0 : L 0 = true → ∃ i, getA st.ρ 31 = .own i 14 ∧ Z14 st.H i
  v1 : L 1 = true → ∃ i, getA st.ρ 32 = .own i 14 ∧ Z14 st.H i
  v2 : L 2 = true → getA st.ρ 33 = .slice 1 false (encRows (digs 0))
  v3 : L 3 = true → getA st.ρ 8 = .int .i64 0
  v4 : L 4 = true → getA st.ρ 9 = .slice 1 false (encRows (digs 0))
theorem Z14.snoc {H : List Blk} {i : Nat} (h : Z14 H i) (b : Blk) : Z14 (H ++ [b]) i := by
  obtain ⟨mu, h⟩ := h
  exact ⟨mu, by rw [List.getElem?_append_left (List.getElem?_eq_some_iff.1 h).1]; exact h⟩
theorem Z14.new (H : List Blk) : Z14 (H ++ [⟨3, 1, encRows (digs 0), true, true⟩]) H.length := ⟨true, by simp⟩
theorem Z14.frz {H : List Blk} {i : Nat} (h : Z14 H i) (ls : List Nat) : Z14 (frzL ls 0 H) i := by
  obtain ⟨mu, h⟩ := h
  unfold Z14
  rw [frzL_get, h]
  simp only [Option.map_some, Nat.zero_add]
  split
  · exact ⟨false, rfl⟩
  · exact ⟨mu, rfl⟩
theorem sgn_mul {s : Int} {n : Nat} (h : IsSgn s n) : s * n = if s = 0 then 0 else if s = 1 then (n : Int) else -(n : Int) := by
  rcases h with ⟨rfl, rfl⟩ | ⟨rfl | rfl, h⟩
  · rfl
  · simp
  · simp
set_option maxHeartbeats 8000000 in
theorem sumR : PureOK Tryd.prog G0 47 sSumR := by
  refine pureH4 (C := CSm) sigCSm mixCSm Tryd.func47 rfl rfl rfl [7] (by kernel_rfl) (by decide) (fun s x t y H => ?_)
  have hV : sumV s x t y = (if s = 0 then 0 else if s = 1 then (vl x : Int) else -(vl x : Int)) + (if t = 0 then 0 else if t = 1 then (vl y : Int) else -(vl y : Int)) := by unfold sumV; rw [sgn_mul H.hs, sgn_mul H.ht]
  have hx := H.hx
  have hy := H.hy
  have hs := H.hs
  have ht := H.ht
  have hlt := H.lt
  have pa : PreAdd x y := ⟨hx, hy, hlt⟩
  have po : PreOrd x y := ⟨hx, hy⟩
  rcases em2 (s = t) with h1 | h1
  · have e : sumV s x t y = s * ((vl x + vl y : Nat) : Int) := by unfold sumV; rw [← of_eq_true h1, Int.natCast_add, Int.mul_add]
    have e1 : sgn (sumV s x t y) = s ∧ (sumV s x t y).natAbs = vl x + vl y := by
      rw [e]
      rcases hs with ⟨rfl, h⟩ | ⟨rfl | rfl, h⟩
      · have := of_eq_true h1
        rcases ht with ⟨_, h'⟩ | ⟨h' | h', _⟩
        · rw [h, h']; exact ⟨rfl, rfl⟩
        · omega
        · omega
      · unfold sgn; refine ⟨?_, by omega⟩; rw [if_neg (by omega), if_pos (by omega)]
      · unfold sgn; refine ⟨?_, by omega⟩; rw [if_pos (by omega)]
    simp [h1, sPlusR, pa, e1]
  have h1' := of_eq_false h1
  rcases em2 (t = 0) with h2 | h2
  · have e1 : sgn (sumV s x t y) = s ∧ (sumV s x t y).natAbs = vl x + vl y := by
      have ht0 := of_eq_true h2
      have hy0 : vl y = 0 := by rcases ht with ⟨_, h⟩ | ⟨h, _⟩ <;> omega
      rw [hV, if_pos ht0, hy0]
      rcases hs with ⟨rfl, h⟩ | ⟨rfl | rfl, h⟩
      · exact absurd ht0.symm h1'
      · refine ⟨?_, by simp⟩
        simp [sgn]
        omega
      · refine ⟨?_, by simp⟩
        simp [sgn]
        omega
    simp [h1, h2, sPlusR, pa, e1]
  have h2' := of_eq_false h2
  rcases em2 (s = 0) with h3 | h3
  · have e1 : sgn (sumV s x t y) = t ∧ (sumV s x t y).natAbs = vl y := by
      have hs0 := of_eq_true h3
      have hx0 : vl x = 0 := by rcases hs with ⟨_, h⟩ | ⟨h, _⟩ <;> omega
      rw [hV, if_pos hs0]
      rcases ht with ⟨rfl, h⟩ | ⟨rfl | rfl, h⟩
      · exact absurd rfl h2'
      · refine ⟨?_, by simp⟩
        simp [sgn]
        omega
      · refine ⟨?_, by simp⟩
        simp [sgn]
        omega
    have e2 : digs (vl y) = y := hy.eq.symm
    simp [h1, h2, h3, e1, e2]
  have h3' := of_eq_false h3
  have hst : t = -s ∧ (s = 1 ∨ s = -1) := by
    rcases hs with ⟨h, _⟩ | ⟨h, _⟩ <;> rcases ht with ⟨h', _⟩ | ⟨h', _⟩ <;> omega
  have e0 : sumV s x t y = s * ((vl x : Int) - vl y) := by unfold sumV; rw [hst.1, Int.mul_sub, Int.neg_mul]; omega
  rcases Nat.lt_trichotomy (vl x) (vl y) with hc | hc | hc
  · have eo : ordN (vl x) (vl y) = -1 := by unfold ordN; rw [if_pos hc]
    have e1 : sgn (sumV s x t y) = t ∧ (sumV s x t y).natAbs = vl y - vl x := by
      rw [e0, hst.1]
      rcases hst.2 with rfl | rfl
      · refine ⟨?_, by omega⟩; unfold sgn; rw [if_pos (by omega)]
      · refine ⟨?_, by omega⟩; unfold sgn; rw [if_neg (by omega), if_pos (by omega)]; rfl
    have ps : PreSub y x := ⟨hy, hx, by omega⟩
    simp [h1, h2, h3, sOrdR, sMinusR, po, ps, eo, e1]
  · have eo : ordN (vl x) (vl y) = 0 := by unfold ordN; rw [if_neg (by omega), if_neg (by omega)]
    have e1 : sgn (sumV s x t y) = 0 ∧ (sumV s x t y).natAbs = 0 := by
      rw [e0, hc, Int.sub_self, Int.mul_zero]
      exact ⟨rfl, rfl⟩
    have hz : vl (digs 0) = 0 := vl_digs (by decide)
    have pz : PreAdd (digs 0) (digs 0) := ⟨isD_digs (by decide), isD_digs (by decide), by rw [hz]; decide⟩
    simp [h1, h2, h3, sOrdR, po, eo, e1]
    refine AW_region sigCSm mixCSm [[], [], [0, 1], [2], [2, 3, 0, 1, 2, 3]] (by kernel_rfl) (by kernel_rfl) JSum ?_ ?_ ?_ ?_
    · exact ⟨fun h => by simp at h, fun h => by simp at h, fun h => by simp at h, fun h => by simp at h, fun h => by simp at h⟩
    · intro k o ho L st' hI hLi hd
      obtain ⟨ρ, H⟩ := st'
      match k, ho with
      | 0, ho =>
        have ho := Option.some.inj ho
        subst ho
        simp
        refine ⟨fun _ => ⟨H.length, by simp, ⟨true, by simp [digs_zero]⟩⟩, fun h => ?_, fun h => by simpa using hI.v2 (by simpa using h), fun h => by simpa using hI.v3 (by simpa using h), fun h => by simpa using hI.v4 (by simpa using h)⟩
        obtain ⟨i, q1, q2⟩ := hI.v1 (by simpa using h)
        exact ⟨i, by simpa using q1, q2.snoc _⟩
      | 1, ho =>
        have ho := Option.some.inj ho
        subst ho
        simp
        refine ⟨fun h => ?_, fun _ => ⟨H.length, by simp, ⟨true, by simp [digs_zero]⟩⟩, fun h => by simpa using hI.v2 (by simpa using h), fun h => by simpa using hI.v3 (by simpa using h), fun h => by simpa using hI.v4 (by simpa using h)⟩
        obtain ⟨i, q1, q2⟩ := hI.v0 (by simpa using h)
        exact ⟨i, by simpa using q1, q2.snoc _⟩
      | 2, ho =>
        have ho := Option.some.inj ho
        subst ho
        obtain ⟨i, q1, m1, q2⟩ := hI.v0 (hd 0 (by simp))
        obtain ⟨j, q3, m2, q4⟩ := hI.v1 (hd 1 (by simp))
        simp at q1 q2 q3 q4
        simp [q1, q2, q3, q4, digs_len, sPlusR, pz, hz]
        exact ⟨fun h => ⟨i, by simpa using q1, Z14.frz ⟨m1, q2⟩ _⟩, fun h => ⟨j, by simpa using q3, Z14.frz ⟨m2, q4⟩ _⟩, fun h => by simp, fun h => by simpa using hI.v3 (by simpa using h), fun h => by simpa using hI.v4 (by simpa using h)⟩
      | 3, ho =>
        have ho := Option.some.inj ho
        subst ho
        simp
        refine ⟨fun h => ?_, fun h => ?_, fun h => by simpa using hI.v2 (by simpa using h), fun h => by simp, fun h => by simpa using hI.v4 (by simpa using h)⟩
        · obtain ⟨i, q1, q2⟩ := hI.v0 (by simpa using h)
          exact ⟨i, by simpa using q1, q2⟩
        · obtain ⟨i, q1, q2⟩ := hI.v1 (by simpa using h)
          exact ⟨i, by simpa using q1, q2⟩
      | 4, ho =>
        have ho := Option.some.inj ho
        subst ho
        have q := hI.v2 (hd 2 (by simp))
        simp at q
        simp [q]
        refine ⟨fun h => ?_, fun h => ?_, fun h => by simpa using hI.v2 (by simpa using h), fun h => by simpa using hI.v3 (by simpa using h), fun h => by simp⟩
        · obtain ⟨i, q1, q2⟩ := hI.v0 (by simpa using h)
          exact ⟨i, by simpa using q1, q2⟩
        · obtain ⟨i, q1, q2⟩ := hI.v1 (by simpa using h)
          exact ⟨i, by simpa using q1, q2⟩
      | k + 5, ho => simp at ho
    · intro L st' hI hall
      obtain ⟨ρ, H⟩ := st'
      have q1 := hI.v3 (hall 3 (by decide))
      have q2 := hI.v4 (hall 4 (by decide))
      simp at q1 q2
      simp [q1, q2]
    · intro L L' st' he hI
      exact ⟨fun h => hI.v0 (by rw [he]; exact h), fun h => hI.v1 (by rw [he]; exact h), fun h => hI.v2 (by rw [he]; exact h), fun h => hI.v3 (by rw [he]; exact h), fun h => hI.v4 (by rw [he]; exact h)⟩
  · have eo : ordN (vl x) (vl y) = 1 := by unfold ordN; rw [if_neg (by omega), if_pos hc]
    have e1 : sgn (sumV s x t y) = s ∧ (sumV s x t y).natAbs = vl x - vl y := by
      rw [e0]
      rcases hst.2 with rfl | rfl
      · refine ⟨?_, by omega⟩; unfold sgn; rw [if_neg (by omega), if_pos (by omega)]
      · refine ⟨?_, by omega⟩; unfold sgn; rw [if_pos (by omega)]
    have ps : PreSub x y := ⟨hx, hy, by omega⟩
    simp [h1, h2, h3, sOrdR, sMinusR, po, ps, eo, e1]
end Go.Proofs.YtfoipbjhaiimlaaDoor


/-
  layer 3, the reference: sums, products, quotients and order of fractions.
-/
namespace Go.Proofs.YtfoipbjhaiimlaaDoor
open Go.RowKit
set_option linter.unusedSimpArgs false
set_option linter.unusedVariables false
set_option maxRecDepth 100000

noncomputable def CFR : Ctx := mkC Tryd.prog G0 [(29, .pure sValidF), (50, .pure sAbs), (46, .pure sGcdR), (48, .pure sSgn), (49, .pure sTimes), (52, .pure sNarrow), (47, .pure sSumR), (51, .pure sParts)]
@[simp] theorem CFR_P : CFR.P = Tryd.prog := rfl
@[simp] theorem CFR_G : CFR.G = G0 := rfl
@[simp] theorem CFR_1 : CFR.S 29 = .pure sValidF := rfl
@[simp] theorem CFR_2 : CFR.S 50 = .pure sAbs := rfl
@[simp] theorem CFR_3 : CFR.S 46 = .pure sGcdR := rfl
@[simp] theorem CFR_4 : CFR.S 48 = .pure sSgn := rfl
@[simp] theorem CFR_5 : CFR.S 49 = .pure sTimes := rfl
@[simp] theorem CFR_6 : CFR.S 52 = .pure sNarrow := rfl
@[simp] theorem CFR_7 : CFR.S 47 = .pure sSumR := rfl
@[simp] theorem CFR_8 : CFR.S 51 = .pure sParts := rfl
theorem mixCFR : CFR.P.follows .mixedOrders = true := mixed
theorem sigCFR : SigOK CFR := sigOK_cons (entryPure (validR) Tryd.func29 rfl (by decide)) (sigOK_cons (entryPure (sizeR) Tryd.func50 rfl (by decide)) (sigOK_cons (entryPure (gcdR) Tryd.func46 rfl (by decide)) (sigOK_cons (entryPure (signR) Tryd.func48 rfl (by decide)) (sigOK_cons (entryPure (timesR) Tryd.func49 rfl (by decide)) (sigOK_cons (entryPure (narrowR) Tryd.func52 rfl (by decide)) (sigOK_cons (entryPure (sumR) Tryd.func47 rfl (by decide)) (sigOK_cons (entryPure (partsR) Tryd.func51 rfl (by decide)) (sigOK_nil _ _))))))))
theorem B14_big {n : Nat} (h : n ≤ 4000000000000000000000000000000) : n < B14 := by unfold B14; omega
theorem times_B {a b : Int} (ha : 0 ≤ a ∧ a ≤ 1000000000000000) (hb : 0 ≤ b ∧ b ≤ 1000000000000000) : a.toNat * b.toNat ≤ 1000000000000000000000000000000 := Nat.mul_le_mul (n₂ := 1000000000000000) (m₂ := 1000000000000000) (by omega) (by omega)
theorem nar_in {X : Nat} : narI X = if InR (X : Int) then ((X : Int), true) else (0, false) := by
  unfold narI
  have : X ≤ 1000000000000000 ↔ InR (X : Int) := by unfold InR; omega
  by_cases h : X ≤ 1000000000000000
  · rw [if_pos h, if_pos (this.1 h)]
  · rw [if_neg h, if_neg (mt this.2 h)]
theorem tdivN {a : Int} {g : Nat} (h : 0 ≤ a) : a.tdiv g = ((a.toNat / g : Nat) : Int) := by
  obtain ⟨n, rfl⟩ := Int.eq_ofNat_of_zero_le h
  rw [divR_step, Int.toNat_natCast]
theorem sgn_abs (n : Int) : sgn n * absI n = n := by
  unfold sgn absI
  split
  · omega
  · split <;> omega
theorem sgn_tdiv (n : Int) (g : Nat) : sgn n * (absI n).tdiv g = n.tdiv g := by
  by_cases h : n < 0
  · rw [absI_neg (by omega), Int.neg_tdiv]
    unfold sgn
    rw [if_pos h]
    omega
  · rw [absI_pos (by omega)]
    unfold sgn
    by_cases h0 : 0 < n
    · rw [if_neg h, if_pos h0]; omega
    · obtain rfl : n = 0 := by omega
      simp
theorem sgn_R (n : Int) : sgn n = -1 ∨ sgn n = 0 ∨ sgn n = 1 := by
  unfold sgn
  split
  · exact .inl rfl
  · split
    · exact .inr (.inr rfl)
    · exact .inr (.inl rfl)
theorem tdiv_nn {a : Int} {g : Nat} (h : 0 ≤ a ∧ a ≤ 1000000000000000) : 0 ≤ a.tdiv g ∧ a.tdiv g ≤ 1000000000000000 := by
  rw [tdivN h.1]
  have := Nat.div_le_self a.toNat g
  generalize a.toNat / g = z at *
  omega
theorem sig_in {s z : Int} (hs : s = -1 ∨ s = 0 ∨ s = 1) (hz : s = 0 → z = 0) : InR (s * z) ↔ InR z := by
  unfold InR
  rcases hs with rfl | rfl | rfl
  · omega
  · rw [hz rfl]; simp
  · omega
theorem sig_rng {s z y : Int} (hs : s = -1 ∨ s = 0 ∨ s = 1) (hz : s = 0 → z = 0) : rngF (s * z) y = if InR z ∧ InR y then (⟨s * z, y⟩, true) else (F00, false) := by
  unfold rngF
  have := sig_in hs hz
  by_cases h : InR z <;> by_cases h' : InR y <;> simp [this, h, h']
theorem sgn_mul_R (a b : Int) : sgn a * sgn b = -1 ∨ sgn a * sgn b = 0 ∨ sgn a * sgn b = 1 := by
  rcases sgn_R a with h | h | h <;> rcases sgn_R b with h' | h' | h' <;> rw [h, h'] <;> decide
theorem sgn_zero {a : Int} (h : sgn a = 0) : a = 0 := by
  unfold sgn at h
  split at h
  · omega
  · split at h
    · omega
    · omega
set_option maxHeartbeats 8000000 in
theorem mulR : PureOK Tryd.prog G0 84 sMulF := by
  refine pure2 (C := CFR) sigCFR mixCFR Tryd.func84 rfl rfl rfl (by kernel_rfl) (by decide) (fun a b _ => ?_)
  by_cases ha : ValidF a
  case neg =>
    have e := mulF_no (a := a) (b := b) (fun h => ha h.1)
    simp [sValidF, ha, e, F00]
  by_cases hb : ValidF b
  case neg =>
    have e := mulF_no (a := a) (b := b) (fun h => hb h.2)
    simp [sValidF, ha, hb, e, F00]
  have e := mul_parts ha hb
  have ha' := ha
  have hb' := hb
  obtain ⟨a1, a2, a3, a4⟩ := ha'
  obtain ⟨b1, b2, b3, b4⟩ := hb'
  have a5 : InR a.D := by unfold InR; omega
  have b5 : InR b.D := by unfold InR; omega
  obtain ⟨g0, g1⟩ := gcd_R a3 b5 (by omega)
  obtain ⟨h0, h1⟩ := gcd_R b3 a5 (by omega)
  have i1 := gcd_absI a.N b.D
  have i2 := gcd_absI b.N a.D
  generalize Int.gcd a.N b.D = g at *
  generalize Int.gcd b.N a.D = h at *
  have p1 := tdiv_nn (g := g) (absI_R a3)
  have p2 := tdiv_nn (g := h) (absI_R b3)
  have p3 := tdiv_nn (a := a.D) (g := h) ⟨by omega, by omega⟩
  have p4 := tdiv_nn (a := b.D) (g := g) ⟨by omega, by omega⟩
  have s1 := sgn_tdiv a.N g
  have s2 := sgn_tdiv b.N h
  have A0 := absI_nn a.N
  have B0 := absI_nn b.N
  generalize hx1 : (absI a.N).tdiv g = x1 at *
  generalize hx2 : (absI b.N).tdiv h = x2 at *
  generalize hy1 : a.D.tdiv h = y1 at *
  generalize hy2 : b.D.tdiv g = y2 at *
  have q1 : w64 x1 = x1 := w64_in (by unfold I64; omega)
  have q2 : w64 x2 = x2 := w64_in (by unfold I64; omega)
  have q3 : w64 y1 = y1 := w64_in (by unfold I64; omega)
  have q4 : w64 y2 = y2 := w64_in (by unfold I64; omega)
  have t1 := times_B p1 p2
  have t2 := times_B p3 p4
  have v1 := vl_digs (B14_big (n := x1.toNat * x2.toNat) (by omega))
  have v2 := vl_digs (B14_big (n := y1.toNat * y2.toNat) (by omega))
  have d1 : PreNarrow (digs (x1.toNat * x2.toNat)) := isD_digs (B14_big (by omega))
  have d2 : PreNarrow (digs (y1.toNat * y2.toNat)) := isD_digs (B14_big (by omega))
  have g2 : ¬ g = 0 := by omega
  have h2 : ¬ h = 0 := by omega
  have ad0 : 0 ≤ a.D := by omega
  have bd0 : 0 ≤ b.D := by omega
  have c1 : ((x1.toNat * x2.toNat : Nat) : Int) = x1 * x2 := by rw [Int.natCast_mul, Int.toNat_of_nonneg p1.1, Int.toNat_of_nonneg p2.1]
  have c2 : ((y1.toNat * y2.toNat : Nat) : Int) = y1 * y2 := by rw [Int.natCast_mul, Int.toNat_of_nonneg p3.1, Int.toNat_of_nonneg p4.1]
  have n1 := nar_in (X := x1.toNat * x2.toNat)
  have n2 := nar_in (X := y1.toNat * y2.toNat)
  rw [c1] at n1
  rw [c2] at n2
  have hσ := sgn_mul_R a.N b.N
  have hz : sgn a.N * sgn b.N = 0 → x1 * x2 = 0 := fun h => by
    rcases Int.mul_eq_zero.1 h with h | h
    · have : x1 = 0 := by rw [← hx1, sgn_zero h]; simp [absI]
      rw [this, Int.zero_mul]
    · have : x2 = 0 := by rw [← hx2, sgn_zero h]; simp [absI]
      rw [this, Int.mul_zero]
  have em : mulF a b = rngF (sgn a.N * sgn b.N * (x1 * x2)) (y1 * y2) := by
    rw [e, ← s1, ← s2, show sgn a.N * x1 * (sgn b.N * x2) = sgn a.N * sgn b.N * (x1 * x2) by ac_rfl]
  rw [sig_rng hσ hz] at em
  have w1 : w64 (sgn a.N * sgn b.N) = sgn a.N * sgn b.N := w64_in (by unfold I64; omega)
  have w2 : InR (x1 * x2) → w64 (sgn a.N * sgn b.N * (x1 * x2)) = sgn a.N * sgn b.N * (x1 * x2) := fun h => w64_R ((sig_in hσ hz).2 h)
  obtain ⟨σ, hσe⟩ : ∃ σ, sgn a.N * sgn b.N = σ := ⟨_, rfl⟩
  rw [hσe] at em w1 w2
  obtain ⟨X, hX⟩ : ∃ X, x1.toNat * x2.toNat = X := ⟨_, rfl⟩
  obtain ⟨Y, hY⟩ : ∃ Y, y1.toNat * y2.toNat = Y := ⟨_, rfl⟩
  rw [hX] at v1 d1 n1
  rw [hY] at v2 d2 n2
  by_cases u1 : InR (x1 * x2)
  · rw [if_pos u1] at n1
    have w2 := w2 u1
    by_cases u2 : InR (y1 * y2)
    · rw [if_pos u2] at n2
      rw [if_pos ⟨u1, u2⟩] at em
      simp [sValidF, sAbs, sGcdR, sTimes, sNarrow, sSgn, ha, hb, a3, b3, A0, B0, ad0, bd0, a2, b2, i1, i2, g2, h2, hx1, hx2, hy1, hy2, q1, q2, q3, q4, p1, p2, p3, p4, hX, hY, v1, v2, d1, d2, n1, n2, em, hσe, w1, w2]
    · rw [if_neg u2] at n2
      rw [if_neg (fun h => u2 h.2)] at em
      simp [sValidF, sAbs, sGcdR, sTimes, sNarrow, sSgn, ha, hb, a3, b3, A0, B0, ad0, bd0, a2, b2, i1, i2, g2, h2, hx1, hx2, hy1, hy2, q1, q2, q3, q4, p1, p2, p3, p4, hX, hY, v1, v2, d1, d2, n1, n2, em, hσe, w1, w2, F00]
  · rw [if_neg u1] at n1
    rw [if_neg (fun h => u1 h.1)] at em
    simp [sValidF, sAbs, sGcdR, sTimes, sNarrow, sSgn, ha, hb, a3, b3, A0, B0, ad0, bd0, a2, b2, i1, i2, g2, h2, hx1, hx2, hy1, hy2, q1, q2, q3, q4, p1, p2, p3, p4, hX, hY, v1, v2, d1, d2, n1, n2, em, hσe, w1, F00]
end Go.Proofs.YtfoipbjhaiimlaaDoor


/-
  layer 3, the reference: sums, differences, quotients and order of fractions.
-/
namespace Go.Proofs.YtfoipbjhaiimlaaDoor
open Go.RowKit
set_option linter.unusedSimpArgs false
set_option linter.unusedVariables false
set_option maxRecDepth 100000

theorem isSgn_of {n : Int} {m : Nat} (h : n = 0 → m = 0) (h' : n ≠ 0 → 0 < m) : IsSgn (sgn n) m := by
  unfold sgn
  by_cases h0 : n = 0
  · subst h0; exact .inl ⟨rfl, h rfl⟩
  · refine .inr ⟨?_, h' h0⟩
    split
    · exact .inr rfl
    · rw [if_pos (by omega)]; exact .inl rfl
/-- Two products with signs, as the reference adds them. -/
structure SumR (n p m q : Int) : Prop where
  pre : PreSum (sgn n) (digs ((absI n).toNat * p.toNat)) (sgn m) (digs ((absI m).toNat * q.toNat))
  val : sumV (sgn n) (digs ((absI n).toNat * p.toNat)) (sgn m) (digs ((absI m).toNat * q.toNat)) = n * p + m * q
  big : (n * p + m * q).natAbs ≤ 2000000000000000000000000000000
theorem sumR_of {n p m q : Int} (hn : InR n) (hp : 0 < p ∧ p ≤ 1000000000000000) (hm : InR m) (hq : 0 < q ∧ q ≤ 1000000000000000) : SumR n p m q := by
  have t1 := times_B (absI_R hn) ⟨Int.le_of_lt hp.1, hp.2⟩
  have t2 := times_B (absI_R hm) ⟨Int.le_of_lt hq.1, hq.2⟩
  have v1 := vl_digs (B14_big (n := (absI n).toNat * p.toNat) (by omega))
  have v2 := vl_digs (B14_big (n := (absI m).toNat * q.toNat) (by omega))
  have e1 : (((absI n).toNat * p.toNat : Nat) : Int) = absI n * p := by rw [Int.natCast_mul, Int.toNat_of_nonneg (absI_nn n), Int.toNat_of_nonneg (Int.le_of_lt hp.1)]
  have e2 : (((absI m).toNat * q.toNat : Nat) : Int) = absI m * q := by rw [Int.natCast_mul, Int.toNat_of_nonneg (absI_nn m), Int.toNat_of_nonneg (Int.le_of_lt hq.1)]
  have ev : sumV (sgn n) (digs ((absI n).toNat * p.toNat)) (sgn m) (digs ((absI m).toNat * q.toNat)) = n * p + m * q := by
    unfold sumV
    rw [v1, v2, e1, e2, ← Int.mul_assoc, sgn_abs, ← Int.mul_assoc, sgn_abs]
  refine ⟨⟨isD_digs (B14_big (by omega)), isD_digs (B14_big (by omega)), ?_, ?_, by rw [v1, v2]; exact B14_big (by omega)⟩, ev, ?_⟩
  · rw [v1]
    refine isSgn_of (fun h => by rw [h]; simp [absI]) (fun h => Nat.mul_pos (by unfold absI; omega) (by omega))
  · rw [v2]
    refine isSgn_of (fun h => by rw [h]; simp [absI]) (fun h => Nat.mul_pos (by unfold absI; omega) (by omega))
  · have a1 : (n * p).natAbs = (absI n).toNat * p.toNat := by rw [Int.natAbs_mul, show n.natAbs = (absI n).toNat by unfold absI; omega, show p.natAbs = p.toNat by omega]
    have a2 : (m * q).natAbs = (absI m).toNat * q.toNat := by rw [Int.natAbs_mul, show m.natAbs = (absI m).toNat by unfold absI; omega, show q.natAbs = q.toNat by omega]
    rw [← a1] at t1
    rw [← a2] at t2
    have := Int.natAbs_add_le (n * p) (m * q)
    omega
theorem dvd_quo_pos {a : Int} {g : Nat} (ha : 0 < a) (h : (g : Int) ∣ a) : 0 < a.tdiv g := by
  obtain ⟨x, hx⟩ := h
  have g0 : (g : Int) ≠ 0 := by intro h; rw [h, Int.zero_mul] at hx; omega
  rw [hx, Int.mul_tdiv_cancel_left _ g0]
  have g1 : (0 : Int) < g := by omega
  by_cases hx0 : 0 < x
  · exact hx0
  · have := Int.mul_nonpos_of_nonneg_of_nonpos (Int.le_of_lt g1) (show x ≤ 0 by omega)
    omega
theorem gcd_mod_abs (t : Int) (g : Nat) : Int.gcd g ((t.natAbs % g : Nat) : Int) = Int.gcd t g := by
  rw [Int.gcd_comm, ← gcd_abs_mod t g]
  congr 1
set_option maxHeartbeats 16000000 in
theorem addR : PureOK Tryd.prog G0 17 sAddF := by
  refine pure2 (C := CFR) sigCFR mixCFR Tryd.func17 rfl rfl rfl (by kernel_rfl) (by decide) (fun a b _ => ?_)
  by_cases ha : ValidF a
  case neg =>
    have e := addF_no (a := a) (b := b) (fun h => ha h.1)
    simp [sValidF, ha, e, F00]
  by_cases hb : ValidF b
  case neg =>
    have e := addF_no (a := a) (b := b) (fun h => hb h.2)
    simp [sValidF, ha, hb, e, F00]
  obtain ⟨hh0, e⟩ := add_parts ha hb
  have ez := add_zero_parts ha hb
  have ha' := ha
  have hb' := hb
  obtain ⟨a1, a2, a3, a4⟩ := ha'
  obtain ⟨b1, b2, b3, b4⟩ := hb'
  have a5 : InR a.D := by unfold InR; omega
  have b5 : InR b.D := by unfold InR; omega
  obtain ⟨g0, g1⟩ := gcd_R a5 b5 (by omega)
  have d1 := Int.gcd_dvd_left a.D b.D
  have d2 := Int.gcd_dvd_right a.D b.D
  have et : tF a b = a.N * b.D.tdiv (Int.gcd a.D b.D) + b.N * a.D.tdiv (Int.gcd a.D b.D) := rfl
  obtain ⟨g, hg⟩ : ∃ g, Int.gcd a.D b.D = g := ⟨_, rfl⟩
  rw [hg] at hh0 e g0 g1 d1 d2 et
  have pp := dvd_quo_pos (by omega) d1
  have qq := dvd_quo_pos (by omega) d2
  have p3 := tdiv_nn (a := a.D) (g := g) ⟨by omega, by omega⟩
  have p4 := tdiv_nn (a := b.D) (g := g) ⟨by omega, by omega⟩
  have g2 : ¬ g = 0 := by omega
  have ad0 : 0 ≤ a.D := by omega
  have bd0 : 0 ≤ b.D := by omega
  have A0 := absI_nn a.N
  have B0 := absI_nn b.N
  have A1 := (absI_R a3).2
  have B1 := (absI_R b3).2
  obtain ⟨x, hx⟩ : ∃ x, a.D.tdiv g = x := ⟨_, rfl⟩
  obtain ⟨y, hy⟩ : ∃ y, b.D.tdiv g = y := ⟨_, rfl⟩
  rw [hx] at et e pp p3
  rw [hy] at et qq p4
  have q1 : w64 x = x := w64_in (by unfold I64; omega)
  have q2 : w64 y = y := w64_in (by unfold I64; omega)
  have S := sumR_of a3 ⟨qq, p4.2⟩ b3 ⟨pp, p3.2⟩
  have S1 := S.pre
  have S2 := S.val
  have S3 := S.big
  rw [← et] at S2 S3
  obtain ⟨X, hX⟩ : ∃ X, digs ((absI a.N).toNat * y.toNat) = X := ⟨_, rfl⟩
  obtain ⟨Y, hY⟩ : ∃ Y, digs ((absI b.N).toNat * x.toNat) = Y := ⟨_, rfl⟩
  rw [hX, hY] at S1 S2
  generalize tF a b = t at *
  rcases em2 (t = 0) with ht | ht
  · have hs : sgn t = 0 := by rw [of_eq_true ht]; rfl
    have e := ez (of_eq_true ht)
    simp [sValidF, sAbs, sGcdR, sTimes, sSgn, sSumR, ha, hb, hg, g2, a2, b2, a3, b3, ad0, bd0, A0, B0, A1, B1, hx, hy, q1, q2, p3, p4, hX, hY, S1, S2, hs, e, F01]
  have hs : (sgn t = 0) = False := eq_false (fun h => of_eq_false ht (sgn_zero h))
  obtain ⟨M, hM⟩ : ∃ M, t.natAbs = M := ⟨_, rfl⟩
  have r2 := gcd_mod_abs t g
  rw [hM] at S3 r2
  have vM := vl_digs (B14_big (n := M) (by omega))
  have h1 : (Int.gcd t g : Int) ≤ g := Int.gcd_le_natAbs_right t (show (g : Int) ≠ 0 by omega) |> (fun h => by omega)
  obtain ⟨h, hh⟩ : ∃ h, Int.gcd t g = h := ⟨_, rfl⟩
  rw [hh] at hh0 e r2 h1
  have g3 : (g : Int) ≤ 1000000000000000 := by unfold InR at g1; omega
  have h3 : (h : Int) ≤ 1000000000000000 := by omega
  have h2 : ¬ h = 0 := by omega
  have pM : PreParts (digs M) g := ⟨isD_digs (B14_big (by omega)), by omega, g3⟩
  have pH : PreParts (digs M) h := ⟨isD_digs (B14_big (by omega)), by omega, h3⟩
  have lq := Nat.div_le_self M h
  have vq := vl_digs (B14_big (n := M / h) (by omega))
  have nq : PreNarrow (digs (M / h)) := isD_digs (B14_big (by omega))
  have n1 := nar_in (X := M / h)
  have p5 := tdiv_nn (a := b.D) (g := h) ⟨by omega, by omega⟩
  obtain ⟨z, hz⟩ : ∃ y, b.D.tdiv h = y := ⟨_, rfl⟩
  rw [hz] at e p5
  have q3 : w64 z = z := w64_in (by unfold I64; omega)
  have t2 := times_B p3 p5
  have v2 := vl_digs (B14_big (n := x.toNat * z.toNat) (by omega))
  have nz : PreNarrow (digs (x.toNat * z.toNat)) := isD_digs (B14_big (by omega))
  have c2 : ((x.toNat * z.toNat : Nat) : Int) = x * z := by rw [Int.natCast_mul, Int.toNat_of_nonneg p3.1, Int.toNat_of_nonneg p5.1]
  have n2 := nar_in (X := x.toNat * z.toNat)
  rw [c2] at n2
  obtain ⟨Q, hQ⟩ : ∃ Q, M / h = Q := ⟨_, rfl⟩
  obtain ⟨R, hR⟩ : ∃ R, M % g = R := ⟨_, rfl⟩
  rw [hQ] at vq nq n1 lq
  rw [hR] at r2
  have hR' : (M : Int) % (g : Int) = (R : Int) := by rw [← hR]; simp
  have et : t.tdiv h = sgn t * (Q : Int) := by
    rw [← sgn_tdiv t h, ← hQ, ← hM]
    unfold absI
    rw [divR_step]
  have hσ := sgn_R t
  have hz0 : sgn t = 0 → (Q : Int) = 0 := fun h => absurd (sgn_zero h) (of_eq_false ht)
  have em := sig_rng (y := x * z) hσ hz0
  rw [← et, ← e] at em
  have w2 : InR (Q : Int) → w64 (sgn t * Q) = sgn t * Q := fun h => w64_R ((sig_in hσ hz0).2 h)
  have rl : R < g := by rw [← hR]; exact Nat.mod_lt _ (by omega)
  have r3 : (R : Int) ≤ 1000000000000000 := by omega
  obtain ⟨W, hW⟩ : ∃ W, digs (x.toNat * z.toNat) = W := ⟨_, rfl⟩
  rw [hW] at v2 nz
  rw [← v2] at n2
  by_cases u1 : InR (Q : Int)
  · rw [if_pos u1] at n1
    have w2 := w2 u1
    by_cases u2 : InR (x * z)
    · rw [v2, if_pos u2] at n2
      rw [if_pos ⟨u1, u2⟩] at em
      simp [sValidF, sAbs, sGcdR, sTimes, sSgn, sSumR, sParts, sNarrow, ha, hb, hg, g2, a2, b2, a3, b3, ad0, bd0, A0, B0, A1, B1, hx, hy, q1, q2, p3, p4, hX, hY, S1, S2, hs, hM, vM, pM, pH, hQ, hR', vq, nq, n1, hz, p5, q3, hW, v2, nz, n2, em, w2, r2, r3, h2]
      exact et.symm
    · rw [v2, if_neg u2] at n2
      rw [if_neg (fun h => u2 h.2)] at em
      simp [sValidF, sAbs, sGcdR, sTimes, sSgn, sSumR, sParts, sNarrow, ha, hb, hg, g2, a2, b2, a3, b3, ad0, bd0, A0, B0, A1, B1, hx, hy, q1, q2, p3, p4, hX, hY, S1, S2, hs, hM, vM, pM, pH, hQ, hR', vq, nq, n1, hz, p5, q3, hW, v2, nz, n2, em, r2, r3, h2, F00]
  · rw [if_neg u1] at n1
    rw [if_neg (fun h => u1 h.1)] at em
    simp [sValidF, sAbs, sGcdR, sTimes, sSgn, sSumR, sParts, sNarrow, ha, hb, hg, g2, a2, b2, a3, b3, ad0, bd0, A0, B0, A1, B1, hx, hy, q1, q2, p3, p4, hX, hY, S1, S2, hs, hM, vM, pM, pH, hQ, hR', vq, nq, n1, hz, p5, q3, hW, v2, nz, n2, em, r2, r3, h2, F00]
noncomputable def CFR2 : Ctx := mkC Tryd.prog G0 [(29, .pure sValidF), (50, .pure sAbs), (48, .pure sSgn), (49, .pure sTimes), (47, .pure sSumR), (17, .pure sAddF), (84, .pure sMulF)]
@[simp] theorem CFR2_P : CFR2.P = Tryd.prog := rfl
@[simp] theorem CFR2_G : CFR2.G = G0 := rfl
@[simp] theorem CFR2_1 : CFR2.S 29 = .pure sValidF := rfl
@[simp] theorem CFR2_2 : CFR2.S 50 = .pure sAbs := rfl
@[simp] theorem CFR2_3 : CFR2.S 48 = .pure sSgn := rfl
@[simp] theorem CFR2_4 : CFR2.S 49 = .pure sTimes := rfl
@[simp] theorem CFR2_5 : CFR2.S 47 = .pure sSumR := rfl
@[simp] theorem CFR2_6 : CFR2.S 17 = .pure sAddF := rfl
@[simp] theorem CFR2_7 : CFR2.S 84 = .pure sMulF := rfl
theorem mixCFR2 : CFR2.P.follows .mixedOrders = true := mixed
theorem sigCFR2 : SigOK CFR2 := sigOK_cons (entryPure (validR) Tryd.func29 rfl (by decide)) (sigOK_cons (entryPure (sizeR) Tryd.func50 rfl (by decide)) (sigOK_cons (entryPure (signR) Tryd.func48 rfl (by decide)) (sigOK_cons (entryPure (timesR) Tryd.func49 rfl (by decide)) (sigOK_cons (entryPure (sumR) Tryd.func47 rfl (by decide)) (sigOK_cons (entryPure (addR) Tryd.func17 rfl (by decide)) (sigOK_cons (entryPure (mulR) Tryd.func84 rfl (by decide)) (sigOK_nil _ _)))))))
set_option maxHeartbeats 8000000 in
theorem cmpR : PureOK Tryd.prog G0 20 sCmpF := by
  refine pure2 (C := CFR2) sigCFR2 mixCFR2 Tryd.func20 rfl rfl rfl (by kernel_rfl) (by decide) (fun a b _ => ?_)
  have va := fix_valid a
  have vb := fix_valid b
  obtain ⟨x, hx⟩ : ∃ x, fixF a = x := ⟨_, rfl⟩
  obtain ⟨y, hy⟩ : ∃ y, fixF b = y := ⟨_, rfl⟩
  have ec : cmpF a b = sgn (x.N * y.D + -y.N * x.D) := by unfold cmpF; rw [hx, hy, Int.neg_mul]; rfl
  rw [hx] at va
  rw [hy] at vb
  obtain ⟨a1, a2, a3, a4⟩ := va
  obtain ⟨b1, b2, b3, b4⟩ := vb
  have S := sumR_of a3 (p := y.D) ⟨by omega, b2⟩ (InR_neg.2 b3) (q := x.D) ⟨by omega, a2⟩
  have S1 := S.pre
  have S2 := S.val
  rw [← congrArg sgn S2] at ec
  have ab : absI (-y.N) = absI y.N := by unfold absI; omega
  have sb : sgn (-y.N) = -sgn y.N := by unfold sgn; split <;> split <;> (try split) <;> omega
  have wb : IntKind.wrap .i64 (-sgn y.N) = -sgn y.N := w64_R (by have := sgn_R y.N; unfold InR; omega)
  rw [ab, sb] at S1 ec
  have A0 := absI_nn x.N
  have B0 := absI_nn y.N
  have A1 := (absI_R a3).2
  have B1 := (absI_R b3).2
  have c1 : 0 ≤ x.D := by omega
  have c2 : 0 ≤ y.D := by omega
  by_cases ha : ValidF a
  · have hx' : a = x := by rw [← hx]; exact (if_pos ha).symm
    by_cases hb : ValidF b
    · have hy' : b = y := by rw [← hy]; exact (if_pos hb).symm
      subst hx' hy'
      simp [sValidF, sAbs, sTimes, sSgn, sSumR, ha, hb, a2, a3, b2, b3, A0, B0, A1, B1, c1, c2, wb, S1, ec]
    · have hy' : F01 = y := by rw [← hy]; exact (if_neg hb).symm
      subst hx' hy'
      simp only [F01, show Int.toNat 1 = 1 from rfl, Nat.mul_one] at b2 b3 B0 B1 c2 wb S1 ec
      simp [sValidF, sAbs, sTimes, sSgn, sSumR, ha, hb, a2, a3, b2, b3, A0, B0, A1, B1, c1, c2, wb, S1, ec]
  · have hx' : F01 = x := by rw [← hx]; exact (if_neg ha).symm
    by_cases hb : ValidF b
    · have hy' : b = y := by rw [← hy]; exact (if_pos hb).symm
      subst hx' hy'
      simp only [F01, show Int.toNat 1 = 1 from rfl, Nat.mul_one] at a2 a3 A0 A1 c1 S1 ec
      simp [sValidF, sAbs, sTimes, sSgn, sSumR, ha, hb, a2, a3, b2, b3, A0, B0, A1, B1, c1, c2, wb, S1, ec]
    · have hy' : F01 = y := by rw [← hy]; exact (if_neg hb).symm
      subst hx' hy'
      simp only [F01, show Int.toNat 1 = 1 from rfl, Nat.mul_one] at a2 a3 A0 A1 c1 b2 b3 B0 B1 c2 wb S1 ec
      simp [sValidF, sAbs, sTimes, sSgn, sSumR, ha, hb, a2, a3, b2, b3, A0, B0, A1, B1, c1, c2, wb, S1, ec]
end Go.Proofs.YtfoipbjhaiimlaaDoor


/-
  layer 30: what Check, Feasible, Value and Dual compute, in plain words.
-/
namespace Go.Proofs.YtfoipbjhaiimlaaDoor
open Go.RowKit
set_option linter.unusedSimpArgs false
set_option linter.unusedVariables false

/-- A result that may be none, as a pair. -/
def ofO : Option Fr → Fr × Bool
  | some r => (r, true)
  | none => (F00, false)
def toO (p : Fr × Bool) : Option Fr := if p.2 then some p.1 else none
theorem rng_ofO (n d : Int) : ofO (toO (rngF n d)) = rngF n d := by
  unfold rngF
  split <;> rfl
def mulO (a b : Fr) : Option Fr := toO (mulF a b)
def addO (a b : Fr) : Option Fr := toO (addF a b)
def subO (a b : Fr) : Option Fr := toO (subF a b)
def divO (a b : Fr) : Option Fr := toO (divF a b)
theorem mul_ofO (a b : Fr) : mulF a b = ofO (mulO a b) := by
  unfold mulO mulF
  split
  · exact (rng_ofO _ _).symm
  · rfl
theorem add_ofO (a b : Fr) : addF a b = ofO (addO a b) := by
  unfold addO addF
  split
  · exact (rng_ofO _ _).symm
  · rfl
theorem sub_ofO (a b : Fr) : subF a b = ofO (subO a b) := add_ofO a (negF b)
theorem div_ofO (a b : Fr) : divF a b = ofO (divO a b) := by
  unfold divO divF
  split
  · split
    · exact mul_ofO _ _
    · exact mul_ofO _ _
  · rfl

/-- The sum of products from s on. -/
def dotO : Fr → List Fr → List Fr → Option Fr
  | s, a :: ar, x :: xs => match mulO a x with
    | some p => (match addO s p with | some t => dotO t ar xs | none => none)
    | none => none
  | s, _, _ => some s
def AllV (l : List Fr) : Prop := ∀ f ∈ l, ValidF f
instance (l : List Fr) : Decidable (AllV l) := inferInstanceAs (Decidable (∀ f ∈ l, ValidF f))
def RowsV (n : Nat) (l : List (List Fr)) : Prop := ∀ r ∈ l, r.length = n ∧ AllV r
instance (n : Nat) (l : List (List Fr)) : Decidable (RowsV n l) := inferInstanceAs (Decidable (∀ r ∈ l, r.length = n ∧ AllV r))
def checkF (l : Lin) : Int :=
  if 12 < l.C.length ∨ 24 < l.A.length then 4
  else if l.C = [] ∨ l.B.length ≠ l.A.length ∨ ¬ AllV l.B ∨ ¬ AllV l.C ∨ ¬ RowsV l.C.length l.A then 1 else 0
def ConOK (x : List Fr) (a : List Fr) (b : Fr) : Prop := ∃ s, dotO F01 a x = some s ∧ ¬ cmpF s b < 0
def FeasP (l : Lin) (x : List Fr) : Prop := checkF l = 0 ∧ x.length = l.C.length ∧ (∀ f ∈ x, ValidF f ∧ ¬ f.N < 0) ∧ ∀ i, i < l.A.length → ConOK x (ix l.A i) (ix l.B i)
open Classical in
noncomputable def feasB (l : Lin) (x : List Fr) : Bool := decide (FeasP l x)
def valueF (l : Lin) (x : List Fr) : Fr × Bool := if x.length = l.C.length then ofO (dotO F01 l.C x) else (F00, false)
def L00 : Lin := ⟨[], [], []⟩
/-- The dual program, whatever l is. -/
def dualL (l : Lin) : Lin := ⟨(List.range l.C.length).map fun j => l.A.map fun a => negF (ix a j), l.C.map negF, l.B.map negF⟩
def dualF (l : Lin) : Lin × Int := if checkF l ≠ 0 then (L00, checkF l) else if checkF (dualL l) ≠ 0 then (L00, checkF (dualL l)) else (dualL l, 0)
structure SmallL (l : Lin) : Prop where
  a : l.A.length ≤ 1000
  b : l.B.length ≤ 1000
  c : l.C.length ≤ 1000
  r : ∀ r ∈ l.A, r.length ≤ 1000
theorem check_zero {l : Lin} (h : checkF l = 0) : l.C.length ≤ 12 ∧ l.A.length ≤ 24 ∧ l.C ≠ [] ∧ l.B.length = l.A.length ∧ AllV l.B ∧ AllV l.C ∧ RowsV l.C.length l.A := by
  unfold checkF at h
  split at h
  · cases h
  · rename_i h1
    split at h
    · cases h
    · rename_i h2
      refine ⟨by omega, by omega, fun e => h2 (.inl e), ?_, ?_, ?_, ?_⟩
      · exact Classical.byContradiction fun e => h2 (.inr (.inl e))
      · exact Classical.byContradiction fun e => h2 (.inr (.inr (.inl e)))
      · exact Classical.byContradiction fun e => h2 (.inr (.inr (.inr (.inl e))))
      · exact Classical.byContradiction fun e => h2 (.inr (.inr (.inr (.inr e))))
end Go.Proofs.YtfoipbjhaiimlaaDoor


/-
  layer 30: the small functions, on both sides.
-/
namespace Go.Proofs.YtfoipbjhaiimlaaDoor
open Go.RowKit
set_option linter.unusedSimpArgs false
set_option linter.unusedVariables false
set_option maxRecDepth 100000

theorem zeroP : PureOK Tryd.prog G0 78 (spec0 (Enc.enc F01)) := by
  refine pure0 (C := CE) sigCE mixCE Tryd.func78 rfl rfl rfl (by kernel_rfl) ?_
  simp [F01]
theorem zeroR : PureOK Tryd.prog G0 83 (spec0 (Enc.enc F01)) := by
  refine pure0 (C := CE) sigCE mixCE Tryd.func83 rfl rfl rfl (by kernel_rfl) ?_
  simp [F01]
def sNeg : List AV → Option (Prop × AV) := spec1 (fun (_ : Fr) => True) (fun a => Enc.enc (negF a))
theorem negP : PureOK Tryd.prog G0 79 sNeg := by
  refine pure1 (C := CE) sigCE mixCE Tryd.func79 rfl rfl rfl (by kernel_rfl) (by decide) (fun a _ => ?_)
  have e : negF a = ⟨IntKind.wrap .i64 (-a.N), a.D⟩ := rfl
  simp [e]
def sAllV : List AV → Option (Prop × AV) := spec1 (fun (l : List Fr) => l.length ≤ 1000) (fun l => .bool (decide (AllV l)))
theorem allV_upto {l : List Fr} {k : Nat} (h : ∀ j, j < k → ValidF (ix l j)) (hk : l.length ≤ k) : AllV l := fun f hf => by
  obtain ⟨j, hj, rfl⟩ := List.getElem_of_mem hf
  have := h j (by omega)
  rwa [ix_lt hj] at this
noncomputable def CVa : Ctx := mkC Tryd.prog G0 [(25, .pure sValidF), (29, .pure sValidF)]
@[simp] theorem CVa_P : CVa.P = Tryd.prog := rfl
@[simp] theorem CVa_G : CVa.G = G0 := rfl
@[simp] theorem CVa_1 : CVa.S 25 = .pure sValidF := rfl
@[simp] theorem CVa_2 : CVa.S 29 = .pure sValidF := rfl
theorem mixCVa : CVa.P.follows .mixedOrders = true := mixed
theorem sigCVa : SigOK CVa := sigOK_cons (entryPure (validP) Tryd.func25 rfl (by decide)) (sigOK_cons (entryPure (validR) Tryd.func29 rfl (by decide)) (sigOK_nil _ _))
set_option maxHeartbeats 4000000 in
theorem allVP : PureOK Tryd.prog G0 92 sAllV := by
  refine pure1 (C := CVa) sigCVa mixCVa Tryd.func92 rfl rfl rfl (by kernel_rfl) (by decide) (fun l hl => ?_)
  simp
  refine loop_rule (C := CVa) sigCVa mixCVa (fun q : Nat × List Blk => ⟨[(2, .bool false), (5, Enc.enc l), (6, .int .i64 l.length), (7, .int .i64 q.1)], q.2⟩) (fun q => q.1 ≤ l.length ∧ ∀ j, j < q.1 → ValidF (ix l j)) (fun q => l.length - q.1) (by kernel_rfl) ⟨(0, []), ⟨by simp, fun j hj => by simp at hj⟩, weak_eq (by simp) rfl⟩ (fun ⟨k, Z⟩ ⟨hk, hv⟩ => ?_)
  simp only at hk hv ⊢
  by_cases hlt : k < l.length
  · have i1 : I64 ((k : Int) + 1) := by unfold I64; omega
    by_cases hV : ValidF (ix l k)
    · simp [sValidF, hlt, rowAt_enc hlt, hV, i1]
      exact ⟨k + 1, ⟨by omega, fun j hj => by
        rcases Nat.lt_or_eq_of_le (Nat.le_of_lt_succ hj) with h | h
        · exact hv j h
        · subst h; exact hV⟩, by omega, _, weak_eq (by simp) rfl⟩
    · have no : ¬ AllV l := fun h => hV (h _ (ix_mem hlt))
      simp [sValidF, hlt, rowAt_enc hlt, hV, i1, no]
  · have yes : AllV l := allV_upto hv (by omega)
    simp [hlt, yes]
/-! ### Check -/
def sCheckF : List AV → Option (Prop × AV) := spec1 SmallL (fun l => .int .i64 (checkF l))
noncomputable def CCk : Ctx := mkC Tryd.prog G0 [(92, .pure sAllV)]
@[simp] theorem CCk_P : CCk.P = Tryd.prog := rfl
@[simp] theorem CCk_G : CCk.G = G0 := rfl
@[simp] theorem CCk_1 : CCk.S 92 = .pure sAllV := rfl
theorem mixCCk : CCk.P.follows .mixedOrders = true := mixed
theorem sigCCk : SigOK CCk := sigOK_cons (entryPure (allVP) Tryd.func92 rfl (by decide)) (sigOK_nil _ _)
theorem rows_upto {n : Nat} {l : List (List Fr)} {k : Nat} (h : ∀ j, j < k → (ix l j).length = n ∧ AllV (ix l j)) (hk : l.length ≤ k) : RowsV n l := fun f hf => by
  obtain ⟨j, hj, rfl⟩ := List.getElem_of_mem hf
  have := h j (by omega)
  rwa [ix_lt hj] at this
def CB (l : Lin) : Blk := ⟨44, 3, [[.slice 1 false (encRows l.A), .slice 2 false (encRows l.B), .slice 2 false (encRows l.C)]], true, true⟩
set_option maxHeartbeats 8000000 in
theorem checkP : PureOK Tryd.prog G0 74 sCheckF := by
  refine pure1 (C := CCk) sigCCk mixCCk Tryd.func74 rfl rfl rfl (by kernel_rfl) (by decide) (fun l hs => ?_)
  have sa := hs.a
  have sb := hs.b
  have sc := hs.c
  by_cases h1 : 12 < l.C.length
  · have h1' : (12 : Int) < l.C.length := by omega
    have e : checkF l = 4 := if_pos (.inl h1)
    simp [h1', e]
  have h1' : ¬ (12 : Int) < l.C.length := by omega
  by_cases h2 : 24 < l.A.length
  · have h2' : (24 : Int) < l.A.length := by omega
    have e : checkF l = 4 := if_pos (.inr h2)
    simp [h1', h2', e]
  have h2' : ¬ (24 : Int) < l.A.length := by omega
  have e0 : checkF l = if l.C = [] ∨ l.B.length ≠ l.A.length ∨ ¬ AllV l.B ∨ ¬ AllV l.C ∨ ¬ RowsV l.C.length l.A then 1 else 0 := if_neg (by omega)
  by_cases h3 : l.C = []
  · have e : checkF l = 1 := by rw [e0, if_pos (.inl h3)]
    simp [h1', h2', h3, e]
  by_cases h4 : l.B.length = l.A.length
  case neg =>
    have h4' : ¬ (l.B.length : Int) = l.A.length := by omega
    have e : checkF l = 1 := by rw [e0, if_pos (.inr (.inl h4))]
    simp [h1', h2', h3, h4, h4', e]
  by_cases h5 : AllV l.B
  case neg =>
    have e : checkF l = 1 := by rw [e0, if_pos (.inr (.inr (.inl h5)))]
    simp [sAllV, h1', h2', h3, h4, h5, e, sa, sb, sc]
  by_cases h6 : AllV l.C
  case neg =>
    have e : checkF l = 1 := by rw [e0, if_pos (.inr (.inr (.inr (.inl h6))))]
    simp [sAllV, h1', h2', h3, h4, h5, h6, e, sa, sb, sc]
  simp [sAllV, h1', h2', h3, h4, h5, h6, sa, sb, sc]
  refine loop_rule (C := CCk) sigCCk mixCCk (fun q : Nat => ⟨[(1, .ptr 0 1 3 0 0), (2, .int .i64 0), (41, Enc.enc l.A), (42, .int .i64 l.A.length), (43, .int .i64 q)], [CB l]⟩) (fun q => q ≤ l.A.length ∧ ∀ j, j < q → (ix l.A j).length = l.C.length ∧ AllV (ix l.A j)) (fun q => l.A.length - q) (by kernel_rfl) ⟨0, ⟨by simp, fun j hj => by simp at hj⟩, weak_eq (by simp) rfl⟩ (fun k ⟨hk, hv⟩ => ?_)
  by_cases hlt : k < l.A.length
  · have i1 : I64 ((k : Int) + 1) := by unfold I64; omega
    have sr := hs.r _ (ix_mem hlt)
    by_cases h7 : (ix l.A k).length = l.C.length
    case neg =>
      have h7' : ¬ ((ix l.A k).length : Int) = l.C.length := by omega
      have no : ¬ RowsV l.C.length l.A := fun h => h7 (h _ (ix_mem hlt)).1
      have e : checkF l = 1 := by rw [e0, if_pos (.inr (.inr (.inr (.inr no))))]
      simp [CB, hlt, rowAt_enc hlt, h7', e]
    by_cases h8 : AllV (ix l.A k)
    · simp [CB, sAllV, hlt, rowAt_enc hlt, h7, h8, sc, i1]
      exact ⟨k + 1, ⟨by omega, fun j hj => by
        rcases Nat.lt_or_eq_of_le (Nat.le_of_lt_succ hj) with h | h
        · exact hv j h
        · subst h; exact ⟨h7, h8⟩⟩, by omega, weak_eq (by simp) rfl⟩
    · have no : ¬ RowsV l.C.length l.A := fun h => h8 (h _ (ix_mem hlt)).2
      have e : checkF l = 1 := by rw [e0, if_pos (.inr (.inr (.inr (.inr no))))]
      simp [CB, sAllV, hlt, rowAt_enc hlt, h7, h8, sc, e]
  · have yes : RowsV l.C.length l.A := rows_upto hv (by omega)
    have e : checkF l = 0 := by
      rw [e0, if_neg]
      rintro (h | h | h | h | h)
      · exact h3 h
      · exact h h4
      · exact h h5
      · exact h h6
      · exact h yes
    simp [CB, hlt, e]
/-! ### The sum of products -/
theorem ix_drop_cons {α : Type} [Inhabited α] {l : List α} {k : Nat} (h : k < l.length) : l.drop k = ix l k :: l.drop (k + 1) := by rw [List.drop_eq_getElem_cons h, ix_lt h]
theorem dot_step {s : Fr} {a x : List Fr} {k : Nat} (h : k < a.length) (h' : k < x.length) : dotO s (a.drop k) (x.drop k) = match mulO (ix a k) (ix x k) with | some p => (match addO s p with | some t => dotO t (a.drop (k + 1)) (x.drop (k + 1)) | none => none) | none => none := by
  rw [ix_drop_cons h, ix_drop_cons h', dotO]
  all_goals rfl
theorem dot_end {s : Fr} {a x : List Fr} {k : Nat} (h : a.length ≤ k) : dotO s (a.drop k) (x.drop k) = some s := by
  rw [List.drop_eq_nil_of_le h]
  cases x.drop k <;> rfl
def sDot : List AV → Option (Prop × AV) := spec2 (fun (a x : List Fr) => a.length ≤ 1000 ∧ a.length = x.length) (fun a x => .tup [Enc.enc (ofO (dotO F01 a x)).1, .bool (ofO (dotO F01 a x)).2])
noncomputable def CDo : Ctx := mkC Tryd.prog G0 [(78, .pure (spec0 (Enc.enc F01))), (104, .pure sMulF), (109, .pure sAddF), (83, .pure (spec0 (Enc.enc F01))), (84, .pure sMulF), (17, .pure sAddF)]
@[simp] theorem CDo_P : CDo.P = Tryd.prog := rfl
@[simp] theorem CDo_G : CDo.G = G0 := rfl
@[simp] theorem CDo_1 : CDo.S 78 = .pure (spec0 (Enc.enc F01)) := rfl
@[simp] theorem CDo_2 : CDo.S 104 = .pure sMulF := rfl
@[simp] theorem CDo_3 : CDo.S 109 = .pure sAddF := rfl
@[simp] theorem CDo_4 : CDo.S 83 = .pure (spec0 (Enc.enc F01)) := rfl
@[simp] theorem CDo_5 : CDo.S 84 = .pure sMulF := rfl
@[simp] theorem CDo_6 : CDo.S 17 = .pure sAddF := rfl
theorem mixCDo : CDo.P.follows .mixedOrders = true := mixed
theorem sigCDo : SigOK CDo := sigOK_cons (entryPure (zeroP) Tryd.func78 rfl (by decide)) (sigOK_cons (entryPure (mulP) Tryd.func104 rfl (by decide)) (sigOK_cons (entryPure (addP) Tryd.func109 rfl (by decide)) (sigOK_cons (entryPure (zeroR) Tryd.func83 rfl (by decide)) (sigOK_cons (entryPure (mulR) Tryd.func84 rfl (by decide)) (sigOK_cons (entryPure (addR) Tryd.func17 rfl (by decide)) (sigOK_nil _ _))))))
def FB (s : Fr) : Blk := ⟨30, 2, [[.int .i64 s.N, .int .i64 s.D]], true, true⟩
set_option maxHeartbeats 8000000 in
theorem dotR : PureOK Tryd.prog G0 55 sDot := by
  refine pureH2 (C := CDo) sigCDo mixCDo Tryd.func55 rfl rfl rfl [5] (by kernel_rfl) (by decide) (fun a x ⟨hl, hx⟩ => ?_)
  obtain ⟨R, hR⟩ : ∃ R, ofO (dotO F01 a x) = R := ⟨_, rfl⟩
  rw [hR]
  simp [F01]
  refine loop_ruleH (C := CDo) sigCDo mixCDo [5] (fun q : Nat × Fr × List Blk => ⟨[(0, Enc.enc a), (1, Enc.enc x), (4, .ptr 0 1 2 0 0), (6, .ptr 1 1 2 0 0), (7, .int .i64 q.1)], FB F00 :: FB q.2.1 :: q.2.2⟩) (fun q => q.1 ≤ a.length ∧ ofO (dotO q.2.1 (a.drop q.1) (x.drop q.1)) = R) (fun q => a.length - q.1) (by kernel_rfl) ⟨(0, F01, []), ⟨by simp, hR⟩, weak_eq (by simp) (by simp [FB, F00, F01])⟩ (fun ⟨k, s, Z⟩ ⟨hk, hv⟩ => ?_)
  simp only at hk hv ⊢
  by_cases hlt : k < a.length
  · have hltx : k < x.length := by omega
    have i1 : I64 ((k : Int) + 1) := by unfold I64; omega
    rw [dot_step hlt hltx] at hv
    have em := mul_ofO (ix a k) (ix x k)
    simp [FB, hlt]
    refine AW_regionF sigCDo mixCDo [.pure, .pure, .pure, .read, .pure, .pure, .pure, .read, .read, .pure, .pure, .pure, .eff, .eff, .pure] [[],[],[1,0],[0,1,2],[],[],[5,4],[4,5,6],[6,5,4,7,2,1,0,3],[3,0,1,2,7,4,5,6,8],[8,6,5,4,7,2,1,0,3,9],[8,6,5,4,7,2,1,0,3,9],[],[9,3,0,1,2,7,4,5,6,8,10,12],[12,10,13,9,3,0,1,2,7,4,5,6,8,11]] (by kernel_rfl) (by kernel_rfl) (by kernel_rfl) (by kernel_rfl) ?_
    cases hm : mulO (ix a k) (ix x k) with
    | none =>
      rw [hm] at hv em
      obtain ⟨r, f, ea⟩ := pair_of (addF s F00)
      simp only [F00] at ea
      cases f <;> simp [sMulF, sAddF, hlt, rowAt_enc hlt, hltx, rowAt_enc hltx, em, F00, ← hv, ofO, ea]
    | some p =>
      rw [hm] at hv em
      have ea := add_ofO s p
      cases hq : addO s p with
      | none =>
        simp only [hq] at hv
        rw [hq] at ea
        simp [sMulF, sAddF, hlt, rowAt_enc hlt, hltx, rowAt_enc hltx, em, ea, F00, ← hv, ofO]
      | some t =>
        simp only [hq] at hv
        rw [hq] at ea
        simp [sMulF, sAddF, hlt, rowAt_enc hlt, hltx, rowAt_enc hltx, em, ea, ofO, F00, i1]
        exact ⟨k + 1, t, ⟨by omega, hv⟩, by omega, Z ++ [FB p, FB t], weak_eq (by simp) (by simp [FB, F00])⟩
  · rw [dot_end (by omega)] at hv
    simp [FB, hlt, ← hv, ofO]

/-! ### Value -/
noncomputable def CVl : Ctx := mkC Tryd.prog G0 [(55, .pure sDot), (74, .pure sCheckF), (25, .pure sValidF), (107, .pure sCmpF), (20, .pure sCmpF), (79, .pure sNeg)]
@[simp] theorem CVl_P : CVl.P = Tryd.prog := rfl
@[simp] theorem CVl_G : CVl.G = G0 := rfl
@[simp] theorem CVl_1 : CVl.S 55 = .pure sDot := rfl
@[simp] theorem CVl_2 : CVl.S 74 = .pure sCheckF := rfl
@[simp] theorem CVl_3 : CVl.S 25 = .pure sValidF := rfl
@[simp] theorem CVl_4 : CVl.S 107 = .pure sCmpF := rfl
@[simp] theorem CVl_5 : CVl.S 20 = .pure sCmpF := rfl
@[simp] theorem CVl_6 : CVl.S 79 = .pure sNeg := rfl
theorem mixCVl : CVl.P.follows .mixedOrders = true := mixed
theorem sigCVl : SigOK CVl := sigOK_cons (entryPure (dotR) Tryd.func55 rfl (by decide)) (sigOK_cons (entryPure (checkP) Tryd.func74 rfl (by decide)) (sigOK_cons (entryPure (validP) Tryd.func25 rfl (by decide)) (sigOK_cons (entryPure (cmpP) Tryd.func107 rfl (by decide)) (sigOK_cons (entryPure (cmpR) Tryd.func20 rfl (by decide)) (sigOK_cons (entryPure (negP) Tryd.func79 rfl (by decide)) (sigOK_nil _ _))))))
def sValueF : List AV → Option (Prop × AV) := spec2 (fun (l : Lin) (x : List Fr) => l.C.length ≤ 1000) (fun l x => .tup [Enc.enc (valueF l x).1, .bool (valueF l x).2])
set_option maxHeartbeats 4000000 in
theorem valueR : PureOK Tryd.prog G0 19 sValueF := by
  refine pure2 (C := CVl) sigCVl mixCVl Tryd.func19 rfl rfl rfl (by kernel_rfl) (by decide) (fun l x hl => ?_)
  by_cases h : x.length = l.C.length
  · have e : valueF l x = ofO (dotO F01 l.C x) := if_pos h
    obtain ⟨r, f, hr⟩ := pair_of (ofO (dotO F01 l.C x))
    simp [sDot, h, hl, e, hr]
  · have h' : ¬ (x.length : Int) = l.C.length := by omega
    have e : valueF l x = (F00, false) := if_neg h
    simp [h, h', e, F00]
end Go.Proofs.YtfoipbjhaiimlaaDoor


/-
  layer 30: Feasible, on both sides.
-/
namespace Go.Proofs.YtfoipbjhaiimlaaDoor
open Go.RowKit
set_option linter.unusedSimpArgs false
set_option linter.unusedVariables false
set_option maxRecDepth 100000

open Classical in
theorem feas_no {l : Lin} {x : List Fr} (h : ¬ FeasP l x) : feasB l x = false := decide_eq_false h
open Classical in
theorem feas_yes {l : Lin} {x : List Fr} (h : FeasP l x) : feasB l x = true := decide_eq_true h
noncomputable def sFeas : List AV → Option (Prop × AV) := spec2 (fun (l : Lin) (x : List Fr) => SmallL l ∧ x.length ≤ 1000) (fun l x => .bool (feasB l x))
theorem con_cmp {x a : List Fr} {b s : Fr} (h : dotO F01 a x = some s) : ConOK x a b ↔ ¬ cmpF s b < 0 := by
  refine ⟨fun ⟨t, h1, h2⟩ => ?_, fun h2 => ⟨s, h, h2⟩⟩
  rw [h] at h1
  injection h1 with h1
  rw [h1]; exact h2
end Go.Proofs.YtfoipbjhaiimlaaDoor


/-
  layer 30: Dual, the program's side.
-/
namespace Go.Proofs.YtfoipbjhaiimlaaDoor
open Go.RowKit
set_option linter.unusedSimpArgs false
set_option linter.unusedVariables false
set_option maxRecDepth 100000

def ZLB : Blk := ⟨44, 3, [[.slice 1 true [], .slice 2 true [], .slice 2 true []]], true, true⟩
def DLB (a b c : Nat) : Blk := ⟨44, 3, [[.own 3 a, .own 4 b, .own 5 c]], true, false⟩
def R1B (l : List (List Fr)) : Blk := ⟨25, 1, encRows l, true, true⟩
def R2B (l : List Fr) : Blk := ⟨30, 2, encRows l, true, true⟩
def rowJ (l : Lin) (j : Nat) : List Fr := l.A.map fun a => negF (ix a j)
def rowsJ (l : Lin) (k : Nat) : List (List Fr) := (List.range k).map (rowJ l)
theorem dualL_eq (l : Lin) : dualL l = ⟨rowsJ l l.C.length, l.C.map negF, l.B.map negF⟩ := rfl
def rowK (l : Lin) (j i : Nat) : List Fr := (l.A.take i).map fun a => negF (ix a j)
theorem rowK_succ {l : Lin} {j i : Nat} (h : i < l.A.length) : rowK l j (i + 1) = rowK l j i ++ [negF (ix (ix l.A i) j)] := by unfold rowK; rw [List.take_succ_eq_append_getElem h, List.map_append, ix_lt h]; rfl
theorem rowK_len {l : Lin} {j i : Nat} (h : i ≤ l.A.length) : (rowK l j i).length = i := by unfold rowK; rw [List.length_map, List.length_take]; omega
theorem rowK_all (l : Lin) (j : Nat) : rowK l j l.A.length = rowJ l j := by unfold rowK rowJ; rw [List.take_length]
theorem rowK_nil (l : Lin) (j : Nat) : rowK l j 0 = [] := rfl
def negK (l : List Fr) (k : Nat) : List Fr := (l.take k).map negF
theorem negK_succ {l : List Fr} {k : Nat} (h : k < l.length) : negK l (k + 1) = negK l k ++ [negF (ix l k)] := by unfold negK; rw [List.take_succ_eq_append_getElem h, List.map_append, ix_lt h]; rfl
theorem negK_len {l : List Fr} {k : Nat} (h : k ≤ l.length) : (negK l k).length = k := by unfold negK; rw [List.length_map, List.length_take]; omega
theorem negK_all (l : List Fr) : negK l l.length = l.map negF := by unfold negK; rw [List.take_length]
theorem negK_nil (l : List Fr) : negK l 0 = [] := rfl
theorem scal22 : isScalT CVl 22 = false := by show isScalT ⟨Tryd.prog, fun _ => .no, G0⟩ 22 = false; kernel_rfl
theorem rowsJ_succ (l : Lin) (k : Nat) : rowsJ l (k + 1) = rowsJ l k ++ [rowJ l k] := by unfold rowsJ; rw [List.range_succ, List.map_append]; rfl
@[simp] theorem rows_snoc_rows (l : List (List Fr)) (x : List Fr) : encRows l ++ [[.slice 2 false (encRows x)]] = encRows (l ++ [x]) := by rw [encRows_append]; rfl
theorem small_dual {l : Lin} (h : SmallL l) : SmallL (dualL l) := ⟨by rw [dualL_eq]; simp [rowsJ]; exact h.c, by rw [dualL_eq]; simp; exact h.c, by rw [dualL_eq]; simp; exact h.b, fun r hr => by
  rw [dualL_eq] at hr
  simp only [rowsJ] at hr
  obtain ⟨j, _, rfl⟩ := List.mem_map.1 hr
  simp [rowJ]; exact h.a⟩
def sDual : List AV → Option (Prop × AV) := spec1 SmallL (fun l => .tup [Enc.enc (dualF l).1, .int .i64 (dualF l).2])
end Go.Proofs.YtfoipbjhaiimlaaDoor


/-
  layer 30: Dual, the reference's side.
-/
namespace Go.Proofs.YtfoipbjhaiimlaaDoor
open Go.RowKit
set_option linter.unusedSimpArgs false
set_option linter.unusedVariables false
set_option maxRecDepth 100000

end Go.Proofs.YtfoipbjhaiimlaaDoor


/-
  layer 30: equality of lists and programs; small inputs; the examples' parts.
-/
namespace Go.Proofs.YtfoipbjhaiimlaaDoor
open Go.RowKit
set_option linter.unusedSimpArgs false
set_option linter.unusedVariables false
set_option maxRecDepth 100000

theorem fr_eq {a b : Fr} : a = b ↔ a.N = b.N ∧ a.D = b.D := by
  refine ⟨fun h => by rw [h]; exact ⟨rfl, rfl⟩, fun h => ?_⟩
  obtain ⟨n, d⟩ := a
  obtain ⟨n', d'⟩ := b
  obtain ⟨rfl, rfl⟩ := h
  rfl
theorem list_eq_upto {α : Type} [Inhabited α] {a b : List α} (hl : a.length = b.length) {k : Nat} (h : ∀ j, j < k → ix a j = ix b j) (hk : a.length ≤ k) : a = b := by
  refine List.ext_getElem hl fun j h1 h2 => ?_
  have := h j (by omega)
  rwa [ix_lt h1, ix_lt h2] at this
def sFracs : List AV → Option (Prop × AV) := spec2 (fun (a _ : List Fr) => a.length ≤ 1000) (fun a b => .bool (decide (a = b)))
def LinEq (a b : Lin) : Prop := a.A = b.A ∧ a.B = b.B ∧ a.C = b.C
instance (a b : Lin) : Decidable (LinEq a b) := inferInstanceAs (Decidable (_ ∧ _))
def sSameL : List AV → Option (Prop × AV) := spec2 (fun (a _ : Lin) => SmallL a) (fun a b => .bool (decide (LinEq a b)))
noncomputable def CFs : Ctx := mkC Tryd.prog G0 []
@[simp] theorem CFs_P : CFs.P = Tryd.prog := rfl
@[simp] theorem CFs_G : CFs.G = G0 := rfl
theorem mixCFs : CFs.P.follows .mixedOrders = true := mixed
theorem sigCFs : SigOK CFs := sigOK_nil _ _
def FewL (l : Lin) : Prop := l.A.length ≤ 30 ∧ l.B.length ≤ 30 ∧ l.C.length ≤ 30 ∧ ∀ r ∈ l.A, r.length ≤ 30
instance (l : Lin) : Decidable (FewL l) := inferInstanceAs (Decidable (_ ∧ _ ∧ _ ∧ _))
theorem few_small {l : Lin} (h : FewL l) : SmallL l := ⟨by have := h.1; omega, by have := h.2.1; omega, by have := h.2.2.1; omega, fun r hr => by have := h.2.2.2 r hr; omega⟩
def sFew : List AV → Option (Prop × AV) := spec1 (fun (_ : Lin) => True) (fun l => .bool (decide (FewL l)))
def sWhole : List AV → Option (Prop × AV) := spec1 (fun (_ : Int) => True) (fun n => Enc.enc (⟨n, 1⟩ : Fr))
def triL : Lin := ⟨[[F11, F11, F01], [F01, F11, F11], [F11, F01, F11]], [F11, F11, F11], [F11, F11, F11]⟩
noncomputable def CTr : Ctx := mkC Tryd.prog G0 []
@[simp] theorem CTr_P : CTr.P = Tryd.prog := rfl
@[simp] theorem CTr_G : CTr.G = G0 := rfl
theorem mixCTr : CTr.P.follows .mixedOrders = true := mixed
theorem sigCTr : SigOK CTr := sigOK_nil _ _
end Go.Proofs.YtfoipbjhaiimlaaDoor


/-
  layer 30: the tableau, in plain words, and how it lies in the call's blocks.
-/
namespace Go.Proofs.YtfoipbjhaiimlaaDoor
open Go.RowKit
set_option linter.unusedSimpArgs false
set_option linter.unusedVariables false
set_option maxRecDepth 100000

structure Tab where
  n : Nat
  m : Nat
  rows : List (List Fr)
  cost : List Fr
  basis : List Int
  over : Bool
def Tab.w (t : Tab) : Nat := t.n + t.m
/-- a minus f times b; none: too great. -/
def mnO (a f b : Fr) : Option Fr := match mulO f b with
  | some p => subO a p
  | none => none
def mnP (a f b : Fr) : Fr × Bool := match mnO a f b with
  | some d => (d, false)
  | none => (F01, true)
def dvP (a p : Fr) : Fr × Bool := match divO a p with
  | some q => (q, false)
  | none => (F01, true)
/-- The first k elements new. -/
def mixF (k : Nat) (g : Nat → Fr) (row : List Fr) : List Fr := (List.range row.length).map fun j => if j < k then g j else ix row j
def anyK (k : Nat) (g : Nat → Bool) : Bool := (List.range k).any g
theorem anyK_succ (k : Nat) (g : Nat → Bool) : anyK (k + 1) g = (anyK k g || g k) := by unfold anyK; rw [List.range_succ, List.any_append]; simp
theorem anyK_zero (g : Nat → Bool) : anyK 0 g = false := rfl
theorem mixF_len (k : Nat) (g : Nat → Fr) (row : List Fr) : (mixF k g row).length = row.length := by unfold mixF; simp
theorem mixF_ix {k j : Nat} {g : Nat → Fr} {row : List Fr} (h : j < row.length) : ix (mixF k g row) j = if j < k then g j else ix row j := by
  rw [ix_lt (by rw [mixF_len]; exact h)]
  unfold mixF
  rw [List.getElem_map, List.getElem_range]
theorem mixF_zero (g : Nat → Fr) (row : List Fr) : mixF 0 g row = row := by
  refine List.ext_getElem (mixF_len _ _ _) fun j h1 h2 => ?_
  have := mixF_ix (k := 0) (g := g) h2
  rw [ix_lt h1, if_neg (Nat.not_lt_zero j), ix_lt h2] at this
  exact this
theorem mixF_set {k : Nat} {g : Nat → Fr} {row : List Fr} {v : Fr} (hv : v = g k) (h : k < row.length) : (mixF k g row).set k v = mixF (k + 1) g row := by
  refine List.ext_getElem (by rw [List.length_set, mixF_len, mixF_len]) fun j h1 h2 => ?_
  rw [mixF_len] at h2
  have e1 := mixF_ix (k := k) (g := g) h2
  have e2 := mixF_ix (k := k + 1) (g := g) h2
  rw [ix_lt (by rw [mixF_len]; exact h2)] at e1 e2
  rw [List.getElem_set, e1, e2]
  by_cases hjk : k = j
  · subst hjk
    rw [if_pos rfl, if_pos (Nat.lt_succ_self k)]
    exact hv
  · rw [if_neg hjk]
    by_cases hj : j < k
    · rw [if_pos hj, if_pos (by omega)]
    · rw [if_neg hj, if_neg (by omega)]
def clrR (row : List Fr) (f : Fr) (by_ : List Fr) : List Fr := mixF row.length (fun j => (mnP (ix row j) f (ix by_ j)).1) row
def clrB (row : List Fr) (f : Fr) (by_ : List Fr) : Bool := anyK row.length fun j => (mnP (ix row j) f (ix by_ j)).2
def dvR (row : List Fr) (p : Fr) : List Fr := mixF row.length (fun j => (dvP (ix row j) p).1) row
def dvB (row : List Fr) (p : Fr) : Bool := anyK row.length fun j => (dvP (ix row j) p).2
theorem clrR_len (row : List Fr) (f : Fr) (b : List Fr) : (clrR row f b).length = row.length := mixF_len _ _ _
theorem dvR_len (row : List Fr) (p : Fr) : (dvR row p).length = row.length := mixF_len _ _ _

/-! ### Where it lies -/
structure Lay where
  p : Nat
  q : Nat
  c : Option Nat
  r : List Nat
def cC (c : Option Nat) (n : Nat) : AV := match c with
  | none => .slice 2 true []
  | some c => .own c n
def setC (c : Option Nat) (b : List Fr) (H : List Blk) : List Blk := match c with
  | none => H
  | some c => H.set c (R2B b)
def tC (L : Lay) (t : Tab) : List AV := [.int .i64 t.n, .int .i64 t.m, .own L.q L.r.length, cC L.c t.cost.length] ++ t.basis.map (.int .i64 ·) ++ [.bool t.over]
def tB (L : Lay) (t : Tab) : Blk := ⟨93, 29, [tC L t], true, false⟩
def qB (L : Lay) (N : Nat) : Blk := ⟨25, 1, L.r.map fun l => [.own l N], true, false⟩
def setR : List Nat → List (List Fr) → List Blk → List Blk
  | l :: ls, r :: rs, H => (setR ls rs H).set l (R2B r)
  | _, _, H => H
def putT (L : Lay) (t : Tab) (K : List Blk) : List Blk := setR L.r t.rows (setC L.c t.cost ((K.set L.p (tB L t)).set L.q (qB L (t.w + 1))))
structure Lens (L : Lay) (K : List Blk) : Prop where
  p : L.p < K.length
  q : L.q < K.length
  c : ∀ c, L.c = some c → c < K.length
  r : ∀ l ∈ L.r, l < K.length
  pq : L.p ≠ L.q
  pc : L.c ≠ some L.p
  qc : L.c ≠ some L.q
  pr : L.p ∉ L.r
  qr : L.q ∉ L.r
  cr : ∀ c, L.c = some c → c ∉ L.r
  nd : L.r.Nodup
  cl : ∀ b ∈ K, b.deep = true ∨ ∀ r ∈ b.rows, ∀ c ∈ r, c.cleanF K.length = true
structure Shape (L : Lay) (t : Tab) : Prop where
  m : t.rows.length = t.m
  r : L.r.length = t.m
  n1 : 1 ≤ t.n
  n12 : t.n ≤ 12
  m24 : t.m ≤ 24
  row : ∀ r ∈ t.rows, r.length = t.w + 1
  cost : (L.c = none ∧ t.cost = []) ∨ ((∃ c, L.c = some c) ∧ t.cost.length = t.w + 1)
  bas : t.basis.length = 24
  b64 : ∀ b ∈ t.basis, 0 ≤ b ∧ b ≤ 1000
/-- The same while the rows are laid. -/
structure Shape0 (L : Lay) (t : Tab) : Prop where
  m : t.rows.length = L.r.length
  r : L.r.length ≤ t.m
  n1 : 1 ≤ t.n
  n12 : t.n ≤ 12
  m24 : t.m ≤ 24
  row : ∀ r ∈ t.rows, r.length = t.w + 1
  cost : (L.c = none ∧ t.cost = []) ∨ ((∃ c, L.c = some c) ∧ t.cost.length = t.w + 1)
  bas : t.basis.length = 24
  b64 : ∀ b ∈ t.basis, 0 ≤ b ∧ b ≤ 1000
theorem Shape.to0 {L : Lay} {t : Tab} (s : Shape L t) : Shape0 L t := ⟨by rw [s.m, s.r], by rw [s.r]; exact Nat.le_refl _, s.n1, s.n12, s.m24, s.row, s.cost, s.bas, s.b64⟩
theorem Shape0.full {L : Lay} {t : Tab} (s : Shape0 L t) (h : L.r.length = t.m) : Shape L t := ⟨by rw [s.m, h], h, s.n1, s.n12, s.m24, s.row, s.cost, s.bas, s.b64⟩
theorem setR_len : ∀ (ls : List Nat) (rs : List (List Fr)) (H : List Blk), (setR ls rs H).length = H.length
  | [], _, _ => rfl
  | _ :: _, [], _ => rfl
  | l :: ls, r :: rs, H => by rw [setR, List.length_set, setR_len]
theorem setR_out : ∀ {ls : List Nat} {rs : List (List Fr)} {H : List Blk} {k : Nat}, k ∉ ls → (setR ls rs H)[k]? = H[k]?
  | [], _, _, _, _ => rfl
  | _ :: _, [], _, _, _ => rfl
  | l :: ls, r :: rs, H, k, h => by
    rw [setR, List.getElem?_set_ne (fun e => h (by rw [← e]; exact List.mem_cons_self)), setR_out (fun e => h (List.mem_cons_of_mem _ e))]
theorem setR_in : ∀ {ls : List Nat} {rs : List (List Fr)} {H : List Blk} {i : Nat}, ls.Nodup → ls.length = rs.length → (∀ l ∈ ls, l < H.length) → i < ls.length → (setR ls rs H)[ix ls i]? = some (R2B (ix rs i))
  | [], _, _, _, _, _, _, h => by simp at h
  | _ :: _, [], _, _, _, h, _, _ => by simp at h
  | l :: ls, r :: rs, H, 0, hn, hl, hb, hi => by
    show (setR (l :: ls) (r :: rs) H)[l]? = some (R2B r)
    rw [setR, List.getElem?_set_self (by rw [setR_len]; exact hb l List.mem_cons_self)]
  | l :: ls, r :: rs, H, i + 1, hn, hl, hb, hi => by
    have hi' : i < ls.length := by simpa using hi
    have e1 : ix (l :: ls) (i + 1) = ix ls i := rfl
    have e2 : ix (r :: rs) (i + 1) = ix rs i := rfl
    rw [e1, e2, setR, List.getElem?_set_ne (fun e => (List.nodup_cons.1 hn).1 (by rw [e]; exact ix_mem hi'))]
    exact setR_in (List.nodup_cons.1 hn).2 (by simpa using hl) (fun l hl => hb l (List.mem_cons_of_mem _ hl)) hi'
theorem setR_app : ∀ {ls : List Nat} {rs : List (List Fr)} {H X : List Blk}, (∀ l ∈ ls, l < H.length) → setR ls rs (H ++ X) = setR ls rs H ++ X
  | [], _, _, _, _ => rfl
  | _ :: _, [], _, _, _ => rfl
  | l :: ls, r :: rs, H, X, h => by
    rw [setR, setR_app (fun l hl => h l (List.mem_cons_of_mem _ hl)), List.set_append_left _ _ (by rw [setR_len]; exact h l List.mem_cons_self), setR]
theorem setR_comm : ∀ {ls : List Nat} {rs : List (List Fr)} {H : List Blk} {k : Nat} {b : Blk}, k ∉ ls → setR ls rs (H.set k b) = (setR ls rs H).set k b
  | [], _, _, _, _, _ => rfl
  | _ :: _, [], _, _, _, _ => rfl
  | l :: ls, r :: rs, H, k, b, h => by
    rw [setR, setR, setR_comm (fun e => h (List.mem_cons_of_mem _ e)), List.set_comm _ _ (fun e => h (by rw [e]; exact List.mem_cons_self))]
theorem setR_set : ∀ {ls : List Nat} {rs : List (List Fr)} {H : List Blk} {i : Nat} {x : List Fr}, ls.Nodup → ls.length = rs.length → i < ls.length → (setR ls rs H).set (ix ls i) (R2B x) = setR ls (rs.set i x) H
  | [], _, _, _, _, _, _, h => by simp at h
  | _ :: _, [], _, _, _, _, h, _ => by simp at h
  | l :: ls, r :: rs, H, 0, x, hn, hl, hi => by
    show (setR (l :: ls) (r :: rs) H).set l (R2B x) = setR (l :: ls) (x :: rs) H
    rw [setR, setR, List.set_set]
  | l :: ls, r :: rs, H, i + 1, x, hn, hl, hi => by
    have hi' : i < ls.length := by simpa using hi
    have e1 : ix (l :: ls) (i + 1) = ix ls i := rfl
    rw [e1, List.set_cons_succ, setR, setR, List.set_comm _ _ (fun e => (List.nodup_cons.1 hn).1 (by rw [e]; exact ix_mem hi')), setR_set (List.nodup_cons.1 hn).2 (by simpa using hl) hi']
theorem setR_twice : ∀ {ls : List Nat} {rs rs' : List (List Fr)} {H : List Blk}, ls.Nodup → rs.length = ls.length → rs'.length = ls.length → setR ls rs (setR ls rs' H) = setR ls rs H
  | [], _, _, _, _, _, _ => rfl
  | l :: ls, [], _, _, _, h, _ => by simp at h
  | l :: ls, r :: rs, [], _, _, _, h => by simp at h
  | l :: ls, r :: rs, r' :: rs', H, hn, h1, h2 => by
    rw [setR, setR, setR, setR_comm (List.nodup_cons.1 hn).1, setR_twice (List.nodup_cons.1 hn).2 (by simpa using h1) (by simpa using h2), List.set_set]

theorem setC_len (c : Option Nat) (b : List Fr) (H : List Blk) : (setC c b H).length = H.length := by cases c <;> simp [setC]
theorem setC_out {c : Option Nat} {b : List Fr} {H : List Blk} {k : Nat} (h : c ≠ some k) : (setC c b H)[k]? = H[k]? := by
  cases c with
  | none => rfl
  | some c => exact List.getElem?_set_ne (fun e => h (by rw [e]))
theorem setC_comm {c : Option Nat} {b : List Fr} {H : List Blk} {k : Nat} (h : c ≠ some k) (x : Blk) : setC c b (H.set k x) = (setC c b H).set k x := by
  cases c with
  | none => rfl
  | some c => exact List.set_comm _ _ (fun e => h (by rw [e]))
theorem setC_twice (c : Option Nat) (b b' : List Fr) (H : List Blk) : setC c b (setC c b' H) = setC c b H := by
  cases c with
  | none => rfl
  | some c => exact List.set_set ..
theorem setC_app {c : Option Nat} {b : List Fr} {H X : List Blk} (h : ∀ k, c = some k → k < H.length) : setC c b (H ++ X) = setC c b H ++ X := by
  cases c with
  | none => rfl
  | some c => exact List.set_append_left _ _ (h c rfl)
theorem setC_mem {c : Option Nat} {b : List Fr} {H : List Blk} {x : Blk} (h : x ∈ setC c b H) : x ∈ H ∨ x.deep = true := by
  cases c with
  | none => exact .inl h
  | some c => exact (List.mem_or_eq_of_mem_set h).imp id (fun e => by rw [e]; rfl)
theorem setR_setC : ∀ {ls : List Nat} {rs : List (List Fr)} {H : List Blk} {c : Option Nat} {b : List Fr}, (∀ k, c = some k → k ∉ ls) → setR ls rs (setC c b H) = setC c b (setR ls rs H)
  | ls, rs, H, none, b, h => rfl
  | ls, rs, H, some c, b, h => setR_comm (h c rfl)

section
variable {L : Lay} {K X : List Blk} {t t' : Tab}
theorem put_len (L : Lay) (t : Tab) (K : List Blk) : (putT L t K).length = K.length := by unfold putT; rw [setR_len, setC_len, List.length_set, List.length_set]
theorem put_p (h : Lens L K) (t : Tab) : (putT L t K)[L.p]? = some (tB L t) := by
  unfold putT
  rw [setR_out h.pr, setC_out h.pc, List.getElem?_set_ne h.pq.symm, List.getElem?_set_self h.p]
theorem put_q (h : Lens L K) (t : Tab) : (putT L t K)[L.q]? = some (qB L (t.w + 1)) := by
  unfold putT
  rw [setR_out h.qr, setC_out h.qc, List.getElem?_set_self (by rw [List.length_set]; exact h.q)]
theorem put_c (h : Lens L K) (t : Tab) {c : Nat} (hc : L.c = some c) : (putT L t K)[c]? = some (R2B t.cost) := by
  unfold putT
  rw [setR_out (h.cr c hc), hc]
  exact List.getElem?_set_self (by rw [List.length_set, List.length_set]; exact h.c c hc)
theorem put_r (h : Lens L K) (s : L.r.length = t.rows.length) {i : Nat} (hi : i < L.r.length) : (putT L t K)[ix L.r i]? = some (R2B (ix t.rows i)) := by
  unfold putT
  exact setR_in h.nd s (fun l hl => by rw [setC_len, List.length_set, List.length_set]; exact h.r l hl) hi
theorem put_set_p (h : Lens L K) (hr : t'.rows = t.rows) (hc : t'.cost = t.cost) (hw : t'.w = t.w) : (putT L t K).set L.p (tB L t') = putT L t' K := by
  unfold putT
  rw [← setR_comm h.pr, ← setC_comm h.pc, List.set_comm _ _ h.pq.symm, List.set_set, hr, hc, hw]
theorem put_set_r (h : Lens L K) (s : L.r.length = t.rows.length) {i : Nat} (hi : i < L.r.length) (x : List Fr) : (putT L t K).set (ix L.r i) (R2B x) = putT L { t with rows := t.rows.set i x } K := by
  unfold putT
  rw [setR_set h.nd s hi]
  rfl
theorem put_set_c (h : Lens L K) {c : Nat} (hc : L.c = some c) (x : List Fr) (hx : x.length = t.cost.length) : (putT L t K).set c (R2B x) = putT L { t with cost := x } K := by
  have this : tB L { t with cost := x } = tB L t := by unfold tB tC; simp [hx]
  unfold putT
  rw [← setR_comm (h.cr c hc), this, hc]
  show setR _ _ (List.set (List.set _ _ _) _ _) = _
  rw [List.set_set]
  rfl
theorem put_app (h : Lens L K) (t : Tab) (X : List Blk) : putT L t (K ++ X) = putT L t K ++ X := by
  unfold putT
  rw [List.set_append_left _ _ h.p, List.set_append_left _ _ (by rw [List.length_set]; exact h.q), setC_app (fun c hc => by rw [List.length_set, List.length_set]; exact h.c c hc), setR_app (fun l hl => by rw [setC_len, List.length_set, List.length_set]; exact h.r l hl)]
theorem put_put (h : Lens L K) (s : t.rows.length = L.r.length) (s' : t'.rows.length = L.r.length) : putT L t (putT L t' K) = putT L t K := by
  unfold putT
  rw [← setR_comm h.pr, ← setR_comm h.qr, ← setR_setC h.cr, setR_twice h.nd s s']
  congr 1
  rw [← setC_comm h.pc, ← setC_comm h.qc, setC_twice, List.set_comm _ _ h.pq.symm, List.set_set, List.set_set]
theorem setR_mem : ∀ {ls : List Nat} {rs : List (List Fr)} {H : List Blk} {b : Blk}, b ∈ setR ls rs H → b ∈ H ∨ b.deep = true
  | [], _, _, _, h => .inl h
  | _ :: _, [], _, _, h => .inl h
  | l :: ls, r :: rs, H, b, h => by
    rw [setR] at h
    rcases List.mem_or_eq_of_mem_set h with h | h
    · exact setR_mem h
    · rw [h]; exact .inr rfl
theorem put_clean (h : Lens L K) (t : Tab) : ∀ b ∈ putT L t K, b.deep = true ∨ ∀ r ∈ b.rows, ∀ c ∈ r, c.cleanF K.length = true := by
  intro b hb
  unfold putT at hb
  rcases setR_mem hb with hb | hb
  case inr => exact .inl hb
  rcases setC_mem hb with hb | hb
  case inr => exact .inl hb
  rcases List.mem_or_eq_of_mem_set hb with hb | hb
  case inr =>
    rw [hb]
    refine .inr fun r hr c hc => ?_
    simp only [qB] at hr
    obtain ⟨l, hl, rfl⟩ := List.mem_map.1 hr
    rw [List.mem_singleton] at hc
    subst hc
    have := h.r l hl
    simp [AV.cleanF, AV.clean2, AV.clean1, this]
  rcases List.mem_or_eq_of_mem_set hb with hb | hb
  case inr =>
    rw [hb]
    refine .inr fun r hr c hc => ?_
    simp only [tB, List.mem_singleton] at hr
    subst hr
    have hq := h.q
    have hcc := h.c
    unfold tC at hc
    simp only [List.mem_append, List.mem_cons, List.not_mem_nil, or_false, List.mem_map] at hc
    rcases hc with (((rfl | rfl | rfl | rfl) | ⟨b, _, rfl⟩) | rfl)
    case inl.inl.inr.inr.inr =>
      cases hcL : L.c with
      | none => simp [cC, AV.cleanF, AV.clean2, AV.clean1]
      | some c => simp [cC, AV.cleanF, AV.clean2, AV.clean1, hcc c hcL]
    all_goals simp [AV.cleanF, AV.clean2, AV.clean1, hq]
  exact h.cl b hb
end

/-! ### Contracts that change such a tableau -/
open Classical in
/-- Whatever fits: args, blocks; then a result and blocks. -/
noncomputable def anyG {Γ : Type} (a : Γ → List AV) (h : Γ → List Blk) (pre : Γ → Prop) (res : Γ → AV) (h' : Γ → List Blk) : List AV → List Blk → Option (Prop × AV × List Blk) := fun args H =>
  if hx : ∃ γ, pre γ ∧ a γ = args ∧ h γ = H then some (True, res hx.choose, h' hx.choose) else none
theorem anyG_at {Γ : Type} {a : Γ → List AV} {h : Γ → List Blk} {pre : Γ → Prop} {res : Γ → AV} {h' : Γ → List Blk} (inj : ∀ γ γ', pre γ → pre γ' → a γ = a γ' → h γ = h γ' → res γ = res γ' ∧ h' γ = h' γ') {γ : Γ} (hp : pre γ) : anyG a h pre res h' (a γ) (h γ) = some (True, res γ, h' γ) := by
  have hx : ∃ δ, pre δ ∧ a δ = a γ ∧ h δ = h γ := ⟨γ, hp, rfl, rfl⟩
  unfold anyG
  rw [dif_pos hx]
  obtain ⟨h1, h2, h3⟩ := hx.choose_spec
  obtain ⟨e1, e2⟩ := inj _ _ h1 hp h2 h3
  rw [e1, e2]
theorem anyG_inv {Γ : Type} {a : Γ → List AV} {h : Γ → List Blk} {pre : Γ → Prop} {res : Γ → AV} {h' : Γ → List Blk} {args : List AV} {H : List Blk} {ob : Prop} {r : AV} {H' : List Blk} (e : anyG a h pre res h' args H = some (ob, r, H')) : ∃ γ, pre γ ∧ a γ = args ∧ h γ = H ∧ res γ = r ∧ h' γ = H' := by
  unfold anyG at e
  split at e
  · rename_i hx
    injection e with e; injection e with e1 e2; injection e2 with e2 e3
    obtain ⟨h1, h2, h3⟩ := hx.choose_spec
    exact ⟨_, h1, h2, h3, e2, e3⟩
  · cases e
theorem encFr_inj {a b : List Fr} (h : R2B a = R2B b) : a = b := by
  unfold R2B at h
  injection h with h1 h2 h3
  have := congrArg (fun l => l.map (Enc.unc : List AV → Fr)) h3
  simpa [map_unc] using this
/-- What lies there, and where, can be read off. -/
theorem put_inj0 {L L' : Lay} {t t' : Tab} {K K' : List Blk} (h : Lens L K) (h' : Lens L' K') (s : Shape0 L t) (s' : Shape0 L' t') (hp : L.p = L'.p) (e : putT L t K = putT L' t' K') : L = L' ∧ t = t' ∧ ∀ u : Tab, u.rows.length = L.r.length → putT L u K = putT L' u K' := by
  have e1 := put_p h t
  rw [e, hp, put_p h' t'] at e1
  injection e1 with e1
  have e2 : tC L' t' = tC L t := by unfold tB at e1; injection e1 with _ _ e1; simpa using e1
  have hb : t'.basis.length = t.basis.length := by rw [s.bas, s'.bas]
  unfold tC at e2
  simp only [List.cons_append, List.nil_append, List.cons.injEq, AV.int.injEq, AV.own.injEq, true_and] at e2
  obtain ⟨f1, f2, ⟨f3, f4⟩, f56, f7⟩ := e2
  have f5 : L'.c = L.c := by
    cases h1 : L.c with
    | none =>
      cases h2 : L'.c with
      | none => rfl
      | some c => rw [h1, h2] at f56; cases f56
    | some c =>
      cases h2 : L'.c with
      | none => rw [h1, h2] at f56; cases f56
      | some c' => rw [h1, h2] at f56; injection f56 with f56; rw [f56]
  have f8 := List.append_inj f7 (by simp [hb])
  have f9 : t'.basis = t.basis := by
    have := f8.1
    refine List.ext_getElem hb fun j h1 h2 => ?_
    have := congrArg (fun l : List AV => l[j]?) this
    simp [h1, h2] at this
    exact this
  have f10 : t'.over = t.over := by simpa using f8.2
  have n1 : t'.n = t.n := by omega
  have n2 : t'.m = t.m := by omega
  have hw : t'.w = t.w := by unfold Tab.w; rw [n1, n2]
  have e3 := put_q h t
  rw [e, ← f3, put_q h' t'] at e3
  injection e3 with e3
  have f11 : L'.r = L.r := by
    unfold qB at e3
    injection e3 with _ _ e3
    refine List.ext_getElem f4 fun j h1 h2 => ?_
    have := congrArg (fun l : List (List AV) => l[j]?) e3
    simp [h1, h2] at this
    exact this.1
  have f12 : t'.cost = t.cost := by
    rcases s.cost with ⟨h1, h2⟩ | ⟨⟨c, h1⟩, h2⟩
    · rcases s'.cost with ⟨h3, h4⟩ | ⟨⟨c', h3⟩, h4⟩
      · rw [h2, h4]
      · rw [f5, h1] at h3; cases h3
    · have e4 := put_c h t h1
      rw [e, put_c h' t' (f5.trans h1)] at e4
      injection e4 with e4
      exact encFr_inj e4
  have f13 : t'.rows = t.rows := by
    refine List.ext_getElem (by rw [s.m, s'.m, f11]) fun j h1 h2 => ?_
    have hj : j < L.r.length := by rw [← s.m]; exact h2
    have e5 := put_r h s.m.symm hj
    rw [e, ← f11, put_r h' s'.m.symm (by rw [f11]; exact hj)] at e5
    injection e5 with e5
    have := encFr_inj e5
    rwa [ix_lt h1, ix_lt h2] at this
  have eL : L = L' := by
    obtain ⟨p, q, c, r⟩ := L
    obtain ⟨p', q', c', r'⟩ := L'
    simp only at hp f3 f5 f11
    subst hp f3 f5 f11
    rfl
  have et : t = t' := by
    obtain ⟨n, m, rows, cost, basis, over⟩ := t
    obtain ⟨n', m', rows', cost', basis', over'⟩ := t'
    simp only at n1 n2 f13 f12 f9 f10
    subst n1 n2 f13 f12 f9 f10
    rfl
  refine ⟨eL, et, fun u hu => ?_⟩
  subst eL et
  have hr : t.rows.length = L.r.length := s.m
  rw [← put_put h hu hr, e, put_put h' hu hr]
theorem put_inj {L L' : Lay} {t t' : Tab} {K K' : List Blk} (h : Lens L K) (h' : Lens L' K') (s : Shape L t) (s' : Shape L' t') (hp : L.p = L'.p) (e : putT L t K = putT L' t' K') : L = L' ∧ t = t' ∧ ∀ u : Tab, u.rows.length = L.r.length → putT L u K = putT L' u K' := put_inj0 h h' s.to0 s'.to0 hp e
end Go.Proofs.YtfoipbjhaiimlaaDoor


/-
  layer 30: the tableau's small methods, the program's side.
-/
namespace Go.Proofs.YtfoipbjhaiimlaaDoor
open Go.RowKit
set_option linter.unusedSimpArgs false
set_option linter.unusedVariables false
set_option maxRecDepth 100000

section
variable {L : Lay} {K : List Blk} {t : Tab}
theorem ptake {α : Type} {l : List α} {n : Nat} (h : l.length = n) (X : List α) (j : Nat) : (l ++ X)[n + j]? = X[j]? := by rw [List.getElem?_append_right (by omega), h, Nat.add_sub_cancel_left]
/-- What can be read of a tableau and of the locals behind it. -/
structure GetT (L : Lay) (t : Tab) (K : List Blk) : Prop where
  p : ∀ X, (putT L t K ++ X)[L.p]? = some ⟨93, 29, [tC L t], true, false⟩
  q : ∀ X, (putT L t K ++ X)[L.q]? = some ⟨25, 1, L.r.map fun l => [.own l (t.w + 1)], true, false⟩
  c : ∀ X c, L.c = some c → (putT L t K ++ X)[c]? = some ⟨30, 2, encRows t.cost, true, true⟩
  r : ∀ X i, i < t.m → (putT L t K ++ X)[ix L.r i]? = some ⟨30, 2, encRows (ix t.rows i), true, true⟩
  l0 : ∀ X, (putT L t K ++ X)[K.length]? = X[0]?
  l : ∀ X j, (putT L t K ++ X)[K.length + j]? = X[j]?
  sl0 : ∀ X b, (putT L t K ++ X).set K.length b = putT L t K ++ X.set 0 b
  sl : ∀ X j b, (putT L t K ++ X).set (K.length + j) b = putT L t K ++ X.set j b
  sp : ∀ X t', t'.rows = t.rows → t'.cost = t.cost → t'.w = t.w → (putT L t K ++ X).set L.p ⟨93, 29, [tC L t'], true, false⟩ = putT L t' K ++ X
  sc : ∀ X c x, L.c = some c → x.length = t.cost.length → (putT L t K ++ X).set c ⟨30, 2, encRows x, true, true⟩ = putT L { t with cost := x } K ++ X
  sr : ∀ X i x, i < t.m → (putT L t K ++ X).set (ix L.r i) ⟨30, 2, encRows x, true, true⟩ = putT L { t with rows := t.rows.set i x } K ++ X
theorem getT (h : Lens L K) (s : Shape L t) : GetT L t K where
  p X := by rw [List.getElem?_append_left (by rw [put_len]; exact h.p)]; exact put_p h t
  q X := by rw [List.getElem?_append_left (by rw [put_len]; exact h.q)]; exact put_q h t
  c X c hc := by rw [List.getElem?_append_left (by rw [put_len]; exact h.c c hc)]; exact put_c h t hc
  r X i hi := by
    have hi' : i < L.r.length := by rw [s.r]; exact hi
    rw [List.getElem?_append_left (by rw [put_len]; exact h.r _ (ix_mem hi'))]; exact put_r h (by rw [s.r, s.m]) hi'
  l0 X := by have := ptake (put_len L t K) X 0; simpa using this
  l X j := ptake (put_len L t K) X j
  sl0 X b := by rw [List.set_append_right _ _ (by rw [put_len]; omega), put_len, Nat.sub_self]
  sl X j b := by rw [List.set_append_right _ _ (by rw [put_len]; omega), put_len, Nat.add_sub_cancel_left]
  sp X t' h1 h2 h3 := by rw [List.set_append_left _ _ (by rw [put_len]; exact h.p)]; congr 1; exact put_set_p h h1 h2 h3
  sc X c x hc hx := by rw [List.set_append_left _ _ (by rw [put_len]; exact h.c c hc)]; congr 1; exact put_set_c h hc x hx
  sr X i x hi := by
    have hi' : i < L.r.length := by rw [s.r]; exact hi
    rw [List.set_append_left _ _ (by rw [put_len]; exact h.r _ (ix_mem hi'))]; congr 1; exact put_set_r h (by rw [s.r, s.m]) hi' x
/-- The same while the rows are laid. -/
structure Get0 (L : Lay) (t : Tab) (K : List Blk) : Prop where
  p : ∀ X, (putT L t K ++ X)[L.p]? = some ⟨93, 29, [tC L t], true, false⟩
  q : ∀ X, (putT L t K ++ X)[L.q]? = some ⟨25, 1, L.r.map fun l => [.own l (t.w + 1)], true, false⟩
  l0 : ∀ X, (putT L t K ++ X)[K.length]? = X[0]?
  l : ∀ X j, (putT L t K ++ X)[K.length + j]? = X[j]?
  sl0 : ∀ X b, (putT L t K ++ X).set K.length b = putT L t K ++ X.set 0 b
  sl : ∀ X j b, (putT L t K ++ X).set (K.length + j) b = putT L t K ++ X.set j b
  sp : ∀ X t', t'.rows = t.rows → t'.cost = t.cost → t'.w = t.w → (putT L t K ++ X).set L.p ⟨93, 29, [tC L t'], true, false⟩ = putT L t' K ++ X
theorem get0 (h : Lens L K) : Get0 L t K where
  p X := by rw [List.getElem?_append_left (by rw [put_len]; exact h.p)]; exact put_p h t
  q X := by rw [List.getElem?_append_left (by rw [put_len]; exact h.q)]; exact put_q h t
  l0 X := by have := ptake (put_len L t K) X 0; simpa using this
  l X j := ptake (put_len L t K) X j
  sl0 X b := by rw [List.set_append_right _ _ (by rw [put_len]; omega), put_len, Nat.sub_self]
  sl X j b := by rw [List.set_append_right _ _ (by rw [put_len]; omega), put_len, Nat.add_sub_cancel_left]
  sp X t' h1 h2 h3 := by rw [List.set_append_left _ _ (by rw [put_len]; exact h.p)]; congr 1; exact put_set_p h h1 h2 h3
theorem tC_len (s : t.basis.length = 24) : (tC L t).length = 29 := by unfold tC; simp [s]
theorem tC_0 : (tC L t)[0]? = some (.int .i64 t.n) := rfl
theorem tC_1 : (tC L t)[1]? = some (.int .i64 t.m) := rfl
theorem tC_2 : (tC L t)[2]? = some (.own L.q L.r.length) := rfl
theorem tC_3 : (tC L t)[3]? = some (cC L.c t.cost.length) := rfl
theorem tC_28 (s : t.basis.length = 24) : (tC L t)[28]? = some (.bool t.over) := by
  unfold tC
  rw [List.getElem?_append_right (by simp [s])]
  simp [s]
theorem tC_b (s : t.basis.length = 24) {i : Nat} (h : i < 24) : (tC L t)[4 + i]? = some (.int .i64 (ix t.basis i)) := by
  unfold tC
  rw [List.getElem?_append_left (by simp [s]; omega), List.getElem?_append_right (by simp), ix_lt (by omega)]
  simp [s, h]
theorem tC_so (s : t.basis.length = 24) (b : Bool) : List.take 28 (tC L t) ++ AV.bool b :: List.drop 29 (tC L t) = tC L { t with over := b } := by
  rw [List.drop_eq_nil_of_le (by rw [tC_len s]; omega)]
  unfold tC
  rw [List.take_append_of_le_length (by simp [s])]
  rw [List.take_of_length_le (by simp [s])]
theorem tC_sb (s : t.basis.length = 24) {i : Nat} (h : i < 24) (b : Int) : List.take (4 + i) (tC L t) ++ AV.int .i64 b :: List.drop (4 + i + 1) (tC L t) = tC L { t with basis := t.basis.set i b } := by
  have h1 : List.take (4 + i) (tC L t) ++ AV.int .i64 b :: List.drop (4 + i + 1) (tC L t) = (tC L t).set (4 + i) (.int .i64 b) := by
    rw [List.set_eq_take_append_cons_drop, if_pos (by rw [tC_len s]; omega)]
  rw [h1]
  unfold tC
  rw [List.set_append_left _ _ (by simp [s]; omega), List.set_append_right _ _ (by simp)]
  simp [List.map_set]
end
end Go.Proofs.YtfoipbjhaiimlaaDoor


/-
  layer 30: a minus f times b; a row of zeros; whether a variable is artificial.
-/
namespace Go.Proofs.YtfoipbjhaiimlaaDoor
open Go.RowKit
set_option linter.unusedSimpArgs false
set_option linter.unusedVariables false
set_option maxRecDepth 100000

theorem cells_inj {a b : Fr} (h : (Enc.enc a : AV) = Enc.enc b) : a = b := by
  have := congrArg (Enc.dec : AV → Fr) h
  simpa [Enc.dec_enc] using this
abbrev TKx (α : Type) := Lay × Tab × List Blk × α
def preT {α : Type} (p : Lay → Tab → α → Prop) : TKx α → Prop := fun γ => Lens γ.1 γ.2.2.1 ∧ Shape γ.1 γ.2.1 ∧ p γ.1 γ.2.1 γ.2.2.2
def blkT {α : Type} : TKx α → List Blk := fun γ => putT γ.1 γ.2.1 γ.2.2.1
/-- Such a contract: the arguments a tableau and what x says; the result; the new tableau. -/
noncomputable def tabG {α : Type} (a : Lay → Tab → α → List AV) (p : Lay → Tab → α → Prop) (res : Tab → α → AV) (nw : Tab → α → Tab) : List AV → List Blk → Option (Prop × AV × List Blk) :=
  anyG (fun γ : TKx α => .ptr γ.1.p 1 29 0 0 :: a γ.1 γ.2.1 γ.2.2.2) blkT (preT p) (fun γ => res γ.2.1 γ.2.2.2) (fun γ => putT γ.1 (nw γ.2.1 γ.2.2.2) γ.2.2.1)
structure TabOK {α : Type} (a : Lay → Tab → α → List AV) (p : Lay → Tab → α → Prop) (nw : Tab → α → Tab) : Prop where
  inj : ∀ {L t K x x'}, Lens L K → Shape L t → p L t x → p L t x' → a L t x = a L t x' → x = x'
  rows : ∀ {L t x}, Shape L t → p L t x → (nw t x).rows.length = t.m
theorem tabG_at {α : Type} {a : Lay → Tab → α → List AV} {p : Lay → Tab → α → Prop} {res : Tab → α → AV} {nw : Tab → α → Tab} (ok : TabOK a p nw) {L : Lay} {t : Tab} {K : List Blk} {x : α} (h : Lens L K) (s : Shape L t) (hp : p L t x) :
    tabG a p res nw (.ptr L.p 1 29 0 0 :: a L t x) (putT L t K) = some (True, res t x, putT L (nw t x) K) := by
  refine anyG_at (a := fun γ : TKx α => .ptr γ.1.p 1 29 0 0 :: a γ.1 γ.2.1 γ.2.2.2) (h := blkT) (pre := preT p) (res := fun γ => res γ.2.1 γ.2.2.2) (h' := fun γ => putT γ.1 (nw γ.2.1 γ.2.2.2) γ.2.2.1) ?_ (γ := (L, t, K, x)) ⟨h, s, hp⟩
  rintro ⟨L1, t1, K1, x1⟩ ⟨L2, t2, K2, x2⟩ ⟨h1, s1, p1⟩ ⟨h2, s2, p2⟩ ea eh
  simp only [List.cons.injEq, AV.ptr.injEq, and_true] at ea
  obtain ⟨e1, e2, e3⟩ := put_inj h1 h2 s1 s2 ea.1 eh
  simp only at e1 e2
  subst e1 e2
  have ex := ok.inj h1 s1 p1 p2 ea.2
  simp only at ex
  subst ex
  exact ⟨rfl, e3 _ (by rw [ok.rows s1 p1, s1.r])⟩
theorem tabG_inv {α : Type} {a : Lay → Tab → α → List AV} {p : Lay → Tab → α → Prop} {res : Tab → α → AV} {nw : Tab → α → Tab} {args : List AV} {H : List Blk} {ob : Prop} {r : AV} {H' : List Blk} (e : tabG a p res nw args H = some (ob, r, H')) :
    ∃ L t K x, Lens L K ∧ Shape L t ∧ p L t x ∧ args = .ptr L.p 1 29 0 0 :: a L t x ∧ H = putT L t K ∧ r = res t x ∧ H' = putT L (nw t x) K := by
  obtain ⟨⟨L, t, K, x⟩, ⟨h1, h2, h3⟩, e1, e2, e3, e4⟩ := anyG_inv e
  exact ⟨L, t, K, x, h1, h2, h3, e1.symm, e2.symm, e3.symm, e4.symm⟩
/-- The end of such a function. -/
theorem tab_drop {L : Lay} {t' : Tab} {K X : List Blk} (h : Lens L K) {r : AV} (hr : r.cleanF K.length = true) : dropT K.length (putT L t' K ++ X) r (putT L t' K) :=
  ⟨K.length, Nat.le_refl _, by rw [show K.length = (putT L t' K).length by rw [put_len], List.take_left], hr, put_clean h t'⟩

theorem clean1_mono {m n : Nat} (h : m ≤ n) {v : AV} (hv : v.clean1 m = true) : v.clean1 n = true := by
  cases v <;> simp [AV.clean1] at hv ⊢ <;> omega
theorem clean2_cases (v : AV) : (∃ f cs, v = .fn f cs) ∨ ∀ n, v.clean2 n = v.clean1 n := by
  cases v <;> first | exact .inr fun _ => rfl | exact .inl ⟨_, _, rfl⟩
theorem clean2_mono {m n : Nat} (h : m ≤ n) {v : AV} (hv : v.clean2 m = true) : v.clean2 n = true := by
  rcases clean2_cases v with ⟨f, cs, rfl⟩ | e
  · have hv : cs.all (AV.clean1 m) = true := hv
    show cs.all (AV.clean1 n) = true
    exact List.all_eq_true.2 fun c hc => clean1_mono h (List.all_eq_true.1 hv c hc)
  · rw [e] at hv ⊢
    exact clean1_mono h hv
theorem cleanF_cases (v : AV) : (∃ cs, v = .agg cs) ∨ (∃ cs, v = .tup cs) ∨ ∀ n, v.cleanF n = v.clean2 n := by
  cases v <;> first | exact .inr (.inr fun _ => rfl) | exact .inl ⟨_, rfl⟩ | exact .inr (.inl ⟨_, rfl⟩)
theorem cleanF_mono {m n : Nat} (h : m ≤ n) {v : AV} (hv : v.cleanF m = true) : v.cleanF n = true := by
  rcases cleanF_cases v with ⟨cs, rfl⟩ | ⟨cs, rfl⟩ | e
  · have hv : cs.all (AV.clean2 m) = true := hv
    show cs.all (AV.clean2 n) = true
    exact List.all_eq_true.2 fun c hc => clean2_mono h (List.all_eq_true.1 hv c hc)
  · have hv : cs.all (AV.clean2 m) = true := hv
    show cs.all (AV.clean2 n) = true
    exact List.all_eq_true.2 fun c hc => clean2_mono h (List.all_eq_true.1 hv c hc)
  · rw [e] at hv ⊢
    exact clean2_mono h hv
theorem Lens.app {L : Lay} {K X : List Blk} (h : Lens L K) (hX : ∀ b ∈ X, b.deep = true) : Lens L (K ++ X) where
  p := by have := h.p; rw [List.length_append]; omega
  q := by have := h.q; rw [List.length_append]; omega
  c c hc := by have := h.c c hc; rw [List.length_append]; omega
  r l hl := by have := h.r l hl; rw [List.length_append]; omega
  pq := h.pq
  pc := h.pc
  qc := h.qc
  pr := h.pr
  qr := h.qr
  cr := h.cr
  nd := h.nd
  cl b hb := by
    rcases List.mem_append.1 hb with hb | hb
    · exact (h.cl b hb).imp id fun h1 r hr c hc => cleanF_mono (by rw [List.length_append]; omega) (h1 r hr c hc)
    · exact .inl (hX b hb)
/-- A call of such a function, the caller's locals behind. -/
theorem tabG_call {α : Type} {a : Lay → Tab → α → List AV} {p : Lay → Tab → α → Prop} {res : Tab → α → AV} {nw : Tab → α → Tab} (ok : TabOK a p nw) {L : Lay} {t : Tab} {K : List Blk} {x : α} (h : Lens L K) (s : Shape L t) (hp : p L t x) (X : List Blk) (hX : ∀ b ∈ X, b.deep = true) :
    tabG a p res nw (.ptr L.p 1 29 0 0 :: a L t x) (putT L t K ++ X) = some (True, res t x, putT L (nw t x) K ++ X) := by
  rw [← put_app h, ← put_app h]
  exact tabG_at ok (h.app hX) s hp

/-! ### minus -/
def aMinus : Lay → Tab → Fr × Fr × Fr → List AV := fun _ _ x => [Enc.enc x.1, Enc.enc x.2.1, Enc.enc x.2.2]
def orT (t : Tab) (b : Bool) : Tab := { t with over := t.over || b }
noncomputable def gMinus := tabG aMinus (fun _ _ _ => True) (fun _ x => Enc.enc (mnP x.1 x.2.1 x.2.2).1) (fun t x => orT t (mnP x.1 x.2.1 x.2.2).2)
theorem okMinus : TabOK aMinus (fun _ _ _ => True) (fun t x => orT t (mnP x.1 x.2.1 x.2.2).2) where
  inj := fun {L t K x x'} _ _ _ _ e => by
    obtain ⟨a, b, c⟩ := x
    obtain ⟨a', b', c'⟩ := x'
    unfold aMinus at e
    simp only [List.cons.injEq, and_true] at e
    rw [cells_inj e.1, cells_inj e.2.1, cells_inj e.2.2]
  rows := fun s _ => s.m
noncomputable def CMn : Ctx := mkC Tryd.prog G0 [(104, .pure sMulF), (105, .pure sSubF), (78, .pure (spec0 (Enc.enc F01)))]
@[simp] theorem CMn_P : CMn.P = Tryd.prog := rfl
@[simp] theorem CMn_G : CMn.G = G0 := rfl
@[simp] theorem CMn_1 : CMn.S 104 = .pure sMulF := rfl
@[simp] theorem CMn_2 : CMn.S 105 = .pure sSubF := rfl
@[simp] theorem CMn_3 : CMn.S 78 = .pure (spec0 (Enc.enc F01)) := rfl
theorem mixCMn : CMn.P.follows .mixedOrders = true := mixed
theorem sigCMn : SigOK CMn := sigOK_cons (entryPure (mulP) Tryd.func104 rfl (by decide)) (sigOK_cons (entryPure (subP) Tryd.func105 rfl (by decide)) (sigOK_cons (entryPure (zeroP) Tryd.func78 rfl (by decide)) (sigOK_nil _ _)))
theorem rngO_in {n d : Int} {p : Fr} (h : toO (rngF n d) = some p) : InR p.N ∧ InR p.D := by
  unfold toO rngF at h
  by_cases h4 : InR n ∧ InR d
  · rw [if_pos h4, if_pos rfl] at h
    injection h with h
    subst h
    exact h4
  · rw [if_neg h4] at h
    simp at h
theorem mulO_I64 {a b p : Fr} (h : mulO a b = some p) : I64 p.N := by
  unfold mulO mulF at h
  split at h
  · have := (rngO_in h).1
    unfold InR at this
    unfold I64
    omega
  · simp [toO] at h
theorem orT_true (t : Tab) : orT t true = { t with over := true } := by unfold orT; rw [Bool.or_true]
theorem orT_false (t : Tab) : orT t false = t := by unfold orT; rw [Bool.or_false]
set_option maxHeartbeats 16000000 in
theorem minusTP : GenOK Tryd.prog G0 99 gMinus := by
  refine gen_of_avcD (C := CMn) sigCMn mixCMn [] Tryd.func99 rfl rfl rfl (by kernel_rfl) (fun avs H ob r H' hp hob => ?_)
  obtain ⟨L, t, K, ⟨a, f, b⟩, hL, hS, _, rfl, rfl, rfl, rfl⟩ := tabG_inv hp
  clear hp hob ob
  refine ⟨(by show 4 ≤ _; decide), ?_⟩
  have G := getT hL hS
  have gp := G.p
  have gl0 := G.l0
  have gl := G.l
  have sl0 := G.sl0
  have sl := G.sl
  have bs := hS.bas
  simp only [aMinus]
  have em := mul_ofO f b
  have sp := fun X => G.sp X { t with over := true } rfl rfl rfl
  have ts := tC_so (L := L) bs true
  cases hm : mulO f b with
  | none =>
    have e1 : mnP a f b = (F01, true) := by unfold mnP mnO; rw [hm]
    rw [hm] at em
    simp [argsρ, put_len, gl0, gl, sl0, sl, gp, sp, ts, sMulF, em, ofO, F00, F01, e1, orT_true]
    exact tab_drop hL (by simp [AV.cleanF, AV.clean2, AV.clean1])
  | some p =>
    rw [hm] at em
    have hI := mulO_I64 hm
    have es := sub_ofO a p
    cases hs : subO a p with
    | none =>
      have e1 : mnP a f b = (F01, true) := by unfold mnP mnO; rw [hm]; simp only; rw [hs]
      rw [hs] at es
      simp [argsρ, put_len, gl0, gl, sl0, sl, gp, sp, ts, sMulF, sSubF, em, es, hI, ofO, F00, F01, e1, orT_true]
      exact tab_drop hL (by simp [AV.cleanF, AV.clean2, AV.clean1])
    | some d =>
      have e1 : mnP a f b = (d, false) := by unfold mnP mnO; rw [hm]; simp only; rw [hs]
      rw [hs] at es
      simp [argsρ, put_len, gl0, gl, sl0, sl, gp, sp, ts, sMulF, sSubF, em, es, hI, ofO, F00, F01, e1, orT_false]
      exact tab_drop hL (by simp [AV.cleanF, AV.clean2, AV.clean1])

/-! ### A row less a multiple of another -/
theorem nodup_inj {l : List Nat} (h : l.Nodup) {a b : Nat} (ha : a < l.length) (hb : b < l.length) (e : l[a] = l[b]) : a = b := by
  have hp := List.pairwise_iff_getElem.1 h
  rcases Nat.lt_trichotomy a b with c | c | c
  · exact absurd e (hp a b ha hb c)
  · exact c
  · exact absurd e.symm (hp b a hb ha c)
def tgtI (L : Lay) : Option Nat → Nat
  | some k => ix L.r k
  | none => L.c.getD 0
structure ClrX where
  tgt : Option Nat
  f : Fr
  i : Nat
def aClear : Lay → Tab → ClrX → List AV := fun L t x => [.own (tgtI L x.tgt) (t.w + 1), Enc.enc x.f, .own (ix L.r x.i) (t.w + 1)]
structure PreClr (L : Lay) (t : Tab) (x : ClrX) : Prop where
  i : x.i < t.m
  row : ∀ k, x.tgt = some k → k < t.m ∧ k ≠ x.i
  cost : x.tgt = none → t.cost.length = t.w + 1
def tgtR (t : Tab) : Option Nat → List Fr
  | some k => ix t.rows k
  | none => t.cost
def setTgt (t : Tab) (g : Option Nat) (r : List Fr) : Tab := match g with
  | some k => { t with rows := t.rows.set k r }
  | none => { t with cost := r }
/-- After k elements. -/
def clrK (t : Tab) (x : ClrX) (k : Nat) : Tab := orT (setTgt t x.tgt (mixF k (fun j => (mnP (ix (tgtR t x.tgt) j) x.f (ix (ix t.rows x.i) j)).1) (tgtR t x.tgt))) (anyK k fun j => (mnP (ix (tgtR t x.tgt) j) x.f (ix (ix t.rows x.i) j)).2)
def clrT (t : Tab) (x : ClrX) : Tab := clrK t x (t.w + 1)
noncomputable def gClear := tabG aClear PreClr (fun _ _ => .tup []) clrT
theorem setTgt_rows (t : Tab) (g : Option Nat) (r : List Fr) : (setTgt t g r).rows.length = t.rows.length := by cases g <;> simp [setTgt]
theorem okClear : TabOK aClear PreClr clrT where
  inj := fun {L t K x x'} hL hS h h' e => by
    obtain ⟨g, f, i⟩ := x
    obtain ⟨g', f', i'⟩ := x'
    unfold aClear at e
    simp only [List.cons.injEq, AV.own.injEq, and_true] at e
    obtain ⟨e1, e2, e3⟩ := e
    have ii : ∀ {a b : Nat}, a < L.r.length → b < L.r.length → ix L.r a = ix L.r b → a = b := fun ha hb hab => by
      rw [ix_lt ha, ix_lt hb] at hab
      exact nodup_inj hL.nd ha hb hab
    have hi := h.i
    have hi' := h'.i
    have er := hS.r
    have e3 := ii (by rw [er]; exact hi) (by rw [er]; exact hi') e3
    have eg : g = g' := by
      cases g with
      | none =>
        cases g' with
        | none => rfl
        | some k' =>
          rcases hS.cost with ⟨h1, h2⟩ | ⟨⟨c, h1⟩, h2⟩
          · have := h.cost rfl
            rw [h2] at this
            simp at this
          · have e1 : L.c.getD 0 = ix L.r k' := e1
            rw [h1] at e1
            exact absurd (by rw [show c = ix L.r k' from e1]; exact ix_mem (by rw [er]; exact (h'.row k' rfl).1)) (hL.cr c h1)
      | some k =>
        cases g' with
        | none =>
          rcases hS.cost with ⟨h1, h2⟩ | ⟨⟨c, h1⟩, h2⟩
          · have := h'.cost rfl
            rw [h2] at this
            simp at this
          · have e1 : ix L.r k = L.c.getD 0 := e1
            rw [h1] at e1
            exact absurd (by rw [show c = ix L.r k from e1.symm]; exact ix_mem (by rw [er]; exact (h.row k rfl).1)) (hL.cr c h1)
        | some k' => rw [ii (by rw [er]; exact (h.row k rfl).1) (by rw [er]; exact (h'.row k' rfl).1) e1]
    rw [eg, cells_inj e2, e3]
  rows := fun {L t x} s h => by
    show (setTgt t x.tgt _).rows.length = t.m
    rw [setTgt_rows]
    exact s.m
end Go.Proofs.YtfoipbjhaiimlaaDoor


/-
  layer 30: clear — a row less a multiple of another.
-/
namespace Go.Proofs.YtfoipbjhaiimlaaDoor
open Go.RowKit
set_option linter.unusedSimpArgs false
set_option linter.unusedVariables false
set_option maxRecDepth 100000

section
variable {L : Lay} {K : List Blk} {t : Tab}
theorem cost_some (hS : Shape L t) (h : t.cost.length = t.w + 1) : ∃ c, L.c = some c := by
  rcases hS.cost with ⟨h1, h2⟩ | ⟨h1, _⟩
  · rw [h2] at h
    simp at h
  · exact h1
theorem tgt_get (hL : Lens L K) (hS : Shape L t) {g : Option Nat} (hg : ∀ k, g = some k → k < t.m) (hn : g = none → t.cost.length = t.w + 1) (X : List Blk) : (putT L t K ++ X)[tgtI L g]? = some ⟨30, 2, encRows (tgtR t g), true, true⟩ := by
  cases g with
  | none =>
    obtain ⟨c, hc⟩ := cost_some hS (hn rfl)
    show (putT L t K ++ X)[L.c.getD 0]? = _
    rw [hc]
    exact (getT hL hS).c X c hc
  | some k => exact (getT hL hS).r X k (hg k rfl)
theorem tgt_set (hL : Lens L K) (hS : Shape L t) {g : Option Nat} (hg : ∀ k, g = some k → k < t.m) (hn : g = none → t.cost.length = t.w + 1) (X : List Blk) (r : List Fr) (hr : r.length = t.w + 1) : (putT L t K ++ X).set (tgtI L g) ⟨30, 2, encRows r, true, true⟩ = putT L (setTgt t g r) K ++ X := by
  cases g with
  | none =>
    obtain ⟨c, hc⟩ := cost_some hS (hn rfl)
    show (putT L t K ++ X).set (L.c.getD 0) _ = _
    rw [hc]
    exact (getT hL hS).sc X c r hc (by rw [hr, hn rfl])
  | some k => exact (getT hL hS).sr X k r (hg k rfl)
theorem shape_or (hS : Shape L t) (b : Bool) : Shape L (orT t b) := ⟨hS.m, hS.r, hS.n1, hS.n12, hS.m24, hS.row, hS.cost, hS.bas, hS.b64⟩
theorem shape_tgt (hS : Shape L t) {g : Option Nat} (hn : g = none → t.cost.length = t.w + 1) {r : List Fr} (hr : r.length = t.w + 1) : Shape L (setTgt t g r) := by
  cases g with
  | none => exact ⟨hS.m, hS.r, hS.n1, hS.n12, hS.m24, hS.row, .inr ⟨cost_some hS (hn rfl), hr⟩, hS.bas, hS.b64⟩
  | some k => exact ⟨by show (t.rows.set k r).length = t.m; rw [List.length_set]; exact hS.m, hS.r, hS.n1, hS.n12, hS.m24, fun x hx => (List.mem_or_eq_of_mem_set hx).elim (hS.row x) (fun e => by rw [e]; exact hr), hS.cost, hS.bas, hS.b64⟩
theorem tgtR_len {x : ClrX} (hS : Shape L t) (h : PreClr L t x) : (tgtR t x.tgt).length = t.w + 1 := by
  cases hg : x.tgt with
  | none => exact h.cost hg
  | some k =>
    have hk := (h.row k hg).1
    exact hS.row _ (ix_mem (by rw [hS.m]; exact hk))
theorem clrK_shape {x : ClrX} (hS : Shape L t) (h : PreClr L t x) (k : Nat) : Shape L (clrK t x k) :=
  shape_or (shape_tgt hS h.cost (by rw [mixF_len, tgtR_len hS h])) _
theorem clrK_tgt {x : ClrX} (hS : Shape L t) (h : PreClr L t x) (k : Nat) : tgtR (clrK t x k) x.tgt = mixF k (fun j => (mnP (ix (tgtR t x.tgt) j) x.f (ix (ix t.rows x.i) j)).1) (tgtR t x.tgt) := by
  unfold clrK
  cases hg : x.tgt with
  | none => rfl
  | some q =>
    show ix (t.rows.set q _) q = _
    rw [ix_lt (by rw [List.length_set, hS.m]; exact (h.row q hg).1), List.getElem_set_self]
theorem clrK_by {x : ClrX} (hS : Shape L t) (h : PreClr L t x) (k : Nat) : ix (clrK t x k).rows x.i = ix t.rows x.i := by
  unfold clrK
  cases hg : x.tgt with
  | none => rfl
  | some q =>
    have hi := h.i
    show ix (t.rows.set q _) x.i = _
    rw [ix_lt (by rw [List.length_set, hS.m]; exact hi), List.getElem_set_ne (h.row q hg).2, ix_lt (by rw [hS.m]; exact hi)]
theorem clrK_zero (x : ClrX) : clrK t x 0 = t := by
  unfold clrK
  rw [mixF_zero, anyK_zero, orT_false]
  cases hg : x.tgt with
  | none => rfl
  | some q =>
    show { t with rows := t.rows.set q (ix t.rows q) } = t
    by_cases hq : q < t.rows.length
    · rw [ix_lt hq, List.set_getElem_self]
    · rw [List.set_eq_of_length_le (by omega)]
theorem clrK_succ {x : ClrX} (hS : Shape L t) (h : PreClr L t x) {k : Nat} (hk : k < t.w + 1) :
    setTgt (orT (clrK t x k) (mnP (ix (tgtR t x.tgt) k) x.f (ix (ix t.rows x.i) k)).2) x.tgt ((mixF k (fun j => (mnP (ix (tgtR t x.tgt) j) x.f (ix (ix t.rows x.i) j)).1) (tgtR t x.tgt)).set k (mnP (ix (tgtR t x.tgt) k) x.f (ix (ix t.rows x.i) k)).1) = clrK t x (k + 1) := by
  rw [mixF_set (g := fun j => (mnP (ix (tgtR t x.tgt) j) x.f (ix (ix t.rows x.i) j)).1) (v := (mnP (ix (tgtR t x.tgt) k) x.f (ix (ix t.rows x.i) k)).1) rfl (by rw [tgtR_len hS h]; exact hk)]
  unfold clrK
  rw [anyK_succ]
  cases hg : x.tgt with
  | none => unfold setTgt orT; simp [Bool.or_assoc]
  | some q => unfold setTgt orT; simp [Bool.or_assoc]
end
theorem minus_call {L : Lay} {K : List Blk} {t : Tab} (hL : Lens L K) (hS : Shape L t) (a f b : Fr) (X : List Blk) (hX : ∀ b ∈ X, b.deep = true) : gMinus [.ptr L.p 1 29 0 0, .agg [.int .i64 a.N, .int .i64 a.D], .agg [.int .i64 f.N, .int .i64 f.D], .agg [.int .i64 b.N, .int .i64 b.D]] (putT L t K ++ X) = some (True, .agg [.int .i64 (mnP a f b).1.N, .int .i64 (mnP a f b).1.D], putT L (orT t (mnP a f b).2) K ++ X) :=
  tabG_call okMinus (x := (a, f, b)) hL hS trivial X hX
noncomputable def CCl : Ctx := mkC Tryd.prog G0 [(104, .pure sMulF), (99, .gen gMinus)]
@[simp] theorem CCl_P : CCl.P = Tryd.prog := rfl
@[simp] theorem CCl_G : CCl.G = G0 := rfl
@[simp] theorem CCl_1 : CCl.S 104 = .pure sMulF := rfl
@[simp] theorem CCl_2 : CCl.S 99 = .gen gMinus := rfl
theorem mixCCl : CCl.P.follows .mixedOrders = true := mixed
theorem sigCCl : SigOK CCl := sigOK_cons (entryPure (mulP) Tryd.func104 rfl (by decide)) (sigOK_cons (entryGen (minusTP) Tryd.func99 rfl (by decide)) (sigOK_nil _ _))
set_option maxHeartbeats 16000000 in
theorem clearTP : GenOK Tryd.prog G0 95 gClear := by
  refine gen_of_avcD (C := CCl) sigCCl mixCCl [4] Tryd.func95 rfl rfl rfl (by kernel_rfl) (fun avs H ob r H' hp hob => ?_)
  obtain ⟨L, t, K, x, hL, hS, hx, rfl, rfl, rfl, rfl⟩ := tabG_inv hp
  clear hp hob ob
  refine ⟨(by show 4 ≤ _; decide), ?_⟩
  simp only [aClear]
  have G := getT hL hS
  have gl0 := G.l0
  have gl := G.l
  have hw : t.w ≤ 36 := by have := hS.n12; have := hS.m24; unfold Tab.w; omega
  simp [argsρ, put_len, gl0, gl]
  refine loop_ruleH (C := CCl) sigCCl mixCCl [4] (fun k : Nat => ⟨[(0, .ptr L.p 1 29 0 0), (1, .own (tgtI L x.tgt) (t.w + 1)), (3, .own (ix L.r x.i) (t.w + 1)), (6, .ptr K.length 1 2 0 0), (10, .int .i64 ((t.w : Int) + 1)), (11, .int .i64 k)], putT L (clrK t x k) K ++ [FB x.f]⟩) (fun k => k ≤ t.w + 1) (fun k => t.w + 1 - k) (by kernel_rfl) ⟨0, by simp, weak_eq (by simp) (by rw [clrK_zero]; rfl)⟩ (fun k hk => ?_)
  have hS' := clrK_shape hS hx k
  have G := getT hL hS'
  have gl0 := G.l0
  have gl := G.l
  by_cases hkl : k < t.w + 1
  · have i2 : I64 ((k : Int) + 1) := by unfold I64; omega
    have hkl' : (k : Int) < (t.w : Int) + 1 := by omega
    have ww : (clrK t x k).w = t.w := by unfold clrK; cases x.tgt <;> rfl
    have hcost : x.tgt = none → (clrK t x k).cost.length = (clrK t x k).w + 1 := fun hg => by
      have := hx.cost hg
      unfold clrK orT setTgt
      rw [hg]
      show (mixF _ _ _).length = _
      rw [mixF_len]
      exact this
    have tg := tgt_get (g := x.tgt) hL hS' (fun q hq => by have := (hx.row q hq).1; unfold clrK; cases x.tgt <;> exact this) hcost
    rw [clrK_tgt hS hx] at tg
    have gr := G.r
    have gi := fun X => gr X x.i (by have := hx.i; unfold clrK; cases x.tgt <;> exact this)
    simp only [clrK_by hS hx] at gi
    simp [FB, put_len, gl0, gl, hkl', tg, gi]
    refine AW_regionF sigCCl mixCCl [.pure, .pure, .pure, .pure, .pure, .pure, .read, .read, .pure, .pure, .pure, .read, .eff, .pure, .eff] [[],[],[],[],[],[4,3],[3,4,5],[],[],[],[9,8],[8,9,10],[10,9,8,11,7,5,4,3,6,2],[12,11,10,9,8,7,6,5,4,3,2,1,0],[0,1,2,3,4,5,6,7,8,9,10,11,12,13]] (by kernel_rfl) (by kernel_rfl) (by kernel_rfl) (by kernel_rfl) ?_
    have hrow : (ix t.rows x.i).length = t.w + 1 := hS.row _ (ix_mem (by rw [hS.m]; exact hx.i))
    have hm1 := mixF_len k (fun j => (mnP (ix (tgtR t x.tgt) j) x.f (ix (ix t.rows x.i) j)).1) (tgtR t x.tgt)
    have hm2 := tgtR_len hS hx
    have hmx := mixF_ix (k := k) (g := fun j => (mnP (ix (tgtR t x.tgt) j) x.f (ix (ix t.rows x.i) j)).1) (show k < (tgtR t x.tgt).length by omega)
    rw [if_neg (Nat.lt_irrefl k)] at hmx
    have hcall := minus_call hL hS' (ix (tgtR t x.tgt) k) x.f (ix (ix t.rows x.i) k) [FB x.f] (by simp [FB])
    simp only [FB] at hcall
    obtain ⟨M, hM⟩ : ∃ M, mnP (ix (tgtR t x.tgt) k) x.f (ix (ix t.rows x.i) k) = M := ⟨_, rfl⟩
    have hstep := clrK_succ hS hx hkl
    rw [hM] at hcall hstep
    have hSo := shape_or hS' M.2
    have tgm : ∀ q, x.tgt = some q → q < (clrK t x k).m := fun q hq => by have := (hx.row q hq).1; unfold clrK; cases x.tgt <;> exact this
    have tg2 : ∀ X, (putT L (orT (clrK t x k) M.2) K ++ X)[tgtI L x.tgt]? = some ⟨30, 2, encRows (mixF k (fun j => (mnP (ix (tgtR t x.tgt) j) x.f (ix (ix t.rows x.i) j)).1) (tgtR t x.tgt)), true, true⟩ := fun X => by
      rw [tgt_get (g := x.tgt) hL hSo tgm hcost, ← clrK_tgt hS hx k]
      cases x.tgt <;> rfl
    have ts2 := fun X r hr => tgt_set (g := x.tgt) hL hSo tgm hcost X r hr
    simp [FB, put_len, gl0, gl, hkl', tg, gi, hrow, hm1, hm2, hmx, rowAt_enc, hkl, hcall, tg2, i2]
    refine ⟨k + 1, by omega, by omega, weak_eq (by simp) ?_⟩
    rw [ts2 _ _ (by rw [List.length_set, hm1, hm2]; exact congrArg (· + 1) ww.symm), hstep]
  · have hke : k = t.w + 1 := by omega
    subst hke
    simp [put_len, gl0, gl]
    exact tab_drop hL (by simp [AV.cleanF, AV.clean2, AV.clean1])
end Go.Proofs.YtfoipbjhaiimlaaDoor
