/-
  Texts joined: F2 F3 F4 F5 AmK F6 F7 F8 F9 F10 F11 F12 F13 F14 F15 F16 G1 G2 G3 G4 G5 G6 G7 G8 G9 G10.
-/
import Derived.Test.YtfoipbjhaiimlaaGreatDoorW3
import Derived.Laws.Externs
import Derived.Lib.Mul64

/-
  layers 1 and 3: range, absolute value, divisor, product of integers; the program's side.
-/
namespace Go.Proofs.YtfoipbjhaiimlaaGreatDoor
open Go.RowKit
set_option linter.unusedSimpArgs false
set_option linter.unusedVariables false
set_option maxRecDepth 100000

theorem em2 (p : Prop) : (p = True) ∨ (p = False) := by
  by_cases h : p
  · exact .inl (eq_true h)
  · exact .inr (eq_false h)
/-- The package's variables: the fraction 0. -/
def G0 : Nat → AV := fun g => if g = 0 then .iptr [.int .i64 0, .int .i64 1] else .undef
@[simp] theorem G0_0 : G0 0 = .iptr [.int .i64 0, .int .i64 1] := rfl
@[simp] theorem G0_1 : G0 1 = .undef := rfl
@[simp] theorem G0_2 : G0 2 = .undef := rfl
noncomputable def CE : Ctx := mkC Tryz.prog G0 []
@[simp] theorem CE_P : CE.P = Tryz.prog := rfl
@[simp] theorem CE_G : CE.G = G0 := rfl
theorem mixCE : CE.P.follows .mixedOrders = true := mixed
theorem sigCE : SigOK CE := sigOK_nil _ _

def sIn : List AV → Option (Prop × AV) := spec1 (fun (_ : Int) => True) (fun n => .bool (decide (InR n)))
theorem inP : PureOK Tryz.prog G0 95 sIn := by
  refine pure1 (C := CE) sigCE mixCE Tryz.func95 rfl rfl rfl (by kernel_rfl) (by decide) (fun n _ => ?_)
  by_cases h1 : -1000000000000000 ≤ n
  · by_cases h2 : n ≤ 1000000000000000
    · simp [h1, h2, InR]
    · simp [h1, h2, InR]
  · simp [h1, InR]
def absI (n : Int) : Int := n.natAbs
theorem absI_pos {n : Int} (h : 0 ≤ n) : absI n = n := by unfold absI; omega
theorem absI_neg {n : Int} (h : n ≤ 0) : absI n = -n := by unfold absI; omega
theorem absI_nn (n : Int) : 0 ≤ absI n := by unfold absI; omega
theorem absI_R {n : Int} (h : InR n) : 0 ≤ absI n ∧ absI n ≤ 1000000000000000 := by unfold InR at h; unfold absI; omega
def sAbs : List AV → Option (Prop × AV) := spec1 (fun (n : Int) => InR n) (fun n => .int .i64 (absI n))
theorem absP : PureOK Tryz.prog G0 127 sAbs := by
  refine pure1 (C := CE) sigCE mixCE Tryz.func127 rfl rfl rfl (by kernel_rfl) (by decide) (fun n h => ?_)
  unfold InR at h
  by_cases h1 : 0 ≤ n
  · have e := absI_pos h1
    have i1 : IntKind.wrap .i64 (-n) = -n := IntWalk.i64_in _ (by omega)
    have n1 : ¬ n < -n := by omega
    simp [e, i1, n1]
  · have e := absI_neg (n := n) (by omega)
    have i1 : IntKind.wrap .i64 (-n) = -n := IntWalk.i64_in _ (by omega)
    have n1 : n < -n := by omega
    simp [e, i1, n1]

noncomputable def CN : Ctx := mkC Tryz.prog G0 [(95, .pure sIn), (127, .pure sAbs)]
@[simp] theorem CN_P : CN.P = Tryz.prog := rfl
@[simp] theorem CN_G : CN.G = G0 := rfl
@[simp] theorem CN_1 : CN.S 95 = .pure sIn := rfl
@[simp] theorem CN_2 : CN.S 127 = .pure sAbs := rfl
theorem mixCN : CN.P.follows .mixedOrders = true := mixed
theorem sigCN : SigOK CN := sigOK_cons (entryPure (inP) Tryz.func95 rfl (by decide)) (sigOK_cons (entryPure (absP) Tryz.func127 rfl (by decide)) (sigOK_nil _ _))
def gcdI (a b : Int) : Int := if InR a ∧ InR b then Int.gcd a b else 0
theorem gcd_step {a b : Int} (hb : 0 < b) (ha : 0 ≤ a) : Int.gcd b (a.tmod b) = Int.gcd a b := by
  rw [Int.tmod_eq_emod_of_nonneg ha]
  unfold Int.gcd
  rw [Int.natAbs_emod_of_nonneg ha, Nat.gcd_comm a.natAbs, Nat.gcd_rec b.natAbs a.natAbs, Nat.gcd_comm]
def sGcd : List AV → Option (Prop × AV) := spec2 (fun (_ _ : Int) => True) (fun a b => .int .i64 (gcdI a b))
set_option maxHeartbeats 4000000 in
theorem gcdP : PureOK Tryz.prog G0 96 sGcd := by
  refine pure2 (C := CN) sigCN mixCN Tryz.func96 rfl rfl rfl (by kernel_rfl) (by decide) (fun a b _ => ?_)
  by_cases h1 : InR a
  case neg => simp [sIn, h1, gcdI]
  by_cases h2 : InR b
  case neg => simp [sIn, h1, h2, gcdI]
  have e : gcdI a b = Int.gcd (absI a) (absI b) := by
    unfold gcdI absI
    rw [if_pos ⟨h1, h2⟩]
    rfl
  rw [e]
  have a1 := absI_R h1
  have b1 := absI_R h2
  simp [sIn, sAbs, h1, h2]
  refine loop_rule (C := CN) sigCN mixCN (fun q : Int × Int => ⟨[(0, .int .i64 q.1), (1, .int .i64 q.2), (4, .int .i64 0)], []⟩) (fun q => 0 ≤ q.1 ∧ 0 ≤ q.2 ∧ q.2 ≤ 1000000000000000 ∧ Int.gcd q.1 q.2 = Int.gcd (absI a) (absI b)) (fun q => q.2.toNat) (by kernel_rfl) ⟨(absI a, absI b), ⟨a1.1, b1.1, b1.2, rfl⟩, weak_slots (by simp)⟩ (fun ⟨u, v⟩ ⟨p1, p2, p3, p4⟩ => ?_)
  simp only at p1 p2 p3 p4 ⊢
  by_cases hv : v = 0
  · subst hv
    rw [Int.gcd_zero_right] at p4
    have e2 : u = Int.gcd (absI a) (absI b) := by omega
    simp [e2]
  · have hv' : 0 < v := by omega
    have m1 := Int.emod_nonneg u hv
    have m2 := Int.emod_lt_of_pos u hv'
    have m3 := gcd_step hv' p1
    rw [Int.tmod_eq_emod_of_nonneg p1] at m3
    have e3 := Int.tmod_eq_emod_of_nonneg (b := v) p1
    simp [hv, e3]
    exact ⟨v, u % v, ⟨p2, m1, by omega, by omega⟩, by omega, weak_slots (by simp)⟩

/-- The product, where it is in range. -/
def mulI (a b : Int) : Int × Bool := if InR a ∧ InR b ∧ InR (a * b) then (a * b, true) else (0, false)
theorem mulI_yes {a b : Int} (h1 : InR a) (h2 : InR b) (h3 : InR (a * b)) : mulI a b = (a * b, true) := if_pos ⟨h1, h2, h3⟩
theorem mulI_no {a b : Int} (h : ¬ (InR a ∧ InR b ∧ InR (a * b))) : mulI a b = (0, false) := if_neg h
theorem quo_in {a b : Int} (ha : InR a) (hb : InR b) (h0 : a ≠ 0) : (absI b ≤ (1000000000000000 : Int).tdiv (absI a)) ↔ InR (a * b) := by
  have a1 := absI_R ha
  have pa : 0 < absI a := by unfold absI; omega
  rw [Int.tdiv_eq_ediv_of_nonneg (by decide), Int.le_ediv_iff_mul_le pa]
  have e : absI b * absI a = absI (a * b) := by
    unfold absI
    rw [Int.natAbs_mul, Int.natCast_mul, Int.mul_comm]
  rw [e]
  unfold absI InR
  omega
theorem quo_I64 {a : Int} (h0 : a ≠ 0) : I64 ((1000000000000000 : Int).tdiv (absI a)) := by
  have pa : 0 < absI a := by unfold absI; omega
  rw [Int.tdiv_eq_ediv_of_nonneg (by decide)]
  have h1 := Int.ediv_nonneg (a := 1000000000000000) (b := absI a) (by decide) (by omega)
  have h2 := Int.ediv_le_self (a := 1000000000000000) (absI a) (by decide)
  unfold I64
  omega
def sMulI : List AV → Option (Prop × AV) := spec2 (fun (_ _ : Int) => True) (fun a b => .tup [.int .i64 (mulI a b).1, .bool (mulI a b).2])
set_option maxHeartbeats 4000000 in
theorem mulIP : PureOK Tryz.prog G0 162 sMulI := by
  refine pure2 (C := CN) sigCN mixCN Tryz.func162 rfl rfl rfl (by kernel_rfl) (by decide) (fun a b _ => ?_)
  by_cases h1 : InR a
  case neg =>
    have e := mulI_no (a := a) (b := b) (fun h => h1 h.1)
    simp [sIn, h1, e]
  by_cases h2 : InR b
  case neg =>
    have e := mulI_no (a := a) (b := b) (fun h => h2 h.2.1)
    simp [sIn, h1, h2, e]
  by_cases h0 : a = 0
  · have e := mulI_yes h1 h2 (by rw [h0, Int.zero_mul]; decide)
    subst h0
    rw [Int.zero_mul] at e
    have i0 : I64 (0 : Int) := by unfold I64; omega
    simp [sIn, sAbs, h1, h2, e, i0]
  have i1 := quo_I64 h0
  have q := quo_in h1 h2 h0
  have z : absI a ≠ 0 := by unfold absI; omega
  have z' : ¬ absI a = 0 := z
  by_cases h3 : InR (a * b)
  · have e := mulI_yes h1 h2 h3
    have n1 : ¬ (1000000000000000 : Int).tdiv (absI a) < absI b := by have := q.2 h3; omega
    have i2 : I64 (a * b) := by unfold InR at h3; unfold I64; omega
    simp [sIn, sAbs, h1, h2, h0, i1, n1, i2, e, z']
  · have e := mulI_no (a := a) (b := b) (fun h => h3 h.2.2)
    have n1 : (1000000000000000 : Int).tdiv (absI a) < absI b := by
      have := mt q.1 h3
      omega
    simp [sIn, sAbs, h1, h2, h0, i1, n1, e, z']

def sSizeP : List AV → Option (Prop × AV) := spec1 (fun (n : Int) => InR n) (fun n => .int .u64 (absI n))
theorem sizeP : PureOK Tryz.prog G0 169 sSizeP := by
  refine pure1 (C := CE) sigCE mixCE Tryz.func169 rfl rfl rfl (by kernel_rfl) (by decide) (fun n h => ?_)
  unfold InR at h
  by_cases h1 : n < 0
  · have e := absI_neg (n := n) (by omega)
    have i1 : IntKind.wrap .u64 (-(IntKind.wrap .u64 n)) = -n := by rw [IntKind.wrap_u64, IntKind.wrap_u64]; omega
    simp [e, i1, h1]
  · have e := absI_pos (n := n) (by omega)
    have i1 : IntKind.wrap .u64 n = n := by rw [IntKind.wrap_u64]; omega
    simp [e, i1, h1]
end Go.Proofs.YtfoipbjhaiimlaaGreatDoor


/-
  layer 3: the words of the library: sums with carry, the long product, the length.
-/
namespace Go.Proofs.YtfoipbjhaiimlaaGreatDoor
open Go.RowKit
set_option linter.unusedSimpArgs false
set_option linter.unusedVariables false
set_option maxRecDepth 100000

/-- A word. -/
def W64 (x : Int) : Prop := 0 ≤ x ∧ x < 18446744073709551616
def sAdd64 : List AV → Option (Prop × AV)
  | [.int .u64 x, .int .u64 y, .int .u64 c] => some (W64 x ∧ W64 y ∧ (c = 0 ∨ c = 1), .tup [.int .u64 ((x + y + c) % 18446744073709551616), .int .u64 ((x + y + c) / 18446744073709551616)])
  | _ => none
def sSub64 : List AV → Option (Prop × AV)
  | [.int .u64 x, .int .u64 y, .int .u64 c] => some (W64 x ∧ W64 y ∧ (c = 0 ∨ c = 1), .tup [.int .u64 ((x - y - c) % 18446744073709551616), .int .u64 (if x < y + c then 1 else 0)])
  | _ => none
theorem repD_intv {w : World} {X : Nat → Prop} {v : Value} {k : IntKind} {n : Int} (h : RepD w X v (.int k n)) : v = .int k n := by cases h; rfl
theorem repD_pair {w : World} {X : Nat → Prop} (k k' : IntKind) (a b : Int) : RepD w X (.tuple #[.int k a, .int k' b]) (.tup [.int k a, .int k' b]) :=
  .tup #[.int k a, .int k' b] [.int k a, .int k' b] (fun i => if i = 0 then .int k a else .int k' b) rfl (fun j hj => by
    match j, hj with
    | 0, _ => rfl
    | 1, _ => rfl
    | j + 2, hj => simp at hj; omega) (fun j v hj => by
    match j, hj with
    | 0, hj => obtain rfl : AV.int k a = v := by simpa using hj
               exact .int _ _
    | 1, hj => obtain rfl : AV.int k' b = v := by simpa using hj
               exact .int _ _
    | j + 2, hj => simp at hj)
theorem three_args {w : World} {X : Nat → Prop} {args : Array Value} {k : IntKind} {x y c : Int} (hsz : args.size = 3) (harg : ∀ (j : Nat) (u : AV), [AV.int k x, .int k y, .int k c][j]? = some u → ∃ v, args[j]? = some v ∧ RepD w X v u) : args = #[.int k x, .int k y, .int k c] := by
  obtain ⟨v0, a0, b0⟩ := harg 0 _ rfl
  obtain ⟨v1, a1, b1⟩ := harg 1 _ rfl
  obtain ⟨v2, a2, b2⟩ := harg 2 _ rfl
  rw [repD_intv b0] at a0
  rw [repD_intv b1] at a1
  rw [repD_intv b2] at a2
  apply Array.ext'
  match args, hsz with
  | ⟨[p, q, r]⟩, _ => simp at a0 a1 a2; simp [a0, a1, a2]
theorem add64X : ExtOK Tryz.prog 170 sAdd64 := by
  intro w X args avs ob r hsz harg hp hob
  unfold sAdd64 at hp
  split at hp
  · rename_i x y c
    injection hp with hp; injection hp with e1 e2; subst e1 e2
    obtain ⟨⟨x0, x1⟩, ⟨y0, y1⟩, hc⟩ := hob
    rw [three_args hsz harg]
    obtain ⟨x, rfl⟩ := Int.eq_ofNat_of_zero_le x0
    obtain ⟨y, rfl⟩ := Int.eq_ofNat_of_zero_le y0
    obtain ⟨c, rfl⟩ := Int.eq_ofNat_of_zero_le (a := c) (by omega)
    refine ⟨_, ?_, repD_pair _ _ _ _⟩
    rw [run_callFunc_extern Tryz.func170 (by kernel_rfl) (by kernel_rfl) (by kernel_rfl) (e := add64Entry) (by kernel_rfl), run_add64 x y c (by omega) (by omega) (by omega) (by omega)]
    simp only [Result.andThen]
  · cases hp
def sub64Entry : Array Value → Sem Value := fun args => do
  let (x, y, b) ← Extern.MathBitsCarry.three "Sub64" args
  pure (Extern.MathBitsCarry.pair ((x + Extern.MathBitsCarry.m64 - y - b) % Extern.MathBitsCarry.m64) (if x < y + b then 1 else 0))
theorem run_sub64 (x y b : Nat) (hb : b ≤ 1) (P : Program) (w : World) :
    (sub64Entry #[.int .u64 x, .int .u64 y, .int .u64 b]).run P w =
      .ok (.tuple #[.int .u64 (((x + 18446744073709551616 - y - b) % 18446744073709551616 : Nat) : Int), .int .u64 ((if x < y + b then 1 else 0 : Nat) : Int)]) w := by
  have : b = 0 ∨ b = 1 := by omega
  rcases this with rfl | rfl <;> rfl
theorem sub64X : ExtOK Tryz.prog 172 sSub64 := by
  intro w X args avs ob r hsz harg hp hob
  unfold sSub64 at hp
  split at hp
  · rename_i x y c
    injection hp with hp; injection hp with e1 e2; subst e1 e2
    obtain ⟨⟨x0, x1⟩, ⟨y0, y1⟩, hc⟩ := hob
    rw [three_args hsz harg]
    obtain ⟨x, rfl⟩ := Int.eq_ofNat_of_zero_le x0
    obtain ⟨y, rfl⟩ := Int.eq_ofNat_of_zero_le y0
    obtain ⟨c, rfl⟩ := Int.eq_ofNat_of_zero_le (a := c) (by omega)
    refine ⟨_, ?_, repD_pair _ _ _ _⟩
    rw [run_callFunc_extern Tryz.func172 (by kernel_rfl) (by kernel_rfl) (by kernel_rfl) (e := sub64Entry) (by kernel_rfl), run_sub64 x y c (by omega)]
    simp only [Result.andThen]
    have e1 : (((x + 18446744073709551616 - y - c) % 18446744073709551616 : Nat) : Int) = ((x : Int) - y - c) % 18446744073709551616 := by omega
    have e2 : ((if x < y + c then 1 else 0 : Nat) : Int) = if (x : Int) < y + c then 1 else 0 := by split <;> split <;> omega
    rw [e1, e2]
  · cases hp

theorem and32 {a : Int} (h : W64 a) : bits2 .and .u64 a 4294967295 = a % 4294967296 := by
  obtain ⟨h1, h2⟩ := h
  obtain ⟨a, rfl⟩ := Int.eq_ofNat_of_zero_le h1
  show IntKind.wrap .u64 ((BitVec.ofInt 64 (a : Int) &&& BitVec.ofInt 64 ((4294967295 : Nat) : Int)).toNat : Int) = _
  rw [BitVec.ofInt_natCast, BitVec.ofInt_natCast, BitVec.toNat_and, BitVec.toNat_ofNat, BitVec.toNat_ofNat, Nat.mod_eq_of_lt (by omega), show 4294967295 % 2 ^ 64 = 2 ^ 32 - 1 by decide, Nat.and_two_pow_sub_one_eq_mod, IntKind.wrap_u64]
  omega
theorem or_zero_iff {a b : Int} (ha : W64 a) (hb : W64 b) : bits2 .or .u64 a b = 0 ↔ a = 0 ∧ b = 0 := by
  obtain ⟨h1, h2⟩ := ha
  obtain ⟨h3, h4⟩ := hb
  obtain ⟨a, rfl⟩ := Int.eq_ofNat_of_zero_le h1
  obtain ⟨b, rfl⟩ := Int.eq_ofNat_of_zero_le h3
  show IntKind.wrap .u64 ((BitVec.ofInt 64 (a : Int) ||| BitVec.ofInt 64 (b : Int)).toNat : Int) = _ ↔ _
  rw [BitVec.ofInt_natCast, BitVec.ofInt_natCast]
  have hlt := (BitVec.ofNat 64 a ||| BitVec.ofNat 64 b).isLt
  have e : IntKind.wrap .u64 ((BitVec.ofNat 64 a ||| BitVec.ofNat 64 b).toNat : Int) = 0 ↔ (BitVec.ofNat 64 a ||| BitVec.ofNat 64 b) = 0#64 := by
    rw [IntKind.wrap_u64, ← BitVec.toNat_inj]
    simp only [BitVec.toNat_ofNat]
    omega
  rw [e, BitVec.or_eq_zero_iff, ← BitVec.toNat_inj, ← BitVec.toNat_inj]
  simp only [BitVec.toNat_ofNat]
  omega
theorem or_add {a b : Int} (ha : W64 a) (hb : W64 b) (k : Nat) (hk : k ≤ 64) (h1 : a % 2 ^ k = 0) (h2 : b < 2 ^ k) : bits2 .or .u64 a b = a + b := by
  obtain ⟨h3, h4⟩ := ha
  obtain ⟨h5, h6⟩ := hb
  obtain ⟨a, rfl⟩ := Int.eq_ofNat_of_zero_le h3
  obtain ⟨b, rfl⟩ := Int.eq_ofNat_of_zero_le h5
  have h2' : b < 2 ^ k := by
    have : ((2 ^ k : Nat) : Int) = 2 ^ k := by simp
    omega
  have h1' : a % 2 ^ k = 0 := by
    have : ((a % 2 ^ k : Nat) : Int) = (a : Int) % 2 ^ k := by simp
    omega
  obtain ⟨c, hc⟩ := Nat.dvd_of_mod_eq_zero h1'
  show IntKind.wrap .u64 ((BitVec.ofInt 64 (a : Int) ||| BitVec.ofInt 64 (b : Int)).toNat : Int) = _
  rw [BitVec.ofInt_natCast, BitVec.ofInt_natCast, BitVec.toNat_or, BitVec.toNat_ofNat, BitVec.toNat_ofNat, Nat.mod_eq_of_lt (by omega), Nat.mod_eq_of_lt (by omega), hc, ← Nat.two_pow_add_eq_or_of_lt h2' c, ← hc, IntKind.wrap_u64]
  have hab : a + b < 18446744073709551616 := by
    have e64 : (18446744073709551616 : Nat) = 2 ^ k * 2 ^ (64 - k) := by rw [← Nat.pow_add, Nat.add_sub_cancel' hk]
    have hcl : c < 2 ^ (64 - k) := by
      have : 2 ^ k * c < 2 ^ k * 2 ^ (64 - k) := by rw [← hc, ← e64]; omega
      exact Nat.lt_of_mul_lt_mul_left this
    have : 2 ^ k * (c + 1) ≤ 2 ^ k * 2 ^ (64 - k) := Nat.mul_le_mul_left _ hcl
    rw [← e64, Nat.mul_succ, ← hc] at this
    omega
  omega
theorem wrapU' (a : Int) : IntKind.wrap .u64 a = a % 18446744073709551616 := IntKind.wrap_u64 a
theorem fd32 (a : Nat) : (a : Int).fdiv (2 ^ min 32 (IntKind.bits .u64)) = ((a / 4294967296 : Nat) : Int) := by
  show (a : Int).fdiv 4294967296 = _
  rw [Int.fdiv_eq_ediv_of_nonneg _ (by decide)]
  omega
theorem mod32 (a : Nat) : (a : Int) % 4294967296 = ((a % 4294967296 : Nat) : Int) := by omega
theorem mulN (a b : Nat) : (a : Int) * (b : Int) = ((a * b : Nat) : Int) := (Int.natCast_mul a b).symm
theorem addN (a b : Nat) : (a : Int) + (b : Int) = ((a + b : Nat) : Int) := (Int.natCast_add a b).symm
theorem wrapN (a : Nat) (ha : a < 18446744073709551616) : IntKind.wrap .u64 (a : Int) = (a : Int) := by rw [IntKind.wrap_u64]; omega
theorem and32N (a : Nat) (ha : a < 18446744073709551616) : bits2 .and .u64 (a : Int) 4294967295 = ((a % 4294967296 : Nat) : Int) := by
  rw [and32 ⟨by omega, by omega⟩, mod32]
def sMul64 : List AV → Option (Prop × AV)
  | [.int .u64 x, .int .u64 y] => some (W64 x ∧ W64 y, .tup [.int .u64 (x * y / 18446744073709551616), .int .u64 (x * y % 18446744073709551616)])
  | _ => none
theorem mul64P : PureOK Tryz.prog G0 129 sMul64 := by
  refine pure_of (C := CE) sigCE mixCE Tryz.func129 rfl rfl rfl (by kernel_rfl) (fun avs ob r hp hob => ?_)
  unfold sMul64 at hp
  split at hp
  case h_2 => cases hp
  rename_i x y
  injection hp with hp; injection hp with e1 e2; subst e1 e2
  obtain ⟨hx, hy⟩ := hob
  refine ⟨(by show 2 ≤ _; decide), ?_⟩
  obtain ⟨bd, bt, bw, hhi⟩ := Lib.mul64_hi x.toNat y.toNat (by have := hx.2; omega) (by have := hy.2; omega)
  have x0 := hx.1
  have y0 := hy.1
  obtain ⟨x, rfl⟩ := Int.eq_ofNat_of_zero_le x0
  obtain ⟨y, rfl⟩ := Int.eq_ofNat_of_zero_le y0
  have hx' : x < 18446744073709551616 := by have := hx.2; omega
  have hy' : y < 18446744073709551616 := by have := hy.2; omega
  simp only [Int.toNat_natCast] at bd bt bw hhi
  have ba := Lib.half_mul_le (a := x / 4294967296) (b := y / 4294967296) (by omega) (by omega)
  have bb := Lib.half_mul_le (a := x / 4294967296) (b := y % 4294967296) (by omega) (by omega)
  have bc := Lib.half_mul_le (a := x % 4294967296) (b := y / 4294967296) (by omega) (by omega)
  have ba' : x / 4294967296 * (y / 4294967296) < 18446744073709551616 := by omega
  have bb' : x / 4294967296 * (y % 4294967296) < 18446744073709551616 := by omega
  have bc' : x % 4294967296 * (y / 4294967296) < 18446744073709551616 := by omega
  have bh1 : x / 4294967296 * (y / 4294967296) + (x / 4294967296 * (y % 4294967296) + x % 4294967296 * (y % 4294967296) / 4294967296) / 4294967296 < 18446744073709551616 := by omega
  have bh : x / 4294967296 * (y / 4294967296) + (x / 4294967296 * (y % 4294967296) + x % 4294967296 * (y % 4294967296) / 4294967296) / 4294967296 + ((x / 4294967296 * (y % 4294967296) + x % 4294967296 * (y % 4294967296) / 4294967296) % 4294967296 + x % 4294967296 * (y / 4294967296)) / 4294967296 < 18446744073709551616 := by omega
  simp [argsρ]
  simp only [and32N x hx', and32N y hy', fd32, mulN, addN, wrapN _ bd, wrapN _ bb', wrapN _ bt, and32N _ bt, wrapN _ bc', wrapN _ bw, wrapN _ ba', wrapN _ bh1, wrapN _ bh]
  rw [hhi]
  refine ⟨by omega, by rw [IntKind.wrap_u64]⟩
end Go.Proofs.YtfoipbjhaiimlaaGreatDoor


/-
  layer 3: numbers of two words.
-/
namespace Go.Proofs.YtfoipbjhaiimlaaGreatDoor
open Go.RowKit
set_option linter.unusedSimpArgs false
set_option linter.unusedVariables false
set_option maxRecDepth 100000

def wideOf (neg : Bool) (m : Nat) : Wide := ⟨neg, ((m / 18446744073709551616 : Nat) : Int), ((m % 18446744073709551616 : Nat) : Int)⟩
def magW (x : Wide) : Nat := x.hi.toNat * 18446744073709551616 + x.lo.toNat
structure GoodW (x : Wide) : Prop where
  hi : 0 ≤ x.hi ∧ x.hi < 9223372036854775808
  lo : 0 ≤ x.lo ∧ x.lo < 18446744073709551616
@[simp] theorem mag_of (n : Bool) (m : Nat) : magW (wideOf n m) = m := by unfold magW wideOf; simp only [Int.toNat_natCast]; omega
@[simp] theorem neg_of (n : Bool) (m : Nat) : (wideOf n m).neg = n := rfl
theorem good_of {n : Bool} {m : Nat} (h : m < 170141183460469231731687303715884105728) : GoodW (wideOf n m) := ⟨by unfold wideOf; simp only; omega, by unfold wideOf; simp only; omega⟩

def prodF (a b : Int) : Wide := wideOf (decide (a < 0) != decide (b < 0)) (a.natAbs * b.natAbs)
theorem abs_mul_lt {a b : Int} (ha : InR a) (hb : InR b) : a.natAbs * b.natAbs ≤ 1000000000000000000000000000000 := by
  unfold InR at ha hb
  exact Nat.mul_le_mul (n₂ := 1000000000000000) (m₂ := 1000000000000000) (by omega) (by omega)
theorem good_prod {a b : Int} (ha : InR a) (hb : InR b) : GoodW (prodF a b) := good_of (by have := abs_mul_lt ha hb; omega)
noncomputable def CP : Ctx := mkC Tryz.prog G0 [(169, .pure sSizeP), (129, .pure sMul64)]
@[simp] theorem CP_P : CP.P = Tryz.prog := rfl
@[simp] theorem CP_G : CP.G = G0 := rfl
@[simp] theorem CP_1 : CP.S 169 = .pure sSizeP := rfl
@[simp] theorem CP_2 : CP.S 129 = .pure sMul64 := rfl
theorem mixCP : CP.P.follows .mixedOrders = true := mixed
theorem sigCP : SigOK CP := sigOK_cons (entryPure (sizeP) Tryz.func169 rfl (by decide)) (sigOK_cons (entryPure (mul64P) Tryz.func129 rfl (by decide)) (sigOK_nil _ _))
def sProd : List AV → Option (Prop × AV) := spec2 (fun (a b : Int) => InR a ∧ InR b) (fun a b => Enc.enc (prodF a b))
theorem W64_abs {a : Int} (h : InR a) : W64 (absI a) := by have := absI_R h; unfold W64; omega
theorem abs_mul (a b : Int) : absI a * absI b = ((a.natAbs * b.natAbs : Nat) : Int) := by unfold absI; rw [Int.natCast_mul]
theorem prodP : PureOK Tryz.prog G0 164 sProd := by
  refine pure2 (C := CP) sigCP mixCP Tryz.func164 rfl rfl rfl (by kernel_rfl) (by decide) (fun a b ⟨h1, h2⟩ => ?_)
  have w1 := W64_abs h1
  have w2 := W64_abs h2
  simp [sSizeP, sMul64, h1, h2, w1, w2, abs_mul, prodF, wideOf]
  cases decide (a < 0) <;> cases decide (b < 0) <;> rfl

def sLessW : List AV → Option (Prop × AV) := spec2 (fun (x y : Wide) => GoodW x ∧ GoodW y) (fun x y => .bool (decide (magW x < magW y)))
set_option maxHeartbeats 4000000 in
theorem lessWP : PureOK Tryz.prog G0 171 sLessW := by
  refine pure2 (C := CE) sigCE mixCE Tryz.func171 rfl rfl rfl (by kernel_rfl) (by decide) (fun x y ⟨⟨h1, h2⟩, ⟨h3, h4⟩⟩ => ?_)
  obtain ⟨xn, xh, xl⟩ := x
  obtain ⟨yn, yh, yl⟩ := y
  simp only at h1 h2 h3 h4
  unfold magW
  rcases em2 (xh < yh) with q1 | q1
  · have e : (xh.toNat * 18446744073709551616 + xl.toNat < yh.toNat * 18446744073709551616 + yl.toNat) = True := eq_true (by have := of_eq_true q1; omega)
    simp [q1, e]
  · rcases em2 (xh = yh) with q2 | q2
    · have e : (xh.toNat * 18446744073709551616 + xl.toNat < yh.toNat * 18446744073709551616 + yl.toNat) = (xl < yl) := propext (by have := of_eq_true q2; omega)
      simp [q1, q2, e]
    · have e : (xh.toNat * 18446744073709551616 + xl.toNat < yh.toNat * 18446744073709551616 + yl.toNat) = False := eq_false (by have := of_eq_false q2; have := of_eq_false q1; omega)
      simp [q1, q2, e]
def signW (x : Wide) : Int := if magW x = 0 then 0 else if x.neg then -1 else 1
def sSignW : List AV → Option (Prop × AV) := spec1 (fun (x : Wide) => GoodW x) (fun x => .int .i64 (signW x))
theorem signWP : PureOK Tryz.prog G0 166 sSignW := by
  refine pure1 (C := CE) sigCE mixCE Tryz.func166 rfl rfl rfl (by kernel_rfl) (by decide) (fun x ⟨h1, h2⟩ => ?_)
  obtain ⟨xn, xh, xl⟩ := x
  simp only at h1 h2
  have e0 := or_zero_iff (a := xh) (b := xl) ⟨h1.1, by omega⟩ h2
  unfold signW magW
  by_cases h : xh = 0 ∧ xl = 0
  · obtain ⟨rfl, rfl⟩ := h
    have e := e0.2 ⟨rfl, rfl⟩
    simp [e]
  · have e : (bits2 .or .u64 xh xl = 0) = False := eq_false (mt e0.1 h)
    have n0 : ¬ (xh.toNat * 18446744073709551616 + xl.toNat = 0) := by omega
    cases xn
    · simp only [n0, if_false]
      simp [e]
    · simp only [n0, if_false]
      simp [e]
noncomputable def CW : Ctx := mkC Tryz.prog G0 [(170, .pure sAdd64), (172, .pure sSub64), (171, .pure sLessW)]
@[simp] theorem CW_P : CW.P = Tryz.prog := rfl
@[simp] theorem CW_G : CW.G = G0 := rfl
@[simp] theorem CW_1 : CW.S 170 = .pure sAdd64 := rfl
@[simp] theorem CW_2 : CW.S 172 = .pure sSub64 := rfl
@[simp] theorem CW_3 : CW.S 171 = .pure sLessW := rfl
theorem mixCW : CW.P.follows .mixedOrders = true := mixed
theorem sigCW : SigOK CW := sigOK_cons (entryExt add64X) (sigOK_cons (entryExt sub64X) (sigOK_cons (entryPure (lessWP) Tryz.func171 rfl (by decide)) (sigOK_nil _ _)))
def plusW (x y : Wide) : Wide := if x.neg = y.neg then wideOf x.neg (magW x + magW y) else if magW x < magW y then wideOf y.neg (magW y - magW x) else wideOf x.neg (magW x - magW y)
def sPlus : List AV → Option (Prop × AV) := spec2 (fun (x y : Wide) => GoodW x ∧ GoodW y) (fun x y => Enc.enc (plusW x y))
set_option maxHeartbeats 4000000 in
theorem plusP : PureOK Tryz.prog G0 165 sPlus := by
  refine pure2 (C := CW) sigCW mixCW Tryz.func165 rfl rfl rfl (by kernel_rfl) (by decide) (fun x y ⟨g1, g2⟩ => ?_)
  obtain ⟨h1, h2⟩ := g1
  obtain ⟨h3, h4⟩ := g2
  have w1 : W64 x.hi := ⟨h1.1, by omega⟩
  have w2 : W64 y.hi := ⟨h3.1, by omega⟩
  have w3 : W64 x.lo := h2
  have w4 : W64 y.lo := h4
  by_cases hn : x.neg = y.neg
  · have e : plusW x y = wideOf y.neg (magW x + magW y) := by unfold plusW; rw [if_pos hn, hn]
    have c1 : (x.lo + y.lo) / 18446744073709551616 = 0 ∨ (x.lo + y.lo) / 18446744073709551616 = 1 := by omega
    simp [hn, e, sAdd64, w1, w2, w3, w4, c1]
    unfold wideOf magW
    simp only
    omega
  · have hn' : (x.neg == y.neg) = false := by simpa using hn
    by_cases hl : magW x < magW y
    · have e : plusW x y = wideOf y.neg (magW y - magW x) := by unfold plusW; rw [if_neg hn, if_pos hl]
      have c1 : (if y.lo < x.lo then (1 : Int) else 0) = 0 ∨ (if y.lo < x.lo then (1 : Int) else 0) = 1 := by split <;> simp
      simp [hn', sLessW, e, sSub64, w1, w2, w3, w4, hl, (⟨h1, h2⟩ : GoodW x), (⟨h3, h4⟩ : GoodW y), -ite_eq_left_iff, -ite_eq_right_iff, c1]
      unfold magW at hl
      unfold wideOf magW
      simp only
      split <;> omega
    · have e : plusW x y = wideOf x.neg (magW x - magW y) := by unfold plusW; rw [if_neg hn, if_neg hl]
      have c1 : (if x.lo < y.lo then (1 : Int) else 0) = 0 ∨ (if x.lo < y.lo then (1 : Int) else 0) = 1 := by split <;> simp
      simp [hn', sLessW, e, sSub64, w1, w2, w3, w4, hl, (⟨h1, h2⟩ : GoodW x), (⟨h3, h4⟩ : GoodW y), -ite_eq_left_iff, -ite_eq_right_iff, c1]
      unfold magW at hl
      unfold wideOf magW
      simp only
      split <;> omega
end Go.Proofs.YtfoipbjhaiimlaaGreatDoor


/-
  layer 3: the length of a word.
-/
namespace Go.Proofs.YtfoipbjhaiimlaaGreatDoor
open Go.RowKit
set_option linter.unusedSimpArgs false
set_option linter.unusedVariables false
set_option maxRecDepth 100000

/-- How many bits. -/
def bl (x : Nat) : Nat := if x = 0 then 0 else x.log2 + 1
theorem bl_lt (x : Nat) : x < 2 ^ bl x := by
  unfold bl
  split
  · rename_i h; simp [h]
  · exact Nat.lt_log2_self
theorem bl_le {x : Nat} (h : x ≠ 0) : 2 ^ (bl x - 1) ≤ x := by
  unfold bl
  rw [if_neg h, Nat.add_sub_cancel]
  exact Nat.log2_self_le h
theorem bl_eq {x n : Nat} (h : 2 ^ n ≤ x) (h' : x < 2 ^ (n + 1)) : bl x = n + 1 := by
  have h0 : x ≠ 0 := by have := Nat.two_pow_pos n; omega
  unfold bl
  rw [if_neg h0]
  have h1 := (Nat.le_log2 h0).2 h
  have h2 := (Nat.log2_lt h0).2 h'
  omega
theorem bl_shift {x s : Nat} (h : x / 2 ^ s ≠ 0) : bl x = bl (x / 2 ^ s) + s := by
  have h1 := bl_le h
  have h2 := bl_lt (x / 2 ^ s)
  have h3 : bl (x / 2 ^ s) ≠ 0 := by unfold bl; rw [if_neg h]; omega
  obtain ⟨n, hn⟩ : ∃ n, bl (x / 2 ^ s) = n + 1 := ⟨bl (x / 2 ^ s) - 1, by omega⟩
  rw [hn] at h1 h2 ⊢
  rw [Nat.add_sub_cancel] at h1
  have p := Nat.two_pow_pos s
  rw [show n + 1 + s = (n + s) + 1 by omega]
  refine bl_eq ?_ ?_
  · rw [Nat.pow_add]
    exact (Nat.le_div_iff_mul_le p).1 h1
  · rw [show n + s + 1 = (n + 1) + s by omega, Nat.pow_add]
    exact (Nat.div_lt_iff_lt_mul p).1 h2
theorem use_tab (s : ByteArray) (h : (List.range 256).all (fun j => btA s j == bl j) = true) {j : Nat} (hj : j < 256) : btA s j = bl j := by
  have := List.all_eq_true.1 h j (List.mem_range.2 hj)
  simpa using this
def sLen64 : List AV → Option (Prop × AV)
  | [.int .u64 x] => some (W64 x, .int .i64 (bl x.toNat : Int))
  | _ => none
set_option maxHeartbeats 4000000 in
theorem len64P : PureOK Tryz.prog G0 175 sLen64 := by
  refine pure_of (C := CE) sigCE mixCE Tryz.func175 rfl rfl rfl (by kernel_rfl) (fun avs ob r hp hob => ?_)
  unfold sLen64 at hp
  split at hp
  case h_2 => cases hp
  rename_i x
  injection hp with hp; injection hp with e1 e2; subst e1 e2
  obtain ⟨x0, x1⟩ := hob
  obtain ⟨x, rfl⟩ := Int.eq_ofNat_of_zero_le x0
  refine ⟨(by show 1 ≤ _; decide), ?_⟩
  have v0 : w64 0 = 0 := rfl
  have v8 : w64 8 = 8 := rfl
  have v16 : w64 16 = 16 := rfl
  have v32 : w64 32 = 32 := rfl
  have v48 : w64 48 = 48 := rfl
  have v24 : w64 24 = 24 := rfl
  have v40 : w64 40 = 40 := rfl
  have v56 : w64 56 = 56 := rfl
  have wi : ∀ x : Nat, x < 1000 → IntKind.wrap .i64 (x : Int) = x := fun x h => IntWalk.i64_in _ (by omega)
  have hb : ∀ j, j < 256 → bl j ≤ 8 := fun j hj => by
    by_cases h : j = 0
    · subst h; decide
    · have := bl_le h
      by_cases h8 : bl j ≤ 8
      · exact h8
      · have : 2 ^ 8 ≤ 2 ^ (bl j - 1) := Nat.pow_le_pow_right (by decide) (by omega)
        omega
  by_cases c0 : 4294967296 ≤ x
  · have d0 : (4294967296 : Int) ≤ x := by omega
    obtain ⟨y, e0⟩ : ∃ yy, yy = x / 4294967296 := ⟨_, rfl⟩
    have s0 : (x : Int).fdiv (2 ^ (min 32 (IntKind.bits .u64))) = (y : Int) := by show (x : Int).fdiv 4294967296 = _; rw [Int.fdiv_eq_ediv_of_nonneg _ (by decide)]; omega
    by_cases c1 : 65536 ≤ y
    · have d1 : (65536 : Int) ≤ y := by omega
      obtain ⟨z, e1⟩ : ∃ yy, yy = y / 65536 := ⟨_, rfl⟩
      have s1 : (y : Int).fdiv (2 ^ (min 16 (IntKind.bits .u64))) = (z : Int) := by show (y : Int).fdiv 65536 = _; rw [Int.fdiv_eq_ediv_of_nonneg _ (by decide)]; omega
      by_cases c2 : 256 ≤ z
      · have d2 : (256 : Int) ≤ z := by omega
        obtain ⟨u, e2⟩ : ∃ yy, yy = z / 256 := ⟨_, rfl⟩
        have s2 : (z : Int).fdiv (2 ^ (min 8 (IntKind.bits .u64))) = (u : Int) := by show (z : Int).fdiv 256 = _; rw [Int.fdiv_eq_ediv_of_nonneg _ (by decide)]; omega
        have q : u < 256 := by omega
        have q1 : IntKind.wrap .u8 (u : Int) = u := by rw [IntKind.wrap_u8]; omega
        have q2 := hb u q
        have q5 : (u : Int) < 256 := by omega
        have q6 : ∀ n : Nat, n ≤ 8 → IntKind.wrap .i64 (n : Int) = n := fun n h => IntWalk.i64_in _ (by omega)
        simp [argsρ, d0, s0, d1, s1, d2, s2, q1, q5, v0, v8, v16, v24, v32, v40, v48, v56]
        rw [use_tab _ (by kernel_rfl) q, q6 _ q2]
        have q3 := bl_shift (x := x) (s := 56) (by omega)
        have q4 : x / 2 ^ 56 = u := by omega
        rw [q4] at q3
        refine ⟨Nat.lt_of_lt_of_eq q (by kernel_rfl), ?_⟩
        rw [w64_in (by unfold I64; omega)]
        all_goals omega
      · have d2 : ¬ (256 : Int) ≤ z := by omega
        have q : z < 256 := by omega
        have q1 : IntKind.wrap .u8 (z : Int) = z := by rw [IntKind.wrap_u8]; omega
        have q2 := hb z q
        have q5 : (z : Int) < 256 := by omega
        have q6 : ∀ n : Nat, n ≤ 8 → IntKind.wrap .i64 (n : Int) = n := fun n h => IntWalk.i64_in _ (by omega)
        simp [argsρ, d0, s0, d1, s1, d2, q1, q5, v0, v8, v16, v24, v32, v40, v48, v56]
        rw [use_tab _ (by kernel_rfl) q, q6 _ q2]
        have q3 := bl_shift (x := x) (s := 48) (by omega)
        have q4 : x / 2 ^ 48 = z := by omega
        rw [q4] at q3
        refine ⟨Nat.lt_of_lt_of_eq q (by kernel_rfl), ?_⟩
        rw [w64_in (by unfold I64; omega)]
        all_goals omega
    · have d1 : ¬ (65536 : Int) ≤ y := by omega
      by_cases c2 : 256 ≤ y
      · have d2 : (256 : Int) ≤ y := by omega
        obtain ⟨u, e2⟩ : ∃ yy, yy = y / 256 := ⟨_, rfl⟩
        have s2 : (y : Int).fdiv (2 ^ (min 8 (IntKind.bits .u64))) = (u : Int) := by show (y : Int).fdiv 256 = _; rw [Int.fdiv_eq_ediv_of_nonneg _ (by decide)]; omega
        have q : u < 256 := by omega
        have q1 : IntKind.wrap .u8 (u : Int) = u := by rw [IntKind.wrap_u8]; omega
        have q2 := hb u q
        have q5 : (u : Int) < 256 := by omega
        have q6 : ∀ n : Nat, n ≤ 8 → IntKind.wrap .i64 (n : Int) = n := fun n h => IntWalk.i64_in _ (by omega)
        simp [argsρ, d0, s0, d1, d2, s2, q1, q5, v0, v8, v16, v24, v32, v40, v48, v56]
        rw [use_tab _ (by kernel_rfl) q, q6 _ q2]
        have q3 := bl_shift (x := x) (s := 40) (by omega)
        have q4 : x / 2 ^ 40 = u := by omega
        rw [q4] at q3
        refine ⟨Nat.lt_of_lt_of_eq q (by kernel_rfl), ?_⟩
        rw [w64_in (by unfold I64; omega)]
        all_goals omega
      · have d2 : ¬ (256 : Int) ≤ y := by omega
        have q : y < 256 := by omega
        have q1 : IntKind.wrap .u8 (y : Int) = y := by rw [IntKind.wrap_u8]; omega
        have q2 := hb y q
        have q5 : (y : Int) < 256 := by omega
        have q6 : ∀ n : Nat, n ≤ 8 → IntKind.wrap .i64 (n : Int) = n := fun n h => IntWalk.i64_in _ (by omega)
        simp [argsρ, d0, s0, d1, d2, q1, q5, v0, v8, v16, v24, v32, v40, v48, v56]
        rw [use_tab _ (by kernel_rfl) q, q6 _ q2]
        have q3 := bl_shift (x := x) (s := 32) (by omega)
        have q4 : x / 2 ^ 32 = y := by omega
        rw [q4] at q3
        refine ⟨Nat.lt_of_lt_of_eq q (by kernel_rfl), ?_⟩
        rw [w64_in (by unfold I64; omega)]
        all_goals omega
  · have d0 : ¬ (4294967296 : Int) ≤ x := by omega
    by_cases c1 : 65536 ≤ x
    · have d1 : (65536 : Int) ≤ x := by omega
      obtain ⟨z, e1⟩ : ∃ yy, yy = x / 65536 := ⟨_, rfl⟩
      have s1 : (x : Int).fdiv (2 ^ (min 16 (IntKind.bits .u64))) = (z : Int) := by show (x : Int).fdiv 65536 = _; rw [Int.fdiv_eq_ediv_of_nonneg _ (by decide)]; omega
      by_cases c2 : 256 ≤ z
      · have d2 : (256 : Int) ≤ z := by omega
        obtain ⟨u, e2⟩ : ∃ yy, yy = z / 256 := ⟨_, rfl⟩
        have s2 : (z : Int).fdiv (2 ^ (min 8 (IntKind.bits .u64))) = (u : Int) := by show (z : Int).fdiv 256 = _; rw [Int.fdiv_eq_ediv_of_nonneg _ (by decide)]; omega
        have q : u < 256 := by omega
        have q1 : IntKind.wrap .u8 (u : Int) = u := by rw [IntKind.wrap_u8]; omega
        have q2 := hb u q
        have q5 : (u : Int) < 256 := by omega
        have q6 : ∀ n : Nat, n ≤ 8 → IntKind.wrap .i64 (n : Int) = n := fun n h => IntWalk.i64_in _ (by omega)
        simp [argsρ, d0, d1, s1, d2, s2, q1, q5, v0, v8, v16, v24, v32, v40, v48, v56]
        rw [use_tab _ (by kernel_rfl) q, q6 _ q2]
        have q3 := bl_shift (x := x) (s := 24) (by omega)
        have q4 : x / 2 ^ 24 = u := by omega
        rw [q4] at q3
        refine ⟨Nat.lt_of_lt_of_eq q (by kernel_rfl), ?_⟩
        rw [w64_in (by unfold I64; omega)]
        all_goals omega
      · have d2 : ¬ (256 : Int) ≤ z := by omega
        have q : z < 256 := by omega
        have q1 : IntKind.wrap .u8 (z : Int) = z := by rw [IntKind.wrap_u8]; omega
        have q2 := hb z q
        have q5 : (z : Int) < 256 := by omega
        have q6 : ∀ n : Nat, n ≤ 8 → IntKind.wrap .i64 (n : Int) = n := fun n h => IntWalk.i64_in _ (by omega)
        simp [argsρ, d0, d1, s1, d2, q1, q5, v0, v8, v16, v24, v32, v40, v48, v56]
        rw [use_tab _ (by kernel_rfl) q, q6 _ q2]
        have q3 := bl_shift (x := x) (s := 16) (by omega)
        have q4 : x / 2 ^ 16 = z := by omega
        rw [q4] at q3
        refine ⟨Nat.lt_of_lt_of_eq q (by kernel_rfl), ?_⟩
        rw [w64_in (by unfold I64; omega)]
        all_goals omega
    · have d1 : ¬ (65536 : Int) ≤ x := by omega
      by_cases c2 : 256 ≤ x
      · have d2 : (256 : Int) ≤ x := by omega
        obtain ⟨u, e2⟩ : ∃ yy, yy = x / 256 := ⟨_, rfl⟩
        have s2 : (x : Int).fdiv (2 ^ (min 8 (IntKind.bits .u64))) = (u : Int) := by show (x : Int).fdiv 256 = _; rw [Int.fdiv_eq_ediv_of_nonneg _ (by decide)]; omega
        have q : u < 256 := by omega
        have q1 : IntKind.wrap .u8 (u : Int) = u := by rw [IntKind.wrap_u8]; omega
        have q2 := hb u q
        have q5 : (u : Int) < 256 := by omega
        have q6 : ∀ n : Nat, n ≤ 8 → IntKind.wrap .i64 (n : Int) = n := fun n h => IntWalk.i64_in _ (by omega)
        simp [argsρ, d0, d1, d2, s2, q1, q5, v0, v8, v16, v24, v32, v40, v48, v56]
        rw [use_tab _ (by kernel_rfl) q, q6 _ q2]
        have q3 := bl_shift (x := x) (s := 8) (by omega)
        have q4 : x / 2 ^ 8 = u := by omega
        rw [q4] at q3
        refine ⟨Nat.lt_of_lt_of_eq q (by kernel_rfl), ?_⟩
        rw [w64_in (by unfold I64; omega)]
        all_goals omega
      · have d2 : ¬ (256 : Int) ≤ x := by omega
        have q : x < 256 := by omega
        have q1 : IntKind.wrap .u8 (x : Int) = x := by rw [IntKind.wrap_u8]; omega
        have q2 := hb x q
        have q5 : (x : Int) < 256 := by omega
        have q6 : ∀ n : Nat, n ≤ 8 → IntKind.wrap .i64 (n : Int) = n := fun n h => IntWalk.i64_in _ (by omega)
        simp [argsρ, d0, d1, d2, q1, q5, v0, v8, v16, v24, v32, v40, v48, v56]
        rw [use_tab _ (by kernel_rfl) q, q6 _ q2]
        refine ⟨Nat.lt_of_lt_of_eq q (by kernel_rfl), ?_⟩
        rw [w64_in (by unfold I64; omega)]
        all_goals omega
noncomputable def CLz : Ctx := mkC Tryz.prog G0 [(175, .pure sLen64)]
@[simp] theorem CLz_P : CLz.P = Tryz.prog := rfl
@[simp] theorem CLz_G : CLz.G = G0 := rfl
@[simp] theorem CLz_1 : CLz.S 175 = .pure sLen64 := rfl
theorem mixCLz : CLz.P.follows .mixedOrders = true := mixed
theorem sigCLz : SigOK CLz := sigOK_cons (entryPure (len64P) Tryz.func175 rfl (by decide)) (sigOK_nil _ _)
theorem bl_le64 {x : Nat} (h : x < 18446744073709551616) : bl x ≤ 64 := by
  by_cases h0 : x = 0
  · subst h0; decide
  · have := bl_le h0
    by_cases h8 : bl x ≤ 64
    · exact h8
    · have : 2 ^ 64 ≤ 2 ^ (bl x - 1) := Nat.pow_le_pow_right (by decide) (by omega)
      omega
def sLz64 : List AV → Option (Prop × AV)
  | [.int .u64 x] => some (W64 x, .int .i64 ((64 - bl x.toNat : Nat) : Int))
  | _ => none
theorem lz64P : PureOK Tryz.prog G0 174 sLz64 := by
  refine pure_of (C := CLz) sigCLz mixCLz Tryz.func174 rfl rfl rfl (by kernel_rfl) (fun avs ob r hp hob => ?_)
  unfold sLz64 at hp
  split at hp
  case h_2 => cases hp
  rename_i x
  injection hp with hp; injection hp with e1 e2; subst e1 e2
  have h := bl_le64 (x := x.toNat) (by have := hob.2; have := hob.1; omega)
  have e : w64 (64 - (bl x.toNat : Int)) = ((64 - bl x.toNat : Nat) : Int) := by rw [w64_in (by unfold I64; omega)]; omega
  refine ⟨(by show 1 ≤ _; decide), ?_⟩
  simp [argsρ, sLen64, hob, e]
end Go.Proofs.YtfoipbjhaiimlaaGreatDoor


/-
  Loops with several ways out that lead on together. Own work; no program in sight.
-/
namespace Go.Proofs.YtfoipbjhaiimlaaGreatDoor
open Go.RowKit

theorem weak_eq {C : Ctx} {N h0 : Nat} {ρ ρ' : List (Nat × AV)} {H H' : List Blk} (h : ∀ p ∈ ρ', getA ρ p.1 = p.2) (hH : H = H') : Weak C N h0 ⟨ρ, H⟩ ⟨ρ', H'⟩ := by
  subst hH
  exact weak_slots h
section
variable {C : Ctx} {N h0 : Nat}
/-- A loop that is left by one exit: what stands there, said once. -/
theorem loop_cut {α β : Type} (hS : SigOK C) (hM : C.P.follows .mixedOrders = true) {body : Code} {st : ASt} {Q : Exit → ASt → Prop} (id : Nat) (E : β → ASt) (post : β → Prop) (Sf : α → ASt) (pre : α → Prop) (m : α → Nat) (hok : codeOK C N body = true)
    (start : ∃ x, pre x ∧ Weak C N h0 st (Sf x)) (step : ∀ x, pre x → avc C N h0 body (Sf x) (round Sf pre (fun x' => m x' < m x) N h0 C (fun ex s => ex = .exit id ∧ ∃ y, post y ∧ Weak C N h0 s (E y))))
    (rest : ∀ y, post y → Q (.exit id) (E y)) : AW C N h0 (.loop body) st Q :=
  AW_end (AW.mono (loop_rule hS hM Sf pre m hok start step) (fun ex s h => by
    obtain ⟨he, y, hy, hw⟩ := h
    subst he
    exact ⟨E y, hw, rest y hy⟩))
end
section
variable {C : Ctx} (hS : SigOK C) (hM : C.P.follows .mixedOrders = true) {f : FuncId} {fn : Func} {body : Code} {rs : List ResultVar} {n : Nat} (hf : C.P.funcs[f]? = some fn) (hb : fn.body = some body) (hrs : fn.results.toList = rs) (hn : fn.ntmps = n) (hd : List Nat)
include hS hM hf hb hrs hn
theorem pureH4 {α β γ δ : Type} [Enc α] [Enc β] [Enc γ] [Enc δ] (hok : codeOKH C hd n body = true) (hnn : 4 ≤ n) {pre : α → β → γ → δ → Prop} {res : α → β → γ → δ → AV} (h : ∀ a b c d, pre a b c d → avcH C hd n 0 body ⟨[(0, Enc.enc a), (1, Enc.enc b), (2, Enc.enc c), (3, Enc.enc d)], []⟩ (postP C rs (res a b c d))) : PureOK C.P C.G f (spec4 pre res) :=
  pure_of_AW hf hb hrs hn fun avs ob r' hp hob => by
    unfold spec4 at hp
    split at hp
    · injection hp with hp; injection hp with e1 e2; subst e1 e2
      have := h _ _ _ _ hob.2.2.2.2
      rw [← hob.1, ← hob.2.1, ← hob.2.2.1, ← hob.2.2.2.1] at this
      exact ⟨hnn, avcH_sound hS hM body hok this⟩
    · cases hp
end
end Go.Proofs.YtfoipbjhaiimlaaGreatDoor

/-
  Two more operations: a slice written out that holds slices of the call's own; a copy into a slice of the call's own. Own work; no program in sight.
-/
namespace Go.Proofs.YtfoipbjhaiimlaaGreatDoor
open Go.RowKit

/-- A slice of one element, which is kept open. -/
def abuildOwn (C : Ctx) (ρ : List (Nat × AV)) (H : List Blk) (t : TypeId) (parts : List (Nat × Operand)) : Option (Prop × AV × List Blk) :=
  match elT C.P t, parts with
  | some e, [(0, x)] =>
    match aggT C.P e, zT C.P e with
    | some false, some _ => if (aev C ρ e x).isCell = true ∧ szT C.P e = 1 then some (True, .own H.length 1, H ++ [⟨e, 1, [[aev C ρ e x]], true, (aev C ρ e x).isDeep⟩]) else none
    | _, _ => none
  | _, _ => none
def acopyO (C : Ctx) (H : List Blk) (t : TypeId) (d s : AV) : Option (Prop × AV × List Blk) :=
  match elT C.P t, d, s with
  | some e, .own l n, .slice sz _ ys =>
    match H[l]? with
    | some b => if b.mu = true ∧ b.sz = szT C.P e ∧ sz = szT C.P e then some (b.rows.length = n ∧ 0 < ys.length ∧ ys.length ≤ n, .int .i64 ys.length, H.set l { b with rows := ys ++ b.rows.drop ys.length, deep := b.deep && true }) else none
    | none => none
  | _, _, _ => none
/-- One step, with these two. -/
def astepO (C : Ctx) (st : ASt) (o : Oper) : Option (Prop × AV × List Blk) :=
  match o.op with
  | .buildSlice t 1 parts => abuildOwn C st.ρ st.H t parts.toList
  | .call c => match c.callee, c.args.toList, c.argTypes.toList with
    | .builtin .copy, [d, s], [t, t'] => if t = t' then acopyO C st.H t (aev C st.ρ t d) (aev C st.ρ t' s) else none
    | _, _, _ => astep C st o
  | _ => astep C st o
def aopsO (C : Ctx) (ops : Array Oper) : List Oper → ASt → (ASt → Prop) → Prop
  | [], st, K => K st
  | o :: r, st, K =>
    match wantG ops st.ρ o with
    | none => False
    | some g =>
      (g = true → match astepO C st o with
        | some (ob, v, H') => ob ∧ aopsO C ops r ⟨putA st.ρ o.dst v, H'⟩ K
        | none => False) ∧
      (g = false → aopsO C ops r ⟨putA st.ρ o.dst (.tup []), st.H⟩ K)

section
variable {C : Ctx} {N h0 : Nat} {X : Nat → Prop} {β : List BI} {H : List Blk} {w w0 : World} {β0 : List BI} {H0 : List Blk}
theorem abuildOwn_sound (R : HRel w X β H) {a : Act} {ρ : List (Nat × AV)} (T : TRel w (Mu X β H) β H a ρ) (G : GRel C w (Mu X β H)) {t : TypeId} {parts : Array (Nat × Operand)} {ob : Prop} {r : AV} {H' : List Blk} (h : abuildOwn C ρ H t parts.toList = some (ob, r, H')) :
    ∃ u w' β', (Instr.buildSlice t 1 (parts.map fun (i, x) => (i, a.eval x))).run C.P w = .ok u w' ∧ HRel w' X β' H' ∧ StepR w β H w' β' H' ∧ Rep w' (Mu X β' H') β' H' u r := by
  unfold abuildOwn at h
  split at h
  · rename_i e x he hp
    split at h
    · rename_i z ha hz
      split at h
      · rename_i hc
        injection h with h; injection h with e1 e2; injection e2 with e2 e3; subst e1 e2 e3
        obtain ⟨hcell, hsz⟩ := hc
        obtain rfl : parts = #[(0, x)] := by rw [← Array.toList_inj, hp]
        have hx := aev_sound (C := C) T G e x
        have h1c := rep_cell hx hcell
        generalize aev C ρ e x = av at *
        obtain ⟨v, hv⟩ : ∃ v, a.eval x = v := ⟨_, rfl⟩
        rw [hv] at hx h1c
        obtain ⟨i, zv, z1, z2, z3, z4, z5, z6, z7⟩ := zT_sound hz
        have hzr : (zeroValue e).run C.P w = .ok zv w := by simp [zeroValue, typeInfo, z1, z2]
        have hsize := run_sizeOf (P := C.P) (t := e) (by omega) w
        have hcells : v.cells = #[v] := by cases v <;> first | rfl | (simp [Value.oneCell'] at h1c)
        have hk := Keeps.alloc (fun _ => False) w (.cells #[v] e)
        have S := push_step R hk (.lies w.heap.size 1) ⟨e, 1, [[av]], true, av.isDeep⟩ (fun bk c e => by injection e with e _; omega)
        refine ⟨.slice (some ⟨w.heap.size, 0, none⟩) 1 1, w.alloc (.cells #[v] e), β ++ [.lies w.heap.size 1], ?_, push_hrel R hk _ _ (fun bk c e => by injection e with e _; omega) (fun bk c e => by injection e with e _; subst e; simp) ?_, S, ?_⟩
        · simp [Instr.buildSlice, run_underlying (elT_eq he), hsize, hsz, hzr, Instr.fill, hv, hcells, newRow]
          have key : ∀ A : Array Value, A.size = 1 → A.setIfInBounds 0 v = #[v] := fun A hA => by
            refine Array.ext (by simp [hA]) fun k h1 h2 => ?_
            simp at h2
            subst h2
            simp
          rw [key _ (by simp)]
        · refine ⟨#[v], heap_alloc_new w _, rfl, Nat.le_refl _, by unfold maxLen; omega, Nat.zero_lt_one, fun r hr => ?_, fun i j r av' hi hj => ?_⟩
          · simp at hr; subst hr; rfl
          · match i with
            | 0 =>
              simp at hi
              subst hi
              match j with
              | 0 =>
                simp at hj
                subst hj
                exact ⟨v, rfl, h1c, hx.keep S, fun hd => rep_deep hd (hx.keep S)⟩
              | j + 1 => simp at hj
            | i + 1 => simp at hi
        · refine .own H.length 1 _ 1 _ (getElem?_snoc_new H _) (Nat.le_refl _) (.inr ⟨_, rfl⟩) (Nat.le_refl _) fun _ => ?_
          rw [← R.len, getElem?_snoc_new]
          exact ⟨rfl, rfl⟩
      · cases h
    · cases h
  · cases h
theorem acopyO_sound (R : HRel w X β H) {t : TypeId} {d s : AV} {ob : Prop} {r : AV} {H' : List Blk} (h : acopyO C H t d s = some (ob, r, H')) (hob : ob) {vd vs : Value} (hd : Rep w (Mu X β H) β H vd d) (hs : Rep w (Mu X β H) β H vs s) (ty : TypeId) :
    ∃ u w' β', (Builtin.copy_ #[t, t] ty #[vd, vs]).run C.P w = .ok u w' ∧ HRel w' X β' H' ∧ StepR w β H w' β' H' ∧ Rep w' (Mu X β' H') β' H' u r := by
  unfold acopyO at h
  split at h
  · rename_i e l n sz fl ys he
    split at h
    · rename_i b hb
      split at h
      · rename_i hc
        obtain ⟨hmu, hbs, hsz⟩ := hc
        injection h with h; injection h with e1 e2; injection e2 with e2 e3; subst e1 e2 e3
        obtain ⟨o1, o2, o3⟩ := hob
        obtain ⟨a, cap, b', rfl, hb', hn, h0', hq⟩ := rep_own hd
        rw [hb] at hb'; injection hb' with hb'; subst hb'
        have hq := hq o1
        obtain ⟨xa, c, xval, rfl, hxr, hxl, hxv⟩ := src_rows (C := C) (e := e) (x := .slice sz fl ys) (ob := True) (ys := ys) (dp := true) R (by simp [hsz]) trivial hs
        cases hβ : β[l]? with
        | none => rw [hβ] at hq; exact hq.elim
        | some bi =>
          rw [hβ] at hq
          have hB := R.blk l bi b hβ hb
          cases bi with
          | nil => have : b.rows = [] := hB.1; rw [this] at o1; simp at o1; omega
          | lies bk c0 =>
            obtain ⟨rfl, rfl⟩ := hq
            have hz0 : 0 < b.sz := by obtain ⟨cur, h1, h2, h3, h4, h5, h6, h7⟩ := hB; exact h5
            obtain ⟨xb, xoff, rfl, hxc⟩ := hxr (by omega)
            obtain ⟨w', β', g1, g2, g3⟩ := write_rows (C := C) R hb hβ hmu 0 ys (flatV xval ys.length (szT C.P e)) true (by omega) (by rw [flatV_length, hbs]) (fun v hv => by
              obtain ⟨j, hj, rfl⟩ := List.getElem_of_mem hv
              exact (flatV_mem hxc (List.getElem?_eq_getElem hj)).2) (fun r hr => by rw [hxl r hr, hbs]) (fun i j r av hi hj => by
              have hi' := (List.getElem?_eq_some_iff.1 hi).1
              have hj' := (List.getElem?_eq_some_iff.1 hj).1
              have hj'' : j < szT C.P e := by rw [← hxl r (List.mem_of_getElem? hi)]; exact hj'
              rw [hbs, flatV_get _ _ _ _ _ hi' hj'']
              exact ⟨_, rfl, hxv i j r av hi hj⟩)
            rw [Nat.zero_mul] at g1
            simp only [List.take_zero, List.nil_append, Nat.zero_add] at g2 g3
            refine ⟨goInt ys.length, w', β', ?_, g2, g3, ?_⟩
            · have hsize := run_sizeOf (P := C.P) (t := e) (by omega) w
              have hld := run_loadCells_list (P := C.P) w ⟨xb, xoff, none⟩ (flatV xval ys.length (szT C.P e)) (fun j v hj => (flatV_mem hxc hj).1)
              rw [flatV_length] at hld
              have hmin : Nat.min ys.length n = ys.length := Nat.min_eq_left o3
              simp [Builtin.copy_, run_underlying (elT_eq he), Builtin.lenOf, Builtin.firstCells, hsize, hmin, hld, g1]
            · exact .deep (.int _ _)
      · cases h
    · cases h
  · cases h
theorem astepO_sound (hS : SigOK C) {a : Act} {st : ASt} (R : HRel w X β st.H) (T : TRel w (Mu X β st.H) β st.H a st.ρ) (G : GRel C w (Mu X β st.H)) {o : Oper} {ob : Prop} {r : AV} {H' : List Blk} (h : astepO C st o = some (ob, r, H')) (hob : ob)
    {K : Act → World → Prop} {Q : Exit → Act → World → Prop} (hK : After X w β st.H r H' o a K) : o.wp C.P a w K Q := by
  obtain ⟨dst, op, type, pos, after, guard⟩ := o
  unfold astepO at h
  simp only at h
  split at h
  · obtain ⟨u, w', β', h1, h2, h3, h4⟩ := abuildOwn_sound R T G h
    exact wp_value (u := u) (w' := w') (by simp only [execOp, Sem.run_bind, h1, Result.andThen_ok, Sem.run_pure]) (hK u w' β' h2 h3 h4)
  · rename_i c
    obtain ⟨callee, cargs, ctypes⟩ := c
    simp only at h
    split at h
    · rename_i d' s' t t' hargs htys
      split at h
      · rename_i htt
        subst htt
        obtain rfl : cargs = #[d', s'] := by rw [← Array.toList_inj, hargs]
        obtain rfl : ctypes = #[t, t] := by rw [← Array.toList_inj, htys]
        obtain ⟨u, w', β', h1, h2, h3, h4⟩ := acopyO_sound R h hob (aev_sound T G _ _) (aev_sound T G _ _) type
        refine wp_value (u := u) (w' := w') ?_ (hK u w' β' h2 h3 h4)
        simp only [execOp, resolve, invoke, builtin, Sem.run_bind, Sem.run_pure, Result.andThen_ok, List.map_toArray, List.map_cons, List.map_nil, h1]
      · cases h
    · exact astep_sound hS R T G h hob hK
  · exact astep_sound hS R T G h hob hK
theorem wpList_of_aopsO (hS : SigOK C) {ops : Array Oper} {Q : Exit → Act → World → Prop} : ∀ (l : List Oper), (∀ o ∈ l, ∀ d, o.dst = some d → d < N) → ∀ {st : ASt} {K : ASt → Prop} {a : Act} {w : World}, aopsO C ops l st K → Rel C N X w0 β0 H0 st a w →
    (∀ st' a' w', Rel C N X w0 β0 H0 st' a' w' → K st' → Q .normal a' w') → wpList C.P ops Q l a w
  | [], _, st, K, a, w, h, hr, hQ => hQ st a w hr h
  | o :: r, hd, st, K, a, w, h, hr, hQ => by
    obtain ⟨β, R, S0, T, G, hN, hdef⟩ := hr
    unfold aopsO at h
    split at h
    · exact h.elim
    · rename_i g hg
      have hw := wantG_sound T hg
      have ih := fun {st : ASt} {a : Act} {w : World} => wpList_of_aopsO hS r (fun o ho => hd o (List.mem_cons_of_mem _ ho)) (st := st) (K := K) (a := a) (w := w) (ops := ops) (Q := Q)
      unfold wpList
      rw [hw]
      cases g with
      | true =>
        have h := h.1 rfl
        split at h
        · rename_i ob v H' hst
          rw [if_pos rfl]
          refine .inl (astepO_sound hS R T G hst h.1 fun u w' β' R' S hr => ih h.2 (rel_put S0 T G hN hdef R' S hr o.dst (hd o (by simp))) hQ)
        · exact h.elim
      | false =>
        have h := h.2 rfl
        rw [if_neg (by simp)]
        exact ih h (rel_put S0 T G hN hdef R (StepR.refl _ _ _ R.len) rep_skip o.dst (hd o (by simp))) hQ
/-- A region in the order of its text, with these two operations. -/
theorem AW_regionO (hS : SigOK C) {id : Nat} {l : List Oper} {st : ASt} {Q : Exit → ASt → Prop} (hok : (l.all fun o => match o.dst with | some d => decide (d < N) | none => true) = true) (h : aopsO C l.toArray l st (Q .normal)) : AW C N h0 (.region id l.toArray false) st Q := fun X w0 β0 H0 a w hl hr => by
  refine wp_region_list (wpList_of_aopsO hS l.toArray.toList (fun o ho d hd => ?_) (by simpa using h) hr fun st' a' w' hr' hk => ⟨st', hk, hr'⟩)
  have := List.all_eq_true.1 hok o (by simpa using ho)
  rw [hd] at this
  simpa using this
@[simp] theorem aopsO_nil (ops : Array Oper) (st : ASt) (K : ASt → Prop) : aopsO C ops [] st K = K st := rfl
@[simp] theorem aopsO_cons (ops : Array Oper) (o : Oper) (r : List Oper) (st : ASt) (K : ASt → Prop) : aopsO C ops (o :: r) st K =
    thenG (wantG ops st.ρ o) fun g => both g (thenD (astepO C st o) fun ob v H' => ob ∧ aopsO C ops r ⟨putA st.ρ o.dst v, H'⟩ K) (aopsO C ops r ⟨putA st.ρ o.dst (.tup []), st.H⟩ K) := by
  rw [aopsO]
  cases wantG ops st.ρ o with
  | none => rfl
  | some g =>
    simp only [thenG_some, both]
    cases astepO C st o with
    | none => rfl
    | some x => rfl
end
@[congr] theorem aopsO_congr {C : Ctx} {ops : Array Oper} {l : List Oper} {st st' : ASt} {K : ASt → Prop} (h : mark st = st') : aopsO C ops l st K = aopsO C ops l st' K := by rw [mark_eq] at h; rw [h]
@[congr] theorem lazy_astepO {C : Ctx} {st st' : ASt} {o : Oper} (h : mark st = st') : astepO C st o = astepO C st' o := by rw [mark_eq] at h; rw [h]
section
variable {C : Ctx} (ρ : List (Nat × AV)) (H : List Blk) (d : Option Tmp) (ty : TypeId) (p : String) (af : Array Edge) (g : Option (Nat × Bool))
@[simp] theorem astepO_build (t : TypeId) (ps : Array (Nat × Operand)) : astepO C ⟨ρ, H⟩ ⟨d, .buildSlice t 1 ps, ty, p, af, g⟩ = abuildOwn C ρ H t ps.toList := rfl
@[simp] theorem astepO_copy (x y : Operand) (t t' : TypeId) : astepO C ⟨ρ, H⟩ ⟨d, .call ⟨.builtin .copy, #[x, y], #[t, t']⟩, ty, p, af, g⟩ = if t = t' then acopyO C H t (aev C ρ t x) (aev C ρ t' y) else none := rfl
@[simp] theorem astepO_append (x y : Operand) (t t' : TypeId) : astepO C ⟨ρ, H⟩ ⟨d, .call ⟨.builtin .append, #[x, y], #[t, t']⟩, ty, p, af, g⟩ = astep C ⟨ρ, H⟩ ⟨d, .call ⟨.builtin .append, #[x, y], #[t, t']⟩, ty, p, af, g⟩ := rfl
@[simp] theorem astepO_move (x : Operand) : astepO C ⟨ρ, H⟩ ⟨d, .move x, ty, p, af, g⟩ = astep C ⟨ρ, H⟩ ⟨d, .move x, ty, p, af, g⟩ := rfl
@[simp] theorem astepO_assign (x : Operand) : astepO C ⟨ρ, H⟩ ⟨d, .assign x, ty, p, af, g⟩ = astep C ⟨ρ, H⟩ ⟨d, .assign x, ty, p, af, g⟩ := rfl
@[simp] theorem astepO_nilCheck (x : Operand) : astepO C ⟨ρ, H⟩ ⟨d, .nilCheck x, ty, p, af, g⟩ = astep C ⟨ρ, H⟩ ⟨d, .nilCheck x, ty, p, af, g⟩ := rfl
@[simp] theorem astepO_fieldAddr (t : TypeId) (x : Operand) (k : Nat) : astepO C ⟨ρ, H⟩ ⟨d, .fieldAddr t x k, ty, p, af, g⟩ = astep C ⟨ρ, H⟩ ⟨d, .fieldAddr t x k, ty, p, af, g⟩ := rfl
@[simp] theorem astepO_load (t : TypeId) (x : Operand) : astepO C ⟨ρ, H⟩ ⟨d, .load t x, ty, p, af, g⟩ = astep C ⟨ρ, H⟩ ⟨d, .load t x, ty, p, af, g⟩ := rfl
@[simp] theorem astepO_store (t : TypeId) (x y : Operand) : astepO C ⟨ρ, H⟩ ⟨d, .store t x y, ty, p, af, g⟩ = astep C ⟨ρ, H⟩ ⟨d, .store t x y, ty, p, af, g⟩ := rfl
@[simp] theorem abuildOwn_at (t : TypeId) (x : Operand) : abuildOwn C ρ H t [(0, x)] = (match elT C.P t with
  | some e => (match aggT C.P e, zT C.P e with
    | some false, some _ => if (aev C ρ e x).isCell = true ∧ szT C.P e = 1 then some (True, .own H.length 1, H ++ [⟨e, 1, [[aev C ρ e x]], true, (aev C ρ e x).isDeep⟩]) else none
    | _, _ => none)
  | none => none) := by unfold abuildOwn; cases elT C.P t <;> rfl
end
end Go.Proofs.YtfoipbjhaiimlaaGreatDoor

/-
  A function that changes the caller's blocks and whose result is read before its own blocks are dropped. Own work; no program in sight.
-/
namespace Go.Proofs.YtfoipbjhaiimlaaGreatDoor
open Go.RowKit

/-- The blocks behind some are dropped; neither the result nor what stays speaks of them. -/
def dropT (hl : Nat) (H : List Blk) (r : AV) (H' : List Blk) : Prop := ∃ m, hl ≤ m ∧ H.take m = H' ∧ r.cleanF m = true ∧ ∀ b ∈ H', b.deep = true ∨ ∀ r ∈ b.rows, ∀ c ∈ r, c.cleanF m = true
def finDK (hl : Nat) (H : List Blk) (r : AV) (H' : List Blk) (o : Option (Prop × AV)) : Prop := match o with | some (ob, r') => ob ∧ r' = r ∧ dropT hl H r H' | none => False
@[simp] theorem finDK_some (hl : Nat) (H : List Blk) (r r' : AV) (H' : List Blk) (ob : Prop) : finDK hl H r H' (some (ob, r')) = (ob ∧ r' = r ∧ dropT hl H r H') := rfl
def endD (C : Ctx) (rs : List ResultVar) (hl : Nat) (r : AV) (H' : List Blk) : Exit → ASt → Prop
  | .normal, st => finDK hl st.H r H' (aresults C st rs)
  | .ret, st => finDK hl st.H r H' (aresults C st rs)
  | _, _ => False
@[congr] theorem lazy_endD {C : Ctx} {rs : List ResultVar} {hl : Nat} {r : AV} {H' : List Blk} {ex ex' : Exit} {st st' : ASt} (h : mark ex = ex') (h' : st = st') : endD C rs hl r H' ex st = endD C rs hl r H' ex' st' := by rw [mark_eq] at h; rw [h, h']
@[simp] theorem endD_normal (C : Ctx) (rs : List ResultVar) (hl : Nat) (r : AV) (H' : List Blk) (ρ : List (Nat × AV)) (H : List Blk) : endD C rs hl r H' .normal ⟨ρ, H⟩ = finDK hl H r H' (aresults C ⟨ρ, H⟩ rs) := rfl
@[simp] theorem endD_ret (C : Ctx) (rs : List ResultVar) (hl : Nat) (r : AV) (H' : List Blk) (ρ : List (Nat × AV)) (H : List Blk) : endD C rs hl r H' .ret ⟨ρ, H⟩ = finDK hl H r H' (aresults C ⟨ρ, H⟩ rs) := rfl
theorem rep_drop {C : Ctx} {w w' : World} {X : Nat → Prop} {β β' : List BI} {H H1 : List Blk} {u : Value} {r : AV} (R : HRel w' X β' H1) (S : StepR w β H w' β' H1) (G : GRel C w' (Mu X β' H1)) (hr : Rep w' (Mu X β' H1) β' H1 u r) {H' : List Blk} (hd : dropT H.length H1 r H') :
    ∃ β2, HRel w' X β2 H' ∧ StepR w β H w' β2 H' ∧ Rep w' (Mu X β2 H') β2 H' u r := by
  obtain ⟨m, h1, rfl, h3, h4⟩ := hd
  have hrel : Rel C 1 X w β H ⟨[(0, r)], H1⟩ { tmps := #[u], defers := [] } w' := ⟨β', R, S, fun t => by
    match t with
    | 0 => exact hr
    | t + 1 => exact rep_undef, G, rfl, rfl⟩
  obtain ⟨β2, R2, S2, T2, _⟩ := weak_dropF (C := C) (N := 1) (h0 := H.length) m h1 (fun p hp => by rw [List.mem_singleton] at hp; rw [hp]; exact h3) h4 X w β H _ w' rfl hrel
  exact ⟨β2, R2, S2, T2 0⟩
theorem gen_of_avcD {C : Ctx} (hS : SigOK C) (hM : C.P.follows .mixedOrders = true) (hd : List Nat) {f : FuncId} {fn : Func} {body : Code} {rs : List ResultVar} {n : Nat} (hf : C.P.funcs[f]? = some fn) (hb : fn.body = some body) (hrs : fn.results.toList = rs) (hn : fn.ntmps = n) (hok : codeOKH C hd n body = true) {g : List AV → List Blk → Option (Prop × AV × List Blk)}
    (h : ∀ avs H ob r H', g avs H = some (ob, r, H') → ob → avs.length ≤ n ∧ avcH C hd n H.length body ⟨argsρ 0 avs, H⟩ (endD C rs H.length r H')) : GenOK C.P C.G f g := by
  subst hrs hn
  intro w X β H args avs ob r H' R hG hsz harg hp hob
  obtain ⟨hlen, hav⟩ := h avs H ob r H' hp hob
  refine calls_of_wp hf hb ?_
  have hr : Rel C fn.ntmps X w β H ⟨argsρ 0 avs, H⟩ { tmps := args ++ Array.replicate (fn.ntmps - args.size) undef, defers := [] } w :=
    ⟨β, R, StepR.refl _ _ _ R.len, trel_args hsz harg, hG, by simp; omega, rfl⟩
  refine Code.wp_mono (fun ex a' w' ⟨st', hq, hr'⟩ => ?_) (avcH_sound hS hM body hok hav X w β H _ w rfl hr)
  obtain ⟨β', R', S', T', G', hN', hdef'⟩ := hr'
  have fin : finDK H.length st'.H r H' (aresults C st' fn.results.toList) → bodyPost C.P fn (fun e w' => ∃ v β', e = .returned v ∧ HRel w' X β' H' ∧ StepR w β H w' β' H' ∧ Rep w' (Mu X β' H') β' H' v r) .normal a' w' := by
    intro hk
    unfold finDK at hk
    split at hk
    · rename_i ob' r' hres
      obtain ⟨hob', rfl, hdr⟩ := hk
      obtain ⟨u, hu, hrep⟩ := aresults_sound R' T' hres hob'
      obtain ⟨β2, R2, S2, T2⟩ := rep_drop (C := C) R' S' G' hrep hdr
      exact ⟨hdef', u, hu, u, β2, rfl, R2, S2, T2⟩
    · exact hk.elim
  cases ex with
  | normal => exact fin hq
  | ret => exact fin hq
  | _ => exact hq.elim
end Go.Proofs.YtfoipbjhaiimlaaGreatDoor


/-
  layer 3: the long division.
-/
namespace Go.Proofs.YtfoipbjhaiimlaaGreatDoor
open Go.RowKit
set_option linter.unusedSimpArgs false
set_option linter.unusedVariables false
set_option maxRecDepth 100000

/-! ### One digit of a quotient -/
structure DigOK (v u d q r : Nat) : Prop where
  sum : q * (v / 4294967296) + r = u
  up : (u * 4294967296 + d) / v ≤ q
  small : r < 4294967296
  near : q ≤ 4294967297
  fine : r < v / 4294967296 ∨ q ≤ 4294967296
theorem dig_start {v u d : Nat} (hv : 9223372036854775808 ≤ v) (hv' : v < 18446744073709551616) (hu : u < v) (hd : d < 4294967296) : DigOK v u d (u / (v / 4294967296)) (u - u / (v / 4294967296) * (v / 4294967296)) := by
  obtain ⟨a, ha⟩ : ∃ a, a = v / 4294967296 := ⟨_, rfl⟩
  rw [← ha]
  have a1 : 2147483648 ≤ a := by omega
  have a2 : a < 4294967296 := by omega
  have e := Nat.div_add_mod u a
  have hm := Nat.mod_lt u (show 0 < a by omega)
  have e' : u / a * a + u % a = u := by rw [Nat.mul_comm]; exact e
  have e2 : u - u / a * a = u % a := by omega
  refine ⟨by rw [← ha]; omega, ?_, by omega, ?_, .inl (by rw [← ha]; omega)⟩
  · -- the true digit is not greater
    have h1 : (u * 4294967296 + d) / v ≤ (u * 4294967296 + d) / (a * 4294967296) := Nat.div_le_div_left (by omega) (by omega)
    refine Nat.le_trans h1 ?_
    rw [Nat.mul_comm a, ← Nat.div_div_eq_div_mul]
    have : (u * 4294967296 + d) / 4294967296 = u := by omega
    rw [this]
    exact Nat.le_refl _
  · have h1 : u < (4294967298 : Nat) * a := by omega
    have := (Nat.div_lt_iff_lt_mul (show 0 < a by omega)).2 h1
    omega
theorem dig_small {v u d : Nat} (hv : 0 < v) (hu : u < v) (hd : d < 4294967296) : (u * 4294967296 + d) / v < 4294967296 := by
  rw [Nat.div_lt_iff_lt_mul hv]
  have : (u + 1) * 4294967296 ≤ v * 4294967296 := Nat.mul_le_mul_right _ hu
  omega
theorem dig_mul {v u d q r : Nat} (h : DigOK v u d q r) : q * v + r * 4294967296 = u * 4294967296 + q * (v % 4294967296) := by
  have e : q * v = q * (v / 4294967296) * 4294967296 + q * (v % 4294967296) := by
    have := Nat.div_add_mod v 4294967296
    calc q * v = q * (4294967296 * (v / 4294967296) + v % 4294967296) := by rw [this]
      _ = _ := by rw [Nat.mul_add]; congr 1; ac_rfl
  have := h.sum
  have e3 : u * 4294967296 = (q * (v / 4294967296) + r) * 4294967296 := by rw [this]
  rw [Nat.add_mul] at e3
  omega
/-- The guess is right where the test fails. -/
theorem dig_done {v u d q r : Nat} (hv : 0 < v) (h : DigOK v u d q r) (hq : q * (v % 4294967296) ≤ 4294967296 * r + d) : q = (u * 4294967296 + d) / v := by
  refine Nat.le_antisymm ?_ h.up
  rw [Nat.le_div_iff_mul_le hv]
  have := dig_mul h
  omega
/-- The guess is too great where it does not. -/
theorem dig_more {v u d q r : Nat} (hv : 0 < v) (hu : u < v) (hd : d < 4294967296) (h : DigOK v u d q r) (hq : 4294967296 ≤ q ∨ 4294967296 * r + d < q * (v % 4294967296)) : (u * 4294967296 + d) / v < q := by
  rcases hq with hq | hq
  · have := dig_small hv hu hd
    omega
  · rw [Nat.div_lt_iff_lt_mul hv]
    have := dig_mul h
    omega
theorem dig_next {v u d q r : Nat} (hv : 9223372036854775808 ≤ v) (hv' : v < 18446744073709551616) (hu : u < v) (hd : d < 4294967296) (h : DigOK v u d q r) (hq : 4294967296 ≤ q ∨ 4294967296 * r + d < q * (v % 4294967296)) :
    1 ≤ q ∧ (q - 1) * (v / 4294967296) + (r + v / 4294967296) = u ∧ (r + v / 4294967296 < 4294967296 → DigOK v u d (q - 1) (r + v / 4294967296)) ∧ (4294967296 ≤ r + v / 4294967296 → q - 1 = (u * 4294967296 + d) / v) := by
  have hm := dig_more (by omega) hu hd h hq
  have hq0 : 0 < q := Nat.lt_of_le_of_lt (Nat.zero_le _) hm
  obtain ⟨p, rfl⟩ : ∃ p, q = p + 1 := ⟨q - 1, by omega⟩
  rw [Nat.add_sub_cancel]
  have hs : p * (v / 4294967296) + (r + v / 4294967296) = u := by
    have := h.sum
    rw [Nat.add_mul, Nat.one_mul] at this
    omega
  have hn := h.near
  refine ⟨by omega, hs, fun h1 => ⟨hs, by omega, h1, by omega, .inr (by omega)⟩, fun h1 => ?_⟩
  refine Nat.le_antisymm ?_ (by omega)
  rw [Nat.le_div_iff_mul_le (by omega)]
  have e : p * v = p * (v / 4294967296) * 4294967296 + p * (v % 4294967296) := by
    have := Nat.div_add_mod v 4294967296
    calc p * v = p * (4294967296 * (v / 4294967296) + v % 4294967296) := by rw [this]
      _ = _ := by rw [Nat.mul_add]; congr 1; ac_rfl
  have e2 : p * (v % 4294967296) ≤ 4294967296 * 4294967296 := Nat.mul_le_mul (by omega) (by omega)
  have e3 : (p * (v / 4294967296) + (r + v / 4294967296)) * 4294967296 = u * 4294967296 := by rw [hs]
  rw [Nat.add_mul] at e3
  omega
/-- The remainder, as the words reckon it. -/
theorem dig_rem {v u d : Nat} (hv : 0 < v) (hv' : v < 18446744073709551616) : IntKind.wrap .u64 (IntKind.wrap .u64 (IntKind.wrap .u64 ((u : Int) * 4294967296) + (d : Int)) - IntKind.wrap .u64 ((((u * 4294967296 + d) / v : Nat) : Int) * (v : Int))) = (((u * 4294967296 + d) % v : Nat) : Int) := by
  have e := Nat.div_add_mod (u * 4294967296 + d) v
  have hm := Nat.mod_lt (u * 4294967296 + d) hv
  rw [Nat.mul_comm v] at e
  generalize hQ : (u * 4294967296 + d) / v = Q at *
  have e2 : ((Q * v : Nat) : Int) = (Q : Int) * (v : Int) := Int.natCast_mul _ _
  rw [← e2, IntKind.wrap_u64, IntKind.wrap_u64, IntKind.wrap_u64, IntKind.wrap_u64]
  omega
/-- Two digits are the quotient. -/
theorem two_digits {X y s : Nat} (hy : 0 < y) : ∃ v U, v = y * 2 ^ s ∧ U = X * 2 ^ s ∧ X / y = (U / 18446744073709551616 * 4294967296 + U % 18446744073709551616 / 4294967296) / v * 4294967296 + ((U / 18446744073709551616 * 4294967296 + U % 18446744073709551616 / 4294967296) % v * 4294967296 + U % 4294967296) / v ∧
    X % y * 2 ^ s = ((U / 18446744073709551616 * 4294967296 + U % 18446744073709551616 / 4294967296) % v * 4294967296 + U % 4294967296) % v := by
  refine ⟨_, _, rfl, rfl, ?_⟩
  have hp := Nat.two_pow_pos s
  have hv : 0 < y * 2 ^ s := Nat.mul_pos hy hp
  have h1 : X / y = X * 2 ^ s / (y * 2 ^ s) := (Nat.mul_div_mul_right X y hp).symm
  have h2 : X % y * 2 ^ s = X * 2 ^ s % (y * 2 ^ s) := (Nat.mul_mod_mul_right _ _ _).symm
  rw [h1, h2]
  generalize y * 2 ^ s = v at *
  generalize X * 2 ^ s = U at *
  have e0 : U / 18446744073709551616 * 4294967296 + U % 18446744073709551616 / 4294967296 = U / 4294967296 := by omega
  rw [e0]
  generalize hA : U / 4294967296 = A at *
  have eU : U = A * 4294967296 + U % 4294967296 := by omega
  generalize hd : U % 4294967296 = d at *
  have eA := Nat.div_add_mod A v
  generalize hQ : A / v = Q at *
  generalize hR : A % v = R at *
  have e1 : U = v * (Q * 4294967296) + (R * 4294967296 + d) := by
    rw [eU, ← eA, Nat.add_mul]
    rw [Nat.mul_assoc]
    omega
  rw [e1, Nat.mul_add_div hv, Nat.mul_add_mod]
  exact ⟨rfl, rfl⟩
end Go.Proofs.YtfoipbjhaiimlaaGreatDoor


/-
  layer 3: the long division, walked.
-/
namespace Go.Proofs.YtfoipbjhaiimlaaGreatDoor
open Go.RowKit
set_option linter.unusedSimpArgs false
set_option linter.unusedVariables false
set_option maxRecDepth 100000

noncomputable def CD : Ctx := mkC Tryz.prog G0 [(174, .pure sLz64)]
@[simp] theorem CD_P : CD.P = Tryz.prog := rfl
@[simp] theorem CD_G : CD.G = G0 := rfl
@[simp] theorem CD_1 : CD.S 174 = .pure sLz64 := rfl
theorem mixCD : CD.P.follows .mixedOrders = true := mixed
theorem sigCD : SigOK CD := sigOK_cons (entryPure (lz64P) Tryz.func174 rfl (by decide)) (sigOK_nil _ _)
def QOK (v u d q : Nat) : Prop := q = (u * 4294967296 + d) / v
/-- The words at the start: shifted until the divisor's first bit is set. -/
structure Shifted (hi lo y s v u w : Nat) : Prop where
  hv : 9223372036854775808 ≤ v
  hv' : v < 18446744073709551616
  e1 : IntKind.wrap .u64 ((y : Int) * 2 ^ (min s (IntKind.bits .u64))) = (v : Int)
  e2 : bits2 .or .u64 (IntKind.wrap .u64 ((hi : Int) * 2 ^ (min s (IntKind.bits .u64)))) ((lo : Int).fdiv (2 ^ (min (IntKind.wrap .u64 (64 - (s : Int))).toNat (IntKind.bits .u64)))) = (u : Int)
  e3 : IntKind.wrap .u64 ((lo : Int) * 2 ^ (min s (IntKind.bits .u64))) = (w : Int)
  e4 : 0 ≤ IntKind.wrap .u64 (64 - (s : Int))
  hu : u < v
  hw : w < 18446744073709551616
  quo : (hi * 18446744073709551616 + lo) / y = (u * 4294967296 + w / 4294967296) / v * 4294967296 + ((u * 4294967296 + w / 4294967296) % v * 4294967296 + w % 4294967296) / v
  rem : (((u * 4294967296 + w / 4294967296) % v * 4294967296 + w % 4294967296) % v : Nat) = (hi * 18446744073709551616 + lo) % y * 2 ^ s
  hs : s ≤ 63
theorem shifted {hi lo y : Nat} (h1 : hi < y) (h2 : lo < 18446744073709551616) (h3 : y < 18446744073709551616) : ∃ v u w, Shifted hi lo y (64 - bl y) v u w := by
  have hy0 : y ≠ 0 := by omega
  have b1 := bl_le hy0
  have b2 := bl_lt y
  have b3 := bl_le64 h3
  have b4 : 1 ≤ bl y := by unfold bl; rw [if_neg hy0]; omega
  obtain ⟨n, hn⟩ : ∃ n, bl y = n + 1 := ⟨bl y - 1, by omega⟩
  rw [hn] at b1 b2 b3 b4 ⊢
  rw [Nat.add_sub_cancel] at b1
  obtain ⟨s, hs⟩ : ∃ s, 64 - (n + 1) = s := ⟨_, rfl⟩
  rw [hs]
  have hsn : n + 1 + s = 64 := by omega
  have p2 : 2 ^ (n + 1) * 2 ^ s = 18446744073709551616 := by rw [← Nat.pow_add, hsn]
  have p1 : 2 ^ n * 2 ^ s = 9223372036854775808 := by
    rw [Nat.pow_succ, Nat.mul_right_comm] at p2
    omega
  have ps := Nat.two_pow_pos s
  have v1 : 9223372036854775808 ≤ y * 2 ^ s := by rw [← p1]; exact Nat.mul_le_mul_right _ b1
  have v2 : y * 2 ^ s < 18446744073709551616 := by rw [← p2]; exact Nat.mul_lt_mul_of_pos_right b2 ps
  obtain ⟨v, U, rfl, rfl, q1, q2⟩ := two_digits (X := hi * 18446744073709551616 + lo) (y := y) (s := s) (by omega)
  rw [show (hi * 18446744073709551616 + lo) * 2 ^ s % 4294967296 = (hi * 18446744073709551616 + lo) * 2 ^ s % 18446744073709551616 % 4294967296 by omega] at q1 q2
  have hh : (hi + 1) * 2 ^ s ≤ y * 2 ^ s := Nat.mul_le_mul_right _ h1
  rw [Nat.add_mul, Nat.one_mul] at hh
  have m0 : min s (IntKind.bits .u64) = s := by show min s 64 = s; omega
  have eU : (hi * 18446744073709551616 + lo) * 2 ^ s = hi * 2 ^ s * 18446744073709551616 + lo * 2 ^ s := by rw [Nat.add_mul]; congr 1; ac_rfl
  have w1 : IntKind.wrap .u64 (64 - (s : Int)) = ((64 - s : Nat) : Int) := by rw [IntKind.wrap_u64]; omega
  have lo1 : lo * 2 ^ s / 18446744073709551616 = lo / 2 ^ (64 - s) := by
    have : 18446744073709551616 = 2 ^ (64 - s) * 2 ^ s := by rw [← Nat.pow_add]; rw [show 64 - s + s = 64 by omega]
    rw [this, Nat.mul_div_mul_right _ _ ps]
  have lo2 : lo / 2 ^ (64 - s) < 2 ^ s := by
    rw [Nat.div_lt_iff_lt_mul (Nat.two_pow_pos _), ← Nat.pow_add, show s + (64 - s) = 64 by omega]
    exact h2
  refine ⟨y * 2 ^ s, (hi * 18446744073709551616 + lo) * 2 ^ s / 18446744073709551616, (hi * 18446744073709551616 + lo) * 2 ^ s % 18446744073709551616, ⟨v1, v2, ?_, ?_, ?_, by omega, ?_, by omega, q1, q2.symm, by omega⟩⟩
  · rw [m0, show (y : Int) * 2 ^ s = ((y * 2 ^ s : Nat) : Int) by simp, IntKind.wrap_u64]
    omega
  · have m1 : min (IntKind.wrap .u64 (64 - (s : Int))).toNat (IntKind.bits .u64) = 64 - s := by rw [w1]; show min _ 64 = _; omega
    rw [m0, m1, show (hi : Int) * 2 ^ s = ((hi * 2 ^ s : Nat) : Int) by simp, wrapN _ (by omega), Int.fdiv_eq_ediv_of_nonneg _ (Int.pow_nonneg (by decide)), show (lo : Int) / 2 ^ (64 - s) = ((lo / 2 ^ (64 - s) : Nat) : Int) by simp]
    rw [or_add ⟨by omega, by omega⟩ ⟨by omega, by omega⟩ s (by omega) (by
      rw [show ((2 : Int) ^ s) = ((2 ^ s : Nat) : Int) by simp]
      have : hi * 2 ^ s % 2 ^ s = 0 := Nat.mul_mod_left _ _
      omega) (by
      rw [show ((2 : Int) ^ s) = ((2 ^ s : Nat) : Int) by simp]
      omega)]
    rw [eU, Nat.add_comm, Nat.add_mul_div_right _ _ (by decide), lo1]
    omega
  · rw [m0, show (lo : Int) * 2 ^ s = ((lo * 2 ^ s : Nat) : Int) by simp, IntKind.wrap_u64, eU, Nat.mul_add_mod_self_right]
    omega
  · rw [eU, Nat.div_lt_iff_lt_mul (by decide)]
    have : lo * 2 ^ s < 18446744073709551616 * 2 ^ s := Nat.mul_lt_mul_of_pos_right h2 ps
    have e3 : (hi * 2 ^ s + 2 ^ s) * 18446744073709551616 ≤ y * 2 ^ s * 18446744073709551616 := Nat.mul_le_mul_right _ hh
    rw [Nat.add_mul] at e3
    omega
def sDiv64 : List AV → Option (Prop × AV)
  | [.int .u64 hi, .int .u64 lo, .int .u64 y] => some (0 ≤ hi ∧ hi < y ∧ W64 lo ∧ y < 18446744073709551616, .tup [.int .u64 ((hi * 18446744073709551616 + lo) / y), .int .u64 ((hi * 18446744073709551616 + lo) % y)])
  | _ => none
set_option maxHeartbeats 16000000 in
theorem div64P : PureOK Tryz.prog G0 173 sDiv64 := by
  refine pure_of (C := CD) sigCD mixCD Tryz.func173 rfl rfl rfl (by kernel_rfl) (fun avs ob r hp hob => ?_)
  unfold sDiv64 at hp
  split at hp
  case h_2 => cases hp
  rename_i hi lo y
  injection hp with hp; injection hp with e1 e2; subst e1 e2
  obtain ⟨i0, i1, ⟨l0, l1⟩, y1⟩ := hob
  obtain ⟨hi, rfl⟩ := Int.eq_ofNat_of_zero_le i0
  obtain ⟨lo, rfl⟩ := Int.eq_ofNat_of_zero_le l0
  obtain ⟨y, rfl⟩ := Int.eq_ofNat_of_zero_le (a := y) (by omega)
  refine ⟨(by show 3 ≤ _; decide), ?_⟩
  have n1 : ¬ y = 0 := by omega
  have n2 : ¬ (y : Int) ≤ hi := by omega
  by_cases h0 : hi = 0
  · subst h0
    have q1 : ((lo : Int)).tdiv y = (lo : Int) / y := Int.tdiv_eq_ediv_of_nonneg (by omega)
    have q2 : ((lo : Int)).tmod y = (lo : Int) % y := Int.tmod_eq_emod_of_nonneg (by omega)
    have q3 : IntKind.wrap .u64 ((lo : Int) / y) = (lo : Int) / y := by
      have : ((lo / y : Nat) : Int) = (lo : Int) / y := Int.natCast_ediv _ _
      have h := Nat.div_le_self lo y
      rw [← this, wrapN _ (by omega)]
    have n3 : 0 < y := by omega
    simp [argsρ, n1, n2, q1, q2, q3, n3]
  obtain ⟨v, u, w, S⟩ := shifted (hi := hi) (lo := lo) (y := y) (by omega) (by omega) (by omega)
  have wy : W64 (y : Int) := ⟨by omega, y1⟩
  have w1 : IntKind.wrap .u64 (((64 - bl y : Nat) : Int)) = ((64 - bl y : Nat) : Int) := wrapN _ (by omega)
  have E1 := S.e1
  have E2 := S.e2
  have E3 := S.e3
  have E4 := S.e4
  generalize hs : 64 - bl y = s at *
  have hv := S.hv
  have hv' := S.hv'
  have hu := S.hu
  have hw := S.hw
  have a1 := and32N v hv'
  have a2 := and32N w hw
  have f1 := fd32 v
  have f2 := fd32 w
  obtain ⟨d1, hd1⟩ : ∃ d, w / 4294967296 = d := ⟨_, rfl⟩
  obtain ⟨d0, hd0⟩ : ∃ d, w % 4294967296 = d := ⟨_, rfl⟩
  obtain ⟨b1, hb1⟩ : ∃ d, v / 4294967296 = d := ⟨_, rfl⟩
  obtain ⟨b0, hb0⟩ : ∃ d, v % 4294967296 = d := ⟨_, rfl⟩
  rw [hd1] at f2
  rw [hd0] at a2
  rw [hb1] at f1
  rw [hb0] at a1
  have hd1' : d1 < 4294967296 := by omega
  have hd0' : d0 < 4294967296 := by omega
  have hb0' : b0 < 4294967296 := by omega
  have b1n : ¬ b1 = 0 := by omega
  have HsA := dig_start (d := d1) hv hv' hu hd1'
  have cA1 : IntKind.wrap .u64 ((u : Int) / b1) = ((u / b1 : Nat) : Int) := by
    rw [← Int.natCast_ediv]
    have := Nat.div_le_self u b1
    exact wrapN _ (by omega)
  have mA := Nat.div_mul_le_self u b1
  rw [hb1] at HsA
  obtain ⟨qA, hqA⟩ : ∃ q, u / b1 = q := ⟨_, rfl⟩
  rw [hqA] at HsA cA1 mA
  have cA2 : IntKind.wrap .u64 ((u : Int) - IntKind.wrap .u64 ((qA : Int) * b1)) = ((u - qA * b1 : Nat) : Int) := by
    rw [← Int.natCast_mul, wrapN _ (by omega), wrapU']
    omega
  obtain ⟨rA, hrA⟩ : ∃ r, u - qA * b1 = r := ⟨_, rfl⟩
  rw [hrA] at HsA cA2
  simp [argsρ, n1, n2, h0, sLz64, wy, hs, w1, E1, E2, E3, E4, a1, a2, f1, f2, cA1, cA2, b1n]
  refine loop_cut (C := CD) sigCD mixCD 0 (fun p : Nat × Nat => ⟨[(2, .int .u64 v), (6, .int .u64 0), (7, .int .u64 0), (8, .int .u64 s), (9, .int .u64 b1), (10, .int .u64 b0), (11, .int .u64 u), (12, .int .u64 w), (13, .int .u64 d1), (14, .int .u64 d0), (15, .int .u64 p.1), (16, .int .u64 p.2)], []⟩) (fun p => QOK v u d1 p.1) (fun p : Nat × Nat => ⟨[(2, .int .u64 v), (6, .int .u64 0), (7, .int .u64 0), (8, .int .u64 s), (9, .int .u64 b1), (10, .int .u64 b0), (11, .int .u64 u), (12, .int .u64 w), (13, .int .u64 d1), (14, .int .u64 d0), (15, .int .u64 p.1), (16, .int .u64 p.2)], []⟩) (fun p => DigOK v u d1 p.1 p.2) (fun p => p.1) (by kernel_rfl) ⟨(qA, rA), HsA, weak_slots (by simp)⟩ (fun ⟨q, r⟩ H => ?_) (fun ⟨q, r⟩ H => ?_)
  · simp only at H ⊢
    have hn := H.near
    have hr := H.small
    have k1 : IntKind.wrap .u64 (4294967296 * (r : Int)) = ((4294967296 * r : Nat) : Int) := by rw [wrapU']; omega
    have k2 : IntKind.wrap .u64 (((4294967296 * r : Nat) : Int) + d1) = ((4294967296 * r + d1 : Nat) : Int) := by rw [wrapU']; omega
    have step : (4294967296 ≤ q ∨ 4294967296 * r + d1 < q * b0) → IntKind.wrap .u64 ((q : Int) - 1) = ((q - 1 : Nat) : Int) ∧ IntKind.wrap .u64 ((r : Int) + b1) = ((r + b1 : Nat) : Int) ∧ q - 1 < q ∧ (r + b1 < 4294967296 → DigOK v u d1 (q - 1) (r + b1)) ∧ (4294967296 ≤ r + b1 → q - 1 = (u * 4294967296 + d1) / v) := fun h => by
      have := dig_next hv hv' hu hd1' H (by rw [hb0]; exact h)
      rw [hb1] at this
      refine ⟨by rw [wrapU']; omega, by rw [wrapU']; omega, by omega, this.2.2.1, this.2.2.2⟩
    by_cases t1 : 4294967296 ≤ q
    · obtain ⟨s1, s2, s5, s3, s4⟩ := step (.inl t1)
      generalize q - 1 = q' at s1 s3 s4 s5
      generalize r + b1 = r' at s2 s3 s4
      have t1' : (4294967296 : Int) ≤ q := by omega
      by_cases t2 : 4294967296 ≤ r'
      · have t2' : (4294967296 : Int) ≤ r' := by omega
        simp [t1', s1, s2, t2']
        exact ⟨q', s4 t2, r', weak_slots (by simp)⟩
      · have t2' : ¬ (4294967296 : Int) ≤ r' := by omega
        simp [t1', s1, s2, t2']
        exact ⟨q', r', s3 (by omega), s5, weak_slots (by simp)⟩
    · have t1' : ¬ (4294967296 : Int) ≤ q := by omega
      have qb : q * b0 < 18446744073709551616 := Nat.lt_of_le_of_lt (Nat.mul_le_mul (n₂ := 4294967295) (m₂ := 4294967295) (by omega) (by omega)) (by decide)
      have k3 : IntKind.wrap .u64 ((q : Int) * b0) = ((q * b0 : Nat) : Int) := by rw [← Int.natCast_mul]; exact wrapN _ qb
      obtain ⟨x1, hx1⟩ : ∃ x, 4294967296 * r = x := ⟨_, rfl⟩
      obtain ⟨x2, hx2⟩ : ∃ x, x1 + d1 = x := ⟨_, rfl⟩
      obtain ⟨x3, hx3⟩ : ∃ x, q * b0 = x := ⟨_, rfl⟩
      rw [hx1] at k1 k2 step
      rw [hx2] at k2 step
      rw [hx3] at k3 step
      by_cases t3 : x2 < x3
      · obtain ⟨s1, s2, s5, s3, s4⟩ := step (.inr t3)
        generalize q - 1 = q' at s1 s3 s4 s5
        generalize r + b1 = r' at s2 s3 s4
        by_cases t2 : 4294967296 ≤ r'
        · have t2' : (4294967296 : Int) ≤ r' := by omega
          simp [t1', k1, k2, k3, t3, s1, s2, t2']
          exact ⟨q', s4 t2, r', weak_slots (by simp)⟩
        · have t2' : ¬ (4294967296 : Int) ≤ r' := by omega
          simp [t1', k1, k2, k3, t3, s1, s2, t2']
          exact ⟨q', r', s3 (by omega), s5, weak_slots (by simp)⟩
      · simp [t1', k1, k2, k3, t3]
        exact ⟨q, dig_done (by omega) H (by rw [hb0]; omega), r, weak_slots (by simp)⟩
  · simp only at H ⊢
    have g1 := dig_rem (u := u) (d := d1) (by omega : 0 < v) hv'
    have hu1 := Nat.mod_lt (u * 4294967296 + d1) (by omega : 0 < v)
    have Q := S.quo
    have R := S.rem
    rw [hd1, hd0] at Q R
    unfold QOK at H
    rw [← H] at g1 Q
    obtain ⟨u1, hu1e⟩ : ∃ x, (u * 4294967296 + d1) % v = x := ⟨_, rfl⟩
    rw [hu1e] at g1 hu1 Q R
    have HsB := dig_start (d := d0) hv hv' hu1 hd0'
    have cB1 : IntKind.wrap .u64 ((u1 : Int) / b1) = ((u1 / b1 : Nat) : Int) := by
      rw [← Int.natCast_ediv]
      have := Nat.div_le_self u1 b1
      exact wrapN _ (by omega)
    have mB := Nat.div_mul_le_self u1 b1
    rw [hb1] at HsB
    obtain ⟨qB, hqB⟩ : ∃ q, u1 / b1 = q := ⟨_, rfl⟩
    rw [hqB] at HsB cB1 mB
    have cB2 : IntKind.wrap .u64 ((u1 : Int) - IntKind.wrap .u64 ((qB : Int) * b1)) = ((u1 - qB * b1 : Nat) : Int) := by
      rw [← Int.natCast_mul, wrapN _ (by omega), wrapU']
      omega
    obtain ⟨rB, hrB⟩ : ∃ r, u1 - qB * b1 = r := ⟨_, rfl⟩
    rw [hrB] at HsB cB2
    simp [g1, cB1, cB2, b1n]
    refine loop_cut (C := CD) sigCD mixCD 2 (fun p : Nat × Nat => ⟨[(2, .int .u64 v), (6, .int .u64 0), (7, .int .u64 0), (8, .int .u64 s), (9, .int .u64 b1), (10, .int .u64 b0), (11, .int .u64 u), (12, .int .u64 w), (13, .int .u64 d1), (14, .int .u64 d0), (15, .int .u64 q), (17, .int .u64 u1), (18, .int .u64 p.1), (16, .int .u64 p.2)], []⟩) (fun p => QOK v u1 d0 p.1) (fun p : Nat × Nat => ⟨[(2, .int .u64 v), (6, .int .u64 0), (7, .int .u64 0), (8, .int .u64 s), (9, .int .u64 b1), (10, .int .u64 b0), (11, .int .u64 u), (12, .int .u64 w), (13, .int .u64 d1), (14, .int .u64 d0), (15, .int .u64 q), (17, .int .u64 u1), (18, .int .u64 p.1), (16, .int .u64 p.2)], []⟩) (fun p => DigOK v u1 d0 p.1 p.2) (fun p => p.1) (by kernel_rfl) ⟨(qB, rB), HsB, weak_slots (by simp)⟩ (fun ⟨q, r⟩ H => ?_) (fun ⟨q2, r2⟩ H2 => ?_)
    · simp only at H ⊢
      have hn := H.near
      have hr := H.small
      have k1 : IntKind.wrap .u64 (4294967296 * (r : Int)) = ((4294967296 * r : Nat) : Int) := by rw [wrapU']; omega
      have k2 : IntKind.wrap .u64 (((4294967296 * r : Nat) : Int) + d0) = ((4294967296 * r + d0 : Nat) : Int) := by rw [wrapU']; omega
      have step : (4294967296 ≤ q ∨ 4294967296 * r + d0 < q * b0) → IntKind.wrap .u64 ((q : Int) - 1) = ((q - 1 : Nat) : Int) ∧ IntKind.wrap .u64 ((r : Int) + b1) = ((r + b1 : Nat) : Int) ∧ q - 1 < q ∧ (r + b1 < 4294967296 → DigOK v u1 d0 (q - 1) (r + b1)) ∧ (4294967296 ≤ r + b1 → q - 1 = (u1 * 4294967296 + d0) / v) := fun h => by
        have := dig_next hv hv' hu1 hd0' H (by rw [hb0]; exact h)
        rw [hb1] at this
        refine ⟨by rw [wrapU']; omega, by rw [wrapU']; omega, by omega, this.2.2.1, this.2.2.2⟩
      by_cases t1 : 4294967296 ≤ q
      · obtain ⟨s1, s2, s5, s3, s4⟩ := step (.inl t1)
        generalize q - 1 = q' at s1 s3 s4 s5
        generalize r + b1 = r' at s2 s3 s4
        have t1' : (4294967296 : Int) ≤ q := by omega
        by_cases t2 : 4294967296 ≤ r'
        · have t2' : (4294967296 : Int) ≤ r' := by omega
          simp [t1', s1, s2, t2']
          exact ⟨q', s4 t2, r', weak_slots (by simp)⟩
        · have t2' : ¬ (4294967296 : Int) ≤ r' := by omega
          simp [t1', s1, s2, t2']
          exact ⟨q', r', s3 (by omega), s5, weak_slots (by simp)⟩
      · have t1' : ¬ (4294967296 : Int) ≤ q := by omega
        have qb : q * b0 < 18446744073709551616 := Nat.lt_of_le_of_lt (Nat.mul_le_mul (n₂ := 4294967295) (m₂ := 4294967295) (by omega) (by omega)) (by decide)
        have k3 : IntKind.wrap .u64 ((q : Int) * b0) = ((q * b0 : Nat) : Int) := by rw [← Int.natCast_mul]; exact wrapN _ qb
        obtain ⟨x1, hx1⟩ : ∃ x, 4294967296 * r = x := ⟨_, rfl⟩
        obtain ⟨x2, hx2⟩ : ∃ x, x1 + d0 = x := ⟨_, rfl⟩
        obtain ⟨x3, hx3⟩ : ∃ x, q * b0 = x := ⟨_, rfl⟩
        rw [hx1] at k1 k2 step
        rw [hx2] at k2 step
        rw [hx3] at k3 step
        by_cases t3 : x2 < x3
        · obtain ⟨s1, s2, s5, s3, s4⟩ := step (.inr t3)
          generalize q - 1 = q' at s1 s3 s4 s5
          generalize r + b1 = r' at s2 s3 s4
          by_cases t2 : 4294967296 ≤ r'
          · have t2' : (4294967296 : Int) ≤ r' := by omega
            simp [t1', k1, k2, k3, t3, s1, s2, t2']
            exact ⟨q', s4 t2, r', weak_slots (by simp)⟩
          · have t2' : ¬ (4294967296 : Int) ≤ r' := by omega
            simp [t1', k1, k2, k3, t3, s1, s2, t2']
            exact ⟨q', r', s3 (by omega), s5, weak_slots (by simp)⟩
        · simp [t1', k1, k2, k3, t3]
          exact ⟨q, dig_done (by omega) H (by rw [hb0]; omega), r, weak_slots (by simp)⟩
    · simp only at H2 ⊢
      have z2 := dig_rem (u := u1) (d := d0) (by omega : 0 < v) hv'
      unfold QOK at H2
      rw [← H2] at z2 Q
      rw [R] at z2
      have hq1 : q < 4294967296 := by rw [H]; exact dig_small (by omega) hu hd1'
      have hq2 : q2 < 4294967296 := by rw [H2]; exact dig_small (by omega) hu1 hd0'
      have z1 : IntKind.wrap .u64 (IntKind.wrap .u64 ((q : Int) * 4294967296) + q2) = ((hi : Int) * 18446744073709551616 + lo) / y := by
        have e : (((hi * 18446744073709551616 + lo) / y : Nat) : Int) = ((hi : Int) * 18446744073709551616 + lo) / y := by simp
        rw [← e, Q, wrapU', wrapU']
        omega
      have z3 : (((hi * 18446744073709551616 + lo) % y * 2 ^ s : Nat) : Int).fdiv (2 ^ min s (IntKind.bits .u64)) = ((hi : Int) * 18446744073709551616 + lo) % y := by
        have e : (((hi * 18446744073709551616 + lo) % y : Nat) : Int) = ((hi : Int) * 18446744073709551616 + lo) % y := by simp
        have m0 : min s (IntKind.bits .u64) = s := by have := S.hs; show min s 64 = s; omega
        rw [m0, ← e, Int.natCast_mul, Int.fdiv_eq_ediv_of_nonneg _ (Int.pow_nonneg (by decide)), show (((2 ^ s : Nat)) : Int) = (2 : Int) ^ s by simp, Int.mul_ediv_cancel]
        have := Nat.two_pow_pos s
        have e2 : ((2 ^ s : Nat) : Int) = (2 : Int) ^ s := by simp
        omega
      generalize ((hi * 18446744073709551616 + lo) % y * 2 ^ s : Nat) = z at z2 z3
      simp [z1, z2, z3]
end Go.Proofs.YtfoipbjhaiimlaaGreatDoor


/-
  layer 3: fractions, the program's side.
-/
namespace Go.Proofs.YtfoipbjhaiimlaaGreatDoor
open Go.RowKit
set_option linter.unusedSimpArgs false
set_option linter.unusedVariables false
set_option maxRecDepth 100000

noncomputable def CM1 : Ctx := mkC Tryz.prog G0 [(173, .pure sDiv64)]
@[simp] theorem CM1_P : CM1.P = Tryz.prog := rfl
@[simp] theorem CM1_G : CM1.G = G0 := rfl
@[simp] theorem CM1_1 : CM1.S 173 = .pure sDiv64 := rfl
theorem mixCM1 : CM1.P.follows .mixedOrders = true := mixed
theorem sigCM1 : SigOK CM1 := sigOK_cons (entryPure (div64P) Tryz.func173 rfl (by decide)) (sigOK_nil _ _)
theorem mag_int {x : Wide} (g : GoodW x) : (magW x : Int) = x.hi * 18446744073709551616 + x.lo := by
  have := g.hi.1
  have := g.lo.1
  unfold magW
  omega
def sModW : List AV → Option (Prop × AV)
  | [.agg [.bool n, .int .u64 h, .int .u64 l], .int .u64 m] => some (GoodW ⟨n, h, l⟩ ∧ 0 < m ∧ m < 18446744073709551616, .int .u64 ((magW ⟨n, h, l⟩ : Int) % m))
  | _ => none
theorem modWP : PureOK Tryz.prog G0 167 sModW := by
  refine pure_of (C := CM1) sigCM1 mixCM1 Tryz.func167 rfl rfl rfl (by kernel_rfl) (fun avs ob r hp hob => ?_)
  unfold sModW at hp
  split at hp
  case h_2 => cases hp
  rename_i n h l m
  injection hp with hp; injection hp with e1 e2; subst e1 e2
  obtain ⟨g, m0, m1⟩ := hob
  have e := mag_int g
  obtain ⟨⟨h0, h1⟩, ⟨l0, l1⟩⟩ := g
  simp only at h0 h1 l0 l1 e
  refine ⟨(by show 2 ≤ _; decide), ?_⟩
  have t1 : h.tmod m = h % m := Int.tmod_eq_emod_of_nonneg h0
  have t2 := Int.emod_nonneg h (show m ≠ 0 by omega)
  have t3 := Int.emod_lt_of_pos h m0
  have t4 : ¬ m = 0 := by omega
  have e2 : (h % m * 18446744073709551616 + l) % m = (h * 18446744073709551616 + l) % m := by
    rw [Int.add_emod, Int.mul_emod, Int.emod_emod_of_dvd _ (Int.dvd_refl m), ← Int.mul_emod, ← Int.add_emod]
  simp [argsρ, sDiv64, t1, t2, t3, t4, W64, l0, l1, m1, e, e2]
def overI (x : Wide) (m : Int) : Int × Bool := if InR ((magW x : Int) / m) then (if x.neg then -((magW x : Int) / m) else (magW x : Int) / m, true) else (0, false)
def sOverW : List AV → Option (Prop × AV)
  | [.agg [.bool n, .int .u64 h, .int .u64 l], .int .u64 m] => some (GoodW ⟨n, h, l⟩ ∧ 0 < m ∧ m ≤ 1000000000000000, .tup [.int .i64 (overI ⟨n, h, l⟩ m).1, .bool (overI ⟨n, h, l⟩ m).2])
  | _ => none
set_option maxHeartbeats 4000000 in
theorem overWP : PureOK Tryz.prog G0 168 sOverW := by
  refine pure_of (C := CM1) sigCM1 mixCM1 Tryz.func168 rfl rfl rfl (by kernel_rfl) (fun avs ob r hp hob => ?_)
  unfold sOverW at hp
  split at hp
  case h_2 => cases hp
  rename_i n h l m
  injection hp with hp; injection hp with e1 e2; subst e1 e2
  obtain ⟨g, m0, m1⟩ := hob
  have e := mag_int g
  obtain ⟨⟨h0, h1⟩, ⟨l0, l1⟩⟩ := g
  simp only at h0 h1 l0 l1 e
  refine ⟨(by show 2 ≤ _; decide), ?_⟩
  unfold overI
  rw [e]
  by_cases hm : m ≤ h
  · have big : 18446744073709551616 ≤ (h * 18446744073709551616 + l) / m := by
      rw [Int.le_ediv_iff_mul_le m0]
      omega
    have no : ¬ InR ((h * 18446744073709551616 + l) / m) := by unfold InR; omega
    simp [argsρ, hm, no]
  have m2 : m < 18446744073709551616 := by omega
  have hm' : h < m := by omega
  have q0 : 0 ≤ (h * 18446744073709551616 + l) / m := Int.ediv_nonneg (by omega) (by omega)
  obtain ⟨q, hqe⟩ : ∃ q, (h * 18446744073709551616 + l) / m = q := ⟨_, rfl⟩
  rw [hqe] at q0 ⊢
  by_cases hq : 1000000000000000 < q
  · have no : ¬ InR q := by unfold InR; omega
    simp [argsρ, sDiv64, hm, hm', hq, no, W64, l0, l1, m2, h0, hqe]
  · have yes : InR q := by unfold InR; omega
    have w1 : IntKind.wrap .i64 q = q := IntWalk.i64_in _ (by omega)
    have w2 : IntKind.wrap .i64 (-q) = -q := IntWalk.i64_in _ (by omega)
    cases n
    · simp [argsρ, sDiv64, hm, hm', hq, yes, W64, l0, l1, m2, h0, w1, w2, hqe]
    · simp [argsρ, sDiv64, hm, hm', hq, yes, W64, l0, l1, m2, h0, w1, w2, hqe]
def sValidF : List AV → Option (Prop × AV) := spec1 (fun (_ : Fr) => True) (fun a => .bool (decide (ValidF a)))
noncomputable def CV : Ctx := mkC Tryz.prog G0 [(95, .pure sIn), (96, .pure sGcd)]
@[simp] theorem CV_P : CV.P = Tryz.prog := rfl
@[simp] theorem CV_G : CV.G = G0 := rfl
@[simp] theorem CV_1 : CV.S 95 = .pure sIn := rfl
@[simp] theorem CV_2 : CV.S 96 = .pure sGcd := rfl
theorem mixCV : CV.P.follows .mixedOrders = true := mixed
theorem sigCV : SigOK CV := sigOK_cons (entryPure (inP) Tryz.func95 rfl (by decide)) (sigOK_cons (entryPure (gcdP) Tryz.func96 rfl (by decide)) (sigOK_nil _ _))
theorem gcdI_in {a b : Int} (ha : InR a) (hb : InR b) : gcdI a b = Int.gcd a b := if_pos ⟨ha, hb⟩
theorem validP : PureOK Tryz.prog G0 55 sValidF := by
  refine pure1 (C := CV) sigCV mixCV Tryz.func55 rfl rfl rfl (by kernel_rfl) (by decide) (fun a _ => ?_)
  obtain ⟨n, d⟩ := a
  by_cases h1 : 1 ≤ d
  case neg => simp [sIn, sGcd, h1, ValidF]
  by_cases h2 : d ≤ 1000000000000000
  case neg => simp [sIn, sGcd, h1, h2, ValidF]
  by_cases h3 : InR n
  case neg => simp [sIn, sGcd, h1, h2, h3, ValidF]
  have e := gcdI_in h3 (show InR d by unfold InR; omega)
  have e2 : ((Int.gcd n d : Nat) : Int) = 1 ↔ Int.gcd n d = 1 := by omega
  simp [sIn, sGcd, h1, h2, h3, ValidF, e, e2]

noncomputable def CFr : Ctx := mkC Tryz.prog G0 [(55, .pure sValidF), (96, .pure sGcd), (162, .pure sMulI), (164, .pure sProd), (165, .pure sPlus), (166, .pure sSignW), (167, .pure sModW), (168, .pure sOverW)]
@[simp] theorem CFr_P : CFr.P = Tryz.prog := rfl
@[simp] theorem CFr_G : CFr.G = G0 := rfl
@[simp] theorem CFr_1 : CFr.S 55 = .pure sValidF := rfl
@[simp] theorem CFr_2 : CFr.S 96 = .pure sGcd := rfl
@[simp] theorem CFr_3 : CFr.S 162 = .pure sMulI := rfl
@[simp] theorem CFr_4 : CFr.S 164 = .pure sProd := rfl
@[simp] theorem CFr_5 : CFr.S 165 = .pure sPlus := rfl
@[simp] theorem CFr_6 : CFr.S 166 = .pure sSignW := rfl
@[simp] theorem CFr_7 : CFr.S 167 = .pure sModW := rfl
@[simp] theorem CFr_8 : CFr.S 168 = .pure sOverW := rfl
theorem mixCFr : CFr.P.follows .mixedOrders = true := mixed
theorem sigCFr : SigOK CFr := sigOK_cons (entryPure (validP) Tryz.func55 rfl (by decide)) (sigOK_cons (entryPure (gcdP) Tryz.func96 rfl (by decide)) (sigOK_cons (entryPure (mulIP) Tryz.func162 rfl (by decide)) (sigOK_cons (entryPure (prodP) Tryz.func164 rfl (by decide)) (sigOK_cons (entryPure (plusP) Tryz.func165 rfl (by decide)) (sigOK_cons (entryPure (signWP) Tryz.func166 rfl (by decide)) (sigOK_cons (entryPure (modWP) Tryz.func167 rfl (by decide)) (sigOK_cons (entryPure (overWP) Tryz.func168 rfl (by decide)) (sigOK_nil _ _))))))))
theorem tdiv_R {n g : Int} (h : InR n) (hg : 0 < g) : InR (n.tdiv g) ∧ IntKind.wrap .i64 (n.tdiv g) = n.tdiv g := by
  have h1 : (n.tdiv g).natAbs ≤ n.natAbs := by rw [Int.natAbs_tdiv]; exact Nat.div_le_self _ _
  unfold InR at h
  have : InR (n.tdiv g) := by unfold InR; omega
  refine ⟨this, IntWalk.i64_in _ ?_⟩
  unfold InR at this
  omega
def sMulF : List AV → Option (Prop × AV) := spec2 (fun (_ _ : Fr) => True) (fun a b => .tup [Enc.enc (mulF a b).1, .bool (mulF a b).2])
theorem mulF_no {a b : Fr} (h : ¬ (ValidF a ∧ ValidF b)) : mulF a b = (F00, false) := if_neg h
theorem gcd_R {a b : Int} (ha : InR a) (hb : InR b) (h0 : b ≠ 0) : 0 < Int.gcd a b ∧ InR (Int.gcd a b) := by
  have h1 := Int.gcd_pos_of_ne_zero_right a h0
  have h2 := Int.gcd_le_natAbs_right a h0
  unfold InR at *
  omega
theorem rng_mul {a b : Int} {c d : Int} (h1 : InR a) (h2 : InR b) (h3 : InR c) (h4 : InR d) : rngF (a * b) (c * d) = if (mulI a b).2 = true ∧ (mulI c d).2 = true then (⟨(mulI a b).1, (mulI c d).1⟩, true) else (F00, false) := by
  unfold rngF mulI
  by_cases h5 : InR (a * b) <;> by_cases h6 : InR (c * d) <;> simp [h1, h2, h3, h4, h5, h6]
set_option maxHeartbeats 4000000 in
theorem mulP : PureOK Tryz.prog G0 149 sMulF := by
  refine pure2 (C := CFr) sigCFr mixCFr Tryz.func149 rfl rfl rfl (by kernel_rfl) (by decide) (fun a b _ => ?_)
  by_cases ha : ValidF a
  case neg =>
    have e := mulF_no (a := a) (b := b) (fun h => ha h.1)
    simp [sValidF, ha, e, F00]
  by_cases hb : ValidF b
  case neg =>
    have e := mulF_no (a := a) (b := b) (fun h => hb h.2)
    simp [sValidF, ha, hb, e, F00]
  have e := mul_parts ha hb
  have ha' := ha
  have hb' := hb
  obtain ⟨a1, a2, a3, a4⟩ := ha'
  obtain ⟨b1, b2, b3, b4⟩ := hb'
  have a5 : InR a.D := by unfold InR; omega
  have b5 : InR b.D := by unfold InR; omega
  obtain ⟨g0, g1⟩ := gcd_R a3 b5 (by omega)
  obtain ⟨h0, h1⟩ := gcd_R b3 a5 (by omega)
  have i1 := gcdI_in a3 b5
  have i2 := gcdI_in b3 a5
  generalize Int.gcd a.N b.D = g at *
  generalize Int.gcd b.N a.D = h at *
  obtain ⟨p1, q1⟩ := tdiv_R a3 (g := g) (by omega)
  obtain ⟨p2, q2⟩ := tdiv_R b3 (g := h) (by omega)
  obtain ⟨p3, q3⟩ := tdiv_R a5 (g := h) (by omega)
  obtain ⟨p4, q4⟩ := tdiv_R b5 (g := g) (by omega)
  rw [rng_mul p1 p2 p3 p4] at e
  have g2 : ¬ g = 0 := by omega
  have h2 : ¬ h = 0 := by omega
  have q1 : w64 _ = _ := q1
  have q2 : w64 _ = _ := q2
  have q3 : w64 _ = _ := q3
  have q4 : w64 _ = _ := q4
  obtain ⟨n1, f1, e1⟩ : ∃ n f, mulI (a.N.tdiv g) (b.N.tdiv h) = (n, f) := ⟨_, _, rfl⟩
  obtain ⟨n2, f2, e2⟩ : ∃ n f, mulI (a.D.tdiv h) (b.D.tdiv g) = (n, f) := ⟨_, _, rfl⟩
  rw [e1, e2] at e
  simp only at e
  cases f1
  · simp [sValidF, sGcd, sMulI, ha, hb, i1, i2, q1, q2, q3, q4, g2, h2, e1, e2, e, F00]
  · cases f2
    · simp [sValidF, sGcd, sMulI, ha, hb, i1, i2, q1, q2, q3, q4, g2, h2, e1, e2, e, F00]
    · simp [sValidF, sGcd, sMulI, ha, hb, i1, i2, q1, q2, q3, q4, g2, h2, e1, e2, e, F00]
end Go.Proofs.YtfoipbjhaiimlaaGreatDoor


/-
  layer 3: sums and quotients of fractions, the program's side.
-/
namespace Go.Proofs.YtfoipbjhaiimlaaGreatDoor
open Go.RowKit
set_option linter.unusedSimpArgs false
set_option linter.unusedVariables false
set_option maxRecDepth 100000

theorem pair_of {α β : Type} (x : α × β) : ∃ a b, x = (a, b) := ⟨x.1, x.2, rfl⟩
/-- What the words say of two products added. -/
theorem plus_val {x y : Wide} (gx : GoodW x) (gy : GoodW y) : ((if (plusW x y).neg then -(magW (plusW x y) : Int) else magW (plusW x y)) : Int) = (if x.neg then -(magW x : Int) else magW x) + (if y.neg then -(magW y : Int) else magW y) := by
  unfold plusW
  cases hx : x.neg <;> cases hy : y.neg <;> simp
  · split <;> simp <;> omega
  · split <;> simp <;> omega
  · omega
def valW (x : Wide) : Int := if x.neg then -(magW x : Int) else magW x
theorem prod_val {a b : Int} : valW (prodF a b) = a * b := by
  unfold valW prodF
  rw [mag_of, neg_of, Int.natCast_mul]
  by_cases ha : a < 0 <;> by_cases hb : b < 0
  · have e1 : (a.natAbs : Int) = -a := by omega
    have e2 : (b.natAbs : Int) = -b := by omega
    simp [ha, hb, e1, e2, Int.neg_mul, Int.mul_neg]
  · have e1 : (a.natAbs : Int) = -a := by omega
    have e2 : (b.natAbs : Int) = b := by omega
    simp [ha, hb, e1, e2, Int.neg_mul, Int.mul_neg]
  · have e1 : (a.natAbs : Int) = a := by omega
    have e2 : (b.natAbs : Int) = -b := by omega
    simp [ha, hb, e1, e2, Int.neg_mul, Int.mul_neg]
  · have e1 : (a.natAbs : Int) = a := by omega
    have e2 : (b.natAbs : Int) = b := by omega
    simp [ha, hb, e1, e2, Int.neg_mul, Int.mul_neg]
theorem good_plus {x y : Wide} (gx : GoodW x) (gy : GoodW y) (hx : magW x ≤ 10000000000000000000000000000000) (hy : magW y ≤ 10000000000000000000000000000000) : GoodW (plusW x y) := by
  unfold plusW
  split
  · exact good_of (by omega)
  · split
    · exact good_of (by omega)
    · exact good_of (by omega)
/-- What stands in the words behind the two products. -/
structure SumW (T : Wide) (t : Int) : Prop where
  good : GoodW T
  mag : magW T = t.natAbs
  val : T.neg = true → t ≤ 0
  val' : T.neg = false → 0 ≤ t
theorem sumW {a b c d : Int} (ha : InR a) (hb : InR b) (hc : InR c) (hd : InR d) : SumW (plusW (prodF a b) (prodF c d)) (a * b + c * d) := by
  have g1 := good_prod ha hb
  have g2 := good_prod hc hd
  have m1 : magW (prodF a b) = a.natAbs * b.natAbs := mag_of _ _
  have m2 : magW (prodF c d) = c.natAbs * d.natAbs := mag_of _ _
  have b1 := abs_mul_lt ha hb
  have b2 := abs_mul_lt hc hd
  have v1 := prod_val (a := a) (b := b)
  have v2 := prod_val (a := c) (b := d)
  have v := plus_val g1 g2
  have e1 : valW (prodF a b) = if (prodF a b).neg = true then -(magW (prodF a b) : Int) else magW (prodF a b) := rfl
  have e2 : valW (prodF c d) = if (prodF c d).neg = true then -(magW (prodF c d) : Int) else magW (prodF c d) := rfl
  rw [← e1, ← e2, v1, v2] at v
  have g3 := good_plus g1 g2 (by omega) (by omega)
  generalize plusW (prodF a b) (prodF c d) = T at *
  generalize a * b + c * d = t at *
  refine ⟨g3, ?_, fun h => ?_, fun h => ?_⟩
  · cases h : T.neg <;> rw [h] at v <;> simp at v <;> omega
  · rw [h] at v; simp at v; omega
  · rw [h] at v; simp at v; omega
theorem gcd_abs_mod (t : Int) (g : Nat) : Int.gcd ((t.natAbs : Int) % (g : Int)) g = Int.gcd t g := by
  have e : ((t.natAbs : Int) % (g : Int)) = ((t.natAbs % g : Nat) : Int) := by simp
  rw [e]
  unfold Int.gcd
  rw [Int.natAbs_natCast, Int.natAbs_natCast, Nat.gcd_comm t.natAbs, Nat.gcd_rec g t.natAbs]
theorem tdiv_le0 {t : Int} (h : t ≤ 0) {m : Nat} (hm : 0 < m) : t.tdiv m ≤ 0 := by
  have h1 : (-t).tdiv m = -(t.tdiv m) := Int.neg_tdiv _ _
  have h2 := Int.tdiv_nonneg (a := -t) (b := m) (by omega) (by omega)
  omega
theorem over_sum {T : Wide} {t : Int} (h : SumW T t) {m : Nat} (hm : 0 < m) : overI T m = if InR (t.tdiv m) then (t.tdiv m, true) else (0, false) := by
  unfold overI
  rw [h.mag]
  have e : ((t.natAbs : Int) / (m : Int)) = ((t.tdiv m).natAbs : Int) := by
    rw [Int.natAbs_tdiv, Int.natAbs_natCast]
    exact (Int.natCast_ediv _ _).symm
  rw [e]
  have hR : InR ((t.tdiv m).natAbs : Int) ↔ InR (t.tdiv m) := by unfold InR; omega
  by_cases hr : InR (t.tdiv m)
  · rw [if_pos (hR.2 hr), if_pos hr]
    cases hn : T.neg with
    | true =>
      have e2 := tdiv_le0 (h.val hn) hm
      simp only [if_true]
      rw [show -((t.tdiv m).natAbs : Int) = t.tdiv m by omega]
    | false =>
      have : 0 ≤ t.tdiv m := Int.tdiv_nonneg (h.val' hn) (by omega)
      simp only [Bool.false_eq_true, if_false]
      rw [show ((t.tdiv m).natAbs : Int) = t.tdiv m by omega]
  · rw [if_neg (mt hR.1 hr), if_neg hr]
theorem addF_no {a b : Fr} (h : ¬ (ValidF a ∧ ValidF b)) : addF a b = (F00, false) := if_neg h
def sAddF : List AV → Option (Prop × AV) := spec2 (fun (_ _ : Fr) => True) (fun a b => .tup [Enc.enc (addF a b).1, .bool (addF a b).2])
set_option maxHeartbeats 8000000 in
theorem addP : PureOK Tryz.prog G0 163 sAddF := by
  refine pureH2 (C := CFr) sigCFr mixCFr Tryz.func163 rfl rfl rfl [4] (by kernel_rfl) (by decide) (fun a b _ => ?_)
  by_cases ha : ValidF a
  case neg =>
    have e := addF_no (a := a) (b := b) (fun h => ha h.1)
    simp [sValidF, ha, e, F00]
  by_cases hb : ValidF b
  case neg =>
    have e := addF_no (a := a) (b := b) (fun h => hb h.2)
    simp [sValidF, ha, hb, e, F00]
  obtain ⟨hh0, e⟩ := add_parts ha hb
  have ez := add_zero_parts ha hb
  have ha' := ha
  have hb' := hb
  obtain ⟨a1, a2, a3, a4⟩ := ha'
  obtain ⟨b1, b2, b3, b4⟩ := hb'
  have a5 : InR a.D := by unfold InR; omega
  have b5 : InR b.D := by unfold InR; omega
  obtain ⟨g0, g1⟩ := gcd_R a5 b5 (by omega)
  have i1 := gcdI_in a5 b5
  have et : tF a b = a.N * b.D.tdiv (Int.gcd a.D b.D) + b.N * a.D.tdiv (Int.gcd a.D b.D) := rfl
  generalize Int.gcd a.D b.D = g at *
  obtain ⟨p1, q1⟩ := tdiv_R a5 (g := g) (by omega)
  obtain ⟨p2, q2⟩ := tdiv_R b5 (g := g) (by omega)
  have S := sumW a3 p2 b3 p1
  rw [← et] at S
  generalize hT : plusW (prodF a.N (b.D.tdiv g)) (prodF b.N (a.D.tdiv g)) = T at *
  generalize tF a b = t at *
  have gp1 := good_prod a3 p2
  have gp2 := good_prod b3 p1
  have gT := S.good
  have g2 : ¬ g = 0 := by omega
  have q1 : w64 _ = _ := q1
  have q2 : w64 _ = _ := q2
  have step0 : ∀ {X : Prop}, X → X := id
  rcases em2 (t = 0) with ht | ht
  · have hs : signW T = 0 := by unfold signW; rw [S.mag, of_eq_true ht]; rfl
    have e := ez (of_eq_true ht)
    simp [sValidF, sGcd, ha, hb, i1]
    refine AW_regionF sigCFr mixCFr [.pure, .read, .pure, .read, .pure, .pure, .read, .pure, .read, .pure, .read, .pure, .pure, .read, .read, .eff, .eff] [[],[0],[],[2],[],[4,2,3],[3,2,4,5,0,1],[],[7],[],[9],[],[11,9,10],[1,0,5,4,2,3,6,10,9,11,12,7,8],[8,7,12,11,9,10,13,1,0,5,4,2,3,6],[],[6,3,2,4,5,0,1,13,10,9,11,12,7,8,14,15]] (by kernel_rfl) (by kernel_rfl) (by kernel_rfl) (by kernel_rfl) ?_
    simp [sProd, sPlus, sSignW, g2, q1, q2, a3, b3, p1, p2, gp1, gp2, hT, gT, hs, e, F01]
  have hs : (signW T = 0) = False := eq_false (by
    have := of_eq_false ht
    unfold signW
    rw [if_neg (by rw [S.mag]; omega)]
    split <;> decide)
  have g3 : IntKind.wrap .u64 (g : Int) = g := by unfold InR at g1; rw [IntKind.wrap_u64]; omega
  have r0 := Int.emod_nonneg (t.natAbs : Int) (show (g : Int) ≠ 0 by omega)
  have r1 := Int.emod_lt_of_pos (t.natAbs : Int) (show (0 : Int) < g by omega)
  have r2 := gcd_abs_mod t g
  have rR : InR ((t.natAbs : Int) % g) := by unfold InR at *; omega
  have r3 : IntKind.wrap .i64 ((t.natAbs : Int) % g) = (t.natAbs : Int) % g := IntWalk.i64_in _ (by unfold InR at rR; omega)
  have i2 := gcdI_in rR g1
  rw [r2] at i2
  have h1 : InR (Int.gcd t g : Int) := by have := Int.gcd_le_natAbs_right t (show (g : Int) ≠ 0 by omega); unfold InR at *; omega
  generalize Int.gcd t g = h at *
  have ov := over_sum S (m := h) hh0
  obtain ⟨p3, q3⟩ := tdiv_R b5 (g := h) (by omega)
  have q3 : w64 _ = _ := q3
  have h2 : ¬ h = 0 := by omega
  have h3 : IntKind.wrap .u64 (h : Int) = h := by unfold InR at h1; rw [IntKind.wrap_u64]; omega
  have hm : magW T = t.natAbs := S.mag
  have h4 : (h : Int) ≤ 1000000000000000 := by unfold InR at h1; omega
  have g4 : (g : Int) < 18446744073709551616 := by unfold InR at g1; omega
  have e : addF a b = if (overI T h).2 = true ∧ (mulI (a.D.tdiv g) (b.D.tdiv h)).2 = true then (⟨(overI T h).1, (mulI (a.D.tdiv g) (b.D.tdiv h)).1⟩, true) else (F00, false) := by
    rw [e, ov]
    unfold rngF mulI
    by_cases h5 : InR (t.tdiv h) <;> by_cases h6 : InR (a.D.tdiv g * b.D.tdiv h) <;> simp [p1, p3, h5, h6]
  obtain ⟨n1, f1, e1⟩ := pair_of (overI T h)
  obtain ⟨n2, f2, e2⟩ := pair_of (mulI (a.D.tdiv g) (b.D.tdiv h))
  rw [e1, e2] at e
  simp only at e
  cases f1
  · simp [sValidF, sGcd, ha, hb, i1]
    refine AW_regionF sigCFr mixCFr [.pure, .read, .pure, .read, .pure, .pure, .read, .pure, .read, .pure, .read, .pure, .pure, .read, .read, .eff, .eff] [[],[0],[],[2],[],[4,2,3],[3,2,4,5,0,1],[],[7],[],[9],[],[11,9,10],[1,0,5,4,2,3,6,10,9,11,12,7,8],[8,7,12,11,9,10,13,1,0,5,4,2,3,6],[],[6,3,2,4,5,0,1,13,10,9,11,12,7,8,14,15]] (by kernel_rfl) (by kernel_rfl) (by kernel_rfl) (by kernel_rfl) ?_
    simp [sProd, sPlus, sSignW, sModW, sOverW, sGcd, sMulI, g0, g2, g3, g4, q1, q2, a3, b3, p1, p2, gp1, gp2, hT, gT, hs, hm, r3, i2, h2, h3, h4, hh0, q3, e1, e2, e, F00]
  · cases f2
    · simp [sValidF, sGcd, ha, hb, i1]
      refine AW_regionF sigCFr mixCFr [.pure, .read, .pure, .read, .pure, .pure, .read, .pure, .read, .pure, .read, .pure, .pure, .read, .read, .eff, .eff] [[],[0],[],[2],[],[4,2,3],[3,2,4,5,0,1],[],[7],[],[9],[],[11,9,10],[1,0,5,4,2,3,6,10,9,11,12,7,8],[8,7,12,11,9,10,13,1,0,5,4,2,3,6],[],[6,3,2,4,5,0,1,13,10,9,11,12,7,8,14,15]] (by kernel_rfl) (by kernel_rfl) (by kernel_rfl) (by kernel_rfl) ?_
      simp [sProd, sPlus, sSignW, sModW, sOverW, sGcd, sMulI, g0, g2, g3, g4, q1, q2, a3, b3, p1, p2, gp1, gp2, hT, gT, hs, hm, r3, i2, h2, h3, h4, hh0, q3, e1, e2, e, F00]
    · simp [sValidF, sGcd, ha, hb, i1]
      refine AW_regionF sigCFr mixCFr [.pure, .read, .pure, .read, .pure, .pure, .read, .pure, .read, .pure, .read, .pure, .pure, .read, .read, .eff, .eff] [[],[0],[],[2],[],[4,2,3],[3,2,4,5,0,1],[],[7],[],[9],[],[11,9,10],[1,0,5,4,2,3,6,10,9,11,12,7,8],[8,7,12,11,9,10,13,1,0,5,4,2,3,6],[],[6,3,2,4,5,0,1,13,10,9,11,12,7,8,14,15]] (by kernel_rfl) (by kernel_rfl) (by kernel_rfl) (by kernel_rfl) ?_
      simp [sProd, sPlus, sSignW, sModW, sOverW, sGcd, sMulI, g0, g2, g3, g4, q1, q2, a3, b3, p1, p2, gp1, gp2, hT, gT, hs, hm, r3, i2, h2, h3, h4, hh0, q3, e1, e2, e, F00]
end Go.Proofs.YtfoipbjhaiimlaaGreatDoor


/-
  layer 3: difference, quotient, order, the program's side.
-/
namespace Go.Proofs.YtfoipbjhaiimlaaGreatDoor
open Go.RowKit
set_option linter.unusedSimpArgs false
set_option linter.unusedVariables false
set_option maxRecDepth 100000

theorem w64_R {n : Int} (h : InR n) : w64 n = n := w64_in (by unfold InR at h; unfold I64; omega)
theorem InR_neg {n : Int} : InR (-n) ↔ InR n := by unfold InR; omega
theorem negF_valid {a : Fr} (h : ValidF a) : negF a = ⟨-a.N, a.D⟩ := by
  unfold negF
  rw [w64_R (InR_neg.2 h.2.2.1)]
theorem valid_neg {a : Fr} (h : ValidF a) : ValidF (negF a) := by
  rw [negF_valid h]
  obtain ⟨h1, h2, h3, h4⟩ := h
  exact ⟨h1, h2, InR_neg.2 h3, by rw [Int.neg_gcd]; exact h4⟩
noncomputable def CSb : Ctx := mkC Tryz.prog G0 [(163, .pure sAddF), (149, .pure sMulF), (55, .pure sValidF), (164, .pure sProd), (165, .pure sPlus), (166, .pure sSignW)]
@[simp] theorem CSb_P : CSb.P = Tryz.prog := rfl
@[simp] theorem CSb_G : CSb.G = G0 := rfl
@[simp] theorem CSb_1 : CSb.S 163 = .pure sAddF := rfl
@[simp] theorem CSb_2 : CSb.S 149 = .pure sMulF := rfl
@[simp] theorem CSb_3 : CSb.S 55 = .pure sValidF := rfl
@[simp] theorem CSb_4 : CSb.S 164 = .pure sProd := rfl
@[simp] theorem CSb_5 : CSb.S 165 = .pure sPlus := rfl
@[simp] theorem CSb_6 : CSb.S 166 = .pure sSignW := rfl
theorem mixCSb : CSb.P.follows .mixedOrders = true := mixed
theorem sigCSb : SigOK CSb := sigOK_cons (entryPure (addP) Tryz.func163 rfl (by decide)) (sigOK_cons (entryPure (mulP) Tryz.func149 rfl (by decide)) (sigOK_cons (entryPure (validP) Tryz.func55 rfl (by decide)) (sigOK_cons (entryPure (prodP) Tryz.func164 rfl (by decide)) (sigOK_cons (entryPure (plusP) Tryz.func165 rfl (by decide)) (sigOK_cons (entryPure (signWP) Tryz.func166 rfl (by decide)) (sigOK_nil _ _))))))
def sSubF : List AV → Option (Prop × AV) := spec2 (fun (_ b : Fr) => I64 b.N) (fun a b => .tup [Enc.enc (subF a b).1, .bool (subF a b).2])
theorem subP : PureOK Tryz.prog G0 150 sSubF := by
  refine pure2 (C := CSb) sigCSb mixCSb Tryz.func150 rfl rfl rfl (by kernel_rfl) (by decide) (fun a b _ => ?_)
  have e : addF a ⟨IntKind.wrap .i64 (-b.N), b.D⟩ = subF a b := rfl
  obtain ⟨r, f, hr⟩ := pair_of (subF a b)
  simp [sAddF, e, hr]
def sDivF : List AV → Option (Prop × AV) := spec2 (fun (_ _ : Fr) => True) (fun a b => .tup [Enc.enc (divF a b).1, .bool (divF a b).2])
theorem divP : PureOK Tryz.prog G0 151 sDivF := by
  refine pure2 (C := CSb) sigCSb mixCSb Tryz.func151 rfl rfl rfl (by kernel_rfl) (by decide) (fun a b _ => ?_)
  by_cases hb : ValidF b
  case neg =>
    have e : divF a b = (F00, false) := if_neg (fun h => hb h.1)
    simp [sValidF, hb, e, F00]
  rcases em2 (b.N = 0) with h0 | h0
  · have e : divF a b = (F00, false) := if_neg (fun h => h.2 (of_eq_true h0))
    simp [sValidF, hb, h0, e, F00]
  obtain ⟨b1, b2, b3, b4⟩ := hb
  have hb : ValidF b := ⟨b1, b2, b3, b4⟩
  have n1 : IntKind.wrap .i64 (-b.N) = -b.N := w64_R (InR_neg.2 b3)
  have n2 : IntKind.wrap .i64 (-b.D) = -b.D := w64_R (InR_neg.2 (by unfold InR; omega))
  by_cases h1 : b.N < 0
  · have e : divF a b = mulF a ⟨-b.D, -b.N⟩ := by unfold divF; rw [if_pos ⟨hb, of_eq_false h0⟩, if_pos h1]
    obtain ⟨r, f, hr⟩ := pair_of (mulF a ⟨-b.D, -b.N⟩)
    simp [sValidF, sMulF, hb, h0, h1, n1, n2, e, hr]
  · have e : divF a b = mulF a ⟨b.D, b.N⟩ := by unfold divF; rw [if_pos ⟨hb, of_eq_false h0⟩, if_neg h1]
    obtain ⟨r, f, hr⟩ := pair_of (mulF a ⟨b.D, b.N⟩)
    simp [sValidF, sMulF, hb, h0, h1, n1, n2, e, hr]
theorem valid01 : ValidF F01 := by decide
theorem fix_valid (a : Fr) : ValidF (fixF a) := by
  unfold fixF
  split
  · assumption
  · exact valid01
theorem sign_sum {T : Wide} {t : Int} (h : SumW T t) : signW T = sgn t := by
  unfold signW sgn
  rw [h.mag]
  have h1 := h.val
  have h2 := h.val'
  cases hn : T.neg with
  | true =>
    have := h1 hn
    by_cases h0 : t = 0
    · subst h0; rfl
    · rw [if_neg (by omega), if_pos rfl, if_pos (by omega)]
  | false =>
    have := h2 hn
    by_cases h0 : t = 0
    · subst h0; rfl
    · rw [if_neg (by omega), if_neg (by decide), if_neg (by omega), if_pos (by omega)]
def sCmpF : List AV → Option (Prop × AV) := spec2 (fun (_ _ : Fr) => True) (fun a b => .int .i64 (cmpF a b))
set_option maxHeartbeats 4000000 in
theorem cmpP : PureOK Tryz.prog G0 152 sCmpF := by
  refine pure2 (C := CSb) sigCSb mixCSb Tryz.func152 rfl rfl rfl (by kernel_rfl) (by decide) (fun a b _ => ?_)
  have va := fix_valid a
  have vb := fix_valid b
  obtain ⟨x, hx⟩ : ∃ x, fixF a = x := ⟨_, rfl⟩
  obtain ⟨y, hy⟩ : ∃ y, fixF b = y := ⟨_, rfl⟩
  have ec : cmpF a b = sgn (x.N * y.D + -y.N * x.D) := by unfold cmpF; rw [hx, hy, Int.neg_mul]; rfl
  rw [hx] at va
  rw [hy] at vb
  obtain ⟨a1, a2, a3, a4⟩ := va
  obtain ⟨b1, b2, b3, b4⟩ := vb
  have a5 : InR x.D := by unfold InR; omega
  have b5 : InR y.D := by unfold InR; omega
  have b6 := InR_neg.2 b3
  have n1 : IntKind.wrap .i64 (-y.N) = -y.N := w64_R b6
  have S := sumW a3 b5 b6 a5
  have gp1 := good_prod a3 b5
  have gp2 := good_prod b6 a5
  have hs := sign_sum S
  have gT := S.good
  generalize hT : plusW (prodF x.N y.D) (prodF (-y.N) x.D) = T at *
  rw [← hs] at ec
  by_cases ha : ValidF a
  · have hx' : a = x := by rw [← hx]; exact (if_pos ha).symm
    by_cases hb : ValidF b
    · have hy' : b = y := by rw [← hy]; exact (if_pos hb).symm
      subst hx' hy'
      simp [sValidF, sProd, sPlus, sSignW, ha, hb, a3, a5, b3, b5, b6, n1, gp1, gp2, hT, gT, ec]
    · have hy' : F01 = y := by rw [← hy]; exact (if_neg hb).symm
      subst hx' hy'
      simp only [F01, Int.neg_zero] at a3 a5 b3 b5 b6 n1 gp1 gp2 hT
      simp [sValidF, sProd, sPlus, sSignW, ha, hb, a3, a5, b3, b5, b6, n1, gp1, gp2, hT, gT, ec]
  · have hx' : F01 = x := by rw [← hx]; exact (if_neg ha).symm
    by_cases hb : ValidF b
    · have hy' : b = y := by rw [← hy]; exact (if_pos hb).symm
      subst hx' hy'
      simp only [F01, Int.neg_zero] at a3 a5 b3 b5 b6 n1 gp1 gp2 hT
      simp [sValidF, sProd, sPlus, sSignW, ha, hb, a3, a5, b3, b5, b6, n1, gp1, gp2, hT, gT, ec]
    · have hy' : F01 = y := by rw [← hy]; exact (if_neg hb).symm
      subst hx' hy'
      simp only [F01, Int.neg_zero] at a3 a5 b3 b5 b6 n1 gp1 gp2 hT
      simp [sValidF, sProd, sPlus, sSignW, ha, hb, a3, a5, b3, b5, b6, n1, gp1, gp2, hT, gT, ec]
end Go.Proofs.YtfoipbjhaiimlaaGreatDoor


/-
  layer 3, the reference: numbers as fourteen digits to the base 1000, in plain words.
-/
namespace Go.Proofs.YtfoipbjhaiimlaaGreatDoor
open Go.RowKit
set_option linter.unusedSimpArgs false
set_option linter.unusedVariables false

def tab14 (f : Nat → Nat) : List Int := (List.range 14).map fun j => (f j : Int)
theorem tab14_len (f : Nat → Nat) : (tab14 f).length = 14 := by unfold tab14; rw [List.length_map, List.length_range]
theorem tab14_ix (f : Nat → Nat) {j : Nat} (h : j < 14) : ix (tab14 f) j = f j := by
  rw [ix_lt (by rw [tab14_len]; exact h)]
  unfold tab14
  rw [List.getElem_map, List.getElem_range]
theorem tab14_congr {f g : Nat → Nat} (h : ∀ j, j < 14 → f j = g j) : tab14 f = tab14 g := by
  unfold tab14
  refine List.map_congr_left fun j hj => ?_
  rw [h j (List.mem_range.1 hj)]
theorem tab14_set {f g : Nat → Nat} {k : Nat} {v : Int} (hv : v = g k) (h : ∀ j, j < 14 → j ≠ k → g j = f j) : (tab14 f).set k v = tab14 g := by
  refine List.ext_getElem (by rw [List.length_set, tab14_len, tab14_len]) fun j h1 h2 => ?_
  rw [tab14_len] at h2
  rw [List.getElem_set]
  have e1 := tab14_ix g h2
  rw [ix_lt (by rw [tab14_len]; exact h2)] at e1
  have e2 := tab14_ix f h2
  rw [ix_lt (by rw [tab14_len]; exact h2)] at e2
  rw [e1, e2]
  split
  · rename_i h3; subst h3; exact hv
  · rename_i h3; rw [h j h2 (fun e => h3 e.symm)]
/-- The digit at place j. -/
def dgt (n j : Nat) : Nat := n / 1000 ^ j % 1000
def digs (n : Nat) : List Int := tab14 (dgt n)
theorem dgt_lt (n j : Nat) : dgt n j < 1000 := Nat.mod_lt _ (by decide)
theorem up1 (n j : Nat) : n / 1000 ^ j = 1000 * (n / 1000 ^ (j + 1)) + dgt n j := by
  unfold dgt
  rw [Nat.pow_succ, ← Nat.div_div_eq_div_mul]
  omega
def vl : List Int → Nat
  | [] => 0
  | x :: r => x.toNat + 1000 * vl r
def B14 : Nat := 1000000000000000000000000000000000000000000
theorem vl_digs {n : Nat} (h : n < B14) : vl (digs n) = n := by
  have key : ∀ (m k : Nat), vl ((List.range' k m).map fun j => ((dgt n j : Nat) : Int)) + 1000 ^ m * (n / 1000 ^ (k + m)) = n / 1000 ^ k := by
    intro m
    induction m with
    | zero => intro k; simp [vl]
    | succ m ih =>
      intro k
      have h1 := ih (k + 1)
      have h2 := up1 n k
      rw [List.range'_succ, List.map_cons, vl, Int.toNat_natCast, Nat.pow_succ, show k + (m + 1) = k + 1 + m by omega, show 1000 ^ m * 1000 * (n / 1000 ^ (k + 1 + m)) = 1000 * (1000 ^ m * (n / 1000 ^ (k + 1 + m))) by ac_rfl]
      omega
  have h1 := key 14 0
  have z : n / 1000 ^ (0 + 14) = 0 := Nat.div_eq_of_lt (by unfold B14 at h; simpa using h)
  rw [z, Nat.mul_zero, Nat.add_zero, Nat.pow_zero, Nat.div_one, ← List.range_eq_range'] at h1
  exact h1
structure IsD (x : List Int) : Prop where
  eq : x = digs (vl x)
  lt : vl x < B14
theorem isD_digs {n : Nat} (h : n < B14) : IsD (digs n) := ⟨by rw [vl_digs h], by rw [vl_digs h]; exact h⟩
theorem digs_len (n : Nat) : (digs n).length = 14 := tab14_len _
/-! ### One place, from below -/
theorem place_up {S A c k : Nat} (h : S / 1000 ^ k = c + A) : dgt S k = (c + A) % 1000 ∧ S / 1000 ^ (k + 1) = (c + A) / 1000 := by
  refine ⟨by unfold dgt; rw [h], ?_⟩
  rw [Nat.pow_succ, ← Nat.div_div_eq_div_mul, h]
/-- A product's place. -/
theorem mul_place {S P d c r k : Nat} (h : S / 1000 ^ k = r + P / 1000 ^ k + d * c) : dgt S k = (r + dgt P k + d * (c % 1000)) % 1000 ∧ S / 1000 ^ (k + 1) = (r + dgt P k + d * (c % 1000)) / 1000 + P / 1000 ^ (k + 1) + d * (c / 1000) := by
  have u := up1 P k
  have ec : d * c = 1000 * (d * (c / 1000)) + d * (c % 1000) := by
    have := Nat.div_add_mod c 1000
    calc d * c = d * (1000 * (c / 1000) + c % 1000) := by rw [this]
      _ = _ := by rw [Nat.mul_add]; congr 1; ac_rfl
  have h' : S / 1000 ^ k = 0 + (r + P / 1000 ^ k + d * c) := by omega
  obtain ⟨e1, e2⟩ := place_up h'
  rw [e1, e2]
  generalize d * (c / 1000) = y at *
  generalize d * (c % 1000) = z at *
  generalize P / 1000 ^ (k + 1) = w at *
  omega
theorem add_place {S X Y r k : Nat} (h : S / 1000 ^ k = r + X / 1000 ^ k + Y / 1000 ^ k) : dgt S k = (r + dgt X k + dgt Y k) % 1000 ∧ S / 1000 ^ (k + 1) = (r + dgt X k + dgt Y k) / 1000 + X / 1000 ^ (k + 1) + Y / 1000 ^ (k + 1) := by
  have u := up1 X k
  have v := up1 Y k
  have h' : S / 1000 ^ k = 0 + (r + X / 1000 ^ k + Y / 1000 ^ k) := by omega
  obtain ⟨e1, e2⟩ := place_up h'
  rw [e1, e2]
  generalize X / 1000 ^ (k + 1) = w at *
  generalize Y / 1000 ^ (k + 1) = z at *
  omega
/-- A difference's place; r: nothing borrowed, or one. -/
theorem sub_place {S X Y k : Nat} {r : Int} (hr : r = 0 ∨ r = -1) (h : ((S / 1000 ^ k : Nat) : Int) = r + (X / 1000 ^ k : Nat) - (Y / 1000 ^ k : Nat)) :
    (r + dgt X k - dgt Y k < 0 → (dgt S k : Int) = r + dgt X k - dgt Y k + 1000 ∧ ((S / 1000 ^ (k + 1) : Nat) : Int) = -1 + (X / 1000 ^ (k + 1) : Nat) - (Y / 1000 ^ (k + 1) : Nat)) ∧
    (¬ r + dgt X k - dgt Y k < 0 → (dgt S k : Int) = r + dgt X k - dgt Y k ∧ ((S / 1000 ^ (k + 1) : Nat) : Int) = 0 + (X / 1000 ^ (k + 1) : Nat) - (Y / 1000 ^ (k + 1) : Nat)) := by
  have u := up1 X k
  have v := up1 Y k
  have w := up1 S k
  have a := dgt_lt X k
  have b := dgt_lt Y k
  have c := dgt_lt S k
  omega
/-- A quotient's place, from above. -/
theorem div_place {X d k : Nat} (hd : 0 < d) : (X / 1000 ^ (k + 1) % d * 1000 + dgt X k) / d = dgt (X / d) k ∧ (X / 1000 ^ (k + 1) % d * 1000 + dgt X k) % d = X / 1000 ^ k % d := by
  have u := up1 X k
  have e : X / d / 1000 ^ k = X / 1000 ^ k / d := by rw [Nat.div_div_eq_div_mul, Nat.div_div_eq_div_mul, Nat.mul_comm]
  have a := dgt_lt X k
  unfold dgt at e ⊢
  rw [e]
  unfold dgt at u a
  generalize X / 1000 ^ k = B at *
  generalize X / 1000 ^ (k + 1) = A at *
  generalize B % 1000 = x at *
  have eA := Nat.div_add_mod A d
  have lA := Nat.mod_lt A hd
  have e2 : B = d * (1000 * (A / d)) + (A % d * 1000 + x) := by
    rw [u]
    have : 1000 * A = 1000 * (d * (A / d) + A % d) := by rw [eA]
    rw [this, Nat.mul_add]
    have : 1000 * (d * (A / d)) = d * (1000 * (A / d)) := by ac_rfl
    omega
  have l2 : (A % d * 1000 + x) / d < 1000 := by
    rw [Nat.div_lt_iff_lt_mul hd]
    omega
  rw [e2, Nat.mul_add_div hd, Nat.mul_add_mod]
  generalize (A % d * 1000 + x) / d = z at *
  generalize A / d = y at *
  refine ⟨by omega, ?_⟩
  rw [Nat.mul_add_mod]
end Go.Proofs.YtfoipbjhaiimlaaGreatDoor


/-
  layer 3, the reference: the long product.
-/
namespace Go.Proofs.YtfoipbjhaiimlaaGreatDoor
open Go.RowKit
set_option linter.unusedSimpArgs false
set_option linter.unusedVariables false
set_option maxRecDepth 100000

/-- The digits of S below k, those of P from k on. -/
def mixD (k S P : Nat) : List Int := tab14 fun j => if j < k then dgt S j else dgt P j
theorem mix_len (k S P : Nat) : (mixD k S P).length = 14 := tab14_len _
theorem mix_ix {k S P : Nat} (h : k < 14) : ix (mixD k S P) k = dgt P k := by unfold mixD; rw [tab14_ix _ h, if_neg (Nat.lt_irrefl k)]
theorem mix_set {k S P : Nat} {v : Int} (hv : v = dgt S k) (hk : k < 14) : (mixD k S P).set k v = mixD (k + 1) S P := by
  refine tab14_set (by rw [hv, if_pos (Nat.lt_succ_self k)]) fun j hj hne => ?_
  by_cases h : j < k
  · rw [if_pos h, if_pos (by omega)]
  · rw [if_neg h, if_neg (by omega)]
theorem mix_start {k P d b : Nat} : mixD k (P + d * b * 1000 ^ k) P = digs P := by
  refine tab14_congr fun j hj => ?_
  split
  · rename_i h
    unfold dgt
    have e : 1000 ^ k = 1000 ^ j * (1000 * 1000 ^ (k - j - 1)) := by rw [← Nat.pow_succ', ← Nat.pow_add]; congr 1; omega
    rw [e, show d * b * (1000 ^ j * (1000 * 1000 ^ (k - j - 1))) = 1000 ^ j * (1000 * (d * b * 1000 ^ (k - j - 1))) by ac_rfl, Nat.add_comm, Nat.mul_add_div (Nat.pow_pos (by decide)), Nat.mul_add_mod]
  · rfl
theorem mix_end {k S P : Nat} (h : S / 1000 ^ k = P / 1000 ^ k) : mixD k S P = digs S := by
  refine tab14_congr fun j hj => ?_
  split
  · rfl
  · rename_i h'
    unfold dgt
    have e : ∀ X : Nat, X / 1000 ^ j = X / 1000 ^ k / 1000 ^ (j - k) := fun X => by rw [Nat.div_div_eq_div_mul, ← Nat.pow_add]; congr 2; omega
    rw [e S, e P, h]
theorem digs_zero : digs 0 = List.replicate 14 0 := rfl
structure TimesAt (d b i S P k r c : Nat) : Prop where
  ge : i ≤ k
  val : S / 1000 ^ k = r + P / 1000 ^ k + d * c
  small : r ≤ 1000
  cut : c = b / 1000 ^ (k - i)
theorem times_next {d b i S P k r c : Nat} (hd : d < 1000) (h : TimesAt d b i S P k r c) : dgt S k = (r + dgt P k + d * (c % 1000)) % 1000 ∧ TimesAt d b i S P (k + 1) ((r + dgt P k + d * (c % 1000)) / 1000) (c / 1000) ∧ r + dgt P k + d * (c % 1000) ≤ 1000000 ∧ d * (c % 1000) ≤ 998001 := by
  obtain ⟨e1, e2⟩ := mul_place h.val
  have l1 := dgt_lt P k
  have l2 : d * (c % 1000) ≤ 999 * 999 := Nat.mul_le_mul (by omega) (by omega)
  have l3 := h.small
  have l4 := h.ge
  refine ⟨e1, ⟨by omega, e2, by omega, ?_⟩, by omega, by omega⟩
  rw [h.cut, Nat.div_div_eq_div_mul, ← Nat.pow_succ]
  congr 2
  omega
theorem pow_le_of_div {n k : Nat} (m : Nat) (hn : n < 1000 ^ (m + 1)) (h : 0 < n / 1000 ^ k) : k ≤ m := by
  have l := (Nat.le_div_iff_mul_le (Nat.pow_pos (n := k) (show 0 < 1000 by decide))).1 h
  by_cases hk : k ≤ m
  · exact hk
  · have : 1000 ^ (m + 1) ≤ 1000 ^ k := Nat.pow_le_pow_right (by decide) (by omega)
    omega
theorem times_few {d b i S P k r c : Nat} (hS : S ≤ 1000000000000000000000000000000) (hi : i ≤ 5) (hb : b ≤ 1000000000000000) (h : TimesAt d b i S P k r c) (hc : 0 < c ∨ 0 < r) : k ≤ 10 := by
  have e := h.val
  rcases hc with hc | hc
  · rw [h.cut] at hc
    have := pow_le_of_div 5 (by omega) hc
    have := h.ge
    omega
  · refine pow_le_of_div 10 (by omega) (n := S) ?_
    rw [e]
    generalize P / 1000 ^ k = z
    generalize d * c = y
    omega
theorem gcdR_step (a b : Nat) : (a : Int).tmod b = ((a % b : Nat) : Int) := by
  rw [Int.tmod_eq_emod_of_nonneg (by omega)]
  simp
theorem divR_step (a b : Nat) : (a : Int).tdiv b = ((a / b : Nat) : Int) := by
  rw [Int.tdiv_eq_ediv_of_nonneg (by omega)]
  simp
def quoT (a i : Nat) : Int := ((a / 1000 ^ i : Nat) : Int)
def sTimes : List AV → Option (Prop × AV) := spec2 (fun (a b : Int) => 0 ≤ a ∧ a ≤ 1000000000000000 ∧ 0 ≤ b ∧ b ≤ 1000000000000000) (fun a b => Enc.enc (digs (a.toNat * b.toNat)))
set_option maxHeartbeats 16000000 in
theorem timesR : PureOK Tryz.prog G0 138 sTimes := by
  refine pure2 (C := CE) sigCE mixCE Tryz.func138 rfl rfl rfl (by kernel_rfl) (by decide) (fun a b ⟨a0, a1, b0, b1⟩ => ?_)
  obtain ⟨a, rfl⟩ := Int.eq_ofNat_of_zero_le a0
  obtain ⟨b, rfl⟩ := Int.eq_ofNat_of_zero_le b0
  have ha : a ≤ 1000000000000000 := by omega
  have hb : b ≤ 1000000000000000 := by omega
  have hab : a * b ≤ 1000000000000000000000000000000 := Nat.mul_le_mul (n₂ := 1000000000000000) (m₂ := 1000000000000000) ha hb
  simp
  refine loop_rule (C := CE) sigCE mixCE (fun i : Nat => ⟨[(0, .int .i64 (quoT a i)), (1, .int .i64 b), (5, .own 0 14), (6, .int .i64 i)], [⟨3, 1, encRows (digs (a % 1000 ^ i * b)), true, true⟩]⟩) (fun i => i ≤ 6) (fun i => 6 - i) (by kernel_rfl) ⟨0, by omega, weak_eq (by simp [quoT]) (by simp [digs_zero, Nat.mod_one])⟩ (fun i hi => ?_)
  obtain ⟨x, hx⟩ : ∃ x, a / 1000 ^ i = x := ⟨_, rfl⟩
  rw [show quoT a i = (x : Int) by unfold quoT; rw [hx]]
  by_cases h0 : 0 < x
  case neg =>
    have x0 : ¬ (0 : Int) < (x : Int) := by omega
    have ea : a % 1000 ^ i = a := by
      refine Nat.mod_eq_of_lt ?_
      by_cases h : a < 1000 ^ i
      · exact h
      · have := (Nat.le_div_iff_mul_le (Nat.pow_pos (n := i) (show 0 < 1000 by decide)) (x := 1) (y := a)).2 (by omega)
        omega
    rw [ea]
    simp [h0, digs_len]
  have hi5 : i ≤ 5 := pow_le_of_div (n := a) 5 (by omega) (by rw [hx]; exact h0)
  obtain ⟨P, hP⟩ : ∃ P, a % 1000 ^ i * b = P := ⟨_, rfl⟩
  obtain ⟨d, hd⟩ : ∃ d, x % 1000 = d := ⟨_, rfl⟩
  obtain ⟨x', hx'⟩ : ∃ d, x / 1000 = d := ⟨_, rfl⟩
  have ex' : a / 1000 ^ (i + 1) = x' := by rw [Nat.pow_succ, ← Nat.div_div_eq_div_mul, hx, hx']
  have eS : a % 1000 ^ (i + 1) * b = P + d * b * 1000 ^ i := by
    rw [Nat.mod_pow_succ, hx, hd, Nat.add_mul, hP]
    congr 1
    ac_rfl
  have hd' : d < 1000 := by omega
  have m1 : (x : Int).tmod 1000 = d := by rw [show (1000 : Int) = ((1000 : Nat) : Int) from rfl, gcdR_step, hd]
  have m2 : (x : Int).tdiv 1000 = x' := by rw [show (1000 : Int) = ((1000 : Nat) : Int) from rfl, divR_step, hx']
  have m3 : w64 (x' : Int) = x' := w64_in (by have := Nat.div_le_self a (1000 ^ (i + 1)); unfold I64; omega)
  have hS : P + d * b * 1000 ^ i ≤ 1000000000000000000000000000000 := by
    rw [← eS]
    exact Nat.le_trans (Nat.mul_le_mul_right _ (Nat.mod_le _ _)) hab
  obtain ⟨S, hSe⟩ : ∃ S, P + d * b * 1000 ^ i = S := ⟨_, rfl⟩
  rw [hSe] at eS hS
  have iI : I64 ((i : Int) + 1) := by unfold I64; omega
  simp [hP, h0, m1, m2, m3, digs_len]
  refine loop_rule (C := CE) sigCE mixCE (fun q : Nat × Nat × Nat => ⟨[(0, .int .i64 x'), (1, .int .i64 b), (5, .own 0 14), (6, .int .i64 i), (7, .int .i64 d), (8, .int .i64 q.2.2), (9, .int .i64 q.2.1), (10, .int .i64 q.1)], [⟨3, 1, encRows (mixD q.1 S P), true, true⟩]⟩) (fun q => TimesAt d b i S P q.1 q.2.1 q.2.2) (fun q => 11 - q.1) (by kernel_rfl) ⟨(i, 0, b), ⟨Nat.le_refl i, ?_, Nat.zero_le _, by rw [Nat.sub_self, Nat.pow_zero, Nat.div_one]⟩, weak_eq (by simp) (by rw [← hSe, mix_start])⟩ (fun ⟨k, r, c⟩ H => ?_)
  · simp only
    rw [← hSe, Nat.add_mul_div_right _ _ (Nat.pow_pos (by decide))]
    omega
  simp only at H ⊢
  have hc1 : c ≤ 1000000000000000 := by rw [H.cut]; exact Nat.le_trans (Nat.div_le_self _ _) hb
  by_cases hg : 0 < c ∨ 0 < r
  · obtain ⟨e1, H', l1, l2⟩ := times_next hd' H
    have hk := times_few hS hi5 hb H hg
    have hr := H.small
    have hkl : k < 14 := by omega
    obtain ⟨dg, hdg⟩ : ∃ x, dgt P k = x := ⟨_, rfl⟩
    have ixk : ix (mixD k S P) k = dg := by rw [mix_ix hkl, hdg]
    rw [hdg] at e1 H' l1
    have hkM : k < (mixD k S P).length := by rw [mix_len]; exact hkl
    obtain ⟨y, hy⟩ : ∃ y, c % 1000 = y := ⟨_, rfl⟩
    obtain ⟨c', hc'⟩ : ∃ y, c / 1000 = y := ⟨_, rfl⟩
    rw [hy] at e1 H' l1 l2
    rw [hc'] at H'
    obtain ⟨z, hz⟩ : ∃ z, d * y = z := ⟨_, rfl⟩
    rw [hz] at e1 H' l1 l2
    obtain ⟨t, ht⟩ : ∃ t, r + dg + z = t := ⟨_, rfl⟩
    rw [ht] at e1 H' l1
    have n1 : (c : Int).tmod 1000 = y := by rw [show (1000 : Int) = ((1000 : Nat) : Int) from rfl, gcdR_step, hy]
    have n2 : (c : Int).tdiv 1000 = c' := by rw [show (1000 : Int) = ((1000 : Nat) : Int) from rfl, divR_step, hc']
    have n3 : (t : Int).tmod 1000 = (t % 1000 : Nat) := by rw [show (1000 : Int) = ((1000 : Nat) : Int) from rfl, gcdR_step]
    have n4 : (t : Int).tdiv 1000 = (t / 1000 : Nat) := by rw [show (1000 : Int) = ((1000 : Nat) : Int) from rfl, divR_step]
    have k1 : w64 ((r : Int) + dg) = ((r + dg : Nat) : Int) := by rw [w64_in (by unfold I64; omega)]; omega
    have k2 : w64 ((d : Int) * y) = z := by rw [← Int.natCast_mul, hz]; exact w64_in (by unfold I64; omega)
    have k3 : w64 (((r + dg : Nat) : Int) + z) = t := by rw [w64_in (by unfold I64; omega)]; omega
    have k4 : w64 (c' : Int) = c' := w64_in (by unfold I64; omega)
    obtain ⟨t1, ht1⟩ : ∃ z, t % 1000 = z := ⟨_, rfl⟩
    obtain ⟨t2, ht2⟩ : ∃ z, t / 1000 = z := ⟨_, rfl⟩
    rw [ht1] at n3 e1
    rw [ht2] at n4 H'
    have k5 : w64 (t2 : Int) = t2 := w64_in (by unfold I64; omega)
    have k6 : I64 ((k : Int) + 1) := by unfold I64; omega
    obtain ⟨s0, hs0⟩ : ∃ s, r + dg = s := ⟨_, rfl⟩
    rw [hs0] at k1 k3
    rcases Nat.eq_zero_or_pos c with hc0 | hc0
    · have hr0 : 0 < r := by omega
      have hcn : (0 < c) = False := eq_false (by omega)
      simp [hcn, hr0, hkM, rowAt_enc hkM, ixk, mix_len, hkl, n1, n2, n3, n4, k1, k2, k3, k4, k5, k6]
      refine ⟨by omega, k + 1, t2, c', H', by omega, weak_eq (by simp) (by rw [← e1, mix_set rfl hkl])⟩
    · simp [hc0, hkM, rowAt_enc hkM, ixk, mix_len, hkl, n1, n2, n3, n4, k1, k2, k3, k4, k5, k6]
      refine ⟨by omega, k + 1, t2, c', H', by omega, weak_eq (by simp) (by rw [← e1, mix_set rfl hkl])⟩
  · obtain rfl : c = 0 := by omega
    obtain rfl : r = 0 := by omega
    have eE : mixD k S P = digs S := mix_end (by have := H.val; omega)
    simp [eE, iI]
    exact ⟨i + 1, by omega, by omega, weak_eq (by simp [show quoT a (i + 1) = (x' : Int) by unfold quoT; rw [ex']]) (by rw [eS])⟩
end Go.Proofs.YtfoipbjhaiimlaaGreatDoor


/-
  layer 3, the reference: sums, differences, order and quotients of digits.
-/
namespace Go.Proofs.YtfoipbjhaiimlaaGreatDoor
open Go.RowKit
set_option linter.unusedSimpArgs false
set_option linter.unusedVariables false
set_option maxRecDepth 100000

theorem digs_ix (n : Nat) {j : Nat} (h : j < 14) : ix (digs n) j = dgt n j := tab14_ix _ h
theorem mix_zero (S P : Nat) : mixD 0 S P = digs P := tab14_congr fun j _ => if_neg (Nat.not_lt_zero j)
theorem mix_all (S P : Nat) : mixD 14 S P = digs S := tab14_congr fun j h => if_pos h
def PreAdd (x y : List Int) : Prop := IsD x ∧ IsD y ∧ vl x + vl y < B14
def sPlusR : List AV → Option (Prop × AV) := spec2 PreAdd (fun x y => Enc.enc (digs (vl x + vl y)))
set_option maxHeartbeats 8000000 in
theorem plusR : PureOK Tryz.prog G0 159 sPlusR := by
  refine pure2 (C := CE) sigCE mixCE Tryz.func159 rfl rfl rfl (by kernel_rfl) (by decide) (fun x y ⟨⟨ex, lx⟩, ⟨ey, ly⟩, hl⟩ => ?_)
  generalize vl x = X at *
  generalize vl y = Y at *
  subst ex ey
  obtain ⟨S, hS⟩ : ∃ S, X + Y = S := ⟨_, rfl⟩
  rw [hS]
  simp [digs_len]
  refine loop_rule (C := CE) sigCE mixCE (fun q : Nat × Nat => ⟨[(0, Enc.enc (digs X)), (1, Enc.enc (digs Y)), (5, .own 0 14), (6, .int .i64 q.2), (7, .int .i64 q.1)], [⟨3, 1, encRows (mixD q.1 S 0), true, true⟩]⟩) (fun q => q.1 ≤ 14 ∧ q.2 ≤ 1 ∧ S / 1000 ^ q.1 = q.2 + X / 1000 ^ q.1 + Y / 1000 ^ q.1) (fun q => 14 - q.1) (by kernel_rfl) ⟨(0, 0), ⟨by simp, by simp, by simp [hS]⟩, weak_eq (by simp) (by simp [mix_zero, digs_zero])⟩ (fun ⟨k, r⟩ ⟨hk, hr, hv⟩ => ?_)
  simp only at hk hr hv ⊢
  by_cases hlt : k < 14
  · obtain ⟨e1, e2⟩ := add_place hv
    have x1 := dgt_lt X k
    have y1 := dgt_lt Y k
    have ix1 := digs_ix X hlt
    have ix2 := digs_ix Y hlt
    generalize dgt X k = a at *
    generalize dgt Y k = b at *
    have hXl : k < (digs X).length := by rw [digs_len]; exact hlt
    have hYl : k < (digs Y).length := by rw [digs_len]; exact hlt
    have hMl : k < (mixD k S 0).length := by rw [mix_len]; exact hlt
    obtain ⟨s1, hs1⟩ : ∃ z, r + a = z := ⟨_, rfl⟩
    obtain ⟨s2, hs2⟩ : ∃ z, s1 + b = z := ⟨_, rfl⟩
    rw [hs1, hs2] at e1 e2
    have k1 : w64 ((r : Int) + a) = s1 := by rw [w64_in (by unfold I64; omega)]; omega
    have k2 : w64 ((s1 : Int) + b) = s2 := by rw [w64_in (by unfold I64; omega)]; omega
    have n3 : (s2 : Int).tmod 1000 = (s2 % 1000 : Nat) := by rw [show (1000 : Int) = ((1000 : Nat) : Int) from rfl, gcdR_step]
    have n4 : (s2 : Int).tdiv 1000 = (s2 / 1000 : Nat) := by rw [show (1000 : Int) = ((1000 : Nat) : Int) from rfl, divR_step]
    obtain ⟨t1, ht1⟩ : ∃ z, s2 % 1000 = z := ⟨_, rfl⟩
    obtain ⟨t2, ht2⟩ : ∃ z, s2 / 1000 = z := ⟨_, rfl⟩
    rw [ht1] at n3 e1
    rw [ht2] at n4 e2
    have k5 : w64 (t2 : Int) = t2 := w64_in (by unfold I64; omega)
    have k6 : I64 ((k : Int) + 1) := by unfold I64; omega
    have hlt' : (k : Int) < 14 := by omega
    simp [hlt, hlt', digs_len, hXl, rowAt_enc hXl, hYl, rowAt_enc hYl, hMl, rowAt_enc hMl, mix_len, ix1, ix2, k1, k2, n3, n4, k5, k6]
    exact ⟨k + 1, t2, ⟨by omega, by omega, e2⟩, by omega, weak_eq (by simp) (by rw [← e1, mix_set rfl hlt])⟩
  · have hk14 : k = 14 := by omega
    subst hk14
    simp [digs_len, mix_len, mix_all]
def PreSub (x y : List Int) : Prop := IsD x ∧ IsD y ∧ vl y ≤ vl x
def sMinusR : List AV → Option (Prop × AV) := spec2 PreSub (fun x y => Enc.enc (digs (vl x - vl y)))
set_option maxHeartbeats 8000000 in
theorem minusR : PureOK Tryz.prog G0 161 sMinusR := by
  refine pure2 (C := CE) sigCE mixCE Tryz.func161 rfl rfl rfl (by kernel_rfl) (by decide) (fun x y ⟨⟨ex, lx⟩, ⟨ey, ly⟩, hl⟩ => ?_)
  generalize vl x = X at *
  generalize vl y = Y at *
  subst ex ey
  obtain ⟨S, hS⟩ : ∃ S, X - Y = S := ⟨_, rfl⟩
  rw [hS]
  simp [digs_len]
  refine loop_rule (C := CE) sigCE mixCE (fun q : Nat × Int => ⟨[(0, Enc.enc (digs X)), (1, Enc.enc (digs Y)), (5, .own 0 14), (6, .int .i64 q.2), (7, .int .i64 q.1)], [⟨3, 1, encRows (mixD q.1 S 0), true, true⟩]⟩) (fun q => q.1 ≤ 14 ∧ (q.2 = 0 ∨ q.2 = -1) ∧ ((S / 1000 ^ q.1 : Nat) : Int) = q.2 + (X / 1000 ^ q.1 : Nat) - (Y / 1000 ^ q.1 : Nat)) (fun q => 14 - q.1) (by kernel_rfl) ⟨(0, 0), ⟨by simp, by simp, by simp; omega⟩, weak_eq (by simp) (by simp [mix_zero, digs_zero])⟩ (fun ⟨k, r⟩ ⟨hk, hr, hv⟩ => ?_)
  simp only at hk hr hv ⊢
  by_cases hlt : k < 14
  · obtain ⟨e1, e2⟩ := sub_place hr hv
    have x1 := dgt_lt X k
    have y1 := dgt_lt Y k
    have ix1 := digs_ix X hlt
    have ix2 := digs_ix Y hlt
    generalize dgt X k = a at *
    generalize dgt Y k = b at *
    have hXl : k < (digs X).length := by rw [digs_len]; exact hlt
    have hYl : k < (digs Y).length := by rw [digs_len]; exact hlt
    have hMl : k < (mixD k S 0).length := by rw [mix_len]; exact hlt
    obtain ⟨s1, hs1⟩ : ∃ z, r + (a : Int) = z := ⟨_, rfl⟩
    obtain ⟨s2, hs2⟩ : ∃ z, s1 - (b : Int) = z := ⟨_, rfl⟩
    rw [hs1, hs2] at e1 e2
    have k1 : w64 s1 = s1 := w64_in (by unfold I64; omega)
    have k2 : w64 s2 = s2 := w64_in (by unfold I64; omega)
    have k3 : w64 (s2 + 1000) = s2 + 1000 := w64_in (by unfold I64; omega)
    have k6 : I64 ((k : Int) + 1) := by unfold I64; omega
    have hlt' : (k : Int) < 14 := by omega
    by_cases hneg : s2 < 0
    · obtain ⟨f1, f2⟩ := e1 hneg
      simp [hlt, hlt', digs_len, hXl, rowAt_enc hXl, hYl, rowAt_enc hYl, hMl, rowAt_enc hMl, mix_len, ix1, ix2, hs1, hs2, k1, k2, k3, k6, hneg]
      exact ⟨k + 1, -1, ⟨by omega, by omega, f2⟩, by omega, weak_eq (by simp) (by rw [mix_set f1.symm hlt])⟩
    · obtain ⟨f1, f2⟩ := e2 hneg
      simp [hlt, hlt', digs_len, hXl, rowAt_enc hXl, hYl, rowAt_enc hYl, hMl, rowAt_enc hMl, mix_len, ix1, ix2, hs1, hs2, k1, k2, k3, k6, hneg]
      exact ⟨k + 1, 0, ⟨by omega, by omega, f2⟩, by omega, weak_eq (by simp) (by rw [mix_set f1.symm hlt])⟩
  · have hk14 : k = 14 := by omega
    subst hk14
    simp [digs_len, mix_len, mix_all]
/-! ### From above -/
theorem ord_top {X : Nat} (h : X < B14) : X / 1000 ^ 14 = 0 := Nat.div_eq_of_lt (by unfold B14 at h; simpa using h)
def ordN (X Y : Nat) : Int := if X < Y then -1 else if Y < X then 1 else 0
def PreOrd (x y : List Int) : Prop := IsD x ∧ IsD y
theorem ord_place {X Y k : Nat} (h : X / 1000 ^ (k + 1) = Y / 1000 ^ (k + 1)) : (dgt X k < dgt Y k → X < Y) ∧ (dgt X k = dgt Y k → X / 1000 ^ k = Y / 1000 ^ k) := by
  have u := up1 X k
  have v := up1 Y k
  refine ⟨fun hl => ?_, fun he => by omega⟩
  have h1 : X / 1000 ^ k < Y / 1000 ^ k := by omega
  by_cases hxy : X < Y
  · exact hxy
  · have := Nat.div_le_div_right (c := 1000 ^ k) (show Y ≤ X by omega)
    omega
def sOrdR : List AV → Option (Prop × AV) := spec2 PreOrd (fun x y => .int .i64 (ordN (vl x) (vl y)))
set_option maxHeartbeats 8000000 in
theorem orderR : PureOK Tryz.prog G0 160 sOrdR := by
  refine pure2 (C := CE) sigCE mixCE Tryz.func160 rfl rfl rfl (by kernel_rfl) (by decide) (fun x y ⟨⟨ex, lx⟩, ⟨ey, ly⟩⟩ => ?_)
  generalize vl x = X at *
  generalize vl y = Y at *
  subst ex ey
  have i13 : I64 (13 : Int) := by unfold I64; omega
  simp [digs_len, i13]
  refine loop_rule (C := CE) sigCE mixCE (fun k : Nat => ⟨[(0, Enc.enc (digs X)), (1, Enc.enc (digs Y)), (5, .int .i64 ((k : Int) - 1))], []⟩) (fun k => k ≤ 14 ∧ X / 1000 ^ k = Y / 1000 ^ k) (fun k => k) (by kernel_rfl) ⟨14, ⟨by omega, by rw [ord_top lx, ord_top ly]⟩, weak_eq (by simp) rfl⟩ (fun k ⟨hk, hv⟩ => ?_)
  match k, hk, hv with
  | 0, hk, hv =>
    have e : ordN X Y = 0 := by
      rw [Nat.pow_zero, Nat.div_one, Nat.div_one] at hv
      unfold ordN
      rw [if_neg (by omega), if_neg (by omega)]
    simp [e]
  | k + 1, hk, hv =>
    have hlt : k < 14 := by omega
    obtain ⟨p1, p2⟩ := ord_place hv
    obtain ⟨p3, _⟩ := ord_place hv.symm
    have ix1 := digs_ix X hlt
    have ix2 := digs_ix Y hlt
    generalize dgt X k = a at *
    generalize dgt Y k = b at *
    have hXl : k < (digs X).length := by rw [digs_len]; exact hlt
    have hYl : k < (digs Y).length := by rw [digs_len]; exact hlt
    have q1 : ((k : Int) + 1 - 1) = k := by omega
    have hlt' : (k : Int) < 14 := by omega
    have i1 : I64 ((k : Int) - 1) := by unfold I64; omega
    rcases Nat.lt_trichotomy a b with h | h | h
    · have e : ordN X Y = -1 := by unfold ordN; rw [if_pos (p1 h)]
      simp [q1, hlt, hlt', digs_len, hXl, rowAt_enc hXl, hYl, rowAt_enc hYl, ix1, ix2, h, e]
    · subst h
      simp [q1, hlt, hlt', digs_len, hXl, rowAt_enc hXl, hYl, rowAt_enc hYl, ix1, ix2, i1]
      exact ⟨k, ⟨by omega, p2 rfl⟩, by omega, weak_eq (by simp) rfl⟩
    · have e : ordN X Y = 1 := by unfold ordN; have := p3 h; rw [if_neg (by omega), if_pos this]
      have h' : ¬ a < b := by omega
      simp [q1, hlt, hlt', digs_len, hXl, rowAt_enc hXl, hYl, rowAt_enc hYl, ix1, ix2, h, h', e]
def PreParts (x : List Int) (d : Int) : Prop := IsD x ∧ 0 < d ∧ d ≤ 1000000000000000
def sParts : List AV → Option (Prop × AV) := spec2 PreParts (fun x d => .tup [Enc.enc (digs (vl x / d.toNat)), .int .i64 ((vl x % d.toNat : Nat) : Int)])
/-- The digits of S from k on; nothing below. -/
def hiD (k S : Nat) : List Int := tab14 fun j => if j < k then 0 else dgt S j
theorem hi_len (k S : Nat) : (hiD k S).length = 14 := tab14_len _
theorem hi_ix {k S : Nat} (h : k < 14) : ix (hiD (k + 1) S) k = 0 := by unfold hiD; rw [tab14_ix _ h, if_pos (Nat.lt_succ_self k)]; rfl
theorem hi_set {k S : Nat} {v : Int} (hv : v = dgt S k) (hk : k < 14) : (hiD (k + 1) S).set k v = hiD k S := by
  refine tab14_set (by rw [hv, if_neg (Nat.lt_irrefl k)]) fun j hj hne => ?_
  by_cases h : j < k
  · rw [if_pos h, if_pos (by omega)]
  · rw [if_neg h, if_neg (by omega)]
theorem hi_zero (S : Nat) : hiD 0 S = digs S := tab14_congr fun j _ => if_neg (Nat.not_lt_zero j)
theorem hi_all (S : Nat) : hiD 14 S = List.replicate 14 0 := by rw [← digs_zero]; exact tab14_congr fun j h => by rw [if_pos h]; unfold dgt; simp
set_option maxHeartbeats 8000000 in
theorem partsR : PureOK Tryz.prog G0 153 sParts := by
  refine pure2 (C := CE) sigCE mixCE Tryz.func153 rfl rfl rfl (by kernel_rfl) (by decide) (fun x d ⟨⟨ex, lx⟩, d0, d1⟩ => ?_)
  generalize vl x = X at *
  subst ex
  obtain ⟨d, rfl⟩ := Int.eq_ofNat_of_zero_le (a := d) (by omega)
  have hd : 0 < d := by omega
  have hdn : ¬ d = 0 := by omega
  rw [Int.toNat_natCast]
  have i13 : I64 (13 : Int) := by unfold I64; omega
  simp [digs_len, i13]
  refine loop_rule (C := CE) sigCE mixCE (fun q : Nat × Nat => ⟨[(0, Enc.enc (digs X)), (1, .int .i64 d), (6, .own 0 14), (7, .int .i64 q.2), (8, .int .i64 ((q.1 : Int) - 1))], [⟨3, 1, encRows (hiD q.1 (X / d)), true, true⟩]⟩) (fun q => q.1 ≤ 14 ∧ q.2 = X / 1000 ^ q.1 % d) (fun q => q.1) (by kernel_rfl) ⟨(14, 0), ⟨by simp, by rw [ord_top lx]; simp⟩, weak_eq (by simp) (by simp [hi_all])⟩ (fun ⟨k, r⟩ ⟨hk, hv⟩ => ?_)
  simp only at hk hv ⊢
  match k, hk, hv with
  | 0, hk, hv =>
    rw [Nat.pow_zero, Nat.div_one] at hv
    simp [hi_zero, digs_len, hv]
  | k + 1, hk, hv =>
    have hlt : k < 14 := by omega
    obtain ⟨p1, p2⟩ := div_place (X := X) (k := k) hd
    rw [← hv] at p1 p2
    have hr : r < d := by rw [hv]; exact Nat.mod_lt _ hd
    have x1 := dgt_lt X k
    have ix1 := digs_ix X hlt
    have ix3 := hi_ix (S := X / d) hlt
    generalize dgt X k = a at *
    have hXl : k < (digs X).length := by rw [digs_len]; exact hlt
    have hMl : k < (hiD (k + 1) (X / d)).length := by rw [hi_len]; exact hlt
    have q1 : ((k : Int) + 1 - 1) = k := by omega
    have hlt' : (k : Int) < 14 := by omega
    have i1 : I64 ((k : Int) - 1) := by unfold I64; omega
    obtain ⟨s, hs⟩ : ∃ z, r * 1000 + a = z := ⟨_, rfl⟩
    rw [hs] at p1 p2
    have k1 : w64 ((r : Int) * 1000) = ((r * 1000 : Nat) : Int) := by rw [w64_in (by unfold I64; omega)]; omega
    have k2 : w64 (((r * 1000 : Nat) : Int) + a) = s := by rw [w64_in (by unfold I64; omega)]; omega
    obtain ⟨r1, hr1⟩ : ∃ z, r * 1000 = z := ⟨_, rfl⟩
    rw [hr1] at k1 k2
    have n3 : (s : Int).tmod d = (s % d : Nat) := gcdR_step s d
    have n4 : (s : Int).tdiv d = (s / d : Nat) := divR_step s d
    have l4 := Nat.div_le_self s d
    rw [p1] at n4 l4
    rw [p2] at n3
    obtain ⟨t1, ht1⟩ : ∃ z, dgt (X / d) k = z := ⟨_, rfl⟩
    obtain ⟨t2, ht2⟩ : ∃ z, X / 1000 ^ k % d = z := ⟨_, rfl⟩
    rw [ht1] at n4 l4
    rw [ht2] at n3
    have n5 : (s : Int) % d = t2 := by rw [← n3, Int.tmod_eq_emod_of_nonneg (by omega)]
    have n6 : (s : Int) / d = t1 := by rw [← n4, Int.tdiv_eq_ediv_of_nonneg (by omega)]
    have k5 : w64 (t1 : Int) = t1 := w64_in (by unfold I64; omega)
    simp [q1, hlt, hlt', digs_len, hXl, rowAt_enc hXl, hMl, rowAt_enc hMl, hi_len, ix1, ix3, k1, k2, n3, n4, n5, n6, k5, i1, hdn]
    exact ⟨k, t2, ⟨by omega, ht2.symm⟩, by omega, weak_eq (by simp) (by rw [hi_set (by rw [ht1]) hlt])⟩
def PreNarrow (x : List Int) : Prop := IsD x
def narI (X : Nat) : Int × Bool := if X ≤ 1000000000000000 then (X, true) else (0, false)
def sNarrow : List AV → Option (Prop × AV) := spec1 PreNarrow (fun x => .tup [.int .i64 (narI (vl x)).1, .bool (narI (vl x)).2])
set_option maxHeartbeats 8000000 in
theorem narrowR : PureOK Tryz.prog G0 137 sNarrow := by
  refine pure1 (C := CE) sigCE mixCE Tryz.func137 rfl rfl rfl (by kernel_rfl) (by decide) (fun x ⟨ex, lx⟩ => ?_)
  generalize vl x = X at *
  subst ex
  have i13 : I64 (13 : Int) := by unfold I64; omega
  simp [digs_len, i13]
  refine loop_rule (C := CE) sigCE mixCE (fun q : Nat × Nat => ⟨[(0, Enc.enc (digs X)), (4, .int .i64 q.2), (5, .int .i64 ((q.1 : Int) - 1))], []⟩) (fun q => q.1 ≤ 14 ∧ q.2 = X / 1000 ^ q.1 ∧ q.2 ≤ 1000000000000999) (fun q => q.1) (by kernel_rfl) ⟨(14, 0), ⟨by simp, by rw [ord_top lx], by simp⟩, weak_eq (by simp) rfl⟩ (fun ⟨k, r⟩ ⟨hk, hv, hr⟩ => ?_)
  simp only at hk hv hr ⊢
  match k, hk, hv with
  | 0, hk, hv =>
    rw [Nat.pow_zero, Nat.div_one] at hv
    subst hv
    by_cases h : 1000000000000000 < r
    · have h' : (1000000000000000 : Int) < r := by omega
      have e : narI r = (0, false) := if_neg (by omega)
      simp [h', e]
    · have h' : ¬ (1000000000000000 : Int) < r := by omega
      have e : narI r = ((r : Int), true) := if_pos (by omega)
      simp [h', e]
  | k + 1, hk, hv =>
    have hlt : k < 14 := by omega
    have u := up1 X k
    rw [← hv] at u
    have x1 := dgt_lt X k
    have ix1 := digs_ix X hlt
    generalize dgt X k = a at *
    have hXl : k < (digs X).length := by rw [digs_len]; exact hlt
    have q1 : ((k : Int) + 1 - 1) = k := by omega
    have hlt' : (k : Int) < 14 := by omega
    have i1 : I64 ((k : Int) - 1) := by unfold I64; omega
    by_cases hb : 1000000000000 < r
    · have hb' : (1000000000000 : Int) < r := by omega
      have e : narI X = (0, false) := if_neg (by
        have h1 : X / 1000 ^ k ≤ X := Nat.div_le_self _ _
        omega)
      simp [q1, hb', e]
    · have hb' : ¬ (1000000000000 : Int) < r := by omega
      obtain ⟨s, hs⟩ : ∃ z, r * 1000 + a = z := ⟨_, rfl⟩
      have k1 : w64 ((r : Int) * 1000) = ((r * 1000 : Nat) : Int) := by rw [w64_in (by unfold I64; omega)]; omega
      have k2 : w64 (((r * 1000 : Nat) : Int) + a) = s := by rw [w64_in (by unfold I64; omega)]; omega
      obtain ⟨r1, hr1⟩ : ∃ z, r * 1000 = z := ⟨_, rfl⟩
      rw [hr1] at k1 k2
      simp [q1, hb', hlt, hlt', digs_len, hXl, rowAt_enc hXl, ix1, k1, k2, i1]
      exact ⟨k, s, ⟨by omega, by omega, by omega⟩, by omega, weak_eq (by simp) rfl⟩
end Go.Proofs.YtfoipbjhaiimlaaGreatDoor


/-
  layer 3, the reference: sums with signs; validity.
-/
namespace Go.Proofs.YtfoipbjhaiimlaaGreatDoor
open Go.RowKit
set_option linter.unusedSimpArgs false
set_option linter.unusedVariables false
set_option maxRecDepth 100000

def sGcdR : List AV → Option (Prop × AV) := spec2 (fun (a b : Int) => 0 ≤ a ∧ 0 ≤ b ∧ b ≤ 1000000000000000) (fun a b => .int .i64 (Int.gcd a b))
theorem gcdR : PureOK Tryz.prog G0 135 sGcdR := by
  refine pure2 (C := CE) sigCE mixCE Tryz.func135 rfl rfl rfl (by kernel_rfl) (by decide) (fun a b ⟨a0, b0, b1⟩ => ?_)
  simp
  refine loop_rule (C := CE) sigCE mixCE (fun q : Int × Int => ⟨[(0, .int .i64 q.1), (1, .int .i64 q.2)], []⟩) (fun q => 0 ≤ q.1 ∧ 0 ≤ q.2 ∧ q.2 ≤ 1000000000000000 ∧ Int.gcd q.1 q.2 = Int.gcd a b) (fun q => q.2.toNat) (by kernel_rfl) ⟨(a, b), ⟨a0, b0, b1, rfl⟩, weak_slots (by simp)⟩ (fun ⟨u, v⟩ ⟨p1, p2, p3, p4⟩ => ?_)
  simp only at p1 p2 p3 p4 ⊢
  by_cases hv' : 0 < v
  · have hv : ¬ v = 0 := by omega
    have m1 := Int.emod_nonneg u hv
    have m2 := Int.emod_lt_of_pos u hv'
    have m3 := gcd_step hv' p1
    rw [Int.tmod_eq_emod_of_nonneg p1] at m3
    have e3 := Int.tmod_eq_emod_of_nonneg (b := v) p1
    simp [hv, hv', e3]
    exact ⟨v, u % v, ⟨p2, m1, by omega, by omega⟩, by omega, weak_slots (by simp)⟩
  · obtain rfl : v = 0 := by omega
    rw [Int.gcd_zero_right] at p4
    have e2 : u = Int.gcd a b := by omega
    simp [e2]
theorem sizeR : PureOK Tryz.prog G0 136 sAbs := by
  refine pure1 (C := CE) sigCE mixCE Tryz.func136 rfl rfl rfl (by kernel_rfl) (by decide) (fun n h => ?_)
  have h' := h
  unfold InR at h
  by_cases h1 : n < 0
  · have e := absI_neg (n := n) (by omega)
    have i1 : IntKind.wrap .i64 (-n) = -n := IntWalk.i64_in _ (by omega)
    simp [e, i1, h1]
  · have e := absI_pos (n := n) (by omega)
    simp [e, h1]
def sSgn : List AV → Option (Prop × AV) := spec1 (fun (_ : Int) => True) (fun n => .int .i64 (sgn n))
theorem signR : PureOK Tryz.prog G0 139 sSgn := by
  refine pure1 (C := CE) sigCE mixCE Tryz.func139 rfl rfl rfl (by kernel_rfl) (by decide) (fun n _ => ?_)
  by_cases h1 : n < 0
  · simp [sgn, h1]
  · by_cases h2 : 0 < n
    · simp [sgn, h1, h2]
    · simp [sgn, h1, h2]
noncomputable def CVR : Ctx := mkC Tryz.prog G0 [(136, .pure sAbs), (135, .pure sGcdR)]
@[simp] theorem CVR_P : CVR.P = Tryz.prog := rfl
@[simp] theorem CVR_G : CVR.G = G0 := rfl
@[simp] theorem CVR_1 : CVR.S 136 = .pure sAbs := rfl
@[simp] theorem CVR_2 : CVR.S 135 = .pure sGcdR := rfl
theorem mixCVR : CVR.P.follows .mixedOrders = true := mixed
theorem sigCVR : SigOK CVR := sigOK_cons (entryPure (sizeR) Tryz.func136 rfl (by decide)) (sigOK_cons (entryPure (gcdR) Tryz.func135 rfl (by decide)) (sigOK_nil _ _))
theorem gcd_absI (a b : Int) : Int.gcd (absI a) b = Int.gcd a b := by unfold absI Int.gcd; rw [Int.natAbs_natCast]
set_option maxHeartbeats 4000000 in
theorem validR : PureOK Tryz.prog G0 133 sValidF := by
  refine pure1 (C := CVR) sigCVR mixCVR Tryz.func133 rfl rfl rfl (by kernel_rfl) (by decide) (fun a _ => ?_)
  obtain ⟨n, d⟩ := a
  by_cases h1 : 1 ≤ d
  case neg => simp [h1, ValidF]
  by_cases h2 : d ≤ 1000000000000000
  case neg => simp [h1, h2, ValidF]
  by_cases h3 : -1000000000000000 ≤ n
  case neg => simp [h1, h2, h3, ValidF, InR]
  by_cases h4 : n ≤ 1000000000000000
  case neg => simp [h1, h2, h3, h4, ValidF, InR]
  have hR : InR n := ⟨h3, h4⟩
  have e2 : ((Int.gcd n d : Nat) : Int) = 1 ↔ Int.gcd n d = 1 := by omega
  have a0 := absI_nn n
  have d0 : 0 ≤ d := by omega
  simp [sAbs, sGcdR, h1, h2, h3, h4, hR, a0, d0, gcd_absI, e2, ValidF]

def IsSgn (s : Int) (n : Nat) : Prop := (s = 0 ∧ n = 0) ∨ ((s = 1 ∨ s = -1) ∧ 0 < n)
structure PreSum (s : Int) (x : List Int) (t : Int) (y : List Int) : Prop where
  hx : IsD x
  hy : IsD y
  hs : IsSgn s (vl x)
  ht : IsSgn t (vl y)
  lt : vl x + vl y < B14
def sumV (s : Int) (x : List Int) (t : Int) (y : List Int) : Int := s * vl x + t * vl y
def sSumR : List AV → Option (Prop × AV) := spec4 PreSum (fun s x t y => .tup [.int .i64 (sgn (sumV s x t y)), Enc.enc (digs (sumV s x t y).natAbs)])
noncomputable def CSm : Ctx := mkC Tryz.prog G0 [(159, .frz sPlusR), (160, .pure sOrdR), (161, .pure sMinusR)]
@[simp] theorem CSm_P : CSm.P = Tryz.prog := rfl
@[simp] theorem CSm_G : CSm.G = G0 := rfl
@[simp] theorem CSm_1 : CSm.S 159 = .frz sPlusR := rfl
@[simp] theorem CSm_2 : CSm.S 160 = .pure sOrdR := rfl
@[simp] theorem CSm_3 : CSm.S 161 = .pure sMinusR := rfl
theorem mixCSm : CSm.P.follows .mixedOrders = true := mixed
theorem sigCSm : SigOK CSm := sigOK_cons (entryFrz (plusR) Tryz.func159 rfl (by decide)) (sigOK_cons (entryPure (orderR) Tryz.func160 rfl (by decide)) (sigOK_cons (entryPure (minusR) Tryz.func161 rfl (by decide)) (sigOK_nil _ _)))
def Z14 (H : List Blk) (i : Nat) : Prop := ∃ mu, H[i]? = some ⟨3, 1, encRows (digs 0), mu, true⟩
structure JSum (L : Nat → Bool) (st : ASt) : Prop where
  v0 : L 0 = true → ∃ i, getA st.ρ 31 = .own i 14 ∧ Z14 st.H i
  v1 : L 1 = true → ∃ i, getA st.ρ 32 = .own i 14 ∧ Z14 st.H i
  v2 : L 2 = true → getA st.ρ 33 = .slice 1 false (encRows (digs 0))
  v3 : L 3 = true → getA st.ρ 8 = .int .i64 0
  v4 : L 4 = true → getA st.ρ 9 = .slice 1 false (encRows (digs 0))
theorem Z14.snoc {H : List Blk} {i : Nat} (h : Z14 H i) (b : Blk) : Z14 (H ++ [b]) i := by
  obtain ⟨mu, h⟩ := h
  exact ⟨mu, by rw [List.getElem?_append_left (List.getElem?_eq_some_iff.1 h).1]; exact h⟩
theorem Z14.frz {H : List Blk} {i : Nat} (h : Z14 H i) (ls : List Nat) : Z14 (frzL ls 0 H) i := by
  obtain ⟨mu, h⟩ := h
  unfold Z14
  rw [frzL_get, h]
  simp only [Option.map_some, Nat.zero_add]
  split
  · exact ⟨false, rfl⟩
  · exact ⟨mu, rfl⟩
theorem sgn_mul {s : Int} {n : Nat} (h : IsSgn s n) : s * n = if s = 0 then 0 else if s = 1 then (n : Int) else -(n : Int) := by
  rcases h with ⟨rfl, rfl⟩ | ⟨rfl | rfl, h⟩
  · rfl
  · simp
  · simp
set_option maxHeartbeats 8000000 in
theorem sumR : PureOK Tryz.prog G0 144 sSumR := by
  refine pureH4 (C := CSm) sigCSm mixCSm Tryz.func144 rfl rfl rfl [7] (by kernel_rfl) (by decide) (fun s x t y H => ?_)
  have hV : sumV s x t y = (if s = 0 then 0 else if s = 1 then (vl x : Int) else -(vl x : Int)) + (if t = 0 then 0 else if t = 1 then (vl y : Int) else -(vl y : Int)) := by unfold sumV; rw [sgn_mul H.hs, sgn_mul H.ht]
  have hx := H.hx
  have hy := H.hy
  have hs := H.hs
  have ht := H.ht
  have hlt := H.lt
  have pa : PreAdd x y := ⟨hx, hy, hlt⟩
  have po : PreOrd x y := ⟨hx, hy⟩
  rcases em2 (s = t) with h1 | h1
  · have e : sumV s x t y = s * ((vl x + vl y : Nat) : Int) := by unfold sumV; rw [← of_eq_true h1, Int.natCast_add, Int.mul_add]
    have e1 : sgn (sumV s x t y) = s ∧ (sumV s x t y).natAbs = vl x + vl y := by
      rw [e]
      rcases hs with ⟨rfl, h⟩ | ⟨rfl | rfl, h⟩
      · have := of_eq_true h1
        rcases ht with ⟨_, h'⟩ | ⟨h' | h', _⟩
        · rw [h, h']; exact ⟨rfl, rfl⟩
        · omega
        · omega
      · unfold sgn; refine ⟨?_, by omega⟩; rw [if_neg (by omega), if_pos (by omega)]
      · unfold sgn; refine ⟨?_, by omega⟩; rw [if_pos (by omega)]
    simp [h1, sPlusR, pa, e1]
  have h1' := of_eq_false h1
  rcases em2 (t = 0) with h2 | h2
  · have e1 : sgn (sumV s x t y) = s ∧ (sumV s x t y).natAbs = vl x + vl y := by
      have ht0 := of_eq_true h2
      have hy0 : vl y = 0 := by rcases ht with ⟨_, h⟩ | ⟨h, _⟩ <;> omega
      rw [hV, if_pos ht0, hy0]
      rcases hs with ⟨rfl, h⟩ | ⟨rfl | rfl, h⟩
      · exact absurd ht0.symm h1'
      · refine ⟨?_, by simp⟩
        simp [sgn]
        omega
      · refine ⟨?_, by simp⟩
        simp [sgn]
        omega
    simp [h1, h2, sPlusR, pa, e1]
  have h2' := of_eq_false h2
  rcases em2 (s = 0) with h3 | h3
  · have e1 : sgn (sumV s x t y) = t ∧ (sumV s x t y).natAbs = vl y := by
      have hs0 := of_eq_true h3
      have hx0 : vl x = 0 := by rcases hs with ⟨_, h⟩ | ⟨h, _⟩ <;> omega
      rw [hV, if_pos hs0]
      rcases ht with ⟨rfl, h⟩ | ⟨rfl | rfl, h⟩
      · exact absurd rfl h2'
      · refine ⟨?_, by simp⟩
        simp [sgn]
        omega
      · refine ⟨?_, by simp⟩
        simp [sgn]
        omega
    have e2 : digs (vl y) = y := hy.eq.symm
    simp [h1, h2, h3, e1, e2]
  have h3' := of_eq_false h3
  have hst : t = -s ∧ (s = 1 ∨ s = -1) := by
    rcases hs with ⟨h, _⟩ | ⟨h, _⟩ <;> rcases ht with ⟨h', _⟩ | ⟨h', _⟩ <;> omega
  have e0 : sumV s x t y = s * ((vl x : Int) - vl y) := by unfold sumV; rw [hst.1, Int.mul_sub, Int.neg_mul]; omega
  rcases Nat.lt_trichotomy (vl x) (vl y) with hc | hc | hc
  · have eo : ordN (vl x) (vl y) = -1 := by unfold ordN; rw [if_pos hc]
    have e1 : sgn (sumV s x t y) = t ∧ (sumV s x t y).natAbs = vl y - vl x := by
      rw [e0, hst.1]
      rcases hst.2 with rfl | rfl
      · refine ⟨?_, by omega⟩; unfold sgn; rw [if_pos (by omega)]
      · refine ⟨?_, by omega⟩; unfold sgn; rw [if_neg (by omega), if_pos (by omega)]; rfl
    have ps : PreSub y x := ⟨hy, hx, by omega⟩
    simp [h1, h2, h3, sOrdR, sMinusR, po, ps, eo, e1]
  · have eo : ordN (vl x) (vl y) = 0 := by unfold ordN; rw [if_neg (by omega), if_neg (by omega)]
    have e1 : sgn (sumV s x t y) = 0 ∧ (sumV s x t y).natAbs = 0 := by
      rw [e0, hc, Int.sub_self, Int.mul_zero]
      exact ⟨rfl, rfl⟩
    have hz : vl (digs 0) = 0 := vl_digs (by decide)
    have pz : PreAdd (digs 0) (digs 0) := ⟨isD_digs (by decide), isD_digs (by decide), by rw [hz]; decide⟩
    simp [h1, h2, h3, sOrdR, po, eo, e1]
    refine AW_region sigCSm mixCSm [[], [], [0, 1], [2], [2, 3, 0, 1, 2, 3]] (by kernel_rfl) (by kernel_rfl) JSum ?_ ?_ ?_ ?_
    · exact ⟨fun h => by simp at h, fun h => by simp at h, fun h => by simp at h, fun h => by simp at h, fun h => by simp at h⟩
    · intro k o ho L st' hI hLi hd
      obtain ⟨ρ, H⟩ := st'
      match k, ho with
      | 0, ho =>
        have ho := Option.some.inj ho
        subst ho
        simp
        refine ⟨fun _ => ⟨H.length, by simp, ⟨true, by simp [digs_zero]⟩⟩, fun h => ?_, fun h => by simpa using hI.v2 (by simpa using h), fun h => by simpa using hI.v3 (by simpa using h), fun h => by simpa using hI.v4 (by simpa using h)⟩
        obtain ⟨i, q1, q2⟩ := hI.v1 (by simpa using h)
        exact ⟨i, by simpa using q1, q2.snoc _⟩
      | 1, ho =>
        have ho := Option.some.inj ho
        subst ho
        simp
        refine ⟨fun h => ?_, fun _ => ⟨H.length, by simp, ⟨true, by simp [digs_zero]⟩⟩, fun h => by simpa using hI.v2 (by simpa using h), fun h => by simpa using hI.v3 (by simpa using h), fun h => by simpa using hI.v4 (by simpa using h)⟩
        obtain ⟨i, q1, q2⟩ := hI.v0 (by simpa using h)
        exact ⟨i, by simpa using q1, q2.snoc _⟩
      | 2, ho =>
        have ho := Option.some.inj ho
        subst ho
        obtain ⟨i, q1, m1, q2⟩ := hI.v0 (hd 0 (by simp))
        obtain ⟨j, q3, m2, q4⟩ := hI.v1 (hd 1 (by simp))
        simp at q1 q2 q3 q4
        simp [q1, q2, q3, q4, digs_len, sPlusR, pz, hz]
        exact ⟨fun h => ⟨i, by simpa using q1, Z14.frz ⟨m1, q2⟩ _⟩, fun h => ⟨j, by simpa using q3, Z14.frz ⟨m2, q4⟩ _⟩, fun h => by simp, fun h => by simpa using hI.v3 (by simpa using h), fun h => by simpa using hI.v4 (by simpa using h)⟩
      | 3, ho =>
        have ho := Option.some.inj ho
        subst ho
        simp
        refine ⟨fun h => ?_, fun h => ?_, fun h => by simpa using hI.v2 (by simpa using h), fun h => by simp, fun h => by simpa using hI.v4 (by simpa using h)⟩
        · obtain ⟨i, q1, q2⟩ := hI.v0 (by simpa using h)
          exact ⟨i, by simpa using q1, q2⟩
        · obtain ⟨i, q1, q2⟩ := hI.v1 (by simpa using h)
          exact ⟨i, by simpa using q1, q2⟩
      | 4, ho =>
        have ho := Option.some.inj ho
        subst ho
        have q := hI.v2 (hd 2 (by simp))
        simp at q
        simp [q]
        refine ⟨fun h => ?_, fun h => ?_, fun h => by simpa using hI.v2 (by simpa using h), fun h => by simpa using hI.v3 (by simpa using h), fun h => by simp⟩
        · obtain ⟨i, q1, q2⟩ := hI.v0 (by simpa using h)
          exact ⟨i, by simpa using q1, q2⟩
        · obtain ⟨i, q1, q2⟩ := hI.v1 (by simpa using h)
          exact ⟨i, by simpa using q1, q2⟩
      | k + 5, ho => simp at ho
    · intro L st' hI hall
      obtain ⟨ρ, H⟩ := st'
      have q1 := hI.v3 (hall 3 (by decide))
      have q2 := hI.v4 (hall 4 (by decide))
      simp at q1 q2
      simp [q1, q2]
    · intro L L' st' he hI
      exact ⟨fun h => hI.v0 (by rw [he]; exact h), fun h => hI.v1 (by rw [he]; exact h), fun h => hI.v2 (by rw [he]; exact h), fun h => hI.v3 (by rw [he]; exact h), fun h => hI.v4 (by rw [he]; exact h)⟩
  · have eo : ordN (vl x) (vl y) = 1 := by unfold ordN; rw [if_neg (by omega), if_pos hc]
    have e1 : sgn (sumV s x t y) = s ∧ (sumV s x t y).natAbs = vl x - vl y := by
      rw [e0]
      rcases hst.2 with rfl | rfl
      · refine ⟨?_, by omega⟩; unfold sgn; rw [if_neg (by omega), if_pos (by omega)]
      · refine ⟨?_, by omega⟩; unfold sgn; rw [if_pos (by omega)]
    have ps : PreSub x y := ⟨hx, hy, by omega⟩
    simp [h1, h2, h3, sOrdR, sMinusR, po, ps, eo, e1]
end Go.Proofs.YtfoipbjhaiimlaaGreatDoor


/-
  layer 3, the reference: sums, products, quotients and order of fractions.
-/
namespace Go.Proofs.YtfoipbjhaiimlaaGreatDoor
open Go.RowKit
set_option linter.unusedSimpArgs false
set_option linter.unusedVariables false
set_option maxRecDepth 100000

noncomputable def CFR : Ctx := mkC Tryz.prog G0 [(133, .pure sValidF), (136, .pure sAbs), (135, .pure sGcdR), (139, .pure sSgn), (138, .pure sTimes), (137, .pure sNarrow), (144, .pure sSumR), (153, .pure sParts)]
@[simp] theorem CFR_P : CFR.P = Tryz.prog := rfl
@[simp] theorem CFR_G : CFR.G = G0 := rfl
@[simp] theorem CFR_1 : CFR.S 133 = .pure sValidF := rfl
@[simp] theorem CFR_2 : CFR.S 136 = .pure sAbs := rfl
@[simp] theorem CFR_3 : CFR.S 135 = .pure sGcdR := rfl
@[simp] theorem CFR_4 : CFR.S 139 = .pure sSgn := rfl
@[simp] theorem CFR_5 : CFR.S 138 = .pure sTimes := rfl
@[simp] theorem CFR_6 : CFR.S 137 = .pure sNarrow := rfl
@[simp] theorem CFR_7 : CFR.S 144 = .pure sSumR := rfl
@[simp] theorem CFR_8 : CFR.S 153 = .pure sParts := rfl
theorem mixCFR : CFR.P.follows .mixedOrders = true := mixed
theorem sigCFR : SigOK CFR := sigOK_cons (entryPure (validR) Tryz.func133 rfl (by decide)) (sigOK_cons (entryPure (sizeR) Tryz.func136 rfl (by decide)) (sigOK_cons (entryPure (gcdR) Tryz.func135 rfl (by decide)) (sigOK_cons (entryPure (signR) Tryz.func139 rfl (by decide)) (sigOK_cons (entryPure (timesR) Tryz.func138 rfl (by decide)) (sigOK_cons (entryPure (narrowR) Tryz.func137 rfl (by decide)) (sigOK_cons (entryPure (sumR) Tryz.func144 rfl (by decide)) (sigOK_cons (entryPure (partsR) Tryz.func153 rfl (by decide)) (sigOK_nil _ _))))))))
theorem B14_big {n : Nat} (h : n ≤ 4000000000000000000000000000000) : n < B14 := by unfold B14; omega
theorem times_B {a b : Int} (ha : 0 ≤ a ∧ a ≤ 1000000000000000) (hb : 0 ≤ b ∧ b ≤ 1000000000000000) : a.toNat * b.toNat ≤ 1000000000000000000000000000000 := Nat.mul_le_mul (n₂ := 1000000000000000) (m₂ := 1000000000000000) (by omega) (by omega)
theorem nar_in {X : Nat} : narI X = if InR (X : Int) then ((X : Int), true) else (0, false) := by
  unfold narI
  have : X ≤ 1000000000000000 ↔ InR (X : Int) := by unfold InR; omega
  by_cases h : X ≤ 1000000000000000
  · rw [if_pos h, if_pos (this.1 h)]
  · rw [if_neg h, if_neg (mt this.2 h)]
theorem tdivN {a : Int} {g : Nat} (h : 0 ≤ a) : a.tdiv g = ((a.toNat / g : Nat) : Int) := by
  obtain ⟨n, rfl⟩ := Int.eq_ofNat_of_zero_le h
  rw [divR_step, Int.toNat_natCast]
theorem sgn_abs (n : Int) : sgn n * absI n = n := by
  unfold sgn absI
  split
  · omega
  · split <;> omega
theorem sgn_tdiv (n : Int) (g : Nat) : sgn n * (absI n).tdiv g = n.tdiv g := by
  by_cases h : n < 0
  · rw [absI_neg (by omega), Int.neg_tdiv]
    unfold sgn
    rw [if_pos h]
    omega
  · rw [absI_pos (by omega)]
    unfold sgn
    by_cases h0 : 0 < n
    · rw [if_neg h, if_pos h0]; omega
    · obtain rfl : n = 0 := by omega
      simp
theorem sgn_R (n : Int) : sgn n = -1 ∨ sgn n = 0 ∨ sgn n = 1 := by
  unfold sgn
  split
  · exact .inl rfl
  · split
    · exact .inr (.inr rfl)
    · exact .inr (.inl rfl)
theorem tdiv_nn {a : Int} {g : Nat} (h : 0 ≤ a ∧ a ≤ 1000000000000000) : 0 ≤ a.tdiv g ∧ a.tdiv g ≤ 1000000000000000 := by
  rw [tdivN h.1]
  have := Nat.div_le_self a.toNat g
  generalize a.toNat / g = z at *
  omega
theorem sig_in {s z : Int} (hs : s = -1 ∨ s = 0 ∨ s = 1) (hz : s = 0 → z = 0) : InR (s * z) ↔ InR z := by
  unfold InR
  rcases hs with rfl | rfl | rfl
  · omega
  · rw [hz rfl]; simp
  · omega
theorem sig_rng {s z y : Int} (hs : s = -1 ∨ s = 0 ∨ s = 1) (hz : s = 0 → z = 0) : rngF (s * z) y = if InR z ∧ InR y then (⟨s * z, y⟩, true) else (F00, false) := by
  unfold rngF
  have := sig_in hs hz
  by_cases h : InR z <;> by_cases h' : InR y <;> simp [this, h, h']
theorem sgn_mul_R (a b : Int) : sgn a * sgn b = -1 ∨ sgn a * sgn b = 0 ∨ sgn a * sgn b = 1 := by
  rcases sgn_R a with h | h | h <;> rcases sgn_R b with h' | h' | h' <;> rw [h, h'] <;> decide
theorem sgn_zero {a : Int} (h : sgn a = 0) : a = 0 := by
  unfold sgn at h
  split at h
  · omega
  · split at h
    · omega
    · omega
set_option maxHeartbeats 8000000 in
theorem mulR : PureOK Tryz.prog G0 107 sMulF := by
  refine pure2 (C := CFR) sigCFR mixCFR Tryz.func107 rfl rfl rfl (by kernel_rfl) (by decide) (fun a b _ => ?_)
  by_cases ha : ValidF a
  case neg =>
    have e := mulF_no (a := a) (b := b) (fun h => ha h.1)
    simp [sValidF, ha, e, F00]
  by_cases hb : ValidF b
  case neg =>
    have e := mulF_no (a := a) (b := b) (fun h => hb h.2)
    simp [sValidF, ha, hb, e, F00]
  have e := mul_parts ha hb
  have ha' := ha
  have hb' := hb
  obtain ⟨a1, a2, a3, a4⟩ := ha'
  obtain ⟨b1, b2, b3, b4⟩ := hb'
  have a5 : InR a.D := by unfold InR; omega
  have b5 : InR b.D := by unfold InR; omega
  obtain ⟨g0, g1⟩ := gcd_R a3 b5 (by omega)
  obtain ⟨h0, h1⟩ := gcd_R b3 a5 (by omega)
  have i1 := gcd_absI a.N b.D
  have i2 := gcd_absI b.N a.D
  generalize Int.gcd a.N b.D = g at *
  generalize Int.gcd b.N a.D = h at *
  have p1 := tdiv_nn (g := g) (absI_R a3)
  have p2 := tdiv_nn (g := h) (absI_R b3)
  have p3 := tdiv_nn (a := a.D) (g := h) ⟨by omega, by omega⟩
  have p4 := tdiv_nn (a := b.D) (g := g) ⟨by omega, by omega⟩
  have s1 := sgn_tdiv a.N g
  have s2 := sgn_tdiv b.N h
  have A0 := absI_nn a.N
  have B0 := absI_nn b.N
  generalize hx1 : (absI a.N).tdiv g = x1 at *
  generalize hx2 : (absI b.N).tdiv h = x2 at *
  generalize hy1 : a.D.tdiv h = y1 at *
  generalize hy2 : b.D.tdiv g = y2 at *
  have q1 : w64 x1 = x1 := w64_in (by unfold I64; omega)
  have q2 : w64 x2 = x2 := w64_in (by unfold I64; omega)
  have q3 : w64 y1 = y1 := w64_in (by unfold I64; omega)
  have q4 : w64 y2 = y2 := w64_in (by unfold I64; omega)
  have t1 := times_B p1 p2
  have t2 := times_B p3 p4
  have v1 := vl_digs (B14_big (n := x1.toNat * x2.toNat) (by omega))
  have v2 := vl_digs (B14_big (n := y1.toNat * y2.toNat) (by omega))
  have d1 : PreNarrow (digs (x1.toNat * x2.toNat)) := isD_digs (B14_big (by omega))
  have d2 : PreNarrow (digs (y1.toNat * y2.toNat)) := isD_digs (B14_big (by omega))
  have g2 : ¬ g = 0 := by omega
  have h2 : ¬ h = 0 := by omega
  have ad0 : 0 ≤ a.D := by omega
  have bd0 : 0 ≤ b.D := by omega
  have c1 : ((x1.toNat * x2.toNat : Nat) : Int) = x1 * x2 := by rw [Int.natCast_mul, Int.toNat_of_nonneg p1.1, Int.toNat_of_nonneg p2.1]
  have c2 : ((y1.toNat * y2.toNat : Nat) : Int) = y1 * y2 := by rw [Int.natCast_mul, Int.toNat_of_nonneg p3.1, Int.toNat_of_nonneg p4.1]
  have n1 := nar_in (X := x1.toNat * x2.toNat)
  have n2 := nar_in (X := y1.toNat * y2.toNat)
  rw [c1] at n1
  rw [c2] at n2
  have hσ := sgn_mul_R a.N b.N
  have hz : sgn a.N * sgn b.N = 0 → x1 * x2 = 0 := fun h => by
    rcases Int.mul_eq_zero.1 h with h | h
    · have : x1 = 0 := by rw [← hx1, sgn_zero h]; simp [absI]
      rw [this, Int.zero_mul]
    · have : x2 = 0 := by rw [← hx2, sgn_zero h]; simp [absI]
      rw [this, Int.mul_zero]
  have em : mulF a b = rngF (sgn a.N * sgn b.N * (x1 * x2)) (y1 * y2) := by
    rw [e, ← s1, ← s2, show sgn a.N * x1 * (sgn b.N * x2) = sgn a.N * sgn b.N * (x1 * x2) by ac_rfl]
  rw [sig_rng hσ hz] at em
  have w1 : w64 (sgn a.N * sgn b.N) = sgn a.N * sgn b.N := w64_in (by unfold I64; omega)
  have w2 : InR (x1 * x2) → w64 (sgn a.N * sgn b.N * (x1 * x2)) = sgn a.N * sgn b.N * (x1 * x2) := fun h => w64_R ((sig_in hσ hz).2 h)
  obtain ⟨σ, hσe⟩ : ∃ σ, sgn a.N * sgn b.N = σ := ⟨_, rfl⟩
  rw [hσe] at em w1 w2
  obtain ⟨X, hX⟩ : ∃ X, x1.toNat * x2.toNat = X := ⟨_, rfl⟩
  obtain ⟨Y, hY⟩ : ∃ Y, y1.toNat * y2.toNat = Y := ⟨_, rfl⟩
  rw [hX] at v1 d1 n1
  rw [hY] at v2 d2 n2
  by_cases u1 : InR (x1 * x2)
  · rw [if_pos u1] at n1
    have w2 := w2 u1
    by_cases u2 : InR (y1 * y2)
    · rw [if_pos u2] at n2
      rw [if_pos ⟨u1, u2⟩] at em
      simp [sValidF, sAbs, sGcdR, sTimes, sNarrow, sSgn, ha, hb, a3, b3, A0, B0, ad0, bd0, a2, b2, i1, i2, g2, h2, hx1, hx2, hy1, hy2, q1, q2, q3, q4, p1, p2, p3, p4, hX, hY, v1, v2, d1, d2, n1, n2, em, hσe, w1, w2]
    · rw [if_neg u2] at n2
      rw [if_neg (fun h => u2 h.2)] at em
      simp [sValidF, sAbs, sGcdR, sTimes, sNarrow, sSgn, ha, hb, a3, b3, A0, B0, ad0, bd0, a2, b2, i1, i2, g2, h2, hx1, hx2, hy1, hy2, q1, q2, q3, q4, p1, p2, p3, p4, hX, hY, v1, v2, d1, d2, n1, n2, em, hσe, w1, w2, F00]
  · rw [if_neg u1] at n1
    rw [if_neg (fun h => u1 h.1)] at em
    simp [sValidF, sAbs, sGcdR, sTimes, sNarrow, sSgn, ha, hb, a3, b3, A0, B0, ad0, bd0, a2, b2, i1, i2, g2, h2, hx1, hx2, hy1, hy2, q1, q2, q3, q4, p1, p2, p3, p4, hX, hY, v1, v2, d1, d2, n1, n2, em, hσe, w1, F00]
end Go.Proofs.YtfoipbjhaiimlaaGreatDoor


/-
  layer 3, the reference: sums, differences, quotients and order of fractions.
-/
namespace Go.Proofs.YtfoipbjhaiimlaaGreatDoor
open Go.RowKit
set_option linter.unusedSimpArgs false
set_option linter.unusedVariables false
set_option maxRecDepth 100000

theorem isSgn_of {n : Int} {m : Nat} (h : n = 0 → m = 0) (h' : n ≠ 0 → 0 < m) : IsSgn (sgn n) m := by
  unfold sgn
  by_cases h0 : n = 0
  · subst h0; exact .inl ⟨rfl, h rfl⟩
  · refine .inr ⟨?_, h' h0⟩
    split
    · exact .inr rfl
    · rw [if_pos (by omega)]; exact .inl rfl
/-- Two products with signs, as the reference adds them. -/
structure SumR (n p m q : Int) : Prop where
  pre : PreSum (sgn n) (digs ((absI n).toNat * p.toNat)) (sgn m) (digs ((absI m).toNat * q.toNat))
  val : sumV (sgn n) (digs ((absI n).toNat * p.toNat)) (sgn m) (digs ((absI m).toNat * q.toNat)) = n * p + m * q
  big : (n * p + m * q).natAbs ≤ 2000000000000000000000000000000
theorem sumR_of {n p m q : Int} (hn : InR n) (hp : 0 < p ∧ p ≤ 1000000000000000) (hm : InR m) (hq : 0 < q ∧ q ≤ 1000000000000000) : SumR n p m q := by
  have t1 := times_B (absI_R hn) ⟨Int.le_of_lt hp.1, hp.2⟩
  have t2 := times_B (absI_R hm) ⟨Int.le_of_lt hq.1, hq.2⟩
  have v1 := vl_digs (B14_big (n := (absI n).toNat * p.toNat) (by omega))
  have v2 := vl_digs (B14_big (n := (absI m).toNat * q.toNat) (by omega))
  have e1 : (((absI n).toNat * p.toNat : Nat) : Int) = absI n * p := by rw [Int.natCast_mul, Int.toNat_of_nonneg (absI_nn n), Int.toNat_of_nonneg (Int.le_of_lt hp.1)]
  have e2 : (((absI m).toNat * q.toNat : Nat) : Int) = absI m * q := by rw [Int.natCast_mul, Int.toNat_of_nonneg (absI_nn m), Int.toNat_of_nonneg (Int.le_of_lt hq.1)]
  have ev : sumV (sgn n) (digs ((absI n).toNat * p.toNat)) (sgn m) (digs ((absI m).toNat * q.toNat)) = n * p + m * q := by
    unfold sumV
    rw [v1, v2, e1, e2, ← Int.mul_assoc, sgn_abs, ← Int.mul_assoc, sgn_abs]
  refine ⟨⟨isD_digs (B14_big (by omega)), isD_digs (B14_big (by omega)), ?_, ?_, by rw [v1, v2]; exact B14_big (by omega)⟩, ev, ?_⟩
  · rw [v1]
    refine isSgn_of (fun h => by rw [h]; simp [absI]) (fun h => Nat.mul_pos (by unfold absI; omega) (by omega))
  · rw [v2]
    refine isSgn_of (fun h => by rw [h]; simp [absI]) (fun h => Nat.mul_pos (by unfold absI; omega) (by omega))
  · have a1 : (n * p).natAbs = (absI n).toNat * p.toNat := by rw [Int.natAbs_mul, show n.natAbs = (absI n).toNat by unfold absI; omega, show p.natAbs = p.toNat by omega]
    have a2 : (m * q).natAbs = (absI m).toNat * q.toNat := by rw [Int.natAbs_mul, show m.natAbs = (absI m).toNat by unfold absI; omega, show q.natAbs = q.toNat by omega]
    rw [← a1] at t1
    rw [← a2] at t2
    have := Int.natAbs_add_le (n * p) (m * q)
    omega
theorem dvd_quo_pos {a : Int} {g : Nat} (ha : 0 < a) (h : (g : Int) ∣ a) : 0 < a.tdiv g := by
  obtain ⟨x, hx⟩ := h
  have g0 : (g : Int) ≠ 0 := by intro h; rw [h, Int.zero_mul] at hx; omega
  rw [hx, Int.mul_tdiv_cancel_left _ g0]
  have g1 : (0 : Int) < g := by omega
  by_cases hx0 : 0 < x
  · exact hx0
  · have := Int.mul_nonpos_of_nonneg_of_nonpos (Int.le_of_lt g1) (show x ≤ 0 by omega)
    omega
theorem gcd_mod_abs (t : Int) (g : Nat) : Int.gcd g ((t.natAbs % g : Nat) : Int) = Int.gcd t g := by
  rw [Int.gcd_comm, ← gcd_abs_mod t g]
  congr 1
set_option maxHeartbeats 16000000 in
theorem addR : PureOK Tryz.prog G0 140 sAddF := by
  refine pure2 (C := CFR) sigCFR mixCFR Tryz.func140 rfl rfl rfl (by kernel_rfl) (by decide) (fun a b _ => ?_)
  by_cases ha : ValidF a
  case neg =>
    have e := addF_no (a := a) (b := b) (fun h => ha h.1)
    simp [sValidF, ha, e, F00]
  by_cases hb : ValidF b
  case neg =>
    have e := addF_no (a := a) (b := b) (fun h => hb h.2)
    simp [sValidF, ha, hb, e, F00]
  obtain ⟨hh0, e⟩ := add_parts ha hb
  have ez := add_zero_parts ha hb
  have ha' := ha
  have hb' := hb
  obtain ⟨a1, a2, a3, a4⟩ := ha'
  obtain ⟨b1, b2, b3, b4⟩ := hb'
  have a5 : InR a.D := by unfold InR; omega
  have b5 : InR b.D := by unfold InR; omega
  obtain ⟨g0, g1⟩ := gcd_R a5 b5 (by omega)
  have d1 := Int.gcd_dvd_left a.D b.D
  have d2 := Int.gcd_dvd_right a.D b.D
  have et : tF a b = a.N * b.D.tdiv (Int.gcd a.D b.D) + b.N * a.D.tdiv (Int.gcd a.D b.D) := rfl
  obtain ⟨g, hg⟩ : ∃ g, Int.gcd a.D b.D = g := ⟨_, rfl⟩
  rw [hg] at hh0 e g0 g1 d1 d2 et
  have pp := dvd_quo_pos (by omega) d1
  have qq := dvd_quo_pos (by omega) d2
  have p3 := tdiv_nn (a := a.D) (g := g) ⟨by omega, by omega⟩
  have p4 := tdiv_nn (a := b.D) (g := g) ⟨by omega, by omega⟩
  have g2 : ¬ g = 0 := by omega
  have ad0 : 0 ≤ a.D := by omega
  have bd0 : 0 ≤ b.D := by omega
  have A0 := absI_nn a.N
  have B0 := absI_nn b.N
  have A1 := (absI_R a3).2
  have B1 := (absI_R b3).2
  obtain ⟨x, hx⟩ : ∃ x, a.D.tdiv g = x := ⟨_, rfl⟩
  obtain ⟨y, hy⟩ : ∃ y, b.D.tdiv g = y := ⟨_, rfl⟩
  rw [hx] at et e pp p3
  rw [hy] at et qq p4
  have q1 : w64 x = x := w64_in (by unfold I64; omega)
  have q2 : w64 y = y := w64_in (by unfold I64; omega)
  have S := sumR_of a3 ⟨qq, p4.2⟩ b3 ⟨pp, p3.2⟩
  have S1 := S.pre
  have S2 := S.val
  have S3 := S.big
  rw [← et] at S2 S3
  obtain ⟨X, hX⟩ : ∃ X, digs ((absI a.N).toNat * y.toNat) = X := ⟨_, rfl⟩
  obtain ⟨Y, hY⟩ : ∃ Y, digs ((absI b.N).toNat * x.toNat) = Y := ⟨_, rfl⟩
  rw [hX, hY] at S1 S2
  generalize tF a b = t at *
  rcases em2 (t = 0) with ht | ht
  · have hs : sgn t = 0 := by rw [of_eq_true ht]; rfl
    have e := ez (of_eq_true ht)
    simp [sValidF, sAbs, sGcdR, sTimes, sSgn, sSumR, ha, hb, hg, g2, a2, b2, a3, b3, ad0, bd0, A0, B0, A1, B1, hx, hy, q1, q2, p3, p4, hX, hY, S1, S2, hs, e, F01]
  have hs : (sgn t = 0) = False := eq_false (fun h => of_eq_false ht (sgn_zero h))
  obtain ⟨M, hM⟩ : ∃ M, t.natAbs = M := ⟨_, rfl⟩
  have r2 := gcd_mod_abs t g
  rw [hM] at S3 r2
  have vM := vl_digs (B14_big (n := M) (by omega))
  have h1 : (Int.gcd t g : Int) ≤ g := Int.gcd_le_natAbs_right t (show (g : Int) ≠ 0 by omega) |> (fun h => by omega)
  obtain ⟨h, hh⟩ : ∃ h, Int.gcd t g = h := ⟨_, rfl⟩
  rw [hh] at hh0 e r2 h1
  have g3 : (g : Int) ≤ 1000000000000000 := by unfold InR at g1; omega
  have h3 : (h : Int) ≤ 1000000000000000 := by omega
  have h2 : ¬ h = 0 := by omega
  have pM : PreParts (digs M) g := ⟨isD_digs (B14_big (by omega)), by omega, g3⟩
  have pH : PreParts (digs M) h := ⟨isD_digs (B14_big (by omega)), by omega, h3⟩
  have lq := Nat.div_le_self M h
  have vq := vl_digs (B14_big (n := M / h) (by omega))
  have nq : PreNarrow (digs (M / h)) := isD_digs (B14_big (by omega))
  have n1 := nar_in (X := M / h)
  have p5 := tdiv_nn (a := b.D) (g := h) ⟨by omega, by omega⟩
  obtain ⟨z, hz⟩ : ∃ y, b.D.tdiv h = y := ⟨_, rfl⟩
  rw [hz] at e p5
  have q3 : w64 z = z := w64_in (by unfold I64; omega)
  have t2 := times_B p3 p5
  have v2 := vl_digs (B14_big (n := x.toNat * z.toNat) (by omega))
  have nz : PreNarrow (digs (x.toNat * z.toNat)) := isD_digs (B14_big (by omega))
  have c2 : ((x.toNat * z.toNat : Nat) : Int) = x * z := by rw [Int.natCast_mul, Int.toNat_of_nonneg p3.1, Int.toNat_of_nonneg p5.1]
  have n2 := nar_in (X := x.toNat * z.toNat)
  rw [c2] at n2
  obtain ⟨Q, hQ⟩ : ∃ Q, M / h = Q := ⟨_, rfl⟩
  obtain ⟨R, hR⟩ : ∃ R, M % g = R := ⟨_, rfl⟩
  rw [hQ] at vq nq n1 lq
  rw [hR] at r2
  have hR' : (M : Int) % (g : Int) = (R : Int) := by rw [← hR]; simp
  have et : t.tdiv h = sgn t * (Q : Int) := by
    rw [← sgn_tdiv t h, ← hQ, ← hM]
    unfold absI
    rw [divR_step]
  have hσ := sgn_R t
  have hz0 : sgn t = 0 → (Q : Int) = 0 := fun h => absurd (sgn_zero h) (of_eq_false ht)
  have em := sig_rng (y := x * z) hσ hz0
  rw [← et, ← e] at em
  have w2 : InR (Q : Int) → w64 (sgn t * Q) = sgn t * Q := fun h => w64_R ((sig_in hσ hz0).2 h)
  have rl : R < g := by rw [← hR]; exact Nat.mod_lt _ (by omega)
  have r3 : (R : Int) ≤ 1000000000000000 := by omega
  obtain ⟨W, hW⟩ : ∃ W, digs (x.toNat * z.toNat) = W := ⟨_, rfl⟩
  rw [hW] at v2 nz
  rw [← v2] at n2
  by_cases u1 : InR (Q : Int)
  · rw [if_pos u1] at n1
    have w2 := w2 u1
    by_cases u2 : InR (x * z)
    · rw [v2, if_pos u2] at n2
      rw [if_pos ⟨u1, u2⟩] at em
      simp [sValidF, sAbs, sGcdR, sTimes, sSgn, sSumR, sParts, sNarrow, ha, hb, hg, g2, a2, b2, a3, b3, ad0, bd0, A0, B0, A1, B1, hx, hy, q1, q2, p3, p4, hX, hY, S1, S2, hs, hM, vM, pM, pH, hQ, hR', vq, nq, n1, hz, p5, q3, hW, v2, nz, n2, em, w2, r2, r3, h2]
      exact et.symm
    · rw [v2, if_neg u2] at n2
      rw [if_neg (fun h => u2 h.2)] at em
      simp [sValidF, sAbs, sGcdR, sTimes, sSgn, sSumR, sParts, sNarrow, ha, hb, hg, g2, a2, b2, a3, b3, ad0, bd0, A0, B0, A1, B1, hx, hy, q1, q2, p3, p4, hX, hY, S1, S2, hs, hM, vM, pM, pH, hQ, hR', vq, nq, n1, hz, p5, q3, hW, v2, nz, n2, em, r2, r3, h2, F00]
  · rw [if_neg u1] at n1
    rw [if_neg (fun h => u1 h.1)] at em
    simp [sValidF, sAbs, sGcdR, sTimes, sSgn, sSumR, sParts, sNarrow, ha, hb, hg, g2, a2, b2, a3, b3, ad0, bd0, A0, B0, A1, B1, hx, hy, q1, q2, p3, p4, hX, hY, S1, S2, hs, hM, vM, pM, pH, hQ, hR', vq, nq, n1, hz, p5, q3, hW, v2, nz, n2, em, r2, r3, h2, F00]
noncomputable def CFR2 : Ctx := mkC Tryz.prog G0 [(133, .pure sValidF), (136, .pure sAbs), (139, .pure sSgn), (138, .pure sTimes), (144, .pure sSumR), (140, .pure sAddF), (107, .pure sMulF)]
@[simp] theorem CFR2_P : CFR2.P = Tryz.prog := rfl
@[simp] theorem CFR2_G : CFR2.G = G0 := rfl
@[simp] theorem CFR2_1 : CFR2.S 133 = .pure sValidF := rfl
@[simp] theorem CFR2_2 : CFR2.S 136 = .pure sAbs := rfl
@[simp] theorem CFR2_3 : CFR2.S 139 = .pure sSgn := rfl
@[simp] theorem CFR2_4 : CFR2.S 138 = .pure sTimes := rfl
@[simp] theorem CFR2_5 : CFR2.S 144 = .pure sSumR := rfl
@[simp] theorem CFR2_6 : CFR2.S 140 = .pure sAddF := rfl
@[simp] theorem CFR2_7 : CFR2.S 107 = .pure sMulF := rfl
theorem mixCFR2 : CFR2.P.follows .mixedOrders = true := mixed
theorem sigCFR2 : SigOK CFR2 := sigOK_cons (entryPure (validR) Tryz.func133 rfl (by decide)) (sigOK_cons (entryPure (sizeR) Tryz.func136 rfl (by decide)) (sigOK_cons (entryPure (signR) Tryz.func139 rfl (by decide)) (sigOK_cons (entryPure (timesR) Tryz.func138 rfl (by decide)) (sigOK_cons (entryPure (sumR) Tryz.func144 rfl (by decide)) (sigOK_cons (entryPure (addR) Tryz.func140 rfl (by decide)) (sigOK_cons (entryPure (mulR) Tryz.func107 rfl (by decide)) (sigOK_nil _ _)))))))
theorem subR : PureOK Tryz.prog G0 108 sSubF := by
  refine pure2 (C := CFR2) sigCFR2 mixCFR2 Tryz.func108 rfl rfl rfl (by kernel_rfl) (by decide) (fun a b hI => ?_)
  by_cases hb : ValidF b
  · have e : addF a ⟨IntKind.wrap .i64 (-b.N), b.D⟩ = subF a b := rfl
    obtain ⟨r, f, hr⟩ := pair_of (subF a b)
    simp [sValidF, sAddF, hb, e, hr]
  · have e : subF a b = (F00, false) := by
      refine addF_no fun h => hb ?_
      obtain ⟨h1, h2, h3, h4⟩ := h.2
      have h3 : InR (w64 (-b.N)) := h3
      have h4 : Int.gcd (w64 (-b.N)) b.D = 1 := h4
      have hn : w64 (-b.N) = -b.N := by
        by_cases hm : b.N = -9223372036854775808
        · rw [hm] at h3
          exact absurd h3 (by decide)
        · exact w64_in (by unfold I64 at hI ⊢; omega)
      rw [hn] at h3 h4
      exact ⟨h1, h2, InR_neg.1 h3, by rw [← Int.neg_gcd]; exact h4⟩
    simp [sValidF, hb, e, F00]
theorem divR : PureOK Tryz.prog G0 134 sDivF := by
  refine pure2 (C := CFR2) sigCFR2 mixCFR2 Tryz.func134 rfl rfl rfl (by kernel_rfl) (by decide) (fun a b _ => ?_)
  by_cases hb : ValidF b
  case neg =>
    have e : divF a b = (F00, false) := if_neg (fun h => hb h.1)
    simp [sValidF, hb, e, F00]
  rcases em2 (b.N = 0) with h0 | h0
  · have e : divF a b = (F00, false) := if_neg (fun h => h.2 (of_eq_true h0))
    simp [sValidF, hb, h0, e, F00]
  obtain ⟨b1, b2, b3, b4⟩ := hb
  have hb : ValidF b := ⟨b1, b2, b3, b4⟩
  by_cases h1 : b.N < 0
  · have e : divF a b = mulF a ⟨-b.D, -b.N⟩ := by unfold divF; rw [if_pos ⟨hb, of_eq_false h0⟩, if_pos h1]
    have e1 : sgn b.N = -1 := by unfold sgn; rw [if_pos h1]
    have e2 : w64 (-b.D) = -b.D := w64_R (InR_neg.2 (by unfold InR; omega))
    have e3 : absI b.N = -b.N := absI_neg (by omega)
    obtain ⟨r, f, hr⟩ := pair_of (mulF a ⟨-b.D, -b.N⟩)
    simp [sValidF, sMulF, sSgn, sAbs, hb, h0, b3, e1, e2, e3, e, hr]
  · have h00 := of_eq_false h0
    have e : divF a b = mulF a ⟨b.D, b.N⟩ := by unfold divF; rw [if_pos ⟨hb, h00⟩, if_neg h1]
    have e1 : sgn b.N = 1 := by unfold sgn; rw [if_neg h1, if_pos (by omega)]
    have e2 : w64 b.D = b.D := w64_R (by unfold InR; omega)
    have e3 : absI b.N = b.N := absI_pos (by omega)
    obtain ⟨r, f, hr⟩ := pair_of (mulF a ⟨b.D, b.N⟩)
    simp [sValidF, sMulF, sSgn, sAbs, hb, h0, b3, e1, e2, e3, e, hr]
set_option maxHeartbeats 8000000 in
theorem cmpR : PureOK Tryz.prog G0 118 sCmpF := by
  refine pure2 (C := CFR2) sigCFR2 mixCFR2 Tryz.func118 rfl rfl rfl (by kernel_rfl) (by decide) (fun a b _ => ?_)
  have va := fix_valid a
  have vb := fix_valid b
  obtain ⟨x, hx⟩ : ∃ x, fixF a = x := ⟨_, rfl⟩
  obtain ⟨y, hy⟩ : ∃ y, fixF b = y := ⟨_, rfl⟩
  have ec : cmpF a b = sgn (x.N * y.D + -y.N * x.D) := by unfold cmpF; rw [hx, hy, Int.neg_mul]; rfl
  rw [hx] at va
  rw [hy] at vb
  obtain ⟨a1, a2, a3, a4⟩ := va
  obtain ⟨b1, b2, b3, b4⟩ := vb
  have S := sumR_of a3 (p := y.D) ⟨by omega, b2⟩ (InR_neg.2 b3) (q := x.D) ⟨by omega, a2⟩
  have S1 := S.pre
  have S2 := S.val
  rw [← congrArg sgn S2] at ec
  have ab : absI (-y.N) = absI y.N := by unfold absI; omega
  have sb : sgn (-y.N) = -sgn y.N := by unfold sgn; split <;> split <;> (try split) <;> omega
  have wb : IntKind.wrap .i64 (-sgn y.N) = -sgn y.N := w64_R (by have := sgn_R y.N; unfold InR; omega)
  rw [ab, sb] at S1 ec
  have A0 := absI_nn x.N
  have B0 := absI_nn y.N
  have A1 := (absI_R a3).2
  have B1 := (absI_R b3).2
  have c1 : 0 ≤ x.D := by omega
  have c2 : 0 ≤ y.D := by omega
  by_cases ha : ValidF a
  · have hx' : a = x := by rw [← hx]; exact (if_pos ha).symm
    by_cases hb : ValidF b
    · have hy' : b = y := by rw [← hy]; exact (if_pos hb).symm
      subst hx' hy'
      simp [sValidF, sAbs, sTimes, sSgn, sSumR, ha, hb, a2, a3, b2, b3, A0, B0, A1, B1, c1, c2, wb, S1, ec]
    · have hy' : F01 = y := by rw [← hy]; exact (if_neg hb).symm
      subst hx' hy'
      simp only [F01, show Int.toNat 1 = 1 from rfl, Nat.mul_one] at b2 b3 B0 B1 c2 wb S1 ec
      simp [sValidF, sAbs, sTimes, sSgn, sSumR, ha, hb, a2, a3, b2, b3, A0, B0, A1, B1, c1, c2, wb, S1, ec]
  · have hx' : F01 = x := by rw [← hx]; exact (if_neg ha).symm
    by_cases hb : ValidF b
    · have hy' : b = y := by rw [← hy]; exact (if_pos hb).symm
      subst hx' hy'
      simp only [F01, show Int.toNat 1 = 1 from rfl, Nat.mul_one] at a2 a3 A0 A1 c1 S1 ec
      simp [sValidF, sAbs, sTimes, sSgn, sSumR, ha, hb, a2, a3, b2, b3, A0, B0, A1, B1, c1, c2, wb, S1, ec]
    · have hy' : F01 = y := by rw [← hy]; exact (if_neg hb).symm
      subst hx' hy'
      simp only [F01, show Int.toNat 1 = 1 from rfl, Nat.mul_one] at a2 a3 A0 A1 c1 b2 b3 B0 B1 c2 wb S1 ec
      simp [sValidF, sAbs, sTimes, sSgn, sSumR, ha, hb, a2, a3, b2, b3, A0, B0, A1, B1, c1, c2, wb, S1, ec]
end Go.Proofs.YtfoipbjhaiimlaaGreatDoor


/-
  layer 30: what Check, Feasible, Value and Dual compute, in plain words.
-/
namespace Go.Proofs.YtfoipbjhaiimlaaGreatDoor
open Go.RowKit
set_option linter.unusedSimpArgs false
set_option linter.unusedVariables false

/-- A result that may be none, as a pair. -/
def ofO : Option Fr → Fr × Bool
  | some r => (r, true)
  | none => (F00, false)
def toO (p : Fr × Bool) : Option Fr := if p.2 then some p.1 else none
theorem rng_ofO (n d : Int) : ofO (toO (rngF n d)) = rngF n d := by
  unfold rngF
  split <;> rfl
def mulO (a b : Fr) : Option Fr := toO (mulF a b)
def addO (a b : Fr) : Option Fr := toO (addF a b)
def subO (a b : Fr) : Option Fr := toO (subF a b)
def divO (a b : Fr) : Option Fr := toO (divF a b)
theorem mul_ofO (a b : Fr) : mulF a b = ofO (mulO a b) := by
  unfold mulO mulF
  split
  · exact (rng_ofO _ _).symm
  · rfl
theorem add_ofO (a b : Fr) : addF a b = ofO (addO a b) := by
  unfold addO addF
  split
  · exact (rng_ofO _ _).symm
  · rfl
theorem sub_ofO (a b : Fr) : subF a b = ofO (subO a b) := add_ofO a (negF b)
theorem div_ofO (a b : Fr) : divF a b = ofO (divO a b) := by
  unfold divO divF
  split
  · split
    · exact mul_ofO _ _
    · exact mul_ofO _ _
  · rfl

/-- The sum of products from s on. -/
def dotO : Fr → List Fr → List Fr → Option Fr
  | s, a :: ar, x :: xs => match mulO a x with
    | some p => (match addO s p with | some t => dotO t ar xs | none => none)
    | none => none
  | s, _, _ => some s
def AllV (l : List Fr) : Prop := ∀ f ∈ l, ValidF f
instance (l : List Fr) : Decidable (AllV l) := inferInstanceAs (Decidable (∀ f ∈ l, ValidF f))
def RowsV (n : Nat) (l : List (List Fr)) : Prop := ∀ r ∈ l, r.length = n ∧ AllV r
instance (n : Nat) (l : List (List Fr)) : Decidable (RowsV n l) := inferInstanceAs (Decidable (∀ r ∈ l, r.length = n ∧ AllV r))
def checkF (l : Lin) : Int :=
  if 12 < l.C.length ∨ 24 < l.A.length then 4
  else if l.C = [] ∨ l.B.length ≠ l.A.length ∨ ¬ AllV l.B ∨ ¬ AllV l.C ∨ ¬ RowsV l.C.length l.A then 1 else 0
def ConOK (x : List Fr) (a : List Fr) (b : Fr) : Prop := ∃ s, dotO F01 a x = some s ∧ ¬ cmpF s b < 0
def FeasP (l : Lin) (x : List Fr) : Prop := checkF l = 0 ∧ x.length = l.C.length ∧ (∀ f ∈ x, ValidF f ∧ ¬ f.N < 0) ∧ ∀ i, i < l.A.length → ConOK x (ix l.A i) (ix l.B i)
open Classical in
noncomputable def feasB (l : Lin) (x : List Fr) : Bool := decide (FeasP l x)
def valueF (l : Lin) (x : List Fr) : Fr × Bool := if x.length = l.C.length then ofO (dotO F01 l.C x) else (F00, false)
def L00 : Lin := ⟨[], [], []⟩
/-- The dual program, whatever l is. -/
def dualL (l : Lin) : Lin := ⟨(List.range l.C.length).map fun j => l.A.map fun a => negF (ix a j), l.C.map negF, l.B.map negF⟩
structure SmallL (l : Lin) : Prop where
  a : l.A.length ≤ 1000
  b : l.B.length ≤ 1000
  c : l.C.length ≤ 1000
  r : ∀ r ∈ l.A, r.length ≤ 1000
theorem check_zero {l : Lin} (h : checkF l = 0) : l.C.length ≤ 12 ∧ l.A.length ≤ 24 ∧ l.C ≠ [] ∧ l.B.length = l.A.length ∧ AllV l.B ∧ AllV l.C ∧ RowsV l.C.length l.A := by
  unfold checkF at h
  split at h
  · cases h
  · rename_i h1
    split at h
    · cases h
    · rename_i h2
      refine ⟨by omega, by omega, fun e => h2 (.inl e), ?_, ?_, ?_, ?_⟩
      · exact Classical.byContradiction fun e => h2 (.inr (.inl e))
      · exact Classical.byContradiction fun e => h2 (.inr (.inr (.inl e)))
      · exact Classical.byContradiction fun e => h2 (.inr (.inr (.inr (.inl e))))
      · exact Classical.byContradiction fun e => h2 (.inr (.inr (.inr (.inr e))))
end Go.Proofs.YtfoipbjhaiimlaaGreatDoor


/-
  layer 30: the small functions, on both sides.
-/
namespace Go.Proofs.YtfoipbjhaiimlaaGreatDoor
open Go.RowKit
set_option linter.unusedSimpArgs false
set_option linter.unusedVariables false
set_option maxRecDepth 100000

theorem zeroP : PureOK Tryz.prog G0 64 (spec0 (Enc.enc F01)) := by
  refine pure0 (C := CE) sigCE mixCE Tryz.func64 rfl rfl rfl (by kernel_rfl) ?_
  simp [F01]
theorem zeroR : PureOK Tryz.prog G0 106 (spec0 (Enc.enc F01)) := by
  refine pure0 (C := CE) sigCE mixCE Tryz.func106 rfl rfl rfl (by kernel_rfl) ?_
  simp [F01]
def sNeg : List AV → Option (Prop × AV) := spec1 (fun (_ : Fr) => True) (fun a => Enc.enc (negF a))
theorem negP : PureOK Tryz.prog G0 65 sNeg := by
  refine pure1 (C := CE) sigCE mixCE Tryz.func65 rfl rfl rfl (by kernel_rfl) (by decide) (fun a _ => ?_)
  have e : negF a = ⟨IntKind.wrap .i64 (-a.N), a.D⟩ := rfl
  simp [e]
theorem negR : PureOK Tryz.prog G0 72 sNeg := by
  refine pure1 (C := CE) sigCE mixCE Tryz.func72 rfl rfl rfl (by kernel_rfl) (by decide) (fun a _ => ?_)
  have e : negF a = ⟨IntKind.wrap .i64 (-a.N), a.D⟩ := rfl
  simp [e]
def sAllV : List AV → Option (Prop × AV) := spec1 (fun (l : List Fr) => l.length ≤ 1000) (fun l => .bool (decide (AllV l)))
theorem allV_upto {l : List Fr} {k : Nat} (h : ∀ j, j < k → ValidF (ix l j)) (hk : l.length ≤ k) : AllV l := fun f hf => by
  obtain ⟨j, hj, rfl⟩ := List.getElem_of_mem hf
  have := h j (by omega)
  rwa [ix_lt hj] at this
noncomputable def CVa : Ctx := mkC Tryz.prog G0 [(55, .pure sValidF), (133, .pure sValidF)]
@[simp] theorem CVa_P : CVa.P = Tryz.prog := rfl
@[simp] theorem CVa_G : CVa.G = G0 := rfl
@[simp] theorem CVa_1 : CVa.S 55 = .pure sValidF := rfl
@[simp] theorem CVa_2 : CVa.S 133 = .pure sValidF := rfl
theorem mixCVa : CVa.P.follows .mixedOrders = true := mixed
theorem sigCVa : SigOK CVa := sigOK_cons (entryPure (validP) Tryz.func55 rfl (by decide)) (sigOK_cons (entryPure (validR) Tryz.func133 rfl (by decide)) (sigOK_nil _ _))
set_option maxHeartbeats 4000000 in
theorem allVP : PureOK Tryz.prog G0 98 sAllV := by
  refine pure1 (C := CVa) sigCVa mixCVa Tryz.func98 rfl rfl rfl (by kernel_rfl) (by decide) (fun l hl => ?_)
  simp
  refine loop_rule (C := CVa) sigCVa mixCVa (fun q : Nat × List Blk => ⟨[(2, .bool false), (5, Enc.enc l), (6, .int .i64 l.length), (7, .int .i64 q.1)], q.2⟩) (fun q => q.1 ≤ l.length ∧ ∀ j, j < q.1 → ValidF (ix l j)) (fun q => l.length - q.1) (by kernel_rfl) ⟨(0, []), ⟨by simp, fun j hj => by simp at hj⟩, weak_eq (by simp) rfl⟩ (fun ⟨k, Z⟩ ⟨hk, hv⟩ => ?_)
  simp only at hk hv ⊢
  by_cases hlt : k < l.length
  · have i1 : I64 ((k : Int) + 1) := by unfold I64; omega
    by_cases hV : ValidF (ix l k)
    · simp [sValidF, hlt, rowAt_enc hlt, hV, i1]
      exact ⟨k + 1, ⟨by omega, fun j hj => by
        rcases Nat.lt_or_eq_of_le (Nat.le_of_lt_succ hj) with h | h
        · exact hv j h
        · subst h; exact hV⟩, by omega, _, weak_eq (by simp) rfl⟩
    · have no : ¬ AllV l := fun h => hV (h _ (ix_mem hlt))
      simp [sValidF, hlt, rowAt_enc hlt, hV, i1, no]
  · have yes : AllV l := allV_upto hv (by omega)
    simp [hlt, yes]
set_option maxHeartbeats 4000000 in
theorem allVR : PureOK Tryz.prog G0 104 sAllV := by
  refine pure1 (C := CVa) sigCVa mixCVa Tryz.func104 rfl rfl rfl (by kernel_rfl) (by decide) (fun l hl => ?_)
  simp
  refine loop_rule (C := CVa) sigCVa mixCVa (fun q : Nat => ⟨[(0, Enc.enc l), (2, .bool false), (3, .int .i64 q)], []⟩) (fun q => q ≤ l.length ∧ ∀ j, j < q → ValidF (ix l j)) (fun q => l.length - q) (by kernel_rfl) ⟨0, ⟨by simp, fun j hj => by simp at hj⟩, weak_eq (by simp) rfl⟩ (fun k ⟨hk, hv⟩ => ?_)
  by_cases hlt : k < l.length
  · have i1 : I64 ((k : Int) + 1) := by unfold I64; omega
    by_cases hV : ValidF (ix l k)
    · simp [sValidF, hlt, rowAt_enc hlt, hV, i1]
      exact ⟨k + 1, ⟨by omega, fun j hj => by
        rcases Nat.lt_or_eq_of_le (Nat.le_of_lt_succ hj) with h | h
        · exact hv j h
        · subst h; exact hV⟩, by omega, weak_eq (by simp) rfl⟩
    · have no : ¬ AllV l := fun h => hV (h _ (ix_mem hlt))
      simp [sValidF, hlt, rowAt_enc hlt, hV, i1, no]
  · have yes : AllV l := allV_upto hv (by omega)
    simp [hlt, yes]

/-! ### Check -/
def sCheckF : List AV → Option (Prop × AV) := spec1 SmallL (fun l => .int .i64 (checkF l))
noncomputable def CCk : Ctx := mkC Tryz.prog G0 [(98, .pure sAllV), (104, .pure sAllV)]
@[simp] theorem CCk_P : CCk.P = Tryz.prog := rfl
@[simp] theorem CCk_G : CCk.G = G0 := rfl
@[simp] theorem CCk_1 : CCk.S 98 = .pure sAllV := rfl
@[simp] theorem CCk_2 : CCk.S 104 = .pure sAllV := rfl
theorem mixCCk : CCk.P.follows .mixedOrders = true := mixed
theorem sigCCk : SigOK CCk := sigOK_cons (entryPure (allVP) Tryz.func98 rfl (by decide)) (sigOK_cons (entryPure (allVR) Tryz.func104 rfl (by decide)) (sigOK_nil _ _))
theorem rows_upto {n : Nat} {l : List (List Fr)} {k : Nat} (h : ∀ j, j < k → (ix l j).length = n ∧ AllV (ix l j)) (hk : l.length ≤ k) : RowsV n l := fun f hf => by
  obtain ⟨j, hj, rfl⟩ := List.getElem_of_mem hf
  have := h j (by omega)
  rwa [ix_lt hj] at this
def CB (l : Lin) : Blk := ⟨30, 3, [[.slice 1 false (encRows l.A), .slice 2 false (encRows l.B), .slice 2 false (encRows l.C)]], true, true⟩
set_option maxHeartbeats 8000000 in
theorem checkP : PureOK Tryz.prog G0 60 sCheckF := by
  refine pure1 (C := CCk) sigCCk mixCCk Tryz.func60 rfl rfl rfl (by kernel_rfl) (by decide) (fun l hs => ?_)
  have sa := hs.a
  have sb := hs.b
  have sc := hs.c
  by_cases h1 : 12 < l.C.length
  · have h1' : (12 : Int) < l.C.length := by omega
    have e : checkF l = 4 := if_pos (.inl h1)
    simp [h1', e]
  have h1' : ¬ (12 : Int) < l.C.length := by omega
  by_cases h2 : 24 < l.A.length
  · have h2' : (24 : Int) < l.A.length := by omega
    have e : checkF l = 4 := if_pos (.inr h2)
    simp [h1', h2', e]
  have h2' : ¬ (24 : Int) < l.A.length := by omega
  have e0 : checkF l = if l.C = [] ∨ l.B.length ≠ l.A.length ∨ ¬ AllV l.B ∨ ¬ AllV l.C ∨ ¬ RowsV l.C.length l.A then 1 else 0 := if_neg (by omega)
  by_cases h3 : l.C = []
  · have e : checkF l = 1 := by rw [e0, if_pos (.inl h3)]
    simp [h1', h2', h3, e]
  by_cases h4 : l.B.length = l.A.length
  case neg =>
    have h4' : ¬ (l.B.length : Int) = l.A.length := by omega
    have e : checkF l = 1 := by rw [e0, if_pos (.inr (.inl h4))]
    simp [h1', h2', h3, h4, h4', e]
  by_cases h5 : AllV l.B
  case neg =>
    have e : checkF l = 1 := by rw [e0, if_pos (.inr (.inr (.inl h5)))]
    simp [sAllV, h1', h2', h3, h4, h5, e, sa, sb, sc]
  by_cases h6 : AllV l.C
  case neg =>
    have e : checkF l = 1 := by rw [e0, if_pos (.inr (.inr (.inr (.inl h6))))]
    simp [sAllV, h1', h2', h3, h4, h5, h6, e, sa, sb, sc]
  simp [sAllV, h1', h2', h3, h4, h5, h6, sa, sb, sc]
  refine loop_rule (C := CCk) sigCCk mixCCk (fun q : Nat => ⟨[(1, .ptr 0 1 3 0 0), (2, .int .i64 0), (41, Enc.enc l.A), (42, .int .i64 l.A.length), (43, .int .i64 q)], [CB l]⟩) (fun q => q ≤ l.A.length ∧ ∀ j, j < q → (ix l.A j).length = l.C.length ∧ AllV (ix l.A j)) (fun q => l.A.length - q) (by kernel_rfl) ⟨0, ⟨by simp, fun j hj => by simp at hj⟩, weak_eq (by simp) rfl⟩ (fun k ⟨hk, hv⟩ => ?_)
  by_cases hlt : k < l.A.length
  · have i1 : I64 ((k : Int) + 1) := by unfold I64; omega
    have sr := hs.r _ (ix_mem hlt)
    by_cases h7 : (ix l.A k).length = l.C.length
    case neg =>
      have h7' : ¬ ((ix l.A k).length : Int) = l.C.length := by omega
      have no : ¬ RowsV l.C.length l.A := fun h => h7 (h _ (ix_mem hlt)).1
      have e : checkF l = 1 := by rw [e0, if_pos (.inr (.inr (.inr (.inr no))))]
      simp [CB, hlt, rowAt_enc hlt, h7', e]
    by_cases h8 : AllV (ix l.A k)
    · simp [CB, sAllV, hlt, rowAt_enc hlt, h7, h8, sc, i1]
      exact ⟨k + 1, ⟨by omega, fun j hj => by
        rcases Nat.lt_or_eq_of_le (Nat.le_of_lt_succ hj) with h | h
        · exact hv j h
        · subst h; exact ⟨h7, h8⟩⟩, by omega, weak_eq (by simp) rfl⟩
    · have no : ¬ RowsV l.C.length l.A := fun h => h8 (h _ (ix_mem hlt)).2
      have e : checkF l = 1 := by rw [e0, if_pos (.inr (.inr (.inr (.inr no))))]
      simp [CB, sAllV, hlt, rowAt_enc hlt, h7, h8, sc, e]
  · have yes : RowsV l.C.length l.A := rows_upto hv (by omega)
    have e : checkF l = 0 := by
      rw [e0, if_neg]
      rintro (h | h | h | h | h)
      · exact h3 h
      · exact h h4
      · exact h h5
      · exact h h6
      · exact h yes
    simp [CB, hlt, e]
set_option maxHeartbeats 8000000 in
theorem checkR : PureOK Tryz.prog G0 66 sCheckF := by
  refine pure1 (C := CCk) sigCCk mixCCk Tryz.func66 rfl rfl rfl (by kernel_rfl) (by decide) (fun l hs => ?_)
  have sa := hs.a
  have sb := hs.b
  have sc := hs.c
  by_cases h1 : 12 < l.C.length
  · have h1' : (12 : Int) < l.C.length := by omega
    have e : checkF l = 4 := if_pos (.inl h1)
    simp [h1', e]
  have h1' : ¬ (12 : Int) < l.C.length := by omega
  by_cases h2 : 24 < l.A.length
  · have h2' : (24 : Int) < l.A.length := by omega
    have e : checkF l = 4 := if_pos (.inr h2)
    simp [h1', h2', e]
  have h2' : ¬ (24 : Int) < l.A.length := by omega
  have e0 : checkF l = if l.C = [] ∨ l.B.length ≠ l.A.length ∨ ¬ AllV l.B ∨ ¬ AllV l.C ∨ ¬ RowsV l.C.length l.A then 1 else 0 := if_neg (by omega)
  by_cases h3 : l.C = []
  · have e : checkF l = 1 := by rw [e0, if_pos (.inl h3)]
    simp [h1', h2', h3, e]
  by_cases h4 : l.B.length = l.A.length
  case neg =>
    have h4' : ¬ (l.B.length : Int) = l.A.length := by omega
    have e : checkF l = 1 := by rw [e0, if_pos (.inr (.inl h4))]
    simp [h1', h2', h3, h4, h4', e]
  by_cases h5 : AllV l.B
  case neg =>
    have e : checkF l = 1 := by rw [e0, if_pos (.inr (.inr (.inl h5)))]
    simp [sAllV, h1', h2', h3, h4, h5, e, sa, sb, sc]
  by_cases h6 : AllV l.C
  case neg =>
    have e : checkF l = 1 := by rw [e0, if_pos (.inr (.inr (.inr (.inl h6))))]
    simp [sAllV, h1', h2', h3, h4, h5, h6, e, sa, sb, sc]
  simp [sAllV, h1', h2', h3, h4, h5, h6, sa, sb, sc]
  refine loop_rule (C := CCk) sigCCk mixCCk (fun q : Nat => ⟨[(1, .ptr 0 1 3 0 0), (2, .int .i64 0), (3, .int .i64 q)], [CB l]⟩) (fun q => q ≤ l.A.length ∧ ∀ j, j < q → (ix l.A j).length = l.C.length ∧ AllV (ix l.A j)) (fun q => l.A.length - q) (by kernel_rfl) ⟨0, ⟨by simp, fun j hj => by simp at hj⟩, weak_eq (by simp) rfl⟩ (fun k ⟨hk, hv⟩ => ?_)
  by_cases hlt : k < l.A.length
  · have i1 : I64 ((k : Int) + 1) := by unfold I64; omega
    have sr := hs.r _ (ix_mem hlt)
    by_cases h7 : (ix l.A k).length = l.C.length
    case neg =>
      have h7' : ¬ ((ix l.A k).length : Int) = l.C.length := by omega
      have no : ¬ RowsV l.C.length l.A := fun h => h7 (h _ (ix_mem hlt)).1
      have e : checkF l = 1 := by rw [e0, if_pos (.inr (.inr (.inr (.inr no))))]
      simp [CB, hlt, rowAt_enc hlt, h7', e]
    by_cases h8 : AllV (ix l.A k)
    · simp [CB, sAllV, hlt, rowAt_enc hlt, h7, h8, sc, i1]
      exact ⟨k + 1, ⟨by omega, fun j hj => by
        rcases Nat.lt_or_eq_of_le (Nat.le_of_lt_succ hj) with h | h
        · exact hv j h
        · subst h; exact ⟨h7, h8⟩⟩, by omega, weak_eq (by simp) rfl⟩
    · have no : ¬ RowsV l.C.length l.A := fun h => h8 (h _ (ix_mem hlt)).2
      have e : checkF l = 1 := by rw [e0, if_pos (.inr (.inr (.inr (.inr no))))]
      simp [CB, sAllV, hlt, rowAt_enc hlt, h7, h8, sc, e]
  · have yes : RowsV l.C.length l.A := rows_upto hv (by omega)
    have e : checkF l = 0 := by
      rw [e0, if_neg]
      rintro (h | h | h | h | h)
      · exact h3 h
      · exact h h4
      · exact h h5
      · exact h h6
      · exact h yes
    simp [CB, hlt, e]

/-! ### The sum of products -/
def FB (s : Fr) : Blk := ⟨35, 2, [[.int .i64 s.N, .int .i64 s.D]], true, true⟩
/-! ### Value -/
noncomputable def CVl : Ctx := mkC Tryz.prog G0 [(60, .pure sCheckF), (66, .pure sCheckF), (55, .pure sValidF), (104, .pure sAllV), (152, .pure sCmpF), (118, .pure sCmpF), (65, .pure sNeg), (72, .pure sNeg)]
@[simp] theorem CVl_P : CVl.P = Tryz.prog := rfl
@[simp] theorem CVl_G : CVl.G = G0 := rfl
@[simp] theorem CVl_1 : CVl.S 60 = .pure sCheckF := rfl
@[simp] theorem CVl_2 : CVl.S 66 = .pure sCheckF := rfl
@[simp] theorem CVl_3 : CVl.S 55 = .pure sValidF := rfl
@[simp] theorem CVl_4 : CVl.S 104 = .pure sAllV := rfl
@[simp] theorem CVl_5 : CVl.S 152 = .pure sCmpF := rfl
@[simp] theorem CVl_6 : CVl.S 118 = .pure sCmpF := rfl
@[simp] theorem CVl_7 : CVl.S 65 = .pure sNeg := rfl
@[simp] theorem CVl_8 : CVl.S 72 = .pure sNeg := rfl
end Go.Proofs.YtfoipbjhaiimlaaGreatDoor


/-
  layer 30: Feasible, on both sides.
-/
namespace Go.Proofs.YtfoipbjhaiimlaaGreatDoor
open Go.RowKit
set_option linter.unusedSimpArgs false
set_option linter.unusedVariables false
set_option maxRecDepth 100000

end Go.Proofs.YtfoipbjhaiimlaaGreatDoor


/-
  layer 30: Dual, the program's side.
-/
namespace Go.Proofs.YtfoipbjhaiimlaaGreatDoor
open Go.RowKit
set_option linter.unusedSimpArgs false
set_option linter.unusedVariables false
set_option maxRecDepth 100000

def ZLB : Blk := ⟨30, 3, [[.slice 1 true [], .slice 2 true [], .slice 2 true []]], true, true⟩
def R1B (l : List (List Fr)) : Blk := ⟨28, 1, encRows l, true, true⟩
def R2B (l : List Fr) : Blk := ⟨35, 2, encRows l, true, true⟩
theorem scal22 : isScalT CVl 22 = false := by show isScalT ⟨Tryz.prog, fun _ => .no, G0⟩ 22 = false; kernel_rfl
@[simp] theorem rows_snoc_rows (l : List (List Fr)) (x : List Fr) : encRows l ++ [[.slice 2 false (encRows x)]] = encRows (l ++ [x]) := by rw [encRows_append]; rfl
end Go.Proofs.YtfoipbjhaiimlaaGreatDoor


/-
  layer 30: Dual, the reference's side.
-/
namespace Go.Proofs.YtfoipbjhaiimlaaGreatDoor
open Go.RowKit
set_option linter.unusedSimpArgs false
set_option linter.unusedVariables false
set_option maxRecDepth 100000

end Go.Proofs.YtfoipbjhaiimlaaGreatDoor


/-
  layer 30: equality of lists and programs; small inputs; the examples' parts.
-/
namespace Go.Proofs.YtfoipbjhaiimlaaGreatDoor
open Go.RowKit
set_option linter.unusedSimpArgs false
set_option linter.unusedVariables false
set_option maxRecDepth 100000

theorem fr_eq {a b : Fr} : a = b ↔ a.N = b.N ∧ a.D = b.D := by
  refine ⟨fun h => by rw [h]; exact ⟨rfl, rfl⟩, fun h => ?_⟩
  obtain ⟨n, d⟩ := a
  obtain ⟨n', d'⟩ := b
  obtain ⟨rfl, rfl⟩ := h
  rfl
theorem list_eq_upto {α : Type} [Inhabited α] {a b : List α} (hl : a.length = b.length) {k : Nat} (h : ∀ j, j < k → ix a j = ix b j) (hk : a.length ≤ k) : a = b := by
  refine List.ext_getElem hl fun j h1 h2 => ?_
  have := h j (by omega)
  rwa [ix_lt h1, ix_lt h2] at this
def sFracs : List AV → Option (Prop × AV) := spec2 (fun (a _ : List Fr) => a.length ≤ 1000) (fun a b => .bool (decide (a = b)))
def LinEq (a b : Lin) : Prop := a.A = b.A ∧ a.B = b.B ∧ a.C = b.C
instance (a b : Lin) : Decidable (LinEq a b) := inferInstanceAs (Decidable (_ ∧ _))
def sSameL : List AV → Option (Prop × AV) := spec2 (fun (a _ : Lin) => SmallL a) (fun a b => .bool (decide (LinEq a b)))
def FewL (l : Lin) : Prop := l.A.length ≤ 30 ∧ l.B.length ≤ 30 ∧ l.C.length ≤ 30 ∧ ∀ r ∈ l.A, r.length ≤ 30
instance (l : Lin) : Decidable (FewL l) := inferInstanceAs (Decidable (_ ∧ _ ∧ _ ∧ _))
end Go.Proofs.YtfoipbjhaiimlaaGreatDoor


/-
  layer 30: the tableau, in plain words, and how it lies in the call's blocks.
-/
namespace Go.Proofs.YtfoipbjhaiimlaaGreatDoor
open Go.RowKit
set_option linter.unusedSimpArgs false
set_option linter.unusedVariables false
set_option maxRecDepth 100000

structure Tab where
  n : Nat
  m : Nat
  rows : List (List Fr)
  cost : List Fr
  basis : List Int
  over : Bool
def Tab.w (t : Tab) : Nat := t.n + t.m
/-- a minus f times b; none: too great. -/
def mnO (a f b : Fr) : Option Fr := match mulO f b with
  | some p => subO a p
  | none => none
def mnP (a f b : Fr) : Fr × Bool := match mnO a f b with
  | some d => (d, false)
  | none => (F01, true)
def dvP (a p : Fr) : Fr × Bool := match divO a p with
  | some q => (q, false)
  | none => (F01, true)
/-- The first k elements new. -/
def mixF (k : Nat) (g : Nat → Fr) (row : List Fr) : List Fr := (List.range row.length).map fun j => if j < k then g j else ix row j
def anyK (k : Nat) (g : Nat → Bool) : Bool := (List.range k).any g
theorem anyK_succ (k : Nat) (g : Nat → Bool) : anyK (k + 1) g = (anyK k g || g k) := by unfold anyK; rw [List.range_succ, List.any_append]; simp
theorem anyK_zero (g : Nat → Bool) : anyK 0 g = false := rfl
theorem mixF_len (k : Nat) (g : Nat → Fr) (row : List Fr) : (mixF k g row).length = row.length := by unfold mixF; simp
theorem mixF_ix {k j : Nat} {g : Nat → Fr} {row : List Fr} (h : j < row.length) : ix (mixF k g row) j = if j < k then g j else ix row j := by
  rw [ix_lt (by rw [mixF_len]; exact h)]
  unfold mixF
  rw [List.getElem_map, List.getElem_range]
theorem mixF_zero (g : Nat → Fr) (row : List Fr) : mixF 0 g row = row := by
  refine List.ext_getElem (mixF_len _ _ _) fun j h1 h2 => ?_
  have := mixF_ix (k := 0) (g := g) h2
  rw [ix_lt h1, if_neg (Nat.not_lt_zero j), ix_lt h2] at this
  exact this
theorem mixF_set {k : Nat} {g : Nat → Fr} {row : List Fr} {v : Fr} (hv : v = g k) (h : k < row.length) : (mixF k g row).set k v = mixF (k + 1) g row := by
  refine List.ext_getElem (by rw [List.length_set, mixF_len, mixF_len]) fun j h1 h2 => ?_
  rw [mixF_len] at h2
  have e1 := mixF_ix (k := k) (g := g) h2
  have e2 := mixF_ix (k := k + 1) (g := g) h2
  rw [ix_lt (by rw [mixF_len]; exact h2)] at e1 e2
  rw [List.getElem_set, e1, e2]
  by_cases hjk : k = j
  · subst hjk
    rw [if_pos rfl, if_pos (Nat.lt_succ_self k)]
    exact hv
  · rw [if_neg hjk]
    by_cases hj : j < k
    · rw [if_pos hj, if_pos (by omega)]
    · rw [if_neg hj, if_neg (by omega)]
/-! ### Where it lies -/
structure Lay where
  p : Nat
  q : Nat
  c : Option Nat
  r : List Nat
def cC (c : Option Nat) (n : Nat) : AV := match c with
  | none => .slice 2 true []
  | some c => .own c n
def setC (c : Option Nat) (b : List Fr) (H : List Blk) : List Blk := match c with
  | none => H
  | some c => H.set c (R2B b)
def tC (L : Lay) (t : Tab) : List AV := [.int .i64 t.n, .int .i64 t.m, .own L.q L.r.length, cC L.c t.cost.length] ++ t.basis.map (.int .i64 ·) ++ [.bool t.over]
def tB (L : Lay) (t : Tab) : Blk := ⟨118, 29, [tC L t], true, false⟩
def qB (L : Lay) (N : Nat) : Blk := ⟨28, 1, L.r.map fun l => [.own l N], true, false⟩
def setR : List Nat → List (List Fr) → List Blk → List Blk
  | l :: ls, r :: rs, H => (setR ls rs H).set l (R2B r)
  | _, _, H => H
def putT (L : Lay) (t : Tab) (K : List Blk) : List Blk := setR L.r t.rows (setC L.c t.cost ((K.set L.p (tB L t)).set L.q (qB L (t.w + 1))))
structure Lens (L : Lay) (K : List Blk) : Prop where
  p : L.p < K.length
  q : L.q < K.length
  c : ∀ c, L.c = some c → c < K.length
  r : ∀ l ∈ L.r, l < K.length
  pq : L.p ≠ L.q
  pc : L.c ≠ some L.p
  qc : L.c ≠ some L.q
  pr : L.p ∉ L.r
  qr : L.q ∉ L.r
  cr : ∀ c, L.c = some c → c ∉ L.r
  nd : L.r.Nodup
  cl : ∀ b ∈ K, b.deep = true ∨ ∀ r ∈ b.rows, ∀ c ∈ r, c.cleanF K.length = true
structure Shape (L : Lay) (t : Tab) : Prop where
  m : t.rows.length = t.m
  r : L.r.length = t.m
  n1 : 1 ≤ t.n
  n12 : t.n ≤ 12
  m24 : t.m ≤ 24
  row : ∀ r ∈ t.rows, r.length = t.w + 1
  cost : (L.c = none ∧ t.cost = []) ∨ ((∃ c, L.c = some c) ∧ t.cost.length = t.w + 1)
  bas : t.basis.length = 24
  b64 : ∀ b ∈ t.basis, 0 ≤ b ∧ b ≤ 1000
/-- The same while the rows are laid. -/
structure Shape0 (L : Lay) (t : Tab) : Prop where
  m : t.rows.length = L.r.length
  r : L.r.length ≤ t.m
  n1 : 1 ≤ t.n
  n12 : t.n ≤ 12
  m24 : t.m ≤ 24
  row : ∀ r ∈ t.rows, r.length = t.w + 1
  cost : (L.c = none ∧ t.cost = []) ∨ ((∃ c, L.c = some c) ∧ t.cost.length = t.w + 1)
  bas : t.basis.length = 24
  b64 : ∀ b ∈ t.basis, 0 ≤ b ∧ b ≤ 1000
theorem Shape.to0 {L : Lay} {t : Tab} (s : Shape L t) : Shape0 L t := ⟨by rw [s.m, s.r], by rw [s.r]; exact Nat.le_refl _, s.n1, s.n12, s.m24, s.row, s.cost, s.bas, s.b64⟩
theorem Shape0.full {L : Lay} {t : Tab} (s : Shape0 L t) (h : L.r.length = t.m) : Shape L t := ⟨by rw [s.m, h], h, s.n1, s.n12, s.m24, s.row, s.cost, s.bas, s.b64⟩
theorem setR_len : ∀ (ls : List Nat) (rs : List (List Fr)) (H : List Blk), (setR ls rs H).length = H.length
  | [], _, _ => rfl
  | _ :: _, [], _ => rfl
  | l :: ls, r :: rs, H => by rw [setR, List.length_set, setR_len]
theorem setR_out : ∀ {ls : List Nat} {rs : List (List Fr)} {H : List Blk} {k : Nat}, k ∉ ls → (setR ls rs H)[k]? = H[k]?
  | [], _, _, _, _ => rfl
  | _ :: _, [], _, _, _ => rfl
  | l :: ls, r :: rs, H, k, h => by
    rw [setR, List.getElem?_set_ne (fun e => h (by rw [← e]; exact List.mem_cons_self)), setR_out (fun e => h (List.mem_cons_of_mem _ e))]
theorem setR_in : ∀ {ls : List Nat} {rs : List (List Fr)} {H : List Blk} {i : Nat}, ls.Nodup → ls.length = rs.length → (∀ l ∈ ls, l < H.length) → i < ls.length → (setR ls rs H)[ix ls i]? = some (R2B (ix rs i))
  | [], _, _, _, _, _, _, h => by simp at h
  | _ :: _, [], _, _, _, h, _, _ => by simp at h
  | l :: ls, r :: rs, H, 0, hn, hl, hb, hi => by
    show (setR (l :: ls) (r :: rs) H)[l]? = some (R2B r)
    rw [setR, List.getElem?_set_self (by rw [setR_len]; exact hb l List.mem_cons_self)]
  | l :: ls, r :: rs, H, i + 1, hn, hl, hb, hi => by
    have hi' : i < ls.length := by simpa using hi
    have e1 : ix (l :: ls) (i + 1) = ix ls i := rfl
    have e2 : ix (r :: rs) (i + 1) = ix rs i := rfl
    rw [e1, e2, setR, List.getElem?_set_ne (fun e => (List.nodup_cons.1 hn).1 (by rw [e]; exact ix_mem hi'))]
    exact setR_in (List.nodup_cons.1 hn).2 (by simpa using hl) (fun l hl => hb l (List.mem_cons_of_mem _ hl)) hi'
theorem setR_app : ∀ {ls : List Nat} {rs : List (List Fr)} {H X : List Blk}, (∀ l ∈ ls, l < H.length) → setR ls rs (H ++ X) = setR ls rs H ++ X
  | [], _, _, _, _ => rfl
  | _ :: _, [], _, _, _ => rfl
  | l :: ls, r :: rs, H, X, h => by
    rw [setR, setR_app (fun l hl => h l (List.mem_cons_of_mem _ hl)), List.set_append_left _ _ (by rw [setR_len]; exact h l List.mem_cons_self), setR]
theorem setR_comm : ∀ {ls : List Nat} {rs : List (List Fr)} {H : List Blk} {k : Nat} {b : Blk}, k ∉ ls → setR ls rs (H.set k b) = (setR ls rs H).set k b
  | [], _, _, _, _, _ => rfl
  | _ :: _, [], _, _, _, _ => rfl
  | l :: ls, r :: rs, H, k, b, h => by
    rw [setR, setR, setR_comm (fun e => h (List.mem_cons_of_mem _ e)), List.set_comm _ _ (fun e => h (by rw [e]; exact List.mem_cons_self))]
theorem setR_set : ∀ {ls : List Nat} {rs : List (List Fr)} {H : List Blk} {i : Nat} {x : List Fr}, ls.Nodup → ls.length = rs.length → i < ls.length → (setR ls rs H).set (ix ls i) (R2B x) = setR ls (rs.set i x) H
  | [], _, _, _, _, _, _, h => by simp at h
  | _ :: _, [], _, _, _, _, h, _ => by simp at h
  | l :: ls, r :: rs, H, 0, x, hn, hl, hi => by
    show (setR (l :: ls) (r :: rs) H).set l (R2B x) = setR (l :: ls) (x :: rs) H
    rw [setR, setR, List.set_set]
  | l :: ls, r :: rs, H, i + 1, x, hn, hl, hi => by
    have hi' : i < ls.length := by simpa using hi
    have e1 : ix (l :: ls) (i + 1) = ix ls i := rfl
    rw [e1, List.set_cons_succ, setR, setR, List.set_comm _ _ (fun e => (List.nodup_cons.1 hn).1 (by rw [e]; exact ix_mem hi')), setR_set (List.nodup_cons.1 hn).2 (by simpa using hl) hi']
theorem setR_twice : ∀ {ls : List Nat} {rs rs' : List (List Fr)} {H : List Blk}, ls.Nodup → rs.length = ls.length → rs'.length = ls.length → setR ls rs (setR ls rs' H) = setR ls rs H
  | [], _, _, _, _, _, _ => rfl
  | l :: ls, [], _, _, _, h, _ => by simp at h
  | l :: ls, r :: rs, [], _, _, _, h => by simp at h
  | l :: ls, r :: rs, r' :: rs', H, hn, h1, h2 => by
    rw [setR, setR, setR, setR_comm (List.nodup_cons.1 hn).1, setR_twice (List.nodup_cons.1 hn).2 (by simpa using h1) (by simpa using h2), List.set_set]

theorem setC_len (c : Option Nat) (b : List Fr) (H : List Blk) : (setC c b H).length = H.length := by cases c <;> simp [setC]
theorem setC_out {c : Option Nat} {b : List Fr} {H : List Blk} {k : Nat} (h : c ≠ some k) : (setC c b H)[k]? = H[k]? := by
  cases c with
  | none => rfl
  | some c => exact List.getElem?_set_ne (fun e => h (by rw [e]))
theorem setC_comm {c : Option Nat} {b : List Fr} {H : List Blk} {k : Nat} (h : c ≠ some k) (x : Blk) : setC c b (H.set k x) = (setC c b H).set k x := by
  cases c with
  | none => rfl
  | some c => exact List.set_comm _ _ (fun e => h (by rw [e]))
theorem setC_twice (c : Option Nat) (b b' : List Fr) (H : List Blk) : setC c b (setC c b' H) = setC c b H := by
  cases c with
  | none => rfl
  | some c => exact List.set_set ..
theorem setC_app {c : Option Nat} {b : List Fr} {H X : List Blk} (h : ∀ k, c = some k → k < H.length) : setC c b (H ++ X) = setC c b H ++ X := by
  cases c with
  | none => rfl
  | some c => exact List.set_append_left _ _ (h c rfl)
theorem setC_mem {c : Option Nat} {b : List Fr} {H : List Blk} {x : Blk} (h : x ∈ setC c b H) : x ∈ H ∨ x.deep = true := by
  cases c with
  | none => exact .inl h
  | some c => exact (List.mem_or_eq_of_mem_set h).imp id (fun e => by rw [e]; rfl)
theorem setR_setC : ∀ {ls : List Nat} {rs : List (List Fr)} {H : List Blk} {c : Option Nat} {b : List Fr}, (∀ k, c = some k → k ∉ ls) → setR ls rs (setC c b H) = setC c b (setR ls rs H)
  | ls, rs, H, none, b, h => rfl
  | ls, rs, H, some c, b, h => setR_comm (h c rfl)

section
variable {L : Lay} {K X : List Blk} {t t' : Tab}
theorem put_len (L : Lay) (t : Tab) (K : List Blk) : (putT L t K).length = K.length := by unfold putT; rw [setR_len, setC_len, List.length_set, List.length_set]
theorem put_p (h : Lens L K) (t : Tab) : (putT L t K)[L.p]? = some (tB L t) := by
  unfold putT
  rw [setR_out h.pr, setC_out h.pc, List.getElem?_set_ne h.pq.symm, List.getElem?_set_self h.p]
theorem put_q (h : Lens L K) (t : Tab) : (putT L t K)[L.q]? = some (qB L (t.w + 1)) := by
  unfold putT
  rw [setR_out h.qr, setC_out h.qc, List.getElem?_set_self (by rw [List.length_set]; exact h.q)]
theorem put_c (h : Lens L K) (t : Tab) {c : Nat} (hc : L.c = some c) : (putT L t K)[c]? = some (R2B t.cost) := by
  unfold putT
  rw [setR_out (h.cr c hc), hc]
  exact List.getElem?_set_self (by rw [List.length_set, List.length_set]; exact h.c c hc)
theorem put_r (h : Lens L K) (s : L.r.length = t.rows.length) {i : Nat} (hi : i < L.r.length) : (putT L t K)[ix L.r i]? = some (R2B (ix t.rows i)) := by
  unfold putT
  exact setR_in h.nd s (fun l hl => by rw [setC_len, List.length_set, List.length_set]; exact h.r l hl) hi
theorem put_set_p (h : Lens L K) (hr : t'.rows = t.rows) (hc : t'.cost = t.cost) (hw : t'.w = t.w) : (putT L t K).set L.p (tB L t') = putT L t' K := by
  unfold putT
  rw [← setR_comm h.pr, ← setC_comm h.pc, List.set_comm _ _ h.pq.symm, List.set_set, hr, hc, hw]
theorem put_set_r (h : Lens L K) (s : L.r.length = t.rows.length) {i : Nat} (hi : i < L.r.length) (x : List Fr) : (putT L t K).set (ix L.r i) (R2B x) = putT L { t with rows := t.rows.set i x } K := by
  unfold putT
  rw [setR_set h.nd s hi]
  rfl
theorem put_set_c (h : Lens L K) {c : Nat} (hc : L.c = some c) (x : List Fr) (hx : x.length = t.cost.length) : (putT L t K).set c (R2B x) = putT L { t with cost := x } K := by
  have this : tB L { t with cost := x } = tB L t := by unfold tB tC; simp [hx]
  unfold putT
  rw [← setR_comm (h.cr c hc), this, hc]
  show setR _ _ (List.set (List.set _ _ _) _ _) = _
  rw [List.set_set]
  rfl
theorem put_app (h : Lens L K) (t : Tab) (X : List Blk) : putT L t (K ++ X) = putT L t K ++ X := by
  unfold putT
  rw [List.set_append_left _ _ h.p, List.set_append_left _ _ (by rw [List.length_set]; exact h.q), setC_app (fun c hc => by rw [List.length_set, List.length_set]; exact h.c c hc), setR_app (fun l hl => by rw [setC_len, List.length_set, List.length_set]; exact h.r l hl)]
theorem put_put (h : Lens L K) (s : t.rows.length = L.r.length) (s' : t'.rows.length = L.r.length) : putT L t (putT L t' K) = putT L t K := by
  unfold putT
  rw [← setR_comm h.pr, ← setR_comm h.qr, ← setR_setC h.cr, setR_twice h.nd s s']
  congr 1
  rw [← setC_comm h.pc, ← setC_comm h.qc, setC_twice, List.set_comm _ _ h.pq.symm, List.set_set, List.set_set]
theorem setR_mem : ∀ {ls : List Nat} {rs : List (List Fr)} {H : List Blk} {b : Blk}, b ∈ setR ls rs H → b ∈ H ∨ b.deep = true
  | [], _, _, _, h => .inl h
  | _ :: _, [], _, _, h => .inl h
  | l :: ls, r :: rs, H, b, h => by
    rw [setR] at h
    rcases List.mem_or_eq_of_mem_set h with h | h
    · exact setR_mem h
    · rw [h]; exact .inr rfl
theorem put_clean (h : Lens L K) (t : Tab) : ∀ b ∈ putT L t K, b.deep = true ∨ ∀ r ∈ b.rows, ∀ c ∈ r, c.cleanF K.length = true := by
  intro b hb
  unfold putT at hb
  rcases setR_mem hb with hb | hb
  case inr => exact .inl hb
  rcases setC_mem hb with hb | hb
  case inr => exact .inl hb
  rcases List.mem_or_eq_of_mem_set hb with hb | hb
  case inr =>
    rw [hb]
    refine .inr fun r hr c hc => ?_
    simp only [qB] at hr
    obtain ⟨l, hl, rfl⟩ := List.mem_map.1 hr
    rw [List.mem_singleton] at hc
    subst hc
    have := h.r l hl
    simp [AV.cleanF, AV.clean2, AV.clean1, this]
  rcases List.mem_or_eq_of_mem_set hb with hb | hb
  case inr =>
    rw [hb]
    refine .inr fun r hr c hc => ?_
    simp only [tB, List.mem_singleton] at hr
    subst hr
    have hq := h.q
    have hcc := h.c
    unfold tC at hc
    simp only [List.mem_append, List.mem_cons, List.not_mem_nil, or_false, List.mem_map] at hc
    rcases hc with (((rfl | rfl | rfl | rfl) | ⟨b, _, rfl⟩) | rfl)
    case inl.inl.inr.inr.inr =>
      cases hcL : L.c with
      | none => simp [cC, AV.cleanF, AV.clean2, AV.clean1]
      | some c => simp [cC, AV.cleanF, AV.clean2, AV.clean1, hcc c hcL]
    all_goals simp [AV.cleanF, AV.clean2, AV.clean1, hq]
  exact h.cl b hb
end

/-! ### Contracts that change such a tableau -/
open Classical in
/-- Whatever fits: args, blocks; then a result and blocks. -/
noncomputable def anyG {Γ : Type} (a : Γ → List AV) (h : Γ → List Blk) (pre : Γ → Prop) (res : Γ → AV) (h' : Γ → List Blk) : List AV → List Blk → Option (Prop × AV × List Blk) := fun args H =>
  if hx : ∃ γ, pre γ ∧ a γ = args ∧ h γ = H then some (True, res hx.choose, h' hx.choose) else none
theorem anyG_at {Γ : Type} {a : Γ → List AV} {h : Γ → List Blk} {pre : Γ → Prop} {res : Γ → AV} {h' : Γ → List Blk} (inj : ∀ γ γ', pre γ → pre γ' → a γ = a γ' → h γ = h γ' → res γ = res γ' ∧ h' γ = h' γ') {γ : Γ} (hp : pre γ) : anyG a h pre res h' (a γ) (h γ) = some (True, res γ, h' γ) := by
  have hx : ∃ δ, pre δ ∧ a δ = a γ ∧ h δ = h γ := ⟨γ, hp, rfl, rfl⟩
  unfold anyG
  rw [dif_pos hx]
  obtain ⟨h1, h2, h3⟩ := hx.choose_spec
  obtain ⟨e1, e2⟩ := inj _ _ h1 hp h2 h3
  rw [e1, e2]
theorem anyG_inv {Γ : Type} {a : Γ → List AV} {h : Γ → List Blk} {pre : Γ → Prop} {res : Γ → AV} {h' : Γ → List Blk} {args : List AV} {H : List Blk} {ob : Prop} {r : AV} {H' : List Blk} (e : anyG a h pre res h' args H = some (ob, r, H')) : ∃ γ, pre γ ∧ a γ = args ∧ h γ = H ∧ res γ = r ∧ h' γ = H' := by
  unfold anyG at e
  split at e
  · rename_i hx
    injection e with e; injection e with e1 e2; injection e2 with e2 e3
    obtain ⟨h1, h2, h3⟩ := hx.choose_spec
    exact ⟨_, h1, h2, h3, e2, e3⟩
  · cases e
theorem encFr_inj {a b : List Fr} (h : R2B a = R2B b) : a = b := by
  unfold R2B at h
  injection h with h1 h2 h3
  have := congrArg (fun l => l.map (Enc.unc : List AV → Fr)) h3
  simpa [map_unc] using this
/-- What lies there, and where, can be read off. -/
theorem put_inj0 {L L' : Lay} {t t' : Tab} {K K' : List Blk} (h : Lens L K) (h' : Lens L' K') (s : Shape0 L t) (s' : Shape0 L' t') (hp : L.p = L'.p) (e : putT L t K = putT L' t' K') : L = L' ∧ t = t' ∧ ∀ u : Tab, u.rows.length = L.r.length → putT L u K = putT L' u K' := by
  have e1 := put_p h t
  rw [e, hp, put_p h' t'] at e1
  injection e1 with e1
  have e2 : tC L' t' = tC L t := by unfold tB at e1; injection e1 with _ _ e1; simpa using e1
  have hb : t'.basis.length = t.basis.length := by rw [s.bas, s'.bas]
  unfold tC at e2
  simp only [List.cons_append, List.nil_append, List.cons.injEq, AV.int.injEq, AV.own.injEq, true_and] at e2
  obtain ⟨f1, f2, ⟨f3, f4⟩, f56, f7⟩ := e2
  have f5 : L'.c = L.c := by
    cases h1 : L.c with
    | none =>
      cases h2 : L'.c with
      | none => rfl
      | some c => rw [h1, h2] at f56; cases f56
    | some c =>
      cases h2 : L'.c with
      | none => rw [h1, h2] at f56; cases f56
      | some c' => rw [h1, h2] at f56; injection f56 with f56; rw [f56]
  have f8 := List.append_inj f7 (by simp [hb])
  have f9 : t'.basis = t.basis := by
    have := f8.1
    refine List.ext_getElem hb fun j h1 h2 => ?_
    have := congrArg (fun l : List AV => l[j]?) this
    simp [h1, h2] at this
    exact this
  have f10 : t'.over = t.over := by simpa using f8.2
  have n1 : t'.n = t.n := by omega
  have n2 : t'.m = t.m := by omega
  have hw : t'.w = t.w := by unfold Tab.w; rw [n1, n2]
  have e3 := put_q h t
  rw [e, ← f3, put_q h' t'] at e3
  injection e3 with e3
  have f11 : L'.r = L.r := by
    unfold qB at e3
    injection e3 with _ _ e3
    refine List.ext_getElem f4 fun j h1 h2 => ?_
    have := congrArg (fun l : List (List AV) => l[j]?) e3
    simp [h1, h2] at this
    exact this.1
  have f12 : t'.cost = t.cost := by
    rcases s.cost with ⟨h1, h2⟩ | ⟨⟨c, h1⟩, h2⟩
    · rcases s'.cost with ⟨h3, h4⟩ | ⟨⟨c', h3⟩, h4⟩
      · rw [h2, h4]
      · rw [f5, h1] at h3; cases h3
    · have e4 := put_c h t h1
      rw [e, put_c h' t' (f5.trans h1)] at e4
      injection e4 with e4
      exact encFr_inj e4
  have f13 : t'.rows = t.rows := by
    refine List.ext_getElem (by rw [s.m, s'.m, f11]) fun j h1 h2 => ?_
    have hj : j < L.r.length := by rw [← s.m]; exact h2
    have e5 := put_r h s.m.symm hj
    rw [e, ← f11, put_r h' s'.m.symm (by rw [f11]; exact hj)] at e5
    injection e5 with e5
    have := encFr_inj e5
    rwa [ix_lt h1, ix_lt h2] at this
  have eL : L = L' := by
    obtain ⟨p, q, c, r⟩ := L
    obtain ⟨p', q', c', r'⟩ := L'
    simp only at hp f3 f5 f11
    subst hp f3 f5 f11
    rfl
  have et : t = t' := by
    obtain ⟨n, m, rows, cost, basis, over⟩ := t
    obtain ⟨n', m', rows', cost', basis', over'⟩ := t'
    simp only at n1 n2 f13 f12 f9 f10
    subst n1 n2 f13 f12 f9 f10
    rfl
  refine ⟨eL, et, fun u hu => ?_⟩
  subst eL et
  have hr : t.rows.length = L.r.length := s.m
  rw [← put_put h hu hr, e, put_put h' hu hr]
theorem put_inj {L L' : Lay} {t t' : Tab} {K K' : List Blk} (h : Lens L K) (h' : Lens L' K') (s : Shape L t) (s' : Shape L' t') (hp : L.p = L'.p) (e : putT L t K = putT L' t' K') : L = L' ∧ t = t' ∧ ∀ u : Tab, u.rows.length = L.r.length → putT L u K = putT L' u K' := put_inj0 h h' s.to0 s'.to0 hp e
end Go.Proofs.YtfoipbjhaiimlaaGreatDoor


/-
  layer 30: the tableau's small methods, the program's side.
-/
namespace Go.Proofs.YtfoipbjhaiimlaaGreatDoor
open Go.RowKit
set_option linter.unusedSimpArgs false
set_option linter.unusedVariables false
set_option maxRecDepth 100000

section
variable {L : Lay} {K : List Blk} {t : Tab}
theorem ptake {α : Type} {l : List α} {n : Nat} (h : l.length = n) (X : List α) (j : Nat) : (l ++ X)[n + j]? = X[j]? := by rw [List.getElem?_append_right (by omega), h, Nat.add_sub_cancel_left]
/-- What can be read of a tableau and of the locals behind it. -/
structure GetT (L : Lay) (t : Tab) (K : List Blk) : Prop where
  p : ∀ X, (putT L t K ++ X)[L.p]? = some ⟨118, 29, [tC L t], true, false⟩
  q : ∀ X, (putT L t K ++ X)[L.q]? = some ⟨28, 1, L.r.map fun l => [.own l (t.w + 1)], true, false⟩
  c : ∀ X c, L.c = some c → (putT L t K ++ X)[c]? = some ⟨35, 2, encRows t.cost, true, true⟩
  r : ∀ X i, i < t.m → (putT L t K ++ X)[ix L.r i]? = some ⟨35, 2, encRows (ix t.rows i), true, true⟩
  l0 : ∀ X, (putT L t K ++ X)[K.length]? = X[0]?
  l : ∀ X j, (putT L t K ++ X)[K.length + j]? = X[j]?
  sl0 : ∀ X b, (putT L t K ++ X).set K.length b = putT L t K ++ X.set 0 b
  sl : ∀ X j b, (putT L t K ++ X).set (K.length + j) b = putT L t K ++ X.set j b
  sp : ∀ X t', t'.rows = t.rows → t'.cost = t.cost → t'.w = t.w → (putT L t K ++ X).set L.p ⟨118, 29, [tC L t'], true, false⟩ = putT L t' K ++ X
  sc : ∀ X c x, L.c = some c → x.length = t.cost.length → (putT L t K ++ X).set c ⟨35, 2, encRows x, true, true⟩ = putT L { t with cost := x } K ++ X
  sr : ∀ X i x, i < t.m → (putT L t K ++ X).set (ix L.r i) ⟨35, 2, encRows x, true, true⟩ = putT L { t with rows := t.rows.set i x } K ++ X
theorem getT (h : Lens L K) (s : Shape L t) : GetT L t K where
  p X := by rw [List.getElem?_append_left (by rw [put_len]; exact h.p)]; exact put_p h t
  q X := by rw [List.getElem?_append_left (by rw [put_len]; exact h.q)]; exact put_q h t
  c X c hc := by rw [List.getElem?_append_left (by rw [put_len]; exact h.c c hc)]; exact put_c h t hc
  r X i hi := by
    have hi' : i < L.r.length := by rw [s.r]; exact hi
    rw [List.getElem?_append_left (by rw [put_len]; exact h.r _ (ix_mem hi'))]; exact put_r h (by rw [s.r, s.m]) hi'
  l0 X := by have := ptake (put_len L t K) X 0; simpa using this
  l X j := ptake (put_len L t K) X j
  sl0 X b := by rw [List.set_append_right _ _ (by rw [put_len]; omega), put_len, Nat.sub_self]
  sl X j b := by rw [List.set_append_right _ _ (by rw [put_len]; omega), put_len, Nat.add_sub_cancel_left]
  sp X t' h1 h2 h3 := by rw [List.set_append_left _ _ (by rw [put_len]; exact h.p)]; congr 1; exact put_set_p h h1 h2 h3
  sc X c x hc hx := by rw [List.set_append_left _ _ (by rw [put_len]; exact h.c c hc)]; congr 1; exact put_set_c h hc x hx
  sr X i x hi := by
    have hi' : i < L.r.length := by rw [s.r]; exact hi
    rw [List.set_append_left _ _ (by rw [put_len]; exact h.r _ (ix_mem hi'))]; congr 1; exact put_set_r h (by rw [s.r, s.m]) hi' x
/-- The same while the rows are laid. -/
structure Get0 (L : Lay) (t : Tab) (K : List Blk) : Prop where
  p : ∀ X, (putT L t K ++ X)[L.p]? = some ⟨118, 29, [tC L t], true, false⟩
  q : ∀ X, (putT L t K ++ X)[L.q]? = some ⟨28, 1, L.r.map fun l => [.own l (t.w + 1)], true, false⟩
  l0 : ∀ X, (putT L t K ++ X)[K.length]? = X[0]?
  l : ∀ X j, (putT L t K ++ X)[K.length + j]? = X[j]?
  sl0 : ∀ X b, (putT L t K ++ X).set K.length b = putT L t K ++ X.set 0 b
  sl : ∀ X j b, (putT L t K ++ X).set (K.length + j) b = putT L t K ++ X.set j b
  sp : ∀ X t', t'.rows = t.rows → t'.cost = t.cost → t'.w = t.w → (putT L t K ++ X).set L.p ⟨118, 29, [tC L t'], true, false⟩ = putT L t' K ++ X
theorem get0 (h : Lens L K) : Get0 L t K where
  p X := by rw [List.getElem?_append_left (by rw [put_len]; exact h.p)]; exact put_p h t
  q X := by rw [List.getElem?_append_left (by rw [put_len]; exact h.q)]; exact put_q h t
  l0 X := by have := ptake (put_len L t K) X 0; simpa using this
  l X j := ptake (put_len L t K) X j
  sl0 X b := by rw [List.set_append_right _ _ (by rw [put_len]; omega), put_len, Nat.sub_self]
  sl X j b := by rw [List.set_append_right _ _ (by rw [put_len]; omega), put_len, Nat.add_sub_cancel_left]
  sp X t' h1 h2 h3 := by rw [List.set_append_left _ _ (by rw [put_len]; exact h.p)]; congr 1; exact put_set_p h h1 h2 h3
theorem tC_len (s : t.basis.length = 24) : (tC L t).length = 29 := by unfold tC; simp [s]
theorem tC_28 (s : t.basis.length = 24) : (tC L t)[28]? = some (.bool t.over) := by
  unfold tC
  rw [List.getElem?_append_right (by simp [s])]
  simp [s]
theorem tC_b (s : t.basis.length = 24) {i : Nat} (h : i < 24) : (tC L t)[4 + i]? = some (.int .i64 (ix t.basis i)) := by
  unfold tC
  rw [List.getElem?_append_left (by simp [s]; omega), List.getElem?_append_right (by simp), ix_lt (by omega)]
  simp [s, h]
theorem tC_so (s : t.basis.length = 24) (b : Bool) : List.take 28 (tC L t) ++ AV.bool b :: List.drop 29 (tC L t) = tC L { t with over := b } := by
  rw [List.drop_eq_nil_of_le (by rw [tC_len s]; omega)]
  unfold tC
  rw [List.take_append_of_le_length (by simp [s])]
  rw [List.take_of_length_le (by simp [s])]
theorem tC_sb (s : t.basis.length = 24) {i : Nat} (h : i < 24) (b : Int) : List.take (4 + i) (tC L t) ++ AV.int .i64 b :: List.drop (4 + i + 1) (tC L t) = tC L { t with basis := t.basis.set i b } := by
  have h1 : List.take (4 + i) (tC L t) ++ AV.int .i64 b :: List.drop (4 + i + 1) (tC L t) = (tC L t).set (4 + i) (.int .i64 b) := by
    rw [List.set_eq_take_append_cons_drop, if_pos (by rw [tC_len s]; omega)]
  rw [h1]
  unfold tC
  rw [List.set_append_left _ _ (by simp [s]; omega), List.set_append_right _ _ (by simp)]
  simp [List.map_set]
end
end Go.Proofs.YtfoipbjhaiimlaaGreatDoor


/-
  layer 30: a minus f times b; a row of zeros; whether a variable is artificial.
-/
namespace Go.Proofs.YtfoipbjhaiimlaaGreatDoor
open Go.RowKit
set_option linter.unusedSimpArgs false
set_option linter.unusedVariables false
set_option maxRecDepth 100000

theorem cells_inj {a b : Fr} (h : (Enc.enc a : AV) = Enc.enc b) : a = b := by
  have := congrArg (Enc.dec : AV → Fr) h
  simpa [Enc.dec_enc] using this
abbrev TKx (α : Type) := Lay × Tab × List Blk × α
def preT {α : Type} (p : Lay → Tab → α → Prop) : TKx α → Prop := fun γ => Lens γ.1 γ.2.2.1 ∧ Shape γ.1 γ.2.1 ∧ p γ.1 γ.2.1 γ.2.2.2
def blkT {α : Type} : TKx α → List Blk := fun γ => putT γ.1 γ.2.1 γ.2.2.1
/-- Such a contract: the arguments a tableau and what x says; the result; the new tableau. -/
noncomputable def tabG {α : Type} (a : Lay → Tab → α → List AV) (p : Lay → Tab → α → Prop) (res : Tab → α → AV) (nw : Tab → α → Tab) : List AV → List Blk → Option (Prop × AV × List Blk) :=
  anyG (fun γ : TKx α => .ptr γ.1.p 1 29 0 0 :: a γ.1 γ.2.1 γ.2.2.2) blkT (preT p) (fun γ => res γ.2.1 γ.2.2.2) (fun γ => putT γ.1 (nw γ.2.1 γ.2.2.2) γ.2.2.1)
structure TabOK {α : Type} (a : Lay → Tab → α → List AV) (p : Lay → Tab → α → Prop) (nw : Tab → α → Tab) : Prop where
  inj : ∀ {L t K x x'}, Lens L K → Shape L t → p L t x → p L t x' → a L t x = a L t x' → x = x'
  rows : ∀ {L t x}, Shape L t → p L t x → (nw t x).rows.length = t.m
theorem tabG_at {α : Type} {a : Lay → Tab → α → List AV} {p : Lay → Tab → α → Prop} {res : Tab → α → AV} {nw : Tab → α → Tab} (ok : TabOK a p nw) {L : Lay} {t : Tab} {K : List Blk} {x : α} (h : Lens L K) (s : Shape L t) (hp : p L t x) :
    tabG a p res nw (.ptr L.p 1 29 0 0 :: a L t x) (putT L t K) = some (True, res t x, putT L (nw t x) K) := by
  refine anyG_at (a := fun γ : TKx α => .ptr γ.1.p 1 29 0 0 :: a γ.1 γ.2.1 γ.2.2.2) (h := blkT) (pre := preT p) (res := fun γ => res γ.2.1 γ.2.2.2) (h' := fun γ => putT γ.1 (nw γ.2.1 γ.2.2.2) γ.2.2.1) ?_ (γ := (L, t, K, x)) ⟨h, s, hp⟩
  rintro ⟨L1, t1, K1, x1⟩ ⟨L2, t2, K2, x2⟩ ⟨h1, s1, p1⟩ ⟨h2, s2, p2⟩ ea eh
  simp only [List.cons.injEq, AV.ptr.injEq, and_true] at ea
  obtain ⟨e1, e2, e3⟩ := put_inj h1 h2 s1 s2 ea.1 eh
  simp only at e1 e2
  subst e1 e2
  have ex := ok.inj h1 s1 p1 p2 ea.2
  simp only at ex
  subst ex
  exact ⟨rfl, e3 _ (by rw [ok.rows s1 p1, s1.r])⟩
theorem tabG_inv {α : Type} {a : Lay → Tab → α → List AV} {p : Lay → Tab → α → Prop} {res : Tab → α → AV} {nw : Tab → α → Tab} {args : List AV} {H : List Blk} {ob : Prop} {r : AV} {H' : List Blk} (e : tabG a p res nw args H = some (ob, r, H')) :
    ∃ L t K x, Lens L K ∧ Shape L t ∧ p L t x ∧ args = .ptr L.p 1 29 0 0 :: a L t x ∧ H = putT L t K ∧ r = res t x ∧ H' = putT L (nw t x) K := by
  obtain ⟨⟨L, t, K, x⟩, ⟨h1, h2, h3⟩, e1, e2, e3, e4⟩ := anyG_inv e
  exact ⟨L, t, K, x, h1, h2, h3, e1.symm, e2.symm, e3.symm, e4.symm⟩
/-- The end of such a function. -/
theorem tab_drop {L : Lay} {t' : Tab} {K X : List Blk} (h : Lens L K) {r : AV} (hr : r.cleanF K.length = true) : dropT K.length (putT L t' K ++ X) r (putT L t' K) :=
  ⟨K.length, Nat.le_refl _, by rw [show K.length = (putT L t' K).length by rw [put_len], List.take_left], hr, put_clean h t'⟩

theorem clean1_mono {m n : Nat} (h : m ≤ n) {v : AV} (hv : v.clean1 m = true) : v.clean1 n = true := by
  cases v <;> simp [AV.clean1] at hv ⊢ <;> omega
theorem clean2_cases (v : AV) : (∃ f cs, v = .fn f cs) ∨ ∀ n, v.clean2 n = v.clean1 n := by
  cases v <;> first | exact .inr fun _ => rfl | exact .inl ⟨_, _, rfl⟩
theorem clean2_mono {m n : Nat} (h : m ≤ n) {v : AV} (hv : v.clean2 m = true) : v.clean2 n = true := by
  rcases clean2_cases v with ⟨f, cs, rfl⟩ | e
  · have hv : cs.all (AV.clean1 m) = true := hv
    show cs.all (AV.clean1 n) = true
    exact List.all_eq_true.2 fun c hc => clean1_mono h (List.all_eq_true.1 hv c hc)
  · rw [e] at hv ⊢
    exact clean1_mono h hv
theorem cleanF_cases (v : AV) : (∃ cs, v = .agg cs) ∨ (∃ cs, v = .tup cs) ∨ ∀ n, v.cleanF n = v.clean2 n := by
  cases v <;> first | exact .inr (.inr fun _ => rfl) | exact .inl ⟨_, rfl⟩ | exact .inr (.inl ⟨_, rfl⟩)
theorem cleanF_mono {m n : Nat} (h : m ≤ n) {v : AV} (hv : v.cleanF m = true) : v.cleanF n = true := by
  rcases cleanF_cases v with ⟨cs, rfl⟩ | ⟨cs, rfl⟩ | e
  · have hv : cs.all (AV.clean2 m) = true := hv
    show cs.all (AV.clean2 n) = true
    exact List.all_eq_true.2 fun c hc => clean2_mono h (List.all_eq_true.1 hv c hc)
  · have hv : cs.all (AV.clean2 m) = true := hv
    show cs.all (AV.clean2 n) = true
    exact List.all_eq_true.2 fun c hc => clean2_mono h (List.all_eq_true.1 hv c hc)
  · rw [e] at hv ⊢
    exact clean2_mono h hv
theorem Lens.app {L : Lay} {K X : List Blk} (h : Lens L K) (hX : ∀ b ∈ X, b.deep = true) : Lens L (K ++ X) where
  p := by have := h.p; rw [List.length_append]; omega
  q := by have := h.q; rw [List.length_append]; omega
  c c hc := by have := h.c c hc; rw [List.length_append]; omega
  r l hl := by have := h.r l hl; rw [List.length_append]; omega
  pq := h.pq
  pc := h.pc
  qc := h.qc
  pr := h.pr
  qr := h.qr
  cr := h.cr
  nd := h.nd
  cl b hb := by
    rcases List.mem_append.1 hb with hb | hb
    · exact (h.cl b hb).imp id fun h1 r hr c hc => cleanF_mono (by rw [List.length_append]; omega) (h1 r hr c hc)
    · exact .inl (hX b hb)
/-- A call of such a function, the caller's locals behind. -/
theorem tabG_call {α : Type} {a : Lay → Tab → α → List AV} {p : Lay → Tab → α → Prop} {res : Tab → α → AV} {nw : Tab → α → Tab} (ok : TabOK a p nw) {L : Lay} {t : Tab} {K : List Blk} {x : α} (h : Lens L K) (s : Shape L t) (hp : p L t x) (X : List Blk) (hX : ∀ b ∈ X, b.deep = true) :
    tabG a p res nw (.ptr L.p 1 29 0 0 :: a L t x) (putT L t K ++ X) = some (True, res t x, putT L (nw t x) K ++ X) := by
  rw [← put_app h, ← put_app h]
  exact tabG_at ok (h.app hX) s hp

/-! ### minus -/
def aMinus : Lay → Tab → Fr × Fr × Fr → List AV := fun _ _ x => [Enc.enc x.1, Enc.enc x.2.1, Enc.enc x.2.2]
def orT (t : Tab) (b : Bool) : Tab := { t with over := t.over || b }
noncomputable def gMinus := tabG aMinus (fun _ _ _ => True) (fun _ x => Enc.enc (mnP x.1 x.2.1 x.2.2).1) (fun t x => orT t (mnP x.1 x.2.1 x.2.2).2)
theorem okMinus : TabOK aMinus (fun _ _ _ => True) (fun t x => orT t (mnP x.1 x.2.1 x.2.2).2) where
  inj := fun {L t K x x'} _ _ _ _ e => by
    obtain ⟨a, b, c⟩ := x
    obtain ⟨a', b', c'⟩ := x'
    unfold aMinus at e
    simp only [List.cons.injEq, and_true] at e
    rw [cells_inj e.1, cells_inj e.2.1, cells_inj e.2.2]
  rows := fun s _ => s.m
noncomputable def CMn : Ctx := mkC Tryz.prog G0 [(149, .pure sMulF), (150, .pure sSubF), (64, .pure (spec0 (Enc.enc F01)))]
@[simp] theorem CMn_P : CMn.P = Tryz.prog := rfl
@[simp] theorem CMn_G : CMn.G = G0 := rfl
@[simp] theorem CMn_1 : CMn.S 149 = .pure sMulF := rfl
@[simp] theorem CMn_2 : CMn.S 150 = .pure sSubF := rfl
@[simp] theorem CMn_3 : CMn.S 64 = .pure (spec0 (Enc.enc F01)) := rfl
theorem mixCMn : CMn.P.follows .mixedOrders = true := mixed
theorem sigCMn : SigOK CMn := sigOK_cons (entryPure (mulP) Tryz.func149 rfl (by decide)) (sigOK_cons (entryPure (subP) Tryz.func150 rfl (by decide)) (sigOK_cons (entryPure (zeroP) Tryz.func64 rfl (by decide)) (sigOK_nil _ _)))
theorem rngO_in {n d : Int} {p : Fr} (h : toO (rngF n d) = some p) : InR p.N ∧ InR p.D := by
  unfold toO rngF at h
  by_cases h4 : InR n ∧ InR d
  · rw [if_pos h4, if_pos rfl] at h
    injection h with h
    subst h
    exact h4
  · rw [if_neg h4] at h
    simp at h
theorem mulO_I64 {a b p : Fr} (h : mulO a b = some p) : I64 p.N := by
  unfold mulO mulF at h
  split at h
  · have := (rngO_in h).1
    unfold InR at this
    unfold I64
    omega
  · simp [toO] at h
theorem orT_true (t : Tab) : orT t true = { t with over := true } := by unfold orT; rw [Bool.or_true]
theorem orT_false (t : Tab) : orT t false = t := by unfold orT; rw [Bool.or_false]
set_option maxHeartbeats 16000000 in
theorem minusTP : GenOK Tryz.prog G0 130 gMinus := by
  refine gen_of_avcD (C := CMn) sigCMn mixCMn [] Tryz.func130 rfl rfl rfl (by kernel_rfl) (fun avs H ob r H' hp hob => ?_)
  obtain ⟨L, t, K, ⟨a, f, b⟩, hL, hS, _, rfl, rfl, rfl, rfl⟩ := tabG_inv hp
  clear hp hob ob
  refine ⟨(by show 4 ≤ _; decide), ?_⟩
  have G := getT hL hS
  have gp := G.p
  have gl0 := G.l0
  have gl := G.l
  have sl0 := G.sl0
  have sl := G.sl
  have bs := hS.bas
  simp only [aMinus]
  have em := mul_ofO f b
  have sp := fun X => G.sp X { t with over := true } rfl rfl rfl
  have ts := tC_so (L := L) bs true
  cases hm : mulO f b with
  | none =>
    have e1 : mnP a f b = (F01, true) := by unfold mnP mnO; rw [hm]
    rw [hm] at em
    simp [argsρ, put_len, gl0, gl, sl0, sl, gp, sp, ts, sMulF, em, ofO, F00, F01, e1, orT_true]
    exact tab_drop hL (by simp [AV.cleanF, AV.clean2, AV.clean1])
  | some p =>
    rw [hm] at em
    have hI := mulO_I64 hm
    have es := sub_ofO a p
    cases hs : subO a p with
    | none =>
      have e1 : mnP a f b = (F01, true) := by unfold mnP mnO; rw [hm]; simp only; rw [hs]
      rw [hs] at es
      simp [argsρ, put_len, gl0, gl, sl0, sl, gp, sp, ts, sMulF, sSubF, em, es, hI, ofO, F00, F01, e1, orT_true]
      exact tab_drop hL (by simp [AV.cleanF, AV.clean2, AV.clean1])
    | some d =>
      have e1 : mnP a f b = (d, false) := by unfold mnP mnO; rw [hm]; simp only; rw [hs]
      rw [hs] at es
      simp [argsρ, put_len, gl0, gl, sl0, sl, gp, sp, ts, sMulF, sSubF, em, es, hI, ofO, F00, F01, e1, orT_false]
      exact tab_drop hL (by simp [AV.cleanF, AV.clean2, AV.clean1])

/-! ### A row less a multiple of another -/
theorem nodup_inj {l : List Nat} (h : l.Nodup) {a b : Nat} (ha : a < l.length) (hb : b < l.length) (e : l[a] = l[b]) : a = b := by
  have hp := List.pairwise_iff_getElem.1 h
  rcases Nat.lt_trichotomy a b with c | c | c
  · exact absurd e (hp a b ha hb c)
  · exact c
  · exact absurd e.symm (hp b a hb ha c)
def tgtI (L : Lay) : Option Nat → Nat
  | some k => ix L.r k
  | none => L.c.getD 0
structure ClrX where
  tgt : Option Nat
  f : Fr
  i : Nat
def aClear : Lay → Tab → ClrX → List AV := fun L t x => [.own (tgtI L x.tgt) (t.w + 1), Enc.enc x.f, .own (ix L.r x.i) (t.w + 1)]
structure PreClr (L : Lay) (t : Tab) (x : ClrX) : Prop where
  i : x.i < t.m
  row : ∀ k, x.tgt = some k → k < t.m ∧ k ≠ x.i
  cost : x.tgt = none → t.cost.length = t.w + 1
def tgtR (t : Tab) : Option Nat → List Fr
  | some k => ix t.rows k
  | none => t.cost
def setTgt (t : Tab) (g : Option Nat) (r : List Fr) : Tab := match g with
  | some k => { t with rows := t.rows.set k r }
  | none => { t with cost := r }
/-- After k elements. -/
def clrK (t : Tab) (x : ClrX) (k : Nat) : Tab := orT (setTgt t x.tgt (mixF k (fun j => (mnP (ix (tgtR t x.tgt) j) x.f (ix (ix t.rows x.i) j)).1) (tgtR t x.tgt))) (anyK k fun j => (mnP (ix (tgtR t x.tgt) j) x.f (ix (ix t.rows x.i) j)).2)
def clrT (t : Tab) (x : ClrX) : Tab := clrK t x (t.w + 1)
noncomputable def gClear := tabG aClear PreClr (fun _ _ => .tup []) clrT
theorem setTgt_rows (t : Tab) (g : Option Nat) (r : List Fr) : (setTgt t g r).rows.length = t.rows.length := by cases g <;> simp [setTgt]
theorem okClear : TabOK aClear PreClr clrT where
  inj := fun {L t K x x'} hL hS h h' e => by
    obtain ⟨g, f, i⟩ := x
    obtain ⟨g', f', i'⟩ := x'
    unfold aClear at e
    simp only [List.cons.injEq, AV.own.injEq, and_true] at e
    obtain ⟨e1, e2, e3⟩ := e
    have ii : ∀ {a b : Nat}, a < L.r.length → b < L.r.length → ix L.r a = ix L.r b → a = b := fun ha hb hab => by
      rw [ix_lt ha, ix_lt hb] at hab
      exact nodup_inj hL.nd ha hb hab
    have hi := h.i
    have hi' := h'.i
    have er := hS.r
    have e3 := ii (by rw [er]; exact hi) (by rw [er]; exact hi') e3
    have eg : g = g' := by
      cases g with
      | none =>
        cases g' with
        | none => rfl
        | some k' =>
          rcases hS.cost with ⟨h1, h2⟩ | ⟨⟨c, h1⟩, h2⟩
          · have := h.cost rfl
            rw [h2] at this
            simp at this
          · have e1 : L.c.getD 0 = ix L.r k' := e1
            rw [h1] at e1
            exact absurd (by rw [show c = ix L.r k' from e1]; exact ix_mem (by rw [er]; exact (h'.row k' rfl).1)) (hL.cr c h1)
      | some k =>
        cases g' with
        | none =>
          rcases hS.cost with ⟨h1, h2⟩ | ⟨⟨c, h1⟩, h2⟩
          · have := h'.cost rfl
            rw [h2] at this
            simp at this
          · have e1 : ix L.r k = L.c.getD 0 := e1
            rw [h1] at e1
            exact absurd (by rw [show c = ix L.r k from e1.symm]; exact ix_mem (by rw [er]; exact (h.row k rfl).1)) (hL.cr c h1)
        | some k' => rw [ii (by rw [er]; exact (h.row k rfl).1) (by rw [er]; exact (h'.row k' rfl).1) e1]
    rw [eg, cells_inj e2, e3]
  rows := fun {L t x} s h => by
    show (setTgt t x.tgt _).rows.length = t.m
    rw [setTgt_rows]
    exact s.m
end Go.Proofs.YtfoipbjhaiimlaaGreatDoor


/-
  layer 30: clear — a row less a multiple of another.
-/
namespace Go.Proofs.YtfoipbjhaiimlaaGreatDoor
open Go.RowKit
set_option linter.unusedSimpArgs false
set_option linter.unusedVariables false
set_option maxRecDepth 100000

section
variable {L : Lay} {K : List Blk} {t : Tab}
theorem cost_some (hS : Shape L t) (h : t.cost.length = t.w + 1) : ∃ c, L.c = some c := by
  rcases hS.cost with ⟨h1, h2⟩ | ⟨h1, _⟩
  · rw [h2] at h
    simp at h
  · exact h1
theorem tgt_get (hL : Lens L K) (hS : Shape L t) {g : Option Nat} (hg : ∀ k, g = some k → k < t.m) (hn : g = none → t.cost.length = t.w + 1) (X : List Blk) : (putT L t K ++ X)[tgtI L g]? = some ⟨35, 2, encRows (tgtR t g), true, true⟩ := by
  cases g with
  | none =>
    obtain ⟨c, hc⟩ := cost_some hS (hn rfl)
    show (putT L t K ++ X)[L.c.getD 0]? = _
    rw [hc]
    exact (getT hL hS).c X c hc
  | some k => exact (getT hL hS).r X k (hg k rfl)
theorem tgt_set (hL : Lens L K) (hS : Shape L t) {g : Option Nat} (hg : ∀ k, g = some k → k < t.m) (hn : g = none → t.cost.length = t.w + 1) (X : List Blk) (r : List Fr) (hr : r.length = t.w + 1) : (putT L t K ++ X).set (tgtI L g) ⟨35, 2, encRows r, true, true⟩ = putT L (setTgt t g r) K ++ X := by
  cases g with
  | none =>
    obtain ⟨c, hc⟩ := cost_some hS (hn rfl)
    show (putT L t K ++ X).set (L.c.getD 0) _ = _
    rw [hc]
    exact (getT hL hS).sc X c r hc (by rw [hr, hn rfl])
  | some k => exact (getT hL hS).sr X k r (hg k rfl)
theorem shape_or (hS : Shape L t) (b : Bool) : Shape L (orT t b) := ⟨hS.m, hS.r, hS.n1, hS.n12, hS.m24, hS.row, hS.cost, hS.bas, hS.b64⟩
theorem shape_tgt (hS : Shape L t) {g : Option Nat} (hn : g = none → t.cost.length = t.w + 1) {r : List Fr} (hr : r.length = t.w + 1) : Shape L (setTgt t g r) := by
  cases g with
  | none => exact ⟨hS.m, hS.r, hS.n1, hS.n12, hS.m24, hS.row, .inr ⟨cost_some hS (hn rfl), hr⟩, hS.bas, hS.b64⟩
  | some k => exact ⟨by show (t.rows.set k r).length = t.m; rw [List.length_set]; exact hS.m, hS.r, hS.n1, hS.n12, hS.m24, fun x hx => (List.mem_or_eq_of_mem_set hx).elim (hS.row x) (fun e => by rw [e]; exact hr), hS.cost, hS.bas, hS.b64⟩
theorem tgtR_len {x : ClrX} (hS : Shape L t) (h : PreClr L t x) : (tgtR t x.tgt).length = t.w + 1 := by
  cases hg : x.tgt with
  | none => exact h.cost hg
  | some k =>
    have hk := (h.row k hg).1
    exact hS.row _ (ix_mem (by rw [hS.m]; exact hk))
theorem clrK_shape {x : ClrX} (hS : Shape L t) (h : PreClr L t x) (k : Nat) : Shape L (clrK t x k) :=
  shape_or (shape_tgt hS h.cost (by rw [mixF_len, tgtR_len hS h])) _
theorem clrK_tgt {x : ClrX} (hS : Shape L t) (h : PreClr L t x) (k : Nat) : tgtR (clrK t x k) x.tgt = mixF k (fun j => (mnP (ix (tgtR t x.tgt) j) x.f (ix (ix t.rows x.i) j)).1) (tgtR t x.tgt) := by
  unfold clrK
  cases hg : x.tgt with
  | none => rfl
  | some q =>
    show ix (t.rows.set q _) q = _
    rw [ix_lt (by rw [List.length_set, hS.m]; exact (h.row q hg).1), List.getElem_set_self]
theorem clrK_by {x : ClrX} (hS : Shape L t) (h : PreClr L t x) (k : Nat) : ix (clrK t x k).rows x.i = ix t.rows x.i := by
  unfold clrK
  cases hg : x.tgt with
  | none => rfl
  | some q =>
    have hi := h.i
    show ix (t.rows.set q _) x.i = _
    rw [ix_lt (by rw [List.length_set, hS.m]; exact hi), List.getElem_set_ne (h.row q hg).2, ix_lt (by rw [hS.m]; exact hi)]
theorem clrK_zero (x : ClrX) : clrK t x 0 = t := by
  unfold clrK
  rw [mixF_zero, anyK_zero, orT_false]
  cases hg : x.tgt with
  | none => rfl
  | some q =>
    show { t with rows := t.rows.set q (ix t.rows q) } = t
    by_cases hq : q < t.rows.length
    · rw [ix_lt hq, List.set_getElem_self]
    · rw [List.set_eq_of_length_le (by omega)]
theorem clrK_succ {x : ClrX} (hS : Shape L t) (h : PreClr L t x) {k : Nat} (hk : k < t.w + 1) :
    setTgt (orT (clrK t x k) (mnP (ix (tgtR t x.tgt) k) x.f (ix (ix t.rows x.i) k)).2) x.tgt ((mixF k (fun j => (mnP (ix (tgtR t x.tgt) j) x.f (ix (ix t.rows x.i) j)).1) (tgtR t x.tgt)).set k (mnP (ix (tgtR t x.tgt) k) x.f (ix (ix t.rows x.i) k)).1) = clrK t x (k + 1) := by
  rw [mixF_set (g := fun j => (mnP (ix (tgtR t x.tgt) j) x.f (ix (ix t.rows x.i) j)).1) (v := (mnP (ix (tgtR t x.tgt) k) x.f (ix (ix t.rows x.i) k)).1) rfl (by rw [tgtR_len hS h]; exact hk)]
  unfold clrK
  rw [anyK_succ]
  cases hg : x.tgt with
  | none => unfold setTgt orT; simp [Bool.or_assoc]
  | some q => unfold setTgt orT; simp [Bool.or_assoc]
end
theorem minus_call {L : Lay} {K : List Blk} {t : Tab} (hL : Lens L K) (hS : Shape L t) (a f b : Fr) (X : List Blk) (hX : ∀ b ∈ X, b.deep = true) : gMinus [.ptr L.p 1 29 0 0, .agg [.int .i64 a.N, .int .i64 a.D], .agg [.int .i64 f.N, .int .i64 f.D], .agg [.int .i64 b.N, .int .i64 b.D]] (putT L t K ++ X) = some (True, .agg [.int .i64 (mnP a f b).1.N, .int .i64 (mnP a f b).1.D], putT L (orT t (mnP a f b).2) K ++ X) :=
  tabG_call okMinus (x := (a, f, b)) hL hS trivial X hX
noncomputable def CCl : Ctx := mkC Tryz.prog G0 [(149, .pure sMulF), (130, .gen gMinus)]
@[simp] theorem CCl_P : CCl.P = Tryz.prog := rfl
@[simp] theorem CCl_G : CCl.G = G0 := rfl
@[simp] theorem CCl_1 : CCl.S 149 = .pure sMulF := rfl
@[simp] theorem CCl_2 : CCl.S 130 = .gen gMinus := rfl
theorem mixCCl : CCl.P.follows .mixedOrders = true := mixed
theorem sigCCl : SigOK CCl := sigOK_cons (entryPure (mulP) Tryz.func149 rfl (by decide)) (sigOK_cons (entryGen (minusTP) Tryz.func130 rfl (by decide)) (sigOK_nil _ _))
set_option maxHeartbeats 16000000 in
theorem clearTP : GenOK Tryz.prog G0 101 gClear := by
  refine gen_of_avcD (C := CCl) sigCCl mixCCl [4] Tryz.func101 rfl rfl rfl (by kernel_rfl) (fun avs H ob r H' hp hob => ?_)
  obtain ⟨L, t, K, x, hL, hS, hx, rfl, rfl, rfl, rfl⟩ := tabG_inv hp
  clear hp hob ob
  refine ⟨(by show 4 ≤ _; decide), ?_⟩
  simp only [aClear]
  have G := getT hL hS
  have gl0 := G.l0
  have gl := G.l
  have hw : t.w ≤ 36 := by have := hS.n12; have := hS.m24; unfold Tab.w; omega
  simp [argsρ, put_len, gl0, gl]
  refine loop_ruleH (C := CCl) sigCCl mixCCl [4] (fun k : Nat => ⟨[(0, .ptr L.p 1 29 0 0), (1, .own (tgtI L x.tgt) (t.w + 1)), (3, .own (ix L.r x.i) (t.w + 1)), (6, .ptr K.length 1 2 0 0), (10, .int .i64 ((t.w : Int) + 1)), (11, .int .i64 k)], putT L (clrK t x k) K ++ [FB x.f]⟩) (fun k => k ≤ t.w + 1) (fun k => t.w + 1 - k) (by kernel_rfl) ⟨0, by simp, weak_eq (by simp) (by rw [clrK_zero]; rfl)⟩ (fun k hk => ?_)
  have hS' := clrK_shape hS hx k
  have G := getT hL hS'
  have gl0 := G.l0
  have gl := G.l
  by_cases hkl : k < t.w + 1
  · have i2 : I64 ((k : Int) + 1) := by unfold I64; omega
    have hkl' : (k : Int) < (t.w : Int) + 1 := by omega
    have ww : (clrK t x k).w = t.w := by unfold clrK; cases x.tgt <;> rfl
    have hcost : x.tgt = none → (clrK t x k).cost.length = (clrK t x k).w + 1 := fun hg => by
      have := hx.cost hg
      unfold clrK orT setTgt
      rw [hg]
      show (mixF _ _ _).length = _
      rw [mixF_len]
      exact this
    have tg := tgt_get (g := x.tgt) hL hS' (fun q hq => by have := (hx.row q hq).1; unfold clrK; cases x.tgt <;> exact this) hcost
    rw [clrK_tgt hS hx] at tg
    have gr := G.r
    have gi := fun X => gr X x.i (by have := hx.i; unfold clrK; cases x.tgt <;> exact this)
    simp only [clrK_by hS hx] at gi
    simp [FB, put_len, gl0, gl, hkl', tg, gi]
    refine AW_regionF sigCCl mixCCl [.pure, .pure, .pure, .pure, .pure, .pure, .read, .read, .pure, .pure, .pure, .read, .eff, .pure, .eff] [[],[],[],[],[],[4,3],[3,4,5],[],[],[],[9,8],[8,9,10],[10,9,8,11,7,5,4,3,6,2],[12,11,10,9,8,7,6,5,4,3,2,1,0],[0,1,2,3,4,5,6,7,8,9,10,11,12,13]] (by kernel_rfl) (by kernel_rfl) (by kernel_rfl) (by kernel_rfl) ?_
    have hrow : (ix t.rows x.i).length = t.w + 1 := hS.row _ (ix_mem (by rw [hS.m]; exact hx.i))
    have hm1 := mixF_len k (fun j => (mnP (ix (tgtR t x.tgt) j) x.f (ix (ix t.rows x.i) j)).1) (tgtR t x.tgt)
    have hm2 := tgtR_len hS hx
    have hmx := mixF_ix (k := k) (g := fun j => (mnP (ix (tgtR t x.tgt) j) x.f (ix (ix t.rows x.i) j)).1) (show k < (tgtR t x.tgt).length by omega)
    rw [if_neg (Nat.lt_irrefl k)] at hmx
    have hcall := minus_call hL hS' (ix (tgtR t x.tgt) k) x.f (ix (ix t.rows x.i) k) [FB x.f] (by simp [FB])
    simp only [FB] at hcall
    obtain ⟨M, hM⟩ : ∃ M, mnP (ix (tgtR t x.tgt) k) x.f (ix (ix t.rows x.i) k) = M := ⟨_, rfl⟩
    have hstep := clrK_succ hS hx hkl
    rw [hM] at hcall hstep
    have hSo := shape_or hS' M.2
    have tgm : ∀ q, x.tgt = some q → q < (clrK t x k).m := fun q hq => by have := (hx.row q hq).1; unfold clrK; cases x.tgt <;> exact this
    have tg2 : ∀ X, (putT L (orT (clrK t x k) M.2) K ++ X)[tgtI L x.tgt]? = some ⟨35, 2, encRows (mixF k (fun j => (mnP (ix (tgtR t x.tgt) j) x.f (ix (ix t.rows x.i) j)).1) (tgtR t x.tgt)), true, true⟩ := fun X => by
      rw [tgt_get (g := x.tgt) hL hSo tgm hcost, ← clrK_tgt hS hx k]
      cases x.tgt <;> rfl
    have ts2 := fun X r hr => tgt_set (g := x.tgt) hL hSo tgm hcost X r hr
    simp [FB, put_len, gl0, gl, hkl', tg, gi, hrow, hm1, hm2, hmx, rowAt_enc, hkl, hcall, tg2, i2]
    refine ⟨k + 1, by omega, by omega, weak_eq (by simp) ?_⟩
    rw [ts2 _ _ (by rw [List.length_set, hm1, hm2]; exact congrArg (· + 1) ww.symm), hstep]
  · have hke : k = t.w + 1 := by omega
    subst hke
    simp [put_len, gl0, gl]
    exact tab_drop hL (by simp [AV.cleanF, AV.clean2, AV.clean1])
end Go.Proofs.YtfoipbjhaiimlaaGreatDoor
