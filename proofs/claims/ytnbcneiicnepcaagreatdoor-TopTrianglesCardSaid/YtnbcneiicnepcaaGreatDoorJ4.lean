/-
  Texts joined.
-/
import Derived.Test.YtnbcneiicnepcaaGreatDoorJ3
import Derived.WalkKit
import Derived.Shelf.GgClosure.StringsIndexFunc
import Derived.Ground.GgwProg
import Derived.Shelf.GgClosure.StringsIndexFuncTop
import Derived.Test.YtnbcneiicnepcaaGreatDoorProg
namespace Go.Proofs.YtnbcneiicnepcaaGreatDoor
open Nat (add_mul add_sub_cancel div_add_mod div_le_self div_lt_iff_lt_mul le_of_lt_succ le_refl lt_or_eq_of_le lt_or_ge mod_lt mul_comm mul_le_mul pow_add succ_mul two_pow_pos zero_le zero_mul)
open List (cons_append filter_cons length_take map_cons map_map mem_cons mem_cons_of_mem mem_cons_self mem_flatMap mem_iff_getElem mem_map mem_range pairwise_map sum_cons)
open Int (eq_ofNat_of_zero_le fdiv_eq_ediv_of_nonneg mul_neg natAbs_natCast natCast_ediv natCast_mul neg_mul neg_zero tmod_eq_emod_of_nonneg)
open _root_.Go.Proofs.Tryz
noncomputable section
set_option maxHeartbeats 16000000
open Go.RowKit
set_option linter.unusedSimpArgs false
set_option linter.unusedVariables false
set_option maxRecDepth 100000
def bl (x : Nat) : Nat := if x = 0 then 0 else x.log2 + 1
theorem Il (x : Nat) : x < 2 ^ bl x := by
 unfold bl
 split
 ·rename_i h; simp [h]
 ·exact Nat.lt_log2_self
theorem zm {x : Nat} (h : x ≠ 0) : 2 ^ (bl x - 1) <= x := by
 unfold bl
 rw [if_neg h, add_sub_cancel]
 exact Nat.log2_self_le h
theorem Nq {x n : Nat} (h : 2 ^ n <= x) (h' : x < 2 ^ (n + 1)) : bl x = n + 1 := by
 have h0 : x ≠ 0 := by have := two_pow_pos n; omega
 unfold bl
 rw [if_neg h0]
 have h1 := (Nat.le_log2 h0).2 h
 have h2 := (Nat.log2_lt h0).2 h'
 omega
theorem g7 {x s : Nat} (h : x / 2 ^ s ≠ 0) : bl x = bl (x / 2 ^ s) + s := by
 have h1 := zm h
 have h2 := Il (x / 2 ^ s)
 have h3 : bl (x / 2 ^ s) ≠ 0 := by unfold bl; rw [if_neg h]; omega
 obtain ⟨n, hn⟩ : ∃ n, bl (x / 2 ^ s) = n + 1 := ⟨bl (x / 2 ^ s) - 1, by omega⟩
 rw [hn] at h1 h2 ⊢
 rw [add_sub_cancel] at h1
 have p := two_pow_pos s
 rw [show n + 1 + s = (n + s) + 1 by omega]
 refine Nq ?_ ?_
 ·rw [pow_add]
  exact (Nat.le_div_iff_mul_le p).1 h1
 ·rw [show n + s + 1 = (n + 1) + s by omega, pow_add]
  exact (div_lt_iff_lt_mul p).1 h2
theorem iw (s : ByteArray) (h : (List.range 256).all (λ j => btA s j == bl j) = true) {j : Nat} (hj : j < 256) : btA s j = bl j := by
 have := List.all_eq_true.1 h j (mem_range.2 hj)
 simpa using this
def qm : List AV -> Option (Prop × AV)
 | [.int .u64 x] => some (W64 x, .int .i64 (bl x.toNat : Int))
 | _ => none
theorem Ko : PureOK prog G0 202 qm := by
 refine ey aR mixed func202 rfl rfl rfl (by kernel_rfl) (λ avs ob r hp hob => ?_)
 unfold qm at hp
 split at hp
 case h_2 => cases hp
 rename_i x
 injection hp with hp; injection hp with e1 e2; subst e1 e2
 obtain ⟨x0, x1⟩ := hob
 obtain ⟨x, rfl⟩ := eq_ofNat_of_zero_le x0
 refine ⟨(by show 1 <= _; decide), ?_⟩
 have v0 : w64 0 = 0 := rfl
 have v8 : w64 8 = 8 := rfl
 have v16 : w64 16 = 16 := rfl
 have v32 : w64 32 = 32 := rfl
 have v48 : w64 48 = 48 := rfl
 have v24 : w64 24 = 24 := rfl
 have v40 : w64 40 = 40 := rfl
 have v56 : w64 56 = 56 := rfl
 have wi : ∀ x : Nat, x < 1000 -> IntKind.wrap .i64 (x : Int) = x := λ x h => IntWalk.i64_in _ (by omega)
 have hb : ∀ j, j < 256 -> bl j <= 8 := λ j hj => by
  by_cases h : j = 0
  ·subst h; decide
  ·have := zm h
   by_cases h8 : bl j <= 8
   ·exact h8
   ·have : 2 ^ 8 <= 2 ^ (bl j - 1) := Nat.pow_le_pow_right (by decide) (by omega)
    omega
 by_cases c0 : 4294967296 <= x
 ·have d0 : (4294967296 : Int) <= x := by omega
  obtain ⟨y, e0⟩ : ∃ yy, yy = x / 4294967296 := ⟨_, rfl⟩
  have s0 : (x : Int).fdiv (2 ^ (min 32 (IntKind.bits .u64))) = (y : Int) := by show (x : Int).fdiv 4294967296 = _; rw [fdiv_eq_ediv_of_nonneg _ (by decide)]; omega
  by_cases c1 : 65536 <= y
  ·have d1 : (65536 : Int) <= y := by omega
   obtain ⟨z, e1⟩ : ∃ yy, yy = y / 65536 := ⟨_, rfl⟩
   have s1 : (y : Int).fdiv (2 ^ (min 16 (IntKind.bits .u64))) = (z : Int) := by show (y : Int).fdiv 65536 = _; rw [fdiv_eq_ediv_of_nonneg _ (by decide)]; omega
   by_cases c2 : 256 <= z
   ·have d2 : (256 : Int) <= z := by omega
    obtain ⟨u, e2⟩ : ∃ yy, yy = z / 256 := ⟨_, rfl⟩
    have s2 : (z : Int).fdiv (2 ^ (min 8 (IntKind.bits .u64))) = (u : Int) := by show (z : Int).fdiv 256 = _; rw [fdiv_eq_ediv_of_nonneg _ (by decide)]; omega
    have q : u < 256 := by omega
    have q1 : IntKind.wrap .u8 (u : Int) = u := by rw [IntKind.wrap_u8]; omega
    have q2 := hb u q
    have q5 : (u : Int) < 256 := by omega
    have q6 : ∀ n : Nat, n <= 8 -> IntKind.wrap .i64 (n : Int) = n := λ n h => IntWalk.i64_in _ (by omega)
    simp [ac, ag, ae, am, ap, aa, au, ab, ao, ak, ah, ai, aj, argsρ, d0, s0, d1, s1, d2, s2, q1, q5, v0, v8, v16, v24, v32, v40, v48, v56]
    rw [iw _ (by kernel_rfl) q, q6 _ q2]
    have q3 := g7 (x := x) (s := 56) (by omega)
    have q4 : x / 2 ^ 56 = u := by omega
    rw [q4] at q3
    refine ⟨Nat.lt_of_lt_of_eq q (by kernel_rfl), ?_⟩
    rw [dd (by unfold I64; omega)]
    all_goals omega
   ·have d2 : ¬ (256 : Int) <= z := by omega
    have q : z < 256 := by omega
    have q1 : IntKind.wrap .u8 (z : Int) = z := by rw [IntKind.wrap_u8]; omega
    have q2 := hb z q
    have q5 : (z : Int) < 256 := by omega
    have q6 : ∀ n : Nat, n <= 8 -> IntKind.wrap .i64 (n : Int) = n := λ n h => IntWalk.i64_in _ (by omega)
    simp [ac, ag, ae, am, ap, aa, au, ab, ao, ak, ah, ai, aj, argsρ, d0, s0, d1, s1, d2, q1, q5, v0, v8, v16, v24, v32, v40, v48, v56]
    rw [iw _ (by kernel_rfl) q, q6 _ q2]
    have q3 := g7 (x := x) (s := 48) (by omega)
    have q4 : x / 2 ^ 48 = z := by omega
    rw [q4] at q3
    refine ⟨Nat.lt_of_lt_of_eq q (by kernel_rfl), ?_⟩
    rw [dd (by unfold I64; omega)]
    all_goals omega
  ·have d1 : ¬ (65536 : Int) <= y := by omega
   by_cases c2 : 256 <= y
   ·have d2 : (256 : Int) <= y := by omega
    obtain ⟨u, e2⟩ : ∃ yy, yy = y / 256 := ⟨_, rfl⟩
    have s2 : (y : Int).fdiv (2 ^ (min 8 (IntKind.bits .u64))) = (u : Int) := by show (y : Int).fdiv 256 = _; rw [fdiv_eq_ediv_of_nonneg _ (by decide)]; omega
    have q : u < 256 := by omega
    have q1 : IntKind.wrap .u8 (u : Int) = u := by rw [IntKind.wrap_u8]; omega
    have q2 := hb u q
    have q5 : (u : Int) < 256 := by omega
    have q6 : ∀ n : Nat, n <= 8 -> IntKind.wrap .i64 (n : Int) = n := λ n h => IntWalk.i64_in _ (by omega)
    simp [ac, ag, ae, am, ap, aa, au, ab, ao, ak, ah, ai, aj, argsρ, d0, s0, d1, d2, s2, q1, q5, v0, v8, v16, v24, v32, v40, v48, v56]
    rw [iw _ (by kernel_rfl) q, q6 _ q2]
    have q3 := g7 (x := x) (s := 40) (by omega)
    have q4 : x / 2 ^ 40 = u := by omega
    rw [q4] at q3
    refine ⟨Nat.lt_of_lt_of_eq q (by kernel_rfl), ?_⟩
    rw [dd (by unfold I64; omega)]
    all_goals omega
   ·have d2 : ¬ (256 : Int) <= y := by omega
    have q : y < 256 := by omega
    have q1 : IntKind.wrap .u8 (y : Int) = y := by rw [IntKind.wrap_u8]; omega
    have q2 := hb y q
    have q5 : (y : Int) < 256 := by omega
    have q6 : ∀ n : Nat, n <= 8 -> IntKind.wrap .i64 (n : Int) = n := λ n h => IntWalk.i64_in _ (by omega)
    simp [ac, ag, ae, am, ap, aa, au, ab, ao, ak, ah, ai, aj, argsρ, d0, s0, d1, d2, q1, q5, v0, v8, v16, v24, v32, v40, v48, v56]
    rw [iw _ (by kernel_rfl) q, q6 _ q2]
    have q3 := g7 (x := x) (s := 32) (by omega)
    have q4 : x / 2 ^ 32 = y := by omega
    rw [q4] at q3
    refine ⟨Nat.lt_of_lt_of_eq q (by kernel_rfl), ?_⟩
    rw [dd (by unfold I64; omega)]
    all_goals omega
 ·have d0 : ¬ (4294967296 : Int) <= x := by omega
  by_cases c1 : 65536 <= x
  ·have d1 : (65536 : Int) <= x := by omega
   obtain ⟨z, e1⟩ : ∃ yy, yy = x / 65536 := ⟨_, rfl⟩
   have s1 : (x : Int).fdiv (2 ^ (min 16 (IntKind.bits .u64))) = (z : Int) := by show (x : Int).fdiv 65536 = _; rw [fdiv_eq_ediv_of_nonneg _ (by decide)]; omega
   by_cases c2 : 256 <= z
   ·have d2 : (256 : Int) <= z := by omega
    obtain ⟨u, e2⟩ : ∃ yy, yy = z / 256 := ⟨_, rfl⟩
    have s2 : (z : Int).fdiv (2 ^ (min 8 (IntKind.bits .u64))) = (u : Int) := by show (z : Int).fdiv 256 = _; rw [fdiv_eq_ediv_of_nonneg _ (by decide)]; omega
    have q : u < 256 := by omega
    have q1 : IntKind.wrap .u8 (u : Int) = u := by rw [IntKind.wrap_u8]; omega
    have q2 := hb u q
    have q5 : (u : Int) < 256 := by omega
    have q6 : ∀ n : Nat, n <= 8 -> IntKind.wrap .i64 (n : Int) = n := λ n h => IntWalk.i64_in _ (by omega)
    simp [ac, ag, ae, am, ap, aa, au, ab, ao, ak, ah, ai, aj, argsρ, d0, d1, s1, d2, s2, q1, q5, v0, v8, v16, v24, v32, v40, v48, v56]
    rw [iw _ (by kernel_rfl) q, q6 _ q2]
    have q3 := g7 (x := x) (s := 24) (by omega)
    have q4 : x / 2 ^ 24 = u := by omega
    rw [q4] at q3
    refine ⟨Nat.lt_of_lt_of_eq q (by kernel_rfl), ?_⟩
    rw [dd (by unfold I64; omega)]
    all_goals omega
   ·have d2 : ¬ (256 : Int) <= z := by omega
    have q : z < 256 := by omega
    have q1 : IntKind.wrap .u8 (z : Int) = z := by rw [IntKind.wrap_u8]; omega
    have q2 := hb z q
    have q5 : (z : Int) < 256 := by omega
    have q6 : ∀ n : Nat, n <= 8 -> IntKind.wrap .i64 (n : Int) = n := λ n h => IntWalk.i64_in _ (by omega)
    simp [ac, ag, ae, am, ap, aa, au, ab, ao, ak, ah, ai, aj, argsρ, d0, d1, s1, d2, q1, q5, v0, v8, v16, v24, v32, v40, v48, v56]
    rw [iw _ (by kernel_rfl) q, q6 _ q2]
    have q3 := g7 (x := x) (s := 16) (by omega)
    have q4 : x / 2 ^ 16 = z := by omega
    rw [q4] at q3
    refine ⟨Nat.lt_of_lt_of_eq q (by kernel_rfl), ?_⟩
    rw [dd (by unfold I64; omega)]
    all_goals omega
  ·have d1 : ¬ (65536 : Int) <= x := by omega
   by_cases c2 : 256 <= x
   ·have d2 : (256 : Int) <= x := by omega
    obtain ⟨u, e2⟩ : ∃ yy, yy = x / 256 := ⟨_, rfl⟩
    have s2 : (x : Int).fdiv (2 ^ (min 8 (IntKind.bits .u64))) = (u : Int) := by show (x : Int).fdiv 256 = _; rw [fdiv_eq_ediv_of_nonneg _ (by decide)]; omega
    have q : u < 256 := by omega
    have q1 : IntKind.wrap .u8 (u : Int) = u := by rw [IntKind.wrap_u8]; omega
    have q2 := hb u q
    have q5 : (u : Int) < 256 := by omega
    have q6 : ∀ n : Nat, n <= 8 -> IntKind.wrap .i64 (n : Int) = n := λ n h => IntWalk.i64_in _ (by omega)
    simp [ac, ag, ae, am, ap, aa, au, ab, ao, ak, ah, ai, aj, argsρ, d0, d1, d2, s2, q1, q5, v0, v8, v16, v24, v32, v40, v48, v56]
    rw [iw _ (by kernel_rfl) q, q6 _ q2]
    have q3 := g7 (x := x) (s := 8) (by omega)
    have q4 : x / 2 ^ 8 = u := by omega
    rw [q4] at q3
    refine ⟨Nat.lt_of_lt_of_eq q (by kernel_rfl), ?_⟩
    rw [dd (by unfold I64; omega)]
    all_goals omega
   ·have d2 : ¬ (256 : Int) <= x := by omega
    have q : x < 256 := by omega
    have q1 : IntKind.wrap .u8 (x : Int) = x := by rw [IntKind.wrap_u8]; omega
    have q2 := hb x q
    have q5 : (x : Int) < 256 := by omega
    have q6 : ∀ n : Nat, n <= 8 -> IntKind.wrap .i64 (n : Int) = n := λ n h => IntWalk.i64_in _ (by omega)
    simp [ac, ag, ae, am, ap, aa, au, ab, ao, ak, ah, ai, aj, argsρ, d0, d1, d2, q1, q5, v0, v8, v16, v24, v32, v40, v48, v56]
    rw [iw _ (by kernel_rfl) q, q6 _ q2]
    refine ⟨Nat.lt_of_lt_of_eq q (by kernel_rfl), ?_⟩
    rw [dd (by unfold I64; omega)]
    all_goals omega
noncomputable def CLz : Ctx := mkC prog G0 [(202, .pure qm)]
@[simp] theorem TX : CLz.P = prog := rfl
@[simp] theorem TW : CLz.G = G0 := rfl
@[simp] theorem TV : CLz.S 202 = .pure qm := rfl
theorem Lj : aB CLz := aH (Ko) func202 (ax _ _)
theorem zn {x : Nat} (h : x < 18446744073709551616) : bl x <= 64 := by
 by_cases h0 : x = 0
 ·subst h0; decide
 ·have := zm h0
  by_cases h8 : bl x <= 64
  ·exact h8
  ·have : 2 ^ 64 <= 2 ^ (bl x - 1) := Nat.pow_le_pow_right (by decide) (by omega)
   omega
def w7 : List AV -> Option (Prop × AV)
 | [.int .u64 x] => some (W64 x, .int .i64 ((64 - bl x.toNat : Nat) : Int))
 | _ => none
theorem Of : PureOK prog G0 475 w7 := by
 refine ey Lj mixed func475 rfl rfl rfl (by kernel_rfl) (λ avs ob r hp hob => ?_)
 unfold w7 at hp
 split at hp
 case h_2 => cases hp
 rename_i x
 injection hp with hp; injection hp with e1 e2; subst e1 e2
 have h := zn (x := x.toNat) (by have := hob.2; have := hob.1; omega)
 have e : w64 (64 - (bl x.toNat : Int)) = ((64 - bl x.toNat : Nat) : Int) := by rw [dd (by unfold I64; omega)]; omega
 refine ⟨(by show 1 <= _; decide), ?_⟩
 simp [ac, ag, ae, am, ap, aa, au, ab, ao, ak, ah, ai, aj, argsρ, qm, hob, e]
structure DigOK (v u d q r : Nat) : Prop where
 sum : q * (v / 4294967296) + r = u
 up : (u * 4294967296 + d) / v <= q
 small : r < 4294967296
 near : q <= 4294967297
 fine : r < v / 4294967296 ∨ q <= 4294967296
theorem rK {v u d : Nat} (hv : 9223372036854775808 <= v) (hv' : v < 18446744073709551616) (hu : u < v) (hd : d < 4294967296) : DigOK v u d (u / (v / 4294967296)) (u - u / (v / 4294967296) * (v / 4294967296)) := by
 obtain ⟨a, ha⟩ : ∃ a, a = v / 4294967296 := ⟨_, rfl⟩
 rw [<- ha]
 have a1 : 2147483648 <= a := by omega
 have a2 : a < 4294967296 := by omega
 have e := div_add_mod u a
 have hm := mod_lt u (show 0 < a by omega)
 have e' : u / a * a + u % a = u := by rw [mul_comm]; exact e
 have e2 : u - u / a * a = u % a := by omega
 refine ⟨by rw [<- ha]; omega, ?_, by omega, ?_, .inl (by rw [<- ha]; omega)⟩
 ·
  have h1 : (u * 4294967296 + d) / v <= (u * 4294967296 + d) / (a * 4294967296) := Nat.div_le_div_left (by omega) (by omega)
  refine Nat.le_trans h1 ?_
  rw [mul_comm a, <- Nat.div_div_eq_div_mul]
  have : (u * 4294967296 + d) / 4294967296 = u := by omega
  rw [this]
  exact le_refl _
 ·have h1 : u < (4294967298 : Nat) * a := by omega
  have := (div_lt_iff_lt_mul (show 0 < a by omega)).2 h1
  omega
theorem mQ {v u d : Nat} (hv : 0 < v) (hu : u < v) (hd : d < 4294967296) : (u * 4294967296 + d) / v < 4294967296 := by
 rw [div_lt_iff_lt_mul hv]
 have : (u + 1) * 4294967296 <= v * 4294967296 := Nat.mul_le_mul_right _ hu
 omega
theorem zD {v u d q r : Nat} (h : DigOK v u d q r) : q * v + r * 4294967296 = u * 4294967296 + q * (v % 4294967296) := by
 have e : q * v = q * (v / 4294967296) * 4294967296 + q * (v % 4294967296) := by
  have := div_add_mod v 4294967296
  calc q * v = q * (4294967296 * (v / 4294967296) + v % 4294967296) := by rw [this]
   _ = _ := by rw [Nat.mul_add]; congr 1; ac_rfl
 have := h.sum
 have e3 : u * 4294967296 = (q * (v / 4294967296) + r) * 4294967296 := by rw [this]
 rw [add_mul] at e3
 omega
theorem vD {v u d q r : Nat} (hv : 0 < v) (h : DigOK v u d q r) (hq : q * (v % 4294967296) <= 4294967296 * r + d) : q = (u * 4294967296 + d) / v := by
 refine Nat.le_antisymm ?_ h.up
 rw [Nat.le_div_iff_mul_le hv]
 have := zD h
 omega
theorem C2 {v u d q r : Nat} (hv : 0 < v) (hu : u < v) (hd : d < 4294967296) (h : DigOK v u d q r) (hq : 4294967296 <= q ∨ 4294967296 * r + d < q * (v % 4294967296)) : (u * 4294967296 + d) / v < q := by
 rcases hq with hq | hq
 ·have := mQ hv hu hd
  omega
 ·rw [div_lt_iff_lt_mul hv]
  have := zD h
  omega
theorem vE {v u d q r : Nat} (hv : 9223372036854775808 <= v) (hv' : v < 18446744073709551616) (hu : u < v) (hd : d < 4294967296) (h : DigOK v u d q r) (hq : 4294967296 <= q ∨ 4294967296 * r + d < q * (v % 4294967296)) :
  1 <= q /\ (q - 1) * (v / 4294967296) + (r + v / 4294967296) = u /\ (r + v / 4294967296 < 4294967296 -> DigOK v u d (q - 1) (r + v / 4294967296)) /\ (4294967296 <= r + v / 4294967296 -> q - 1 = (u * 4294967296 + d) / v) := by
 have hm := C2 (by omega) hu hd h hq
 have hq0 : 0 < q := Nat.lt_of_le_of_lt (zero_le _) hm
 obtain ⟨p, rfl⟩ : ∃ p, q = p + 1 := ⟨q - 1, by omega⟩
 rw [add_sub_cancel]
 have hs : p * (v / 4294967296) + (r + v / 4294967296) = u := by
  have := h.sum
  rw [add_mul, Nat.one_mul] at this
  omega
 have hn := h.near
 refine ⟨by omega, hs, λ h1 => ⟨hs, by omega, h1, by omega, .inr (by omega)⟩, λ h1 => ?_⟩
 refine Nat.le_antisymm ?_ (by omega)
 rw [Nat.le_div_iff_mul_le (by omega)]
 have e : p * v = p * (v / 4294967296) * 4294967296 + p * (v % 4294967296) := by
  have := div_add_mod v 4294967296
  calc p * v = p * (4294967296 * (v / 4294967296) + v % 4294967296) := by rw [this]
   _ = _ := by rw [Nat.mul_add]; congr 1; ac_rfl
 have e2 : p * (v % 4294967296) <= 4294967296 * 4294967296 := mul_le_mul (by omega) (by omega)
 have e3 : (p * (v / 4294967296) + (r + v / 4294967296)) * 4294967296 = u * 4294967296 := by rw [hs]
 rw [add_mul] at e3
 omega
theorem zE {v u d : Nat} (hv : 0 < v) (hv' : v < 18446744073709551616) : IntKind.wrap .u64 (IntKind.wrap .u64 (IntKind.wrap .u64 ((u : Int) * 4294967296) + (d : Int)) - IntKind.wrap .u64 ((((u * 4294967296 + d) / v : Nat) : Int) * (v : Int))) = (((u * 4294967296 + d) % v : Nat) : Int) := by
 have e := div_add_mod (u * 4294967296 + d) v
 have hm := mod_lt (u * 4294967296 + d) hv
 rw [mul_comm v] at e
 generalize hQ : (u * 4294967296 + d) / v = Q at *
 have e2 : ((Q * v : Nat) : Int) = (Q : Int) * (v : Int) := natCast_mul _ _
 rw [<- e2, IntKind.wrap_u64, IntKind.wrap_u64, IntKind.wrap_u64, IntKind.wrap_u64]
 omega
theorem y9 {X y s : Nat} (hy : 0 < y) : ∃ v U, v = y * 2 ^ s /\ U = X * 2 ^ s /\ X / y = (U / 18446744073709551616 * 4294967296 + U % 18446744073709551616 / 4294967296) / v * 4294967296 + ((U / 18446744073709551616 * 4294967296 + U % 18446744073709551616 / 4294967296) % v * 4294967296 + U % 4294967296) / v /\
  X % y * 2 ^ s = ((U / 18446744073709551616 * 4294967296 + U % 18446744073709551616 / 4294967296) % v * 4294967296 + U % 4294967296) % v := by
 refine ⟨_, _, rfl, rfl, ?_⟩
 have hp := two_pow_pos s
 have hv : 0 < y * 2 ^ s := Nat.mul_pos hy hp
 have h1 : X / y = X * 2 ^ s / (y * 2 ^ s) := (Nat.mul_div_mul_right X y hp).symm
 have h2 : X % y * 2 ^ s = X * 2 ^ s % (y * 2 ^ s) := (Nat.mul_mod_mul_right _ _ _).symm
 rw [h1, h2]
 generalize y * 2 ^ s = v at *
 generalize X * 2 ^ s = U at *
 have e0 : U / 18446744073709551616 * 4294967296 + U % 18446744073709551616 / 4294967296 = U / 4294967296 := by omega
 rw [e0]
 generalize hA : U / 4294967296 = A at *
 have eU : U = A * 4294967296 + U % 4294967296 := by omega
 generalize hd : U % 4294967296 = d at *
 have eA := div_add_mod A v
 generalize hQ : A / v = Q at *
 generalize hR : A % v = R at *
 have e1 : U = v * (Q * 4294967296) + (R * 4294967296 + d) := by
  rw [eU, <- eA, add_mul]
  rw [Nat.mul_assoc]
  omega
 rw [e1, Nat.mul_add_div hv, Nat.mul_add_mod]
 exact ⟨rfl, rfl⟩
noncomputable def CD : Ctx := mkC prog G0 [(475, .pure w7)]
@[simp] theorem Xf : CD.P = prog := rfl
@[simp] theorem Xe : CD.G = G0 := rfl
@[simp] theorem Xd : CD.S 475 = .pure w7 := rfl
theorem EG : aB CD := aH (Of) func475 (ax _ _)
def QOK (v u d q : Nat) : Prop := q = (u * 4294967296 + d) / v
structure Shifted (hi lo y s v u w : Nat) : Prop where
 hv : 9223372036854775808 <= v
 hv' : v < 18446744073709551616
 e1 : IntKind.wrap .u64 ((y : Int) * 2 ^ (min s (IntKind.bits .u64))) = (v : Int)
 e2 : ie .or .u64 (IntKind.wrap .u64 ((hi : Int) * 2 ^ (min s (IntKind.bits .u64)))) ((lo : Int).fdiv (2 ^ (min (IntKind.wrap .u64 (64 - (s : Int))).toNat (IntKind.bits .u64)))) = (u : Int)
 e3 : IntKind.wrap .u64 ((lo : Int) * 2 ^ (min s (IntKind.bits .u64))) = (w : Int)
 e4 : 0 <= IntKind.wrap .u64 (64 - (s : Int))
 hu : u < v
 hw : w < 18446744073709551616
 quo : (hi * 18446744073709551616 + lo) / y = (u * 4294967296 + w / 4294967296) / v * 4294967296 + ((u * 4294967296 + w / 4294967296) % v * 4294967296 + w % 4294967296) / v
 rem : (((u * 4294967296 + w / 4294967296) % v * 4294967296 + w % 4294967296) % v : Nat) = (hi * 18446744073709551616 + lo) % y * 2 ^ s
 hs : s <= 63
theorem Hx {hi lo y : Nat} (h1 : hi < y) (h2 : lo < 18446744073709551616) (h3 : y < 18446744073709551616) : ∃ v u w, Shifted hi lo y (64 - bl y) v u w := by
 have hy0 : y ≠ 0 := by omega
 have b1 := zm hy0
 have b2 := Il y
 have b3 := zn h3
 have b4 : 1 <= bl y := by unfold bl; rw [if_neg hy0]; omega
 obtain ⟨n, hn⟩ : ∃ n, bl y = n + 1 := ⟨bl y - 1, by omega⟩
 rw [hn] at b1 b2 b3 b4 ⊢
 rw [add_sub_cancel] at b1
 obtain ⟨s, hs⟩ : ∃ s, 64 - (n + 1) = s := ⟨_, rfl⟩
 rw [hs]
 have hsn : n + 1 + s = 64 := by omega
 have p2 : 2 ^ (n + 1) * 2 ^ s = 18446744073709551616 := by rw [<- pow_add, hsn]
 have p1 : 2 ^ n * 2 ^ s = 9223372036854775808 := by
  rw [Nat.pow_succ, Nat.mul_right_comm] at p2
  omega
 have ps := two_pow_pos s
 have v1 : 9223372036854775808 <= y * 2 ^ s := by rw [<- p1]; exact Nat.mul_le_mul_right _ b1
 have v2 : y * 2 ^ s < 18446744073709551616 := by rw [<- p2]; exact Nat.mul_lt_mul_of_pos_right b2 ps
 obtain ⟨v, U, rfl, rfl, q1, q2⟩ := y9 (X := hi * 18446744073709551616 + lo) (y := y) (s := s) (by omega)
 rw [show (hi * 18446744073709551616 + lo) * 2 ^ s % 4294967296 = (hi * 18446744073709551616 + lo) * 2 ^ s % 18446744073709551616 % 4294967296 by omega] at q1 q2
 have hh : (hi + 1) * 2 ^ s <= y * 2 ^ s := Nat.mul_le_mul_right _ h1
 rw [add_mul, Nat.one_mul] at hh
 have m0 : min s (IntKind.bits .u64) = s := by show min s 64 = s; omega
 have eU : (hi * 18446744073709551616 + lo) * 2 ^ s = hi * 2 ^ s * 18446744073709551616 + lo * 2 ^ s := by rw [add_mul]; congr 1; ac_rfl
 have w1 : IntKind.wrap .u64 (64 - (s : Int)) = ((64 - s : Nat) : Int) := by rw [IntKind.wrap_u64]; omega
 have lo1 : lo * 2 ^ s / 18446744073709551616 = lo / 2 ^ (64 - s) := by
  have : 18446744073709551616 = 2 ^ (64 - s) * 2 ^ s := by rw [<- pow_add]; rw [show 64 - s + s = 64 by omega]
  rw [this, Nat.mul_div_mul_right _ _ ps]
 have lo2 : lo / 2 ^ (64 - s) < 2 ^ s := by
  rw [div_lt_iff_lt_mul (two_pow_pos _), <- pow_add, show s + (64 - s) = 64 by omega]
  exact h2
 refine ⟨y * 2 ^ s, (hi * 18446744073709551616 + lo) * 2 ^ s / 18446744073709551616, (hi * 18446744073709551616 + lo) * 2 ^ s % 18446744073709551616, ⟨v1, v2, ?_, ?_, ?_, by omega, ?_, by omega, q1, q2.symm, by omega⟩⟩
 ·rw [m0, show (y : Int) * 2 ^ s = ((y * 2 ^ s : Nat) : Int) by simp, IntKind.wrap_u64]
  omega
 ·have m1 : min (IntKind.wrap .u64 (64 - (s : Int))).toNat (IntKind.bits .u64) = 64 - s := by rw [w1]; show min _ 64 = _; omega
  rw [m0, m1, show (hi : Int) * 2 ^ s = ((hi * 2 ^ s : Nat) : Int) by simp, gc _ (by omega), fdiv_eq_ediv_of_nonneg _ (Int.pow_nonneg (by decide)), show (lo : Int) / 2 ^ (64 - s) = ((lo / 2 ^ (64 - s) : Nat) : Int) by simp]
  rw [KE ⟨by omega, by omega⟩ ⟨by omega, by omega⟩ s (by omega) (by
   rw [show ((2 : Int) ^ s) = ((2 ^ s : Nat) : Int) by simp]
   have : hi * 2 ^ s % 2 ^ s = 0 := Nat.mul_mod_left _ _
   omega) (by
   rw [show ((2 : Int) ^ s) = ((2 ^ s : Nat) : Int) by simp]
   omega)]
  rw [eU, Nat.add_comm, Nat.add_mul_div_right _ _ (by decide), lo1]
  omega
 ·rw [m0, show (lo : Int) * 2 ^ s = ((lo * 2 ^ s : Nat) : Int) by simp, IntKind.wrap_u64, eU, Nat.mul_add_mod_self_right]
  omega
 ·rw [eU, div_lt_iff_lt_mul (by decide)]
  have : lo * 2 ^ s < 18446744073709551616 * 2 ^ s := Nat.mul_lt_mul_of_pos_right h2 ps
  have e3 : (hi * 2 ^ s + 2 ^ s) * 18446744073709551616 <= y * 2 ^ s * 18446744073709551616 := Nat.mul_le_mul_right _ hh
  rw [add_mul] at e3
  omega
def ko : List AV -> Option (Prop × AV)
 | [.int .u64 hi, .int .u64 lo, .int .u64 y] => some (0 <= hi /\ hi < y /\ W64 lo /\ y < 18446744073709551616, .tup [.int .u64 ((hi * 18446744073709551616 + lo) / y), .int .u64 ((hi * 18446744073709551616 + lo) % y)])
 | _ => none
theorem JI : PureOK prog G0 454 ko := by
 refine ey EG mixed func454 rfl rfl rfl (by kernel_rfl) (λ avs ob r hp hob => ?_)
 unfold ko at hp
 split at hp
 case h_2 => cases hp
 rename_i hi lo y
 injection hp with hp; injection hp with e1 e2; subst e1 e2
 obtain ⟨i0, i1, ⟨l0, l1⟩, y1⟩ := hob
 obtain ⟨hi, rfl⟩ := eq_ofNat_of_zero_le i0
 obtain ⟨lo, rfl⟩ := eq_ofNat_of_zero_le l0
 obtain ⟨y, rfl⟩ := eq_ofNat_of_zero_le (a := y) (by omega)
 refine ⟨(by show 3 <= _; decide), ?_⟩
 have n1 : ¬ y = 0 := by omega
 have n2 : ¬ (y : Int) <= hi := by omega
 by_cases h0 : hi = 0
 ·subst h0
  have q1 : ((lo : Int)).tdiv y = (lo : Int) / y := Int.tdiv_eq_ediv_of_nonneg (by omega)
  have q2 : ((lo : Int)).tmod y = (lo : Int) % y := tmod_eq_emod_of_nonneg (by omega)
  have q3 : IntKind.wrap .u64 ((lo : Int) / y) = (lo : Int) / y := by
   have : ((lo / y : Nat) : Int) = (lo : Int) / y := natCast_ediv _ _
   have h := div_le_self lo y
   rw [<- this, gc _ (by omega)]
  have n3 : 0 < y := by omega
  simp [ac, ag, ae, am, ap, aa, au, ab, ao, ak, ah, ai, aj, argsρ, n1, n2, q1, q2, q3, n3]
 obtain ⟨v, u, w, S⟩ := Hx (hi := hi) (lo := lo) (y := y) (by omega) (by omega) (by omega)
 have wy : W64 (y : Int) := ⟨by omega, y1⟩
 have w1 : IntKind.wrap .u64 (((64 - bl y : Nat) : Int)) = ((64 - bl y : Nat) : Int) := gc _ (by omega)
 have E1 := S.e1
 have E2 := S.e2
 have E3 := S.e3
 have E4 := S.e4
 generalize hs : 64 - bl y = s at *
 have hv := S.hv
 have hv' := S.hv'
 have hu := S.hu
 have hw := S.hw
 have a1 := ph v hv'
 have a2 := ph w hw
 have f1 := JO v
 have f2 := JO w
 obtain ⟨d1, hd1⟩ : ∃ d, w / 4294967296 = d := ⟨_, rfl⟩
 obtain ⟨d0, hd0⟩ : ∃ d, w % 4294967296 = d := ⟨_, rfl⟩
 obtain ⟨b1, hb1⟩ : ∃ d, v / 4294967296 = d := ⟨_, rfl⟩
 obtain ⟨b0, hb0⟩ : ∃ d, v % 4294967296 = d := ⟨_, rfl⟩
 rw [hd1] at f2
 rw [hd0] at a2
 rw [hb1] at f1
 rw [hb0] at a1
 have hd1' : d1 < 4294967296 := by omega
 have hd0' : d0 < 4294967296 := by omega
 have hb0' : b0 < 4294967296 := by omega
 have b1n : ¬ b1 = 0 := by omega
 have HsA := rK (d := d1) hv hv' hu hd1'
 have cA1 : IntKind.wrap .u64 ((u : Int) / b1) = ((u / b1 : Nat) : Int) := by
  rw [<- natCast_ediv]
  have := div_le_self u b1
  exact gc _ (by omega)
 have mA := Nat.div_mul_le_self u b1
 rw [hb1] at HsA
 obtain ⟨qA, hqA⟩ : ∃ q, u / b1 = q := ⟨_, rfl⟩
 rw [hqA] at HsA cA1 mA
 have cA2 : IntKind.wrap .u64 ((u : Int) - IntKind.wrap .u64 ((qA : Int) * b1)) = ((u - qA * b1 : Nat) : Int) := by
  rw [<- natCast_mul, gc _ (by omega), gq]
  omega
 obtain ⟨rA, hrA⟩ : ∃ r, u - qA * b1 = r := ⟨_, rfl⟩
 rw [hrA] at HsA cA2
 simp [ac, ag, ae, am, ap, aa, au, ab, ao, ak, ah, ai, aj, argsρ, n1, n2, h0, w7, wy, hs, w1, E1, E2, E3, E4, a1, a2, f1, f2, cA1, cA2, b1n]
 refine wo EG mixed 0 (λ p : Nat × Nat => ⟨[(2, .int .u64 v), (6, .int .u64 0), (7, .int .u64 0), (8, .int .u64 s), (9, .int .u64 b1), (10, .int .u64 b0), (11, .int .u64 u), (12, .int .u64 w), (13, .int .u64 d1), (14, .int .u64 d0), (15, .int .u64 p.1), (16, .int .u64 p.2)], []⟩) (λ p => QOK v u d1 p.1) (λ p : Nat × Nat => ⟨[(2, .int .u64 v), (6, .int .u64 0), (7, .int .u64 0), (8, .int .u64 s), (9, .int .u64 b1), (10, .int .u64 b0), (11, .int .u64 u), (12, .int .u64 w), (13, .int .u64 d1), (14, .int .u64 d0), (15, .int .u64 p.1), (16, .int .u64 p.2)], []⟩) (λ p => DigOK v u d1 p.1 p.2) (λ p => p.1) (by kernel_rfl) ⟨(qA, rA), HsA, ar (by simp)⟩ (λ ⟨q, r⟩ H => ?_) (λ ⟨q, r⟩ H => ?_)
 ·simp only at H ⊢
  have hn := H.near
  have hr := H.small
  have k1 : IntKind.wrap .u64 (4294967296 * (r : Int)) = ((4294967296 * r : Nat) : Int) := by rw [gq]; omega
  have k2 : IntKind.wrap .u64 (((4294967296 * r : Nat) : Int) + d1) = ((4294967296 * r + d1 : Nat) : Int) := by rw [gq]; omega
  have step : (4294967296 <= q ∨ 4294967296 * r + d1 < q * b0) -> IntKind.wrap .u64 ((q : Int) - 1) = ((q - 1 : Nat) : Int) /\ IntKind.wrap .u64 ((r : Int) + b1) = ((r + b1 : Nat) : Int) /\ q - 1 < q /\ (r + b1 < 4294967296 -> DigOK v u d1 (q - 1) (r + b1)) /\ (4294967296 <= r + b1 -> q - 1 = (u * 4294967296 + d1) / v) := λ h => by
   have := vE hv hv' hu hd1' H (by rw [hb0]; exact h)
   rw [hb1] at this
   refine ⟨by rw [gq]; omega, by rw [gq]; omega, by omega, this.2.2.1, this.2.2.2⟩
  by_cases t1 : 4294967296 <= q
  ·obtain ⟨s1, s2, s5, s3, s4⟩ := step (.inl t1)
   generalize q - 1 = q' at s1 s3 s4 s5
   generalize r + b1 = r' at s2 s3 s4
   have t1' : (4294967296 : Int) <= q := by omega
   by_cases t2 : 4294967296 <= r'
   ·have t2' : (4294967296 : Int) <= r' := by omega
    simp [ac, ag, ae, am, ap, aa, au, ab, ao, ak, ah, ai, aj, t1', s1, s2, t2']
    exact ⟨q', s4 t2, r', ar (by simp)⟩
   ·have t2' : ¬ (4294967296 : Int) <= r' := by omega
    simp [ac, ag, ae, am, ap, aa, au, ab, ao, ak, ah, ai, aj, t1', s1, s2, t2']
    exact ⟨q', r', s3 (by omega), s5, ar (by simp)⟩
  ·have t1' : ¬ (4294967296 : Int) <= q := by omega
   have qb : q * b0 < 18446744073709551616 := Nat.lt_of_le_of_lt (mul_le_mul (n₂ := 4294967295) (m₂ := 4294967295) (by omega) (by omega)) (by decide)
   have k3 : IntKind.wrap .u64 ((q : Int) * b0) = ((q * b0 : Nat) : Int) := by rw [<- natCast_mul]; exact gc _ qb
   obtain ⟨x1, hx1⟩ : ∃ x, 4294967296 * r = x := ⟨_, rfl⟩
   obtain ⟨x2, hx2⟩ : ∃ x, x1 + d1 = x := ⟨_, rfl⟩
   obtain ⟨x3, hx3⟩ : ∃ x, q * b0 = x := ⟨_, rfl⟩
   rw [hx1] at k1 k2 step
   rw [hx2] at k2 step
   rw [hx3] at k3 step
   by_cases t3 : x2 < x3
   ·obtain ⟨s1, s2, s5, s3, s4⟩ := step (.inr t3)
    generalize q - 1 = q' at s1 s3 s4 s5
    generalize r + b1 = r' at s2 s3 s4
    by_cases t2 : 4294967296 <= r'
    ·have t2' : (4294967296 : Int) <= r' := by omega
     simp [ac, ag, ae, am, ap, aa, au, ab, ao, ak, ah, ai, aj, t1', k1, k2, k3, t3, s1, s2, t2']
     exact ⟨q', s4 t2, r', ar (by simp)⟩
    ·have t2' : ¬ (4294967296 : Int) <= r' := by omega
     simp [ac, ag, ae, am, ap, aa, au, ab, ao, ak, ah, ai, aj, t1', k1, k2, k3, t3, s1, s2, t2']
     exact ⟨q', r', s3 (by omega), s5, ar (by simp)⟩
   ·simp [ac, ag, ae, am, ap, aa, au, ab, ao, ak, ah, ai, aj, t1', k1, k2, k3, t3]
    exact ⟨q, vD (by omega) H (by rw [hb0]; omega), r, ar (by simp)⟩
 ·simp only at H ⊢
  have g1 := zE (u := u) (d := d1) (by omega : 0 < v) hv'
  have hu1 := mod_lt (u * 4294967296 + d1) (by omega : 0 < v)
  have Q := S.quo
  have R := S.rem
  rw [hd1, hd0] at Q R
  unfold QOK at H
  rw [<- H] at g1 Q
  obtain ⟨u1, hu1e⟩ : ∃ x, (u * 4294967296 + d1) % v = x := ⟨_, rfl⟩
  rw [hu1e] at g1 hu1 Q R
  have HsB := rK (d := d0) hv hv' hu1 hd0'
  have cB1 : IntKind.wrap .u64 ((u1 : Int) / b1) = ((u1 / b1 : Nat) : Int) := by
   rw [<- natCast_ediv]
   have := div_le_self u1 b1
   exact gc _ (by omega)
  have mB := Nat.div_mul_le_self u1 b1
  rw [hb1] at HsB
  obtain ⟨qB, hqB⟩ : ∃ q, u1 / b1 = q := ⟨_, rfl⟩
  rw [hqB] at HsB cB1 mB
  have cB2 : IntKind.wrap .u64 ((u1 : Int) - IntKind.wrap .u64 ((qB : Int) * b1)) = ((u1 - qB * b1 : Nat) : Int) := by
   rw [<- natCast_mul, gc _ (by omega), gq]
   omega
  obtain ⟨rB, hrB⟩ : ∃ r, u1 - qB * b1 = r := ⟨_, rfl⟩
  rw [hrB] at HsB cB2
  simp [ac, ag, ae, am, ap, aa, au, ab, ao, ak, ah, ai, aj, g1, cB1, cB2, b1n]
  refine wo EG mixed 2 (λ p : Nat × Nat => ⟨[(2, .int .u64 v), (6, .int .u64 0), (7, .int .u64 0), (8, .int .u64 s), (9, .int .u64 b1), (10, .int .u64 b0), (11, .int .u64 u), (12, .int .u64 w), (13, .int .u64 d1), (14, .int .u64 d0), (15, .int .u64 q), (17, .int .u64 u1), (18, .int .u64 p.1), (16, .int .u64 p.2)], []⟩) (λ p => QOK v u1 d0 p.1) (λ p : Nat × Nat => ⟨[(2, .int .u64 v), (6, .int .u64 0), (7, .int .u64 0), (8, .int .u64 s), (9, .int .u64 b1), (10, .int .u64 b0), (11, .int .u64 u), (12, .int .u64 w), (13, .int .u64 d1), (14, .int .u64 d0), (15, .int .u64 q), (17, .int .u64 u1), (18, .int .u64 p.1), (16, .int .u64 p.2)], []⟩) (λ p => DigOK v u1 d0 p.1 p.2) (λ p => p.1) (by kernel_rfl) ⟨(qB, rB), HsB, ar (by simp)⟩ (λ ⟨q, r⟩ H => ?_) (λ ⟨q2, r2⟩ H2 => ?_)
  ·simp only at H ⊢
   have hn := H.near
   have hr := H.small
   have k1 : IntKind.wrap .u64 (4294967296 * (r : Int)) = ((4294967296 * r : Nat) : Int) := by rw [gq]; omega
   have k2 : IntKind.wrap .u64 (((4294967296 * r : Nat) : Int) + d0) = ((4294967296 * r + d0 : Nat) : Int) := by rw [gq]; omega
   have step : (4294967296 <= q ∨ 4294967296 * r + d0 < q * b0) -> IntKind.wrap .u64 ((q : Int) - 1) = ((q - 1 : Nat) : Int) /\ IntKind.wrap .u64 ((r : Int) + b1) = ((r + b1 : Nat) : Int) /\ q - 1 < q /\ (r + b1 < 4294967296 -> DigOK v u1 d0 (q - 1) (r + b1)) /\ (4294967296 <= r + b1 -> q - 1 = (u1 * 4294967296 + d0) / v) := λ h => by
    have := vE hv hv' hu1 hd0' H (by rw [hb0]; exact h)
    rw [hb1] at this
    refine ⟨by rw [gq]; omega, by rw [gq]; omega, by omega, this.2.2.1, this.2.2.2⟩
   by_cases t1 : 4294967296 <= q
   ·obtain ⟨s1, s2, s5, s3, s4⟩ := step (.inl t1)
    generalize q - 1 = q' at s1 s3 s4 s5
    generalize r + b1 = r' at s2 s3 s4
    have t1' : (4294967296 : Int) <= q := by omega
    by_cases t2 : 4294967296 <= r'
    ·have t2' : (4294967296 : Int) <= r' := by omega
     simp [ac, ag, ae, am, ap, aa, au, ab, ao, ak, ah, ai, aj, t1', s1, s2, t2']
     exact ⟨q', s4 t2, r', ar (by simp)⟩
    ·have t2' : ¬ (4294967296 : Int) <= r' := by omega
     simp [ac, ag, ae, am, ap, aa, au, ab, ao, ak, ah, ai, aj, t1', s1, s2, t2']
     exact ⟨q', r', s3 (by omega), s5, ar (by simp)⟩
   ·have t1' : ¬ (4294967296 : Int) <= q := by omega
    have qb : q * b0 < 18446744073709551616 := Nat.lt_of_le_of_lt (mul_le_mul (n₂ := 4294967295) (m₂ := 4294967295) (by omega) (by omega)) (by decide)
    have k3 : IntKind.wrap .u64 ((q : Int) * b0) = ((q * b0 : Nat) : Int) := by rw [<- natCast_mul]; exact gc _ qb
    obtain ⟨x1, hx1⟩ : ∃ x, 4294967296 * r = x := ⟨_, rfl⟩
    obtain ⟨x2, hx2⟩ : ∃ x, x1 + d0 = x := ⟨_, rfl⟩
    obtain ⟨x3, hx3⟩ : ∃ x, q * b0 = x := ⟨_, rfl⟩
    rw [hx1] at k1 k2 step
    rw [hx2] at k2 step
    rw [hx3] at k3 step
    by_cases t3 : x2 < x3
    ·obtain ⟨s1, s2, s5, s3, s4⟩ := step (.inr t3)
     generalize q - 1 = q' at s1 s3 s4 s5
     generalize r + b1 = r' at s2 s3 s4
     by_cases t2 : 4294967296 <= r'
     ·have t2' : (4294967296 : Int) <= r' := by omega
      simp [ac, ag, ae, am, ap, aa, au, ab, ao, ak, ah, ai, aj, t1', k1, k2, k3, t3, s1, s2, t2']
      exact ⟨q', s4 t2, r', ar (by simp)⟩
     ·have t2' : ¬ (4294967296 : Int) <= r' := by omega
      simp [ac, ag, ae, am, ap, aa, au, ab, ao, ak, ah, ai, aj, t1', k1, k2, k3, t3, s1, s2, t2']
      exact ⟨q', r', s3 (by omega), s5, ar (by simp)⟩
    ·simp [ac, ag, ae, am, ap, aa, au, ab, ao, ak, ah, ai, aj, t1', k1, k2, k3, t3]
     exact ⟨q, vD (by omega) H (by rw [hb0]; omega), r, ar (by simp)⟩
  ·simp only at H2 ⊢
   have z2 := zE (u := u1) (d := d0) (by omega : 0 < v) hv'
   unfold QOK at H2
   rw [<- H2] at z2 Q
   rw [R] at z2
   have hq1 : q < 4294967296 := by rw [H]; exact mQ (by omega) hu hd1'
   have hq2 : q2 < 4294967296 := by rw [H2]; exact mQ (by omega) hu1 hd0'
   have z1 : IntKind.wrap .u64 (IntKind.wrap .u64 ((q : Int) * 4294967296) + q2) = ((hi : Int) * 18446744073709551616 + lo) / y := by
    have e : (((hi * 18446744073709551616 + lo) / y : Nat) : Int) = ((hi : Int) * 18446744073709551616 + lo) / y := by simp
    rw [<- e, Q, gq, gq]
    omega
   have z3 : (((hi * 18446744073709551616 + lo) % y * 2 ^ s : Nat) : Int).fdiv (2 ^ min s (IntKind.bits .u64)) = ((hi : Int) * 18446744073709551616 + lo) % y := by
    have e : (((hi * 18446744073709551616 + lo) % y : Nat) : Int) = ((hi : Int) * 18446744073709551616 + lo) % y := by simp
    have m0 : min s (IntKind.bits .u64) = s := by have := S.hs; show min s 64 = s; omega
    rw [m0, <- e, natCast_mul, fdiv_eq_ediv_of_nonneg _ (Int.pow_nonneg (by decide)), show (((2 ^ s : Nat)) : Int) = (2 : Int) ^ s by simp, Int.mul_ediv_cancel]
    have := two_pow_pos s
    have e2 : ((2 ^ s : Nat) : Int) = (2 : Int) ^ s := by simp
    omega
   generalize ((hi * 18446744073709551616 + lo) % y * 2 ^ s : Nat) = z at z2 z3
   simp [ac, ag, ae, am, ap, aa, au, ab, ao, ak, ah, ai, aj, z1, z2, z3]
noncomputable def CM1 : Ctx := mkC prog G0 [(454, .pure ko)]
@[simp] theorem T0 : CM1.P = prog := rfl
@[simp] theorem TZ : CM1.G = G0 := rfl
@[simp] theorem TY : CM1.S 454 = .pure ko := rfl
theorem EK : aB CM1 := aH (JI) func454 (ax _ _)
theorem zP {x : Wide} (g : GoodW x) : (cD x : Int) = x.hi * 18446744073709551616 + x.lo := by
 have := g.hi.1
 have := g.lo.1
 unfold cD
 omega
def qo : List AV -> Option (Prop × AV)
 | [.agg [.bool n, .int .u64 h, .int .u64 l], .int .u64 m] => some (GoodW ⟨n, h, l⟩ /\ 0 < m /\ m < 18446744073709551616, .int .u64 ((cD ⟨n, h, l⟩ : Int) % m))
 | _ => none
theorem Oh : PureOK prog G0 421 qo := by
 refine ey EK mixed func421 rfl rfl rfl (by kernel_rfl) (λ avs ob r hp hob => ?_)
 unfold qo at hp
 split at hp
 case h_2 => cases hp
 rename_i n h l m
 injection hp with hp; injection hp with e1 e2; subst e1 e2
 obtain ⟨g, m0, m1⟩ := hob
 have e := zP g
 obtain ⟨⟨h0, h1⟩, ⟨l0, l1⟩⟩ := g
 simp only at h0 h1 l0 l1 e
 refine ⟨(by show 2 <= _; decide), ?_⟩
 have t1 : h.tmod m = h % m := tmod_eq_emod_of_nonneg h0
 have t2 := Int.emod_nonneg h (show m ≠ 0 by omega)
 have t3 := Int.emod_lt_of_pos h m0
 have t4 : ¬ m = 0 := by omega
 have e2 : (h % m * 18446744073709551616 + l) % m = (h * 18446744073709551616 + l) % m := by
  rw [Int.add_emod, Int.mul_emod, Int.emod_emod_of_dvd _ (Int.dvd_refl m), <- Int.mul_emod, <- Int.add_emod]
 simp [ac, ag, ae, am, ap, aa, au, ab, ao, ak, ah, ai, aj, argsρ, ko, t1, t2, t3, t4, W64, l0, l1, m1, e, e2]
def nH (x : Wide) (m : Int) : Int × Bool := if InR ((cD x : Int) / m) then (if x.neg then -((cD x : Int) / m) else (cD x : Int) / m, true) else (0, false)
def lH : List AV -> Option (Prop × AV)
 | [.agg [.bool n, .int .u64 h, .int .u64 l], .int .u64 m] => some (GoodW ⟨n, h, l⟩ /\ 0 < m /\ m <= 1000000000000000, .tup [.int .i64 (nH ⟨n, h, l⟩ m).1, .bool (nH ⟨n, h, l⟩ m).2])
 | _ => none
theorem KI : PureOK prog G0 422 lH := by
 refine ey EK mixed func422 rfl rfl rfl (by kernel_rfl) (λ avs ob r hp hob => ?_)
 unfold lH at hp
 split at hp
 case h_2 => cases hp
 rename_i n h l m
 injection hp with hp; injection hp with e1 e2; subst e1 e2
 obtain ⟨g, m0, m1⟩ := hob
 have e := zP g
 obtain ⟨⟨h0, h1⟩, ⟨l0, l1⟩⟩ := g
 simp only at h0 h1 l0 l1 e
 refine ⟨(by show 2 <= _; decide), ?_⟩
 unfold nH
 rw [e]
 by_cases hm : m <= h
 ·have big : 18446744073709551616 <= (h * 18446744073709551616 + l) / m := by
   rw [Int.le_ediv_iff_mul_le m0]
   omega
  have no : ¬ InR ((h * 18446744073709551616 + l) / m) := by unfold InR; omega
  simp [ac, ag, ae, am, ap, aa, au, ab, ao, ak, ah, ai, aj, argsρ, hm, no]
 have m2 : m < 18446744073709551616 := by omega
 have hm' : h < m := by omega
 have q0 : 0 <= (h * 18446744073709551616 + l) / m := Int.ediv_nonneg (by omega) (by omega)
 obtain ⟨q, hqe⟩ : ∃ q, (h * 18446744073709551616 + l) / m = q := ⟨_, rfl⟩
 rw [hqe] at q0 ⊢
 by_cases hq : 1000000000000000 < q
 ·have no : ¬ InR q := by unfold InR; omega
  simp [ac, ag, ae, am, ap, aa, au, ab, ao, ak, ah, ai, aj, argsρ, ko, hm, hm', hq, no, W64, l0, l1, m2, h0, hqe]
 ·have yes : InR q := by unfold InR; omega
  have w1 : IntKind.wrap .i64 q = q := IntWalk.i64_in _ (by omega)
  have w2 : IntKind.wrap .i64 (-q) = -q := IntWalk.i64_in _ (by omega)
  cases n
  ·simp [ac, ag, ae, am, ap, aa, au, ab, ao, ak, ah, ai, aj, argsρ, ko, hm, hm', hq, yes, W64, l0, l1, m2, h0, w1, w2, hqe]
  ·simp [ac, ag, ae, am, ap, aa, au, ab, ao, ak, ah, ai, aj, argsρ, ko, hm, hm', hq, yes, W64, l0, l1, m2, h0, w1, w2, hqe]
def cg : PSp := aN (λ (_ : Fr) => True) (λ a => .bool (decide (bM a)))
noncomputable def CV : Ctx := mkC prog G0 [(293, .pure sIn), (354, .pure js)]
@[simp] theorem Xw : CV.P = prog := rfl
@[simp] theorem Xv : CV.G = G0 := rfl
@[simp] theorem Xu : CV.S 293 = .pure sIn /\ CV.S 354 = .pure js := ⟨rfl, rfl⟩
theorem OS : aB CV := aH (inP) func293 (aH (N3) func354 (ax _ _))
theorem lX {a b : Int} (ha : InR a) (hb : InR b) : Bi a b = Int.gcd a b := if_pos ⟨ha, hb⟩
theorem Fk : PureOK prog G0 294 cg := by
 refine ci OS mixed func294 rfl rfl rfl (by kernel_rfl) (by decide) (λ a _ => ?_)
 obtain ⟨n, d⟩ := a
 by_cases h1 : 1 <= d
 case neg => simp [ac, ag, ae, am, ap, aa, au, ab, ao, ak, ah, ai, aj, sIn, js, h1, bM]
 by_cases h2 : d <= 1000000000000000
 case neg => simp [ac, ag, ae, am, ap, aa, au, ab, ao, ak, ah, ai, aj, sIn, js, h1, h2, bM]
 by_cases h3 : InR n
 case neg => simp [ac, ag, ae, am, ap, aa, au, ab, ao, ak, ah, ai, aj, sIn, js, h1, h2, h3, bM]
 have e := lX h3 (show InR d by unfold InR; omega)
 have e2 : ((Int.gcd n d : Nat) : Int) = 1 ↔ Int.gcd n d = 1 := by omega
 simp [ac, ag, ae, am, ap, aa, au, ab, ao, ak, ah, ai, aj, sIn, js, h1, h2, h3, bM, e, e2]
noncomputable def CFr : Ctx := mkC prog G0 [(294, .pure cg), (354, .pure js), (423, .pure mi), (385, .pure iW), (386, .pure iV), (387, .pure fN), (421, .pure qo), (422, .pure lH)]
@[simp] theorem TF : CFr.P = prog := rfl
@[simp] theorem TE : CFr.G = G0 := rfl
@[simp] theorem TD : CFr.S 294 = .pure cg /\ CFr.S 354 = .pure js /\ CFr.S 423 = .pure mi /\ CFr.S 385 = .pure iW /\ CFr.S 386 = .pure iV /\ CFr.S 387 = .pure fN /\ CFr.S 421 = .pure qo /\ CFr.S 422 = .pure lH := ⟨rfl, rfl, rfl, rfl, rfl, rfl, rfl, rfl⟩
theorem ng : aB CFr := aH (Fk) func294 (aH (N3) func354 (aH (Oi) func423 (aH (IV) func385 (aH (IU) func386 (aH (EZ) func387 (aH (Oh) func421 (aH (KI) func422 (ax _ _))))))))
theorem lJ {n g : Int} (h : InR n) (hg : 0 < g) : InR (n.tdiv g) /\ IntKind.wrap .i64 (n.tdiv g) = n.tdiv g := by
 have h1 : (n.tdiv g).natAbs <= n.natAbs := by rw [Int.natAbs_tdiv]; exact div_le_self _ _
 unfold InR at h
 have : InR (n.tdiv g) := by unfold InR; omega
 refine ⟨this, IntWalk.i64_in _ ?_⟩
 unfold InR at this
 omega
def Er : PSp := aW (λ (_ _ : Fr) => True) (λ a b => .tup [Enc.enc (DE a b).1, .bool (DE a b).2])
theorem zW {a b : Fr} (h : ¬ (bM a /\ bM b)) : DE a b = (F00, false) := if_neg h
theorem Dj {a b : Int} (ha : InR a) (hb : InR b) (h0 : b ≠ 0) : 0 < Int.gcd a b /\ InR (Int.gcd a b) := by
 have h1 := Int.gcd_pos_of_ne_zero_right a h0
 have h2 := Int.gcd_le_natAbs_right a h0
 unfold InR at *
 omega
theorem G3 {a b : Int} {c d : Int} (h1 : InR a) (h2 : InR b) (h3 : InR c) (h4 : InR d) : yx (a * b) (c * d) = if (lA a b).2 = true /\ (lA c d).2 = true then (⟨(lA a b).1, (lA c d).1⟩, true) else (F00, false) := by
 unfold yx lA
 by_cases h5 : InR (a * b) <;> by_cases h6 : InR (c * d) <;> simp [h1, h2, h3, h4, h5, h6]
theorem R7 : PureOK prog G0 377 Er := by
 refine db ng mixed func377 rfl rfl rfl (by kernel_rfl) (by decide) (λ a b _ => ?_)
 by_cases ha : bM a
 case neg =>
  have e := zW (a := a) (b := b) (λ h => ha h.1)
  simp [ac, ag, ae, am, ap, aa, au, ab, ao, ak, ah, ai, aj, cg, ha, e, F00]
 by_cases hb : bM b
 case neg =>
  have e := zW (a := a) (b := b) (λ h => hb h.2)
  simp [ac, ag, ae, am, ap, aa, au, ab, ao, ak, ah, ai, aj, cg, ha, hb, e, F00]
 have e := Bu ha hb
 have ha' := ha
 have hb' := hb
 obtain ⟨a1, a2, a3, a4⟩ := ha'
 obtain ⟨b1, b2, b3, b4⟩ := hb'
 have a5 : InR a.D := by unfold InR; omega
 have b5 : InR b.D := by unfold InR; omega
 obtain ⟨g0, g1⟩ := Dj a3 b5 (by omega)
 obtain ⟨h0, h1⟩ := Dj b3 a5 (by omega)
 have i1 := lX a3 b5
 have i2 := lX b3 a5
 generalize Int.gcd a.N b.D = g at *
 generalize Int.gcd b.N a.D = h at *
 obtain ⟨p1, q1⟩ := lJ a3 (g := g) (by omega)
 obtain ⟨p2, q2⟩ := lJ b3 (g := h) (by omega)
 obtain ⟨p3, q3⟩ := lJ a5 (g := h) (by omega)
 obtain ⟨p4, q4⟩ := lJ b5 (g := g) (by omega)
 rw [G3 p1 p2 p3 p4] at e
 have g2 : ¬ g = 0 := by omega
 have h2 : ¬ h = 0 := by omega
 have q1 : w64 _ = _ := q1
 have q2 : w64 _ = _ := q2
 have q3 : w64 _ = _ := q3
 have q4 : w64 _ = _ := q4
 obtain ⟨n1, f1, e1⟩ : ∃ n f, lA (a.N.tdiv g) (b.N.tdiv h) = (n, f) := ⟨_, _, rfl⟩
 obtain ⟨n2, f2, e2⟩ : ∃ n f, lA (a.D.tdiv h) (b.D.tdiv g) = (n, f) := ⟨_, _, rfl⟩
 rw [e1, e2] at e
 simp only at e
 cases f1
 ·simp [ac, ag, ae, am, ap, aa, au, ab, ao, ak, ah, ai, aj, cg, js, mi, ha, hb, i1, i2, q1, q2, q3, q4, g2, h2, e1, e2, e, F00]
 ·cases f2
  ·simp [ac, ag, ae, am, ap, aa, au, ab, ao, ak, ah, ai, aj, cg, js, mi, ha, hb, i1, i2, q1, q2, q3, q4, g2, h2, e1, e2, e, F00]
  ·simp [ac, ag, ae, am, ap, aa, au, ab, ao, ak, ah, ai, aj, cg, js, mi, ha, hb, i1, i2, q1, q2, q3, q4, g2, h2, e1, e2, e, F00]
theorem Ag {α β : Type} (x : α × β) : ∃ a b, x = (a, b) := ⟨x.1, x.2, rfl⟩
theorem DM {x y : Wide} (gx : GoodW x) (gy : GoodW y) : ((if (fX x y).neg then -(cD (fX x y) : Int) else cD (fX x y)) : Int) = (if x.neg then -(cD x : Int) else cD x) + (if y.neg then -(cD y : Int) else cD y) := by
 unfold fX
 cases hx : x.neg <;> cases hy : y.neg <;> simp
 ·split <;> simp <;> omega
 ·split <;> simp <;> omega
 ·omega
def HP (x : Wide) : Int := if x.neg then -(cD x : Int) else cD x
theorem wG {a b : Int} : HP (dY a b) = a * b := by
 unfold HP dY
 rw [yg, Ky, natCast_mul]
 by_cases ha : a < 0 <;> by_cases hb : b < 0
 ·have e1 : (a.natAbs : Int) = -a := by omega
  have e2 : (b.natAbs : Int) = -b := by omega
  simp [ha, hb, e1, e2, neg_mul, mul_neg]
 ·have e1 : (a.natAbs : Int) = -a := by omega
  have e2 : (b.natAbs : Int) = b := by omega
  simp [ha, hb, e1, e2, neg_mul, mul_neg]
 ·have e1 : (a.natAbs : Int) = a := by omega
  have e2 : (b.natAbs : Int) = -b := by omega
  simp [ha, hb, e1, e2, neg_mul, mul_neg]
 ·have e1 : (a.natAbs : Int) = a := by omega
  have e2 : (b.natAbs : Int) = b := by omega
  simp [ha, hb, e1, e2, neg_mul, mul_neg]
theorem Bl {x y : Wide} (gx : GoodW x) (gy : GoodW y) (hx : cD x <= 10000000000000000000000000000000) (hy : cD y <= 10000000000000000000000000000000) : GoodW (fX x y) := by
 unfold fX
 split
 ·exact oo (by omega)
 ·split
  ·exact oo (by omega)
  ·exact oo (by omega)
structure SumW (T : Wide) (t : Int) : Prop where
 good : GoodW T
 mag : cD T = t.natAbs
 val : T.neg = true -> t <= 0
 val' : T.neg = false -> 0 <= t
theorem OZ {a b c d : Int} (ha : InR a) (hb : InR b) (hc : InR c) (hd : InR d) : SumW (fX (dY a b) (dY c d)) (a * b + c * d) := by
 have g1 := gP ha hb
 have g2 := gP hc hd
 have m1 : cD (dY a b) = a.natAbs * b.natAbs := yg _ _
 have m2 : cD (dY c d) = c.natAbs * d.natAbs := yg _ _
 have b1 := li ha hb
 have b2 := li hc hd
 have v1 := wG (a := a) (b := b)
 have v2 := wG (a := c) (b := d)
 have v := DM g1 g2
 have e1 : HP (dY a b) = if (dY a b).neg = true then -(cD (dY a b) : Int) else cD (dY a b) := rfl
 have e2 : HP (dY c d) = if (dY c d).neg = true then -(cD (dY c d) : Int) else cD (dY c d) := rfl
 rw [<- e1, <- e2, v1, v2] at v
 have g3 := Bl g1 g2 (by omega) (by omega)
 generalize fX (dY a b) (dY c d) = T at *
 generalize a * b + c * d = t at *
 refine ⟨g3, ?_, λ h => ?_, λ h => ?_⟩
 ·cases h : T.neg <;> rw [h] at v <;> simp at v <;> omega
 ·rw [h] at v; simp at v; omega
 ·rw [h] at v; simp at v; omega
theorem vV (t : Int) (g : Nat) : Int.gcd ((t.natAbs : Int) % (g : Int)) g = Int.gcd t g := by
 have e : ((t.natAbs : Int) % (g : Int)) = ((t.natAbs % g : Nat) : Int) := by simp
 rw [e]
 unfold Int.gcd
 rw [natAbs_natCast, natAbs_natCast, Nat.gcd_comm t.natAbs, Nat.gcd_rec g t.natAbs]
theorem Fa {t : Int} (h : t <= 0) {m : Nat} (hm : 0 < m) : t.tdiv m <= 0 := by
 have h1 : (-t).tdiv m = -(t.tdiv m) := Int.neg_tdiv _ _
 have h2 := Int.tdiv_nonneg (a := -t) (b := m) (by omega) (by omega)
 omega
theorem DL {T : Wide} {t : Int} (h : SumW T t) {m : Nat} (hm : 0 < m) : nH T m = if InR (t.tdiv m) then (t.tdiv m, true) else (0, false) := by
 unfold nH
 rw [h.mag]
 have e : ((t.natAbs : Int) / (m : Int)) = ((t.tdiv m).natAbs : Int) := by
  rw [Int.natAbs_tdiv, natAbs_natCast]
  exact (natCast_ediv _ _).symm
 rw [e]
 have hR : InR ((t.tdiv m).natAbs : Int) ↔ InR (t.tdiv m) := by unfold InR; omega
 by_cases hr : InR (t.tdiv m)
 ·rw [if_pos (hR.2 hr), if_pos hr]
  cases hn : T.neg with
  | true =>
   have e2 := Fa (h.val hn) hm
   simp only [if_true]
   rw [show -((t.tdiv m).natAbs : Int) = t.tdiv m by omega]
  | false =>
   have : 0 <= t.tdiv m := Int.tdiv_nonneg (h.val' hn) (by omega)
   simp only [Bool.false_eq_true, if_false]
   rw [show ((t.tdiv m).natAbs : Int) = t.tdiv m by omega]
 ·rw [if_neg (mt hR.1 hr), if_neg hr]
theorem zi {a b : Fr} (h : ¬ (bM a /\ bM b)) : sS a b = (F00, false) := if_neg h
def D7 : PSp := aW (λ (_ _ : Fr) => True) (λ a b => .tup [Enc.enc (sS a b).1, .bool (sS a b).2])
theorem Q7 : PureOK prog G0 375 D7 := by
 refine hZ ng mixed func375 rfl rfl rfl [4] (by kernel_rfl) (by decide) (λ a b _ => ?_)
 by_cases ha : bM a
 case neg =>
  have e := zi (a := a) (b := b) (λ h => ha h.1)
  simp [ac, ag, ae, am, ap, aa, au, ab, ao, ak, ah, ai, aj, cg, ha, e, F00]
 by_cases hb : bM b
 case neg =>
  have e := zi (a := a) (b := b) (λ h => hb h.2)
  simp [ac, ag, ae, am, ap, aa, au, ab, ao, ak, ah, ai, aj, cg, ha, hb, e, F00]
 obtain ⟨hh0, e⟩ := rx ha hb
 have ez := o7 ha hb
 have ha' := ha
 have hb' := hb
 obtain ⟨a1, a2, a3, a4⟩ := ha'
 obtain ⟨b1, b2, b3, b4⟩ := hb'
 have a5 : InR a.D := by unfold InR; omega
 have b5 : InR b.D := by unfold InR; omega
 obtain ⟨g0, g1⟩ := Dj a5 b5 (by omega)
 have i1 := lX a5 b5
 have et : tF a b = a.N * b.D.tdiv (Int.gcd a.D b.D) + b.N * a.D.tdiv (Int.gcd a.D b.D) := rfl
 generalize Int.gcd a.D b.D = g at *
 obtain ⟨p1, q1⟩ := lJ a5 (g := g) (by omega)
 obtain ⟨p2, q2⟩ := lJ b5 (g := g) (by omega)
 have S := OZ a3 p2 b3 p1
 rw [<- et] at S
 generalize hT : fX (dY a.N (b.D.tdiv g)) (dY b.N (a.D.tdiv g)) = T at *
 generalize tF a b = t at *
 have gp1 := gP a3 p2
 have gp2 := gP b3 p1
 have gT := S.good
 have g2 : ¬ g = 0 := by omega
 have q1 : w64 _ = _ := q1
 have q2 : w64 _ = _ := q2
 have step0 : ∀ {X : Prop}, X -> X := id
 rcases em2 (t = 0) with ht | ht
 ·have hs : nN T = 0 := by unfold nN; rw [S.mag, of_eq_true ht]; rfl
  have e := ez (of_eq_true ht)
  simp [ac, ag, ae, am, ap, aa, au, ab, ao, ak, ah, ai, aj, cg, js, ha, hb, i1]
  refine aE ng mixed [.pure, .read, .pure, .read, .pure, .pure, .read, .pure, .read, .pure, .read, .pure, .pure, .read, .read, .eff, .eff] [[],[0],[],[2],[],[4,2,3],[3,2,4,5,0,1],[],[7],[],[9],[],[11,9,10],[1,0,5,4,2,3,6,10,9,11,12,7,8],[8,7,12,11,9,10,13,1,0,5,4,2,3,6],[],[6,3,2,4,5,0,1,13,10,9,11,12,7,8,14,15]] (by kernel_rfl) (by kernel_rfl) (by kernel_rfl) (by kernel_rfl) ?_
  simp [ac, ag, ae, am, ap, aa, au, ab, ao, ak, ah, ai, aj, iW, iV, fN, g2, q1, q2, a3, b3, p1, p2, gp1, gp2, hT, gT, hs, e, F01]
 have hs : (nN T = 0) = False := eq_false (by
  have := of_eq_false ht
  unfold nN
  rw [if_neg (by rw [S.mag]; omega)]
  split <;> decide)
 have g3 : IntKind.wrap .u64 (g : Int) = g := by unfold InR at g1; rw [IntKind.wrap_u64]; omega
 have r0 := Int.emod_nonneg (t.natAbs : Int) (show (g : Int) ≠ 0 by omega)
 have r1 := Int.emod_lt_of_pos (t.natAbs : Int) (show (0 : Int) < g by omega)
 have r2 := vV t g
 have rR : InR ((t.natAbs : Int) % g) := by unfold InR at *; omega
 have r3 : IntKind.wrap .i64 ((t.natAbs : Int) % g) = (t.natAbs : Int) % g := IntWalk.i64_in _ (by unfold InR at rR; omega)
 have i2 := lX rR g1
 rw [r2] at i2
 have h1 : InR (Int.gcd t g : Int) := by have := Int.gcd_le_natAbs_right t (show (g : Int) ≠ 0 by omega); unfold InR at *; omega
 generalize Int.gcd t g = h at *
 have ov := DL S (m := h) hh0
 obtain ⟨p3, q3⟩ := lJ b5 (g := h) (by omega)
 have q3 : w64 _ = _ := q3
 have h2 : ¬ h = 0 := by omega
 have h3 : IntKind.wrap .u64 (h : Int) = h := by unfold InR at h1; rw [IntKind.wrap_u64]; omega
 have hm : cD T = t.natAbs := S.mag
 have h4 : (h : Int) <= 1000000000000000 := by unfold InR at h1; omega
 have g4 : (g : Int) < 18446744073709551616 := by unfold InR at g1; omega
 have e : sS a b = if (nH T h).2 = true /\ (lA (a.D.tdiv g) (b.D.tdiv h)).2 = true then (⟨(nH T h).1, (lA (a.D.tdiv g) (b.D.tdiv h)).1⟩, true) else (F00, false) := by
  rw [e, ov]
  unfold yx lA
  by_cases h5 : InR (t.tdiv h) <;> by_cases h6 : InR (a.D.tdiv g * b.D.tdiv h) <;> simp [p1, p3, h5, h6]
 obtain ⟨n1, f1, e1⟩ := Ag (nH T h)
 obtain ⟨n2, f2, e2⟩ := Ag (lA (a.D.tdiv g) (b.D.tdiv h))
 rw [e1, e2] at e
 simp only at e
 cases f1
 ·simp [ac, ag, ae, am, ap, aa, au, ab, ao, ak, ah, ai, aj, cg, js, ha, hb, i1]
  refine aE ng mixed [.pure, .read, .pure, .read, .pure, .pure, .read, .pure, .read, .pure, .read, .pure, .pure, .read, .read, .eff, .eff] [[],[0],[],[2],[],[4,2,3],[3,2,4,5,0,1],[],[7],[],[9],[],[11,9,10],[1,0,5,4,2,3,6,10,9,11,12,7,8],[8,7,12,11,9,10,13,1,0,5,4,2,3,6],[],[6,3,2,4,5,0,1,13,10,9,11,12,7,8,14,15]] (by kernel_rfl) (by kernel_rfl) (by kernel_rfl) (by kernel_rfl) ?_
  simp [ac, ag, ae, am, ap, aa, au, ab, ao, ak, ah, ai, aj, iW, iV, fN, qo, lH, js, mi, g0, g2, g3, g4, q1, q2, a3, b3, p1, p2, gp1, gp2, hT, gT, hs, hm, r3, i2, h2, h3, h4, hh0, q3, e1, e2, e, F00]
 ·cases f2
  ·simp [ac, ag, ae, am, ap, aa, au, ab, ao, ak, ah, ai, aj, cg, js, ha, hb, i1]
   refine aE ng mixed [.pure, .read, .pure, .read, .pure, .pure, .read, .pure, .read, .pure, .read, .pure, .pure, .read, .read, .eff, .eff] [[],[0],[],[2],[],[4,2,3],[3,2,4,5,0,1],[],[7],[],[9],[],[11,9,10],[1,0,5,4,2,3,6,10,9,11,12,7,8],[8,7,12,11,9,10,13,1,0,5,4,2,3,6],[],[6,3,2,4,5,0,1,13,10,9,11,12,7,8,14,15]] (by kernel_rfl) (by kernel_rfl) (by kernel_rfl) (by kernel_rfl) ?_
   simp [ac, ag, ae, am, ap, aa, au, ab, ao, ak, ah, ai, aj, iW, iV, fN, qo, lH, js, mi, g0, g2, g3, g4, q1, q2, a3, b3, p1, p2, gp1, gp2, hT, gT, hs, hm, r3, i2, h2, h3, h4, hh0, q3, e1, e2, e, F00]
  ·simp [ac, ag, ae, am, ap, aa, au, ab, ao, ak, ah, ai, aj, cg, js, ha, hb, i1]
   refine aE ng mixed [.pure, .read, .pure, .read, .pure, .pure, .read, .pure, .read, .pure, .read, .pure, .pure, .read, .read, .eff, .eff] [[],[0],[],[2],[],[4,2,3],[3,2,4,5,0,1],[],[7],[],[9],[],[11,9,10],[1,0,5,4,2,3,6,10,9,11,12,7,8],[8,7,12,11,9,10,13,1,0,5,4,2,3,6],[],[6,3,2,4,5,0,1,13,10,9,11,12,7,8,14,15]] (by kernel_rfl) (by kernel_rfl) (by kernel_rfl) (by kernel_rfl) ?_
   simp [ac, ag, ae, am, ap, aa, au, ab, ao, ak, ah, ai, aj, iW, iV, fN, qo, lH, js, mi, g0, g2, g3, g4, q1, q2, a3, b3, p1, p2, gp1, gp2, hT, gT, hs, hm, r3, i2, h2, h3, h4, hh0, q3, e1, e2, e, F00]
theorem Pg {n : Int} (h : InR n) : w64 n = n := dd (by unfold InR at h; unfold I64; omega)
theorem InR_neg {n : Int} : InR (-n) ↔ InR n := by unfold InR; omega
noncomputable def CSb : Ctx := mkC prog G0 [(375, .pure D7), (377, .pure Er), (294, .pure cg), (385, .pure iW), (386, .pure iV), (387, .pure fN)]
@[simp] theorem U4 : CSb.P = prog := rfl
@[simp] theorem U3 : CSb.G = G0 := rfl
@[simp] theorem U2 : CSb.S 375 = .pure D7 /\ CSb.S 377 = .pure Er /\ CSb.S 294 = .pure cg /\ CSb.S 385 = .pure iW /\ CSb.S 386 = .pure iV /\ CSb.S 387 = .pure fN := ⟨rfl, rfl, rfl, rfl, rfl, rfl⟩
theorem Lv : aB CSb := aH (Q7) func375 (aH (R7) func377 (aH (Fk) func294 (aH (IV) func385 (aH (IU) func386 (aH (EZ) func387 (ax _ _))))))
theorem HT : bM F01 := by decide
theorem rO (a : Fr) : bM (rb a) := by
 unfold rb
 split
 ·assumption
 ·exact HT
theorem E0 {T : Wide} {t : Int} (h : SumW T t) : nN T = sgn t := by
 unfold nN sgn
 rw [h.mag]
 have h1 := h.val
 have h2 := h.val'
 cases hn : T.neg with
 | true =>
  have := h1 hn
  by_cases h0 : t = 0
  ·subst h0; rfl
  ·rw [if_neg (by omega), if_pos rfl, if_pos (by omega)]
 | false =>
  have := h2 hn
  by_cases h0 : t = 0
  ·subst h0; rfl
  ·rw [if_neg (by omega), if_neg (by decide), if_neg (by omega), if_pos (by omega)]
def Al : PSp := aW (λ (_ _ : Fr) => True) (λ a b => .int .i64 (CM a b))
theorem Rr : PureOK prog G0 332 Al := by
 refine db Lv mixed func332 rfl rfl rfl (by kernel_rfl) (by decide) (λ a b _ => ?_)
 have va := rO a
 have vb := rO b
 obtain ⟨x, hx⟩ : ∃ x, rb a = x := ⟨_, rfl⟩
 obtain ⟨y, hy⟩ : ∃ y, rb b = y := ⟨_, rfl⟩
 have ec : CM a b = sgn (x.N * y.D + -y.N * x.D) := by unfold CM; rw [hx, hy, neg_mul]; rfl
 rw [hx] at va
 rw [hy] at vb
 obtain ⟨a1, a2, a3, a4⟩ := va
 obtain ⟨b1, b2, b3, b4⟩ := vb
 have a5 : InR x.D := by unfold InR; omega
 have b5 : InR y.D := by unfold InR; omega
 have b6 := InR_neg.2 b3
 have n1 : IntKind.wrap .i64 (-y.N) = -y.N := Pg b6
 have S := OZ a3 b5 b6 a5
 have gp1 := gP a3 b5
 have gp2 := gP b6 a5
 have hs := E0 S
 have gT := S.good
 generalize hT : fX (dY x.N y.D) (dY (-y.N) x.D) = T at *
 rw [<- hs] at ec
 by_cases ha : bM a
 ·have hx' : a = x := by rw [<- hx]; exact (if_pos ha).symm
  by_cases hb : bM b
  ·have hy' : b = y := by rw [<- hy]; exact (if_pos hb).symm
   subst hx' hy'
   simp [ac, ag, ae, am, ap, aa, au, ab, ao, ak, ah, ai, aj, cg, iW, iV, fN, ha, hb, a3, a5, b3, b5, b6, n1, gp1, gp2, hT, gT, ec]
  ·have hy' : F01 = y := by rw [<- hy]; exact (if_neg hb).symm
   subst hx' hy'
   simp only [F01, neg_zero] at a3 a5 b3 b5 b6 n1 gp1 gp2 hT
   simp [ac, ag, ae, am, ap, aa, au, ab, ao, ak, ah, ai, aj, cg, iW, iV, fN, ha, hb, a3, a5, b3, b5, b6, n1, gp1, gp2, hT, gT, ec]
 ·have hx' : F01 = x := by rw [<- hx]; exact (if_neg ha).symm
  by_cases hb : bM b
  ·have hy' : b = y := by rw [<- hy]; exact (if_pos hb).symm
   subst hx' hy'
   simp only [F01, neg_zero] at a3 a5 b3 b5 b6 n1 gp1 gp2 hT
   simp [ac, ag, ae, am, ap, aa, au, ab, ao, ak, ah, ai, aj, cg, iW, iV, fN, ha, hb, a3, a5, b3, b5, b6, n1, gp1, gp2, hT, gT, ec]
  ·have hy' : F01 = y := by rw [<- hy]; exact (if_neg hb).symm
   subst hx' hy'
   simp only [F01, neg_zero] at a3 a5 b3 b5 b6 n1 gp1 gp2 hT
   simp [ac, ag, ae, am, ap, aa, au, ab, ao, ak, ah, ai, aj, cg, iW, iV, fN, ha, hb, a3, a5, b3, b5, b6, n1, gp1, gp2, hT, gT, ec]
def O2 (f : Nat -> Nat) : List Int := (List.range 14).map λ j => (f j : Int)
def dgt (n j : Nat) : Nat := n / 1000 ^ j % 1000
def vF (n : Nat) : List Int := O2 (dgt n)
def vl : List Int -> Nat
 | [] => 0
 | x :: r => x.toNat + 1000 * vl r
def B14 : Nat := 1000000000000000000000000000000000000000000
structure IsD (x : List Int) : Prop where
 eq : x = vF (vl x)
 lt : vl x < B14
structure TimesAt (d b i S P k r c : Nat) : Prop where
 ge : i <= k
 val : S / 1000 ^ k = r + P / 1000 ^ k + d * c
 small : r <= 1000
 cut : c = b / 1000 ^ (k - i)
def Ao : PSp := aW (λ (a b : Int) => 0 <= a /\ 0 <= b /\ b <= 1000000000000000) (λ a b => .int .i64 (Int.gcd a b))
theorem RO : PureOK prog G0 336 Ao := by
 refine db aR mixed func336 rfl rfl rfl (by kernel_rfl) (by decide) (λ a b ⟨a0, b0, b1⟩ => ?_)
 simp [ac, ag, ae, am, ap, aa, au, ab, ao, ak, ah, ai, aj]
 refine aT aR mixed (λ q : Int × Int => ⟨[(0, .int .i64 q.1), (1, .int .i64 q.2)], []⟩) (λ q => 0 <= q.1 /\ 0 <= q.2 /\ q.2 <= 1000000000000000 /\ Int.gcd q.1 q.2 = Int.gcd a b) (λ q => q.2.toNat) (by kernel_rfl) ⟨(a, b), ⟨a0, b0, b1, rfl⟩, ar (by simp)⟩ (λ ⟨u, v⟩ ⟨p1, p2, p3, p4⟩ => ?_)
 simp only at p1 p2 p3 p4 ⊢
 by_cases hv' : 0 < v
 ·have hv : ¬ v = 0 := by omega
  have m1 := Int.emod_nonneg u hv
  have m2 := Int.emod_lt_of_pos u hv'
  have m3 := vW hv' p1
  rw [tmod_eq_emod_of_nonneg p1] at m3
  have e3 := tmod_eq_emod_of_nonneg (b := v) p1
  simp [ac, ag, ae, am, ap, aa, au, ab, ao, ak, ah, ai, aj, hv, hv', e3]
  exact ⟨v, u % v, ⟨p2, m1, by omega, by omega⟩, by omega, ar (by simp)⟩
 ·obtain rfl : v = 0 := by omega
  rw [Int.gcd_zero_right] at p4
  have e2 : u = Int.gcd a b := by omega
  simp [ac, ag, ae, am, ap, aa, au, ab, ao, ak, ah, ai, aj, e2]
theorem OV : PureOK prog G0 337 qh := by
 refine ci aR mixed func337 rfl rfl rfl (by kernel_rfl) (by decide) (λ n h => ?_)
 have h' := h
 unfold InR at h
 by_cases h1 : n < 0
 ·have e := oW (n := n) (by omega)
  have i1 : IntKind.wrap .i64 (-n) = -n := IntWalk.i64_in _ (by omega)
  simp [ac, ag, ae, am, ap, aa, au, ab, ao, ak, ah, ai, aj, e, i1, h1]
 ·have e := oX (n := n) (by omega)
  simp [ac, ag, ae, am, ap, aa, au, ab, ao, ak, ah, ai, aj, e, h1]
noncomputable def CVR : Ctx := mkC prog G0 [(337, .pure qh), (336, .pure Ao)]
@[simp] theorem Vv : CVR.P = prog := rfl
@[simp] theorem Vu : CVR.G = G0 := rfl
@[simp] theorem Vt : CVR.S 337 = .pure qh /\ CVR.S 336 = .pure Ao := ⟨rfl, rfl⟩
theorem Ly : aB CVR := aH (OV) func337 (aH (RO) func336 (ax _ _))
theorem Dk (a b : Int) : Int.gcd (cH a) b = Int.gcd a b := by unfold cH Int.gcd; rw [natAbs_natCast]
theorem LW : PureOK prog G0 267 cg := by
 refine ci Ly mixed func267 rfl rfl rfl (by kernel_rfl) (by decide) (λ a _ => ?_)
 obtain ⟨n, d⟩ := a
 by_cases h1 : 1 <= d
 case neg => simp [ac, ag, ae, am, ap, aa, au, ab, ao, ak, ah, ai, aj, h1, bM]
 by_cases h2 : d <= 1000000000000000
 case neg => simp [ac, ag, ae, am, ap, aa, au, ab, ao, ak, ah, ai, aj, h1, h2, bM]
 by_cases h3 : -1000000000000000 <= n
 case neg => simp [ac, ag, ae, am, ap, aa, au, ab, ao, ak, ah, ai, aj, h1, h2, h3, bM, InR]
 by_cases h4 : n <= 1000000000000000
 case neg => simp [ac, ag, ae, am, ap, aa, au, ab, ao, ak, ah, ai, aj, h1, h2, h3, h4, bM, InR]
 have hR : InR n := ⟨h3, h4⟩
 have e2 : ((Int.gcd n d : Nat) : Int) = 1 ↔ Int.gcd n d = 1 := by omega
 have a0 := FN n
 have d0 : 0 <= d := by omega
 simp [ac, ag, ae, am, ap, aa, au, ab, ao, ak, ah, ai, aj, qh, Ao, h1, h2, h3, h4, hR, a0, d0, Dk, e2, bM]
def H4 (s : Int) (n : Nat) : Prop := (s = 0 /\ n = 0) ∨ ((s = 1 ∨ s = -1) /\ 0 < n)
structure PreSum (s : Int) (x : List Int) (t : Int) (y : List Int) : Prop where
 hx : IsD x
 hy : IsD y
 hs : H4 s (vl x)
 ht : H4 t (vl y)
 lt : vl x + vl y < B14
def SM (s : Int) (x : List Int) (t : Int) (y : List Int) : Int := s * vl x + t * vl y
def Z14 (H : List Blk) (i : Nat) : Prop := ∃ mu, H[i]? = some ⟨3, 1, aq (vF 0), mu, true⟩
structure JSum (L : Nat -> Bool) (st : ASt) : Prop where
 v0 : L 0 = true -> ∃ i, aQ st.ρ 31 = .own i 14 /\ Z14 st.H i
 v1 : L 1 = true -> ∃ i, aQ st.ρ 32 = .own i 14 /\ Z14 st.H i
 v2 : L 2 = true -> aQ st.ρ 33 = .slice 1 false (aq (vF 0))
 v3 : L 3 = true -> aQ st.ρ 8 = .int .i64 0
 v4 : L 4 = true -> aQ st.ρ 9 = .slice 1 false (aq (vF 0))
structure B8 where
 v : Int
instance : Enc B8 where
 sz := 1
 cells b := [.int .u8 b.v]
 enc b := .int .u8 b.v
 unc l := match l with | [.int _ n] => ⟨n⟩ | _ => ⟨0⟩
 dec v := match v with | .int _ n => ⟨n⟩ | _ => ⟨0⟩
 unc_cells _ := rfl
 dec_enc _ := rfl
@[simp] theorem RG (b : B8) : Enc.enc b = .int .u8 b.v := rfl
@[simp] theorem RA (k : IntKind) (n : Int) : (Enc.dec (.int k n) : B8) = ⟨n⟩ := rfl
theorem Bz {P : Program} {G : Nat -> AV} {f : FuncId} {α β : Type} [Enc α] [Enc β] {pre : α -> β -> Prop} {res : α -> β -> AV} (m : α -> β -> Nat) (h : ∀ n, PureOK P G f (aW (λ a b => pre a b /\ m a b <= n) res)) : PureOK P G f (aW pre res) := by
 intro w X args avs ob r hX hG hsz harg hp hob
 match avs, hp with
 | [a, b], hp =>
  simp only [aW, Option.some.injEq, Prod.mk.injEq] at hp
  obtain ⟨rfl, rfl⟩ := hp
  exact h (m (Enc.dec a) (Enc.dec b)) w X args [a, b] _ _ hX hG hsz harg rfl ⟨hob.1, hob.2.1, hob.2.2, le_refl _⟩
def dB (c : Int) : Bool := decide (97 <= c /\ c <= 122) || decide (65 <= c /\ c <= 90)
def dn (c : Int) : Bool := dB c || decide (48 <= c /\ c <= 57) || decide (c = 95)
def da (s : ByteArray) : Bool := decide (1 <= s.size /\ s.size <= 20 /\ dB (btA s 0) = true /\ ∀ j, j < s.size -> dn (btA s j) = true)
theorem jl {c : Int} (h : dB c = true) : dn c = true := by simp [dn, h]
theorem ik {s : ByteArray} {j : Nat} (h : j < s.size) (hc : dn (btA s j) = false) : da s = false := by
 unfold da
 simp only [decide_eq_false_iff_not]
 rintro ⟨_, _, _, h4⟩
 rw [h4 j h] at hc
 cases hc
theorem Gy : PureOK prog G0 68 (aN (λ (_ : B8) => True) (λ c => .bool (dB c.v))) := by
 refine ci aR mixed func68 rfl rfl rfl (by kernel_rfl) (by decide) (λ ⟨c⟩ _ => ?_)
 by_cases h1 : 97 <= c <;> by_cases h2 : c <= 122 <;> by_cases h3 : 65 <= c <;> by_cases h4 : c <= 90 <;> simp [ac, ag, ae, am, ap, aa, au, ab, ao, ak, ah, ai, aj, dB, h1, h2, h3, h4]
def cO : PSp := aN (λ (_ : B8) => True) (λ c => .bool (dB c.v))
noncomputable def CL : Ctx := mkC prog G0 [(68, .pure cO)]
@[simp] theorem Xk : CL.P = prog := rfl
@[simp] theorem Xj : CL.G = G0 := rfl
@[simp] theorem Xi : CL.S 68 = .pure cO := rfl
theorem IY : aB CL := aH (Gy) func68 (ax _ _)
theorem pT {s : ByteArray} (h0 : ¬ s.size = 0) (h1 : ¬ 20 < s.size) (h2 : dB (btA s 0) = true) (h : ∀ j, j < s.size -> dn (btA s j) = true) : da s = true := by
 unfold da
 simp only [decide_eq_true_eq]
 exact ⟨by omega, by omega, h2, h⟩
theorem nG {s : ByteArray} (h2 : dB (btA s 0) = false) : da s = false := by
 unfold da
 simp [h2]
theorem pB {s : ByteArray} (h : s.size = 0) : s = ⟨#[]⟩ := HI (by rw [h]; rfl) λ i hi => by omega
theorem IoQ : PureOK prog G0 30 (aN (λ (_ : ByteArray) => True) (λ s => .bool (da s))) := by
 refine ci IY mixed func30 rfl rfl rfl (by kernel_rfl) (by decide) (λ s _ => ?_)
 by_cases h0 : s.size = 0
 ·have e := pB h0
  subst e
  have en : da ⟨#[]⟩ = false := by simp [da]; intro h; exact absurd h (by decide)
  have h0' : ((⟨#[]⟩ : ByteArray).size : Int) < 1 := by decide
  simp [ac, ag, ae, am, ap, aa, au, ab, ao, ak, ah, ai, aj, en, h0']
 have e : ¬ (s.size : Int) < 1 := by omega
 by_cases h1 : 20 < s.size
 ·have h1' : (20 : Int) < s.size := by omega
  have en : da s = false := by simp [da]; omega
  simp [ac, ag, ae, am, ap, aa, au, ab, ao, ak, ah, ai, aj, h1', e, en]
 have h1' : ¬ (20 : Int) < s.size := by omega
 have hpos : 0 < s.size := by omega
 have hpos' : (0 : Int) < s.size := by omega
 cases h2 : dB (btA s 0)
 ·simp [ac, ag, ae, am, ap, aa, au, ab, ao, ak, ah, ai, aj, h1', e, hpos, hpos', cO, h2, nG h2]
 ·simp [ac, ag, ae, am, ap, aa, au, ab, ao, ak, ah, ai, aj, h1', e, hpos, hpos', cO, h2]
  refine aT IY mixed (λ i : Nat => ⟨[(0, .str s), (3, .int .i64 i)], []⟩) (λ i => i <= s.size /\ ∀ j, j < i -> dn (btA s j) = true) (λ i => s.size - i) (by kernel_rfl) ⟨1, ⟨by omega, λ j hj => by rw [show j = 0 by omega]; exact jl h2⟩, ar (by simp)⟩ (λ i ⟨hi, hall⟩ => ?_)
  by_cases hlt : i < s.size
  ·have i1 : I64 ((i : Int) + 1) := by unfold I64; omega
   have step : dn (btA s i) = true -> ∀ j, j < i + 1 -> dn (btA s j) = true := λ hc j hj => by
    rcases lt_or_ge j i with h | h
    ·exact hall j h
    ·rw [show j = i by omega]; exact hc
   cases h3 : dB (btA s i)
   ·by_cases h6 : btA s i = 95
    ·have h6' : (btA s i : Int) = 95 := by omega
     have hn : dn (btA s i) = true := by simp [dn, h6]
     have h3' : dB 95 = false := by rw [h6'] at h3; exact h3
     simp [ac, ag, ae, am, ap, aa, au, ab, ao, ak, ah, ai, aj, hlt, cO, h3, h3', h6, h6', i1]
     exact ⟨i + 1, ⟨by omega, step hn⟩, by omega, ar (by simp)⟩
    ·have h6' : ¬ (btA s i : Int) = 95 := by omega
     by_cases h4 : (btA s i : Int) < 48
     ·have hn : dn (btA s i) = false := by simp [dn, h3]; omega
      have h4' : btA s i < 48 := by omega
      simp [ac, ag, ae, am, ap, aa, au, ab, ao, ak, ah, ai, aj, hlt, cO, h3, h4, h4', h6, h6', ik hlt hn]
     ·have h4' : ¬ btA s i < 48 := by omega
      by_cases h5 : 57 < (btA s i : Int)
      ·have h5' : 57 < btA s i := by omega
       have hn : dn (btA s i) = false := by simp [dn, h3]; omega
       simp [ac, ag, ae, am, ap, aa, au, ab, ao, ak, ah, ai, aj, hlt, cO, h3, h4, h4', h5, h5', h6, h6', ik hlt hn]
      ·have h5' : ¬ 57 < btA s i := by omega
       have hn : dn (btA s i) = true := by simp [dn]; omega
       simp [ac, ag, ae, am, ap, aa, au, ab, ao, ak, ah, ai, aj, hlt, cO, h3, h4, h4', h5, h5', h6, h6', i1]
       exact ⟨i + 1, ⟨by omega, step hn⟩, by omega, ar (by simp)⟩
   ·simp [ac, ag, ae, am, ap, aa, au, ab, ao, ak, ah, ai, aj, hlt, cO, h3, i1]
    exact ⟨i + 1, ⟨by omega, step (jl h3)⟩, by omega, ar (by simp)⟩
  ·have en := pT h0 h1 h2 (λ j hj => hall j (by omega))
   simp [ac, ag, ae, am, ap, aa, au, ab, ao, ak, ah, ai, aj, hlt, en]
def fy : PSp := aN (λ (_ : ByteArray) => True) (λ s => .bool (da s))
def fA {α β γ δ ε : Type} [Enc α] [Enc β] [Enc γ] [Enc δ] [Enc ε] (pre : α -> β -> γ -> δ -> ε -> Prop) (res : α -> β -> γ -> δ -> ε -> AV) : List AV -> Option (Prop × AV)
 | [a, b, c, d, e] => some (bq a = Enc.enc (Enc.dec a : α) /\ bq b = Enc.enc (Enc.dec b : β) /\ bq c = Enc.enc (Enc.dec c : γ) /\ bq d = Enc.enc (Enc.dec d : δ) /\ bq e = Enc.enc (Enc.dec e : ε) /\ pre (Enc.dec a) (Enc.dec b) (Enc.dec c) (Enc.dec d) (Enc.dec e), res (Enc.dec a) (Enc.dec b) (Enc.dec c) (Enc.dec d) (Enc.dec e))
 | _ => none
theorem OL {C : Ctx} (hS : aB C) (hM : C.P.follows .mixedOrders = true) {f : FuncId} {fn : Func} {body : Code} {rs : List ResultVar} {n : Nat} (hf : C.P.funcs[f]? = some fn) (hb : fn.body = some body) (hrs : fn.results.toList = rs) (hn : fn.ntmps = n) {α β γ δ ε : Type} [Enc α] [Enc β] [Enc γ] [Enc δ] [Enc ε] (hok : cq C n body = true) (hnn : 5 <= n) {pre : α -> β -> γ -> δ -> ε -> Prop} {res : α -> β -> γ -> δ -> ε -> AV}
  (h : ∀ a b c d e, pre a b c d e -> avc C n 0 body ⟨[(0, Enc.enc a), (1, Enc.enc b), (2, Enc.enc c), (3, Enc.enc d), (4, Enc.enc e)], []⟩ (fY C rs (res a b c d e))) : PureOK C.P C.G f (fA pre res) :=
 ey hS hM hf hb hrs hn hok λ avs ob r' hp hob => by
  unfold fA at hp
  split at hp
  ·injection hp with hp; injection hp with e1 e2; subst e1 e2
   refine ⟨hnn, ?_⟩
   have := h _ _ _ _ _ hob.2.2.2.2.2
   rw [<- hob.1, <- hob.2.1, <- hob.2.2.1, <- hob.2.2.2.1, <- hob.2.2.2.2.1] at this
   exact this
  ·cases hp
def inB (n : Int) : Bool := decide (-1000000000000000 <= n) && decide (n <= 1000000000000000)
theorem RU : PureOK prog G0 266 (aN (λ (_ : Int) => True) (λ n => .bool (inB n))) := by
 refine ci aR mixed func266 rfl rfl rfl (by kernel_rfl) (by decide) (λ n _ => ?_)
 by_cases h1 : -1000000000000000 <= n <;> by_cases h2 : n <= 1000000000000000 <;> simp [ac, ag, ae, am, ap, aa, au, ab, ao, ak, ah, ai, aj, inB, h1, h2]
def nZ (s : ByteArray) : Bool := decide (∀ j, j < s.size -> 32 <= btA s j /\ btA s j <= 126) && decide (s.size <= 100)
theorem SK : PureOK prog G0 268 (aN (λ (s : ByteArray) => s.size <= maxLen) (λ s => .bool (nZ s))) := by
 refine ci aR mixed func268 rfl rfl rfl (by kernel_rfl) (by decide) (λ s hs => ?_)
 have hs' : s.size <= 9223372036854775807 := by unfold maxLen at hs; omega
 simp [ac, ag, ae, am, ap, aa, au, ab, ao, ak, ah, ai, aj]
 refine aT aR mixed (λ i : Nat => ⟨[(0, .str s), (3, .int .i64 i)], []⟩) (λ i => i <= s.size /\ ∀ j, j < i -> 32 <= btA s j /\ btA s j <= 126) (λ i => s.size - i) (by kernel_rfl) ⟨0, by simp, ar (by simp)⟩ (λ i ⟨hi, hall⟩ => ?_)
 by_cases hlt : i < s.size
 ·have i1 : I64 ((i : Int) + 1) := by unfold I64; omega
  by_cases h1 : (btA s i : Int) < 32
  ·have h1' : btA s i < 32 := by omega
   have e : nZ s = false := by
    unfold nZ
    rw [decide_eq_false (λ h => by have := h i hlt; omega), Bool.false_and]
   simp [ac, ag, ae, am, ap, aa, au, ab, ao, ak, ah, ai, aj, hlt, h1, h1', e]
  ·have h1' : ¬ btA s i < 32 := by omega
   by_cases h2 : 126 < (btA s i : Int)
   ·have h2' : 126 < btA s i := by omega
    have e : nZ s = false := by
     unfold nZ
     rw [decide_eq_false (λ h => by have := h i hlt; omega), Bool.false_and]
    simp [ac, ag, ae, am, ap, aa, au, ab, ao, ak, ah, ai, aj, hlt, h1, h1', h2, h2', e]
   ·have h2' : ¬ 126 < btA s i := by omega
    simp [ac, ag, ae, am, ap, aa, au, ab, ao, ak, ah, ai, aj, hlt, h1, h1', h2, h2', i1]
    refine ⟨i + 1, ⟨by omega, λ j hj => ?_⟩, by omega, ar (by simp)⟩
    rcases lt_or_ge j i with h | h
    ·exact hall j h
    ·rw [show j = i by omega]; omega
 ·have e : nZ s = decide (s.size <= 100) := by
   unfold nZ
   rw [decide_eq_true (λ j hj => hall j (by omega)), Bool.true_and]
  by_cases h3 : s.size <= 100
  ·have h3' : (s.size : Int) <= 100 := by omega
   simp [ac, ag, ae, am, ap, aa, au, ab, ao, ak, ah, ai, aj, hlt, e, h3, h3']
  ·have h3' : ¬ (s.size : Int) <= 100 := by omega
   simp [ac, ag, ae, am, ap, aa, au, ab, ao, ak, ah, ai, aj, hlt, e, h3, h3']
theorem vI (l : List Val) : (l = [] /\ l.isEmpty = true) ∨ (¬ l = [] /\ l.isEmpty = false) := by cases l <;> simp
theorem or3 (b : Bool) (p : Prop) : (b = false /\ ¬ p) ∨ (b = true /\ b = true) ∨ (b = false /\ p) := by
 by_cases h : p <;> cases b <;> simp [h]
def bx (v : Val) (n d s l : Bool) : Bool := (n || decide (v.n = 0)) && (d || decide (v.d = 0)) && (s || decide (v.s = ⟨#[]⟩)) && (l || v.l.isEmpty)
theorem No : PureOK prog G0 265 (fA (λ (_ : Val) (_ _ _ _ : Bool) => True) (λ v n d s l => .bool (bx v n d s l))) := by
 refine OL aR mixed func265 rfl rfl rfl (by kernel_rfl) (by decide) (λ v n d s l _ => ?_)
 rcases or3 n (v.n = 0) with ⟨h, h1⟩ | ⟨h, h1⟩ | ⟨h, h1⟩
 ·simp [ac, ag, ae, am, ap, aa, au, ab, ao, ak, ah, ai, aj, bx, h, h1]
 all_goals
  rcases or3 d (v.d = 0) with ⟨h2, h3⟩ | ⟨h2, h3⟩ | ⟨h2, h3⟩
  ·simp [ac, ag, ae, am, ap, aa, au, ab, ao, ak, ah, ai, aj, bx, h, h1, h2, h3]
  all_goals
   rcases or3 s (v.s = ⟨#[]⟩) with ⟨h4, h5⟩ | ⟨h4, h5⟩ | ⟨h4, h5⟩
   ·simp [ac, ag, ae, am, ap, aa, au, ab, ao, ak, ah, ai, aj, bx, h, h1, h2, h3, h4, h5]
   all_goals
    rcases vI v.l with ⟨h6, h7⟩ | ⟨h6, h7⟩ <;> cases l <;> simp [ac, ag, ae, am, ap, aa, au, ab, ao, ak, ah, ai, aj, bx, h, h1, h2, h3, h4, h5, h6, h7]
theorem yq {P : Program} {G : Nat -> AV} {f : FuncId} {α β : Type} [Enc α] [Enc β] {pre : α -> β -> Prop} {res : α -> β -> AV} (h : ∀ a b, ¬ pre a b) : PureOK P G f (aW pre res) := by
 intro w X args avs ob r hX hG hsz harg hp hob
 match avs, hp with
 | [a, b], hp =>
  simp only [aW, Option.some.injEq, Prod.mk.injEq] at hp
  obtain ⟨rfl, rfl⟩ := hp
  exact absurd hob.2.2 (h _ _)
def Dg (n d : Int) : Bool := decide (bM ⟨n, d⟩)
inductive WfV : Val -> Prop
 | mk (k n d : Int) (s : ByteArray) (l : List Val) (hs : s.size <= maxLen) (hl : l.length <= maxLen) (h : ∀ x ∈ l, WfV x) : WfV (.mk k n d s l)
theorem WfV.str {v : Val} (h : WfV v) : v.s.size <= maxLen := by cases h; assumption
theorem WfV.kids {v : Val} (h : WfV v) : ∀ x ∈ v.l, WfV x := by cases h; assumption
theorem WfV.len {v : Val} (h : WfV v) : v.l.length <= maxLen := by cases h; assumption
theorem HQ {v x : Val} (h : x ∈ v.l) : SizeOf.sizeOf x < SizeOf.sizeOf v := by
 cases v with
 | mk k n d s l =>
  have := List.sizeOf_lt_of_mem h
  simp at this ⊢
  omega
theorem HR (v : Val) : 0 < SizeOf.sizeOf v := by cases v; simp; omega
mutual
def eW : Val -> Int -> Bool
 | .mk k n d s l, nest =>
  if k = 0 then bx (.mk k n d s l) false false false false
  else if k = 1 then bx (.mk k n d s l) true false false false && (decide (n = 0) || decide (n = 1))
  else if k = 2 then bx (.mk k n d s l) true false false false && inB n
  else if k = 3 then bx (.mk k n d s l) true true false false && decide (2 <= d) && Dg n d
  else if k = 4 then bx (.mk k n d s l) false false true false && nZ s
  else if k = 5 ∨ k = 6 then bx (.mk k n d s l) true false false false && decide (1 <= n) && decide (n <= 1000000)
  else if k = 7 then bx (.mk k n d s l) false false false true && (!(decide (l.length % 2 = 0) || decide (25 < l.length)) && pathL l 0)
  else if k = 8 then bx (.mk k n d s l) false false false true && (!(decide (nest < 1) || decide (64 < l.length)) && allL l (nest - 1))
  else false
def allL : List Val -> Int -> Bool
 | [], _ => true
 | v :: r, nest => eW v nest && allL r nest
def pathL : List Val -> Nat -> Bool
 | [], _ => true
 | v :: r, i => (decide (v.kind = (if i % 2 = 1 then 6 else 5)) && eW v 0) && pathL r (i + 1)
end
theorem pW (v : Val) (nest : Int) : eW v nest =
  if v.kind = 0 then bx v false false false false
  else if v.kind = 1 then bx v true false false false && (decide (v.n = 0) || decide (v.n = 1))
  else if v.kind = 2 then bx v true false false false && inB v.n
  else if v.kind = 3 then bx v true true false false && decide (2 <= v.d) && Dg v.n v.d
  else if v.kind = 4 then bx v false false true false && nZ v.s
  else if v.kind = 5 ∨ v.kind = 6 then bx v true false false false && decide (1 <= v.n) && decide (v.n <= 1000000)
  else if v.kind = 7 then bx v false false false true && (!(decide (v.l.length % 2 = 0) || decide (25 < v.l.length)) && pathL v.l 0)
  else if v.kind = 8 then bx v false false false true && (!(decide (nest < 1) || decide (64 < v.l.length)) && allL v.l (nest - 1))
  else false := by
 cases v
 rw [eW]
 rfl
theorem pb : ∀ (l : List Val) (nest : Int), allL l nest = true ↔ ∀ j, j < l.length -> eW (ix l j) nest = true
 | [], nest => by simp [allL]
 | v :: r, nest => by
  rw [allL, Bool.and_eq_true, pb r nest]
  constructor
  ·rintro ⟨h1, h2⟩ j hj
   match j, hj with
   | 0, _ => exact h1
   | j + 1, hj => exact h2 j (by simpa using hj)
  ·intro h
   exact ⟨h 0 (by simp), λ j hj => h (j + 1) (by simpa using hj)⟩
theorem m4 : ∀ (l : List Val) (k : Nat), pathL l k = true ↔ ∀ j, j < l.length -> (ix l j).kind = (if (k + j) % 2 = 1 then 6 else 5) /\ eW (ix l j) 0 = true
 | [], k => by simp [pathL]
 | v :: r, k => by
  rw [pathL, Bool.and_eq_true, Bool.and_eq_true, m4 r (k + 1), decide_eq_true_eq]
  constructor
  ·rintro ⟨h1, h2⟩ j hj
   match j, hj with
   | 0, _ => exact h1
   | j + 1, hj =>
    have := h2 j (by simpa using hj)
    rw [show k + 1 + j = k + (j + 1) by omega] at this
    exact this
  ·intro h
   refine ⟨h 0 (by simp), λ j hj => ?_⟩
   have := h (j + 1) (by simpa using hj)
   rw [show k + (j + 1) = k + 1 + j by omega] at this
   exact this
theorem fa {v : Val} {k : Int} (h : v.kind = k) : Val.mk k v.n v.d v.s v.l = v := by rw [<- h]; exact Val.eta v
theorem C8 {v : Val} {k n : Int} (h : v.kind = k) (h' : v.n = n) : Val.mk k n v.d v.s v.l = v := by rw [<- h, <- h']; exact Val.eta v
theorem vh {a : Bool} {p : Prop} (h : a = true ↔ p) (hn : ¬ p) : a = false := by
 cases e : a
 ·rfl
 ·exact absurd (h.1 e) hn
def sV (n : Nat) : PSp := aW (λ (v : Val) (k : Int) => (WfV v /\ 0 <= k /\ k <= 8) /\ SizeOf.sizeOf v <= n) (λ v k => .bool (eW v k))
noncomputable def uM (n : Nat) : Ctx := mkC prog G0 [(203, .pure (sV n))]
@[simp] theorem Qi (n : Nat) : (uM n).P = prog := rfl
@[simp] theorem Qh (n : Nat) : (uM n).S 203 = .pure (sV n) := rfl
theorem oL {n : Nat} (h : PureOK prog G0 203 (sV n)) : aB (uM n) := aH h func203 (ax _ _)
theorem ow (n : Nat) : (uM n).P.follows .mixedOrders = true := mixed
theorem Oe {n : Nat} (h : PureOK prog G0 203 (sV n)) : PureOK prog G0 270 (aW (λ (l : List Val) (k : Int) => (∀ x ∈ l, WfV x /\ SizeOf.sizeOf x <= n) /\ 0 <= k /\ k <= 8) (λ l k => .bool (!(decide (k < 1) || decide (64 < l.length)) && allL l (k - 1)))) := by
 refine db (C := uM n) (oL h) (ow n) func270 rfl rfl rfl (by kernel_rfl) (by decide) (λ l k ⟨hx, hk0, hk8⟩ => ?_)
 by_cases h1 : k < 1
 ·simp [ac, ag, ae, am, ap, aa, au, ab, ao, ak, ah, ai, aj, h1]
 by_cases h2 : 64 < l.length
 ·have h2' : (64 : Int) < l.length := by omega
  simp [ac, ag, ae, am, ap, aa, au, ab, ao, ak, ah, ai, aj, h1, h2, h2']
 have h2' : ¬ (64 : Int) < l.length := by omega
 have hk1 : 0 <= k - 1 := by omega
 have hk1' : 1 <= k := by omega
 have hk2 : k - 1 <= 8 := by omega
 have i2 : I64 (k - 1) := by unfold I64; omega
 simp [ac, ag, ae, am, ap, aa, au, ab, ao, ak, ah, ai, aj, h1, h2, h2']
 refine aT (C := uM n) (oL h) (ow n) (λ i : Nat => ⟨[(0, Enc.enc l), (1, .int .i64 k), (5, .int .i64 i)], []⟩) (λ i => i <= l.length /\ ∀ j, j < i -> eW (ix l j) (k - 1) = true) (λ i => l.length - i) (by kernel_rfl) ⟨0, by simp, ar (by simp)⟩ (λ i ⟨hi, hall⟩ => ?_)
 by_cases hlt : i < l.length
 ·have i1 : I64 ((i : Int) + 1) := by unfold I64; omega
  obtain ⟨w1, w2⟩ := hx _ (bJ hlt)
  cases h3 : eW (ix l i) (k - 1)
  ·have e : allL l (k - 1) = false := vh (pb l (k - 1)) (λ h => by rw [h i hlt] at h3; cases h3)
   simp [ac, ag, ae, am, ap, aa, au, ab, ao, ak, ah, ai, aj, hlt, aw hlt, sV, w1, w2, hk1, hk1', hk2, i2, h3, e]
  ·simp [ac, ag, ae, am, ap, aa, au, ab, ao, ak, ah, ai, aj, hlt, aw hlt, sV, w1, w2, hk1, hk1', hk2, i2, h3, i1]
   refine ⟨i + 1, ⟨by omega, λ j hj => ?_⟩, by omega, ar (by simp)⟩
   rcases lt_or_ge j i with h | h
   ·exact hall j h
   ·rw [show j = i by omega]; exact h3
 ·have e : allL l (k - 1) = true := (pb l (k - 1)).2 λ j hj => hall j (by omega)
  simp [ac, ag, ae, am, ap, aa, au, ab, ao, ak, ah, ai, aj, hlt, e]
theorem OD {n : Nat} (h : PureOK prog G0 203 (sV n)) : PureOK prog G0 269 (aN (λ (l : List Val) => l.length <= maxLen /\ ∀ x ∈ l, WfV x /\ SizeOf.sizeOf x <= n) (λ l => .bool (!(decide (l.length % 2 = 0) || decide (25 < l.length)) && pathL l 0))) := by
 refine ci (C := uM n) (oL h) (ow n) func269 rfl rfl rfl (by kernel_rfl) (by decide) (λ l ⟨hl, hx⟩ => ?_)
 have hl' : l.length <= 9223372036854775807 := by unfold maxLen at hl; omega
 have ht : ((l.length : Int)).tmod 2 = ((l.length % 2 : Nat) : Int) := by rw [tmod_eq_emod_of_nonneg (by omega)]; omega
 by_cases h1 : l.length % 2 = 0
 ·simp [ac, ag, ae, am, ap, aa, au, ab, ao, ak, ah, ai, aj, ht, h1]
 have h1' : l.length % 2 = 1 := by omega
 by_cases h2 : 25 < l.length
 ·have h2' : (25 : Int) < l.length := by omega
  simp [ac, ag, ae, am, ap, aa, au, ab, ao, ak, ah, ai, aj, ht, h1', h2, h2']
 have h2' : ¬ (25 : Int) < l.length := by omega
 simp [ac, ag, ae, am, ap, aa, au, ab, ao, ak, ah, ai, aj, ht, h1', h2, h2']
 refine aT (C := uM n) (oL h) (ow n) (λ i : Nat => ⟨[(0, Enc.enc l), (3, .int .i64 i)], []⟩) (λ i => i <= l.length /\ ∀ j, j < i -> (ix l j).kind = (if (0 + j) % 2 = 1 then 6 else 5) /\ eW (ix l j) 0 = true) (λ i => l.length - i) (by kernel_rfl) ⟨0, by simp, ar (by simp)⟩ (λ i ⟨hi, hall⟩ => ?_)
 by_cases hlt : i < l.length
 ·have i1 : I64 ((i : Int) + 1) := by unfold I64; omega
  obtain ⟨w1, w2⟩ := hx _ (bJ hlt)
  have hti : ((i : Int)).tmod 2 = ((i % 2 : Nat) : Int) := by rw [tmod_eq_emod_of_nonneg (by omega)]; omega
  have fail : ¬ ((ix l i).kind = (if (0 + i) % 2 = 1 then 6 else 5) /\ eW (ix l i) 0 = true) -> pathL l 0 = false := λ hn => vh (m4 l 0) (λ h => hn (h i hlt))
  have step : (ix l i).kind = (if (0 + i) % 2 = 1 then 6 else 5) /\ eW (ix l i) 0 = true -> ∀ j, j < i + 1 -> (ix l j).kind = (if (0 + j) % 2 = 1 then 6 else 5) /\ eW (ix l j) 0 = true := λ h j hj => by
   rcases lt_or_ge j i with h' | h'
   ·exact hall j h'
   ·rw [show j = i by omega]; exact h
  rw [Nat.zero_add] at fail step
  by_cases h3 : i % 2 = 1
  ·rw [if_pos h3] at fail step
   by_cases h4 : (ix l i).kind = 6
   ·cases h5 : eW (ix l i) 0
    ·simp [ac, ag, ae, am, ap, aa, au, ab, ao, ak, ah, ai, aj, hlt, aw hlt, hti, h3, h4, fa h4, sV, w1, w2, h5, fail (by simp [h5])]
    ·simp [ac, ag, ae, am, ap, aa, au, ab, ao, ak, ah, ai, aj, hlt, aw hlt, hti, h3, h4, fa h4, sV, w1, w2, h5, i1]
     exact ⟨i + 1, ⟨by omega, by simpa using step ⟨h4, h5⟩⟩, by omega, ar (by simp)⟩
   ·simp [ac, ag, ae, am, ap, aa, au, ab, ao, ak, ah, ai, aj, hlt, aw hlt, hti, h3, h4, fail (by simp [h4])]
  ·rw [if_neg h3] at fail step
   have h3' : i % 2 = 0 := by omega
   by_cases h4 : (ix l i).kind = 5
   ·cases h5 : eW (ix l i) 0
    ·simp [ac, ag, ae, am, ap, aa, au, ab, ao, ak, ah, ai, aj, hlt, aw hlt, hti, h3', h4, fa h4, sV, w1, w2, h5, fail (by simp [h5])]
    ·simp [ac, ag, ae, am, ap, aa, au, ab, ao, ak, ah, ai, aj, hlt, aw hlt, hti, h3', h4, fa h4, sV, w1, w2, h5, i1]
     exact ⟨i + 1, ⟨by omega, by simpa using step ⟨h4, h5⟩⟩, by omega, ar (by simp)⟩
   ·simp [ac, ag, ae, am, ap, aa, au, ab, ao, ak, ah, ai, aj, hlt, aw hlt, hti, h3', h4, fail (by simp [h4])]
 ·have e : pathL l 0 = true := (m4 l 0).2 λ j hj => hall j (by omega)
  simp [ac, ag, ae, am, ap, aa, au, ab, ao, ak, ah, ai, aj, hlt, e]
def gu : PSp := fA (λ (_ : Val) (_ _ _ _ : Bool) => True) (λ v n d s l => .bool (bx v n d s l))
def K4 : PSp := aN (λ (_ : Int) => True) (λ n => .bool (inB n))
def K8 : PSp := aN (λ (s : ByteArray) => s.size <= maxLen) (λ s => .bool (nZ s))
def Ew (n : Nat) : PSp := aN (λ (l : List Val) => l.length <= maxLen /\ ∀ x ∈ l, WfV x /\ SizeOf.sizeOf x <= n) (λ l => .bool (!(decide (l.length % 2 = 0) || decide (25 < l.length)) && pathL l 0))
def Ep (n : Nat) : PSp := aW (λ (l : List Val) (k : Int) => (∀ x ∈ l, WfV x /\ SizeOf.sizeOf x <= n) /\ 0 <= k /\ k <= 8) (λ l k => .bool (!(decide (k < 1) || decide (64 < l.length)) && allL l (k - 1)))
noncomputable def CVV (n : Nat) : Ctx := mkC prog G0 [(265, .pure gu), (266, .pure K4), (267, .pure cg), (268, .pure K8), (269, .pure (Ew n)), (270, .pure (Ep n))]
@[simp] theorem VC (n : Nat) : (CVV n).P = prog := rfl
@[simp] theorem Vw (n : Nat) : (CVV n).S 265 = .pure gu := rfl
@[simp] theorem Vx (n : Nat) : (CVV n).S 266 = .pure K4 := rfl
@[simp] theorem Vy (n : Nat) : (CVV n).S 267 = .pure cg := rfl
@[simp] theorem Vz (n : Nat) : (CVV n).S 268 = .pure K8 := rfl
@[simp] theorem VA (n : Nat) : (CVV n).S 269 = .pure (Ew n) := rfl
@[simp] theorem VB (n : Nat) : (CVV n).S 270 = .pure (Ep n) := rfl
theorem Lz {n : Nat} (h : PureOK prog G0 203 (sV n)) : aB (CVV n) :=
 aH No func265 (aH RU func266 (aH LW func267 (aH SK func268 (aH (OD h) func269 (aH (Oe h) func270 (ax _ _))))))
theorem Kt (n : Nat) : (CVV n).P.follows .mixedOrders = true := mixed
theorem Oy : ∀ n : Nat, PureOK prog G0 203 (sV n)
 | 0 => yq λ v k h => by have := HR v; omega
 | n + 1 => by
  have ih := Oy n
  refine db (C := CVV n) (Lz ih) (Kt n) func203 rfl rfl rfl (by kernel_rfl) (by decide) (λ v k ⟨⟨hw, hk0, hk8⟩, hn⟩ => ?_)
  have hs := hw.str
  have hl := hw.len
  have hx : ∀ x ∈ v.l, WfV x /\ SizeOf.sizeOf x <= n := λ x hx => ⟨hw.kids x hx, by have := HQ hx; omega⟩
  rw [pW]
  by_cases c0 : v.kind = 0
  ·simp [ac, ag, ae, am, ap, aa, au, ab, ao, ak, ah, ai, aj, fA, gu, c0, fa c0]
  by_cases c1 : v.kind = 1
  ·cases hb : bx v true false false false
   ·simp [ac, ag, ae, am, ap, aa, au, ab, ao, ak, ah, ai, aj, fA, gu, c1, fa c1, hb]
   by_cases a0 : v.n = 0
   ·simp [ac, ag, ae, am, ap, aa, au, ab, ao, ak, ah, ai, aj, fA, gu, c1, C8 c1 a0, hb, a0]
   by_cases a1 : v.n = 1
   ·simp [ac, ag, ae, am, ap, aa, au, ab, ao, ak, ah, ai, aj, fA, gu, c1, C8 c1 a1, hb, a1]
   simp [ac, ag, ae, am, ap, aa, au, ab, ao, ak, ah, ai, aj, fA, gu, c1, fa c1, hb, a0, a1]
  by_cases c2 : v.kind = 2
  ·cases hb : bx v true false false false <;> simp [ac, ag, ae, am, ap, aa, au, ab, ao, ak, ah, ai, aj, fA, gu, K4, c2, fa c2, hb]
  by_cases c3 : v.kind = 3
  ·cases hb : bx v true true false false <;> by_cases a0 : 2 <= v.d <;> simp [ac, ag, ae, am, ap, aa, au, ab, ao, ak, ah, ai, aj, fA, gu, cg, Dg, c3, fa c3, hb, a0] <;> exact decide_eq_decide.2 Iff.rfl
  by_cases c4 : v.kind = 4
  ·cases hb : bx v false false true false <;> simp [ac, ag, ae, am, ap, aa, au, ab, ao, ak, ah, ai, aj, fA, gu, K8, c4, fa c4, hb, hs]
  by_cases c5 : v.kind = 5
  ·cases hb : bx v true false false false <;> by_cases a0 : 1 <= v.n <;> by_cases a1 : v.n <= 1000000 <;> simp [ac, ag, ae, am, ap, aa, au, ab, ao, ak, ah, ai, aj, fA, gu, c5, fa c5, hb, a0, a1]
  by_cases c6 : v.kind = 6
  ·cases hb : bx v true false false false <;> by_cases a0 : 1 <= v.n <;> by_cases a1 : v.n <= 1000000 <;> simp [ac, ag, ae, am, ap, aa, au, ab, ao, ak, ah, ai, aj, fA, gu, c6, fa c6, hb, a0, a1]
  by_cases c7 : v.kind = 7
  ·cases hb : bx v false false false true
   ·simp [ac, ag, ae, am, ap, aa, au, ab, ao, ak, ah, ai, aj, fA, gu, c7, fa c7, hb]
   ·simp [ac, ag, ae, am, ap, aa, au, ab, ao, ak, ah, ai, aj, fA, gu, Ew, c7, fa c7, hb, hl]
    exact hx
  by_cases c8 : v.kind = 8
  ·cases hb : bx v false false false true
   ·simp [ac, ag, ae, am, ap, aa, au, ab, ao, ak, ah, ai, aj, fA, gu, c8, fa c8, hb]
   ·simp [ac, ag, ae, am, ap, aa, au, ab, ao, ak, ah, ai, aj, fA, gu, Ep, c8, fa c8, hb, hk0, hk8]
    exact hx
  simp [ac, ag, ae, am, ap, aa, au, ab, ao, ak, ah, ai, aj, c0, c1, c2, c3, c4, c5, c6, c7, c8]
def sVR : PSp := aW (λ (v : Val) (k : Int) => WfV v /\ 0 <= k /\ k <= 8) (λ v k => .bool (eW v k))
theorem Oz : PureOK prog G0 203 sVR := Bz (λ v _ => SizeOf.sizeOf v) λ n => Oy n
def okV (v : Val) : Bool := eW v 8
def yE : PSp := aN (λ (v : Val) => WfV v) (λ v => .bool (okV v))
noncomputable def CVQ : Ctx := mkC prog G0 [(203, .pure sVR)]
@[simp] theorem Vs : CVQ.P = prog := rfl
@[simp] theorem Vr : CVQ.G = G0 := rfl
@[simp] theorem Vq : CVQ.S 203 = .pure sVR := rfl
theorem Lx : aB CVQ := aH (Oz) func203 (ax _ _)
theorem vR : PureOK prog G0 128 yE := by
 refine ci Lx mixed func128 rfl rfl rfl (by kernel_rfl) (by decide) (λ v hw => ?_)
 simp [ac, ag, ae, am, ap, aa, au, ab, ao, ak, ah, ai, aj, sVR, hw, okV]
def cJ {α : Type} (f : α -> Int -> Int) : List α -> Int -> Int
 | [], x => x
 | v :: r, x => if x < 0 then x else cJ f r (f v x)
theorem iL {α : Type} (f : α -> Int -> Int) (l : List α) {x : Int} (h : x < 0) : cJ f l x = x := by
 cases l with
 | nil => rfl
 | cons v r => rw [cJ, if_pos h]
theorem g9 {α : Type} [Inhabited α] (f : α -> Int -> Int) {l : List α} {i : Nat} (h : i < l.length) {x : Int} (hx : ¬ x < 0) : cJ f (l.drop i) x = cJ f (l.drop (i + 1)) (f (ix l i) x) := by
 rw [List.drop_eq_getElem_cons h, bF h, cJ, if_neg hx]
theorem iK {α : Type} (f : α -> Int -> Int) {l : List α} {i : Nat} (h : ¬ i < l.length) {x : Int} : cJ f (l.drop i) x = x := by
 rw [List.drop_eq_nil_of_le (by omega)]
 rfl
theorem ol {α : Type} (f : α -> Int -> Int) (B : Int) : ∀ (l : List α) (x : Int), (∀ v ∈ l, ∀ y, 0 <= y -> -B <= f v y /\ f v y <= max y (-1)) -> -B <= x -> -B <= cJ f l x /\ cJ f l x <= max x (-1)
 | [], x, _, h => ⟨h, by rw [cJ]; omega⟩
 | v :: r, x, hf, h => by
  rw [cJ]
  by_cases hx : x < 0
  ·rw [if_pos hx]; exact ⟨h, by omega⟩
  ·rw [if_neg hx]
   have h1 := hf v (mem_cons_self ..) x (by omega)
   have h2 := ol f B r (f v x) (λ u hu => hf u (mem_cons_of_mem _ hu)) h1.1
   exact ⟨h2.1, by omega⟩
def gn : Nat -> Val -> Int -> Int
 | 0, _, _ => -1
 | n + 1, v, x => cJ (gn n) v.l (x - 1 - (v.s.size : Int) / 50)
theorem qM : ∀ (n : Nat) (v : Val) (x : Int), WfV v -> -576460752303423488 <= x -> -1152921504606846976 <= gn n v x /\ gn n v x <= max x (-1)
 | 0, v, x, hw, hx => by rw [gn]; omega
 | n + 1, v, x, hw, hx => by
  rw [gn]
  have hs := hw.str
  unfold maxLen at hs
  have := ol (gn n) 1152921504606846976 v.l (x - 1 - (v.s.size : Int) / 50) (λ u hu y hy => qM n u y (hw.kids u hu) (by omega)) (by omega)
  exact ⟨this.1, by omega⟩
theorem yr {P : Program} {G : Nat -> AV} {f : FuncId} {α β γ : Type} [Enc α] [Enc β] [Enc γ] {pre : α -> β -> γ -> Prop} {res : α -> β -> γ -> AV} (h : ∀ a b c, ¬ pre a b c) : PureOK P G f (eV pre res) := by
 intro w X args avs ob r hX hG hsz harg hp hob
 match avs, hp with
 | [a, b, c], hp =>
  simp only [eV, Option.some.injEq, Prod.mk.injEq] at hp
  obtain ⟨rfl, rfl⟩ := hp
  exact absurd hob.2.2.2 (h _ _ _)
def VlB (v : Val) : Blk := ⟨62, 5, [[.int .i64 v.kind, .int .i64 v.n, .int .i64 v.d, .str v.s, .slice 5 false (aq v.l)]], true, true⟩
def sWn (n : Nat) : PSp := eV (λ (v : Val) (x d : Int) => WfV v /\ -576460752303423488 <= x /\ x <= 1000000 /\ 0 <= d /\ d <= 12 /\ d < n) (λ v x d => .int .i64 (gn d.toNat v x))
noncomputable def CWn (n : Nat) : Ctx := mkC prog G0 [(27, .pure (sWn n))]
@[simp] theorem VW (n : Nat) : (CWn n).P = prog := rfl
@[simp] theorem VV (n : Nat) : (CWn n).S 27 = .pure (sWn n) := rfl
theorem ER {n : Nat} (h : PureOK prog G0 27 (sWn n)) : aB (CWn n) := aH h func27 (ax _ _)
theorem DD (n : Nat) : (CWn n).P.follows .mixedOrders = true := mixed
theorem wN (n : Nat) : ((n : Int)).tdiv 50 = (n : Int) / 50 := Int.tdiv_eq_ediv_of_nonneg (by omega)
theorem Fq : ∀ n : Nat, PureOK prog G0 27 (sWn n)
 | 0 => yr λ v x d h => by omega
 | n + 1 => by
  have ih := Fq n
  refine wJ (C := CWn n) (ER ih) (DD n) func27 rfl rfl rfl (by kernel_rfl) (by decide) (λ v x d ⟨hw, hx, hx2, hd, hd12, hdn⟩ => ?_)
  have hs := hw.str
  have hl := hw.len
  unfold maxLen at hs hl
  have e1 : I64 (x - 1) := by unfold I64; omega
  have e2 : I64 (x - 1 - (v.s.size : Int) / 50) := by unfold I64; omega
  have e4 : I64 ((v.s.size : Int) / 50) := by unfold I64; omega
  by_cases h0 : d = 0
  ·subst h0
   simp [ac, ag, ae, am, ap, aa, au, ab, ao, ak, ah, ai, aj, wN, e1, e2, e4, gn]
  have h1 : ¬ d < 1 := by omega
  have hd1 : d.toNat = (d - 1).toNat + 1 := by omega
  have e3 : I64 (d - 1) := by unfold I64; omega
  simp [ac, ag, ae, am, ap, aa, au, ab, ao, ak, ah, ai, aj, wN, e1, e2, e4, h1]
  refine aT (C := CWn n) (ER ih) (DD n) (λ q : Nat × Int => ⟨[(1, .int .i64 q.2), (2, .int .i64 d), (3, .ptr 0 1 5 0 0), (7, .int .i64 q.1)], [VlB v]⟩) (λ q => q.1 <= v.l.length /\ -1152921504606846976 <= q.2 /\ q.2 <= 1000000 /\ cJ (gn (d - 1).toNat) (v.l.drop q.1) q.2 = gn d.toNat v x) (λ q => v.l.length - q.1) (by kernel_rfl) ⟨(0, x - 1 - (v.s.size : Int) / 50), ⟨by omega, by omega, by omega, by rw [hd1]; rfl⟩, di (by simp) (by simp [VlB])⟩ (λ ⟨i, y⟩ ⟨hi, hy1, hy2, hy⟩ => ?_)
  simp only at hi hy1 hy2 hy ⊢
  by_cases hlt : i < v.l.length
  ·by_cases hneg : y < 0
   ·rw [iL _ _ hneg] at hy
    have hneg' : ¬ 0 <= y := by omega
    simp [ac, ag, ae, am, ap, aa, au, ab, ao, ak, ah, ai, aj, VlB, hlt, hneg', <- hy]
   ·have hneg' : 0 <= y := by omega
    have hm := bJ hlt
    have hk := hw.kids _ hm
    rw [g9 _ hlt hneg] at hy
    have i1 : I64 ((i : Int) + 1) := by unfold I64; omega
    have hb := qM (d - 1).toNat (ix v.l i) y hk (by omega)
    have p1 : -576460752303423488 <= y := by omega
    have p2 : 0 <= d - 1 := by omega
    have p3 : d - 1 < (n : Int) := by omega
    have p4 : d - 1 <= 12 := by omega
    simp [ac, ag, ae, am, ap, aa, au, ab, ao, ak, ah, ai, aj, VlB, hlt, aw hlt, hneg', sWn, hk, p1, hy2, p2, p3, p4, e3, i1]
    exact ⟨by omega, i + 1, gn (d - 1).toNat (ix v.l i) y, ⟨by omega, hb.1, by omega, by rw [show d.toNat - 1 = (d - 1).toNat by omega]; exact hy⟩, by omega, di (by simp) (by simp [VlB])⟩
  ·rw [iK _ hlt] at hy
   simp [ac, ag, ae, am, ap, aa, au, ab, ao, ak, ah, ai, aj, VlB, hlt, <- hy]
def uk : PSp := sWn 13
theorem Mb : PureOK prog G0 27 uk := Fq 13
structure WfP (p : Prp) : Prop where
 k : p.key.size <= maxLen
 v : WfV p.v
def kC (p : Prp) (x : Int) : Int := gn 12 p.v (x - (p.key.size : Int) / 50)
theorem zb {p : Prp} (h : WfP p) {x : Int} (hx : 0 <= x) : -1152921504606846976 <= kC p x /\ kC p x <= max x (-1) := by
 have := h.k
 unfold maxLen at this
 have := qM 12 p.v (x - (p.key.size : Int) / 50) h.v (by omega)
 unfold kC
 omega
def xe : PSp := aW (λ (l : List Prp) (x : Int) => l.length <= maxLen /\ (∀ p ∈ l, WfP p) /\ -9223372036854775808 <= x /\ x <= 1000000) (λ l x => .int .i64 (cJ kC l x))
noncomputable def CWg : Ctx := mkC prog G0 [(27, .pure uk)]
@[simp] theorem VU : CWg.P = prog := rfl
@[simp] theorem VT : CWg.G = G0 := rfl
@[simp] theorem VS : CWg.S 27 = .pure uk := rfl
theorem yQ : aB CWg := aH (Mb) func27 (ax _ _)
theorem S9 : PureOK prog G0 10 xe := by
 refine hZ yQ mixed func10 rfl rfl rfl [4] (by kernel_rfl) (by decide) (λ l x ⟨hl, hp, hx1, hx2⟩ => ?_)
 unfold maxLen at hl
 simp [ac, ag, ae, am, ap, aa, au, ab, ao, ak, ah, ai, aj]
 refine aA yQ mixed [4] (λ q : Nat × Int => ⟨[(0, Enc.enc l), (1, .int .i64 q.2), (5, .int .i64 q.1)], []⟩) (λ q => q.1 <= l.length /\ q.2 <= 1000000 /\ cJ kC (l.drop q.1) q.2 = cJ kC l x) (λ q => l.length - q.1) (by kernel_rfl) ⟨(0, x), ⟨by omega, by omega, rfl⟩, ar (by simp)⟩ (λ ⟨i, y⟩ ⟨hi, hy2, hy⟩ => ?_)
 simp only at hi hy2 hy ⊢
 by_cases hlt : i < l.length
 ·by_cases hneg : y < 0
  ·rw [iL _ _ hneg] at hy
   have hneg' : ¬ 0 <= y := by omega
   simp [ac, ag, ae, am, ap, aa, au, ab, ao, ak, ah, ai, aj, hlt, hneg', <- hy]
  ·have hneg' : 0 <= y := by omega
   have hw := hp _ (bJ hlt)
   have hk := hw.k
   have hv := hw.v
   unfold maxLen at hk
   rw [g9 _ hlt hneg] at hy
   have i1 : I64 ((i : Int) + 1) := by unfold I64; omega
   have hb := zb hw hneg'
   have e2 : I64 (y - ((ix l i).key.size : Int) / 50) := by unfold I64; omega
   have e4 : I64 (((ix l i).key.size : Int) / 50) := by unfold I64; omega
   have p1 : -576460752303423488 <= y - ((ix l i).key.size : Int) / 50 := by omega
   have p2 : y - ((ix l i).key.size : Int) / 50 <= 1000000 := by omega
   simp [ac, ag, ae, am, ap, aa, au, ab, ao, ak, ah, ai, aj, hlt, hneg']
   refine aE yQ mixed [.pure, .pure, .pure, .pure, .read, .pure, .pure, .pure, .pure, .pure, .read, .pure, .pure, .pure, .read, .pure] [[],[],[1,0],[0,1,2],[2,1,0,3],[],[],[],[7,6],[6,7,8],[8,7,6,9],[9,6,7,8,10],[10,8,7,6,9,11],[11,9,6,7,8,10,12,5],[5,12,10,8,7,6,9,11,13,3,0,1,2,4],[4,2,1,0,3,13,11,9,6,7,8,10,12,5,14]] (by kernel_rfl) (by kernel_rfl) (by kernel_rfl) (by kernel_rfl) ?_
   simp [ac, ag, ae, am, ap, aa, au, ab, ao, ak, ah, ai, aj, hlt, aw hlt, wN, uk, sWn, hv, p1, p2, e2, e4, i1]
   exact ⟨i + 1, kC (ix l i) y, ⟨by omega, by omega, hy⟩, by omega, ar (by simp [kC])⟩
 ·rw [iK _ hlt] at hy
  simp [ac, ag, ae, am, ap, aa, au, ab, ao, ak, ah, ai, aj, hlt, <- hy]
structure WfN (n : Nod) : Prop where
 ll : n.labels.length <= maxLen
 ls : ∀ s ∈ n.labels, s.size <= maxLen
 pl : n.props.length <= maxLen
 p : ∀ p ∈ n.props, WfP p
structure WfE (e : Edg) : Prop where
 t : e.type.size <= maxLen
 pl : e.props.length <= maxLen
 p : ∀ p ∈ e.props, WfP p
structure WfG (g : Gra) : Prop where
 nl : g.nodes.length <= maxLen
 n : ∀ n ∈ g.nodes, WfN n
 el : g.edges.length <= maxLen
 e : ∀ e ∈ g.edges, WfE e
def Oc (s : ByteArray) (x : Int) : Int := x - (s.size : Int) / 50
def Bx (n : Nod) (x : Int) : Int := cJ Oc n.labels (cJ kC n.props (x - n.labels.length))
def tq (e : Edg) (x : Int) : Int := cJ kC e.props (x - (e.type.size : Int) / 50)
theorem Mc {l : List Prp} (hp : ∀ p ∈ l, WfP p) {x : Int} (hx : -1152921504606846976 <= x) : -1152921504606846976 <= cJ kC l x /\ cJ kC l x <= max x (-1) :=
 ol kC 1152921504606846976 l x (λ p h y hy => zb (hp p h) hy) hx
theorem JL {e : Edg} (h : WfE e) {x : Int} (hx : 0 <= x) : -1152921504606846976 <= tq e x /\ tq e x <= max x (-1) := by
 have := h.t
 unfold maxLen at this
 have := Mc h.p (x := x - (e.type.size : Int) / 50) (by omega)
 unfold tq
 omega
def gk (g : Gra) (a b : Int) : Bool := decide ((g.nodes.length : Int) <= a) && decide ((g.edges.length : Int) <= b) && decide (0 <= cJ tq g.edges (cJ Bx g.nodes 2000))
def GrB (g : Gra) : Blk := ⟨25, 4, [[.slice 3 false (aq g.nodes), .slice 5 false (aq g.edges), .int .i64 g.nn, .int .i64 g.ne]], true, true⟩
def NdB (n : Nod) : Blk := ⟨48, 3, [[.int .i64 n.id, .slice 1 false (aq n.labels), .slice 6 false (aq n.props)]], true, true⟩
def Ez : PSp := eV (λ (g : Gra) (_ _ : Int) => WfG g) (λ g a b => .bool (gk g a b))
noncomputable def CSmG : Ctx := mkC prog G0 [(10, .pure xe)]
@[simp] theorem Qd : CSmG.P = prog := rfl
@[simp] theorem Qc : CSmG.G = G0 := rfl
@[simp] theorem Qb : CSmG.S 10 = .pure xe := rfl
theorem ml : aB CSmG := aH (S9) func10 (ax _ _)
theorem HY {l : List Prp} (hp : ∀ p ∈ l, WfP p) {x : Int} (hx : -9223372036854775808 <= x) : -9223372036854775808 <= cJ kC l x /\ cJ kC l x <= max x (-1) :=
 ol kC 9223372036854775808 l x (λ p h y hy => by have := zb (hp p h) hy; omega) hx
theorem smG : PureOK prog G0 4 Ez := by
 refine DO ml mixed func4 rfl rfl rfl [16] (by kernel_rfl) (by decide) (λ g a b hg => ?_)
 have hnl := hg.nl
 have hel := hg.el
 unfold maxLen at hnl hel
 by_cases h1 : a < (g.nodes.length : Int)
 ·have e : gk g a b = false := by simp [gk]; omega
  simp [ac, ag, ae, am, ap, aa, au, ab, ao, ak, ah, ai, aj, h1, e]
 by_cases h2 : b < (g.edges.length : Int)
 ·have e : gk g a b = false := by simp [gk]; omega
  simp [ac, ag, ae, am, ap, aa, au, ab, ao, ak, ah, ai, aj, h1, h2, e]
 simp [ac, ag, ae, am, ap, aa, au, ab, ao, ak, ah, ai, aj, h1, h2]
 refine aA ml mixed [16] (λ q : Nat × Int => ⟨[(3, .ptr 0 1 4 0 0), (7, .int .i64 q.2), (8, .int .i64 q.1)], [GrB g]⟩) (λ q => q.1 <= g.nodes.length /\ -9223372036854775808 <= q.2 /\ q.2 <= 2000 /\ cJ Bx (g.nodes.drop q.1) q.2 = cJ Bx g.nodes 2000) (λ q => g.nodes.length - q.1) (by kernel_rfl) ⟨(0, 2000), ⟨by omega, by omega, by omega, rfl⟩, di (by simp) (by simp [GrB])⟩ (λ ⟨i, y⟩ ⟨hi, hy1, hy2, hy⟩ => ?_)
 simp only at hi hy1 hy2 hy ⊢
 by_cases hgo : i < g.nodes.length /\ ¬ y < 0
 ·obtain ⟨hlt, hneg⟩ := hgo
  have hneg' : 0 <= y := by omega
  have hw := hg.n _ (bJ hlt)
  obtain ⟨n, hn⟩ : ∃ n, n = ix g.nodes i := ⟨_, rfl⟩
  rw [g9 _ hlt hneg] at hy
  rw [<- hn] at hw hy
  have hll := hw.ll
  have hpl := hw.pl
  have hp := hw.p
  have hls := hw.ls
  have hll2 : n.labels.length <= maxLen := hll
  have hpl2 : n.props.length <= maxLen := hpl
  unfold maxLen at hll hpl
  have i1 : I64 ((i : Int) + 1) := by unfold I64; omega
  have y1 : I64 (y - (n.labels.length : Int)) := by unfold I64; omega
  have p1 : -9223372036854775808 <= y - (n.labels.length : Int) := by omega
  have p2 : y - (n.labels.length : Int) <= 1000000 := by omega
  have hb := HY hp p1
  simp [ac, ag, ae, am, ap, aa, au, ab, ao, ak, ah, ai, aj, GrB, hlt, aw hlt, <- hn, hneg', xe, hpl2, hp, p1, p2, y1]
  refine ⟨(by first | omega | (unfold I64; omega)), ?_⟩
  refine aA ml mixed [16] (λ q : Nat × Int => ⟨[(3, .ptr 0 1 4 0 0), (7, .int .i64 q.2), (8, .int .i64 i), (9, .ptr 1 1 3 0 0), (10, .int .i64 q.1)], [GrB g, NdB n]⟩) (λ q => q.1 <= n.labels.length /\ -9223372036854775808 <= q.2 /\ q.2 <= 2000 /\ cJ Oc (n.labels.drop q.1) q.2 = Bx n y) (λ q => n.labels.length - q.1) (by kernel_rfl) ⟨(0, cJ kC n.props (y - (n.labels.length : Int))), ⟨by omega, by omega, by omega, rfl⟩, di (by simp) (by simp [GrB, NdB])⟩ (λ ⟨k, z⟩ ⟨hk, hz1, hz2, hz⟩ => ?_)
  simp only at hk hz1 hz2 hz ⊢
  by_cases hgk : k < n.labels.length /\ ¬ z < 0
  ·obtain ⟨hkl, hnz⟩ := hgk
   have hnz' : 0 <= z := by omega
   have hs := hls _ (bJ hkl)
   unfold maxLen at hs
   rw [g9 _ hkl hnz] at hz
   have i2 : I64 ((k : Int) + 1) := by unfold I64; omega
   have e4 : I64 (((ix n.labels k).size : Int) / 50) := by unfold I64; omega
   have e2 : I64 (z - ((ix n.labels k).size : Int) / 50) := by unfold I64; omega
   simp [ac, ag, ae, am, ap, aa, au, ab, ao, ak, ah, ai, aj, GrB, NdB, hkl, aw hkl, hnz', wN, e2, e4, i2]
   exact ⟨k + 1, z - ((ix n.labels k).size : Int) / 50, ⟨by omega, by omega, by omega, hz⟩, by omega, di (by simp) (by simp [GrB, NdB])⟩
  ·have hz' : z = Bx n y := by
    by_cases hkl : k < n.labels.length
    ·rw [<- hz, iL _ _ (by omega)]
    ·rw [<- hz, iK _ hkl]
   have hout : (k < n.labels.length) = False ∨ (0 <= z) = False := by
    rcases em2 (k < n.labels.length) with h | h
    ·exact .inr (eq_false λ h2 => hgk ⟨of_eq_true h, by omega⟩)
    ·exact .inl h
   rcases em2 (k < n.labels.length) with hkl | hkl
   ·have hnz' : (0 <= z) = False := hout.resolve_left (by rw [hkl]; simp)
    simp [ac, ag, ae, am, ap, aa, au, ab, ao, ak, ah, ai, aj, GrB, NdB, hkl, hnz', i1]
    exact ⟨i + 1, z, ⟨by omega, by omega, by omega, by rw [hz']; exact hy⟩, by omega, bH 1 (by simp) (by simp) (by simp [AV.clean, AV.clean1]) (by simp) (by simp [GrB])⟩
   ·simp [ac, ag, ae, am, ap, aa, au, ab, ao, ak, ah, ai, aj, GrB, NdB, hkl, i1]
    exact ⟨i + 1, z, ⟨by omega, by omega, by omega, by rw [hz']; exact hy⟩, by omega, bH 1 (by simp) (by simp) (by simp [AV.clean, AV.clean1]) (by simp) (by simp [GrB])⟩
 ·have hy' : y = cJ Bx g.nodes 2000 := by
   by_cases hlt : i < g.nodes.length
   ·rw [<- hy, iL _ _ (by omega)]
   ·rw [<- hy, iK _ hlt]
  have hB : gk g a b = decide (0 <= cJ tq g.edges y) := by
   unfold gk
   rw [<- hy', decide_eq_true (by omega), decide_eq_true (by omega)]
   rfl
  rw [hB]
  rcases em2 (i < g.nodes.length) with hlt | hlt
  case' inl => have hneg' : (0 <= y) = False := eq_false λ h2 => hgo ⟨of_eq_true hlt, by omega⟩
  case' inr => have hneg' : True := trivial
  all_goals
   simp [ac, ag, ae, am, ap, aa, au, ab, ao, ak, ah, ai, aj, GrB, hlt, hneg']
   refine aA ml mixed [16] (λ q : Nat × Int => ⟨[(3, .ptr 0 1 4 0 0), (7, .int .i64 q.2), (11, .int .i64 q.1)], [GrB g]⟩) (λ q => q.1 <= g.edges.length /\ -9223372036854775808 <= q.2 /\ q.2 <= 2000 /\ cJ tq (g.edges.drop q.1) q.2 = cJ tq g.edges y) (λ q => g.edges.length - q.1) (by kernel_rfl) ⟨(0, y), ⟨by omega, by omega, by omega, rfl⟩, di (by simp) (by simp [GrB])⟩ (λ ⟨k, z⟩ ⟨hk, hz1, hz2, hz⟩ => ?_)
   simp only at hk hz1 hz2 hz ⊢
   by_cases hkl : k < g.edges.length
   ·by_cases hnz : z < 0
    ·rw [iL _ _ hnz] at hz
     have hnz' : ¬ 0 <= z := by omega
     simp [ac, ag, ae, am, ap, aa, au, ab, ao, ak, ah, ai, aj, GrB, hkl, hnz', <- hz]
    ·have hnz' : 0 <= z := by omega
     have hwe := hg.e _ (bJ hkl)
     have ht := hwe.t
     have hpl := hwe.pl
     have hp := hwe.p
     unfold maxLen at ht
     rw [g9 _ hkl hnz] at hz
     have i2 : I64 ((k : Int) + 1) := by unfold I64; omega
     have e4 : I64 (((ix g.edges k).type.size : Int) / 50) := by unfold I64; omega
     have e2 : I64 (z - ((ix g.edges k).type.size : Int) / 50) := by unfold I64; omega
     have p1 : -9223372036854775808 <= z - ((ix g.edges k).type.size : Int) / 50 := by omega
     have p2 : z - ((ix g.edges k).type.size : Int) / 50 <= 1000000 := by omega
     have hb := JL hwe hnz'
     simp [ac, ag, ae, am, ap, aa, au, ab, ao, ak, ah, ai, aj, GrB, hkl, hnz']
     refine aE ml mixed [.pure, .read, .pure, .pure, .pure, .read, .pure, .pure, .read, .pure, .pure, .pure, .read, .pure, .pure, .pure, .read, .pure] [[],[0],[],[2,0,1],[1,0,2,3],[3,2,0,1,4],[],[],[7],[],[9,7,8],[8,7,9,10],[10,9,7,8,11],[11,8,7,9,10,12],[12,10,9,7,8,11,13],[13,11,8,7,9,10,12,14,6],[6,14,12,10,9,7,8,11,13,15,4,1,0,2,3,5],[5,3,2,0,1,4,15,13,11,8,7,9,10,12,14,6,16]] (by kernel_rfl) (by kernel_rfl) (by kernel_rfl) (by kernel_rfl) ?_
     simp [ac, ag, ae, am, ap, aa, au, ab, ao, ak, ah, ai, aj, GrB, hkl, aw hkl, wN, xe, hpl, hp, p1, p2, e2, e4, i2]
     exact ⟨hp, k + 1, tq (ix g.edges k) z, ⟨by omega, by omega, by omega, hz⟩, by omega, di (by simp [tq]) (by simp [GrB])⟩
   ·rw [iK _ hkl] at hz
    simp [ac, ag, ae, am, ap, aa, au, ab, ao, ak, ah, ai, aj, GrB, hkl, <- hz]
structure SumR (n p m q : Int) : Prop where
 pre : PreSum (sgn n) (vF ((cH n).toNat * p.toNat)) (sgn m) (vF ((cH m).toNat * q.toNat))
 val : SM (sgn n) (vF ((cH n).toNat * p.toNat)) (sgn m) (vF ((cH m).toNat * q.toNat)) = n * p + m * q
 big : (n * p + m * q).natAbs <= 2000000000000000000000000000000
def fh (v : Val) : Bool := okV v && (decide (v.kind = 1) || decide (v.kind = 2) || decide (v.kind = 4))
def iG : PSp := aN (λ (v : Val) => WfV v) (λ v => .bool (fh v))
noncomputable def CVl1 : Ctx := mkC prog G0 [(128, .pure yE)]
@[simp] theorem Qg : CVl1.P = prog := rfl
@[simp] theorem Qf : CVl1.G = G0 := rfl
@[simp] theorem Qe : CVl1.S 128 = .pure yE := rfl
theorem HB : aB CVl1 := aH (vR) func128 (ax _ _)
theorem KL : PureOK prog G0 67 iG := by
 refine ci HB mixed func67 rfl rfl rfl (by kernel_rfl) (by decide) (λ v hw => ?_)
 cases h : okV v
 ·simp [ac, ag, ae, am, ap, aa, au, ab, ao, ak, ah, ai, aj, yE, hw, h, fh]
 rcases em2 (v.kind = 1) with h1 | h1
 ·simp [ac, ag, ae, am, ap, aa, au, ab, ao, ak, ah, ai, aj, yE, hw, h, fh, h1]
 rcases em2 (v.kind = 2) with h2 | h2
 ·simp [ac, ag, ae, am, ap, aa, au, ab, ao, ak, ah, ai, aj, yE, hw, h, fh, h1, h2]
 rcases em2 (v.kind = 4) with h3 | h3 <;> simp [ac, ag, ae, am, ap, aa, au, ab, ao, ak, ah, ai, aj, yE, hw, h, fh, h1, h2, h3]
structure WfA (a : Atm) : Prop where
 vl : a.vars.length <= maxLen
 iv : ∀ v ∈ a.vars, I64 v
 nm : a.name.size <= maxLen
 tl : a.types.length <= maxLen
 v : WfV a.v
structure WfC (c : Cnj) : Prop where
 vl : c.vars.length <= maxLen
 al : c.atoms.length <= maxLen
 a : ∀ a ∈ c.atoms, WfA a
def JD : List Int -> List Int -> Int
 | [], [] => 0
 | [], _ :: _ => -1
 | _ :: _, [] => 1
 | a :: r, b :: q => if a < b then -1 else if b < a then 1 else JD r q
def tQ : List (List Int) -> List (List Int) -> List (List Int)
 | [], b => b
 | x :: r, [] => x :: r
 | x :: r, y :: q => if JD x y < 0 then x :: tQ r (y :: q) else if JD x y = 0 then x :: tQ r q else y :: tQ (x :: r) q
termination_by a b => a.length + b.length
def srt (l : List (List Int)) : List (List Int) := if h : l.length <= 1 then l else tQ (srt (l.take (l.length / 2))) (srt (l.drop (l.length / 2)))
termination_by l.length
decreasing_by
 ·rw [length_take]; omega
 ·rw [List.length_drop]; omega
def rB (e : TypeId) (rows : List (List AV)) : Blk := ⟨e, 1, rows, true, true⟩
def eI (l : List ByteArray) : Bool := decide (∀ s ∈ l, da s = true)
def leB (a b : ByteArray) : Bool := Op.bytesLess a.toList b.toList || decide (a = b)
def qf (l : List ByteArray) : Bool := decide (∀ i, i < l.length -> 0 < i -> leB (ix l i) (ix l (i - 1)) = false)
def gB (l : List Prp) : List ByteArray := l.map (·.key)
theorem rV {l : List Prp} {i : Nat} (h : i < l.length) : gB (l.take (i + 1)) = gB (l.take i) ++ [(ix l i).key] := by
 unfold gB
 rw [List.take_succ_eq_append_getElem h, List.map_append, bF h]
 rfl
def w9 : PSp := aN (λ (l : List ByteArray) => l.length <= maxLen) (λ l => .bool (eI l))
noncomputable def CNms : Ctx := mkC prog G0 [(30, .pure fy)]
@[simp] theorem P7 : CNms.P = prog := rfl
@[simp] theorem P6 : CNms.G = G0 := rfl
@[simp] theorem P5 : CNms.S 30 = .pure fy := rfl
theorem Aw : aB CNms := aH (IoQ) func30 (ax _ _)
theorem Sb : PureOK prog G0 65 w9 := by
 refine ci Aw mixed func65 rfl rfl rfl (by kernel_rfl) (by decide) (λ l hl => ?_)
 unfold maxLen at hl
 simp [ac, ag, ae, am, ap, aa, au, ab, ao, ak, ah, ai, aj]
 refine aT Aw mixed (λ i : Nat => ⟨[(0, Enc.enc l), (3, .int .i64 i)], []⟩) (λ i => i <= l.length /\ ∀ j, j < i -> da (ix l j) = true) (λ i => l.length - i) (by kernel_rfl) ⟨0, by simp, ar (by simp)⟩ (λ i ⟨hi, hall⟩ => ?_)
 by_cases hlt : i < l.length
 ·have i1 : I64 ((i : Int) + 1) := by unfold I64; omega
  cases hb : da (ix l i)
  ·have e : eI l = false := decide_eq_false λ h => by
    have := h _ (bJ hlt)
    rw [hb] at this
    cases this
   simp [ac, ag, ae, am, ap, aa, au, ab, ao, ak, ah, ai, aj, hlt, aw hlt, fy, hb, e]
  ·simp [ac, ag, ae, am, ap, aa, au, ab, ao, ak, ah, ai, aj, hlt, aw hlt, fy, hb, i1]
   refine ⟨i + 1, ⟨by omega, λ j hj => ?_⟩, by omega, ar (by simp)⟩
   rcases lt_or_eq_of_le (le_of_lt_succ hj) with h | rfl
   ·exact hall j h
   ·exact hb
 ·have e : eI l = true := decide_eq_true λ s hs => by
   obtain ⟨j, hj, rfl⟩ := mem_iff_getElem.1 hs
   have := hall j (by omega)
   rwa [bF hj] at this
  simp [ac, ag, ae, am, ap, aa, au, ab, ao, ak, ah, ai, aj, hlt, e]
def nY : PSp := aN (λ (l : List ByteArray) => l.length <= maxLen) (λ l => .bool (qf l))
theorem Ss : PureOK prog G0 66 nY := by
 refine ci aR mixed func66 rfl rfl rfl (by kernel_rfl) (by decide) (λ l hl => ?_)
 unfold maxLen at hl
 simp [ac, ag, ae, am, ap, aa, au, ab, ao, ak, ah, ai, aj]
 refine aT aR mixed (λ i : Nat => ⟨[(0, Enc.enc l), (3, .int .i64 ((i : Int) + 1))], []⟩) (λ i => i <= l.length /\ ∀ j, 0 < j -> j < i + 1 -> j < l.length -> leB (ix l j) (ix l (j - 1)) = false) (λ i => l.length - i) (by kernel_rfl) ⟨0, ⟨by omega, λ j h1 h2 => by omega⟩, ar (by simp)⟩ (λ i ⟨hi, hs⟩ => ?_)
 by_cases hlt : i + 1 < l.length
 ·have i0 : I64 (i : Int) := by unfold I64; omega
  have i1 : I64 ((i : Int) + 1) := by unfold I64; omega
  have i2 : I64 ((i : Int) + 1 + 1) := by unfold I64; omega
  have h1 : (i : Int) + 1 < l.length := by omega
  have h2 : i < l.length := by omega
  have e1 : ((i : Int) + 1).toNat = i + 1 := by omega
  have e2 : (0 : Int) <= (i : Int) + 1 := by omega
  cases h3 : leB (ix l (i + 1)) (ix l i)
  ·have h3' := h3
   unfold leB at h3'
   simp [ac, ag, ae, am, ap, aa, au, ab, ao, ak, ah, ai, aj, h1, h2, hlt, e1, e2, aw h2, aw hlt, i0, i1, i2, h3']
   refine ⟨i + 1, ⟨by omega, λ j hj1 hj2 hj3 => ?_⟩, by omega, ar (by simp)⟩
   rcases lt_or_eq_of_le (le_of_lt_succ hj2) with h | rfl
   ·exact hs j hj1 h hj3
   ·exact h3
  ·have hB : qf l = false := decide_eq_false λ h => by
    have := h (i + 1) hlt (by omega)
    rw [add_sub_cancel, h3] at this
    cases this
   have h3' := h3
   unfold leB at h3'
   simp [ac, ag, ae, am, ap, aa, au, ab, ao, ak, ah, ai, aj, h1, h2, hlt, e1, e2, aw h2, aw hlt, i0, i1, i2, h3', hB]
 ·have h1 : ¬ (i : Int) + 1 < l.length := by omega
  have hB : qf l = true := decide_eq_true λ j hj2 hj1 => hs j hj1 (by omega) hj2
  simp [ac, ag, ae, am, ap, aa, au, ab, ao, ak, ah, ai, aj, h1, hB]
theorem Sr : PureOK prog G0 104 nY := by
 refine ci aR mixed func104 rfl rfl rfl (by kernel_rfl) (by decide) (λ l hl => ?_)
 unfold maxLen at hl
 simp [ac, ag, ae, am, ap, aa, au, ab, ao, ak, ah, ai, aj]
 refine aT aR mixed (λ i : Nat => ⟨[(0, Enc.enc l), (3, .int .i64 ((i : Int) + 1))], []⟩) (λ i => i <= l.length /\ ∀ j, 0 < j -> j < i + 1 -> j < l.length -> leB (ix l j) (ix l (j - 1)) = false) (λ i => l.length - i) (by kernel_rfl) ⟨0, ⟨by omega, λ j h1 h2 => by omega⟩, ar (by simp)⟩ (λ i ⟨hi, hs⟩ => ?_)
 by_cases hlt : i + 1 < l.length
 ·have i0 : I64 (i : Int) := by unfold I64; omega
  have i1 : I64 ((i : Int) + 1) := by unfold I64; omega
  have i2 : I64 ((i : Int) + 1 + 1) := by unfold I64; omega
  have h1 : (i : Int) + 1 < l.length := by omega
  have h2 : i < l.length := by omega
  have e1 : ((i : Int) + 1).toNat = i + 1 := by omega
  have e2 : (0 : Int) <= (i : Int) + 1 := by omega
  cases h3 : leB (ix l (i + 1)) (ix l i)
  ·have h3' := h3
   unfold leB at h3'
   simp [ac, ag, ae, am, ap, aa, au, ab, ao, ak, ah, ai, aj, h1, h2, hlt, e1, e2, aw h2, aw hlt, i0, i1, i2, h3']
   refine ⟨i + 1, ⟨by omega, λ j hj1 hj2 hj3 => ?_⟩, by omega, ar (by simp)⟩
   rcases lt_or_eq_of_le (le_of_lt_succ hj2) with h | rfl
   ·exact hs j hj1 h hj3
   ·exact h3
  ·have hB : qf l = false := decide_eq_false λ h => by
    have := h (i + 1) hlt (by omega)
    rw [add_sub_cancel, h3] at this
    cases this
   have h3' := h3
   unfold leB at h3'
   simp [ac, ag, ae, am, ap, aa, au, ab, ao, ak, ah, ai, aj, h1, h2, hlt, e1, e2, aw h2, aw hlt, i0, i1, i2, h3', hB]
 ·have h1 : ¬ (i : Int) + 1 < l.length := by omega
  have hB : qf l = true := decide_eq_true λ j hj2 hj1 => hs j hj1 (by omega) hj2
  simp [ac, ag, ae, am, ap, aa, au, ab, ao, ak, ah, ai, aj, h1, hB]
def w6 : PSp := aN (λ (l : List Prp) => l.length <= 1000) (λ l => Enc.enc (gB l))
theorem R4 : PureOK prog G0 64 w6 := by
 refine ci aR mixed func64 rfl rfl rfl (by kernel_rfl) (by decide) (λ l hl => ?_)
 simp [ac, ag, ae, am, ap, aa, au, ab, ao, ak, ah, ai, aj]
 refine aT aR mixed (λ i : Nat => ⟨[(0, Enc.enc l), (3, .own 0 (gB (l.take i)).length), (4, .int .i64 i)], [⟨9, 1, aq (gB (l.take i)), true, true⟩]⟩) (λ i => i <= l.length) (λ i => l.length - i) (by kernel_rfl) ⟨0, by simp, (ev 3 1 9 (by simp) (by decide)).trans (ar (by simp [gB]))⟩ (λ i hi => ?_)
 by_cases hlt : i < l.length
 ·have i1 : I64 ((i : Int) + 1) := by unfold I64; omega
  have hk : (gB (l.take i)).length = i := by simp [gB]; omega
  simp [ac, ag, ae, am, ap, aa, au, ab, ao, ak, ah, ai, aj, hlt, aw hlt, i1, hk]
  refine ⟨⟨by omega, by omega⟩, i + 1, by omega, by omega, ?_⟩
  rw [rV hlt]
  exact bH 1 (by simp [hk]) (by simp) (by simp [AV.clean, AV.clean1]) (by simp) (by simp [aq])
 ·have e : l.take i = l := List.take_of_length_le (by omega)
  simp [ac, ag, ae, am, ap, aa, au, ab, ao, ak, ah, ai, aj, hlt, e]
def gF (l : List Prp) : Bool := decide (∀ p ∈ l, fh p.v = true)
def cn (labels : List ByteArray) (ps : List Prp) : Int :=
 if 8 < labels.length then 4 else if 16 < ps.length then 4 else if eI labels = false then 6 else if eI (gB ps) = false then 6
 else if qf labels = false then 26 else if qf (gB ps) = false then 26 else if gF ps = false then 8 else 0
def kU : PSp := aW (λ (l : List ByteArray) (ps : List Prp) => l.length <= maxLen /\ ps.length <= maxLen /\ ∀ p ∈ ps, WfP p) (λ l ps => .int .i64 (cn l ps))
noncomputable def CPts : Ctx := mkC prog G0 [(64, .pure w6), (65, .pure w9), (66, .pure nY), (67, .pure iG)]
@[simp] theorem Qa : CPts.P = prog := rfl
@[simp] theorem P9 : CPts.G = G0 := rfl
@[simp] theorem P8 : CPts.S 64 = .pure w6 /\ CPts.S 65 = .pure w9 /\ CPts.S 66 = .pure nY /\ CPts.S 67 = .pure iG := ⟨rfl, rfl, rfl, rfl⟩
theorem Ax : aB CPts := aH (R4) func64 (aH (Sb) func65 (aH (Ss) func66 (aH (KL) func67 (ax _ _))))
theorem OI : PureOK prog G0 28 kU := by
 refine db Ax mixed func28 rfl rfl rfl (by kernel_rfl) (by decide) (λ l ps ⟨hl, hp, hw⟩ => ?_)
 have hl' := hl
 have hp' := hp
 unfold maxLen at hl' hp'
 rcases em2 (8 < l.length) with h1 | h1
 ·have h1' : ((8 : Int) < l.length) = True := eq_true (by have := of_eq_true h1; omega)
  simp [ac, ag, ae, am, ap, aa, au, ab, ao, ak, ah, ai, aj, cn, h1, h1']
 have h1' : ((8 : Int) < l.length) = False := eq_false (by have := of_eq_false h1; omega)
 rcases em2 (16 < ps.length) with h2 | h2
 ·have h2' : ((16 : Int) < ps.length) = True := eq_true (by have := of_eq_true h2; omega)
  simp [ac, ag, ae, am, ap, aa, au, ab, ao, ak, ah, ai, aj, cn, h1, h1', h2, h2']
 have h2' : ((16 : Int) < ps.length) = False := eq_false (by have := of_eq_false h2; omega)
 have hk : ps.length <= 1000 := by have := of_eq_false h2; omega
 have hkl : (gB ps).length <= maxLen := by unfold gB maxLen; simp; omega
 cases h3 : eI l
 ·simp [ac, ag, ae, am, ap, aa, au, ab, ao, ak, ah, ai, aj, cn, h1, h1', h2, h2', w6, hk, w9, hl, h3]
 cases h4 : eI (gB ps)
 ·simp [ac, ag, ae, am, ap, aa, au, ab, ao, ak, ah, ai, aj, cn, h1, h1', h2, h2', w6, hk, w9, hl, hkl, h3, h4]
 cases h5 : qf l
 ·simp [ac, ag, ae, am, ap, aa, au, ab, ao, ak, ah, ai, aj, cn, h1, h1', h2, h2', w6, hk, w9, nY, hl, hkl, h3, h4, h5]
 cases h6 : qf (gB ps)
 ·simp [ac, ag, ae, am, ap, aa, au, ab, ao, ak, ah, ai, aj, cn, h1, h1', h2, h2', w6, hk, w9, nY, hl, hkl, h3, h4, h5, h6]
 have e : cn l ps = if gF ps = false then 8 else 0 := by simp [cn, h1, h2, h3, h4, h5, h6]
 rw [e]
 simp [ac, ag, ae, am, ap, aa, au, ab, ao, ak, ah, ai, aj, h1', h2', w6, hk, w9, nY, hl, hkl, h3, h4, h5, h6]
 refine aT Ax mixed (λ i : Nat => ⟨[(1, Enc.enc ps), (6, .int .i64 i)], []⟩) (λ i => i <= ps.length /\ ∀ j, j < i -> fh (ix ps j).v = true) (λ i => ps.length - i) (by kernel_rfl) ⟨0, by simp, ar (by simp)⟩ (λ i ⟨hi, hall⟩ => ?_)
 by_cases hlt : i < ps.length
 ·have i1 : I64 ((i : Int) + 1) := by unfold I64; omega
  have hwv := (hw _ (bJ hlt)).v
  cases hb : fh (ix ps i).v
  ·have e2 : gF ps = false := decide_eq_false λ h => by
    have := h _ (bJ hlt)
    rw [hb] at this
    cases this
   simp [ac, ag, ae, am, ap, aa, au, ab, ao, ak, ah, ai, aj, hlt, aw hlt, iG, hwv, hb, e2]
  ·simp [ac, ag, ae, am, ap, aa, au, ab, ao, ak, ah, ai, aj, hlt, aw hlt, iG, hwv, hb, i1]
   refine ⟨i + 1, ⟨by omega, λ j hj => ?_⟩, by omega, ar (by simp)⟩
   rcases lt_or_eq_of_le (le_of_lt_succ hj) with h | rfl
   ·exact hall j h
   ·exact hb
 ·have e2 : gF ps = true := decide_eq_true λ s hs => by
   obtain ⟨j, hj, rfl⟩ := mem_iff_getElem.1 hs
   have := hall j (by omega)
   rwa [bF hj] at this
  simp [ac, ag, ae, am, ap, aa, au, ab, ao, ak, ah, ai, aj, hlt, e2]
def xz : Nod := ⟨0, [], []⟩
def eT (g : Gra) (id : Int) : Nod × Bool := match g.nodes.find? (λ n => decide (n.id = id)) with | some n => (n, true) | none => (xz, false)
theorem DI {g : Gra} {id : Int} {i : Nat} (hi : i < g.nodes.length) (he : (ix g.nodes i).id = id) (h : ∀ j, j < i -> (ix g.nodes j).id ≠ id) : eT g id = (ix g.nodes i, true) := by
 have : g.nodes.find? (λ n => decide (n.id = id)) = some (ix g.nodes i) := by
  rw [List.find?_eq_some_iff_getElem]
  refine ⟨by simpa using he, i, hi, (bF hi).symm, λ j hj => ?_⟩
  have := h j hj
  rw [bF (by omega)] at this
  simpa using this
 unfold eT
 rw [this]
theorem yj {g : Gra} {id : Int} (h : ∀ j, j < g.nodes.length -> (ix g.nodes j).id ≠ id) : eT g id = (xz, false) := by
 have : g.nodes.find? (λ n => decide (n.id = id)) = none := by
  rw [List.find?_eq_none]
  intro n hn
  obtain ⟨j, hj, rfl⟩ := mem_iff_getElem.1 hn
  have := h j hj
  rw [bF hj] at this
  simpa using this
 unfold eT
 rw [this]
theorem pU {g : Gra} {id : Int} (h : (eT g id).2 = true) : ∃ n ∈ g.nodes, n.id = id := by
 unfold eT at h
 split at h
 ·rename_i n hn
  have h1 := List.find?_some hn
  exact ⟨n, List.mem_of_find?_eq_some hn, by simpa using h1⟩
 ·cases h
def ZnB : Blk := ⟨48, 3, [[.int .i64 0, .slice 1 true [], .slice 6 true []]], true, true⟩
def qq : PSp := aW (λ (g : Gra) (_ : Int) => g.nodes.length <= maxLen) (λ g id => .tup [Enc.enc (eT g id).1, .bool (eT g id).2])
theorem Sc : PureOK prog G0 29 qq := by
 refine db aR mixed func29 rfl rfl rfl (by kernel_rfl) (by decide) (λ g id hl => ?_)
 unfold maxLen at hl
 obtain ⟨r, hr⟩ : ∃ r, eT g id = r := ⟨_, rfl⟩
 rw [hr]
 simp [ac, ag, ae, am, ap, aa, au, ab, ao, ak, ah, ai, aj]
 refine aT aR mixed (λ i : Nat => ⟨[(1, .int .i64 id), (2, .ptr 0 1 4 0 0), (4, .ptr 1 1 3 0 0), (6, .int .i64 i)], [GrB g, ZnB]⟩) (λ i => i <= g.nodes.length /\ ∀ j, j < i -> (ix g.nodes j).id ≠ id) (λ i => g.nodes.length - i) (by kernel_rfl) ⟨0, by simp, di (by simp) (by simp [GrB, ZnB])⟩ (λ i ⟨hi, hall⟩ => ?_)
 by_cases hlt : i < g.nodes.length
 ·have i1 : I64 ((i : Int) + 1) := by unfold I64; omega
  rcases em2 ((ix g.nodes i).id = id) with hb | hb
  ·have e := DI hlt (of_eq_true hb) hall
   rw [hr] at e
   subst e
   simp [ac, ag, ae, am, ap, aa, au, ab, ao, ak, ah, ai, aj, GrB, ZnB, xz, hlt, aw hlt, hb]
  ·simp [ac, ag, ae, am, ap, aa, au, ab, ao, ak, ah, ai, aj, GrB, ZnB, xz, hlt, aw hlt, hb, i1]
   refine ⟨i + 1, ⟨by omega, λ j hj => ?_⟩, by omega, di (by simp) (by simp [GrB, ZnB])⟩
   rcases lt_or_eq_of_le (le_of_lt_succ hj) with h | rfl
   ·exact hall j h
   ·exact of_eq_false hb
 ·have e := yj λ j hj => hall j (by omega)
  rw [hr] at e
  subst e
  simp [ac, ag, ae, am, ap, aa, au, ab, ao, ak, ah, ai, aj, GrB, ZnB, xz, hlt]
def dW (g : Gra) (i : Nat) : Int :=
 if 0 < i /\ (ix g.nodes i).id <= (ix g.nodes (i - 1)).id then 26 else if (ix g.nodes i).id < 1 then 1 else if g.nn <= (ix g.nodes i).id then 1 else cn (ix g.nodes i).labels (ix g.nodes i).props
def Es : PSp := aW (λ (g : Gra) (i : Int) => WfG g /\ 0 <= i /\ i < g.nodes.length) (λ g i => .int .i64 (dW g i.toNat))
noncomputable def CNdE : Ctx := mkC prog G0 [(28, .pure kU)]
@[simp] theorem P4 : CNdE.P = prog := rfl
@[simp] theorem P3 : CNdE.G = G0 := rfl
@[simp] theorem P2 : CNdE.S 28 = .pure kU := rfl
theorem HA : aB CNdE := aH (OI) func28 (ax _ _)
theorem Sa : PureOK prog G0 11 Es := by
 refine db HA mixed func11 rfl rfl rfl (by kernel_rfl) (by decide) (λ g i ⟨hg, h0, h1⟩ => ?_)
 obtain ⟨i, rfl⟩ := eq_ofNat_of_zero_le h0
 have hlt : i < g.nodes.length := by omega
 have hnl := hg.nl
 unfold maxLen at hnl
 have hw := hg.n _ (bJ hlt)
 have hll := hw.ll
 have hpl := hw.pl
 have hp := hw.p
 rw [Int.toNat_natCast]
 obtain ⟨r, hr⟩ : ∃ r, dW g i = r := ⟨_, rfl⟩
 rw [hr]
 rcases em2 (0 < i) with hi | hi
 ·have hi' := of_eq_true hi
  have q5 : i - 1 < g.nodes.length := by omega
  have q6 : ((i : Int) - 1).toNat = i - 1 := by omega
  have q7 : (i : Int) - 1 < g.nodes.length := by omega
  have q8 : (0 : Int) <= (i : Int) - 1 := by omega
  have q10 : (1 : Int) <= (i : Int) := by omega
  have q9 : I64 ((i : Int) - 1) := by unfold I64; omega
  rcases em2 ((ix g.nodes i).id <= (ix g.nodes (i - 1)).id) with h2 | h2
  ·have e : r = 26 := by rw [<- hr, dW, if_pos ⟨hi', of_eq_true h2⟩]
   subst e
   simp [ac, ag, ae, am, ap, aa, au, ab, ao, ak, ah, ai, aj, hlt, aw hlt, hi, hi', q5, q6, q7, q8, q9, q10, aw q5, h2]
  ·rcases em2 ((ix g.nodes i).id < 1) with h3 | h3
   ·have e : r = 1 := by rw [<- hr, dW, if_neg (λ h => of_eq_false h2 h.2), if_pos (of_eq_true h3)]
    subst e
    simp [ac, ag, ae, am, ap, aa, au, ab, ao, ak, ah, ai, aj, hlt, aw hlt, hi, hi', q5, q6, q7, q8, q9, q10, aw q5, h2, h3]
   rcases em2 (g.nn <= (ix g.nodes i).id) with h4 | h4
   ·have e : r = 1 := by rw [<- hr, dW, if_neg (λ h => of_eq_false h2 h.2), if_neg (of_eq_false h3), if_pos (of_eq_true h4)]
    subst e
    simp [ac, ag, ae, am, ap, aa, au, ab, ao, ak, ah, ai, aj, hlt, aw hlt, hi, hi', q5, q6, q7, q8, q9, q10, aw q5, h2, h3, h4]
   have e : r = cn (ix g.nodes i).labels (ix g.nodes i).props := by rw [<- hr, dW, if_neg (λ h => of_eq_false h2 h.2), if_neg (of_eq_false h3), if_neg (of_eq_false h4)]
   subst e
   simp [ac, ag, ae, am, ap, aa, au, ab, ao, ak, ah, ai, aj, hlt, aw hlt, hi, hi', q5, q6, q7, q8, q9, q10, aw q5, h2, h3, h4, kU, hll, hpl]
   exact hp
 ·rcases em2 ((ix g.nodes i).id < 1) with h3 | h3
  ·have e : r = 1 := by rw [<- hr, dW, if_neg (λ h => of_eq_false hi h.1), if_pos (of_eq_true h3)]
   subst e
   simp [ac, ag, ae, am, ap, aa, au, ab, ao, ak, ah, ai, aj, hlt, aw hlt, hi, h3]
  rcases em2 (g.nn <= (ix g.nodes i).id) with h4 | h4
  ·have e : r = 1 := by rw [<- hr, dW, if_neg (λ h => of_eq_false hi h.1), if_neg (of_eq_false h3), if_pos (of_eq_true h4)]
   subst e
   simp [ac, ag, ae, am, ap, aa, au, ab, ao, ak, ah, ai, aj, hlt, aw hlt, hi, h3, h4]
  have e : r = cn (ix g.nodes i).labels (ix g.nodes i).props := by rw [<- hr, dW, if_neg (λ h => of_eq_false hi h.1), if_neg (of_eq_false h3), if_neg (of_eq_false h4)]
  subst e
  simp [ac, ag, ae, am, ap, aa, au, ab, ao, ak, ah, ai, aj, hlt, aw hlt, hi, h3, h4, kU, hll, hpl]
  exact hp
def ig (g : Gra) (i : Nat) : Int :=
 if 0 < i /\ (ix g.edges i).id <= (ix g.edges (i - 1)).id then 26 else if (ix g.edges i).id < 1 then 1 else if g.ne <= (ix g.edges i).id then 1
 else if (eT g (ix g.edges i).frm).2 = false then 10 else if (eT g (ix g.edges i).to).2 = false then 10 else if da (ix g.edges i).type = false then 6 else cn [] (ix g.edges i).props
def Ei : PSp := aW (λ (g : Gra) (i : Int) => WfG g /\ 0 <= i /\ i < g.edges.length) (λ g i => .int .i64 (ig g i.toNat))
noncomputable def CEdE : Ctx := mkC prog G0 [(28, .pure kU), (29, .pure qq), (30, .pure fy)]
@[simp] theorem PY : CEdE.P = prog := rfl
@[simp] theorem PX : CEdE.G = G0 := rfl
@[simp] theorem PW : CEdE.S 28 = .pure kU /\ CEdE.S 29 = .pure qq /\ CEdE.S 30 = .pure fy := ⟨rfl, rfl, rfl⟩
theorem Hy : aB CEdE := aH (OI) func28 (aH (Sc) func29 (aH (IoQ) func30 (ax _ _)))
theorem Bc {g : Gra} {i : Nat} {r : Int} (hr : ig g i = r) (h1 : ¬ (0 < i /\ (ix g.edges i).id <= (ix g.edges (i - 1)).id)) : r = if (ix g.edges i).id < 1 then 1 else if g.ne <= (ix g.edges i).id then 1 else if (eT g (ix g.edges i).frm).2 = false then 10 else if (eT g (ix g.edges i).to).2 = false then 10 else if da (ix g.edges i).type = false then 6 else cn [] (ix g.edges i).props := by
 rw [<- hr, ig, if_neg h1]
theorem RB : PureOK prog G0 12 Ei := by
 refine db Hy mixed func12 rfl rfl rfl (by kernel_rfl) (by decide) (λ g i ⟨hg, h0, h1⟩ => ?_)
 obtain ⟨i, rfl⟩ := eq_ofNat_of_zero_le h0
 have hlt : i < g.edges.length := by omega
 have hel := hg.el
 unfold maxLen at hel
 have hnl := hg.nl
 have hw := hg.e _ (bJ hlt)
 have hpl := hw.pl
 have hp := hw.p
 have h0l : (0 : Nat) <= maxLen := zero_le _
 rw [Int.toNat_natCast]
 obtain ⟨r, hr⟩ : ∃ r, ig g i = r := ⟨_, rfl⟩
 rw [hr]
 obtain ⟨e, he⟩ : ∃ e, ix g.edges i = e := ⟨_, rfl⟩
 obtain ⟨u, hu⟩ : ∃ u, eT g e.frm = u := ⟨_, rfl⟩
 obtain ⟨v, hv⟩ : ∃ v, eT g e.to = v := ⟨_, rfl⟩
 obtain ⟨u1, u2⟩ := u
 obtain ⟨v1, v2⟩ := v
 have tl := Bc hr
 rw [he, hu, hv] at tl
 simp only at tl
 rw [he] at hpl hp
 rcases em2 (0 < i) with hi | hi
 ·have hi' := of_eq_true hi
  have q5 : i - 1 < g.edges.length := by omega
  have q6 : ((i : Int) - 1).toNat = i - 1 := by omega
  have q7 : (i : Int) - 1 < g.edges.length := by omega
  have q8 : (0 : Int) <= (i : Int) - 1 := by omega
  have q10 : (1 : Int) <= (i : Int) := by omega
  have q9 : I64 ((i : Int) - 1) := by unfold I64; omega
  rcases em2 (e.id <= (ix g.edges (i - 1)).id) with h2 | h2
  ·have er : r = 26 := by rw [<- hr, ig, if_pos ⟨hi', by rw [he]; exact of_eq_true h2⟩]
   subst er
   simp [ac, ag, ae, am, ap, aa, au, ab, ao, ak, ah, ai, aj, hlt, aw hlt, he, hi, hi', q5, q6, q7, q8, q9, q10, aw q5, h2]
  have tl := tl λ h => of_eq_false h2 h.2
  rcases em2 (e.id < 1) with h3 | h3
  ·simp [h3] at tl
   subst tl
   simp [ac, ag, ae, am, ap, aa, au, ab, ao, ak, ah, ai, aj, hlt, aw hlt, he, hi, hi', q5, q6, q7, q8, q9, q10, aw q5, h2, h3]
  rcases em2 (g.ne <= e.id) with h4 | h4
  ·simp [h3, h4] at tl
   subst tl
   simp [ac, ag, ae, am, ap, aa, au, ab, ao, ak, ah, ai, aj, hlt, aw hlt, he, hi, hi', q5, q6, q7, q8, q9, q10, aw q5, h2, h3, h4]
  simp [h3, h4] at tl
  cases u2
  ·simp at tl
   subst tl
   simp [ac, ag, ae, am, ap, aa, au, ab, ao, ak, ah, ai, aj, hlt, aw hlt, he, hi, hi', q5, q6, q7, q8, q9, q10, aw q5, h2, h3, h4, qq, hnl, hu, hv]
  cases v2
  ·simp at tl
   subst tl
   simp [ac, ag, ae, am, ap, aa, au, ab, ao, ak, ah, ai, aj, hlt, aw hlt, he, hi, hi', q5, q6, q7, q8, q9, q10, aw q5, h2, h3, h4, qq, hnl, hu, hv]
  cases hn : da e.type
  ·simp [hn] at tl
   subst tl
   simp [ac, ag, ae, am, ap, aa, au, ab, ao, ak, ah, ai, aj, hlt, aw hlt, he, hi, hi', q5, q6, q7, q8, q9, q10, aw q5, h2, h3, h4, qq, hnl, hu, hv, fy, hn]
  ·simp [hn] at tl
   subst tl
   simp [ac, ag, ae, am, ap, aa, au, ab, ao, ak, ah, ai, aj, hlt, aw hlt, he, hi, hi', q5, q6, q7, q8, q9, q10, aw q5, h2, h3, h4, qq, hnl, hu, hv, fy, hn, kU, hpl, h0l]
   exact hp
 ·have tl := tl λ h => of_eq_false hi h.1
  rcases em2 (e.id < 1) with h3 | h3
  ·simp [h3] at tl
   subst tl
   simp [ac, ag, ae, am, ap, aa, au, ab, ao, ak, ah, ai, aj, hlt, aw hlt, he, hi, h3]
  rcases em2 (g.ne <= e.id) with h4 | h4
  ·simp [h3, h4] at tl
   subst tl
   simp [ac, ag, ae, am, ap, aa, au, ab, ao, ak, ah, ai, aj, hlt, aw hlt, he, hi, h3, h4]
  simp [h3, h4] at tl
  cases u2
  ·simp at tl
   subst tl
   simp [ac, ag, ae, am, ap, aa, au, ab, ao, ak, ah, ai, aj, hlt, aw hlt, he, hi, h3, h4, qq, hnl, hu, hv]
  cases v2
  ·simp at tl
   subst tl
   simp [ac, ag, ae, am, ap, aa, au, ab, ao, ak, ah, ai, aj, hlt, aw hlt, he, hi, h3, h4, qq, hnl, hu, hv]
  cases hn : da e.type
  ·simp [hn] at tl
   subst tl
   simp [ac, ag, ae, am, ap, aa, au, ab, ao, ak, ah, ai, aj, hlt, aw hlt, he, hi, h3, h4, qq, hnl, hu, hv, fy, hn]
  ·simp [hn] at tl
   subst tl
   simp [ac, ag, ae, am, ap, aa, au, ab, ao, ak, ah, ai, aj, hlt, aw hlt, he, hi, h3, h4, qq, hnl, hu, hv, fy, hn, kU, hpl, h0l]
   exact hp
def jX (f : Nat -> Int) : Nat -> Int
 | 0 => 0
 | n + 1 => if jX f n ≠ 0 then jX f n else f n
theorem firN_zero {f : Nat -> Int} : ∀ {n : Nat}, jX f n = 0 ↔ ∀ j, j < n -> f j = 0
 | 0 => by simp [jX]
 | n + 1 => by
  rw [jX]
  constructor
  ·intro h j hj
   split at h
   ·rename_i h1; exact absurd h h1
   ·rename_i h1
    have h1 : jX f n = 0 := by omega
    rcases lt_or_eq_of_le (le_of_lt_succ hj) with h2 | rfl
    ·exact firN_zero.1 h1 j h2
    ·exact h
  ·intro h
   rw [if_neg (λ h1 => h1 (firN_zero.2 λ j hj => h j (by omega)))]
   exact h n (by omega)
theorem tB {f : Nat -> Int} {i : Nat} (h : ∀ j, j < i -> f j = 0) (hi : f i ≠ 0) : ∀ {n : Nat}, i < n -> jX f n = f i
 | n + 1, hn => by
  rw [jX]
  rcases lt_or_eq_of_le (le_of_lt_succ hn) with h2 | rfl
  ·rw [tB h hi h2, if_pos hi]
  ·rw [if_neg (λ h1 => h1 (firN_zero.2 h))]
def cB (g : Gra) : Int :=
 if 2000 < g.nodes.length then 4 else if 4000 < g.edges.length then 4
 else if g.nn < 1 then 1 else if 1000001 < g.nn then 1 else if g.ne < 1 then 1 else if 1000001 < g.ne then 1
 else if jX (dW g) g.nodes.length ≠ 0 then jX (dW g) g.nodes.length else jX (ig g) g.edges.length
def D9 : PSp := aN (λ (g : Gra) => WfG g) (λ g => .int .i64 (cB g))
noncomputable def CChG : Ctx := mkC prog G0 [(11, .pure Es), (12, .pure Ei)]
@[simp] theorem PV : CChG.P = prog := rfl
@[simp] theorem PU : CChG.G = G0 := rfl
@[simp] theorem PT : CChG.S 11 = .pure Es /\ CChG.S 12 = .pure Ei := ⟨rfl, rfl⟩
theorem um : aB CChG := aH (Sa) func11 (aH (RB) func12 (ax _ _))
theorem Rk : PureOK prog G0 5 D9 := by
 refine ci um mixed func5 rfl rfl rfl (by kernel_rfl) (by decide) (λ g hg => ?_)
 have hnl := hg.nl
 have hel := hg.el
 unfold maxLen at hnl hel
 rcases em2 (2000 < g.nodes.length) with h1 | h1
 ·have h1' : ((2000 : Int) < g.nodes.length) = True := eq_true (by have := of_eq_true h1; omega)
  simp [ac, ag, ae, am, ap, aa, au, ab, ao, ak, ah, ai, aj, cB, h1, h1']
 have h1' : ((2000 : Int) < g.nodes.length) = False := eq_false (by have := of_eq_false h1; omega)
 rcases em2 (4000 < g.edges.length) with h2 | h2
 ·have h2' : ((4000 : Int) < g.edges.length) = True := eq_true (by have := of_eq_true h2; omega)
  simp [ac, ag, ae, am, ap, aa, au, ab, ao, ak, ah, ai, aj, cB, h1, h1', h2, h2']
 have h2' : ((4000 : Int) < g.edges.length) = False := eq_false (by have := of_eq_false h2; omega)
 rcases em2 (g.nn < 1) with h3 | h3
 ·simp [ac, ag, ae, am, ap, aa, au, ab, ao, ak, ah, ai, aj, cB, h1, h1', h2, h2', h3]
 rcases em2 (1000001 < g.nn) with h4 | h4
 ·simp [ac, ag, ae, am, ap, aa, au, ab, ao, ak, ah, ai, aj, cB, h1, h1', h2, h2', h3, h4]
 rcases em2 (g.ne < 1) with h5 | h5
 ·simp [ac, ag, ae, am, ap, aa, au, ab, ao, ak, ah, ai, aj, cB, h1, h1', h2, h2', h3, h4, h5]
 rcases em2 (1000001 < g.ne) with h6 | h6
 ·simp [ac, ag, ae, am, ap, aa, au, ab, ao, ak, ah, ai, aj, cB, h1, h1', h2, h2', h3, h4, h5, h6]
 have e : cB g = if jX (dW g) g.nodes.length ≠ 0 then jX (dW g) g.nodes.length else jX (ig g) g.edges.length := by simp [cB, h1, h2, h3, h4, h5, h6]
 rw [e]
 simp [ac, ag, ae, am, ap, aa, au, ab, ao, ak, ah, ai, aj, h1', h2', h3, h4, h5, h6]
 refine aT um mixed (λ i : Nat => ⟨[(1, .ptr 0 1 4 0 0), (3, .int .i64 i)], [GrB g]⟩) (λ i => i <= g.nodes.length /\ ∀ j, j < i -> dW g j = 0) (λ i => g.nodes.length - i) (by kernel_rfl) ⟨0, by simp, di (by simp) (by simp [GrB])⟩ (λ i ⟨hi, hall⟩ => ?_)
 by_cases hlt : i < g.nodes.length
 ·have i1 : I64 ((i : Int) + 1) := by unfold I64; omega
  rcases em2 (dW g i = 0) with hb | hb
  ·simp [ac, ag, ae, am, ap, aa, au, ab, ao, ak, ah, ai, aj, GrB, hlt, Es, hg, hb, i1]
   refine ⟨i + 1, ⟨by omega, λ j hj => ?_⟩, by omega, di (by simp) (by simp [GrB])⟩
   rcases lt_or_eq_of_le (le_of_lt_succ hj) with h | rfl
   ·exact hall j h
   ·exact of_eq_true hb
  ·have e2 := tB hall (of_eq_false hb) hlt
   simp [ac, ag, ae, am, ap, aa, au, ab, ao, ak, ah, ai, aj, GrB, hlt, Es, hg, hb, e2]
 ·have e2 : jX (dW g) g.nodes.length = 0 := firN_zero.2 λ j hj => hall j (by omega)
  simp [ac, ag, ae, am, ap, aa, au, ab, ao, ak, ah, ai, aj, GrB, hlt, e2]
  refine aT um mixed (λ i : Nat => ⟨[(1, .ptr 0 1 4 0 0), (5, .int .i64 i)], [GrB g]⟩) (λ i => i <= g.edges.length /\ ∀ j, j < i -> ig g j = 0) (λ i => g.edges.length - i) (by kernel_rfl) ⟨0, by simp, di (by simp) (by simp [GrB])⟩ (λ k ⟨hk, hall2⟩ => ?_)
  by_cases hkl : k < g.edges.length
  ·have i1 : I64 ((k : Int) + 1) := by unfold I64; omega
   rcases em2 (ig g k = 0) with hb | hb
   ·simp [ac, ag, ae, am, ap, aa, au, ab, ao, ak, ah, ai, aj, GrB, hkl, Ei, hg, hb, i1]
    refine ⟨k + 1, ⟨by omega, λ j hj => ?_⟩, by omega, di (by simp) (by simp [GrB])⟩
    rcases lt_or_eq_of_le (le_of_lt_succ hj) with h | rfl
    ·exact hall2 j h
    ·exact of_eq_true hb
   ·have e3 := tB hall2 (of_eq_false hb) hkl
    simp [ac, ag, ae, am, ap, aa, au, ab, ao, ak, ah, ai, aj, GrB, hkl, Ei, hg, hb, e2, e3]
  ·have e3 : jX (ig g) g.edges.length = 0 := firN_zero.2 λ j hj => hall2 j (by omega)
   simp [ac, ag, ae, am, ap, aa, au, ab, ao, ak, ah, ai, aj, GrB, hkl, e2, e3]
def eN (r : Int -> Int -> Bool) (L : List Int) : Nat := (L.map λ b => (L.filter (r b)).length).sum
theorem AE {α : Type} (f g : α -> Nat) : ∀ l : List α, (l.map λ x => f x + g x).sum = (l.map f).sum + (l.map g).sum
 | [] => rfl
 | x :: l => by simp only [map_cons, sum_cons, AE f g l]; omega
theorem AF (p : Int -> Bool) : ∀ l : List Int, (l.map λ x => if p x then 1 else 0).sum = (l.filter p).length
 | [] => rfl
 | x :: l => by
  simp only [map_cons, sum_cons, AF p l, filter_cons]
  split <;> simp <;> omega
theorem qJ {r : Int -> Int -> Bool} (hs : ∀ a b, r a b = r b a) (hi : ∀ a, r a a = false) : ∀ L : List Int, eN r L % 2 = 0
 | [] => rfl
 | x :: L => by
  have ih := qJ hs hi L
  have e : eN r (x :: L) = (L.filter (r x)).length + ((L.filter (r x)).length + eN r L) := by
   unfold eN
   rw [map_cons, sum_cons, filter_cons, hi x, if_neg Bool.false_ne_true]
   congr 1
   rw [<- AF (r x) L, <- AE]
   congr 1
   apply List.map_congr_left
   intro b _
   rw [filter_cons, hs b x]
   cases r x b <;> simp <;> omega
  rw [e]; omega
theorem xi : ∀ l : List Nat, (∀ x, x ∈ l -> x % 2 = 0) -> l.sum = 2 * (l.map λ x => x / 2).sum
 | [], _ => rfl
 | x :: l, h => by
  have := xi l λ y hy => h y (mem_cons_of_mem _ hy)
  have := h x mem_cons_self
  simp only [sum_cons, map_cons]
  omega
def B2 (r : Int -> Int -> Bool) (ns : List Int) : List (Int × Int × Int) :=
 ns.flatMap λ a => (ns.filter (r a)).flatMap λ b => ((ns.filter (r a)).filter (r b)).map λ c => (a, b, c)
theorem DA {r : Int -> Int -> Bool} {ns : List Int} {a b c : Int} : (a, b, c) ∈ B2 r ns ↔ a ∈ ns /\ b ∈ ns /\ c ∈ ns /\ r a b = true /\ r b c = true /\ r a c = true := by
 unfold B2
 simp only [mem_flatMap, mem_map, List.mem_filter, Prod.mk.injEq]
 constructor
 ·rintro ⟨a', ha, b', ⟨hb, hab⟩, c', ⟨⟨hc, hac⟩, hbc⟩, rfl, rfl, rfl⟩
  exact ⟨ha, hb, hc, hab, hbc, hac⟩
 ·rintro ⟨ha, hb, hc, hab, hbc, hac⟩
  exact ⟨a, ha, b, ⟨hb, hab⟩, c, ⟨⟨hc, hac⟩, hbc⟩, rfl, rfl, rfl⟩
theorem ym {r : Int -> Int -> Bool} {ns : List Int} (h : ns.Nodup) : (B2 r ns).Nodup := by
 refine List.pairwise_flatMap.2 ⟨λ a _ => List.pairwise_flatMap.2 ⟨λ b _ => ?_, ?_⟩, ?_⟩
 ·exact pairwise_map.2 (((h.filter _).filter _).imp λ {x y} hxy e => hxy (by injection e with _ e; injection e))
 ·refine (h.filter _).imp λ {x y} hxy u hu v hv e => ?_
  obtain ⟨c, _, rfl⟩ := mem_map.1 hu
  obtain ⟨d, _, rfl⟩ := mem_map.1 hv
  injection e with _ e; injection e with e _
  exact hxy e
 ·refine h.imp λ {x y} hxy u hu v hv e => ?_
  obtain ⟨b, _, hu⟩ := mem_flatMap.1 hu
  obtain ⟨c, _, rfl⟩ := mem_map.1 hu
  obtain ⟨b', _, hv⟩ := mem_flatMap.1 hv
  obtain ⟨d, _, rfl⟩ := mem_map.1 hv
  injection e with e _
  exact hxy e
theorem Du (r : Int -> Int -> Bool) (ns : List Int) : (B2 r ns).length = (ns.map λ a => eN r (ns.filter (r a))).sum := by
 unfold B2 eN
 rw [List.length_flatMap]
 congr 1
 apply List.map_congr_left
 intro a _
 rw [List.length_flatMap]
 simp only [List.length_map]
theorem B4 {r : Int -> Int -> Bool} {ns : List Int} (hs : ∀ a b, r a b = r b a) (hi : ∀ a, r a a = false) (hn : ns.Nodup) {T : List (Int × Int × Int)} (hT : T.Nodup)
  (hm : ∀ a b c, (a, b, c) ∈ T ↔ a ∈ ns /\ b ∈ ns /\ c ∈ ns /\ r a b = true /\ r b c = true /\ r a c = true) :
  T.length = 2 * (ns.map λ a => eN r (ns.filter (r a)) / 2).sum := by
 have p : T.Perm (B2 r ns) := (List.perm_ext_iff_of_nodup hT (ym hn)).2 λ ⟨a, b, c⟩ => by rw [hm, DA]
 rw [p.length_eq, Du]
 have := xi (ns.map λ a => eN r (ns.filter (r a))) (λ x hx => by
  obtain ⟨a, _, rfl⟩ := mem_map.1 hx
  exact qJ hs hi _)
 rw [this, map_map]; rfl
section
variable {α : Type} (cf : α -> α -> Int)
def LeC (x y : α) : Prop := ¬ cf y x < 0
structure OrdC (good : α -> Prop) : Prop where
 asym : ∀ x y, good x -> good y -> cf x y < 0 -> ¬ cf y x < 0
 tr : ∀ x y z, good x -> good y -> good z -> LeC cf x y -> LeC cf y z -> LeC cf x z
def Srt (f : Nat -> α) (a b : Nat) : Prop := ∀ i j, a <= i -> i < j -> j < b -> LeC cf (f i) (f j)
def lst (N : Nat) (f : Nat -> α) : List α := (List.range N).map f
structure Mv (f g : Nat -> α) (a b : Nat) : Prop where
 out : ∀ k, k < a ∨ b <= k -> g k = f k
 ins : ∀ k, a <= k -> k < b -> ∃ j, a <= j /\ j < b /\ g k = f j
 perm : ∀ N, b <= N -> (lst N g).Perm (lst N f)
end
section
variable {α : Type} {cf : α -> α -> Int} {f g h : Nat -> α}
theorem Mv.refl (f : Nat -> α) (a b : Nat) : Mv f f a b := ⟨λ _ _ => rfl, λ k h1 h2 => ⟨k, h1, h2, rfl⟩, λ _ _ => List.Perm.refl _⟩
theorem Mv.trans {a b : Nat} (h1 : Mv f g a b) (h2 : Mv g h a b) : Mv f h a b :=
 ⟨λ k hk => (h2.out k hk).trans (h1.out k hk), λ k ka kb => by
  obtain ⟨j, j1, j2, e⟩ := h2.ins k ka kb
  obtain ⟨i, i1, i2, e'⟩ := h1.ins j j1 j2
  exact ⟨i, i1, i2, e.trans e'⟩, λ N hN => (h2.perm N hN).trans (h1.perm N hN)⟩
theorem Mv.wide {a b c d : Nat} (h1 : Mv f g a b) (hc : c <= a) (hd : b <= d) : Mv f g c d :=
 ⟨λ k hk => h1.out k (by omega), λ k k1 k2 => by
  by_cases hk : a <= k /\ k < b
  ·obtain ⟨j, j1, j2, e⟩ := h1.ins k hk.1 hk.2
   exact ⟨j, by omega, by omega, e⟩
  ·exact ⟨k, k1, k2, h1.out k (by omega)⟩, λ N hN => h1.perm N (by omega)⟩
theorem IM {a b : Nat} (s t : Nat -> Nat) (hs : ∀ k, a <= k -> k < b -> a <= s k /\ s k < b /\ t (s k) = k) (ht : ∀ k, a <= k -> k < b -> a <= t k /\ t k < b /\ s (t k) = k) (ho : ∀ k, k < a ∨ b <= k -> s k = k) (he : ∀ k, g k = f (s k)) : Mv f g a b := by
 refine ⟨λ k hk => by rw [he, ho k hk], λ k k1 k2 => ⟨s k, (hs k k1 k2).1, (hs k k1 k2).2.1, he k⟩, λ N hN => ?_⟩
 have e1 : lst N g = ((List.range N).map s).map f := by
  unfold lst
  rw [map_map]
  exact List.map_congr_left λ k _ => he k
 rw [e1]
 unfold lst
 refine List.Perm.map f ?_
 have inj : ∀ x y, s x = s y -> x = y := by
  intro x y e
  by_cases hx : a <= x /\ x < b <;> by_cases hy : a <= y /\ y < b
  ·have h1 := (hs x hx.1 hx.2).2.2
   have h2 := (hs y hy.1 hy.2).2.2
   rw [<- h1, <- h2, e]
  ·have h1 := hs x hx.1 hx.2
   have h2 := ho y (by omega)
   omega
  ·have h1 := hs y hy.1 hy.2
   have h2 := ho x (by omega)
   omega
  ·rw [ho x (by omega), ho y (by omega)] at e
   exact e
 have nd : ((List.range N).map s).Nodup := by
  rw [List.nodup_iff_pairwise_ne, pairwise_map]
  exact (List.nodup_iff_pairwise_ne.1 List.nodup_range).imp λ hne e => hne (inj _ _ e)
 refine (List.perm_ext_iff_of_nodup nd List.nodup_range).2 λ x => ?_
 rw [mem_map, mem_range]
 constructor
 ·rintro ⟨k, hk, rfl⟩
  rw [mem_range] at hk
  by_cases hkk : a <= k /\ k < b
  ·have := hs k hkk.1 hkk.2; omega
  ·rw [ho k (by omega)]; exact hk
 ·intro hx
  by_cases hxx : a <= x /\ x < b
  ·have := ht x hxx.1 hxx.2
   exact ⟨t x, by rw [mem_range]; omega, this.2.2⟩
  ·exact ⟨x, by rw [mem_range]; exact hx, ho x (by omega)⟩
def swp (f : Nat -> α) (i j : Nat) : Nat -> α := λ k => if k = i then f j else if k = j then f i else f k
theorem qz {a b i j : Nat} (hi : a <= i /\ i < b) (hj : a <= j /\ j < b) : Mv f (swp f i j) a b := by
 refine IM (λ k => if k = i then j else if k = j then i else k) (λ k => if k = i then j else if k = j then i else k) (λ k k1 k2 => ?_) (λ k k1 k2 => ?_) (λ k hk => ?_) (λ k => ?_)
 ·split
  ·subst_vars; refine ⟨hj.1, hj.2, ?_⟩; split
   ·subst_vars; rfl
   ·rw [if_pos rfl]
  ·split
   ·subst_vars; exact ⟨hi.1, hi.2, if_pos rfl⟩
   ·rename_i h1 h2; exact ⟨k1, k2, rfl⟩
 ·split
  ·subst_vars; refine ⟨hj.1, hj.2, ?_⟩; split
   ·subst_vars; rfl
   ·rw [if_pos rfl]
  ·split
   ·subst_vars; exact ⟨hi.1, hi.2, if_pos rfl⟩
   ·rename_i h1 h2; exact ⟨k1, k2, rfl⟩
 ·rw [if_neg (by omega), if_neg (by omega)]
 ·unfold swp; split
  ·rfl
  ·split <;> rfl
def jj (cf : α -> α -> Int) (a : Nat) : Nat -> (Nat -> α) -> (Nat -> α)
 | 0, f => f
 | j + 1, f => if a < j + 1 /\ cf (f (j + 1)) (f j) < 0 then jj cf a j (swp f (j + 1) j) else f
def fW (cf : α -> α -> Int) (a : Nat) : Nat -> Nat -> (Nat -> α) -> (Nat -> α)
 | _, 0, f => f
 | i, k + 1, f => fW cf a (i + 1) k (jj cf a i f)
theorem tM {a : Nat} : ∀ {j : Nat} {f : Nat -> α}, a <= j -> Mv f (jj cf a j f) a (j + 1)
 | 0, f, _ => Mv.refl _ _ _
 | j + 1, f, hj => by
  unfold jj
  split
  ·rename_i h
   exact (qz (by omega) (by omega)).trans ((tM (j := j) (by omega)).wide (le_refl _) (by omega))
  ·exact Mv.refl _ _ _
def QV (cf : α -> α -> Int) (f : Nat -> α) (a j e : Nat) : Prop := (∀ p q, a <= p -> p < q -> q < e -> p ≠ j -> q ≠ j -> LeC cf (f p) (f q)) /\ ∀ q, j < q -> q < e -> LeC cf (f j) (f q)
theorem wg {good : α -> Prop} (O : OrdC cf good) {a e : Nat} : ∀ {j : Nat} {f : Nat -> α}, (∀ k, k < e -> good (f k)) -> a <= j -> j < e -> QV cf f a j e -> Srt cf (jj cf a j f) a e
 | 0, f, hg, hj, hje, hH => by
  intro p q p1 pq qe
  by_cases hp : p = 0
  ·subst hp; exact hH.2 q (by omega) qe
  ·exact hH.1 p q p1 pq qe hp (by omega)
 | j + 1, f, hg, hj, hje, hH => by
  unfold jj
  split
  ·rename_i h
   have g1 := hg (j + 1) hje
   have g0 := hg j (by omega)
   have s1 : swp f (j + 1) j (j + 1) = f j := if_pos rfl
   have s0 : swp f (j + 1) j j = f (j + 1) := by unfold swp; rw [if_neg (by omega), if_pos rfl]
   have so : ∀ k, k ≠ j -> k ≠ j + 1 -> swp f (j + 1) j k = f k := λ k h1 h2 => by unfold swp; rw [if_neg h2, if_neg h1]
   refine wg O (λ k hk => ?_) (by omega) (by omega) ⟨λ p q p1 pq qe hp hq => ?_, λ q jq qe => ?_⟩
   ·by_cases k1 : k = j
    ·subst k1; rw [s0]; exact g1
    ·by_cases k2 : k = j + 1
     ·subst k2; rw [s1]; exact g0
     ·rw [so k k1 k2]; exact hg k hk
   ·by_cases q1 : q = j + 1
    ·subst q1
     rw [s1, so p hp (by omega)]
     exact hH.1 p j p1 (by omega) (by omega) (by omega) (by omega)
    ·by_cases p2 : p = j + 1
     ·subst p2
      rw [s1, so q hq q1]
      exact hH.1 j q (by omega) (by omega) qe (by omega) q1
     ·rw [so p hp p2, so q hq q1]
      exact hH.1 p q p1 pq qe p2 q1
   ·rw [s0]
    by_cases q1 : q = j + 1
    ·subst q1
     rw [s1]
     exact O.asym _ _ g1 g0 h.2
    ·rw [so q (by omega) q1]
     exact hH.2 q (by omega) qe
  ·rename_i h
   intro p q p1 pq qe
   by_cases hp : p = j + 1
   ·subst hp; exact hH.2 q pq qe
   ·by_cases hq : q = j + 1
    ·subst hq
     have hle : LeC cf (f j) (f (j + 1)) := λ hc => h ⟨by omega, hc⟩
     by_cases hpj : p = j
     ·subst hpj; exact hle
     ·exact O.tr _ _ _ (hg p (by omega)) (hg j (by omega)) (hg (j + 1) hje) (hH.1 p j p1 (by omega) (by omega) hp (by omega)) hle
    ·exact hH.1 p q p1 pq qe hp hq
theorem Mv.good {good : α -> Prop} {a b N : Nat} (m : Mv f g a b) (hb : b <= N) (hg : ∀ k, k < N -> good (f k)) : ∀ k, k < N -> good (g k) := λ k hk => by
 by_cases h : a <= k /\ k < b
 ·obtain ⟨j, _, j2, e⟩ := m.ins k h.1 h.2
  rw [e]; exact hg j (by omega)
 ·rw [m.out k (by omega)]; exact hg k hk
theorem tK {good : α -> Prop} (O : OrdC cf good) {a N : Nat} : ∀ {k i : Nat} {f : Nat -> α}, (∀ k, k < N -> good (f k)) -> a <= i -> i + k <= N -> Srt cf f a i -> Mv f (fW cf a i k f) a (i + k) /\ Srt cf (fW cf a i k f) a (i + k)
 | 0, i, f, _, _, _, hs => ⟨Mv.refl _ _ _, hs⟩
 | k + 1, i, f, hg, hi, hN, hs => by
  have m1 := tM (cf := cf) (f := f) hi
  have s1 : Srt cf (jj cf a i f) a (i + 1) := wg O (λ k hk => hg k (by omega)) hi (by omega) ⟨λ p q p1 pq qe hp hq => hs p q p1 pq (by omega), λ q h1 h2 => by omega⟩
  obtain ⟨m2, s2⟩ := tK O (k := k) (i := i + 1) (f := jj cf a i f) (m1.good (by omega) hg) (by omega) (by omega) s1
  rw [show i + (k + 1) = i + 1 + k by omega]
  exact ⟨(m1.wide (le_refl _) (by omega)).trans m2, s2⟩
def swr (f : Nat -> α) (a b n : Nat) : Nat -> α := λ k => if a <= k /\ k < a + n then f (b + (k - a)) else if b <= k /\ k < b + n then f (a + (k - b)) else f k
def bp (f : Nat -> α) (a m b : Nat) : Nat -> α := λ k => if a <= k /\ k < a + (b - m) then f (m + (k - a)) else if a + (b - m) <= k /\ k < b then f (k - (b - m)) else f k
theorem kj {a m b : Nat} (h1 : a <= m) (h2 : m <= b) : Mv f (bp f a m b) a b := by
 refine IM (λ k => if a <= k /\ k < a + (b - m) then m + (k - a) else if a + (b - m) <= k /\ k < b then k - (b - m) else k) (λ k => if a <= k /\ k < m then k + (b - m) else if m <= k /\ k < b then a + (k - m) else k) (λ k k1 k2 => ?_) (λ k k1 k2 => ?_) (λ k hk => ?_) (λ k => ?_)
 ·split
  ·refine ⟨by omega, by omega, ?_⟩
   rw [if_neg (by omega), if_pos (by omega)]; omega
  ·rw [if_pos (by omega)]
   refine ⟨by omega, by omega, ?_⟩
   rw [if_pos (by omega)]; omega
 ·split
  ·refine ⟨by omega, by omega, ?_⟩
   rw [if_neg (by omega), if_pos (by omega)]; omega
  ·rw [if_pos (by omega)]
   refine ⟨by omega, by omega, ?_⟩
   rw [if_pos (by omega)]; omega
 ·rw [if_neg (by omega), if_neg (by omega)]
 ·unfold bp; split
  ·rfl
  ·split <;> rfl
theorem oH (m e : Nat) : bp f m m e = f := by
 funext k
 unfold bp
 split
 ·congr 1; omega
 ·split
  ·rename_i h1 h2; omega
  ·rfl
theorem oI (s m : Nat) : bp f s m m = f := by
 funext k
 unfold bp
 rw [if_neg (by omega)]
 split
 ·congr 1; omega
 ·rfl
theorem D2 (f : Nat -> α) {a m : Nat} (h : a <= m) : bp f a m (m + (m - a)) = swr f a m (m - a) := by
 funext k
 unfold bp swr
 by_cases c1 : a <= k /\ k < m
 ·rw [if_pos (by omega), if_pos (by omega)]
 ·by_cases c2 : m <= k /\ k < m + (m - a)
  ·rw [if_neg (by omega), if_pos (by omega), if_neg (by omega), if_pos (by omega)]
   congr 1; omega
  ·rw [if_neg (by omega), if_neg (by omega), if_neg (by omega), if_neg (by omega)]
theorem su (f : Nat -> α) {m i j : Nat} (hi : i <= m) (hj : 0 < j) (h : j < i) : bp (swr f (m - i) m j) (m - (i - j)) m (m + j) = bp f (m - i) m (m + j) := by
 funext k
 unfold bp swr
 simp only [show m + j - m = j by omega]
 by_cases c1 : k < m - i
 ·rw [if_neg (by omega), if_neg (by omega), if_neg (by omega), if_neg (by omega), if_neg (by omega), if_neg (by omega)]
 by_cases c2 : k < m - i + j
 ·rw [if_neg (by omega), if_neg (by omega), if_pos (by omega), if_pos (by omega)]
 by_cases c3 : k < m - (i - j) + j
 ·rw [if_pos (by omega), if_neg (by omega), if_pos (by omega), if_neg (by omega), if_pos (by omega)]
  congr 1; omega
 by_cases c4 : k < m + j
 ·rw [if_neg (by omega), if_pos (by omega), if_neg (by omega), if_neg (by omega), if_neg (by omega), if_pos (by omega)]
 ·rw [if_neg (by omega), if_neg (by omega), if_neg (by omega), if_neg (by omega), if_neg (by omega), if_neg (by omega)]
theorem sv (f : Nat -> α) {m i j : Nat} (hi : i <= m) (h0 : 0 < i) (h : i < j) : bp (swr f (m - i) (m + j - i) i) (m - i) m (m + (j - i)) = bp f (m - i) m (m + j) := by
 funext k
 unfold bp swr
 simp only [show m + j - m = j by omega, show m + (j - i) - m = j - i by omega]
 by_cases c1 : k < m - i
 ·rw [if_neg (by omega), if_neg (by omega), if_neg (by omega), if_neg (by omega), if_neg (by omega), if_neg (by omega)]
 by_cases c2 : k < m - i + (j - i)
 ·rw [if_pos (by omega), if_neg (by omega), if_neg (by omega), if_pos (by omega)]
 by_cases c3 : k < m + (j - i)
 ·rw [if_neg (by omega), if_pos (by omega), if_pos (by omega), if_pos (by omega)]
  congr 1; omega
 by_cases c4 : k < m + j
 ·rw [if_neg (by omega), if_neg (by omega), if_neg (by omega), if_pos (by omega), if_neg (by omega), if_pos (by omega)]
  congr 1; omega
 ·rw [if_neg (by omega), if_neg (by omega), if_neg (by omega), if_neg (by omega), if_neg (by omega), if_neg (by omega)]
end
section
variable {α : Type}
def bsr (P : Nat -> Bool) (lo hi : Nat) : Nat := if h : lo < hi then (if P ((lo + hi) / 2) then bsr P ((lo + hi) / 2 + 1) hi else bsr P lo ((lo + hi) / 2)) else lo
termination_by hi - lo
theorem dG (P : Nat -> Bool) (s r : Nat) : ∀ (lo hi : Nat), s <= lo -> lo <= hi -> hi <= r -> (lo = s ∨ P (lo - 1) = true) -> (hi = r ∨ P hi = false) -> s <= bsr P lo hi /\ bsr P lo hi <= r /\ (bsr P lo hi = s ∨ P (bsr P lo hi - 1) = true) /\ (bsr P lo hi = r ∨ P (bsr P lo hi) = false) := by
 intro lo hi
 generalize hn : hi - lo = n
 induction n using Nat.strongRecOn generalizing lo hi with
 | _ n ih =>
  intro h1 h2 h3 h4 h5
  rw [bsr]
  by_cases hlt : lo < hi
  ·rw [dif_pos hlt]
   by_cases hP : P ((lo + hi) / 2) = true
   ·rw [if_pos hP]
    exact ih (hi - ((lo + hi) / 2 + 1)) (by omega) _ _ rfl (by omega) (by omega) h3 (.inr (by rw [add_sub_cancel]; exact hP)) h5
   ·rw [if_neg hP]
    exact ih ((lo + hi) / 2 - lo) (by omega) _ _ rfl h1 (by omega) (by omega) h4 (.inr (by simpa using hP))
  ·rw [dif_neg hlt]
   have : lo = hi := by omega
   subst this
   exact ⟨h1, h3, h4, h5⟩
def fw (cf : α -> α -> Int) : Nat -> Nat -> Nat -> Nat -> (Nat -> α) -> (Nat -> α)
 | 0, _, _, _, f => f
 | n + 1, a, m, b, f =>
  if m - a = 1 then bp f a m (bsr (λ h => decide (cf (f h) (f a) < 0)) m b)
  else if b - m = 1 then bp f (bsr (λ h => !decide (cf (f m) (f h) < 0)) a m) m b
  else
   let mid := (a + b) / 2
   let s := if mid < m then bsr (λ c => !decide (cf (f (mid + m - 1 - c)) (f c) < 0)) (mid + m - b) mid else bsr (λ c => !decide (cf (f (mid + m - 1 - c)) (f c) < 0)) a m
   let e := mid + m - s
   let g := bp f s m e
   let h := if a < s /\ s < mid then fw cf n a s mid g else g
   if mid < e /\ e < b then fw cf n mid e b h else h
end
section
variable {α : Type} {cf : α -> α -> Int} {good : α -> Prop} {f g : Nat -> α}
theorem Srt.sub {a b c d : Nat} (h : Srt cf f a b) (h1 : a <= c) (h2 : d <= b) : Srt cf f c d := λ i j hi hij hj => h i j (by omega) hij (by omega)
theorem Srt.le (O : OrdC cf good) {a b i j : Nat} (h : Srt cf f a b) (hg : ∀ k, k < b -> good (f k)) (hi : a <= i) (hij : i <= j) (hj : j < b) : LeC cf (f i) (f j) := by
 rcases lt_or_eq_of_le hij with h1 | rfl
 ·exact h i j hi h1 hj
 ·exact λ hc => O.asym _ _ (hg i hj) (hg i hj) hc hc
theorem Srt.join {a m b : Nat} (h1 : Srt cf f a m) (h2 : Srt cf f m b) (h : ∀ i j, a <= i -> i < m -> m <= j -> j < b -> LeC cf (f i) (f j)) : Srt cf f a b := λ i j hi hij hj => by
 by_cases c1 : j < m
 ·exact h1 i j hi hij c1
 ·by_cases c2 : m <= i
  ·exact h2 i j c2 hij hj
  ·exact h i j hi (by omega) (by omega) hj
theorem Srt.cong {a b : Nat} (h : Srt cf f a b) (e : ∀ k, a <= k -> k < b -> g k = f k) : Srt cf g a b := λ i j hi hij hj => by
 rw [e i hi (by omega), e j (by omega) hj]
 exact h i j hi hij hj
theorem oP (O : OrdC cf good) {N : Nat} : ∀ (n a m b : Nat) (f : Nat -> α), b - a <= n -> a < m -> m < b -> b <= N -> (∀ k, k < N -> good (f k)) -> Srt cf f a m -> Srt cf f m b -> Mv f (fw cf n a m b f) a b /\ Srt cf (fw cf n a m b f) a b
 | 0, a, m, b, f, hn, h1, h2, _, _, _, _ => by omega
 | n + 1, a, m, b, f, hn, h1, h2, hN, hg, s1, s2 => by
  unfold fw
  by_cases c1 : m - a = 1
  ·rw [if_pos c1]
   obtain ⟨q1, q2, q3, q4⟩ := dG (λ h => decide (cf (f h) (f a) < 0)) m b m b (le_refl _) (by omega) (le_refl _) (.inl rfl) (.inl rfl)
   generalize bsr (λ h => decide (cf (f h) (f a) < 0)) m b = i at *
   refine ⟨(kj (by omega) q1).wide (le_refl _) q2, ?_⟩
   have hm : m = a + 1 := by omega
   subst hm
   have ga := hg a (by omega)
   -- what comes before: less than f a; what stays behind: not before it
   have hlo : ∀ k, a + 1 <= k -> k < i -> LeC cf (f k) (f a) := λ k k1 k2 => by
    have : cf (f (i - 1)) (f a) < 0 := by
     rcases q3 with q3 | q3
     ·omega
     ·exact of_decide_eq_true q3
    exact O.tr _ _ _ (hg k (by omega)) (hg (i - 1) (by omega)) ga (s2.le O (λ k hk => hg k (by omega)) k1 (by omega) (by omega)) (O.asym _ _ (hg (i - 1) (by omega)) ga this)
   have hhi : ∀ k, i <= k -> k < b -> LeC cf (f a) (f k) := λ k k1 k2 => by
    have : ¬ cf (f i) (f a) < 0 := by
     rcases q4 with q4 | q4
     ·omega
     ·exact of_decide_eq_false q4
    exact O.tr _ _ _ ga (hg i (by omega)) (hg k (by omega)) this (s2.le O (λ k hk => hg k (by omega)) (by omega) k1 k2)
   have r1 : ∀ k, a <= k -> k < i - 1 -> bp f a (a + 1) i k = f (k + 1) := λ k k1 k2 => by
    unfold bp; rw [if_pos (by omega)]; congr 1; omega
   have r2 : bp f a (a + 1) i (i - 1) = f a := by
    unfold bp; rw [if_neg (by omega), if_pos (by omega)]; congr 1; omega
   have r3 : ∀ k, i <= k -> bp f a (a + 1) i k = f k := λ k k1 => by
    unfold bp; rw [if_neg (by omega), if_neg (by omega)]
   intro p q p1 pq qb
   by_cases p2 : p < i - 1
   ·rw [r1 p p1 p2]
    by_cases q5 : q < i - 1
    ·rw [r1 q (by omega) q5]; exact s2 _ _ (by omega) (by omega) (by omega)
    ·by_cases q6 : q = i - 1
     ·subst q6; rw [r2]; exact hlo _ (by omega) (by omega)
     ·rw [r3 q (by omega)]; exact s2 _ _ (by omega) (by omega) qb
   ·by_cases p3 : p = i - 1
    ·subst p3; rw [r2, r3 q (by omega)]; exact hhi q (by omega) qb
    ·rw [r3 p (by omega), r3 q (by omega)]; exact s2 p q (by omega) pq qb
  rw [if_neg c1]
  by_cases c2 : b - m = 1
  ·rw [if_pos c2]
   obtain ⟨q1, q2, q3, q4⟩ := dG (λ h => !decide (cf (f m) (f h) < 0)) a m a m (le_refl _) (by omega) (le_refl _) (.inl rfl) (.inl rfl)
   generalize bsr (λ h => !decide (cf (f m) (f h) < 0)) a m = i at *
   refine ⟨(kj q2 (by omega)).wide q1 (le_refl _), ?_⟩
   have hb : b = m + 1 := by omega
   subst hb
   have gm := hg m (by omega)
   have hlo : ∀ k, a <= k -> k < i -> LeC cf (f k) (f m) := λ k k1 k2 => by
    have : ¬ cf (f m) (f (i - 1)) < 0 := by
     rcases q3 with q3 | q3
     ·omega
     ·simpa using q3
    exact O.tr _ _ _ (hg k (by omega)) (hg (i - 1) (by omega)) gm (s1.le O (λ k hk => hg k (by omega)) k1 (by omega) (by omega)) this
   have hhi : ∀ k, i <= k -> k < m -> LeC cf (f m) (f k) := λ k k1 k2 => by
    have : cf (f m) (f i) < 0 := by
     rcases q4 with q4 | q4
     ·omega
     ·simpa using q4
    exact O.tr _ _ _ gm (hg i (by omega)) (hg k (by omega)) (O.asym _ _ gm (hg i (by omega)) this) (s1.le O (λ k hk => hg k (by omega)) (by omega) k1 k2)
   have r1 : ∀ k, k < i -> bp f i m (m + 1) k = f k := λ k k1 => by
    unfold bp; rw [if_neg (by omega), if_neg (by omega)]
   have r2 : bp f i m (m + 1) i = f m := by
    unfold bp; rw [if_pos (by omega)]; congr 1; omega
   have r3 : ∀ k, i < k -> k < m + 1 -> bp f i m (m + 1) k = f (k - 1) := λ k k1 k2 => by
    unfold bp; rw [if_neg (by omega), if_pos (by omega)]; congr 1; omega
   intro p q p1 pq qb
   by_cases p2 : p < i
   ·rw [r1 p p2]
    by_cases q5 : q < i
    ·rw [r1 q q5]; exact s1 _ _ (by omega) (by omega) (by omega)
    ·by_cases q6 : q = i
     ·subst q6; rw [r2]; exact hlo _ (by omega) (by omega)
     ·rw [r3 q (by omega) qb]; exact s1 _ _ (by omega) (by omega) (by omega)
   ·by_cases p3 : p = i
    ·subst p3; rw [r2, r3 q (by omega) qb]; exact hhi _ (by omega) (by omega)
    ·rw [r3 p (by omega) (by omega), r3 q (by omega) qb]; exact s1 _ _ (by omega) (by omega) (by omega)
  rw [if_neg c2]
  simp only
  generalize hmid : (a + b) / 2 = mid
  obtain ⟨S, hS⟩ : ∃ S, (if mid < m then bsr (λ c => !decide (cf (f (mid + m - 1 - c)) (f c) < 0)) (mid + m - b) mid else bsr (λ c => !decide (cf (f (mid + m - 1 - c)) (f c) < 0)) a m) = S := ⟨_, rfl⟩
  -- where the search ends
  have key : a <= S /\ S <= m /\ S <= mid /\ mid + m <= S + b /\ (S = a ∨ mid + m = S + b ∨ LeC cf (f (S - 1)) (f (mid + m - S))) /\ (S = m ∨ S = mid ∨ cf (f (mid + m - 1 - S)) (f S) < 0) := by
   rw [<- hS]
   by_cases hc : mid < m
   ·rw [if_pos hc]
    obtain ⟨q1, q2, q3, q4⟩ := dG (λ c => !decide (cf (f (mid + m - 1 - c)) (f c) < 0)) (mid + m - b) mid (mid + m - b) mid (le_refl _) (by omega) (le_refl _) (.inl rfl) (.inl rfl)
    generalize bsr (λ c => !decide (cf (f (mid + m - 1 - c)) (f c) < 0)) (mid + m - b) mid = i at *
    refine ⟨by omega, by omega, q2, by omega, ?_, ?_⟩
    ·rcases q3 with q3 | q3
     ·exact .inr (.inl (by omega))
     ·by_cases hi : i = a
      ·exact .inl hi
      ·refine .inr (.inr ?_)
       have : ¬ cf (f (mid + m - 1 - (i - 1))) (f (i - 1)) < 0 := by simpa using q3
       rwa [show mid + m - 1 - (i - 1) = mid + m - i by omega] at this
    ·rcases q4 with q4 | q4
     ·exact .inr (.inl q4)
     ·exact .inr (.inr (by simpa using q4))
   ·rw [if_neg hc]
    obtain ⟨q1, q2, q3, q4⟩ := dG (λ c => !decide (cf (f (mid + m - 1 - c)) (f c) < 0)) a m a m (le_refl _) (by omega) (le_refl _) (.inl rfl) (.inl rfl)
    generalize bsr (λ c => !decide (cf (f (mid + m - 1 - c)) (f c) < 0)) a m = i at *
    refine ⟨q1, q2, by omega, by omega, ?_, ?_⟩
    ·rcases q3 with q3 | q3
     ·exact .inl q3
     ·by_cases hi : i = a
      ·exact .inl hi
      ·refine .inr (.inr ?_)
       have : ¬ cf (f (mid + m - 1 - (i - 1))) (f (i - 1)) < 0 := by simpa using q3
       rwa [show mid + m - 1 - (i - 1) = mid + m - i by omega] at this
    ·rcases q4 with q4 | q4
     ·exact .inl q4
     ·exact .inr (.inr (by simpa using q4))
  rw [hS]
  clear hS
  obtain ⟨k1, k2, k3, k4, k5, k6⟩ := key
  obtain ⟨e, he⟩ : ∃ e, mid + m - S = e := ⟨_, rfl⟩
  rw [he]
  have hme : m <= e := by omega
  have heb : e <= b := by omega
  have hmm : a + 2 <= mid /\ mid + 2 <= b := by omega
  have mg := kj (f := f) k2 hme
  obtain ⟨g, hgd⟩ : ∃ g, bp f S m e = g := ⟨_, rfl⟩
  rw [hgd] at mg ⊢
  have r1 : ∀ k, k < S -> g k = f k := λ k h => mg.out k (.inl h)
  have r4 : ∀ k, e <= k -> g k = f k := λ k h => mg.out k (.inr h)
  have r2 : ∀ k, S <= k -> k < mid -> g k = f (m + (k - S)) := λ k h1 h2 => by rw [<- hgd]; unfold bp; rw [if_pos (by omega)]
  have r3 : ∀ k, mid <= k -> k < e -> g k = f (k - (mid - S)) := λ k h1 h2 => by rw [<- hgd]; unfold bp; rw [if_neg (by omega), if_pos (by omega)]; congr 1; omega
  have gg : ∀ k, k < N -> good (g k) := mg.good (by omega) hg
  have t1 : Srt cf g a S := (s1.sub (le_refl _) k2).cong λ k _ h => r1 k h
  have t2 : Srt cf g S mid := λ i j hi hij hj => by rw [r2 i hi (by omega), r2 j (by omega) hj]; exact s2 _ _ (by omega) (by omega) (by omega)
  have t3 : Srt cf g mid e := λ i j hi hij hj => by rw [r3 i hi (by omega), r3 j (by omega) hj]; exact s1 _ _ (by omega) (by omega) (by omega)
  have t4 : Srt cf g e b := (s2.sub hme (le_refl _)).cong λ k h _ => r4 k h
  have cross : ∀ i j, a <= i -> i < mid -> mid <= j -> j < b -> LeC cf (g i) (g j) := λ i j ia im jm jb => by
   by_cases c1 : i < S
   ·rw [r1 i c1]
    by_cases c3 : j < e
    ·rw [r3 j jm c3]; exact s1 _ _ ia (by omega) (by omega)
    ·rw [r4 j (by omega)]
     have hle : LeC cf (f (S - 1)) (f e) := by
      rcases k5 with h | h | h
      ·omega
      ·omega
      ·rwa [he] at h
     have g1 := hg (S - 1) (by omega)
     have ge := hg e (by omega)
     exact O.tr _ _ _ (hg i (by omega)) ge (hg j (by omega)) (O.tr _ _ _ (hg i (by omega)) g1 ge (s1.le O (λ k hk => hg k (by omega)) ia (by omega) (by omega)) hle) (s2.le O (λ k hk => hg k (by omega)) (by omega) (by omega) jb)
   ·rw [r2 i (by omega) im]
    by_cases c3 : j < e
    ·rw [r3 j jm c3]
     have hlt : cf (f (e - 1)) (f S) < 0 := by
      rcases k6 with h | h | h
      ·omega
      ·omega
      ·rwa [show mid + m - 1 - S = e - 1 by omega] at h
     have g1 := hg (e - 1) (by omega)
     have gS := hg S (by omega)
     exact O.tr _ _ _ (hg _ (by omega)) gS (hg _ (by omega)) (O.tr _ _ _ (hg _ (by omega)) g1 gS (s2.le O (λ k hk => hg k (by omega)) (by omega) (by omega) (by omega)) (O.asym _ _ g1 gS hlt)) (s1.le O (λ k hk => hg k (by omega)) (by omega) (by omega) (by omega))
    ·rw [r4 j (by omega)]; exact s2 _ _ (by omega) (by omega) jb
  have h1 : Mv g (if a < S /\ S < mid then fw cf n a S mid g else g) a mid /\ Srt cf (if a < S /\ S < mid then fw cf n a S mid g else g) a mid := by
   by_cases c : a < S /\ S < mid
   ·rw [if_pos c]
    exact oP O n a S mid g (by omega) c.1 c.2 (by omega) gg t1 t2
   ·rw [if_neg c]
    refine ⟨Mv.refl _ _ _, ?_⟩
    by_cases c2 : a < S
    ·have : S = mid := by omega
     subst this; exact t1
    ·have : S = a := by omega
     subst this; exact t2
  obtain ⟨h, hh⟩ : ∃ h, (if a < S /\ S < mid then fw cf n a S mid g else g) = h := ⟨_, rfl⟩
  rw [hh] at h1 ⊢
  obtain ⟨m1, u1⟩ := h1
  have gh := m1.good (by omega) gg
  have h2 : Mv h (if mid < e /\ e < b then fw cf n mid e b h else h) mid b /\ Srt cf (if mid < e /\ e < b then fw cf n mid e b h else h) mid b := by
   have v3 : Srt cf h mid e := t3.cong λ k h _ => m1.out k (.inr h)
   have v4 : Srt cf h e b := t4.cong λ k h _ => m1.out k (.inr (by omega))
   by_cases c : mid < e /\ e < b
   ·rw [if_pos c]
    exact oP O n mid e b h (by omega) c.1 c.2 hN gh v3 v4
   ·rw [if_neg c]
    refine ⟨Mv.refl _ _ _, ?_⟩
    by_cases c2 : mid < e
    ·have : e = b := by omega
     subst this; exact v3
    ·have : e = mid := by omega
     subst this; exact v4
  obtain ⟨h', hh'⟩ : ∃ h', (if mid < e /\ e < b then fw cf n mid e b h else h) = h' := ⟨_, rfl⟩
  rw [hh'] at h2 ⊢
  obtain ⟨m2, u2⟩ := h2
  refine ⟨(mg.wide k1 heb).trans ((m1.wide (le_refl _) (by omega)).trans (m2.wide (by omega) (le_refl _))), ?_⟩
  refine Srt.join (u1.cong λ k _ h => m2.out k (.inl h)) u2 λ i j ia im jm jb => ?_
  rw [m2.out i (.inl im)]
  obtain ⟨i', i1, i2, ei⟩ := m1.ins i ia im
  obtain ⟨j', j1, j2, ej⟩ := m2.ins j jm jb
  rw [ei, ej, m1.out j' (.inr j1)]
  exact cross i' j' i1 i2 j1 j2
end
def pr {α : Type} (cf : α -> α -> Int) (bs n : Nat) : Nat -> Nat -> (Nat -> α) -> (Nat -> α)
 | 0, _, f => f
 | k + 1, a, f => if a + bs <= n then pr cf bs n k (a + bs) (fW cf a (a + 1) (bs - 1) f) else fW cf a (a + 1) (n - a - 1) f
def tS {α : Type} (cf : α -> α -> Int) (bs n : Nat) : Nat -> Nat -> (Nat -> α) -> (Nat -> α)
 | 0, _, f => f
 | k + 1, a, f => if a + 2 * bs <= n then tS cf bs n k (a + 2 * bs) (fw cf n a (a + bs) (a + 2 * bs) f) else if a + bs < n then fw cf n a (a + bs) n f else f
def lS {α : Type} (cf : α -> α -> Int) (n : Nat) : Nat -> Nat -> (Nat -> α) -> (Nat -> α)
 | 0, _, f => f
 | k + 1, bs, f => if bs < n then lS cf n k (2 * bs) (tS cf bs n (n + 1) 0 f) else f
def qw {α : Type} (cf : α -> α -> Int) (n : Nat) (f : Nat -> α) : Nat -> α := lS cf n (n + 1) 20 (pr cf 20 n (n + 1) 0 f)
section
variable {α : Type} {cf : α -> α -> Int} {good : α -> Prop} {f g : Nat -> α}
def Bks (cf : α -> α -> Int) (bs n : Nat) (f : Nat -> α) : Prop := ∀ i j, i < j -> j < n -> i / bs = j / bs -> LeC cf (f i) (f j)
theorem Srt.one (f : Nat -> α) (a : Nat) : Srt cf f a (a + 1) := λ i j hi hij hj => by omega
theorem tp {q bs i : Nat} (h1 : q * bs <= i) (h2 : i < (q + 1) * bs) : i / bs = q := Nat.div_eq_of_lt_le h1 h2
theorem Bb {q bs i : Nat} (h : i < q * bs) : i / bs < q := Nat.div_lt_of_lt_mul (by rwa [mul_comm])
theorem Bp {q bs i : Nat} (h0 : 0 < bs) (h : q * bs <= i) : q <= i / bs := (Nat.le_div_iff_mul_le h0).2 h
theorem Bks.more {bs q e n : Nat} (h0 : 0 < bs) (hb : Bks cf bs (q * bs) f) (m : Mv f g (q * bs) e) (s : Srt cf g (q * bs) e) (he : e <= (q + 1) * bs) : Bks cf bs e g := λ i j hij hj hd => by
 by_cases c : j < q * bs
 ·rw [m.out i (.inl (by omega)), m.out j (.inl c)]
  exact hb i j hij c hd
 ·have h1 : q <= j / bs := Bp h0 (by omega)
  by_cases c2 : i < q * bs
  ·have := Bb c2; omega
  ·exact s i j (by omega) hij hj
theorem zo (O : OrdC cf good) {bs n : Nat} (h0 : 0 < bs) : ∀ (k q : Nat) (f : Nat -> α), n < k + q -> q * bs <= n -> (∀ k, k < n -> good (f k)) -> Bks cf bs (q * bs) f -> Mv f (pr cf bs n k (q * bs) f) 0 n /\ Bks cf bs n (pr cf bs n k (q * bs) f)
 | 0, q, f, hk, hq, _, _ => by
  have : q * 1 <= q * bs := Nat.mul_le_mul_left q h0
  omega
 | k + 1, q, f, hk, hq, hg, hb => by
  have e1 : (q + 1) * bs = q * bs + bs := succ_mul q bs
  unfold pr
  by_cases c : q * bs + bs <= n
  ·rw [if_pos c]
   obtain ⟨m1, s1⟩ := tK O (a := q * bs) (N := n) (k := bs - 1) (i := q * bs + 1) hg (by omega) (by omega) (Srt.one f _)
   rw [show q * bs + 1 + (bs - 1) = (q + 1) * bs by omega] at m1 s1
   have b1 : Bks cf bs ((q + 1) * bs) _ := hb.more (n := n) h0 m1 s1 (le_refl _)
   rw [<- e1]
   obtain ⟨m2, b2⟩ := zo O h0 k (q + 1) _ (by omega) (by omega) (m1.good (by omega) hg) b1
   exact ⟨(m1.wide (zero_le _) (by omega)).trans m2, b2⟩
  ·rw [if_neg c]
   by_cases c0 : q * bs = n
   ·rw [show n - q * bs - 1 = 0 by omega, fW]
    exact ⟨Mv.refl _ _ _, c0 ▸ hb⟩
   ·obtain ⟨m1, s1⟩ := tK O (a := q * bs) (N := n) (k := n - q * bs - 1) (i := q * bs + 1) hg (by omega) (by omega) (Srt.one f _)
    rw [show q * bs + 1 + (n - q * bs - 1) = n by omega] at m1 s1
    exact ⟨m1.wide (zero_le _) (le_refl _), hb.more (n := n) h0 m1 s1 (by omega)⟩
theorem Bks.srt {bs q n : Nat} (h : Bks cf bs n f) : Srt cf f (q * bs) (min ((q + 1) * bs) n) := λ i j hi hij hj =>
 h i j hij (by omega) (by rw [tp (q := q) hi (by omega), tp (q := q) (by omega) (by omega)])
structure Two (cf : α -> α -> Int) (bs n a : Nat) (f : Nat -> α) : Prop where
 front : Bks cf (2 * bs) a f
 rest : ∀ i j, a <= i -> i < j -> j < n -> i / bs = j / bs -> LeC cf (f i) (f j)
theorem Two.srt {bs n a q : Nat} (t : Two cf bs n a f) (h : a <= q * bs) : Srt cf f (q * bs) (min ((q + 1) * bs) n) := λ i j hi hij hj =>
 t.rest i j (by omega) hij (by omega) (by rw [tp (q := q) hi (by omega), tp (q := q) (by omega) (by omega)])
theorem zS (O : OrdC cf good) {bs n : Nat} (h0 : 0 < bs) : ∀ (k q : Nat) (f : Nat -> α), n < k + q -> q * (2 * bs) <= n -> (∀ k, k < n -> good (f k)) -> Two cf bs n (q * (2 * bs)) f -> Mv f (tS cf bs n k (q * (2 * bs)) f) 0 n /\ Bks cf (2 * bs) n (tS cf bs n k (q * (2 * bs)) f)
 | 0, q, f, hk, hq, _, _ => by
  have : q * 1 <= q * (2 * bs) := Nat.mul_le_mul_left q (by omega)
  omega
 | k + 1, q, f, hk, hq, hg, ht => by
  have e1 : (q + 1) * (2 * bs) = q * (2 * bs) + 2 * bs := succ_mul q _
  have e2 : (2 * q) * bs = q * (2 * bs) := by rw [mul_comm 2 q, Nat.mul_assoc]
  have e3 : (2 * q + 1) * bs = q * (2 * bs) + bs := by rw [succ_mul, e2]
  have e4 : (2 * q + 1 + 1) * bs = q * (2 * bs) + 2 * bs := by rw [succ_mul, e3]; omega
  have s1 := ht.srt (q := 2 * q) (by omega)
  have s2 := ht.srt (q := 2 * q + 1) (by omega)
  rw [e2, e3] at s1; rw [e3, e4] at s2
  unfold tS
  by_cases c : q * (2 * bs) + 2 * bs <= n
  ·rw [if_pos c]
   rw [Nat.min_eq_left (by omega)] at s1 s2
   obtain ⟨m, s⟩ := oP O n (q * (2 * bs)) (q * (2 * bs) + bs) (q * (2 * bs) + 2 * bs) f (by omega) (by omega) (by omega) c hg s1 s2
   rw [<- e1] at m s ⊢
   have hf : Bks cf (2 * bs) ((q + 1) * (2 * bs)) _ := ht.front.more (n := n) (by omega) m s (le_refl _)
   obtain ⟨m2, b2⟩ := zS O h0 k (q + 1) _ (by omega) (by omega) (m.good (by omega) hg) ⟨hf, λ i j hi hij hj hd => by
    rw [m.out i (.inr hi), m.out j (.inr (by omega))]
    exact ht.rest i j (by omega) hij hj hd⟩
   exact ⟨(m.wide (zero_le _) (by omega)).trans m2, b2⟩
  ·rw [if_neg c]
   by_cases c2 : q * (2 * bs) + bs < n
   ·rw [if_pos c2]
    rw [Nat.min_eq_left (by omega)] at s1
    rw [Nat.min_eq_right (by omega)] at s2
    obtain ⟨m, s⟩ := oP O n (q * (2 * bs)) (q * (2 * bs) + bs) n f (by omega) (by omega) c2 (le_refl _) hg s1 s2
    exact ⟨m.wide (zero_le _) (le_refl _), ht.front.more (n := n) (by omega) m s (by omega)⟩
   ·rw [if_neg c2, Nat.min_eq_right (by omega)] at *
    exact ⟨Mv.refl _ _ _, ht.front.more (n := n) (by omega) (Mv.refl _ _ _) s1 (by omega)⟩
theorem zB (O : OrdC cf good) {n : Nat} : ∀ (k bs : Nat) (f : Nat -> α), 0 < bs -> n < k + bs -> (∀ k, k < n -> good (f k)) -> Bks cf bs n f -> Mv f (lS cf n k bs f) 0 n /\ Srt cf (lS cf n k bs f) 0 n
 | 0, bs, f, h0, hk, _, hb => ⟨Mv.refl _ _ _, by
  have := hb.srt (q := 0)
  rwa [zero_mul, show min ((0 + 1) * bs) n = n by omega] at this⟩
 | k + 1, bs, f, h0, hk, hg, hb => by
  unfold lS
  by_cases c : bs < n
  ·rw [if_pos c]
   obtain ⟨m, b⟩ := zS O h0 (n + 1) 0 f (by omega) (by omega) hg ⟨by rw [zero_mul]; exact λ i j _ hj _ => by omega, λ i j _ hij hj hd => hb i j hij hj hd⟩
   rw [zero_mul] at m b
   obtain ⟨m2, s2⟩ := zB O k (2 * bs) _ (by omega) (by omega) (m.good (le_refl _) hg) b
   exact ⟨m.trans m2, s2⟩
  ·rw [if_neg c]
   have := hb.srt (q := 0)
   rw [zero_mul, show min ((0 + 1) * bs) n = n by omega] at this
   exact ⟨Mv.refl _ _ _, this⟩
theorem HH (O : OrdC cf good) {n : Nat} {f : Nat -> α} (hg : ∀ k, k < n -> good (f k)) : Mv f (qw cf n f) 0 n /\ Srt cf (qw cf n f) 0 n := by
 obtain ⟨m, b⟩ := zo O (bs := 20) (n := n) (by omega) (n + 1) 0 f (by omega) (by omega) hg (λ i j _ hj _ => by omega)
 rw [zero_mul] at m b
 obtain ⟨m2, s2⟩ := zB O (n + 1) 20 _ (by omega) (by omega) (m.good (le_refl _) hg) b
 exact ⟨m.trans m2, s2⟩
end
def cT {α : Type} [Inhabited α] (cf : α -> α -> Int) (l : List α) : List α := lst l.length (qw cf l.length (λ k => l.getD k default))
theorem zO {α : Type} [Inhabited α] (l : List α) : lst l.length (λ k => l.getD k default) = l := by
 apply List.ext_getElem?
 intro i
 simp only [lst, List.getElem?_map, List.getD_eq_getElem?_getD]
 by_cases h : i < l.length
 ·simp [h]
 ·simp [h]
theorem aZ {α : Type} (N : Nat) (f : Nat -> α) : (lst N f).length = N := by simp [lst]
theorem Dx {α : Type} {N : Nat} {f : Nat -> α} {cf : α -> α -> Int} (h : Srt cf f 0 N) : (lst N f).Pairwise (LeC cf) := by
 rw [List.pairwise_iff_getElem]
 intro i j hi hj hij
 simp only [lst, List.getElem_map, List.getElem_range]
 rw [aZ] at hj
 exact h i j (zero_le _) hij hj
theorem dh {α : Type} [Inhabited α] {cf : α -> α -> Int} {good : α -> Prop} (O : OrdC cf good) {l : List α} (hg : ∀ x, x ∈ l -> good x) : (cT cf l).Perm l /\ (cT cf l).Pairwise (LeC cf) := by
 obtain ⟨m, s⟩ := HH O (n := l.length) (f := λ k => l.getD k default) (λ k hk => by
  simp only [List.getD_eq_getElem?_getD, List.getElem?_eq_getElem hk, Option.getD_some]
  exact hg _ (List.getElem_mem hk))
 refine ⟨?_, Dx s⟩
 have := m.perm l.length (le_refl _)
 rwa [zO] at this
section
variable {α : Type} [DecidableEq α]
def dgF (p : α) : List α -> List α
 | [] => []
 | y :: r => if y = p then dgF y r else y :: dgF y r
def dg : List α -> List α
 | [] => []
 | x :: r => x :: dgF x r
theorem vA : ∀ (l : List α) (p y : α), dgF p (l ++ [y]) = dgF p l ++ (if y = l.getLastD p then [] else [y])
 | [], p, y => by
  show dgF p [y] = _
  rw [dgF]
  show (if y = p then [] else [y]) = [] ++ (if y = p then [] else [y])
  by_cases h : y = p
  ·rw [if_pos h]; rfl
  ·rw [if_neg h]; rfl
 | z :: r, p, y => by
  have ih := vA r z y
  rw [cons_append, dgF, dgF, ih]
  have e : (z :: r).getLastD p = r.getLastD z := by cases r <;> rfl
  rw [e]
  split <;> rfl
omit [DecidableEq α] in
theorem vB : ∀ (r : List α) (x : α) (h : x :: r ≠ []), (x :: r).getLast h = r.getLastD x
 | [], _, _ => rfl
 | y :: q, x, h => by
  rw [List.getLast_cons (by simp), vB q y]
  cases q <;> rfl
theorem Gc {l : List α} (h : l ≠ []) (y : α) : dg (l ++ [y]) = dg l ++ (if y = l.getLast h then [] else [y]) := by
 cases l with
 | nil => exact absurd rfl h
 | cons x r =>
  rw [cons_append, dg, dg, vA, cons_append]
  rw [vB]
theorem Gd {xs : List α} {p : Nat} (h1 : 1 <= p) (h2 : p < xs.length) : dg (xs.take (p + 1)) = dg (xs.take p) ++ (if xs[p] = xs[p - 1]'(by omega) then [] else [xs[p]]) := by
 have hne : xs.take p ≠ [] := by
  intro h
  have : (xs.take p).length = 0 := by rw [h]; rfl
  rw [length_take] at this
  omega
 have e : (xs.take p).length - 1 = p - 1 := by rw [length_take, Nat.min_eq_left (by omega)]
 have hl : (xs.take p).getLast hne = xs[p - 1]'(by omega) := by
  rw [List.getLast_eq_getElem, List.getElem_take]
  congr 1
 rw [List.take_succ_eq_append_getElem h2, Gc hne, hl]
theorem C1 : ∀ (l : List α) (p : α), (dgF p l).length <= l.length
 | [], p => le_refl _
 | y :: r, p => by rw [dgF]; have := C1 r y; split <;> simp <;> omega
theorem Is (xs : List α) : (dg xs).length <= xs.length := by
 cases xs with
 | nil => exact le_refl _
 | cons x r => have := C1 r x; simp [dg]; omega
theorem oh : ∀ (l : List α) (p z : α), z ∈ dgF p l -> z ∈ l
 | [], p, z, h => h
 | y :: r, p, z, h => by
  rw [dgF] at h
  split at h
  ·exact mem_cons_of_mem _ (oh r y z h)
  ·rcases mem_cons.1 h with rfl | h
   ·exact mem_cons_self
   ·exact mem_cons_of_mem _ (oh r y z h)
theorem zQ : ∀ (l : List α) (p z : α), z ∈ l -> z = p ∨ z ∈ dgF p l
 | [], p, z, h => by cases h
 | y :: r, p, z, h => by
  rw [dgF]
  rcases mem_cons.1 h with rfl | h
  ·split
   ·rename_i e; exact .inl e
   ·exact .inr mem_cons_self
  ·rcases zQ r y z h with rfl | h
   ·split
    ·rename_i e; exact .inl e
    ·exact .inr mem_cons_self
   ·split
    ·exact .inr h
    ·exact .inr (mem_cons_of_mem _ h)
theorem dg_mem {l : List α} {z : α} : z ∈ dg l ↔ z ∈ l := by
 cases l with
 | nil => exact Iff.rfl
 | cons x r =>
  rw [dg]
  constructor
  ·intro h
   rcases mem_cons.1 h with rfl | h
   ·exact mem_cons_self
   ·exact mem_cons_of_mem _ (oh r x z h)
  ·intro h
   rcases mem_cons.1 h with rfl | h
   ·exact mem_cons_self
   ·rcases zQ r x z h with rfl | h
    ·exact mem_cons_self
    ·exact mem_cons_of_mem _ h
variable {cf : α -> α -> Int}
theorem rJ (ha : ∀ x y, LeC cf x y -> LeC cf y x -> x = y) : ∀ (l : List α) (p : α), (p :: l).Pairwise (LeC cf) -> (dgF p l).Nodup /\ p ∉ dgF p l
 | [], p, h => ⟨List.nodup_nil, List.not_mem_nil⟩
 | y :: r, p, h => by
  obtain ⟨h1, h2⟩ := List.pairwise_cons.1 h
  obtain ⟨i1, i2⟩ := rJ ha r y h2
  rw [dgF]
  split
  ·rename_i e; subst e; exact ⟨i1, i2⟩
  ·rename_i e
   refine ⟨List.nodup_cons.2 ⟨i2, i1⟩, λ hp => ?_⟩
   rcases mem_cons.1 hp with rfl | hp
   ·exact e rfl
   ·exact e (ha _ _ ((List.pairwise_cons.1 h2).1 p (oh _ _ _ hp)) (h1 y mem_cons_self))
theorem pA (ha : ∀ x y, LeC cf x y -> LeC cf y x -> x = y) {l : List α} (h : l.Pairwise (LeC cf)) : (dg l).Nodup := by
 cases l with
 | nil => exact List.nodup_nil
 | cons x r =>
  obtain ⟨h1, h2⟩ := rJ ha r x h
  exact List.nodup_cons.2 ⟨h2, h1⟩
end
structure Ed where
 f : Int
 t : Int
 i : Int
deriving DecidableEq, Inhabited
def dx (a b : Int) : Int := if a < b then -1 else if b < a then 1 else 0
def d8 (x y : Ed) : Int := if dx x.t y.t ≠ 0 then dx x.t y.t else dx x.i y.i
def dl : List Int -> List Int -> Int
 | [], [] => 0
 | [], _ :: _ => -1
 | _ :: _, [] => 1
 | a :: r, b :: q => if dx a b ≠ 0 then dx a b else dl r q
theorem A7 (a b : Int) : dx b a = - dx a b := by unfold dx; split <;> split <;> first | rfl | omega
theorem cmp3_zero {a b : Int} : dx a b = 0 ↔ a = b := by unfold dx; split <;> (try split) <;> omega
theorem cmp3_neg {a b : Int} : dx a b < 0 ↔ a < b := by unfold dx; split <;> (try split) <;> omega
theorem vt {x y : Ed} : d8 x y < 0 ↔ x.t < y.t ∨ (x.t = y.t /\ x.i < y.i) := by
 unfold d8
 by_cases h : dx x.t y.t = 0
 ·rw [if_neg (by omega), cmp3_neg]; have := cmp3_zero.1 h; omega
 ·rw [if_pos h, cmp3_neg]; have : x.t ≠ y.t := λ e => h (cmp3_zero.2 e)
  omega
theorem OA : OrdC d8 (λ _ => True) := by
 constructor
 ·intro x y _ _ h1 h2
  rw [vt] at h1 h2; omega
 ·intro x y z _ _ _ h1 h2 h3
  unfold LeC at h1 h2
  rw [vt] at h1 h2 h3; omega
theorem mO : ∀ a b : List Int, dl b a = - dl a b
 | [], [] => rfl
 | [], _ :: _ => rfl
 | _ :: _, [] => rfl
 | a :: r, b :: q => by
  rw [dl, dl, A7 a b, mO r q]
  by_cases h : dx a b = 0
  ·rw [if_neg (by omega), if_neg (by omega)]
  ·rw [if_pos (by omega), if_pos h]
theorem mP : ∀ {a b : List Int}, dl a b = 0 -> a = b
 | [], [], _ => rfl
 | [], _ :: _, h => by rw [dl] at h; omega
 | _ :: _, [], h => by rw [dl] at h; omega
 | a :: r, b :: q, h => by
  rw [dl] at h
  by_cases c : dx a b = 0
  ·rw [if_neg (by omega)] at h
   rw [cmp3_zero.1 c, mP h]
  ·rw [if_pos c] at h; exact absurd h c
theorem rG : ∀ a : List Int, dl a a = 0
 | [] => rfl
 | a :: r => by rw [dl, if_neg (by rw [cmp3_zero.2 rfl]; omega), rG r]
theorem zy : ∀ {a b c : List Int}, ¬ dl b a < 0 -> ¬ dl c b < 0 -> ¬ dl c a < 0
 | [], b, c, _, _ => by cases c <;> (rw [dl]; omega)
 | a :: r, [], c, h, _ => by rw [dl] at h; omega
 | a :: r, b :: q, [], _, h => by rw [dl] at h; omega
 | a :: r, b :: q, c :: s, h1, h2 => by
  rw [dl] at h1 h2 ⊢
  have n1 := @cmp3_neg b a; have n2 := @cmp3_neg c b; have n3 := @cmp3_neg c a
  have z1 := @cmp3_zero b a; have z2 := @cmp3_zero c b; have z3 := @cmp3_zero c a
  by_cases c1 : dx b a = 0
  ·by_cases c2 : dx c b = 0
   ·rw [if_neg (by omega)] at h1 h2 ⊢
    exact zy h1 h2
   ·rw [if_pos c2] at h2
    rw [if_pos (by omega)]; omega
  ·rw [if_pos c1] at h1
   by_cases c2 : dx c b = 0
   ·rw [if_pos (by omega)]; omega
   ·rw [if_pos c2] at h2
    rw [if_pos (by omega)]; omega
theorem ordW : OrdC dl (λ _ => True) := by
 constructor
 ·intro x y _ _ h1 h2
  rw [mO x y] at h2; omega
 ·intro x y z _ _ _ h1 h2
  exact zy h1 h2
theorem Cx (x y : List Int) (h1 : LeC dl x y) (h2 : LeC dl y x) : x = y := by
 unfold LeC at h1 h2
 rw [mO x y] at h1
 exact mP (by omega)
def stF (es : List Ed) (p : Int) : List Ed := es.filterMap λ e => if e.f = p then some ⟨p, e.t, e.i⟩ else if e.t = p then some ⟨p, e.f, e.i⟩ else none
def bu (es : List Ed) (p : Int) : List Ed := cT d8 (stF es p)
theorem mY {es : List Ed} {p : Int} {x : Ed} : x ∈ bu es p ↔ x ∈ stF es p := (dh OA (l := stF es p) (λ _ _ => trivial)).1.mem_iff
def pQ (ns : List Int) (es : List Ed) : List (List Int) :=
 ns.flatMap λ n => (bu es n).flatMap λ a => (bu es a.t).flatMap λ b => (bu es b.t).flatMap λ c => if c.t = n then [[n, a.t, b.t]] else []
def ra : List Int -> Bool
 | [a, b, c] => decide (a ≠ b) && decide (b ≠ c) && decide (c ≠ a)
 | _ => false
def GX (ns : List Int) (es : List Ed) : List (List Int) := cT dl (dg (cT dl (cT dl ((cT dl (pQ ns es)).filter ra))))
def gz (es : List Ed) (a b : Int) : Bool := decide (a ≠ b) && es.any λ e => (decide (e.f = a) && decide (e.t = b)) || (decide (e.f = b) && decide (e.t = a))
theorem o8 (es : List Ed) (a b : Int) : gz es a b = gz es b a := by
 unfold gz
 rw [show decide (a ≠ b) = decide (b ≠ a) by simp [eq_comm]]
 congr 1
 apply congrArg (λ p => List.any es p)
 funext e
 exact Bool.or_comm _ _
theorem oa (es : List Ed) (a : Int) : gz es a a = false := by simp [gz]
theorem i6 {es : List Ed} {p q : Int} (h : p ≠ q) : (∃ x ∈ bu es p, x.t = q) ↔ gz es p q = true := by
 simp only [mY, stF, List.mem_filterMap, gz, Bool.and_eq_true, decide_eq_true_eq, List.any_eq_true, Bool.or_eq_true]
 constructor
 ·rintro ⟨x, ⟨e, he, hx⟩, rfl⟩
  refine ⟨h, e, he, ?_⟩
  split at hx
  ·rename_i c; injection hx with hx; subst hx; exact .inl ⟨c, rfl⟩
  ·split at hx
   ·rename_i c; injection hx with hx; subst hx; exact .inr ⟨rfl, c⟩
   ·cases hx
 ·rintro ⟨_, e, he, hc⟩
  rcases hc with ⟨c1, c2⟩ | ⟨c1, c2⟩
  ·exact ⟨⟨p, e.t, e.i⟩, ⟨e, he, by rw [if_pos c1]⟩, c2⟩
  ·exact ⟨⟨p, e.f, e.i⟩, ⟨e, he, by rw [if_neg (by omega), if_pos c2]⟩, c1⟩
theorem mem_mat {ns : List Int} {es : List Ed} {l : List Int} : l ∈ pQ ns es ↔ ∃ n ∈ ns, ∃ a ∈ bu es n, ∃ b ∈ bu es a.t, ∃ c ∈ bu es b.t, c.t = n /\ l = [n, a.t, b.t] := by
 simp only [pQ, mem_flatMap]
 constructor
 ·rintro ⟨n, hn, a, ha, b, hb, c, hc, h⟩
  split at h
  ·rename_i e; exact ⟨n, hn, a, ha, b, hb, c, hc, e, List.mem_singleton.1 h⟩
  ·cases h
 ·rintro ⟨n, hn, a, ha, b, hb, c, hc, e, rfl⟩
  exact ⟨n, hn, a, ha, b, hb, c, hc, by rw [if_pos e]; exact List.mem_singleton.2 rfl⟩
theorem kP {l : List (List Int)} {x : List Int} : x ∈ cT dl l ↔ x ∈ l := (dh ordW (l := l) (λ _ _ => trivial)).1.mem_iff
def to3 : List Int -> Int × Int × Int
 | [a, b, c] => (a, b, c)
 | _ => (0, 0, 0)
theorem GY {ns : List Int} {es : List Ed} (hn : ns.Nodup) (he : ∀ e ∈ es, e.f ∈ ns /\ e.t ∈ ns) :
  (GX ns es).length = 2 * (ns.map λ a => eN (gz es) (ns.filter (gz es a)) / 2).sum := by
 unfold GX
 rw [(dh ordW (λ _ _ => trivial)).1.length_eq]
 generalize hD : dg (cT dl (cT dl ((cT dl (pQ ns es)).filter ra))) = D
 have hnd : D.Nodup := hD ▸ pA Cx (dh ordW (λ _ _ => trivial)).2
 have hmem : ∀ l, l ∈ D ↔ l ∈ pQ ns es /\ ra l = true := λ l => by
  rw [<- hD, dg_mem, kP, kP, List.mem_filter, kP]
 have h3 : ∀ l ∈ D, ∃ a b c, l = [a, b, c] := λ l hl => by
  obtain ⟨n, _, a, _, b, _, c, _, _, rfl⟩ := mem_mat.1 ((hmem l).1 hl).1
  exact ⟨_, _, _, rfl⟩
 rw [<- B4 (o8 es) (oa es) hn (T := D.map to3) ?_ ?_, List.length_map]
 ·refine pairwise_map.2 (List.Pairwise.imp_of_mem ?_ hnd)
  intro x y hx hy hxy e
  obtain ⟨a, b, c, rfl⟩ := h3 x hx
  obtain ⟨a', b', c', rfl⟩ := h3 y hy
  simp only [to3, Prod.mk.injEq] at e
  exact hxy (by rw [e.1, e.2.1, e.2.2])
 ·intro a b c
  have hin : ∀ {p : Int} {x : Ed}, x ∈ bu es p -> x.t ∈ ns := λ {p x} hx => by
   rw [mY, stF, List.mem_filterMap] at hx
   obtain ⟨e, hee, hx⟩ := hx
   split at hx
   ·injection hx with hx; subst hx; exact (he e hee).2
   ·split at hx
    ·injection hx with hx; subst hx; exact (he e hee).1
    ·cases hx
  rw [mem_map]
  constructor
  ·rintro ⟨l, hl, hto⟩
   obtain ⟨hm, hd⟩ := (hmem l).1 hl
   obtain ⟨n, hn', x, hx, y, hy, z, hz, e, rfl⟩ := mem_mat.1 hm
   simp only [to3, Prod.mk.injEq] at hto
   obtain ⟨rfl, rfl, rfl⟩ := hto
   simp only [ra, Bool.and_eq_true, decide_eq_true_eq] at hd
   refine ⟨hn', hin hx, hin hy, (i6 hd.1.1).1 ⟨x, hx, rfl⟩, (i6 hd.1.2).1 ⟨y, hy, rfl⟩, ?_⟩
   rw [o8]
   exact (i6 hd.2).1 ⟨z, hz, e⟩
  ·rintro ⟨ha, hb, hc, h1, h2, h3'⟩
   rw [o8] at h3'
   have n1 : a ≠ b := by rintro rfl; rw [oa] at h1; cases h1
   have n2 : b ≠ c := by rintro rfl; rw [oa] at h2; cases h2
   have n3 : c ≠ a := by rintro rfl; rw [oa] at h3'; cases h3'
   obtain ⟨x, hx, rfl⟩ := (i6 n1).2 h1
   obtain ⟨y, hy, rfl⟩ := (i6 n2).2 h2
   obtain ⟨z, hz, hz'⟩ := (i6 n3).2 h3'
   refine ⟨[a, x.t, y.t], (hmem _).2 ⟨mem_mat.2 ⟨a, ha, x, hx, y, hy, z, hz, hz', rfl⟩, ?_⟩, rfl⟩
   simp only [ra, Bool.and_eq_true, decide_eq_true_eq]
   exact ⟨⟨n1, n2⟩, n3⟩
theorem Gx : PureOK prog G0 109 cO := by
 refine ci aR mixed func109 rfl rfl rfl (by kernel_rfl) (by decide) (λ ⟨c⟩ _ => ?_)
 by_cases h1 : 97 <= c <;> by_cases h2 : c <= 122 <;> by_cases h3 : 65 <= c <;> by_cases h4 : c <= 90 <;> simp [ac, ag, ae, am, ap, aa, au, ab, ao, ak, ah, ai, aj, dB, h1, h2, h3, h4]
noncomputable def CLp : Ctx := mkC prog G0 [(109, .pure cO)]
@[simp] theorem TU : CLp.P = prog := rfl
@[simp] theorem TT : CLp.G = G0 := rfl
@[simp] theorem TS : CLp.S 109 = .pure cO := rfl
theorem EJ : aB CLp := aH (Gx) func109 (ax _ _)
theorem IN : PureOK prog G0 58 fy := by
 refine ci EJ mixed func58 rfl rfl rfl (by kernel_rfl) (by decide) (λ s _ => ?_)
 by_cases h0 : s.size = 0
 ·have e := pB h0
  subst e
  have en : da ⟨#[]⟩ = false := by simp [da]; intro h; exact absurd h (by decide)
  simp [ac, ag, ae, am, ap, aa, au, ab, ao, ak, ah, ai, aj, en]
 have hne : ¬ s = ⟨#[]⟩ := λ e => h0 (by rw [e]; rfl)
 by_cases h1 : 20 < s.size
 ·have h1' : (20 : Int) < s.size := by omega
  have en : da s = false := by simp [da]; omega
  simp [ac, ag, ae, am, ap, aa, au, ab, ao, ak, ah, ai, aj, h1', hne, en]
 have h1' : ¬ (20 : Int) < s.size := by omega
 have hpos : 0 < s.size := by omega
 have hpos' : (0 : Int) < s.size := by omega
 cases h2 : dB (btA s 0)
 ·simp [ac, ag, ae, am, ap, aa, au, ab, ao, ak, ah, ai, aj, h1', hne, hpos, hpos', cO, h2, nG h2]
 ·simp [ac, ag, ae, am, ap, aa, au, ab, ao, ak, ah, ai, aj, h1', hne, hpos, hpos', cO, h2]
  refine aT EJ mixed (λ i : Nat => ⟨[(0, .str s), (18, .int .i64 s.size), (19, .int .i64 i)], []⟩) (λ i => i <= s.size /\ ∀ j, j < i -> dn (btA s j) = true) (λ i => s.size - i) (by kernel_rfl) ⟨0, ⟨by omega, λ j hj => by omega⟩, ar (by simp)⟩ ?_
  rintro i ⟨hi, hall⟩
  by_cases hlt : i < s.size
  ·have i1 : I64 ((i : Int) + 1) := by unfold I64; omega
   have step : dn (btA s i) = true -> ∀ j, j < i + 1 -> dn (btA s j) = true := λ hc j hj => by
    rcases lt_or_ge j i with h | h
    ·exact hall j h
    ·rw [show j = i by omega]; exact hc
   cases h3 : dB (btA s i)
   ·by_cases h4 : (btA s i : Int) < 48
    ·have h4' : btA s i < 48 := by omega
     have hn : dn (btA s i) = false := by simp [dn, h3]; omega
     have h6 : ¬ btA s i = 95 := by omega
     have h6' : ¬ (btA s i : Int) = 95 := by omega
     simp [ac, ag, ae, am, ap, aa, au, ab, ao, ak, ah, ai, aj, hlt, cO, h3, h4, h4', h6, h6', ik hlt hn]
    ·have h4' : ¬ btA s i < 48 := by omega
     by_cases h5 : 57 < (btA s i : Int)
     ·have h5' : 57 < btA s i := by omega
      by_cases h6 : btA s i = 95
      ·have hn : dn (btA s i) = true := by simp [dn, h6]
       have h3' : dB 95 = false := by
        have := h3
        rw [show ((btA s i : Nat) : Int) = 95 by omega] at this
        exact this
       simp [ac, ag, ae, am, ap, aa, au, ab, ao, ak, ah, ai, aj, hlt, cO, h3, h3', h4, h4', h5, h5', h6, i1]
       exact ⟨i + 1, ⟨by omega, step hn⟩, by omega, ar (by simp)⟩
      ·have h6' : ¬ (btA s i : Int) = 95 := by omega
       have hn : dn (btA s i) = false := by simp [dn, h3]; omega
       simp [ac, ag, ae, am, ap, aa, au, ab, ao, ak, ah, ai, aj, hlt, cO, h3, h4, h4', h5, h5', h6, h6', ik hlt hn]
     ·have h5' : ¬ 57 < btA s i := by omega
      have hn : dn (btA s i) = true := by simp [dn]; omega
      simp [ac, ag, ae, am, ap, aa, au, ab, ao, ak, ah, ai, aj, hlt, cO, h3, h4, h4', h5, h5', i1]
      exact ⟨i + 1, ⟨by omega, step hn⟩, by omega, ar (by simp)⟩
   ·simp [ac, ag, ae, am, ap, aa, au, ab, ao, ak, ah, ai, aj, hlt, cO, h3, i1]
    exact ⟨i + 1, ⟨by omega, step (jl h3)⟩, by omega, ar (by simp)⟩
  ·have en := pT h0 h1 h2 (λ j hj => hall j (by omega))
   simp [ac, ag, ae, am, ap, aa, au, ab, ao, ak, ah, ai, aj, hlt, en]
noncomputable def CNm : Ctx := mkC prog G0 [(58, .pure fy)]
@[simp] theorem Uh : CNm.P = prog := rfl
@[simp] theorem Ug : CNm.G = G0 := rfl
@[simp] theorem Uf : CNm.S 58 = .pure fy := rfl
theorem Lk : aB CNm := aH (IN) func58 (ax _ _)
def EC : PSp := aN (λ (_ : ByteArray) => True) (λ s => .bool (!da s))
theorem Fh : PureOK prog G0 103 EC := by
 refine ci Lk mixed func103 rfl rfl rfl (by kernel_rfl) (by decide) (λ s _ => ?_)
 simp [ac, ag, ae, am, ap, aa, au, ab, ao, ak, ah, ai, aj, fy]
def lg : PSp := aW (λ (_ : Edg) (ts : List ByteArray) => ts = []) (λ _ _ => .bool true)
theorem vX : PureOK prog G0 62 lg := by
 refine db aR mixed func62 rfl rfl rfl (by kernel_rfl) (by decide) (λ e ts h => ?_)
 subst h
 simp [ac, ag, ae, am, ap, aa, au, ab, ao, ak, ah, ai, aj]
def mV : PSp := aN (λ (_ : Int) => True) (λ _ => .bool false)
theorem Kb : PureOK prog G0 170 mV := by
 refine ci aR mixed func170 rfl rfl rfl (by kernel_rfl) (by decide) (λ x _ => ?_)
 simp [ac, ag, ae, am, ap, aa, au, ab, ao, ak, ah, ai, aj]
noncomputable def CNn : Ctx := mkC prog G0 [(170, .pure mV)]
@[simp] theorem Uk : CNn.P = prog := rfl
@[simp] theorem Uj : CNn.G = G0 := rfl
@[simp] theorem Ui : CNn.S 170 = .pure mV := rfl
theorem Ll : aB CNn := aH (Kb) func170 (ax _ _)
def iT : PSp := aW (λ (_ _ : Int) => True) (λ a b => .int .i64 (dx a b))
theorem zw : PureOK prog G0 108 iT := by
 refine db Ll mixed func108 rfl rfl rfl (by kernel_rfl) (by decide) (λ a b _ => ?_)
 unfold dx
 by_cases h1 : a < b
 ·simp [ac, ag, ae, am, ap, aa, au, ab, ao, ak, ah, ai, aj, mV, h1]
 ·by_cases h2 : b < a
  ·simp [ac, ag, ae, am, ap, aa, au, ab, ao, ak, ah, ai, aj, mV, h1, h2]
  ·simp [ac, ag, ae, am, ap, aa, au, ab, ao, ak, ah, ai, aj, mV, h1, h2]
structure UnF where
instance : Enc UnF where
 sz := 1
 cells _ := [.fn 103 []]
 enc _ := .fn 103 []
 unc _ := ⟨⟩
 dec _ := ⟨⟩
 unc_cells _ := rfl
 dec_enc _ := rfl
@[simp] theorem PA (u : UnF) : Enc.enc u = .fn 103 [] := rfl
noncomputable def CUn : Ctx := mkC prog G0 [(103, .pure EC)]
@[simp] theorem Vp : CUn.P = prog := rfl
@[simp] theorem Vo : CUn.G = G0 := rfl
@[simp] theorem Vn : CUn.S 103 = .pure EC := rfl
theorem EP : aB CUn := aH (Fh) func103 (ax _ _)
def ya (l : List ByteArray) : Int := if eI l then -1 else (l.findIdx λ s => !da s : Nat)
def Ap : PSp := aW (λ (l : List ByteArray) (_ : UnF) => l.length <= maxLen) (λ l _ => .int .i64 (ya l))
theorem N8 : PureOK prog G0 168 Ap := by
 refine db EP mixed func168 rfl rfl rfl (by kernel_rfl) (by decide) (λ l u hl => ?_)
 unfold maxLen at hl
 simp [ac, ag, ae, am, ap, aa, au, ab, ao, ak, ah, ai, aj]
 refine aT EP mixed (λ i : Nat => ⟨[(0, Enc.enc l), (1, .fn 103 []), (7, .int .i64 l.length), (8, .int .i64 i)], []⟩) (λ i => i <= l.length /\ ∀ j, j < i -> da (ix l j) = true) (λ i => l.length - i) (by kernel_rfl) ⟨0, ⟨by omega, λ j hj => by omega⟩, ar (by simp)⟩ ?_
 rintro i ⟨hi, hall⟩
 by_cases hlt : i < l.length
 ·have i1 : I64 ((i : Int) + 1) := by unfold I64; omega
  cases h : da (ix l i)
  ·have hn : eI l = false := decide_eq_false λ hs => by
    have := hs _ (bJ hlt)
    rw [h] at this; cases this
   have hf : (l.findIdx λ s => !da s) = i := by
    rw [List.findIdx_eq hlt]
    refine ⟨by rw [<- bF hlt, h]; rfl, λ j hj => ?_⟩
    have := hall j hj
    rw [bF (show j < l.length by omega)] at this
    rw [this]; rfl
   have hr : ya l = i := by unfold ya; rw [hn, hf]; rfl
   simp [ac, ag, ae, am, ap, aa, au, ab, ao, ak, ah, ai, aj, hlt, aw hlt, EC, h, hr]
  ·simp [ac, ag, ae, am, ap, aa, au, ab, ao, ak, ah, ai, aj, hlt, aw hlt, EC, h, i1]
   refine ⟨i + 1, ⟨by omega, λ j hj => ?_⟩, by omega, ar (by simp)⟩
   rcases lt_or_ge j i with h' | h'
   ·exact hall j h'
   ·rw [show j = i by omega]; exact h
 ·have e : eI l = true := decide_eq_true λ s hs => by
   obtain ⟨j, hj, rfl⟩ := mem_iff_getElem.1 hs
   have := hall j (by omega)
   rwa [bF hj] at this
  have hr : ya l = -1 := by unfold ya; rw [e]; rfl
  simp [ac, ag, ae, am, ap, aa, au, ab, ao, ak, ah, ai, aj, hlt, hr]
noncomputable def CIu : Ctx := mkC prog G0 [(168, .pure Ap)]
@[simp] theorem TR : CIu.P = prog := rfl
@[simp] theorem TQ : CIu.G = G0 := rfl
@[simp] theorem TP : CIu.S 168 = .pure Ap := rfl
theorem Li : aB CIu := aH (N8) func168 (ax _ _)
def nL : PSp := aW (λ (l : List ByteArray) (_ : UnF) => l.length <= maxLen) (λ l _ => .bool (!eI l))
theorem NG : PureOK prog G0 102 nL := by
 refine db Li mixed func102 rfl rfl rfl (by kernel_rfl) (by decide) (λ l u hl => ?_)
 have e : decide (0 <= ya l) = !eI l := by
  unfold ya
  cases eI l
  ·simp
  ·rfl
 simp [ac, ag, ae, am, ap, aa, au, ab, ao, ak, ah, ai, aj, Ap, hl, e]
noncomputable def CCm : Ctx := mkC prog G0 [(108, .pure iT)]
@[simp] theorem Tp : CCm.P = prog := rfl
@[simp] theorem To : CCm.G = G0 := rfl
@[simp] theorem Tn : CCm.S 108 = .pure iT := rfl
theorem Lf : aB CCm := aH (zw) func108 (ax _ _)
def sF : PSp := aW (λ (_ : Nod) (_ : Int) => True) (λ nd n => .int .i64 (dx nd.id n))
theorem N7 : PureOK prog G0 107 sF := by
 refine db Lf mixed func107 rfl rfl rfl (by kernel_rfl) (by decide) (λ nd n _ => ?_)
 simp [ac, ag, ae, am, ap, aa, au, ab, ao, ak, ah, ai, aj, iT]
structure HsF where
instance : Enc HsF where
 sz := 1
 cells _ := [.fn 107 []]
 enc _ := .fn 107 []
 unc _ := ⟨⟩
 dec _ := ⟨⟩
 unc_cells _ := rfl
 dec_enc _ := rfl
@[simp] theorem Pw (u : HsF) : Enc.enc u = .fn 107 [] := rfl
def UpN (l : List Nod) : Prop := ∀ i j, i < j -> j < l.length -> (ix l i).id < (ix l j).id
def lbN (l : List Nod) (x : Int) : Nat := (l.takeWhile λ y => decide (y.id < x)).length
theorem yf : ∀ {l : List Nod} {x : Int} {d : Nat}, (∀ j, j < d -> (ix l j).id < x) -> d <= l.length -> (d < l.length -> ¬ (ix l d).id < x) -> lbN l x = d
 | [], x, d, _, hd, _ => by
  have : d = 0 := by simpa using hd
  subst this; rfl
 | y :: r, x, 0, _, _, h => by
  have h0 : ¬ y.id < x := h (by simp)
  unfold lbN
  rw [List.takeWhile_cons, if_neg (by simpa using h0)]
  rfl
 | y :: r, x, d + 1, h1, hd, h => by
  have h0 : y.id < x := h1 0 (by omega)
  have ih := yf (l := r) (x := x) (d := d) (λ j hj => h1 (j + 1) (by omega)) (by simpa using hd) (λ hd2 => h (by simpa using hd2))
  unfold lbN at ih ⊢
  rw [List.takeWhile_cons, if_pos (by simpa using h0), List.length_cons, ih]
def tH (l : List Nod) (x : Int) : Bool := decide (lbN l x < l.length) && decide ((ix l (lbN l x)).id = x)
theorem Gm {l : List Nod} (h : UpN l) {x : Int} (hx : ∃ nd ∈ l, nd.id = x) : tH l x = true := by
 obtain ⟨nd, hm, rfl⟩ := hx
 obtain ⟨j, hj, rfl⟩ := mem_iff_getElem.1 hm
 have e : ix l j = l[j] := bF hj
 have : lbN l (l[j]).id = j := yf (λ i hi => by rw [<- e]; exact h i j hi hj) (by omega) (λ _ => by rw [e]; omega)
 unfold tH
 rw [this, e]
 simp [hj]
noncomputable def CHx : Ctx := mkC prog G0 [(107, .pure sF)]
@[simp] theorem TO : CHx.P = prog := rfl
@[simp] theorem TN : CHx.G = G0 := rfl
@[simp] theorem TM : CHx.S 107 = .pure sF := rfl
theorem EI : aB CHx := aH (N7) func107 (ax _ _)
def Ak : PSp := eV (λ (l : List Nod) (_ : Int) (_ : HsF) => l.length <= 1000000 /\ UpN l) (λ l x _ => .tup [.int .i64 (lbN l x), .bool (tH l x)])
theorem Np : PureOK prog G0 106 Ak := by
 refine wJ EI mixed func106 rfl rfl rfl (by kernel_rfl) (by decide) (λ l x u hp => ?_)
 obtain ⟨hl, hu⟩ := hp
 simp [ac, ag, ae, am, ap, aa, au, ab, ao, ak, ah, ai, aj]
 refine aT EI mixed (λ q : Nat × Nat => ⟨[(0, Enc.enc l), (1, .int .i64 x), (2, .fn 107 []), (8, .int .i64 l.length), (9, .int .i64 q.1), (10, .int .i64 q.2)], []⟩)
  (λ q => q.1 <= q.2 /\ q.2 <= l.length /\ (∀ k, k < q.1 -> (ix l k).id < x) /\ ∀ k, q.2 <= k -> k < l.length -> ¬ (ix l k).id < x) (λ q => q.2 - q.1) (by kernel_rfl) ⟨(0, l.length), ⟨by simp, by simp, λ k hk => by simp at hk, λ k hk hk2 => by simp at hk; omega⟩, ar (by simp)⟩ ?_
 rintro ⟨i, j⟩ ⟨h1, h2, h3, h4⟩
 simp only at h1 h2 h3 h4 ⊢
 by_cases hij : i < j
 ·have i1 : I64 ((i : Int) + j) := by unfold I64; omega
  have u1 : IntKind.wrap .u64 ((i : Int) + j) = (i : Int) + j := by simp [IntKind.wrap, IntKind.bits, IntKind.signed]; omega
  obtain ⟨m, hm⟩ : ∃ m, m = (i + j) / 2 := ⟨_, rfl⟩
  have m1 : i <= m := by omega
  have m2 : m < j := by omega
  have hml : m < l.length := by omega
  have fd : ((i : Int) + j).fdiv (2 ^ min 1 IntKind.u64.bits) = (m : Int) := by
   have e : (2 : Int) ^ min 1 IntKind.u64.bits = 2 := rfl
   rw [e, fdiv_eq_ediv_of_nonneg _ (by omega)]; omega
  have i2 : I64 (m : Int) := by unfold I64; omega
  have i3 : I64 ((m : Int) + 1) := by unfold I64; omega
  have u2 : IntKind.wrap .i64 (m : Int) = (m : Int) := dd i2
  by_cases hlt : (ix l m).id < x
  ·have hc : dx (ix l m).id x < 0 := cmp3_neg.2 hlt
   simp [ac, ag, ae, am, ap, aa, au, ab, ao, ak, ah, ai, aj, hij, i1, u1, fd, u2, sF, hml, aw hml, hc, i3]
   exact ⟨m + 1, j, ⟨by omega, by omega, λ k hk => by
    rcases lt_or_eq_of_le (le_of_lt_succ hk) with h | rfl
    ·have := hu k m h hml; omega
    ·exact hlt, λ k hk hkl => by have := h4 k hk hkl; omega⟩, by omega, ar (by simp)⟩
  ·have hc : ¬ dx (ix l m).id x < 0 := λ h => hlt (cmp3_neg.1 h)
   simp [ac, ag, ae, am, ap, aa, au, ab, ao, ak, ah, ai, aj, hij, i1, u1, fd, u2, sF, hml, aw hml, hc, i3]
   exact ⟨i, m, ⟨by omega, by omega, h3, λ k hk hkl => by
    rcases lt_or_eq_of_le hk with h | rfl
    ·have := hu m k h hkl; omega
    ·omega⟩, by omega, ar (by simp)⟩
 ·have hb : lbN l x = i := yf h3 (by omega) (λ h => h4 i (by omega) h)
  by_cases hil : i < l.length
  ·have hf : tH l x = decide (dx (ix l i).id x = 0) := by unfold tH; rw [hb]; simp [hil, cmp3_zero]
   simp [ac, ag, ae, am, ap, aa, au, ab, ao, ak, ah, ai, aj, hij, sF, hil, aw hil, hb, hf]
  ·have hf : tH l x = false := by unfold tH; rw [hb]; simp [hil]
   simp [ac, ag, ae, am, ap, aa, au, ab, ao, ak, ah, ai, aj, hij, hil, hb, hf]
noncomputable def CBn : Ctx := mkC prog G0 [(106, .pure Ak)]
@[simp] theorem Td : CBn.P = prog := rfl
@[simp] theorem Tc : CBn.G = G0 := rfl
@[simp] theorem Tb : CBn.S 106 = .pure Ak := rfl
theorem Lb : aB CBn := aH (Np) func106 (ax _ _)
def ql : PSp := aW (λ (l : List Nod) (_ : Int) => l.length <= 1000000 /\ UpN l) (λ l x => .bool (tH l x))
theorem RR : PureOK prog G0 57 ql := by
 refine db Lb mixed func57 rfl rfl rfl (by kernel_rfl) (by decide) (λ l x hp => ?_)
 simp [ac, ag, ae, am, ap, aa, au, ab, ao, ak, ah, ai, aj, Ak, hp]
open Go.Shelf
def Tryz.laysGw15_ren : Go.Shelf.Ren := ⟨fun | 15 => 295 | 20 => 355 | n => n, fun | 9 => 9 | 23 => 366 | 3 => 3 | 4 => 4 | 0 => 0 | 21 => 21 | n => n, fun | n => n⟩
theorem Tryz.laysGw15 : Go.Proofs.LaysGw.n15 prog Tryz.laysGw15_ren := {
  mixed := by kernel_rfl
  f15 := func295.trans (congrArg some (by kernel_rfl))
  f20 := func355.trans (congrArg some (by kernel_rfl))
  t0 := Tryz.underlying0
  a0 := Tryz.isAgg0
  z0 := Tryz.sizeOf0
  v0 := Tryz.zeroValue0
  i0 := by kernel_rfl
  t3 := Tryz.underlying3
  a3 := Tryz.isAgg3
  z3 := Tryz.sizeOf3
  v3 := Tryz.zeroValue3
  i3 := by kernel_rfl
  t4 := Tryz.underlying4
  a4 := Tryz.isAgg4
  z4 := Tryz.sizeOf4
  v4 := Tryz.zeroValue4
  i4 := by kernel_rfl
  t9 := Tryz.underlying9
  a9 := Tryz.isAgg9
  z9 := Tryz.sizeOf9
  v9 := Tryz.zeroValue9
  i9 := by kernel_rfl
  t21 := Tryz.underlying21
  a21 := Tryz.isAgg21
  z21 := Tryz.sizeOf21
  v21 := Tryz.zeroValue21
  i21 := by kernel_rfl
  t23 := Tryz.underlying366
  a23 := Tryz.isAgg366
  z23 := Tryz.sizeOf366
  v23 := Tryz.zeroValue366
  i23 := by kernel_rfl }
open Go.RowKit Go.Lib in
theorem Tryz.strings_IndexFunc (g : Nat) (lb : Array Value) (eg : ∀ args w, (callFunc g args).run prog w = .ok (.enter g args) w) (p : Nat -> Bool) (s : ByteArray) (w : World) (hp : PredAt prog g lb encR p w) :
    Calls prog 295 #[.string s, .func (.func g) #[] lb] w fun e w' => e = .returned (.int .i64 (Lib.idxFunc p true s)) /\ Below w.heap.size w w' := Any.strings_IndexFunc Tryz.laysGw15 g lb eg p s w hp
end
end Go.Proofs.YtnbcneiicnepcaaGreatDoor