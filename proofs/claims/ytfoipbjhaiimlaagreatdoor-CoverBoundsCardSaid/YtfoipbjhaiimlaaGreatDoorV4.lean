/-
  Texts joined.
-/
import Derived.Test.YtfoipbjhaiimlaaGreatDoorV3
namespace Go.Proofs.YtfoipbjhaiimlaaGreatDoor
open Nat (add_mul div_div_eq_div_mul div_le_self div_one le_of_lt_succ lt_or_eq_of_le lt_or_ge mod_lt mul_le_mul mul_one pow_add pow_pos pow_succ pow_zero zero_le)
open Int (eq_ofNat_of_zero_le le_of_lt mul_neg natAbs_natCast natCast_ediv natCast_mul neg_mul neg_zero tmod_eq_emod_of_nonneg toNat_natCast toNat_of_nonneg)
open List (append_assoc drop_eq_getElem_cons drop_eq_nil_of_le length_drop length_take mem_cons mem_iff_getElem pairwise_cons)
open _root_.Go.Proofs.Tryz
noncomputable section
set_option maxHeartbeats 16000000
open Go.RowKit
set_option linter.unusedSimpArgs false
set_option linter.unusedVariables false
set_option maxRecDepth 100000
noncomputable def CD : Ctx := mkC prog G0 [(174, .pure y7)]
@[simp] theorem ZU : CD.P = prog := rfl
@[simp] theorem Zx : CD.G = G0 := rfl
@[simp] theorem ZM : CD.S 174 = .pure y7 := rfl
theorem HV : au CD := ap (TN) func174 (ak _ _)
def QOK (v u d q : Nat) : Prop := q = (u * 4294967296 + d) / v
structure Shifted (hi lo y s v u w : Nat) : Prop where
 hv : 9223372036854775808 <= v
 hv' : v < 18446744073709551616
 e1 : IntKind.wrap .u64 ((y : Int) * 2 ^ (min s (IntKind.bits .u64))) = (v : Int)
 e2 : iQ .or .u64 (IntKind.wrap .u64 ((hi : Int) * 2 ^ (min s (IntKind.bits .u64)))) ((lo : Int).fdiv (2 ^ (min (IntKind.wrap .u64 (64 - (s : Int))).toNat (IntKind.bits .u64)))) = (u : Int)
 e3 : IntKind.wrap .u64 ((lo : Int) * 2 ^ (min s (IntKind.bits .u64))) = (w : Int)
 e4 : 0 <= IntKind.wrap .u64 (64 - (s : Int))
 hu : u < v
 hw : w < 18446744073709551616
 quo : (hi * 18446744073709551616 + lo) / y = (u * 4294967296 + w / 4294967296) / v * 4294967296 + ((u * 4294967296 + w / 4294967296) % v * 4294967296 + w % 4294967296) / v
 rem : (((u * 4294967296 + w / 4294967296) % v * 4294967296 + w % 4294967296) % v : Nat) = (hi * 18446744073709551616 + lo) % y * 2 ^ s
 hs : s <= 63
theorem LE {hi lo y : Nat} (h1 : hi < y) (h2 : lo < 18446744073709551616) (h3 : y < 18446744073709551616) : ∃ v u w, Shifted hi lo y (64 - bl y) v u w := by
 have hy0 : y ≠ 0 := by omega
 have b1 := FE hy0
 have b2 := NC y
 have b3 := EO h3
 have b4 : 1 <= bl y := by unfold bl; rw [if_neg hy0]; omega
 obtain ⟨n, hn⟩ : ∃ n, bl y = n + 1 := ⟨bl y - 1, by omega⟩
 rw [hn] at b1 b2 b3 b4 ⊢
 rw [Nat.add_sub_cancel] at b1
 obtain ⟨s, hs⟩ : ∃ s, 64 - (n + 1) = s := ⟨_, rfl⟩
 rw [hs]
 have hsn : n + 1 + s = 64 := by omega
 have p2 : 2 ^ (n + 1) * 2 ^ s = 18446744073709551616 := by rw [<- pow_add, hsn]
 have p1 : 2 ^ n * 2 ^ s = 9223372036854775808 := by
  rw [pow_succ, Nat.mul_right_comm] at p2
  omega
 have ps := Nat.two_pow_pos s
 have v1 : 9223372036854775808 <= y * 2 ^ s := by rw [<- p1]; exact Nat.mul_le_mul_right _ b1
 have v2 : y * 2 ^ s < 18446744073709551616 := by rw [<- p2]; exact Nat.mul_lt_mul_of_pos_right b2 ps
 obtain ⟨v, U, rfl, rfl, q1, q2⟩ := Cl (X := hi * 18446744073709551616 + lo) (y := y) (s := s) (by omega)
 rw [show (hi * 18446744073709551616 + lo) * 2 ^ s % 4294967296 = (hi * 18446744073709551616 + lo) * 2 ^ s % 18446744073709551616 % 4294967296 by omega] at q1 q2
 have hh : (hi + 1) * 2 ^ s <= y * 2 ^ s := Nat.mul_le_mul_right _ h1
 rw [add_mul, Nat.one_mul] at hh
 have m0 : min s (IntKind.bits .u64) = s := by show min s 64 = s; omega
 have eU : (hi * 18446744073709551616 + lo) * 2 ^ s = hi * 2 ^ s * 18446744073709551616 + lo * 2 ^ s := by rw [add_mul]; congr 1; ac_rfl
 have w1 : IntKind.wrap .u64 (64 - (s : Int)) = ((64 - s : Nat) : Int) := by rw [IntKind.wrap_u64]; omega
 have lo1 : lo * 2 ^ s / 18446744073709551616 = lo / 2 ^ (64 - s) := by
  have : 18446744073709551616 = 2 ^ (64 - s) * 2 ^ s := by rw [<- pow_add]; rw [show 64 - s + s = 64 by omega]
  rw [this, Nat.mul_div_mul_right _ _ ps]
 have lo2 : lo / 2 ^ (64 - s) < 2 ^ s := by
  rw [Nat.div_lt_iff_lt_mul (Nat.two_pow_pos _), <- pow_add, show s + (64 - s) = 64 by omega]
  exact h2
 refine ⟨y * 2 ^ s, (hi * 18446744073709551616 + lo) * 2 ^ s / 18446744073709551616, (hi * 18446744073709551616 + lo) * 2 ^ s % 18446744073709551616, ⟨v1, v2, ?_, ?_, ?_, by omega, ?_, by omega, q1, q2.symm, by omega⟩⟩
 ·rw [m0, show (y : Int) * 2 ^ s = ((y * 2 ^ s : Nat) : Int) by simp, IntKind.wrap_u64]
  omega
 ·have m1 : min (IntKind.wrap .u64 (64 - (s : Int))).toNat (IntKind.bits .u64) = 64 - s := by rw [w1]; show min _ 64 = _; omega
  rw [m0, m1, show (hi : Int) * 2 ^ s = ((hi * 2 ^ s : Nat) : Int) by simp, gM _ (by omega), Int.fdiv_eq_ediv_of_nonneg _ (Int.pow_nonneg (by decide)), show (lo : Int) / 2 ^ (64 - s) = ((lo / 2 ^ (64 - s) : Nat) : Int) by simp]
  rw [PX ⟨by omega, by omega⟩ ⟨by omega, by omega⟩ s (by omega) (by
   rw [show ((2 : Int) ^ s) = ((2 ^ s : Nat) : Int) by simp]
   have : hi * 2 ^ s % 2 ^ s = 0 := Nat.mul_mod_left _ _
   omega) (by
   rw [show ((2 : Int) ^ s) = ((2 ^ s : Nat) : Int) by simp]
   omega)]
  rw [eU, Nat.add_comm, Nat.add_mul_div_right _ _ (by decide), lo1]
  omega
 ·rw [m0, show (lo : Int) * 2 ^ s = ((lo * 2 ^ s : Nat) : Int) by simp, IntKind.wrap_u64, eU, Nat.mul_add_mod_self_right]
  omega
 ·rw [eU, Nat.div_lt_iff_lt_mul (by decide)]
  have : lo * 2 ^ s < 18446744073709551616 * 2 ^ s := Nat.mul_lt_mul_of_pos_right h2 ps
  have e3 : (hi * 2 ^ s + 2 ^ s) * 18446744073709551616 <= y * 2 ^ s * 18446744073709551616 := Nat.mul_le_mul_right _ hh
  rw [add_mul] at e3
  omega
def mn : List AV -> Option (Prop × AV)
 | [.int .u64 hi, .int .u64 lo, .int .u64 y] => some (0 <= hi /\ hi < y /\ W64 lo /\ y < 18446744073709551616, .tup [.int .u64 ((hi * 18446744073709551616 + lo) / y), .int .u64 ((hi * 18446744073709551616 + lo) % y)])
 | _ => none
theorem Pk : PureOK prog G0 173 mn := by
 refine eK HV ae func173 rfl rfl rfl (by kernel_rfl) (λ avs ob r hp hob => ?_)
 unfold mn at hp
 split at hp
 case h_2 => cases hp
 rename_i hi lo y
 injection hp with hp; injection hp with e1 e2; subst e1 e2
 obtain ⟨i0, i1, ⟨l0, l1⟩, y1⟩ := hob
 obtain ⟨hi, rfl⟩ := eq_ofNat_of_zero_le i0
 obtain ⟨lo, rfl⟩ := eq_ofNat_of_zero_le l0
 obtain ⟨y, rfl⟩ := eq_ofNat_of_zero_le (a := y) (by omega)
 refine ⟨(by show 3 <= _; decide), ?_⟩
 have n1 : ¬ y = 0 := by omega
 have n2 : ¬ (y : Int) <= hi := by omega
 by_cases h0 : hi = 0
 ·subst h0
  have q1 : ((lo : Int)).tdiv y = (lo : Int) / y := Int.tdiv_eq_ediv_of_nonneg (by omega)
  have q2 : ((lo : Int)).tmod y = (lo : Int) % y := tmod_eq_emod_of_nonneg (by omega)
  have q3 : IntKind.wrap .u64 ((lo : Int) / y) = (lo : Int) / y := by
   have : ((lo / y : Nat) : Int) = (lo : Int) / y := natCast_ediv _ _
   have h := div_le_self lo y
   rw [<- this, gM _ (by omega)]
  have n3 : 0 < y := by omega
  simp [argsρ, n1, n2, q1, q2, q3, n3]
 obtain ⟨v, u, w, S⟩ := LE (hi := hi) (lo := lo) (y := y) (by omega) (by omega) (by omega)
 have wy : W64 (y : Int) := ⟨by omega, y1⟩
 have w1 : IntKind.wrap .u64 (((64 - bl y : Nat) : Int)) = ((64 - bl y : Nat) : Int) := gM _ (by omega)
 have E1 := S.e1
 have E2 := S.e2
 have E3 := S.e3
 have E4 := S.e4
 generalize hs : 64 - bl y = s at *
 have hv := S.hv
 have hv' := S.hv'
 have hu := S.hu
 have hw := S.hw
 have a1 := uk v hv'
 have a2 := uk w hw
 have f1 := QL v
 have f2 := QL w
 obtain ⟨d1, hd1⟩ : ∃ d, w / 4294967296 = d := ⟨_, rfl⟩
 obtain ⟨d0, hd0⟩ : ∃ d, w % 4294967296 = d := ⟨_, rfl⟩
 obtain ⟨b1, hb1⟩ : ∃ d, v / 4294967296 = d := ⟨_, rfl⟩
 obtain ⟨b0, hb0⟩ : ∃ d, v % 4294967296 = d := ⟨_, rfl⟩
 rw [hd1] at f2
 rw [hd0] at a2
 rw [hb1] at f1
 rw [hb0] at a1
 have hd1' : d1 < 4294967296 := by omega
 have hd0' : d0 < 4294967296 := by omega
 have hb0' : b0 < 4294967296 := by omega
 have b1n : ¬ b1 = 0 := by omega
 have HsA := vE (d := d1) hv hv' hu hd1'
 have cA1 : IntKind.wrap .u64 ((u : Int) / b1) = ((u / b1 : Nat) : Int) := by
  rw [<- natCast_ediv]
  have := div_le_self u b1
  exact gM _ (by omega)
 have mA := Nat.div_mul_le_self u b1
 rw [hb1] at HsA
 obtain ⟨qA, hqA⟩ : ∃ q, u / b1 = q := ⟨_, rfl⟩
 rw [hqA] at HsA cA1 mA
 have cA2 : IntKind.wrap .u64 ((u : Int) - IntKind.wrap .u64 ((qA : Int) * b1)) = ((u - qA * b1 : Nat) : Int) := by
  rw [<- natCast_mul, gM _ (by omega), gX]
  omega
 obtain ⟨rA, hrA⟩ : ∃ r, u - qA * b1 = r := ⟨_, rfl⟩
 rw [hrA] at HsA cA2
 simp [argsρ, n1, n2, h0, y7, wy, hs, w1, E1, E2, E3, E4, a1, a2, f1, f2, cA1, cA2, b1n]
 refine Ae HV ae 0 (λ p : Nat × Nat => ⟨[(2, .int .u64 v), (6, .int .u64 0), (7, .int .u64 0), (8, .int .u64 s), (9, .int .u64 b1), (10, .int .u64 b0), (11, .int .u64 u), (12, .int .u64 w), (13, .int .u64 d1), (14, .int .u64 d0), (15, .int .u64 p.1), (16, .int .u64 p.2)], []⟩) (λ p => QOK v u d1 p.1) (λ p : Nat × Nat => ⟨[(2, .int .u64 v), (6, .int .u64 0), (7, .int .u64 0), (8, .int .u64 s), (9, .int .u64 b1), (10, .int .u64 b0), (11, .int .u64 u), (12, .int .u64 w), (13, .int .u64 d1), (14, .int .u64 d0), (15, .int .u64 p.1), (16, .int .u64 p.2)], []⟩) (λ p => DigOK v u d1 p.1 p.2) (λ p => p.1) (by kernel_rfl) ⟨(qA, rA), HsA, ah (by simp)⟩ (λ ⟨q, r⟩ H => ?_) (λ ⟨q, r⟩ H => ?_)
 ·simp only at H ⊢
  have hn := H.near
  have hr := H.small
  have k1 : IntKind.wrap .u64 (4294967296 * (r : Int)) = ((4294967296 * r : Nat) : Int) := by rw [gX]; omega
  have k2 : IntKind.wrap .u64 (((4294967296 * r : Nat) : Int) + d1) = ((4294967296 * r + d1 : Nat) : Int) := by rw [gX]; omega
  have step : (4294967296 <= q ∨ 4294967296 * r + d1 < q * b0) -> IntKind.wrap .u64 ((q : Int) - 1) = ((q - 1 : Nat) : Int) /\ IntKind.wrap .u64 ((r : Int) + b1) = ((r + b1 : Nat) : Int) /\ q - 1 < q /\ (r + b1 < 4294967296 -> DigOK v u d1 (q - 1) (r + b1)) /\ (4294967296 <= r + b1 -> q - 1 = (u * 4294967296 + d1) / v) := λ h => by
   have := Bz hv hv' hu hd1' H (by rw [hb0]; exact h)
   rw [hb1] at this
   refine ⟨by rw [gX]; omega, by rw [gX]; omega, by omega, this.2.2.1, this.2.2.2⟩
  by_cases t1 : 4294967296 <= q
  ·obtain ⟨s1, s2, s5, s3, s4⟩ := step (.inl t1)
   generalize q - 1 = q' at s1 s3 s4 s5
   generalize r + b1 = r' at s2 s3 s4
   have t1' : (4294967296 : Int) <= q := by omega
   by_cases t2 : 4294967296 <= r'
   ·have t2' : (4294967296 : Int) <= r' := by omega
    simp [t1', s1, s2, t2']
    exact ⟨q', s4 t2, r', ah (by simp)⟩
   ·have t2' : ¬ (4294967296 : Int) <= r' := by omega
    simp [t1', s1, s2, t2']
    exact ⟨q', r', s3 (by omega), s5, ah (by simp)⟩
  ·have t1' : ¬ (4294967296 : Int) <= q := by omega
   have qb : q * b0 < 18446744073709551616 := Nat.lt_of_le_of_lt (mul_le_mul (n₂ := 4294967295) (m₂ := 4294967295) (by omega) (by omega)) (by decide)
   have k3 : IntKind.wrap .u64 ((q : Int) * b0) = ((q * b0 : Nat) : Int) := by rw [<- natCast_mul]; exact gM _ qb
   obtain ⟨x1, hx1⟩ : ∃ x, 4294967296 * r = x := ⟨_, rfl⟩
   obtain ⟨x2, hx2⟩ : ∃ x, x1 + d1 = x := ⟨_, rfl⟩
   obtain ⟨x3, hx3⟩ : ∃ x, q * b0 = x := ⟨_, rfl⟩
   rw [hx1] at k1 k2 step
   rw [hx2] at k2 step
   rw [hx3] at k3 step
   by_cases t3 : x2 < x3
   ·obtain ⟨s1, s2, s5, s3, s4⟩ := step (.inr t3)
    generalize q - 1 = q' at s1 s3 s4 s5
    generalize r + b1 = r' at s2 s3 s4
    by_cases t2 : 4294967296 <= r'
    ·have t2' : (4294967296 : Int) <= r' := by omega
     simp [t1', k1, k2, k3, t3, s1, s2, t2']
     exact ⟨q', s4 t2, r', ah (by simp)⟩
    ·have t2' : ¬ (4294967296 : Int) <= r' := by omega
     simp [t1', k1, k2, k3, t3, s1, s2, t2']
     exact ⟨q', r', s3 (by omega), s5, ah (by simp)⟩
   ·simp [t1', k1, k2, k3, t3]
    exact ⟨q, BB (by omega) H (by rw [hb0]; omega), r, ah (by simp)⟩
 ·simp only at H ⊢
  have g1 := EY (u := u) (d := d1) (by omega : 0 < v) hv'
  have hu1 := mod_lt (u * 4294967296 + d1) (by omega : 0 < v)
  have Q := S.quo
  have R := S.rem
  rw [hd1, hd0] at Q R
  unfold QOK at H
  rw [<- H] at g1 Q
  obtain ⟨u1, hu1e⟩ : ∃ x, (u * 4294967296 + d1) % v = x := ⟨_, rfl⟩
  rw [hu1e] at g1 hu1 Q R
  have HsB := vE (d := d0) hv hv' hu1 hd0'
  have cB1 : IntKind.wrap .u64 ((u1 : Int) / b1) = ((u1 / b1 : Nat) : Int) := by
   rw [<- natCast_ediv]
   have := div_le_self u1 b1
   exact gM _ (by omega)
  have mB := Nat.div_mul_le_self u1 b1
  rw [hb1] at HsB
  obtain ⟨qB, hqB⟩ : ∃ q, u1 / b1 = q := ⟨_, rfl⟩
  rw [hqB] at HsB cB1 mB
  have cB2 : IntKind.wrap .u64 ((u1 : Int) - IntKind.wrap .u64 ((qB : Int) * b1)) = ((u1 - qB * b1 : Nat) : Int) := by
   rw [<- natCast_mul, gM _ (by omega), gX]
   omega
  obtain ⟨rB, hrB⟩ : ∃ r, u1 - qB * b1 = r := ⟨_, rfl⟩
  rw [hrB] at HsB cB2
  simp [g1, cB1, cB2, b1n]
  refine Ae HV ae 2 (λ p : Nat × Nat => ⟨[(2, .int .u64 v), (6, .int .u64 0), (7, .int .u64 0), (8, .int .u64 s), (9, .int .u64 b1), (10, .int .u64 b0), (11, .int .u64 u), (12, .int .u64 w), (13, .int .u64 d1), (14, .int .u64 d0), (15, .int .u64 q), (17, .int .u64 u1), (18, .int .u64 p.1), (16, .int .u64 p.2)], []⟩) (λ p => QOK v u1 d0 p.1) (λ p : Nat × Nat => ⟨[(2, .int .u64 v), (6, .int .u64 0), (7, .int .u64 0), (8, .int .u64 s), (9, .int .u64 b1), (10, .int .u64 b0), (11, .int .u64 u), (12, .int .u64 w), (13, .int .u64 d1), (14, .int .u64 d0), (15, .int .u64 q), (17, .int .u64 u1), (18, .int .u64 p.1), (16, .int .u64 p.2)], []⟩) (λ p => DigOK v u1 d0 p.1 p.2) (λ p => p.1) (by kernel_rfl) ⟨(qB, rB), HsB, ah (by simp)⟩ (λ ⟨q, r⟩ H => ?_) (λ ⟨q2, r2⟩ H2 => ?_)
  ·simp only at H ⊢
   have hn := H.near
   have hr := H.small
   have k1 : IntKind.wrap .u64 (4294967296 * (r : Int)) = ((4294967296 * r : Nat) : Int) := by rw [gX]; omega
   have k2 : IntKind.wrap .u64 (((4294967296 * r : Nat) : Int) + d0) = ((4294967296 * r + d0 : Nat) : Int) := by rw [gX]; omega
   have step : (4294967296 <= q ∨ 4294967296 * r + d0 < q * b0) -> IntKind.wrap .u64 ((q : Int) - 1) = ((q - 1 : Nat) : Int) /\ IntKind.wrap .u64 ((r : Int) + b1) = ((r + b1 : Nat) : Int) /\ q - 1 < q /\ (r + b1 < 4294967296 -> DigOK v u1 d0 (q - 1) (r + b1)) /\ (4294967296 <= r + b1 -> q - 1 = (u1 * 4294967296 + d0) / v) := λ h => by
    have := Bz hv hv' hu1 hd0' H (by rw [hb0]; exact h)
    rw [hb1] at this
    refine ⟨by rw [gX]; omega, by rw [gX]; omega, by omega, this.2.2.1, this.2.2.2⟩
   by_cases t1 : 4294967296 <= q
   ·obtain ⟨s1, s2, s5, s3, s4⟩ := step (.inl t1)
    generalize q - 1 = q' at s1 s3 s4 s5
    generalize r + b1 = r' at s2 s3 s4
    have t1' : (4294967296 : Int) <= q := by omega
    by_cases t2 : 4294967296 <= r'
    ·have t2' : (4294967296 : Int) <= r' := by omega
     simp [t1', s1, s2, t2']
     exact ⟨q', s4 t2, r', ah (by simp)⟩
    ·have t2' : ¬ (4294967296 : Int) <= r' := by omega
     simp [t1', s1, s2, t2']
     exact ⟨q', r', s3 (by omega), s5, ah (by simp)⟩
   ·have t1' : ¬ (4294967296 : Int) <= q := by omega
    have qb : q * b0 < 18446744073709551616 := Nat.lt_of_le_of_lt (mul_le_mul (n₂ := 4294967295) (m₂ := 4294967295) (by omega) (by omega)) (by decide)
    have k3 : IntKind.wrap .u64 ((q : Int) * b0) = ((q * b0 : Nat) : Int) := by rw [<- natCast_mul]; exact gM _ qb
    obtain ⟨x1, hx1⟩ : ∃ x, 4294967296 * r = x := ⟨_, rfl⟩
    obtain ⟨x2, hx2⟩ : ∃ x, x1 + d0 = x := ⟨_, rfl⟩
    obtain ⟨x3, hx3⟩ : ∃ x, q * b0 = x := ⟨_, rfl⟩
    rw [hx1] at k1 k2 step
    rw [hx2] at k2 step
    rw [hx3] at k3 step
    by_cases t3 : x2 < x3
    ·obtain ⟨s1, s2, s5, s3, s4⟩ := step (.inr t3)
     generalize q - 1 = q' at s1 s3 s4 s5
     generalize r + b1 = r' at s2 s3 s4
     by_cases t2 : 4294967296 <= r'
     ·have t2' : (4294967296 : Int) <= r' := by omega
      simp [t1', k1, k2, k3, t3, s1, s2, t2']
      exact ⟨q', s4 t2, r', ah (by simp)⟩
     ·have t2' : ¬ (4294967296 : Int) <= r' := by omega
      simp [t1', k1, k2, k3, t3, s1, s2, t2']
      exact ⟨q', r', s3 (by omega), s5, ah (by simp)⟩
    ·simp [t1', k1, k2, k3, t3]
     exact ⟨q, BB (by omega) H (by rw [hb0]; omega), r, ah (by simp)⟩
  ·simp only at H2 ⊢
   have z2 := EY (u := u1) (d := d0) (by omega : 0 < v) hv'
   unfold QOK at H2
   rw [<- H2] at z2 Q
   rw [R] at z2
   have hq1 : q < 4294967296 := by rw [H]; exact qw (by omega) hu hd1'
   have hq2 : q2 < 4294967296 := by rw [H2]; exact qw (by omega) hu1 hd0'
   have z1 : IntKind.wrap .u64 (IntKind.wrap .u64 ((q : Int) * 4294967296) + q2) = ((hi : Int) * 18446744073709551616 + lo) / y := by
    have e : (((hi * 18446744073709551616 + lo) / y : Nat) : Int) = ((hi : Int) * 18446744073709551616 + lo) / y := by simp
    rw [<- e, Q, gX, gX]
    omega
   have z3 : (((hi * 18446744073709551616 + lo) % y * 2 ^ s : Nat) : Int).fdiv (2 ^ min s (IntKind.bits .u64)) = ((hi : Int) * 18446744073709551616 + lo) % y := by
    have e : (((hi * 18446744073709551616 + lo) % y : Nat) : Int) = ((hi : Int) * 18446744073709551616 + lo) % y := by simp
    have m0 : min s (IntKind.bits .u64) = s := by have := S.hs; show min s 64 = s; omega
    rw [m0, <- e, natCast_mul, Int.fdiv_eq_ediv_of_nonneg _ (Int.pow_nonneg (by decide)), show (((2 ^ s : Nat)) : Int) = (2 : Int) ^ s by simp, Int.mul_ediv_cancel]
    have := Nat.two_pow_pos s
    have e2 : ((2 ^ s : Nat) : Int) = (2 : Int) ^ s := by simp
    omega
   generalize ((hi * 18446744073709551616 + lo) % y * 2 ^ s : Nat) = z at z2 z3
   simp [z1, z2, z3]
noncomputable def CM1 : Ctx := mkC prog G0 [(173, .pure mn)]
@[simp] theorem Yw : CM1.P = prog := rfl
@[simp] theorem XB : CM1.G = G0 := rfl
@[simp] theorem Xp : CM1.S 173 = .pure mn := rfl
theorem I3 : au CM1 := ap (Pk) func173 (ak _ _)
theorem Fm {x : Wide} (g : GoodW x) : (bU x : Int) = x.hi * 18446744073709551616 + x.lo := by
 have := g.hi.1
 have := g.lo.1
 unfold bU
 omega
def uP : List AV -> Option (Prop × AV)
 | [.agg [.bool n, .int .u64 h, .int .u64 l], .int .u64 m] => some (GoodW ⟨n, h, l⟩ /\ 0 < m /\ m < 18446744073709551616, .int .u64 ((bU ⟨n, h, l⟩ : Int) % m))
 | _ => none
theorem SW : PureOK prog G0 167 uP := by
 refine eK I3 ae func167 rfl rfl rfl (by kernel_rfl) (λ avs ob r hp hob => ?_)
 unfold uP at hp
 split at hp
 case h_2 => cases hp
 rename_i n h l m
 injection hp with hp; injection hp with e1 e2; subst e1 e2
 obtain ⟨g, m0, m1⟩ := hob
 have e := Fm g
 obtain ⟨⟨h0, h1⟩, ⟨l0, l1⟩⟩ := g
 simp only at h0 h1 l0 l1 e
 refine ⟨(by show 2 <= _; decide), ?_⟩
 have t1 : h.tmod m = h % m := tmod_eq_emod_of_nonneg h0
 have t2 := Int.emod_nonneg h (show m ≠ 0 by omega)
 have t3 := Int.emod_lt_of_pos h m0
 have t4 : ¬ m = 0 := by omega
 have e2 : (h % m * 18446744073709551616 + l) % m = (h * 18446744073709551616 + l) % m := by
  rw [Int.add_emod, Int.mul_emod, Int.emod_emod_of_dvd _ (Int.dvd_refl m), <- Int.mul_emod, <- Int.add_emod]
 simp [argsρ, mn, t1, t2, t3, t4, W64, l0, l1, m1, e, e2]
def rp (x : Wide) (m : Int) : Int × Bool := if InR ((bU x : Int) / m) then (if x.neg then -((bU x : Int) / m) else (bU x : Int) / m, true) else (0, false)
def nP : List AV -> Option (Prop × AV)
 | [.agg [.bool n, .int .u64 h, .int .u64 l], .int .u64 m] => some (GoodW ⟨n, h, l⟩ /\ 0 < m /\ m <= 1000000000000000, .tup [.int .i64 (rp ⟨n, h, l⟩ m).1, .bool (rp ⟨n, h, l⟩ m).2])
 | _ => none
theorem P8 : PureOK prog G0 168 nP := by
 refine eK I3 ae func168 rfl rfl rfl (by kernel_rfl) (λ avs ob r hp hob => ?_)
 unfold nP at hp
 split at hp
 case h_2 => cases hp
 rename_i n h l m
 injection hp with hp; injection hp with e1 e2; subst e1 e2
 obtain ⟨g, m0, m1⟩ := hob
 have e := Fm g
 obtain ⟨⟨h0, h1⟩, ⟨l0, l1⟩⟩ := g
 simp only at h0 h1 l0 l1 e
 refine ⟨(by show 2 <= _; decide), ?_⟩
 unfold rp
 rw [e]
 by_cases hm : m <= h
 ·have big : 18446744073709551616 <= (h * 18446744073709551616 + l) / m := by
   rw [Int.le_ediv_iff_mul_le m0]
   omega
  have no : ¬ InR ((h * 18446744073709551616 + l) / m) := by unfold InR; omega
  simp [argsρ, hm, no]
 have m2 : m < 18446744073709551616 := by omega
 have hm' : h < m := by omega
 have q0 : 0 <= (h * 18446744073709551616 + l) / m := Int.ediv_nonneg (by omega) (by omega)
 obtain ⟨q, hqe⟩ : ∃ q, (h * 18446744073709551616 + l) / m = q := ⟨_, rfl⟩
 rw [hqe] at q0 ⊢
 by_cases hq : 1000000000000000 < q
 ·have no : ¬ InR q := by unfold InR; omega
  simp [argsρ, mn, hm, hm', hq, no, W64, l0, l1, m2, h0, hqe]
 ·have yes : InR q := by unfold InR; omega
  have w1 : IntKind.wrap .i64 q = q := IntWalk.i64_in _ (by omega)
  have w2 : IntKind.wrap .i64 (-q) = -q := IntWalk.i64_in _ (by omega)
  cases n
  ·simp [argsρ, mn, hm, hm', hq, yes, W64, l0, l1, m2, h0, w1, w2, hqe]
  ·simp [argsρ, mn, hm, hm', hq, yes, W64, l0, l1, m2, h0, w1, w2, hqe]
def ax : PSp := aN (λ (_ : Fr) => True) (λ a => .bool (decide (aj a)))
noncomputable def CV : Ctx := mkC prog G0 [(95, .pure sIn), (96, .pure ld)]
@[simp] theorem Zy : CV.P = prog := rfl
@[simp] theorem ZE : CV.G = G0 := rfl
@[simp] theorem ZH : CV.S 95 = .pure sIn /\ CV.S 96 = .pure ld := ⟨rfl, rfl⟩
theorem Tk : au CV := ap (inP) func95 (ap (SY) func96 (ak _ _))
theorem py {a b : Int} (ha : InR a) (hb : InR b) : Hz a b = Int.gcd a b := if_pos ⟨ha, hb⟩
theorem sP : PureOK prog G0 55 ax := by
 refine bj Tk ae func55 rfl rfl rfl (by kernel_rfl) (by decide) (λ a _ => ?_)
 obtain ⟨n, d⟩ := a
 by_cases h1 : 1 <= d
 case neg => simp [sIn, ld, h1, aj]
 by_cases h2 : d <= 1000000000000000
 case neg => simp [sIn, ld, h1, h2, aj]
 by_cases h3 : InR n
 case neg => simp [sIn, ld, h1, h2, h3, aj]
 have e := py h3 (show InR d by unfold InR; omega)
 have e2 : ((Int.gcd n d : Nat) : Int) = 1 ↔ Int.gcd n d = 1 := by omega
 simp [sIn, ld, h1, h2, h3, aj, e, e2]
noncomputable def CFr : Ctx := mkC prog G0 [(55, .pure ax), (96, .pure ld), (162, .pure pO), (164, .pure kj), (165, .pure kF), (166, .pure gf), (167, .pure uP), (168, .pure nP)]
@[simp] theorem YC : CFr.P = prog := rfl
@[simp] theorem Xg : CFr.G = G0 := rfl
@[simp] theorem Y0 : CFr.S 55 = .pure ax /\ CFr.S 96 = .pure ld /\ CFr.S 162 = .pure pO /\ CFr.S 164 = .pure kj /\ CFr.S 165 = .pure kF /\ CFr.S 166 = .pure gf /\ CFr.S 167 = .pure uP /\ CFr.S 168 = .pure nP := ⟨rfl, rfl, rfl, rfl, rfl, rfl, rfl, rfl⟩
theorem qi : au CFr := ap (sP) func55 (ap (SY) func96 (ap (So) func162 (ap (NX) func164 (ap (N4) func165 (ap (IV) func166 (ap (SW) func167 (ap (P8) func168 (ak _ _))))))))
theorem oq {n g : Int} (h : InR n) (hg : 0 < g) : InR (n.tdiv g) /\ IntKind.wrap .i64 (n.tdiv g) = n.tdiv g := by
 have h1 : (n.tdiv g).natAbs <= n.natAbs := by rw [Int.natAbs_tdiv]; exact div_le_self _ _
 unfold InR at h
 have : InR (n.tdiv g) := by unfold InR; omega
 refine ⟨this, IntWalk.i64_in _ ?_⟩
 unfold InR at this
 omega
def iR : PSp := aC (λ (_ _ : Fr) => True) (λ a b => .tup [Enc.enc (lC a b).1, .bool (lC a b).2])
theorem sA {a b : Fr} (h : ¬ (aj a /\ aj b)) : lC a b = (F00, false) := if_neg h
theorem vg {a b : Int} (ha : InR a) (hb : InR b) (h0 : b ≠ 0) : 0 < Int.gcd a b /\ InR (Int.gcd a b) := by
 have h1 := Int.gcd_pos_of_ne_zero_right a h0
 have h2 := Int.gcd_le_natAbs_right a h0
 unfold InR at *
 omega
theorem MU {a b : Int} {c d : Int} (h1 : InR a) (h2 : InR b) (h3 : InR c) (h4 : InR d) : mo (a * b) (c * d) = if (nO a b).2 = true /\ (nO c d).2 = true then (⟨(nO a b).1, (nO c d).1⟩, true) else (F00, false) := by
 unfold mo nO
 by_cases h5 : InR (a * b) <;> by_cases h6 : InR (c * d) <;> simp [h1, h2, h3, h4, h5, h6]
theorem OQ : PureOK prog G0 149 iR := by
 refine aX qi ae func149 rfl rfl rfl (by kernel_rfl) (by decide) (λ a b _ => ?_)
 by_cases ha : aj a
 case neg =>
  have e := sA (a := a) (b := b) (λ h => ha h.1)
  simp [ax, ha, e, F00]
 by_cases hb : aj b
 case neg =>
  have e := sA (a := a) (b := b) (λ h => hb h.2)
  simp [ax, ha, hb, e, F00]
 have e := wU ha hb
 have ha' := ha
 have hb' := hb
 obtain ⟨a1, a2, a3, a4⟩ := ha'
 obtain ⟨b1, b2, b3, b4⟩ := hb'
 have a5 : InR a.D := by unfold InR; omega
 have b5 : InR b.D := by unfold InR; omega
 obtain ⟨g0, g1⟩ := vg a3 b5 (by omega)
 obtain ⟨h0, h1⟩ := vg b3 a5 (by omega)
 have i1 := py a3 b5
 have i2 := py b3 a5
 generalize Int.gcd a.N b.D = g at *
 generalize Int.gcd b.N a.D = h at *
 obtain ⟨p1, q1⟩ := oq a3 (g := g) (by omega)
 obtain ⟨p2, q2⟩ := oq b3 (g := h) (by omega)
 obtain ⟨p3, q3⟩ := oq a5 (g := h) (by omega)
 obtain ⟨p4, q4⟩ := oq b5 (g := g) (by omega)
 rw [MU p1 p2 p3 p4] at e
 have g2 : ¬ g = 0 := by omega
 have h2 : ¬ h = 0 := by omega
 have q1 : w64 _ = _ := q1
 have q2 : w64 _ = _ := q2
 have q3 : w64 _ = _ := q3
 have q4 : w64 _ = _ := q4
 obtain ⟨n1, f1, e1⟩ : ∃ n f, nO (a.N.tdiv g) (b.N.tdiv h) = (n, f) := ⟨_, _, rfl⟩
 obtain ⟨n2, f2, e2⟩ : ∃ n f, nO (a.D.tdiv h) (b.D.tdiv g) = (n, f) := ⟨_, _, rfl⟩
 rw [e1, e2] at e
 simp only at e
 cases f1
 ·simp [ax, ld, pO, ha, hb, i1, i2, q1, q2, q3, q4, g2, h2, e1, e2, e, F00]
 ·cases f2
  ·simp [ax, ld, pO, ha, hb, i1, i2, q1, q2, q3, q4, g2, h2, e1, e2, e, F00]
  ·simp [ax, ld, pO, ha, hb, i1, i2, q1, q2, q3, q4, g2, h2, e1, e2, e, F00]
theorem pS {α β : Type} (x : α × β) : ∃ a b, x = (a, b) := ⟨x.1, x.2, rfl⟩
theorem Ki {x y : Wide} (gx : GoodW x) (gy : GoodW y) : ((if (gN x y).neg then -(bU (gN x y) : Int) else bU (gN x y)) : Int) = (if x.neg then -(bU x : Int) else bU x) + (if y.neg then -(bU y : Int) else bU y) := by
 unfold gN
 cases hx : x.neg <;> cases hy : y.neg <;> simp
 ·split <;> simp <;> omega
 ·split <;> simp <;> omega
 ·omega
def Mw (x : Wide) : Int := if x.neg then -(bU x : Int) else bU x
theorem AT {a b : Int} : Mw (dB a b) = a * b := by
 unfold Mw dB
 rw [DE, Qk, natCast_mul]
 by_cases ha : a < 0 <;> by_cases hb : b < 0
 ·have e1 : (a.natAbs : Int) = -a := by omega
  have e2 : (b.natAbs : Int) = -b := by omega
  simp [ha, hb, e1, e2, neg_mul, mul_neg]
 ·have e1 : (a.natAbs : Int) = -a := by omega
  have e2 : (b.natAbs : Int) = b := by omega
  simp [ha, hb, e1, e2, neg_mul, mul_neg]
 ·have e1 : (a.natAbs : Int) = a := by omega
  have e2 : (b.natAbs : Int) = -b := by omega
  simp [ha, hb, e1, e2, neg_mul, mul_neg]
 ·have e1 : (a.natAbs : Int) = a := by omega
  have e2 : (b.natAbs : Int) = b := by omega
  simp [ha, hb, e1, e2, neg_mul, mul_neg]
theorem Gp {x y : Wide} (gx : GoodW x) (gy : GoodW y) (hx : bU x <= 10000000000000000000000000000000) (hy : bU y <= 10000000000000000000000000000000) : GoodW (gN x y) := by
 unfold gN
 split
 ·exact sD (by omega)
 ·split
  ·exact sD (by omega)
  ·exact sD (by omega)
structure SumW (T : Wide) (t : Int) : Prop where
 good : GoodW T
 mag : bU T = t.natAbs
 val : T.neg = true -> t <= 0
 val' : T.neg = false -> 0 <= t
theorem SL {a b c d : Int} (ha : InR a) (hb : InR b) (hc : InR c) (hd : InR d) : SumW (gN (dB a b) (dB c d)) (a * b + c * d) := by
 have g1 := iH ha hb
 have g2 := iH hc hd
 have m1 : bU (dB a b) = a.natAbs * b.natAbs := DE _ _
 have m2 : bU (dB c d) = c.natAbs * d.natAbs := DE _ _
 have b1 := oi ha hb
 have b2 := oi hc hd
 have v1 := AT (a := a) (b := b)
 have v2 := AT (a := c) (b := d)
 have v := Ki g1 g2
 have e1 : Mw (dB a b) = if (dB a b).neg = true then -(bU (dB a b) : Int) else bU (dB a b) := rfl
 have e2 : Mw (dB c d) = if (dB c d).neg = true then -(bU (dB c d) : Int) else bU (dB c d) := rfl
 rw [<- e1, <- e2, v1, v2] at v
 have g3 := Gp g1 g2 (by omega) (by omega)
 generalize gN (dB a b) (dB c d) = T at *
 generalize a * b + c * d = t at *
 refine ⟨g3, ?_, λ h => ?_, λ h => ?_⟩
 ·cases h : T.neg <;> rw [h] at v <;> simp at v <;> omega
 ·rw [h] at v; simp at v; omega
 ·rw [h] at v; simp at v; omega
theorem rr (t : Int) (g : Nat) : Int.gcd ((t.natAbs : Int) % (g : Int)) g = Int.gcd t g := by
 have e : ((t.natAbs : Int) % (g : Int)) = ((t.natAbs % g : Nat) : Int) := by simp
 rw [e]
 unfold Int.gcd
 rw [natAbs_natCast, natAbs_natCast, Nat.gcd_comm t.natAbs, Nat.gcd_rec g t.natAbs]
theorem IP {t : Int} (h : t <= 0) {m : Nat} (hm : 0 < m) : t.tdiv m <= 0 := by
 have h1 : (-t).tdiv m = -(t.tdiv m) := Int.neg_tdiv _ _
 have h2 := Int.tdiv_nonneg (a := -t) (b := m) (by omega) (by omega)
 omega
theorem Ie {T : Wide} {t : Int} (h : SumW T t) {m : Nat} (hm : 0 < m) : rp T m = if InR (t.tdiv m) then (t.tdiv m, true) else (0, false) := by
 unfold rp
 rw [h.mag]
 have e : ((t.natAbs : Int) / (m : Int)) = ((t.tdiv m).natAbs : Int) := by
  rw [Int.natAbs_tdiv, natAbs_natCast]
  exact (natCast_ediv _ _).symm
 rw [e]
 have hR : InR ((t.tdiv m).natAbs : Int) ↔ InR (t.tdiv m) := by unfold InR; omega
 by_cases hr : InR (t.tdiv m)
 ·rw [if_pos (hR.2 hr), if_pos hr]
  cases hn : T.neg with
  | true =>
   have e2 := IP (h.val hn) hm
   simp only [if_true]
   rw [show -((t.tdiv m).natAbs : Int) = t.tdiv m by omega]
  | false =>
   have : 0 <= t.tdiv m := Int.tdiv_nonneg (h.val' hn) (by omega)
   simp only [Bool.false_eq_true, if_false]
   rw [show ((t.tdiv m).natAbs : Int) = t.tdiv m by omega]
 ·rw [if_neg (mt hR.1 hr), if_neg hr]
theorem r9 {a b : Fr} (h : ¬ (aj a /\ aj b)) : nA a b = (F00, false) := if_neg h
def tA : PSp := aC (λ (_ _ : Fr) => True) (λ a b => .tup [Enc.enc (nA a b).1, .bool (nA a b).2])
theorem Wm : PureOK prog G0 163 tA := by
 refine lF qi ae func163 rfl rfl rfl [4] (by kernel_rfl) (by decide) (λ a b _ => ?_)
 by_cases ha : aj a
 case neg =>
  have e := r9 (a := a) (b := b) (λ h => ha h.1)
  simp [ax, ha, e, F00]
 by_cases hb : aj b
 case neg =>
  have e := r9 (a := a) (b := b) (λ h => hb h.2)
  simp [ax, ha, hb, e, F00]
 obtain ⟨hh0, e⟩ := qT ha hb
 have ez := mb ha hb
 have ha' := ha
 have hb' := hb
 obtain ⟨a1, a2, a3, a4⟩ := ha'
 obtain ⟨b1, b2, b3, b4⟩ := hb'
 have a5 : InR a.D := by unfold InR; omega
 have b5 : InR b.D := by unfold InR; omega
 obtain ⟨g0, g1⟩ := vg a5 b5 (by omega)
 have i1 := py a5 b5
 have et : tF a b = a.N * b.D.tdiv (Int.gcd a.D b.D) + b.N * a.D.tdiv (Int.gcd a.D b.D) := rfl
 generalize Int.gcd a.D b.D = g at *
 obtain ⟨p1, q1⟩ := oq a5 (g := g) (by omega)
 obtain ⟨p2, q2⟩ := oq b5 (g := g) (by omega)
 have S := SL a3 p2 b3 p1
 rw [<- et] at S
 generalize hT : gN (dB a.N (b.D.tdiv g)) (dB b.N (a.D.tdiv g)) = T at *
 generalize tF a b = t at *
 have gp1 := iH a3 p2
 have gp2 := iH b3 p1
 have gT := S.good
 have g2 : ¬ g = 0 := by omega
 have q1 : w64 _ = _ := q1
 have q2 : w64 _ = _ := q2
 have step0 : ∀ {X : Prop}, X -> X := id
 rcases em2 (t = 0) with ht | ht
 ·have hs : rS T = 0 := by unfold rS; rw [S.mag, of_eq_true ht]; rfl
  have e := ez (of_eq_true ht)
  simp [ax, ld, ha, hb, i1]
  refine aA qi ae [.pure, .read, .pure, .read, .pure, .pure, .read, .pure, .read, .pure, .read, .pure, .pure, .read, .read, .eff, .eff] [[],[0],[],[2],[],[4,2,3],[3,2,4,5,0,1],[],[7],[],[9],[],[11,9,10],[1,0,5,4,2,3,6,10,9,11,12,7,8],[8,7,12,11,9,10,13,1,0,5,4,2,3,6],[],[6,3,2,4,5,0,1,13,10,9,11,12,7,8,14,15]] (by kernel_rfl) (by kernel_rfl) (by kernel_rfl) (by kernel_rfl) ?_
  simp [kj, kF, gf, g2, q1, q2, a3, b3, p1, p2, gp1, gp2, hT, gT, hs, e, F01]
 have hs : (rS T = 0) = False := eq_false (by
  have := of_eq_false ht
  unfold rS
  rw [if_neg (by rw [S.mag]; omega)]
  split <;> decide)
 have g3 : IntKind.wrap .u64 (g : Int) = g := by unfold InR at g1; rw [IntKind.wrap_u64]; omega
 have r0 := Int.emod_nonneg (t.natAbs : Int) (show (g : Int) ≠ 0 by omega)
 have r1 := Int.emod_lt_of_pos (t.natAbs : Int) (show (0 : Int) < g by omega)
 have r2 := rr t g
 have rR : InR ((t.natAbs : Int) % g) := by unfold InR at *; omega
 have r3 : IntKind.wrap .i64 ((t.natAbs : Int) % g) = (t.natAbs : Int) % g := IntWalk.i64_in _ (by unfold InR at rR; omega)
 have i2 := py rR g1
 rw [r2] at i2
 have h1 : InR (Int.gcd t g : Int) := by have := Int.gcd_le_natAbs_right t (show (g : Int) ≠ 0 by omega); unfold InR at *; omega
 generalize Int.gcd t g = h at *
 have ov := Ie S (m := h) hh0
 obtain ⟨p3, q3⟩ := oq b5 (g := h) (by omega)
 have q3 : w64 _ = _ := q3
 have h2 : ¬ h = 0 := by omega
 have h3 : IntKind.wrap .u64 (h : Int) = h := by unfold InR at h1; rw [IntKind.wrap_u64]; omega
 have hm : bU T = t.natAbs := S.mag
 have h4 : (h : Int) <= 1000000000000000 := by unfold InR at h1; omega
 have g4 : (g : Int) < 18446744073709551616 := by unfold InR at g1; omega
 have e : nA a b = if (rp T h).2 = true /\ (nO (a.D.tdiv g) (b.D.tdiv h)).2 = true then (⟨(rp T h).1, (nO (a.D.tdiv g) (b.D.tdiv h)).1⟩, true) else (F00, false) := by
  rw [e, ov]
  unfold mo nO
  by_cases h5 : InR (t.tdiv h) <;> by_cases h6 : InR (a.D.tdiv g * b.D.tdiv h) <;> simp [p1, p3, h5, h6]
 obtain ⟨n1, f1, e1⟩ := pS (rp T h)
 obtain ⟨n2, f2, e2⟩ := pS (nO (a.D.tdiv g) (b.D.tdiv h))
 rw [e1, e2] at e
 simp only at e
 cases f1
 ·simp [ax, ld, ha, hb, i1]
  refine aA qi ae [.pure, .read, .pure, .read, .pure, .pure, .read, .pure, .read, .pure, .read, .pure, .pure, .read, .read, .eff, .eff] [[],[0],[],[2],[],[4,2,3],[3,2,4,5,0,1],[],[7],[],[9],[],[11,9,10],[1,0,5,4,2,3,6,10,9,11,12,7,8],[8,7,12,11,9,10,13,1,0,5,4,2,3,6],[],[6,3,2,4,5,0,1,13,10,9,11,12,7,8,14,15]] (by kernel_rfl) (by kernel_rfl) (by kernel_rfl) (by kernel_rfl) ?_
  simp [kj, kF, gf, uP, nP, ld, pO, g0, g2, g3, g4, q1, q2, a3, b3, p1, p2, gp1, gp2, hT, gT, hs, hm, r3, i2, h2, h3, h4, hh0, q3, e1, e2, e, F00]
 ·cases f2
  ·simp [ax, ld, ha, hb, i1]
   refine aA qi ae [.pure, .read, .pure, .read, .pure, .pure, .read, .pure, .read, .pure, .read, .pure, .pure, .read, .read, .eff, .eff] [[],[0],[],[2],[],[4,2,3],[3,2,4,5,0,1],[],[7],[],[9],[],[11,9,10],[1,0,5,4,2,3,6,10,9,11,12,7,8],[8,7,12,11,9,10,13,1,0,5,4,2,3,6],[],[6,3,2,4,5,0,1,13,10,9,11,12,7,8,14,15]] (by kernel_rfl) (by kernel_rfl) (by kernel_rfl) (by kernel_rfl) ?_
   simp [kj, kF, gf, uP, nP, ld, pO, g0, g2, g3, g4, q1, q2, a3, b3, p1, p2, gp1, gp2, hT, gT, hs, hm, r3, i2, h2, h3, h4, hh0, q3, e1, e2, e, F00]
  ·simp [ax, ld, ha, hb, i1]
   refine aA qi ae [.pure, .read, .pure, .read, .pure, .pure, .read, .pure, .read, .pure, .read, .pure, .pure, .read, .read, .eff, .eff] [[],[0],[],[2],[],[4,2,3],[3,2,4,5,0,1],[],[7],[],[9],[],[11,9,10],[1,0,5,4,2,3,6,10,9,11,12,7,8],[8,7,12,11,9,10,13,1,0,5,4,2,3,6],[],[6,3,2,4,5,0,1,13,10,9,11,12,7,8,14,15]] (by kernel_rfl) (by kernel_rfl) (by kernel_rfl) (by kernel_rfl) ?_
   simp [kj, kF, gf, uP, nP, ld, pO, g0, g2, g3, g4, q1, q2, a3, b3, p1, p2, gp1, gp2, hT, gT, hs, hm, r3, i2, h2, h3, h4, hh0, q3, e1, e2, e, F00]
theorem sZ {n : Int} (h : InR n) : w64 n = n := aT (by unfold InR at h; unfold I64; omega)
theorem InR_neg {n : Int} : InR (-n) ↔ InR n := by unfold InR; omega
theorem kO {a : Fr} (h : aj a) : gh a = ⟨-a.N, a.D⟩ := by
 unfold gh
 rw [sZ (InR_neg.2 h.2.2.1)]
theorem qE {a : Fr} (h : aj a) : aj (gh a) := by
 rw [kO h]
 obtain ⟨h1, h2, h3, h4⟩ := h
 exact ⟨h1, h2, InR_neg.2 h3, by rw [Int.neg_gcd]; exact h4⟩
noncomputable def CSb : Ctx := mkC prog G0 [(163, .pure tA), (149, .pure iR), (55, .pure ax), (164, .pure kj), (165, .pure kF), (166, .pure gf)]
@[simp] theorem X9 : CSb.P = prog := rfl
@[simp] theorem YL : CSb.G = G0 := rfl
@[simp] theorem Zf : CSb.S 163 = .pure tA /\ CSb.S 149 = .pure iR /\ CSb.S 55 = .pure ax /\ CSb.S 164 = .pure kj /\ CSb.S 165 = .pure kF /\ CSb.S 166 = .pure gf := ⟨rfl, rfl, rfl, rfl, rfl, rfl⟩
theorem Dm : au CSb := ap (Wm) func163 (ap (OQ) func149 (ap (sP) func55 (ap (NX) func164 (ap (N4) func165 (ap (IV) func166 (ak _ _))))))
def zk : PSp := aC (λ (_ b : Fr) => I64 b.N) (λ a b => .tup [Enc.enc (Cu a b).1, .bool (Cu a b).2])
theorem VS : PureOK prog G0 150 zk := by
 refine aX Dm ae func150 rfl rfl rfl (by kernel_rfl) (by decide) (λ a b _ => ?_)
 have e : nA a ⟨IntKind.wrap .i64 (-b.N), b.D⟩ = Cu a b := rfl
 obtain ⟨r, f, hr⟩ := pS (Cu a b)
 simp [tA, e, hr]
def oE : PSp := aC (λ (_ _ : Fr) => True) (λ a b => .tup [Enc.enc (qy a b).1, .bool (qy a b).2])
theorem Uh : PureOK prog G0 151 oE := by
 refine aX Dm ae func151 rfl rfl rfl (by kernel_rfl) (by decide) (λ a b _ => ?_)
 by_cases hb : aj b
 case neg =>
  have e : qy a b = (F00, false) := if_neg (λ h => hb h.1)
  simp [ax, hb, e, F00]
 rcases em2 (b.N = 0) with h0 | h0
 ·have e : qy a b = (F00, false) := if_neg (λ h => h.2 (of_eq_true h0))
  simp [ax, hb, h0, e, F00]
 obtain ⟨b1, b2, b3, b4⟩ := hb
 have hb : aj b := ⟨b1, b2, b3, b4⟩
 have n1 : IntKind.wrap .i64 (-b.N) = -b.N := sZ (InR_neg.2 b3)
 have n2 : IntKind.wrap .i64 (-b.D) = -b.D := sZ (InR_neg.2 (by unfold InR; omega))
 by_cases h1 : b.N < 0
 ·have e : qy a b = lC a ⟨-b.D, -b.N⟩ := by unfold qy; rw [if_pos ⟨hb, of_eq_false h0⟩, if_pos h1]
  obtain ⟨r, f, hr⟩ := pS (lC a ⟨-b.D, -b.N⟩)
  simp [ax, iR, hb, h0, h1, n1, n2, e, hr]
 ·have e : qy a b = lC a ⟨b.D, b.N⟩ := by unfold qy; rw [if_pos ⟨hb, of_eq_false h0⟩, if_neg h1]
  obtain ⟨r, f, hr⟩ := pS (lC a ⟨b.D, b.N⟩)
  simp [ax, iR, hb, h0, h1, n1, n2, e, hr]
theorem Mb : aj F01 := by decide
theorem mL (a : Fr) : aj (pE a) := by
 unfold pE
 split
 ·assumption
 ·exact Mb
theorem IN {T : Wide} {t : Int} (h : SumW T t) : rS T = sgn t := by
 unfold rS sgn
 rw [h.mag]
 have h1 := h.val
 have h2 := h.val'
 cases hn : T.neg with
 | true =>
  have := h1 hn
  by_cases h0 : t = 0
  ·subst h0; rfl
  ·rw [if_neg (by omega), if_pos rfl, if_pos (by omega)]
 | false =>
  have := h2 hn
  by_cases h0 : t = 0
  ·subst h0; rfl
  ·rw [if_neg (by omega), if_neg (by decide), if_neg (by omega), if_pos (by omega)]
def rQ : PSp := aC (λ (_ _ : Fr) => True) (λ a b => .int .i64 (jv a b))
theorem WQ : PureOK prog G0 152 rQ := by
 refine aX Dm ae func152 rfl rfl rfl (by kernel_rfl) (by decide) (λ a b _ => ?_)
 have va := mL a
 have vb := mL b
 obtain ⟨x, hx⟩ : ∃ x, pE a = x := ⟨_, rfl⟩
 obtain ⟨y, hy⟩ : ∃ y, pE b = y := ⟨_, rfl⟩
 have ec : jv a b = sgn (x.N * y.D + -y.N * x.D) := by unfold jv; rw [hx, hy, neg_mul]; rfl
 rw [hx] at va
 rw [hy] at vb
 obtain ⟨a1, a2, a3, a4⟩ := va
 obtain ⟨b1, b2, b3, b4⟩ := vb
 have a5 : InR x.D := by unfold InR; omega
 have b5 : InR y.D := by unfold InR; omega
 have b6 := InR_neg.2 b3
 have n1 : IntKind.wrap .i64 (-y.N) = -y.N := sZ b6
 have S := SL a3 b5 b6 a5
 have gp1 := iH a3 b5
 have gp2 := iH b6 a5
 have hs := IN S
 have gT := S.good
 generalize hT : gN (dB x.N y.D) (dB (-y.N) x.D) = T at *
 rw [<- hs] at ec
 by_cases ha : aj a
 ·have hx' : a = x := by rw [<- hx]; exact (if_pos ha).symm
  by_cases hb : aj b
  ·have hy' : b = y := by rw [<- hy]; exact (if_pos hb).symm
   subst hx' hy'
   simp [ax, kj, kF, gf, ha, hb, a3, a5, b3, b5, b6, n1, gp1, gp2, hT, gT, ec]
  ·have hy' : F01 = y := by rw [<- hy]; exact (if_neg hb).symm
   subst hx' hy'
   simp only [F01, neg_zero] at a3 a5 b3 b5 b6 n1 gp1 gp2 hT
   simp [ax, kj, kF, gf, ha, hb, a3, a5, b3, b5, b6, n1, gp1, gp2, hT, gT, ec]
 ·have hx' : F01 = x := by rw [<- hx]; exact (if_neg ha).symm
  by_cases hb : aj b
  ·have hy' : b = y := by rw [<- hy]; exact (if_pos hb).symm
   subst hx' hy'
   simp only [F01, neg_zero] at a3 a5 b3 b5 b6 n1 gp1 gp2 hT
   simp [ax, kj, kF, gf, ha, hb, a3, a5, b3, b5, b6, n1, gp1, gp2, hT, gT, ec]
  ·have hy' : F01 = y := by rw [<- hy]; exact (if_neg hb).symm
   subst hx' hy'
   simp only [F01, neg_zero] at a3 a5 b3 b5 b6 n1 gp1 gp2 hT
   simp [ax, kj, kF, gf, ha, hb, a3, a5, b3, b5, b6, n1, gp1, gp2, hT, gT, ec]
def lw (f : Nat -> Nat) : List Int := (List.range 14).map λ j => (f j : Int)
theorem dR (f : Nat -> Nat) : (lw f).length = 14 := by unfold lw; rw [List.length_map, List.length_range]
theorem lZ (f : Nat -> Nat) {j : Nat} (h : j < 14) : ix (lw f) j = f j := by
 rw [az (by rw [dR]; exact h)]
 unfold lw
 rw [List.getElem_map, List.getElem_range]
theorem fc {f g : Nat -> Nat} (h : ∀ j, j < 14 -> f j = g j) : lw f = lw g := by
 unfold lw
 refine List.map_congr_left λ j hj => ?_
 rw [h j (List.mem_range.1 hj)]
theorem wH {f g : Nat -> Nat} {k : Nat} {v : Int} (hv : v = g k) (h : ∀ j, j < 14 -> j ≠ k -> g j = f j) : (lw f).set k v = lw g := by
 refine List.ext_getElem (by rw [List.length_set, dR, dR]) λ j h1 h2 => ?_
 rw [dR] at h2
 rw [List.getElem_set]
 have e1 := lZ g h2
 rw [az (by rw [dR]; exact h2)] at e1
 have e2 := lZ f h2
 rw [az (by rw [dR]; exact h2)] at e2
 rw [e1, e2]
 split
 ·rename_i h3; subst h3; exact hv
 ·rename_i h3; rw [h j h2 (λ e => h3 e.symm)]
def dgt (n j : Nat) : Nat := n / 1000 ^ j % 1000
def bK (n : Nat) : List Int := lw (dgt n)
theorem iM (n j : Nat) : dgt n j < 1000 := mod_lt _ (by decide)
theorem up1 (n j : Nat) : n / 1000 ^ j = 1000 * (n / 1000 ^ (j + 1)) + dgt n j := by
 unfold dgt
 rw [pow_succ, <- div_div_eq_div_mul]
 omega
def vl : List Int -> Nat
 | [] => 0
 | x :: r => x.toNat + 1000 * vl r
def B14 : Nat := 1000000000000000000000000000000000000000000
theorem gA {n : Nat} (h : n < B14) : vl (bK n) = n := by
 have key : ∀ (m k : Nat), vl ((List.range' k m).map λ j => ((dgt n j : Nat) : Int)) + 1000 ^ m * (n / 1000 ^ (k + m)) = n / 1000 ^ k := by
  intro m
  induction m with
  | zero => intro k; simp [vl]
  | succ m ih =>
   intro k
   have h1 := ih (k + 1)
   have h2 := up1 n k
   rw [List.range'_succ, List.map_cons, vl, toNat_natCast, pow_succ, show k + (m + 1) = k + 1 + m by omega, show 1000 ^ m * 1000 * (n / 1000 ^ (k + 1 + m)) = 1000 * (1000 ^ m * (n / 1000 ^ (k + 1 + m))) by ac_rfl]
   omega
 have h1 := key 14 0
 have z : n / 1000 ^ (0 + 14) = 0 := Nat.div_eq_of_lt (by unfold B14 at h; simpa using h)
 rw [z, Nat.mul_zero, Nat.add_zero, pow_zero, div_one, <- List.range_eq_range'] at h1
 exact h1
structure IsD (x : List Int) : Prop where
 eq : x = bK (vl x)
 lt : vl x < B14
theorem ef {n : Nat} (h : n < B14) : IsD (bK n) := ⟨by rw [gA h], by rw [gA h]; exact h⟩
theorem aU (n : Nat) : (bK n).length = 14 := dR _
theorem AF {S A c k : Nat} (h : S / 1000 ^ k = c + A) : dgt S k = (c + A) % 1000 /\ S / 1000 ^ (k + 1) = (c + A) / 1000 := by
 refine ⟨by unfold dgt; rw [h], ?_⟩
 rw [pow_succ, <- div_div_eq_div_mul, h]
theorem Hq {S P d c r k : Nat} (h : S / 1000 ^ k = r + P / 1000 ^ k + d * c) : dgt S k = (r + dgt P k + d * (c % 1000)) % 1000 /\ S / 1000 ^ (k + 1) = (r + dgt P k + d * (c % 1000)) / 1000 + P / 1000 ^ (k + 1) + d * (c / 1000) := by
 have u := up1 P k
 have ec : d * c = 1000 * (d * (c / 1000)) + d * (c % 1000) := by
  have := Nat.div_add_mod c 1000
  calc d * c = d * (1000 * (c / 1000) + c % 1000) := by rw [this]
   _ = _ := by rw [Nat.mul_add]; congr 1; ac_rfl
 have h' : S / 1000 ^ k = 0 + (r + P / 1000 ^ k + d * c) := by omega
 obtain ⟨e1, e2⟩ := AF h'
 rw [e1, e2]
 generalize d * (c / 1000) = y at *
 generalize d * (c % 1000) = z at *
 generalize P / 1000 ^ (k + 1) = w at *
 omega
theorem Ge {S X Y r k : Nat} (h : S / 1000 ^ k = r + X / 1000 ^ k + Y / 1000 ^ k) : dgt S k = (r + dgt X k + dgt Y k) % 1000 /\ S / 1000 ^ (k + 1) = (r + dgt X k + dgt Y k) / 1000 + X / 1000 ^ (k + 1) + Y / 1000 ^ (k + 1) := by
 have u := up1 X k
 have v := up1 Y k
 have h' : S / 1000 ^ k = 0 + (r + X / 1000 ^ k + Y / 1000 ^ k) := by omega
 obtain ⟨e1, e2⟩ := AF h'
 rw [e1, e2]
 generalize X / 1000 ^ (k + 1) = w at *
 generalize Y / 1000 ^ (k + 1) = z at *
 omega
theorem Gi {S X Y k : Nat} {r : Int} (hr : r = 0 ∨ r = -1) (h : ((S / 1000 ^ k : Nat) : Int) = r + (X / 1000 ^ k : Nat) - (Y / 1000 ^ k : Nat)) :
  (r + dgt X k - dgt Y k < 0 -> (dgt S k : Int) = r + dgt X k - dgt Y k + 1000 /\ ((S / 1000 ^ (k + 1) : Nat) : Int) = -1 + (X / 1000 ^ (k + 1) : Nat) - (Y / 1000 ^ (k + 1) : Nat)) /\
  (¬ r + dgt X k - dgt Y k < 0 -> (dgt S k : Int) = r + dgt X k - dgt Y k /\ ((S / 1000 ^ (k + 1) : Nat) : Int) = 0 + (X / 1000 ^ (k + 1) : Nat) - (Y / 1000 ^ (k + 1) : Nat)) := by
 have u := up1 X k
 have v := up1 Y k
 have w := up1 S k
 have a := iM X k
 have b := iM Y k
 have c := iM S k
 omega
theorem Gx {X d k : Nat} (hd : 0 < d) : (X / 1000 ^ (k + 1) % d * 1000 + dgt X k) / d = dgt (X / d) k /\ (X / 1000 ^ (k + 1) % d * 1000 + dgt X k) % d = X / 1000 ^ k % d := by
 have u := up1 X k
 have e : X / d / 1000 ^ k = X / 1000 ^ k / d := by rw [div_div_eq_div_mul, div_div_eq_div_mul, Nat.mul_comm]
 have a := iM X k
 unfold dgt at e ⊢
 rw [e]
 unfold dgt at u a
 generalize X / 1000 ^ k = B at *
 generalize X / 1000 ^ (k + 1) = A at *
 generalize B % 1000 = x at *
 have eA := Nat.div_add_mod A d
 have lA := mod_lt A hd
 have e2 : B = d * (1000 * (A / d)) + (A % d * 1000 + x) := by
  rw [u]
  have : 1000 * A = 1000 * (d * (A / d) + A % d) := by rw [eA]
  rw [this, Nat.mul_add]
  have : 1000 * (d * (A / d)) = d * (1000 * (A / d)) := by ac_rfl
  omega
 have l2 : (A % d * 1000 + x) / d < 1000 := by
  rw [Nat.div_lt_iff_lt_mul hd]
  omega
 rw [e2, Nat.mul_add_div hd, Nat.mul_add_mod]
 generalize (A % d * 1000 + x) / d = z at *
 generalize A / d = y at *
 refine ⟨by omega, ?_⟩
 rw [Nat.mul_add_mod]
def mq (k S P : Nat) : List Int := lw λ j => if j < k then dgt S j else dgt P j
theorem gE (k S P : Nat) : (mq k S P).length = 14 := dR _
theorem Pr {k S P : Nat} (h : k < 14) : ix (mq k S P) k = dgt P k := by unfold mq; rw [lZ _ h, if_neg (Nat.lt_irrefl k)]
theorem pL {k S P : Nat} {v : Int} (hv : v = dgt S k) (hk : k < 14) : (mq k S P).set k v = mq (k + 1) S P := by
 refine wH (by rw [hv, if_pos (Nat.lt_succ_self k)]) λ j hj hne => ?_
 by_cases h : j < k
 ·rw [if_pos h, if_pos (by omega)]
 ·rw [if_neg h, if_neg (by omega)]
theorem Gy {k P d b : Nat} : mq k (P + d * b * 1000 ^ k) P = bK P := by
 refine fc λ j hj => ?_
 split
 ·rename_i h
  unfold dgt
  have e : 1000 ^ k = 1000 ^ j * (1000 * 1000 ^ (k - j - 1)) := by rw [<- Nat.pow_succ', <- pow_add]; congr 1; omega
  rw [e, show d * b * (1000 ^ j * (1000 * 1000 ^ (k - j - 1))) = 1000 ^ j * (1000 * (d * b * 1000 ^ (k - j - 1))) by ac_rfl, Nat.add_comm, Nat.mul_add_div (pow_pos (by decide)), Nat.mul_add_mod]
 ·rfl
theorem MC {k S P : Nat} (h : S / 1000 ^ k = P / 1000 ^ k) : mq k S P = bK S := by
 refine fc λ j hj => ?_
 split
 ·rfl
 ·rename_i h'
  unfold dgt
  have e : ∀ X : Nat, X / 1000 ^ j = X / 1000 ^ k / 1000 ^ (j - k) := λ X => by rw [div_div_eq_div_mul, <- pow_add]; congr 2; omega
  rw [e S, e P, h]
theorem iK : bK 0 = List.replicate 14 0 := rfl
structure TimesAt (d b i S P k r c : Nat) : Prop where
 ge : i <= k
 val : S / 1000 ^ k = r + P / 1000 ^ k + d * c
 small : r <= 1000
 cut : c = b / 1000 ^ (k - i)
theorem CI {d b i S P k r c : Nat} (hd : d < 1000) (h : TimesAt d b i S P k r c) : dgt S k = (r + dgt P k + d * (c % 1000)) % 1000 /\ TimesAt d b i S P (k + 1) ((r + dgt P k + d * (c % 1000)) / 1000) (c / 1000) /\ r + dgt P k + d * (c % 1000) <= 1000000 /\ d * (c % 1000) <= 998001 := by
 obtain ⟨e1, e2⟩ := Hq h.val
 have l1 := iM P k
 have l2 : d * (c % 1000) <= 999 * 999 := mul_le_mul (by omega) (by omega)
 have l3 := h.small
 have l4 := h.ge
 refine ⟨e1, ⟨by omega, e2, by omega, ?_⟩, by omega, by omega⟩
 rw [h.cut, div_div_eq_div_mul, <- pow_succ]
 congr 2
 omega
theorem jS {n k : Nat} (m : Nat) (hn : n < 1000 ^ (m + 1)) (h : 0 < n / 1000 ^ k) : k <= m := by
 have l := (Nat.le_div_iff_mul_le (pow_pos (n := k) (show 0 < 1000 by decide))).1 h
 by_cases hk : k <= m
 ·exact hk
 ·have : 1000 ^ (m + 1) <= 1000 ^ k := Nat.pow_le_pow_right (by decide) (by omega)
  omega
theorem Ga {d b i S P k r c : Nat} (hS : S <= 1000000000000000000000000000000) (hi : i <= 5) (hb : b <= 1000000000000000) (h : TimesAt d b i S P k r c) (hc : 0 < c ∨ 0 < r) : k <= 10 := by
 have e := h.val
 rcases hc with hc | hc
 ·rw [h.cut] at hc
  have := jS 5 (by omega) hc
  have := h.ge
  omega
 ·refine jS 10 (by omega) (n := S) ?_
  rw [e]
  generalize P / 1000 ^ k = z
  generalize d * c = y
  omega
theorem ku (a b : Nat) : (a : Int).tmod b = ((a % b : Nat) : Int) := by
 rw [tmod_eq_emod_of_nonneg (by omega)]
 simp
theorem fV (a b : Nat) : (a : Int).tdiv b = ((a / b : Nat) : Int) := by
 rw [Int.tdiv_eq_ediv_of_nonneg (by omega)]
 simp
def F2 (a i : Nat) : Int := ((a / 1000 ^ i : Nat) : Int)
def d6 : PSp := aC (λ (a b : Int) => 0 <= a /\ a <= 1000000000000000 /\ 0 <= b /\ b <= 1000000000000000) (λ a b => Enc.enc (bK (a.toNat * b.toNat)))
theorem J5 : PureOK prog G0 138 d6 := by
 refine aX aK ae func138 rfl rfl rfl (by kernel_rfl) (by decide) (λ a b ⟨a0, a1, b0, b1⟩ => ?_)
 obtain ⟨a, rfl⟩ := eq_ofNat_of_zero_le a0
 obtain ⟨b, rfl⟩ := eq_ofNat_of_zero_le b0
 have ha : a <= 1000000000000000 := by omega
 have hb : b <= 1000000000000000 := by omega
 have hab : a * b <= 1000000000000000000000000000000 := mul_le_mul (n₂ := 1000000000000000) (m₂ := 1000000000000000) ha hb
 simp
 refine am aK ae (λ i : Nat => ⟨[(0, .int .i64 (F2 a i)), (1, .int .i64 b), (5, .own 0 14), (6, .int .i64 i)], [⟨3, 1, ac (bK (a % 1000 ^ i * b)), true, true⟩]⟩) (λ i => i <= 6) (λ i => 6 - i) (by kernel_rfl) ⟨0, by omega, ag (by simp [F2]) (by simp [iK, Nat.mod_one])⟩ (λ i hi => ?_)
 obtain ⟨x, hx⟩ : ∃ x, a / 1000 ^ i = x := ⟨_, rfl⟩
 rw [show F2 a i = (x : Int) by unfold F2; rw [hx]]
 by_cases h0 : 0 < x
 case neg =>
  have x0 : ¬ (0 : Int) < (x : Int) := by omega
  have ea : a % 1000 ^ i = a := by
   refine Nat.mod_eq_of_lt ?_
   by_cases h : a < 1000 ^ i
   ·exact h
   ·have := (Nat.le_div_iff_mul_le (pow_pos (n := i) (show 0 < 1000 by decide)) (x := 1) (y := a)).2 (by omega)
    omega
  rw [ea]
  simp [h0, aU]
 have hi5 : i <= 5 := jS (n := a) 5 (by omega) (by rw [hx]; exact h0)
 obtain ⟨P, hP⟩ : ∃ P, a % 1000 ^ i * b = P := ⟨_, rfl⟩
 obtain ⟨d, hd⟩ : ∃ d, x % 1000 = d := ⟨_, rfl⟩
 obtain ⟨x', hx'⟩ : ∃ d, x / 1000 = d := ⟨_, rfl⟩
 have ex' : a / 1000 ^ (i + 1) = x' := by rw [pow_succ, <- div_div_eq_div_mul, hx, hx']
 have eS : a % 1000 ^ (i + 1) * b = P + d * b * 1000 ^ i := by
  rw [Nat.mod_pow_succ, hx, hd, add_mul, hP]
  congr 1
  ac_rfl
 have hd' : d < 1000 := by omega
 have m1 : (x : Int).tmod 1000 = d := by rw [show (1000 : Int) = ((1000 : Nat) : Int) from rfl, ku, hd]
 have m2 : (x : Int).tdiv 1000 = x' := by rw [show (1000 : Int) = ((1000 : Nat) : Int) from rfl, fV, hx']
 have m3 : w64 (x' : Int) = x' := aT (by have := div_le_self a (1000 ^ (i + 1)); unfold I64; omega)
 have hS : P + d * b * 1000 ^ i <= 1000000000000000000000000000000 := by
  rw [<- eS]
  exact Nat.le_trans (Nat.mul_le_mul_right _ (Nat.mod_le _ _)) hab
 obtain ⟨S, hSe⟩ : ∃ S, P + d * b * 1000 ^ i = S := ⟨_, rfl⟩
 rw [hSe] at eS hS
 have iI : I64 ((i : Int) + 1) := by unfold I64; omega
 simp [hP, h0, m1, m2, m3, aU]
 refine am aK ae (λ q : Nat × Nat × Nat => ⟨[(0, .int .i64 x'), (1, .int .i64 b), (5, .own 0 14), (6, .int .i64 i), (7, .int .i64 d), (8, .int .i64 q.2.2), (9, .int .i64 q.2.1), (10, .int .i64 q.1)], [⟨3, 1, ac (mq q.1 S P), true, true⟩]⟩) (λ q => TimesAt d b i S P q.1 q.2.1 q.2.2) (λ q => 11 - q.1) (by kernel_rfl) ⟨(i, 0, b), ⟨Nat.le_refl i, ?_, zero_le _, by rw [Nat.sub_self, pow_zero, div_one]⟩, ag (by simp) (by rw [<- hSe, Gy])⟩ (λ ⟨k, r, c⟩ H => ?_)
 ·simp only
  rw [<- hSe, Nat.add_mul_div_right _ _ (pow_pos (by decide))]
  omega
 simp only at H ⊢
 have hc1 : c <= 1000000000000000 := by rw [H.cut]; exact Nat.le_trans (div_le_self _ _) hb
 by_cases hg : 0 < c ∨ 0 < r
 ·obtain ⟨e1, H', l1, l2⟩ := CI hd' H
  have hk := Ga hS hi5 hb H hg
  have hr := H.small
  have hkl : k < 14 := by omega
  obtain ⟨dg, hdg⟩ : ∃ x, dgt P k = x := ⟨_, rfl⟩
  have ixk : ix (mq k S P) k = dg := by rw [Pr hkl, hdg]
  rw [hdg] at e1 H' l1
  have hkM : k < (mq k S P).length := by rw [gE]; exact hkl
  obtain ⟨y, hy⟩ : ∃ y, c % 1000 = y := ⟨_, rfl⟩
  obtain ⟨c', hc'⟩ : ∃ y, c / 1000 = y := ⟨_, rfl⟩
  rw [hy] at e1 H' l1 l2
  rw [hc'] at H'
  obtain ⟨z, hz⟩ : ∃ z, d * y = z := ⟨_, rfl⟩
  rw [hz] at e1 H' l1 l2
  obtain ⟨t, ht⟩ : ∃ t, r + dg + z = t := ⟨_, rfl⟩
  rw [ht] at e1 H' l1
  have n1 : (c : Int).tmod 1000 = y := by rw [show (1000 : Int) = ((1000 : Nat) : Int) from rfl, ku, hy]
  have n2 : (c : Int).tdiv 1000 = c' := by rw [show (1000 : Int) = ((1000 : Nat) : Int) from rfl, fV, hc']
  have n3 : (t : Int).tmod 1000 = (t % 1000 : Nat) := by rw [show (1000 : Int) = ((1000 : Nat) : Int) from rfl, ku]
  have n4 : (t : Int).tdiv 1000 = (t / 1000 : Nat) := by rw [show (1000 : Int) = ((1000 : Nat) : Int) from rfl, fV]
  have k1 : w64 ((r : Int) + dg) = ((r + dg : Nat) : Int) := by rw [aT (by unfold I64; omega)]; omega
  have k2 : w64 ((d : Int) * y) = z := by rw [<- natCast_mul, hz]; exact aT (by unfold I64; omega)
  have k3 : w64 (((r + dg : Nat) : Int) + z) = t := by rw [aT (by unfold I64; omega)]; omega
  have k4 : w64 (c' : Int) = c' := aT (by unfold I64; omega)
  obtain ⟨t1, ht1⟩ : ∃ z, t % 1000 = z := ⟨_, rfl⟩
  obtain ⟨t2, ht2⟩ : ∃ z, t / 1000 = z := ⟨_, rfl⟩
  rw [ht1] at n3 e1
  rw [ht2] at n4 H'
  have k5 : w64 (t2 : Int) = t2 := aT (by unfold I64; omega)
  have k6 : I64 ((k : Int) + 1) := by unfold I64; omega
  obtain ⟨s0, hs0⟩ : ∃ s, r + dg = s := ⟨_, rfl⟩
  rw [hs0] at k1 k3
  rcases Nat.eq_zero_or_pos c with hc0 | hc0
  ·have hr0 : 0 < r := by omega
   have hcn : (0 < c) = False := eq_false (by omega)
   simp [hcn, hr0, hkM, aa hkM, ixk, gE, hkl, n1, n2, n3, n4, k1, k2, k3, k4, k5, k6]
   refine ⟨by omega, k + 1, t2, c', H', by omega, ag (by simp) (by rw [<- e1, pL rfl hkl])⟩
  ·simp [hc0, hkM, aa hkM, ixk, gE, hkl, n1, n2, n3, n4, k1, k2, k3, k4, k5, k6]
   refine ⟨by omega, k + 1, t2, c', H', by omega, ag (by simp) (by rw [<- e1, pL rfl hkl])⟩
 ·obtain rfl : c = 0 := by omega
  obtain rfl : r = 0 := by omega
  have eE : mq k S P = bK S := MC (by have := H.val; omega)
  simp [eE, iI]
  exact ⟨i + 1, by omega, by omega, ag (by simp [show F2 a (i + 1) = (x' : Int) by unfold F2; rw [ex']]) (by rw [eS])⟩
theorem jB (n : Nat) {j : Nat} (h : j < 14) : ix (bK n) j = dgt n j := lZ _ h
theorem zx (S P : Nat) : mq 0 S P = bK P := fc λ j _ => if_neg (Nat.not_lt_zero j)
theorem Ee (S P : Nat) : mq 14 S P = bK S := fc λ j h => if_pos h
def BP (x y : List Int) : Prop := IsD x /\ IsD y /\ vl x + vl y < B14
def qv : PSp := aC BP (λ x y => Enc.enc (bK (vl x + vl y)))
theorem S9 : PureOK prog G0 159 qv := by
 refine aX aK ae func159 rfl rfl rfl (by kernel_rfl) (by decide) (λ x y ⟨⟨ex, lx⟩, ⟨ey, ly⟩, hl⟩ => ?_)
 generalize vl x = X at *
 generalize vl y = Y at *
 subst ex ey
 obtain ⟨S, hS⟩ : ∃ S, X + Y = S := ⟨_, rfl⟩
 rw [hS]
 simp [aU]
 refine am aK ae (λ q : Nat × Nat => ⟨[(0, Enc.enc (bK X)), (1, Enc.enc (bK Y)), (5, .own 0 14), (6, .int .i64 q.2), (7, .int .i64 q.1)], [⟨3, 1, ac (mq q.1 S 0), true, true⟩]⟩) (λ q => q.1 <= 14 /\ q.2 <= 1 /\ S / 1000 ^ q.1 = q.2 + X / 1000 ^ q.1 + Y / 1000 ^ q.1) (λ q => 14 - q.1) (by kernel_rfl) ⟨(0, 0), ⟨by simp, by simp, by simp [hS]⟩, ag (by simp) (by simp [zx, iK])⟩ (λ ⟨k, r⟩ ⟨hk, hr, hv⟩ => ?_)
 simp only at hk hr hv ⊢
 by_cases hlt : k < 14
 ·obtain ⟨e1, e2⟩ := Ge hv
  have x1 := iM X k
  have y1 := iM Y k
  have ix1 := jB X hlt
  have ix2 := jB Y hlt
  generalize dgt X k = a at *
  generalize dgt Y k = b at *
  have hXl : k < (bK X).length := by rw [aU]; exact hlt
  have hYl : k < (bK Y).length := by rw [aU]; exact hlt
  have hMl : k < (mq k S 0).length := by rw [gE]; exact hlt
  obtain ⟨s1, hs1⟩ : ∃ z, r + a = z := ⟨_, rfl⟩
  obtain ⟨s2, hs2⟩ : ∃ z, s1 + b = z := ⟨_, rfl⟩
  rw [hs1, hs2] at e1 e2
  have k1 : w64 ((r : Int) + a) = s1 := by rw [aT (by unfold I64; omega)]; omega
  have k2 : w64 ((s1 : Int) + b) = s2 := by rw [aT (by unfold I64; omega)]; omega
  have n3 : (s2 : Int).tmod 1000 = (s2 % 1000 : Nat) := by rw [show (1000 : Int) = ((1000 : Nat) : Int) from rfl, ku]
  have n4 : (s2 : Int).tdiv 1000 = (s2 / 1000 : Nat) := by rw [show (1000 : Int) = ((1000 : Nat) : Int) from rfl, fV]
  obtain ⟨t1, ht1⟩ : ∃ z, s2 % 1000 = z := ⟨_, rfl⟩
  obtain ⟨t2, ht2⟩ : ∃ z, s2 / 1000 = z := ⟨_, rfl⟩
  rw [ht1] at n3 e1
  rw [ht2] at n4 e2
  have k5 : w64 (t2 : Int) = t2 := aT (by unfold I64; omega)
  have k6 : I64 ((k : Int) + 1) := by unfold I64; omega
  have hlt' : (k : Int) < 14 := by omega
  simp [hlt, hlt', aU, hXl, aa hXl, hYl, aa hYl, hMl, aa hMl, gE, ix1, ix2, k1, k2, n3, n4, k5, k6]
  exact ⟨k + 1, t2, ⟨by omega, by omega, e2⟩, by omega, ag (by simp) (by rw [<- e1, pL rfl hlt])⟩
 ·have hk14 : k = 14 := by omega
  subst hk14
  simp [aU, gE, Ee]
def Cw (x y : List Int) : Prop := IsD x /\ IsD y /\ vl y <= vl x
def oH : PSp := aC Cw (λ x y => Enc.enc (bK (vl x - vl y)))
theorem Q6 : PureOK prog G0 161 oH := by
 refine aX aK ae func161 rfl rfl rfl (by kernel_rfl) (by decide) (λ x y ⟨⟨ex, lx⟩, ⟨ey, ly⟩, hl⟩ => ?_)
 generalize vl x = X at *
 generalize vl y = Y at *
 subst ex ey
 obtain ⟨S, hS⟩ : ∃ S, X - Y = S := ⟨_, rfl⟩
 rw [hS]
 simp [aU]
 refine am aK ae (λ q : Nat × Int => ⟨[(0, Enc.enc (bK X)), (1, Enc.enc (bK Y)), (5, .own 0 14), (6, .int .i64 q.2), (7, .int .i64 q.1)], [⟨3, 1, ac (mq q.1 S 0), true, true⟩]⟩) (λ q => q.1 <= 14 /\ (q.2 = 0 ∨ q.2 = -1) /\ ((S / 1000 ^ q.1 : Nat) : Int) = q.2 + (X / 1000 ^ q.1 : Nat) - (Y / 1000 ^ q.1 : Nat)) (λ q => 14 - q.1) (by kernel_rfl) ⟨(0, 0), ⟨by simp, by simp, by simp; omega⟩, ag (by simp) (by simp [zx, iK])⟩ (λ ⟨k, r⟩ ⟨hk, hr, hv⟩ => ?_)
 simp only at hk hr hv ⊢
 by_cases hlt : k < 14
 ·obtain ⟨e1, e2⟩ := Gi hr hv
  have x1 := iM X k
  have y1 := iM Y k
  have ix1 := jB X hlt
  have ix2 := jB Y hlt
  generalize dgt X k = a at *
  generalize dgt Y k = b at *
  have hXl : k < (bK X).length := by rw [aU]; exact hlt
  have hYl : k < (bK Y).length := by rw [aU]; exact hlt
  have hMl : k < (mq k S 0).length := by rw [gE]; exact hlt
  obtain ⟨s1, hs1⟩ : ∃ z, r + (a : Int) = z := ⟨_, rfl⟩
  obtain ⟨s2, hs2⟩ : ∃ z, s1 - (b : Int) = z := ⟨_, rfl⟩
  rw [hs1, hs2] at e1 e2
  have k1 : w64 s1 = s1 := aT (by unfold I64; omega)
  have k2 : w64 s2 = s2 := aT (by unfold I64; omega)
  have k3 : w64 (s2 + 1000) = s2 + 1000 := aT (by unfold I64; omega)
  have k6 : I64 ((k : Int) + 1) := by unfold I64; omega
  have hlt' : (k : Int) < 14 := by omega
  by_cases hneg : s2 < 0
  ·obtain ⟨f1, f2⟩ := e1 hneg
   simp [hlt, hlt', aU, hXl, aa hXl, hYl, aa hYl, hMl, aa hMl, gE, ix1, ix2, hs1, hs2, k1, k2, k3, k6, hneg]
   exact ⟨k + 1, -1, ⟨by omega, by omega, f2⟩, by omega, ag (by simp) (by rw [pL f1.symm hlt])⟩
  ·obtain ⟨f1, f2⟩ := e2 hneg
   simp [hlt, hlt', aU, hXl, aa hXl, hYl, aa hYl, hMl, aa hMl, gE, ix1, ix2, hs1, hs2, k1, k2, k3, k6, hneg]
   exact ⟨k + 1, 0, ⟨by omega, by omega, f2⟩, by omega, ag (by simp) (by rw [pL f1.symm hlt])⟩
 ·have hk14 : k = 14 := by omega
  subst hk14
  simp [aU, gE, Ee]
theorem sE {X : Nat} (h : X < B14) : X / 1000 ^ 14 = 0 := Nat.div_eq_of_lt (by unfold B14 at h; simpa using h)
def rf (X Y : Nat) : Int := if X < Y then -1 else if Y < X then 1 else 0
def Jl (x y : List Int) : Prop := IsD x /\ IsD y
theorem wS {X Y k : Nat} (h : X / 1000 ^ (k + 1) = Y / 1000 ^ (k + 1)) : (dgt X k < dgt Y k -> X < Y) /\ (dgt X k = dgt Y k -> X / 1000 ^ k = Y / 1000 ^ k) := by
 have u := up1 X k
 have v := up1 Y k
 refine ⟨λ hl => ?_, λ he => by omega⟩
 have h1 : X / 1000 ^ k < Y / 1000 ^ k := by omega
 by_cases hxy : X < Y
 ·exact hxy
 ·have := Nat.div_le_div_right (c := 1000 ^ k) (show Y <= X by omega)
  omega
def vY : PSp := aC Jl (λ x y => .int .i64 (rf (vl x) (vl y)))
theorem Qc : PureOK prog G0 160 vY := by
 refine aX aK ae func160 rfl rfl rfl (by kernel_rfl) (by decide) (λ x y ⟨⟨ex, lx⟩, ⟨ey, ly⟩⟩ => ?_)
 generalize vl x = X at *
 generalize vl y = Y at *
 subst ex ey
 have i13 : I64 (13 : Int) := by unfold I64; omega
 simp [aU, i13]
 refine am aK ae (λ k : Nat => ⟨[(0, Enc.enc (bK X)), (1, Enc.enc (bK Y)), (5, .int .i64 ((k : Int) - 1))], []⟩) (λ k => k <= 14 /\ X / 1000 ^ k = Y / 1000 ^ k) (λ k => k) (by kernel_rfl) ⟨14, ⟨by omega, by rw [sE lx, sE ly]⟩, ag (by simp) rfl⟩ (λ k ⟨hk, hv⟩ => ?_)
 match k, hk, hv with
 | 0, hk, hv =>
  have e : rf X Y = 0 := by
   rw [pow_zero, div_one, div_one] at hv
   unfold rf
   rw [if_neg (by omega), if_neg (by omega)]
  simp [e]
 | k + 1, hk, hv =>
  have hlt : k < 14 := by omega
  obtain ⟨p1, p2⟩ := wS hv
  obtain ⟨p3, _⟩ := wS hv.symm
  have ix1 := jB X hlt
  have ix2 := jB Y hlt
  generalize dgt X k = a at *
  generalize dgt Y k = b at *
  have hXl : k < (bK X).length := by rw [aU]; exact hlt
  have hYl : k < (bK Y).length := by rw [aU]; exact hlt
  have q1 : ((k : Int) + 1 - 1) = k := by omega
  have hlt' : (k : Int) < 14 := by omega
  have i1 : I64 ((k : Int) - 1) := by unfold I64; omega
  rcases Nat.lt_trichotomy a b with h | h | h
  ·have e : rf X Y = -1 := by unfold rf; rw [if_pos (p1 h)]
   simp [q1, hlt, hlt', aU, hXl, aa hXl, hYl, aa hYl, ix1, ix2, h, e]
  ·subst h
   simp [q1, hlt, hlt', aU, hXl, aa hXl, hYl, aa hYl, ix1, ix2, i1]
   exact ⟨k, ⟨by omega, p2 rfl⟩, by omega, ag (by simp) rfl⟩
  ·have e : rf X Y = 1 := by unfold rf; have := p3 h; rw [if_neg (by omega), if_pos this]
   have h' : ¬ a < b := by omega
   simp [q1, hlt, hlt', aU, hXl, aa hXl, hYl, aa hYl, ix1, ix2, h, h', e]
def uE (x : List Int) (d : Int) : Prop := IsD x /\ 0 < d /\ d <= 1000000000000000
def qo : PSp := aC uE (λ x d => .tup [Enc.enc (bK (vl x / d.toNat)), .int .i64 ((vl x % d.toNat : Nat) : Int)])
def hiD (k S : Nat) : List Int := lw λ j => if j < k then 0 else dgt S j
theorem KU (k S : Nat) : (hiD k S).length = 14 := dR _
theorem Tz {k S : Nat} (h : k < 14) : ix (hiD (k + 1) S) k = 0 := by unfold hiD; rw [lZ _ h, if_pos (Nat.lt_succ_self k)]; rfl
theorem QI {k S : Nat} {v : Int} (hv : v = dgt S k) (hk : k < 14) : (hiD (k + 1) S).set k v = hiD k S := by
 refine wH (by rw [hv, if_neg (Nat.lt_irrefl k)]) λ j hj hne => ?_
 by_cases h : j < k
 ·rw [if_pos h, if_pos (by omega)]
 ·rw [if_neg h, if_neg (by omega)]
theorem MQ (S : Nat) : hiD 0 S = bK S := fc λ j _ => if_neg (Nat.not_lt_zero j)
theorem Pj (S : Nat) : hiD 14 S = List.replicate 14 0 := by rw [<- iK]; exact fc λ j h => by rw [if_pos h]; unfold dgt; simp
theorem PW : PureOK prog G0 153 qo := by
 refine aX aK ae func153 rfl rfl rfl (by kernel_rfl) (by decide) (λ x d ⟨⟨ex, lx⟩, d0, d1⟩ => ?_)
 generalize vl x = X at *
 subst ex
 obtain ⟨d, rfl⟩ := eq_ofNat_of_zero_le (a := d) (by omega)
 have hd : 0 < d := by omega
 have hdn : ¬ d = 0 := by omega
 rw [toNat_natCast]
 have i13 : I64 (13 : Int) := by unfold I64; omega
 simp [aU, i13]
 refine am aK ae (λ q : Nat × Nat => ⟨[(0, Enc.enc (bK X)), (1, .int .i64 d), (6, .own 0 14), (7, .int .i64 q.2), (8, .int .i64 ((q.1 : Int) - 1))], [⟨3, 1, ac (hiD q.1 (X / d)), true, true⟩]⟩) (λ q => q.1 <= 14 /\ q.2 = X / 1000 ^ q.1 % d) (λ q => q.1) (by kernel_rfl) ⟨(14, 0), ⟨by simp, by rw [sE lx]; simp⟩, ag (by simp) (by simp [Pj])⟩ (λ ⟨k, r⟩ ⟨hk, hv⟩ => ?_)
 simp only at hk hv ⊢
 match k, hk, hv with
 | 0, hk, hv =>
  rw [pow_zero, div_one] at hv
  simp [MQ, aU, hv]
 | k + 1, hk, hv =>
  have hlt : k < 14 := by omega
  obtain ⟨p1, p2⟩ := Gx (X := X) (k := k) hd
  rw [<- hv] at p1 p2
  have hr : r < d := by rw [hv]; exact mod_lt _ hd
  have x1 := iM X k
  have ix1 := jB X hlt
  have ix3 := Tz (S := X / d) hlt
  generalize dgt X k = a at *
  have hXl : k < (bK X).length := by rw [aU]; exact hlt
  have hMl : k < (hiD (k + 1) (X / d)).length := by rw [KU]; exact hlt
  have q1 : ((k : Int) + 1 - 1) = k := by omega
  have hlt' : (k : Int) < 14 := by omega
  have i1 : I64 ((k : Int) - 1) := by unfold I64; omega
  obtain ⟨s, hs⟩ : ∃ z, r * 1000 + a = z := ⟨_, rfl⟩
  rw [hs] at p1 p2
  have k1 : w64 ((r : Int) * 1000) = ((r * 1000 : Nat) : Int) := by rw [aT (by unfold I64; omega)]; omega
  have k2 : w64 (((r * 1000 : Nat) : Int) + a) = s := by rw [aT (by unfold I64; omega)]; omega
  obtain ⟨r1, hr1⟩ : ∃ z, r * 1000 = z := ⟨_, rfl⟩
  rw [hr1] at k1 k2
  have n3 : (s : Int).tmod d = (s % d : Nat) := ku s d
  have n4 : (s : Int).tdiv d = (s / d : Nat) := fV s d
  have l4 := div_le_self s d
  rw [p1] at n4 l4
  rw [p2] at n3
  obtain ⟨t1, ht1⟩ : ∃ z, dgt (X / d) k = z := ⟨_, rfl⟩
  obtain ⟨t2, ht2⟩ : ∃ z, X / 1000 ^ k % d = z := ⟨_, rfl⟩
  rw [ht1] at n4 l4
  rw [ht2] at n3
  have n5 : (s : Int) % d = t2 := by rw [<- n3, tmod_eq_emod_of_nonneg (by omega)]
  have n6 : (s : Int) / d = t1 := by rw [<- n4, Int.tdiv_eq_ediv_of_nonneg (by omega)]
  have k5 : w64 (t1 : Int) = t1 := aT (by unfold I64; omega)
  simp [q1, hlt, hlt', aU, hXl, aa hXl, hMl, aa hMl, KU, ix1, ix3, k1, k2, n3, n4, n5, n6, k5, i1, hdn]
  exact ⟨k, t2, ⟨by omega, ht2.symm⟩, by omega, ag (by simp) (by rw [QI (by rw [ht1]) hlt])⟩
def kf (x : List Int) : Prop := IsD x
def Cd (X : Nat) : Int × Bool := if X <= 1000000000000000 then (X, true) else (0, false)
def ig : PSp := aN kf (λ x => .tup [.int .i64 (Cd (vl x)).1, .bool (Cd (vl x)).2])
theorem M7 : PureOK prog G0 137 ig := by
 refine bj aK ae func137 rfl rfl rfl (by kernel_rfl) (by decide) (λ x ⟨ex, lx⟩ => ?_)
 generalize vl x = X at *
 subst ex
 have i13 : I64 (13 : Int) := by unfold I64; omega
 simp [aU, i13]
 refine am aK ae (λ q : Nat × Nat => ⟨[(0, Enc.enc (bK X)), (4, .int .i64 q.2), (5, .int .i64 ((q.1 : Int) - 1))], []⟩) (λ q => q.1 <= 14 /\ q.2 = X / 1000 ^ q.1 /\ q.2 <= 1000000000000999) (λ q => q.1) (by kernel_rfl) ⟨(14, 0), ⟨by simp, by rw [sE lx], by simp⟩, ag (by simp) rfl⟩ (λ ⟨k, r⟩ ⟨hk, hv, hr⟩ => ?_)
 simp only at hk hv hr ⊢
 match k, hk, hv with
 | 0, hk, hv =>
  rw [pow_zero, div_one] at hv
  subst hv
  by_cases h : 1000000000000000 < r
  ·have h' : (1000000000000000 : Int) < r := by omega
   have e : Cd r = (0, false) := if_neg (by omega)
   simp [h', e]
  ·have h' : ¬ (1000000000000000 : Int) < r := by omega
   have e : Cd r = ((r : Int), true) := if_pos (by omega)
   simp [h', e]
 | k + 1, hk, hv =>
  have hlt : k < 14 := by omega
  have u := up1 X k
  rw [<- hv] at u
  have x1 := iM X k
  have ix1 := jB X hlt
  generalize dgt X k = a at *
  have hXl : k < (bK X).length := by rw [aU]; exact hlt
  have q1 : ((k : Int) + 1 - 1) = k := by omega
  have hlt' : (k : Int) < 14 := by omega
  have i1 : I64 ((k : Int) - 1) := by unfold I64; omega
  by_cases hb : 1000000000000 < r
  ·have hb' : (1000000000000 : Int) < r := by omega
   have e : Cd X = (0, false) := if_neg (by
    have h1 : X / 1000 ^ k <= X := div_le_self _ _
    omega)
   simp [q1, hb', e]
  ·have hb' : ¬ (1000000000000 : Int) < r := by omega
   obtain ⟨s, hs⟩ : ∃ z, r * 1000 + a = z := ⟨_, rfl⟩
   have k1 : w64 ((r : Int) * 1000) = ((r * 1000 : Nat) : Int) := by rw [aT (by unfold I64; omega)]; omega
   have k2 : w64 (((r * 1000 : Nat) : Int) + a) = s := by rw [aT (by unfold I64; omega)]; omega
   obtain ⟨r1, hr1⟩ : ∃ z, r * 1000 = z := ⟨_, rfl⟩
   rw [hr1] at k1 k2
   simp [q1, hb', hlt, hlt', aU, hXl, aa hXl, ix1, k1, k2, i1]
   exact ⟨k, s, ⟨by omega, by omega, by omega⟩, by omega, ag (by simp) rfl⟩
def kg : PSp := aC (λ (a b : Int) => 0 <= a /\ 0 <= b /\ b <= 1000000000000000) (λ a b => .int .i64 (Int.gcd a b))
theorem Sw : PureOK prog G0 135 kg := by
 refine aX aK ae func135 rfl rfl rfl (by kernel_rfl) (by decide) (λ a b ⟨a0, b0, b1⟩ => ?_)
 simp
 refine am aK ae (λ q : Int × Int => ⟨[(0, .int .i64 q.1), (1, .int .i64 q.2)], []⟩) (λ q => 0 <= q.1 /\ 0 <= q.2 /\ q.2 <= 1000000000000000 /\ Int.gcd q.1 q.2 = Int.gcd a b) (λ q => q.2.toNat) (by kernel_rfl) ⟨(a, b), ⟨a0, b0, b1, rfl⟩, ah (by simp)⟩ (λ ⟨u, v⟩ ⟨p1, p2, p3, p4⟩ => ?_)
 simp only at p1 p2 p3 p4 ⊢
 by_cases hv' : 0 < v
 ·have hv : ¬ v = 0 := by omega
  have m1 := Int.emod_nonneg u hv
  have m2 := Int.emod_lt_of_pos u hv'
  have m3 := A3 hv' p1
  rw [tmod_eq_emod_of_nonneg p1] at m3
  have e3 := tmod_eq_emod_of_nonneg (b := v) p1
  simp [hv, hv', e3]
  exact ⟨v, u % v, ⟨p2, m1, by omega, by omega⟩, by omega, ah (by simp)⟩
 ·obtain rfl : v = 0 := by omega
  rw [Int.gcd_zero_right] at p4
  have e2 : u = Int.gcd a b := by omega
  simp [e2]
theorem JT : PureOK prog G0 136 gO := by
 refine bj aK ae func136 rfl rfl rfl (by kernel_rfl) (by decide) (λ n h => ?_)
 have h' := h
 unfold InR at h
 by_cases h1 : n < 0
 ·have e := pP (n := n) (by omega)
  have i1 : IntKind.wrap .i64 (-n) = -n := IntWalk.i64_in _ (by omega)
  simp [e, i1, h1]
 ·have e := pJ (n := n) (by omega)
  simp [e, h1]
def ns : PSp := aN (λ (_ : Int) => True) (λ n => .int .i64 (sgn n))
theorem Nx : PureOK prog G0 139 ns := by
 refine bj aK ae func139 rfl rfl rfl (by kernel_rfl) (by decide) (λ n _ => ?_)
 by_cases h1 : n < 0
 ·simp [sgn, h1]
 ·by_cases h2 : 0 < n
  ·simp [sgn, h1, h2]
  ·simp [sgn, h1, h2]
noncomputable def CVR : Ctx := mkC prog G0 [(136, .pure gO), (135, .pure kg)]
@[simp] theorem XE : CVR.P = prog := rfl
@[simp] theorem Xm : CVR.G = G0 := rfl
@[simp] theorem Yh : CVR.S 136 = .pure gO /\ CVR.S 135 = .pure kg := ⟨rfl, rfl⟩
theorem Pp : au CVR := ap (JT) func136 (ap (Sw) func135 (ak _ _))
theorem uI (a b : Int) : Int.gcd (aV a) b = Int.gcd a b := by unfold aV Int.gcd; rw [natAbs_natCast]
theorem d8 : PureOK prog G0 133 ax := by
 refine bj Pp ae func133 rfl rfl rfl (by kernel_rfl) (by decide) (λ a _ => ?_)
 obtain ⟨n, d⟩ := a
 by_cases h1 : 1 <= d
 case neg => simp [h1, aj]
 by_cases h2 : d <= 1000000000000000
 case neg => simp [h1, h2, aj]
 by_cases h3 : -1000000000000000 <= n
 case neg => simp [h1, h2, h3, aj, InR]
 by_cases h4 : n <= 1000000000000000
 case neg => simp [h1, h2, h3, h4, aj, InR]
 have hR : InR n := ⟨h3, h4⟩
 have e2 : ((Int.gcd n d : Nat) : Int) = 1 ↔ Int.gcd n d = 1 := by omega
 have a0 := ip n
 have d0 : 0 <= d := by omega
 simp [gO, kg, h1, h2, h3, h4, hR, a0, d0, uI, e2, aj]
def Fo (s : Int) (n : Nat) : Prop := (s = 0 /\ n = 0) ∨ ((s = 1 ∨ s = -1) /\ 0 < n)
structure PreSum (s : Int) (x : List Int) (t : Int) (y : List Int) : Prop where
 hx : IsD x
 hy : IsD y
 hs : Fo s (vl x)
 ht : Fo t (vl y)
 lt : vl x + vl y < B14
def jp (s : Int) (x : List Int) (t : Int) (y : List Int) : Int := s * vl x + t * vl y
def j9 : PSp := Ez PreSum (λ s x t y => .tup [.int .i64 (sgn (jp s x t y)), Enc.enc (bK (jp s x t y).natAbs)])
noncomputable def CSm : Ctx := mkC prog G0 [(159, .frz qv), (160, .pure vY), (161, .pure oH)]
@[simp] theorem Y8 : CSm.P = prog := rfl
@[simp] theorem Zm : CSm.G = G0 := rfl
@[simp] theorem Zn : CSm.S 159 = .frz qv /\ CSm.S 160 = .pure vY /\ CSm.S 161 = .pure oH := ⟨rfl, rfl, rfl⟩
theorem H6 : au CSm := aL (oF (S9) func159 rfl (by decide)) (ap (Qc) func160 (ap (Q6) func161 (ak _ _)))
def Z14 (H : List Blk) (i : Nat) : Prop := ∃ mu, H[i]? = some ⟨3, 1, ac (bK 0), mu, true⟩
structure JSum (L : Nat -> Bool) (st : ASt) : Prop where
 v0 : L 0 = true -> ∃ i, aZ st.ρ 31 = .own i 14 /\ Z14 st.H i
 v1 : L 1 = true -> ∃ i, aZ st.ρ 32 = .own i 14 /\ Z14 st.H i
 v2 : L 2 = true -> aZ st.ρ 33 = .slice 1 false (ac (bK 0))
 v3 : L 3 = true -> aZ st.ρ 8 = .int .i64 0
 v4 : L 4 = true -> aZ st.ρ 9 = .slice 1 false (ac (bK 0))
theorem Z14.snoc {H : List Blk} {i : Nat} (h : Z14 H i) (b : Blk) : Z14 (H ++ [b]) i := by
 obtain ⟨mu, h⟩ := h
 exact ⟨mu, by rw [List.getElem?_append_left (List.getElem?_eq_some_iff.1 h).1]; exact h⟩
theorem Z14.frz {H : List Blk} {i : Nat} (h : Z14 H i) (ls : List Nat) : Z14 (jY ls 0 H) i := by
 obtain ⟨mu, h⟩ := h
 unfold Z14
 rw [mD, h]
 simp only [Option.map_some, Nat.zero_add]
 split
 ·exact ⟨false, rfl⟩
 ·exact ⟨mu, rfl⟩
theorem EI {s : Int} {n : Nat} (h : Fo s n) : s * n = if s = 0 then 0 else if s = 1 then (n : Int) else -(n : Int) := by
 rcases h with ⟨rfl, rfl⟩ | ⟨rfl | rfl, h⟩
 ·rfl
 ·simp
 ·simp
theorem Um : PureOK prog G0 144 j9 := by
 refine QJ H6 ae func144 rfl rfl rfl [7] (by kernel_rfl) (by decide) (λ s x t y H => ?_)
 have hV : jp s x t y = (if s = 0 then 0 else if s = 1 then (vl x : Int) else -(vl x : Int)) + (if t = 0 then 0 else if t = 1 then (vl y : Int) else -(vl y : Int)) := by unfold jp; rw [EI H.hs, EI H.ht]
 have hx := H.hx
 have hy := H.hy
 have hs := H.hs
 have ht := H.ht
 have hlt := H.lt
 have pa : BP x y := ⟨hx, hy, hlt⟩
 have po : Jl x y := ⟨hx, hy⟩
 rcases em2 (s = t) with h1 | h1
 ·have e : jp s x t y = s * ((vl x + vl y : Nat) : Int) := by unfold jp; rw [<- of_eq_true h1, Int.natCast_add, Int.mul_add]
  have e1 : sgn (jp s x t y) = s /\ (jp s x t y).natAbs = vl x + vl y := by
   rw [e]
   rcases hs with ⟨rfl, h⟩ | ⟨rfl | rfl, h⟩
   ·have := of_eq_true h1
    rcases ht with ⟨_, h'⟩ | ⟨h' | h', _⟩
    ·rw [h, h']; exact ⟨rfl, rfl⟩
    ·omega
    ·omega
   ·unfold sgn; refine ⟨?_, by omega⟩; rw [if_neg (by omega), if_pos (by omega)]
   ·unfold sgn; refine ⟨?_, by omega⟩; rw [if_pos (by omega)]
  simp [h1, qv, pa, e1]
 have h1' := of_eq_false h1
 rcases em2 (t = 0) with h2 | h2
 ·have e1 : sgn (jp s x t y) = s /\ (jp s x t y).natAbs = vl x + vl y := by
   have ht0 := of_eq_true h2
   have hy0 : vl y = 0 := by rcases ht with ⟨_, h⟩ | ⟨h, _⟩ <;> omega
   rw [hV, if_pos ht0, hy0]
   rcases hs with ⟨rfl, h⟩ | ⟨rfl | rfl, h⟩
   ·exact absurd ht0.symm h1'
   ·refine ⟨?_, by simp⟩
    simp [sgn]
    omega
   ·refine ⟨?_, by simp⟩
    simp [sgn]
    omega
  simp [h1, h2, qv, pa, e1]
 have h2' := of_eq_false h2
 rcases em2 (s = 0) with h3 | h3
 ·have e1 : sgn (jp s x t y) = t /\ (jp s x t y).natAbs = vl y := by
   have hs0 := of_eq_true h3
   have hx0 : vl x = 0 := by rcases hs with ⟨_, h⟩ | ⟨h, _⟩ <;> omega
   rw [hV, if_pos hs0]
   rcases ht with ⟨rfl, h⟩ | ⟨rfl | rfl, h⟩
   ·exact absurd rfl h2'
   ·refine ⟨?_, by simp⟩
    simp [sgn]
    omega
   ·refine ⟨?_, by simp⟩
    simp [sgn]
    omega
  have e2 : bK (vl y) = y := hy.eq.symm
  simp [h1, h2, h3, e1, e2]
 have h3' := of_eq_false h3
 have hst : t = -s /\ (s = 1 ∨ s = -1) := by
  rcases hs with ⟨h, _⟩ | ⟨h, _⟩ <;> rcases ht with ⟨h', _⟩ | ⟨h', _⟩ <;> omega
 have e0 : jp s x t y = s * ((vl x : Int) - vl y) := by unfold jp; rw [hst.1, Int.mul_sub, neg_mul]; omega
 rcases Nat.lt_trichotomy (vl x) (vl y) with hc | hc | hc
 ·have eo : rf (vl x) (vl y) = -1 := by unfold rf; rw [if_pos hc]
  have e1 : sgn (jp s x t y) = t /\ (jp s x t y).natAbs = vl y - vl x := by
   rw [e0, hst.1]
   rcases hst.2 with rfl | rfl
   ·refine ⟨?_, by omega⟩; unfold sgn; rw [if_pos (by omega)]
   ·refine ⟨?_, by omega⟩; unfold sgn; rw [if_neg (by omega), if_pos (by omega)]; rfl
  have ps : Cw y x := ⟨hy, hx, by omega⟩
  simp [h1, h2, h3, vY, oH, po, ps, eo, e1]
 ·have eo : rf (vl x) (vl y) = 0 := by unfold rf; rw [if_neg (by omega), if_neg (by omega)]
  have e1 : sgn (jp s x t y) = 0 /\ (jp s x t y).natAbs = 0 := by
   rw [e0, hc, Int.sub_self, Int.mul_zero]
   exact ⟨rfl, rfl⟩
  have hz : vl (bK 0) = 0 := gA (by decide)
  have pz : BP (bK 0) (bK 0) := ⟨ef (by decide), ef (by decide), by rw [hz]; decide⟩
  simp [h1, h2, h3, vY, po, eo, e1]
  refine GT H6 ae [[], [], [0, 1], [2], [2, 3, 0, 1, 2, 3]] (by kernel_rfl) (by kernel_rfl) JSum ?_ ?_ ?_ ?_
  ·exact ⟨λ h => by simp at h, λ h => by simp at h, λ h => by simp at h, λ h => by simp at h, λ h => by simp at h⟩
  ·intro k o ho L st' hI hLi hd
   obtain ⟨ρ, H⟩ := st'
   match k, ho with
   | 0, ho =>
    have ho := Option.some.inj ho
    subst ho
    simp
    refine ⟨λ _ => ⟨H.length, by simp, ⟨true, by simp [iK]⟩⟩, λ h => ?_, λ h => by simpa using hI.v2 (by simpa using h), λ h => by simpa using hI.v3 (by simpa using h), λ h => by simpa using hI.v4 (by simpa using h)⟩
    obtain ⟨i, q1, q2⟩ := hI.v1 (by simpa using h)
    exact ⟨i, by simpa using q1, q2.snoc _⟩
   | 1, ho =>
    have ho := Option.some.inj ho
    subst ho
    simp
    refine ⟨λ h => ?_, λ _ => ⟨H.length, by simp, ⟨true, by simp [iK]⟩⟩, λ h => by simpa using hI.v2 (by simpa using h), λ h => by simpa using hI.v3 (by simpa using h), λ h => by simpa using hI.v4 (by simpa using h)⟩
    obtain ⟨i, q1, q2⟩ := hI.v0 (by simpa using h)
    exact ⟨i, by simpa using q1, q2.snoc _⟩
   | 2, ho =>
    have ho := Option.some.inj ho
    subst ho
    obtain ⟨i, q1, m1, q2⟩ := hI.v0 (hd 0 (by simp))
    obtain ⟨j, q3, m2, q4⟩ := hI.v1 (hd 1 (by simp))
    simp at q1 q2 q3 q4
    simp [q1, q2, q3, q4, aU, qv, pz, hz]
    exact ⟨λ h => ⟨i, by simpa using q1, Z14.frz ⟨m1, q2⟩ _⟩, λ h => ⟨j, by simpa using q3, Z14.frz ⟨m2, q4⟩ _⟩, λ h => by simp, λ h => by simpa using hI.v3 (by simpa using h), λ h => by simpa using hI.v4 (by simpa using h)⟩
   | 3, ho =>
    have ho := Option.some.inj ho
    subst ho
    simp
    refine ⟨λ h => ?_, λ h => ?_, λ h => by simpa using hI.v2 (by simpa using h), λ h => by simp, λ h => by simpa using hI.v4 (by simpa using h)⟩
    ·obtain ⟨i, q1, q2⟩ := hI.v0 (by simpa using h)
     exact ⟨i, by simpa using q1, q2⟩
    ·obtain ⟨i, q1, q2⟩ := hI.v1 (by simpa using h)
     exact ⟨i, by simpa using q1, q2⟩
   | 4, ho =>
    have ho := Option.some.inj ho
    subst ho
    have q := hI.v2 (hd 2 (by simp))
    simp at q
    simp [q]
    refine ⟨λ h => ?_, λ h => ?_, λ h => by simpa using hI.v2 (by simpa using h), λ h => by simpa using hI.v3 (by simpa using h), λ h => by simp⟩
    ·obtain ⟨i, q1, q2⟩ := hI.v0 (by simpa using h)
     exact ⟨i, by simpa using q1, q2⟩
    ·obtain ⟨i, q1, q2⟩ := hI.v1 (by simpa using h)
     exact ⟨i, by simpa using q1, q2⟩
   | k + 5, ho => simp at ho
  ·intro L st' hI hall
   obtain ⟨ρ, H⟩ := st'
   have q1 := hI.v3 (hall 3 (by decide))
   have q2 := hI.v4 (hall 4 (by decide))
   simp at q1 q2
   simp [q1, q2]
  ·intro L L' st' he hI
   exact ⟨λ h => hI.v0 (by rw [he]; exact h), λ h => hI.v1 (by rw [he]; exact h), λ h => hI.v2 (by rw [he]; exact h), λ h => hI.v3 (by rw [he]; exact h), λ h => hI.v4 (by rw [he]; exact h)⟩
 ·have eo : rf (vl x) (vl y) = 1 := by unfold rf; rw [if_neg (by omega), if_pos hc]
  have e1 : sgn (jp s x t y) = s /\ (jp s x t y).natAbs = vl x - vl y := by
   rw [e0]
   rcases hst.2 with rfl | rfl
   ·refine ⟨?_, by omega⟩; unfold sgn; rw [if_neg (by omega), if_pos (by omega)]
   ·refine ⟨?_, by omega⟩; unfold sgn; rw [if_pos (by omega)]
  have ps : Cw x y := ⟨hx, hy, by omega⟩
  simp [h1, h2, h3, vY, oH, po, ps, eo, e1]
noncomputable def CFR : Ctx := mkC prog G0 [(133, .pure ax), (136, .pure gO), (135, .pure kg), (139, .pure ns), (138, .pure d6), (137, .pure ig), (144, .pure j9), (153, .pure qo)]
@[simp] theorem Xo : CFR.P = prog := rfl
@[simp] theorem YN : CFR.G = G0 := rfl
@[simp] theorem Za : CFR.S 133 = .pure ax /\ CFR.S 136 = .pure gO /\ CFR.S 135 = .pure kg /\ CFR.S 139 = .pure ns /\ CFR.S 138 = .pure d6 /\ CFR.S 137 = .pure ig /\ CFR.S 144 = .pure j9 /\ CFR.S 153 = .pure qo := ⟨rfl, rfl, rfl, rfl, rfl, rfl, rfl, rfl⟩
theorem JC : au CFR := ap (d8) func133 (ap (JT) func136 (ap (Sw) func135 (ap (Nx) func139 (ap (J5) func138 (ap (M7) func137 (ap (Um) func144 (ap (PW) func153 (ak _ _))))))))
theorem cJ {n : Nat} (h : n <= 4000000000000000000000000000000) : n < B14 := by unfold B14; omega
theorem oM {a b : Int} (ha : 0 <= a /\ a <= 1000000000000000) (hb : 0 <= b /\ b <= 1000000000000000) : a.toNat * b.toNat <= 1000000000000000000000000000000 := mul_le_mul (n₂ := 1000000000000000) (m₂ := 1000000000000000) (by omega) (by omega)
theorem yx {X : Nat} : Cd X = if InR (X : Int) then ((X : Int), true) else (0, false) := by
 unfold Cd
 have : X <= 1000000000000000 ↔ InR (X : Int) := by unfold InR; omega
 by_cases h : X <= 1000000000000000
 ·rw [if_pos h, if_pos (this.1 h)]
 ·rw [if_neg h, if_neg (mt this.2 h)]
theorem Uk {a : Int} {g : Nat} (h : 0 <= a) : a.tdiv g = ((a.toNat / g : Nat) : Int) := by
 obtain ⟨n, rfl⟩ := eq_ofNat_of_zero_le h
 rw [fV, toNat_natCast]
theorem DP (n : Int) : sgn n * aV n = n := by
 unfold sgn aV
 split
 ·omega
 ·split <;> omega
theorem ui (n : Int) (g : Nat) : sgn n * (aV n).tdiv g = n.tdiv g := by
 by_cases h : n < 0
 ·rw [pP (by omega), Int.neg_tdiv]
  unfold sgn
  rw [if_pos h]
  omega
 ·rw [pJ (by omega)]
  unfold sgn
  by_cases h0 : 0 < n
  ·rw [if_neg h, if_pos h0]; omega
  ·obtain rfl : n = 0 := by omega
   simp
theorem EG (n : Int) : sgn n = -1 ∨ sgn n = 0 ∨ sgn n = 1 := by
 unfold sgn
 split
 ·exact .inl rfl
 ·split
  ·exact .inr (.inr rfl)
  ·exact .inr (.inl rfl)
theorem kQ {a : Int} {g : Nat} (h : 0 <= a /\ a <= 1000000000000000) : 0 <= a.tdiv g /\ a.tdiv g <= 1000000000000000 := by
 rw [Uk h.1]
 have := div_le_self a.toNat g
 generalize a.toNat / g = z at *
 omega
theorem BS {s z : Int} (hs : s = -1 ∨ s = 0 ∨ s = 1) (hz : s = 0 -> z = 0) : InR (s * z) ↔ InR z := by
 unfold InR
 rcases hs with rfl | rfl | rfl
 ·omega
 ·rw [hz rfl]; simp
 ·omega
theorem DZ {s z y : Int} (hs : s = -1 ∨ s = 0 ∨ s = 1) (hz : s = 0 -> z = 0) : mo (s * z) y = if InR z /\ InR y then (⟨s * z, y⟩, true) else (F00, false) := by
 unfold mo
 have := BS hs hz
 by_cases h : InR z <;> by_cases h' : InR y <;> simp [this, h, h']
theorem Gs (a b : Int) : sgn a * sgn b = -1 ∨ sgn a * sgn b = 0 ∨ sgn a * sgn b = 1 := by
 rcases EG a with h | h | h <;> rcases EG b with h' | h' | h' <;> rw [h, h'] <;> decide
theorem oI {a : Int} (h : sgn a = 0) : a = 0 := by
 unfold sgn at h
 split at h
 ·omega
 ·split at h
  ·omega
  ·omega
theorem V7 : PureOK prog G0 107 iR := by
 refine aX JC ae func107 rfl rfl rfl (by kernel_rfl) (by decide) (λ a b _ => ?_)
 by_cases ha : aj a
 case neg =>
  have e := sA (a := a) (b := b) (λ h => ha h.1)
  simp [ax, ha, e, F00]
 by_cases hb : aj b
 case neg =>
  have e := sA (a := a) (b := b) (λ h => hb h.2)
  simp [ax, ha, hb, e, F00]
 have e := wU ha hb
 have ha' := ha
 have hb' := hb
 obtain ⟨a1, a2, a3, a4⟩ := ha'
 obtain ⟨b1, b2, b3, b4⟩ := hb'
 have a5 : InR a.D := by unfold InR; omega
 have b5 : InR b.D := by unfold InR; omega
 obtain ⟨g0, g1⟩ := vg a3 b5 (by omega)
 obtain ⟨h0, h1⟩ := vg b3 a5 (by omega)
 have i1 := uI a.N b.D
 have i2 := uI b.N a.D
 generalize Int.gcd a.N b.D = g at *
 generalize Int.gcd b.N a.D = h at *
 have p1 := kQ (g := g) (gV a3)
 have p2 := kQ (g := h) (gV b3)
 have p3 := kQ (a := a.D) (g := h) ⟨by omega, by omega⟩
 have p4 := kQ (a := b.D) (g := g) ⟨by omega, by omega⟩
 have s1 := ui a.N g
 have s2 := ui b.N h
 have A0 := ip a.N
 have B0 := ip b.N
 generalize hx1 : (aV a.N).tdiv g = x1 at *
 generalize hx2 : (aV b.N).tdiv h = x2 at *
 generalize hy1 : a.D.tdiv h = y1 at *
 generalize hy2 : b.D.tdiv g = y2 at *
 have q1 : w64 x1 = x1 := aT (by unfold I64; omega)
 have q2 : w64 x2 = x2 := aT (by unfold I64; omega)
 have q3 : w64 y1 = y1 := aT (by unfold I64; omega)
 have q4 : w64 y2 = y2 := aT (by unfold I64; omega)
 have t1 := oM p1 p2
 have t2 := oM p3 p4
 have v1 := gA (cJ (n := x1.toNat * x2.toNat) (by omega))
 have v2 := gA (cJ (n := y1.toNat * y2.toNat) (by omega))
 have d1 : kf (bK (x1.toNat * x2.toNat)) := ef (cJ (by omega))
 have d2 : kf (bK (y1.toNat * y2.toNat)) := ef (cJ (by omega))
 have g2 : ¬ g = 0 := by omega
 have h2 : ¬ h = 0 := by omega
 have ad0 : 0 <= a.D := by omega
 have bd0 : 0 <= b.D := by omega
 have c1 : ((x1.toNat * x2.toNat : Nat) : Int) = x1 * x2 := by rw [natCast_mul, toNat_of_nonneg p1.1, toNat_of_nonneg p2.1]
 have c2 : ((y1.toNat * y2.toNat : Nat) : Int) = y1 * y2 := by rw [natCast_mul, toNat_of_nonneg p3.1, toNat_of_nonneg p4.1]
 have n1 := yx (X := x1.toNat * x2.toNat)
 have n2 := yx (X := y1.toNat * y2.toNat)
 rw [c1] at n1
 rw [c2] at n2
 have hσ := Gs a.N b.N
 have hz : sgn a.N * sgn b.N = 0 -> x1 * x2 = 0 := λ h => by
  rcases Int.mul_eq_zero.1 h with h | h
  ·have : x1 = 0 := by rw [<- hx1, oI h]; simp [aV]
   rw [this, Int.zero_mul]
  ·have : x2 = 0 := by rw [<- hx2, oI h]; simp [aV]
   rw [this, Int.mul_zero]
 have em : lC a b = mo (sgn a.N * sgn b.N * (x1 * x2)) (y1 * y2) := by
  rw [e, <- s1, <- s2, show sgn a.N * x1 * (sgn b.N * x2) = sgn a.N * sgn b.N * (x1 * x2) by ac_rfl]
 rw [DZ hσ hz] at em
 have w1 : w64 (sgn a.N * sgn b.N) = sgn a.N * sgn b.N := aT (by unfold I64; omega)
 have w2 : InR (x1 * x2) -> w64 (sgn a.N * sgn b.N * (x1 * x2)) = sgn a.N * sgn b.N * (x1 * x2) := λ h => sZ ((BS hσ hz).2 h)
 obtain ⟨σ, hσe⟩ : ∃ σ, sgn a.N * sgn b.N = σ := ⟨_, rfl⟩
 rw [hσe] at em w1 w2
 obtain ⟨X, hX⟩ : ∃ X, x1.toNat * x2.toNat = X := ⟨_, rfl⟩
 obtain ⟨Y, hY⟩ : ∃ Y, y1.toNat * y2.toNat = Y := ⟨_, rfl⟩
 rw [hX] at v1 d1 n1
 rw [hY] at v2 d2 n2
 by_cases u1 : InR (x1 * x2)
 ·rw [if_pos u1] at n1
  have w2 := w2 u1
  by_cases u2 : InR (y1 * y2)
  ·rw [if_pos u2] at n2
   rw [if_pos ⟨u1, u2⟩] at em
   simp [ax, gO, kg, d6, ig, ns, ha, hb, a3, b3, A0, B0, ad0, bd0, a2, b2, i1, i2, g2, h2, hx1, hx2, hy1, hy2, q1, q2, q3, q4, p1, p2, p3, p4, hX, hY, v1, v2, d1, d2, n1, n2, em, hσe, w1, w2]
  ·rw [if_neg u2] at n2
   rw [if_neg (λ h => u2 h.2)] at em
   simp [ax, gO, kg, d6, ig, ns, ha, hb, a3, b3, A0, B0, ad0, bd0, a2, b2, i1, i2, g2, h2, hx1, hx2, hy1, hy2, q1, q2, q3, q4, p1, p2, p3, p4, hX, hY, v1, v2, d1, d2, n1, n2, em, hσe, w1, w2, F00]
 ·rw [if_neg u1] at n1
  rw [if_neg (λ h => u1 h.1)] at em
  simp [ax, gO, kg, d6, ig, ns, ha, hb, a3, b3, A0, B0, ad0, bd0, a2, b2, i1, i2, g2, h2, hx1, hx2, hy1, hy2, q1, q2, q3, q4, p1, p2, p3, p4, hX, hY, v1, v2, d1, d2, n1, n2, em, hσe, w1, F00]
structure B8 where
 v : Int
instance : Enc B8 where
 sz := 1
 cells b := [.int .u8 b.v]
 enc b := .int .u8 b.v
 unc l := match l with | [.int _ n] => ⟨n⟩ | _ => ⟨0⟩
 dec v := match v with | .int _ n => ⟨n⟩ | _ => ⟨0⟩
 unc_cells _ := rfl
 dec_enc _ := rfl
@[simp] theorem VT (b : B8) : Enc.enc b = .int .u8 b.v := rfl
@[simp] theorem Va (k : IntKind) (n : Int) : (Enc.dec (.int k n) : B8) = ⟨n⟩ := rfl
theorem Hn {P : Program} {G : Nat -> AV} {f : FuncId} {α β : Type} [Enc α] [Enc β] {pre : α -> β -> Prop} {res : α -> β -> AV} (m : α -> β -> Nat) (h : ∀ n, PureOK P G f (aC (λ a b => pre a b /\ m a b <= n) res)) : PureOK P G f (aC pre res) := by
 intro w X args avs ob r hX hG hsz harg hp hob
 match avs, hp with
 | [a, b], hp =>
  simp only [aC, Option.some.injEq, Prod.mk.injEq] at hp
  obtain ⟨rfl, rfl⟩ := hp
  exact h (m (Enc.dec a) (Enc.dec b)) w X args [a, b] _ _ hX hG hsz harg rfl ⟨hob.1, hob.2.1, hob.2.2, Nat.le_refl _⟩
def fp (c : Int) : Bool := decide (97 <= c /\ c <= 122) || decide (65 <= c /\ c <= 90)
def g7 (c : Int) : Bool := fp c || decide (48 <= c /\ c <= 57) || decide (c = 95)
def dW (s : ByteArray) : Bool := decide (1 <= s.size /\ s.size <= 20 /\ fp (btA s 0) = true /\ ∀ j, j < s.size -> g7 (btA s j) = true)
theorem oX {c : Int} (h : fp c = true) : g7 c = true := by simp [g7, h]
theorem rM {s : ByteArray} {j : Nat} (h : j < s.size) (hc : g7 (btA s j) = false) : dW s = false := by
 unfold dW
 simp only [decide_eq_false_iff_not]
 rintro ⟨_, _, _, h4⟩
 rw [h4 j h] at hc
 cases hc
theorem LK : PureOK prog G0 119 (aN (λ (_ : B8) => True) (λ c => .bool (fp c.v))) := by
 refine bj aK ae func119 rfl rfl rfl (by kernel_rfl) (by decide) (λ ⟨c⟩ _ => ?_)
 by_cases h1 : 97 <= c <;> by_cases h2 : c <= 122 <;> by_cases h3 : 65 <= c <;> by_cases h4 : c <= 90 <;> simp [fp, h1, h2, h3, h4]
def ik : PSp := aN (λ (_ : B8) => True) (λ c => .bool (fp c.v))
noncomputable def CL : Ctx := mkC prog G0 [(119, .pure ik)]
@[simp] theorem ZN : CL.P = prog := rfl
@[simp] theorem ZJ : CL.G = G0 := rfl
@[simp] theorem Zv : CL.S 119 = .pure ik := rfl
theorem N9 : au CL := ap (LK) func119 (ak _ _)
theorem BO {s : ByteArray} (h0 : ¬ s.size = 0) (h1 : ¬ 20 < s.size) (h2 : fp (btA s 0) = true) (h : ∀ j, j < s.size -> g7 (btA s j) = true) : dW s = true := by
 unfold dW
 simp only [decide_eq_true_eq]
 exact ⟨by omega, by omega, h2, h⟩
theorem Ac {s : ByteArray} (h2 : fp (btA s 0) = false) : dW s = false := by
 unfold dW
 simp [h2]
theorem Do {s : ByteArray} (h : s.size = 0) : s = ⟨#[]⟩ := Lr (by rw [h]; rfl) λ i hi => by omega
theorem NF : PureOK prog G0 80 (aN (λ (_ : ByteArray) => True) (λ s => .bool (dW s))) := by
 refine bj N9 ae func80 rfl rfl rfl (by kernel_rfl) (by decide) (λ s _ => ?_)
 by_cases h0 : s.size = 0
 ·have e := Do h0
  subst e
  have en : dW ⟨#[]⟩ = false := by simp [dW]; intro h; exact absurd h (by decide)
  have h0' : ((⟨#[]⟩ : ByteArray).size : Int) < 1 := by decide
  simp [en, h0']
 have e : ¬ (s.size : Int) < 1 := by omega
 by_cases h1 : 20 < s.size
 ·have h1' : (20 : Int) < s.size := by omega
  have en : dW s = false := by simp [dW]; omega
  simp [h1', e, en]
 have h1' : ¬ (20 : Int) < s.size := by omega
 have hpos : 0 < s.size := by omega
 have hpos' : (0 : Int) < s.size := by omega
 cases h2 : fp (btA s 0)
 ·simp [h1', e, hpos, hpos', ik, h2, Ac h2]
 ·simp [h1', e, hpos, hpos', ik, h2]
  refine am N9 ae (λ i : Nat => ⟨[(0, .str s), (3, .int .i64 i)], []⟩) (λ i => i <= s.size /\ ∀ j, j < i -> g7 (btA s j) = true) (λ i => s.size - i) (by kernel_rfl) ⟨1, ⟨by omega, λ j hj => by rw [show j = 0 by omega]; exact oX h2⟩, ah (by simp)⟩ (λ i ⟨hi, hall⟩ => ?_)
  by_cases hlt : i < s.size
  ·have i1 : I64 ((i : Int) + 1) := by unfold I64; omega
   have step : g7 (btA s i) = true -> ∀ j, j < i + 1 -> g7 (btA s j) = true := λ hc j hj => by
    rcases lt_or_ge j i with h | h
    ·exact hall j h
    ·rw [show j = i by omega]; exact hc
   cases h3 : fp (btA s i)
   ·by_cases h6 : btA s i = 95
    ·have h6' : (btA s i : Int) = 95 := by omega
     have hn : g7 (btA s i) = true := by simp [g7, h6]
     have h3' : fp 95 = false := by rw [h6'] at h3; exact h3
     simp [hlt, ik, h3, h3', h6, h6', i1]
     exact ⟨i + 1, ⟨by omega, step hn⟩, by omega, ah (by simp)⟩
    ·have h6' : ¬ (btA s i : Int) = 95 := by omega
     by_cases h4 : (btA s i : Int) < 48
     ·have hn : g7 (btA s i) = false := by simp [g7, h3]; omega
      have h4' : btA s i < 48 := by omega
      simp [hlt, ik, h3, h4, h4', h6, h6', rM hlt hn]
     ·have h4' : ¬ btA s i < 48 := by omega
      by_cases h5 : 57 < (btA s i : Int)
      ·have h5' : 57 < btA s i := by omega
       have hn : g7 (btA s i) = false := by simp [g7, h3]; omega
       simp [hlt, ik, h3, h4, h4', h5, h5', h6, h6', rM hlt hn]
      ·have h5' : ¬ 57 < btA s i := by omega
       have hn : g7 (btA s i) = true := by simp [g7]; omega
       simp [hlt, ik, h3, h4, h4', h5, h5', h6, h6', i1]
       exact ⟨i + 1, ⟨by omega, step hn⟩, by omega, ah (by simp)⟩
   ·simp [hlt, ik, h3, i1]
    exact ⟨i + 1, ⟨by omega, step (oX h3)⟩, by omega, ah (by simp)⟩
  ·have en := BO h0 h1 h2 (λ j hj => hall j (by omega))
   simp [hlt, en]
def iX : PSp := aN (λ (_ : ByteArray) => True) (λ s => .bool (dW s))
def fL {α β γ δ ε : Type} [Enc α] [Enc β] [Enc γ] [Enc δ] [Enc ε] (pre : α -> β -> γ -> δ -> ε -> Prop) (res : α -> β -> γ -> δ -> ε -> AV) : List AV -> Option (Prop × AV)
 | [a, b, c, d, e] => some (cM a = Enc.enc (Enc.dec a : α) /\ cM b = Enc.enc (Enc.dec b : β) /\ cM c = Enc.enc (Enc.dec c : γ) /\ cM d = Enc.enc (Enc.dec d : δ) /\ cM e = Enc.enc (Enc.dec e : ε) /\ pre (Enc.dec a) (Enc.dec b) (Enc.dec c) (Enc.dec d) (Enc.dec e), res (Enc.dec a) (Enc.dec b) (Enc.dec c) (Enc.dec d) (Enc.dec e))
 | _ => none
theorem Sn {C : Ctx} (hS : au C) (hM : C.P.follows .mixedOrders = true) {f : FuncId} {fn : Func} {body : Code} {rs : List ResultVar} {n : Nat} (hf : C.P.funcs[f]? = some fn) (hb : fn.body = some body) (hrs : fn.results.toList = rs) (hn : fn.ntmps = n) {α β γ δ ε : Type} [Enc α] [Enc β] [Enc γ] [Enc δ] [Enc ε] (hok : ci C n body = true) (hnn : 5 <= n) {pre : α -> β -> γ -> δ -> ε -> Prop} {res : α -> β -> γ -> δ -> ε -> AV}
  (h : ∀ a b c d e, pre a b c d e -> avc C n 0 body ⟨[(0, Enc.enc a), (1, Enc.enc b), (2, Enc.enc c), (3, Enc.enc d), (4, Enc.enc e)], []⟩ (dV C rs (res a b c d e))) : PureOK C.P C.G f (fL pre res) :=
 eK hS hM hf hb hrs hn hok λ avs ob r' hp hob => by
  unfold fL at hp
  split at hp
  ·injection hp with hp; injection hp with e1 e2; subst e1 e2
   refine ⟨hnn, ?_⟩
   have := h _ _ _ _ _ hob.2.2.2.2.2
   rw [<- hob.1, <- hob.2.1, <- hob.2.2.1, <- hob.2.2.2.1, <- hob.2.2.2.2.1] at this
   exact this
  ·cases hp
def inB (n : Int) : Bool := decide (-1000000000000000 <= n) && decide (n <= 1000000000000000)
theorem VL : PureOK prog G0 155 (aN (λ (_ : Int) => True) (λ n => .bool (inB n))) := by
 refine bj aK ae func155 rfl rfl rfl (by kernel_rfl) (by decide) (λ n _ => ?_)
 by_cases h1 : -1000000000000000 <= n <;> by_cases h2 : n <= 1000000000000000 <;> simp [inB, h1, h2]
def uX (s : ByteArray) : Bool := decide (∀ j, j < s.size -> 32 <= btA s j /\ btA s j <= 126) && decide (s.size <= 100)
theorem WR : PureOK prog G0 156 (aN (λ (s : ByteArray) => s.size <= maxLen) (λ s => .bool (uX s))) := by
 refine bj aK ae func156 rfl rfl rfl (by kernel_rfl) (by decide) (λ s hs => ?_)
 have hs' : s.size <= 9223372036854775807 := by unfold maxLen at hs; omega
 simp
 refine am aK ae (λ i : Nat => ⟨[(0, .str s), (3, .int .i64 i)], []⟩) (λ i => i <= s.size /\ ∀ j, j < i -> 32 <= btA s j /\ btA s j <= 126) (λ i => s.size - i) (by kernel_rfl) ⟨0, by simp, ah (by simp)⟩ (λ i ⟨hi, hall⟩ => ?_)
 by_cases hlt : i < s.size
 ·have i1 : I64 ((i : Int) + 1) := by unfold I64; omega
  by_cases h1 : (btA s i : Int) < 32
  ·have h1' : btA s i < 32 := by omega
   have e : uX s = false := by
    unfold uX
    rw [decide_eq_false (λ h => by have := h i hlt; omega), Bool.false_and]
   simp [hlt, h1, h1', e]
  ·have h1' : ¬ btA s i < 32 := by omega
   by_cases h2 : 126 < (btA s i : Int)
   ·have h2' : 126 < btA s i := by omega
    have e : uX s = false := by
     unfold uX
     rw [decide_eq_false (λ h => by have := h i hlt; omega), Bool.false_and]
    simp [hlt, h1, h1', h2, h2', e]
   ·have h2' : ¬ 126 < btA s i := by omega
    simp [hlt, h1, h1', h2, h2', i1]
    refine ⟨i + 1, ⟨by omega, λ j hj => ?_⟩, by omega, ah (by simp)⟩
    rcases lt_or_ge j i with h | h
    ·exact hall j h
    ·rw [show j = i by omega]; omega
 ·have e : uX s = decide (s.size <= 100) := by
   unfold uX
   rw [decide_eq_true (λ j hj => hall j (by omega)), Bool.true_and]
  by_cases h3 : s.size <= 100
  ·have h3' : (s.size : Int) <= 100 := by omega
   simp [hlt, e, h3, h3']
  ·have h3' : ¬ (s.size : Int) <= 100 := by omega
   simp [hlt, e, h3, h3']
theorem I9 (l : List Val) : (l = [] /\ l.isEmpty = true) ∨ (¬ l = [] /\ l.isEmpty = false) := by cases l <;> simp
theorem or3 (b : Bool) (p : Prop) : (b = false /\ ¬ p) ∨ (b = true /\ b = true) ∨ (b = false /\ p) := by
 by_cases h : p <;> cases b <;> simp [h]
def ck (v : Val) (n d s l : Bool) : Bool := (n || decide (v.n = 0)) && (d || decide (v.d = 0)) && (s || decide (v.s = ⟨#[]⟩)) && (l || v.l.isEmpty)
theorem TR : PureOK prog G0 154 (fL (λ (_ : Val) (_ _ _ _ : Bool) => True) (λ v n d s l => .bool (ck v n d s l))) := by
 refine Sn aK ae func154 rfl rfl rfl (by kernel_rfl) (by decide) (λ v n d s l _ => ?_)
 rcases or3 n (v.n = 0) with ⟨h, h1⟩ | ⟨h, h1⟩ | ⟨h, h1⟩
 ·simp [ck, h, h1]
 all_goals
  rcases or3 d (v.d = 0) with ⟨h2, h3⟩ | ⟨h2, h3⟩ | ⟨h2, h3⟩
  ·simp [ck, h, h1, h2, h3]
  all_goals
   rcases or3 s (v.s = ⟨#[]⟩) with ⟨h4, h5⟩ | ⟨h4, h5⟩ | ⟨h4, h5⟩
   ·simp [ck, h, h1, h2, h3, h4, h5]
   all_goals
    rcases I9 v.l with ⟨h6, h7⟩ | ⟨h6, h7⟩ <;> cases l <;> simp [ck, h, h1, h2, h3, h4, h5, h6, h7]
theorem DC {P : Program} {G : Nat -> AV} {f : FuncId} {α β : Type} [Enc α] [Enc β] {pre : α -> β -> Prop} {res : α -> β -> AV} (h : ∀ a b, ¬ pre a b) : PureOK P G f (aC pre res) := by
 intro w X args avs ob r hX hG hsz harg hp hob
 match avs, hp with
 | [a, b], hp =>
  simp only [aC, Option.some.injEq, Prod.mk.injEq] at hp
  obtain ⟨rfl, rfl⟩ := hp
  exact absurd hob.2.2 (h _ _)
def H4 (n d : Int) : Bool := decide (aj ⟨n, d⟩)
inductive WfV : Val -> Prop
 | mk (k n d : Int) (s : ByteArray) (l : List Val) (hs : s.size <= maxLen) (hl : l.length <= maxLen) (h : ∀ x ∈ l, WfV x) : WfV (.mk k n d s l)
theorem WfV.str {v : Val} (h : WfV v) : v.s.size <= maxLen := by cases h; assumption
theorem WfV.kids {v : Val} (h : WfV v) : ∀ x ∈ v.l, WfV x := by cases h; assumption
theorem WfV.len {v : Val} (h : WfV v) : v.l.length <= maxLen := by cases h; assumption
theorem M1 {v x : Val} (h : x ∈ v.l) : SizeOf.sizeOf x < SizeOf.sizeOf v := by
 cases v with
 | mk k n d s l =>
  have := List.sizeOf_lt_of_mem h
  simp at this ⊢
  omega
theorem sB (v : Val) : 0 < SizeOf.sizeOf v := by cases v; simp; omega
mutual
def lM : Val -> Int -> Bool
 | .mk k n d s l, nest =>
  if k = 0 then ck (.mk k n d s l) false false false false
  else if k = 1 then ck (.mk k n d s l) true false false false && (decide (n = 0) || decide (n = 1))
  else if k = 2 then ck (.mk k n d s l) true false false false && inB n
  else if k = 3 then ck (.mk k n d s l) true true false false && decide (2 <= d) && H4 n d
  else if k = 4 then ck (.mk k n d s l) false false true false && uX s
  else if k = 5 ∨ k = 6 then ck (.mk k n d s l) true false false false && decide (1 <= n) && decide (n <= 1000000)
  else if k = 7 then ck (.mk k n d s l) false false false true && (!(decide (l.length % 2 = 0) || decide (25 < l.length)) && pathL l 0)
  else if k = 8 then ck (.mk k n d s l) false false false true && (!(decide (nest < 1) || decide (64 < l.length)) && allL l (nest - 1))
  else false
def allL : List Val -> Int -> Bool
 | [], _ => true
 | v :: r, nest => lM v nest && allL r nest
def pathL : List Val -> Nat -> Bool
 | [], _ => true
 | v :: r, i => (decide (v.kind = (if i % 2 = 1 then 6 else 5)) && lM v 0) && pathL r (i + 1)
end
theorem yc (v : Val) (nest : Int) : lM v nest =
  if v.kind = 0 then ck v false false false false
  else if v.kind = 1 then ck v true false false false && (decide (v.n = 0) || decide (v.n = 1))
  else if v.kind = 2 then ck v true false false false && inB v.n
  else if v.kind = 3 then ck v true true false false && decide (2 <= v.d) && H4 v.n v.d
  else if v.kind = 4 then ck v false false true false && uX v.s
  else if v.kind = 5 ∨ v.kind = 6 then ck v true false false false && decide (1 <= v.n) && decide (v.n <= 1000000)
  else if v.kind = 7 then ck v false false false true && (!(decide (v.l.length % 2 = 0) || decide (25 < v.l.length)) && pathL v.l 0)
  else if v.kind = 8 then ck v false false false true && (!(decide (nest < 1) || decide (64 < v.l.length)) && allL v.l (nest - 1))
  else false := by
 cases v
 rw [lM]
 rfl
theorem s8 : ∀ (l : List Val) (nest : Int), allL l nest = true ↔ ∀ j, j < l.length -> lM (ix l j) nest = true
 | [], nest => by simp [allL]
 | v :: r, nest => by
  rw [allL, Bool.and_eq_true, s8 r nest]
  constructor
  ·rintro ⟨h1, h2⟩ j hj
   match j, hj with
   | 0, _ => exact h1
   | j + 1, hj => exact h2 j (by simpa using hj)
  ·intro h
   exact ⟨h 0 (by simp), λ j hj => h (j + 1) (by simpa using hj)⟩
theorem qs : ∀ (l : List Val) (k : Nat), pathL l k = true ↔ ∀ j, j < l.length -> (ix l j).kind = (if (k + j) % 2 = 1 then 6 else 5) /\ lM (ix l j) 0 = true
 | [], k => by simp [pathL]
 | v :: r, k => by
  rw [pathL, Bool.and_eq_true, Bool.and_eq_true, qs r (k + 1), decide_eq_true_eq]
  constructor
  ·rintro ⟨h1, h2⟩ j hj
   match j, hj with
   | 0, _ => exact h1
   | j + 1, hj =>
    have := h2 j (by simpa using hj)
    rw [show k + 1 + j = k + (j + 1) by omega] at this
    exact this
  ·intro h
   refine ⟨h 0 (by simp), λ j hj => ?_⟩
   have := h (j + 1) (by simpa using hj)
   rw [show k + (j + 1) = k + 1 + j by omega] at this
   exact this
theorem g8 {v : Val} {k : Int} (h : v.kind = k) : Val.mk k v.n v.d v.s v.l = v := by rw [<- h]; exact Val.eta v
theorem IX {v : Val} {k n : Int} (h : v.kind = k) (h' : v.n = n) : Val.mk k n v.d v.s v.l = v := by rw [<- h, <- h']; exact Val.eta v
theorem zD {a : Bool} {p : Prop} (h : a = true ↔ p) (hn : ¬ p) : a = false := by
 cases e : a
 ·rfl
 ·exact absurd (h.1 e) hn
def sV (n : Nat) : PSp := aC (λ (v : Val) (k : Int) => (WfV v /\ 0 <= k /\ k <= 8) /\ SizeOf.sizeOf v <= n) (λ v k => .bool (lM v k))
noncomputable def zm (n : Nat) : Ctx := mkC prog G0 [(141, .pure (sV n))]
@[simp] theorem VM (n : Nat) : (zm n).P = prog := rfl
@[simp] theorem VU (n : Nat) : (zm n).S 141 = .pure (sV n) := rfl
theorem sm {n : Nat} (h : PureOK prog G0 141 (sV n)) : au (zm n) := ap h func141 (ak _ _)
theorem se (n : Nat) : (zm n).P.follows .mixedOrders = true := ae
theorem TX {n : Nat} (h : PureOK prog G0 141 (sV n)) : PureOK prog G0 158 (aC (λ (l : List Val) (k : Int) => (∀ x ∈ l, WfV x /\ SizeOf.sizeOf x <= n) /\ 0 <= k /\ k <= 8) (λ l k => .bool (!(decide (k < 1) || decide (64 < l.length)) && allL l (k - 1)))) := by
 refine aX (C := zm n) (sm h) (se n) func158 rfl rfl rfl (by kernel_rfl) (by decide) (λ l k ⟨hx, hk0, hk8⟩ => ?_)
 by_cases h1 : k < 1
 ·simp [h1]
 by_cases h2 : 64 < l.length
 ·have h2' : (64 : Int) < l.length := by omega
  simp [h1, h2, h2']
 have h2' : ¬ (64 : Int) < l.length := by omega
 have hk1 : 0 <= k - 1 := by omega
 have hk1' : 1 <= k := by omega
 have hk2 : k - 1 <= 8 := by omega
 have i2 : I64 (k - 1) := by unfold I64; omega
 simp [h1, h2, h2']
 refine am (C := zm n) (sm h) (se n) (λ i : Nat => ⟨[(0, Enc.enc l), (1, .int .i64 k), (5, .int .i64 i)], []⟩) (λ i => i <= l.length /\ ∀ j, j < i -> lM (ix l j) (k - 1) = true) (λ i => l.length - i) (by kernel_rfl) ⟨0, by simp, ah (by simp)⟩ (λ i ⟨hi, hall⟩ => ?_)
 by_cases hlt : i < l.length
 ·have i1 : I64 ((i : Int) + 1) := by unfold I64; omega
  obtain ⟨w1, w2⟩ := hx _ (aq hlt)
  cases h3 : lM (ix l i) (k - 1)
  ·have e : allL l (k - 1) = false := zD (s8 l (k - 1)) (λ h => by rw [h i hlt] at h3; cases h3)
   simp [hlt, aa hlt, sV, w1, w2, hk1, hk1', hk2, i2, h3, e]
  ·simp [hlt, aa hlt, sV, w1, w2, hk1, hk1', hk2, i2, h3, i1]
   refine ⟨i + 1, ⟨by omega, λ j hj => ?_⟩, by omega, ah (by simp)⟩
   rcases lt_or_ge j i with h | h
   ·exact hall j h
   ·rw [show j = i by omega]; exact h3
 ·have e : allL l (k - 1) = true := (s8 l (k - 1)).2 λ j hj => hall j (by omega)
  simp [hlt, e]
theorem Su {n : Nat} (h : PureOK prog G0 141 (sV n)) : PureOK prog G0 157 (aN (λ (l : List Val) => l.length <= maxLen /\ ∀ x ∈ l, WfV x /\ SizeOf.sizeOf x <= n) (λ l => .bool (!(decide (l.length % 2 = 0) || decide (25 < l.length)) && pathL l 0))) := by
 refine bj (C := zm n) (sm h) (se n) func157 rfl rfl rfl (by kernel_rfl) (by decide) (λ l ⟨hl, hx⟩ => ?_)
 have hl' : l.length <= 9223372036854775807 := by unfold maxLen at hl; omega
 have ht : ((l.length : Int)).tmod 2 = ((l.length % 2 : Nat) : Int) := by rw [tmod_eq_emod_of_nonneg (by omega)]; omega
 by_cases h1 : l.length % 2 = 0
 ·simp [ht, h1]
 have h1' : l.length % 2 = 1 := by omega
 by_cases h2 : 25 < l.length
 ·have h2' : (25 : Int) < l.length := by omega
  simp [ht, h1', h2, h2']
 have h2' : ¬ (25 : Int) < l.length := by omega
 simp [ht, h1', h2, h2']
 refine am (C := zm n) (sm h) (se n) (λ i : Nat => ⟨[(0, Enc.enc l), (3, .int .i64 i)], []⟩) (λ i => i <= l.length /\ ∀ j, j < i -> (ix l j).kind = (if (0 + j) % 2 = 1 then 6 else 5) /\ lM (ix l j) 0 = true) (λ i => l.length - i) (by kernel_rfl) ⟨0, by simp, ah (by simp)⟩ (λ i ⟨hi, hall⟩ => ?_)
 by_cases hlt : i < l.length
 ·have i1 : I64 ((i : Int) + 1) := by unfold I64; omega
  obtain ⟨w1, w2⟩ := hx _ (aq hlt)
  have hti : ((i : Int)).tmod 2 = ((i % 2 : Nat) : Int) := by rw [tmod_eq_emod_of_nonneg (by omega)]; omega
  have fail : ¬ ((ix l i).kind = (if (0 + i) % 2 = 1 then 6 else 5) /\ lM (ix l i) 0 = true) -> pathL l 0 = false := λ hn => zD (qs l 0) (λ h => hn (h i hlt))
  have step : (ix l i).kind = (if (0 + i) % 2 = 1 then 6 else 5) /\ lM (ix l i) 0 = true -> ∀ j, j < i + 1 -> (ix l j).kind = (if (0 + j) % 2 = 1 then 6 else 5) /\ lM (ix l j) 0 = true := λ h j hj => by
   rcases lt_or_ge j i with h' | h'
   ·exact hall j h'
   ·rw [show j = i by omega]; exact h
  rw [Nat.zero_add] at fail step
  by_cases h3 : i % 2 = 1
  ·rw [if_pos h3] at fail step
   by_cases h4 : (ix l i).kind = 6
   ·cases h5 : lM (ix l i) 0
    ·simp [hlt, aa hlt, hti, h3, h4, g8 h4, sV, w1, w2, h5, fail (by simp [h5])]
    ·simp [hlt, aa hlt, hti, h3, h4, g8 h4, sV, w1, w2, h5, i1]
     exact ⟨i + 1, ⟨by omega, by simpa using step ⟨h4, h5⟩⟩, by omega, ah (by simp)⟩
   ·simp [hlt, aa hlt, hti, h3, h4, fail (by simp [h4])]
  ·rw [if_neg h3] at fail step
   have h3' : i % 2 = 0 := by omega
   by_cases h4 : (ix l i).kind = 5
   ·cases h5 : lM (ix l i) 0
    ·simp [hlt, aa hlt, hti, h3', h4, g8 h4, sV, w1, w2, h5, fail (by simp [h5])]
    ·simp [hlt, aa hlt, hti, h3', h4, g8 h4, sV, w1, w2, h5, i1]
     exact ⟨i + 1, ⟨by omega, by simpa using step ⟨h4, h5⟩⟩, by omega, ah (by simp)⟩
   ·simp [hlt, aa hlt, hti, h3', h4, fail (by simp [h4])]
 ·have e : pathL l 0 = true := (qs l 0).2 λ j hj => hall j (by omega)
  simp [hlt, e]
def gZ : PSp := fL (λ (_ : Val) (_ _ _ _ : Bool) => True) (λ v n d s l => .bool (ck v n d s l))
def Py : PSp := aN (λ (_ : Int) => True) (λ n => .bool (inB n))
def PT : PSp := aN (λ (s : ByteArray) => s.size <= maxLen) (λ s => .bool (uX s))
def JK (n : Nat) : PSp := aN (λ (l : List Val) => l.length <= maxLen /\ ∀ x ∈ l, WfV x /\ SizeOf.sizeOf x <= n) (λ l => .bool (!(decide (l.length % 2 = 0) || decide (25 < l.length)) && pathL l 0))
def JM (n : Nat) : PSp := aC (λ (l : List Val) (k : Int) => (∀ x ∈ l, WfV x /\ SizeOf.sizeOf x <= n) /\ 0 <= k /\ k <= 8) (λ l k => .bool (!(decide (k < 1) || decide (64 < l.length)) && allL l (k - 1)))
noncomputable def CVV (n : Nat) : Ctx := mkC prog G0 [(154, .pure gZ), (155, .pure Py), (133, .pure ax), (156, .pure PT), (157, .pure (JK n)), (158, .pure (JM n))]
@[simp] theorem Y5 (n : Nat) : (CVV n).P = prog := rfl
@[simp] theorem Xj (n : Nat) : (CVV n).S 154 = .pure gZ := rfl
@[simp] theorem Yp (n : Nat) : (CVV n).S 155 = .pure Py := rfl
@[simp] theorem XM (n : Nat) : (CVV n).S 133 = .pure ax := rfl
@[simp] theorem YT (n : Nat) : (CVV n).S 156 = .pure PT := rfl
@[simp] theorem Zj (n : Nat) : (CVV n).S 157 = .pure (JK n) := rfl
@[simp] theorem YB (n : Nat) : (CVV n).S 158 = .pure (JM n) := rfl
theorem OO {n : Nat} (h : PureOK prog G0 141 (sV n)) : au (CVV n) :=
 ap TR func154 (ap VL func155 (ap d8 func133 (ap WR func156 (ap (Su h) func157 (ap (TX h) func158 (ak _ _))))))
theorem Pn (n : Nat) : (CVV n).P.follows .mixedOrders = true := ae
theorem T7 : ∀ n : Nat, PureOK prog G0 141 (sV n)
 | 0 => DC λ v k h => by have := sB v; omega
 | n + 1 => by
  have ih := T7 n
  refine aX (C := CVV n) (OO ih) (Pn n) func141 rfl rfl rfl (by kernel_rfl) (by decide) (λ v k ⟨⟨hw, hk0, hk8⟩, hn⟩ => ?_)
  have hs := hw.str
  have hl := hw.len
  have hx : ∀ x ∈ v.l, WfV x /\ SizeOf.sizeOf x <= n := λ x hx => ⟨hw.kids x hx, by have := M1 hx; omega⟩
  rw [yc]
  by_cases c0 : v.kind = 0
  ·simp [fL, gZ, c0, g8 c0]
  by_cases c1 : v.kind = 1
  ·cases hb : ck v true false false false
   ·simp [fL, gZ, c1, g8 c1, hb]
   by_cases a0 : v.n = 0
   ·simp [fL, gZ, c1, IX c1 a0, hb, a0]
   by_cases a1 : v.n = 1
   ·simp [fL, gZ, c1, IX c1 a1, hb, a1]
   simp [fL, gZ, c1, g8 c1, hb, a0, a1]
  by_cases c2 : v.kind = 2
  ·cases hb : ck v true false false false <;> simp [fL, gZ, Py, c2, g8 c2, hb]
  by_cases c3 : v.kind = 3
  ·cases hb : ck v true true false false <;> by_cases a0 : 2 <= v.d <;> simp [fL, gZ, ax, H4, c3, g8 c3, hb, a0] <;> exact decide_eq_decide.2 Iff.rfl
  by_cases c4 : v.kind = 4
  ·cases hb : ck v false false true false <;> simp [fL, gZ, PT, c4, g8 c4, hb, hs]
  by_cases c5 : v.kind = 5
  ·cases hb : ck v true false false false <;> by_cases a0 : 1 <= v.n <;> by_cases a1 : v.n <= 1000000 <;> simp [fL, gZ, c5, g8 c5, hb, a0, a1]
  by_cases c6 : v.kind = 6
  ·cases hb : ck v true false false false <;> by_cases a0 : 1 <= v.n <;> by_cases a1 : v.n <= 1000000 <;> simp [fL, gZ, c6, g8 c6, hb, a0, a1]
  by_cases c7 : v.kind = 7
  ·cases hb : ck v false false false true
   ·simp [fL, gZ, c7, g8 c7, hb]
   ·simp [fL, gZ, JK, c7, g8 c7, hb, hl]
    exact hx
  by_cases c8 : v.kind = 8
  ·cases hb : ck v false false false true
   ·simp [fL, gZ, c8, g8 c8, hb]
   ·simp [fL, gZ, JM, c8, g8 c8, hb, hk0, hk8]
    exact hx
  simp [c0, c1, c2, c3, c4, c5, c6, c7, c8]
def sVR : PSp := aC (λ (v : Val) (k : Int) => WfV v /\ 0 <= k /\ k <= 8) (λ v k => .bool (lM v k))
theorem TU : PureOK prog G0 141 sVR := Hn (λ v _ => SizeOf.sizeOf v) λ n => T7 n
def okV (v : Val) : Bool := lM v 8
def jU : PSp := aN (λ (v : Val) => WfV v) (λ v => .bool (okV v))
noncomputable def CVQ : Ctx := mkC prog G0 [(141, .pure sVR)]
@[simp] theorem Ym : CVQ.P = prog := rfl
@[simp] theorem Yl : CVQ.G = G0 := rfl
@[simp] theorem YJ : CVQ.S 141 = .pure sVR := rfl
theorem Qe : au CVQ := ap (TU) func141 (ak _ _)
theorem vR : PureOK prog G0 112 jU := by
 refine bj Qe ae func112 rfl rfl rfl (by kernel_rfl) (by decide) (λ v hw => ?_)
 simp [sVR, hw, okV]
def bE {α : Type} (f : α -> Int -> Int) : List α -> Int -> Int
 | [], x => x
 | v :: r, x => if x < 0 then x else bE f r (f v x)
theorem fW {α : Type} (f : α -> Int -> Int) (l : List α) {x : Int} (h : x < 0) : bE f l x = x := by
 cases l with
 | nil => rfl
 | cons v r => rw [bE, if_pos h]
theorem eP {α : Type} [Inhabited α] (f : α -> Int -> Int) {l : List α} {i : Nat} (h : i < l.length) {x : Int} (hx : ¬ x < 0) : bE f (l.drop i) x = bE f (l.drop (i + 1)) (f (ix l i) x) := by
 rw [drop_eq_getElem_cons h, az h, bE, if_neg hx]
theorem f6 {α : Type} (f : α -> Int -> Int) {l : List α} {i : Nat} (h : ¬ i < l.length) {x : Int} : bE f (l.drop i) x = x := by
 rw [drop_eq_nil_of_le (by omega)]
 rfl
theorem p6 {α : Type} (f : α -> Int -> Int) (B : Int) : ∀ (l : List α) (x : Int), (∀ v ∈ l, ∀ y, 0 <= y -> -B <= f v y /\ f v y <= max y (-1)) -> -B <= x -> -B <= bE f l x /\ bE f l x <= max x (-1)
 | [], x, _, h => ⟨h, by rw [bE]; omega⟩
 | v :: r, x, hf, h => by
  rw [bE]
  by_cases hx : x < 0
  ·rw [if_pos hx]; exact ⟨h, by omega⟩
  ·rw [if_neg hx]
   have h1 := hf v (List.mem_cons_self ..) x (by omega)
   have h2 := p6 f B r (f v x) (λ u hu => hf u (List.mem_cons_of_mem _ hu)) h1.1
   exact ⟨h2.1, by omega⟩
def dZ : Nat -> Val -> Int -> Int
 | 0, _, _ => -1
 | n + 1, v, x => bE (dZ n) v.l (x - 1 - (v.s.size : Int) / 50)
theorem mp : ∀ (n : Nat) (v : Val) (x : Int), WfV v -> -576460752303423488 <= x -> -1152921504606846976 <= dZ n v x /\ dZ n v x <= max x (-1)
 | 0, v, x, hw, hx => by rw [dZ]; omega
 | n + 1, v, x, hw, hx => by
  rw [dZ]
  have hs := hw.str
  unfold maxLen at hs
  have := p6 (dZ n) 1152921504606846976 v.l (x - 1 - (v.s.size : Int) / 50) (λ u hu y hy => mp n u y (hw.kids u hu) (by omega)) (by omega)
  exact ⟨this.1, by omega⟩
theorem BV {P : Program} {G : Nat -> AV} {f : FuncId} {α β γ : Type} [Enc α] [Enc β] [Enc γ] {pre : α -> β -> γ -> Prop} {res : α -> β -> γ -> AV} (h : ∀ a b c, ¬ pre a b c) : PureOK P G f (lu pre res) := by
 intro w X args avs ob r hX hG hsz harg hp hob
 match avs, hp with
 | [a, b, c], hp =>
  simp only [lu, Option.some.injEq, Prod.mk.injEq] at hp
  obtain ⟨rfl, rfl⟩ := hp
  exact absurd hob.2.2.2 (h _ _ _)
def VlB (v : Val) : Blk := ⟨54, 5, [[.int .i64 v.kind, .int .i64 v.n, .int .i64 v.d, .str v.s, .slice 5 false (ac v.l)]], true, true⟩
def sWn (n : Nat) : PSp := lu (λ (v : Val) (x d : Int) => WfV v /\ -576460752303423488 <= x /\ x <= 1000000 /\ 0 <= d /\ d <= 12 /\ d < n) (λ v x d => .int .i64 (dZ d.toNat v x))
noncomputable def CWn (n : Nat) : Ctx := mkC prog G0 [(110, .pure (sWn n))]
@[simp] theorem YU (n : Nat) : (CWn n).P = prog := rfl
@[simp] theorem Yq (n : Nat) : (CWn n).S 110 = .pure (sWn n) := rfl
theorem KT {n : Nat} (h : PureOK prog G0 110 (sWn n)) : au (CWn n) := ap h func110 (ak _ _)
theorem Jk (n : Nat) : (CWn n).P.follows .mixedOrders = true := ae
theorem AG (n : Nat) : ((n : Int)).tdiv 50 = (n : Int) / 50 := Int.tdiv_eq_ediv_of_nonneg (by omega)
theorem IF : ∀ n : Nat, PureOK prog G0 110 (sWn n)
 | 0 => BV λ v x d h => by omega
 | n + 1 => by
  have ih := IF n
  refine NE (C := CWn n) (KT ih) (Jk n) func110 rfl rfl rfl (by kernel_rfl) (by decide) (λ v x d ⟨hw, hx, hx2, hd, hd12, hdn⟩ => ?_)
  have hs := hw.str
  have hl := hw.len
  unfold maxLen at hs hl
  have e1 : I64 (x - 1) := by unfold I64; omega
  have e2 : I64 (x - 1 - (v.s.size : Int) / 50) := by unfold I64; omega
  have e4 : I64 ((v.s.size : Int) / 50) := by unfold I64; omega
  by_cases h0 : d = 0
  ·subst h0
   simp [AG, e1, e2, e4, dZ]
  have h1 : ¬ d < 1 := by omega
  have hd1 : d.toNat = (d - 1).toNat + 1 := by omega
  have e3 : I64 (d - 1) := by unfold I64; omega
  simp [AG, e1, e2, e4, h1]
  refine am (C := CWn n) (KT ih) (Jk n) (λ q : Nat × Int => ⟨[(1, .int .i64 q.2), (2, .int .i64 d), (3, .ptr 0 1 5 0 0), (7, .int .i64 q.1)], [VlB v]⟩) (λ q => q.1 <= v.l.length /\ -1152921504606846976 <= q.2 /\ q.2 <= 1000000 /\ bE (dZ (d - 1).toNat) (v.l.drop q.1) q.2 = dZ d.toNat v x) (λ q => v.l.length - q.1) (by kernel_rfl) ⟨(0, x - 1 - (v.s.size : Int) / 50), ⟨by omega, by omega, by omega, by rw [hd1]; rfl⟩, ag (by simp) (by simp [VlB])⟩ (λ ⟨i, y⟩ ⟨hi, hy1, hy2, hy⟩ => ?_)
  simp only at hi hy1 hy2 hy ⊢
  by_cases hlt : i < v.l.length
  ·by_cases hneg : y < 0
   ·rw [fW _ _ hneg] at hy
    have hneg' : ¬ 0 <= y := by omega
    simp [VlB, hlt, hneg', <- hy]
   ·have hneg' : 0 <= y := by omega
    have hm := aq hlt
    have hk := hw.kids _ hm
    rw [eP _ hlt hneg] at hy
    have i1 : I64 ((i : Int) + 1) := by unfold I64; omega
    have hb := mp (d - 1).toNat (ix v.l i) y hk (by omega)
    have p1 : -576460752303423488 <= y := by omega
    have p2 : 0 <= d - 1 := by omega
    have p3 : d - 1 < (n : Int) := by omega
    have p4 : d - 1 <= 12 := by omega
    simp [VlB, hlt, aa hlt, hneg', sWn, hk, p1, hy2, p2, p3, p4, e3, i1]
    exact ⟨by omega, i + 1, dZ (d - 1).toNat (ix v.l i) y, ⟨by omega, hb.1, by omega, by rw [show d.toNat - 1 = (d - 1).toNat by omega]; exact hy⟩, by omega, ag (by simp) (by simp [VlB])⟩
  ·rw [f6 _ hlt] at hy
   simp [VlB, hlt, <- hy]
def uh : PSp := sWn 13
theorem OY : PureOK prog G0 110 uh := IF 13
structure WfP (p : Prp) : Prop where
 k : p.key.size <= maxLen
 v : WfV p.v
def l9 (p : Prp) (x : Int) : Int := dZ 12 p.v (x - (p.key.size : Int) / 50)
theorem Dw {p : Prp} (h : WfP p) {x : Int} (hx : 0 <= x) : -1152921504606846976 <= l9 p x /\ l9 p x <= max x (-1) := by
 have := h.k
 unfold maxLen at this
 have := mp 12 p.v (x - (p.key.size : Int) / 50) h.v (by omega)
 unfold l9
 omega
def Aq : PSp := aC (λ (l : List Prp) (x : Int) => l.length <= maxLen /\ (∀ p ∈ l, WfP p) /\ -9223372036854775808 <= x /\ x <= 1000000) (λ l x => .int .i64 (bE l9 l x))
noncomputable def CWg : Ctx := mkC prog G0 [(110, .pure uh)]
@[simp] theorem XZ : CWg.P = prog := rfl
@[simp] theorem Xn : CWg.G = G0 := rfl
@[simp] theorem Xe : CWg.S 110 = .pure uh := rfl
theorem qW : au CWg := ap (OY) func110 (ak _ _)
theorem We : PureOK prog G0 73 Aq := by
 refine lF qW ae func73 rfl rfl rfl [4] (by kernel_rfl) (by decide) (λ l x ⟨hl, hp, hx1, hx2⟩ => ?_)
 unfold maxLen at hl
 simp
 refine aB qW ae [4] (λ q : Nat × Int => ⟨[(0, Enc.enc l), (1, .int .i64 q.2), (5, .int .i64 q.1)], []⟩) (λ q => q.1 <= l.length /\ q.2 <= 1000000 /\ bE l9 (l.drop q.1) q.2 = bE l9 l x) (λ q => l.length - q.1) (by kernel_rfl) ⟨(0, x), ⟨by omega, by omega, rfl⟩, ah (by simp)⟩ (λ ⟨i, y⟩ ⟨hi, hy2, hy⟩ => ?_)
 simp only at hi hy2 hy ⊢
 by_cases hlt : i < l.length
 ·by_cases hneg : y < 0
  ·rw [fW _ _ hneg] at hy
   have hneg' : ¬ 0 <= y := by omega
   simp [hlt, hneg', <- hy]
  ·have hneg' : 0 <= y := by omega
   have hw := hp _ (aq hlt)
   have hk := hw.k
   have hv := hw.v
   unfold maxLen at hk
   rw [eP _ hlt hneg] at hy
   have i1 : I64 ((i : Int) + 1) := by unfold I64; omega
   have hb := Dw hw hneg'
   have e2 : I64 (y - ((ix l i).key.size : Int) / 50) := by unfold I64; omega
   have e4 : I64 (((ix l i).key.size : Int) / 50) := by unfold I64; omega
   have p1 : -576460752303423488 <= y - ((ix l i).key.size : Int) / 50 := by omega
   have p2 : y - ((ix l i).key.size : Int) / 50 <= 1000000 := by omega
   simp [hlt, hneg']
   refine aA qW ae [.pure, .pure, .pure, .pure, .read, .pure, .pure, .pure, .pure, .pure, .read, .pure, .pure, .pure, .read, .pure] [[],[],[1,0],[0,1,2],[2,1,0,3],[],[],[],[7,6],[6,7,8],[8,7,6,9],[9,6,7,8,10],[10,8,7,6,9,11],[11,9,6,7,8,10,12,5],[5,12,10,8,7,6,9,11,13,3,0,1,2,4],[4,2,1,0,3,13,11,9,6,7,8,10,12,5,14]] (by kernel_rfl) (by kernel_rfl) (by kernel_rfl) (by kernel_rfl) ?_
   simp [hlt, aa hlt, AG, uh, sWn, hv, p1, p2, e2, e4, i1]
   exact ⟨i + 1, l9 (ix l i) y, ⟨by omega, by omega, hy⟩, by omega, ah (by simp [l9])⟩
 ·rw [f6 _ hlt] at hy
  simp [hlt, <- hy]
def zK (r : List Val) (x : Int) : Int := bE (dZ 12) r (x - 1)
theorem QZ {r : List Val} (h : ∀ v ∈ r, WfV v) {x : Int} (hx : -1 <= x - 1) : -1152921504606846976 <= zK r x /\ zK r x <= max (x - 1) (-1) := by
 unfold zK
 exact p6 (dZ 12) 1152921504606846976 r (x - 1) (λ v hv y hy => mp 12 v y (h v hv) (by omega)) (by omega)
def K8 : PSp := aC (λ (l : List (List Val)) (x : Int) => l.length <= maxLen /\ (∀ r ∈ l, r.length <= maxLen /\ ∀ v ∈ r, WfV v) /\ 0 <= x /\ x <= 1000000) (λ l x => .bool (decide (0 <= bE zK l x)))
theorem liV : PureOK prog G0 111 K8 := by
 refine aX qW ae func111 rfl rfl rfl (by kernel_rfl) (by decide) (λ l x ⟨hl, hp, hx1, hx2⟩ => ?_)
 unfold maxLen at hl
 simp
 refine am qW ae (λ q : Nat × Int => ⟨[(0, Enc.enc l), (1, .int .i64 q.2), (5, .int .i64 q.1)], []⟩) (λ q => q.1 <= l.length /\ -1152921504606846976 <= q.2 /\ q.2 <= 1000000 /\ bE zK (l.drop q.1) q.2 = bE zK l x) (λ q => l.length - q.1) (by kernel_rfl) ⟨(0, x), ⟨by omega, by omega, by omega, rfl⟩, ah (by simp)⟩ (λ ⟨i, y⟩ ⟨hi, hy1, hy2, hy⟩ => ?_)
 simp only at hi hy1 hy2 hy ⊢
 by_cases hlt : i < l.length
 ·by_cases hneg : y < 0
  ·rw [fW _ _ hneg] at hy
   have hneg' : ¬ 0 <= y := by omega
   simp [hlt, hneg', <- hy]
  ·have hneg' : 0 <= y := by omega
   obtain ⟨hrl, hrw⟩ := hp _ (aq hlt)
   unfold maxLen at hrl
   rw [eP _ hlt hneg] at hy
   have i1 : I64 ((i : Int) + 1) := by unfold I64; omega
   have y1 : I64 (y - 1) := by unfold I64; omega
   have hb := QZ hrw (x := y) (by omega)
   simp [hlt, hneg', y1]
   refine am qW ae (λ q : Nat × Int => ⟨[(0, Enc.enc l), (1, .int .i64 q.2), (5, .int .i64 i), (6, .int .i64 q.1)], []⟩) (λ q => q.1 <= (ix l i).length /\ -1152921504606846976 <= q.2 /\ q.2 <= 1000000 /\ bE (dZ 12) ((ix l i).drop q.1) q.2 = zK (ix l i) y) (λ q => (ix l i).length - q.1) (by kernel_rfl) ⟨(0, y - 1), ⟨by omega, by omega, by omega, rfl⟩, ah (by simp)⟩ (λ ⟨k, z⟩ ⟨hk, hz1, hz2, hz⟩ => ?_)
   simp only at hk hz1 hz2 hz ⊢
   by_cases hkl : k < (ix l i).length
   ·by_cases hnz : z < 0
    ·rw [fW _ _ hnz] at hz
     have hnz' : ¬ 0 <= z := by omega
     simp [hlt, aa hlt, hkl, hnz', i1]
     exact ⟨i + 1, z, ⟨by omega, by omega, by omega, by rw [hz]; exact hy⟩, by omega, ah (by simp)⟩
    ·have hnz' : 0 <= z := by omega
     have hv := hrw _ (aq hkl)
     rw [eP _ hkl hnz] at hz
     have i2 : I64 ((k : Int) + 1) := by unfold I64; omega
     have hb2 := mp 12 (ix (ix l i) k) z hv (by omega)
     have p1 : -576460752303423488 <= z := by omega
     simp [hlt, aa hlt, hkl, aa hkl, hnz', uh, sWn, hv, p1, hz2, i2]
     exact ⟨k + 1, dZ 12 (ix (ix l i) k) z, ⟨by omega, by omega, by omega, hz⟩, by omega, ah (by simp)⟩
   ·rw [f6 _ hkl] at hz
    simp [hlt, aa hlt, hkl, i1]
    exact ⟨i + 1, z, ⟨by omega, by omega, by omega, by rw [hz]; exact hy⟩, by omega, ah (by simp)⟩
 ·rw [f6 _ hlt] at hy
  simp [hlt, <- hy]
structure WfN (n : Nod) : Prop where
 ll : n.labels.length <= maxLen
 ls : ∀ s ∈ n.labels, s.size <= maxLen
 pl : n.props.length <= maxLen
 p : ∀ p ∈ n.props, WfP p
structure WfE (e : Edg) : Prop where
 t : e.type.size <= maxLen
 pl : e.props.length <= maxLen
 p : ∀ p ∈ e.props, WfP p
structure WfG (g : Gra) : Prop where
 nl : g.nodes.length <= maxLen
 n : ∀ n ∈ g.nodes, WfN n
 el : g.edges.length <= maxLen
 e : ∀ e ∈ g.edges, WfE e
def Tb (s : ByteArray) (x : Int) : Int := x - (s.size : Int) / 50
def GN (n : Nod) (x : Int) : Int := bE Tb n.labels (bE l9 n.props (x - n.labels.length))
def x5 (e : Edg) (x : Int) : Int := bE l9 e.props (x - (e.type.size : Int) / 50)
theorem Q5 {l : List Prp} (hp : ∀ p ∈ l, WfP p) {x : Int} (hx : -1152921504606846976 <= x) : -1152921504606846976 <= bE l9 l x /\ bE l9 l x <= max x (-1) :=
 p6 l9 1152921504606846976 l x (λ p h y hy => Dw (hp p h) hy) hx
theorem PV {e : Edg} (h : WfE e) {x : Int} (hx : 0 <= x) : -1152921504606846976 <= x5 e x /\ x5 e x <= max x (-1) := by
 have := h.t
 unfold maxLen at this
 have := Q5 h.p (x := x - (e.type.size : Int) / 50) (by omega)
 unfold x5
 omega
def fY (g : Gra) (a b : Int) : Bool := decide ((g.nodes.length : Int) <= a) && decide ((g.edges.length : Int) <= b) && decide (0 <= bE x5 g.edges (bE GN g.nodes 2000))
def GrB (g : Gra) : Blk := ⟨43, 4, [[.slice 3 false (ac g.nodes), .slice 5 false (ac g.edges), .int .i64 g.nn, .int .i64 g.ne]], true, true⟩
def NdB (n : Nod) : Blk := ⟨92, 3, [[.int .i64 n.id, .slice 1 false (ac n.labels), .slice 6 false (ac n.props)]], true, true⟩
def HJ : PSp := lu (λ (g : Gra) (_ _ : Int) => WfG g) (λ g a b => .bool (fY g a b))
noncomputable def CSmG : Ctx := mkC prog G0 [(73, .pure Aq)]
@[simp] theorem Ve : CSmG.P = prog := rfl
@[simp] theorem Vl : CSmG.G = G0 := rfl
@[simp] theorem Wo : CSmG.S 73 = .pure Aq := rfl
theorem pD : au CSmG := ap (We) func73 (ak _ _)
theorem Lv {l : List Prp} (hp : ∀ p ∈ l, WfP p) {x : Int} (hx : -9223372036854775808 <= x) : -9223372036854775808 <= bE l9 l x /\ bE l9 l x <= max x (-1) :=
 p6 l9 9223372036854775808 l x (λ p h y hy => by have := Dw (hp p h) hy; omega) hx
theorem smG : PureOK prog G0 33 HJ := by
 refine CH pD ae func33 rfl rfl rfl [16] (by kernel_rfl) (by decide) (λ g a b hg => ?_)
 have hnl := hg.nl
 have hel := hg.el
 unfold maxLen at hnl hel
 by_cases h1 : a < (g.nodes.length : Int)
 ·have e : fY g a b = false := by simp [fY]; omega
  simp [h1, e]
 by_cases h2 : b < (g.edges.length : Int)
 ·have e : fY g a b = false := by simp [fY]; omega
  simp [h1, h2, e]
 simp [h1, h2]
 refine aB pD ae [16] (λ q : Nat × Int => ⟨[(3, .ptr 0 1 4 0 0), (7, .int .i64 q.2), (8, .int .i64 q.1)], [GrB g]⟩) (λ q => q.1 <= g.nodes.length /\ -9223372036854775808 <= q.2 /\ q.2 <= 2000 /\ bE GN (g.nodes.drop q.1) q.2 = bE GN g.nodes 2000) (λ q => g.nodes.length - q.1) (by kernel_rfl) ⟨(0, 2000), ⟨by omega, by omega, by omega, rfl⟩, ag (by simp) (by simp [GrB])⟩ (λ ⟨i, y⟩ ⟨hi, hy1, hy2, hy⟩ => ?_)
 simp only at hi hy1 hy2 hy ⊢
 by_cases hgo : i < g.nodes.length /\ ¬ y < 0
 ·obtain ⟨hlt, hneg⟩ := hgo
  have hneg' : 0 <= y := by omega
  have hw := hg.n _ (aq hlt)
  obtain ⟨n, hn⟩ : ∃ n, n = ix g.nodes i := ⟨_, rfl⟩
  rw [eP _ hlt hneg] at hy
  rw [<- hn] at hw hy
  have hll := hw.ll
  have hpl := hw.pl
  have hp := hw.p
  have hls := hw.ls
  have hll2 : n.labels.length <= maxLen := hll
  have hpl2 : n.props.length <= maxLen := hpl
  unfold maxLen at hll hpl
  have i1 : I64 ((i : Int) + 1) := by unfold I64; omega
  have y1 : I64 (y - (n.labels.length : Int)) := by unfold I64; omega
  have p1 : -9223372036854775808 <= y - (n.labels.length : Int) := by omega
  have p2 : y - (n.labels.length : Int) <= 1000000 := by omega
  have hb := Lv hp p1
  simp [GrB, hlt, aa hlt, <- hn, hneg', Aq, hpl2, hp, p1, p2, y1]
  refine ⟨(by first | omega | (unfold I64; omega)), ?_⟩
  refine aB pD ae [16] (λ q : Nat × Int => ⟨[(3, .ptr 0 1 4 0 0), (7, .int .i64 q.2), (8, .int .i64 i), (9, .ptr 1 1 3 0 0), (10, .int .i64 q.1)], [GrB g, NdB n]⟩) (λ q => q.1 <= n.labels.length /\ -9223372036854775808 <= q.2 /\ q.2 <= 2000 /\ bE Tb (n.labels.drop q.1) q.2 = GN n y) (λ q => n.labels.length - q.1) (by kernel_rfl) ⟨(0, bE l9 n.props (y - (n.labels.length : Int))), ⟨by omega, by omega, by omega, rfl⟩, ag (by simp) (by simp [GrB, NdB])⟩ (λ ⟨k, z⟩ ⟨hk, hz1, hz2, hz⟩ => ?_)
  simp only at hk hz1 hz2 hz ⊢
  by_cases hgk : k < n.labels.length /\ ¬ z < 0
  ·obtain ⟨hkl, hnz⟩ := hgk
   have hnz' : 0 <= z := by omega
   have hs := hls _ (aq hkl)
   unfold maxLen at hs
   rw [eP _ hkl hnz] at hz
   have i2 : I64 ((k : Int) + 1) := by unfold I64; omega
   have e4 : I64 (((ix n.labels k).size : Int) / 50) := by unfold I64; omega
   have e2 : I64 (z - ((ix n.labels k).size : Int) / 50) := by unfold I64; omega
   simp [GrB, NdB, hkl, aa hkl, hnz', AG, e2, e4, i2]
   exact ⟨k + 1, z - ((ix n.labels k).size : Int) / 50, ⟨by omega, by omega, by omega, hz⟩, by omega, ag (by simp) (by simp [GrB, NdB])⟩
  ·have hz' : z = GN n y := by
    by_cases hkl : k < n.labels.length
    ·rw [<- hz, fW _ _ (by omega)]
    ·rw [<- hz, f6 _ hkl]
   have hout : (k < n.labels.length) = False ∨ (0 <= z) = False := by
    rcases em2 (k < n.labels.length) with h | h
    ·exact .inr (eq_false λ h2 => hgk ⟨of_eq_true h, by omega⟩)
    ·exact .inl h
   rcases em2 (k < n.labels.length) with hkl | hkl
   ·have hnz' : (0 <= z) = False := hout.resolve_left (by rw [hkl]; simp)
    simp [GrB, NdB, hkl, hnz', i1]
    exact ⟨i + 1, z, ⟨by omega, by omega, by omega, by rw [hz']; exact hy⟩, by omega, bG 1 (by simp) (by simp) (by simp [AV.clean, AV.clean1]) (by simp) (by simp [GrB])⟩
   ·simp [GrB, NdB, hkl, i1]
    exact ⟨i + 1, z, ⟨by omega, by omega, by omega, by rw [hz']; exact hy⟩, by omega, bG 1 (by simp) (by simp) (by simp [AV.clean, AV.clean1]) (by simp) (by simp [GrB])⟩
 ·have hy' : y = bE GN g.nodes 2000 := by
   by_cases hlt : i < g.nodes.length
   ·rw [<- hy, fW _ _ (by omega)]
   ·rw [<- hy, f6 _ hlt]
  have hB : fY g a b = decide (0 <= bE x5 g.edges y) := by
   unfold fY
   rw [<- hy', decide_eq_true (by omega), decide_eq_true (by omega)]
   rfl
  rw [hB]
  rcases em2 (i < g.nodes.length) with hlt | hlt
  case' inl => have hneg' : (0 <= y) = False := eq_false λ h2 => hgo ⟨of_eq_true hlt, by omega⟩
  case' inr => have hneg' : True := trivial
  all_goals
   simp [GrB, hlt, hneg']
   refine aB pD ae [16] (λ q : Nat × Int => ⟨[(3, .ptr 0 1 4 0 0), (7, .int .i64 q.2), (11, .int .i64 q.1)], [GrB g]⟩) (λ q => q.1 <= g.edges.length /\ -9223372036854775808 <= q.2 /\ q.2 <= 2000 /\ bE x5 (g.edges.drop q.1) q.2 = bE x5 g.edges y) (λ q => g.edges.length - q.1) (by kernel_rfl) ⟨(0, y), ⟨by omega, by omega, by omega, rfl⟩, ag (by simp) (by simp [GrB])⟩ (λ ⟨k, z⟩ ⟨hk, hz1, hz2, hz⟩ => ?_)
   simp only at hk hz1 hz2 hz ⊢
   by_cases hkl : k < g.edges.length
   ·by_cases hnz : z < 0
    ·rw [fW _ _ hnz] at hz
     have hnz' : ¬ 0 <= z := by omega
     simp [GrB, hkl, hnz', <- hz]
    ·have hnz' : 0 <= z := by omega
     have hwe := hg.e _ (aq hkl)
     have ht := hwe.t
     have hpl := hwe.pl
     have hp := hwe.p
     unfold maxLen at ht
     rw [eP _ hkl hnz] at hz
     have i2 : I64 ((k : Int) + 1) := by unfold I64; omega
     have e4 : I64 (((ix g.edges k).type.size : Int) / 50) := by unfold I64; omega
     have e2 : I64 (z - ((ix g.edges k).type.size : Int) / 50) := by unfold I64; omega
     have p1 : -9223372036854775808 <= z - ((ix g.edges k).type.size : Int) / 50 := by omega
     have p2 : z - ((ix g.edges k).type.size : Int) / 50 <= 1000000 := by omega
     have hb := PV hwe hnz'
     simp [GrB, hkl, hnz']
     refine aA pD ae [.pure, .read, .pure, .pure, .pure, .read, .pure, .pure, .read, .pure, .pure, .pure, .read, .pure, .pure, .pure, .read, .pure] [[],[0],[],[2,0,1],[1,0,2,3],[3,2,0,1,4],[],[],[7],[],[9,7,8],[8,7,9,10],[10,9,7,8,11],[11,8,7,9,10,12],[12,10,9,7,8,11,13],[13,11,8,7,9,10,12,14,6],[6,14,12,10,9,7,8,11,13,15,4,1,0,2,3,5],[5,3,2,0,1,4,15,13,11,8,7,9,10,12,14,6,16]] (by kernel_rfl) (by kernel_rfl) (by kernel_rfl) (by kernel_rfl) ?_
     simp [GrB, hkl, aa hkl, AG, Aq, hpl, hp, p1, p2, e2, e4, i2]
     exact ⟨hp, k + 1, x5 (ix g.edges k) z, ⟨by omega, by omega, by omega, hz⟩, by omega, ag (by simp [x5]) (by simp [GrB])⟩
   ·rw [f6 _ hkl] at hz
    simp [GrB, hkl, <- hz]
theorem y8 {n : Int} {m : Nat} (h : n = 0 -> m = 0) (h' : n ≠ 0 -> 0 < m) : Fo (sgn n) m := by
 unfold sgn
 by_cases h0 : n = 0
 ·subst h0; exact .inl ⟨rfl, h rfl⟩
 ·refine .inr ⟨?_, h' h0⟩
  split
  ·exact .inr rfl
  ·rw [if_pos (by omega)]; exact .inl rfl
structure SumR (n p m q : Int) : Prop where
 pre : PreSum (sgn n) (bK ((aV n).toNat * p.toNat)) (sgn m) (bK ((aV m).toNat * q.toNat))
 val : jp (sgn n) (bK ((aV n).toNat * p.toNat)) (sgn m) (bK ((aV m).toNat * q.toNat)) = n * p + m * q
 big : (n * p + m * q).natAbs <= 2000000000000000000000000000000
theorem D7 {n p m q : Int} (hn : InR n) (hp : 0 < p /\ p <= 1000000000000000) (hm : InR m) (hq : 0 < q /\ q <= 1000000000000000) : SumR n p m q := by
 have t1 := oM (gV hn) ⟨le_of_lt hp.1, hp.2⟩
 have t2 := oM (gV hm) ⟨le_of_lt hq.1, hq.2⟩
 have v1 := gA (cJ (n := (aV n).toNat * p.toNat) (by omega))
 have v2 := gA (cJ (n := (aV m).toNat * q.toNat) (by omega))
 have e1 : (((aV n).toNat * p.toNat : Nat) : Int) = aV n * p := by rw [natCast_mul, toNat_of_nonneg (ip n), toNat_of_nonneg (le_of_lt hp.1)]
 have e2 : (((aV m).toNat * q.toNat : Nat) : Int) = aV m * q := by rw [natCast_mul, toNat_of_nonneg (ip m), toNat_of_nonneg (le_of_lt hq.1)]
 have ev : jp (sgn n) (bK ((aV n).toNat * p.toNat)) (sgn m) (bK ((aV m).toNat * q.toNat)) = n * p + m * q := by
  unfold jp
  rw [v1, v2, e1, e2, <- Int.mul_assoc, DP, <- Int.mul_assoc, DP]
 refine ⟨⟨ef (cJ (by omega)), ef (cJ (by omega)), ?_, ?_, by rw [v1, v2]; exact cJ (by omega)⟩, ev, ?_⟩
 ·rw [v1]
  refine y8 (λ h => by rw [h]; simp [aV]) (λ h => Nat.mul_pos (by unfold aV; omega) (by omega))
 ·rw [v2]
  refine y8 (λ h => by rw [h]; simp [aV]) (λ h => Nat.mul_pos (by unfold aV; omega) (by omega))
 ·have a1 : (n * p).natAbs = (aV n).toNat * p.toNat := by rw [Int.natAbs_mul, show n.natAbs = (aV n).toNat by unfold aV; omega, show p.natAbs = p.toNat by omega]
  have a2 : (m * q).natAbs = (aV m).toNat * q.toNat := by rw [Int.natAbs_mul, show m.natAbs = (aV m).toNat by unfold aV; omega, show q.natAbs = q.toNat by omega]
  rw [<- a1] at t1
  rw [<- a2] at t2
  have := Int.natAbs_add_le (n * p) (m * q)
  omega
theorem rE {a : Int} {g : Nat} (ha : 0 < a) (h : (g : Int) ∣ a) : 0 < a.tdiv g := by
 obtain ⟨x, hx⟩ := h
 have g0 : (g : Int) ≠ 0 := by intro h; rw [h, Int.zero_mul] at hx; omega
 rw [hx, Int.mul_tdiv_cancel_left _ g0]
 have g1 : (0 : Int) < g := by omega
 by_cases hx0 : 0 < x
 ·exact hx0
 ·have := Int.mul_nonpos_of_nonneg_of_nonpos (le_of_lt g1) (show x <= 0 by omega)
  omega
theorem Be (t : Int) (g : Nat) : Int.gcd g ((t.natAbs % g : Nat) : Int) = Int.gcd t g := by
 rw [Int.gcd_comm, <- rr t g]
 congr 1
theorem U8 : PureOK prog G0 140 tA := by
 refine aX JC ae func140 rfl rfl rfl (by kernel_rfl) (by decide) (λ a b _ => ?_)
 by_cases ha : aj a
 case neg =>
  have e := r9 (a := a) (b := b) (λ h => ha h.1)
  simp [ax, ha, e, F00]
 by_cases hb : aj b
 case neg =>
  have e := r9 (a := a) (b := b) (λ h => hb h.2)
  simp [ax, ha, hb, e, F00]
 obtain ⟨hh0, e⟩ := qT ha hb
 have ez := mb ha hb
 have ha' := ha
 have hb' := hb
 obtain ⟨a1, a2, a3, a4⟩ := ha'
 obtain ⟨b1, b2, b3, b4⟩ := hb'
 have a5 : InR a.D := by unfold InR; omega
 have b5 : InR b.D := by unfold InR; omega
 obtain ⟨g0, g1⟩ := vg a5 b5 (by omega)
 have d1 := Int.gcd_dvd_left a.D b.D
 have d2 := Int.gcd_dvd_right a.D b.D
 have et : tF a b = a.N * b.D.tdiv (Int.gcd a.D b.D) + b.N * a.D.tdiv (Int.gcd a.D b.D) := rfl
 obtain ⟨g, hg⟩ : ∃ g, Int.gcd a.D b.D = g := ⟨_, rfl⟩
 rw [hg] at hh0 e g0 g1 d1 d2 et
 have pp := rE (by omega) d1
 have qq := rE (by omega) d2
 have p3 := kQ (a := a.D) (g := g) ⟨by omega, by omega⟩
 have p4 := kQ (a := b.D) (g := g) ⟨by omega, by omega⟩
 have g2 : ¬ g = 0 := by omega
 have ad0 : 0 <= a.D := by omega
 have bd0 : 0 <= b.D := by omega
 have A0 := ip a.N
 have B0 := ip b.N
 have A1 := (gV a3).2
 have B1 := (gV b3).2
 obtain ⟨x, hx⟩ : ∃ x, a.D.tdiv g = x := ⟨_, rfl⟩
 obtain ⟨y, hy⟩ : ∃ y, b.D.tdiv g = y := ⟨_, rfl⟩
 rw [hx] at et e pp p3
 rw [hy] at et qq p4
 have q1 : w64 x = x := aT (by unfold I64; omega)
 have q2 : w64 y = y := aT (by unfold I64; omega)
 have S := D7 a3 ⟨qq, p4.2⟩ b3 ⟨pp, p3.2⟩
 have S1 := S.pre
 have S2 := S.val
 have S3 := S.big
 rw [<- et] at S2 S3
 obtain ⟨X, hX⟩ : ∃ X, bK ((aV a.N).toNat * y.toNat) = X := ⟨_, rfl⟩
 obtain ⟨Y, hY⟩ : ∃ Y, bK ((aV b.N).toNat * x.toNat) = Y := ⟨_, rfl⟩
 rw [hX, hY] at S1 S2
 generalize tF a b = t at *
 rcases em2 (t = 0) with ht | ht
 ·have hs : sgn t = 0 := by rw [of_eq_true ht]; rfl
  have e := ez (of_eq_true ht)
  simp [ax, gO, kg, d6, ns, j9, ha, hb, hg, g2, a2, b2, a3, b3, ad0, bd0, A0, B0, A1, B1, hx, hy, q1, q2, p3, p4, hX, hY, S1, S2, hs, e, F01]
 have hs : (sgn t = 0) = False := eq_false (λ h => of_eq_false ht (oI h))
 obtain ⟨M, hM⟩ : ∃ M, t.natAbs = M := ⟨_, rfl⟩
 have r2 := Be t g
 rw [hM] at S3 r2
 have vM := gA (cJ (n := M) (by omega))
 have h1 : (Int.gcd t g : Int) <= g := Int.gcd_le_natAbs_right t (show (g : Int) ≠ 0 by omega) |> (λ h => by omega)
 obtain ⟨h, hh⟩ : ∃ h, Int.gcd t g = h := ⟨_, rfl⟩
 rw [hh] at hh0 e r2 h1
 have g3 : (g : Int) <= 1000000000000000 := by unfold InR at g1; omega
 have h3 : (h : Int) <= 1000000000000000 := by omega
 have h2 : ¬ h = 0 := by omega
 have pM : uE (bK M) g := ⟨ef (cJ (by omega)), by omega, g3⟩
 have pH : uE (bK M) h := ⟨ef (cJ (by omega)), by omega, h3⟩
 have lq := div_le_self M h
 have vq := gA (cJ (n := M / h) (by omega))
 have nq : kf (bK (M / h)) := ef (cJ (by omega))
 have n1 := yx (X := M / h)
 have p5 := kQ (a := b.D) (g := h) ⟨by omega, by omega⟩
 obtain ⟨z, hz⟩ : ∃ y, b.D.tdiv h = y := ⟨_, rfl⟩
 rw [hz] at e p5
 have q3 : w64 z = z := aT (by unfold I64; omega)
 have t2 := oM p3 p5
 have v2 := gA (cJ (n := x.toNat * z.toNat) (by omega))
 have nz : kf (bK (x.toNat * z.toNat)) := ef (cJ (by omega))
 have c2 : ((x.toNat * z.toNat : Nat) : Int) = x * z := by rw [natCast_mul, toNat_of_nonneg p3.1, toNat_of_nonneg p5.1]
 have n2 := yx (X := x.toNat * z.toNat)
 rw [c2] at n2
 obtain ⟨Q, hQ⟩ : ∃ Q, M / h = Q := ⟨_, rfl⟩
 obtain ⟨R, hR⟩ : ∃ R, M % g = R := ⟨_, rfl⟩
 rw [hQ] at vq nq n1 lq
 rw [hR] at r2
 have hR' : (M : Int) % (g : Int) = (R : Int) := by rw [<- hR]; simp
 have et : t.tdiv h = sgn t * (Q : Int) := by
  rw [<- ui t h, <- hQ, <- hM]
  unfold aV
  rw [fV]
 have hσ := EG t
 have hz0 : sgn t = 0 -> (Q : Int) = 0 := λ h => absurd (oI h) (of_eq_false ht)
 have em := DZ (y := x * z) hσ hz0
 rw [<- et, <- e] at em
 have w2 : InR (Q : Int) -> w64 (sgn t * Q) = sgn t * Q := λ h => sZ ((BS hσ hz0).2 h)
 have rl : R < g := by rw [<- hR]; exact mod_lt _ (by omega)
 have r3 : (R : Int) <= 1000000000000000 := by omega
 obtain ⟨W, hW⟩ : ∃ W, bK (x.toNat * z.toNat) = W := ⟨_, rfl⟩
 rw [hW] at v2 nz
 rw [<- v2] at n2
 by_cases u1 : InR (Q : Int)
 ·rw [if_pos u1] at n1
  have w2 := w2 u1
  by_cases u2 : InR (x * z)
  ·rw [v2, if_pos u2] at n2
   rw [if_pos ⟨u1, u2⟩] at em
   simp [ax, gO, kg, d6, ns, j9, qo, ig, ha, hb, hg, g2, a2, b2, a3, b3, ad0, bd0, A0, B0, A1, B1, hx, hy, q1, q2, p3, p4, hX, hY, S1, S2, hs, hM, vM, pM, pH, hQ, hR', vq, nq, n1, hz, p5, q3, hW, v2, nz, n2, em, w2, r2, r3, h2]
   exact et.symm
  ·rw [v2, if_neg u2] at n2
   rw [if_neg (λ h => u2 h.2)] at em
   simp [ax, gO, kg, d6, ns, j9, qo, ig, ha, hb, hg, g2, a2, b2, a3, b3, ad0, bd0, A0, B0, A1, B1, hx, hy, q1, q2, p3, p4, hX, hY, S1, S2, hs, hM, vM, pM, pH, hQ, hR', vq, nq, n1, hz, p5, q3, hW, v2, nz, n2, em, r2, r3, h2, F00]
 ·rw [if_neg u1] at n1
  rw [if_neg (λ h => u1 h.1)] at em
  simp [ax, gO, kg, d6, ns, j9, qo, ig, ha, hb, hg, g2, a2, b2, a3, b3, ad0, bd0, A0, B0, A1, B1, hx, hy, q1, q2, p3, p4, hX, hY, S1, S2, hs, hM, vM, pM, pH, hQ, hR', vq, nq, n1, hz, p5, q3, hW, v2, nz, n2, em, r2, r3, h2, F00]
noncomputable def CFR2 : Ctx := mkC prog G0 [(133, .pure ax), (136, .pure gO), (139, .pure ns), (138, .pure d6), (144, .pure j9), (140, .pure tA), (107, .pure iR)]
@[simp] theorem Vo : CFR2.P = prog := rfl
@[simp] theorem Vz : CFR2.G = G0 := rfl
@[simp] theorem Vx : CFR2.S 133 = .pure ax /\ CFR2.S 136 = .pure gO /\ CFR2.S 139 = .pure ns /\ CFR2.S 138 = .pure d6 /\ CFR2.S 144 = .pure j9 /\ CFR2.S 140 = .pure tA /\ CFR2.S 107 = .pure iR := ⟨rfl, rfl, rfl, rfl, rfl, rfl, rfl⟩
theorem Lm : au CFR2 := ap (d8) func133 (ap (JT) func136 (ap (Nx) func139 (ap (J5) func138 (ap (Um) func144 (ap (U8) func140 (ap (V7) func107 (ak _ _)))))))
theorem Vf : PureOK prog G0 118 rQ := by
 refine aX Lm ae func118 rfl rfl rfl (by kernel_rfl) (by decide) (λ a b _ => ?_)
 have va := mL a
 have vb := mL b
 obtain ⟨x, hx⟩ : ∃ x, pE a = x := ⟨_, rfl⟩
 obtain ⟨y, hy⟩ : ∃ y, pE b = y := ⟨_, rfl⟩
 have ec : jv a b = sgn (x.N * y.D + -y.N * x.D) := by unfold jv; rw [hx, hy, neg_mul]; rfl
 rw [hx] at va
 rw [hy] at vb
 obtain ⟨a1, a2, a3, a4⟩ := va
 obtain ⟨b1, b2, b3, b4⟩ := vb
 have S := D7 a3 (p := y.D) ⟨by omega, b2⟩ (InR_neg.2 b3) (q := x.D) ⟨by omega, a2⟩
 have S1 := S.pre
 have S2 := S.val
 rw [<- congrArg sgn S2] at ec
 have ab : aV (-y.N) = aV y.N := by unfold aV; omega
 have sb : sgn (-y.N) = -sgn y.N := by unfold sgn; split <;> split <;> (try split) <;> omega
 have wb : IntKind.wrap .i64 (-sgn y.N) = -sgn y.N := sZ (by have := EG y.N; unfold InR; omega)
 rw [ab, sb] at S1 ec
 have A0 := ip x.N
 have B0 := ip y.N
 have A1 := (gV a3).2
 have B1 := (gV b3).2
 have c1 : 0 <= x.D := by omega
 have c2 : 0 <= y.D := by omega
 by_cases ha : aj a
 ·have hx' : a = x := by rw [<- hx]; exact (if_pos ha).symm
  by_cases hb : aj b
  ·have hy' : b = y := by rw [<- hy]; exact (if_pos hb).symm
   subst hx' hy'
   simp [ax, gO, d6, ns, j9, ha, hb, a2, a3, b2, b3, A0, B0, A1, B1, c1, c2, wb, S1, ec]
  ·have hy' : F01 = y := by rw [<- hy]; exact (if_neg hb).symm
   subst hx' hy'
   simp only [F01, show Int.toNat 1 = 1 from rfl, mul_one] at b2 b3 B0 B1 c2 wb S1 ec
   simp [ax, gO, d6, ns, j9, ha, hb, a2, a3, b2, b3, A0, B0, A1, B1, c1, c2, wb, S1, ec]
 ·have hx' : F01 = x := by rw [<- hx]; exact (if_neg ha).symm
  by_cases hb : aj b
  ·have hy' : b = y := by rw [<- hy]; exact (if_pos hb).symm
   subst hx' hy'
   simp only [F01, show Int.toNat 1 = 1 from rfl, mul_one] at a2 a3 A0 A1 c1 S1 ec
   simp [ax, gO, d6, ns, j9, ha, hb, a2, a3, b2, b3, A0, B0, A1, B1, c1, c2, wb, S1, ec]
  ·have hy' : F01 = y := by rw [<- hy]; exact (if_neg hb).symm
   subst hx' hy'
   simp only [F01, show Int.toNat 1 = 1 from rfl, mul_one] at a2 a3 A0 A1 c1 b2 b3 B0 B1 c2 wb S1 ec
   simp [ax, gO, d6, ns, j9, ha, hb, a2, a3, b2, b3, A0, B0, A1, B1, c1, c2, wb, S1, ec]
def cY (v : Val) : Bool := okV v && (decide (v.kind = 1) || decide (v.kind = 2) || decide (v.kind = 4))
def lU : PSp := aN (λ (v : Val) => WfV v) (λ v => .bool (cY v))
noncomputable def CVl1 : Ctx := mkC prog G0 [(112, .pure jU)]
@[simp] theorem Wd : CVl1.P = prog := rfl
@[simp] theorem Wv : CVl1.G = G0 := rfl
@[simp] theorem V3 : CVl1.S 112 = .pure jU := rfl
theorem Fz : au CVl1 := ap (vR) func112 (ak _ _)
theorem IC : PureOK prog G0 79 lU := by
 refine bj Fz ae func79 rfl rfl rfl (by kernel_rfl) (by decide) (λ v hw => ?_)
 cases h : okV v
 ·simp [jU, hw, h, cY]
 rcases em2 (v.kind = 1) with h1 | h1
 ·simp [jU, hw, h, cY, h1]
 rcases em2 (v.kind = 2) with h2 | h2
 ·simp [jU, hw, h, cY, h1, h2]
 rcases em2 (v.kind = 4) with h3 | h3 <;> simp [jU, hw, h, cY, h1, h2, h3]
def uo (v : Val) : Fr × Bool := if okV v = true then (if v.kind = 2 then (⟨v.n, 1⟩, true) else if v.kind = 3 then (⟨v.n, v.d⟩, true) else (F00, false)) else (F00, false)
def uU : PSp := aN (λ (v : Val) => WfV v) (λ v => .tup [Enc.enc (uo v).1, .bool (uo v).2])
theorem Wc : PureOK prog G0 117 uU := by
 refine bj Fz ae func117 rfl rfl rfl (by kernel_rfl) (by decide) (λ v hw => ?_)
 cases h : okV v
 ·simp [jU, hw, h, uo, F00]
 rcases em2 (v.kind = 2) with h1 | h1
 ·simp [jU, hw, h, uo, h1]
 rcases em2 (v.kind = 3) with h2 | h2 <;> simp [jU, hw, h, uo, h1, h2, F00]
def Cq (b : Bool) : Int := if b = true then 2 else 0
def BT : PSp := aN (λ (_ : Bool) => True) (λ b => .int .i64 (Cq b))
theorem Wi : PureOK prog G0 113 BT := by
 refine bj aK ae func113 rfl rfl rfl (by kernel_rfl) (by decide) (λ b _ => ?_)
 cases b <;> simp [Cq]
def md : PSp := aC (λ (_ _ : Int) => True) (λ a b => .int .i64 (if a < b then -1 else if b < a then 1 else 0))
theorem KL : PureOK prog G0 115 md := by
 refine aX aK ae func115 rfl rfl rfl (by kernel_rfl) (by decide) (λ a b _ => ?_)
 by_cases h1 : a < b
 ·simp [h1]
 by_cases h2 : b < a <;> simp [h1, h2]
def nullV : Val := .mk 0 0 0 ByteArray.empty []
def ft (k : Int) : Int := if k = 0 then 0 else if k = 1 then 1 else if k = 2 ∨ k = 3 then 2 else if k = 4 then 3 else if k = 5 then 4 else if k = 6 then 5 else if k = 8 then 6 else 7
def uJ : PSp := aN (λ (_ : Int) => True) (λ k => .int .i64 (ft k))
theorem O5 : PureOK prog G0 116 uJ := by
 refine bj aK ae func116 rfl rfl rfl (by kernel_rfl) (by decide) (λ k _ => ?_)
 by_cases h0 : k = 0
 ·subst h0; simp [ft]
 by_cases h1 : k = 1
 ·subst h1; simp [ft]
 by_cases h2 : k = 2
 ·subst h2; simp [ft]
 by_cases h3 : k = 3
 ·subst h3; simp [ft]
 by_cases h4 : k = 4
 ·subst h4; simp [ft]
 by_cases h5 : k = 5
 ·subst h5; simp [ft]
 by_cases h6 : k = 6
 ·subst h6; simp [ft]
 by_cases h8 : k = 8
 ·subst h8; simp [ft]
 simp [ft, h0, h1, h2, h3, h4, h5, h6, h8]
theorem TK : PureOK prog G0 78 (dA (Enc.enc nullV)) := by
 refine NI aK ae func78 rfl rfl rfl (by kernel_rfl) ?_
 simp [nullV]
def EJ : PSp := aC (λ (a b : ByteArray) => a = ByteArray.empty /\ b = ByteArray.empty) (λ _ _ => .int .i64 0)
theorem Ti : PureOK prog G0 142 EJ := by
 refine aX aK ae func142 rfl rfl rfl (by kernel_rfl) (by decide) (λ a b ⟨ha, hb⟩ => ?_)
 subst ha hb
 have e : Op.bytesLess [] [] = false := rfl
 simp [e]
def wW : PSp := aC (λ (a b : List Val) => a = [] /\ b = []) (λ _ _ => .int .i64 0)
noncomputable def CInt : Ctx := mkC prog G0 [(115, .pure md)]
@[simp] theorem WL : CInt.P = prog := rfl
@[simp] theorem VG : CInt.G = G0 := rfl
@[simp] theorem WI : CInt.S 115 = .pure md := rfl
theorem ED : au CInt := ap (KL) func115 (ak _ _)
theorem P4 : PureOK prog G0 143 wW := by
 refine lF ED ae func143 rfl rfl rfl [4] (by kernel_rfl) (by decide) (λ a b ⟨ha, hb⟩ => ?_)
 subst ha hb
 simp
 refine aB ED ae [4] (λ _ : Nat => ⟨[(0, Enc.enc ([] : List Val)), (1, Enc.enc ([] : List Val)), (5, .int .i64 0)], []⟩) (λ _ => True) (λ _ => 0) (by kernel_rfl) ⟨0, trivial, ah (by simp)⟩ (λ _ _ => ?_)
 simp [md]
def sk : PSp := aC (λ (a b : Val) => a = nullV /\ b = nullV) (λ _ _ => .int .i64 0)
noncomputable def CFds : Ctx := mkC prog G0 [(115, .pure md), (142, .pure EJ), (143, .pure wW)]
@[simp] theorem WV : CFds.P = prog := rfl
@[simp] theorem VJ : CFds.G = G0 := rfl
@[simp] theorem VC : CFds.S 115 = .pure md /\ CFds.S 142 = .pure EJ /\ CFds.S 143 = .pure wW := ⟨rfl, rfl, rfl⟩
theorem Lp : au CFds := ap (KL) func115 (ap (Ti) func142 (ap (P4) func143 (ak _ _)))
theorem M0 : PureOK prog G0 114 sk := by
 refine aX Lp ae func114 rfl rfl rfl (by kernel_rfl) (by decide) (λ a b ⟨ha, hb⟩ => ?_)
 subst ha hb
 simp [nullV, md, EJ, wW]
theorem Bt : WfV nullV := .mk _ _ _ _ _ (zero_le _) (zero_le _) (by simp)
theorem Kw : okV nullV = true := by
 unfold okV
 rw [yc]
 simp [nullV, ck]
 rfl
theorem M5 {a : Val} (h : okV a = true) (hk : a.kind = 0) : a = nullV := by
 unfold okV at h
 rw [yc, if_pos hk] at h
 obtain ⟨k, n, d, s, l⟩ := a
 simp [ck] at h hk
 obtain ⟨⟨⟨h1, h2⟩, h3⟩, h4⟩ := h
 have q1 := of_decide_eq_true h1
 have q2 := of_decide_eq_true h2
 have q3 := of_decide_eq_true h3
 clear h1 h2 h3
 subst hk q1 q2 q3 h4
 rfl
theorem Hl {k : Int} (h : k ≠ 0) : 0 < ft k := by
 unfold ft
 rw [if_neg h]
 repeat' split
 all_goals omega
def eR (a : Val) : Bool := okV a && decide (a.kind = 0)
def u7 : PSp := aC (λ (a b : Val) => WfV a /\ b = nullV) (λ a _ => .int .i64 (if eR a = true then 0 else 1))
noncomputable def COd : Ctx := mkC prog G0 [(112, .pure jU), (113, .pure BT), (114, .pure sk), (116, .pure uJ), (115, .pure md), (117, .pure uU), (118, .pure rQ)]
@[simp] theorem Xr : COd.P = prog := rfl
@[simp] theorem XX : COd.G = G0 := rfl
@[simp] theorem Zg : COd.S 112 = .pure jU /\ COd.S 113 = .pure BT /\ COd.S 114 = .pure sk /\ COd.S 116 = .pure uJ /\ COd.S 115 = .pure md /\ COd.S 117 = .pure uU /\ COd.S 118 = .pure rQ := ⟨rfl, rfl, rfl, rfl, rfl, rfl, rfl⟩
theorem J1 : au COd := ap (vR) func112 (ap (Wi) func113 (ap (M0) func114 (ap (O5) func116 (ap (KL) func115 (ap (Wc) func117 (ap (Vf) func118 (ak _ _)))))))
theorem Vw : PureOK prog G0 77 u7 := by
 refine aX J1 ae func77 rfl rfl rfl (by kernel_rfl) (by decide) (λ a b ⟨ha, hb⟩ => ?_)
 have wn := Bt
 have on := Kw
 have kn : b.kind = 0 := by rw [hb]; rfl
 have kN : nullV.kind = 0 := rfl
 have cn : ft nullV.kind = 0 := rfl
 have w1 : w64 1 = 1 := rfl
 cases h : okV a
 ·have e : eR a = false := by simp [eR, h]
  simp [jU, ha, hb, wn, on, h, e, BT, Cq, w1]
 by_cases hk : a.kind = 0
 ·obtain rfl := M5 h hk
  have e : eR nullV = true := by simp [eR, on, kN]
  have en : uo nullV = (F00, false) := by simp [uo, on, kN]
  simp [jU, hb, wn, on, e, uJ, cn, md, uU, en, sk]
 ·have e : eR a = false := by simp [eR, hk]
  have hc := Hl hk
  have hc2 : ¬ ft a.kind < 0 := by omega
  simp [jU, ha, hb, wn, on, h, e, uJ, cn, md, hc, hc2]
def eqP (a b : Val) : Int := if a.kind = 0 then 1 else if a.kind ≠ b.kind then 0 else Cq (if a.kind = 4 then decide (a.s = b.s) else decide (a.n = b.n))
def sEq : PSp := aC (λ (a b : Val) => WfV a /\ WfV b /\ (a = nullV ∨ cY a = true) /\ cY b = true) (λ a b => .int .i64 (eqP a b))
theorem Jf {a : Val} (h : okV a = true) (hk : a.kind = 2) : InR a.n := by
 unfold okV at h
 rw [yc, if_neg (by omega), if_neg (by omega), if_pos hk] at h
 simp [inB] at h
 exact h.2
theorem zZ {a : Val} (h : cY a = true) : okV a = true /\ (a.kind = 1 ∨ a.kind = 2 ∨ a.kind = 4) := by
 simp [cY] at h
 exact ⟨h.1, by omega⟩
theorem ME {x y : Int} (hx : InR x) (hy : InR y) : jv ⟨x, 1⟩ ⟨y, 1⟩ = 0 ↔ x = y := by
 have v1 : aj ⟨x, 1⟩ := ⟨Int.le_refl 1, by show (1 : Int) <= _; omega, hx, Int.gcd_one_right x⟩
 have v2 : aj ⟨y, 1⟩ := ⟨Int.le_refl 1, by show (1 : Int) <= _; omega, hy, Int.gcd_one_right y⟩
 unfold jv pE
 rw [if_pos v1, if_pos v2]
 simp only [sgn]
 constructor
 ·intro h
  split at h
  ·omega
  ·split at h <;> omega
 ·rintro rfl
  simp
theorem eqR : PureOK prog G0 86 sEq := by
 refine lF J1 ae func86 rfl rfl rfl [19] (by kernel_rfl) (by decide) (λ a b ⟨ha, hb, hpa, hpb⟩ => ?_)
 obtain ⟨ob, kb⟩ := zZ hpb
 have kb0 : ¬ b.kind = 0 := by omega
 rcases em2 (a.kind = 0) with h0 | h0
 ·simp [h0, eqP]
 have oa : okV a = true /\ (a.kind = 1 ∨ a.kind = 2 ∨ a.kind = 4) := by
  rcases hpa with rfl | h
  ·exact absurd h0 (by simp [nullV])
  ·exact zZ h
 obtain ⟨oa, ka⟩ := oa
 have n2 : ∀ v : Val, okV v = true -> (v.kind = 2) = True -> uo v = (⟨v.n, 1⟩, true) := λ v h1 h2 => by simp [uo, h1, h2]
 have n3 : ∀ v : Val, okV v = true -> (v.kind = 2) = False -> (v.kind = 1 ∨ v.kind = 4) -> uo v = (F00, false) := λ v h1 h2 h3 => by
  have : ¬ v.kind = 3 := by omega
  simp [uo, h1, h2, this]
 have l8 : (a.kind = 8) = False := eq_false (by omega)
 have l7 : (a.kind = 7) = False := eq_false (by omega)
 rcases em2 (a.kind = 2) with a2 | a2
 ·have na := n2 a oa a2
  rcases em2 (b.kind = 2) with b2 | b2
  ·have nb := n2 b ob b2
   have e := ME (Jf oa (of_eq_true a2)) (Jf ob (of_eq_true b2))
   have e2 : decide (jv ⟨a.n, 1⟩ ⟨b.n, 1⟩ = 0) = decide (a.n = b.n) := decide_eq_decide.2 e
   have er : eqP a b = Cq (decide (a.n = b.n)) := by
    unfold eqP
    rw [if_neg (of_eq_false h0), if_neg (λ h => h (by rw [of_eq_true a2, of_eq_true b2])), if_neg (by have := of_eq_true a2; omega)]
   rw [er]
   simp [h0, kb0, jU, ha, hb, oa, ob, uU, na, nb, rQ, BT, e2, e]
  ·have nb := n3 b ob b2 (by have := of_eq_false b2; omega)
   have hne : (a.kind = b.kind) = False := eq_false (by have := of_eq_true a2; have := of_eq_false b2; omega)
   have er : eqP a b = 0 := by simp [eqP, h0, hne]
   rw [er]
   simp [h0, kb0, jU, ha, hb, oa, ob, uU, na, nb, hne]
 ·have na := n3 a oa a2 (by have := of_eq_false a2; omega)
  rcases em2 (a.kind = b.kind) with hne | hne
  case inr =>
   have er : eqP a b = 0 := by simp [eqP, h0, hne]
   rw [er]
   rcases em2 (b.kind = 2) with b2 | b2
   ·have nb := n2 b ob b2
    simp [h0, kb0, jU, ha, hb, oa, ob, uU, na, nb, hne]
   ·have nb := n3 b ob b2 (by have := of_eq_false b2; omega)
    simp [h0, kb0, jU, ha, hb, oa, ob, uU, na, nb, hne]
  have b2 : (b.kind = 2) = False := eq_false (by have := of_eq_true hne; have := of_eq_false a2; omega)
  have nb := n3 b ob b2 (by have := of_eq_false b2; omega)
  rcases em2 (a.kind = 4) with a4 | a4
  ·have er : eqP a b = Cq (decide (a.s = b.s)) := by simp [eqP, h0, hne, a4]
   rw [er]
   simp [h0, kb0, jU, ha, hb, oa, ob, uU, na, nb, hne, a4, BT]
  ·have er : eqP a b = Cq (decide (a.n = b.n)) := by simp [eqP, h0, hne, a4]
   rw [er]
   simp [h0, kb0, jU, ha, hb, oa, ob, uU, na, nb, hne, a4, l8, l7, BT]
structure WfA (a : Atm) : Prop where
 vl : a.vars.length <= maxLen
 iv : ∀ v ∈ a.vars, I64 v
 nm : a.name.size <= maxLen
 tl : a.types.length <= maxLen
 v : WfV a.v
structure WfC (c : Cnj) : Prop where
 vl : c.vars.length <= maxLen
 al : c.atoms.length <= maxLen
 a : ∀ a ∈ c.atoms, WfA a
def r7 (a : Atm) : Bool := decide (a.vars.length <= 8) && decide (a.types.length <= 12) && decide (a.name.size <= 100) && decide (0 <= bE zK [[a.v]] 100)
def KH : PSp := aN (λ (a : Atm) => WfA a) (λ a => .bool (r7 a))
noncomputable def CLA : Ctx := mkC prog G0 [(111, .pure K8)]
@[simp] theorem Yb : CLA.P = prog := rfl
@[simp] theorem Yn : CLA.G = G0 := rfl
@[simp] theorem XR : CLA.S 111 = .pure K8 := rfl
theorem Qw : au CLA := ap (liV) func111 (ak _ _)
theorem liA : PureOK prog G0 74 KH := by
 refine bj Qw ae func74 rfl rfl rfl (by kernel_rfl) (by decide) (λ a hw => ?_)
 rcases em2 (a.vars.length <= 8) with h1 | h1
 case inr =>
  have h1' : ((a.vars.length : Int) <= 8) = False := eq_false (by have := of_eq_false h1; omega)
  simp [h1', r7, h1]
 have h1' : ((a.vars.length : Int) <= 8) = True := eq_true (by have := of_eq_true h1; omega)
 rcases em2 (a.types.length <= 12) with h2 | h2
 case inr =>
  have h2' : ((a.types.length : Int) <= 12) = False := eq_false (by have := of_eq_false h2; omega)
  simp [h1', h2', r7, h1, h2]
 have h2' : ((a.types.length : Int) <= 12) = True := eq_true (by have := of_eq_true h2; omega)
 rcases em2 (a.name.size <= 100) with h3 | h3
 case inr =>
  have h3' : ((a.name.size : Int) <= 100) = False := eq_false (by have := of_eq_false h3; omega)
  simp [h1', h2', h3', r7, h1, h2, h3]
 have h3' : ((a.name.size : Int) <= 100) = True := eq_true (by have := of_eq_true h3; omega)
 have hv := hw.v
 have e0 : Enc.dec (.slice 1 false [[.slice 5 false [[.int .i64 a.v.kind, .int .i64 a.v.n, .int .i64 a.v.d, .str a.v.s, .slice 5 false (ac a.v.l)]]]]) = [[a.v]] := by
  have := Enc.dec_enc [[a.v]]
  simpa [ac] using this
 simp [h1', h2', h3', r7, h1, h2, h3, K8, e0, hv, maxLen]
def liC (c : Cnj) : Bool := decide (c.vars.length <= 30) && decide (c.atoms.length <= 14) && decide (∀ a ∈ c.atoms, r7 a = true)
def IR : PSp := aN (λ (c : Cnj) => WfC c) (λ c => .bool (liC c))
def CjB (c : Cnj) : Blk := ⟨47, 2, [[.slice 1 false (ac c.vars), .slice 9 false (ac c.atoms)]], true, true⟩
def AtB (a : Atm) : Blk := ⟨56, 9, [[.int .i64 a.kind, .slice 1 false (ac a.vars), .str a.name, .slice 1 false (ac a.types), .int .i64 a.v.kind, .int .i64 a.v.n, .int .i64 a.v.d, .str a.v.s, .slice 5 false (ac a.v.l)]], true, true⟩
noncomputable def CLC : Ctx := mkC prog G0 [(74, .pure KH)]
@[simp] theorem X1 : CLC.P = prog := rfl
@[simp] theorem XA : CLC.G = G0 := rfl
@[simp] theorem XU : CLC.S 74 = .pure KH := rfl
theorem Ih : au CLC := ap (liA) func74 (ak _ _)
theorem Vj : PureOK prog G0 34 IR := by
 refine bj Ih ae func34 rfl rfl rfl (by kernel_rfl) (by decide) (λ c hw => ?_)
 have hal := hw.al
 unfold maxLen at hal
 rcases em2 ((30 : Int) < (c.vars.length : Int)) with h1 | h1
 ·have e : liC c = false := by
   have := of_eq_true h1
   unfold liC
   rw [decide_eq_false (by omega), Bool.false_and, Bool.false_and]
  simp [h1, e]
 rcases em2 ((14 : Int) < (c.atoms.length : Int)) with h2 | h2
 ·have e : liC c = false := by
   have := of_eq_true h2
   unfold liC
   rw [decide_eq_false (p := c.atoms.length <= 14) (by omega), Bool.and_false, Bool.false_and]
  simp [h1, h2, e]
 have e : liC c = decide (∀ a ∈ c.atoms, r7 a = true) := by
  have := of_eq_false h1
  have := of_eq_false h2
  unfold liC
  rw [decide_eq_true (by omega), decide_eq_true (p := c.atoms.length <= 14) (by omega)]
  rfl
 rw [e]
 simp [h1, h2]
 refine am Ih ae (λ i : Nat => ⟨[(1, .ptr 0 1 2 0 0), (16, Enc.enc c.atoms), (17, .int .i64 c.atoms.length), (18, .int .i64 i)], [CjB c]⟩) (λ i => i <= c.atoms.length /\ ∀ j, j < i -> r7 (ix c.atoms j) = true) (λ i => c.atoms.length - i) (by kernel_rfl) ⟨0, by simp, ag (by simp) (by simp [CjB])⟩ (λ i ⟨hi, hall⟩ => ?_)
 by_cases hlt : i < c.atoms.length
 ·have i1 : I64 ((i : Int) + 1) := by unfold I64; omega
  have hwa := hw.a _ (aq hlt)
  obtain ⟨a, ha⟩ : ∃ a, a = ix c.atoms i := ⟨_, rfl⟩
  rw [<- ha] at hwa
  cases hb : r7 a
  ·have e2 : decide (∀ a ∈ c.atoms, r7 a = true) = false := decide_eq_false λ h => by
    have := h _ (aq hlt)
    rw [<- ha, hb] at this
    cases this
   simp [CjB, hlt, aa hlt, <- ha, KH, hwa, hb, e2]
  ·simp [CjB, hlt, aa hlt, <- ha, KH, hwa, hb, i1]
   refine ⟨i + 1, ⟨by omega, λ j hj => ?_⟩, by omega, bG 1 (by simp) (by simp) (by simp [AV.clean, AV.clean1]) (by simp) (by simp [CjB])⟩
   rcases lt_or_eq_of_le (le_of_lt_succ hj) with h | rfl
   ·exact hall j h
   ·rw [<- ha]; exact hb
 ·have e2 : decide (∀ a ∈ c.atoms, r7 a = true) = true := decide_eq_true λ a ha => by
   obtain ⟨j, hj, rfl⟩ := mem_iff_getElem.1 ha
   have := hall j (by omega)
   rwa [az hj] at this
  simp [CjB, hlt, e2]
def eF : List Int -> List Int -> Int
 | [], [] => 0
 | [], _ :: _ => -1
 | _ :: _, [] => 1
 | a :: r, b :: q => if a < b then -1 else if b < a then 1 else eF r q
theorem vJ : ∀ a, eF a a = 0
 | [] => rfl
 | a :: r => by rw [eF, if_neg (Int.lt_irrefl a), if_neg (Int.lt_irrefl a), vJ r]
theorem yg : ∀ {a b : List Int}, eF a b = 0 -> a = b
 | [], [], _ => rfl
 | [], _ :: _, h => by cases h
 | _ :: _, [], h => by cases h
 | a :: r, b :: q, h => by
  rw [eF] at h
  split at h
  ·cases h
  ·split at h
   ·cases h
   ·rw [yg h, show a = b by omega]
theorem vQ : ∀ (a b : List Int), eF b a = - eF a b
 | [], [] => rfl
 | [], _ :: _ => rfl
 | _ :: _, [] => rfl
 | a :: r, b :: q => by
  rw [eF, eF]
  by_cases h1 : a < b
  ·rw [if_pos h1, if_neg (by omega), if_pos h1]; rfl
  ·by_cases h2 : b < a
   ·rw [if_pos h2, if_neg h1, if_pos h2]
   ·rw [if_neg h1, if_neg h2, if_neg h2, if_neg h1, vQ r q]
theorem nX : ∀ {a b c : List Int}, eF a b < 0 -> eF b c < 0 -> eF a c < 0
 | [], [], _, h, _ => by cases h
 | [], _ :: _, [], _, h => by cases h
 | [], _ :: _, _ :: _, _, _ => by show (-1 : Int) < 0; decide
 | _ :: _, [], _, h, _ => by cases h
 | _ :: _, _ :: _, [], _, h => by cases h
 | a :: r, b :: q, c :: s, h1, h2 => by
  rw [eF] at h1 h2 ⊢
  split at h1
  ·split at h2
   ·rw [if_pos (by omega)]; decide
   ·split at h2
    ·cases h2
    ·rw [if_pos (by omega)]; decide
  ·split at h1
   ·cases h1
   ·split at h2
    ·rw [if_pos (by omega)]; decide
    ·split at h2
     ·cases h2
     ·rw [if_neg (by omega), if_neg (by omega)]
      exact nX h1 h2
theorem Gh {a b : List Int} {i : Nat} (ha : i < a.length) (hb : i < b.length) : eF (a.drop i) (b.drop i) = if ix a i < ix b i then -1 else if ix b i < ix a i then 1 else eF (a.drop (i + 1)) (b.drop (i + 1)) := by
 rw [drop_eq_getElem_cons ha, drop_eq_getElem_cons hb, eF, az ha, az hb]
theorem Hj {a b : List Int} {i : Nat} (ha : i < a.length) (hb : b.length <= i) : eF (a.drop i) (b.drop i) = 1 := by
 rw [drop_eq_getElem_cons ha, drop_eq_nil_of_le hb, eF]
theorem CK {a b : List Int} {i : Nat} (ha : a.length <= i) (hb : i < b.length) : eF (a.drop i) (b.drop i) = -1 := by
 rw [drop_eq_getElem_cons hb, drop_eq_nil_of_le ha, eF]
theorem GU {a b : List Int} {i : Nat} (ha : a.length <= i) (hb : b.length <= i) : eF (a.drop i) (b.drop i) = 0 := by
 rw [drop_eq_nil_of_le hb, drop_eq_nil_of_le ha, eF]
def nS (l : List Int) : Prop := l.length <= 10000000
def rF : PSp := aC (λ (a b : List Int) => nS a /\ nS b) (λ a b => .int .i64 (eF a b))
theorem TQ : PureOK prog G0 123 rF := by
 refine aX aK ae func123 rfl rfl rfl (by kernel_rfl) (by decide) (λ a b ⟨ha, hb⟩ => ?_)
 unfold nS at ha hb
 simp
 refine am aK ae (λ i : Nat => ⟨[(0, Enc.enc a), (1, Enc.enc b), (5, .int .i64 i)], []⟩) (λ i => i <= a.length /\ i <= b.length /\ eF (a.drop i) (b.drop i) = eF a b) (λ i => a.length - i) (by kernel_rfl) ⟨0, ⟨by omega, by omega, rfl⟩, ah (by simp)⟩ (λ i ⟨h1, h2, h3⟩ => ?_)
 by_cases ia : i < a.length
 ·by_cases ib : i < b.length
  ·have i1 : I64 ((i : Int) + 1) := by unfold I64; omega
   rw [Gh ia ib] at h3
   by_cases x1 : ix a i < ix b i
   ·rw [if_pos x1] at h3
    simp [ia, ib, aa ia, aa ib, x1, <- h3]
   ·by_cases x2 : ix b i < ix a i
    ·rw [if_neg x1, if_pos x2] at h3
     simp [ia, ib, aa ia, aa ib, x1, x2, <- h3]
    ·rw [if_neg x1, if_neg x2] at h3
     simp [ia, ib, aa ia, aa ib, x1, x2, i1]
     exact ⟨i + 1, ⟨by omega, by omega, h3⟩, by omega, ah (by simp)⟩
  ·rw [Hj ia (by omega)] at h3
   have l1 : ¬ a.length < b.length := by omega
   have l2 : b.length < a.length := by omega
   simp [ia, ib, l1, l2, <- h3]
 ·by_cases ib : i < b.length
  ·rw [CK (by omega) ib] at h3
   have l1 : a.length < b.length := by omega
   simp [ia, ib, l1, <- h3]
  ·rw [GU (by omega) (by omega)] at h3
   have l1 : ¬ a.length < b.length := by omega
   have l2 : ¬ b.length < a.length := by omega
   simp [ia, ib, l1, l2, <- h3]
def gG (l : List (List Int)) : Prop := l.length <= 10000000 /\ ∀ r ∈ l, nS r
noncomputable def CCmL : Ctx := mkC prog G0 [(123, .pure rF)]
@[simp] theorem VV : CCmL.P = prog := rfl
@[simp] theorem Vn : CCmL.G = G0 := rfl
@[simp] theorem Wt : CCmL.S 123 = .pure rF := rfl
theorem EX : au CCmL := ap (TQ) func123 (ak _ _)
def Mh (l : List (List Int)) : Prop := l.Pairwise λ x y => eF x y < 0
def a9 : List (List Int) -> List (List Int) -> List (List Int)
 | [], b => b
 | x :: r, [] => x :: r
 | x :: r, y :: q => if eF x y < 0 then x :: a9 r (y :: q) else if eF x y = 0 then x :: a9 r q else y :: a9 (x :: r) q
termination_by a b => a.length + b.length
theorem tW (a : List (List Int)) : a9 a [] = a := by cases a <;> rw [a9]
theorem li : ∀ (a b : List (List Int)), (a9 a b).length <= a.length + b.length
 | [], b => by rw [a9]; simp
 | x :: r, [] => by rw [a9]; simp
 | x :: r, y :: q => by
  rw [a9]
  have h1 := li r (y :: q)
  have h2 := li r q
  have h3 := li (x :: r) q
  split
  ·simp at h1 ⊢; omega
  ·split
   ·simp at h2 ⊢; omega
   ·simp at h3 ⊢; omega
termination_by a b => a.length + b.length
theorem eO : ∀ (a b : List (List Int)) (z : List Int), z ∈ a9 a b ↔ z ∈ a ∨ z ∈ b
 | [], b, z => by rw [a9]; simp
 | x :: r, [], z => by rw [a9]; simp
 | x :: r, y :: q, z => by
  rw [a9]
  split
  ·rw [mem_cons, eO r (y :: q) z, mem_cons]; simp only [mem_cons, or_assoc]
  ·split
   ·rename_i h
    rw [mem_cons, eO r q z, yg h]
    simp only [mem_cons]
    constructor
    ·rintro (h | h | h)
     ·exact .inl (.inl h)
     ·exact .inl (.inr h)
     ·exact .inr (.inr h)
    ·rintro ((h | h) | (h | h))
     ·exact .inl h
     ·exact .inr (.inl h)
     ·exact .inl h
     ·exact .inr (.inr h)
   ·rw [mem_cons, eO (x :: r) q z]
    simp only [mem_cons]
    constructor
    ·rintro (h | (h | h) | h)
     ·exact .inr (.inl h)
     ·exact .inl (.inl h)
     ·exact .inl (.inr h)
     ·exact .inr (.inr h)
    ·rintro ((h | h) | (h | h))
     ·exact .inr (.inl (.inl h))
     ·exact .inr (.inl (.inr h))
     ·exact .inl h
     ·exact .inr (.inr h)
termination_by a b => a.length + b.length
theorem jO : ∀ {a b : List (List Int)}, Mh a -> Mh b -> Mh (a9 a b)
 | [], b, _, hb => by rw [a9]; exact hb
 | x :: r, [], ha, _ => by rw [a9]; exact ha
 | x :: r, y :: q, ha, hb => by
  have ha' := pairwise_cons.1 ha
  have hb' := pairwise_cons.1 hb
  rw [a9]
  split
  ·rename_i h
   refine pairwise_cons.2 ⟨λ z hz => ?_, jO ha'.2 hb⟩
   rcases (eO r (y :: q) z).1 hz with h1 | h1
   ·exact ha'.1 z h1
   ·rcases mem_cons.1 h1 with rfl | h1
    ·exact h
    ·exact nX h (hb'.1 z h1)
  ·split
   ·rename_i h
    refine pairwise_cons.2 ⟨λ z hz => ?_, jO ha'.2 hb'.2⟩
    rcases (eO r q z).1 hz with h1 | h1
    ·exact ha'.1 z h1
    ·rw [yg h]; exact hb'.1 z h1
   ·rename_i h1 h2
    have hyx : eF y x < 0 := by have := vQ x y; omega
    refine pairwise_cons.2 ⟨λ z hz => ?_, jO ha hb'.2⟩
    rcases (eO (x :: r) q z).1 hz with h3 | h3
    ·rcases mem_cons.1 h3 with rfl | h3
     ·exact hyx
     ·exact nX hyx (ha'.1 z h3)
    ·exact hb'.1 z h3
termination_by a b => a.length + b.length
def srt (l : List (List Int)) : List (List Int) := if h : l.length <= 1 then l else a9 (srt (l.take (l.length / 2))) (srt (l.drop (l.length / 2)))
termination_by l.length
decreasing_by
 ·rw [length_take]; omega
 ·rw [length_drop]; omega
theorem vW {l : List (List Int)} (h : l.length <= 1) : srt l = l := by rw [srt, dif_pos h]
theorem tt {l : List (List Int)} (h : ¬ l.length <= 1) : srt l = a9 (srt (l.take (l.length / 2))) (srt (l.drop (l.length / 2))) := by rw [srt, dif_neg h]
theorem pk (l : List (List Int)) : Mh (srt l) /\ (∀ x, x ∈ srt l ↔ x ∈ l) /\ (srt l).length <= l.length := by
 by_cases h : l.length <= 1
 ·rw [vW h]
  refine ⟨?_, λ _ => Iff.rfl, Nat.le_refl _⟩
  match l, h with
  | [], _ => exact List.Pairwise.nil
  | [x], _ => exact List.pairwise_singleton _ _
  | x :: y :: r, h => simp at h
 ·obtain ⟨a1, a2, a3⟩ := pk (l.take (l.length / 2))
  obtain ⟨b1, b2, b3⟩ := pk (l.drop (l.length / 2))
  rw [tt h]
  refine ⟨jO a1 b1, λ x => ?_, ?_⟩
  ·rw [eO, a2, b2, <- List.mem_append, List.take_append_drop]
  ·have := li (srt (l.take (l.length / 2))) (srt (l.drop (l.length / 2)))
   rw [length_take] at a3
   rw [length_drop] at b3
   omega
termination_by l.length
decreasing_by
 ·rw [length_take]; omega
 ·rw [length_drop]; omega
theorem pF (l : List (List Int)) (x : List Int) : x ∈ srt l ↔ x ∈ l := (pk l).2.1 x
theorem pd (l : List (List Int)) : (srt l).length <= l.length := (pk l).2.2
theorem F7 (l : List (List Int)) : (srt l).Nodup := (pk l).1.imp λ {a b} h e => by
 subst e
 rw [vJ] at h
 exact absurd h (by decide)
def rB (e : TypeId) (rows : List (List AV)) : Blk := ⟨e, 1, rows, true, true⟩
theorem Bh {a b : List (List Int)} {i k : Nat} (hi : i < a.length) (hk : k < b.length) : a9 (a.drop i) (b.drop k) = if eF (ix a i) (ix b k) < 0 then ix a i :: a9 (a.drop (i + 1)) (b.drop k) else if eF (ix a i) (ix b k) = 0 then ix a i :: a9 (a.drop (i + 1)) (b.drop (k + 1)) else ix b k :: a9 (a.drop i) (b.drop (k + 1)) := by
 rw [drop_eq_getElem_cons hi, drop_eq_getElem_cons hk, a9, az hi, az hk]
theorem xL {a b : List (List Int)} {i k : Nat} (hi : i < a.length) (hk : b.length <= k) : a9 (a.drop i) (b.drop k) = ix a i :: a9 (a.drop (i + 1)) (b.drop k) := by
 rw [drop_eq_nil_of_le hk, tW, tW, drop_eq_getElem_cons hi, az hi]
theorem wV {a b : List (List Int)} {i k : Nat} (hi : a.length <= i) (hk : k < b.length) : a9 (a.drop i) (b.drop k) = ix b k :: a9 (a.drop i) (b.drop (k + 1)) := by
 rw [drop_eq_nil_of_le hi, a9, a9, drop_eq_getElem_cons hk, az hk]
@[simp] theorem US (l : List (List Int)) (x : List Int) : ac l ++ [[.slice 1 false (ac x)]] = ac (l ++ [x]) := (bz l [x]).symm
def AA (a b : List (List Int)) : Prop := gG a /\ gG b /\ a.length + b.length <= 10000000
def xt : PSp := aC AA (λ a b => Enc.enc (a9 a b))
theorem PO : PureOK prog G0 88 xt := by
 refine aX EX ae func88 rfl rfl rfl (by kernel_rfl) (by decide) (λ a b ⟨⟨ha, ha2⟩, ⟨hb, hb2⟩, hab⟩ => ?_)
 simp
 refine am EX ae (λ q : Nat × Nat × List (List Int) => ⟨[(0, Enc.enc a), (1, Enc.enc b), (5, .own 0 q.2.2.length), (6, .int .i64 q.1), (7, .int .i64 q.2.1)], [rB 51 (ac q.2.2)]⟩) (λ q => q.1 <= a.length /\ q.2.1 <= b.length /\ q.2.2.length <= q.1 + q.2.1 /\ q.2.2 ++ a9 (a.drop q.1) (b.drop q.2.1) = a9 a b) (λ q => a.length - q.1 + (b.length - q.2.1)) (by kernel_rfl) ⟨(0, 0, []), ⟨zero_le _, zero_le _, Nat.le_refl _, rfl⟩, (dw 5 1 51 rfl (by decide)).trans (ag (by simp) (by simp [rB]))⟩ (λ ⟨i, k, out⟩ ⟨h1, h2, h3, h4⟩ => ?_)
 simp only at h1 h2 h3 h4 ⊢
 by_cases hi : i < a.length
 ·have i1 : I64 ((i : Int) + 1) := by unfold I64; omega
  have ni : ((i : Int) = a.length) = False := eq_false (by omega)
  have ni' : (i = a.length) = False := eq_false (by omega)
  have sa := ha2 _ (aq hi)
  by_cases hk : k < b.length
  ·have k1 : I64 ((k : Int) + 1) := by unfold I64; omega
   have sb := hb2 _ (aq hk)
   rw [Bh hi hk] at h4
   obtain ⟨c, hc⟩ : ∃ c, eF (ix a i) (ix b k) = c := ⟨_, rfl⟩
   rw [hc] at h4
   by_cases c1 : c < 0
   ·have c2 : c <= 0 := by omega
    have c3 : ¬ 0 <= c := by omega
    rw [if_pos c1] at h4
    simp [rB, rF, hi, hk, ni, ni', aa hi, aa hk, sa, sb, hc, c2, c3, i1]
    exact ⟨by omega, i + 1, k, out ++ [ix a i], ⟨by omega, by omega, by simp; omega, by rw [append_assoc]; exact h4⟩, by omega, ag (by simp) (by simp [rB])⟩
   ·rw [if_neg c1] at h4
    by_cases c0 : c = 0
    ·subst c0
     rw [if_pos rfl] at h4
     simp [rB, rF, hi, hk, ni, ni', aa hi, aa hk, sa, sb, hc, i1, k1]
     exact ⟨by omega, i + 1, k + 1, out ++ [ix a i], ⟨by omega, by omega, by simp; omega, by rw [append_assoc]; exact h4⟩, by omega, ag (by simp) (by simp [rB])⟩
    ·have c2 : ¬ c <= 0 := by omega
     have c3 : 0 <= c := by omega
     rw [if_neg c0] at h4
     simp [rB, rF, hi, hk, ni, ni', aa hi, aa hk, sa, sb, hc, c2, c3, k1]
     exact ⟨by omega, i, k + 1, out ++ [ix b k], ⟨by omega, by omega, by simp; omega, by rw [append_assoc]; exact h4⟩, by omega, ag (by simp) (by simp [rB])⟩
  ·rw [xL hi (by omega)] at h4
   simp [rB, rF, hi, hk, ni, ni', aa hi, i1]
   exact ⟨by omega, i + 1, k, out ++ [ix a i], ⟨by omega, by omega, by simp; omega, by rw [append_assoc]; exact h4⟩, by omega, ag (by simp) (by simp [rB])⟩
 ·have ni : ((i : Int) = a.length) = True := eq_true (by omega)
  have ni' : (i = a.length) = True := eq_true (by omega)
  by_cases hk : k < b.length
  ·have k1 : I64 ((k : Int) + 1) := by unfold I64; omega
   rw [wV (by omega) hk] at h4
   simp [rB, rF, hi, hk, ni, ni', aa hk, k1]
   exact ⟨by omega, i, k + 1, out ++ [ix b k], ⟨by omega, by omega, by simp; omega, by rw [append_assoc]; exact h4⟩, by omega, ag (by simp) (by simp [rB])⟩
  ·have hd : out = a9 a b := by
    rw [drop_eq_nil_of_le (show a.length <= i by omega), drop_eq_nil_of_le (show b.length <= k by omega), a9, List.append_nil] at h4
    exact h4
   simp [rB, hi, hk, hd]
def qx (N : Nat) : PSp := aN (λ (l : List (List Int)) => gG l /\ l.length < N) (λ l => Enc.enc (srt l))
noncomputable def CSN (N : Nat) : Ctx := mkC prog G0 [(45, .pure (qx N)), (88, .pure xt)]
@[simp] theorem Xv (N : Nat) : (CSN N).P = prog := rfl
@[simp] theorem X0 (N : Nat) : (CSN N).S 45 = .pure (qx N) := rfl
@[simp] theorem YF (N : Nat) : (CSN N).S 88 = .pure xt := rfl
theorem Jm (N : Nat) : (CSN N).P.follows .mixedOrders = true := ae
@[simp] theorem XK (N : Nat) : (CSN N).G = G0 := rfl
theorem KC {N : Nat} (h : PureOK prog G0 45 (qx N)) : au (CSN N) := ap h func45 (ap PO func88 (ak _ _))
theorem O6 (N : Nat) : bV (CSN N) 22 = false := by show bV ⟨prog, λ _ => .no, G0⟩ 22 = false; kernel_rfl
theorem Om : ∀ N, PureOK prog G0 45 (qx N)
 | 0 => λ w X args avs ob r _ _ _ _ hp hob => by
  unfold qx aN at hp
  split at hp
  ·injection hp with hp; injection hp with e1 e2; subst e1
   exact absurd hob.2.2 (Nat.not_lt_zero _)
  ·cases hp
 | N + 1 => by
  have ih := Om N
  refine bj (C := CSN N) (KC ih) (Jm N) func45 rfl rfl rfl (by kernel_rfl) (by decide) (λ l ⟨hS, hN⟩ => ?_)
  have hl := hS.1
  by_cases h1 : l.length <= 1
  ·have h1' : (l.length : Int) <= 1 := by omega
   simp [h1, h1']
   refine am (C := CSN N) (KC ih) (Jm N) (λ i : Nat => ⟨[(0, Enc.enc l), (3, .own 0 i), (4, .int .i64 i)], [rB 51 (ac (l.take i))]⟩) (λ i => i <= l.length) (λ i => l.length - i) (by kernel_rfl) ⟨0, by omega, (dw 3 1 51 rfl (by decide)).trans (ag (by simp) (by simp [rB]))⟩ (λ i hi => ?_)
   have hlen : (l.take i).length = i := by rw [length_take]; omega
   by_cases hlt : i < l.length
   ·have i1 : I64 ((i : Int) + 1) := by unfold I64; omega
    have sr : (ix l i).length <= 10000000 := hS.2 _ (aq hlt)
    have e1 : l.take (i + 1) = l.take i ++ [ix l i] := by rw [List.take_succ_eq_append_getElem hlt, az hlt]
    simp [rB, hlt, aa hlt, hlen, i1, O6]
    exact ⟨⟨by omega, by omega⟩, ⟨by omega, by omega⟩, i + 1, by omega, by omega, bG 1 (by simp) (by simp) (by simp [AV.clean, AV.clean1]) (by simp) (by simp [rB, e1])⟩
   ·have e : i = l.length := by omega
    subst e
    have e2 : srt l = l := vW h1
    simp [rB, e2]
  ·have h1' : ¬ (l.length : Int) <= 1 := by omega
   obtain ⟨m, hm⟩ : ∃ m, m = l.length / 2 := ⟨_, rfl⟩
   have hd : (l.length : Int).tdiv 2 = m := by rw [Int.tdiv_eq_ediv_of_nonneg (by omega)]; omega
   have hm1 : I64 (m : Int) := by unfold I64; omega
   have w1 : w64 ((l.length : Int).tdiv 2) = m := by rw [hd]; exact aT hm1
   have hml : m <= l.length := by omega
   have s1 : gG (l.take m) := ⟨by rw [length_take]; omega, λ r hr => hS.2 r (List.mem_of_mem_take hr)⟩
   have s2 : gG (l.drop m) := ⟨by rw [length_drop]; omega, λ r hr => hS.2 r (List.mem_of_mem_drop hr)⟩
   have n1 : (l.take m).length < N := by rw [length_take]; omega
   have n2 : (l.drop m).length < N := by rw [length_drop]; omega
   have p1 : gG (l.take m) /\ (l.take m).length < N := ⟨s1, n1⟩
   have hp : AA (srt (l.take m)) (srt (l.drop m)) := by
    have q1 := pd (l.take m)
    have q2 := pd (l.drop m)
    rw [length_take] at q1
    rw [length_drop] at q2
    exact ⟨⟨by omega, λ r hr => s1.2 r ((pF _ r).1 hr)⟩, ⟨by omega, λ r hr => s2.2 r ((pF _ r).1 hr)⟩, by omega⟩
   have he : srt l = a9 (srt (l.take m)) (srt (l.drop m)) := by rw [hm]; exact tt h1
   have n1' : min m l.length < N := by rwa [length_take] at n1
   have n2' : l.length - m < N := by rwa [length_drop] at n2
   simp [h1, h1', qx, xt, hd, hm1, hml, s1, s2, n1', n2', hp, he] <;> omega
def im : PSp := aN (λ (l : List (List Int)) => gG l) (λ l => Enc.enc (srt l))
theorem Fa : PureOK prog G0 45 im := λ w X args avs ob r hX hG hsz harg hp hob => by
 unfold im aN at hp
 split at hp
 ·rename_i a
  injection hp with hp; injection hp with e1 e2; subst e1 e2
  exact Om ((Enc.dec a : List (List Int)).length + 1) w X args [a] _ _ hX hG hsz harg rfl ⟨hob.1, hob.2, Nat.lt_succ_self _⟩
 ·cases hp
def jW (l : List ByteArray) : Bool := decide (∀ s ∈ l, dW s = true)
def leB (a b : ByteArray) : Bool := Op.bytesLess a.toList b.toList || decide (a = b)
def uj (l : List ByteArray) : Bool := decide (∀ i, i < l.length -> 0 < i -> leB (ix l i) (ix l (i - 1)) = false)
def oh (l : List Prp) : List ByteArray := l.map (·.key)
theorem Gd {l : List Prp} {i : Nat} (h : i < l.length) : oh (l.take (i + 1)) = oh (l.take i) ++ [(ix l i).key] := by
 unfold oh
 rw [List.take_succ_eq_append_getElem h, List.map_append, az h]
 rfl
def zw : PSp := aN (λ (l : List ByteArray) => l.length <= maxLen) (λ l => .bool (jW l))
noncomputable def CNms : Ctx := mkC prog G0 [(80, .pure iX)]
@[simp] theorem Vh : CNms.P = prog := rfl
@[simp] theorem Vt : CNms.G = G0 := rfl
@[simp] theorem Wk : CNms.S 80 = .pure iX := rfl
theorem sy : au CNms := ap (NF) func80 (ak _ _)
theorem VK : PureOK prog G0 146 zw := by
 refine bj sy ae func146 rfl rfl rfl (by kernel_rfl) (by decide) (λ l hl => ?_)
 unfold maxLen at hl
 simp
 refine am sy ae (λ i : Nat => ⟨[(0, Enc.enc l), (3, .int .i64 i)], []⟩) (λ i => i <= l.length /\ ∀ j, j < i -> dW (ix l j) = true) (λ i => l.length - i) (by kernel_rfl) ⟨0, by simp, ah (by simp)⟩ (λ i ⟨hi, hall⟩ => ?_)
 by_cases hlt : i < l.length
 ·have i1 : I64 ((i : Int) + 1) := by unfold I64; omega
  cases hb : dW (ix l i)
  ·have e : jW l = false := decide_eq_false λ h => by
    have := h _ (aq hlt)
    rw [hb] at this
    cases this
   simp [hlt, aa hlt, iX, hb, e]
  ·simp [hlt, aa hlt, iX, hb, i1]
   refine ⟨i + 1, ⟨by omega, λ j hj => ?_⟩, by omega, ah (by simp)⟩
   rcases lt_or_eq_of_le (le_of_lt_succ hj) with h | rfl
   ·exact hall j h
   ·exact hb
 ·have e : jW l = true := decide_eq_true λ s hs => by
   obtain ⟨j, hj, rfl⟩ := mem_iff_getElem.1 hs
   have := hall j (by omega)
   rwa [az hj] at this
  simp [hlt, e]
def l5 : PSp := aN (λ (l : List ByteArray) => l.length <= maxLen) (λ l => .bool (uj l))
theorem V1 : PureOK prog G0 147 l5 := by
 refine bj aK ae func147 rfl rfl rfl (by kernel_rfl) (by decide) (λ l hl => ?_)
 unfold maxLen at hl
 simp
 refine am aK ae (λ i : Nat => ⟨[(0, Enc.enc l), (3, .int .i64 ((i : Int) + 1))], []⟩) (λ i => i <= l.length /\ ∀ j, 0 < j -> j < i + 1 -> j < l.length -> leB (ix l j) (ix l (j - 1)) = false) (λ i => l.length - i) (by kernel_rfl) ⟨0, ⟨by omega, λ j h1 h2 => by omega⟩, ah (by simp)⟩ (λ i ⟨hi, hs⟩ => ?_)
 by_cases hlt : i + 1 < l.length
 ·have i0 : I64 (i : Int) := by unfold I64; omega
  have i1 : I64 ((i : Int) + 1) := by unfold I64; omega
  have i2 : I64 ((i : Int) + 1 + 1) := by unfold I64; omega
  have h1 : (i : Int) + 1 < l.length := by omega
  have h2 : i < l.length := by omega
  have e1 : ((i : Int) + 1).toNat = i + 1 := by omega
  have e2 : (0 : Int) <= (i : Int) + 1 := by omega
  cases h3 : leB (ix l (i + 1)) (ix l i)
  ·have h3' := h3
   unfold leB at h3'
   simp [h1, h2, hlt, e1, e2, aa h2, aa hlt, i0, i1, i2, h3']
   refine ⟨i + 1, ⟨by omega, λ j hj1 hj2 hj3 => ?_⟩, by omega, ah (by simp)⟩
   rcases lt_or_eq_of_le (le_of_lt_succ hj2) with h | rfl
   ·exact hs j hj1 h hj3
   ·exact h3
  ·have hB : uj l = false := decide_eq_false λ h => by
    have := h (i + 1) hlt (by omega)
    rw [Nat.add_sub_cancel, h3] at this
    cases this
   have h3' := h3
   unfold leB at h3'
   simp [h1, h2, hlt, e1, e2, aa h2, aa hlt, i0, i1, i2, h3', hB]
 ·have h1 : ¬ (i : Int) + 1 < l.length := by omega
  have hB : uj l = true := decide_eq_true λ j hj2 hj1 => hs j hj1 (by omega) hj2
  simp [h1, hB]
theorem TW : PureOK prog G0 76 l5 := by
 refine bj aK ae func76 rfl rfl rfl (by kernel_rfl) (by decide) (λ l hl => ?_)
 unfold maxLen at hl
 simp
 refine am aK ae (λ i : Nat => ⟨[(0, Enc.enc l), (3, .int .i64 ((i : Int) + 1))], []⟩) (λ i => i <= l.length /\ ∀ j, 0 < j -> j < i + 1 -> j < l.length -> leB (ix l j) (ix l (j - 1)) = false) (λ i => l.length - i) (by kernel_rfl) ⟨0, ⟨by omega, λ j h1 h2 => by omega⟩, ah (by simp)⟩ (λ i ⟨hi, hs⟩ => ?_)
 by_cases hlt : i + 1 < l.length
 ·have i0 : I64 (i : Int) := by unfold I64; omega
  have i1 : I64 ((i : Int) + 1) := by unfold I64; omega
  have i2 : I64 ((i : Int) + 1 + 1) := by unfold I64; omega
  have h1 : (i : Int) + 1 < l.length := by omega
  have h2 : i < l.length := by omega
  have e1 : ((i : Int) + 1).toNat = i + 1 := by omega
  have e2 : (0 : Int) <= (i : Int) + 1 := by omega
  cases h3 : leB (ix l (i + 1)) (ix l i)
  ·have h3' := h3
   unfold leB at h3'
   simp [h1, h2, hlt, e1, e2, aa h2, aa hlt, i0, i1, i2, h3']
   refine ⟨i + 1, ⟨by omega, λ j hj1 hj2 hj3 => ?_⟩, by omega, ah (by simp)⟩
   rcases lt_or_eq_of_le (le_of_lt_succ hj2) with h | rfl
   ·exact hs j hj1 h hj3
   ·exact h3
  ·have hB : uj l = false := decide_eq_false λ h => by
    have := h (i + 1) hlt (by omega)
    rw [Nat.add_sub_cancel, h3] at this
    cases this
   have h3' := h3
   unfold leB at h3'
   simp [h1, h2, hlt, e1, e2, aa h2, aa hlt, i0, i1, i2, h3', hB]
 ·have h1 : ¬ (i : Int) + 1 < l.length := by omega
  have hB : uj l = true := decide_eq_true λ j hj2 hj1 => hs j hj1 (by omega) hj2
  simp [h1, hB]
def zl : PSp := aN (λ (l : List Prp) => l.length <= 1000) (λ l => Enc.enc (oh l))
theorem WM : PureOK prog G0 145 zl := by
 refine bj aK ae func145 rfl rfl rfl (by kernel_rfl) (by decide) (λ l hl => ?_)
 simp
 refine am aK ae (λ i : Nat => ⟨[(0, Enc.enc l), (3, .own 0 (oh (l.take i)).length), (4, .int .i64 i)], [⟨9, 1, ac (oh (l.take i)), true, true⟩]⟩) (λ i => i <= l.length) (λ i => l.length - i) (by kernel_rfl) ⟨0, by simp, (dw 3 1 9 (by simp) (by decide)).trans (ah (by simp [oh]))⟩ (λ i hi => ?_)
 by_cases hlt : i < l.length
 ·have i1 : I64 ((i : Int) + 1) := by unfold I64; omega
  have hk : (oh (l.take i)).length = i := by simp [oh]; omega
  simp [hlt, aa hlt, i1, hk]
  refine ⟨⟨by omega, by omega⟩, i + 1, by omega, by omega, ?_⟩
  rw [Gd hlt]
  exact bG 1 (by simp [hk]) (by simp) (by simp [AV.clean, AV.clean1]) (by simp) (by simp [ac])
 ·have e : l.take i = l := List.take_of_length_le (by omega)
  simp [hlt, e]
def nk (l : List Prp) : Bool := decide (∀ p ∈ l, cY p.v = true)
def dv (labels : List ByteArray) (ps : List Prp) : Int :=
 if 8 < labels.length then 4 else if 16 < ps.length then 4 else if jW labels = false then 6 else if jW (oh ps) = false then 6
 else if uj labels = false then 26 else if uj (oh ps) = false then 26 else if nk ps = false then 8 else 0
def wY : PSp := aC (λ (l : List ByteArray) (ps : List Prp) => l.length <= maxLen /\ ps.length <= maxLen /\ ∀ p ∈ ps, WfP p) (λ l ps => .int .i64 (dv l ps))
noncomputable def CPts : Ctx := mkC prog G0 [(145, .pure zl), (146, .pure zw), (147, .pure l5), (79, .pure lU)]
@[simp] theorem Wx : CPts.P = prog := rfl
@[simp] theorem W4 : CPts.G = G0 := rfl
@[simp] theorem WY : CPts.S 145 = .pure zl /\ CPts.S 146 = .pure zw /\ CPts.S 147 = .pure l5 /\ CPts.S 79 = .pure lU := ⟨rfl, rfl, rfl, rfl⟩
theorem D6 : au CPts := ap (WM) func145 (ap (VK) func146 (ap (V1) func147 (ap (IC) func79 (ak _ _))))
theorem Tj : PureOK prog G0 120 wY := by
 refine aX D6 ae func120 rfl rfl rfl (by kernel_rfl) (by decide) (λ l ps ⟨hl, hp, hw⟩ => ?_)
 have hl' := hl
 have hp' := hp
 unfold maxLen at hl' hp'
 rcases em2 (8 < l.length) with h1 | h1
 ·have h1' : ((8 : Int) < l.length) = True := eq_true (by have := of_eq_true h1; omega)
  simp [dv, h1, h1']
 have h1' : ((8 : Int) < l.length) = False := eq_false (by have := of_eq_false h1; omega)
 rcases em2 (16 < ps.length) with h2 | h2
 ·have h2' : ((16 : Int) < ps.length) = True := eq_true (by have := of_eq_true h2; omega)
  simp [dv, h1, h1', h2, h2']
 have h2' : ((16 : Int) < ps.length) = False := eq_false (by have := of_eq_false h2; omega)
 have hk : ps.length <= 1000 := by have := of_eq_false h2; omega
 have hkl : (oh ps).length <= maxLen := by unfold oh maxLen; simp; omega
 cases h3 : jW l
 ·simp [dv, h1, h1', h2, h2', zl, hk, zw, hl, h3]
 cases h4 : jW (oh ps)
 ·simp [dv, h1, h1', h2, h2', zl, hk, zw, hl, hkl, h3, h4]
 cases h5 : uj l
 ·simp [dv, h1, h1', h2, h2', zl, hk, zw, l5, hl, hkl, h3, h4, h5]
 cases h6 : uj (oh ps)
 ·simp [dv, h1, h1', h2, h2', zl, hk, zw, l5, hl, hkl, h3, h4, h5, h6]
 have e : dv l ps = if nk ps = false then 8 else 0 := by simp [dv, h1, h2, h3, h4, h5, h6]
 rw [e]
 simp [h1', h2', zl, hk, zw, l5, hl, hkl, h3, h4, h5, h6]
 refine am D6 ae (λ i : Nat => ⟨[(1, Enc.enc ps), (6, .int .i64 i)], []⟩) (λ i => i <= ps.length /\ ∀ j, j < i -> cY (ix ps j).v = true) (λ i => ps.length - i) (by kernel_rfl) ⟨0, by simp, ah (by simp)⟩ (λ i ⟨hi, hall⟩ => ?_)
 by_cases hlt : i < ps.length
 ·have i1 : I64 ((i : Int) + 1) := by unfold I64; omega
  have hwv := (hw _ (aq hlt)).v
  cases hb : cY (ix ps i).v
  ·have e2 : nk ps = false := decide_eq_false λ h => by
    have := h _ (aq hlt)
    rw [hb] at this
    cases this
   simp [hlt, aa hlt, lU, hwv, hb, e2]
  ·simp [hlt, aa hlt, lU, hwv, hb, i1]
   refine ⟨i + 1, ⟨by omega, λ j hj => ?_⟩, by omega, ah (by simp)⟩
   rcases lt_or_eq_of_le (le_of_lt_succ hj) with h | rfl
   ·exact hall j h
   ·exact hb
 ·have e2 : nk ps = true := decide_eq_true λ s hs => by
   obtain ⟨j, hj, rfl⟩ := mem_iff_getElem.1 hs
   have := hall j (by omega)
   rwa [az hj] at this
  simp [hlt, e2]
def Ak : Nod := ⟨0, [], []⟩
def fJ (g : Gra) (id : Int) : Nod × Bool := match g.nodes.find? (λ n => decide (n.id = id)) with | some n => (n, true) | none => (Ak, false)
theorem JA {g : Gra} {id : Int} {i : Nat} (hi : i < g.nodes.length) (he : (ix g.nodes i).id = id) (h : ∀ j, j < i -> (ix g.nodes j).id ≠ id) : fJ g id = (ix g.nodes i, true) := by
 have : g.nodes.find? (λ n => decide (n.id = id)) = some (ix g.nodes i) := by
  rw [List.find?_eq_some_iff_getElem]
  refine ⟨by simpa using he, i, hi, (az hi).symm, λ j hj => ?_⟩
  have := h j hj
  rw [az (by omega)] at this
  simpa using this
 unfold fJ
 rw [this]
theorem Cp {g : Gra} {id : Int} (h : ∀ j, j < g.nodes.length -> (ix g.nodes j).id ≠ id) : fJ g id = (Ak, false) := by
 have : g.nodes.find? (λ n => decide (n.id = id)) = none := by
  rw [List.find?_eq_none]
  intro n hn
  obtain ⟨j, hj, rfl⟩ := mem_iff_getElem.1 hn
  have := h j hj
  rw [az hj] at this
  simpa using this
 unfold fJ
 rw [this]
theorem JQ {g : Gra} {id : Int} (h : (fJ g id).2 = true) : ∃ n ∈ g.nodes, n.id = id := by
 unfold fJ at h
 split at h
 ·rename_i n hn
  have h1 := List.find?_some hn
  exact ⟨n, List.mem_of_find?_eq_some hn, by simpa using h1⟩
 ·cases h
def ZnB : Blk := ⟨92, 3, [[.int .i64 0, .slice 1 true [], .slice 6 true []]], true, true⟩
def tE : PSp := aC (λ (g : Gra) (_ : Int) => g.nodes.length <= maxLen) (λ g id => .tup [Enc.enc (fJ g id).1, .bool (fJ g id).2])
theorem V2 : PureOK prog G0 121 tE := by
 refine aX aK ae func121 rfl rfl rfl (by kernel_rfl) (by decide) (λ g id hl => ?_)
 unfold maxLen at hl
 obtain ⟨r, hr⟩ : ∃ r, fJ g id = r := ⟨_, rfl⟩
 rw [hr]
 simp
 refine am aK ae (λ i : Nat => ⟨[(1, .int .i64 id), (2, .ptr 0 1 4 0 0), (4, .ptr 1 1 3 0 0), (6, .int .i64 i)], [GrB g, ZnB]⟩) (λ i => i <= g.nodes.length /\ ∀ j, j < i -> (ix g.nodes j).id ≠ id) (λ i => g.nodes.length - i) (by kernel_rfl) ⟨0, by simp, ag (by simp) (by simp [GrB, ZnB])⟩ (λ i ⟨hi, hall⟩ => ?_)
 by_cases hlt : i < g.nodes.length
 ·have i1 : I64 ((i : Int) + 1) := by unfold I64; omega
  rcases em2 ((ix g.nodes i).id = id) with hb | hb
  ·have e := JA hlt (of_eq_true hb) hall
   rw [hr] at e
   subst e
   simp [GrB, ZnB, Ak, hlt, aa hlt, hb]
  ·simp [GrB, ZnB, Ak, hlt, aa hlt, hb, i1]
   refine ⟨i + 1, ⟨by omega, λ j hj => ?_⟩, by omega, ag (by simp) (by simp [GrB, ZnB])⟩
   rcases lt_or_eq_of_le (le_of_lt_succ hj) with h | rfl
   ·exact hall j h
   ·exact of_eq_false hb
 ·have e := Cp λ j hj => hall j (by omega)
  rw [hr] at e
  subst e
  simp [GrB, ZnB, Ak, hlt]
def fw (g : Gra) (i : Nat) : Int :=
 if 0 < i /\ (ix g.nodes i).id <= (ix g.nodes (i - 1)).id then 26 else if (ix g.nodes i).id < 1 then 1 else if g.nn <= (ix g.nodes i).id then 1 else dv (ix g.nodes i).labels (ix g.nodes i).props
def It : PSp := aC (λ (g : Gra) (i : Int) => WfG g /\ 0 <= i /\ i < g.nodes.length) (λ g i => .int .i64 (fw g i.toNat))
noncomputable def CNdE : Ctx := mkC prog G0 [(120, .pure wY)]
@[simp] theorem WS : CNdE.P = prog := rfl
@[simp] theorem Vb : CNdE.G = G0 := rfl
@[simp] theorem Wp : CNdE.S 120 = .pure wY := rfl
theorem LC : au CNdE := ap (Tj) func120 (ak _ _)
theorem WE : PureOK prog G0 82 It := by
 refine aX LC ae func82 rfl rfl rfl (by kernel_rfl) (by decide) (λ g i ⟨hg, h0, h1⟩ => ?_)
 obtain ⟨i, rfl⟩ := eq_ofNat_of_zero_le h0
 have hlt : i < g.nodes.length := by omega
 have hnl := hg.nl
 unfold maxLen at hnl
 have hw := hg.n _ (aq hlt)
 have hll := hw.ll
 have hpl := hw.pl
 have hp := hw.p
 rw [toNat_natCast]
 obtain ⟨r, hr⟩ : ∃ r, fw g i = r := ⟨_, rfl⟩
 rw [hr]
 rcases em2 (0 < i) with hi | hi
 ·have hi' := of_eq_true hi
  have q5 : i - 1 < g.nodes.length := by omega
  have q6 : ((i : Int) - 1).toNat = i - 1 := by omega
  have q7 : (i : Int) - 1 < g.nodes.length := by omega
  have q8 : (0 : Int) <= (i : Int) - 1 := by omega
  have q10 : (1 : Int) <= (i : Int) := by omega
  have q9 : I64 ((i : Int) - 1) := by unfold I64; omega
  rcases em2 ((ix g.nodes i).id <= (ix g.nodes (i - 1)).id) with h2 | h2
  ·have e : r = 26 := by rw [<- hr, fw, if_pos ⟨hi', of_eq_true h2⟩]
   subst e
   simp [hlt, aa hlt, hi, hi', q5, q6, q7, q8, q9, q10, aa q5, h2]
  ·rcases em2 ((ix g.nodes i).id < 1) with h3 | h3
   ·have e : r = 1 := by rw [<- hr, fw, if_neg (λ h => of_eq_false h2 h.2), if_pos (of_eq_true h3)]
    subst e
    simp [hlt, aa hlt, hi, hi', q5, q6, q7, q8, q9, q10, aa q5, h2, h3]
   rcases em2 (g.nn <= (ix g.nodes i).id) with h4 | h4
   ·have e : r = 1 := by rw [<- hr, fw, if_neg (λ h => of_eq_false h2 h.2), if_neg (of_eq_false h3), if_pos (of_eq_true h4)]
    subst e
    simp [hlt, aa hlt, hi, hi', q5, q6, q7, q8, q9, q10, aa q5, h2, h3, h4]
   have e : r = dv (ix g.nodes i).labels (ix g.nodes i).props := by rw [<- hr, fw, if_neg (λ h => of_eq_false h2 h.2), if_neg (of_eq_false h3), if_neg (of_eq_false h4)]
   subst e
   simp [hlt, aa hlt, hi, hi', q5, q6, q7, q8, q9, q10, aa q5, h2, h3, h4, wY, hll, hpl]
   exact hp
 ·rcases em2 ((ix g.nodes i).id < 1) with h3 | h3
  ·have e : r = 1 := by rw [<- hr, fw, if_neg (λ h => of_eq_false hi h.1), if_pos (of_eq_true h3)]
   subst e
   simp [hlt, aa hlt, hi, h3]
  rcases em2 (g.nn <= (ix g.nodes i).id) with h4 | h4
  ·have e : r = 1 := by rw [<- hr, fw, if_neg (λ h => of_eq_false hi h.1), if_neg (of_eq_false h3), if_pos (of_eq_true h4)]
   subst e
   simp [hlt, aa hlt, hi, h3, h4]
  have e : r = dv (ix g.nodes i).labels (ix g.nodes i).props := by rw [<- hr, fw, if_neg (λ h => of_eq_false hi h.1), if_neg (of_eq_false h3), if_neg (of_eq_false h4)]
  subst e
  simp [hlt, aa hlt, hi, h3, h4, wY, hll, hpl]
  exact hp
def j6 (g : Gra) (i : Nat) : Int :=
 if 0 < i /\ (ix g.edges i).id <= (ix g.edges (i - 1)).id then 26 else if (ix g.edges i).id < 1 then 1 else if g.ne <= (ix g.edges i).id then 1
 else if (fJ g (ix g.edges i).frm).2 = false then 10 else if (fJ g (ix g.edges i).to).2 = false then 10 else if dW (ix g.edges i).type = false then 6 else dv [] (ix g.edges i).props
def Ip : PSp := aC (λ (g : Gra) (i : Int) => WfG g /\ 0 <= i /\ i < g.edges.length) (λ g i => .int .i64 (j6 g i.toNat))
noncomputable def CEdE : Ctx := mkC prog G0 [(120, .pure wY), (121, .pure tE), (80, .pure iX)]
@[simp] theorem Vg : CEdE.P = prog := rfl
@[simp] theorem U5 : CEdE.G = G0 := rfl
@[simp] theorem Vy : CEdE.S 120 = .pure wY /\ CEdE.S 121 = .pure tE /\ CEdE.S 80 = .pure iX := ⟨rfl, rfl, rfl⟩
theorem MH : au CEdE := ap (Tj) func120 (ap (V2) func121 (ap (NF) func80 (ak _ _)))
theorem GW {g : Gra} {i : Nat} {r : Int} (hr : j6 g i = r) (h1 : ¬ (0 < i /\ (ix g.edges i).id <= (ix g.edges (i - 1)).id)) : r = if (ix g.edges i).id < 1 then 1 else if g.ne <= (ix g.edges i).id then 1 else if (fJ g (ix g.edges i).frm).2 = false then 10 else if (fJ g (ix g.edges i).to).2 = false then 10 else if dW (ix g.edges i).type = false then 6 else dv [] (ix g.edges i).props := by
 rw [<- hr, j6, if_neg h1]
theorem Wq : PureOK prog G0 83 Ip := by
 refine aX MH ae func83 rfl rfl rfl (by kernel_rfl) (by decide) (λ g i ⟨hg, h0, h1⟩ => ?_)
 obtain ⟨i, rfl⟩ := eq_ofNat_of_zero_le h0
 have hlt : i < g.edges.length := by omega
 have hel := hg.el
 unfold maxLen at hel
 have hnl := hg.nl
 have hw := hg.e _ (aq hlt)
 have hpl := hw.pl
 have hp := hw.p
 have h0l : (0 : Nat) <= maxLen := zero_le _
 rw [toNat_natCast]
 obtain ⟨r, hr⟩ : ∃ r, j6 g i = r := ⟨_, rfl⟩
 rw [hr]
 obtain ⟨e, he⟩ : ∃ e, ix g.edges i = e := ⟨_, rfl⟩
 obtain ⟨u, hu⟩ : ∃ u, fJ g e.frm = u := ⟨_, rfl⟩
 obtain ⟨v, hv⟩ : ∃ v, fJ g e.to = v := ⟨_, rfl⟩
 obtain ⟨u1, u2⟩ := u
 obtain ⟨v1, v2⟩ := v
 have tl := GW hr
 rw [he, hu, hv] at tl
 simp only at tl
 rw [he] at hpl hp
 rcases em2 (0 < i) with hi | hi
 ·have hi' := of_eq_true hi
  have q5 : i - 1 < g.edges.length := by omega
  have q6 : ((i : Int) - 1).toNat = i - 1 := by omega
  have q7 : (i : Int) - 1 < g.edges.length := by omega
  have q8 : (0 : Int) <= (i : Int) - 1 := by omega
  have q10 : (1 : Int) <= (i : Int) := by omega
  have q9 : I64 ((i : Int) - 1) := by unfold I64; omega
  rcases em2 (e.id <= (ix g.edges (i - 1)).id) with h2 | h2
  ·have er : r = 26 := by rw [<- hr, j6, if_pos ⟨hi', by rw [he]; exact of_eq_true h2⟩]
   subst er
   simp [hlt, aa hlt, he, hi, hi', q5, q6, q7, q8, q9, q10, aa q5, h2]
  have tl := tl λ h => of_eq_false h2 h.2
  rcases em2 (e.id < 1) with h3 | h3
  ·simp [h3] at tl
   subst tl
   simp [hlt, aa hlt, he, hi, hi', q5, q6, q7, q8, q9, q10, aa q5, h2, h3]
  rcases em2 (g.ne <= e.id) with h4 | h4
  ·simp [h3, h4] at tl
   subst tl
   simp [hlt, aa hlt, he, hi, hi', q5, q6, q7, q8, q9, q10, aa q5, h2, h3, h4]
  simp [h3, h4] at tl
  cases u2
  ·simp at tl
   subst tl
   simp [hlt, aa hlt, he, hi, hi', q5, q6, q7, q8, q9, q10, aa q5, h2, h3, h4, tE, hnl, hu, hv]
  cases v2
  ·simp at tl
   subst tl
   simp [hlt, aa hlt, he, hi, hi', q5, q6, q7, q8, q9, q10, aa q5, h2, h3, h4, tE, hnl, hu, hv]
  cases hn : dW e.type
  ·simp [hn] at tl
   subst tl
   simp [hlt, aa hlt, he, hi, hi', q5, q6, q7, q8, q9, q10, aa q5, h2, h3, h4, tE, hnl, hu, hv, iX, hn]
  ·simp [hn] at tl
   subst tl
   simp [hlt, aa hlt, he, hi, hi', q5, q6, q7, q8, q9, q10, aa q5, h2, h3, h4, tE, hnl, hu, hv, iX, hn, wY, hpl, h0l]
   exact hp
 ·have tl := tl λ h => of_eq_false hi h.1
  rcases em2 (e.id < 1) with h3 | h3
  ·simp [h3] at tl
   subst tl
   simp [hlt, aa hlt, he, hi, h3]
  rcases em2 (g.ne <= e.id) with h4 | h4
  ·simp [h3, h4] at tl
   subst tl
   simp [hlt, aa hlt, he, hi, h3, h4]
  simp [h3, h4] at tl
  cases u2
  ·simp at tl
   subst tl
   simp [hlt, aa hlt, he, hi, h3, h4, tE, hnl, hu, hv]
  cases v2
  ·simp at tl
   subst tl
   simp [hlt, aa hlt, he, hi, h3, h4, tE, hnl, hu, hv]
  cases hn : dW e.type
  ·simp [hn] at tl
   subst tl
   simp [hlt, aa hlt, he, hi, h3, h4, tE, hnl, hu, hv, iX, hn]
  ·simp [hn] at tl
   subst tl
   simp [hlt, aa hlt, he, hi, h3, h4, tE, hnl, hu, hv, iX, hn, wY, hpl, h0l]
   exact hp
def np (f : Nat -> Int) : Nat -> Int
 | 0 => 0
 | n + 1 => if np f n ≠ 0 then np f n else f n
theorem firN_zero {f : Nat -> Int} : ∀ {n : Nat}, np f n = 0 ↔ ∀ j, j < n -> f j = 0
 | 0 => by simp [np]
 | n + 1 => by
  rw [np]
  constructor
  ·intro h j hj
   split at h
   ·rename_i h1; exact absurd h h1
   ·rename_i h1
    have h1 : np f n = 0 := by omega
    rcases lt_or_eq_of_le (le_of_lt_succ hj) with h2 | rfl
    ·exact firN_zero.1 h1 j h2
    ·exact h
  ·intro h
   rw [if_neg (λ h1 => h1 (firN_zero.2 λ j hj => h j (by omega)))]
   exact h n (by omega)
theorem yH {f : Nat -> Int} {i : Nat} (h : ∀ j, j < i -> f j = 0) (hi : f i ≠ 0) : ∀ {n : Nat}, i < n -> np f n = f i
 | n + 1, hn => by
  rw [np]
  rcases lt_or_eq_of_le (le_of_lt_succ hn) with h2 | rfl
  ·rw [yH h hi h2, if_pos hi]
  ·rw [if_neg (λ h1 => h1 (firN_zero.2 h))]
def dm (g : Gra) : Int :=
 if 2000 < g.nodes.length then 4 else if 4000 < g.edges.length then 4
 else if g.nn < 1 then 1 else if 1000001 < g.nn then 1 else if g.ne < 1 then 1 else if 1000001 < g.ne then 1
 else if np (fw g) g.nodes.length ≠ 0 then np (fw g) g.nodes.length else np (j6 g) g.edges.length
def rW : PSp := aN (λ (g : Gra) => WfG g) (λ g => .int .i64 (dm g))
noncomputable def CChG : Ctx := mkC prog G0 [(82, .pure It), (83, .pure Ip)]
@[simp] theorem WO : CChG.P = prog := rfl
@[simp] theorem VI : CChG.G = G0 := rfl
@[simp] theorem W5 : CChG.S 82 = .pure It /\ CChG.S 83 = .pure Ip := ⟨rfl, rfl⟩
theorem xP : au CChG := ap (WE) func82 (ap (Wq) func83 (ak _ _))
theorem SZ : PureOK prog G0 41 rW := by
 refine bj xP ae func41 rfl rfl rfl (by kernel_rfl) (by decide) (λ g hg => ?_)
 have hnl := hg.nl
 have hel := hg.el
 unfold maxLen at hnl hel
 rcases em2 (2000 < g.nodes.length) with h1 | h1
 ·have h1' : ((2000 : Int) < g.nodes.length) = True := eq_true (by have := of_eq_true h1; omega)
  simp [dm, h1, h1']
 have h1' : ((2000 : Int) < g.nodes.length) = False := eq_false (by have := of_eq_false h1; omega)
 rcases em2 (4000 < g.edges.length) with h2 | h2
 ·have h2' : ((4000 : Int) < g.edges.length) = True := eq_true (by have := of_eq_true h2; omega)
  simp [dm, h1, h1', h2, h2']
 have h2' : ((4000 : Int) < g.edges.length) = False := eq_false (by have := of_eq_false h2; omega)
 rcases em2 (g.nn < 1) with h3 | h3
 ·simp [dm, h1, h1', h2, h2', h3]
 rcases em2 (1000001 < g.nn) with h4 | h4
 ·simp [dm, h1, h1', h2, h2', h3, h4]
 rcases em2 (g.ne < 1) with h5 | h5
 ·simp [dm, h1, h1', h2, h2', h3, h4, h5]
 rcases em2 (1000001 < g.ne) with h6 | h6
 ·simp [dm, h1, h1', h2, h2', h3, h4, h5, h6]
 have e : dm g = if np (fw g) g.nodes.length ≠ 0 then np (fw g) g.nodes.length else np (j6 g) g.edges.length := by simp [dm, h1, h2, h3, h4, h5, h6]
 rw [e]
 simp [h1', h2', h3, h4, h5, h6]
 refine am xP ae (λ i : Nat => ⟨[(1, .ptr 0 1 4 0 0), (3, .int .i64 i)], [GrB g]⟩) (λ i => i <= g.nodes.length /\ ∀ j, j < i -> fw g j = 0) (λ i => g.nodes.length - i) (by kernel_rfl) ⟨0, by simp, ag (by simp) (by simp [GrB])⟩ (λ i ⟨hi, hall⟩ => ?_)
 by_cases hlt : i < g.nodes.length
 ·have i1 : I64 ((i : Int) + 1) := by unfold I64; omega
  rcases em2 (fw g i = 0) with hb | hb
  ·simp [GrB, hlt, It, hg, hb, i1]
   refine ⟨i + 1, ⟨by omega, λ j hj => ?_⟩, by omega, ag (by simp) (by simp [GrB])⟩
   rcases lt_or_eq_of_le (le_of_lt_succ hj) with h | rfl
   ·exact hall j h
   ·exact of_eq_true hb
  ·have e2 := yH hall (of_eq_false hb) hlt
   simp [GrB, hlt, It, hg, hb, e2]
 ·have e2 : np (fw g) g.nodes.length = 0 := firN_zero.2 λ j hj => hall j (by omega)
  simp [GrB, hlt, e2]
  refine am xP ae (λ i : Nat => ⟨[(1, .ptr 0 1 4 0 0), (5, .int .i64 i)], [GrB g]⟩) (λ i => i <= g.edges.length /\ ∀ j, j < i -> j6 g j = 0) (λ i => g.edges.length - i) (by kernel_rfl) ⟨0, by simp, ag (by simp) (by simp [GrB])⟩ (λ k ⟨hk, hall2⟩ => ?_)
  by_cases hkl : k < g.edges.length
  ·have i1 : I64 ((k : Int) + 1) := by unfold I64; omega
   rcases em2 (j6 g k = 0) with hb | hb
   ·simp [GrB, hkl, Ip, hg, hb, i1]
    refine ⟨k + 1, ⟨by omega, λ j hj => ?_⟩, by omega, ag (by simp) (by simp [GrB])⟩
    rcases lt_or_eq_of_le (le_of_lt_succ hj) with h | rfl
    ·exact hall2 j h
    ·exact of_eq_true hb
   ·have e3 := yH hall2 (of_eq_false hb) hkl
    simp [GrB, hkl, Ip, hg, hb, e2, e3]
  ·have e3 : np (j6 g) g.edges.length = 0 := firN_zero.2 λ j hj => hall2 j (by omega)
   simp [GrB, hkl, e2, e3]
def jI : List Prp -> ByteArray -> Val
 | [], _ => nullV
 | p :: r, k => if p.key = k then p.v else jI r k
theorem Cx {l : List Prp} {i : Nat} (h : i < l.length) (k : ByteArray) : jI (l.drop i) k = if (ix l i).key = k then (ix l i).v else jI (l.drop (i + 1)) k := by
 rw [drop_eq_getElem_cons h, az h, jI]
def ZvB : Blk := ⟨54, 5, [[.int .i64 0, .int .i64 0, .int .i64 0, AV.str ByteArray.empty, .slice 5 true []]], true, true⟩
def Ms : PSp := aC (λ (l : List Prp) (_ : ByteArray) => l.length <= maxLen) (λ l k => Enc.enc (jI l k))
theorem Wy : PureOK prog G0 87 Ms := by
 refine aX aK ae func87 rfl rfl rfl (by kernel_rfl) (by decide) (λ l s hl => ?_)
 unfold maxLen at hl
 obtain ⟨r, hr⟩ : ∃ r, jI l s = r := ⟨_, rfl⟩
 rw [hr]
 simp
 refine am aK ae (λ i : Nat => ⟨[(0, Enc.enc l), (1, .str s), (4, .ptr 0 1 5 0 0), (5, .int .i64 i)], [ZvB]⟩) (λ i => i <= l.length /\ jI (l.drop i) s = r) (λ i => l.length - i) (by kernel_rfl) ⟨0, ⟨by omega, hr⟩, ag (by simp) (by simp [ZvB])⟩ (λ i ⟨hi, hx⟩ => ?_)
 by_cases hlt : i < l.length
 ·have i1 : I64 ((i : Int) + 1) := by unfold I64; omega
  rw [Cx hlt] at hx
  rcases em2 ((ix l i).key = s) with hb | hb
  ·rw [if_pos (of_eq_true hb)] at hx
   subst hx
   simp [ZvB, nullV, hlt, aa hlt, hb]
  ·rw [if_neg (of_eq_false hb)] at hx
   simp [ZvB, nullV, hlt, aa hlt, hb, i1]
   exact ⟨i + 1, ⟨by omega, hx⟩, by omega, ag (by simp) (by simp [ZvB])⟩
 ·rw [drop_eq_nil_of_le (by omega), jI] at hx
  subst hx
  simp [ZvB, nullV, hlt]
def xp (l : List ByteArray) (s : ByteArray) : Bool := l.any λ x => decide (x = s)
theorem IS {l : List ByteArray} {s : ByteArray} (h : s ∈ l) : xp l s = true := List.any_eq_true.2 ⟨s, h, by simp⟩
theorem MN {l : List ByteArray} {s : ByteArray} (h : s ∉ l) : xp l s = false := List.any_eq_false.2 λ x hx he => h (by have := of_decide_eq_true he; rwa [<- this])
def Kj : PSp := aC (λ (l : List ByteArray) (_ : ByteArray) => l.length <= maxLen) (λ l s => .bool (xp l s))
theorem Ui : PureOK prog G0 84 Kj := by
 refine aX aK ae func84 rfl rfl rfl (by kernel_rfl) (by decide) (λ l v hl => ?_)
 unfold maxLen at hl
 simp
 refine am aK ae (λ i : Nat => ⟨[(0, Enc.enc l), (1, .str v), (5, .int .i64 i)], []⟩) (λ i => i <= l.length /\ ∀ j < i, ix l j ≠ v) (λ i => l.length - i) (by kernel_rfl) ⟨0, by simp, ah (by simp)⟩ (λ i ⟨hi, hx⟩ => ?_)
 by_cases h : i < l.length
 ·rcases em2 (ix l i = v) with e | e
  ·have := IS (of_eq_true e ▸ aq h)
   simp [h, aa h, e, this]
  ·have i1 : I64 ((i : Int) + 1) := by unfold I64; omega
   simp [h, aa h, e, i1]
   refine ⟨i + 1, ⟨by omega, λ j hj => ?_⟩, by omega, ah (by simp)⟩
   rcases lt_or_eq_of_le (le_of_lt_succ hj) with h | rfl
   ·exact hx j h
   ·exact of_eq_false e
 ·have := MN (l := l) (s := v) λ hm => by
   obtain ⟨j, hj, rfl⟩ := mem_iff_getElem.1 hm
   exact hx j (by omega) (az hj)
  simp [h, this]
def EH : PSp := aC (λ (n : Nod) (_ : ByteArray) => n.labels.length <= maxLen) (λ n s => .bool (xp n.labels s))
def Az : PSp := aC (λ (e : Edg) (l : List ByteArray) => l.length <= maxLen) (λ e l => .bool (decide (l = []) || xp l e.type))
noncomputable def CHs : Ctx := mkC prog G0 [(84, .pure Kj)]
@[simp] theorem Zd : CHs.P = prog := rfl
@[simp] theorem Yr : CHs.G = G0 := rfl
@[simp] theorem Xw : CHs.S 84 = .pure Kj := rfl
theorem Ig : au CHs := ap (Ui) func84 (ak _ _)
theorem Uj : PureOK prog G0 85 EH := by
 refine aX Ig ae func85 rfl rfl rfl (by kernel_rfl) (by decide) (λ n s hl => ?_)
 simp [Kj, hl]
theorem Sy : PureOK prog G0 43 Az := by
 refine aX Ig ae func43 rfl rfl rfl (by kernel_rfl) (by decide) (λ e l hl => ?_)
 rcases em2 (l = []) with h | h
 ·have h' := of_eq_true h
  subst h'
  simp
 ·simp [Kj, hl, h]
end
end Go.Proofs.YtfoipbjhaiimlaaGreatDoor