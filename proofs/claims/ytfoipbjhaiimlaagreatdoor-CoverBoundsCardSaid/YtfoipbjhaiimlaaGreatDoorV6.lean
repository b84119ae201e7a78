/-
  Texts joined.
-/
import Derived.Test.YtfoipbjhaiimlaaGreatDoorV5
import Derived.Test.YtfoipbjhaiimlaaGreatDoorRows
import Derived.MakeChecks
import Derived.ChangeSame
import Derived.LaidMore
import Derived.Test.YtfoipbjhaiimlaaGreatDoorV3
namespace Go.Proofs.YtfoipbjhaiimlaaGreatDoor
open List (append_assoc append_nil cons_append getD_eq_getElem?_getD getElem?_append_left getElem?_eq_getElem getElem?_set_ne getElem?_set_self getElem_replicate length_append length_cons length_map length_replicate length_set map_append mem_append mem_cons mem_map set_append_left set_comm set_set take_add_one take_length take_of_length_le)
open Int (toNat_natCast)
open Nat (add_mul div_lt_self lt_or_ge mod_eq_of_lt mul_add mul_assoc pos_of_ne_zero pow_succ sub_self zero_add zero_le)
open Rat (intCast_mul lt_irrefl zero_mul)
open _root_.Go.Proofs.Tryz
noncomputable section
set_option maxHeartbeats 16000000
open Go.RowKit
set_option linter.unusedSimpArgs false
set_option linter.unusedVariables false
set_option maxRecDepth 100000
theorem jQ {L : Lay} {t : Tab} (s : t.basis.length = 24) (h : 28 < (tC L t).length) : (tC L t)[28]'h = .bool t.over := by
 have := Sk (L := L) s
 rw [getElem?_eq_getElem h] at this
 injection this
def jy (t : Tab) : Nat -> Option Nat
 | 0 => none
 | k + 1 => match jy t k with
  | some j => some j
  | none => if (ix t.cost k).N < 0 then some k else none
def lf (t : Tab) : Option Nat := jy t t.w
theorem wJ {t : Tab} {k j : Nat} (h : jy t k = some j) : ∀ n, jy t (k + n) = some j
 | 0 => h
 | n + 1 => by
  show jy t ((k + n) + 1) = some j
  unfold jy
  rw [wJ h n]
theorem nj {t : Tab} {k : Nat} (h : jy t k = none) : jy t (k + 1) = if (ix t.cost k).N < 0 then some k else none := by
 conv => { lhs; unfold jy; rw [h] }
def bY (t : Tab) : (Bool × Tab) ⊕ Tab :=
 if t.over then .inl (true, t) else match lf t with
 | none => .inl (true, t)
 | some j => if (cH t j).2 then .inl (true, orT t true) else if (cH t j).1 < 0 then .inl (false, t) else .inr (iW t (cH t j).1.toNat j)
def j2 : Nat -> Tab -> Option (Bool × Tab)
 | 0, _ => none
 | n + 1, t => match bY t with
  | .inl r => some r
  | .inr t' => j2 n t'
theorem qN : ∀ {n : Nat} {t : Tab} {r : Bool × Tab} (k : Nat), j2 n t = some r -> j2 (n + k) t = some r
 | 0, _, _, _, h => by cases h
 | n + 1, t, r, k, h => by
  rw [show n + 1 + k = (n + k) + 1 by omega]
  unfold j2 at h ⊢
  cases hs : bY t with
  | inl q => rw [hs] at h; exact h
  | inr t' => rw [hs] at h; exact qN k h
def jG (t : Tab) : Prop := ∃ r, ∃ n, j2 n t = some r
open Classical in
def aO (t : Tab) : Bool × Tab := if h : jG t then h.choose else (false, t)
theorem dN {t : Tab} {n : Nat} {r : Bool × Tab} (h : j2 n t = some r) : aO t = r := by
 have hx : jG t := ⟨r, n, h⟩
 unfold aO
 rw [dif_pos hx]
 obtain ⟨k, hk⟩ := hx.choose_spec
 have h1 := qN k h
 have h2 := qN n hk
 rw [show k + n = n + k by omega, h1] at h2
 injection h2 with h2
 exact h2.symm
theorem BD (t : Tab) (j : Nat) (h : ¬ (cH t j).1 < 0) : ∃ i : Nat, i < t.m /\ (cH t j).1 = i := by
 unfold cH at h ⊢
 cases h1 : lvK t j t.m with
 | none => rw [h1] at h; simp at h
 | some p =>
  obtain ⟨s, low⟩ := p
  rw [h1] at h
  simp only at h ⊢
  have := Kt h1
  exact ⟨s.toNat, by omega, by omega⟩
theorem fz {t : Tab} : ∀ {k j : Nat}, jy t k = some j -> j < k
 | 0, _, h => by cases h
 | k + 1, j, h => by
  cases h1 : jy t k with
  | some i =>
   have := fz h1
   unfold jy at h
   rw [h1] at h
   injection h with h
   omega
  | none =>
   rw [nj h1] at h
   split at h
   ·injection h with h; omega
   ·cases h
structure Kin (t u : Tab) : Prop where
 n : u.n = t.n
 m : u.m = t.m
 cost : u.cost.length = t.cost.length
theorem Kin.w {t u : Tab} (h : Kin t u) : u.w = t.w := by unfold Tab.w; rw [h.n, h.m]
theorem Kin.refl (t : Tab) : Kin t t := ⟨rfl, rfl, rfl⟩
theorem Kin.trans {t u v : Tab} (h : Kin t u) (h' : Kin u v) : Kin t v := ⟨h'.n.trans h.n, h'.m.trans h.m, h'.cost.trans h.cost⟩
theorem w7 (t : Tab) (i j : Nat) : Kin t (iW t i j) := ⟨JY i j, Dx i j, FX i j⟩
theorem Qt (t : Tab) (b : Bool) : Kin t (orT t b) := ⟨rfl, rfl, rfl⟩
theorem jD {L : Lay} {t : Tab} (hS : Shape L t) : match bY t with
  | .inl r => Shape L r.2 /\ Kin t r.2
  | .inr u => Shape L u /\ Kin t u := by
 unfold bY
 split
 ·rename_i q h
  split at h
  ·injection h with h; subst h; exact ⟨hS, Kin.refl t⟩
  ·split at h
   ·injection h with h; subst h; exact ⟨hS, Kin.refl t⟩
   ·split at h
    ·injection h with h; subst h; exact ⟨kk hS true, Qt t true⟩
    ·split at h
     ·injection h with h; subst h; exact ⟨hS, Kin.refl t⟩
     ·cases h
 ·rename_i u h
  split at h
  ·cases h
  ·split at h
   ·cases h
   ·rename_i j hj
    split at h
    ·cases h
    ·split at h
     ·cases h
     ·rename_i hn
      injection h with h
      obtain ⟨i, hi, hii⟩ := BD t j hn
      subst h
      rw [hii]
      exact ⟨iY hS (by simpa using hi) (fz hj), w7 t _ j⟩
theorem t9 {L : Lay} : ∀ {n : Nat} {t : Tab} {r : Bool × Tab}, Shape L t -> j2 n t = some r -> Shape L r.2 /\ Kin t r.2
 | 0, _, _, _, h => by cases h
 | n + 1, t, r, hS, h => by
  have hs := jD hS
  unfold j2 at h
  cases h1 : bY t with
  | inl q =>
   rw [h1] at h hs
   injection h with h
   subst h
   exact hs
  | inr u =>
   rw [h1] at h hs
   have := t9 hs.1 h
   exact ⟨this.1, hs.2.trans this.2⟩
theorem fj {L : Lay} {t : Tab} (hS : Shape L t) (h : jG t) : Shape L (aO t).2 /\ Kin t (aO t).2 := by
 obtain ⟨r, n, hn⟩ := h
 rw [dN hn]
 exact t9 hS hn
structure PrePh (L : Lay) (t : Tab) (_ : Unit) : Prop where
 c : t.cost.length = t.w + 1
 h : jG t
def nY := ve (λ _ _ (_ : Unit) => []) PrePh (λ t _ => .bool (aO t).1) (λ t _ => (aO t).2)
theorem MJ : TabOK (λ _ _ (_ : Unit) => []) PrePh (λ t _ => (aO t).2) where
 inj := λ _ _ _ _ _ => rfl
 rows := λ {L t x} s h => by
  obtain ⟨h1, h2⟩ := fj s h.h
  rw [h1.m, h2.m]
theorem BY {L : Lay} {K : List Blk} {t : Tab} (hL : Lens L K) (hS : Shape L t) (hc : t.cost.length = t.w + 1) (hh : jG t) (X : List Blk) (hX : ∀ b ∈ X, b.deep = true) : nY [.ptr L.p 1 29 0 0] (ao L t K ++ X) = some (True, .bool (aO t).1, ao L (aO t).2 K ++ X) :=
 gk MJ (x := ()) hL hS ⟨hc, hh⟩ X hX
noncomputable def CPh : Ctx := mkC prog G0 [(131, .gen D9), (132, .gen HB)]
@[simp] theorem Y9 : CPh.P = prog := rfl
@[simp] theorem Zo : CPh.G = G0 := rfl
@[simp] theorem YP : CPh.S 131 = .gen D9 /\ CPh.S 132 = .gen HB := ⟨rfl, rfl⟩
theorem xW : au CPh := aL (bM (QN) func131 rfl (by decide)) (aL (bM (Ol) func132 rfl (by decide)) (ak _ _))
theorem Ey : jM prog G0 102 nY := by
 refine bP (C := CPh) xW ae [2] func102 rfl rfl rfl (by kernel_rfl) (λ avs H ob r H' hp hob => ?_)
 obtain ⟨L, t, K, x, hL, hS, ⟨hct, hh⟩, rfl, rfl, rfl, rfl⟩ := jj hp
 clear hp hob ob
 refine ⟨(by show 1 <= _; decide), ?_⟩
 obtain ⟨R, n, hn⟩ := hh
 rw [dN hn]
 simp [argsρ, ai]
 refine aB xW ae [2] (λ q : Nat × Tab => ⟨[(0, .ptr L.p 1 29 0 0), (2, .bool false)], ao L q.2 K⟩) (λ q => j2 q.1 q.2 = some R /\ Shape L q.2 /\ Kin t q.2) (λ q => q.1) (by kernel_rfl) ⟨(n, t), ⟨hn, hS, Kin.refl t⟩, ag (by simp) rfl⟩ (λ ⟨n, U⟩ ⟨hn, hSU, hK⟩ => ?_)
 simp only at hn hSU hK ⊢
 have G1 := fq hL hSU
 have p1 := G1.p0
 have n1 := b9 (L := L) hSU.bas
 have hw := fO hSU
 have hcU : U.cost.length = U.w + 1 := by rw [hK.cost, hct, hK.w]
 cases n with
 | zero => cases hn
 | succ n =>
  unfold j2 at hn
  by_cases ho : U.over = true
  ·have hs : bY U = .inl (true, U) := if_pos ho
   rw [hs] at hn
   injection hn with hn
   subst hn
   simp [ai, p1, n1, jQ hSU.bas, ho]
   exact dO hL (by simp [AV.cleanF, AV.clean2, AV.clean1])
  have ho' : U.over = false := by simpa using ho
  have hs : bY U = match lf U with
   | none => .inl (true, U)
   | some j => if (cH U j).2 then .inl (true, orT U true) else if (cH U j).1 < 0 then .inl (false, U) else .inr (iW U (cH U j).1.toNat j) := if_neg ho
  rw [hs] at hn
  simp [ai, p1, n1, jQ hSU.bas, ho']
  refine aA xW ae [.pure, .pure, .pure, .read, .pure, .pure, .pure, .read, .pure, .pure] [[],[0],[0,1],[1,0,2],[],[4],[4,5],[5,4,6],[6,4,5,7,2,0,1,3],[]] (by kernel_rfl) (by kernel_rfl) (by kernel_rfl) (by kernel_rfl) ?_
  simp [ai, p1, n1, j8, j3, mK hSU]
  refine aB xW ae [2] (λ j : Nat => ⟨[(0, .ptr L.p 1 29 0 0), (2, .bool false), (18, .int .i64 U.w), (19, .int .i64 j)], ao L U K⟩) (λ j => j <= U.w /\ jy U j = none) (λ j => U.w - j) (by kernel_rfl) ⟨0, ⟨by simp, rfl⟩, ag (by simp) rfl⟩ (λ j ⟨hj, he⟩ => ?_)
  by_cases hjl : j < U.w
  ·have hjl' : (j : Int) < U.w := by omega
   have i2 : I64 ((j : Int) + 1) := by unfold I64; omega
   obtain ⟨cc, hcc⟩ := mV hSU hcU
   have c1 := G1.c0 hcc
   have hjc : j < U.w + 1 := by omega
   have he2 := nj he
   by_cases hN : (ix U.cost j).N < 0
   ·rw [if_pos hN] at he2
    have hent : lf U = some j := by
     have := wJ he2 (U.w - (j + 1))
     rwa [show j + 1 + (U.w - (j + 1)) = U.w by omega] at this
    rw [hent] at hn
    simp only at hn
    have hNp : ¬ 0 <= (ix U.cost j).N := by omega
    have hcall := Hx hL hSU hjl [] (by simp)
    simp only [append_nil] at hcall
    obtain ⟨sv, ov, hv⟩ : ∃ sv ov, cH U j = (sv, ov) := ⟨_, _, rfl⟩
    have hin := BD U j
    rw [hv] at hn hcall hin
    cases ov with
    | true =>
     rw [if_pos rfl] at hn
     injection hn with hn
     subst hn
     have hSo := kk hSU true
     have p2 := (fq hL hSo).p0
     have n2 := b9 (L := L) hSo.bas
     have e2 := jQ (L := L) hSo.bas
     rw [show (orT U true).over = true by rw [lY]] at e2
     simp [ai, p1, n1, nL, hcc, cC, c1, hcU, hjl, hjc, aa, hNp, hcall, p2, n2, e2]
     exact ⟨by omega, dO hL (by simp [AV.cleanF, AV.clean2, AV.clean1])⟩
    | false =>
     rw [if_neg (by simp)] at hn
     simp only [iD] at hcall
     by_cases hsn : sv < 0
     ·rw [if_pos hsn] at hn
      injection hn with hn
      subst hn
      simp [ai, p1, n1, nL, hcc, cC, c1, hcU, hjl, hjc, aa, hNp, hcall, jQ hSU.bas, ho', hsn]
      exact ⟨by omega, dO hL (by simp [AV.cleanF, AV.clean2, AV.clean1])⟩
     ·rw [if_neg hsn] at hn
      obtain ⟨i, hi, hii⟩ := hin hsn
      simp only at hii
      subst hii
      simp only [toNat_natCast] at hn
      have hpc := Ah hL hSU hi hjl [] (by simp)
      simp only [append_nil] at hpc
      simp [ai, p1, n1, nL, hcc, cC, c1, hcU, hjl, hjc, aa, hNp, hcall, jQ hSU.bas, ho', hsn, hpc]
      exact ⟨by omega, n, iW U i j, ⟨hn, iY hSU hi hjl, hK.trans (w7 U i j)⟩, by omega, ag (by simp) rfl⟩
   ·rw [if_neg hN] at he2
    have hNp : 0 <= (ix U.cost j).N := by omega
    simp [ai, p1, n1, nL, hcc, cC, c1, hcU, hjl, hjc, aa, hNp, i2]
    exact ⟨by omega, j + 1, ⟨by omega, he2⟩, by omega, ag (by simp) rfl⟩
  ·have hje : j = U.w := by omega
   subst hje
   have hent : lf U = none := he
   rw [hent] at hn
   injection hn with hn
   subst hn
   simp [ai]
   exact dO hL (by simp [AV.cleanF, AV.clean2, AV.clean1])
def jV (t : Tab) (i : Nat) : Nat -> Option Nat
 | 0 => none
 | k + 1 => match jV t i k with
  | some j => some j
  | none => if (ix (ix t.rows i) k).N ≠ 0 then some k else none
theorem qS {t : Tab} {i k j : Nat} (h : jV t i k = some j) : ∀ n, jV t i (k + n) = some j
 | 0 => h
 | n + 1 => by
  show jV t i ((k + n) + 1) = some j
  unfold jV
  rw [qS h n]
theorem mY {t : Tab} {i k : Nat} (h : jV t i k = none) : jV t i (k + 1) = if (ix (ix t.rows i) k).N ≠ 0 then some k else none := by
 conv => { lhs; unfold jV; rw [h] }
theorem oR {t : Tab} {i : Nat} : ∀ {k j : Nat}, jV t i k = some j -> j < k
 | 0, _, h => by cases h
 | k + 1, j, h => by
  cases h1 : jV t i k with
  | some i' =>
   have := oR h1
   unfold jV at h
   rw [h1] at h
   injection h with h
   omega
  | none =>
   rw [mY h1] at h
   split at h
   ·injection h with h; omega
   ·cases h
def jR (t : Tab) (i : Nat) : Tab := if (t.w : Int) <= ix t.basis i /\ t.over = false then match jV t i t.w with
 | none => t
 | some j => iW t i j else t
theorem ol {L : Lay} {t : Tab} (hS : Shape L t) {i : Nat} (hi : i < t.m) : Shape L (jR t i) /\ Kin t (jR t i) := by
 unfold jR
 split
 ·split
  ·exact ⟨hS, Kin.refl t⟩
  ·rename_i j hj
   exact ⟨iY hS hi (oR hj), w7 t i j⟩
 ·exact ⟨hS, Kin.refl t⟩
def Mf := ve aJ (λ _ t i => i < t.m) (λ _ _ => .tup []) jR
theorem TC : TabOK aJ (λ _ t i => i < t.m) jR where
 inj := λ {L t K x x'} _ _ _ _ e => by
  unfold aJ at e
  simp only [List.cons.injEq, AV.int.injEq, and_true, true_and] at e
  omega
 rows := λ {L t x} s h => by
  obtain ⟨h1, h2⟩ := ol s h
  rw [h1.m, h2.m]
theorem Ja {L : Lay} {K : List Blk} {t : Tab} (hL : Lens L K) (hS : Shape L t) {i : Nat} (hi : i < t.m) (X : List Blk) (hX : ∀ b ∈ X, b.deep = true) : Mf [.ptr L.p 1 29 0 0, .int .i64 i] (ao L t K ++ X) = some (True, .tup [], ao L (jR t i) K ++ X) :=
 gk TC (x := i) hL hS hi X hX
noncomputable def CRp : Ctx := mkC prog G0 [(100, .gen CX), (132, .gen HB)]
@[simp] theorem YG : CRp.P = prog := rfl
@[simp] theorem YR : CRp.G = G0 := rfl
@[simp] theorem Yj : CRp.S 100 = .gen CX /\ CRp.S 132 = .gen HB := ⟨rfl, rfl⟩
theorem DM : au CRp := aL (bM (M9) func100 rfl (by decide)) (aL (bM (Ol) func132 rfl (by decide)) (ak _ _))
theorem Ts : jM prog G0 103 Mf := by
 refine bP (C := CRp) DM ae [1] func103 rfl rfl rfl (by kernel_rfl) (λ avs H ob r H' hp hob => ?_)
 obtain ⟨L, t, K, i, hL, hS, hi, rfl, rfl, rfl, rfl⟩ := jj hp
 clear hp hob ob
 refine ⟨(by show 2 <= _; decide), ?_⟩
 simp only [aJ]
 have G1 := fq hL hS
 have p1 := G1.p0
 have q1 := G1.q0
 have r1 := G1.r0 hi
 have n1 := b9 (L := L) hS.bas
 have hr := hS.r
 have hir : i < L.r.length := by omega
 have hw := fO hS
 have hrow : (ix t.rows i).length = t.w + 1 := hS.row _ (aq (by rw [hS.m]; exact hi))
 have hart := AU hL hS hi [] (by simp)
 simp only [append_nil] at hart
 by_cases ha : (t.w : Int) <= ix t.basis i
 case neg =>
  have e1 : jR t i = t := if_neg (λ h => ha h.1)
  rw [e1]
  simp [argsρ, ai, hart, ha]
  exact dO hL (by simp [AV.cleanF, AV.clean2, AV.clean1])
 by_cases ho : t.over = false
 case neg =>
  have e1 : jR t i = t := if_neg (λ h => ho h.2)
  have ho' : t.over = true := by simpa using ho
  rw [e1]
  simp [argsρ, ai, hart, ha, p1, n1, jQ hS.bas, ho']
  exact dO hL (by simp [AV.cleanF, AV.clean2, AV.clean1])
 have e1 : jR t i = match jV t i t.w with
  | none => t
  | some j => iW t i j := if_pos ⟨ha, ho⟩
 rw [e1]
 simp [argsρ, ai, hart, ha, p1, n1, jQ hS.bas, ho]
 refine aA DM ae [.pure, .pure, .pure, .read, .pure, .pure, .pure, .read, .pure, .pure] [[],[0],[0,1],[1,0,2],[],[4],[4,5],[5,4,6],[6,4,5,7,2,0,1,3],[]] (by kernel_rfl) (by kernel_rfl) (by kernel_rfl) (by kernel_rfl) ?_
 simp [ai, p1, n1, j8, j3, mK hS]
 refine aB DM ae [1] (λ j : Nat => ⟨[(0, .ptr L.p 1 29 0 0), (1, .int .i64 i), (23, .int .i64 t.w), (24, .int .i64 j)], ao L t K⟩) (λ j => j <= t.w /\ jV t i j = none) (λ j => t.w - j) (by kernel_rfl) ⟨0, ⟨by simp, rfl⟩, ag (by simp) rfl⟩ (λ j ⟨hj, he⟩ => ?_)
 by_cases hjl : j < t.w
 ·have hjl' : (j : Int) < t.w := by omega
  have i2 : I64 ((j : Int) + 1) := by unfold I64; omega
  have hjc : j < t.w + 1 := by omega
  have he2 := mY he
  by_cases hN : (ix (ix t.rows i) j).N = 0
  ·rw [if_neg (λ h => h hN)] at he2
   simp [ai, p1, n1, jz, q1, hr, hi, hir, b8, r1, hrow, hjl, hjc, aa, hN, i2]
   exact ⟨by omega, j + 1, ⟨by omega, he2⟩, by omega, ag (by simp) rfl⟩
  ·rw [if_pos hN] at he2
   have hent : jV t i t.w = some j := by
    have := qS he2 (t.w - (j + 1))
    rwa [show j + 1 + (t.w - (j + 1)) = t.w by omega] at this
   rw [hent]
   have hpc := Ah hL hS hi hjl [] (by simp)
   simp only [append_nil] at hpc
   simp [ai, p1, n1, jz, q1, hr, hi, hir, b8, r1, hrow, hjl, hjc, aa, hN, hpc]
   exact ⟨by omega, dO hL (by simp [AV.cleanF, AV.clean2, AV.clean1])⟩
 ·have hje : j = t.w := by omega
  subst hje
  rw [he]
  simp [ai]
  exact dO hL (by simp [AV.cleanF, AV.clean2, AV.clean1])
def bv (L : Lay) (K : List Blk) : Lay := { L with c := some K.length }
def p9 (L : Lay) (t : Tab) (K : List Blk) (u : Tab) : List Blk := (ao L { u with cost := t.cost } K ++ [R2B u.cost]).set L.p ⟨118, 29, [tC (bv L K) u], true, false⟩
def fy (L : Lay) (t : Tab) (K : List Blk) : List Blk := lJ L.c t.cost K ++ [R2B []]
section
variable {L : Lay} {t u : Tab} {K X : List Blk}
theorem gb : (fy L t K).length = K.length + 1 := by unfold fy; rw [length_append, dD]; rfl
theorem pU (hL : Lens L K) : p9 L t K u = ao (bv L K) u (fy L t K) := by
 have hp := hL.p
 have hq := hL.q
 unfold p9 ao fy bv
 simp only
 rw [set_append_left _ _ (by rw [gP, dD, length_set, length_set]; exact hp), <- cL hL.pr, <- iF hL.pc, set_comm _ _ hL.pq.symm, set_set]
 rw [set_append_left _ _ (by rw [dD]; exact hp), set_append_left _ _ (by rw [length_set, dD]; exact hq)]
 rw [iF hL.qc, iF hL.pc]
 show _ = cF L.r u.rows (List.set _ _ _)
 rw [List.set_append_right _ _ (by rw [length_set, length_set, dD]; exact Nat.le_refl _), length_set, length_set, dD, sub_self]
 rw [<- mr (λ l hl => by rw [length_set, length_set, dD]; exact hL.r l hl)]
 rfl
theorem ra (hL : Lens L K) : Lens (bv L K) (fy L t K) := by
 have hp := hL.p
 have hq := hL.q
 refine ⟨by rw [gb]; show L.p < _; omega, by rw [gb]; show L.q < _; omega, λ c hc => by rw [gb]; injection hc with hc; omega, λ l hl => by rw [gb]; have := hL.r l hl; omega, hL.pq, ?_, ?_, hL.pr, hL.qr, ?_, hL.nd, λ b hb => ?_⟩
 ·intro h; injection h with h; exact absurd h.symm (Nat.ne_of_lt hp)
 ·intro h; injection h with h; exact absurd h.symm (Nat.ne_of_lt hq)
 ·intro c hc hl
  injection hc with hc
  have := hL.r c hl
  omega
 ·rw [gb]
  rcases mem_append.1 hb with hb | hb
  ·rcases zg hb with hb | hb
   ·exact (hL.cl b hb).imp id λ h1 r hr c hc => jJ (by omega) (h1 r hr c hc)
   ·exact .inl hb
  ·rw [List.mem_singleton] at hb
   rw [hb]
   exact .inl rfl
theorem oc (hS : Shape L t) {x : List Fr} (hx : x.length = t.w + 1) : Shape (bv L K) { t with cost := x } := ⟨hS.m, hS.r, hS.n1, hS.n12, hS.m24, hS.row, .inr ⟨⟨_, rfl⟩, hx⟩, hS.bas, hS.b64⟩
theorem On {w : Nat} (x : List Fr) (hx : x.length = w) : List.take 3 (tC L t) ++ AV.own K.length w :: List.drop 4 (tC L t) = tC (bv L K) { t with cost := x } := by
 unfold tC bv cC
 simp [hx]
theorem Un (hc : L.c = none) (M : List Blk) : List.take 3 (tC (bv L M) t) ++ AV.slice 2 true [] :: List.drop 4 (tC (bv L M) t) = tC L { t with cost := [] } := by
 unfold tC bv
 rw [hc]
 rfl
theorem Ko (hL : Lens L K) (hc : L.c = none) : (ao (bv L K) u (K ++ [R2B []])).set L.p ⟨118, 29, [tC L { u with cost := [] }], true, false⟩ = ao L { u with cost := [] } K ++ [R2B u.cost] := by
 have hp := hL.p
 have hq := hL.q
 unfold ao bv
 simp only
 rw [set_append_left _ _ hp, set_append_left _ _ (by rw [length_set]; exact hq)]
 show (cF L.r u.rows (List.set _ _ _)).set _ _ = _
 rw [List.set_append_right _ _ (by rw [length_set, length_set]; exact Nat.le_refl _), length_set, length_set, sub_self]
 rw [mr (λ l hl => by rw [length_set, length_set]; exact hL.r l hl)]
 rw [set_append_left _ _ (by rw [gP, length_set, length_set]; exact hp), <- cL hL.pr, set_comm _ _ hL.pq.symm, set_set]
 rw [hc]
 rfl
end
def io (t : Tab) (k : Nat) : Bool := decide ((t.w : Int) <= ix t.basis k)
def f1K (t : Tab) : Nat -> Tab
 | 0 => { t with cost := ep t }
 | k + 1 => if io t k then ky (f1K t k) ⟨none, F11, k⟩ else f1K t k
def f1T (t : Tab) : Tab := f1K t t.m
def oe (t : Tab) : Nat -> Tab
 | 0 => t
 | k + 1 => jR (oe t k) k
def aD (t : Tab) : Bool × Tab :=
 if fF t.m (io t) = false ∨ (f1T t).over = true then (true, f1T t)
 else if (aO (f1T t)).2.over = true then (true, (aO (f1T t)).2)
 else if (ix (aO (f1T t)).2.cost t.w).N < 0 then (false, (aO (f1T t)).2)
 else (true, oe { (aO (f1T t)).2 with cost := [] } t.m)
def jq (t : Tab) : Prop := ¬ (fF t.m (io t) = false ∨ (f1T t).over = true) -> jG (f1T t)
section
variable {L : Lay} {t : Tab} {K : List Blk}
theorem ew (t : Tab) : (ep t).length = t.w + 1 := length_replicate
theorem dE (t : Tab) : ∀ k, (f1K t k).n = t.n /\ (f1K t k).m = t.m /\ (f1K t k).cost.length = t.w + 1 /\ (f1K t k).basis = t.basis
 | 0 => ⟨rfl, rfl, ew t, rfl⟩
 | k + 1 => by
  obtain ⟨h1, h2, h3, h4⟩ := dE t k
  unfold f1K
  split
  ·exact ⟨(xz _ _).trans h1, (xw _ _).trans h2, (nf _ _).trans h3, (pR _ _).trans h4⟩
  ·exact ⟨h1, h2, h3, h4⟩
theorem Ev (t : Tab) (k : Nat) : (f1K t k).w = t.w := by unfold Tab.w; rw [(dE t k).1, (dE t k).2.1]
theorem DN {k : Nat} (hk : k < t.m) : PreClr L (f1K t k) ⟨none, F11, k⟩ := ⟨by rw [(dE t k).2.1]; exact hk, λ q hq => (by cases hq), λ _ => by rw [(dE t k).2.2.1, Ev]⟩
theorem dL (hS : Shape L t) : ∀ {k}, k <= t.m -> Shape (bv L K) (f1K t k)
 | 0, _ => oc hS (ew t)
 | k + 1, h => by
  unfold f1K
  split
  ·exact js (dL hS (by omega)) (DN (by omega)) _
  ·exact dL hS (by omega)
theorem iV (hS : Shape L t) : ∀ {k}, k <= t.m -> Shape L (oe t k) /\ Kin t (oe t k)
 | 0, _ => ⟨hS, Kin.refl t⟩
 | k + 1, h => by
  obtain ⟨h1, h2⟩ := iV hS (k := k) (by omega)
  obtain ⟨h3, h4⟩ := ol h1 (i := k) (by rw [h2.m]; omega)
  exact ⟨h3, h2.trans h4⟩
end
abbrev FiX := Lay × Tab × List Blk
def NZ : FiX -> Prop := λ γ => Lens γ.1 γ.2.2 /\ Shape γ.1 γ.2.1 /\ γ.2.1.cost = [] /\ jq γ.2.1
open Classical in
def jP (L : Lay) (t : Tab) (K : List Blk) : List Blk := if (aD t).2.cost = [] then ao L (aD t).2 K else p9 L t K (aD t).2
def s9 : List AV -> List Blk -> Option (Prop × AV × List Blk) :=
 x8 (λ γ : FiX => [.ptr γ.1.p 1 29 0 0]) (λ γ => ao γ.1 γ.2.1 γ.2.2) NZ (λ γ => .bool (aD γ.2.1).1) (λ γ => jP γ.1 γ.2.1 γ.2.2)
theorem rz {L : Lay} {t : Tab} (hS : Shape L t) (hh : jq t) : (aD t).2.rows.length = t.m /\ (aD t).2.n = t.n /\ (aD t).2.m = t.m := by
 have h1 := dL (K := []) hS (Nat.le_refl t.m)
 have h2 := dE t t.m
 unfold aD
 split
 ·exact ⟨by rw [show (true, f1T t).2 = f1K t t.m from rfl, h1.m, h2.2.1], h2.1, h2.2.1⟩
 ·rename_i hn
  obtain ⟨h3, h4⟩ := fj h1 (hh hn)
  split
  ·exact ⟨h3.m.trans (h4.m.trans h2.2.1), h4.n.trans h2.1, h4.m.trans h2.2.1⟩
  ·split
   ·exact ⟨h3.m.trans (h4.m.trans h2.2.1), h4.n.trans h2.1, h4.m.trans h2.2.1⟩
   ·have hS3 : Shape { L with c := none } { (aO (f1T t)).2 with cost := [] } := ⟨h3.m, h3.r, h3.n1, h3.n12, h3.m24, h3.row, .inl ⟨rfl, rfl⟩, h3.bas, h3.b64⟩
    have hm3 : (aO (f1T t)).2.m = t.m := h4.m.trans h2.2.1
    obtain ⟨h5, h6⟩ := iV hS3 (k := t.m) (by show t.m <= (aO (f1T t)).2.m; omega)
    exact ⟨h5.m.trans (h6.m.trans hm3), h6.n.trans (h4.n.trans h2.1), h6.m.trans hm3⟩
theorem Kq {L : Lay} {t : Tab} {K : List Blk} (hL : Lens L K) (hS : Shape L t) (hc : t.cost = []) (hh : jq t) : s9 [.ptr L.p 1 29 0 0] (ao L t K) = some (True, .bool (aD t).1, jP L t K) := by
 refine oU (a := λ γ : FiX => [.ptr γ.1.p 1 29 0 0]) (h := λ γ : FiX => ao γ.1 γ.2.1 γ.2.2) (pre := NZ) (res := λ γ => .bool (aD γ.2.1).1) (h' := λ γ => jP γ.1 γ.2.1 γ.2.2) ?_ (γ := (L, t, K)) ⟨hL, hS, hc, hh⟩
 rintro ⟨L1, t1, K1⟩ ⟨L2, t2, K2⟩ ⟨h1, s1, c1, hh1⟩ ⟨h2, s2, c2, _⟩ ea eh
 simp only [List.cons.injEq, AV.ptr.injEq, and_true] at ea
 obtain ⟨e1, e2, e3⟩ := x4 h1 h2 s1 s2 ea eh
 simp only at e1 e2
 subst e1 e2
 have el : K1.length = K2.length := by
  have := congrArg List.length eh
  simpa [ai] using this
 have hr := (rz s1 hh1).1
 refine ⟨rfl, ?_⟩
 show jP L1 t1 K1 = jP L1 t1 K2
 unfold jP p9 bv
 rw [el, e3 (aD t1).2 (by rw [hr, s1.r]), e3 { (aD t1).2 with cost := t1.cost } (by show (aD t1).2.rows.length = _; rw [hr, s1.r])]
theorem FJ {args : List AV} {H : List Blk} {ob : Prop} {r : AV} {H' : List Blk} (e : s9 args H = some (ob, r, H')) :
  ∃ L t K, Lens L K /\ Shape L t /\ t.cost = [] /\ jq t /\ args = [.ptr L.p 1 29 0 0] /\ H = ao L t K /\ r = .bool (aD t).1 /\ H' = jP L t K := by
 obtain ⟨⟨L, t, K⟩, ⟨h1, h2, h3, h4⟩, e1, e2, e3, e4⟩ := mc e
 exact ⟨L, t, K, h1, h2, h3, h4, e1.symm, e2.symm, e3.symm, e4.symm⟩
theorem WX (t : Tab) (u : Tab) (h : u.w = t.w) (hb : u.basis = t.basis) (k : Nat) : decide ((u.w : Int) <= ix u.basis k) = io t k := by unfold io; rw [h, hb]
section
variable {L : Lay} {K : List Blk}
theorem Dj : (bv L K).p = L.p := rfl
theorem Ra : (bv L K).r = L.r := rfl
theorem Ce : (bv L K).c = some K.length := rfl
theorem OA : ya (bv L K) none = K.length := rfl
structure GetN (L : Lay) (K B : List Blk) (u : Tab) : Prop where
 p : (ao (bv L K) u B)[L.p]? = some ⟨118, 29, [tC (bv L K) u], true, false⟩
 q : (ao (bv L K) u B)[L.q]? = some ⟨28, 1, L.r.map λ l => [.own l (u.w + 1)], true, false⟩
 c : (ao (bv L K) u B)[K.length]? = some ⟨35, 2, ac u.cost, true, true⟩
 d : ∀ h, (ao (bv L K) u B)[K.length]'h = ⟨35, 2, ac u.cost, true, true⟩
 e0 : ∀ h, (tC (bv L K) u)[0]'h = .int .i64 u.n
 e1 : ∀ h, (tC (bv L K) u)[1]'h = .int .i64 u.m
 e2 : ∀ h, (tC (bv L K) u)[2]'h = .own L.q L.r.length
 e3 : ∀ h, (tC (bv L K) u)[3]'h = .own K.length u.cost.length
 e28 : ∀ h, (tC (bv L K) u)[28]'h = .bool u.over
 n : (tC (bv L K) u).length = 29
 art : ∀ i, i < u.m -> CX [.ptr L.p 1 29 0 0, .int .i64 i] (ao (bv L K) u B) = some (True, .bool (decide ((u.w : Int) <= ix u.basis i)), ao (bv L K) u B)
 clr : ∀ i f, i < u.m -> u.cost.length = u.w + 1 -> kT [.ptr L.p 1 29 0 0, .own K.length (u.w + 1), .agg [.int .i64 f.N, .int .i64 f.D], .own (ix L.r i) (u.w + 1)] (ao (bv L K) u B) = some (True, .tup [], ao (bv L K) (ky u ⟨none, f, i⟩) B)
 ph : u.cost.length = u.w + 1 -> jG u -> nY [.ptr L.p 1 29 0 0] (ao (bv L K) u B) = some (True, .bool (aO u).1, ao (bv L K) (aO u).2 B)
theorem CT {B : List Blk} {u : Tab} (h : Lens (bv L K) B) (s : Shape (bv L K) u) : GetN L K B u where
 p := (fq h s).p0
 q := (fq h s).q0
 c := (fq h s).c0 Ce
 d h := by
  have := (fq ‹Lens (bv L K) B› s).c0 Ce
  rw [getElem?_eq_getElem h] at this
  injection this
 e0 h := j8 h
 e1 h := j3 h
 e2 h := jz h
 e3 h := nL h
 e28 h := jQ s.bas h
 n := b9 s.bas
 art i hi := by
  have := AU h s hi [] (by simp)
  simpa only [append_nil, Dj] using this
 clr i f hi hc := by
  have := og (g := none) (f := f) (i := i) h s ⟨hi, λ q hq => (by cases hq), λ _ => hc⟩ [] (by simp)
  simpa only [append_nil, Dj, Ra, OA] using this
 ph hc hh := by
  have := BY h s hc hh [] (by simp)
  simpa only [append_nil, Dj] using this
end
noncomputable def CFi : Ctx := mkC prog G0 [(100, .gen CX), (99, .gen kW), (101, .gen kT), (102, .gen nY), (103, .gen Mf)]
@[simp] theorem XY : CFi.P = prog := rfl
@[simp] theorem Y4 : CFi.G = G0 := rfl
@[simp] theorem Yz : CFi.S 100 = .gen CX /\ CFi.S 99 = .gen kW /\ CFi.S 101 = .gen kT /\ CFi.S 102 = .gen nY /\ CFi.S 103 = .gen Mf := ⟨rfl, rfl, rfl, rfl, rfl⟩
theorem xO : au CFi := aL (bM (M9) func100 rfl (by decide)) (aL (bM (yO) func99 rfl (by decide)) (aL (bM (xU) func101 rfl (by decide)) (aL (bM (Ey) func102 rfl (by decide)) (aL (bM (Ts) func103 rfl (by decide)) (ak _ _)))))
theorem Lz : jM prog G0 62 s9 := by
 refine bP (C := CFi) xO ae [15] func62 rfl rfl rfl (by kernel_rfl) (λ avs H ob r H' hp hob => ?_)
 obtain ⟨L, t, K, hL, hS, hc, hh, rfl, rfl, rfl, rfl⟩ := FJ hp
 clear hp hob ob
 refine ⟨(by show 1 <= _; decide), ?_⟩
 have G1 := fq hL hS
 have p1 := G1.p
 have n1 := b9 (L := L) hS.bas
 have hLc : L.c = none := hS.cost.elim (λ h => h.1) (λ h => by rw [hc] at h; have := h.2; simp at this)
 have hem := tK hL hS.to0
 have hK1 : fy L t K = K ++ [R2B []] := by unfold fy; rw [hLc]; rfl
 have hset : (ao L t K ++ [R2B (ep t)]).set L.p ⟨118, 29, [List.take 3 (tC L t) ++ AV.own K.length (t.w + 1) :: List.drop 4 (tC L t)], true, false⟩ = ao (bv L K) (f1K t 0) (K ++ [R2B []]) := by
  rw [On (K := K) (ep t) (ew t), <- hK1]
  exact pU (t := t) (u := f1K t 0) hL
 have hL1 : Lens (bv L K) (K ++ [R2B []]) := by rw [<- hK1]; exact ra hL
 have hw := fO hS
 have hr := hS.r
 have hl1 : (K ++ [R2B []]).length = K.length + 1 := by simp
 have hf0 := dE t 0
 have g0 := CT hL1 (dL (K := K) hS (zero_le t.m))
 simp [argsρ, ai, hem, p1, n1, hset, g0.p, g0.n, g0.e2, hr]
 refine aB xO ae [15] (λ k : Nat => ⟨[(0, .ptr L.p 1 29 0 0), (2, .bool false), (3, .bool (fF k (io t))), (15, .own L.q t.m), (16, .int .i64 t.m), (17, .int .i64 k)], ao (bv L K) (f1K t k) (K ++ [R2B []])⟩) (λ k => k <= t.m) (λ k => t.m - k) (by kernel_rfl) ⟨0, by simp, ag (by simp [qY]) rfl⟩ (λ k hk => ?_)
 have hf := dE t k
 have hfw := Ev t k
 have hfs := dL (K := K) hS hk
 have g := CT hL1 hfs
 have h24 := hS.m24
 by_cases hkl : k < t.m
 ·have hkl' : (k : Int) < (t.m : Int) := by omega
  have i2 : I64 ((k : Int) + 1) := by unfold I64; omega
  have hkr : k < L.r.length := by omega
  have gq := g.q
  rw [hfw] at gq
  have ga := g.art k (by rw [hf.2.1]; exact hkl)
  rw [WX t _ hfw hf.2.2.2] at ga
  have ea := mN k (io t)
  have e3 := g.e3
  rw [hf.2.2.1] at e3
  have gc := g.clr k F11 (by rw [hf.2.1]; exact hkl) (by rw [hf.2.2.1, hfw])
  rw [hfw] at gc
  by_cases hA : io t k = true
  ·have es : f1K t (k + 1) = ky (f1K t k) ⟨none, F11, k⟩ := by conv => { lhs; unfold f1K; rw [if_pos hA] }
   rw [<- es] at gc
   rw [hA, Bool.or_true] at ea
   rw [hA] at ga
   simp only [F11] at gc
   have g2 := CT hL1 (dL (K := K) hS (show k + 1 <= t.m by omega))
   simp [ai, hkl, gq, hr, hkr, b8, ga, g.p, g.n, e3, gc, i2]
   exact ⟨k + 1, by omega, by omega, ag (by simp [ea]) rfl⟩
  ·have hA' : io t k = false := by simpa using hA
   have es : f1K t (k + 1) = f1K t k := by conv => { lhs; unfold f1K; rw [if_neg hA] }
   rw [hA', Bool.or_false] at ea
   rw [hA'] at ga
   simp [ai, hkl, gq, hr, hkr, b8, ga, g.p, g.n, e3, gc, i2]
   exact ⟨k + 1, by omega, by omega, ag (by simp [ea]) (by rw [es])⟩
 ·have hke : k = t.m := by omega
  subst hke
  have hUT : f1K t t.m = f1T t := rfl
  obtain ⟨U, hU⟩ : ∃ U, f1T t = U := ⟨_, rfl⟩
  have hF : aD t = if fF t.m (io t) = false ∨ U.over = true then (true, U)
   else if (aO U).2.over = true then (true, (aO U).2)
   else if (ix (aO U).2.cost t.w).N < 0 then (false, (aO U).2)
   else (true, oe { (aO U).2 with cost := [] } t.m) := by rw [<- hU]; rfl
  unfold jq at hh
  rw [hU] at hh
  rw [hUT, hU] at hf hfw hfs g
  rw [hUT, hU]
  have fin : ∀ (V : Tab) (b : Bool), V.cost.length = t.w + 1 -> aD t = (b, V) -> pj K.length (ao (bv L K) V (K ++ [R2B []])) (.bool (aD t).1) (jP L t K) := λ V b hV hb => by
   have : jP L t K = ao (bv L K) V (K ++ [R2B []]) := by
    unfold jP
    rw [hb, if_neg (λ h => by rw [show (b, V).2.cost = V.cost from rfl] at h; rw [h] at hV; simp at hV), pU hL, hK1]
   rw [this]
   exact ⟨K.length + 1, by omega, by rw [<- hl1, <- ai (bv L K) V, take_length], by simp [AV.cleanF, AV.clean2, AV.clean1], by rw [<- hl1]; exact gg hL1 V⟩
  by_cases hA : fF t.m (io t) = false
  ·have hF : aD t = (true, U) := by rw [hF, if_pos (.inl hA)]
   simp [ai, hA]
   rw [hF] at fin ⊢
   exact ⟨rfl, fin U true hf.2.2.1 rfl⟩
  have hA' : fF t.m (io t) = true := by simpa using hA
  by_cases hO : U.over = true
  ·have hF : aD t = (true, U) := by rw [hF, if_pos (.inr hO)]
   have e28 := g.e28
   rw [hO] at e28
   simp [ai, hA', g.p, g.n, e28]
   rw [hF] at fin ⊢
   exact ⟨rfl, fin U true hf.2.2.1 rfl⟩
  have hn : ¬ (fF t.m (io t) = false ∨ U.over = true) := λ h => h.elim hA hO
  rw [if_neg hn] at hF
  have hO' : U.over = false := by simpa using hO
  have hH := hh hn
  obtain ⟨hVs, hVk⟩ := fj hfs hH
  have gph := g.ph (by rw [hf.2.2.1, hfw]) hH
  obtain ⟨V, hV⟩ : ∃ V, (aO U).2 = V := ⟨_, rfl⟩
  rw [hV] at hF hVs hVk gph
  have hVw : V.w = t.w := hVk.w.trans hfw
  have hVc : V.cost.length = t.w + 1 := hVk.cost.trans hf.2.2.1
  have gv := CT hL1 hVs
  have e28 := g.e28
  rw [hO'] at e28
  have f28 := gv.e28
  by_cases hVO : V.over = true
  ·rw [if_pos hVO] at hF
   rw [hVO] at f28
   simp [ai, hA', g.p, g.n, e28, gph, gv.p, gv.n, f28]
   rw [hF] at fin ⊢
   exact ⟨rfl, fin V true hVc rfl⟩
  have hVO' : V.over = false := by simpa using hVO
  rw [if_neg hVO] at hF
  rw [hVO'] at f28
  simp [ai, hA', g.p, g.n, e28, gph, gv.p, gv.n, f28]
  refine aA xO ae [.pure, .pure, .pure, .read, .pure, .pure, .pure, .read, .pure, .pure, .pure, .read, .pure, .pure, .pure, .read, .pure] [[],[0],[0,1],[1,0,2],[],[4],[4,5],[5,4,6],[],[8],[8,9],[9,8,10],[10,8,9,11,6,4,5,7],[7,5,4,6,11,9,8,10,12,2,0,1,3],[3,1,0,2,12,10,8,9,11,6,4,5,7,13],[13,7,5,4,6,11,9,8,10,12,2,0,1,3,14],[14,3,1,0,2,12,10,8,9,11,6,4,5,7,13,15]] (by kernel_rfl) (by kernel_rfl) (by kernel_rfl) (by kernel_rfl) ?_
  have f3 := gv.e3
  rw [hVc] at f3
  have hsw := mK hVs
  rw [hVw] at hsw
  have htw : t.w < t.w + 1 := by omega
  by_cases hN : (ix V.cost t.w).N < 0
  ·rw [if_pos hN] at hF
   simp [ai, gv.p, gv.n, f3, gv.e0, gv.e1, hsw, gv.d, hVc, htw, aa, hN]
   rw [hF] at fin ⊢
   exact ⟨by omega, rfl, fin V false hVc rfl⟩
  rw [if_neg hN] at hF
  have hold := Ko (u := V) hL hLc
  have hts := Un (L := L) (t := V) hLc K
  have hSW : Shape L { V with cost := [] } := ⟨hVs.m, hVs.r, hVs.n1, hVs.n12, hVs.m24, hVs.row, .inl ⟨hLc, rfl⟩, hVs.bas, hVs.b64⟩
  have hWm : ({ V with cost := [] } : Tab).m = t.m := hVk.m.trans hf.2.1
  obtain ⟨W, hW⟩ : ∃ W, ({ V with cost := [] } : Tab) = W := ⟨_, rfl⟩
  have hWc : W.cost = [] := by rw [<- hW]
  rw [hW] at hold hts hSW hWm hF
  have gw := fq hL hSW
  have pw := gw.p
  have nw := b9 (L := L) hSW.bas
  simp [ai, gv.p, gv.n, f3, gv.e0, gv.e1, hsw, gv.d, hVc, htw, aa, hN, hts, hold, pw, nw, jz, hr]
  refine ⟨by omega, ?_⟩
  refine aB xO ae [15] (λ k : Nat => ⟨[(0, .ptr L.p 1 29 0 0), (72, .int .i64 t.m), (73, .int .i64 k)], ao L (oe W k) K ++ [R2B V.cost]⟩) (λ k => k <= t.m) (λ k => t.m - k) (by kernel_rfl) ⟨0, by simp, ag (by simp) rfl⟩ (λ k hk => ?_)
  obtain ⟨hRs, hRk⟩ := iV hSW (k := k) (by omega)
  by_cases hkl : k < t.m
  ·have hkl' : (k : Int) < (t.m : Int) := by omega
   have i2 : I64 ((k : Int) + 1) := by unfold I64; omega
   have hcall := Ja hL hRs (i := k) (by rw [hRk.m]; omega) [R2B V.cost] (by simp [R2B])
   rw [show jR (oe W k) k = oe W (k + 1) from rfl] at hcall
   simp [ai, hkl, hcall, i2]
   exact ⟨k + 1, by omega, by omega, ag (by simp) rfl⟩
  ·have hke : k = t.m := by omega
   subst hke
   have hRc : (oe W t.m).cost = [] := List.length_eq_zero_iff.1 (by rw [hRk.cost, hWc]; rfl)
   have : jP L t K = ao L (oe W t.m) K := by
    unfold jP
    rw [hF, if_pos hRc]
   simp [ai, this, hF]
   exact fi hL (by simp [AV.cleanF, AV.clean2, AV.clean1])
def xY (t : Tab) (cs : List Fr) : List Fr := cs ++ (ep t).drop cs.length
def BZ (t : Tab) (cs : List Fr) (k : Nat) : Prop := ix t.basis k < t.n /\ (ix cs (ix t.basis k).toNat).N ≠ 0
instance (t : Tab) (cs : List Fr) (k : Nat) : Decidable (BZ t cs k) := inferInstanceAs (Decidable (_ /\ _))
def s1K (t : Tab) (cs : List Fr) : Nat -> Tab
 | 0 => { t with cost := xY t cs }
 | k + 1 => if BZ t cs k then ky (s1K t cs k) ⟨none, ix cs (ix t.basis k).toNat, k⟩ else s1K t cs k
def s1T (t : Tab) (cs : List Fr) : Tab := s1K t cs t.m
def aG (t : Tab) (cs : List Fr) : Bool × Tab := if (s1T t cs).over = true then (true, s1T t cs) else aO (s1T t cs)
def kX (t : Tab) (cs : List Fr) : Prop := ¬ (s1T t cs).over = true -> jG (s1T t cs)
section
variable {L : Lay} {t : Tab} {K : List Blk} {cs : List Fr}
theorem sR (h : cs.length = t.n) : (xY t cs).length = t.w + 1 := by
 unfold xY
 rw [length_append, List.length_drop, ew, h]
 unfold Tab.w
 omega
theorem eI (h : cs.length = t.n) : ∀ k, (s1K t cs k).n = t.n /\ (s1K t cs k).m = t.m /\ (s1K t cs k).cost.length = t.w + 1 /\ (s1K t cs k).basis = t.basis
 | 0 => ⟨rfl, rfl, sR h, rfl⟩
 | k + 1 => by
  obtain ⟨h1, h2, h3, h4⟩ := eI h k
  unfold s1K
  split
  ·exact ⟨(xz _ _).trans h1, (xw _ _).trans h2, (nf _ _).trans h3, (pR _ _).trans h4⟩
  ·exact ⟨h1, h2, h3, h4⟩
theorem zy (h : cs.length = t.n) (k : Nat) : (s1K t cs k).w = t.w := by unfold Tab.w; rw [(eI h k).1, (eI h k).2.1]
theorem fQ (hS : Shape L t) (h : cs.length = t.n) : ∀ {k}, k <= t.m -> Shape (bv L K) (s1K t cs k)
 | 0, _ => oc hS (sR h)
 | k + 1, hk => by
  unfold s1K
  split
  ·refine js (fQ hS h (by omega)) ⟨by rw [(eI h k).2.1]; exact hk, λ q hq => (by cases hq), λ _ => ?_⟩ _
   rw [(eI h k).2.2.1, zy h]
  ·exact fQ hS h (by omega)
theorem lm (hS : Shape L t) (h : cs.length = t.n) (hh : kX t cs) : Shape (bv L K) (aG t cs).2 /\ (aG t cs).2.rows.length = t.m /\ (aG t cs).2.n = t.n /\ (aG t cs).2.m = t.m /\ (aG t cs).2.cost.length = t.w + 1 := by
 have h1 := fQ (K := K) hS h (Nat.le_refl t.m)
 obtain ⟨h2, h3, h4, h5⟩ := eI h t.m
 unfold aG
 split
 ·exact ⟨h1, by rw [show (true, s1T t cs).2 = s1K t cs t.m from rfl, h1.m, h3], h2, h3, h4⟩
 ·rename_i hn
  obtain ⟨h6, h7⟩ := fj h1 (hh hn)
  exact ⟨h6, h6.m.trans (h7.m.trans h3), h7.n.trans h2, h7.m.trans h3, h7.cost.trans h4⟩
end
abbrev SeX := Lay × Tab × List Blk × List Fr
def Ow : SeX -> Prop := λ γ => Lens γ.1 γ.2.2.1 /\ Shape γ.1 γ.2.1 /\ γ.2.2.2.length = γ.2.1.n /\ kX γ.2.1 γ.2.2.2
def mH : List AV -> List Blk -> Option (Prop × AV × List Blk) :=
 x8 (λ γ : SeX => [.ptr γ.1.p 1 29 0 0, Enc.enc γ.2.2.2]) (λ γ => ao γ.1 γ.2.1 γ.2.2.1) Ow (λ γ => .bool (aG γ.2.1 γ.2.2.2).1) (λ γ => p9 γ.1 γ.2.1 γ.2.2.1 (aG γ.2.1 γ.2.2.2).2)
theorem HL {L : Lay} {t : Tab} {K : List Blk} {cs : List Fr} (hL : Lens L K) (hS : Shape L t) (hc : cs.length = t.n) (hh : kX t cs) : mH [.ptr L.p 1 29 0 0, Enc.enc cs] (ao L t K) = some (True, .bool (aG t cs).1, p9 L t K (aG t cs).2) := by
 refine oU (a := λ γ : SeX => [.ptr γ.1.p 1 29 0 0, Enc.enc γ.2.2.2]) (h := λ γ : SeX => ao γ.1 γ.2.1 γ.2.2.1) (pre := Ow) (res := λ γ => .bool (aG γ.2.1 γ.2.2.2).1) (h' := λ γ => p9 γ.1 γ.2.1 γ.2.2.1 (aG γ.2.1 γ.2.2.2).2) ?_ (γ := (L, t, K, cs)) ⟨hL, hS, hc, hh⟩
 rintro ⟨L1, t1, K1, c1⟩ ⟨L2, t2, K2, c2⟩ ⟨h1, s1, n1, hh1⟩ ⟨h2, s2, n2, _⟩ ea eh
 simp only [List.cons.injEq, AV.ptr.injEq, and_true] at ea
 obtain ⟨e1, e2, e3⟩ := x4 h1 h2 s1 s2 ea.1 eh
 simp only at e1 e2
 subst e1 e2
 have ec : c1 = c2 := by
  have := congrArg (Enc.dec : AV -> List Fr) ea.2
  simpa [Enc.dec_enc] using this
 subst ec
 have el : K1.length = K2.length := by
  have := congrArg List.length eh
  simpa [ai] using this
 have hr := (lm (K := K1) s1 n1 hh1).2.1
 refine ⟨rfl, ?_⟩
 show p9 L1 t1 K1 _ = p9 L1 t1 K2 _
 unfold p9 bv
 rw [el, e3 { (aG t1 c1).2 with cost := t1.cost } (by show (aG t1 c1).2.rows.length = _; rw [hr, s1.r])]
theorem DL {args : List AV} {H : List Blk} {ob : Prop} {r : AV} {H' : List Blk} (e : mH args H = some (ob, r, H')) :
  ∃ L t K cs, Lens L K /\ Shape L t /\ cs.length = t.n /\ kX t cs /\ args = [.ptr L.p 1 29 0 0, Enc.enc cs] /\ H = ao L t K /\ r = .bool (aG t cs).1 /\ H' = p9 L t K (aG t cs).2 := by
 obtain ⟨⟨L, t, K, cs⟩, ⟨h1, h2, h3, h4⟩, e1, e2, e3, e4⟩ := mc e
 exact ⟨L, t, K, cs, h1, h2, h3, h4, e1.symm, e2.symm, e3.symm, e4.symm⟩
noncomputable def CSe : Ctx := mkC prog G0 [(99, .gen kW), (101, .gen kT), (102, .gen nY)]
@[simp] theorem Xl : CSe.P = prog := rfl
@[simp] theorem Zu : CSe.G = G0 := rfl
@[simp] theorem XV : CSe.S 99 = .gen kW /\ CSe.S 101 = .gen kT /\ CSe.S 102 = .gen nY := ⟨rfl, rfl, rfl⟩
theorem xo : au CSe := aL (bM (yO) func99 rfl (by decide)) (aL (bM (xU) func101 rfl (by decide)) (aL (bM (Ey) func102 rfl (by decide)) (ak _ _)))
theorem Ic : jM prog G0 63 mH := by
 refine bP (C := CSe) xo ae [2, 8] func63 rfl rfl rfl (by kernel_rfl) (λ avs H ob r H' hp hob => ?_)
 obtain ⟨L, t, K, cs, hL, hS, hcs, hh, rfl, rfl, rfl, rfl⟩ := DL hp
 clear hp hob ob
 refine ⟨(by show 2 <= _; decide), ?_⟩
 have G1 := fq hL hS
 have p1 := G1.p
 have n1 := b9 (L := L) hS.bas
 have hem := tK hL hS.to0
 have hset : (ao L t K ++ [R2B (ep t)]).set L.p ⟨118, 29, [List.take 3 (tC L t) ++ AV.own K.length (t.w + 1) :: List.drop 4 (tC L t)], true, false⟩ = ao (bv L K) { t with cost := ep t } (fy L t K) := by
  rw [On (K := K) (ep t) (ew t)]
  exact pU (t := t) (u := { t with cost := ep t }) hL
 have hL1 : Lens (bv L K) (fy L t K) := ra hL
 have hw := fO hS
 have hr := hS.r
 have hn1 := hS.n1
 have hl1 : (fy L t K).length = K.length + 1 := gb
 have hSE : Shape (bv L K) { t with cost := ep t } := oc hS (ew t)
 have ge := CT hL1 hSE
 have ged : ∀ h, (ao (bv L K) { t with cost := ep t } (fy L t K))[K.length]'h = ⟨35, 2, ac (ep t), true, true⟩ := ge.d
 have ge3 : ∀ h, (tC (bv L K) { t with cost := ep t })[3]'h = .own K.length (t.w + 1) := λ h => by rw [ge.e3 h]; show AV.own _ (ep t).length = _; rw [ew]
 simp [argsρ, ai, hem, p1, n1, hset]
 refine nW xo (by kernel_rfl) ?_
 have hs2 : (ao (bv L K) { t with cost := ep t } (fy L t K)).set K.length ⟨35, 2, ac (cs ++ List.drop cs.length (ep t)), true, true⟩ = ao (bv L K) (s1K t cs 0) (fy L t K) :=
  vt hL1 Ce (xY t cs) (by show _ = (ep t).length; rw [ew, sR hcs])
 have hS0 := fQ (K := K) hS hcs (zero_le t.m)
 have g0 := CT hL1 hS0
 have hwt : t.n <= t.w := by unfold Tab.w; omega
 simp [tN, ge.p, ge.n, ge3, ge.c, ge.d, hl1, ai, hs2, g0.p, g0.n, g0.e2, hr]
 refine ⟨⟨ew t, by omega, by omega⟩, ?_⟩
 refine aB xo ae [2, 8] (λ k : Nat => ⟨[(0, .ptr L.p 1 29 0 0), (1, Enc.enc cs), (4, .bool false), (22, .own L.q t.m), (23, .int .i64 t.m), (24, .int .i64 k)], ao (bv L K) (s1K t cs k) (fy L t K)⟩) (λ k => k <= t.m) (λ k => t.m - k) (by kernel_rfl) ⟨0, by simp, ag (by simp) rfl⟩ (λ k hk => ?_)
 have hf := eI hcs k
 have hfw := zy hcs k
 have hfs := fQ (K := K) hS hcs hk
 have g := CT hL1 hfs
 have h24 := hS.m24
 by_cases hkl : k < t.m
 ·have hkl' : (k : Int) < (t.m : Int) := by omega
  have i2 : I64 ((k : Int) + 1) := by unfold I64; omega
  have hkr : k < L.r.length := by omega
  have hk24 : k < 24 := by omega
  have gq := g.q
  rw [hfw] at gq
  have hbk := Kx (L := bv L K) hfs.bas hk24
  rw [hf.2.2.2] at hbk
  have e0 := g.e0
  rw [hf.1] at e0
  have hb64 : 0 <= ix t.basis k := by
   have := hS.bas
   exact (hS.b64 _ (aq (by omega))).1
  obtain ⟨bn, hbn⟩ : ∃ bn : Nat, ix t.basis k = bn := ⟨(ix t.basis k).toNat, by omega⟩
  have hu : BZ t cs k ↔ (bn < t.n /\ (ix cs bn).N ≠ 0) := by unfold BZ; rw [hbn, toNat_natCast]; omega
  rw [hbn] at hbk
  by_cases hbl : bn < t.n
  case neg =>
   have es : s1K t cs (k + 1) = s1K t cs k := by conv => { lhs; unfold s1K; rw [if_neg (λ h => hbl (hu.1 h).1)] }
   simp [ai, hkl, gq, hr, hkr, b8, g.p, g.n, hbk, hk24, e0, hbl, i2]
   exact ⟨by omega, by omega, k + 1, by omega, by omega, ag (by simp) (by rw [es])⟩
  by_cases hN : (ix cs bn).N = 0
  ·have es : s1K t cs (k + 1) = s1K t cs k := by conv => { lhs; unfold s1K; rw [if_neg (λ h => (hu.1 h).2 hN)] }
   simp [ai, hkl, gq, hr, hkr, b8, g.p, g.n, hbk, hk24, e0, hbl, hcs, aa, hN, i2]
   exact ⟨by omega, by omega, k + 1, by omega, by omega, ag (by simp) (by rw [es])⟩
  have es : s1K t cs (k + 1) = ky (s1K t cs k) ⟨none, ix cs bn, k⟩ := by
   conv => { lhs; unfold s1K; rw [if_pos (hu.2 ⟨hbl, hN⟩)] }
   rw [hbn, toNat_natCast]
  have gc := g.clr k (ix cs bn) (by rw [hf.2.1]; exact hkl) (by rw [hf.2.2.1, hfw])
  rw [hfw, <- es] at gc
  have e3 := g.e3
  rw [hf.2.2.1] at e3
  simp [ai, hkl, gq, hr, hkr, b8, g.p, g.n, hbk, hk24, e0, hbl, hcs, aa, hN, i2]
  refine ⟨by omega, by omega, ?_⟩
  refine aA xo ae [.pure, .pure, .pure, .pure, .read, .pure, .pure, .pure, .read, .pure, .eff] [[],[],[1],[1,2],[2,1,3],[],[],[6,5],[5,6,7],[],[9,7,6,5,8,3,1,2,4,0]] (by kernel_rfl) (by kernel_rfl) (by kernel_rfl) (by kernel_rfl) ?_
  simp [ai, g.p, g.n, e3, hbl, hcs, aa, gc, i2]
  exact ⟨k + 1, by omega, by omega, ag (by simp) rfl⟩
 ·have hke : k = t.m := by omega
  subst hke
  have hUT : s1K t cs t.m = s1T t cs := rfl
  obtain ⟨U, hU⟩ : ∃ U, s1T t cs = U := ⟨_, rfl⟩
  have hF : aG t cs = if U.over = true then (true, U) else aO U := by rw [<- hU]; rfl
  unfold kX at hh
  rw [hU] at hh
  rw [hUT, hU] at hf hfw hfs g
  rw [hUT, hU]
  have fin : ∀ (V : Tab) (b : Bool), aG t cs = (b, V) -> pj K.length (ao (bv L K) V (fy L t K)) (.bool (aG t cs).1) (p9 L t K (aG t cs).2) := λ V b hb => by
   rw [hb, pU hL]
   exact ⟨K.length + 1, by omega, by rw [<- hl1, <- ai (bv L K) V, take_length], by simp [AV.cleanF, AV.clean2, AV.clean1], by rw [<- hl1]; exact gg hL1 V⟩
  have e28 := g.e28
  by_cases hO : U.over = true
  ·rw [if_pos hO] at hF
   rw [hO] at e28
   simp [ai, g.p, g.n, e28]
   rw [hF] at fin ⊢
   exact ⟨rfl, fin U true rfl⟩
  have hO' : U.over = false := by simpa using hO
  rw [if_neg hO] at hF
  rw [hO'] at e28
  have gph := g.ph (by rw [hf.2.2.1, hfw]) (hh hO)
  simp [ai, g.p, g.n, e28, gph, hF]
  rw [hF] at fin
  exact fin (aO U).2 (aO U).1 rfl
section
variable {C : Ctx} {N h0 : Nat}
theorem Hr {ρ : List (Nat × AV)} {H : List Blk} (l : Nat) {b : Blk} (hb : H[l]? = some b) : Weak C N h0 ⟨ρ, H⟩ ⟨ρ, H.set l { b with deep := false }⟩ := by
 intro X w0 β0 H0 a w hl hrel
 obtain ⟨β, R, S0, Tr, G, hN, hdef⟩ := hrel
 have hlt := (List.getElem?_eq_some_iff.1 hb).1
 obtain ⟨bi, hbi⟩ : ∃ bi, β[l]? = some bi := by
  refine ⟨β[l]'(by have h2 : β.length = H.length := R.len; omega), getElem?_eq_getElem _⟩
 have S2 := ed R hb hbi bi { b with deep := false } rfl rfl (by simp) (λ _ => rfl) id (λ bk c e => .inr ⟨c, e⟩) (Keeps.refl _ w)
 have R2 := eG R hb hbi bi { b with deep := false } S2 (λ _ _ _ _ _ => rfl) (by
  have hB := R.blk l bi b hbi hb
  cases bi with
  | nil => exact hB
  | lies bk cap =>
   obtain ⟨cur, k1, k2, k3, k4, k5, k6, k7⟩ := hB
   refine ⟨cur, k1, k2, k3, k4, k5, k6, λ i' j' r' av hr' hj' => ?_⟩
   obtain ⟨v, q1, q2, q3, q4⟩ := k7 i' j' r' av hr' hj'
   exact ⟨v, q1, q2, q3.keep S2, λ h => by cases h⟩)
  (λ bk c e => by subst e; exact R.lt l bk c hbi) (λ bk c l' c' e hne h => by subst e; exact hne (R.inj l' l bk c' c h hbi))
 exact ⟨_, R2, S0.trans S2, λ k => (Tr k).keep S2, λ g => (G g).keep (λ b hb hn => S2.keeps.block b hb (λ hm => hn (.inr hm))) S2.keeps.size (λ b hb => S2.mu b hb), hN, hdef⟩
end
def fo (l : Lin) (i : Nat) : Bool := decide (0 < (ix l.B i).N)
def uT (l : Lin) (i : Nat) (a : Fr) : Fr := if fo l i then a else gh a
def rV (l : Lin) (i : Nat) : List Fr :=
 let n := l.C.length
 let w := l.C.length + l.A.length
 let r := ((dM n (λ c => uT l i (ix (ix l.A i) c)) (List.replicate (w + 1) F01)).set (n + i) F11).set w (gh (ix l.B i))
 if fo l i then (r.set (n + i) ⟨-1, 1⟩).set w (ix l.B i) else r
def xR (l : Lin) : Nat -> List Int
 | 0 => List.replicate 24 0
 | i + 1 => (xR l i).set i (if fo l i then (l.C.length : Int) + l.A.length + i else (l.C.length : Int) + i)
def d9 (l : Lin) (i : Nat) : Tab := ⟨l.C.length, l.A.length, (List.range i).map (rV l), [], xR l i, false⟩
def dS (h : Nat) (l : Lin) (i : Nat) : Lay := ⟨h + 1, h + 2, none, (List.range i).map λ j => h + 3 + j * (l.C.length + 1)⟩
def FBs (l : List Fr) : List Blk := l.map FB
def d7 (l : Lin) : Nat -> List Blk
 | 0 => [CB l, R2B [], R2B []]
 | i + 1 => d7 l i ++ (R2B [] :: FBs (ix l.A i))
structure Good (l : Lin) : Prop where
 n1 : 1 <= l.C.length
 n12 : l.C.length <= 12
 m24 : l.A.length <= 24
 b : l.B.length = l.A.length
 row : ∀ r ∈ l.A, r.length = l.C.length
section
variable {l : Lin}
theorem JZ (i : Nat) : (rV l i).length = l.C.length + l.A.length + 1 := by
 unfold rV
 simp only
 split
 ·rw [length_set, length_set, length_set, length_set, aP, length_replicate]
 ·rw [length_set, length_set, aP, length_replicate]
theorem tG : ∀ i, (xR l i).length = 24
 | 0 => length_replicate
 | i + 1 => by unfold xR; rw [length_set]; exact tG i
theorem EA (g : Good l) : ∀ {i}, i <= l.A.length -> ∀ b ∈ xR l i, 0 <= b /\ b <= 1000
 | 0, _, b, hb => by rw [(List.mem_replicate.1 hb).2]; omega
 | i + 1, h, b, hb => by
  rcases List.mem_or_eq_of_mem_set hb with hb | hb
  ·exact EA g (by omega) b hb
  ·have := g.n12
   have := g.m24
   rw [hb]
   split <;> omega
theorem kB (g : Good l) : ∀ {i}, i <= l.A.length -> (d7 l i).length = 3 + i * (l.C.length + 1)
 | 0, _ => by simp [d7]
 | i + 1, h => by
  have hr := g.row _ (aq (show i < l.A.length by omega))
  unfold d7
  rw [length_append, kB g (by omega)]
  simp only [FBs, length_cons, length_map, hr]
  rw [add_mul]
  omega
theorem vG : ∀ i, ∀ b ∈ d7 l i, b.deep = true
 | 0, b, hb => by
  simp only [d7, mem_cons, List.not_mem_nil, or_false] at hb
  rcases hb with rfl | rfl | rfl <;> rfl
 | i + 1, b, hb => by
  unfold d7 at hb
  rcases mem_append.1 hb with hb | hb
  ·exact vG i b hb
  ·rcases mem_cons.1 hb with rfl | hb
   ·rfl
   ·unfold FBs at hb
    obtain ⟨f, _, rfl⟩ := mem_map.1 hb
    rfl
def uG (H : List Blk) : Prop := ∀ b ∈ H, b.deep = true ∨ ∀ r ∈ b.rows, ∀ c ∈ r, c.cleanF H.length = true
theorem ru {j i c : Nat} (h : j < i) : j * c + c <= i * c := by
 have : (j + 1) * c <= i * c := Nat.mul_le_mul_right c h
 rw [add_mul, Nat.one_mul] at this
 exact this
theorem m9 (g : Good l) {H : List Blk} (hH : uG H) {i : Nat} (hi : i <= l.A.length) : Lens (dS H.length l i) (H ++ d7 l i) := by
 have hg := kB g hi
 have hlen : (H ++ d7 l i).length = H.length + 3 + i * (l.C.length + 1) := by rw [length_append, hg]; omega
 have hmem : ∀ x, x ∈ (dS H.length l i).r -> ∃ j, j < i /\ x = H.length + 3 + j * (l.C.length + 1) := λ x hx => by
  obtain ⟨j, hj, rfl⟩ := mem_map.1 hx
  exact ⟨j, List.mem_range.1 hj, rfl⟩
 refine ⟨by rw [hlen]; show H.length + 1 < _; omega, by rw [hlen]; show H.length + 2 < _; omega, λ c hc => (by cases hc), λ x hx => ?_, (by show H.length + 1 ≠ H.length + 2; omega), (by intro h; cases h), (by intro h; cases h), λ hx => ?_, λ hx => ?_, λ c hc => (by cases hc), ?_, λ b hb => ?_⟩
 ·obtain ⟨j, hj, rfl⟩ := hmem x hx
  have := ru (c := l.C.length + 1) hj
  rw [hlen]
  omega
 ·obtain ⟨j, hj, e⟩ := hmem _ hx
  have e : H.length + 1 = _ := e
  omega
 ·obtain ⟨j, hj, e⟩ := hmem _ hx
  have e : H.length + 2 = _ := e
  omega
 ·show ((List.range i).map _).Nodup
  refine List.Pairwise.map _ ?_ List.pairwise_lt_range
  intro a b hab
  have := ru (c := l.C.length + 1) hab
  omega
 ·rcases mem_append.1 hb with hb | hb
  ·exact (hH b hb).imp id λ h1 r hr c hc => jJ (by rw [length_append]; omega) (h1 r hr c hc)
  ·exact .inl (vG i b hb)
theorem oj (g : Good l) (h : Nat) {i : Nat} (hi : i <= l.A.length) : Shape0 (dS h l i) (d9 l i) := by
 refine ⟨by simp [d9, dS], by simp [d9, dS, hi], g.n1, g.n12, g.m24, λ r hr => ?_, .inl ⟨rfl, rfl⟩, tG i, EA g hi⟩
 obtain ⟨j, hj, rfl⟩ := mem_map.1 hr
 exact JZ j
end
theorem vZ : ∀ {ls : List Nat} {rs : List (List Fr)} {x : Nat} {r : List Fr} {H : List Blk}, ls.length = rs.length -> cF (ls ++ [x]) (rs ++ [r]) H = cF ls rs (H.set x (R2B r))
 | [], [], _, _, _, _ => rfl
 | [], _ :: _, _, _, _, h => by simp at h
 | _ :: _, [], _, _, _, h => by simp at h
 | l :: ls, r :: rs, x, r', H, h => by
  rw [cons_append, cons_append, cF, cF, vZ (by simpa using h)]
def BW (L : Lay) (k : Nat) : Lay := { L with r := L.r ++ [k] }
theorem Fi {L : Lay} {t t' : Tab} {K X : List Blk} {x : List Fr} (hL : Lens L K) (hc : L.c = none) (hm : L.r.length = t.rows.length) (hr : t'.rows = t.rows ++ [x]) (hw : t'.w = t.w) :
  ((ao L t K ++ (R2B x :: X)).set L.q ⟨28, 1, (L.r.map λ l => [.own l (t.w + 1)]) ++ [[.own K.length (t.w + 1)]], true, false⟩).set L.p ⟨118, 29, [tC (BW L K.length) t'], true, false⟩ = ao (BW L K.length) t' (K ++ (R2B [] :: X)) := by
 have hp := hL.p
 have hq := hL.q
 unfold ao BW
 simp only
 rw [hr, vZ hm, hc, hw]
 simp only [lJ]
 rw [set_append_left _ _ (by rw [gP, length_set, length_set]; exact hq), set_append_left _ _ (by rw [length_set, gP, length_set, length_set]; exact hp)]
 rw [<- cL hL.qr, <- cL hL.pr, set_set, set_comm _ _ hL.pq.symm, set_set]
 rw [set_append_left _ _ hp, set_append_left _ _ (by rw [length_set]; exact hq)]
 rw [List.set_append_right _ _ (by rw [length_set, length_set]; exact Nat.le_refl _), length_set, length_set, sub_self]
 rw [mr (λ l hl => by rw [length_set, length_set]; exact hL.r l hl)]
 congr 2
 unfold qB tB
 simp
theorem D4 {L : Lay} {t : Tab} {K : List Blk} {k : Nat} (hp : k ≠ L.p) (hq : k ≠ L.q) (hc : L.c ≠ some k) (hr : k ∉ L.r) : (ao L t K)[k]? = K[k]? := by
 unfold ao
 rw [mF hr, pb hc, getElem?_set_ne hq.symm, getElem?_set_ne hp.symm]
theorem wQ (l : Lin) : ∀ i, ∃ X, d7 l i = CB l :: X
 | 0 => ⟨_, rfl⟩
 | i + 1 => by
  obtain ⟨X, hX⟩ := wQ l i
  exact ⟨X ++ (R2B [] :: FBs (ix l.A i)), by unfold d7; rw [hX]; rfl⟩
theorem JG {l : Lin} {H : List Blk} (i : Nat) (t : Tab) (X : List Blk) : (ao (dS H.length l i) t (H ++ d7 l i) ++ X)[H.length]? = some (CB l) := by
 obtain ⟨Y, hY⟩ := wQ l i
 rw [getElem?_append_left (by rw [ai, length_append, hY]; simp), D4 (by show H.length ≠ H.length + 1; omega) (by show H.length ≠ H.length + 2; omega) (by intro h; cases h) (λ h => by
  obtain ⟨j, hj, e⟩ := mem_map.1 h
  omega), hY]
 simp
theorem Dn {l : Lin} {H : List Blk} : H ++ [CB l, ⟨118, 29, [tC (dS H.length l 0) (d9 l 0)], true, false⟩, ⟨28, 1, [], true, false⟩] = ao (dS H.length l 0) (d9 l 0) (H ++ d7 l 0) := by
 unfold ao dS d7
 simp [lJ, cF, qB, tB, d9, dS]
theorem F1 {l : Lin} (g : Good l) (H : List Blk) {i : Nat} (hi : i <= l.A.length) : dS H.length l (i + 1) = BW (dS H.length l i) (H ++ d7 l i).length := by
 unfold dS BW
 rw [length_append, kB g hi, List.range_succ, map_append]
 simp only [List.map_cons, List.map_nil]
 rw [show H.length + (3 + i * (l.C.length + 1)) = H.length + 3 + i * (l.C.length + 1) by omega]
theorem N8 {L : Lay} {t t2 : Tab} {k N : Nat} (hn : t2.n = t.n) (hm : t2.m = t.m) (hc : t2.cost = t.cost) (hb : t2.basis = t.basis) (ho : t2.over = t.over) (hk : L.r.length + 1 = k) : List.take 2 (tC L t) ++ AV.own L.q k :: List.drop 3 (tC L t) = tC (BW L N) t2 := by
 unfold tC BW
 simp [hn, hm, hc, hb, ho, hk]
theorem zG {C : Ctx} {N h0 : Nat} {ρ ρ' : List (Nat × AV)} {Hh P T : List Blk} (hT : Hh = P ++ T) (h : ∀ p ∈ ρ', aZ ρ p.1 = p.2) (hm : h0 <= P.length) (hρ : ∀ p ∈ ρ', p.2.cleanF P.length = true) (hP : ∀ b ∈ P, b.deep = true ∨ ∀ r ∈ b.rows, ∀ c ∈ r, c.cleanF P.length = true) : Weak C N h0 ⟨ρ, Hh⟩ ⟨ρ', P⟩ := by
 subst hT
 exact Cy P.length h hm hρ (by rw [List.take_left]; exact hP) List.take_left
def inR (l : Lin) (i k : Nat) : List Fr := dM k (λ c => uT l i (ix (ix l.A i) c)) (List.replicate (l.C.length + l.A.length + 1) F01)
theorem Mz (l : Lin) (i k : Nat) : (inR l i k).length = l.C.length + l.A.length + 1 := by unfold inR; rw [aP, length_replicate]
theorem I2 {l : Lin} {i k : Nat} (hk : k < l.C.length + l.A.length + 1) {v : Fr} (hv : v = uT l i (ix (ix l.A i) k)) : (inR l i k).set k v = inR l i (k + 1) := by
 unfold inR
 exact lH (g := λ c => uT l i (ix (ix l.A i) c)) hv (by rw [length_replicate]; exact hk)
abbrev BeX := Lin × List Blk
def NH : BeX -> Prop := λ γ => Good γ.1 /\ uG γ.2
def Kh (l : Lin) (H : List Blk) : List Blk := ao (dS H.length l l.A.length) (d9 l l.A.length) (H ++ d7 l l.A.length)
def rc : List AV -> List Blk -> Option (Prop × AV × List Blk) :=
 x8 (λ γ : BeX => [Enc.enc γ.1]) (λ γ => γ.2) NH (λ γ => .ptr (γ.2.length + 1) 1 29 0 0) (λ γ => Kh γ.1 γ.2)
theorem J4 {l : Lin} {H : List Blk} (g : Good l) (hH : uG H) : rc [Enc.enc l] H = some (True, .ptr (H.length + 1) 1 29 0 0, Kh l H) := by
 refine oU (a := λ γ : BeX => [Enc.enc γ.1]) (h := λ γ : BeX => γ.2) (pre := NH) (res := λ γ => .ptr (γ.2.length + 1) 1 29 0 0) (h' := λ γ => Kh γ.1 γ.2) ?_ (γ := (l, H)) ⟨g, hH⟩
 rintro ⟨l1, H1⟩ ⟨l2, H2⟩ _ _ ea eh
 simp only [List.cons.injEq, and_true] at ea
 have el : l1 = l2 := by
  have := congrArg (Enc.dec : AV -> Lin) ea
  simpa [Enc.dec_enc] using this
 simp only at eh
 subst el eh
 exact ⟨rfl, rfl⟩
theorem GO {args : List AV} {H : List Blk} {ob : Prop} {r : AV} {H' : List Blk} (e : rc args H = some (ob, r, H')) :
  ∃ l, Good l /\ uG H /\ args = [Enc.enc l] /\ r = .ptr (H.length + 1) 1 29 0 0 /\ H' = Kh l H := by
 obtain ⟨⟨l, H1⟩, ⟨h1, h2⟩, e1, e2, e3, e4⟩ := mc e
 simp only at e2
 subst e2
 exact ⟨l, h1, h2, e1.symm, e3.symm, e4.symm⟩
noncomputable def CBe : Ctx := mkC prog G0 [(99, .gen kW), (65, .pure AB)]
@[simp] theorem Ye : CBe.P = prog := rfl
@[simp] theorem YM : CBe.G = G0 := rfl
@[simp] theorem Xs : CBe.S 99 = .gen kW /\ CBe.S 65 = .pure AB := ⟨rfl, rfl⟩
theorem lj : au CBe := aL (bM (yO) func99 rfl (by decide)) (ap (Sq) func65 (ak _ _))
theorem MS : jM prog G0 61 rc := by
 refine bP (C := CBe) lj ae [14, 15, 17, 18, 19] func61 rfl rfl rfl (by kernel_rfl) (λ avs H ob r H' hp hob => ?_)
 obtain ⟨l, g, hH, rfl, rfl, rfl⟩ := GO hp
 clear hp hob ob
 refine ⟨(by show 1 <= _; decide), ?_⟩
 simp [argsρ]
 refine AW.weak (kY (H.length + 1) 0 2 1 28 (b := ⟨118, 29, [[.int .i64 l.C.length, .int .i64 l.A.length, .slice 1 true [], .slice 2 true [], .int .i64 0, .int .i64 0, .int .i64 0, .int .i64 0, .int .i64 0, .int .i64 0, .int .i64 0, .int .i64 0, .int .i64 0, .int .i64 0, .int .i64 0, .int .i64 0, .int .i64 0, .int .i64 0, .int .i64 0, .int .i64 0, .int .i64 0, .int .i64 0, .int .i64 0, .int .i64 0, .int .i64 0, .int .i64 0, .int .i64 0, .int .i64 0, .bool false]], true, true⟩) (by simp) rfl rfl (by decide)) ?_
 refine AW.weak (Hr (H.length + 2) (b := ⟨28, 1, [], true, true⟩) (by simp)) ?_
 refine aB lj ae [14, 15, 17, 18, 19] (λ i : Nat => ⟨[(1, .ptr H.length 1 3 0 0), (3, .ptr (H.length + 1) 1 29 0 0), (19, Enc.enc l.A), (20, .int .i64 l.A.length), (21, .int .i64 i)], ao (dS H.length l i) (d9 l i) (H ++ d7 l i)⟩) (λ i => i <= l.A.length) (λ i => l.A.length - i) (by kernel_rfl) ⟨0, by simp, ag (by simp) ?e0⟩ (λ i hi => ?_)
 case e0 =>
  rw [<- Dn]
  simp [CB, tC, d9, dS, xR, cC, List.replicate]
 have hL := m9 g hH hi
 have hS := oj g H.length hi
 by_cases hil : i < l.A.length
 ·have cb := λ t X => JG (l := l) (H := H) i t X
  have hsL := F1 g H hi
  have hsG : H ++ d7 l (i + 1) = (H ++ d7 l i) ++ (R2B [] :: FBs (ix l.A i)) := by rw [append_assoc]; rfl
  have hsr : (d9 l (i + 1)).rows = (d9 l i).rows ++ [rV l i] := by unfold d9; rw [List.range_succ, map_append]; rfl
  have hsb : (d9 l (i + 1)).basis = (d9 l i).basis.set i (if fo l i then (l.C.length : Int) + l.A.length + i else (l.C.length : Int) + i) := rfl
  have htn : (d9 l i).n = l.C.length := rfl
  have htm : (d9 l i).m = l.A.length := rfl
  have htw : (d9 l i).w = l.C.length + l.A.length := rfl
  have hLp : (dS H.length l i).p = H.length + 1 := rfl
  have hLc : (dS H.length l i).c = none := rfl
  have hlr : (dS H.length l i).r.length = i := by unfold dS; simp
  obtain ⟨K, hK⟩ : ∃ K, H ++ d7 l i = K := ⟨_, rfl⟩
  obtain ⟨L, hLL⟩ : ∃ L, dS H.length l i = L := ⟨_, rfl⟩
  obtain ⟨t, ht⟩ : ∃ t, d9 l i = t := ⟨_, rfl⟩
  rw [hLL, hK] at hL hsL
  rw [hLL, ht] at hS
  rw [hK] at hsG
  rw [ht] at hsr hsb htn htm htw
  rw [hLL] at hLp hLc hlr
  simp only [hLL, hK] at cb
  rw [hK, hLL, ht, <- hLp]
  have gd := MA (t := t) hL
  have n1 := b9 (L := L) hS.bas
  have hem := tK hL hS
  have hrow : (ix l.A i).length = l.C.length := g.row _ (aq hil)
  have hiB : i < l.B.length := by rw [g.b]; exact hil
  have hn12 := g.n12
  have hm24 := g.m24
  have i2 : I64 ((i : Int) + 1) := by unfold I64; omega
  have hil' : (i : Int) < l.A.length := by omega
  have cb0 := cb t []
  rw [append_nil] at cb0
  simp [ai, hem, hil, cb, CB, hiB, aa]
  obtain ⟨row, hrw⟩ : ∃ row, ix l.A i = row := ⟨_, rfl⟩
  have hin := λ k (hk : k < l.C.length + l.A.length + 1) v hv => I2 (l := l) (i := i) hk (v := v) hv
  have hi0 : inR l i 0 = ep t := by unfold inR ep; rw [kq, htw]
  have hke : ∀ a, uT l i a = if fo l i then a else gh a := λ a => rfl
  have hkd : decide (0 < (ix l.B i).N) = fo l i := rfl
  rw [hrw] at hrow hin hsG
  rw [hrw]
  refine aB lj ae [14, 15, 17, 18, 19] (λ k : Nat => ⟨[(1, .ptr H.length 1 3 0 0), (3, .ptr L.p 1 29 0 0), (4, .int .i64 i), (6, .own K.length (t.w + 1)), (7, .bool (fo l i)), (19, Enc.enc l.A), (20, .int .i64 l.A.length), (21, .int .i64 i), (35, Enc.enc row), (36, .int .i64 row.length), (37, .int .i64 k)], ao L t K ++ (R2B (inR l i k) :: FBs (row.take k))⟩) (λ k => k <= l.C.length) (λ k => l.C.length - k) (by kernel_rfl) ⟨0, by simp, ag (by simp [hkd]) (by rw [hi0]; rfl)⟩ (λ k hk => ?_)
  have gl0 := gd.l0
  have gl := gd.l
  have gs0 := gd.sl0
  have gs := gd.sl
  have hfl : (FBs (row.take k)).length = k := by simp [FBs]; omega
  have hlen := Mz l i k
  rw [<- htw] at hlen
  by_cases hkl : k < l.C.length
  ·have hkr : k < row.length := by omega
   have hkw : k < t.w + 1 := by omega
   have hkw' : k < l.C.length + l.A.length + 1 := by omega
   have i3 : I64 ((k : Int) + 1) := by unfold I64; omega
   have hft : FBs (row.take (k + 1)) = FBs (row.take k) ++ [FB (ix row k)] := by
    unfold FBs
    rw [List.take_succ_eq_append_getElem hkr, map_append, az hkr]
    rfl
   cases hkp : fo l i with
   | true =>
    have hstep := hin k hkw' (ix row k) (by rw [hke, hkp]; rfl)
    simp [R2B, FB, ai, hkr, aa, gl0, gl, gs0, gs, hfl, hlen, hkw, i3]
    exact ⟨by omega, k + 1, by omega, by omega, ag (by simp) (by simp only [hft, FB, <- hstep, R2B])⟩
   | false =>
    have hstep := hin k hkw' (gh (ix row k)) (by rw [hke, hkp]; rfl)
    simp [R2B, FB, ai, hkr, aa, gl0, gl, gs0, gs, hfl, hlen, hkw, i3, AB]
    exact ⟨by omega, k + 1, by omega, by omega, ag (by simp) (by simp only [hft, FB, <- hstep, R2B])⟩
  ·have hkn : k = row.length := by omega
   subst hkn
   rw [take_length]
   rw [take_length] at hfl
   obtain ⟨q, hq⟩ : ∃ q, q = t.n + i := ⟨_, rfl⟩
   obtain ⟨q2, hq2⟩ : ∃ q, q = t.w + i := ⟨_, rfl⟩
   have wq : w64 ((t.n : Int) + (i : Int)) = (q : Int) := by rw [aT (by unfold I64; omega), hq]; omega
   have wq2 : w64 ((t.w : Int) + (i : Int)) = (q2 : Int) := by rw [aT (by unfold I64; omega), hq2]; omega
   have hww := y5 hS
   have hqw : q < t.w + 1 := by omega
   have htw1 : t.w < t.w + 1 := by omega
   have h24 : i < 24 := by omega
   obtain ⟨R, hR⟩ : ∃ R, inR l i row.length = R := ⟨_, rfl⟩
   have hRB : rV l i = if fo l i then ((((R.set q F11).set t.w (gh (ix l.B i))).set q ⟨-1, 1⟩).set t.w (ix l.B i)) else ((R.set q F11).set t.w (gh (ix l.B i))) := by
    rw [<- hR, hq, htw, htn, hrow]
    rfl
   rw [hR] at hlen ⊢
   simp [R2B, ai]
   refine aA lj ae [.pure, .pure, .pure, .pure, .read, .pure, .pure, .pure, .pure, .pure, .pure, .read, .pure, .pure, .pure, .read, .pure, .pure, .pure, .read, .pure, .pure, .read, .read, .pure, .eff, .pure, .eff] [[],[],[1],[1,2],[2,1,3],[],[5,3,1,2,4],[],[],[8],[8,9],[9,8,10],[],[12],[12,13],[13,12,14],[14,12,13,15,10,8,9,11],[],[],[18],[],[20,18,19],[19,18,20,21],[21,20,18,19,22],[23,21,20,18,19,22,17,14,12,13,15,10,8,9,11,4,2,1,3,5,6,0],[0,6,5,3,1,2,4,11,9,8,10,15,13,12,14,17,22,19,18,20,21,23,24],[25,24,23,22,21,20,19,18,17,6,5,4,3,2,1,0,11,9,8,10,15,13,12,14,16,7],[7,16,14,12,13,15,10,8,9,11,0,1,2,3,4,5,6,17,18,19,20,21,22,23,24,25,26]] (by kernel_rfl) (by kernel_rfl) (by kernel_rfl) (by kernel_rfl) ?_
   simp [R2B, ai, gl0, gs0, gd.p, n1, j8, j3, hww, wq, hqw, htw1, hlen, cb, CB, hiB, aa, AB]
   refine ⟨by omega, by omega, ?_⟩
   obtain ⟨R1, hR1⟩ : ∃ R1, (R.set q (⟨1, 1⟩ : Fr)).set t.w (gh (ix l.B i)) = R1 := ⟨_, rfl⟩
   have hl1 : R1.length = t.w + 1 := by rw [<- hR1, length_set, length_set, hlen]
   rw [show F11 = (⟨1, 1⟩ : Fr) from rfl, hR1] at hRB
   rw [hR1]
   have hsb1 := Ju (L := L) hS.bas h24 (q : Int)
   have sp1 := λ X => gd.sp X { t with basis := t.basis.set i (q : Int) } rfl rfl rfl
   have hb1 : (t.basis.set i (q : Int)).length = 24 := by rw [length_set]; exact hS.bas
   have h1w : ({ t with basis := t.basis.set i (q : Int) } : Tab).w = t.w := rfl
   have h1n : ({ t with basis := t.basis.set i (q : Int) } : Tab).n = t.n := rfl
   have h1m : ({ t with basis := t.basis.set i (q : Int) } : Tab).m = t.m := rfl
   have h1r : ({ t with basis := t.basis.set i (q : Int) } : Tab).rows = t.rows := rfl
   have h1b : ({ t with basis := t.basis.set i (q : Int) } : Tab).basis = t.basis.set i (q : Int) := rfl
   obtain ⟨t1, ht1⟩ : ∃ t1, ({ t with basis := t.basis.set i (q : Int) } : Tab) = t1 := ⟨_, rfl⟩
   rw [ht1] at h1w h1n h1m h1r h1b
   rw [ht1] at hsb1
   simp only [ht1] at sp1
   have g1 := MA (t := t1) hL
   have n2 := b9 (L := L) (t := t1) (by rw [h1b]; exact hb1)
   refine aA lj ae [.pure, .pure, .pure, .pure, .pure, .read, .pure, .pure, .pure, .pure, .pure, .eff] [[],[],[],[2],[2,3],[3,2,4],[],[6,4,2,3,5],[0],[0,8],[7,6,5,4,3,2,1,8,0,9],[9,0,8,1,2,3,4,5,6,7,10]] (by kernel_rfl) (by kernel_rfl) (by kernel_rfl) (by kernel_rfl) ?_
   cases hkp : fo l i with
   | true =>
    simp [R2B, ai, gl0, gs0, gd.p, n1, j8, j3, hww, wq, h24, hsb1, sp1]
    refine ⟨by omega, by omega, ?_⟩
    have k0 := g1.l0
    have ks0 := g1.sl0
    have hww1 : w64 ((t1.n : Int) + t1.m) = t.w := by rw [h1n, h1m]; exact hww
    have wq1 : w64 ((t1.n : Int) + (i : Int)) = (q : Int) := by rw [h1n]; exact wq
    refine aA lj ae [.pure, .pure, .pure, .pure, .read, .pure, .pure, .pure, .pure, .pure, .pure, .read, .pure, .pure, .pure, .read, .pure, .pure, .pure, .read, .pure, .pure, .read, .pure, .eff, .pure, .eff] [[],[],[1],[1,2],[2,1,3],[],[5,3,1,2,4],[],[],[8],[8,9],[9,8,10],[],[12],[12,13],[13,12,14],[14,12,13,15,10,8,9,11],[],[],[18],[],[20,18,19],[19,18,20,21],[21,20,18,19,22,17,14,12,13,15,10,8,9,11,4,2,1,3,5,6,0],[0,6,5,3,1,2,4,11,9,8,10,15,13,12,14,17,22,19,18,20,21,23],[24,23,22,21,20,19,18,17,6,5,4,3,2,1,0,11,9,8,10,15,13,12,14,16,7],[7,16,14,12,13,15,10,8,9,11,0,1,2,3,4,5,6,17,18,19,20,21,22,23,24,25]] (by kernel_rfl) (by kernel_rfl) (by kernel_rfl) (by kernel_rfl) ?_
    simp [R2B, ai, k0, ks0, g1.p, n2, j8, j3, hww1, wq1, hqw, htw1, hl1, cb, CB, hiB, aa]
    refine ⟨by omega, by omega, ?_⟩
    obtain ⟨R3, hR3⟩ : ∃ R3, (R1.set q (⟨-1, 1⟩ : Fr)).set t.w (ix l.B i) = R3 := ⟨_, rfl⟩
    rw [hR3] at hRB
    rw [hR3]
    have hbs1 : t1.basis.length = 24 := by rw [h1b]; exact hb1
    have hsb3 := Ju (L := L) hbs1 h24 (q2 : Int)
    have sp3 := λ X => g1.sp X { t1 with basis := t1.basis.set i (q2 : Int) } rfl rfl rfl
    have h3w : ({ t1 with basis := t1.basis.set i (q2 : Int) } : Tab).w = t.w := h1w
    have h3n : ({ t1 with basis := t1.basis.set i (q2 : Int) } : Tab).n = t.n := h1n
    have h3m : ({ t1 with basis := t1.basis.set i (q2 : Int) } : Tab).m = t.m := h1m
    have h3r : ({ t1 with basis := t1.basis.set i (q2 : Int) } : Tab).rows = t.rows := h1r
    have h3b : ({ t1 with basis := t1.basis.set i (q2 : Int) } : Tab).basis = t.basis.set i (q2 : Int) := by show t1.basis.set i _ = _; rw [h1b, set_set]
    obtain ⟨t3, ht3⟩ : ∃ t3, ({ t1 with basis := t1.basis.set i (q2 : Int) } : Tab) = t3 := ⟨_, rfl⟩
    rw [ht3] at h3w h3n h3m h3r h3b
    rw [ht3] at hsb3
    simp only [ht3] at sp3
    have g3 := MA (t := t3) hL
    have n3 := b9 (L := L) (t := t3) (by rw [h3b, length_set]; exact hS.bas)
    refine aA lj ae [.pure, .pure, .pure, .pure, .pure, .read, .pure, .pure, .pure, .read, .pure, .pure, .pure, .pure, .pure, .pure, .eff] [[],[],[],[2],[2,3],[3,2,4],[],[6],[6,7],[7,6,8],[8,6,7,9,4,2,3,5],[],[11,5,3,2,4,9,7,6,8,10],[0],[0,13],[12,11,10,9,8,7,6,5,4,3,2,1,13,0,14],[14,0,13,1,2,3,4,5,6,7,8,9,10,11,12,15]] (by kernel_rfl) (by kernel_rfl) (by kernel_rfl) (by kernel_rfl) ?_
    simp [R2B, ai, k0, ks0, g1.p, n2, j8, j3, hww1, wq2, h24, hsb3, sp3]
    refine ⟨by omega, by omega, ?_⟩
    refine nW lj (by kernel_rfl) ?_
    have gpq : ∀ X b, ((ao L t3 K ++ X).set L.q b)[L.p]? = some ⟨118, 29, [tC L t3], true, false⟩ := λ X b => by rw [getElem?_set_ne hL.pq.symm]; exact g3.p X
    have h2b : (d9 l (i + 1)).basis = t3.basis := by rw [hsb, hkp, h3b, hq2, htw]; rfl
    have hsq := N8 (L := L) (t := t3) (t2 := d9 l (i + 1)) (N := K.length) (k := i + 1) (by rw [h3n, htn]; rfl) (by rw [h3m, htm]; rfl) (by rw [<- ht3, <- ht1, <- ht]; rfl) h2b (by rw [<- ht3, <- ht1, <- ht]; rfl) (by rw [hlr])
    have hRB : rV l i = R3 := by rw [hRB, hkp]; rfl
    have hadd := Fi (t := t3) (t' := d9 l (i + 1)) (K := K) (x := R3) (X := FBs row ++ [⟨28, 1, [[.own K.length (t.w + 1)]], true, false⟩]) hL hLc (by rw [h3r, hS.m]) (by rw [hsr, hRB, h3r]) (by rw [h3w, htw]; rfl)
    rw [h3w] at hadd
    simp [R2B, ai, iy, g3.p, g3.q, n3, jz, hlr, g3.l, g3.sl, i2, gpq, h3w, hsq]
    have hL' := m9 g hH (show i + 1 <= l.A.length by omega)
    have hT := hadd.trans (show _ = ao (dS H.length l (i + 1)) (d9 l (i + 1)) (H ++ d7 l (i + 1)) ++ [⟨28, 1, [[.own K.length (t.w + 1)]], true, false⟩] by rw [<- su hL', hsL, hsG, append_assoc]; rfl)
    have hPl : (ao (dS H.length l (i + 1)) (d9 l (i + 1)) (H ++ d7 l (i + 1))).length = H.length + (d7 l (i + 1)).length := by rw [ai, length_append]
    have hgl := kB g (show i + 1 <= l.A.length by omega)
    exact ⟨by omega, i + 1, by omega, by omega, zG hT (by simp [hLp]) (by omega) (by simp [AV.cleanF, AV.clean2, AV.clean1, hPl]; omega) (by rw [ai]; exact gg hL' _)⟩
   | false =>
    simp [R2B, ai, gl0, gs0, gd.p, n1, j8, j3, hww, wq, h24, hsb1, sp1]
    refine ⟨by omega, by omega, ?_⟩
    refine nW lj (by kernel_rfl) ?_
    have gpq : ∀ X b, ((ao L t1 K ++ X).set L.q b)[L.p]? = some ⟨118, 29, [tC L t1], true, false⟩ := λ X b => by rw [getElem?_set_ne hL.pq.symm]; exact g1.p X
    have h2b : (d9 l (i + 1)).basis = t1.basis := by rw [hsb, hkp, h1b, hq, htn]; rfl
    have hsq := N8 (L := L) (t := t1) (t2 := d9 l (i + 1)) (N := K.length) (k := i + 1) (by rw [h1n, htn]; rfl) (by rw [h1m, htm]; rfl) (by rw [<- ht1, <- ht]; rfl) h2b (by rw [<- ht1, <- ht]; rfl) (by rw [hlr])
    have hRB : rV l i = R1 := by rw [hRB, hkp]; rfl
    have hadd := Fi (t := t1) (t' := d9 l (i + 1)) (K := K) (x := R1) (X := FBs row ++ [⟨28, 1, [[.own K.length (t.w + 1)]], true, false⟩]) hL hLc (by rw [h1r, hS.m]) (by rw [hsr, hRB, h1r]) (by rw [h1w, htw]; rfl)
    rw [h1w] at hadd
    simp [R2B, ai, iy, g1.p, g1.q, n2, jz, hlr, g1.l, g1.sl, i2, gpq, h1w, hsq]
    have hL' := m9 g hH (show i + 1 <= l.A.length by omega)
    have hT := hadd.trans (show _ = ao (dS H.length l (i + 1)) (d9 l (i + 1)) (H ++ d7 l (i + 1)) ++ [⟨28, 1, [[.own K.length (t.w + 1)]], true, false⟩] by rw [<- su hL', hsL, hsG, append_assoc]; rfl)
    have hPl : (ao (dS H.length l (i + 1)) (d9 l (i + 1)) (H ++ d7 l (i + 1))).length = H.length + (d7 l (i + 1)).length := by rw [ai, length_append]
    have hgl := kB g (show i + 1 <= l.A.length by omega)
    exact ⟨by omega, i + 1, by omega, by omega, zG hT (by simp [hLp]) (by omega) (by simp [AV.cleanF, AV.clean2, AV.clean1, hPl]; omega) (by rw [ai]; exact gg hL' _)⟩
 ·have hie : i = l.A.length := by omega
  subst hie
  have hgl := kB g hi
  have hPl : (ao (dS H.length l l.A.length) (d9 l l.A.length) (H ++ d7 l l.A.length)).length = (H ++ d7 l l.A.length).length := ai _ _ _
  simp [ai]
  exact ⟨(H ++ d7 l l.A.length).length, by rw [length_append]; omega, by rw [<- hPl, take_length]; rfl, by simp [AV.cleanF, AV.clean2, AV.clean1]; omega, gg hL _⟩
def aw (l : Lin) : Tab := d9 l l.A.length
def xK (t : Tab) : Nat -> List Fr
 | 0 => List.replicate t.n F01
 | k + 1 => if ix t.basis k < t.n then (xK t k).set (ix t.basis k).toNat (ix (ix t.rows k) t.w) else xK t k
def xF (t : Tab) : List Fr := xK t t.m
def bF (l : Lin) : List Fr × Fr × Int :=
 if bx l ≠ 0 then ([], F00, bx l)
 else if (aD (aw l)).2.over = true then ([], F00, 24)
 else if (aD (aw l)).1 = false then ([], F00, 23)
 else if (aG (aD (aw l)).2 l.C).2.over = true then ([], F00, 24)
 else if (aG (aD (aw l)).2 l.C).1 = false then ([], F00, 19)
 else (xF (aG (aD (aw l)).2 l.C).2, gh (ix (aG (aD (aw l)).2 l.C).2.cost (aG (aD (aw l)).2 l.C).2.w), 0)
structure HaltsL (l : Lin) : Prop where
 f : jq (aw l)
 s : (aD (aw l)).2.over = false -> (aD (aw l)).1 = true -> kX (aD (aw l)).2 l.C
structure PreSolve (l : Lin) : Prop where
 small : SmallL l
 halts : bx l = 0 -> HaltsL l
theorem zn {l : Lin} (h : bx l = 0) : Good l := by
 obtain ⟨k1, k2, k3, k4, k5, k6, k7⟩ := uN h
 exact ⟨by cases hC : l.C with | nil => exact absurd hC k3 | cons a r => simp, k1, k2, k4, λ r hr => (k7 r hr).1⟩
section
variable {L : Lay} {t : Tab} {K : List Blk}
theorem xE (hS : Shape L t) (hL : L.c = none) (hh : jq t) : ((aD t).2.cost = [] /\ Shape L (aD t).2) ∨ ((aD t).2.cost ≠ [] /\ Shape (bv L K) (aD t).2) := by
 have h1 := dL (K := K) hS (Nat.le_refl t.m)
 have h2 := dE t t.m
 have ne : ∀ {u : Tab} {n : Nat}, u.cost.length = n + 1 -> u.cost ≠ [] := λ h h' => by rw [h'] at h; simp at h
 unfold aD
 split
 ·exact .inr ⟨ne h2.2.2.1, h1⟩
 ·rename_i hn
  obtain ⟨h3, h4⟩ := fj h1 (hh hn)
  have h5 : (aO (f1T t)).2.cost.length = t.w + 1 := h4.cost.trans h2.2.2.1
  split
  ·exact .inr ⟨ne h5, h3⟩
  ·split
   ·exact .inr ⟨ne h5, h3⟩
   ·have hS3 : Shape L { (aO (f1T t)).2 with cost := [] } := ⟨h3.m, h3.r, h3.n1, h3.n12, h3.m24, h3.row, .inl ⟨hL, rfl⟩, h3.bas, h3.b64⟩
    have hm3 : (aO (f1T t)).2.m = t.m := h4.m.trans h2.2.1
    obtain ⟨h6, h7⟩ := iV hS3 (k := t.m) (by show t.m <= (aO (f1T t)).2.m; omega)
    exact .inl ⟨List.length_eq_zero_iff.1 (by rw [h7.cost]; rfl), h6⟩
structure Lies (L : Lay) (K : List Blk) (H : List Blk) (u : Tab) (L1 : Lay) (K1 : List Blk) : Prop where
 h : H = ao L1 u K1
 l : Lens L1 K1
 s : Shape L1 u
 p : L1.p = L.p
 q : L1.q = L.q
 r : L1.r = L.r
 c : ∀ k, k < K.length -> L.c ≠ some k -> L1.c ≠ some k
 n : K.length <= K1.length
 k : ∀ k, k < K.length -> L.c ≠ some k -> K1[k]? = K[k]?
theorem v5 (hL : Lens L K) {u : Tab} (hS : Shape (bv L K) u) : Lies L K (p9 L t K u) u (bv L K) (fy L t K) where
 h := pU hL
 l := ra hL
 s := hS
 p := rfl
 q := rfl
 r := rfl
 c k hk _ := by intro h; injection h with h; omega
 n := by rw [gb]; omega
 k k hk hc := by
  unfold fy
  rw [getElem?_append_left (by rw [dD]; exact hk), pb hc]
theorem CA (hL : Lens L K) (hS : Shape L t) (hc : t.cost = []) (hh : jq t) : ∃ L1 K1, Lies L K (jP L t K) (aD t).2 L1 K1 := by
 have hLc : L.c = none := hS.cost.elim (λ h => h.1) (λ h => by rw [hc] at h; have := h.2; simp at this)
 unfold jP
 rcases xE (K := K) hS hLc hh with ⟨h1, h2⟩ | ⟨h1, h2⟩
 ·rw [if_pos h1]
  exact ⟨L, K, rfl, hL, h2, rfl, rfl, rfl, λ _ _ h => h, Nat.le_refl _, λ _ _ _ => rfl⟩
 ·rw [if_neg h1]
  exact ⟨_, _, v5 hL h2⟩
theorem AM (hL : Lens L K) (hS : Shape L t) {cs : List Fr} (hc : cs.length = t.n) (hh : kX t cs) : Lies L K (p9 L t K (aG t cs).2) (aG t cs).2 (bv L K) (fy L t K) :=
 v5 hL (lm hS hc hh).1
theorem Lies.out {H : List Blk} {u : Tab} {L1 : Lay} {K1 : List Blk} (h : Lies L K H u L1 K1) {k : Nat} (hk : k < K.length) (hp : k ≠ L.p) (hq : k ≠ L.q) (hr : k ∉ L.r) (hc : L.c ≠ some k) (X : List Blk) : (ao L1 u K1 ++ X)[k]? = K[k]? := by
 rw [getElem?_append_left (by rw [ai]; have := h.n; omega), D4 (by rw [h.p]; exact hp) (by rw [h.q]; exact hq) (h.c k hk hc) (by rw [h.r]; exact hr), h.k k hk hc]
end
theorem JV (n : Nat) : dM n (λ _ => F01) (List.replicate n F00) = List.replicate n F01 := by
 refine List.ext_getElem (by rw [aP]; simp) λ j h1 h2 => ?_
 rw [aP, length_replicate] at h1
 have := eM (k := n) (g := λ _ => F01) (row := List.replicate n F00) (j := j) (by simpa using h1)
 rw [az (by rw [aP]; simpa using h1), if_pos h1] at this
 rw [this]
 exact (getElem_replicate (a := F01) (n := n) (h := h2)).symm
theorem s6 (t : Tab) : ∀ k, (xK t k).length = t.n
 | 0 => length_replicate
 | k + 1 => by
  unfold xK
  split
  ·rw [length_set]; exact s6 t k
  ·exact s6 t k
def tH : PSp := aN PreSolve (λ l => .tup [Enc.enc (bF l).1, Enc.enc (bF l).2.1, .int .i64 (bF l).2.2])
noncomputable def CSo : Ctx := mkC prog G0 [(60, .pure iq), (61, .gen rc), (62, .gen s9), (63, .gen mH), (64, .pure (dA (Enc.enc F01))), (65, .pure AB)]
@[simp] theorem YS : CSo.P = prog := rfl
@[simp] theorem XF : CSo.G = G0 := rfl
@[simp] theorem Xy : CSo.S 60 = .pure iq /\ CSo.S 61 = .gen rc /\ CSo.S 62 = .gen s9 /\ CSo.S 63 = .gen mH /\ CSo.S 64 = .pure (dA (Enc.enc F01)) /\ CSo.S 65 = .pure AB := ⟨rfl, rfl, rfl, rfl, rfl, rfl⟩
theorem sK : au CSo := ap (Q1) func60 (aL (bM (MS) func61 rfl (by decide)) (aL (bM (Lz) func62 rfl (by decide)) (aL (bM (Ic) func63 rfl (by decide)) (ap (Ex) func64 (ap (Sq) func65 (ak _ _))))))
theorem P3 : PureOK prog G0 31 tH := by
 refine qZ sK ae func31 rfl rfl rfl [26, 28] (by kernel_rfl) (by decide) (λ l hp => ?_)
 have hs := hp.small
 by_cases h1 : bx l = 0
 case neg =>
  have e : bF l = ([], F00, bx l) := if_pos h1
  simp [iq, hs, h1, e, F00]
 obtain ⟨hf, hh2⟩ := hp.halts h1
 have g := zn h1
 have hCH : uG [CB l, FB F00] := λ b hb => by
  simp only [mem_cons, List.not_mem_nil, or_false] at hb
  rcases hb with rfl | rfl <;> exact .inl rfl
 have hbeg := J4 g hCH
 have hL0 := m9 g hCH (Nat.le_refl l.A.length)
 have hS0 := (oj g 2 (Nat.le_refl l.A.length)).full (by simp [dS, d9])
 have hT0 : d9 l l.A.length = aw l := rfl
 unfold Kh at hbeg
 simp only [length_cons, List.length_nil, zero_add] at hbeg hL0
 rw [hT0] at hbeg hS0
 have hp0 : (dS 2 l l.A.length).p = 3 := rfl
 have hq0 : (dS 2 l l.A.length).q = 4 := rfl
 have hc0 : (dS 2 l l.A.length).c = none := rfl
 have hr0 : ∀ x ∈ (dS 2 l l.A.length).r, 5 <= x := λ x hx => by
  obtain ⟨j, _, rfl⟩ := mem_map.1 hx
  omega
 have hk0 : ([CB l, FB F00] ++ d7 l l.A.length)[0]? = some (CB l) := rfl
 have hk1 : ([CB l, FB F00] ++ d7 l l.A.length)[1]? = some (FB F00) := rfl
 have hkl : 2 <= ([CB l, FB F00] ++ d7 l l.A.length).length := by simp
 obtain ⟨K, hK⟩ : ∃ K, [CB l, FB F00] ++ d7 l l.A.length = K := ⟨_, rfl⟩
 obtain ⟨L, hL⟩ : ∃ L, dS 2 l l.A.length = L := ⟨_, rfl⟩
 rw [hK, hL] at hL0 hbeg
 rw [hK] at hk0 hk1 hkl
 rw [hL] at hS0 hp0 hq0 hc0 hr0
 obtain ⟨t, ht⟩ : ∃ t, aw l = t := ⟨_, rfl⟩
 have htc : t.cost = [] := by rw [<- ht]; rfl
 have htn : t.n = l.C.length := by rw [<- ht]; rfl
 have htm : t.m = l.A.length := by rw [<- ht]; rfl
 rw [ht] at hf hh2 hbeg hS0
 have hfst := Kq hL0 hS0 htc hf
 obtain ⟨L1, K1, hlie⟩ := CA hL0 hS0 htc hf
 have hF : bF l = if (aD t).2.over = true then ([], F00, 24)
  else if (aD t).1 = false then ([], F00, 23)
  else if (aG (aD t).2 l.C).2.over = true then ([], F00, 24)
  else if (aG (aD t).2 l.C).1 = false then ([], F00, 19)
  else (xF (aG (aD t).2 l.C).2, gh (ix (aG (aD t).2 l.C).2.cost (aG (aD t).2 l.C).2.w), 0) := by rw [<- ht]; exact if_neg (λ h => h h1)
 have hsame := rz hS0 hf
 obtain ⟨fb, u, hfu⟩ : ∃ fb u, aD t = (fb, u) := ⟨_, _, rfl⟩
 rw [hfu] at hF hfst hlie hh2 hsame
 simp only at hF hfst hlie hh2 hsame
 rw [hlie.h, hp0] at hfst
 have hbeg : rc [.agg [.slice 1 false (ac l.A), .slice 2 false (ac l.B), .slice 2 false (ac l.C)]] [⟨30, 3, [[.slice 1 false (ac l.A), .slice 2 false (ac l.B), .slice 2 false (ac l.C)]], true, true⟩, ⟨35, 2, [[.int .i64 0, .int .i64 0]], true, true⟩] = some (True, .ptr 3 1 29 0 0, ao L t K) := hbeg
 have hcb := λ X => hlie.out (k := 0) (by omega) (by omega) (by omega) (λ h => by have := hr0 _ h; omega) (by rw [hc0]; intro h; cases h) X
 have hrc := λ X => hlie.out (k := 1) (by omega) (by omega) (by omega) (λ h => by have := hr0 _ h; omega) (by rw [hc0]; intro h; cases h) X
 rw [hk0] at hcb
 rw [hk1] at hrc
 have G1 := fq hlie.l hlie.s
 have p1 := G1.p0
 rw [hlie.p, hp0] at p1
 have n1 := b9 (L := L1) hlie.s.bas
 have hcb0 := hcb []
 have hrc0 := hrc []
 rw [append_nil] at hcb0 hrc0
 have hn1 := hlie.n
 have hst1 : ∀ b, ((ao L1 u K1).set 1 b)[1]? = some b := λ b => getElem?_set_self (by rw [ai]; omega)
 have e28 : ∀ h, (tC L1 u)[28]'h = .bool u.over := λ h => jQ hlie.s.bas h
 cases hO : u.over with
 | true =>
  have hF : bF l = ([], F00, 24) := by rw [hF, if_pos hO]
  rw [hO] at e28
  simp [iq, hs, h1, hbeg, hfst, p1, n1, e28, hrc0, FB, hst1, hF]
  exact ⟨rfl, rfl⟩
 | false =>
 rw [if_neg (by rw [hO]; decide)] at hF
 rw [hO] at e28
 cases fb with
 | false =>
  have hF : bF l = ([], F00, 23) := by rw [hF, if_pos rfl]
  simp [iq, hs, h1, hbeg, hfst, p1, n1, e28, hrc0, FB, hst1, hF]
  exact ⟨rfl, rfl⟩
 | true =>
 rw [if_neg (by decide)] at hF
 have hH2 := hh2 hO rfl
 have hcs : l.C.length = u.n := by rw [hsame.2.1, htn]
 have hsec := HL hlie.l hlie.s hcs hH2
 have hlie2 := AM hlie.l hlie.s hcs hH2
 have hc1 : ∀ k, k < 2 -> L1.c ≠ some k := λ k hk => hlie.c k (by omega) (by rw [hc0]; intro h; cases h)
 have hr1 : ∀ k, k < 2 -> k ∉ L1.r := λ k hk h => by rw [hlie.r] at h; have := hr0 _ h; omega
 have hp1 := hlie.p
 have hq1 := hlie.q
 have hkk0 : K1[0]? = some (CB l) := by rw [hlie.k 0 (by omega) (by rw [hc0]; intro h; cases h), hk0]
 have hkk1 : K1[1]? = some (FB F00) := by rw [hlie.k 1 (by omega) (by rw [hc0]; intro h; cases h), hk1]
 have hdb := λ X => hlie2.out (k := 0) (by omega) (by omega) (by omega) (hr1 0 (by omega)) (hc1 0 (by omega)) X
 have hdc := λ X => hlie2.out (k := 1) (by omega) (by omega) (by omega) (hr1 1 (by omega)) (hc1 1 (by omega)) X
 rw [hkk0] at hdb
 rw [hkk1] at hdc
 have hsame2 := lm (K := K1) hlie.s hcs hH2
 obtain ⟨sb, v, hsv⟩ : ∃ sb v, aG u l.C = (sb, v) := ⟨_, _, rfl⟩
 rw [hsv] at hF hsec hlie2 hsame2 hdb hdc
 simp only at hF hsec hlie2 hsame2 hdb hdc
 have hvp : (bv L1 K1).p = 3 := by show L1.p = 3; omega
 have hvc : (bv L1 K1).c = some K1.length := rfl
 rw [hlie2.h] at hsec
 obtain ⟨L2, hL2⟩ : ∃ L2, bv L1 K1 = L2 := ⟨_, rfl⟩
 obtain ⟨K2, hK2⟩ : ∃ K2, fy L1 u K1 = K2 := ⟨_, rfl⟩
 rw [hL2, hK2] at hlie2 hsec hdb hdc
 rw [hL2] at hvp hvc
 rw [show L1.p = 3 by omega] at hsec
 have hsec : mH [.ptr 3 1 29 0 0, .slice 2 false (ac l.C)] (ao L1 u K1) = some (True, .bool sb, ao L2 v K2) := hsec
 have hdb0 := hdb []
 have hdc0 := hdc []
 rw [append_nil] at hdb0 hdc0
 have hn2 := hlie2.n
 have hst2 : ∀ b, ((ao L2 v K2).set 1 b)[1]? = some b := λ b => getElem?_set_self (by rw [ai]; omega)
 have G2 := fq hlie2.l hlie2.s
 have p2 := G2.p0
 rw [hvp] at p2
 have n2 := b9 (L := L2) hlie2.s.bas
 have f28 : ∀ h, (tC L2 v)[28]'h = .bool v.over := λ h => jQ hlie2.s.bas h
 cases hO2 : v.over with
 | true =>
  have hF : bF l = ([], F00, 24) := by rw [hF, if_pos hO2]
  rw [hO2] at f28
  simp [iq, hs, h1, hbeg, hfst, p1, n1, e28, hcb0, CB, hsec, p2, n2, f28, hdc0, FB, hst2, hF]
  exact ⟨rfl, rfl⟩
 | false =>
 rw [if_neg (by rw [hO2]; decide)] at hF
 rw [hO2] at f28
 cases sb with
 | false =>
  have hF : bF l = ([], F00, 19) := by rw [hF, if_pos rfl]
  simp [iq, hs, h1, hbeg, hfst, p1, n1, e28, hcb0, CB, hsec, p2, n2, f28, hdc0, FB, hst2, hF]
  exact ⟨rfl, rfl⟩
 | true =>
 rw [if_neg (by decide)] at hF
 have e0 : ∀ h, (tC L2 v)[0]'h = .int .i64 v.n := λ h => j8 h
 have hvn := hlie2.s.n12
 simp [iq, hs, h1, hbeg, hfst, p1, n1, e28, hcb0, CB, hsec, p2, n2, f28, e0]
 have l2 := G2.l0
 have s2 := G2.sl0
 have p2X := G2.p
 rw [hvp] at p2X
 have q2X := G2.q
 have r2X := G2.r
 have hr2 := hlie2.s.r
 have hm24 := hlie2.s.m24
 have hx0 : ao L2 v K2 ++ [⟨35, 2, List.replicate v.n [.int .i64 0, .int .i64 0], true, true⟩] = ao L2 v K2 ++ [R2B (dM 0 (λ _ => F01) (List.replicate v.n F00))] := by rw [kq]; unfold R2B; rw [D0]; rfl
 refine ⟨⟨by omega, by omega⟩, ?_⟩
 refine aB sK ae [26, 28] (λ k : Nat => ⟨[(1, .ptr 0 1 3 0 0), (3, .ptr 1 1 2 0 0), (4, .int .i64 0), (6, .ptr 3 1 29 0 0), (9, .own K2.length v.n), (50, .int .i64 v.n), (51, .int .i64 k)], ao L2 v K2 ++ [R2B (dM k (λ _ => F01) (List.replicate v.n F00))]⟩) (λ k => k <= v.n) (λ k => v.n - k) (by kernel_rfl) ⟨0, by simp, ag (by simp [ai]) hx0⟩ (λ k hk => ?_)
 have hm := aP k (λ _ => F01) (List.replicate v.n F00)
 rw [length_replicate] at hm
 by_cases hkl : k < v.n
 ·have i2 : I64 ((k : Int) + 1) := by unfold I64; omega
  simp [R2B, ai, l2, s2, hkl, hm, i2, aa]
  exact ⟨k + 1, by omega, by omega, ag (by simp) (by rw [lH (g := λ _ => F01) (v := F01) rfl (by rw [length_replicate]; exact hkl)])⟩
 ·have hke : k = v.n := by omega
  subst hke
  rw [JV]
  simp [ai, p2X, n2, jz, hr2]
  refine aB sK ae [26, 28] (λ k : Nat => ⟨[(1, .ptr 0 1 3 0 0), (3, .ptr 1 1 2 0 0), (4, .int .i64 0), (6, .ptr 3 1 29 0 0), (9, .own K2.length v.n), (62, .own L2.q v.m), (63, .int .i64 v.m), (64, .int .i64 k)], ao L2 v K2 ++ [R2B (xK v k)]⟩) (λ k => k <= v.m) (λ k => v.m - k) (by kernel_rfl) ⟨0, by simp, ag (by simp) rfl⟩ (λ k hk => ?_)
  have hxl := s6 v k
  have hww := mK hlie2.s
  have e1 : ∀ h, (tC L2 v)[1]'h = .int .i64 v.m := λ h => j3 h
  have htw : v.w < v.w + 1 := by omega
  by_cases hkl : k < v.m
  ·have i2 : I64 ((k : Int) + 1) := by unfold I64; omega
   have hk24 : k < 24 := by omega
   have hkr : k < L2.r.length := by omega
   have hbk := Kx (L := L2) hlie2.s.bas hk24
   have hrk := r2X
   have hrow : (ix v.rows k).length = v.w + 1 := hlie2.s.row _ (aq (by rw [hlie2.s.m]; exact hkl))
   have rk := λ X => r2X X k hkl
   have hb64 : 0 <= ix v.basis k := (hlie2.s.b64 _ (aq (by rw [hlie2.s.bas]; omega))).1
   obtain ⟨bn, hbn⟩ : ∃ bn : Nat, ix v.basis k = bn := ⟨(ix v.basis k).toNat, by omega⟩
   rw [hbn] at hbk
   by_cases hbl : bn < v.n
   ·have es : xK v (k + 1) = (xK v k).set bn (ix (ix v.rows k) v.w) := by
     conv => { lhs; unfold xK; rw [if_pos (by rw [hbn]; omega), hbn, toNat_natCast] }
    simp [ai, p2X, q2X, n2, hkl, hr2, hkr, b8, hbk, hk24, e0, hbl]
    refine ⟨by omega, by omega, ?_⟩
    refine aA sK ae [.pure, .pure, .pure, .pure, .pure, .pure, .read, .pure, .pure, .pure, .read, .pure, .pure, .read, .pure, .eff] [[],[],[],[],[3],[3,4],[4,3,5],[],[7],[7,8],[8,7,9],[9,7,8,10,5,3,4,6],[6,4,3,5,10,8,7,9,11,2],[2,11,9,7,8,10,5,3,4,6,12],[13,12,11,10,9,8,7,6,5,4,3,2,1,0],[0,1,2,3,4,5,6,7,8,9,10,11,12,13,14]] (by kernel_rfl) (by kernel_rfl) (by kernel_rfl) (by kernel_rfl) ?_
    have hxb : bn < (xK v k).length := by omega
    simp [R2B, ai, p2X, n2, e0, e1, hww, rk, hrow, htw, aa, l2, s2, hxl, hbl, hxb, i2]
    exact ⟨by omega, k + 1, by omega, by omega, ag (by simp) (by rw [es])⟩
   ·have es : xK v (k + 1) = xK v k := by
     conv => { lhs; unfold xK; rw [if_neg (by rw [hbn]; omega)] }
    simp [ai, p2X, q2X, n2, hkl, hr2, hkr, b8, hbk, hk24, e0, hbl, i2]
    exact ⟨by omega, by omega, k + 1, by omega, by omega, ag (by simp) (by rw [es])⟩
  ·have hke : k = v.m := by omega
   subst hke
   simp [ai]
   refine aA sK ae [.pure, .pure, .pure, .pure, .read, .pure, .pure, .pure, .read, .pure, .pure, .pure, .read, .pure, .pure, .read, .read, .pure, .eff, .pure] [[],[],[1],[1,2],[2,1,3],[],[5],[5,6],[6,5,7],[],[9],[9,10],[10,9,11],[11,9,10,12,7,5,6,8],[8,6,5,7,12,10,9,11,13,3,1,2,4],[4,2,1,3,13,11,9,10,12,7,5,6,8,14],[14,8,6,5,7,12,10,9,11,13,3,1,2,4,15],[15,4,2,1,3,13,11,9,10,12,7,5,6,8,14,16,0],[0,17,15,4,2,1,3,13,11,9,10,12,7,5,6,8,14,16],[16,14,8,6,5,7,12,10,9,11,13,3,1,2,4,15,17,0,18]] (by kernel_rfl) (by kernel_rfl) (by kernel_rfl) (by kernel_rfl) ?_
   have hvcl : v.cost.length = v.w + 1 := by rw [hsame2.2.2.2.2]; unfold Tab.w; omega
   have c2 := λ X => G2.c X _ hvc
   have e3 : ∀ h, (tC L2 v)[3]'h = .own K1.length (v.w + 1) := λ h => by rw [nL h, hvc, hvcl]; rfl
   have hst3 : ∀ X b, ((ao L2 v K2 ++ X).set 1 b)[1]? = some b := λ X b => getElem?_set_self (by rw [length_append, ai]; omega)
   have hg4 : ∀ b h, ((ao L2 v K2 ++ [R2B (xK v v.m)]).set 1 b)[K2.length]'h = ⟨35, 2, ac (xK v v.m), true, true⟩ := λ b h => by
    have := getElem?_eq_getElem h
    rw [getElem?_set_ne (by omega), l2] at this
    injection this with this
    exact this.symm
   have hg3 : ∀ X b, ((ao L2 v K2 ++ X).set 1 b)[K2.length]? = X[0]? := λ X b => by rw [getElem?_set_ne (by omega)]; exact l2 X
   simp [ai, p2X, n2, e0, e1, e3, hww, c2, hvcl, htw, aa, AB, hdc, FB, hst3, hg3, hg4, hxl, hF, xF]
   omega
def xg (n : Nat) (t : Tab) : Option (Bool × Tab) :=
 if fF t.m (io t) = false ∨ (f1T t).over = true then some (true, f1T t)
 else match j2 n (f1T t) with
 | none => none
 | some r => if r.2.over = true then some (true, r.2)
  else if (ix r.2.cost t.w).N < 0 then some (false, r.2)
  else some (true, oe { r.2 with cost := [] } t.m)
theorem FM {n : Nat} {t : Tab} {r : Bool × Tab} (h : xg n t = some r) : jq t /\ aD t = r := by
 unfold xg at h
 unfold jq aD
 by_cases h1 : fF t.m (io t) = false ∨ (f1T t).over = true
 ·rw [if_pos h1] at h ⊢
  injection h with h
  exact ⟨λ h' => absurd h1 h', h⟩
 ·rw [if_neg h1] at h ⊢
  cases h2 : j2 n (f1T t) with
  | none => rw [h2] at h; cases h
  | some q =>
   rw [h2] at h
   rw [dN h2]
   refine ⟨λ _ => ⟨q, n, h2⟩, ?_⟩
   simp only at h
   split at h
   ·rename_i h3; injection h with h; rw [if_pos h3]; exact h
   ·rename_i h3
    rw [if_neg h3]
    split at h
    ·rename_i h4; injection h with h; rw [if_pos h4]; exact h
    ·rename_i h4; injection h with h; rw [if_neg h4]; exact h
def sC (n : Nat) (t : Tab) (cs : List Fr) : Option (Bool × Tab) := if (s1T t cs).over = true then some (true, s1T t cs) else j2 n (s1T t cs)
theorem Dh {n : Nat} {t : Tab} {cs : List Fr} {r : Bool × Tab} (h : sC n t cs = some r) : kX t cs /\ aG t cs = r := by
 unfold sC at h
 unfold kX aG
 by_cases h1 : (s1T t cs).over = true
 ·rw [if_pos h1] at h ⊢
  injection h with h
  exact ⟨λ h' => absurd h1 h', h⟩
 ·rw [if_neg h1] at h ⊢
  exact ⟨λ _ => ⟨r, n, h⟩, dN h⟩
def yR (n : Nat) (l : Lin) : Option (List Fr × Fr × Int) :=
 if bx l ≠ 0 then some ([], F00, bx l)
 else match xg n (aw l) with
 | none => none
 | some f => if f.2.over = true then some ([], F00, 24)
  else if f.1 = false then some ([], F00, 23)
  else match sC n f.2 l.C with
  | none => none
  | some s => if s.2.over = true then some ([], F00, 24)
   else if s.1 = false then some ([], F00, 19)
   else some (xF s.2, gh (ix s.2.cost s.2.w), 0)
theorem HF {n : Nat} {l : Lin} {r : List Fr × Fr × Int} (h : yR n l = some r) : (bx l = 0 -> HaltsL l) /\ bF l = r := by
 unfold yR at h
 unfold bF
 by_cases h1 : bx l ≠ 0
 ·rw [if_pos h1] at h ⊢
  injection h with h
  exact ⟨λ h' => absurd h' h1, h⟩
 rw [if_neg h1] at h ⊢
 cases h2 : xg n (aw l) with
 | none => rw [h2] at h; cases h
 | some f =>
  rw [h2] at h
  obtain ⟨k1, k2⟩ := FM h2
  simp only at h
  rw [k2]
  by_cases h3 : f.2.over = true
  ·rw [if_pos h3] at h ⊢
   injection h with h
   exact ⟨λ _ => ⟨k1, λ h4 _ => by rw [k2, h3] at h4; cases h4⟩, h⟩
  rw [if_neg h3] at h ⊢
  by_cases h4 : f.1 = false
  ·rw [if_pos h4] at h ⊢
   injection h with h
   exact ⟨λ _ => ⟨k1, λ _ h5 => by rw [k2, h4] at h5; cases h5⟩, h⟩
  rw [if_neg h4] at h ⊢
  cases h5 : sC n f.2 l.C with
  | none => rw [h5] at h; cases h
  | some s =>
   rw [h5] at h
   obtain ⟨k3, k4⟩ := Dh h5
   simp only at h
   rw [k4]
   refine ⟨λ _ => ⟨k1, λ _ _ => by rw [k2]; exact k3⟩, ?_⟩
   split at h
   ·rename_i h6; injection h with h; rw [if_pos h6]; exact h
   ·rename_i h6
    rw [if_neg h6]
    split at h
    ·rename_i h7; injection h with h; rw [if_pos h7]; exact h
    ·rename_i h7; injection h with h; rw [if_neg h7]; exact h
def Fh : Fr := ⟨1, 2⟩
def U9 : Lin := ⟨[[⟨-1, 1⟩]], [F11], [F11]⟩
theorem ex2 : yR 20 U9 = some ([], F00, 23) := by kernel_rfl
theorem IB {β : Type} [Inhabited β] {f : Nat -> β} {n i : Nat} (h : i < n) : ix ((List.range n).map f) i = f i := by
 rw [az (by rw [length_map, List.length_range]; exact h), List.getElem_map, List.getElem_range]
theorem fE : Reads prog 3 Int I64 := GA (by kernel_rfl)
abbrev laidZ : List (String × DataW Unit) := [("graphdb/frac.zero", Rows.laid_graphdb_frac_zero)]
theorem JE {w : World} {n : Nat} {cs : List Value} {z : Int} {p : List MemPlace} (h : DataW.trod (λ _ => ()) prog w 0 (λ _ => true) false n 3 cs = some (.lit (.int .i64 z), p)) : cs = [.int .i64 z] := by
 cases n with
 | zero => simp [DataW.trod] at h
 | succ n =>
  unfold DataW.trod at h
  have hu : prog.underlying 3 = some (.int .i64) := by kernel_rfl
  rw [hu] at h
  split at h <;> simp_all
theorem hG_of_laid {W : World} (h : laidMetH prog laidZ W) : ∀ g, RepD W (λ _ => False) (.pointer (some ⟨g, 0, none⟩)) (G0 g) := by
 rw [MakeChecks.laidMetH_plain _ _ _ (by kernel_rfl)] at h
 obtain ⟨ps, ⟨g0, t0, cs0, f0, p0, q0, hg, ht, hv, hd, _, _⟩, _, _⟩ := h
 have hgt : prog.globalNamed "graphdb/frac.zero" = some 0 := by kernel_rfl
 have htt : (prog.globals[0]?).map (·.type) = some 35 := by kernel_rfl
 obtain rfl := Option.some.inj (hgt.symm.trans hg)
 obtain rfl := Option.some.inj (htt.symm.trans ht)
 obtain ⟨y0, y1, m, hda, hl, k0, k1⟩   := ChangeShapes.trod_struct2 (P := prog) (t := 35) Tryz.underlying35 hd
 have hl : cs0.toList.length = 2 := hl
 have k0 : DataW.trod (λ _ => ()) prog W 0 (λ _ => true) false m 3 ((cs0.toList.drop 0).take 1) = some y0 := k0
 have k1 : DataW.trod (λ _ => ()) prog W 0 (λ _ => true) false m 3 ((cs0.toList.drop 1).take 1) = some y1 := k1
 have e : (DataW.lit (Lit.int .i64 0) : DataW Unit) = y0.1 /\ (DataW.lit (Lit.int .i64 1) : DataW Unit) = y1.1 := by
  have := congrArg Prod.fst hda
  simp only [Rows.laid_graphdb_frac_zero, DataW.agg.injEq, List.cons.injEq, and_true] at this
  exact this
 obtain ⟨a0, b0⟩ := y0
 obtain ⟨a1, b1⟩ := y1
 obtain ⟨rfl, rfl⟩ := e
 have c0 := JE k0
 have c1 := JE k1
 have hcs : cs0.toList = [.int .i64 0, .int .i64 1] := by
  match hc : cs0.toList with
  | [x, y] => rw [hc] at c0 c1; simp at c0 c1; rw [c0, c1]
  | [] => rw [hc] at hl; simp at hl
  | [_] => rw [hc] at hl; simp at hl
  | _ :: _ :: _ :: _ => rw [hc] at hl; simp at hl
 intro g
 unfold G0
 split
 ·rename_i hg0
  subst hg0
  unfold World.var? at hv
  rw [hgt] at hv
  simp only [Option.bind_some] at hv
  split at hv
  ·rename_i cs t fr hb
   injection hv with hv
   subst hv
   have hcell : ∀ j, W.cell? ⟨0, 0 + j, none⟩ = cs.toList[j]? := λ j => by
    unfold World.cell?
    simp [hb]
   refine .iptr 0 0 _ (λ j => if j = 0 then .int .i64 0 else .int .i64 1) (by have := (Array.getElem?_eq_some_iff.1 hb).1; exact this) id (λ j hj => ?_) (λ j v hj => ?_)
   ·have hj : j < 2 := hj
    rw [hcell, hcs]
    match j, hj with
    | 0, _ => exact ⟨rfl, rfl⟩
    | 1, _ => exact ⟨rfl, rfl⟩
   ·match j, hj with
    | 0, hj => simp at hj; rw [<- hj]; exact .int _ _
    | 1, hj => simp at hj; rw [<- hj]; exact .int _ _
    | j + 2, hj => simp at hj
  ·cases hv
 ·exact .undef _
structure QT where
 T : Nat -> Nat -> Rat
 c : Nat -> Rat
 b : Nat -> Nat
def cy (t : QT) (r j : Nat) : QT where
 T i k := if i = r then t.T r k / t.T r j else t.T i k - t.T i j * (t.T r k / t.T r j)
 c k := t.c k - t.c j * (t.T r k / t.T r j)
 b i := if i = r then j else t.b i
structure WF (m w : Nat) (t : QT) : Prop where
 unit : ∀ i, i < m -> t.b i < w -> ∀ i', i' < m -> t.T i' (t.b i) = if i' = i then 1 else 0
 cost : ∀ i, i < m -> t.b i < w -> t.c (t.b i) = 0
 rhs : ∀ i, i < m -> 0 <= t.T i w
structure Bl (m w : Nat) (t : QT) (r j : Nat) : Prop where
 jw : j < w
 neg : t.c j < 0
 ent : ∀ k, k < j -> 0 <= t.c k
 rm : r < m
 pos : 0 < t.T r j
 least : ∀ i, i < m -> 0 < t.T i j -> t.T r w / t.T r j < t.T i w / t.T i j ∨ (t.T r w / t.T r j = t.T i w / t.T i j /\ t.b r <= t.b i)
theorem uc {a p : Rat} (h : p ≠ 0) : a / p * p = a := by grind
theorem lE {p : Rat} (h : p ≠ 0) : p / p = 1 := by grind
theorem KK {a p : Rat} (ha : 0 <= a) (hp : 0 < p) : 0 <= a / p := by
 rw [Rat.div_def]
 exact Rat.mul_nonneg ha (Rat.le_of_lt (Rat.inv_pos.2 hp))
theorem om {p : Rat} (hp : 0 < p) : p ≠ 0 := λ h => by rw [h] at hp; exact lt_irrefl hp
section
variable {m w : Nat} {t : QT} {r j : Nat}
theorem WF.inj (h : WF m w t) {i i' : Nat} (hi : i < m) (hi' : i' < m) (hb : t.b i < w) (e : t.b i = t.b i') : i = i' := by
 have h1 := h.unit i hi hb i hi
 have h2 := h.unit i' hi' (by rw [<- e]; exact hb) i hi
 rw [<- e, h1, if_pos rfl] at h2
 by_cases hh : i = i'
 ·exact hh
 ·rw [if_neg hh] at h2
  exact absurd h2 (by decide)
theorem WF.piv (h : WF m w t) (hB : Bl m w t r j) : WF m w (cy t r j) := by
 have hp := om hB.pos
 refine ⟨λ i hi hb i' hi' => ?_, λ i hi hb => ?_, λ i hi => ?_⟩
 ·show (if i' = r then _ else _) = _
  by_cases hir : i = r
  ·subst hir
   have e : (cy t i j).b i = j := if_pos rfl
   rw [e]
   by_cases hi2 : i' = i
   ·subst hi2
    rw [if_pos rfl, if_pos rfl]
    exact lE hp
   ·rw [if_neg hi2, if_neg hi2, lE hp]
    grind
  ·have e : (cy t r j).b i = t.b i := if_neg hir
   rw [e] at hb ⊢
   have h0 : t.T r (t.b i) = 0 := by
    have := h.unit i hi hb r hB.rm
    rwa [if_neg (λ h => hir h.symm)] at this
   rw [h0]
   by_cases hi2 : i' = r
   ·subst hi2
    rw [if_pos rfl, if_neg (λ h => hir h.symm)]
    grind
   ·rw [if_neg hi2, h.unit i hi hb i' hi']
    grind
 ·show t.c _ - t.c j * (t.T r _ / t.T r j) = 0
  by_cases hir : i = r
  ·subst hir
   have e : (cy t i j).b i = j := if_pos rfl
   rw [e, lE hp]
   grind
  ·have e : (cy t r j).b i = t.b i := if_neg hir
   rw [e] at hb ⊢
   have h0 : t.T r (t.b i) = 0 := by
    have := h.unit i hi hb r hB.rm
    rwa [if_neg (λ h => hir h.symm)] at this
   rw [h0, h.cost i hi hb]
   grind
 ·show 0 <= (if i = r then _ else _)
  have hth := KK (h.rhs r hB.rm) hB.pos
  split
  ·exact hth
  ·have hrw := h.rhs i hi
   by_cases hij : 0 < t.T i j
   ·have hle : t.T r w / t.T r j <= t.T i w / t.T i j := by
     rcases hB.least i hi hij with h1 | ⟨h1, _⟩
     ·exact Rat.le_of_lt h1
     ·rw [h1]; exact Rat.le_refl
    have := Rat.mul_le_mul_of_nonneg_left hle (Rat.le_of_lt hij)
    have e : t.T i j * (t.T i w / t.T i j) = t.T i w := by rw [Rat.mul_comm]; exact uc (om hij)
    rw [e] at this
    grind
   ·have : 0 <= (- t.T i j) * (t.T r w / t.T r j) := Rat.mul_nonneg (by grind) hth
    grind
end
def Sm : Nat -> (Nat -> Rat) -> Rat
 | 0, _ => 0
 | n + 1, f => Sm n f + f n
theorem ay {f g : Nat -> Rat} : ∀ {n : Nat}, (∀ i, i < n -> f i = g i) -> Sm n f = Sm n g
 | 0, _ => rfl
 | n + 1, h => by unfold Sm; rw [ay (λ i hi => h i (by omega)), h n (by omega)]
theorem bJ : ∀ (n : Nat), Sm n (λ _ => 0) = 0
 | 0 => rfl
 | n + 1 => by unfold Sm; rw [bJ n]; grind
theorem iL (f g : Nat -> Rat) : ∀ n, Sm n (λ i => f i + g i) = Sm n f + Sm n g
 | 0 => by unfold Sm; grind
 | n + 1 => by unfold Sm; rw [iL f g n]; grind
theorem dl (a : Rat) (f : Nat -> Rat) : ∀ n, Sm n (λ i => a * f i) = a * Sm n f
 | 0 => by unfold Sm; grind
 | n + 1 => by unfold Sm; rw [dl a f n]; grind
theorem cZ {f : Nat -> Rat} : ∀ {n i : Nat}, i < n -> (∀ k, k < n -> k ≠ i -> f k = 0) -> Sm n f = f i
 | 0, _, h, _ => by omega
 | n + 1, i, h, hz => by
  unfold Sm
  by_cases hi : i = n
  ·subst hi
   rw [ay (g := λ _ => 0) (λ k hk => hz k (by omega) (by omega)), bJ]
   grind
  ·rw [cZ (i := i) (by omega) (λ k hk hki => hz k (by omega) hki), hz n (by omega) (by omega)]
   grind
theorem CQ {f : Nat -> Rat} : ∀ {n : Nat}, 0 < Sm n f -> ∃ i, i < n /\ 0 < f i
 | 0, h => absurd h (by unfold Sm; decide)
 | n + 1, h => by
  unfold Sm at h
  by_cases hf : 0 < f n
  ·exact ⟨n, by omega, hf⟩
  ·obtain ⟨i, hi, hfi⟩ := CQ (n := n) (f := f) (by grind)
   exact ⟨i, by omega, hfi⟩
theorem fT {f : Nat -> Rat} : ∀ {n : Nat}, (∀ i, i < n -> 0 <= f i) -> 0 <= Sm n f
 | 0, _ => by unfold Sm; exact Rat.le_refl
 | n + 1, h => by
  have h1 := fT (n := n) (f := f) (λ i hi => h i (by omega))
  have h2 := h n (by omega)
  unfold Sm
  grind
inductive Sp (T : Nat -> Nat -> Rat) (N : Nat -> Prop) : (Nat -> Rat) -> Prop
 | zero : Sp T N (λ _ => 0)
 | add {f : Nat -> Rat} (l : Nat) (a : Rat) : N l -> Sp T N f -> Sp T N (λ k => f k + a * T l k)
section
variable {T T' : Nat -> Nat -> Rat} {N : Nat -> Prop} {f g : Nat -> Rat}
theorem Sp.eq (h : Sp T N f) (e : ∀ k, g k = f k) : Sp T N g := by
 rw [show g = f from funext e]
 exact h
theorem Sp.plus (hf : Sp T N f) (hg : Sp T N g) : Sp T N (λ k => f k + g k) := by
 induction hg with
 | zero => exact hf.eq (λ k => by grind)
 | add l a hl hg ih => exact (ih.add l a hl).eq (λ k => by grind)
theorem Sp.smul (a : Rat) (hf : Sp T N f) : Sp T N (λ k => a * f k) := by
 induction hf with
 | zero => exact Sp.zero.eq (λ k => by grind)
 | add l b hl hg ih => exact (ih.add l (a * b) hl).eq (λ k => by grind)
theorem Sp.row {l : Nat} (hl : N l) : Sp T N (T l) := (Sp.zero.add l 1 hl).eq (λ k => by grind)
theorem Sp.trans (h : ∀ l, N l -> Sp T N (T' l)) (hf : Sp T' N f) : Sp T N f := by
 induction hf with
 | zero => exact Sp.zero
 | add l a hl _ ih => exact (ih.plus ((h l hl).smul a)).eq (λ k => by grind)
theorem Sp.coef {m : Nat} (hN : ∀ l, N l -> l < m) (hf : Sp T N f) : ∃ L : Nat -> Rat, (∀ l, ¬ N l -> L l = 0) /\ ∀ k, f k = Sm m (λ l => L l * T l k) := by
 induction hf with
 | zero => exact ⟨λ _ => 0, λ _ _ => rfl, λ k => by rw [ay (g := λ _ => 0) (λ i _ => by grind), bJ]⟩
 | @add f l a hl _ ih =>
  obtain ⟨L, h1, h2⟩ := ih
  refine ⟨λ x => L x + if x = l then a else 0, λ x hx => ?_, λ k => ?_⟩
  ·show L x + (if x = l then a else 0) = 0
   rw [h1 x hx, if_neg (λ e => hx (by rw [e]; exact hl))]
   grind
  ·have e : Sm m (λ x => (L x + if x = l then a else 0) * T x k) = Sm m (λ x => L x * T x k) + Sm m (λ x => (if x = l then a else 0) * T x k) := by
    rw [<- iL]
    exact ay (λ i _ => by grind)
   show f k + a * T l k = _
   rw [e, cZ (f := λ x => (if x = l then a else 0) * T x k) (hN l hl) (λ x _ hx => by show (if x = l then a else 0) * T x k = 0; rw [if_neg hx]; grind), h2 k]
   show _ = _ + (if l = l then a else 0) * T l k
   rw [if_pos rfl]
end
theorem Sp.coefB {m w : Nat} {t : QT} {N : Nat -> Prop} {f : Nat -> Rat} (h : WF m w t) (hN : ∀ l, N l -> l < m /\ t.b l < w) (hf : Sp t.T N f) : ∃ L : Nat -> Rat, (∀ l, ¬ N l -> L l = 0) /\ (∀ l, N l -> L l = f (t.b l)) /\ ∀ k, f k = Sm m (λ l => L l * t.T l k) := by
 obtain ⟨L, h1, h2⟩ := hf.coef (λ l hl => (hN l hl).1)
 refine ⟨L, h1, λ l hl => ?_, h2⟩
 obtain ⟨k1, k2⟩ := hN l hl
 rw [h2, cZ k1 (λ x hx hxl => by rw [h.unit l k1 k2 x hx, if_neg hxl]; grind), h.unit l k1 k2 l k1, if_pos rfl]
 grind
section
variable {m w : Nat} {t : QT} {r j : Nat} {N : Nat -> Prop}
theorem Kk (hr : N r) (hp : t.T r j ≠ 0) : ∀ l, N l -> Sp t.T N ((cy t r j).T l) := λ l hl => by
 by_cases hlr : l = r
 ·subst hlr
  refine ((Sp.row hl).smul (1 / t.T l j)).eq (λ k => ?_)
  show (if l = l then _ else _) = _
  rw [if_pos rfl]
  grind
 ·refine ((Sp.row hl).plus ((Sp.row hr).smul (- (t.T l j / t.T r j)))).eq (λ k => ?_)
  show (if l = r then _ else _) = _
  rw [if_neg hlr]
  grind
theorem Fk (hr : N r) (hp : t.T r j ≠ 0) : ∀ l, N l -> Sp (cy t r j).T N (t.T l) := λ l hl => by
 have er : ∀ k, (cy t r j).T r k = t.T r k / t.T r j := λ k => if_pos rfl
 by_cases hlr : l = r
 ·subst hlr
  refine ((Sp.row hl).smul (t.T l j)).eq (λ k => ?_)
  rw [er]
  grind
 ·refine ((Sp.row hl).plus ((Sp.row hr).smul (t.T l j))).eq (λ k => ?_)
  rw [er]
  have : (cy t r j).T l k = t.T l k - t.T l j * (t.T r k / t.T r j) := if_neg hlr
  rw [this]
  grind
theorem zj (hr : N r) (hp : t.T r j ≠ 0) : Sp t.T N (λ k => (cy t r j).c k - t.c k) :=
 ((Sp.row hr).smul (- (t.c j / t.T r j))).eq (λ k => by
   show t.c k - t.c j * (t.T r k / t.T r j) - t.c k = _
   grind)
end
theorem kv {P : Nat -> Prop} : ∀ {a b : Nat}, a <= b -> P a -> ¬ P b -> ∃ n, a <= n /\ n < b /\ P n /\ ¬ P (n + 1)
 | a, 0, h, ha, hb => absurd (by rw [show a = 0 by omega] at ha; exact ha) hb
 | a, b + 1, h, ha, hb => by
  by_cases hab : a = b + 1
  ·rw [hab] at ha; exact absurd ha hb
  ·by_cases hP : P b
   ·exact ⟨b, by omega, by omega, hP, hb⟩
   ·obtain ⟨n, h1, h2, h3⟩ := kv (a := a) (b := b) (by omega) ha hP
    exact ⟨n, h1, by omega, h3⟩
theorem J8 {P : Nat -> Prop} : ∀ {w : Nat}, (∀ v, P v -> v < w) -> (∃ v, P v) -> ∃ v, P v /\ ∀ u, P u -> u <= v
 | 0, h, ⟨v, hv⟩ => absurd (h v hv) (by omega)
 | w + 1, h, ⟨v, hv⟩ => by
  by_cases hw : P w
  ·exact ⟨w, hw, λ u hu => by have := h u hu; omega⟩
  ·exact J8 (w := w) (λ u hu => by
    have := h u hu
    by_cases e : u = w
    ·rw [e] at hu; exact absurd hu hw
    ·omega) ⟨v, hv⟩
structure Run (m w d : Nat) (t : Nat -> QT) (r j : Nat -> Nat) : Prop where
 bl : ∀ n, n < d -> Bl m w (t n) (r n) (j n)
 st : ∀ n, n < d -> t (n + 1) = cy (t n) (r n) (j n)
 wf : WF m w (t 0)
section
variable {m w d : Nat} {t : Nat -> QT} {r j : Nat -> Nat}
theorem Run.wfn (R : Run m w d t r j) : ∀ {n}, n <= d -> WF m w (t n)
 | 0, _ => R.wf
 | n + 1, h => by rw [R.st n (by omega)]; exact (R.wfn (n := n) (by omega)).piv (R.bl n (by omega))
theorem Run.bn (R : Run m w d t r j) {n : Nat} (h : n < d) (i : Nat) : (t (n + 1)).b i = if i = r n then j n else (t n).b i := by rw [R.st n h]; rfl
theorem Run.stay (R : Run m w d t r j) {i : Nat} : ∀ {n k}, n + k <= d -> (t n).b i < w -> (t (n + k)).b i < w
 | n, 0, _, h => h
 | n, k + 1, hk, h => by
  rw [show n + (k + 1) = (n + k) + 1 by omega, R.bn (by omega)]
  split
  ·exact (R.bl (n + k) (by omega)).jw
  ·exact R.stay (by omega) h
theorem Run.not_back (R : Run m w d t r j) (hd : 0 < d) (hb : ∀ i, i < m -> (t d).b i = (t 0).b i) : False := by
 obtain ⟨N, hN⟩ : ∃ N : Nat -> Prop, N = λ l => l < m /\ (t 0).b l < w := ⟨_, rfl⟩
 have hNr : ∀ n, n < d -> N (r n) := λ n hn => by
  have h1 : (t (n + 1)).b (r n) < w := by rw [R.bn hn, if_pos rfl]; exact (R.bl n hn).jw
  have h2 := R.stay (n := n + 1) (k := d - (n + 1)) (by omega) h1
  rw [show n + 1 + (d - (n + 1)) = d by omega, hb _ (R.bl n hn).rm] at h2
  rw [hN]
  exact ⟨(R.bl n hn).rm, h2⟩
 have hNn : ∀ n, n <= d -> ∀ l, N l -> l < m /\ (t n).b l < w := λ n hn l hl => by
  rw [hN] at hl
  have := R.stay (n := 0) (k := n) (i := l) (by omega) hl.2
  rw [zero_add] at this
  exact ⟨hl.1, this⟩
 have hsp : ∀ n, n <= d -> (∀ l, N l -> Sp (t 0).T N ((t n).T l)) /\ (∀ l, N l -> Sp (t n).T N ((t 0).T l)) /\ Sp (t 0).T N (λ k => (t n).c k - (t 0).c k) := by
  intro n
  induction n with
  | zero => exact λ _ => ⟨λ l hl => Sp.row hl, λ l hl => Sp.row hl, Sp.zero.eq (λ k => by grind)⟩
  | succ n ih =>
   intro hn
   obtain ⟨h1, h2, h3⟩ := ih (by omega)
   have hr := hNr n (by omega)
   have hp := om (R.bl n (by omega)).pos
   rw [R.st n (by omega)]
   refine ⟨λ l hl => Sp.trans h1 (Kk hr hp l hl), λ l hl => Sp.trans (Fk hr hp) (h2 l hl), ?_⟩
   exact (h3.plus (Sp.trans h1 (zj hr hp))).eq (λ k => by grind)
 have hcc : ∀ n n', n <= d -> n' <= d -> Sp (t n).T N (λ k => (t n').c k - (t n).c k) := λ n n' hn hn' =>
  Sp.trans (hsp n hn).2.1 (((hsp n' hn').2.2.plus ((hsp n hn).2.2.smul (-1))).eq (λ k => by grind))
 -- the costs are back where they were
 have hcd : (t d).c w = (t 0).c w := by
  obtain ⟨L, h1, h2, h3⟩ := (hcc 0 d (by omega) (by omega)).coefB R.wf (hNn 0 (by omega))
  have h4 := h3 w
  rw [ay (g := λ _ => 0) (λ l hl => ?_), bJ] at h4
  ·grind
  ·by_cases hl' : N l
   ·have h5 := h2 l hl'
    obtain ⟨q1, q2⟩ := hNn 0 (by omega) l hl'
    obtain ⟨q3, q4⟩ := hNn d (by omega) l hl'
    rw [R.wf.cost l q1 q2] at h5
    have h6 := (R.wfn (n := d) (by omega)).cost l q3 q4
    rw [hb l q1] at h6
    rw [h6] at h5
    rw [h5]
    grind
   ·rw [h1 l hl']
    grind
 have hcs : ∀ n, n < d -> (t (n + 1)).c w = (t n).c w - (t n).c (j n) * ((t n).T (r n) w / (t n).T (r n) (j n)) := λ n hn => by rw [R.st n hn]; rfl
 have hth : ∀ n, n < d -> 0 <= (t n).T (r n) w / (t n).T (r n) (j n) := λ n hn => KK ((R.wfn (n := n) (by omega)).rhs _ (R.bl n hn).rm) (R.bl n hn).pos
 have hup : ∀ n, n < d -> (t n).c w <= (t (n + 1)).c w := λ n hn => by
  have h1 := hcs n hn
  have h2 : 0 <= - (t n).c (j n) * ((t n).T (r n) w / (t n).T (r n) (j n)) := Rat.mul_nonneg (by have := (R.bl n hn).neg; grind) (hth n hn)
  grind
 have hmono : ∀ k n, n + k <= d -> (t n).c w <= (t (n + k)).c w := by
  intro k
  induction k with
  | zero => exact λ n _ => Rat.le_refl
  | succ k ih => exact λ n hk => Rat.le_trans (ih n (by omega)) (hup (n + k) (by omega))
 have hz : ∀ n, n < d -> (t n).T (r n) w / (t n).T (r n) (j n) = 0 := λ n hn => by
  have h1 := hmono n 0 (by omega)
  have h2 := hmono (d - (n + 1)) (n + 1) (by omega)
  rw [zero_add] at h1
  rw [show n + 1 + (d - (n + 1)) = d by omega, hcd] at h2
  have h3 := hcs n hn
  have h4 := hup n hn
  have h5 : (t n).c (j n) * ((t n).T (r n) w / (t n).T (r n) (j n)) = 0 := by grind
  rcases Rat.mul_eq_zero.1 h5 with h6 | h6
  ·have := (R.bl n hn).neg
   rw [h6] at this
   exact absurd this lt_irrefl
  ·exact h6
 have hrc : ∀ n, n <= d -> ∀ i, i < m -> (t n).T i w = (t 0).T i w := by
  intro n
  induction n with
  | zero => exact λ _ _ _ => rfl
  | succ n ih =>
   intro hn i hi
   have h1 := hz n (by omega)
   have h2 := ih (by omega) i hi
   rw [R.st n (by omega)]
   show (if i = r n then _ else _) = _
   rw [h1]
   split
   ·rename_i h
    rw [<- h2, h]
    have := uc (a := (t n).T (r n) w) (om (R.bl n (by omega)).pos)
    rw [h1] at this
    grind
   ·rw [h2]
    grind
 have hr0 : ∀ n, n < d -> (t 0).T (r n) w = 0 := λ n hn => by
  have := uc (a := (t n).T (r n) w) (om (R.bl n hn).pos)
  rw [hz n hn, hrc n (by omega) _ (R.bl n hn).rm] at this
  grind
 -- what is basic at some times and at others not
 obtain ⟨bas, hbas⟩ : ∃ bas : Nat -> Nat -> Prop, bas = λ n v => ∃ i, i < m /\ (t n).b i = v := ⟨_, rfl⟩
 have nb : ∀ n, n <= d -> ∀ v, v < w -> (t n).c v ≠ 0 -> ¬ bas n v := λ n hn v hv hc h => by
  rw [hbas] at h
  obtain ⟨i, hi, e⟩ := h
  exact hc (by rw [<- e]; exact (R.wfn hn).cost i hi (by rw [e]; exact hv))
 have ej : ∀ n, n < d -> ¬ bas n (j n) := λ n hn => nb n (by omega) _ (R.bl n hn).jw (λ h => by have := (R.bl n hn).neg; rw [h] at this; exact lt_irrefl this)
 have ej' : ∀ n, n < d -> bas (n + 1) (j n) := λ n hn => by rw [hbas]; exact ⟨r n, (R.bl n hn).rm, by rw [R.bn hn, if_pos rfl]⟩
 have lv : ∀ n, n < d -> ∀ v, bas n v -> ¬ bas (n + 1) v -> (t n).b (r n) = v := λ n hn v h1 h2 => by
  rw [hbas] at h1 h2
  obtain ⟨i, hi, e⟩ := h1
  by_cases hir : i = r n
  ·rw [<- hir]; exact e
  ·exact absurd ⟨i, hi, by rw [R.bn hn, if_neg hir]; exact e⟩ h2
 have en : ∀ n, n < d -> ∀ v, ¬ bas n v -> bas (n + 1) v -> j n = v := λ n hn v h1 h2 => by
  rw [hbas] at h1 h2
  obtain ⟨i, hi, e⟩ := h2
  rw [R.bn hn] at e
  by_cases hir : i = r n
  ·rwa [if_pos hir] at e
  ·rw [if_neg hir] at e
   exact absurd ⟨i, hi, e⟩ h1
 have b0d : ∀ v, bas d v ↔ bas 0 v := λ v => by
  rw [hbas]
  exact ⟨λ ⟨i, hi, e⟩ => ⟨i, hi, by rw [<- hb i hi]; exact e⟩, λ ⟨i, hi, e⟩ => ⟨i, hi, by rw [hb i hi]; exact e⟩⟩
 obtain ⟨fk, hfk⟩ : ∃ fk : Nat -> Prop, fk = λ v => v < w /\ (∃ n, n <= d /\ bas n v) /\ ∃ n, n <= d /\ ¬ bas n v := ⟨_, rfl⟩
 have fkj : ∀ n, n < d -> fk (j n) := λ n hn => by rw [hfk]; exact ⟨(R.bl n hn).jw, ⟨n + 1, by omega, ej' n hn⟩, ⟨n, by omega, ej n hn⟩⟩
 have fk1 : ∀ v, fk v -> ∃ n, n < d /\ bas n v /\ ¬ bas (n + 1) v := λ v h => by
  rw [hfk] at h
  obtain ⟨_, ⟨a, ha, hav⟩, ⟨b, hb', hbv⟩⟩ := h
  by_cases h0 : bas 0 v
  ·obtain ⟨n, h1, h2, h3⟩ := kv (P := λ n => bas n v) (zero_le b) h0 hbv
   exact ⟨n, by omega, h3⟩
  ·obtain ⟨n, h1, h2, h3⟩ := kv (P := λ n => bas n v) ha hav (λ h => h0 ((b0d v).1 h))
   exact ⟨n, by omega, h3⟩
 have fk2 : ∀ v, fk v -> ∃ n, n < d /\ ¬ bas n v /\ bas (n + 1) v := λ v h => by
  rw [hfk] at h
  obtain ⟨_, ⟨a, ha, hav⟩, ⟨b, hb', hbv⟩⟩ := h
  by_cases h0 : bas 0 v
  ·obtain ⟨n, h1, h2, h3, h4⟩ := kv (P := λ n => ¬ bas n v) hb' hbv (λ h => h ((b0d v).2 h0))
   exact ⟨n, by omega, h3, Classical.byContradiction h4⟩
  ·obtain ⟨n, h1, h2, h3, h4⟩ := kv (P := λ n => ¬ bas n v) (zero_le a) h0 (λ h => h hav)
   exact ⟨n, by omega, h3, Classical.byContradiction h4⟩
 obtain ⟨v, hv, hmax⟩ := J8 (P := fk) (w := w) (λ v h => by rw [hfk] at h; exact h.1) ⟨_, fkj 0 hd⟩
 have hvw : v < w := by rw [hfk] at hv; exact hv.1
 obtain ⟨n1, hn1, q1, q2⟩ := fk1 v hv
 obtain ⟨n2, hn2, q3, q4⟩ := fk2 v hv
 have e1 := lv n1 hn1 v q1 q2
 have e2 := en n2 hn2 v q3 q4
 have B1 := R.bl n1 hn1
 have B2 := R.bl n2 hn2
 have W1 := R.wfn (n := n1) (by omega)
 have W2 := R.wfn (n := n2) (by omega)
 have hs := hmax _ (fkj n1 hn1)
 have hsv : j n1 ≠ v := λ h => ej n1 hn1 (by rw [h]; exact q1)
 have hc2 : 0 <= (t n2).c (j n1) := B2.ent _ (by omega)
 obtain ⟨L, h1, h2, h3⟩ := (hcc n1 n2 (by omega) (by omega)).coefB W1 (hNn n1 (by omega))
 have h4 := h3 (j n1)
 have hpos : 0 < Sm m (λ l => L l * (t n1).T l (j n1)) := by
  rw [<- h4]
  have := B1.neg
  grind
 obtain ⟨l, hl, hlp⟩ := CQ hpos
 by_cases hNl : N l
 case neg =>
  rw [h1 l hNl, zero_mul] at hlp
  exact lt_irrefl hlp
 obtain ⟨_, hlw⟩ := hNn n1 (by omega) l hNl
 have hLl := h2 l hNl
 rw [W1.cost l hl hlw] at hLl
 have hLl : L l = (t n2).c ((t n1).b l) := by rw [hLl]; grind
 rw [hLl] at hlp
 have hu1 : bas n1 ((t n1).b l) := by rw [hbas]; exact ⟨l, hl, rfl⟩
 have hu2 : ¬ bas n2 ((t n1).b l) := nb n2 (by omega) _ hlw (λ h => by rw [h, zero_mul] at hlp; exact lt_irrefl hlp)
 have hufk : fk ((t n1).b l) := by rw [hfk]; exact ⟨hlw, ⟨n1, by omega, hu1⟩, ⟨n2, by omega, hu2⟩⟩
 have huv := hmax _ hufk
 by_cases hue : (t n1).b l = v
 ·have hlr : l = r n1 := W1.inj hl B1.rm hlw (by rw [hue, e1])
  rw [hue] at hlp
  have g1 := B1.pos
  have g2 := B2.neg
  rw [e2] at g2
  rw [hlr] at hlp
  have : 0 <= - (t n2).c v * (t n1).T (r n1) (j n1) := Rat.mul_nonneg (by grind) (Rat.le_of_lt g1)
  grind
 ·have g1 : 0 <= (t n2).c ((t n1).b l) := B2.ent _ (by omega)
  have g2 : 0 < (t n1).T l (j n1) := by
   apply Classical.byContradiction
   intro hn
   have : 0 <= (t n2).c ((t n1).b l) * - (t n1).T l (j n1) := Rat.mul_nonneg g1 (by grind)
   grind
  -- row l is pivoted at some time: its right side is zero
  have hrow : ∃ n, n < d /\ r n = l := by
   apply Classical.byContradiction
   intro hn
   have keep : ∀ n, n <= d -> (t n).b l = (t 0).b l := by
    intro n
    induction n with
    | zero => exact λ _ => rfl
    | succ n ih => exact λ hn' => by rw [R.bn (by omega), if_neg (λ h => hn ⟨n, by omega, h.symm⟩)]; exact ih (by omega)
   refine hu2 ?_
   rw [hbas]
   exact ⟨l, hl, by rw [keep n2 (by omega), keep n1 (by omega)]⟩
  obtain ⟨n, hn, hnl⟩ := hrow
  have hl0 := hr0 n hn
  rw [hnl] at hl0
  have z1 := hrc n1 (by omega) l hl
  have z2 := hz n1 hn1
  rcases B1.least l hl g2 with h | ⟨_, h⟩
  ·rw [z2, z1, hl0] at h
   grind
  ·rw [e1] at h
   omega
end
def code (B : Nat) : Nat -> (Nat -> Nat) -> Nat
 | 0, _ => 0
 | k + 1, f => code B k f * (B + 1) + f k
theorem Fv {B : Nat} {f : Nat -> Nat} : ∀ {m}, (∀ i, i < m -> f i <= B) -> code B m f < (B + 1) ^ m
 | 0, _ => by show 0 < (B + 1) ^ 0; rw [Nat.pow_zero]; exact Nat.one_pos
 | m + 1, h => by
  have h1 := Fv (B := B) (f := f) (m := m) (λ i hi => h i (by omega))
  have h2 := h m (by omega)
  unfold code
  rw [pow_succ]
  have : (code B m f + 1) * (B + 1) <= (B + 1) ^ m * (B + 1) := Nat.mul_le_mul_right _ h1
  rw [add_mul] at this
  omega
theorem Ar {B : Nat} {f g : Nat -> Nat} : ∀ {m}, (∀ i, i < m -> f i <= B) -> (∀ i, i < m -> g i <= B) -> code B m f = code B m g -> ∀ i, i < m -> f i = g i
 | 0, _, _, _, i, hi => by omega
 | m + 1, hf, hg, e, i, hi => by
  unfold code at e
  have h1 := hf m (by omega)
  have h2 := hg m (by omega)
  have e1 : f m = g m := by
   have := congrArg (· % (B + 1)) e
   simp only [Nat.mul_add_mod_self_right, mod_eq_of_lt (show f m < B + 1 by omega), mod_eq_of_lt (show g m < B + 1 by omega)] at this
   exact this
  have e2 : code B m f = code B m g := by
   rw [e1] at e
   exact Nat.eq_of_mul_eq_mul_right (Nat.succ_pos B) (Nat.add_right_cancel e)
  by_cases him : i = m
  ·rw [him]; exact e1
  ·exact Ar (λ k hk => hf k (by omega)) (λ k hk => hg k (by omega)) e2 i (by omega)
theorem PA {N : Nat} {f : Nat -> Nat} (h : ∀ n, f n < N) : ∃ a b, a < b /\ f a = f b := by
 apply Classical.byContradiction
 intro hn
 have inj : ∀ a b, f a = f b -> a = b := λ a b e => by
  rcases Nat.lt_trichotomy a b with h1 | h1 | h1
  ·exact absurd ⟨a, b, h1, e⟩ hn
  ·exact h1
  ·exact absurd ⟨b, a, h1, e.symm⟩ hn
 have hnd : ((List.range (N + 1)).map f).Nodup := List.Pairwise.map _ (λ a b (hab : a ≠ b) e => hab (inj a b e)) List.nodup_range
 have := hnd.length_le_of_subset (l₂ := List.range N) (λ x hx => by
  obtain ⟨a, _, rfl⟩ := mem_map.1 hx
  exact List.mem_range.2 (h a))
 simp only [length_map, List.length_range] at this
 omega
theorem Cj {m w B : Nat} {t : Nat -> QT} {r j : Nat -> Nat} (h0 : WF m w (t 0)) (hw : w <= B) (hb : ∀ i, i < m -> (t 0).b i <= B) (hB : ∀ n, Bl m w (t n) (r n) (j n)) (hs : ∀ n, t (n + 1) = cy (t n) (r n) (j n)) : False := by
 have hbn : ∀ n i, i < m -> (t n).b i <= B := by
  intro n
  induction n with
  | zero => exact hb
  | succ n ih =>
   intro i hi
   rw [hs n]
   show (if i = r n then _ else _) <= B
   split
   ·have := (hB n).jw; omega
   ·exact ih i hi
 obtain ⟨a, b, hab, e⟩ := PA (f := λ n => code B m (t n).b) (λ n => Fv (hbn n))
 have hwf : ∀ n, WF m w (t n) := by
  intro n
  induction n with
  | zero => exact h0
  | succ n ih => rw [hs n]; exact ih.piv (hB n)
 have R : Run m w (b - a) (λ n => t (a + n)) (λ n => r (a + n)) (λ n => j (a + n)) := ⟨λ n _ => hB _, λ n _ => hs _, hwf _⟩
 refine R.not_back (by omega) (λ i hi => ?_)
 show (t (a + (b - a))).b i = (t (a + 0)).b i
 rw [show a + (b - a) = b by omega, Nat.add_zero]
 exact (Ar (hbn a) (hbn b) e i hi).symm
def V (f : Fr) : Rat := (f.N : Rat) / (f.D : Rat)
theorem cq {d : Int} (h : 1 <= d) : (0 : Rat) < (d : Rat) := by
 have : ((0 : Int) : Rat) < (d : Rat) := Rat.intCast_lt_intCast.2 (by omega)
 exact this
theorem tu {n d : Int} {p : Fr} (hd : 1 <= d) (h : toO (oG n d) = some p) : V p = (n : Rat) / (d : Rat) /\ aj p := by
 have g1 : 0 < Int.gcd n d := Int.gcd_pos_of_ne_zero_right _ (by omega)
 obtain ⟨x, hx⟩ := Int.gcd_dvd_left n d
 obtain ⟨y, hy⟩ := Int.gcd_dvd_right n d
 have xy : Int.gcd x y = 1 := by
  have := Int.gcd_mul_left (Int.gcd n d) x y
  rw [<- hx, <- hy, Int.natAbs_natCast] at this
  exact Nat.eq_of_mul_eq_mul_left g1 (by omega)
 unfold oG at h
 generalize hg : Int.gcd n d = g at *
 have q1 : n.tdiv g = x := by rw [hx, Int.mul_tdiv_cancel_left _ (by omega)]
 have q2 : d.tdiv g = y := by rw [hy, Int.mul_tdiv_cancel_left _ (by omega)]
 rw [q1, q2] at h
 have hr := ER h
 unfold toO mo at h
 by_cases h4 : InR x /\ InR y
 case neg => rw [if_neg h4] at h; simp at h
 rw [if_pos h4, if_pos rfl] at h
 injection h with h
 subst h
 have hy1 : 1 <= y := by
  have hgp : (0 : Int) < (g : Int) := by omega
  have : 0 < (g : Int) * y := by omega
  have := Int.pos_of_mul_pos_right this hgp
  omega
 have c1 := cq (d := (g : Int)) (by omega)
 have c2 := cq hy1
 refine ⟨?_, hy1, h4.2.2, h4.1, xy⟩
 show (x : Rat) / (y : Rat) = _
 rw [hx, hy, intCast_mul, intCast_mul]
 grind
theorem kH {a b p : Fr} (h : nr a b = some p) : aj a /\ aj b /\ aj p /\ V p = V a * V b := by
 unfold nr lC at h
 split at h
 ·rename_i hv
  obtain ⟨⟨a1, a2, a3, a4⟩, ⟨b1, b2, b3, b4⟩⟩ := hv
  obtain ⟨h1, h2⟩ := tu (by have := Int.mul_pos (show 0 < a.D by omega) (show 0 < b.D by omega); omega) h
  refine ⟨⟨a1, a2, a3, a4⟩, ⟨b1, b2, b3, b4⟩, h2, ?_⟩
  have c1 := cq a1
  have c2 := cq b1
  rw [h1, intCast_mul, intCast_mul]
  unfold V
  grind
 ·simp [toO] at h
theorem wP {a b p : Fr} (h : Cc a b = some p) : aj a /\ aj b /\ aj p /\ V p = V a + V b := by
 unfold Cc nA at h
 split at h
 ·rename_i hv
  obtain ⟨⟨a1, a2, a3, a4⟩, ⟨b1, b2, b3, b4⟩⟩ := hv
  obtain ⟨h1, h2⟩ := tu (by have := Int.mul_pos (show 0 < a.D by omega) (show 0 < b.D by omega); omega) h
  refine ⟨⟨a1, a2, a3, a4⟩, ⟨b1, b2, b3, b4⟩, h2, ?_⟩
  have c1 := cq a1
  have c2 := cq b1
  rw [h1, Rat.intCast_add, intCast_mul, intCast_mul, intCast_mul]
  unfold V
  grind
 ·simp [toO] at h
theorem Tq {a : Fr} (h : aj a) : (gh a).N = -a.N := by rw [kO h]
theorem sq {a : Fr} (h : aj a) : V (gh a) = - V a := by
 unfold V
 rw [Tq h, Rat.intCast_neg]
 show -(a.N : Rat) / (a.D : Rat) = _
 grind
theorem GB {a b p : Fr} (h : Ho a b = some p) (hb : aj b) : aj a /\ aj p /\ V p = V a - V b := by
 obtain ⟨h1, h2, h3, h4⟩ := wP (show Cc a (gh b) = some p from h)
 rw [sq hb] at h4
 exact ⟨h1, h3, by grind⟩
theorem vA {a b p : Fr} (h : pg a b = some p) : aj a /\ aj b /\ b.N ≠ 0 /\ aj p /\ V p = V a / V b := by
 unfold pg qy at h
 split at h
 ·rename_i hv
  have c1 := cq hv.1.1
  have c2 : (b.N : Rat) ≠ 0 := λ e => hv.2 (by
   have : (b.N : Rat) = ((0 : Int) : Rat) := e
   exact Rat.intCast_inj.1 this)
  split at h
  ·obtain ⟨h1, h2, h3, h4⟩ := kH (show nr a ⟨-b.D, -b.N⟩ = some p from h)
   refine ⟨h1, hv.1, hv.2, h3, ?_⟩
   rw [h4]
   unfold V
   rw [Rat.intCast_neg, Rat.intCast_neg]
   grind
  ·obtain ⟨h1, h2, h3, h4⟩ := kH (show nr a ⟨b.D, b.N⟩ = some p from h)
   refine ⟨h1, hv.1, hv.2, h3, ?_⟩
   rw [h4]
   unfold V
   grind
 ·simp [toO] at h
theorem JW {a f b p : Fr} (h : mnO a f b = some p) : aj a /\ aj f /\ aj b /\ aj p /\ V p = V a - V f * V b := by
 unfold mnO at h
 cases h1 : nr f b with
 | none => rw [h1] at h; cases h
 | some q =>
  rw [h1] at h
  obtain ⟨k1, k2, k3, k4⟩ := kH h1
  obtain ⟨k5, k6, k7⟩ := GB h k3
  exact ⟨k5, k1, k2, k6, by rw [k7, k4]⟩
theorem cR {a : Fr} (h : aj a) : a.N < 0 ↔ V a < 0 := by
 have c := cq h.1
 unfold V
 rw [Rat.div_lt_iff c, zero_mul]
 exact (Rat.intCast_lt_intCast (a := a.N) (b := 0)).symm
theorem iG {a : Fr} (h : aj a) : 0 < a.N ↔ 0 < V a := by
 have c := cq h.1
 unfold V
 rw [Rat.lt_div_iff c, zero_mul]
 exact (Rat.intCast_lt_intCast (a := 0) (b := a.N)).symm
theorem Dd {a : Fr} (h : aj a) : a.N = 0 ↔ V a = 0 := by
 have h1 := cR h
 have h2 := iG h
 constructor
 ·intro e
  unfold V
  rw [e]
  show ((0 : Int) : Rat) / _ = 0
  grind
 ·intro e
  rw [e] at h1 h2
  have q1 := mt h1.1 lt_irrefl
  have q2 := mt h2.1 lt_irrefl
  omega
theorem ko {a b : Fr} (ha : aj a) (hb : aj b) : a.N * b.D < b.N * a.D ↔ V a < V b := by
 have c1 := cq ha.1
 have c2 := cq hb.1
 unfold V
 rw [Rat.div_lt_iff c1]
 have e : (b.N : Rat) / (b.D : Rat) * (a.D : Rat) = (b.N : Rat) * (a.D : Rat) / (b.D : Rat) := by grind
 rw [e, Rat.lt_div_iff c2, <- intCast_mul, <- intCast_mul, Rat.intCast_lt_intCast]
theorem l6 {a b c : Int} (h : a ∣ b * c) (hg : Int.gcd b a = 1) : a ∣ c := by
 rw [<- Int.natAbs_dvd_natAbs] at h ⊢
 rw [Int.natAbs_mul] at h
 exact Nat.Coprime.dvd_of_dvd_mul_left (Nat.Coprime.symm hg) h
theorem Uc {a b : Fr} (ha : aj a) (hb : aj b) (h : V a = V b) : a = b := by
 have h1 := ko ha hb
 have h2 := ko hb ha
 rw [h] at h1 h2
 have q1 := mt h1.1 lt_irrefl
 have q2 := mt h2.1 lt_irrefl
 have e : a.N * b.D = b.N * a.D := by omega
 obtain ⟨a1, a2, a3, a4⟩ := ha
 obtain ⟨b1, b2, b3, b4⟩ := hb
 have d1 : a.D ∣ b.D := by
  have : a.D ∣ a.N * b.D := by rw [e]; exact Int.dvd_mul_left _ _
  exact l6 this a4
 have d2 : b.D ∣ a.D := by
  have : b.D ∣ b.N * a.D := by rw [<- e]; exact Int.dvd_mul_left _ _
  exact l6 this b4
 have eD : a.D = b.D := Int.le_antisymm (Int.le_of_dvd (by omega) d1) (Int.le_of_dvd (by omega) d2)
 have eN : a.N = b.N := by
  rw [eD] at e
  exact Int.eq_of_mul_eq_mul_right (by omega) e
 obtain ⟨x, y⟩ := a
 obtain ⟨u, v⟩ := b
 simp only at eD eN
 rw [eD, eN]
theorem sJ {a b : Fr} (ha : aj a) (hb : aj b) : jv a b < 0 ↔ V a < V b := by
 rw [<- ko ha hb]
 unfold jv pE sgn
 rw [if_pos ha, if_pos hb]
 split
 ·constructor <;> intro <;> omega
 ·split <;> constructor <;> intro <;> omega
theorem Ba {a b : Fr} (ha : aj a) (hb : aj b) : jv a b = 0 ↔ V a = V b := by
 constructor
 ·intro h
  have h1 := ko ha hb
  have h2 := ko hb ha
  unfold jv pE sgn at h
  rw [if_pos ha, if_pos hb] at h
  have e : a.N * b.D - b.N * a.D = 0 := by
   split at h
   ·omega
   ·split at h <;> omega
  have q1 := mt h1.2 (by omega)
  have q2 := mt h2.2 (by omega)
  grind
 ·intro h
  rw [Uc ha hb h]
  unfold jv sgn
  rw [if_neg (by omega), if_neg (by omega)]
def Lt (m : Nat) : Nat -> Prop := λ l => l < m
structure Eqv (m : Nat) (T T' : Nat -> Nat -> Rat) : Prop where
 to : ∀ l, l < m -> Sp T (Lt m) (T' l)
 back : ∀ l, l < m -> Sp T' (Lt m) (T l)
theorem Eqv.refl (m : Nat) (T : Nat -> Nat -> Rat) : Eqv m T T := ⟨λ l hl => Sp.row (N := Lt m) hl, λ l hl => Sp.row (N := Lt m) hl⟩
theorem Eqv.trans {m : Nat} {T T' T'' : Nat -> Nat -> Rat} (h : Eqv m T T') (h' : Eqv m T' T'') : Eqv m T T'' :=
 ⟨λ l hl => Sp.trans (N := Lt m) h.to (h'.to l hl), λ l hl => Sp.trans (N := Lt m) h'.back (h.back l hl)⟩
theorem Eqv.piv {m : Nat} {t : QT} {r j : Nat} (hr : r < m) (hp : t.T r j ≠ 0) : Eqv m t.T (cy t r j).T :=
 ⟨λ l hl => Kk (N := Lt m) hr hp l hl, λ l hl => Fk (N := Lt m) hr hp l hl⟩
def val (w : Nat) (f z : Nat -> Rat) : Rat := Sm w (λ k => f k * z k) - f w
def Sol (m w : Nat) (T : Nat -> Nat -> Rat) (z : Nat -> Rat) : Prop := ∀ i, i < m -> val w (T i) z = 0
section
variable {m w : Nat} {z : Nat -> Rat} {T T' : Nat -> Nat -> Rat} {f g : Nat -> Rat}
theorem EB : val w (λ k => f k + g k) z = val w f z + val w g z := by
 unfold val
 rw [ay (g := λ k => f k * z k + g k * z k) (λ k _ => by grind), iL]
 grind
theorem Fu (a : Rat) : val w (λ k => a * f k) z = a * val w f z := by
 unfold val
 rw [ay (g := λ k => a * (f k * z k)) (λ k _ => by grind), dl]
 grind
theorem yK {N : Nat -> Prop} (h : ∀ l, N l -> val w (T l) z = 0) (hf : Sp T N f) : val w f z = 0 := by
 induction hf with
 | zero =>
  unfold val
  rw [ay (g := λ _ => 0) (λ k _ => by grind), bJ]
  grind
 | @add f l a hl _ ih =>
  rw [EB (f := f) (g := λ k => a * T l k), Fu, h l hl, ih]
  grind
theorem Sol.eqv (h : Eqv m T T') (hs : Sol m w T z) : Sol m w T' z := λ i hi => yK (N := Lt m) hs (h.to i hi)
theorem Sol.eqv' (h : Eqv m T T') (hs : Sol m w T' z) : Sol m w T z := λ i hi => yK (N := Lt m) hs (h.back i hi)
end
def Dif (m : Nat) (T : Nat -> Nat -> Rat) (c c' : Nat -> Rat) : Prop := Sp T (Lt m) (λ k => c' k - c k)
theorem Dif.refl {m : Nat} {T : Nat -> Nat -> Rat} {c : Nat -> Rat} : Dif m T c c := Sp.zero.eq (λ k => by grind)
theorem Dif.trans {m : Nat} {T : Nat -> Nat -> Rat} {c c' c'' : Nat -> Rat} (h : Dif m T c c') (h' : Dif m T c' c'') : Dif m T c c'' := (h.plus h').eq (λ k => by grind)
theorem Dif.eqv {m : Nat} {T T' : Nat -> Nat -> Rat} {c c' : Nat -> Rat} (e : Eqv m T T') (h : Dif m T' c c') : Dif m T c c' := Sp.trans (N := Lt m) e.to h
theorem Dif.same {m w : Nat} {T : Nat -> Nat -> Rat} {c c' z : Nat -> Rat} (h : Dif m T c c') (hs : Sol m w T z) : val w c' z = val w c z := by
 have h1 := yK (N := Lt m) hs h
 have e : val w (λ k => c' k - c k) z = val w c' z + (-1) * val w c z := by
  rw [<- Fu, <- EB]
  congr 1
  funext k
  grind
 rw [e] at h1
 grind
theorem Dif.piv {m : Nat} {t : QT} {r j : Nat} (hr : r < m) (hp : t.T r j ≠ 0) : Dif m t.T t.c (cy t r j).c := zj (N := Lt m) hr hp
def Hc (m w : Nat) (t : QT) (k : Nat) : Rat := Sm m (λ i => if w <= t.b i then t.T i k else 0)
def P1 (m w : Nat) (t : QT) : Prop := ∀ k, t.c k = - Hc m w t k
theorem P1.piv {m w : Nat} {t : QT} {r j : Nat} (h : P1 m w t) (hj : j < w) (hp : t.T r j ≠ 0) : P1 m w (cy t r j) := λ k => by
 show t.c k - t.c j * (t.T r k / t.T r j) = _
 have e : Hc m w (cy t r j) k = Sm m (λ i => (if w <= t.b i then t.T i k else 0) + (- (t.T r k / t.T r j)) * (if w <= t.b i then t.T i j else 0)) := by
  refine ay (λ i _ => ?_)
  show (if w <= (if i = r then j else t.b i) then (if i = r then _ else _) else 0) = _
  by_cases hir : i = r
  ·subst hir
   rw [if_pos rfl, if_neg (by omega)]
   split
   ·grind
   ·grind
  ·rw [if_neg hir]
   split
   ·grind
   ·grind
 rw [e, iL, dl, h k, h j]
 unfold Hc
 grind
theorem um {f : Nat -> Rat} : ∀ {n : Nat}, (∀ i, i < n -> 0 <= f i) -> Sm n f <= 0 -> ∀ i, i < n -> f i = 0
 | 0, _, _, i, hi => by omega
 | n + 1, h, hs, i, hi => by
  have h1 := fT (n := n) (f := f) (λ i hi => h i (by omega))
  have h2 := h n (by omega)
  unfold Sm at hs
  by_cases hin : i = n
  ·subst hin; grind
  ·exact um (n := n) (λ i hi => h i (by omega)) (by grind) i (by omega)
theorem P1.rhs {m w : Nat} {t : QT} (h : P1 m w t) (hw : WF m w t) (hc : 0 <= t.c w) : ∀ i, i < m -> w <= t.b i -> t.T i w = 0 := λ i hi hb => by
 have h1 : Hc m w t w <= 0 := by have := h w; grind
 have h2 := um (f := λ i => if w <= t.b i then t.T i w else 0) (λ i hi => by
  split
  ·exact hw.rhs i hi
  ·exact Rat.le_refl) h1 i hi
 have h2 : (if w <= t.b i then t.T i w else 0) = 0 := h2
 rwa [if_pos hb] at h2
theorem WF.piv0 {m w : Nat} {t : QT} {r j : Nat} (h : WF m w t) (hr : r < m) (hj : j < w) (hp : t.T r j ≠ 0) (h0 : t.T r w = 0) (hc : ∀ k, t.c k = 0) : WF m w (cy t r j) := by
 refine ⟨λ i hi hb i' hi' => ?_, λ i hi hb => ?_, λ i hi => ?_⟩
 ·show (if i' = r then _ else _) = _
  by_cases hir : i = r
  ·subst hir
   have e : (cy t i j).b i = j := if_pos rfl
   rw [e]
   by_cases hi2 : i' = i
   ·subst hi2
    rw [if_pos rfl, if_pos rfl]
    exact lE hp
   ·rw [if_neg hi2, if_neg hi2, lE hp]
    grind
  ·have e : (cy t r j).b i = t.b i := if_neg hir
   rw [e] at hb ⊢
   have h0 : t.T r (t.b i) = 0 := by
    have := h.unit i hi hb r hr
    rwa [if_neg (λ h => hir h.symm)] at this
   rw [h0]
   by_cases hi2 : i' = r
   ·subst hi2
    rw [if_pos rfl, if_neg (λ h => hir h.symm)]
    grind
   ·rw [if_neg hi2, h.unit i hi hb i' hi']
    grind
 ·show t.c _ - t.c j * (t.T r _ / t.T r j) = 0
  rw [hc, hc]
  grind
 ·show 0 <= (if i = r then _ else _)
  rw [h0]
  split
  ·grind
  ·have := h.rhs i hi
   grind
def bp (m w : Nat) (t : QT) (k : Nat) : Rat := Sm m (λ i => if t.b i = k then t.T i w else 0)
section
variable {m w : Nat} {t : QT}
theorem wl (h : WF m w t) (k : Nat) : 0 <= bp m w t k := fT λ i hi => by
 split
 ·exact h.rhs i hi
 ·exact Rat.le_refl
theorem I0 (f : Nat -> Rat) : Sm w (λ k => f k * bp m w t k) = Sm m (λ i => if t.b i < w then f (t.b i) * t.T i w else 0) := by
 have sw : ∀ (m : Nat), Sm w (λ k => f k * Sm m (λ i => if t.b i = k then t.T i w else 0)) = Sm m (λ i => if t.b i < w then f (t.b i) * t.T i w else 0) := by
  intro m
  induction m with
  | zero => rw [ay (g := λ _ => 0) (λ k _ => by unfold Sm; grind), bJ]; rfl
  | succ m ih =>
   show Sm w (λ k => f k * (Sm m (λ i => if t.b i = k then t.T i w else 0) + if t.b m = k then t.T m w else 0)) = Sm m _ + _
   rw [ay (g := λ k => f k * Sm m (λ i => if t.b i = k then t.T i w else 0) + f k * (if t.b m = k then t.T m w else 0)) (λ k _ => by grind), iL, ih]
   congr 1
   show _ = if t.b m < w then _ else 0
   by_cases hb : t.b m < w
   ·rw [if_pos hb, cZ hb (λ k _ hk => by rw [if_neg (λ e => hk e.symm)]; grind), if_pos rfl]
   ·rw [if_neg hb, ay (g := λ _ => 0) (λ k hk => by rw [if_neg (λ e => hb (by rw [e]; exact hk))]; grind), bJ]
 exact sw m
theorem Q7 (h : WF m w t) (ha : ∀ i, i < m -> w <= t.b i -> t.T i w = 0) : Sol m w t.T (bp m w t) := λ i hi => by
 unfold val
 rw [I0]
 by_cases hb : t.b i < w
 ·rw [cZ hi (λ x hx hxi => ?_), if_pos hb, h.unit i hi hb i hi, if_pos rfl]
  ·grind
  ·split
   ·rename_i hbx
    rw [h.unit x hx hbx i hi, if_neg (λ e => hxi e.symm)]
    grind
   ·rfl
 ·rw [ay (g := λ _ => 0) (λ x hx => ?_), bJ, ha i hi (by omega)]
  ·grind
  ·split
   ·rename_i hbx
    rw [h.unit x hx hbx i hi, if_neg (λ e => hb (by rw [e]; exact hbx))]
    grind
   ·rfl
theorem LR (h : WF m w t) : val w t.c (bp m w t) = - t.c w := by
 unfold val
 rw [I0, ay (g := λ _ => 0) (λ x hx => ?_), bJ]
 ·grind
 ·split
  ·rename_i hbx
   rw [h.cost x hx hbx]
   grind
  ·rfl
end
def ray (m w : Nat) (t : QT) (j k : Nat) : Rat := (if k = j then 1 else 0) - Sm m (λ i => if t.b i = k then t.T i j else 0)
section
variable {m w : Nat} {t : QT} {j : Nat}
theorem E9 (hj : j < w) (f : Nat -> Rat) : Sm w (λ k => f k * ray m w t j k) = f j - Sm m (λ i => if t.b i < w then f (t.b i) * t.T i j else 0) := by
 unfold ray
 have e1 : Sm w (λ k => f k * ((if k = j then 1 else 0) - Sm m (λ i => if t.b i = k then t.T i j else 0))) = Sm w (λ k => f k * (if k = j then 1 else 0)) + Sm w (λ k => (-1) * (f k * Sm m (λ i => if t.b i = k then t.T i j else 0))) := by
  rw [<- iL]
  exact ay (λ k _ => by grind)
 have sw : ∀ (m : Nat), Sm w (λ k => f k * Sm m (λ i => if t.b i = k then t.T i j else 0)) = Sm m (λ i => if t.b i < w then f (t.b i) * t.T i j else 0) := by
  intro m
  induction m with
  | zero => rw [ay (g := λ _ => 0) (λ k _ => by unfold Sm; grind), bJ]; rfl
  | succ m ih =>
   show Sm w (λ k => f k * (Sm m (λ i => if t.b i = k then t.T i j else 0) + if t.b m = k then t.T m j else 0)) = Sm m _ + _
   rw [ay (g := λ k => f k * Sm m (λ i => if t.b i = k then t.T i j else 0) + f k * (if t.b m = k then t.T m j else 0)) (λ k _ => by grind), iL, ih]
   congr 1
   show _ = if t.b m < w then _ else 0
   by_cases hb : t.b m < w
   ·rw [if_pos hb, cZ hb (λ k _ hk => by rw [if_neg (λ e => hk e.symm)]; grind), if_pos rfl]
   ·rw [if_neg hb, ay (g := λ _ => 0) (λ k hk => by rw [if_neg (λ e => hb (by rw [e]; exact hk))]; grind), bJ]
 rw [e1, cZ hj (λ k _ hk => by rw [if_neg hk]; grind), if_pos rfl, dl, sw]
 grind
theorem DI (h : WF m w t) (hj : j < w) (hn : ∀ i, i < m -> t.T i j <= 0) (hc : t.c j < 0) (k : Nat) : 0 <= ray m w t j k := by
 unfold ray
 have h1 : 0 <= Sm m (λ i => if t.b i = k then - t.T i j else 0) := fT λ i hi => by
  have := hn i hi
  split
  ·grind
  ·exact Rat.le_refl
 have e : Sm m (λ i => if t.b i = k then - t.T i j else 0) = (-1) * Sm m (λ i => if t.b i = k then t.T i j else 0) := by
  rw [<- dl]
  exact ay (λ i _ => by split <;> grind)
 rw [e] at h1
 split <;> grind
theorem LP (h : WF m w t) (hj : j < w) (ha : ∀ i, i < m -> w <= t.b i -> t.T i j = 0) : ∀ i, i < m -> Sm w (λ k => t.T i k * ray m w t j k) = 0 := λ i hi => by
 rw [E9 hj]
 by_cases hb : t.b i < w
 ·rw [cZ hi (λ x hx hxi => ?_), if_pos hb, h.unit i hi hb i hi, if_pos rfl]
  ·grind
  ·split
   ·rename_i hbx
    rw [h.unit x hx hbx i hi, if_neg (λ e => hxi e.symm)]
    grind
   ·rfl
 ·rw [ay (g := λ _ => 0) (λ x hx => ?_), bJ, ha i hi (by omega)]
  ·grind
  ·split
   ·rename_i hbx
    rw [h.unit x hx hbx i hi, if_neg (λ e => hb (by rw [e]; exact hbx))]
    grind
   ·rfl
theorem Jp (h : WF m w t) (hj : j < w) : Sm w (λ k => t.c k * ray m w t j k) = t.c j := by
 rw [E9 hj, ay (g := λ _ => 0) (λ x hx => ?_), bJ]
 ·grind
 ·split
  ·rename_i hbx
   rw [h.cost x hx hbx]
   grind
  ·rfl
end
def Q (t : Tab) : QT := ⟨λ i k => V (ix (ix t.rows i) k), λ k => V (ix t.cost k), λ i => (ix t.basis i).toNat⟩
structure Vd (t : Tab) : Prop where
 rows : ∀ i k, i < t.m -> k < t.w + 1 -> aj (ix (ix t.rows i) k)
 cost : t.cost = [] ∨ ∀ k, k < t.w + 1 -> aj (ix t.cost k)
theorem nK {α : Type} [Inhabited α] {l : List α} {i : Nat} (h : l.length <= i) : ix l i = default := by
 unfold ix
 rw [getD_eq_getElem?_getD, List.getElem?_eq_none h]
 rfl
theorem dY {α : Type} [Inhabited α] {l : List α} {i q : Nat} {x : α} (hq : q < l.length) : ix (l.set q x) i = if i = q then x else ix l i := by
 by_cases hi : i < l.length
 ·rw [az (by rw [length_set]; exact hi), List.getElem_set, az hi]
  by_cases h : q = i
  ·rw [if_pos h, if_pos h.symm]
  ·rw [if_neg h, if_neg (λ e => h e.symm)]
 ·rw [nK (by rw [length_set]; omega), if_neg (by omega), nK (by omega)]
theorem kE : V (default : Fr) = 0 := by
 show V ⟨0, 0⟩ = 0
 unfold V
 show ((0 : Int) : Rat) / ((0 : Int) : Rat) = 0
 have : ((0 : Int) : Rat) = 0 := rfl
 rw [this]
 grind
theorem QT.same {a b : QT} (h1 : ∀ i k, a.T i k = b.T i k) (h2 : ∀ k, a.c k = b.c k) (h3 : ∀ i, a.b i = b.b i) : a = b := by
 obtain ⟨x, y, z⟩ := a
 obtain ⟨x', y', z'⟩ := b
 have e1 : x = x' := funext λ i => funext λ k => h1 i k
 have e2 : y = y' := funext h2
 have e3 : z = z' := funext h3
 rw [e1, e2, e3]
theorem ji {g : Nat -> Bool} : ∀ {n : Nat}, fF n g = false -> ∀ k, k < n -> g k = false
 | 0, _, k, hk => by omega
 | n + 1, h, k, hk => by
  rw [mN] at h
  simp only [Bool.or_eq_false_iff] at h
  by_cases hkn : k = n
  ·rw [hkn]; exact h.2
  ·exact ji h.1 k (by omega)
theorem yN {a f b : Fr} (h : (mnP a f b).2 = false) : aj a /\ aj f /\ aj b /\ aj (mnP a f b).1 /\ V (mnP a f b).1 = V a - V f * V b := by
 unfold mnP at h ⊢
 cases h1 : mnO a f b with
 | none => rw [h1] at h; simp at h
 | some d => exact JW h1
theorem CC {a p : Fr} (h : (dvP a p).2 = false) : aj a /\ aj p /\ p.N ≠ 0 /\ aj (dvP a p).1 /\ V (dvP a p).1 = V a / V p := by
 unfold dvP at h ⊢
 cases h1 : pg a p with
 | none => rw [h1] at h; simp at h
 | some d => exact vA h1
section
variable {L : Lay} {t : Tab}
theorem yp {b : Bool} (h : (orT t b).over = false) : t.over = false /\ b = false := by
 have h : (t.over || b) = false := h
 simpa using h
theorem J7 {g : Nat -> Fr} {row by_ : List Fr} {n : Nat} {f : Nat -> Rat} (hl : row.length = n) (h : ∀ k, k < n -> V (g k) = f k) (h0 : ∀ k, n <= k -> f k = 0) (k : Nat) : V (ix (dM n g row) k) = f k := by
 by_cases hk : k < n
 ·rw [eM (by rw [hl]; exact hk), if_pos hk, h k hk]
 ·rw [nK (by rw [aP, hl]; omega), kE, h0 k (by omega)]
theorem sf (hS : Shape L t) {i k : Nat} (hk : t.w + 1 <= k) : V (ix (ix t.rows i) k) = 0 := by
 by_cases hi : i < t.m
 ·rw [nK (by rw [hS.row _ (aq (by rw [hS.m]; exact hi))]; exact hk), kE]
 ·rw [nK (l := t.rows) (by rw [hS.m]; omega)]
  exact kE
theorem Fs (hS : Shape L t) {i : Nat} (hi : i < t.m) : (ix t.rows i).length = t.w + 1 := hS.row _ (aq (by rw [hS.m]; exact hi))
theorem J9 (hS : Shape L t) {k : Nat} (hk : t.w + 1 <= k) : V (ix t.cost k) = 0 := by
 rw [nK (l := t.cost) (by
  rcases hS.cost with ⟨_, h⟩ | ⟨_, h⟩
  ·rw [h]; exact zero_le _
  ·omega)]
 exact kE
theorem L3 (hS : Shape L t) {q i : Nat} {f : Fr} (hp : PreClr L t ⟨some q, f, i⟩) (ho : (ky t ⟨some q, f, i⟩).over = false) : t.over = false /\ Q (ky t ⟨some q, f, i⟩) = ⟨λ i' k => if i' = q then (Q t).T q k - V f * (Q t).T i k else (Q t).T i' k, (Q t).c, (Q t).b⟩ /\ (Vd t -> Vd (ky t ⟨some q, f, i⟩)) := by
 obtain ⟨hq, hqi⟩ := hp.row q rfl
 have hi := hp.i
 unfold ky ei at ho ⊢
 obtain ⟨h1, h2⟩ := yp ho
 have h2 := ji h2
 have h2 : ∀ k, k < t.w + 1 -> (mnP (ix (ix t.rows q) k) f (ix (ix t.rows i) k)).2 = false := h2
 have hql := Fs hS hq
 refine ⟨h1, ?_, λ hv => ⟨λ i' k hi' hk => ?_, hv.cost⟩⟩
 ·refine QT.same (λ i' k => ?_) (λ _ => rfl) (λ _ => rfl)
  show V (ix (ix (t.rows.set q _) i') k) = if i' = q then (Q t).T q k - V f * (Q t).T i k else (Q t).T i' k
  rw [dY (by rw [hS.m]; exact hq)]
  by_cases hiq : i' = q
  ·rw [if_pos hiq, if_pos hiq]
   refine J7 (by_ := []) (f := λ k => (Q t).T q k - V f * (Q t).T i k) hql (λ k hk => (yN (h2 k hk)).2.2.2.2) (λ k hk => ?_) k
   show V (ix (ix t.rows q) k) - V f * V (ix (ix t.rows i) k) = 0
   rw [sf hS hk, sf hS hk]
   grind
  ·rw [if_neg hiq, if_neg hiq]
   rfl
 ·show aj (ix (ix (t.rows.set q _) i') k)
  rw [dY (by rw [hS.m]; exact hq)]
  by_cases hiq : i' = q
  ·rw [if_pos hiq]
   show aj (ix (dM (t.w + 1) _ (ix t.rows q)) k)
   have hk : k < t.w + 1 := hk
   rw [eM (by rw [hql]; exact hk), if_pos hk]
   exact (yN (h2 k hk)).2.2.2.1
  ·rw [if_neg hiq]
   exact hv.rows i' k hi' hk
theorem ul (hS : Shape L t) {i : Nat} {f : Fr} (hp : PreClr L t ⟨none, f, i⟩) (ho : (ky t ⟨none, f, i⟩).over = false) : t.over = false /\ Q (ky t ⟨none, f, i⟩) = ⟨(Q t).T, λ k => (Q t).c k - V f * (Q t).T i k, (Q t).b⟩ /\ (Vd t -> Vd (ky t ⟨none, f, i⟩)) := by
 have hc := hp.cost rfl
 have hi := hp.i
 unfold ky ei at ho ⊢
 obtain ⟨h1, h2⟩ := yp ho
 have h2 := ji h2
 have h2 : ∀ k, k < t.w + 1 -> (mnP (ix t.cost k) f (ix (ix t.rows i) k)).2 = false := h2
 refine ⟨h1, ?_, λ hv => ⟨hv.rows, .inr λ k hk => ?_⟩⟩
 ·refine QT.same (λ _ _ => rfl) (λ k => ?_) (λ _ => rfl)
  show V (ix (dM (t.w + 1) _ t.cost) k) = (Q t).c k - V f * (Q t).T i k
  refine J7 (by_ := []) (f := λ k => (Q t).c k - V f * (Q t).T i k) hc (λ k hk => (yN (h2 k hk)).2.2.2.2) (λ k hk => ?_) k
  show V (ix t.cost k) - V f * V (ix (ix t.rows i) k) = 0
  rw [sf hS hk, J9 hS hk]
  grind
 ·show aj (ix (dM (t.w + 1) _ t.cost) k)
  have hk : k < t.w + 1 := hk
  rw [eM (by rw [hc]; exact hk), if_pos hk]
  exact (yN (h2 k hk)).2.2.2.1
theorem Qr (hS : Shape L t) {i j : Nat} (hi : i < t.m) (hj : j < t.w) (ho : (pvK t i j (t.w + 1)).over = false) : t.over = false /\ (ix (ix t.rows i) j).N ≠ 0 /\ V (ix (ix t.rows i) j) ≠ 0 /\ Q (pvK t i j (t.w + 1)) = ⟨λ i' k => if i' = i then (Q t).T i k / (Q t).T i j else (Q t).T i' k, (Q t).c, (Q t).b⟩ /\ (Vd t -> Vd (pvK t i j (t.w + 1))) := by
 unfold pvK at ho ⊢
 obtain ⟨h1, h2⟩ := yp ho
 have h2 := ji h2
 have h2 : ∀ k, k < t.w + 1 -> (dvP (ix (ix t.rows i) k) (ix (ix t.rows i) j)).2 = false := h2
 have hil := Fs hS hi
 have h3 := CC (h2 j (by omega))
 refine ⟨h1, h3.2.2.1, λ e => h3.2.2.1 ((Dd h3.1).2 e), ?_, λ hv => ⟨λ i' k hi' hk => ?_, hv.cost⟩⟩
 ·refine QT.same (λ i' k => ?_) (λ _ => rfl) (λ _ => rfl)
  show V (ix (ix (t.rows.set i _) i') k) = if i' = i then (Q t).T i k / (Q t).T i j else (Q t).T i' k
  rw [dY (by rw [hS.m]; exact hi)]
  by_cases hiq : i' = i
  ·rw [if_pos hiq, if_pos hiq]
   refine J7 (by_ := []) (f := λ k => (Q t).T i k / (Q t).T i j) hil (λ k hk => (CC (h2 k hk)).2.2.2.2) (λ k hk => ?_) k
   show V (ix (ix t.rows i) k) / V (ix (ix t.rows i) j) = 0
   rw [sf hS hk]
   grind
  ·rw [if_neg hiq, if_neg hiq]
   rfl
 ·show aj (ix (ix (t.rows.set i _) i') k)
  rw [dY (by rw [hS.m]; exact hi)]
  by_cases hiq : i' = i
  ·rw [if_pos hiq]
   show aj (ix (dM (t.w + 1) _ (ix t.rows i)) k)
   have hk : k < t.w + 1 := hk
   rw [eM (by rw [hil]; exact hk), if_pos hk]
   exact (CC (h2 k hk)).2.2.2.1
  ·rw [if_neg hiq]
   exact hv.rows i' k hi' hk
theorem sL {a : Fr} (h : a.N = 0) : V a = 0 := by
 unfold V
 rw [h]
 show ((0 : Int) : Rat) / _ = 0
 have : ((0 : Int) : Rat) = 0 := rfl
 rw [this]
 grind
theorem xc (hS : Shape L t) {i j : Nat} (hi : i < t.m) : ∀ {k : Nat}, k <= t.m -> (br t i j k).over = false -> t.over = false /\ Q (br t i j k) = ⟨λ i' c => if i' < k /\ i' ≠ i then (Q t).T i' c - (Q t).T i' j * (Q t).T i c else (Q t).T i' c, (Q t).c, (Q t).b⟩ /\ (Vd t -> Vd (br t i j k))
 | 0, _, ho => ⟨ho, by
   refine QT.same (λ i' c => ?_) (λ _ => rfl) (λ _ => rfl)
   simp only
   rw [if_neg (by omega)]
   rfl, λ h => h⟩
 | k + 1, hk, ho => by
  have hS1 := gI hS hi j (k := k) (by omega)
  have hm1 : (br t i j k).m = t.m := dH i j k
  unfold br jb at ho ⊢
  have ihh := xc hS hi (j := j) (k := k) (by omega)
  have rowk : ∀ {u : QT}, Q (br t i j k) = u -> V (ix (ix (br t i j k).rows k) j) = u.T k j := λ e => by rw [<- e]; rfl
  split at ho
  ·rename_i hc
   obtain ⟨hki, hN⟩ := hc
   rw [if_pos ⟨hki, hN⟩]
   have hpre : PreClr L (br t i j k) ⟨some k, ix (ix (br t i j k).rows k) j, i⟩ := qp (j := j) (by omega) (by omega) hki _
   obtain ⟨h1, h2, h3⟩ := L3 hS1 hpre ho
   obtain ⟨h4, h5, h6⟩ := ihh h1
   refine ⟨h4, ?_, λ hv => h3 (h6 hv)⟩
   have hr := rowk h5
   rw [h2, hr, h5]
   refine QT.same (λ i' c => ?_) (λ _ => rfl) (λ _ => rfl)
   simp only
   by_cases hik : i' = k
   ·subst hik
    rw [if_pos rfl, if_neg (by omega), if_neg (by omega), if_neg (by omega), if_pos ⟨by omega, hki⟩]
   ·rw [if_neg hik]
    by_cases hlt : i' < k /\ i' ≠ i
    ·rw [if_pos hlt, if_pos ⟨by omega, hlt.2⟩]
    ·rw [if_neg hlt, if_neg (by omega)]
  ·rename_i hc
   rw [if_neg hc]
   obtain ⟨h4, h5, h6⟩ := ihh ho
   refine ⟨h4, ?_, h6⟩
   have hr := rowk h5
   rw [h5]
   refine QT.same (λ i' c => ?_) (λ _ => rfl) (λ _ => rfl)
   simp only
   by_cases hik : i' = k
   ·subst hik
    rw [if_neg (by omega)]
    by_cases hki : i' = i
    ·rw [if_neg (by omega)]
    ·rw [if_pos ⟨by omega, hki⟩]
     have hN : (ix (ix (br t i j i').rows i') j).N = 0 := Classical.byContradiction λ h => hc ⟨hki, h⟩
     rw [sL hN] at hr
     have hr : (0 : Rat) = if i' < i' /\ i' ≠ i then _ else (Q t).T i' j := hr
     rw [if_neg (by omega)] at hr
     rw [<- hr]
     grind
   ·by_cases hlt : i' < k /\ i' ≠ i
    ·rw [if_pos hlt, if_pos ⟨by omega, hlt.2⟩]
    ·rw [if_neg hlt, if_neg (by omega)]
theorem Lj (hS : Shape L t) {i j : Nat} (hi : i < t.m) (ho : (gJ t i j).over = false) : t.over = false /\ Q (gJ t i j) = ⟨(Q t).T, λ k => (Q t).c k - (Q t).c j * (Q t).T i k, (Q t).b⟩ /\ (Vd t -> Vd (gJ t i j)) := by
 unfold gJ at ho ⊢
 split at ho
 ·rename_i hc
  rw [if_pos hc]
  exact ul hS (qD hS hi hc.1 _) ho
 ·rename_i hc
  rw [if_neg hc]
  refine ⟨ho, ?_, λ h => h⟩
  refine QT.same (λ _ _ => rfl) (λ k => ?_) (λ _ => rfl)
  show V (ix t.cost k) = V (ix t.cost k) - V (ix t.cost j) * V (ix (ix t.rows i) k)
  have : V (ix t.cost j) = 0 := by
   by_cases he : t.cost = []
   ·rw [he]; exact kE
   ·exact sL (Classical.byContradiction λ h => hc ⟨he, h⟩)
  rw [this]
  grind
theorem Ec (hS : Shape L t) {i j : Nat} (hi : i < t.m) (hj : j < t.w) (ho : (iW t i j).over = false) : t.over = false /\ (Q t).T i j ≠ 0 /\ Q (iW t i j) = cy (Q t) i j /\ (Vd t -> Vd (iW t i j)) := by
 have ho : (cO t i j).over = false := ho
 have hS1 := kI hS hi j (t.w + 1)
 have hS2 := gI hS1 hi j (k := t.m) (by rw [mG]; exact Nat.le_refl _)
 unfold cO at ho
 obtain ⟨a1, a2, a3⟩ := Lj hS2 (by rw [dH, mG]; exact hi) ho
 obtain ⟨b1, b2, b3⟩ := xc hS1 (by rw [mG]; exact hi) (by rw [mG]; exact Nat.le_refl _) a1
 obtain ⟨c1, c2, c3, c4, c5⟩ := Qr hS hi hj b1
 have hb24 : i < t.basis.length := by rw [hS.bas]; have := hS.m24; omega
 have eQ : Q (cO t i j) = ⟨λ i' k => if i' = i then (Q t).T i k / (Q t).T i j else (Q t).T i' k - (Q t).T i' j * ((Q t).T i k / (Q t).T i j), λ k => (Q t).c k - (Q t).c j * ((Q t).T i k / (Q t).T i j), (Q t).b⟩ := by
  unfold cO
  rw [a2, b2, c4]
  refine QT.same (λ i' k => ?_) (λ k => ?_) (λ _ => rfl)
  ·simp only
   by_cases hii : i' = i
   ·subst hii
    rw [if_neg (by omega), if_pos rfl, if_pos rfl]
   ·rw [if_neg hii]
    by_cases hm : i' < t.m
    ·rw [if_pos ⟨hm, hii⟩, if_neg hii, if_neg hii, if_pos trivial]
    ·rw [if_neg (by omega), if_neg hii]
     have z : ∀ k, (Q t).T i' k = 0 := λ k => by
      show V (ix (ix t.rows i') k) = 0
      rw [nK (l := t.rows) (by rw [hS.m]; omega)]
      exact kE
     rw [z, z]
     grind
  ·simp only
   rw [if_neg (by omega), if_pos trivial]
 refine ⟨c1, c3, ?_, λ hv => ?_⟩
 ·have e : Q (iW t i j) = { Q (cO t i j) with b := λ i' => (ix ((cO t i j).basis.set i j) i').toNat } := rfl
  rw [e, eQ]
  refine QT.same (λ _ _ => rfl) (λ _ => rfl) (λ i' => ?_)
  show (ix ((cO t i j).basis.set i j) i').toNat = if i' = i then j else (Q t).b i'
  have hbb : (cO t i j).basis = t.basis := by unfold cO; rw [Gb, wh]; rfl
  rw [hbb, dY hb24]
  split
  ·rfl
  ·rfl
 ·have hv' := a3 (b3 (c5 hv))
  exact ⟨hv'.rows, hv'.cost⟩
end
theorem entK_some {t : Tab} : ∀ {k j : Nat}, jy t k = some j -> (ix t.cost j).N < 0 /\ ∀ i, i < j -> ¬ (ix t.cost i).N < 0
 | 0, j, h => by cases h
 | k + 1, j, h => by
  cases h1 : jy t k with
  | some i =>
   have := entK_some h1
   unfold jy at h
   rw [h1] at h
   injection h with h
   rw [<- h]
   exact this
  | none =>
   rw [nj h1] at h
   split at h
   ·rename_i hN
    injection h with h
    rw [<- h]
    refine ⟨hN, λ i hi => ?_⟩
    exact (entK_none h1) i hi
   ·cases h
where
 entK_none {t : Tab} : ∀ {k : Nat}, jy t k = none -> ∀ i, i < k -> ¬ (ix t.cost i).N < 0
 | 0, _, i, hi => by omega
 | k + 1, h, i, hi => by
  cases h1 : jy t k with
  | some i' => unfold jy at h; rw [h1] at h; cases h
  | none =>
   rw [nj h1] at h
   split at h
   ·cases h
   ·rename_i hN
    by_cases hik : i = k
    ·rw [hik]; exact hN
    ·exact entK_none h1 i (by omega)
theorem entK_none {t : Tab} {k : Nat} (h : jy t k = none) : ∀ i, i < k -> ¬ (ix t.cost i).N < 0 := entK_some.entK_none h
def rat (t : Tab) (j i : Nat) : Rat := (Q t).T i t.w / (Q t).T i j
structure Best (t : Tab) (j k r : Nat) (low : Fr) : Prop where
 lt : r < k
 pos : 0 < (ix (ix t.rows r) j).N
 lv : aj low /\ V low = rat t j r
 best : ∀ i, i < k -> 0 < (ix (ix t.rows i) j).N -> V low < rat t j i ∨ (V low = rat t j i /\ ix t.basis r <= ix t.basis i)
theorem zI {t : Tab} {j : Nat} : ∀ {k : Nat} {s : Int} {low : Fr}, lvK t j k = some (s, low) -> (s = -1 /\ ∀ i, i < k -> ¬ 0 < (ix (ix t.rows i) j).N) ∨ ∃ r : Nat, s = r /\ Best t j k r low
 | 0, s, low, h => by
  unfold lvK at h
  injection h with h
  injection h with h1 h2
  exact .inl ⟨h1.symm, λ i hi => by omega⟩
 | k + 1, s, low, h => by
  cases h1 : lvK t j k with
  | none => unfold lvK at h; rw [h1] at h; cases h
  | some p =>
   obtain ⟨s', low'⟩ := p
   have ih := zI h1
   rw [tV h1] at h
   by_cases hN : (ix (ix t.rows k) j).N <= 0
   ·rw [if_pos hN] at h
    injection h with h
    injection h with h2 h3
    subst h2 h3
    rcases ih with ⟨e, hn⟩ | ⟨r, e, b⟩
    ·exact .inl ⟨e, λ i hi => by
      by_cases hik : i = k
      ·rw [hik]; omega
      ·exact hn i (by omega)⟩
    ·exact .inr ⟨r, e, ⟨by have := b.lt; omega, b.pos, b.lv, λ i hi hp => by
      by_cases hik : i = k
      ·rw [hik] at hp; omega
      ·exact b.best i (by omega) hp⟩⟩
   ·rw [if_neg hN] at h
    cases h2 : pg (ix (ix t.rows k) t.w) (ix (ix t.rows k) j) with
    | none => rw [h2] at h; cases h
    | some q =>
     rw [h2] at h
     obtain ⟨d1, d2, d3, d4, d5⟩ := vA h2
     have hq : V q = rat t j k := d5
     simp only at h
     by_cases hT : lk t s' low' k q
     ·rw [if_pos hT] at h
      injection h with h
      injection h with h3 h4
      subst h3 h4
      refine .inr ⟨k, rfl, ⟨by omega, by omega, ⟨d4, hq⟩, λ i hi hp => ?_⟩⟩
      by_cases hik : i = k
      ·rw [hik]; exact .inr ⟨hq, Int.le_refl _⟩
      ·rcases ih with ⟨e, hn⟩ | ⟨r, e, b⟩
       ·exact absurd hp (hn i (by omega))
       ·have hb := b.best i (by omega) hp
        subst e
        rcases hT with hT | hT | ⟨hT1, hT2⟩
        ·omega
        ·have := (sJ d4 b.lv.1).1 hT
         exact .inl (by rcases hb with hb | ⟨hb, _⟩ <;> grind)
        ·have h5 := (Ba d4 b.lv.1).1 hT1
         simp only [toNat_natCast] at hT2
         rw [h5]
         rcases hb with hb | ⟨hb, hb2⟩
         ·exact .inl hb
         ·exact .inr ⟨hb, by omega⟩
     ·rw [if_neg hT] at h
      injection h with h
      injection h with h3 h4
      subst h3 h4
      rcases ih with ⟨e, hn⟩ | ⟨r, e, b⟩
      ·exact absurd (.inl (by omega)) hT
      ·refine .inr ⟨r, e, ⟨by have := b.lt; omega, b.pos, b.lv, λ i hi hp => ?_⟩⟩
       by_cases hik : i = k
       ·subst hik
        subst e
        have n1 : ¬ V q < V low' := λ h => hT (.inr (.inl ((sJ d4 b.lv.1).2 h)))
        have n2 : V q = V low' -> ix t.basis r <= ix t.basis i := λ h => by
         refine Int.not_lt.1 λ h' => hT (.inr (.inr ⟨(Ba d4 b.lv.1).2 h, ?_⟩))
         rw [toNat_natCast]
         exact h'
        rw [<- hq]
        by_cases he : V q = V low'
        ·exact .inr ⟨he.symm, n2 he⟩
        ·exact .inl (by grind)
       ·exact b.best i (by omega) hp
section
variable {L : Lay} {t : Tab}
theorem qk (hS : Shape L t) (i : Nat) : 0 <= ix t.basis i /\ ix t.basis i <= 1000 := by
 by_cases hi : i < t.basis.length
 ·exact hS.b64 _ (aq hi)
 ·rw [nK (by omega)]
  show (0 : Int) <= 0 /\ (0 : Int) <= 1000
  omega
theorem cw (hv : Vd t) (hc : t.cost.length = t.w + 1) {k : Nat} (hk : k < t.w + 1) : aj (ix t.cost k) := by
 rcases hv.cost with h | h
 ·rw [h] at hc; simp at hc
 ·exact h k hk
theorem St (hS : Shape L t) (hv : Vd t) (hc : t.cost.length = t.w + 1) {j r : Nat} {low : Fr} (hj : jy t t.w = some j) (b : Best t j t.m r low) : Bl t.m t.w (Q t) r j := by
 have hjw := fz hj
 obtain ⟨e1, e2⟩ := entK_some hj
 have vj := λ i (hi : i < t.m) => hv.rows i j hi (by omega)
 refine ⟨hjw, (cR (cw hv hc (by omega))).1 e1, λ k hk => ?_, b.lt, (iG (vj r b.lt)).1 b.pos, λ i hi hp => ?_⟩
 ·have h1 := e2 k hk
  rw [cR (cw hv hc (by omega))] at h1
  show 0 <= V (ix t.cost k)
  grind
 ·have h1 := b.best i hi ((iG (vj i hi)).2 hp)
  rw [b.lv.2] at h1
  refine h1.imp id λ ⟨h2, h3⟩ => ⟨h2, ?_⟩
  have q1 := qk hS r
  have q2 := qk hS i
  show (ix t.basis r).toNat <= (ix t.basis i).toNat
  omega
theorem mZ {j : Nat} (h1 : (cH t j).2 = false) : (cH t j).1 = -1 /\ (∀ i, i < t.m -> ¬ 0 < (ix (ix t.rows i) j).N) ∨ ∃ r low, (cH t j).1 = (r : Nat) /\ Best t j t.m r low := by
 unfold cH at h1 ⊢
 cases h2 : lvK t j t.m with
 | none => rw [h2] at h1; simp at h1
 | some p =>
  obtain ⟨s, low⟩ := p
  rcases zI h2 with h3 | ⟨r, h3, h4⟩
  ·exact .inl h3
  ·exact .inr ⟨r, low, h3, h4⟩
theorem yF (hS : Shape L t) (hv : Vd t) (hc : t.cost.length = t.w + 1) {u : Tab} (h : bY t = .inr u) (ho : u.over = false) : ∃ r j, Bl t.m t.w (Q t) r j /\ Q u = cy (Q t) r j /\ Vd u := by
 unfold bY at h
 split at h
 ·cases h
 ·split at h
  ·cases h
  ·rename_i j hj
   split at h
   ·cases h
   ·rename_i h1
    split at h
    ·cases h
    ·rename_i h2
     injection h with h
     rcases mZ (t := t) (j := j) (by simpa using h1) with ⟨h3, _⟩ | ⟨r, low, h3, h4⟩
     ·omega
     ·rw [h3, toNat_natCast] at h
      rw [<- h] at ho ⊢
      obtain ⟨_, _, k3, k4⟩ := Ec hS h4.lt (fz hj) ho
      exact ⟨r, j, St hS hv hc hj h4, k3, k4 hv⟩
theorem FW {u : Tab} (h : bY t = .inr u) : t.over = false := by
 unfold bY at h
 split at h
 ·cases h
 ·rename_i h1
  simpa using h1
theorem halts (hS : Shape L t) (hv : Vd t) (hc : t.cost.length = t.w + 1) (hW : WF t.m t.w (Q t)) : jG t := by
 apply Classical.byContradiction
 intro hn
 obtain ⟨nxt, hnxt⟩ : ∃ nxt : Tab -> Tab, nxt = λ t => match bY t with | .inr v => v | .inl _ => t := ⟨_, rfl⟩
 obtain ⟨u, hu0, hus⟩ : ∃ u : Nat -> Tab, u 0 = t /\ ∀ n, u (n + 1) = nxt (u n) := ⟨λ n => Nat.rec t (λ _ x => nxt x) n, rfl, λ n => rfl⟩
 have step : ∀ x, ¬ jG x -> bY x = .inr (nxt x) /\ ¬ jG (nxt x) := λ x hx => by
  cases h : bY x with
  | inl r => exact absurd ⟨r, 1, by unfold j2; rw [h]⟩ hx
  | inr v =>
   have e : nxt x = v := by rw [hnxt]; simp only [h]
   rw [e]
   refine ⟨rfl, λ ⟨r, n, hr⟩ => hx ⟨r, n + 1, ?_⟩⟩
   unfold j2
   rw [h]
   exact hr
 have hnh : ∀ n, ¬ jG (u n) := by
  intro n
  induction n with
  | zero => rw [hu0]; exact hn
  | succ n ih => rw [hus]; exact (step _ ih).2
 have hst : ∀ n, bY (u n) = .inr (u (n + 1)) := λ n => by rw [hus]; exact (step _ (hnh n)).1
 have hov : ∀ n, (u n).over = false := λ n => FW (hst n)
 have inv : ∀ n, Shape L (u n) /\ Vd (u n) /\ Kin t (u n) := by
  intro n
  induction n with
  | zero => rw [hu0]; exact ⟨hS, hv, Kin.refl t⟩
  | succ n ih =>
   obtain ⟨i1, i2, i3⟩ := ih
   have h1 := jD i1
   rw [hst n] at h1
   obtain ⟨_, _, _, _, h2⟩ := yF i1 i2 (by rw [i3.cost, hc, i3.w]) (hst n) (hov (n + 1))
   exact ⟨h1.1, h2, i3.trans h1.2⟩
 have hex : ∀ n, ∃ p : Nat × Nat, Bl t.m t.w (Q (u n)) p.1 p.2 /\ Q (u (n + 1)) = cy (Q (u n)) p.1 p.2 := λ n => by
  obtain ⟨i1, i2, i3⟩ := inv n
  obtain ⟨r, j, h1, h2, _⟩ := yF i1 i2 (by rw [i3.cost, hc, i3.w]) (hst n) (hov (n + 1))
  rw [i3.m, i3.w] at h1
  exact ⟨(r, j), h1, h2⟩
 have hw := fO hS
 exact Cj (m := t.m) (w := t.w) (B := 1000) (t := λ n => Q (u n)) (r := λ n => (hex n).choose.1) (j := λ n => (hex n).choose.2) (by rw [hu0]; exact hW) (by omega) (λ i hi => by
  rw [hu0]
  have := qk hS i
  show (ix t.basis i).toNat <= 1000
  omega) (λ n => (hex n).choose_spec.1) (λ n => (hex n).choose_spec.2)
end
theorem qd {P : Tab -> Prop} (hst : ∀ t u, P t -> bY t = .inr u -> u.over = false -> P u) : ∀ {n : Nat} {t : Tab} {r : Bool × Tab}, j2 n t = some r -> P t -> r.2.over = false -> P r.2 /\ bY r.2 = .inl r
 | 0, _, _, h, _, _ => by cases h
 | n + 1, t, r, h, hP, ho => by
  unfold j2 at h
  cases hs : bY t with
  | inl q =>
   rw [hs] at h
   injection h with h
   subst h
   have e : q.2 = t := by
    unfold bY at hs
    split at hs
    ·injection hs with hs; rw [<- hs]
    ·split at hs
     ·injection hs with hs; rw [<- hs]
     ·split at hs
      ·injection hs with hs
       rw [<- hs] at ho
       simp [orT] at ho
      ·split at hs
       ·injection hs with hs; rw [<- hs]
       ·cases hs
   rw [e]
   exact ⟨hP, hs⟩
  | inr u =>
   rw [hs] at h
   have hou : u.over = false := by
    cases hb : u.over with
    | false => rfl
    | true =>
     cases n with
     | zero => cases h
     | succ n =>
      unfold j2 at h
      have : bY u = .inl (true, u) := if_pos hb
      simp only [this] at h
      injection h with h
      rw [<- h, hb] at ho
      cases ho
   exact qd hst h (hst t u hP hs hou) ho
section
variable (l : Lin)
def aQ (i k : Nat) : Rat := V (ix (ix l.A i) k)
def bQ (i : Nat) : Rat := V (ix l.B i)
def cQ (k : Nat) : Rat := V (ix l.C k)
def sg (i : Nat) : Rat := if fo l i then 1 else -1
def T0 (i k : Nat) : Rat := if k < l.C.length then sg l i * aQ l i k else if k = l.C.length + i then - sg l i else if k = l.C.length + l.A.length then sg l i * bQ l i else 0
end
theorem Gm : V F01 = 0 := sL rfl
theorem GI : V F11 = 1 := by
 unfold V F11
 have : ((1 : Int) : Rat) = 1 := rfl
 rw [this]
 grind
theorem Wz : V ⟨-1, 1⟩ = -1 := by
 unfold V
 have h1 : ((1 : Int) : Rat) = 1 := rfl
 have h2 : ((-1 : Int) : Rat) = -1 := rfl
 rw [h1, h2]
 grind
theorem mC : aj F01 := by decide
theorem uL : aj F11 := by decide
theorem JX : aj ⟨-1, 1⟩ := by decide
section
variable {l : Lin}
structure Ok (l : Lin) : Prop where
 g : Good l
 a : ∀ i k, i < l.A.length -> k < l.C.length -> aj (ix (ix l.A i) k)
 b : ∀ i, i < l.A.length -> aj (ix l.B i)
 c : ∀ k, k < l.C.length -> aj (ix l.C k)
theorem Ix (h : bx l = 0) : Ok l := by
 obtain ⟨k1, k2, k3, k4, k5, k6, k7⟩ := uN h
 refine ⟨zn h, λ i k hi hk => ?_, λ i hi => k5 _ (aq (by omega)), λ k hk => k6 _ (aq hk)⟩
 obtain ⟨q1, q2⟩ := k7 _ (aq hi)
 exact q2 _ (aq (by omega))
theorem LH (h : Ok l) {i k : Nat} (hi : i < l.A.length) (hk : k < l.C.length) : aj (uT l i (ix (ix l.A i) k)) /\ V (uT l i (ix (ix l.A i) k)) = sg l i * aQ l i k := by
 have ha := h.a i k hi hk
 unfold uT sg aQ
 split
 ·exact ⟨ha, by grind⟩
 ·exact ⟨qE ha, by rw [sq ha]; grind⟩
theorem jZ {α : Type} [Inhabited α] {a : α} {n k : Nat} (h : k < n) : ix (List.replicate n a) k = a := by
 rw [az (by rw [length_replicate]; exact h), getElem_replicate]
theorem Bm (h : Ok l) {i k : Nat} (hi : i < l.A.length) (hk : k < l.C.length + l.A.length + 1) : aj (ix (rV l i) k) /\ V (ix (rV l i) k) = T0 l i k := by
 have hb := h.b i hi
 have hlen : (List.replicate (l.C.length + l.A.length + 1) F01).length = l.C.length + l.A.length + 1 := length_replicate
 have h0 : aj (ix (dM l.C.length (λ c => uT l i (ix (ix l.A i) c)) (List.replicate (l.C.length + l.A.length + 1) F01)) k) /\ V (ix (dM l.C.length (λ c => uT l i (ix (ix l.A i) c)) (List.replicate (l.C.length + l.A.length + 1) F01)) k) = if k < l.C.length then sg l i * aQ l i k else 0 := by
  rw [eM (by rw [hlen]; exact hk)]
  by_cases hkn : k < l.C.length
  ·rw [if_pos hkn, if_pos hkn]
   exact LH h hi hkn
  ·rw [if_neg hkn, if_neg hkn, jZ hk]
   exact ⟨mC, Gm⟩
 unfold rV T0
 simp only
 by_cases hkeep : fo l i = true
 ·have hs : sg l i = 1 := if_pos hkeep
  rw [if_pos hkeep, dY (by simp only [length_set, aP, hlen]; omega)]
  by_cases hkw : k = l.C.length + l.A.length
  ·rw [if_pos hkw, if_neg (by omega), if_neg (by omega), if_pos hkw, hs]
   exact ⟨hb, by unfold bQ; grind⟩
  ·rw [if_neg hkw, dY (by simp only [length_set, aP, hlen]; omega)]
   by_cases hki : k = l.C.length + i
   ·rw [if_pos hki, if_neg (by omega), if_pos hki, hs]
    exact ⟨JX, Wz⟩
   ·rw [if_neg hki, dY (by simp only [length_set, aP, hlen]; omega), if_neg hkw, dY (by simp only [aP, hlen]; omega), if_neg hki]
    refine ⟨h0.1, h0.2.trans ?_⟩
    rw [if_neg hki, if_neg hkw]
 ·have hs : sg l i = -1 := if_neg hkeep
  rw [if_neg hkeep, dY (by simp only [length_set, aP, hlen]; omega)]
  by_cases hkw : k = l.C.length + l.A.length
  ·rw [if_pos hkw, if_neg (by omega), if_neg (by omega), if_pos hkw, hs]
   exact ⟨qE hb, by rw [sq hb]; unfold bQ; grind⟩
  ·rw [if_neg hkw, dY (by simp only [aP, hlen]; omega)]
   by_cases hki : k = l.C.length + i
   ·rw [if_pos hki, if_neg (by omega), if_pos hki, hs]
    exact ⟨uL, by rw [GI]; grind⟩
   ·rw [if_neg hki]
    refine ⟨h0.1, h0.2.trans ?_⟩
    rw [if_neg hki, if_neg hkw]
theorem Em (h : Ok l) : ∀ {k i : Nat}, k <= l.A.length -> i < k -> ix (xR l k) i = if fo l i then (l.C.length : Int) + l.A.length + i else (l.C.length : Int) + i
 | 0, i, _, hi => by omega
 | k + 1, i, hk, hi => by
  have := h.g.m24
  unfold xR
  rw [dY (by rw [tG]; omega)]
  by_cases hik : i = k
  ·subst hik
   rw [if_pos rfl]
  ·rw [if_neg hik]
   exact Em h (by omega) (by omega)
theorem EN : (aw l).w = l.C.length + l.A.length := rfl
theorem kr (h : Ok l) : ∃ L : Lay, L.c = none /\ Shape L (aw l) :=
 ⟨dS 2 l l.A.length, rfl, (oj h.g 2 (Nat.le_refl l.A.length)).full (by simp [dS, d9])⟩
theorem Fn {i : Nat} (hi : i < l.A.length) : ix (aw l).rows i = rV l i := by
 show ix ((List.range l.A.length).map (rV l)) i = _
 exact IB hi
theorem jF (h : Ok l) {i k : Nat} (hi : i < l.A.length) (hk : k < l.C.length + l.A.length + 1) : (Q (aw l)).T i k = T0 l i k := by
 show V (ix (ix (aw l).rows i) k) = _
 rw [Fn hi]
 exact (Bm h hi hk).2
theorem Ob (h : Ok l) {i : Nat} (hi : i < l.A.length) : (Q (aw l)).b i = if fo l i then l.C.length + l.A.length + i else l.C.length + i := by
 show (ix (xR l l.A.length) i).toNat = _
 rw [Em h (Nat.le_refl _) hi]
 split <;> omega
theorem BU (h : Ok l) : Vd (aw l) := ⟨λ i k hi hk => by rw [Fn hi]; exact (Bm h hi hk).1, .inl rfl⟩
theorem sY (h : Ok l) : ∀ i, i < l.A.length -> (Q (aw l)).b i < l.C.length + l.A.length -> ∀ i', i' < l.A.length -> (Q (aw l)).T i' ((Q (aw l)).b i) = if i' = i then 1 else 0 := λ i hi hb i' hi' => by
 rw [Ob h hi] at hb ⊢
 by_cases hk : fo l i = true
 ·rw [if_pos hk] at hb; omega
 ·rw [if_neg hk, jF h hi' (by omega)]
  unfold T0
  rw [if_neg (by omega)]
  by_cases hii : i' = i
  ·subst hii
   rw [if_pos rfl, if_pos rfl]
   unfold sg
   rw [if_neg hk]
   grind
  ·rw [if_neg (by omega), if_neg (by omega), if_neg hii]
theorem FF (h : Ok l) : ∀ i, i < l.A.length -> 0 <= (Q (aw l)).T i (l.C.length + l.A.length) := λ i hi => by
 rw [jF h hi (by omega)]
 unfold T0
 rw [if_neg (by omega), if_neg (by omega), if_pos rfl]
 have hb := h.b i hi
 have h1 := iG hb
 have hd : fo l i = decide (0 < (ix l.B i).N) := rfl
 unfold sg bQ
 by_cases hk : 0 < (ix l.B i).N
 ·rw [if_pos (by rw [hd]; exact decide_eq_true hk)]
  have := h1.1 hk
  grind
 ·rw [if_neg (by rw [hd]; simpa using hk)]
  have := mt h1.2 hk
  grind
theorem x9 {L : Lay} {t : Tab} (hS : Shape L t) (i : Nat) : io t i = true ↔ t.w <= (Q t).b i := by
 have := qk hS i
 unfold io
 show decide ((t.w : Int) <= ix t.basis i) = true ↔ t.w <= (ix t.basis i).toNat
 rw [decide_eq_true_iff]
 omega
theorem Pi (t : Tab) (k : Nat) : V (ix (ep t) k) = 0 := by
 by_cases hk : k < t.w + 1
 ·rw [show ep t = List.replicate (t.w + 1) F01 from rfl, jZ hk]; exact Gm
 ·rw [nK (by rw [ew]; omega)]; exact kE
theorem Io {L : Lay} {t : Tab} (hS : Shape L t) : ∀ {k : Nat}, k <= t.m -> (f1K t k).over = false -> t.over = false /\ Q (f1K t k) = ⟨(Q t).T, λ c => - Sm k (λ i => if t.w <= (Q t).b i then (Q t).T i c else 0), (Q t).b⟩ /\ (Vd t -> Vd (f1K t k))
 | 0, _, ho => ⟨ho, by
   refine QT.same (λ _ _ => rfl) (λ k => ?_) (λ _ => rfl)
   show V (ix (ep t) k) = - Sm 0 _
   rw [Pi]
   unfold Sm
   grind, λ hv => ⟨hv.rows, .inr λ k hk => by
    have hk : k < t.w + 1 := hk
    show aj (ix (ep t) k)
    rw [show ep t = List.replicate (t.w + 1) F01 from rfl, jZ hk]
    exact mC⟩⟩
 | k + 1, hk, ho => by
  have hS1 : Shape (bv L []) (f1K t k) := dL hS (by omega)
  have ih := Io hS (k := k) (by omega)
  have hb : ∀ i, io t i = true ↔ t.w <= (Q t).b i := x9 hS
  unfold f1K at ho ⊢
  by_cases ha : io t k = true
  ·rw [if_pos ha] at ho ⊢
   obtain ⟨h1, h2, h3⟩ := ul hS1 (DN hk) ho
   obtain ⟨h4, h5, h6⟩ := ih h1
   refine ⟨h4, ?_, λ hv => h3 (h6 hv)⟩
   rw [h2, h5, GI]
   refine QT.same (λ _ _ => rfl) (λ c => ?_) (λ _ => rfl)
   simp only
   show _ = - (Sm k _ + if t.w <= (Q t).b k then (Q t).T k c else 0)
   rw [if_pos ((hb k).1 ha)]
   grind
  ·rw [if_neg ha] at ho ⊢
   obtain ⟨h4, h5, h6⟩ := ih ho
   refine ⟨h4, ?_, h6⟩
   rw [h5]
   refine QT.same (λ _ _ => rfl) (λ c => ?_) (λ _ => rfl)
   simp only
   show _ = - (Sm k _ + if t.w <= (Q t).b k then (Q t).T k c else 0)
   rw [if_neg (λ h => ha ((hb k).2 h))]
   grind
structure In1 (l : Lin) (t : Tab) : Prop where
 s : ∃ L, Shape L t
 v : Vd t
 c : t.cost.length = t.w + 1
 n : t.n = l.C.length
 m : t.m = l.A.length
 wf : WF l.A.length (l.C.length + l.A.length) (Q t)
 p1 : P1 l.A.length (l.C.length + l.A.length) (Q t)
 e : Eqv l.A.length (Q (aw l)).T (Q t).T
theorem In1.w {t : Tab} (h : In1 l t) : t.w = l.C.length + l.A.length := by unfold Tab.w; rw [h.n, h.m]
theorem ud (h : Ok l) (ho : (f1T (aw l)).over = false) : In1 l (f1T (aw l)) := by
 obtain ⟨L, hLc, hS⟩ := kr h
 obtain ⟨h1, h2, h3⟩ := Io hS (k := (aw l).m) (Nat.le_refl _) ho
 obtain ⟨s1, s2, s3, s4⟩ := dE (aw l) (aw l).m
 have hw : (f1K (aw l) (aw l).m).w = (aw l).w := Ev _ _
 refine ⟨⟨_, dL (K := []) hS (Nat.le_refl _)⟩, h3 (BU h), ?_, s1, s2, ?_, ?_, ?_⟩
 ·show (f1K (aw l) (aw l).m).cost.length = (f1K (aw l) (aw l).m).w + 1
  rw [s3, hw]
 ·rw [show f1T (aw l) = f1K (aw l) (aw l).m from rfl, h2]
  refine ⟨sY h, λ i hi hb => ?_, FF h⟩
  have hb : (Q (aw l)).b i < l.C.length + l.A.length := hb
  show - Sm (aw l).m (λ x => if (aw l).w <= (Q (aw l)).b x then (Q (aw l)).T x ((Q (aw l)).b i) else 0) = 0
  rw [ay (g := λ _ => 0) (λ x hx => ?_), bJ]
  ·grind
  ·split
   ·rename_i hx2
    rw [sY h i hi hb x hx, if_neg (λ e => by rw [e] at hx2; exact absurd hb (by rw [EN] at hx2; omega))]
   ·rfl
 ·rw [show f1T (aw l) = f1K (aw l) (aw l).m from rfl, h2]
  exact λ k => rfl
 ·rw [show f1T (aw l) = f1K (aw l) (aw l).m from rfl, h2]
  exact Eqv.refl _ _
theorem In1.step {t u : Tab} (h : In1 l t) (hs : bY t = .inr u) (ho : u.over = false) : In1 l u := by
 obtain ⟨L, hS⟩ := h.s
 obtain ⟨r, j, hB, hQ, hv⟩ := yF hS h.v h.c hs ho
 have hsh := jD hS
 rw [hs] at hsh
 obtain ⟨k1, k2⟩ := hsh
 rw [h.m, h.w] at hB
 have hp := om hB.pos
 refine ⟨⟨L, k1⟩, hv, by rw [k2.cost, h.c, k2.w], k2.n.trans h.n, k2.m.trans h.m, ?_, ?_, ?_⟩
 ·rw [hQ]; exact h.wf.piv hB
 ·rw [hQ]; exact h.p1.piv hB.jw hp
 ·rw [hQ]; exact h.e.trans (Eqv.piv hB.rm hp)
theorem In1.halts {t : Tab} (h : In1 l t) : jG t := by
 obtain ⟨L, hS⟩ := h.s
 exact Go.Proofs.YtfoipbjhaiimlaaGreatDoor.halts hS h.v h.c (by rw [h.m, h.w]; exact h.wf)
theorem QE (h : Ok l) : jq (aw l) := λ hn => (ud h (by
 cases ho : (f1T (aw l)).over with
 | false => rfl
 | true => exact absurd (.inr ho) hn)).halts
theorem tS (h : Ok l) (ho1 : (f1T (aw l)).over = false) (ho : (aO (f1T (aw l))).2.over = false) : In1 l (aO (f1T (aw l))).2 := by
 obtain ⟨r, n, hr⟩ := (ud h ho1).halts
 rw [dN hr] at ho ⊢
 exact (qd (P := In1 l) (λ t u ht hs ho => ht.step hs ho) hr (ud h ho1) ho).1
structure In2 (l : Lin) (k : Nat) (t : Tab) : Prop where
 s : ∃ L, Shape L t
 v : Vd t
 n : t.n = l.C.length
 m : t.m = l.A.length
 wf : WF l.A.length (l.C.length + l.A.length) (Q t)
 e : Eqv l.A.length (Q (aw l)).T (Q t).T
 c : ∀ k, (Q t).c k = 0
 o : t.over = false
 r : ∀ i, i < l.A.length -> l.C.length + l.A.length <= (Q t).b i -> (Q t).T i (l.C.length + l.A.length) = 0
 z : ∀ i, i < k -> i < l.A.length -> l.C.length + l.A.length <= (Q t).b i -> ∀ c, c < l.C.length + l.A.length -> (Q t).T i c = 0
theorem In2.w {t : Tab} {k : Nat} (h : In2 l k t) : t.w = l.C.length + l.A.length := by unfold Tab.w; rw [h.n, h.m]
theorem wt {t : Tab} {i : Nat} : ∀ {k : Nat}, jV t i k = none -> ∀ c, c < k -> (ix (ix t.rows i) c).N = 0
 | 0, _, c, hc => by omega
 | k + 1, h, c, hc => by
  cases h1 : jV t i k with
  | some i' => unfold jV at h; rw [h1] at h; cases h
  | none =>
   rw [mY h1] at h
   split at h
   ·cases h
   ·rename_i hN
    by_cases hck : c = k
    ·rw [hck]; exact Classical.byContradiction hN
    ·exact wt h1 c (by omega)
theorem In2.rep {t : Tab} {k : Nat} (h : In2 l k t) (hk : k < l.A.length) (ho : (jR t k).over = false) : In2 l (k + 1) (jR t k) := by
 obtain ⟨L, hS⟩ := h.s
 have hart := x9 hS k
 have hw := h.w
 unfold jR at ho ⊢
 by_cases ha : (t.w : Int) <= ix t.basis k /\ t.over = false
 ·rw [if_pos ha] at ho ⊢
  have hbk : l.C.length + l.A.length <= (Q t).b k := by rw [<- hw]; exact hart.1 (decide_eq_true ha.1)
  cases hc : jV t k t.w with
  | none =>
   refine ⟨h.s, h.v, h.n, h.m, h.wf, h.e, h.c, h.o, h.r, λ i hi hi2 hb c hc2 => ?_⟩
   by_cases hik : i = k
   ·subst hik
    exact sL (wt hc c (by rw [hw]; exact hc2))
   ·exact h.z i (by omega) hi2 hb c hc2
  | some j =>
   rw [hc] at ho
   simp only at ho ⊢
   have hj := oR hc
   obtain ⟨p1, p2, p3, p4⟩ := Ec hS (by rw [h.m]; exact hk) hj ho
   have hj' : j < l.C.length + l.A.length := by omega
   have hr0 := h.r k hk hbk
   refine ⟨⟨L, iY hS (by rw [h.m]; exact hk) hj⟩, p4 h.v, (JY k j).trans h.n, (Dx k j).trans h.m, ?_, ?_, ?_, ho, ?_, ?_⟩
   ·rw [p3]; exact h.wf.piv0 hk hj' p2 hr0 h.c
   ·rw [p3]; exact h.e.trans (Eqv.piv hk p2)
   ·rw [p3]
    intro c
    show (Q t).c c - (Q t).c j * ((Q t).T k c / (Q t).T k j) = 0
    rw [h.c, h.c]
    grind
   ·rw [p3]
    intro i hi hb
    have hb : _ <= (if i = k then j else (Q t).b i) := hb
    by_cases hik : i = k
    ·rw [if_pos hik] at hb; omega
    ·rw [if_neg hik] at hb
     show (if i = k then _ else _) = 0
     rw [if_neg hik, hr0, h.r i hi hb]
     grind
   ·rw [p3]
    intro i hi hi2 hb c hc2
    have hb : _ <= (if i = k then j else (Q t).b i) := hb
    by_cases hik : i = k
    ·rw [if_pos hik] at hb; omega
    ·rw [if_neg hik] at hb
     show (if i = k then _ else _) = 0
     rw [if_neg hik, h.z i (by omega) hi2 hb c hc2, h.z i (by omega) hi2 hb j hj']
     grind
 ·rw [if_neg ha] at ho ⊢
  refine ⟨h.s, h.v, h.n, h.m, h.wf, h.e, h.c, h.o, h.r, λ i hi hi2 hb c hc2 => ?_⟩
  by_cases hik : i = k
  ·subst hik
   refine absurd ⟨?_, h.o⟩ ha
   have := hart.2 (by rw [hw]; exact hb)
   exact of_decide_eq_true this
  ·exact h.z i (by omega) hi2 hb c hc2
theorem Ir {t : Tab} {L : Lay} (hS : Shape L t) {k : Nat} (hk : k < t.m) (ho : (jR t k).over = false) : t.over = false := by
 unfold jR at ho
 split at ho
 ·rename_i h; exact h.2
 ·exact ho
theorem In2.reps {t : Tab} (h : In2 l 0 t) : ∀ {k : Nat}, k <= l.A.length -> (oe t k).over = false -> In2 l k (oe t k)
 | 0, _, _ => h
 | k + 1, hk, ho => by
  obtain ⟨L, hS⟩ := h.s
  have hsh := iV hS (k := k) (by rw [h.m]; omega)
  have ho' : (oe t k).over = false := Ir hsh.1 (by rw [hsh.2.m, h.m]; omega) ho
  exact (h.reps (k := k) (by omega) ho').rep (by omega) ho
theorem tc (h : Ok l) (ho : (aD (aw l)).2.over = false) (hb : (aD (aw l)).1 = true) : In2 l l.A.length (aD (aw l)).2 := by
 obtain ⟨L, hLc, hS⟩ := kr h
 unfold aD at ho hb ⊢
 by_cases h1 : fF (aw l).m (io (aw l)) = false ∨ (f1T (aw l)).over = true
 ·rw [if_pos h1] at ho ⊢
  have h2 : fF (aw l).m (io (aw l)) = false := h1.resolve_right (λ e => by rw [show (true, f1T (aw l)).2 = f1T (aw l) from rfl, e] at ho; cases ho)
  have ho : (f1T (aw l)).over = false := ho
  have hi := ud h ho
  obtain ⟨q1, q2, q3⟩ := Io hS (k := (aw l).m) (Nat.le_refl _) ho
  have hQ : Q (f1T (aw l)) = ⟨(Q (aw l)).T, λ c => - Sm (aw l).m (λ i => if (aw l).w <= (Q (aw l)).b i then (Q (aw l)).T i c else 0), (Q (aw l)).b⟩ := q2
  have hna : ∀ i, i < l.A.length -> ¬ l.C.length + l.A.length <= (Q (aw l)).b i := λ i hi hb => by
   have := ji h2 i hi
   rw [(x9 hS i).2 hb] at this
   cases this
  refine ⟨hi.s, hi.v, hi.n, hi.m, hi.wf, hi.e, λ k => ?_, ho, λ i hi hb => ?_, λ i _ hi hb => ?_⟩
  ·rw [show (true, f1T (aw l)).2 = f1T (aw l) from rfl, hQ]
   show - Sm l.A.length _ = 0
   rw [ay (g := λ _ => 0) (λ i hi => by exact if_neg (hna i hi)), bJ]
   grind
  ·rw [show (true, f1T (aw l)).2 = f1T (aw l) from rfl, hQ] at hb
   exact absurd hb (hna i hi)
  ·rw [show (true, f1T (aw l)).2 = f1T (aw l) from rfl, hQ] at hb
   exact absurd hb (hna i hi)
 ·rw [if_neg h1] at ho hb ⊢
  have ho1 : (f1T (aw l)).over = false := by
   cases hh : (f1T (aw l)).over with
   | false => rfl
   | true => exact absurd (.inr hh) h1
  by_cases h2 : (aO (f1T (aw l))).2.over = true
  ·rw [if_pos h2] at ho
   rw [show (true, (aO (f1T (aw l))).2).2 = (aO (f1T (aw l))).2 from rfl, h2] at ho
   cases ho
  rw [if_neg h2] at ho hb ⊢
  have h2 : (aO (f1T (aw l))).2.over = false := by simpa using h2
  have hi := tS h ho1 h2
  by_cases h3 : (ix (aO (f1T (aw l))).2.cost (aw l).w).N < 0
  ·rw [if_pos h3] at hb
   cases hb
  rw [if_neg h3] at ho ⊢
  generalize (aO (f1T (aw l))).2 = t at *
  have hc0 : 0 <= (Q t).c (l.C.length + l.A.length) := by
   have hv := cw hi.v hi.c (k := t.w) (by omega)
   rw [EN, <- hi.w, cR hv] at h3
   rw [<- hi.w]
   show 0 <= V (ix t.cost t.w)
   grind
  have hr := hi.p1.rhs hi.wf hc0
  obtain ⟨L2, hS2⟩ := hi.s
  have hin : In2 l 0 { t with cost := [] } := by
   refine ⟨⟨{ L2 with c := none }, ⟨hS2.m, hS2.r, hS2.n1, hS2.n12, hS2.m24, hS2.row, .inl ⟨rfl, rfl⟩, hS2.bas, hS2.b64⟩⟩, ⟨hi.v.rows, .inl rfl⟩, hi.n, hi.m, ⟨hi.wf.unit, λ i _ _ => kE, hi.wf.rhs⟩, hi.e, λ _ => kE, h2, hr, λ i hi => by omega⟩
  exact hin.reps (Nat.le_refl _) ho
end
section
variable {l : Lin}
def cE (l : Lin) (k : Nat) : Rat := if k < l.C.length then cQ l k else 0
theorem Qd {t : Tab} (hn : t.n = l.C.length) (hw : t.w = l.C.length + l.A.length) (k : Nat) : V (ix (xY t l.C) k) = cE l k := by
 have hE : ep t = List.replicate (t.w + 1) F01 := rfl
 unfold xY cE cQ
 rw [hE, List.drop_replicate]
 by_cases hk : k < l.C.length
 ·rw [if_pos hk]
  unfold ix
  rw [getD_eq_getElem?_getD, getElem?_append_left hk, getD_eq_getElem?_getD]
 ·rw [if_neg hk]
  by_cases hk2 : k < l.C.length + (t.w + 1 - l.C.length)
  ·rw [az (by rw [length_append, length_replicate]; exact hk2), List.getElem_append_right (by omega), getElem_replicate]
   exact Gm
  ·rw [nK (by rw [length_append, length_replicate]; omega)]
   exact kE
theorem BM (h : Ok l) {t : Tab} (hn : t.n = l.C.length) (hw : t.w = l.C.length + l.A.length) {k : Nat} (hk : k < t.w + 1) : aj (ix (xY t l.C) k) := by
 have hE : ep t = List.replicate (t.w + 1) F01 := rfl
 unfold xY
 rw [hE, List.drop_replicate]
 by_cases hkn : k < l.C.length
 ·have := h.c k hkn
  unfold ix at this ⊢
  rw [getD_eq_getElem?_getD, getElem?_append_left hkn, <- getD_eq_getElem?_getD]
  exact this
 ·rw [az (by rw [length_append, length_replicate]; omega), List.getElem_append_right (by omega), getElem_replicate]
  exact mC
theorem FD {t : Tab} {L : Lay} (hS : Shape L t) (k : Nat) : BZ t l.C k ↔ (Q t).b k < t.n /\ (ix l.C ((Q t).b k)).N ≠ 0 := by
 have := qk hS k
 unfold BZ
 show _ ↔ (ix t.basis k).toNat < t.n /\ (ix l.C (ix t.basis k).toNat).N ≠ 0
 exact and_congr (by omega) Iff.rfl
theorem MX (h : Ok l) {L : Lay} {t : Tab} (hS : Shape L t) (hn : t.n = l.C.length) (hw : t.w = l.C.length + l.A.length) : ∀ {k : Nat}, k <= t.m -> (s1K t l.C k).over = false -> t.over = false /\ Q (s1K t l.C k) = ⟨(Q t).T, λ c => cE l c - Sm k (λ i => if (Q t).b i < l.C.length then cQ l ((Q t).b i) * (Q t).T i c else 0), (Q t).b⟩ /\ (Vd t -> Vd (s1K t l.C k))
 | 0, _, ho => ⟨ho, by
   refine QT.same (λ _ _ => rfl) (λ k => ?_) (λ _ => rfl)
   show V (ix (xY t l.C) k) = cE l k - Sm 0 _
   rw [Qd hn hw]
   unfold Sm
   grind, λ hv => ⟨hv.rows, .inr λ k hk => BM h hn hw hk⟩⟩
 | k + 1, hk, ho => by
  have hS1 : Shape (bv L []) (s1K t l.C k) := fQ hS hn.symm (by omega)
  have ih := MX h hS hn hw (k := k) (by omega)
  have hu := FD (l := l) hS k
  unfold s1K at ho ⊢
  by_cases ha : BZ t l.C k
  ·rw [if_pos ha] at ho ⊢
   obtain ⟨sm1, sm2, sm3, sm4⟩ := eI (t := t) hn.symm k
   obtain ⟨h1, h2, h3⟩ := ul hS1 ⟨by rw [sm2]; exact hk, λ q hq => (by cases hq), λ _ => by rw [sm3, zy hn.symm]⟩ ho
   obtain ⟨h4, h5, h6⟩ := ih h1
   refine ⟨h4, ?_, λ hv => h3 (h6 hv)⟩
   rw [h2, h5]
   refine QT.same (λ _ _ => rfl) (λ c => ?_) (λ _ => rfl)
   simp only
   show _ = _ - (Sm k _ + if (Q t).b k < l.C.length then cQ l ((Q t).b k) * (Q t).T k c else 0)
   rw [if_pos (by rw [<- hn]; exact (hu.1 ha).1)]
   have : V (ix l.C (ix t.basis k).toNat) = cQ l ((Q t).b k) := rfl
   rw [this]
   grind
  ·rw [if_neg ha] at ho ⊢
   obtain ⟨h4, h5, h6⟩ := ih ho
   refine ⟨h4, ?_, h6⟩
   rw [h5]
   refine QT.same (λ _ _ => rfl) (λ c => ?_) (λ _ => rfl)
   simp only
   show _ = _ - (Sm k _ + if (Q t).b k < l.C.length then cQ l ((Q t).b k) * (Q t).T k c else 0)
   by_cases hb : (Q t).b k < l.C.length
   ·rw [if_pos hb]
    have hN : (ix l.C ((Q t).b k)).N = 0 := Classical.byContradiction λ hN => ha (hu.2 ⟨by rw [hn]; exact hb, hN⟩)
    have : cQ l ((Q t).b k) = 0 := sL hN
    rw [this]
    grind
   ·rw [if_neg hb]
    grind
structure In3 (l : Lin) (t : Tab) : Prop where
 s : ∃ L, Shape L t
 v : Vd t
 c : t.cost.length = t.w + 1
 n : t.n = l.C.length
 m : t.m = l.A.length
 wf : WF l.A.length (l.C.length + l.A.length) (Q t)
 e : Eqv l.A.length (Q (aw l)).T (Q t).T
 d : Dif l.A.length (Q (aw l)).T (cE l) (Q t).c
 r : ∀ i, i < l.A.length -> l.C.length + l.A.length <= (Q t).b i -> (Q t).T i (l.C.length + l.A.length) = 0
 z : ∀ i, i < l.A.length -> l.C.length + l.A.length <= (Q t).b i -> ∀ c, c < l.C.length + l.A.length -> (Q t).T i c = 0
theorem In3.w {t : Tab} (h : In3 l t) : t.w = l.C.length + l.A.length := by unfold Tab.w; rw [h.n, h.m]
theorem Kn (h : Ok l) {t : Tab} (ht : In2 l l.A.length t) (ho : (s1T t l.C).over = false) : In3 l (s1T t l.C) := by
 obtain ⟨L, hS⟩ := ht.s
 have hw := ht.w
 obtain ⟨h1, h2, h3⟩ := MX h hS ht.n hw (k := t.m) (Nat.le_refl _) ho
 obtain ⟨s1, s2, s3, s4⟩ := eI (t := t) ht.n.symm t.m
 have hQ : Q (s1T t l.C) = _ := h2
 rw [ht.m] at hQ
 have hTs : (Q (s1T t l.C)).T = (Q t).T := by rw [hQ]
 have hbs : (Q (s1T t l.C)).b = (Q t).b := by rw [hQ]
 refine ⟨⟨_, fQ (K := []) hS ht.n.symm (Nat.le_refl _)⟩, h3 ht.v, ?_, s1.trans ht.n, s2.trans ht.m, ⟨λ i hi hb => ?_, λ i hi hb => ?_, λ i hi => ?_⟩, ?_, ?_, ?_, ?_⟩
 ·show (s1K t l.C t.m).cost.length = (s1K t l.C t.m).w + 1
  rw [s3, zy ht.n.symm]
 ·rw [hTs, hbs] at *
  exact ht.wf.unit i hi hb
 ·rw [hbs] at hb ⊢
  rw [hQ]
  show cE l ((Q t).b i) - Sm l.A.length (λ x => if (Q t).b x < l.C.length then cQ l ((Q t).b x) * (Q t).T x ((Q t).b i) else 0) = 0
  have hpick : Sm l.A.length (λ x => if (Q t).b x < l.C.length then cQ l ((Q t).b x) * (Q t).T x ((Q t).b i) else 0) = if (Q t).b i < l.C.length then cQ l ((Q t).b i) * (Q t).T i ((Q t).b i) else 0 :=
   cZ (f := λ x => if (Q t).b x < l.C.length then cQ l ((Q t).b x) * (Q t).T x ((Q t).b i) else 0) hi (λ x hx hxi => by
    show (if (Q t).b x < l.C.length then cQ l ((Q t).b x) * (Q t).T x ((Q t).b i) else 0) = 0
    rw [ht.wf.unit i hi hb x hx, if_neg hxi]
    split
    ·grind
    ·rfl)
  rw [hpick, ht.wf.unit i hi hb i hi, if_pos rfl]
  unfold cE
  split <;> grind
 ·rw [hTs]
  exact ht.wf.rhs i hi
 ·rw [hTs]
  exact ht.e
 ·rw [hQ]
  refine Dif.eqv ht.e ?_
  show Sp (Q t).T (Lt l.A.length) (λ k => (cE l k - Sm l.A.length (λ i => if (Q t).b i < l.C.length then cQ l ((Q t).b i) * (Q t).T i k else 0)) - cE l k)
  have gen : ∀ n, n <= l.A.length -> Sp (Q t).T (Lt l.A.length) (λ k => - Sm n (λ i => if (Q t).b i < l.C.length then cQ l ((Q t).b i) * (Q t).T i k else 0)) := by
   intro n
   induction n with
   | zero => exact λ _ => Sp.zero.eq (λ k => by unfold Sm; grind)
   | succ n ih =>
    intro hn
    refine ((ih (by omega)).add n (if (Q t).b n < l.C.length then - cQ l ((Q t).b n) else 0) (show n < l.A.length by omega)).eq (λ k => ?_)
    show - (Sm n _ + if (Q t).b n < l.C.length then cQ l ((Q t).b n) * (Q t).T n k else 0) = _
    split <;> grind
  exact (gen l.A.length (Nat.le_refl _)).eq (λ k => by grind)
 ·rw [hTs, hbs]
  exact ht.r
 ·rw [hTs, hbs]
  exact λ i hi hb => ht.z i hi hi hb
theorem In3.step {t u : Tab} (h : In3 l t) (hs : bY t = .inr u) (ho : u.over = false) : In3 l u := by
 obtain ⟨L, hS⟩ := h.s
 obtain ⟨r, j, hB, hQ, hv⟩ := yF hS h.v h.c hs ho
 have hsh := jD hS
 rw [hs] at hsh
 obtain ⟨k1, k2⟩ := hsh
 rw [h.m, h.w] at hB
 have hp := om hB.pos
 have keep : ∀ i, i < l.A.length -> l.C.length + l.A.length <= (cy (Q t) r j).b i -> i ≠ r /\ l.C.length + l.A.length <= (Q t).b i := λ i hi hb => by
  have hb : _ <= (if i = r then j else (Q t).b i) := hb
  by_cases hir : i = r
  ·rw [if_pos hir] at hb
   have := hB.jw
   omega
  ·rw [if_neg hir] at hb
   exact ⟨hir, hb⟩
 refine ⟨⟨L, k1⟩, hv, by rw [k2.cost, h.c, k2.w], k2.n.trans h.n, k2.m.trans h.m, ?_, ?_, ?_, ?_, ?_⟩
 ·rw [hQ]; exact h.wf.piv hB
 ·rw [hQ]; exact h.e.trans (Eqv.piv hB.rm hp)
 ·rw [hQ]; exact h.d.trans (Dif.eqv h.e (Dif.piv hB.rm hp))
 ·rw [hQ]
  intro i hi hb
  obtain ⟨q1, q2⟩ := keep i hi hb
  show (if i = r then _ else _) = 0
  rw [if_neg q1, h.r i hi q2, h.z i hi q2 j hB.jw]
  grind
 ·rw [hQ]
  intro i hi hb c hc
  obtain ⟨q1, q2⟩ := keep i hi hb
  show (if i = r then _ else _) = 0
  rw [if_neg q1, h.z i hi q2 c hc, h.z i hi q2 j hB.jw]
  grind
theorem In3.halts {t : Tab} (h : In3 l t) : jG t := by
 obtain ⟨L, hS⟩ := h.s
 exact Go.Proofs.YtfoipbjhaiimlaaGreatDoor.halts hS h.v h.c (by rw [h.m, h.w]; exact h.wf)
theorem Pw (h : Ok l) : HaltsL l := ⟨QE h, λ ho hb hn => (Kn h (tc h ho hb) (by simpa using hn)).halts⟩
theorem F4 (h : SmallL l) : PreSolve l := ⟨h, λ hc => Pw (Ix hc)⟩
theorem Cr (h : Ok l) {t : Tab} (ht : In2 l l.A.length t) (ho : (aG t l.C).2.over = false) : In3 l (aG t l.C).2 /\ bY (aG t l.C).2 = .inl (aG t l.C) := by
 have h1 : (s1T t l.C).over = false := by
  cases hh : (s1T t l.C).over with
  | false => rfl
  | true =>
   unfold aG at ho
   rw [if_pos hh] at ho
   exact absurd ho (by rw [show (true, s1T t l.C).2 = s1T t l.C from rfl, hh]; decide)
 have hin := Kn h ht h1
 have e : aG t l.C = aO (s1T t l.C) := if_neg (by rw [h1]; decide)
 rw [e] at ho ⊢
 obtain ⟨r, n, hr⟩ := hin.halts
 rw [dN hr] at ho ⊢
 exact qd (P := In3 l) (λ t u ht hs ho => ht.step hs ho) hr hin ho
theorem lR (f : Nat -> Rat) (n : Nat) : ∀ m, Sm (n + m) f = Sm n f + Sm m (λ i => f (n + i))
 | 0 => by rw [Nat.add_zero]; unfold Sm; grind
 | m + 1 => by
  show Sm (n + m) f + f (n + m) = _ + (Sm m _ + _)
  rw [lR f n m]
  grind
theorem HR (h : Ok l) {i : Nat} (hi : i < l.A.length) (z : Nat -> Rat) : val (l.C.length + l.A.length) ((Q (aw l)).T i) z = sg l i * (Sm l.C.length (λ k => aQ l i k * z k) - z (l.C.length + i) - bQ l i) := by
 unfold val
 rw [lR, ay (n := l.C.length) (g := λ k => sg l i * (aQ l i k * z k)) (λ k hk => by
  rw [jF h hi (by omega)]
  unfold T0
  rw [if_pos hk]
  grind), dl, cZ (f := λ x => (Q (aw l)).T i (l.C.length + x) * z (l.C.length + x)) hi (λ x hx hxi => by
  show (Q (aw l)).T i (l.C.length + x) * z (l.C.length + x) = 0
  rw [jF h hi (by omega)]
  unfold T0
  rw [if_neg (by omega), if_neg (by omega), if_neg (by omega)]
  grind), jF h hi (by omega), jF h hi (by omega)]
 unfold T0
 rw [if_neg (by omega), if_pos rfl, if_neg (by omega), if_neg (by omega), if_pos rfl]
 grind
theorem Nd (l : Lin) (i : Nat) : sg l i ≠ 0 := by unfold sg; split <;> decide
structure FeasQ (l : Lin) (x : Nat -> Rat) : Prop where
 nn : ∀ k, k < l.C.length -> 0 <= x k
 row : ∀ i, i < l.A.length -> bQ l i <= Sm l.C.length (λ k => aQ l i k * x k)
theorem Q0 (h : Ok l) {x : Nat -> Rat} (hx : FeasQ l x) : ∃ z : Nat -> Rat, (∀ k, k < l.C.length -> z k = x k) /\ (∀ k, k < l.C.length + l.A.length -> 0 <= z k) /\ Sol l.A.length (l.C.length + l.A.length) (Q (aw l)).T z := by
 obtain ⟨z, hz⟩ : ∃ z : Nat -> Rat, z = λ k => if k < l.C.length then x k else Sm l.C.length (λ j => aQ l (k - l.C.length) j * x j) - bQ l (k - l.C.length) := ⟨_, rfl⟩
 have h1 : ∀ k, k < l.C.length -> z k = x k := λ k hk => by rw [hz]; exact if_pos hk
 have h2 : ∀ i, z (l.C.length + i) = Sm l.C.length (λ j => aQ l i j * x j) - bQ l i := λ i => by
  rw [hz]
  show (if l.C.length + i < l.C.length then _ else _) = _
  rw [if_neg (by omega), show l.C.length + i - l.C.length = i by omega]
 refine ⟨z, h1, λ k hk => ?_, λ i hi => ?_⟩
 ·by_cases hkn : k < l.C.length
  ·rw [h1 k hkn]; exact hx.nn k hkn
  ·have := hx.row (k - l.C.length) (by omega)
   rw [show k = l.C.length + (k - l.C.length) by omega, h2]
   grind
 ·rw [HR h hi, h2, ay (n := l.C.length) (g := λ k => aQ l i k * x k) (λ k hk => by rw [h1 k hk])]
  grind
theorem E8 (h : Ok l) {z : Nat -> Rat} (hz : ∀ k, k < l.C.length + l.A.length -> 0 <= z k) (hs : Sol l.A.length (l.C.length + l.A.length) (Q (aw l)).T z) : FeasQ l z := by
 refine ⟨λ k hk => hz k (by omega), λ i hi => ?_⟩
 have h1 := hs i hi
 rw [HR h hi] at h1
 have h2 := (Rat.mul_eq_zero.1 h1).resolve_left (Nd l i)
 have h3 := hz (l.C.length + i) (by omega)
 grind
theorem Rc (z : Nat -> Rat) : val (l.C.length + l.A.length) (cE l) z = Sm l.C.length (λ k => cQ l k * z k) := by
 unfold val
 rw [lR, ay (n := l.C.length) (g := λ k => cQ l k * z k) (λ k hk => by unfold cE; rw [if_pos hk]), ay (n := l.A.length) (g := λ _ => 0) (λ k hk => by unfold cE; rw [if_neg (by omega)]; grind), bJ]
 unfold cE
 rw [if_neg (by omega)]
 grind
structure Cert (l : Lin) (y : Nat -> Rat) (v : Rat) : Prop where
 nn : ∀ i, i < l.A.length -> 0 <= y i
 col : ∀ k, k < l.C.length -> Sm l.A.length (λ i => y i * aQ l i k) <= cQ l k
 val : Sm l.A.length (λ i => y i * bQ l i) = v
theorem Mi (h : Ok l) {c : Nat -> Rat} (hd : Dif l.A.length (Q (aw l)).T (cE l) c) (hc : ∀ k, k < l.C.length + l.A.length -> 0 <= c k) : ∃ y, Cert l y (- c (l.C.length + l.A.length)) := by
 obtain ⟨L, _, hL⟩ := Sp.coef (m := l.A.length) (N := Lt l.A.length) (λ _ h => h) hd
 -- c k = cE k + sum of L i * T0 i k
 have hk : ∀ k, c k = cE l k + Sm l.A.length (λ i => L i * (Q (aw l)).T i k) := λ k => by have := hL k; grind
 refine ⟨λ i => - (L i * sg l i), λ i hi => ?_, λ k hkn => ?_, ?_⟩
 ·have h1 := hk (l.C.length + i)
  rw [cZ (f := λ x => L x * (Q (aw l)).T x (l.C.length + i)) hi (λ x hx hxi => by
   show L x * (Q (aw l)).T x (l.C.length + i) = 0
   rw [jF h hx (by omega)]
   unfold T0
   rw [if_neg (by omega), if_neg (by omega), if_neg (by omega)]
   grind), jF h hi (by omega)] at h1
  unfold T0 cE at h1
  rw [if_neg (by omega), if_neg (by omega), if_pos rfl] at h1
  have h2 := hc (l.C.length + i) (by omega)
  grind
 ·have h1 := hk k
  have h2 := hc k (by omega)
  rw [ay (g := λ i => (-1) * ((- (L i * sg l i)) * aQ l i k)) (λ i hi => by
   rw [jF h hi (by omega)]
   unfold T0
   rw [if_pos hkn]
   grind), dl] at h1
  unfold cE at h1
  rw [if_pos hkn] at h1
  grind
 ·have h1 := hk (l.C.length + l.A.length)
  rw [ay (g := λ i => (-1) * ((- (L i * sg l i)) * bQ l i)) (λ i hi => by
   rw [jF h hi (by omega)]
   unfold T0
   rw [if_neg (by omega), if_neg (by omega), if_pos rfl]
   grind), dl] at h1
  unfold cE at h1
  rw [if_neg (by omega)] at h1
  grind
theorem D3 (f : Nat -> Nat -> Rat) (n : Nat) : ∀ m, Sm m (λ i => Sm n (λ k => f i k)) = Sm n (λ k => Sm m (λ i => f i k))
 | 0 => by
  show 0 = Sm n (λ _ => 0)
  rw [bJ]
 | m + 1 => by
  show Sm m (λ i => Sm n (λ k => f i k)) + Sm n (λ k => f m k) = Sm n (λ k => Sm m (λ i => f i k) + f m k)
  rw [iL, D3 f n m]
theorem EF {f g : Nat -> Rat} : ∀ {n : Nat}, (∀ i, i < n -> f i <= g i) -> Sm n f <= Sm n g
 | 0, _ => by unfold Sm; exact Rat.le_refl
 | n + 1, h => by
  have h1 := EF (n := n) (f := f) (g := g) (λ i hi => h i (by omega))
  have h2 := h n (by omega)
  unfold Sm
  grind
theorem Cert.le {y x : Nat -> Rat} {v : Rat} (hy : Cert l y v) (hx : FeasQ l x) : v <= Sm l.C.length (λ k => cQ l k * x k) := by
 have h1 : v <= Sm l.A.length (λ i => Sm l.C.length (λ k => y i * (aQ l i k * x k))) := by
  rw [<- hy.val]
  refine EF λ i hi => ?_
  rw [dl]
  exact Rat.mul_le_mul_of_nonneg_left (hx.row i hi) (hy.nn i hi)
 rw [D3 (λ i k => y i * (aQ l i k * x k))] at h1
 refine Rat.le_trans h1 (EF λ k hk => ?_)
 rw [ay (g := λ i => x k * (y i * aQ l i k)) (λ i _ => by grind), dl, Rat.mul_comm (x k)]
 exact Rat.mul_le_mul_of_nonneg_right (hy.col k hk) (hx.nn k hk)
end
section
variable {l : Lin}
def XQ (x : List Fr) (k : Nat) : Rat := V (ix x k)
theorem SR {t : Tab} (h : In3 l t) : ∀ {k : Nat}, k <= l.A.length -> (∀ c, c < l.C.length -> aj (ix (xK t k) c) /\ V (ix (xK t k) c) = Sm k (λ i => if (Q t).b i = c then (Q t).T i (l.C.length + l.A.length) else 0))
 | 0, _, c, hc => by
  have e : xK t 0 = List.replicate t.n F01 := rfl
  rw [e, jZ (by rw [h.n]; exact hc)]
  exact ⟨mC, by rw [Gm]; rfl⟩
 | k + 1, hk, c, hc => by
  obtain ⟨L, hS⟩ := h.s
  have hb := qk hS k
  obtain ⟨i1, i2⟩ := SR h (k := k) (by omega) c hc
  have hbk : (Q t).b k = (ix t.basis k).toNat := rfl
  unfold xK
  show _ /\ _ = Sm k _ + if (Q t).b k = c then (Q t).T k (l.C.length + l.A.length) else 0
  by_cases hlt : ix t.basis k < t.n
  ·rw [if_pos hlt, dY (by rw [s6]; omega)]
   by_cases hcb : c = (ix t.basis k).toNat
   ·rw [if_pos hcb, if_pos (by rw [hbk, hcb])]
    refine ⟨h.v.rows k t.w (by rw [h.m]; omega) (by omega), ?_⟩
    have z : Sm k (λ i => if (Q t).b i = c then (Q t).T i (l.C.length + l.A.length) else 0) = 0 := by
     rw [ay (g := λ _ => 0) (λ i hi => ?_), bJ]
     rw [if_neg]
     intro e
     have := h.wf.inj (i := i) (i' := k) (by omega) (by omega) (by rw [e]; omega) (by rw [e, hbk, hcb])
     omega
    rw [z, h.w]
    show V _ = 0 + V _
    grind
   ·rw [if_neg hcb, if_neg (λ e => hcb (by rw [<- e, hbk]))]
    exact ⟨i1, by rw [i2]; grind⟩
  ·rw [if_neg hlt, if_neg (λ e => by rw [hbk] at e; rw [h.n] at hlt; omega)]
   exact ⟨i1, by rw [i2]; grind⟩
theorem TY {t : Tab} (h : In3 l t) {c : Nat} (hc : c < l.C.length) : aj (ix (xF t) c) /\ XQ (xF t) c = bp l.A.length (l.C.length + l.A.length) (Q t) c := by
 have := SR h (Nat.le_refl _) c hc
 unfold xF XQ bp
 rw [h.m]
 exact this
theorem AH {t : Tab} {b : Bool} (h : bY t = .inl (b, t)) (ho : t.over = false) : (b = true /\ lf t = none) ∨ (b = false /\ ∃ j, lf t = some j /\ (cH t j).2 = false /\ (cH t j).1 < 0) := by
 unfold bY at h
 rw [if_neg (by rw [ho]; decide)] at h
 cases he : lf t with
 | none =>
  rw [he] at h
  injection h with h; injection h with h
  exact .inl ⟨h.symm, rfl⟩
 | some j =>
  rw [he] at h
  simp only at h
  split at h
  ·injection h with h; injection h with h1 h2
   rw [<- h2] at ho
   simp [orT] at ho
  ·rename_i h1
   split at h
   ·rename_i h2
    injection h with h; injection h with h3 h4
    exact .inr ⟨h3.symm, j, rfl, by simpa using h1, h2⟩
   ·cases h
structure Solved (l : Lin) (x : List Fr) (v : Fr) : Prop where
 len : x.length = l.C.length
 valid : ∀ k, k < l.C.length -> aj (ix x k)
 vv : aj v
 feas : FeasQ l (XQ x)
 val : Sm l.C.length (λ k => cQ l k * XQ x k) = V v
 cert : ∃ y, Cert l y (V v)
structure Ray (l : Lin) (d : Nat -> Rat) : Prop where
 nn : ∀ k, k < l.C.length -> 0 <= d k
 row : ∀ i, i < l.A.length -> 0 <= Sm l.C.length (λ k => aQ l i k * d k)
 neg : Sm l.C.length (λ k => cQ l k * d k) < 0
inductive Answer (l : Lin) : List Fr × Fr × Int -> Prop
 | ok {x : List Fr} {v : Fr} : Solved l x v -> Answer l (x, v, 0)
 | none : (¬ ∃ x, FeasQ l x) -> Answer l ([], F00, 23)
 | free : (∃ x, FeasQ l x) -> (∃ d, Ray l d) -> Answer l ([], F00, 19)
 | great : Answer l ([], F00, 24)
theorem In3.sol {t : Tab} (h : In3 l t) : Sol l.A.length (l.C.length + l.A.length) (Q (aw l)).T (bp l.A.length (l.C.length + l.A.length) (Q t)) :=
 Sol.eqv' h.e (Q7 h.wf h.r)
theorem Pd (h : Ok l) {t : Tab} (ht : In3 l t) (he : lf t = none) : Solved l (xF t) (gh (ix t.cost t.w)) := by
 have hcv : ∀ k, k < t.w + 1 -> aj (ix t.cost k) := λ k hk => cw ht.v ht.c hk
 have hw := ht.w
 have hx : ∀ k, k < l.C.length -> XQ (xF t) k = bp l.A.length (l.C.length + l.A.length) (Q t) k := λ k hk => (TY ht hk).2
 have hfeas := E8 h (λ k _ => wl ht.wf k) ht.sol
 have hV : V (gh (ix t.cost t.w)) = - (Q t).c (l.C.length + l.A.length) := by
  rw [sq (hcv _ (by omega)), hw]
  rfl
 have hc0 : ∀ k, k < l.C.length + l.A.length -> 0 <= (Q t).c k := λ k hk => by
  have h1 := entK_none (t := t) (k := t.w) he k (by omega)
  rw [cR (hcv k (by omega))] at h1
  show 0 <= V (ix t.cost k)
  grind
 refine ⟨?_, λ k hk => (TY ht hk).1, qE (hcv _ (by omega)), ⟨λ k hk => ?_, λ i hi => ?_⟩, ?_, ?_⟩
 ·show (xK t t.m).length = _
  rw [s6, ht.n]
 ·rw [hx k hk]; exact hfeas.nn k hk
 ·rw [ay (g := λ k => aQ l i k * bp l.A.length (l.C.length + l.A.length) (Q t) k) (λ k hk => by rw [hx k hk])]
  exact hfeas.row i hi
 ·rw [hV, ay (g := λ k => cQ l k * bp l.A.length (l.C.length + l.A.length) (Q t) k) (λ k hk => by rw [hx k hk]), <- Rc, <- ht.d.same ht.sol]
  exact LR ht.wf
 ·rw [hV]
  exact Mi h ht.d hc0
theorem Iw (h : Ok l) {t : Tab} (ht : In3 l t) {j : Nat} (he : lf t = some j) (h1 : (cH t j).2 = false) (h2 : (cH t j).1 < 0) : (∃ x, FeasQ l x) /\ ∃ d, Ray l d := by
 have hw := ht.w
 obtain ⟨L, hS⟩ := ht.s
 have hcv : ∀ k, k < t.w + 1 -> aj (ix t.cost k) := λ k hk => cw ht.v ht.c hk
 have hj := fz he
 obtain ⟨e1, e2⟩ := entK_some he
 have hcj : (Q t).c j < 0 := (cR (hcv j (by omega))).1 e1
 have hneg : ∀ i, i < l.A.length -> (Q t).T i j <= 0 := λ i hi => by
  rcases mZ h1 with ⟨_, h3⟩ | ⟨r, low, h3, _⟩
  ·have h4 := h3 i (by rw [ht.m]; exact hi)
   rw [iG (ht.v.rows i j (by rw [ht.m]; exact hi) (by omega))] at h4
   show V _ <= 0
   grind
  ·omega
 have hj' : j < l.C.length + l.A.length := by omega
 refine ⟨⟨_, E8 h (λ k _ => wl ht.wf k) ht.sol⟩, ray l.A.length (l.C.length + l.A.length) (Q t) j, ?_⟩
 have hnn := DI (m := l.A.length) ht.wf hj' hneg hcj
 have hsol := LP ht.wf hj' (λ i hi hb => ht.z i hi hb j hj')
 have hray := Jp ht.wf hj'
 generalize ray l.A.length (l.C.length + l.A.length) (Q t) j = d at *
 -- homogeneous: the same with the right sides struck
 obtain ⟨W, hW⟩ : ∃ W, W = l.C.length + l.A.length := ⟨_, rfl⟩
 have hom : ∀ f : Nat -> Rat, Sp (Q t).T (Lt l.A.length) f -> Sm W (λ k => f k * d k) = 0 := λ f hf => by
  induction hf with
  | zero => rw [ay (g := λ _ => 0) (λ k _ => by grind), bJ]
  | @add f i a hi _ ih =>
   have e : Sm W (λ k => (f k + a * (Q t).T i k) * d k) = Sm W (λ k => f k * d k) + Sm W (λ k => a * ((Q t).T i k * d k)) := by
    rw [<- iL]
    exact ay (λ k _ => by grind)
   rw [e, ih, dl, hW, hsol i hi]
   grind
 have h0 : ∀ i, i < l.A.length -> Sm W (λ k => (Q (aw l)).T i k * d k) = 0 := λ i hi => hom _ (ht.e.back i hi)
 have hc : Sm W (λ k => cE l k * d k) < 0 := by
  have h3 := hom _ (Sp.trans (N := Lt l.A.length) ht.e.back ht.d)
  have e : Sm W (λ k => ((Q t).c k - cE l k) * d k) = Sm W (λ k => (Q t).c k * d k) + Sm W (λ k => (-1) * (cE l k * d k)) := by
   rw [<- iL]
   exact ay (λ k _ => by grind)
  rw [e, dl] at h3
  have h4 : Sm W (λ k => (Q t).c k * d k) = (Q t).c j := by rw [hW]; exact hray
  rw [h4] at h3
  grind
 subst hW
 refine ⟨λ k hk => hnn k, λ i hi => ?_, ?_⟩
 ·have h3 := h0 i hi
  rw [lR, ay (n := l.C.length) (g := λ k => sg l i * (aQ l i k * d k)) (λ k hk => by
   rw [jF h hi (by omega)]
   unfold T0
   rw [if_pos hk]
   grind), dl, cZ (f := λ x => (Q (aw l)).T i (l.C.length + x) * d (l.C.length + x)) hi (λ x hx hxi => by
   show (Q (aw l)).T i (l.C.length + x) * d (l.C.length + x) = 0
   rw [jF h hi (by omega)]
   unfold T0
   rw [if_neg (by omega), if_neg (by omega), if_neg (by omega)]
   grind), jF h hi (by omega)] at h3
  unfold T0 at h3
  rw [if_neg (by omega), if_pos rfl] at h3
  have h4 : sg l i * (Sm l.C.length (λ k => aQ l i k * d k) - d (l.C.length + i)) = 0 := by grind
  have h5 := (Rat.mul_eq_zero.1 h4).resolve_left (Nd l i)
  have h6 := hnn (l.C.length + i)
  grind
 ·rw [lR, ay (n := l.C.length) (g := λ k => cQ l k * d k) (λ k hk => by unfold cE; rw [if_pos hk]), ay (n := l.A.length) (g := λ _ => 0) (λ k hk => by unfold cE; rw [if_neg (by omega)]; grind), bJ] at hc
  grind
theorem LB (h : Ok l) (ho1 : (f1T (aw l)).over = false) (ho : (aO (f1T (aw l))).2.over = false) (hb : ¬ fF (aw l).m (io (aw l)) = false) (hn : (ix (aO (f1T (aw l))).2.cost (aw l).w).N < 0) : ¬ ∃ x, FeasQ l x := by
 rintro ⟨x, hx⟩
 obtain ⟨z, hz1, hz2, hz3⟩ := Q0 h hx
 have hi := tS h ho1 ho
 obtain ⟨r, n, hr⟩ := (ud h ho1).halts
 rw [dN hr] at ho hn hi
 have hst := (qd (P := In1 l) (λ t u ht hs ho => ht.step hs ho) hr (ud h ho1) ho).2
 obtain ⟨b, t⟩ := r
 simp only at hst hi ho hn
 have hw := hi.w
 have hcv : ∀ k, k < t.w + 1 -> aj (ix t.cost k) := λ k hk => cw hi.v hi.c hk
 have hcw : (Q t).c (l.C.length + l.A.length) < 0 := by
  rw [EN, <- hw, cR (hcv _ (by omega))] at hn
  rw [<- hw]
  exact hn
 have hs := Sol.eqv hi.e hz3
 -- the costs are a sum of rows
 have hval : Go.Proofs.YtfoipbjhaiimlaaGreatDoor.val (l.C.length + l.A.length) (Q t).c z = 0 := by
  refine yK (N := Lt l.A.length) hs (T := (Q t).T) ?_
  have gen : ∀ n, n <= l.A.length -> Sp (Q t).T (Lt l.A.length) (λ k => - Sm n (λ i => if l.C.length + l.A.length <= (Q t).b i then (Q t).T i k else 0)) := by
   intro n
   induction n with
   | zero => exact λ _ => Sp.zero.eq (λ k => by unfold Sm; grind)
   | succ n ih =>
    intro hn
    refine ((ih (by omega)).add n (if l.C.length + l.A.length <= (Q t).b n then - 1 else 0) (show n < l.A.length by omega)).eq (λ k => ?_)
    show - (Sm n _ + if l.C.length + l.A.length <= (Q t).b n then (Q t).T n k else 0) = _
    split <;> grind
  exact (gen l.A.length (Nat.le_refl _)).eq (λ k => hi.p1 k)
 rcases AH hst ho with ⟨_, he⟩ | ⟨_, j, he, h1, h2⟩
 ·have hc0 : ∀ k, k < l.C.length + l.A.length -> 0 <= (Q t).c k := λ k hk => by
   have h1 := entK_none (t := t) (k := t.w) he k (by omega)
   rw [cR (hcv k (by omega))] at h1
   show 0 <= V (ix t.cost k)
   grind
  have h3 : 0 <= Sm (l.C.length + l.A.length) (λ k => (Q t).c k * z k) := fT λ k hk => Rat.mul_nonneg (hc0 k hk) (hz2 k hk)
  unfold Go.Proofs.YtfoipbjhaiimlaaGreatDoor.val at hval
  grind
 ·
  have hj := fz he
  obtain ⟨e1, e2⟩ := entK_some he
  have hcj : (Q t).c j < 0 := (cR (hcv j (by omega))).1 e1
  have h3 := hi.p1 j
  have h4 : 0 < Hc l.A.length (l.C.length + l.A.length) (Q t) j := by grind
  obtain ⟨i, hil, hip⟩ := CQ h4
  have hip : 0 < (if l.C.length + l.A.length <= (Q t).b i then (Q t).T i j else 0) := hip
  split at hip
  ·rcases mZ h1 with ⟨_, h5⟩ | ⟨r, low, h5, _⟩
   ·have h6 := h5 i (by rw [hi.m]; exact hil)
    rw [iG (hi.v.rows i j (by rw [hi.m]; exact hil) (by omega))] at h6
    exact h6 hip
   ·omega
  ·exact lt_irrefl hip
theorem oQ (hc : bx l = 0) : Answer l (bF l) := by
 have h := Ix hc
 unfold bF
 rw [if_neg (λ e => e hc)]
 by_cases h1 : (aD (aw l)).2.over = true
 ·rw [if_pos h1]; exact .great
 rw [if_neg h1]
 have h1 : (aD (aw l)).2.over = false := by simpa using h1
 by_cases h2 : (aD (aw l)).1 = false
 ·rw [if_pos h2]
  refine .none ?_
  unfold aD at h1 h2
  by_cases q1 : fF (aw l).m (io (aw l)) = false ∨ (f1T (aw l)).over = true
  ·rw [if_pos q1] at h2; cases h2
  rw [if_neg q1] at h1 h2
  by_cases q2 : (aO (f1T (aw l))).2.over = true
  ·rw [if_pos q2] at h2; cases h2
  rw [if_neg q2] at h1 h2
  by_cases q3 : (ix (aO (f1T (aw l))).2.cost (aw l).w).N < 0
  ·exact LB h (by
    cases hh : (f1T (aw l)).over with
    | false => rfl
    | true => exact absurd (.inr hh) q1) (by simpa using q2) (λ e => q1 (.inl e)) q3
  ·rw [if_neg q3] at h2; cases h2
 rw [if_neg h2]
 have h2 : (aD (aw l)).1 = true := by simpa using h2
 have hin := tc h h1 h2
 by_cases h3 : (aG (aD (aw l)).2 l.C).2.over = true
 ·rw [if_pos h3]; exact .great
 rw [if_neg h3]
 have h3 : (aG (aD (aw l)).2 l.C).2.over = false := by simpa using h3
 obtain ⟨k1, k2⟩ := Cr h hin h3
 generalize aG (aD (aw l)).2 l.C = s at *
 obtain ⟨b, t⟩ := s
 simp only at *
 rcases AH k2 h3 with ⟨rfl, he⟩ | ⟨rfl, j, he, q1, q2⟩
 ·rw [if_neg (by decide)]
  exact .ok (Pd h k1 he)
 ·rw [if_pos rfl]
  obtain ⟨f1, f2⟩ := Iw h k1 he q1 q2
  exact .free f1 f2
end
section
variable {l : Lin}
structure DualQ (l : Lin) : Prop where
 n : (Bk l).C.length = l.A.length
 m : (Bk l).A.length = l.C.length
 a : ∀ j i, j < l.C.length -> i < l.A.length -> aQ (Bk l) j i = - aQ l i j
 b : ∀ j, j < l.C.length -> bQ (Bk l) j = - cQ l j
 c : ∀ i, i < l.A.length -> cQ (Bk l) i = - bQ l i
structure DualAns (l : Lin) (p q : List Fr × Fr × Int) : Prop where
 dP : p.2.2 = 0 -> q.2.2 = 0 -> p.2.1 = gh q.2.1
 one : p.2.2 = 0 -> q.2.2 = 0 ∨ q.2.2 = 24
 two : q.2.2 = 0 -> p.2.2 = 0 ∨ p.2.2 = 24
 no : ¬ (p.2.2 = 19 /\ q.2.2 = 19)
end
theorem Ep (f : Nat -> Rat) : ∀ n, Sm (n + 1) f = f 0 + Sm n (λ i => f (i + 1))
 | 0 => by unfold Sm Sm; grind
 | n + 1 => by
  show Sm (n + 1) f + f (n + 1) = f 0 + (Sm n _ + f (n + 1))
  rw [Ep f n]
  grind
theorem NL : ∀ {a x : List Fr} {s r : Fr}, B7 s a x = some r -> aj s -> a.length <= x.length -> aj r /\ V r = V s + Sm a.length (λ k => V (ix a k) * V (ix x k))
 | [], x, s, r, h, hs, _ => by
  unfold B7 at h
  injection h with h
  rw [<- h]
  exact ⟨hs, by show _ = _ + 0; grind⟩
 | a :: ar, [], s, r, h, hs, hl => by simp at hl
 | a :: ar, x :: xs, s, r, h, hs, hl => by
  unfold B7 at h
  cases h1 : nr a x with
  | none => rw [h1] at h; cases h
  | some p =>
   rw [h1] at h
   simp only at h
   cases h2 : Cc s p with
   | none => rw [h2] at h; cases h
   | some t =>
    rw [h2] at h
    obtain ⟨m1, m2, m3, m4⟩ := kH h1
    obtain ⟨q1, q2, q3, q4⟩ := wP h2
    obtain ⟨i1, i2⟩ := NL h q3 (by simpa using hl)
    refine ⟨i1, ?_⟩
    rw [i2, q4, m4]
    show _ = _ + Sm (ar.length + 1) _
    rw [Ep]
    have e0 : V (ix (a :: ar) 0) * V (ix (x :: xs) 0) = V a * V x := rfl
    have e1 : (λ k => V (ix (a :: ar) (k + 1)) * V (ix (x :: xs) (k + 1))) = λ k => V (ix ar k) * V (ix xs k) := rfl
    rw [e0, e1]
    grind
theorem Mk {l : Lin} {x : List Fr} {u : Fr} (h : qU l x = (u, true)) : x.length = l.C.length /\ aj u /\ V u = Sm l.C.length (λ k => cQ l k * XQ x k) := by
 unfold qU at h
 split at h
 ·rename_i hl
  cases h1 : B7 F01 l.C x with
  | none => rw [h1] at h; simp [ofO] at h
  | some r =>
   rw [h1] at h
   injection h with h
   obtain ⟨i1, i2⟩ := NL h1 mC (by omega)
   rw [h] at i1 i2
   refine ⟨hl, i1, ?_⟩
   rw [i2, Gm]
   show _ = Sm _ (λ k => V (ix l.C k) * V (ix x k))
   grind
 ·simp at h
theorem O1 {a b : Fr} (ha : aj a) (hb : aj b) (h : V a <= V b) : jv a b <= 0 := by
 have h1 := ko hb ha
 have h2 := mt h1.1 (by grind)
 unfold jv pE sgn
 rw [if_pos ha, if_pos hb]
 split
 ·omega
 ·split <;> omega
section
variable {l : Lin}
structure BestF (l : Lin) (x : List Fr) (v : Fr) : Prop where
 len : x.length = l.C.length
 u : ∀ u, qU l x = (u, true) -> u = v
 xs : ∀ j, j < x.length -> aj (ix x j) /\ 0 <= (ix x j).N
 r : ∀ i, i < l.A.length -> ∀ s, qU ⟨[], [], ix l.A i⟩ x = (s, true) -> 0 <= jv s (ix l.B i)
 y : ∀ y w, qU l y = (w, true) -> Tv l y = true -> jv v w <= 0
theorem F5 (hc : bx l = 0) {x : List Fr} {v : Fr} (h : bF l = (x, v, 0)) : Solved l x v := by
 have ha := oQ hc
 rw [h] at ha
 cases ha with
 | ok s => exact s
theorem Kg {x : List Fr} {v : Fr} (h : bF l = (x, v, 0)) : bx l = 0 := by
 apply Classical.byContradiction
 intro hc
 have e : bF l = ([], F00, bx l) := if_pos hc
 rw [e] at h
 injection h with _ h
 injection h with _ h
 exact hc h
end
namespace Nt
open Go.RowKit
set_option linter.unusedVariables false
def B9 : Nat := 1000000000
def val : List Int -> Nat
  | [] => 0
  | x :: r => x.toNat + B9 * val r
def canon (n : Nat) : List Int := if h : n = 0 then [] else ((n % B9 : Nat) : Int) :: canon (n / B9)
termination_by n
decreasing_by exact div_lt_self (pos_of_ne_zero h) (show 1 < B9 by decide)
def d8 (a : List Int) : Bool := decide (a.length <= 64 /\ (∀ x ∈ a, 0 <= x /\ x < 1000000000) /\ (a ≠ [] -> ix a (a.length - 1) ≠ 0))
def Good (l : List Int) : Prop := ∀ x ∈ l, 0 <= x /\ x < 1000000000
def yJ (l : List Int) : Prop := l ≠ [] -> ix l (l.length - 1) ≠ 0
theorem validR_iff {a : List Int} : d8 a = true ↔ a.length <= 64 /\ Good a /\ yJ a := by simp only [d8, decide_eq_true_eq]; rfl
def eC (a : List Int) : List Int := if d8 a then a else []
theorem iN (a : List Int) : (eC a).length <= 64 := by
  unfold eC; split
  · rename_i h; exact (validR_iff.1 h).1
  · simp
theorem Good.tail {x : Int} {l : List Int} (h : Good (x :: l)) : Good l := fun y hy => h y (List.mem_cons_of_mem _ hy)
theorem Good.head {x : Int} {l : List Int} (h : Good (x :: l)) : 0 <= x /\ x < 1000000000 := h x (by simp)
theorem zr : Good [] := fun x hx => by simp at hx
theorem F8 {x : Int} {l : List Int} (h : 0 <= x /\ x < 1000000000) (hl : Good l) : Good (x :: l) := fun y hy => by
  rcases mem_cons.1 hy with h' | h'
  · subst h'; exact h
  · exact hl y h'
theorem v9 {l : List Int} (n : Nat) (h : Good l) : Good (l.take n) := fun y hy => h y (List.mem_of_mem_take hy)
theorem canon_zero : canon 0 = [] := by rw [canon]; simp
theorem eZ {n : Nat} (h : n ≠ 0) : canon n = ((n % B9 : Nat) : Int) :: canon (n / B9) := by rw [canon]; simp [h]
theorem kR : ∀ (l m : List Int), val (l ++ m) = val l + B9 ^ l.length * val m
  | [], m => by simp [val]
  | x :: r, m => by
    rw [cons_append, val, val, kR r m, length_cons, pow_succ, mul_add, Nat.add_assoc]
    congr 2
    rw [Nat.mul_comm (B9 ^ r.length) B9, mul_assoc]
theorem val_lt : ∀ {l : List Int}, Good l -> val l < B9 ^ l.length
  | [], _ => by simp [val]
  | x :: r, h => by
    have h1 := h.head
    have h2 := val_lt h.tail
    rw [val, length_cons, pow_succ]
    have h3 : B9 * val r + B9 <= B9 * B9 ^ r.length := by rw [<- Nat.mul_succ]; exact Nat.mul_le_mul_left _ h2
    have h4 : x.toNat < B9 := by unfold B9; omega
    rw [Nat.mul_comm (B9 ^ r.length)]
    omega
theorem canon_good : ∀ (n : Nat), Good (canon n) := by
  intro n
  induction n using Nat.strongRecOn with
  | _ n ih =>
    by_cases h : n = 0
    · subst h; rw [canon_zero]; exact zr
    · rw [eZ h]
      refine F8 ?_ (ih _ (div_lt_self (pos_of_ne_zero h) (show 1 < B9 by decide)))
      have : n % B9 < B9 := Nat.mod_lt _ (by decide)
      unfold B9 at this ⊢
      omega
theorem val_canon (n : Nat) : val (canon n) = n := by
  induction n using Nat.strongRecOn with
  | _ n ih =>
    by_cases h : n = 0
    · subst h; rw [canon_zero]; rfl
    · rw [eZ h, val, ih _ (div_lt_self (pos_of_ne_zero h) (show 1 < B9 by decide))]
      have := Nat.mod_add_div n B9
      omega
theorem vD {x y : Int} {r : List Int} (h : yJ (x :: y :: r)) : yJ (y :: r) := fun _ => by
  have := h (by simp)
  simpa [ix] using this
theorem sB : ∀ {l : List Int}, Good l -> yJ l -> l ≠ [] -> val l ≠ 0
  | [x], hg, hn, _ => by
    have := hg.head
    have h := hn (by simp)
    simp [ix] at h
    simp [val]
    omega
  | x :: y :: r, hg, hn, _ => by
    have := sB hg.tail (vD hn) (by simp)
    rw [val]
    have : B9 * val (y :: r) ≠ 0 := Nat.mul_ne_zero (by decide) this
    omega
theorem canon_val : ∀ {l : List Int}, Good l -> yJ l -> canon (val l) = l
  | [], _, _ => canon_zero
  | x :: r, hg, hn => by
    have h1 := hg.head
    have h4 : x.toNat < B9 := by unfold B9; omega
    rw [eZ (sB hg hn (by simp)), val]
    have h5 : (x.toNat + B9 * val r) % B9 = x.toNat := by rw [Nat.add_mul_mod_self_left, mod_eq_of_lt h4]
    have h6 : (x.toNat + B9 * val r) / B9 = val r := by rw [Nat.add_mul_div_left _ _ (by decide), Nat.div_eq_of_lt h4, zero_add]
    rw [h5, h6]
    have h7 : canon (val r) = r := by
      cases r with
      | nil => exact canon_zero
      | cons y r => exact canon_val hg.tail (vD hn)
    rw [h7]
    congr 1
    omega
theorem gm (a : List Int) : Good (eC a) := by
  unfold eC; split
  · rename_i h; exact (validR_iff.1 h).2.1
  · exact zr
theorem qO (a : List Int) : yJ (eC a) := by
  unfold eC; split
  · rename_i h; exact (validR_iff.1 h).2.2
  · exact fun h => absurd rfl h
def nv (a : List Int) : Nat := val (eC a)
theorem CM (n : Nat) : yJ (canon n) := by
  induction n using Nat.strongRecOn with
  | _ n ih =>
    by_cases h : n = 0
    · subst h; rw [canon_zero]; exact fun h => absurd rfl h
    · rw [eZ h]
      intro _
      have hi := ih _ (div_lt_self (pos_of_ne_zero h) (show 1 < B9 by decide))
      by_cases h' : n / B9 = 0
      · rw [h', canon_zero]
        have : n < B9 := by
          rcases lt_or_ge n B9 with h | h
          · exact h
          · have := Nat.div_pos h (show 0 < B9 by decide); omega
        simp [ix, mod_eq_of_lt this, h]
      · rw [eZ h'] at hi ⊢
        have := hi (by simp)
        simpa [ix] using this
theorem canon_len : ∀ (k n : Nat), n < B9 ^ k -> (canon n).length <= k
  | 0, n, h => by
    have : n = 0 := by simpa using h
    subst this; rw [canon_zero]; simp
  | k + 1, n, h => by
    by_cases h0 : n = 0
    · subst h0; rw [canon_zero]; simp
    · rw [eZ h0, length_cons]
      have := canon_len k (n / B9) (Nat.div_lt_of_lt_mul (by rw [Nat.mul_comm]; rwa [pow_succ] at h))
      omega
theorem dY {l : List Int} {i j : Nat} {v : Int} (h : i < l.length) : ix (l.set i v) j = if i = j then v else ix l j := by
  unfold ix
  rw [getD_eq_getElem?_getD, getD_eq_getElem?_getD, List.getElem?_set]
  split
  · first | rfl | (rw [if_pos h]; rfl)
  · rfl
theorem dk {l : List Int} {i : Nat} (h : i < l.length) : val (l.take (i + 1)) = val (l.take i) + B9 ^ i * (ix l i).toNat := by
  rw [take_add_one, kR, getElem?_eq_getElem h, az h]
  simp [val, Nat.min_eq_left (Nat.le_of_lt h)]
theorem lP {l : List Int} {i : Nat} (h : l.length <= i) : val (l.take i) = val l := by rw [take_of_length_le h]
theorem yY : ∀ {l : List Int} {k : Nat} {v : Int}, k < l.length -> val (l.set k v) + B9 ^ k * (ix l k).toNat = val l + B9 ^ k * v.toNat
  | x :: r, 0, v, _ => by simp [val, ix]; omega
  | x :: r, k + 1, v, h => by
    have := yY (l := r) (k := k) (v := v) (by simpa using h)
    have e : ix (x :: r) (k + 1) = ix r k := by simp [ix]
    rw [e, List.set_cons_succ, val, val, pow_succ, Nat.mul_comm (B9 ^ k) B9, mul_assoc, mul_assoc]
    have h2 : B9 * (val (r.set k v) + B9 ^ k * (ix r k).toNat) = B9 * (val r + B9 ^ k * v.toNat) := by rw [this]
    rw [mul_add, mul_add] at h2
    omega
theorem nc {l : List Int} (h : Good l) {i : Nat} (hi : i < l.length) : 0 <= ix l i /\ ix l i < 1000000000 := h _ (aq hi)
theorem qJ {l : List Int} {i : Nat} (hi : l.length <= i) : ix l i = 0 := by unfold ix; rw [getD_eq_getElem?_getD, List.getElem?_eq_none hi]; rfl
theorem uK {l : List Int} {i : Nat} {v : Int} (h : Good l) (hv : 0 <= v /\ v < 1000000000) : Good (l.set i v) := fun x hx => by
  rcases List.mem_or_eq_of_mem_set hx with h' | h'
  · exact h x h'
  · subst h'; exact hv
theorem Fp {l : List Int} (hg : Good l) (hn : yJ l) (h : l ≠ []) : B9 ^ (l.length - 1) <= val l := by
  have h0 : 0 < l.length := List.length_pos_iff.2 h
  have h1 := dk (l := l) (i := l.length - 1) (by omega)
  rw [Nat.sub_add_cancel h0, take_length] at h1
  have h2 := hn h
  have h3 := nc hg (i := l.length - 1) (by omega)
  have h4 : 1 <= (ix l (l.length - 1)).toNat := by omega
  have h5 := Nat.mul_le_mul_left (B9 ^ (l.length - 1)) h4
  omega
theorem KR (vo vo' W on r q x y c V vy Bi Bj B : Nat) (hW : W = Bi * Bj) (e1 : vo' + W * on = vo + W * r) (e2 : r + B * q = on + x * y + c) (h : vo + c * W = V + x * Bi * vy) : vo' + q * (W * B) = V + x * Bi * (vy + Bj * y) := by grind
theorem H7 (vo vo' W on c V x Bi vy vx : Nat) (e1 : vo' + W * on = vo + W * c) (h0 : on = 0) (h : vo + c * W = V * vy + x * Bi * vy) (h1 : vx = V + Bi * x) : vo' = vx * vy := by grind
theorem LJ (n : Nat) : val (List.replicate n 0) = 0 := by
  induction n with
  | zero => rfl
  | succ n ih => rw [List.replicate_succ, val, ih]; rfl
theorem zq (n : Nat) : Good (List.replicate n 0) := fun x hx => by rw [(List.mem_replicate.1 hx).2]; omega
theorem jZ (n k : Nat) : ix (List.replicate n (0 : Int)) k = 0 := by
  unfold ix
  rw [getD_eq_getElem?_getD, List.getElem?_replicate]
  split <;> rfl
theorem Lb {a b : Int} (ha : 0 <= a /\ a < 1000000000) (hb : 0 <= b /\ b < 1000000000) : 0 <= a * b /\ a * b <= 999999998000000001 := by
  refine ⟨Int.mul_nonneg ha.1 hb.1, ?_⟩
  have h1 : a * b <= 999999999 * b := Int.mul_le_mul_of_nonneg_right (by omega) hb.1
  omega
theorem At {l : List Int} (h : Good l) (i : Nat) : 0 <= ix l i /\ ix l i < 1000000000 := by
  rcases lt_or_ge i l.length with hi | hi
  · exact nc h hi
  · rw [qJ hi]; omega
theorem lV (l : List Int) (i : Nat) : val (l.take (i + 1)) = val (l.take i) + B9 ^ i * (ix l i).toNat := by
  rcases lt_or_ge i l.length with hi | hi
  · exact dk hi
  · rw [qJ hi, take_of_length_le (by omega), take_of_length_le hi]; simp
theorem Ka (vo W r q B vx vy xi yi c : Nat) (h : vo + c * W = vx + vy) (e : r + B * q = xi + yi + c) : vo + W * r + q * (W * B) = (vx + W * xi) + (vy + W * yi) := by grind
theorem JL (l : List Int) (x : Int) : val (l ++ [x]) = val l + B9 ^ l.length * x.toNat := by rw [kR]; simp [val]
theorem EE {m n : Nat} (h : m <= n) : B9 ^ m <= B9 ^ n := Nat.pow_le_pow_right (by decide) h
theorem DU {s : Int} (hs : 0 <= s) : s.tmod 1000000000 = s % 1000000000 := Int.tmod_eq_emod_of_nonneg hs
theorem EV {s : Int} (hs : 0 <= s) : s.tdiv 1000000000 = s / 1000000000 := Int.tdiv_eq_ediv_of_nonneg hs
theorem BL {m n : Nat} (h : m <= n) : (canon m).length <= (canon n).length := canon_len _ _ (by
  have := val_lt (canon_good n)
  rw [val_canon] at this
  omega)
theorem zP {l : List Int} (hg : Good l) (h : l.length <= 64) : val l < B9 ^ 64 := Nat.lt_of_lt_of_le (val_lt hg) (EE h)
def fitT (n : Nat) : AV := .tup [Enc.enc (if (canon n).length <= 64 then canon n else []), .bool (decide ((canon n).length <= 64))]
theorem Lu {n : Nat} {l : List Int} (h : canon n = l) : fitT n = .tup [.slice 1 false (ac (if l.length <= 64 then l else [])), .bool (decide (l.length <= 64))] := by rw [fitT, h]; rfl
theorem uZ {α : Type} {l : List α} {i : Nat} {v : α} (h : i < l.length) : (l.set i v).take (i + 1) = l.take i ++ [v] := by
  rw [take_add_one, getElem?_set_self h, List.take_set_of_le (Nat.le_refl i)]; rfl
theorem vC {α : Type} [Inhabited α] {l : List α} {i : Nat} (h : i < l.length) : l.take (i + 1) = l.take i ++ [ix l i] := by
  rw [take_add_one, getElem?_eq_getElem h, az h]; rfl
end Nt
namespace Nt
open Go.RowKit
set_option linter.unusedSimpArgs false
noncomputable def C0 : Ctx := mkC prog G0 []
theorem W9 : C0.P = prog := rfl
theorem VH : C0.S = FI [] := rfl
theorem VB : C0.G = G0 := rfl
attribute [simp] W9 VH VB
theorem M6 : au C0 := ak _ _
theorem Lg : C0.P.follows .mixedOrders = true := ae
end Nt
namespace Nt
open Go.RowKit
set_option linter.unusedSimpArgs false
set_option linter.unusedVariables false
noncomputable def C1 : Ctx := mkC prog G0 []
@[simp] theorem Z1 : C1.P = prog := rfl
@[simp] theorem ZG : C1.G = G0 := rfl
theorem Ek : au C1 := ak _ _
theorem same13 : PureOK prog G0 22 (aC (fun (a b : List Int) => a.length <= 1000000 /\ b.length <= 1000000) (fun a b => .bool (decide (a = b)))) := by
  refine aX Ek ae func22 rfl rfl rfl (by kernel_rfl) (by decide) (fun a b ⟨ha, hb⟩ => ?_)
  by_cases hl : a.length = b.length
  · simp [hl]
    refine am Ek ae (fun i : Nat => ⟨[(0, Enc.enc a), (1, Enc.enc b), (5, .int .i64 i)], []⟩) (fun i => i <= a.length /\ a.take i = b.take i) (fun i => a.length - i) (by kernel_rfl) ⟨0, by simp, ah (by simp)⟩ (fun i ⟨hi, he⟩ => ?_)
    by_cases h1 : i < a.length
    · have h2 : i < b.length := by omega
      by_cases h3 : ix a i = ix b i
      · have i1 : I64 ((i : Int) + 1) := by unfold I64; omega
        simp [h1, h2, aa h1, aa h2, h3, i1]
        refine ⟨i + 1, ⟨by omega, ?_⟩, by omega, ah (by simp)⟩
        rw [vC h1, vC h2, he, h3]
      · simp [h1, h2, aa h1, aa h2, h3]
        rintro rfl
        exact h3 rfl
    · simp [h1]
      rw [take_of_length_le (by omega), take_of_length_le (by omega)] at he
      exact he
  · have hl' : ¬ (a.length : Int) = b.length := by omega
    simp [hl']
    rintro rfl
    exact hl rfl
end Nt
namespace Nt
open Go.RowKit
set_option linter.unusedSimpArgs false
set_option linter.unusedVariables false
def s13 : PSp := aC (fun (a b : List Int) => a.length <= 1000000 /\ b.length <= 1000000) (fun a b => .bool (decide (a = b)))
def cmpN (m n : Nat) : Int := if m < n then -1 else if m = n then 0 else 1
theorem wB {l : List Int} {i : Nat} (h : i < l.length) : val l = val (l.take i) + B9 ^ i * (ix l i).toNat + B9 ^ (i + 1) * val (l.drop (i + 1)) := by
  have := kR (l.take (i + 1)) (l.drop (i + 1))
  rw [List.take_append_drop, List.length_take, Nat.min_eq_left h] at this
  rw [this, dk h]
theorem sJ {x y : List Int} {i : Nat} (hx : Good x) (hy : Good y) (h1 : i < x.length) (h2 : i < y.length) (hd : x.drop (i + 1) = y.drop (i + 1)) (h : ix x i < ix y i) : val x < val y := by
  rw [wB h1, wB h2, hd]
  have h3 := val_lt (v9 i hx)
  rw [List.length_take, Nat.min_eq_left (Nat.le_of_lt h1)] at h3
  have hxi := nc hx h1
  have h4 : (ix x i).toNat + 1 <= (ix y i).toNat := by omega
  have h5 := Nat.mul_le_mul_left (B9 ^ i) h4
  rw [mul_add] at h5
  omega
theorem KQ {x y : List Int} (hx : Good x) (hy : Good y) (hyn : yJ y) (h : x.length < y.length) : val x < val y := by
  have h1 := val_lt hx
  have h2 := Fp hy hyn (fun e => by rw [e] at h; simp at h)
  have h3 : B9 ^ x.length <= B9 ^ (y.length - 1) := Nat.pow_le_pow_right (by decide) (by omega)
  omega
theorem Eg {x : List Int} {i : Nat} (h : i < x.length) : x.drop i = ix x i :: x.drop (i + 1) := by rw [List.drop_eq_getElem_cons h, az h]
end Nt
namespace Nt
open Go.RowKit
set_option linter.unusedSimpArgs false
set_option linter.unusedVariables false
end Nt
namespace Nt
open Go.RowKit
set_option linter.unusedSimpArgs false
set_option linter.unusedVariables false
theorem cmpN_le {m n : Nat} : cmpN m n <= 0 ↔ m <= n := by
  unfold cmpN
  split
  · constructor <;> intro <;> omega
  · split
    · constructor <;> intro <;> omega
    · constructor <;> intro <;> omega
def powT (v : Nat) (k : Int) : AV := if k < 0 then .tup [.slice 1 false [], .bool false] else fitT (v ^ k.toNat)
theorem Jy {v : Nat} {k : Int} (h : k < 0) : powT v k = .tup [.slice 1 false [], .bool false] := by rw [powT, if_pos h]
theorem pW {v : Nat} {k : Int} {l : List Int} (h : ¬ k < 0) (hl : canon (v ^ k.toNat) = l) : powT v k = .tup [.slice 1 false (ac (if l.length <= 64 then l else [])), .bool (decide (l.length <= 64))] := by rw [powT, if_neg h, Lu hl]
theorem mM : canon 1 = [1] := by rw [eZ (by decide)]; simp [B9, canon_zero]
end Nt
end
end Go.Proofs.YtfoipbjhaiimlaaGreatDoor