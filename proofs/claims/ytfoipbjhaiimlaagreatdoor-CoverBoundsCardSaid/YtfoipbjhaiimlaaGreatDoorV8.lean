/-
  Texts joined.
-/
import Derived.Test.YtfoipbjhaiimlaaGreatDoorV7
import Derived.Test.YtfoipbjhaiimlaaGreatDoorV6
namespace Go.Proofs.YtfoipbjhaiimlaaGreatDoor
open List (foldl_cons getElem_map map_cons map_map mem_cons mem_cons_of_mem mem_cons_self mem_filterMap mem_iff_getElem mem_map mem_range sum_cons)
open Nat (pow_le_pow_left pow_mul zero_le)
open _root_.Go.Proofs.Tryz
noncomputable section
set_option maxHeartbeats 16000000
open Go.RowKit
set_option linter.unusedSimpArgs false
set_option linter.unusedVariables false
structure Cv (l : Lin) : Prop where
 ok : Ok l
 n6 : l.C.length <= 6
 m24 : l.A.length <= 24
 z : Zero1 (T0 l) l.C.length l.A.length (l.C.length + l.A.length) 24
 keep : ∀ i, i < l.A.length -> fo l i = true
 bin : ∀ i k, i < l.A.length -> k < l.C.length -> T0 l i k = 0 ∨ T0 l i k = 1
 one : ∀ k, k < l.C.length -> ix l.C k = F11
structure Nv (l : Lin) (t : Tab) : Prop where
 s : ∃ L, Shape L t
 v : Vd t
 n : t.n = l.C.length
 m : t.m = l.A.length
 o : t.over = false
 wf : WF l.A.length (l.C.length + l.A.length) (Q t)
 rep : Rep0 (T0 l) l.A.length (l.C.length + l.A.length) (Q t)
theorem Nv.w {l : Lin} {t : Tab} (h : Nv l t) : t.w = l.C.length + l.A.length := by unfold Tab.w; rw [h.n, h.m]
theorem Pf {n : Nat} (h : n <= 6) : (3 : Rat) ^ n <= 729 := by
 have h1 := pB h
 have h2 : (3 : Rat) ^ 6 = 729 := by decide +kernel
 rw [h2] at h1
 exact h1
theorem Nv.d {l : Lin} {t : Tab} (C : Cv l) (h : Nv l t) : ∃ d : Int, 1 <= d /\ d.natAbs <= 54 /\ ∀ i, i < l.A.length -> ∀ k, k <= l.C.length + l.A.length -> ∃ z : Int, (Q t).T i k * (d : Rat) = z /\ z.natAbs <= 17496 /\ (k < l.C.length + l.A.length -> z.natAbs <= 2187) := by
 have hi := λ i i' hi hi' hb e => h.wf.inj (i := i) (i' := i') hi hi' hb e
 obtain ⟨d, h1, he, h2, h3⟩ := Md C.z h.rep hi
 have h6 := Pf C.n6
 have hd : d <= 54 := by
  have h54 : bZ (det (cK (cB (T0 l) l.A.length (l.C.length + l.A.length) (Q t).b) l.A.length) (List.range l.A.length)) <= 54 := by
   refine OZ (n := 0) (p := λ i => decide ((Q t).b i < l.C.length)) (λ i _ hp => ?_) (λ i hil hp => ⟨λ r => ?_, ?_⟩) ?_
   ·have := oZ C.z (Q t).b i
    rw [if_neg (by simpa using hp)] at this
    exact this
   ·have hb : (Q t).b i < l.C.length := by simpa using hp
    unfold cB
    split
    ·rename_i hr
     rw [if_pos (by omega)]
     exact C.bin r _ hr hb
    ·exact .inl rfl
   ·have := oZ C.z (Q t).b i
    rw [if_pos (by simpa using hp)] at this
    exact this
   ·exact Nat.le_trans (EQ λ i i' q1 q2 q3 q4 => hi i i' q1 q2 (by omega) q4) C.n6
  rw [<- he] at h54
  have : (d : Rat) <= ((54 : Int) : Rat) := h54
  exact_mod_cast this
 refine ⟨d, h1, by omega, λ i hi k hk => ?_⟩
 obtain ⟨z, q1, q2⟩ := h3 i hi k hk
 rw [Ed] at q2
 have hp := bS (x := 3) (by decide) l.C.length
 refine ⟨z, q1, ?_, λ hkw => ?_⟩
 ·have : ((z.natAbs : Nat) : Rat) <= ((17496 : Nat) : Rat) := by
   refine Rat.le_trans q2 ?_
   have h7 : (if k < l.C.length + l.A.length then (3 : Rat) else 24) <= 24 := by split <;> decide
   have h8 := Rat.mul_le_mul_of_nonneg_right h7 hp
   have h9 := Rat.mul_le_mul_of_nonneg_left h6 (show (0 : Rat) <= 24 by decide)
   have h10 : (24 : Rat) * 729 = ((17496 : Nat) : Rat) := by decide +kernel
   rw [h10] at h9
   exact Rat.le_trans h8 h9
  exact_mod_cast this
 ·have : ((z.natAbs : Nat) : Rat) <= ((2187 : Nat) : Rat) := by
   refine Rat.le_trans q2 ?_
   rw [if_pos hkw]
   have h9 := Rat.mul_le_mul_of_nonneg_left h6 (show (0 : Rat) <= 3 by decide)
   have h10 : (3 : Rat) * 729 = ((2187 : Nat) : Rat) := by decide +kernel
   rw [h10] at h9
   exact h9
  exact_mod_cast this
theorem Nv.bd {l : Lin} {t : Tab} (C : Cv l) (h : Nv l t) {i k : Nat} (hi : i < l.A.length) (hk : k <= l.C.length + l.A.length) : Bd 17496 54 (ix (ix t.rows i) k) /\ (k < l.C.length + l.A.length -> Bd 2187 54 (ix (ix t.rows i) k)) := by
 obtain ⟨d, h1, h2, h3⟩ := h.d C
 obtain ⟨z, q1, q2, q3⟩ := h3 i hi k hk
 have hv := h.v.rows i k (by rw [h.m]; exact hi) (by rw [h.w]; omega)
 exact ⟨lS hv q1 h1 h2 q2, λ hkw => lS hv q1 h1 h2 (q3 hkw)⟩
theorem Nv.quot {l : Lin} {t : Tab} (C : Cv l) (h : Nv l t) {i j k : Nat} (hi : i < l.A.length) (hj : j < l.C.length + l.A.length) (hk : k <= l.C.length + l.A.length) (h0 : (Q t).T i j ≠ 0) {f : Fr} (hf : aj f) (hV : V f = (Q t).T i k / (Q t).T i j) : Bd 17496 2187 f := by
 obtain ⟨d, h1, h2, h3⟩ := h.d C
 obtain ⟨z, q1, q2, q3⟩ := h3 i hi k hk
 obtain ⟨y, p1, p2, p3⟩ := h3 i hi j (by omega)
 have p3 := p3 hj
 have hd0 : (d : Rat) ≠ 0 := by have := cq h1; grind
 have hy0 : y ≠ 0 := by
  rintro rfl
  have : (Q t).T i j * (d : Rat) = 0 := p1
  rcases Rat.mul_eq_zero.1 this with e | e
  ·exact h0 e
  ·exact hd0 e
 have hyq : (y : Rat) ≠ 0 := by exact_mod_cast hy0
 have e : V f * (y : Rat) = (z : Rat) := by
  rw [hV, <- p1, <- q1, <- Rat.mul_assoc, Rat.div_mul_cancel h0]
 rcases Int.lt_or_gt_of_ne hy0 with hneg | hpos
 ·refine lS (d := -y) (z := -z) hf ?_ (by omega) (by omega) (by omega)
  push_cast
  rw [<- e]; grind
 ·exact lS (d := y) (z := z) hf e (by omega) (by omega) q2
def CsB (t : Tab) : Prop := ∀ k, k < t.w + 1 -> Bd 421000 54 (ix t.cost k)
theorem In {l : Lin} {t : Tab} (C : Cv l) (h : Nv l t) {i j : Nat} (hi : i < t.m) (hj : j < t.w) (hN : (ix (ix t.rows i) j).N ≠ 0) : (pvK t i j (t.w + 1)).over = false := by
 show (t.over || fF (t.w + 1) λ c => (dvP (ix (ix t.rows i) c) (ix (ix t.rows i) j)).2) = false
 rw [h.o, Bool.false_or]
 refine pQ λ k hk => ?_
 have hw := h.w
 rw [h.m] at hi
 exact Kc (h.bd C hi (by omega)).1 ((h.bd C hi (k := j) (by omega)).2 (by omega)) hN (by decide) (by decide)
theorem Osz0 {l : Lin} {t : Tab} (C : Cv l) (h : Nv l t) {i j : Nat} (hi : i < t.m) (hj : j < t.w) (hN : (ix (ix t.rows i) j).N ≠ 0) : ∀ {k : Nat}, k <= t.m -> (br (pvK t i j (t.w + 1)) i j k).over = false
 | 0, _ => In C h hi hj hN
 | k + 1, hk => by
  obtain ⟨L, hS⟩ := h.s
  have hw := h.w
  have ih := Osz0 C h hi hj hN (k := k) (by omega)
  have hpo := In C h hi hj hN
  have hS1 := kI hS hi j (t.w + 1)
  obtain ⟨_, c2, c3, c4, c5⟩ := Qr hS hi hj hpo
  obtain ⟨_, b2, b3⟩ := xc hS1 (i := i) (j := j) (by rw [mG]; exact hi) (k := k) (by rw [mG]; omega) ih
  have hvd := b3 (c5 h.v)
  have hm1 : (br (pvK t i j (t.w + 1)) i j k).m = t.m := by rw [dH, mG]
  have hw1 : (br (pvK t i j (t.w + 1)) i j k).w = t.w := by unfold Tab.w; rw [pN, dH]; rfl
  rw [br, jb]
  split
  ·rename_i hc
   have hval : ∀ r c, (Q (br (pvK t i j (t.w + 1)) i j k)).T r c = V (ix (ix (br (pvK t i j (t.w + 1)) i j k).rows r) c) := λ _ _ => rfl
   have hT0 : (Q t).T i j ≠ 0 := c3
   have hrow : ∀ c, (Q (br (pvK t i j (t.w + 1)) i j k)).T k c = (Q t).T k c := λ c => by
    rw [b2, c4]
    simp only [Nat.lt_irrefl, false_and, if_false, if_neg hc.1]
   have hqu : ∀ c, (Q (br (pvK t i j (t.w + 1)) i j k)).T i c = (Q t).T i c / (Q t).T i j := λ c => by
    rw [b2, c4]
    simp only [ne_eq, not_true, and_false, if_false, if_true]
   generalize br (pvK t i j (t.w + 1)) i j k = u at *
   show (u.over || fF (u.w + 1) λ c => (mnP (ix (fP u (some k)) c) (ix (ix u.rows k) j) (ix (ix u.rows i) c)).2) = false
   rw [ih, Bool.false_or]
   refine pQ λ c hcw => ?_
   rw [hw1] at hcw
   have him : i < l.A.length := by rw [<- h.m]; exact hi
   have hkm : k < l.A.length := by rw [<- h.m]; omega
   obtain ⟨d, g1, g2, g3⟩ := h.d C
   have row : ∀ c, c <= l.C.length + l.A.length -> Bd 17496 54 (ix (ix u.rows k) c) /\ (c < l.C.length + l.A.length -> Bd 2187 54 (ix (ix u.rows k) c)) := λ c hcc => by
    obtain ⟨z, q1, q2, q3⟩ := g3 k hkm c hcc
    have hv := hvd.rows k c (by rw [hm1]; omega) (by rw [hw1]; omega)
    have e : V (ix (ix u.rows k) c) = (Q t).T k c := by rw [<- hval, hrow]
    exact ⟨lS hv (by rw [e]; exact q1) g1 g2 q2, λ hlt => lS hv (by rw [e]; exact q1) g1 g2 (q3 hlt)⟩
   have hq : Bd 17496 2187 (ix (ix u.rows i) c) := h.quot C him (by omega) (k := c) (by omega) hT0 (hvd.rows i c (by rw [hm1]; exact hi) (by rw [hw1]; omega)) (by rw [<- hval, hqu])
   exact oS (row c (by omega)).1 ((row j (by omega)).2 (by omega)) hq (by decide) (by decide) (by decide) (by decide)
  ·exact ih
theorem Jr {l : Lin} {t : Tab} (C : Cv l) (h : Nv l t) {i j : Nat} (hi : i < t.m) (hj : j < t.w) (hN : (ix (ix t.rows i) j).N ≠ 0) (hc : t.cost = [] ∨ CsB t) : (iW t i j).over = false := by
 show (cO t i j).over = false
 obtain ⟨L, hS⟩ := h.s
 have hw := h.w
 have hpo := In C h hi hj hN
 have hel := Osz0 C h hi hj hN (Nat.le_refl t.m)
 have hS1 := kI hS hi j (t.w + 1)
 obtain ⟨_, c2, c3, c4, c5⟩ := Qr hS hi hj hpo
 obtain ⟨_, b2, b3⟩ := xc hS1 (i := i) (j := j) (by rw [mG]; exact hi) (k := t.m) (by rw [mG]; exact Nat.le_refl _) hel
 have hvd := b3 (c5 h.v)
 have hm1 : (br (pvK t i j (t.w + 1)) i j t.m).m = t.m := by rw [dH, mG]
 have hw1 : (br (pvK t i j (t.w + 1)) i j t.m).w = t.w := by unfold Tab.w; rw [pN, dH]; rfl
 have hcs : (br (pvK t i j (t.w + 1)) i j t.m).cost = t.cost := by
  have gen : ∀ k, (br (pvK t i j (t.w + 1)) i j k).cost = t.cost := λ k => by
   induction k with
   | zero => rfl
   | succ k ih =>
    rw [br, jb]
    split
    ·exact ih
    ·exact ih
  exact gen t.m
 have hval : ∀ r c, (Q (br (pvK t i j (t.w + 1)) i j t.m)).T r c = V (ix (ix (br (pvK t i j (t.w + 1)) i j t.m).rows r) c) := λ _ _ => rfl
 have hqu : ∀ c, (Q (br (pvK t i j (t.w + 1)) i j t.m)).T i c = (Q t).T i c / (Q t).T i j := λ c => by
  rw [b2, c4]
  simp only [ne_eq, not_true, and_false, if_false, if_true]
 unfold cO gJ
 generalize br (pvK t i j (t.w + 1)) i j t.m = u at *
 split
 ·rename_i hcc
  have hcb : CsB t := hc.resolve_left (by rw [<- hcs]; exact hcc.1)
  show (u.over || fF (u.w + 1) λ c => (mnP (ix (fP u none) c) (ix u.cost j) (ix (ix u.rows i) c)).2) = false
  rw [hel, Bool.false_or]
  refine pQ λ c hcw => ?_
  rw [hw1] at hcw
  have him : i < l.A.length := by rw [<- h.m]; exact hi
  have hq : Bd 17496 2187 (ix (ix u.rows i) c) := h.quot C him (by omega) (k := c) (by omega) c3 (hvd.rows i c (by rw [hm1]; exact hi) (by rw [hw1]; omega)) (by rw [<- hval, hqu])
  have ha : Bd 421000 54 (ix (fP u none) c) := by
   show Bd 421000 54 (ix u.cost c)
   rw [hcs]; exact hcb c hcw
  have hf : Bd 421000 54 (ix u.cost j) := by rw [hcs]; exact hcb j (by omega)
  exact oS ha hf hq (by decide) (by decide) (by decide) (by decide)
 ·exact hel
theorem Nv.rep_piv {l : Lin} {t : Tab} (h : Nv l t) {i j : Nat} (hi : i < t.m) (hj : j < t.w) (ho : (iW t i j).over = false) : Rep0 (T0 l) l.A.length (l.C.length + l.A.length) (Q (iW t i j)) := by
 obtain ⟨L, hS⟩ := h.s
 obtain ⟨_, p2, p3, _⟩ := Ec hS hi hj ho
 rw [p3]
 exact h.rep.piv (by rw [<- h.m]; exact hi) (by rw [<- h.w]; exact hj) p2
theorem Ls {l : Lin} {t : Tab} (C : Cv l) (h : Nv l t) {j : Nat} (hj : j < t.w) : (cH t j).2 = false := by
 have hw := h.w
 have key : ∀ k, k <= t.m -> ∃ p, lvK t j k = some p := by
  intro k
  induction k with
  | zero => intro _; exact ⟨_, rfl⟩
  | succ k ih =>
   intro hk
   obtain ⟨⟨s, low⟩, hp⟩ := ih (by omega)
   rw [tV hp]
   split
   ·exact ⟨_, rfl⟩
   ·rename_i hN
    have hkm : k < l.A.length := by rw [<- h.m]; omega
    have hr : Bd 17496 54 (ix (ix t.rows k) t.w) := (h.bd C hkm (by omega)).1
    have he : Bd 2187 54 (ix (ix t.rows k) j) := (h.bd C hkm (k := j) (by omega)).2 (by omega)
    obtain ⟨q, hq⟩ := vH hr he (by omega) (by decide) (by decide)
    rw [hq]
    simp only
    split <;> exact ⟨_, rfl⟩
 obtain ⟨p, hp⟩ := key t.m (Nat.le_refl _)
 unfold cH
 rw [hp]
theorem qj {l : Lin} {t u : Tab} (C : Cv l) (h : Nv l t) (hs : bY t = .inr u) : ∃ j r low, jy t t.w = some j /\ Best t j t.m r low /\ u = iW t r j := by
 unfold bY at hs
 split at hs
 ·cases hs
 ·split at hs
  ·cases hs
  ·rename_i j hj
   split at hs
   ·cases hs
   ·rename_i h1
    split at hs
    ·cases hs
    ·rename_i h2
     injection hs with hs
     rcases mZ (t := t) (j := j) (by simpa using h1) with ⟨h3, _⟩ | ⟨r, low, h3, h4⟩
     ·omega
     ·rw [h3, Int.toNat_natCast] at hs
      exact ⟨j, r, low, hj, h4, hs.symm⟩
theorem JP {l : Lin} {t : Tab} {r : Bool × Tab} (C : Cv l) (h : Nv l t) (hs : bY t = .inl r) : r.2 = t := by
 unfold bY at hs
 rw [h.o] at hs
 simp only [Bool.false_eq_true, if_false] at hs
 split at hs
 ·injection hs with hs; rw [<- hs]
 ·rename_i j hj
  rw [Ls C h (fz hj)] at hs
  simp only [Bool.false_eq_true, if_false] at hs
  split at hs
  ·injection hs with hs; rw [<- hs]
  ·cases hs
theorem uu {l : Lin} (C : Cv l) {P : Tab -> Prop} (hN : ∀ t, P t -> Nv l t /\ CsB t) (hst : ∀ t u, P t -> bY t = .inr u -> u.over = false -> P u) : ∀ {n : Nat} {t : Tab} {r : Bool × Tab}, j2 n t = some r -> P t -> P r.2
 | 0, _, _, h, _ => by cases h
 | n + 1, t, r, h, hP => by
  obtain ⟨hn, hc⟩ := hN t hP
  unfold j2 at h
  cases hs : bY t with
  | inl q =>
   rw [hs] at h
   injection h with h
   subst h
   rw [JP C hn hs]
   exact hP
  | inr u =>
   rw [hs] at h
   obtain ⟨j, i, low, h1, h2, rfl⟩ := qj C hn hs
   have ho := Jr C hn h2.lt (fz h1) (by have := h2.pos; omega) (.inr hc)
   exact uu C hN hst h (hst t _ hP hs ho)
theorem xq {f : Nat -> Rat} {d : Int} {N : Nat} : ∀ {m : Nat}, (∀ i, i < m -> ∃ z : Int, f i * (d : Rat) = z /\ z.natAbs <= N) -> ∃ z : Int, Sm m f * (d : Rat) = z /\ z.natAbs <= m * N
 | 0, _ => ⟨0, by unfold Sm; push_cast; grind, by omega⟩
 | m + 1, h => by
  obtain ⟨z, h1, h2⟩ := xq (m := m) λ i hi => h i (by omega)
  obtain ⟨y, h3, h4⟩ := h m (by omega)
  refine ⟨z + y, ?_, ?_⟩
  ·unfold Sm
   push_cast
   rw [<- h1, <- h3]; grind
  ·have : (m + 1) * N = m * N + N := Nat.succ_mul m N
   omega
def CF0 (c0 g : Nat -> Rat) (m : Nat) (t : QT) : Prop := ∀ k, t.c k = c0 k - Sm m λ i => g (t.b i) * t.T i k
theorem CF0.piv {c0 g : Nat -> Rat} {m : Nat} {t : QT} {r j : Nat} (h : CF0 c0 g m t) (hr : r < m) (hg : g j = c0 j) (hp : t.T r j ≠ 0) : CF0 c0 g m (cy t r j) := by
 intro k
 have h1 := h k
 have h2 := h j
 obtain ⟨q, hq⟩ : ∃ q, t.T r k / t.T r j = q := ⟨_, rfl⟩
 have hq' : q * t.T r j = t.T r k := by rw [<- hq]; exact Rat.div_mul_cancel hp
 have e0 : (cy t r j).c k = t.c k - t.c j * q := by rw [<- hq]; rfl
 have e1 : Sm m (λ i => g ((cy t r j).b i) * (cy t r j).T i k) = Sm m (λ i => if i = r then 0 else g (t.b i) * t.T i k - q * (g (t.b i) * t.T i j)) + g j * q := by
  rw [uQ hr]
  congr 1
  ·refine ay λ i _ => ?_
   by_cases e : i = r
   ·rw [if_pos e, if_pos e]
   ·rw [if_neg e, if_neg e]
    have e3 : (cy t r j).b i = t.b i := by unfold cy; simp only [if_neg e]
    have e4 : (cy t r j).T i k = t.T i k - t.T i j * q := by rw [<- hq]; unfold cy; simp only [if_neg e]
    rw [e3, e4]; grind
  ·have e3 : (cy t r j).b r = j := by unfold cy; simp
   have e4 : (cy t r j).T r k = q := by rw [<- hq]; unfold cy; simp
   rw [e3, e4]
 have e2 : Sm m (λ i => if i = r then 0 else g (t.b i) * t.T i k - q * (g (t.b i) * t.T i j)) = ((c0 k - t.c k) - g (t.b r) * t.T r k) - q * ((c0 j - t.c j) - g (t.b r) * t.T r j) := by
  have h3 := uQ (f := λ i => g (t.b i) * t.T i k - q * (g (t.b i) * t.T i j)) hr
  have h4 : Sm m (λ i => g (t.b i) * t.T i k - q * (g (t.b i) * t.T i j)) = (c0 k - t.c k) - q * (c0 j - t.c j) := by
   rw [Ik, dl, h1, h2]; grind
  rw [h4] at h3
  grind
 rw [e0, e1, e2, hg]
 grind
section
variable {l : Lin}
theorem JD (C : Cv l) : Nv l (aw l) := by
 obtain ⟨L, _, hS⟩ := kr C.ok
 refine ⟨⟨L, hS⟩, BU C.ok, rfl, rfl, rfl, ⟨sY C.ok, λ i _ _ => kE, FF C.ok⟩, λ i hi k hk => ?_⟩
 have e : ∀ r, r < l.A.length -> cB (T0 l) l.A.length (l.C.length + l.A.length) (Q (aw l)).b r i * (Q (aw l)).T r k = if r = i then T0 l i k else 0 := λ r hr => by
  have hb := Ob C.ok hr
  rw [if_pos (C.keep r hr)] at hb
  have hc : cB (T0 l) l.A.length (l.C.length + l.A.length) (Q (aw l)).b r i = if i = r then 1 else 0 := by
   unfold cB
   rw [if_pos hi, hb, if_neg (by omega)]
   have : l.C.length + l.A.length + r - (l.C.length + l.A.length) = r := by omega
   rw [this]
  rw [hc]
  by_cases h : r = i
  ·rw [if_pos h, if_pos h.symm, h, jF C.ok hi (by omega)]; grind
  ·rw [if_neg h, if_neg λ q => h q.symm]; grind
 rw [ay e]
 rw [cZ (f := λ r => if r = i then T0 l i k else 0) hi (λ r _ hri => if_neg hri), if_pos rfl]
theorem uR (t : Tab) : ∀ k, (f1K t k).rows = t.rows
 | 0 => rfl
 | k + 1 => by
  rw [f1K]
  split
  ·exact uR t k
  ·exact uR t k
theorem N0 (C : Cv l) : ∀ {k : Nat}, k <= l.A.length -> (f1K (aw l) k).over = false
 | 0, _ => rfl
 | k + 1, hk => by
  obtain ⟨L, _, hS⟩ := kr C.ok
  have hN := JD C
  have ih := N0 C (k := k) (by omega)
  obtain ⟨q1, q2, q3⟩ := Io hS (k := k) (by show k <= l.A.length; omega) ih
  obtain ⟨s1, s2, s3, s4⟩ := dE (aw l) k
  have hw : (f1K (aw l) k).w = l.C.length + l.A.length := Ev _ _
  have hvd := q3 (BU C.ok)
  have hrows := uR (aw l) k
  have m24 := C.m24
  rw [f1K]
  split
  ·have hcq : ∀ c, V (ix (f1K (aw l) k).cost c) = - Sm k (λ i => if (aw l).w <= (Q (aw l)).b i then (Q (aw l)).T i c else 0) := λ c => by
    show (Q (f1K (aw l) k)).c c = _
    rw [q2]
   have hcv : ∀ c, c < l.C.length + l.A.length + 1 -> aj (ix (f1K (aw l) k).cost c) := λ c hc => cw hvd (by rw [s3, hw]; rfl) (by rw [hw]; exact hc)
   generalize f1K (aw l) k = u at *
   show (u.over || fF (u.w + 1) λ c => (mnP (ix (fP u none) c) F11 (ix (ix u.rows k) c)).2) = false
   rw [ih, Bool.false_or]
   refine pQ λ c hc => ?_
   rw [hw] at hc
   obtain ⟨d, g1, g2, g3⟩ := hN.d C
   have ha : Bd 421000 54 (ix u.cost c) := by
    obtain ⟨z, z1, z2⟩ := xq (d := d) (N := 17496) (m := k) (f := λ i => if (aw l).w <= (Q (aw l)).b i then (Q (aw l)).T i c else 0) λ i hi => by
     show ∃ z : Int, (if (aw l).w <= (Q (aw l)).b i then (Q (aw l)).T i c else 0) * (d : Rat) = z /\ _
     split
     ·obtain ⟨z, z1, z2, _⟩ := g3 i (by omega) c (by omega)
      exact ⟨z, z1, z2⟩
     ·exact ⟨0, by push_cast; grind, by omega⟩
    refine lS (d := d) (z := -z) (hcv c hc) ?_ g1 g2 ?_
    ·rw [hcq]; push_cast; rw [<- z1]; grind
    ·have : k * 17496 <= 24 * 17496 := Nat.mul_le_mul_right _ (by omega)
     omega
   have hf : Bd 1 1 F11 := ⟨uL, by decide, by decide⟩
   have hb : Bd 17496 54 (ix (ix u.rows k) c) := by rw [hrows]; exact (hN.bd C (by omega) (by omega)).1
   exact oS ha hf hb (by decide) (by decide) (by decide) (by decide)
  ·exact ih
def P1I (l : Lin) (t : Tab) : Prop := In1 l t /\ Rep0 (T0 l) l.A.length (l.C.length + l.A.length) (Q t) /\ t.over = false
theorem P1I.nv {t : Tab} (C : Cv l) (h : P1I l t) : Nv l t /\ CsB t := by
 obtain ⟨h1, h2, h3⟩ := h
 have hN : Nv l t := ⟨h1.s, h1.v, h1.n, h1.m, h3, h1.wf, h2⟩
 refine ⟨hN, λ k hk => ?_⟩
 obtain ⟨d, g1, g2, g3⟩ := hN.d C
 have hw := h1.w
 have m24 := C.m24
 obtain ⟨z, z1, z2⟩ := xq (d := d) (N := 17496) (m := l.A.length) (f := λ i => if l.C.length + l.A.length <= (Q t).b i then (Q t).T i k else 0) λ i hi => by
  show ∃ z : Int, (if l.C.length + l.A.length <= (Q t).b i then (Q t).T i k else 0) * (d : Rat) = z /\ _
  split
  ·obtain ⟨z, z1, z2, _⟩ := g3 i hi k (by omega)
   exact ⟨z, z1, z2⟩
  ·exact ⟨0, by push_cast; grind, by omega⟩
 have hp := h1.p1 k
 unfold Hc at hp
 refine lS (d := d) (z := -z) (cw h1.v h1.c hk) ?_ g1 g2 ?_
 ·show (Q t).c k * _ = _
  rw [hp]; push_cast; rw [<- z1]; grind
 ·have : l.A.length * 17496 <= 24 * 17496 := Nat.mul_le_mul_right _ m24
  omega
theorem P1I.step {t u : Tab} (C : Cv l) (h : P1I l t) (hs : bY t = .inr u) (ho : u.over = false) : P1I l u := by
 obtain ⟨hN, _⟩ := h.nv C
 obtain ⟨j, r, low, h1, h2, rfl⟩ := qj C hN hs
 exact ⟨h.1.step hs ho, hN.rep_piv h2.lt (fz h1) ho, ho⟩
theorem F9 (C : Cv l) : P1I l (f1T (aw l)) /\ P1I l (aO (f1T (aw l))).2 := by
 have ho : (f1T (aw l)).over = false := N0 C (Nat.le_refl _)
 obtain ⟨L, _, hS⟩ := kr C.ok
 have hin := ud C.ok ho
 obtain ⟨q1, q2, q3⟩ := Io hS (k := (aw l).m) (Nat.le_refl _) ho
 have h1 : P1I l (f1T (aw l)) := ⟨hin, by
  have hr := (JD C).rep
  have e : Q (f1T (aw l)) = _ := q2
  rw [e]
  exact hr, ho⟩
 refine ⟨h1, ?_⟩
 obtain ⟨r, n, hr⟩ := hin.halts
 rw [dN hr]
 exact uu C (P := P1I l) (λ t h => h.nv C) (λ t u h hs ho => h.step C hs ho) hr h1
def P2I (l : Lin) (k : Nat) (t : Tab) : Prop := In2 l k t /\ Rep0 (T0 l) l.A.length (l.C.length + l.A.length) (Q t) /\ t.cost = []
theorem P2I.rep {t : Tab} {k : Nat} (C : Cv l) (h : P2I l k t) (hk : k < l.A.length) : P2I l (k + 1) (jR t k) := by
 obtain ⟨h1, h2, h3⟩ := h
 have hN : Nv l t := ⟨h1.s, h1.v, h1.n, h1.m, h1.o, h1.wf, h2⟩
 have hkm : k < t.m := by rw [h1.m]; exact hk
 obtain ⟨L, hS⟩ := h1.s
 have hkin := (ol hS hkm).2
 have hcost : (jR t k).cost = [] := by
  have := hkin.cost
  rw [h3] at this
  exact List.eq_nil_of_length_eq_zero this
 have ho : (jR t k).over = false := by
  unfold jR
  split
  ·split
   ·exact h1.o
   ·rename_i j hj
    have hNz : (ix (ix t.rows k) j).N ≠ 0 := by
     have : ∀ {n j : Nat}, jV t k n = some j -> (ix (ix t.rows k) j).N ≠ 0 := by
      intro n
      induction n with
      | zero => intro j h; cases h
      | succ n ih =>
       intro j h
       cases h4 : jV t k n with
       | some j' =>
        have h5 := qS h4 1
        rw [h5] at h
        injection h with h
        subst h
        exact ih h4
       | none =>
        rw [mY h4] at h
        split at h
        ·rename_i h6; injection h with h; subst h; exact h6
        ·cases h
     exact this hj
    exact Jr C hN hkm (oR hj) hNz (.inl h3)
  ·exact h1.o
 refine ⟨h1.rep hk ho, ?_, hcost⟩
 unfold jR at ho ⊢
 split
 ·rename_i hcnd
  rw [if_pos hcnd] at ho
  split
  ·exact h2
  ·rename_i j hj
   rw [hj] at ho
   exact hN.rep_piv hkm (oR hj) ho
 ·exact h2
theorem P2I.reps {t : Tab} (C : Cv l) (h : P2I l 0 t) : ∀ {k : Nat}, k <= l.A.length -> P2I l k (oe t k)
 | 0, _ => h
 | k + 1, hk => (h.reps C (k := k) (by omega)).rep C (by omega)
theorem Ky (C : Cv l) : (aD (aw l)).2.over = false /\ ((aD (aw l)).1 = true -> Rep0 (T0 l) l.A.length (l.C.length + l.A.length) (Q (aD (aw l)).2)) := by
 obtain ⟨h1, h2⟩ := F9 C
 unfold aD
 by_cases c1 : fF (aw l).m (io (aw l)) = false ∨ (f1T (aw l)).over = true
 ·rw [if_pos c1]; exact ⟨h1.2.2, λ _ => h1.2.1⟩
 rw [if_neg c1, if_neg (by rw [h2.2.2]; decide)]
 by_cases c3 : (ix (aO (f1T (aw l))).2.cost (aw l).w).N < 0
 ·rw [if_pos c3]; exact ⟨h2.2.2, λ h => by cases h⟩
 rw [if_neg c3]
 generalize (aO (f1T (aw l))).2 = t at *
 obtain ⟨hi, hr0, ho⟩ := h2
 have hc0 : 0 <= (Q t).c (l.C.length + l.A.length) := by
  have hv := cw hi.v hi.c (k := t.w) (by omega)
  rw [EN, <- hi.w, cR hv] at c3
  rw [<- hi.w]
  show 0 <= V (ix t.cost t.w)
  grind
 have hr := hi.p1.rhs hi.wf hc0
 obtain ⟨L2, hS2⟩ := hi.s
 have hin : In2 l 0 { t with cost := [] } := by
  refine ⟨⟨{ L2 with c := none }, ⟨hS2.m, hS2.r, hS2.n1, hS2.n12, hS2.m24, hS2.row, .inl ⟨rfl, rfl⟩, hS2.bas, hS2.b64⟩⟩, ⟨hi.v.rows, .inl rfl⟩, hi.n, hi.m, ⟨hi.wf.unit, λ i _ _ => kE, hi.wf.rhs⟩, hi.e, λ _ => kE, ho, hr, λ i hi => by omega⟩
 have hp : P2I l 0 { t with cost := [] } := ⟨hin, hr0, rfl⟩
 have hfin := hp.reps C (k := l.A.length) (Nat.le_refl _)
 have hm : (aw l).m = l.A.length := rfl
 rw [hm]
 exact ⟨hfin.1.o, λ _ => hfin.2.1⟩
def gam (l : Lin) (b : Nat) : Rat := if b < l.C.length then cQ l b else 0
theorem OX (b : Nat) : gam l b = cE l b := rfl
theorem Ct (C : Cv l) {k : Nat} (h : k < l.C.length) : cQ l k = 1 := by unfold cQ; rw [C.one k h]; exact GI
theorem Eu {t : Tab} (C : Cv l) (hN : Nv l t) {c : Nat} (hc : c <= l.C.length + l.A.length) {n : Nat} (hn : n <= l.A.length) {f : Fr} (hf : aj f) (hV : V f = cE l c - Sm n (λ i => gam l ((Q t).b i) * (Q t).T i c)) : Bd 421000 54 f := by
 obtain ⟨d, g1, g2, g3⟩ := hN.d C
 have m24 := C.m24
 obtain ⟨z, z1, z2⟩ := xq (d := d) (N := 17496) (m := n) (f := λ i => gam l ((Q t).b i) * (Q t).T i c) λ i hi => by
  obtain ⟨z, z1, z2, _⟩ := g3 i (by omega) c hc
  by_cases hb : (Q t).b i < l.C.length
  ·refine ⟨z, ?_, z2⟩
   show gam l ((Q t).b i) * (Q t).T i c * (d : Rat) = z
   unfold gam
   rw [if_pos hb, Ct C hb, <- z1]; grind
  ·refine ⟨0, ?_, by omega⟩
   show gam l ((Q t).b i) * (Q t).T i c * (d : Rat) = ((0 : Int) : Rat)
   unfold gam
   rw [if_neg hb]; push_cast; grind
 have hk : n * 17496 <= 24 * 17496 := Nat.mul_le_mul_right _ (by omega)
 by_cases hcn : c < l.C.length
 ·refine lS (d := d) (z := d - z) hf ?_ g1 g2 (by omega)
  have e : cE l c = 1 := by unfold cE; rw [if_pos hcn, Ct C hcn]
  rw [hV, e]; push_cast; rw [<- z1]; grind
 ·refine lS (d := d) (z := -z) hf ?_ g1 g2 (by omega)
  have e : cE l c = 0 := by unfold cE; rw [if_neg hcn]
  rw [hV, e]; push_cast; rw [<- z1]; grind
theorem tj (t : Tab) (cs : List Fr) : ∀ k, (s1K t cs k).rows = t.rows
 | 0 => rfl
 | k + 1 => by
  rw [s1K]
  split
  ·exact tj t cs k
  ·exact tj t cs k
theorem Fc (t : QT) (c n : Nat) : Sm n (λ i => if t.b i < l.C.length then cQ l (t.b i) * t.T i c else 0) = Sm n (λ i => gam l (t.b i) * t.T i c) := ay λ i _ => by
 unfold gam
 split <;> grind
theorem Od {t : Tab} (C : Cv l) (hN : Nv l t) : ∀ {k : Nat}, k <= l.A.length -> (s1K t l.C k).over = false
 | 0, _ => hN.o
 | k + 1, hk => by
  obtain ⟨L, hS⟩ := hN.s
  have ih := Od C hN (k := k) (by omega)
  have hwt := hN.w
  obtain ⟨q1, q2, q3⟩ := MX C.ok hS hN.n hwt (k := k) (by rw [hN.m]; omega) ih
  obtain ⟨s1, s2, s3, s4⟩ := eI (t := t) hN.n.symm k
  have hw : (s1K t l.C k).w = l.C.length + l.A.length := (zy hN.n.symm k).trans hwt
  have hvd := q3 hN.v
  have hrows := tj t l.C k
  rw [s1K]
  split
  ·rename_i hu
   have hub := (FD hS k).1 hu
   rw [hN.n] at hub
   have hbas : (ix t.basis k).toNat = (Q t).b k := rfl
   have hcq : ∀ c, V (ix (s1K t l.C k).cost c) = cE l c - Sm k (λ i => gam l ((Q t).b i) * (Q t).T i c) := λ c => by
    show (Q (s1K t l.C k)).c c = _
    rw [q2, <- Fc]
   have hcv : ∀ c, c < l.C.length + l.A.length + 1 -> aj (ix (s1K t l.C k).cost c) := λ c hc => cw hvd (by rw [s3, hw, hwt]) (by rw [hw]; exact hc)
   generalize s1K t l.C k = u at *
   show (u.over || fF (u.w + 1) λ c => (mnP (ix (fP u none) c) (ix l.C (ix t.basis k).toNat) (ix (ix u.rows k) c)).2) = false
   rw [ih, Bool.false_or]
   refine pQ λ c hc => ?_
   rw [hw] at hc
   have ha : Bd 421000 54 (ix u.cost c) := Eu C hN (by omega) (n := k) (by omega) (hcv c hc) (hcq c)
   have hf : Bd 1 1 (ix l.C (ix t.basis k).toNat) := by
    rw [hbas, C.one _ hub.1]
    exact ⟨uL, by decide, by decide⟩
   have hb : Bd 17496 54 (ix (ix u.rows k) c) := by rw [hrows]; exact (hN.bd C (by omega) (by omega)).1
   exact oS ha hf hb (by decide) (by decide) (by decide) (by decide)
  ·exact ih
def P3I (l : Lin) (t : Tab) : Prop := In3 l t /\ Rep0 (T0 l) l.A.length (l.C.length + l.A.length) (Q t) /\ CF0 (cE l) (gam l) l.A.length (Q t) /\ t.over = false
theorem P3I.nv {t : Tab} (C : Cv l) (h : P3I l t) : Nv l t /\ CsB t := by
 obtain ⟨h1, h2, h4, h3⟩ := h
 have hN : Nv l t := ⟨h1.s, h1.v, h1.n, h1.m, h3, h1.wf, h2⟩
 refine ⟨hN, λ k hk => ?_⟩
 have hw := h1.w
 exact Eu C hN (by omega) (Nat.le_refl _) (cw h1.v h1.c hk) (h4 k)
theorem P3I.step {t u : Tab} (C : Cv l) (h : P3I l t) (hs : bY t = .inr u) (ho : u.over = false) : P3I l u := by
 obtain ⟨hN, _⟩ := h.nv C
 obtain ⟨j, r, low, h1, h2, rfl⟩ := qj C hN hs
 obtain ⟨L, hS⟩ := hN.s
 obtain ⟨_, p2, p3, _⟩ := Ec hS h2.lt (fz h1) ho
 refine ⟨h.1.step hs ho, hN.rep_piv h2.lt (fz h1) ho, ?_, ho⟩
 rw [p3]
 exact h.2.2.1.piv (by rw [<- hN.m]; exact h2.lt) (OX j) p2
theorem GR {t : Tab} (C : Cv l) (h : In2 l l.A.length t) (hr : Rep0 (T0 l) l.A.length (l.C.length + l.A.length) (Q t)) : P3I l (aG t l.C).2 := by
 have hN : Nv l t := ⟨h.s, h.v, h.n, h.m, h.o, h.wf, hr⟩
 obtain ⟨L, hS⟩ := hN.s
 have ho : (s1T t l.C).over = false := by
  show (s1K t l.C t.m).over = false
  exact Od C hN (by rw [hN.m]; exact Nat.le_refl _)
 have hin := Kn C.ok h ho
 obtain ⟨q1, q2, q3⟩ := MX C.ok hS hN.n hN.w (k := t.m) (Nat.le_refl _) ho
 have eQ : Q (s1T t l.C) = _ := q2
 have hp : P3I l (s1T t l.C) := ⟨hin, by rw [eQ]; exact hr, λ k => by
  rw [eQ]
  show cE l k - Sm t.m _ = _
  rw [hN.m, Fc (Q t) k l.A.length], ho⟩
 unfold aG
 rw [if_neg (by rw [ho]; decide)]
 obtain ⟨r, n, hrn⟩ := hin.halts
 rw [dN hrn]
 exact (uu C (P := P3I l) (λ t h => h.nv C) (λ t u h hs ho => h.step C hs ho) hrn hp)
theorem Jg (C : Cv l) (hc : bx l = 0) (hf : ∃ x, FeasQ l x) : ∃ x v, bF l = (x, v, 0) /\ Solved l x v /\ v.D <= 54 := by
 obtain ⟨h1, h2⟩ := Ky C
 have hg : (bF l).2.2 ≠ 24 /\ ((bF l).2.2 = 0 -> (bF l).2.1.D <= 54) := by
  unfold bF
  rw [if_neg (λ e => e hc), if_neg (by rw [h1]; decide)]
  by_cases c2 : (aD (aw l)).1 = false
  ·rw [if_pos c2]; exact ⟨by decide, λ h => by cases h⟩
  rw [if_neg c2]
  have c2 : (aD (aw l)).1 = true := by simpa using c2
  have hP := GR C (tc C.ok h1 c2) (h2 c2)
  rw [if_neg (by rw [hP.2.2.2]; decide)]
  split
  ·exact ⟨by decide, λ h => by cases h⟩
  ·refine ⟨by show (0 : Int) ≠ 24; decide, λ _ => ?_⟩
   have hb := (hP.nv C).2 (aG (aD (aw l)).2 l.C).2.w (by omega)
   show (gh _).D <= 54
   rw [kO hb.1]
   have := hb.2.2
   have := hb.1.1
   dsimp only
   omega
 have ha := oQ hc
 generalize bF l = s at *
 cases ha with
 | ok h => exact ⟨_, _, rfl, h, hg.2 rfl⟩
 | none h => exact absurd hf h
 | free _ h =>
  obtain ⟨d, hd⟩ := h
  have h3 := hd.neg
  have h4 : 0 <= Sm l.C.length (λ k => cQ l k * d k) := fT λ k hk => by
   rw [Ct C hk]
   have := hd.nn k hk
   grind
  grind
 | great => exact absurd rfl hg.1
end
set_option maxRecDepth 100000
def uV : List Fr -> Rat
 | [] => 0
 | f :: r => V f + uV r
theorem vK (l : List Fr) (f : Fr) : uV (l ++ [f]) = uV l + V f := by
 induction l with
 | nil => simp only [List.nil_append, uV]; grind
 | cons a r ih => simp only [List.cons_append, uV, ih]; grind
theorem KB {f : Fr} (h : WtF f) : (f.N.toNat : Rat) = V f * (f.D.toNat : Rat) /\ (0 : Rat) < (f.D.toNat : Rat) := by
 have h1 := h.v.1
 have h2 := h.n
 have e1 : ((f.N.toNat : Nat) : Rat) = (f.N : Rat) := by
  rw [<- Rat.intCast_natCast]; congr 1; omega
 have e2 : ((f.D.toNat : Nat) : Rat) = (f.D : Rat) := by
  rw [<- Rat.intCast_natCast]; congr 1; omega
 have c := cq h1
 rw [e1, e2]
 refine ⟨?_, c⟩
 unfold V
 grind
theorem PM : ∀ (l : List Fr), (∀ f ∈ l, WtF f) -> ((ndF l).1 : Rat) = uV l * ((ndF l).2 : Rat) /\ (0 : Rat) < ((ndF l).2 : Rat) := by
 refine λ l => tR (p := λ l => (∀ f ∈ l, WtF f) -> ((ndF l).1 : Rat) = uV l * ((ndF l).2 : Rat) /\ (0 : Rat) < ((ndF l).2 : Rat)) ?_ ?_ l
 ·intro _
  refine ⟨?_, ?_⟩
  ·show ((0 : Nat) : Rat) = 0 * ((1 : Nat) : Rat); grind
  ·show (0 : Rat) < ((1 : Nat) : Rat); decide
 ·intro l f ih h
  obtain ⟨h1, h2⟩ := ih λ g hg => h g (List.mem_append_left _ hg)
  obtain ⟨v1, v2⟩ := KB (h f (by simp))
  rw [lG, vK]
  unfold ndS
  simp only [Rat.natCast_add, Rat.natCast_mul]
  generalize ((ndF l).1 : Rat) = a at *
  generalize ((ndF l).2 : Rat) = b at *
  generalize (f.N.toNat : Rat) = n at *
  generalize (f.D.toNat : Rat) = d at *
  refine ⟨by rw [h1, v1]; grind, Rat.mul_pos h2 v2⟩
theorem I8 {l : List Fr} (h : ∀ f ∈ l, WtF f) : Dy l = true ↔ 1 <= uV l := by
 obtain ⟨h1, h2⟩ := PM l h
 unfold Dy
 rw [decide_eq_true_iff, <- Rat.natCast_le_natCast, h1]
 generalize ((ndF l).2 : Rat) = d at *
 generalize uV l = s at *
 constructor
 ·intro h
  apply Classical.byContradiction
  intro hc
  have h3 : s < 1 := by grind
  have : s * d < 1 * d := Rat.mul_lt_mul_of_pos_right h3 h2
  grind
 ·intro h
  have := Rat.mul_le_mul_of_nonneg_right h (show 0 <= d by grind)
  grind
theorem Ff (h : Hy) (x : List Fr) (v : Nat) : ∀ i, uV (jx h x v i) = Sm i (λ k => (if (v : Int) ∈ ix h.E k then 1 else 0) * V (ix x k))
 | 0 => rfl
 | i + 1 => by
  unfold jx Sm
  rw [<- Ff h x v i]
  split
  ·rw [vK]; grind
  ·grind
theorem g9 (h : Hy) : (bH h).C.length = h.E.length := by unfold bH; simp
theorem nE (h : Hy) : (bH h).A.length = h.N.toNat := by unfold bH; simp [pu]
theorem xJ {h : Hy} {v k : Nat} (hv : v < h.N.toNat) (hk : k < h.E.length) : aQ (bH h) v k = if (v : Int) ∈ ix h.E k then 1 else 0 := by
 have e1 : ix (bH h).A v = lD h v := by
  show ix (nR h h.N.toNat) v = _
  rw [az (by rw [pu]; exact hv)]
  unfold nR
  rw [getElem_map, List.getElem_range]
 have e2 : ix (lD h v) k = xX (decide ((v : Int) ∈ ix h.E k)) := by
  rw [az (by rw [jg]; exact hk), az hk]
  unfold lD
  rw [getElem_map]
 unfold aQ
 rw [e1, e2]
 split
 ·rename_i h1; rw [decide_eq_true h1]; exact GI
 ·rename_i h1; rw [decide_eq_false h1]; exact Gm
theorem xT {h : Hy} {v : Nat} (hv : v < h.N.toNat) : bQ (bH h) v = 1 := by
 unfold bQ
 show V (ix (List.replicate h.N.toNat F11) v) = 1
 rw [jZ hv, GI]
theorem JJ {h : Hy} {k : Nat} (hk : k < h.E.length) : cQ (bH h) k = 1 := by
 unfold cQ
 show V (ix (List.replicate h.E.length F11) k) = 1
 rw [jZ hk, GI]
theorem DY {h : Hy} {x : List Fr} (hw : ∀ f ∈ x, WtF f) (hl : x.length = h.E.length) {v : Nat} (hv : v < h.N.toNat) : Hp h x v = true ↔ bQ (bH h) v <= Sm (bH h).C.length (λ k => aQ (bH h) v k * XQ x k) := by
 unfold Hp
 rw [I8 (si v hw _ (by omega)), Ff, xT hv, g9]
 rw [ay (g := λ k => aQ (bH h) v k * XQ x k) λ k hk => by rw [xJ hv hk]; rfl]
theorem Eh {f : Fr} (h : aj f) : 0 <= f.N ↔ 0 <= V f := by
 have := cR h
 constructor
 ·intro h1
  have : ¬ V f < 0 := λ h2 => by have := this.2 h2; omega
  grind
 ·intro h1
  have : ¬ f.N < 0 := λ h2 => by have := this.1 h2; grind
  omega
theorem BG {h : Hy} {x : List Fr} (hc : i6 h x) : FeasQ (bH h) (XQ x) := by
 obtain ⟨h1, h2, h3, h4⟩ := hc
 refine ⟨λ k hk => ?_, λ i hi => ?_⟩
 ·rw [g9] at hk
  have := h3 _ (aq (show k < x.length by omega))
  exact (Eh this.v).1 this.n
 ·rw [nE] at hi
  exact (DY h3 h2 hi).1 (h4 i hi)
theorem JU {h : Hy} {x : List Fr} (hv : cT h) (hl : x.length = h.E.length) (hx : ∀ k, k < h.E.length -> aj (ix x k)) (hf : FeasQ (bH h) (XQ x)) : i6 h x := by
 have hw : ∀ f ∈ x, WtF f := λ f hm => by
  obtain ⟨j, hj, rfl⟩ := List.getElem_of_mem hm
  rw [<- az hj]
  have v1 := hx j (by omega)
  have := hf.nn j (by rw [g9]; omega)
  exact ⟨v1, (Eh v1).2 this⟩
 exact ⟨hv, hl, hw, λ v hv => (DY hw hl hv).2 (hf.row v (by rw [nE]; exact hv))⟩
structure RhoOk (h : Hy) (y : List Fr) (r : Fr) : Prop where
 valid : cT h
 prog : dt h = (bH h, 0)
 cov : i6 h y
 vr : aj r
 vy : ∀ k, k < y.length -> aj (ix y k)
 len : y.length = h.E.length
 sum : Sm y.length (λ k => V (ix y k)) = V r
 least : ∀ (x : List Fr) (u : Fr), i6 h x -> qU (bH h) x = (u, true) -> jv r u <= 0
theorem Qm {h : Hy} {y : List Fr} {r : Fr} (hr : ja h = (r, y, 0)) : RhoOk h y r := by
 unfold ja at hr
 split at hr
 ·rename_i h1
  injection hr with _ hr; injection hr with _ hr
  exact absurd hr h1
 rename_i h1
 have hp : dt h = (bH h, 0) /\ cT h := by
  unfold dt at h1 ⊢
  split at h1
  ·exact absurd (show ((L00, (1 : Int)).2) ≠ 0 by decide) h1
  ·rename_i h2
   rw [not_or] at h2
   split at h1
   ·rename_i h3
    rw [if_neg (by rw [not_or]; exact h2), if_pos h3]
    exact ⟨rfl, Classical.not_not.1 h2.1⟩
   ·exact absurd (show ((L00, (23 : Int)).2) ≠ 0 by decide) h1
 obtain ⟨hp, hv⟩ := hp
 rw [hp] at hr
 obtain ⟨x, v, e, he⟩ : ∃ x v e, bF (bH h) = (x, v, e) := ⟨_, _, _, rfl⟩
 simp only [he] at hr
 split at hr
 ·rename_i h2
  injection hr with _ hr; injection hr with _ hr
  exact absurd hr h2
 rename_i h2
 obtain rfl : e = 0 := Classical.not_not.1 h2
 injection hr with hr1 hr; injection hr with hr2 _
 subst hr1 hr2
 have hc := Kg he
 have hs := F5 hc he
 have hl : x.length = h.E.length := by rw [hs.len, g9]
 have hvx : ∀ k, k < h.E.length -> aj (ix x k) := λ k hk => hs.valid k (by rw [g9]; exact hk)
 refine ⟨hv, hp, JU hv hl hvx hs.feas, hs.vv, λ k hk => hvx k (by omega), hl, ?_, λ z u hz hu => ?_⟩
 ·rw [<- hs.val, g9, hl]
  refine ay λ k hk => ?_
  rw [JJ hk]
  show V (ix x k) = 1 * V (ix x k)
  grind
 ·obtain ⟨u1, u2, u3⟩ := Mk hu
  obtain ⟨y0, c0⟩ := hs.cert
  exact O1 hs.vv u2 (by rw [u3]; exact c0.le (BG hz))
structure Hy6 (h : Hy) : Prop where
 v : cT h
 n0 : ¬ h.N = 0
 e6 : h.E.length <= 6
 e0 : h.E ≠ []
 len : ∀ e ∈ h.E, e.length <= 3
 some : ∀ v, v < h.N.toNat -> pZ h v
theorem SO {l : List Int} (h : l.Pairwise (· < ·)) {k : Nat} (hk : k < l.length) (h0 : 0 < k) : ix l (k - 1) < ix l k := by
 rw [az hk, az (show k - 1 < l.length by omega)]
 exact List.pairwise_iff_getElem.1 h (k - 1) k (by omega) hk (by omega)
theorem Pv {c : Cnj} (h : dz c = 0) (h6 : c.atoms.length <= 6) (h0 : c.vars ≠ []) : Hy6 (ofF c) := by
 obtain ⟨cv, ca, cf, cu⟩ := dG h
 have e : ofF c = ⟨c.vars.length, c.atoms.map λ a => bA a.vars⟩ := if_neg (λ h2 => h2 h)
 have hpos : 0 < c.vars.length := List.length_pos_iff.2 h0
 rw [e]
 refine ⟨⟨by simp, by simp; omega, by simp; omega, λ x hx => ?_⟩, by simp; exact h0, by simpa using h6, ?_, λ x hx => ?_, λ v hv => ?_⟩
 ·simp at hx
  obtain ⟨a, ha, rfl⟩ := hx
  obtain ⟨f1, f2⟩ := cf a ha
  obtain ⟨_, _, v1⟩ := fR f1
  refine ⟨λ h2 => ?_, λ k hk => ?_⟩
  ·have : ix a.vars 0 ∈ bA a.vars := (fU _ _).2 (aq (by omega))
   rw [h2] at this
   cases this
  ·have hm : ix (bA a.vars) k ∈ a.vars := (fU _ _).1 (aq hk)
   obtain ⟨q1, q2⟩ := (of_decide_eq_true f2) _ hm
   exact ⟨q1, q2, λ hk0 => SO (Ab _) hk hk0⟩
 ·intro h2
  have h2 : c.atoms = [] := by simpa using h2
  have := cu 0 hpos
  unfold oC at this
  have := of_decide_eq_true this
  rw [h2] at this
  obtain ⟨a, ha, _⟩ := this
  cases ha
 ·simp at hx
  obtain ⟨a, ha, rfl⟩ := hx
  have := iz a.vars
  have := (fR (cf a ha).1).2.1
  omega
 ·have hv : v < c.vars.length := by simpa using hv
  have := cu v hv
  unfold oC at this
  obtain ⟨a, ha, hm⟩ := of_decide_eq_true this
  exact ⟨_, mem_map.2 ⟨a, ha, rfl⟩, (fU _ _).2 hm⟩
section
variable {h : Hy}
theorem Hy6.prog (H : Hy6 h) : dt h = (bH h, 0) := by
 unfold dt
 rw [if_neg (by rintro (q | q); exact q H.v; exact H.n0 q), if_pos H.some]
theorem DA (b : Bool) : aj (xX b) := by cases b <;> exact ⟨by decide, by decide, by decide, by decide⟩
theorem vP : aj F11 := ⟨by decide, by decide, by decide, by decide⟩
theorem Hy6.check (H : Hy6 h) : bx (bH h) = 0 := by
 have hc := g9 h
 have ha := nE h
 obtain ⟨v1, v2, v3, v4⟩ := H.v
 have e6 := H.e6
 unfold bx
 rw [if_neg (by rw [hc, ha]; omega), if_neg]
 rintro (q | q | q | q | q)
 ·rw [<- List.length_eq_zero_iff, hc] at q
  exact H.e0 (List.length_eq_zero_iff.1 q)
 ·exact q (by rw [ha]; unfold bH; simp)
 ·refine q λ f hf => ?_
  unfold bH at hf
  rw [(List.mem_replicate.1 hf).2]
  exact vP
 ·refine q λ f hf => ?_
  unfold bH at hf
  rw [(List.mem_replicate.1 hf).2]
  exact vP
 ·refine q λ r hr => ?_
  unfold bH nR at hr
  simp only [mem_map, mem_range] at hr
  obtain ⟨v, _, rfl⟩ := hr
  refine ⟨by rw [jg, hc], λ f hf => ?_⟩
  unfold lD at hf
  obtain ⟨e, _, rfl⟩ := mem_map.1 hf
  exact DA _
theorem Hy6.feas (H : Hy6 h) : FeasQ (bH h) (λ _ => 1) := by
 refine ⟨λ _ _ => by decide, λ v hv => ?_⟩
 rw [nE] at hv
 rw [xT hv, g9]
 obtain ⟨e, he, hm⟩ := H.some v hv
 obtain ⟨k, hk, rfl⟩ := mem_iff_getElem.1 he
 have h1 : Sm h.E.length (λ j => if j = k then (1 : Rat) else 0) <= Sm h.E.length (λ j => aQ (bH h) v j * 1) := EF λ j hj => by
  rw [xJ hv hj, Rat.mul_one]
  by_cases e : j = k
  ·subst e
   rw [if_pos rfl, az hk, if_pos hm]
   exact Rat.le_refl
  ·rw [if_neg e]
   split <;> decide
 rw [cZ hk (λ j _ hj => if_neg hj), if_pos rfl] at h1
 exact h1
end
theorem ug {v w : Col} : ∀ {rows : List Nat}, (∀ r ∈ rows, v r = w r) -> nrm v rows = nrm w rows
 | [], _ => rfl
 | r :: l, h => by
  rw [nrm, nrm, h r (mem_cons_self ..), ug λ x hx => h x (mem_cons_of_mem _ hx)]
def u9 (e : List Int) : Col := λ v => if (v : Int) ∈ e then 1 else 0
theorem AQ : bZ 1 = 1 := dC (by decide)
theorem GJ : bZ 0 = 0 := dC (by decide)
theorem yA : ∀ {rows : List Nat} (e : List Int), rows.Nodup -> nrm (u9 e) rows <= ((e.length : Nat) : Rat)
 | [], e, _ => by
  rw [nrm]
  exact_mod_cast zero_le e.length
 | r :: l, e, hn => by
  obtain ⟨h1, h2⟩ := List.nodup_cons.1 hn
  rw [nrm]
  by_cases hr : (r : Int) ∈ e
  ·have e1 : u9 e r = 1 := if_pos hr
   have hc : nrm (u9 e) l = nrm (u9 (e.erase (r : Int))) l := ug λ x hx => by
    have hne : (x : Int) ≠ (r : Int) := λ h => h1 (by
     have e3 : x = r := by omega
     exact e3 ▸ hx)
    unfold u9
    simp only [List.mem_erase_of_ne hne]
   have ih := yA (e.erase (r : Int)) h2
   rw [e1, AQ, hc]
   have hl : ((e.length : Nat) : Rat) = 1 + (((e.erase (r : Int)).length : Nat) : Rat) := by
    rw [List.length_erase_of_mem hr]
    have := List.length_pos_of_mem hr
    have h3 : e.length = 1 + (e.length - 1) := by omega
    exact_mod_cast h3
   rw [hl]
   grind
  ·have e1 : u9 e r = 0 := if_neg hr
   have ih := yA e h2
   rw [e1, GJ]
   grind
section
variable {h : Hy}
theorem Sj (h : Hy) {i : Nat} (hi : i < (bH h).A.length) : ix (bH h).B i = F11 := by
 rw [nE] at hi
 unfold bH
 exact jZ hi
theorem A7 {i : Nat} (hi : i < (bH h).A.length) : fo (bH h) i = true := by
 unfold fo
 rw [Sj h hi]
 decide
theorem Cf {i : Nat} (hi : i < (bH h).A.length) : sg (bH h) i = 1 := by unfold sg; rw [A7 hi, if_pos rfl]
theorem II {v k : Nat} (hv : v < (bH h).A.length) (hk : k < (bH h).C.length) : T0 (bH h) v k = u9 (ix h.E k) v := by
 unfold T0
 rw [if_pos hk, Cf hv, Rat.one_mul]
 rw [nE] at hv
 rw [g9] at hk
 exact xJ hv hk
theorem JF {v : Nat} (hv : v < (bH h).A.length) : T0 (bH h) v ((bH h).C.length + (bH h).A.length) = 1 := by
 unfold T0
 rw [if_neg (by omega), if_neg (by omega), if_pos rfl, Cf hv, Rat.one_mul]
 rw [nE] at hv
 exact xT hv
theorem IQ {v r : Nat} (hv : v < (bH h).A.length) (hr : r < (bH h).A.length) : T0 (bH h) v ((bH h).C.length + r) = if v = r then -1 else 0 := by
 unfold T0
 rw [if_neg (by omega)]
 by_cases e : v = r
 ·subst e
  rw [if_pos rfl, if_pos rfl, Cf hv]
 ·rw [if_neg (by omega), if_neg (by omega), if_neg e]
theorem Bc : ∀ {rows : List Nat} {v : Col}, (∀ r ∈ rows, v r = 1) -> nrm v rows = ((rows.length : Nat) : Rat)
 | [], v, _ => rfl
 | r :: l, v, h => by
  rw [nrm, h r (mem_cons_self ..), AQ, Bc λ x hx => h x (mem_cons_of_mem _ hx)]
  have : ((r :: l).length : Nat) = 1 + l.length := by simp; omega
  rw [this]
  push_cast
  rfl
theorem Hy6.cv (H : Hy6 h) : Cv (bH h) := by
 obtain ⟨v1, v2, v3, v4⟩ := H.v
 refine ⟨Ix H.check, by rw [g9]; exact H.e6, by rw [nE]; omega, ⟨rfl, λ l r hl hr => IQ hl hr, λ l k hl hk => ?_, λ k hk => ?_, ?_⟩, λ i hi => A7 hi, λ i k hi hk => ?_, λ k hk => ?_⟩
 ·by_cases hk1 : k < (bH h).C.length
  ·rw [II hl hk1]
   unfold u9
   split
   ·exact ⟨1, rfl⟩
   ·exact ⟨0, rfl⟩
  ·by_cases hk2 : k = (bH h).C.length + (bH h).A.length
   ·rw [hk2, JF hl]
    exact ⟨1, rfl⟩
   ·have : k = (bH h).C.length + (k - (bH h).C.length) := by omega
    rw [this, IQ hl (by omega)]
    split
    ·exact ⟨-1, rfl⟩
    ·exact ⟨0, rfl⟩
 ·rw [ug (w := u9 (ix h.E k)) λ r hr => by
   rw [mem_range] at hr
   rw [if_pos hr, II hr hk]]
  rw [g9] at hk
  have h3 := H.len _ (aq hk)
  have := yA (rows := List.range (bH h).A.length) (ix h.E k) List.nodup_range
  have h4 : (((ix h.E k).length : Nat) : Rat) <= ((3 : Nat) : Rat) := by exact_mod_cast h3
  exact Rat.le_trans this h4
 ·rw [Bc λ r hr => by
   rw [mem_range] at hr
   rw [if_pos hr, JF hr]]
  rw [List.length_range, nE]
  have : h.N.toNat <= 24 := by omega
  have h4 : ((h.N.toNat : Nat) : Rat) <= ((24 : Nat) : Rat) := by exact_mod_cast this
  exact h4
 ·rw [II hi hk]
  unfold u9
  split
  ·exact .inr rfl
  ·exact .inl rfl
 ·rw [g9] at hk
  unfold bH
  exact jZ hk
theorem Ij : ∀ n : Nat, Sm n (λ _ => (1 : Rat)) = ((n : Nat) : Rat)
 | 0 => rfl
 | n + 1 => by
  rw [Sm, Ij n]
  push_cast
  rfl
theorem Hy6.rho (H : Hy6 h) : (ja h).2.2 = 0 /\ (ja h).1.D <= 54 /\ V (ja h).1 <= ((6 : Nat) : Rat) := by
 obtain ⟨x, v, hs, hS, hd⟩ := Jg H.cv H.check ⟨_, H.feas⟩
 unfold ja
 rw [H.prog]
 simp only
 rw [if_neg (by decide), hs]
 simp only
 rw [if_neg (by decide)]
 refine ⟨rfl, hd, ?_⟩
 obtain ⟨y, hy⟩ := hS.cert
 have h1 := hy.le H.feas
 rw [ay (g := λ _ => (1 : Rat)) λ k hk => by rw [g9] at hk; rw [JJ hk, Rat.mul_one], Ij, g9] at h1
 have h6 : ((h.E.length : Nat) : Rat) <= ((6 : Nat) : Rat) := by exact_mod_cast H.e6
 exact Rat.le_trans h1 h6
end
theorem qI : ∀ {p q : List Int} {v x y : Int}, iZ p q v x = some y -> (y = x ∨ y ∈ q) /\ (v ∈ p -> p.length <= q.length -> y ∈ q)
 | [], q, v, x, y, h => by
  have : iZ [] q v x = some x := by cases q <;> rfl
  rw [this] at h
  injection h with h
  exact ⟨.inl h.symm, λ h => by cases h⟩
 | a :: p, [], v, x, y, h => by
  have : iZ (a :: p) [] v x = some x := rfl
  rw [this] at h
  injection h with h
  exact ⟨.inl h.symm, λ _ h => by simp at h⟩
 | a :: p, i :: q, v, x, y, h => by
  rw [iZ] at h
  split at h
  ·split at h
   ·cases h
   ·obtain ⟨h1, h2⟩ := qI h
    have : y ∈ i :: q := by
     rcases h1 with rfl | h1
     ·exact mem_cons_self ..
     ·exact mem_cons_of_mem _ h1
    exact ⟨.inr this, λ _ _ => this⟩
  ·rename_i hne
   obtain ⟨h1, h2⟩ := qI h
   refine ⟨?_, λ hv hl => ?_⟩
   ·rcases h1 with h1 | h1
    ·exact .inl h1
    ·exact .inr (mem_cons_of_mem _ h1)
   ·rcases mem_cons.1 hv with rfl | hv
    ·exact absurd rfl hne
    ·exact mem_cons_of_mem _ (h2 hv (by simpa using hl))
theorem zu {p q : List Int} (hl : p.length <= q.length) : ∀ {l out r : List Int}, (∀ v ∈ l, v ∈ p) -> (∀ x ∈ out, x ∈ q) -> ql p q l out = some r -> ∀ x ∈ r, x ∈ q
 | [], out, r, _, ho, h => by
  rw [ql] at h
  injection h with h
  rw [<- h]
  exact ho
 | v :: l, out, r, hv, ho, h => by
  rw [ql] at h
  split at h
  ·cases h
  ·rename_i y hy
   refine zu hl (λ u hu => hv u (mem_cons_of_mem _ hu)) (λ x hx => ?_) h
   rcases List.mem_append.1 hx with hx | hx
   ·exact ho x hx
   ·rw [List.mem_singleton.1 hx]
    exact (qI hy).2 (hv v (mem_cons_self ..)) hl
theorem Ft {g : Gra} {a : Atm} {r : List Int} (h : r ∈ (c9 g a).rows) : ∀ x ∈ r, 1 <= x := by
 obtain ⟨hf, hg, hm⟩ := EM h
 obtain ⟨_, _, cN, cE⟩ := rP hg
 unfold ie at hm
 split at hm
 ·rename_i hk
  obtain ⟨e, he, hr⟩ := mem_filterMap.1 hm
  unfold nt at hr
  split at hr
  ·obtain ⟨j, hj, rfl⟩ := mem_iff_getElem.1 he
   have hE := C9 (cE j hj)
   rw [az hj] at hE
   have hid : ∀ id, (fJ g id).2 = true -> 1 <= id := λ id hi => by
    obtain ⟨n, hn, rfl⟩ := JQ hi
    obtain ⟨m, hm, rfl⟩ := mem_iff_getElem.1 hn
    have := (nV (cN m hm)).1
    rwa [az hm] at this
   have h3 : a.vars.length = 3 := (fR hf).1 hk
   have := zu (q := o7 g.edges[j]) (by rw [h3]; exact Nat.le_refl _) (λ v hv => (fU _ _).1 hv) (λ x hx => by cases hx) hr
   intro x hx
   have hx := this x hx
   unfold o7 at hx
   simp only [mem_cons, List.not_mem_nil, or_false] at hx
   rcases hx with rfl | rfl | rfl
   ·exact hid _ hE.2.1
   ·exact hE.1
   ·exact hid _ hE.2.2
  ·cases hr
 ·obtain ⟨n, hn, hr⟩ := mem_filterMap.1 hm
  split at hr
  ·injection hr with hr
   obtain ⟨m, hm, rfl⟩ := mem_iff_getElem.1 hn
   have := (nV (cN m hm)).1
   rw [az hm] at this
   rw [<- hr]
   intro x hx
   rw [List.mem_singleton.1 hx]
   exact this
  ·cases hr
theorem vX {b : List Int} {k : Nat} (h : k < b.length) (x : Int) : ix (b.set k x) k = x := by
 rw [az (by simpa using h)]
 simp
theorem Gn {b : List Int} {k u : Nat} (h : u ≠ k) (x : Int) : ix (b.set k x) u = ix b u := by
 unfold ix
 rw [List.getD_eq_getElem?_getD, List.getD_eq_getElem?_getD, List.getElem?_set_ne (λ e => h e.symm)]
theorem uM : ∀ {b V r b' : List Int}, fd b V r = some b' -> (∀ v ∈ V, v.toNat < b.length) -> ∀ u, ix b u ≠ 0 -> ix b' u = ix b u
 | b, [], r, b', h, _, u, _ => by
  have : fd b [] r = some b := by cases r <;> rfl
  rw [this] at h
  injection h with h
  rw [h]
 | b, v :: V, [], b', h, _, u, _ => by
  have : fd b (v :: V) [] = some b := rfl
  rw [this] at h
  injection h with h
  rw [h]
 | b, v :: V, x :: r, b', h, hv, u, hu => by
  rw [fd] at h
  split at h
  ·cases h
  ·rename_i hc
   have h1 : ix (b.set v.toNat x) u = ix b u := by
    by_cases e : u = v.toNat
    ·subst e
     rw [vX (hv v (mem_cons_self ..))]
     exact Classical.byContradiction λ h2 => hc ⟨hu, λ h3 => h2 h3.symm⟩
    ·exact Gn e x
   rw [uM h (λ w hw => by rw [List.length_set]; exact hv w (mem_cons_of_mem _ hw)) u (by rw [h1]; exact hu), h1]
theorem Kv : ∀ {b V r b' : List Int}, fd b V r = some b' -> (∀ v ∈ V, v.toNat < b.length) -> r.length = V.length -> (∀ x ∈ r, x ≠ 0) -> V.map (λ v => ix b' v.toNat) = r
 | b, [], [], b', _, _, _, _ => rfl
 | b, [], x :: r, b', _, _, h, _ => by simp at h
 | b, v :: V, [], b', _, _, h, _ => by simp at h
 | b, v :: V, x :: r, b', h, hv, hl, h0 => by
  rw [fd] at h
  split at h
  ·cases h
  ·have hv' : ∀ w ∈ V, w.toNat < (b.set v.toNat x).length := λ w hw => by rw [List.length_set]; exact hv w (mem_cons_of_mem _ hw)
   have h1 := Kv h hv' (by simpa using hl) λ y hy => h0 y (mem_cons_of_mem _ hy)
   have h2 := vX (hv v (mem_cons_self ..)) x
   have h3 := uM h hv' v.toNat (by rw [h2]; exact h0 x (mem_cons_self ..))
   rw [map_cons, h1, h3, h2]
def part (b V : List Int) : List Int := V.map λ v => ix b v.toNat
theorem wR {g : Gra} {c : Cnj} (h : dz c = 0) : ∀ i, i <= c.atoms.length -> ∀ b ∈ dX g c i, ∀ j, j < i -> part b (bA (ix c.atoms j).vars) ∈ (c9 g (ix c.atoms j)).rows
 | 0, _, b, _, j, hj => by omega
 | i + 1, hi, b, hb, j, hj => by
  have hii : i < c.atoms.length := by omega
  obtain ⟨_, _, cf, _⟩ := dG h
  rw [k9 (g := g) hii] at hb
  obtain ⟨b0, h0, h1⟩ := List.mem_flatMap.1 hb
  obtain ⟨r, hr, h2⟩ := mem_filterMap.1 h1
  have hw := iB (g := g) (c := c) i (by omega) b0 h0
  have hV : ∀ v ∈ bA (ix c.atoms i).vars, v.toNat < b0.length := λ v hv => by
   have := (of_decide_eq_true (cf _ (aq hii)).2) v ((fU _ _).1 hv)
   omega
  rcases Nat.lt_or_eq_of_le (Nat.le_of_lt_succ hj) with hj | rfl
  ·have ih := wR h i (by omega) b0 h0 j hj
   have e : part b (bA (ix c.atoms j).vars) = part b0 (bA (ix c.atoms j).vars) := by
    unfold part
    refine List.map_congr_left λ v hv => uM h2 hV _ λ hz => ?_
    have hm : ix b0 v.toNat ∈ part b0 (bA (ix c.atoms j).vars) := mem_map.2 ⟨v, hv, rfl⟩
    have := Ft ih _ hm
    omega
   rw [e]
   exact ih
  ·have e := Kv h2 hV (DT hr) λ x hx => by have := Ft hr x hx; omega
   unfold part
   rw [e]
   exact hr
def Fx (ws : List (Rat × List Bool)) : Rat := cx (ws.map Prod.fst)
def Kr (ws : List (Rat × List Bool)) (v : Nat) : Rat := cx (ws.map λ w => if w.2.getD v false = true then w.1 else 0)
theorem Ia : ∀ {ws : List (Rat × List Bool)}, (∀ w ∈ ws, ∃ N D : Nat, 1 <= D /\ w.1 * (D : Rat) = N) -> ∃ L : Nat, 1 <= L /\ ∀ w ∈ ws, ∃ k : Nat, w.1 * (L : Rat) = k
 | [], _ => ⟨1, Nat.le_refl _, λ w h => by cases h⟩
 | a :: r, h => by
  obtain ⟨L, h1, h2⟩ := Ia (ws := r) λ w hw => h w (by simp [hw])
  obtain ⟨N, D, h3, h4⟩ := h a (by simp)
  refine ⟨L * D, Nat.mul_pos h1 h3, λ w hw => ?_⟩
  rcases mem_cons.1 hw with rfl | hw
  ·refine ⟨N * L, ?_⟩
   push_cast
   rw [<- h4]; grind
  ·obtain ⟨k, hk⟩ := h2 w hw
   refine ⟨k * D, ?_⟩
   push_cast
   rw [<- hk]; grind
theorem LX {ws : List (Rat × List Bool)} {L : Nat} {f : Rat × List Bool -> Nat} (v : Nat) : (∀ w ∈ ws, w.1 * (L : Rat) = f w) -> ((cov (ws.map λ w => (f w, w.2)) v : Nat) : Rat) = Kr ws v * L := by
 induction ws with
 | nil => intro _; show ((0 : Nat) : Rat) = 0 * _; push_cast; grind
 | cons a r ih =>
  intro h
  have ih := ih λ w hw => h w (by simp [hw])
  have ha := h a (by simp)
  rw [map_cons, kx]
  show ((_ + _ : Nat) : Rat) = ((if a.2.getD v false = true then a.1 else 0) + Kr r v) * L
  push_cast
  rw [ih]
  by_cases hb : a.2.getD v false = true
  ·rw [if_pos hb, if_pos hb]; grind
  ·rw [if_neg hb, if_neg hb]; push_cast; grind
theorem K9 {ws : List (Rat × List Bool)} {L : Nat} {f : Rat × List Bool -> Nat} : (∀ w ∈ ws, w.1 * (L : Rat) = f w) -> (((ws.map f).sum : Nat) : Rat) = Fx ws * L := by
 induction ws with
 | nil => intro _; show ((0 : Nat) : Rat) = 0 * _; push_cast; grind
 | cons a r ih =>
  intro h
  have ih := ih λ w hw => h w (by simp [hw])
  have ha := h a (by simp)
  rw [map_cons, sum_cons]
  show ((_ + _ : Nat) : Rat) = (a.1 + Fx r) * L
  push_cast
  rw [ih]; grind
theorem AP {α : Type} [DecidableEq α] {Q : List (List α)} {N : Nat} {f : Rat × List Bool -> Nat} : ∀ {ws : List (Rat × List Bool)}, (∀ w ∈ ws, cnt (Q.map (pick w.2)) <= N) -> qa Q (ws.map λ w => (f w, w.2)) <= N ^ (ws.map f).sum
 | [], _ => Nat.le_refl _
 | a :: r, h => by
  rw [map_cons, jm, map_cons, sum_cons, Nat.pow_add]
  exact Nat.mul_le_mul (pow_le_pow_left (h a (by simp)) _) (AP λ w hw => h w (by simp [hw]))
theorem zO {a b k : Nat} (hk : 1 <= k) (h : a ^ k <= b ^ k) : a <= b :=
 Nat.le_of_not_lt λ hlt => absurd h (Nat.not_le_of_lt (Nat.pow_lt_pow_left hlt (by omega)))
theorem agm {α : Type} [DecidableEq α] {n : Nat} {Q : List (List α)} {ws : List (Rat × List Bool)} {N p q : Nat} (hn : Q.Nodup) (hl : ∀ t ∈ Q, t.length = n) (hm : ∀ w ∈ ws, w.2.length = n) (hw : ∀ w ∈ ws, ∃ a b : Nat, 1 <= b /\ w.1 * (b : Rat) = a)
  (hc : ∀ v, v < n -> 1 <= Kr ws v) (hN : ∀ w ∈ ws, cnt (Q.map (pick w.2)) <= N) (hq : 1 <= q) (hs : Fx ws * (q : Rat) = p) : Q.length ^ q <= N ^ p := by
 obtain ⟨L, hL, hk⟩ := Ia hw
 obtain ⟨f, hf⟩ : ∃ f : Rat × List Bool -> Nat, ∀ w ∈ ws, w.1 * (L : Rat) = f w := by
  refine ⟨λ w => Classical.epsilon λ k : Nat => w.1 * (L : Rat) = k, λ w h => ?_⟩
  exact Classical.epsilon_spec (p := λ k : Nat => w.1 * (L : Rat) = k) (hk w h)
 have h1 : Q.length ^ L <= N ^ (ws.map f).sum := by
  refine Nat.le_trans (Fd (n := n) (M := ws.map λ w => (f w, w.2)) hL hn hl (λ m hmm => ?_) λ v hv => ?_) (AP hN)
  ·obtain ⟨w, hw, rfl⟩ := mem_map.1 hmm
   exact hm w hw
  ·have h2 := LX v hf
   have h3 := hc v hv
   have hLq : (0 : Rat) <= L := aY L
   have h4 := Rat.mul_le_mul_of_nonneg_right h3 hLq
   rw [<- h2] at h4
   have h5 : (L : Rat) <= ((cov (ws.map λ w => (f w, w.2)) v : Nat) : Rat) := by grind
   exact_mod_cast h5
 have h2 := K9 hf
 generalize (ws.map f).sum = K at *
 have h3 : q * K = p * L := by
  have : ((q * K : Nat) : Rat) = ((p * L : Nat) : Rat) := by push_cast; rw [h2, <- hs]; grind
  exact_mod_cast this
 rcases Nat.eq_zero_or_pos K with h0 | h0
 ·subst h0
  have hp : p = 0 := by
   rcases Nat.eq_zero_or_pos p with e | e
   ·exact e
   ·have := Nat.mul_pos e hL; omega
  subst hp
  rw [Nat.pow_zero] at h1 ⊢
  have : Q.length <= 1 := zO hL (by rw [Nat.one_pow]; exact h1)
  have := pow_le_pow_left this q
  rwa [Nat.one_pow] at this
 ·refine zO h0 ?_
  rw [<- pow_mul, <- pow_mul, h3, Nat.mul_comm p L, pow_mul, Nat.mul_comm p K, pow_mul]
  exact pow_le_pow_left h1 p
def gH (V : List Int) : Nat -> Nat -> List Bool
 | _, 0 => []
 | s, n + 1 => decide ((s : Int) ∈ V) :: gH V (s + 1) n
theorem wo (V : List Int) : ∀ s n, (gH V s n).length = n
 | _, 0 => rfl
 | s, n + 1 => by rw [gH, List.length_cons, wo]
theorem zU (V : List Int) : ∀ {n s k : Nat}, k < n -> (gH V s n).getD k false = decide (((s + k : Nat) : Int) ∈ V)
 | n + 1, s, 0, _ => by rw [gH]; simp
 | n + 1, s, k + 1, h => by
  rw [gH, List.getD_cons_succ, zU V (by omega), show s + 1 + k = s + (k + 1) by omega]
theorem ur {V W : List Int} : ∀ {n s : Nat}, (∀ u : Nat, s <= u -> ((u : Int) ∈ V ↔ (u : Int) ∈ W)) -> gH V s n = gH W s n
 | 0, _, _ => rfl
 | n + 1, s, h => by
  rw [gH, gH, ur (s := s + 1) (λ u hu => h u (by omega)), decide_eq_decide.2 (h s (Nat.le_refl _))]
theorem pV (x : Int) (t : List Int) {k : Nat} (h : 0 < k) : ix (x :: t) k = ix t (k - 1) := by
 obtain ⟨k, rfl⟩ : ∃ j, k = j + 1 := ⟨k - 1, by omega⟩
 rfl
theorem qu : ∀ {n s : Nat} {V b : List Int}, V.Pairwise (· < ·) -> (∀ v ∈ V, (s : Int) <= v /\ v < (s + n : Nat)) -> b.length = n -> pick (gH V s n) b = V.map λ v => ix b (v.toNat - s)
 | 0, s, V, b, _, hV, hb => by
  have : V = [] := by
   cases V with
   | nil => rfl
   | cons a r => have := hV a (mem_cons_self ..); omega
  subst this
  have : b = [] := List.length_eq_zero_iff.1 hb
  subst this
  rfl
 | n + 1, s, V, [], _, _, hb => by simp at hb
 | n + 1, s, V, x :: t, hp, hV, hb => by
  rw [gH]
  by_cases hs : (s : Int) ∈ V
  ·match V, hs, hp, hV with
   | v0 :: V', hs, hp, hV =>
    obtain ⟨h1, h2⟩ := List.pairwise_cons.1 hp
    have e : v0 = (s : Int) := by
     rcases mem_cons.1 hs with e | e
     ·exact e.symm
     ·have := h1 _ e
      have := (hV v0 (mem_cons_self ..)).1
      omega
    subst e
    rw [decide_eq_true hs, pick, ur (W := V') (λ u hu => by
     rw [mem_cons]
     constructor
     ·rintro (h | h)
      ·omega
      ·exact h
     ·exact .inr), qu h2 (λ v hv => by
      have := h1 v hv
      have := hV v (mem_cons_of_mem _ hv)
      omega) (by simpa using hb), map_cons]
    congr 1
    ·simp [ix]
    ·refine List.map_congr_left λ v hv => ?_
     have := h1 v hv
     rw [pV x t (by omega)]
     congr 1
  ·rw [decide_eq_false hs, pick, qu hp (λ v hv => by
    have := hV v hv
    have : v ≠ (s : Int) := λ e => hs (e ▸ hv)
    omega) (by simpa using hb)]
   refine List.map_congr_left λ v hv => ?_
   have := hV v hv
   have : v ≠ (s : Int) := λ e => hs (e ▸ hv)
   rw [pV x t (by omega)]
   congr 1
theorem lX (f : Nat -> Rat) : ∀ n, cx ((List.range n).map f) = Sm n f
 | 0 => rfl
 | n + 1 => by
  rw [List.range_succ, List.map_append, la, lX f n, Sm]
  simp only [map_cons, List.map_nil, cx]
  grind
theorem K7 {g : Gra} {l : List Atm} {a : Atm} (h : a ∈ l) : ((c9 g a).rows.length : Int) <= pX g l := by
 have mono : ∀ (l : List Atm) (n : Int), n <= l.foldl (λ n a => if ((c9 g a).rows.length : Int) > n then ((c9 g a).rows.length : Int) else n) n := by
  intro l
  induction l with
  | nil => intro n; exact Int.le_refl _
  | cons b r ih =>
   intro n
   rw [foldl_cons]
   refine Int.le_trans ?_ (ih _)
   split <;> omega
 have key : ∀ (l : List Atm) (n : Int), a ∈ l -> ((c9 g a).rows.length : Int) <= l.foldl (λ n a => if ((c9 g a).rows.length : Int) > n then ((c9 g a).rows.length : Int) else n) n := by
  intro l
  induction l with
  | nil => intro n h; cases h
  | cons b r ih =>
   intro n h
   rw [foldl_cons]
   rcases mem_cons.1 h with rfl | h
   ·refine Int.le_trans ?_ (mono r _)
    split <;> omega
   ·exact ih _ h
 exact key l 1 h
theorem LZ {g : Gra} {l : List Atm} (h : ∀ a, (c9 g a).rows.length <= 14) : 1 <= pX g l /\ pX g l <= 14 := by
 have key : ∀ (l : List Atm) (n : Int), 1 <= n -> n <= 14 -> 1 <= l.foldl (λ n a => if ((c9 g a).rows.length : Int) > n then ((c9 g a).rows.length : Int) else n) n /\ l.foldl (λ n a => if ((c9 g a).rows.length : Int) > n then ((c9 g a).rows.length : Int) else n) n <= 14 := by
  intro l
  induction l with
  | nil => intro n h1 h2; exact ⟨h1, h2⟩
  | cons a r ih =>
   intro n h1 h2
   rw [foldl_cons]
   have := h a
   split
   ·exact ih _ (by omega) (by omega)
   ·exact ih _ h1 h2
 exact key l 1 (by omega) (by omega)
theorem Fj {c D : Nat} (hc : c <= 1000000000) (hD : D <= 54) : c ^ D < cA := by
 unfold cA
 have h1 : c ^ D <= 1000000000 ^ D := pow_le_pow_left hc D
 have h2 : 1000000000 ^ D < 1000000000 ^ 64 := Nat.pow_lt_pow_right (by decide) (by omega)
 omega
theorem Hb {n N : Nat} (hn : n <= 14) (hn1 : 1 <= n) (hN : N <= 324) : n ^ N < cA := by
 obtain ⟨K, hK⟩ : ∃ K : Nat, K = 54 := ⟨_, rfl⟩
 have h1 : n ^ N <= n ^ (6 * K) := Nat.pow_le_pow_right hn1 (by omega)
 rw [pow_mul] at h1
 have h2 : n ^ 6 <= 14 ^ 6 := pow_le_pow_left hn 6
 have h3 : (14 ^ 6 : Nat) = 7529536 := by decide
 exact Nat.lt_of_le_of_lt h1 (Fj (by omega) (by omega))
theorem Nr {f : Fr} (h : aj f) : 0 < f.D.toNat := by have := h.1; omega
theorem L0 {f : Fr} (h : aj f) (h0 : 0 <= f.N) : ∃ N D : Nat, 1 <= D /\ V f * (D : Rat) = N :=
 ⟨f.N.toNat, f.D.toNat, Nr h, (KB ⟨h, h0⟩).1.symm⟩
theorem LL {c : Cnj} (h : dz c = 0) : (ofF c).E = c.atoms.map (λ a => bA a.vars) /\ (ofF c).N.toNat = c.vars.length := by
 have e : ofF c = ⟨c.vars.length, c.atoms.map λ a => bA a.vars⟩ := if_neg (λ h2 => h2 h)
 rw [e]
 exact ⟨rfl, by simp⟩
theorem Qi {α β : Type} [Inhabited α] [Inhabited β] (f : α -> β) {l : List α} {k : Nat} (h : k < l.length) : ix (l.map f) k = f (ix l k) := by
 rw [az (by simpa using h), az h, getElem_map]
theorem yk (g : Gra) (c : Cnj) : Ny g c := by
 intro h1 h2 h3
 obtain ⟨p1, p2, p3⟩ := rJ h1
 have H := Pv h2 p3 h3
 obtain ⟨r1, r2, r3⟩ := H.rho
 refine ⟨r1, ?_⟩
 obtain ⟨r, hr⟩ : ∃ r, (ja (ofF c)).1 = r := ⟨_, rfl⟩
 obtain ⟨y, hy⟩ : ∃ y, (ja (ofF c)).2.1 = y := ⟨_, rfl⟩
 have hrho : ja (ofF c) = (r, y, 0) := by rw [<- hr, <- hy, <- r1]
 rw [hr] at r2 r3 ⊢
 have R := Qm hrho
 obtain ⟨hE, hN⟩ := LL h2
 have hEl : (ofF c).E.length = c.atoms.length := by rw [hE, List.length_map]
 have hyl : y.length = c.atoms.length := by rw [R.len, hEl]
 have hf := BG R.cov
 have ynn : ∀ k, k < c.atoms.length -> 0 <= V (ix y k) := λ k hk => hf.nn k (by rw [g9, hEl]; exact hk)
 have yv : ∀ k, k < c.atoms.length -> aj (ix y k) := λ k hk => R.vy k (by omega)
 have rnn : 0 <= V r := by
  rw [<- R.sum]
  exact fT λ k hk => ynn k (by omega)
 have rN : 0 <= r.N := (Eh R.vr).2 rnn
 have D1 := Nr R.vr
 obtain ⟨rm, rd⟩ := KB ⟨R.vr, rN⟩
 have D54 : r.D.toNat <= 54 := by omega
 have N324 : r.N.toNat <= 324 := by
  have h4 := Rat.mul_le_mul_of_nonneg_right r3 (aY r.D.toNat)
  rw [<- rm] at h4
  have h5 : ((r.N.toNat : Nat) : Rat) <= ((6 * r.D.toNat : Nat) : Rat) := by
   push_cast
   exact h4
  have h6 : r.N.toNat <= 6 * r.D.toNat := by exact_mod_cast h5
  omega
 obtain ⟨m1, m2⟩ := LZ (l := c.atoms) (λ a => sd g a p1 p2)
 obtain ⟨n, hn⟩ : ∃ n, pX g c.atoms = n := ⟨_, rfl⟩
 rw [hn] at m1 m2 ⊢
 have hrl : (fM g c).length <= 7529536 := by
  unfold fM
  by_cases hg : dm g = 0
  case neg => rw [if_pos hg]; exact zero_le _
  ·rw [if_neg (λ q => q hg), if_neg (λ q => q h2)]
   have h5 := kh p1 p2 c.atoms.length (Nat.le_refl _)
   have hpw : 14 ^ c.atoms.length <= 14 ^ 6 := Nat.pow_le_pow_right (by decide) p3
   have h7 : (14 ^ 6 : Nat) = 7529536 := by decide
   have hl := pd (dX g c c.atoms.length)
   omega
 have main : (fM g c).length ^ r.D.toNat <= n.toNat ^ r.N.toNat := by
  by_cases hg : dm g = 0
  ·have hrows : fM g c = srt (dX g c c.atoms.length) := by
    unfold fM
    rw [if_neg (λ q => q hg), if_neg (λ q => q h2)]
   obtain ⟨ws, hws⟩ : ∃ ws, ws = (List.range c.atoms.length).map λ k => (V (ix y k), gH (bA (ix c.atoms k).vars) 0 c.vars.length) := ⟨_, rfl⟩
   have mem : ∀ w ∈ ws, ∃ k, k < c.atoms.length /\ w = (V (ix y k), gH (bA (ix c.atoms k).vars) 0 c.vars.length) := λ w hw => by
    rw [hws] at hw
    obtain ⟨k, hk, rfl⟩ := mem_map.1 hw
    exact ⟨k, mem_range.1 hk, rfl⟩
   obtain ⟨_, _, cf, _⟩ := dG h2
   rw [hrows]
   refine agm (n := c.vars.length) (ws := ws) (F7 _) (λ t ht => iB _ (Nat.le_refl _) t ((pF _ _).1 ht)) (λ w hw => ?_) (λ w hw => ?_) (λ v hv => ?_) (λ w hw => ?_) D1 ?_
   ·obtain ⟨k, _, rfl⟩ := mem w hw
    exact wo _ _ _
   ·obtain ⟨k, hk, rfl⟩ := mem w hw
    exact L0 (yv k hk) ((Eh (yv k hk)).2 (ynn k hk))
   ·have hv2 : v < (ofF c).N.toNat := by omega
    have h4 := hf.row v (by rw [nE]; exact hv2)
    rw [xT hv2, g9, hEl] at h4
    have e : Kr ws v = Sm c.atoms.length (λ k => aQ (bH (ofF c)) v k * XQ y k) := by
     unfold Kr
     rw [hws, map_map, lX]
     refine ay λ k hk => ?_
     show (if (gH (bA (ix c.atoms k).vars) 0 c.vars.length).getD v false = true then V (ix y k) else 0) = _
     rw [zU _ hv, xJ hv2 (by omega), hE, Qi _ hk, Nat.zero_add]
     by_cases q : (v : Int) ∈ bA (ix c.atoms k).vars
     ·rw [decide_eq_true q, if_pos rfl, if_pos q]
      show V (ix y k) = 1 * V (ix y k)
      grind
     ·rw [decide_eq_false q, if_neg (by decide), if_neg q]
      grind
    rw [e]
    exact h4
   ·obtain ⟨k, hk, rfl⟩ := mem w hw
    have hle := K7 (g := g) (aq hk)
    rw [hn] at hle
    have hcnt : cnt ((srt (dX g c c.atoms.length)).map (pick (gH (bA (ix c.atoms k).vars) 0 c.vars.length))) <= (c9 g (ix c.atoms k)).rows.length := by
     refine Hg λ x hx => ?_
     obtain ⟨b, hb, rfl⟩ := mem_map.1 hx
     have hb := (pF _ _).1 hb
     have hw := iB _ (Nat.le_refl _) b hb
     rw [qu (Ab _) (λ v hv => by
      have := (of_decide_eq_true (cf _ (aq hk)).2) v ((fU _ _).1 hv)
      omega) hw]
     exact wR h2 _ (Nat.le_refl _) b hb k hk
    show cnt ((srt (dX g c c.atoms.length)).map (pick (gH (bA (ix c.atoms k).vars) 0 c.vars.length))) <= n.toNat
    omega
   ·rw [rm]
    congr 1
    unfold Fx
    rw [hws, map_map, <- R.sum, hyl]
    exact lX (λ k => V (ix y k)) _
  ·have hrows : fM g c = [] := by
    unfold fM
    rw [if_pos hg]
   rw [hrows, List.length_nil, Nat.zero_pow D1]
   exact zero_le _
 have L1 : (fM g c).length ^ r.D.toNat < cA := Fj (by omega) D54
 have L2 : n.toNat ^ r.N.toNat < cA := Hb (by omega) (by omega) N324
 have fr : EZ ((fM g c).length : Int) n r := ⟨by omega, ⟨m1, R.vr, rN⟩, by rw [Int.toNat_natCast]; exact L1, L2, by rw [Int.toNat_natCast]; exact main⟩
 unfold wj
 exact @decide_eq_true _ (Classical.propDecidable _) fr
theorem lawBoundsC : PureOK prog G0 4 (aC LawPre (λ _ _ => .bool true)) := GL yk
def VQ (h : Hy) : Prop := h.E.length <= 14 /\ ∀ e ∈ h.E, e.length <= 30
instance (h : Hy) : Decidable (VQ h) := inferInstanceAs (Decidable (_ /\ _))
theorem KF : Reads prog 51 (List Int) (WfL I64) := gu (by kernel_rfl) (by kernel_rfl) (of_decide_eq_true (by kernel_rfl)) fE
open Go.RowKit Go.WideShapes Go.ChangeShapes
theorem pC : Reads prog 9 ByteArray (λ s => s.size <= maxLen) := GK (by kernel_rfl)
theorem tZ : Reads prog 44 (List ByteArray) (WfL λ s => s.size <= maxLen) := gu (by kernel_rfl) (by kernel_rfl) (of_decide_eq_true (by kernel_rfl)) pC
theorem H9 {H : Type} {enc : TypeId × Value -> H} {w : World} {held : Bool} {P : Program} {n : Nat} {t : TypeId} {cs : List Value} {x : DataW H × List MemPlace} (h : DataW.trod enc P w 0 (λ _ => true) held n t cs = some x) : ∃ m, n = m + 1 := by
 cases n with
 | zero => simp [DataW.trod] at h
 | succ n => exact ⟨n, rfl⟩
theorem vf : Reads prog 54 Val WfV := by
 intro n
 induction n using Nat.strongRecOn with
 | _ n ih =>
  intro H enc w held cs x hx
  obtain ⟨m, rfl, hl, hf⟩ := cX ⟨_, rfl⟩ hx
  obtain ⟨y0, t0⟩ := hf 0 0 3 (by kernel_rfl)
  obtain ⟨y1, t1⟩ := hf 1 1 3 (by kernel_rfl)
  obtain ⟨y2, t2⟩ := hf 2 2 3 (by kernel_rfl)
  obtain ⟨y3, t3⟩ := hf 3 3 9 (by kernel_rfl)
  obtain ⟨y4, t4⟩ := hf 4 4 52 (by kernel_rfl)
  obtain ⟨k, _, c0⟩ := fE m enc w held _ _ t0
  obtain ⟨nn, _, c1⟩ := fE m enc w held _ _ t1
  obtain ⟨d, _, c2⟩ := fE m enc w held _ _ t2
  obtain ⟨s, w3, c3⟩ := pC m enc w held _ _ t3
  obtain ⟨m', rfl⟩ := H9 t4
  obtain ⟨l, ⟨w4, w5⟩, c4⟩ := pe (e := 54) (by kernel_rfl) (by kernel_rfl) (of_decide_eq_true (by kernel_rfl)) (ih m' (by omega)) enc w held _ _ t4
  refine ⟨.mk k nn d s l, .mk _ _ _ _ _ w3 w4 w5, ?_⟩
  rw [kt]
  exact CellsD.split (o := 0) (s := 1) c0 (CellsD.split (s := 1) c1 (CellsD.split (s := 1) c2 (CellsD.split (s := 1) c3 (CellsD.split (s := 1) c4 (CellsD.last (by rw [hl, show szT prog 54 = 5 by kernel_rfl]; decide))))))
theorem HD : Reads prog 159 Prp WfP := λ n => by
 intro H enc w held cs x hx
 obtain ⟨m, rfl, hl, hf⟩ := cX ⟨_, rfl⟩ hx
 obtain ⟨y0, t0⟩ := hf 0 0 9 (by kernel_rfl)
 obtain ⟨y1, t1⟩ := hf 1 1 54 (by kernel_rfl)
 obtain ⟨a, wa, ca⟩ := pC m enc w held _ _ t0
 obtain ⟨b, wb, cb⟩ := vf m enc w held _ _ t1
 refine ⟨⟨a, b⟩, ⟨wa, wb⟩, ?_⟩
 have e : Enc.cells (Prp.mk a b) = Enc.cells a ++ (Enc.cells b ++ []) := by
  rw [Hs, kt]
  rfl
 rw [e]
 exact CellsD.split (o := 0) (s := 1) ca (CellsD.split (s := 5) cb (CellsD.last (by rw [hl, show szT prog 159 = 6 by kernel_rfl]; decide)))
theorem sS : Reads prog 86 (List Prp) (WfL WfP) := gu (by kernel_rfl) (by kernel_rfl) (of_decide_eq_true (by kernel_rfl)) HD
theorem FL : Reads prog 92 Nod WfN := λ n => by
 intro H enc w held cs x hx
 obtain ⟨m, rfl, hl, hf⟩ := cX ⟨_, rfl⟩ hx
 obtain ⟨y0, t0⟩ := hf 0 0 3 (by kernel_rfl)
 obtain ⟨y1, t1⟩ := hf 1 1 44 (by kernel_rfl)
 obtain ⟨y2, t2⟩ := hf 2 2 86 (by kernel_rfl)
 obtain ⟨a, _, ca⟩ := fE m enc w held _ _ t0
 obtain ⟨b, wb, cb⟩ := tZ m enc w held _ _ t1
 obtain ⟨c, wc, cc⟩ := sS m enc w held _ _ t2
 exact ⟨⟨a, b, c⟩, ⟨wb.1, wb.2, wc.1, wc.2⟩, CellsD.split (o := 0) (s := 1) ca (CellsD.split (s := 1) cb (CellsD.split (s := 1) cc (CellsD.last (by rw [hl, show szT prog 92 = 3 by kernel_rfl]; decide))))⟩
theorem F0 : Reads prog 88 Edg WfE := λ n => by
 intro H enc w held cs x hx
 obtain ⟨m, rfl, hl, hf⟩ := cX ⟨_, rfl⟩ hx
 obtain ⟨y0, t0⟩ := hf 0 0 3 (by kernel_rfl)
 obtain ⟨y1, t1⟩ := hf 1 1 3 (by kernel_rfl)
 obtain ⟨y2, t2⟩ := hf 2 2 3 (by kernel_rfl)
 obtain ⟨y3, t3⟩ := hf 3 3 9 (by kernel_rfl)
 obtain ⟨y4, t4⟩ := hf 4 4 86 (by kernel_rfl)
 obtain ⟨a, _, ca⟩ := fE m enc w held _ _ t0
 obtain ⟨b, _, cb⟩ := fE m enc w held _ _ t1
 obtain ⟨c, _, cc⟩ := fE m enc w held _ _ t2
 obtain ⟨d, wd, cd⟩ := pC m enc w held _ _ t3
 obtain ⟨p, wp, cp⟩ := sS m enc w held _ _ t4
 exact ⟨⟨a, b, c, d, p⟩, ⟨wd, wp.1, wp.2⟩, CellsD.split (o := 0) (s := 1) ca (CellsD.split (s := 1) cb (CellsD.split (s := 1) cc (CellsD.split (s := 1) cd (CellsD.split (s := 1) cp (CellsD.last (by rw [hl, show szT prog 88 = 5 by kernel_rfl]; decide))))))⟩
theorem reads_gra : Reads prog 43 Gra WfG := λ n => by
 intro H enc w held cs x hx
 obtain ⟨m, rfl, hl, hf⟩ := cX ⟨_, rfl⟩ hx
 obtain ⟨y0, t0⟩ := hf 0 0 40 (by kernel_rfl)
 obtain ⟨y1, t1⟩ := hf 1 1 41 (by kernel_rfl)
 obtain ⟨y2, t2⟩ := hf 2 2 3 (by kernel_rfl)
 obtain ⟨y3, t3⟩ := hf 3 3 3 (by kernel_rfl)
 obtain ⟨a, wa, ca⟩ := (gu (by kernel_rfl) (by kernel_rfl) (of_decide_eq_true (by kernel_rfl)) FL : Reads prog 40 (List Nod) (WfL WfN)) m enc w held _ _ t0
 obtain ⟨b, wb, cb⟩ := (gu (by kernel_rfl) (by kernel_rfl) (of_decide_eq_true (by kernel_rfl)) F0 : Reads prog 41 (List Edg) (WfL WfE)) m enc w held _ _ t1
 obtain ⟨c, _, cc⟩ := fE m enc w held _ _ t2
 obtain ⟨d, _, cd⟩ := fE m enc w held _ _ t3
 exact ⟨⟨a, b, c, d⟩, ⟨wa.1, wa.2, wb.1, wb.2⟩, CellsD.split (o := 0) (s := 1) ca (CellsD.split (s := 1) cb (CellsD.split (s := 1) cc (CellsD.split (s := 1) cd (CellsD.last (by rw [hl, show szT prog 43 = 4 by kernel_rfl]; decide)))))⟩
theorem HA : Reads prog 56 Atm WfA := λ n => by
 intro H enc w held cs x hx
 obtain ⟨m, rfl, hl, hf⟩ := cX ⟨_, rfl⟩ hx
 obtain ⟨y0, t0⟩ := hf 0 0 3 (by kernel_rfl)
 obtain ⟨y1, t1⟩ := hf 1 1 51 (by kernel_rfl)
 obtain ⟨y2, t2⟩ := hf 2 2 9 (by kernel_rfl)
 obtain ⟨y3, t3⟩ := hf 3 3 44 (by kernel_rfl)
 obtain ⟨y4, t4⟩ := hf 4 4 54 (by kernel_rfl)
 obtain ⟨a, _, ca⟩ := fE m enc w held _ _ t0
 obtain ⟨b, wb, cb⟩ := KF m enc w held _ _ t1
 obtain ⟨c, wc, cc⟩ := pC m enc w held _ _ t2
 obtain ⟨d, wd, cd⟩ := tZ m enc w held _ _ t3
 obtain ⟨v, wv, cv⟩ := vf m enc w held _ _ t4
 refine ⟨⟨a, b, c, d, v⟩, ⟨wb.1, wb.2, wc, wd.1, wv⟩, ?_⟩
 have e : Enc.cells (Atm.mk a b c d v) = Enc.cells a ++ (Enc.cells b ++ (Enc.cells c ++ (Enc.cells d ++ (Enc.cells v ++ [])))) := by
  rw [G8, kt]
  rfl
 rw [e]
 exact CellsD.split (o := 0) (s := 1) ca (CellsD.split (s := 1) cb (CellsD.split (s := 1) cc (CellsD.split (s := 1) cd (CellsD.split (s := 5) cv (CellsD.last (by rw [hl, show szT prog 56 = 9 by kernel_rfl]; decide))))))
theorem reads_cnj : Reads prog 47 Cnj WfC := λ n => by
 intro H enc w held cs x hx
 obtain ⟨m, rfl, hl, hf⟩ := cX ⟨_, rfl⟩ hx
 obtain ⟨y0, t0⟩ := hf 0 0 44 (by kernel_rfl)
 obtain ⟨y1, t1⟩ := hf 1 1 45 (by kernel_rfl)
 obtain ⟨a, wa, ca⟩ := tZ m enc w held _ _ t0
 obtain ⟨b, wb, cb⟩ := (gu (by kernel_rfl) (by kernel_rfl) (of_decide_eq_true (by kernel_rfl)) HA : Reads prog 45 (List Atm) (WfL WfA)) m enc w held _ _ t1
 exact ⟨⟨a, b⟩, ⟨wa.1, wb.1, wb.2⟩, CellsD.split (o := 0) (s := 1) ca (CellsD.split (s := 1) cb (CellsD.last (by rw [hl, show szT prog 47 = 2 by kernel_rfl]; decide)))⟩
end
end Go.Proofs.YtfoipbjhaiimlaaGreatDoor