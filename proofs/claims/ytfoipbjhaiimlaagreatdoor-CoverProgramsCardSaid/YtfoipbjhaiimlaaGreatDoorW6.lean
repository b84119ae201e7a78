/-
  Texts joined: H5 H6 H7 H8 QD H9 N0 N1 N2 N3 N4 N5 N6 N7 N8 N9 Q1 Q2 Q3 Q4 Q5 Q6 Q7 Q8 R7 Q9 Q10 AmO R1 R2 Q11 R3 R4 R5 H10 H11 K1 K2.
-/
import Derived.Test.YtfoipbjhaiimlaaGreatDoorW5
import Derived.Test.YtfoipbjhaiimlaaGreatDoorW3
import Derived.Test.YtfoipbjhaiimlaaGreatDoorW4
import Derived.RangeFuncLeaves
import Derived.RangeFuncRecord
import Derived.TacticsIn
import Derived.RangeFuncBox
import Derived.RangeFuncWrites
import Derived.Shelf.Abstract
import Derived.WalkKit
import Derived.OwnWalkIn
import Derived.TacticsInMore
import Derived.LoopNIn
import Derived.LoopIn

/-
  layer 30: phase two; what Solve's answer says of the program, over the rational numbers.
-/
namespace Go.Proofs.YtfoipbjhaiimlaaGreatDoor
open Go.RowKit
set_option linter.unusedSimpArgs false
set_option linter.unusedVariables false

section
variable {l : Lin}
def cE (l : Lin) (k : Nat) : Rat := if k < l.C.length then cQ l k else 0
theorem rowC_V {t : Tab} (hn : t.n = l.C.length) (hw : t.w = l.C.length + l.A.length) (k : Nat) : V (ix (rowC t l.C) k) = cE l k := by
  have hE : rowE t = List.replicate (t.w + 1) F01 := rfl
  unfold rowC cE cQ
  rw [hE, List.drop_replicate]
  by_cases hk : k < l.C.length
  · rw [if_pos hk]
    unfold ix
    rw [List.getD_eq_getElem?_getD, List.getElem?_append_left hk, List.getD_eq_getElem?_getD]
  · rw [if_neg hk]
    by_cases hk2 : k < l.C.length + (t.w + 1 - l.C.length)
    · rw [ix_lt (by rw [List.length_append, List.length_replicate]; exact hk2), List.getElem_append_right (by omega), List.getElem_replicate]
      exact V_01
    · rw [ix_ge (by rw [List.length_append, List.length_replicate]; omega)]
      exact V_def
theorem rowC_valid (h : Ok l) {t : Tab} (hn : t.n = l.C.length) (hw : t.w = l.C.length + l.A.length) {k : Nat} (hk : k < t.w + 1) : ValidF (ix (rowC t l.C) k) := by
  have hE : rowE t = List.replicate (t.w + 1) F01 := rfl
  unfold rowC
  rw [hE, List.drop_replicate]
  by_cases hkn : k < l.C.length
  · have := h.c k hkn
    unfold ix at this ⊢
    rw [List.getD_eq_getElem?_getD, List.getElem?_append_left hkn, ← List.getD_eq_getElem?_getD]
    exact this
  · rw [ix_lt (by rw [List.length_append, List.length_replicate]; omega), List.getElem_append_right (by omega), List.getElem_replicate]
    exact valid_01
theorem use_iff {t : Tab} {L : Lay} (hS : Shape L t) (k : Nat) : useP t l.C k ↔ (Q t).b k < t.n ∧ (ix l.C ((Q t).b k)).N ≠ 0 := by
  have := bas_nn hS k
  unfold useP
  show _ ↔ (ix t.basis k).toNat < t.n ∧ (ix l.C (ix t.basis k).toNat).N ≠ 0
  exact and_congr (by omega) Iff.rfl
theorem s1_Q (h : Ok l) {L : Lay} {t : Tab} (hS : Shape L t) (hn : t.n = l.C.length) (hw : t.w = l.C.length + l.A.length) : ∀ {k : Nat}, k ≤ t.m → (s1K t l.C k).over = false → t.over = false ∧ Q (s1K t l.C k) = ⟨(Q t).T, fun c => cE l c - Sm k (fun i => if (Q t).b i < l.C.length then cQ l ((Q t).b i) * (Q t).T i c else 0), (Q t).b⟩ ∧ (Vd t → Vd (s1K t l.C k))
  | 0, _, ho => ⟨ho, by
      refine QT.same (fun _ _ => rfl) (fun k => ?_) (fun _ => rfl)
      show V (ix (rowC t l.C) k) = cE l k - Sm 0 _
      rw [rowC_V hn hw]
      unfold Sm
      grind, fun hv => ⟨hv.rows, .inr fun k hk => rowC_valid h hn hw hk⟩⟩
  | k + 1, hk, ho => by
    have hS1 : Shape (newC L []) (s1K t l.C k) := s1K_shape hS hn.symm (by omega)
    have ih := s1_Q h hS hn hw (k := k) (by omega)
    have hu := use_iff (l := l) hS k
    unfold s1K at ho ⊢
    by_cases ha : useP t l.C k
    · rw [if_pos ha] at ho ⊢
      obtain ⟨sm1, sm2, sm3, sm4⟩ := s1K_same (t := t) hn.symm k
      obtain ⟨h1, h2, h3⟩ := clr_cost hS1 ⟨by rw [sm2]; exact hk, fun q hq => (by cases hq), fun _ => by rw [sm3, s1K_w hn.symm]⟩ ho
      obtain ⟨h4, h5, h6⟩ := ih h1
      refine ⟨h4, ?_, fun hv => h3 (h6 hv)⟩
      rw [h2, h5]
      refine QT.same (fun _ _ => rfl) (fun c => ?_) (fun _ => rfl)
      simp only
      show _ = _ - (Sm k _ + if (Q t).b k < l.C.length then cQ l ((Q t).b k) * (Q t).T k c else 0)
      rw [if_pos (by rw [← hn]; exact (hu.1 ha).1)]
      have : V (ix l.C (ix t.basis k).toNat) = cQ l ((Q t).b k) := rfl
      rw [this]
      grind
    · rw [if_neg ha] at ho ⊢
      obtain ⟨h4, h5, h6⟩ := ih ho
      refine ⟨h4, ?_, h6⟩
      rw [h5]
      refine QT.same (fun _ _ => rfl) (fun c => ?_) (fun _ => rfl)
      simp only
      show _ = _ - (Sm k _ + if (Q t).b k < l.C.length then cQ l ((Q t).b k) * (Q t).T k c else 0)
      by_cases hb : (Q t).b k < l.C.length
      · rw [if_pos hb]
        have hN : (ix l.C ((Q t).b k)).N = 0 := Classical.byContradiction fun hN => ha (hu.2 ⟨by rw [hn]; exact hb, hN⟩)
        have : cQ l ((Q t).b k) = 0 := V_zero hN
        rw [this]
        grind
      · rw [if_neg hb]
        grind
/-- What is true through phase two. -/
structure In3 (l : Lin) (t : Tab) : Prop where
  s : ∃ L, Shape L t
  v : Vd t
  c : t.cost.length = t.w + 1
  n : t.n = l.C.length
  m : t.m = l.A.length
  wf : WF l.A.length (l.C.length + l.A.length) (Q t)
  e : Eqv l.A.length (Q (begF l)).T (Q t).T
  d : Dif l.A.length (Q (begF l)).T (cE l) (Q t).c
  r : ∀ i, i < l.A.length → l.C.length + l.A.length ≤ (Q t).b i → (Q t).T i (l.C.length + l.A.length) = 0
  z : ∀ i, i < l.A.length → l.C.length + l.A.length ≤ (Q t).b i → ∀ c, c < l.C.length + l.A.length → (Q t).T i c = 0
theorem In3.w {t : Tab} (h : In3 l t) : t.w = l.C.length + l.A.length := by unfold Tab.w; rw [h.n, h.m]
theorem s1_in (h : Ok l) {t : Tab} (ht : In2 l l.A.length t) (ho : (s1T t l.C).over = false) : In3 l (s1T t l.C) := by
  obtain ⟨L, hS⟩ := ht.s
  have hw := ht.w
  obtain ⟨h1, h2, h3⟩ := s1_Q h hS ht.n hw (k := t.m) (Nat.le_refl _) ho
  obtain ⟨s1, s2, s3, s4⟩ := s1K_same (t := t) ht.n.symm t.m
  have hQ : Q (s1T t l.C) = _ := h2
  rw [ht.m] at hQ
  have hTs : (Q (s1T t l.C)).T = (Q t).T := by rw [hQ]
  have hbs : (Q (s1T t l.C)).b = (Q t).b := by rw [hQ]
  refine ⟨⟨_, s1K_shape (K := []) hS ht.n.symm (Nat.le_refl _)⟩, h3 ht.v, ?_, s1.trans ht.n, s2.trans ht.m, ⟨fun i hi hb => ?_, fun i hi hb => ?_, fun i hi => ?_⟩, ?_, ?_, ?_, ?_⟩
  · show (s1K t l.C t.m).cost.length = (s1K t l.C t.m).w + 1
    rw [s3, s1K_w ht.n.symm]
  · rw [hTs, hbs] at *
    exact ht.wf.unit i hi hb
  · rw [hbs] at hb ⊢
    rw [hQ]
    show cE l ((Q t).b i) - Sm l.A.length (fun x => if (Q t).b x < l.C.length then cQ l ((Q t).b x) * (Q t).T x ((Q t).b i) else 0) = 0
    have hpick : Sm l.A.length (fun x => if (Q t).b x < l.C.length then cQ l ((Q t).b x) * (Q t).T x ((Q t).b i) else 0) = if (Q t).b i < l.C.length then cQ l ((Q t).b i) * (Q t).T i ((Q t).b i) else 0 :=
      Sm_pick (f := fun x => if (Q t).b x < l.C.length then cQ l ((Q t).b x) * (Q t).T x ((Q t).b i) else 0) hi (fun x hx hxi => by
        show (if (Q t).b x < l.C.length then cQ l ((Q t).b x) * (Q t).T x ((Q t).b i) else 0) = 0
        rw [ht.wf.unit i hi hb x hx, if_neg hxi]
        split
        · grind
        · rfl)
    rw [hpick, ht.wf.unit i hi hb i hi, if_pos rfl]
    unfold cE
    split <;> grind
  · rw [hTs]
    exact ht.wf.rhs i hi
  · rw [hTs]
    exact ht.e
  · rw [hQ]
    refine Dif.eqv ht.e ?_
    show Sp (Q t).T (Lt l.A.length) (fun k => (cE l k - Sm l.A.length (fun i => if (Q t).b i < l.C.length then cQ l ((Q t).b i) * (Q t).T i k else 0)) - cE l k)
    have gen : ∀ n, n ≤ l.A.length → Sp (Q t).T (Lt l.A.length) (fun k => - Sm n (fun i => if (Q t).b i < l.C.length then cQ l ((Q t).b i) * (Q t).T i k else 0)) := by
      intro n
      induction n with
      | zero => exact fun _ => Sp.zero.eq (fun k => by unfold Sm; grind)
      | succ n ih =>
        intro hn
        refine ((ih (by omega)).add n (if (Q t).b n < l.C.length then - cQ l ((Q t).b n) else 0) (show n < l.A.length by omega)).eq (fun k => ?_)
        show - (Sm n _ + if (Q t).b n < l.C.length then cQ l ((Q t).b n) * (Q t).T n k else 0) = _
        split <;> grind
    exact (gen l.A.length (Nat.le_refl _)).eq (fun k => by grind)
  · rw [hTs, hbs]
    exact ht.r
  · rw [hTs, hbs]
    exact fun i hi hb => ht.z i hi hi hb
theorem In3.step {t u : Tab} (h : In3 l t) (hs : stepF t = .inr u) (ho : u.over = false) : In3 l u := by
  obtain ⟨L, hS⟩ := h.s
  obtain ⟨r, j, hB, hQ, hv⟩ := step_Q hS h.v h.c hs ho
  have hsh := stepF_shape hS
  rw [hs] at hsh
  obtain ⟨k1, k2⟩ := hsh
  rw [h.m, h.w] at hB
  have hp := pos_ne hB.pos
  have keep : ∀ i, i < l.A.length → l.C.length + l.A.length ≤ (pivQ (Q t) r j).b i → i ≠ r ∧ l.C.length + l.A.length ≤ (Q t).b i := fun i hi hb => by
    have hb : _ ≤ (if i = r then j else (Q t).b i) := hb
    by_cases hir : i = r
    · rw [if_pos hir] at hb
      have := hB.jw
      omega
    · rw [if_neg hir] at hb
      exact ⟨hir, hb⟩
  refine ⟨⟨L, k1⟩, hv, by rw [k2.cost, h.c, k2.w], k2.n.trans h.n, k2.m.trans h.m, ?_, ?_, ?_, ?_, ?_⟩
  · rw [hQ]; exact h.wf.piv hB
  · rw [hQ]; exact h.e.trans (Eqv.piv hB.rm hp)
  · rw [hQ]; exact h.d.trans (Dif.eqv h.e (Dif.piv hB.rm hp))
  · rw [hQ]
    intro i hi hb
    obtain ⟨q1, q2⟩ := keep i hi hb
    show (if i = r then _ else _) = 0
    rw [if_neg q1, h.r i hi q2, h.z i hi q2 j hB.jw]
    grind
  · rw [hQ]
    intro i hi hb c hc
    obtain ⟨q1, q2⟩ := keep i hi hb
    show (if i = r then _ else _) = 0
    rw [if_neg q1, h.z i hi q2 c hc, h.z i hi q2 j hB.jw]
    grind
theorem In3.halts {t : Tab} (h : In3 l t) : Halts t := by
  obtain ⟨L, hS⟩ := h.s
  exact Go.Proofs.YtfoipbjhaiimlaaGreatDoor.halts hS h.v h.c (by rw [h.m, h.w]; exact h.wf)
theorem haltsL (h : Ok l) : HaltsL l := ⟨haltsF h, fun ho hb hn => (s1_in h (first_in h ho hb) (by simpa using hn)).halts⟩
/-- Solve answers for each program. -/
theorem pre_solve (h : SmallL l) : PreSolve l := ⟨h, fun hc => haltsL (ok_of hc)⟩
theorem phase2_end (h : Ok l) {t : Tab} (ht : In2 l l.A.length t) (ho : (secondF t l.C).2.over = false) : In3 l (secondF t l.C).2 ∧ stepF (secondF t l.C).2 = .inl (secondF t l.C) := by
  have h1 : (s1T t l.C).over = false := by
    cases hh : (s1T t l.C).over with
    | false => rfl
    | true =>
      unfold secondF at ho
      rw [if_pos hh] at ho
      exact absurd ho (by rw [show (true, s1T t l.C).2 = s1T t l.C from rfl, hh]; decide)
  have hin := s1_in h ht h1
  have e : secondF t l.C = phaseF (s1T t l.C) := if_neg (by rw [h1]; decide)
  rw [e] at ho ⊢
  obtain ⟨r, n, hr⟩ := hin.halts
  rw [phaseF_eq hr] at ho ⊢
  exact runF_ind (P := In3 l) (fun t u ht hs ho => ht.step hs ho) hr hin ho
/-! ### The first system, in words of the program -/
theorem Sm_split (f : Nat → Rat) (n : Nat) : ∀ m, Sm (n + m) f = Sm n f + Sm m (fun i => f (n + i))
  | 0 => by rw [Nat.add_zero]; unfold Sm; grind
  | m + 1 => by
    show Sm (n + m) f + f (n + m) = _ + (Sm m _ + _)
    rw [Sm_split f n m]
    grind
theorem val_T0 (h : Ok l) {i : Nat} (hi : i < l.A.length) (z : Nat → Rat) : val (l.C.length + l.A.length) ((Q (begF l)).T i) z = sg l i * (Sm l.C.length (fun k => aQ l i k * z k) - z (l.C.length + i) - bQ l i) := by
  unfold val
  rw [Sm_split, Sm_congr (n := l.C.length) (g := fun k => sg l i * (aQ l i k * z k)) (fun k hk => by
    rw [beg_T h hi (by omega)]
    unfold T0
    rw [if_pos hk]
    grind), Sm_mul, Sm_pick (f := fun x => (Q (begF l)).T i (l.C.length + x) * z (l.C.length + x)) hi (fun x hx hxi => by
    show (Q (begF l)).T i (l.C.length + x) * z (l.C.length + x) = 0
    rw [beg_T h hi (by omega)]
    unfold T0
    rw [if_neg (by omega), if_neg (by omega), if_neg (by omega)]
    grind), beg_T h hi (by omega), beg_T h hi (by omega)]
  unfold T0
  rw [if_neg (by omega), if_pos rfl, if_neg (by omega), if_neg (by omega), if_pos rfl]
  grind
theorem sg_ne (l : Lin) (i : Nat) : sg l i ≠ 0 := by unfold sg; split <;> decide
structure FeasQ (l : Lin) (x : Nat → Rat) : Prop where
  nn : ∀ k, k < l.C.length → 0 ≤ x k
  row : ∀ i, i < l.A.length → bQ l i ≤ Sm l.C.length (fun k => aQ l i k * x k)
theorem sol_of (h : Ok l) {x : Nat → Rat} (hx : FeasQ l x) : ∃ z : Nat → Rat, (∀ k, k < l.C.length → z k = x k) ∧ (∀ k, k < l.C.length + l.A.length → 0 ≤ z k) ∧ Sol l.A.length (l.C.length + l.A.length) (Q (begF l)).T z := by
  obtain ⟨z, hz⟩ : ∃ z : Nat → Rat, z = fun k => if k < l.C.length then x k else Sm l.C.length (fun j => aQ l (k - l.C.length) j * x j) - bQ l (k - l.C.length) := ⟨_, rfl⟩
  have h1 : ∀ k, k < l.C.length → z k = x k := fun k hk => by rw [hz]; exact if_pos hk
  have h2 : ∀ i, z (l.C.length + i) = Sm l.C.length (fun j => aQ l i j * x j) - bQ l i := fun i => by
    rw [hz]
    show (if l.C.length + i < l.C.length then _ else _) = _
    rw [if_neg (by omega), show l.C.length + i - l.C.length = i by omega]
  refine ⟨z, h1, fun k hk => ?_, fun i hi => ?_⟩
  · by_cases hkn : k < l.C.length
    · rw [h1 k hkn]; exact hx.nn k hkn
    · have := hx.row (k - l.C.length) (by omega)
      rw [show k = l.C.length + (k - l.C.length) by omega, h2]
      grind
  · rw [val_T0 h hi, h2, Sm_congr (n := l.C.length) (g := fun k => aQ l i k * x k) (fun k hk => by rw [h1 k hk])]
    grind
theorem feas_of (h : Ok l) {z : Nat → Rat} (hz : ∀ k, k < l.C.length + l.A.length → 0 ≤ z k) (hs : Sol l.A.length (l.C.length + l.A.length) (Q (begF l)).T z) : FeasQ l z := by
  refine ⟨fun k hk => hz k (by omega), fun i hi => ?_⟩
  have h1 := hs i hi
  rw [val_T0 h hi] at h1
  have h2 := (Rat.mul_eq_zero.1 h1).resolve_left (sg_ne l i)
  have h3 := hz (l.C.length + i) (by omega)
  grind
theorem val_cE (z : Nat → Rat) : val (l.C.length + l.A.length) (cE l) z = Sm l.C.length (fun k => cQ l k * z k) := by
  unfold val
  rw [Sm_split, Sm_congr (n := l.C.length) (g := fun k => cQ l k * z k) (fun k hk => by unfold cE; rw [if_pos hk]), Sm_congr (n := l.A.length) (g := fun _ => 0) (fun k hk => by unfold cE; rw [if_neg (by omega)]; grind), Sm_zero]
  unfold cE
  rw [if_neg (by omega)]
  grind
/-- A certificate: nonnegative multipliers of the rows. -/
structure Cert (l : Lin) (y : Nat → Rat) (v : Rat) : Prop where
  nn : ∀ i, i < l.A.length → 0 ≤ y i
  col : ∀ k, k < l.C.length → Sm l.A.length (fun i => y i * aQ l i k) ≤ cQ l k
  val : Sm l.A.length (fun i => y i * bQ l i) = v
theorem cert_of (h : Ok l) {c : Nat → Rat} (hd : Dif l.A.length (Q (begF l)).T (cE l) c) (hc : ∀ k, k < l.C.length + l.A.length → 0 ≤ c k) : ∃ y, Cert l y (- c (l.C.length + l.A.length)) := by
  obtain ⟨L, _, hL⟩ := Sp.coef (m := l.A.length) (N := Lt l.A.length) (fun _ h => h) hd
  -- c k = cE k + sum of L i * T0 i k
  have hk : ∀ k, c k = cE l k + Sm l.A.length (fun i => L i * (Q (begF l)).T i k) := fun k => by have := hL k; grind
  refine ⟨fun i => - (L i * sg l i), fun i hi => ?_, fun k hkn => ?_, ?_⟩
  · have h1 := hk (l.C.length + i)
    rw [Sm_pick (f := fun x => L x * (Q (begF l)).T x (l.C.length + i)) hi (fun x hx hxi => by
      show L x * (Q (begF l)).T x (l.C.length + i) = 0
      rw [beg_T h hx (by omega)]
      unfold T0
      rw [if_neg (by omega), if_neg (by omega), if_neg (by omega)]
      grind), beg_T h hi (by omega)] at h1
    unfold T0 cE at h1
    rw [if_neg (by omega), if_neg (by omega), if_pos rfl] at h1
    have h2 := hc (l.C.length + i) (by omega)
    grind
  · have h1 := hk k
    have h2 := hc k (by omega)
    rw [Sm_congr (g := fun i => (-1) * ((- (L i * sg l i)) * aQ l i k)) (fun i hi => by
      rw [beg_T h hi (by omega)]
      unfold T0
      rw [if_pos hkn]
      grind), Sm_mul] at h1
    unfold cE at h1
    rw [if_pos hkn] at h1
    grind
  · have h1 := hk (l.C.length + l.A.length)
    rw [Sm_congr (g := fun i => (-1) * ((- (L i * sg l i)) * bQ l i)) (fun i hi => by
      rw [beg_T h hi (by omega)]
      unfold T0
      rw [if_neg (by omega), if_neg (by omega), if_pos rfl]
      grind), Sm_mul] at h1
    unfold cE at h1
    rw [if_neg (by omega)] at h1
    grind
end
end Go.Proofs.YtfoipbjhaiimlaaGreatDoor


/-
  layer 30: Solve's answers over the rational numbers.
-/
namespace Go.Proofs.YtfoipbjhaiimlaaGreatDoor
open Go.RowKit
set_option linter.unusedSimpArgs false
set_option linter.unusedVariables false

section
variable {l : Lin}
def XQ (x : List Fr) (k : Nat) : Rat := V (ix x k)
theorem xK_V {t : Tab} (h : In3 l t) : ∀ {k : Nat}, k ≤ l.A.length → (∀ c, c < l.C.length → ValidF (ix (xK t k) c) ∧ V (ix (xK t k) c) = Sm k (fun i => if (Q t).b i = c then (Q t).T i (l.C.length + l.A.length) else 0))
  | 0, _, c, hc => by
    have e : xK t 0 = List.replicate t.n F01 := rfl
    rw [e, ix_rep (by rw [h.n]; exact hc)]
    exact ⟨valid_01, by rw [V_01]; rfl⟩
  | k + 1, hk, c, hc => by
    obtain ⟨L, hS⟩ := h.s
    have hb := bas_nn hS k
    obtain ⟨i1, i2⟩ := xK_V h (k := k) (by omega) c hc
    have hbk : (Q t).b k = (ix t.basis k).toNat := rfl
    unfold xK
    show _ ∧ _ = Sm k _ + if (Q t).b k = c then (Q t).T k (l.C.length + l.A.length) else 0
    by_cases hlt : ix t.basis k < t.n
    · rw [if_pos hlt, ix_set (by rw [xK_len]; omega)]
      by_cases hcb : c = (ix t.basis k).toNat
      · rw [if_pos hcb, if_pos (by rw [hbk, hcb])]
        refine ⟨h.v.rows k t.w (by rw [h.m]; omega) (by omega), ?_⟩
        have z : Sm k (fun i => if (Q t).b i = c then (Q t).T i (l.C.length + l.A.length) else 0) = 0 := by
          rw [Sm_congr (g := fun _ => 0) (fun i hi => ?_), Sm_zero]
          rw [if_neg]
          intro e
          have := h.wf.inj (i := i) (i' := k) (by omega) (by omega) (by rw [e]; omega) (by rw [e, hbk, hcb])
          omega
        rw [z, h.w]
        show V _ = 0 + V _
        grind
      · rw [if_neg hcb, if_neg (fun e => hcb (by rw [← e, hbk]))]
        exact ⟨i1, by rw [i2]; grind⟩
    · rw [if_neg hlt, if_neg (fun e => by rw [hbk] at e; rw [h.n] at hlt; omega)]
      exact ⟨i1, by rw [i2]; grind⟩
theorem xF_V {t : Tab} (h : In3 l t) {c : Nat} (hc : c < l.C.length) : ValidF (ix (xF t) c) ∧ XQ (xF t) c = bp l.A.length (l.C.length + l.A.length) (Q t) c := by
  have := xK_V h (Nat.le_refl _) c hc
  unfold xF XQ bp
  rw [h.m]
  exact this
theorem step_inl {t : Tab} {b : Bool} (h : stepF t = .inl (b, t)) (ho : t.over = false) : (b = true ∧ enterF t = none) ∨ (b = false ∧ ∃ j, enterF t = some j ∧ (leavF t j).2 = false ∧ (leavF t j).1 < 0) := by
  unfold stepF at h
  rw [if_neg (by rw [ho]; decide)] at h
  cases he : enterF t with
  | none =>
    rw [he] at h
    injection h with h; injection h with h
    exact .inl ⟨h.symm, rfl⟩
  | some j =>
    rw [he] at h
    simp only at h
    split at h
    · injection h with h; injection h with h1 h2
      rw [← h2] at ho
      simp [orT] at ho
    · rename_i h1
      split at h
      · rename_i h2
        injection h with h; injection h with h3 h4
        exact .inr ⟨h3.symm, j, rfl, by simpa using h1, h2⟩
      · cases h
/-- What Solve's answer says. -/
structure Solved (l : Lin) (x : List Fr) (v : Fr) : Prop where
  len : x.length = l.C.length
  valid : ∀ k, k < l.C.length → ValidF (ix x k)
  vv : ValidF v
  feas : FeasQ l (XQ x)
  val : Sm l.C.length (fun k => cQ l k * XQ x k) = V v
  cert : ∃ y, Cert l y (V v)
structure Ray (l : Lin) (d : Nat → Rat) : Prop where
  nn : ∀ k, k < l.C.length → 0 ≤ d k
  row : ∀ i, i < l.A.length → 0 ≤ Sm l.C.length (fun k => aQ l i k * d k)
  neg : Sm l.C.length (fun k => cQ l k * d k) < 0
inductive Answer (l : Lin) : List Fr × Fr × Int → Prop
  | ok {x : List Fr} {v : Fr} : Solved l x v → Answer l (x, v, 0)
  | none : (¬ ∃ x, FeasQ l x) → Answer l ([], F00, 23)
  | free : (∃ x, FeasQ l x) → (∃ d, Ray l d) → Answer l ([], F00, 19)
  | great : Answer l ([], F00, 24)
theorem In3.sol {t : Tab} (h : In3 l t) : Sol l.A.length (l.C.length + l.A.length) (Q (begF l)).T (bp l.A.length (l.C.length + l.A.length) (Q t)) :=
  Sol.eqv' h.e (bp_sol h.wf h.r)
theorem end_ok (h : Ok l) {t : Tab} (ht : In3 l t) (he : enterF t = none) : Solved l (xF t) (negF (ix t.cost t.w)) := by
  have hcv : ∀ k, k < t.w + 1 → ValidF (ix t.cost k) := fun k hk => cost_valid ht.v ht.c hk
  have hw := ht.w
  have hx : ∀ k, k < l.C.length → XQ (xF t) k = bp l.A.length (l.C.length + l.A.length) (Q t) k := fun k hk => (xF_V ht hk).2
  have hfeas := feas_of h (fun k _ => bp_nonneg ht.wf k) ht.sol
  have hV : V (negF (ix t.cost t.w)) = - (Q t).c (l.C.length + l.A.length) := by
    rw [neg_val (hcv _ (by omega)), hw]
    rfl
  have hc0 : ∀ k, k < l.C.length + l.A.length → 0 ≤ (Q t).c k := fun k hk => by
    have h1 := entK_none (t := t) (k := t.w) he k (by omega)
    rw [V_neg_iff (hcv k (by omega))] at h1
    show 0 ≤ V (ix t.cost k)
    grind
  refine ⟨?_, fun k hk => (xF_V ht hk).1, valid_neg (hcv _ (by omega)), ⟨fun k hk => ?_, fun i hi => ?_⟩, ?_, ?_⟩
  · show (xK t t.m).length = _
    rw [xK_len, ht.n]
  · rw [hx k hk]; exact hfeas.nn k hk
  · rw [Sm_congr (g := fun k => aQ l i k * bp l.A.length (l.C.length + l.A.length) (Q t) k) (fun k hk => by rw [hx k hk])]
    exact hfeas.row i hi
  · rw [hV, Sm_congr (g := fun k => cQ l k * bp l.A.length (l.C.length + l.A.length) (Q t) k) (fun k hk => by rw [hx k hk]), ← val_cE, ← ht.d.same ht.sol]
    exact bp_cost ht.wf
  · rw [hV]
    exact cert_of h ht.d hc0
theorem end_free (h : Ok l) {t : Tab} (ht : In3 l t) {j : Nat} (he : enterF t = some j) (h1 : (leavF t j).2 = false) (h2 : (leavF t j).1 < 0) : (∃ x, FeasQ l x) ∧ ∃ d, Ray l d := by
  have hw := ht.w
  obtain ⟨L, hS⟩ := ht.s
  have hcv : ∀ k, k < t.w + 1 → ValidF (ix t.cost k) := fun k hk => cost_valid ht.v ht.c hk
  have hj := entK_lt he
  obtain ⟨e1, e2⟩ := entK_some he
  have hcj : (Q t).c j < 0 := (V_neg_iff (hcv j (by omega))).1 e1
  have hneg : ∀ i, i < l.A.length → (Q t).T i j ≤ 0 := fun i hi => by
    rcases leav_best h1 with ⟨_, h3⟩ | ⟨r, low, h3, _⟩
    · have h4 := h3 i (by rw [ht.m]; exact hi)
      rw [V_pos_iff (ht.v.rows i j (by rw [ht.m]; exact hi) (by omega))] at h4
      show V _ ≤ 0
      grind
    · omega
  have hj' : j < l.C.length + l.A.length := by omega
  refine ⟨⟨_, feas_of h (fun k _ => bp_nonneg ht.wf k) ht.sol⟩, ray l.A.length (l.C.length + l.A.length) (Q t) j, ?_⟩
  have hnn := ray_nonneg (m := l.A.length) ht.wf hj' hneg hcj
  have hsol := ray_sol ht.wf hj' (fun i hi hb => ht.z i hi hb j hj')
  have hray := ray_cost ht.wf hj'
  generalize ray l.A.length (l.C.length + l.A.length) (Q t) j = d at *
  -- homogeneous: the same with the right sides struck
  obtain ⟨W, hW⟩ : ∃ W, W = l.C.length + l.A.length := ⟨_, rfl⟩
  have hom : ∀ f : Nat → Rat, Sp (Q t).T (Lt l.A.length) f → Sm W (fun k => f k * d k) = 0 := fun f hf => by
    induction hf with
    | zero => rw [Sm_congr (g := fun _ => 0) (fun k _ => by grind), Sm_zero]
    | @add f i a hi _ ih =>
      have e : Sm W (fun k => (f k + a * (Q t).T i k) * d k) = Sm W (fun k => f k * d k) + Sm W (fun k => a * ((Q t).T i k * d k)) := by
        rw [← Sm_add]
        exact Sm_congr (fun k _ => by grind)
      rw [e, ih, Sm_mul, hW, hsol i hi]
      grind
  have h0 : ∀ i, i < l.A.length → Sm W (fun k => (Q (begF l)).T i k * d k) = 0 := fun i hi => hom _ (ht.e.back i hi)
  have hc : Sm W (fun k => cE l k * d k) < 0 := by
    have h3 := hom _ (Sp.trans (N := Lt l.A.length) ht.e.back ht.d)
    have e : Sm W (fun k => ((Q t).c k - cE l k) * d k) = Sm W (fun k => (Q t).c k * d k) + Sm W (fun k => (-1) * (cE l k * d k)) := by
      rw [← Sm_add]
      exact Sm_congr (fun k _ => by grind)
    rw [e, Sm_mul] at h3
    have h4 : Sm W (fun k => (Q t).c k * d k) = (Q t).c j := by rw [hW]; exact hray
    rw [h4] at h3
    grind
  subst hW
  refine ⟨fun k hk => hnn k, fun i hi => ?_, ?_⟩
  · have h3 := h0 i hi
    rw [Sm_split, Sm_congr (n := l.C.length) (g := fun k => sg l i * (aQ l i k * d k)) (fun k hk => by
      rw [beg_T h hi (by omega)]
      unfold T0
      rw [if_pos hk]
      grind), Sm_mul, Sm_pick (f := fun x => (Q (begF l)).T i (l.C.length + x) * d (l.C.length + x)) hi (fun x hx hxi => by
      show (Q (begF l)).T i (l.C.length + x) * d (l.C.length + x) = 0
      rw [beg_T h hi (by omega)]
      unfold T0
      rw [if_neg (by omega), if_neg (by omega), if_neg (by omega)]
      grind), beg_T h hi (by omega)] at h3
    unfold T0 at h3
    rw [if_neg (by omega), if_pos rfl] at h3
    have h4 : sg l i * (Sm l.C.length (fun k => aQ l i k * d k) - d (l.C.length + i)) = 0 := by grind
    have h5 := (Rat.mul_eq_zero.1 h4).resolve_left (sg_ne l i)
    have h6 := hnn (l.C.length + i)
    grind
  · rw [Sm_split, Sm_congr (n := l.C.length) (g := fun k => cQ l k * d k) (fun k hk => by unfold cE; rw [if_pos hk]), Sm_congr (n := l.A.length) (g := fun _ => 0) (fun k hk => by unfold cE; rw [if_neg (by omega)]; grind), Sm_zero] at hc
    grind
theorem no_feas (h : Ok l) (ho1 : (f1T (begF l)).over = false) (ho : (phaseF (f1T (begF l))).2.over = false) (hb : ¬ anyK (begF l).m (artP (begF l)) = false) (hn : (ix (phaseF (f1T (begF l))).2.cost (begF l).w).N < 0) : ¬ ∃ x, FeasQ l x := by
  rintro ⟨x, hx⟩
  obtain ⟨z, hz1, hz2, hz3⟩ := sol_of h hx
  have hi := phase1_end h ho1 ho
  obtain ⟨r, n, hr⟩ := (f1_in h ho1).halts
  rw [phaseF_eq hr] at ho hn hi
  have hst := (runF_ind (P := In1 l) (fun t u ht hs ho => ht.step hs ho) hr (f1_in h ho1) ho).2
  obtain ⟨b, t⟩ := r
  simp only at hst hi ho hn
  have hw := hi.w
  have hcv : ∀ k, k < t.w + 1 → ValidF (ix t.cost k) := fun k hk => cost_valid hi.v hi.c hk
  have hcw : (Q t).c (l.C.length + l.A.length) < 0 := by
    rw [beg_w, ← hw, V_neg_iff (hcv _ (by omega))] at hn
    rw [← hw]
    exact hn
  have hs := Sol.eqv hi.e hz3
  -- the costs are a sum of rows
  have hval : Go.Proofs.YtfoipbjhaiimlaaGreatDoor.val (l.C.length + l.A.length) (Q t).c z = 0 := by
    refine val_sp (N := Lt l.A.length) hs (T := (Q t).T) ?_
    have gen : ∀ n, n ≤ l.A.length → Sp (Q t).T (Lt l.A.length) (fun k => - Sm n (fun i => if l.C.length + l.A.length ≤ (Q t).b i then (Q t).T i k else 0)) := by
      intro n
      induction n with
      | zero => exact fun _ => Sp.zero.eq (fun k => by unfold Sm; grind)
      | succ n ih =>
        intro hn
        refine ((ih (by omega)).add n (if l.C.length + l.A.length ≤ (Q t).b n then - 1 else 0) (show n < l.A.length by omega)).eq (fun k => ?_)
        show - (Sm n _ + if l.C.length + l.A.length ≤ (Q t).b n then (Q t).T n k else 0) = _
        split <;> grind
    exact (gen l.A.length (Nat.le_refl _)).eq (fun k => hi.p1 k)
  rcases step_inl hst ho with ⟨_, he⟩ | ⟨_, j, he, h1, h2⟩
  · have hc0 : ∀ k, k < l.C.length + l.A.length → 0 ≤ (Q t).c k := fun k hk => by
      have h1 := entK_none (t := t) (k := t.w) he k (by omega)
      rw [V_neg_iff (hcv k (by omega))] at h1
      show 0 ≤ V (ix t.cost k)
      grind
    have h3 : 0 ≤ Sm (l.C.length + l.A.length) (fun k => (Q t).c k * z k) := Sm_nonneg fun k hk => Rat.mul_nonneg (hc0 k hk) (hz2 k hk)
    unfold Go.Proofs.YtfoipbjhaiimlaaGreatDoor.val at hval
    grind
  · -- a column with costs below zero has a positive element in a row with an artificial variable
    have hj := entK_lt he
    obtain ⟨e1, e2⟩ := entK_some he
    have hcj : (Q t).c j < 0 := (V_neg_iff (hcv j (by omega))).1 e1
    have h3 := hi.p1 j
    have h4 : 0 < artS l.A.length (l.C.length + l.A.length) (Q t) j := by grind
    obtain ⟨i, hil, hip⟩ := Sm_pos h4
    have hip : 0 < (if l.C.length + l.A.length ≤ (Q t).b i then (Q t).T i j else 0) := hip
    split at hip
    · rcases leav_best h1 with ⟨_, h5⟩ | ⟨r, low, h5, _⟩
      · have h6 := h5 i (by rw [hi.m]; exact hil)
        rw [V_pos_iff (hi.v.rows i j (by rw [hi.m]; exact hil) (by omega))] at h6
        exact h6 hip
      · omega
    · exact Rat.lt_irrefl hip
theorem solve_answer (hc : checkF l = 0) : Answer l (solveF l) := by
  have h := ok_of hc
  unfold solveF
  rw [if_neg (fun e => e hc)]
  by_cases h1 : (firstF (begF l)).2.over = true
  · rw [if_pos h1]; exact .great
  rw [if_neg h1]
  have h1 : (firstF (begF l)).2.over = false := by simpa using h1
  by_cases h2 : (firstF (begF l)).1 = false
  · rw [if_pos h2]
    refine .none ?_
    unfold firstF at h1 h2
    by_cases q1 : anyK (begF l).m (artP (begF l)) = false ∨ (f1T (begF l)).over = true
    · rw [if_pos q1] at h2; cases h2
    rw [if_neg q1] at h1 h2
    by_cases q2 : (phaseF (f1T (begF l))).2.over = true
    · rw [if_pos q2] at h2; cases h2
    rw [if_neg q2] at h1 h2
    by_cases q3 : (ix (phaseF (f1T (begF l))).2.cost (begF l).w).N < 0
    · exact no_feas h (by
        cases hh : (f1T (begF l)).over with
        | false => rfl
        | true => exact absurd (.inr hh) q1) (by simpa using q2) (fun e => q1 (.inl e)) q3
    · rw [if_neg q3] at h2; cases h2
  rw [if_neg h2]
  have h2 : (firstF (begF l)).1 = true := by simpa using h2
  have hin := first_in h h1 h2
  by_cases h3 : (secondF (firstF (begF l)).2 l.C).2.over = true
  · rw [if_pos h3]; exact .great
  rw [if_neg h3]
  have h3 : (secondF (firstF (begF l)).2 l.C).2.over = false := by simpa using h3
  obtain ⟨k1, k2⟩ := phase2_end h hin h3
  generalize secondF (firstF (begF l)).2 l.C = s at *
  obtain ⟨b, t⟩ := s
  simp only at *
  rcases step_inl k2 h3 with ⟨rfl, he⟩ | ⟨rfl, j, he, q1, q2⟩
  · rw [if_neg (by decide)]
    exact .ok (end_ok h k1 he)
  · rw [if_pos rfl]
    obtain ⟨f1, f2⟩ := end_free h k1 he q1 q2
    exact .free f1 f2
end
end Go.Proofs.YtfoipbjhaiimlaaGreatDoor


/-
  layer 30: SimplexDuality.
-/
namespace Go.Proofs.YtfoipbjhaiimlaaGreatDoor
open Go.RowKit
set_option linter.unusedSimpArgs false
set_option linter.unusedVariables false
set_option maxRecDepth 100000

section
variable {l : Lin}
structure DualQ (l : Lin) : Prop where
  n : (dualL l).C.length = l.A.length
  m : (dualL l).A.length = l.C.length
  a : ∀ j i, j < l.C.length → i < l.A.length → aQ (dualL l) j i = - aQ l i j
  b : ∀ j, j < l.C.length → bQ (dualL l) j = - cQ l j
  c : ∀ i, i < l.A.length → cQ (dualL l) i = - bQ l i
structure DualAns (l : Lin) (p q : List Fr × Fr × Int) : Prop where
  both : p.2.2 = 0 → q.2.2 = 0 → p.2.1 = negF q.2.1
  one : p.2.2 = 0 → q.2.2 = 0 ∨ q.2.2 = 24
  two : q.2.2 = 0 → p.2.2 = 0 ∨ p.2.2 = 24
  no : ¬ (p.2.2 = 19 ∧ q.2.2 = 19)
end
end Go.Proofs.YtfoipbjhaiimlaaGreatDoor


/-
  layer 30: SimplexBest.
-/
namespace Go.Proofs.YtfoipbjhaiimlaaGreatDoor
open Go.RowKit
set_option linter.unusedSimpArgs false
set_option linter.unusedVariables false
set_option maxRecDepth 100000

section
variable {l : Lin}
/-- What SimplexBest asks of a solution. -/
structure BestF (l : Lin) (x : List Fr) (v : Fr) : Prop where
  len : x.length = l.C.length
  u : ∀ u, valueF l x = (u, true) → u = v
  xs : ∀ j, j < x.length → ValidF (ix x j) ∧ 0 ≤ (ix x j).N
  r : ∀ i, i < l.A.length → ∀ s, valueF ⟨[], [], ix l.A i⟩ x = (s, true) → 0 ≤ cmpF s (ix l.B i)
  y : ∀ y w, valueF l y = (w, true) → feasB l y = true → cmpF v w ≤ 0
end
end Go.Proofs.YtfoipbjhaiimlaaGreatDoor


/-
  cover: hypergraphs as plain values. Printed by wip/enc.py.
-/
namespace Go.Proofs.YtfoipbjhaiimlaaGreatDoor
open Go.RowKit
set_option linter.unusedSimpArgs false
set_option linter.unusedVariables false

structure Hy where
  N : Int
  E : List (List Int)
instance : Inhabited Hy := ⟨⟨0, []⟩⟩
@[simp] theorem Hy.eta (x : Hy) : Hy.mk x.N x.E = x := rfl
def Hy.cells (x : Hy) : List AV := [.int .i64 x.N, .slice 1 false (encRows x.E)]
def Hy.unc (c : List AV) : Hy :=
  match c with
  | [.int _ a0, .slice _ _ a1] => ⟨a0, (a1.map Enc.unc)⟩
  | _ => default
theorem Hy.unc_cells (x : Hy) : Hy.unc x.cells = x := by
  cases x
  simp only [Hy.cells, Hy.unc, map_unc]
instance : Enc Hy where
  sz := 2
  cells := Hy.cells
  enc x := .agg x.cells
  unc := Hy.unc
  dec v := match v with | .agg c => Hy.unc c | _ => default
  unc_cells := Hy.unc_cells
  dec_enc x := Hy.unc_cells x
@[simp] theorem sz_Hy : Enc.sz Hy = 2 := rfl
@[simp] theorem cells_Hy (x : Hy) : Enc.cells x = [.int .i64 x.N, .slice 1 false (encRows x.E)] := rfl
@[simp] theorem enc_Hy (x : Hy) : Enc.enc x = .agg [.int .i64 x.N, .slice 1 false (encRows x.E)] := rfl
@[simp] theorem unc_Hy (k0 : IntKind) (a0 : Int) (s1 : Nat) (f1 : Bool) (a1 : List (List AV)) : (Enc.unc [.int k0 a0, .slice s1 f1 a1] : Hy) = ⟨a0, (Enc.dec (.slice s1 f1 a1))⟩ := rfl
@[simp] theorem dec_Hy (l : List AV) : (Enc.dec (.agg l) : Hy) = Enc.unc l := rfl

end Go.Proofs.YtfoipbjhaiimlaaGreatDoor


/-
  layer 30: SimplexBest, the law.
-/
namespace Go.Proofs.YtfoipbjhaiimlaaGreatDoor
open Go.RowKit
set_option linter.unusedSimpArgs false
set_option linter.unusedVariables false
set_option maxRecDepth 100000

end Go.Proofs.YtfoipbjhaiimlaaGreatDoor


/-
  nat: numbers and their limbs, plainly.
-/
namespace Go.Proofs.YtfoipbjhaiimlaaGreatDoor.Nt
open Go.RowKit

set_option linter.unusedVariables false
def B9 : Nat := 1000000000
def val : List Int → Nat
  | [] => 0
  | x :: r => x.toNat + B9 * val r
def canon (n : Nat) : List Int := if h : n = 0 then [] else ((n % B9 : Nat) : Int) :: canon (n / B9)
termination_by n
decreasing_by exact Nat.div_lt_self (Nat.pos_of_ne_zero h) (show 1 < B9 by decide)

def validR (a : List Int) : Bool := decide (a.length ≤ 64 ∧ (∀ x ∈ a, 0 ≤ x ∧ x < 1000000000) ∧ (a ≠ [] → ix a (a.length - 1) ≠ 0))
def Good (l : List Int) : Prop := ∀ x ∈ l, 0 ≤ x ∧ x < 1000000000
def Norm (l : List Int) : Prop := l ≠ [] → ix l (l.length - 1) ≠ 0

theorem validR_iff {a : List Int} : validR a = true ↔ a.length ≤ 64 ∧ Good a ∧ Norm a := by simp only [validR, decide_eq_true_eq]; rfl
/-- The number as it is taken: none when it is not one. -/
def numL (a : List Int) : List Int := if validR a then a else []
theorem numL_len (a : List Int) : (numL a).length ≤ 64 := by
  unfold numL; split
  · rename_i h; exact (validR_iff.1 h).1
  · simp
theorem Good.tail {x : Int} {l : List Int} (h : Good (x :: l)) : Good l := fun y hy => h y (List.mem_cons_of_mem _ hy)
theorem Good.head {x : Int} {l : List Int} (h : Good (x :: l)) : 0 ≤ x ∧ x < 1000000000 := h x (by simp)
theorem good_nil : Good [] := fun x hx => by simp at hx
theorem good_cons {x : Int} {l : List Int} (h : 0 ≤ x ∧ x < 1000000000) (hl : Good l) : Good (x :: l) := fun y hy => by
  rcases List.mem_cons.1 hy with h' | h'
  · subst h'; exact h
  · exact hl y h'
theorem good_take {l : List Int} (n : Nat) (h : Good l) : Good (l.take n) := fun y hy => h y (List.mem_of_mem_take hy)

theorem canon_zero : canon 0 = [] := by rw [canon]; simp
theorem canon_pos {n : Nat} (h : n ≠ 0) : canon n = ((n % B9 : Nat) : Int) :: canon (n / B9) := by rw [canon]; simp [h]

theorem val_append : ∀ (l m : List Int), val (l ++ m) = val l + B9 ^ l.length * val m
  | [], m => by simp [val]
  | x :: r, m => by
    rw [List.cons_append, val, val, val_append r m, List.length_cons, Nat.pow_succ, Nat.mul_add, Nat.add_assoc]
    congr 2
    rw [Nat.mul_comm (B9 ^ r.length) B9, Nat.mul_assoc]

theorem val_lt : ∀ {l : List Int}, Good l → val l < B9 ^ l.length
  | [], _ => by simp [val]
  | x :: r, h => by
    have h1 := h.head
    have h2 := val_lt h.tail
    rw [val, List.length_cons, Nat.pow_succ]
    have h3 : B9 * val r + B9 ≤ B9 * B9 ^ r.length := by rw [← Nat.mul_succ]; exact Nat.mul_le_mul_left _ h2
    have h4 : x.toNat < B9 := by unfold B9; omega
    rw [Nat.mul_comm (B9 ^ r.length)]
    omega

theorem canon_good : ∀ (n : Nat), Good (canon n) := by
  intro n
  induction n using Nat.strongRecOn with
  | _ n ih =>
    by_cases h : n = 0
    · subst h; rw [canon_zero]; exact good_nil
    · rw [canon_pos h]
      refine good_cons ?_ (ih _ (Nat.div_lt_self (Nat.pos_of_ne_zero h) (show 1 < B9 by decide)))
      have : n % B9 < B9 := Nat.mod_lt _ (by decide)
      unfold B9 at this ⊢
      omega

theorem val_canon (n : Nat) : val (canon n) = n := by
  induction n using Nat.strongRecOn with
  | _ n ih =>
    by_cases h : n = 0
    · subst h; rw [canon_zero]; rfl
    · rw [canon_pos h, val, ih _ (Nat.div_lt_self (Nat.pos_of_ne_zero h) (show 1 < B9 by decide))]
      have := Nat.mod_add_div n B9
      omega

theorem norm_tail {x y : Int} {r : List Int} (h : Norm (x :: y :: r)) : Norm (y :: r) := fun _ => by
  have := h (by simp)
  simpa [ix] using this

theorem val_pos : ∀ {l : List Int}, Good l → Norm l → l ≠ [] → val l ≠ 0
  | [x], hg, hn, _ => by
    have := hg.head
    have h := hn (by simp)
    simp [ix] at h
    simp [val]
    omega
  | x :: y :: r, hg, hn, _ => by
    have := val_pos hg.tail (norm_tail hn) (by simp)
    rw [val]
    have : B9 * val (y :: r) ≠ 0 := Nat.mul_ne_zero (by decide) this
    omega

theorem canon_val : ∀ {l : List Int}, Good l → Norm l → canon (val l) = l
  | [], _, _ => canon_zero
  | x :: r, hg, hn => by
    have h1 := hg.head
    have h4 : x.toNat < B9 := by unfold B9; omega
    rw [canon_pos (val_pos hg hn (by simp)), val]
    have h5 : (x.toNat + B9 * val r) % B9 = x.toNat := by rw [Nat.add_mul_mod_self_left, Nat.mod_eq_of_lt h4]
    have h6 : (x.toNat + B9 * val r) / B9 = val r := by rw [Nat.add_mul_div_left _ _ (by decide), Nat.div_eq_of_lt h4, Nat.zero_add]
    rw [h5, h6]
    have h7 : canon (val r) = r := by
      cases r with
      | nil => exact canon_zero
      | cons y r => exact canon_val hg.tail (norm_tail hn)
    rw [h7]
    congr 1
    omega

theorem numL_good (a : List Int) : Good (numL a) := by
  unfold numL; split
  · rename_i h; exact (validR_iff.1 h).2.1
  · exact good_nil
theorem numL_norm (a : List Int) : Norm (numL a) := by
  unfold numL; split
  · rename_i h; exact (validR_iff.1 h).2.2
  · exact fun h => absurd rfl h
def nv (a : List Int) : Nat := val (numL a)
theorem canon_norm (n : Nat) : Norm (canon n) := by
  induction n using Nat.strongRecOn with
  | _ n ih =>
    by_cases h : n = 0
    · subst h; rw [canon_zero]; exact fun h => absurd rfl h
    · rw [canon_pos h]
      intro _
      have hi := ih _ (Nat.div_lt_self (Nat.pos_of_ne_zero h) (show 1 < B9 by decide))
      by_cases h' : n / B9 = 0
      · rw [h', canon_zero]
        have : n < B9 := by
          rcases Nat.lt_or_ge n B9 with h | h
          · exact h
          · have := Nat.div_pos h (show 0 < B9 by decide); omega
        simp [ix, Nat.mod_eq_of_lt this, h]
      · rw [canon_pos h'] at hi ⊢
        have := hi (by simp)
        simpa [ix] using this

theorem canon_len : ∀ (k n : Nat), n < B9 ^ k → (canon n).length ≤ k
  | 0, n, h => by
    have : n = 0 := by simpa using h
    subst this; rw [canon_zero]; simp
  | k + 1, n, h => by
    by_cases h0 : n = 0
    · subst h0; rw [canon_zero]; simp
    · rw [canon_pos h0, List.length_cons]
      have := canon_len k (n / B9) (Nat.div_lt_of_lt_mul (by rw [Nat.mul_comm]; rwa [Nat.pow_succ] at h))
      omega

theorem ix_set {l : List Int} {i j : Nat} {v : Int} (h : i < l.length) : ix (l.set i v) j = if i = j then v else ix l j := by
  unfold ix
  rw [List.getD_eq_getElem?_getD, List.getD_eq_getElem?_getD, List.getElem?_set]
  split
  · first | rfl | (rw [if_pos h]; rfl)
  · rfl

theorem val_take_succ {l : List Int} {i : Nat} (h : i < l.length) : val (l.take (i + 1)) = val (l.take i) + B9 ^ i * (ix l i).toNat := by
  rw [List.take_add_one, val_append, List.getElem?_eq_getElem h, ix_lt h]
  simp [val, Nat.min_eq_left (Nat.le_of_lt h)]

theorem val_take_le {l : List Int} {i : Nat} (h : l.length ≤ i) : val (l.take i) = val l := by rw [List.take_of_length_le h]

theorem val_set : ∀ {l : List Int} {k : Nat} {v : Int}, k < l.length → val (l.set k v) + B9 ^ k * (ix l k).toNat = val l + B9 ^ k * v.toNat
  | x :: r, 0, v, _ => by simp [val, ix]; omega
  | x :: r, k + 1, v, h => by
    have := val_set (l := r) (k := k) (v := v) (by simpa using h)
    have e : ix (x :: r) (k + 1) = ix r k := by simp [ix]
    rw [e, List.set_cons_succ, val, val, Nat.pow_succ, Nat.mul_comm (B9 ^ k) B9, Nat.mul_assoc, Nat.mul_assoc]
    have h2 : B9 * (val (r.set k v) + B9 ^ k * (ix r k).toNat) = B9 * (val r + B9 ^ k * v.toNat) := by rw [this]
    rw [Nat.mul_add, Nat.mul_add] at h2
    omega

theorem ix_good {l : List Int} (h : Good l) {i : Nat} (hi : i < l.length) : 0 ≤ ix l i ∧ ix l i < 1000000000 := h _ (ix_mem hi)
theorem ix_out {l : List Int} {i : Nat} (hi : l.length ≤ i) : ix l i = 0 := by unfold ix; rw [List.getD_eq_getElem?_getD, List.getElem?_eq_none hi]; rfl
theorem good_set {l : List Int} {i : Nat} {v : Int} (h : Good l) (hv : 0 ≤ v ∧ v < 1000000000) : Good (l.set i v) := fun x hx => by
  rcases List.mem_or_eq_of_mem_set hx with h' | h'
  · exact h x h'
  · subst h'; exact hv

/-- The top limb weighs what it weighs. -/
theorem val_top {l : List Int} (hg : Good l) (hn : Norm l) (h : l ≠ []) : B9 ^ (l.length - 1) ≤ val l := by
  have h0 : 0 < l.length := List.length_pos_iff.2 h
  have h1 := val_take_succ (l := l) (i := l.length - 1) (by omega)
  rw [Nat.sub_add_cancel h0, List.take_length] at h1
  have h2 := hn h
  have h3 := ix_good hg (i := l.length - 1) (by omega)
  have h4 : 1 ≤ (ix l (l.length - 1)).toNat := by omega
  have h5 := Nat.mul_le_mul_left (B9 ^ (l.length - 1)) h4
  omega
theorem step_mul (vo vo' W on r q x y c V vy Bi Bj B : Nat) (hW : W = Bi * Bj) (e1 : vo' + W * on = vo + W * r) (e2 : r + B * q = on + x * y + c) (h : vo + c * W = V + x * Bi * vy) : vo' + q * (W * B) = V + x * Bi * (vy + Bj * y) := by grind
theorem step_row (vo vo' W on c V x Bi vy vx : Nat) (e1 : vo' + W * on = vo + W * c) (h0 : on = 0) (h : vo + c * W = V * vy + x * Bi * vy) (h1 : vx = V + Bi * x) : vo' = vx * vy := by grind
theorem val_rep (n : Nat) : val (List.replicate n 0) = 0 := by
  induction n with
  | zero => rfl
  | succ n ih => rw [List.replicate_succ, val, ih]; rfl
theorem good_rep (n : Nat) : Good (List.replicate n 0) := fun x hx => by rw [(List.mem_replicate.1 hx).2]; omega
theorem ix_rep (n k : Nat) : ix (List.replicate n (0 : Int)) k = 0 := by
  unfold ix
  rw [List.getD_eq_getElem?_getD, List.getElem?_replicate]
  split <;> rfl
theorem mul_lim {a b : Int} (ha : 0 ≤ a ∧ a < 1000000000) (hb : 0 ≤ b ∧ b < 1000000000) : 0 ≤ a * b ∧ a * b ≤ 999999998000000001 := by
  refine ⟨Int.mul_nonneg ha.1 hb.1, ?_⟩
  have h1 : a * b ≤ 999999999 * b := Int.mul_le_mul_of_nonneg_right (by omega) hb.1
  omega

theorem ix_good' {l : List Int} (h : Good l) (i : Nat) : 0 ≤ ix l i ∧ ix l i < 1000000000 := by
  rcases Nat.lt_or_ge i l.length with hi | hi
  · exact ix_good h hi
  · rw [ix_out hi]; omega
theorem val_take_succ' (l : List Int) (i : Nat) : val (l.take (i + 1)) = val (l.take i) + B9 ^ i * (ix l i).toNat := by
  rcases Nat.lt_or_ge i l.length with hi | hi
  · exact val_take_succ hi
  · rw [ix_out hi, List.take_of_length_le (by omega), List.take_of_length_le hi]; simp
theorem step_add (vo W r q B vx vy xi yi c : Nat) (h : vo + c * W = vx + vy) (e : r + B * q = xi + yi + c) : vo + W * r + q * (W * B) = (vx + W * xi) + (vy + W * yi) := by grind
theorem val_snoc (l : List Int) (x : Int) : val (l ++ [x]) = val l + B9 ^ l.length * x.toNat := by rw [val_append]; simp [val]
theorem B9_le {m n : Nat} (h : m ≤ n) : B9 ^ m ≤ B9 ^ n := Nat.pow_le_pow_right (by decide) h
theorem tmod9 {s : Int} (hs : 0 ≤ s) : s.tmod 1000000000 = s % 1000000000 := Int.tmod_eq_emod_of_nonneg hs
theorem tdiv9 {s : Int} (hs : 0 ≤ s) : s.tdiv 1000000000 = s / 1000000000 := Int.tdiv_eq_ediv_of_nonneg hs

theorem canon_mono {m n : Nat} (h : m ≤ n) : (canon m).length ≤ (canon n).length := canon_len _ _ (by
  have := val_lt (canon_good n)
  rw [val_canon] at this
  omega)
theorem val_lt64 {l : List Int} (hg : Good l) (h : l.length ≤ 64) : val l < B9 ^ 64 := Nat.lt_of_lt_of_le (val_lt hg) (B9_le h)

/-- What comes back of a number that may be too long. -/
def fitT (n : Nat) : AV := .tup [Enc.enc (if (canon n).length ≤ 64 then canon n else []), .bool (decide ((canon n).length ≤ 64))]

theorem fitT_of {n : Nat} {l : List Int} (h : canon n = l) : fitT n = .tup [.slice 1 false (encRows (if l.length ≤ 64 then l else [])), .bool (decide (l.length ≤ 64))] := by rw [fitT, h]; rfl

theorem take_set_succ {α : Type} {l : List α} {i : Nat} {v : α} (h : i < l.length) : (l.set i v).take (i + 1) = l.take i ++ [v] := by
  rw [List.take_add_one, List.getElem?_set_self h, List.take_set_of_le (Nat.le_refl i)]; rfl

theorem take_snoc {α : Type} [Inhabited α] {l : List α} {i : Nat} (h : i < l.length) : l.take (i + 1) = l.take i ++ [ix l i] := by
  rw [List.take_add_one, List.getElem?_eq_getElem h, ix_lt h]; rfl

end Go.Proofs.YtfoipbjhaiimlaaGreatDoor.Nt


/-
  nat: the reference's small functions.
-/
namespace Go.Proofs.YtfoipbjhaiimlaaGreatDoor.Nt
open Go.RowKit
set_option linter.unusedSimpArgs false


noncomputable def C0 : Ctx := mkC Tryz.prog G0 []
theorem C0_P : C0.P = Tryz.prog := rfl
theorem C0_S : C0.S = look [] := rfl
theorem C0_G : C0.G = G0 := rfl
attribute [simp] C0_P C0_S C0_G
theorem sig0 : SigOK C0 := sigOK_nil _ _
theorem mix0 : C0.P.follows .mixedOrders = true := mixed

end Go.Proofs.YtfoipbjhaiimlaaGreatDoor.Nt


/-
  nat: the reference's functions, second part.
-/
namespace Go.Proofs.YtfoipbjhaiimlaaGreatDoor.Nt
open Go.RowKit
set_option linter.unusedSimpArgs false
set_option linter.unusedVariables false

noncomputable def C1 : Ctx := mkC Tryz.prog G0 []
@[simp] theorem C1_P : C1.P = Tryz.prog := rfl
@[simp] theorem C1_G : C1.G = G0 := rfl
theorem mixC1 : C1.P.follows .mixedOrders = true := mixed
theorem sigC1 : SigOK C1 := sigOK_nil _ _

set_option maxHeartbeats 1000000 in
theorem same13 : PureOK Tryz.prog G0 22 (spec2 (fun (a b : List Int) => a.length ≤ 1000000 ∧ b.length ≤ 1000000) (fun a b => .bool (decide (a = b)))) := by
  refine pure2 (C := C1) sigC1 mixC1 Tryz.func22 rfl rfl rfl (by kernel_rfl) (by decide) (fun a b ⟨ha, hb⟩ => ?_)
  by_cases hl : a.length = b.length
  · simp [hl]
    refine loop_rule (C := C1) sigC1 mixC1 (fun i : Nat => ⟨[(0, Enc.enc a), (1, Enc.enc b), (5, .int .i64 i)], []⟩) (fun i => i ≤ a.length ∧ a.take i = b.take i) (fun i => a.length - i) (by kernel_rfl) ⟨0, by simp, weak_slots (by simp)⟩ (fun i ⟨hi, he⟩ => ?_)
    by_cases h1 : i < a.length
    · have h2 : i < b.length := by omega
      by_cases h3 : ix a i = ix b i
      · have i1 : I64 ((i : Int) + 1) := by unfold I64; omega
        simp [h1, h2, rowAt_enc h1, rowAt_enc h2, h3, i1]
        refine ⟨i + 1, ⟨by omega, ?_⟩, by omega, weak_slots (by simp)⟩
        rw [take_snoc h1, take_snoc h2, he, h3]
      · simp [h1, h2, rowAt_enc h1, rowAt_enc h2, h3]
        rintro rfl
        exact h3 rfl
    · simp [h1]
      rw [List.take_of_length_le (by omega), List.take_of_length_le (by omega)] at he
      exact he
  · have hl' : ¬ (a.length : Int) = b.length := by omega
    simp [hl']
    rintro rfl
    exact hl rfl

end Go.Proofs.YtfoipbjhaiimlaaGreatDoor.Nt


/-
  nat: the reference's functions, third part.
-/
namespace Go.Proofs.YtfoipbjhaiimlaaGreatDoor.Nt
open Go.RowKit
set_option linter.unusedSimpArgs false
set_option linter.unusedVariables false

def s13 : List AV → Option (Prop × AV) := spec2 (fun (a b : List Int) => a.length ≤ 1000000 ∧ b.length ≤ 1000000) (fun a b => .bool (decide (a = b)))
def cmpN (m n : Nat) : Int := if m < n then -1 else if m = n then 0 else 1

theorem val_split {l : List Int} {i : Nat} (h : i < l.length) : val l = val (l.take i) + B9 ^ i * (ix l i).toNat + B9 ^ (i + 1) * val (l.drop (i + 1)) := by
  have := val_append (l.take (i + 1)) (l.drop (i + 1))
  rw [List.take_append_drop, List.length_take, Nat.min_eq_left h] at this
  rw [this, val_take_succ h]

theorem cmp_lt {x y : List Int} {i : Nat} (hx : Good x) (hy : Good y) (h1 : i < x.length) (h2 : i < y.length) (hd : x.drop (i + 1) = y.drop (i + 1)) (h : ix x i < ix y i) : val x < val y := by
  rw [val_split h1, val_split h2, hd]
  have h3 := val_lt (good_take i hx)
  rw [List.length_take, Nat.min_eq_left (Nat.le_of_lt h1)] at h3
  have hxi := ix_good hx h1
  have h4 : (ix x i).toNat + 1 ≤ (ix y i).toNat := by omega
  have h5 := Nat.mul_le_mul_left (B9 ^ i) h4
  rw [Nat.mul_add] at h5
  omega

theorem len_lt {x y : List Int} (hx : Good x) (hy : Good y) (hyn : Norm y) (h : x.length < y.length) : val x < val y := by
  have h1 := val_lt hx
  have h2 := val_top hy hyn (fun e => by rw [e] at h; simp at h)
  have h3 : B9 ^ x.length ≤ B9 ^ (y.length - 1) := Nat.pow_le_pow_right (by decide) (by omega)
  omega

theorem drop_eq {x : List Int} {i : Nat} (h : i < x.length) : x.drop i = ix x i :: x.drop (i + 1) := by rw [List.drop_eq_getElem_cons h, ix_lt h]

end Go.Proofs.YtfoipbjhaiimlaaGreatDoor.Nt


/-
  nat: the reference's functions, fourth part.
-/
namespace Go.Proofs.YtfoipbjhaiimlaaGreatDoor.Nt
open Go.RowKit
set_option linter.unusedSimpArgs false
set_option linter.unusedVariables false

end Go.Proofs.YtfoipbjhaiimlaaGreatDoor.Nt


/-
  nat: the reference's functions, fifth part.
-/
namespace Go.Proofs.YtfoipbjhaiimlaaGreatDoor.Nt
open Go.RowKit
set_option linter.unusedSimpArgs false
set_option linter.unusedVariables false

theorem cmpN_le {m n : Nat} : cmpN m n ≤ 0 ↔ m ≤ n := by
  unfold cmpN
  split
  · constructor <;> intro <;> omega
  · split
    · constructor <;> intro <;> omega
    · constructor <;> intro <;> omega
def powT (v : Nat) (k : Int) : AV := if k < 0 then .tup [.slice 1 false [], .bool false] else fitT (v ^ k.toNat)

theorem powT_neg {v : Nat} {k : Int} (h : k < 0) : powT v k = .tup [.slice 1 false [], .bool false] := by rw [powT, if_pos h]
theorem powT_of {v : Nat} {k : Int} {l : List Int} (h : ¬ k < 0) (hl : canon (v ^ k.toNat) = l) : powT v k = .tup [.slice 1 false (encRows (if l.length ≤ 64 then l else [])), .bool (decide (l.length ≤ 64))] := by rw [powT, if_neg h, fitT_of hl]

theorem canon_one : canon 1 = [1] := by rw [canon_pos (by decide)]; simp [B9, canon_zero]

end Go.Proofs.YtfoipbjhaiimlaaGreatDoor.Nt


/-
  nat: the program's functions.
-/
namespace Go.Proofs.YtfoipbjhaiimlaaGreatDoor.Nt
open Go.RowKit
set_option linter.unusedSimpArgs false
set_option linter.unusedVariables false

set_option maxHeartbeats 1000000 in
theorem valid26 : PureOK Tryz.prog G0 124 (spec1 (fun a : List Int => a.length ≤ 1000000) (fun a => .bool (validR a))) := by
  refine pure1 (C := C0) sig0 mix0 Tryz.func124 rfl rfl rfl (by kernel_rfl) (by decide) (fun a ha => ?_)
  simp
  refine both_intro (fun h => ?_) (fun h => ?_)
  · simp at h
    simp [validR]
    omega
  simp at h
  simp
  refine loop_rule (C := C0) sig0 mix0 (fun i : Nat => ⟨[(0, Enc.enc a), (8, Enc.enc a), (9, .int .i64 a.length), (10, .int .i64 i)], []⟩) (fun i => i ≤ a.length ∧ ∀ j < i, 0 ≤ ix a j ∧ ix a j < 1000000000) (fun i => a.length - i) (by kernel_rfl) ⟨0, by simp, weak_slots (by simp)⟩ (fun i ⟨hi, hb⟩ => ?_)
  simp
  by_cases h1 : i < a.length
  · have hm := ix_mem h1
    by_cases h2 : ix a i < 0
    · simp [rowAt_enc h1, h1, h2]
      refine decide_eq_false fun h => ?_
      have := h.2.1 _ hm; omega
    · by_cases h3 : ix a i ≥ 1000000000
      · simp [rowAt_enc h1, h1, h2, h3]
        refine decide_eq_false fun h => ?_
        have := h.2.1 _ hm; omega
      · have i1 : I64 ((i : Int) + 1) := by unfold I64; omega
        simp [rowAt_enc h1, h1, h2, h3, i1]
        refine ⟨i + 1, ⟨by omega, fun j hj => ?_⟩, by omega, weak_slots (by simp)⟩
        rcases Nat.lt_or_eq_of_le (Nat.le_of_lt_succ hj) with h | h
        · exact hb j h
        · subst h; omega
  · have hall : ∀ x ∈ a, 0 ≤ x ∧ x < 1000000000 := fun x hx => by
      obtain ⟨j, hj, rfl⟩ := List.mem_iff_getElem.1 hx
      have := hb j (by omega)
      rwa [ix_lt hj] at this
    by_cases h2 : a = []
    · subst h2
      simp [validR]
    · have h0 : a.length ≠ 0 := fun h => h2 (List.length_eq_zero_iff.1 h)
      have h3 : a.length - 1 < a.length := by omega
      have h4 : ((a.length : Int) - 1).toNat = a.length - 1 := by omega
      have h5 : I64 ((a.length : Int) - 1) := by unfold I64; omega
      simp [h1, h2, h4, rowAt_enc h3, h5]
      refine ⟨by omega, ?_⟩
      by_cases h6 : ix a (a.length - 1) = 0
      · simp [validR, h6, h2]
      · simp [validR, h6, h2, hall]
        exact ⟨by omega, hall⟩

def s26 : List AV → Option (Prop × AV) := spec1 (fun a : List Int => a.length ≤ 1000000) (fun a => .bool (validR a))

theorem nan54 : PureOK Tryz.prog G0 125 (spec1 (fun _ : Int => True) (fun _ => .bool false)) := by
  refine pure1 (C := C0) sig0 mix0 Tryz.func125 rfl rfl rfl (by kernel_rfl) (by decide) (fun a _ => ?_)
  simp

theorem of20 : PureOK Tryz.prog G0 48 (spec1 (fun n : Int => I64 n) (fun n => Enc.enc (canon n.toNat))) := by
  refine pure1 (C := C1) sigC1 mixC1 Tryz.func48 rfl rfl rfl (by kernel_rfl) (by decide) (fun n hn => ?_)
  simp
  refine loop_rule (C := C1) sigC1 mixC1 (fun x : Int × List Int => ⟨[(0, .int .i64 x.1), (3, .own 0 x.2.length)], [⟨3, 1, encRows x.2, true, true⟩]⟩) (fun x => x.1 ≤ n ∧ x.2 ++ canon x.1.toNat = canon n.toNat) (fun x => x.1.toNat) (by kernel_rfl) ⟨(n, []), by simp, (weak_nil 3 1 3 (by simp) (by decide)).trans (weak_slots (by simp))⟩ (fun ⟨m, out⟩ ⟨hm, hx⟩ => ?_)
  simp only at hm hx ⊢
  by_cases h : 0 < m
  · have hc : canon m.toNat = (m.tmod 1000000000) :: canon (m.tdiv 1000000000).toNat := by
      rw [canon_pos (by omega)]
      rw [Int.tmod_eq_emod_of_nonneg (by omega), Int.tdiv_eq_ediv_of_nonneg (by omega)]
      congr 1
      · unfold B9; omega
      · congr 1; unfold B9; omega
    have hl : (canon n.toNat).length ≤ 10 := canon_len 10 _ (by unfold B9; unfold I64 at hn; omega)
    have hl2 := congrArg List.length hx
    rw [List.length_append] at hl2
    have hd : m.tdiv 1000000000 = m / 1000000000 := Int.tdiv_eq_ediv_of_nonneg (by omega)
    have i1 : I64 (m.tdiv 1000000000) := by rw [hd]; unfold I64 at hn ⊢; omega
    simp [h, i1]
    refine ⟨by omega, m.tdiv 1000000000, out ++ [m.tmod 1000000000], ⟨by omega, ?_⟩, by omega, weak_slots (by simp)⟩
    rw [← hx, hc]
    simp
  · simp [h]
    have h0 : m.toNat = 0 := by omega
    rw [h0, canon_zero, List.append_nil] at hx
    rw [hx]

def s54 : List AV → Option (Prop × AV) := spec1 (fun _ : Int => True) (fun _ => .bool false)
def s20 : List AV → Option (Prop × AV) := spec1 (fun n : Int => I64 n) (fun n => Enc.enc (canon n.toNat))
noncomputable def C4 : Ctx := mkC Tryz.prog G0 [(124, .pure s26), (125, .pure s54), (48, .pure s20)]
@[simp] theorem C4_P : C4.P = Tryz.prog := rfl
@[simp] theorem C4_26 : C4.S 124 = .pure s26 := rfl
@[simp] theorem C4_54 : C4.S 125 = .pure s54 := rfl
@[simp] theorem C4_20 : C4.S 48 = .pure s20 := rfl
theorem sig4 : SigOK C4 := sigOK_cons (entryPure valid26 Tryz.func124 rfl (by decide)) (sigOK_cons (entryPure nan54 Tryz.func125 rfl (by decide)) (sigOK_cons (entryPure of20 Tryz.func48 rfl (by decide)) (sigOK_nil _ _)))
theorem mix4 : C4.P.follows .mixedOrders = true := mixed

theorem clean33 : PureOK Tryz.prog G0 89 (spec1 (fun a : List Int => a.length ≤ 1000000) (fun a => Enc.enc (numL a))) := by
  refine pure1 (C := C4) sig4 mix4 Tryz.func89 rfl rfl rfl (by kernel_rfl) (by decide) (fun a ha => ?_)
  cases h : validR a
  · simp [s26, h, ha, numL]
  · simp [s26, h, ha, numL]

theorem cmp45 : PureOK Tryz.prog G0 91 (spec2 (fun (_ _ : Int) => True) (fun a b => .int .i64 (if a < b then -1 else if b < a then 1 else 0))) := by
  refine pure2 (C := C4) sig4 mix4 Tryz.func91 rfl rfl rfl (by kernel_rfl) (by decide) (fun a b _ => ?_)
  by_cases h : a < b
  · simp [s54, h]
  · by_cases h' : b < a
    · simp [s54, h, h']
    · simp [s54, h, h']

set_option maxHeartbeats 1000000 in
theorem trim39 : PureOK Tryz.prog G0 126 (spec1 (fun a : List Int => Good a ∧ a.length ≤ 1000000) (fun a => Enc.enc (canon (val a)))) := by
  refine pure1 (C := C4) sig4 mix4 Tryz.func126 rfl rfl rfl (by kernel_rfl) (by decide) (fun a ⟨hg, ha⟩ => ?_)
  simp
  refine loop_rule (C := C4) sig4 mix4 (fun n : Nat => ⟨[(0, Enc.enc (a.take n))], []⟩) (fun n => n ≤ a.length ∧ val (a.take n) = val a) id (by kernel_rfl) ⟨a.length, by simp, weak_slots (by simp)⟩ (fun n ⟨hn, hv⟩ => ?_)
  have hl : (a.take n).length = n := by rw [List.length_take, Nat.min_eq_left hn]
  have fin : (n ≠ 0 → ix (a.take n) (n - 1) ≠ 0) → canon (val a) = a.take n := fun h => by
    rw [← hv]
    refine canon_val (good_take n hg) fun hne => ?_
    have h0 : n ≠ 0 := fun h0 => hne (by rw [h0]; simp)
    rw [hl]
    exact h h0
  by_cases h0 : n = 0
  · subst h0
    simp
    rw [fin (by simp)]
    simp
  · have h1 : n - 1 < (a.take n).length := by omega
    have h2 : ((n : Int) - 1).toNat = n - 1 := by omega
    have h3 : I64 ((n : Int) - 1) := by unfold I64; omega
    have h4 : 0 < n := by omega
    have ht : (a.take n).take (n - 1) = a.take (n - 1) := by rw [List.take_take, Nat.min_eq_left (by omega)]
    have hx : ix (a.take n) (n - 1) = ix a (n - 1) := by
      unfold ix
      rw [List.getD_eq_getElem?_getD, List.getD_eq_getElem?_getD, List.getElem?_take, if_pos (by omega)]
    have hv' := val_take_succ (l := a) (i := n - 1) (by omega)
    rw [Nat.sub_add_cancel h4, hv] at hv'
    have row := rowAt_enc h1
    by_cases h5 : ix (a.take n) (n - 1) = 0
    · rw [← hx, h5] at hv'
      generalize a.take n = t at *
      simp [h0, h2, h3, h4, hl, row, h5]
      refine ⟨by omega, by omega, n - 1, ⟨by omega, by simpa using hv'.symm⟩, by omega, weak_slots (by simp [ht])⟩
    · have := fin fun _ => h5
      rw [this]
      generalize a.take n = t at *
      simp [h0, h2, h3, h4, hl, row, h5]
      omega

def s33 : List AV → Option (Prop × AV) := spec1 (fun a : List Int => a.length ≤ 1000000) (fun a => Enc.enc (numL a))
def s45 : List AV → Option (Prop × AV) := spec2 (fun (_ _ : Int) => True) (fun a b => .int .i64 (if a < b then -1 else if b < a then 1 else 0))
def s39 : List AV → Option (Prop × AV) := spec1 (fun a : List Int => Good a ∧ a.length ≤ 1000000) (fun a => Enc.enc (canon (val a)))
noncomputable def C5 : Ctx := mkC Tryz.prog G0 [(89, .pure s33), (91, .pure s45), (126, .frz s39), (124, .pure s26), (125, .pure s54), (48, .pure s20)]
@[simp] theorem C5_P : C5.P = Tryz.prog := rfl
@[simp] theorem C5_26 : C5.S 124 = .pure s26 := rfl
@[simp] theorem C5_54 : C5.S 125 = .pure s54 := rfl
@[simp] theorem C5_20 : C5.S 48 = .pure s20 := rfl
@[simp] theorem C5_33 : C5.S 89 = .pure s33 := rfl
@[simp] theorem C5_45 : C5.S 91 = .pure s45 := rfl
@[simp] theorem C5_39 : C5.S 126 = .frz s39 := rfl
theorem sig5 : SigOK C5 := sigOK_cons (entryPure clean33 Tryz.func89 rfl (by decide)) (sigOK_cons (entryPure cmp45 Tryz.func91 rfl (by decide)) (sigOK_cons (entryFrz trim39 Tryz.func126 rfl (by decide)) sig4))
theorem mix5 : C5.P.follows .mixedOrders = true := mixed

end Go.Proofs.YtfoipbjhaiimlaaGreatDoor.Nt


/-
  nat: the program's functions, second part.
-/
namespace Go.Proofs.YtfoipbjhaiimlaaGreatDoor.Nt
open Go.RowKit
set_option linter.unusedSimpArgs false
set_option linter.unusedVariables false

set_option maxHeartbeats 1000000 in
theorem fits37 : PureOK Tryz.prog G0 92 (spec1 (fun l : List Int => Good l ∧ l.length ≤ 1000000) (fun l => fitT (val l))) := by
  refine pure1 (C := C5) sig5 mix5 Tryz.func92 rfl rfl rfl (by kernel_rfl) (by decide) (fun a ⟨hg, ha⟩ => ?_)
  by_cases h : (canon (val a)).length ≤ 64
  · have h' : ¬ (64 : Int) < (canon (val a)).length := by omega
    simp [s39, hg, ha, h', fitT, h]
  · have h' : (64 : Int) < (canon (val a)).length := by omega
    simp [s39, hg, ha, h', fitT, h]

set_option maxHeartbeats 2000000 in
theorem cmp24 : PureOK Tryz.prog G0 49 (spec2 (fun (a b : List Int) => a.length ≤ 1000000 ∧ b.length ≤ 1000000) (fun a b => .int .i64 (cmpN (nv a) (nv b)))) := by
  refine pure2 (C := C5) sig5 mix5 Tryz.func49 rfl rfl rfl (by kernel_rfl) (by decide) (fun a b ⟨ha, hb⟩ => ?_)
  have hxl := numL_len a
  have hyl := numL_len b
  have hxg := numL_good a
  have hyg := numL_good b
  have hxn := numL_norm a
  have hyn := numL_norm b
  have e1 : cmpN (nv a) (nv b) = cmpN (val (numL a)) (val (numL b)) := rfl
  simp [s45, s33, ha, hb]
  rw [e1]
  generalize numL a = x at *
  generalize numL b = y at *
  by_cases hl : x.length = y.length
  · simp [s45, hl]
    have h1 : I64 ((y.length : Int) - 1) := by unfold I64; omega
    simp [h1]
    refine loop_rule (C := C5) sig5 mix5 (fun n : Nat => ⟨[(0, Enc.enc x), (1, Enc.enc y), (6, .int .i64 ((n : Int) - 1))], []⟩) (fun n => n ≤ x.length ∧ x.drop n = y.drop n) id (by kernel_rfl) ⟨x.length, ⟨by simp, by rw [List.drop_of_length_le (by simp), List.drop_of_length_le (by omega)]⟩, weak_slots (by simp [hl])⟩ (fun n ⟨hn, hd⟩ => ?_)
    by_cases h2 : n = 0
    · subst h2
      simp at hd
      subst hd
      simp [s45, cmpN]
    · have h3 : n - 1 < x.length := by omega
      have h4 : n - 1 < y.length := by omega
      have h5 : ((n : Int) - 1).toNat = n - 1 := by omega
      have h6 : (1 : Int) ≤ n := by omega
      have h7 : 0 < n := by omega
      have e := Nat.sub_add_cancel h7
      by_cases h8 : ix x (n - 1) < ix y (n - 1)
      · have := cmp_lt hxg hyg h3 h4 (by rwa [e]) h8
        simp [s45, h5, h6, h7, rowAt_enc h3, rowAt_enc h4, h8, cmpN, this]
        omega
      · by_cases h9 : ix y (n - 1) < ix x (n - 1)
        · have := cmp_lt hyg hxg h4 h3 (by rw [e]; exact hd.symm) h9
          have h10 : ¬ val x < val y := by omega
          have h11 : ¬ val x = val y := by omega
          simp [s45, h5, h6, h7, rowAt_enc h3, rowAt_enc h4, h8, h9, cmpN, h10, h11]
          omega
        · have k5 : I64 ((n : Int) - 1 - 1) := by unfold I64; omega
          simp [s45, h5, h6, h7, rowAt_enc h3, rowAt_enc h4, h8, h9, k5]
          refine ⟨by omega, by omega, n - 1, ⟨by omega, ?_⟩, by omega, weak_slots (by simp; omega)⟩
          rw [drop_eq h3, drop_eq h4, e, hd]
          congr 1
          omega
  · have hl' : ¬ (x.length : Int) = y.length := by omega
    by_cases h : x.length < y.length
    · have := len_lt hxg hyg hyn h
      simp [s45, hl', h, cmpN, this]
    · have := len_lt hyg hxg hxn (by omega)
      have h' : ¬ val x < val y := by omega
      have h'' : ¬ val x = val y := by omega
      have h10 : ¬ x.length ≤ y.length := by omega
      have h11 : y.length < x.length := by omega
      simp [s45, hl', h, cmpN, h', h'', h10, h11]

set_option maxHeartbeats 2000000 in
theorem product38 : PureOK Tryz.prog G0 93 (spec2 (fun (x y : List Int) => (Good x ∧ x.length ≤ 128) ∧ Good y ∧ y.length ≤ 128) (fun x y => Enc.enc (canon (val x * val y)))) := by
  refine pure2 (C := C5) sig5 mix5 Tryz.func93 rfl rfl rfl (by kernel_rfl) (by decide) (fun x y ⟨⟨hx, hxl⟩, hy, hyl⟩ => ?_)
  have h1 : I64 ((x.length : Int) + y.length) := by unfold I64; omega
  have h2 : ((x.length : Int) + y.length).toNat = x.length + y.length := by omega
  simp [h1, h2]
  refine ⟨by omega, ?_⟩
  refine loop_rule (C := C5) sig5 mix5 (fun p : Nat × List Int => ⟨[(0, Enc.enc x), (1, Enc.enc y), (5, .own 0 (x.length + y.length)), (17, Enc.enc x), (18, .int .i64 x.length), (19, .int .i64 p.1)], [⟨3, 1, encRows p.2, true, true⟩]⟩)
    (fun p => p.1 ≤ x.length ∧ p.2.length = x.length + y.length ∧ Good p.2 ∧ val p.2 = val (x.take p.1) * val y ∧ ∀ k, p.1 + y.length ≤ k → ix p.2 k = 0)
    (fun p => x.length - p.1) (by kernel_rfl) ⟨(0, List.replicate (x.length + y.length) 0), ?_, weak_slots (by simp)⟩ (fun ⟨i, out⟩ ⟨hi, hl, hg, hv, hz⟩ => ?_)
  · exact ⟨Nat.zero_le _, by simp, good_rep _, by simp [val_rep, val], fun k _ => ix_rep _ k⟩
  simp only at hi hl hg hv hz ⊢
  by_cases h3 : i < x.length
  · simp [h3, rowAt_enc h3]
    refine loop_rule (C := C5) sig5 mix5 (fun p : Nat × Int × List Int => ⟨[(0, Enc.enc x), (1, Enc.enc y), (5, .own 0 (x.length + y.length)), (17, Enc.enc x), (18, .int .i64 x.length), (19, .int .i64 i), (6, .int .i64 i), (7, .int .i64 (ix x i)), (8, .int .i64 p.2.1), (24, Enc.enc y), (25, .int .i64 y.length), (26, .int .i64 p.1)], [⟨3, 1, encRows p.2.2, true, true⟩]⟩)
      (fun p => p.1 ≤ y.length ∧ p.2.2.length = x.length + y.length ∧ Good p.2.2 ∧ (0 ≤ p.2.1 ∧ p.2.1 < 1000000000) ∧ val p.2.2 + p.2.1.toNat * B9 ^ (i + p.1) = val (x.take i) * val y + (ix x i).toNat * B9 ^ i * val (y.take p.1) ∧ ∀ k, i + y.length ≤ k → ix p.2.2 k = 0)
      (fun p => y.length - p.1) (by kernel_rfl) ⟨(0, 0, out), ?_, weak_slots (by simp)⟩ (fun ⟨j, c, o⟩ ⟨hj, hol, hog, hc, hov, hoz⟩ => ?_)
    · exact ⟨Nat.zero_le _, hl, hg, by simp, by simp [hv, val], hz⟩
    simp only at hj hol hog hc hov hoz ⊢
    by_cases h4 : j < y.length
    · have h5 : ((i : Int) + j).toNat = i + j := by omega
      have h6 : i + j < o.length := by omega
      have h7 : I64 ((i : Int) + j) := by unfold I64; omega
      have hxi := ix_good hx h3
      have hyj := ix_good hy h4
      have hoi := ix_good hog h6
      have hp := mul_lim hxi hyj
      have e : ∀ s : Int, 0 ≤ s → s.tmod 1000000000 = s % 1000000000 := fun s hs => Int.tmod_eq_emod_of_nonneg hs
      have e' : ∀ s : Int, 0 ≤ s → s.tdiv 1000000000 = s / 1000000000 := fun s hs => Int.tdiv_eq_ediv_of_nonneg hs
      have hs : 0 ≤ c + (ix o (i + j) + ix x i * ix y j) := by omega
      have k1 : I64 (ix x i * ix y j) := by unfold I64; omega
      have k2 : I64 (ix o (i + j) + ix x i * ix y j) := by unfold I64; omega
      have k3 : I64 (c + (ix o (i + j) + ix x i * ix y j)) := by unfold I64; omega
      have k4 : I64 ((c + (ix o (i + j) + ix x i * ix y j)) / 1000000000) := by unfold I64; omega
      have k5 : I64 ((j : Int) + 1) := by unfold I64; omega
      simp [h4, h3, h5, h6, h7, rowAt_enc h6, rowAt_enc h3, rowAt_enc h4, e _ hs, e' _ hs, k1, k2, k3, k4, k5]
      refine ⟨by omega, by omega, by omega, by omega, j + 1, _, _, ⟨by omega, by simpa using hol, good_set hog (v := (c + (ix o (i + j) + ix x i * ix y j)) % 1000000000) (by omega), (by omega : 0 ≤ (c + (ix o (i + j) + ix x i * ix y j)) / 1000000000 ∧ (c + (ix o (i + j) + ix x i * ix y j)) / 1000000000 < 1000000000), ?_, fun k hk => ?_⟩, by omega, weak_slots (by simp)⟩
      · rw [val_take_succ h4, ← Nat.add_assoc i j 1, Nat.pow_succ]
        refine step_mul _ _ _ _ _ _ _ _ _ _ _ _ _ _ (Nat.pow_add B9 i j) (val_set h6) ?_ hov
        have : (ix x i * ix y j).toNat = (ix x i).toNat * (ix y j).toNat := Int.toNat_mul hxi.1 hyj.1
        rw [← this]
        unfold B9
        omega
      · rw [ix_set h6, if_neg (by omega)]
        exact hoz k hk
    · have hje : j = y.length := by omega
      subst hje
      have h5 : ((i : Int) + y.length).toNat = i + y.length := by omega
      have h6 : i + y.length < o.length := by omega
      have h7 : I64 ((i : Int) + y.length) := by unfold I64; omega
      have hz0 : ix o (i + y.length) = 0 := hoz _ (Nat.le_refl _)
      have hc2 : I64 c := by unfold I64; omega
      have k5 : I64 ((i : Int) + 1) := by unfold I64; omega
      simp [h4, h5, h6, h7, rowAt_enc h6, hz0, hc2, k5]
      refine ⟨by omega, ⟨hol, h3⟩, by omega, ⟨hol, h3⟩, i + 1, _, ⟨by omega, by simpa using hol, good_set hog hc, ?_, fun k hk => ?_⟩, by omega, weak_slots (by simp)⟩
      · rw [List.take_length] at hov
        exact step_row _ _ _ _ _ _ _ _ _ _ (val_set h6) (by rw [hoz _ (Nat.le_refl _)]; rfl) hov (val_take_succ h3)
      · rw [ix_set h6, if_neg (by omega)]
        exact hoz k (by omega)
  · simp [h3, s39, hl]
    rw [val_take_le (by omega)] at hv
    refine ⟨⟨hg, by omega⟩, by rw [hv]⟩


def s37 : List AV → Option (Prop × AV) := spec1 (fun l : List Int => Good l ∧ l.length ≤ 1000000) (fun l => fitT (val l))
def s24 : List AV → Option (Prop × AV) := spec2 (fun (a b : List Int) => a.length ≤ 1000000 ∧ b.length ≤ 1000000) (fun a b => .int .i64 (cmpN (nv a) (nv b)))
def s38 : List AV → Option (Prop × AV) := spec2 (fun (x y : List Int) => (Good x ∧ x.length ≤ 128) ∧ Good y ∧ y.length ≤ 128) (fun x y => Enc.enc (canon (val x * val y)))
noncomputable def C6 : Ctx := mkC Tryz.prog G0 [(49, .pure s24), (93, .pure s38), (92, .frz s37), (89, .pure s33), (91, .pure s45), (126, .frz s39), (124, .pure s26), (125, .pure s54), (48, .pure s20)]
@[simp] theorem C6_P : C6.P = Tryz.prog := rfl
@[simp] theorem C6_26 : C6.S 124 = .pure s26 := rfl
@[simp] theorem C6_54 : C6.S 125 = .pure s54 := rfl
@[simp] theorem C6_20 : C6.S 48 = .pure s20 := rfl
@[simp] theorem C6_33 : C6.S 89 = .pure s33 := rfl
@[simp] theorem C6_45 : C6.S 91 = .pure s45 := rfl
@[simp] theorem C6_24 : C6.S 49 = .pure s24 := rfl
@[simp] theorem C6_38 : C6.S 93 = .pure s38 := rfl
@[simp] theorem C6_39 : C6.S 126 = .frz s39 := rfl
@[simp] theorem C6_37 : C6.S 92 = .frz s37 := rfl
theorem sig6 : SigOK C6 := sigOK_cons (entryPure cmp24 Tryz.func49 rfl (by decide)) (sigOK_cons (entryPure product38 Tryz.func93 rfl (by decide)) (sigOK_cons (entryFrz fits37 Tryz.func92 rfl (by decide)) sig5))
theorem mix6 : C6.P.follows .mixedOrders = true := mixed

end Go.Proofs.YtfoipbjhaiimlaaGreatDoor.Nt


/-
  nat: the program's functions, third part.
-/
namespace Go.Proofs.YtfoipbjhaiimlaaGreatDoor.Nt
open Go.RowKit
set_option linter.unusedSimpArgs false
set_option linter.unusedVariables false

theorem val_mul_len {x y : List Int} (hx : Good x) (hy : Good y) (hxl : x.length ≤ 64) (hyl : y.length ≤ 64) : (canon (val x * val y)).length ≤ 128 := canon_len 128 _ (by
    have h5 := Nat.mul_lt_mul_of_lt_of_le (val_lt64 hx hxl) (Nat.le_of_lt (val_lt64 hy hyl)) (by decide)
    rwa [← Nat.pow_add] at h5)

set_option maxHeartbeats 1000000 in
theorem mul15 : PureOK Tryz.prog G0 51 (spec2 (fun (a b : List Int) => a.length ≤ 1000000 ∧ b.length ≤ 1000000) (fun a b => fitT (nv a * nv b))) := by
  refine pure2 (C := C6) sig6 mix6 Tryz.func51 rfl rfl rfl (by kernel_rfl) (by decide) (fun a b ⟨ha, hb⟩ => ?_)
  have hxl := numL_len a
  have hyl := numL_len b
  have hxg := numL_good a
  have hyg := numL_good b
  have hlen := val_mul_len hxg hyg hxl hyl
  simp [s33, s38, s37, ha, hb, hxg, hyg, canon_good, val_canon, fitT]
  exact ⟨⟨by omega, by omega⟩, by omega, rfl, Iff.rfl⟩

set_option maxHeartbeats 2000000 in
theorem add22 : PureOK Tryz.prog G0 54 (spec2 (fun (a b : List Int) => a.length ≤ 1000000 ∧ b.length ≤ 1000000) (fun a b => fitT (nv a + nv b))) := by
  refine pure2 (C := C6) sig6 mix6 Tryz.func54 rfl rfl rfl (by kernel_rfl) (by decide) (fun a b ⟨ha, hb⟩ => ?_)
  have hxl := numL_len a
  have hyl := numL_len b
  have hxg := numL_good a
  have hyg := numL_good b
  have e1 : fitT (nv a + nv b) = fitT (val (numL a) + val (numL b)) := rfl
  rw [e1]
  obtain ⟨m, hm, h1, h2, h3⟩ : ∃ m : Nat, (if (numL a).length < (numL b).length then ((numL b).length : Int) else (numL a).length) = m ∧ (numL a).length ≤ m ∧ (numL b).length ≤ m ∧ m ≤ 64 := by
    by_cases h : (numL a).length < (numL b).length
    · exact ⟨(numL b).length, by rw [if_pos h], by omega, by omega, by omega⟩
    · exact ⟨(numL a).length, by rw [if_neg h], by omega, by omega, by omega⟩
  have k0 : I64 ((m : Int) + 1) := by unfold I64; omega
  have k1 : ((m : Int) + 1).toNat = m + 1 := by omega
  simp [s33, ha, hb, hm, k0, k1]
  refine ⟨by omega, ?_⟩
  generalize numL a = x at *
  generalize numL b = y at *
  refine loop_rule (C := C6) sig6 mix6 (fun p : Nat × Int × List Int => ⟨[(0, Enc.enc x), (1, Enc.enc y), (6, .own 0 (m + 1)), (7, .int .i64 p.2.1), (21, .int .i64 ((m : Int) + 1)), (22, .int .i64 p.1)], [⟨3, 1, encRows p.2.2, true, true⟩]⟩)
    (fun p => p.1 ≤ m + 1 ∧ p.2.2.length = m + 1 ∧ Good p.2.2 ∧ (0 ≤ p.2.1 ∧ p.2.1 ≤ 1) ∧ val (p.2.2.take p.1) + p.2.1.toNat * B9 ^ p.1 = val (x.take p.1) + val (y.take p.1))
    (fun p => m + 1 - p.1) (by kernel_rfl) ⟨(0, 0, List.replicate (m + 1) 0), ⟨Nat.zero_le _, by simp, good_rep _, by simp, by simp [val]⟩, weak_slots (by simp)⟩ (fun ⟨i, c, o⟩ ⟨hi, hl, hg, hc, hv⟩ => ?_)
  simp only at hi hl hg hc hv ⊢
  by_cases h4 : i < m + 1
  · have h5 : (i : Int) < (m : Int) + 1 := by omega
    have h6 : i < o.length := by omega
    have hxi := ix_good' hxg i
    have hyi := ix_good' hyg i
    have hs : 0 ≤ c + ix x i + ix y i := by omega
    have fin : ∀ s : Int, s = c + ix x i + ix y i → ((i + 1 ≤ m + 1 ∧ (o.set i (s % 1000000000)).length = m + 1 ∧ Good (o.set i (s % 1000000000)) ∧ (0 ≤ s / 1000000000 ∧ s / 1000000000 ≤ 1) ∧ val ((o.set i (s % 1000000000)).take (i + 1)) + (s / 1000000000).toNat * B9 ^ (i + 1) = val (x.take (i + 1)) + val (y.take (i + 1))) ∧ m + 1 - (i + 1) < m + 1 - i) ∧ I64 s ∧ I64 (s / 1000000000) ∧ I64 ((i : Int) + 1) := by
      intro s hs
      refine ⟨⟨⟨by omega, by simp [hl], good_set hg (by omega), by omega, ?_⟩, by omega⟩, by unfold I64; omega, by unfold I64; omega, by unfold I64; omega⟩
      rw [take_set_succ h6, val_snoc, List.length_take, Nat.min_eq_left (by omega), val_take_succ', val_take_succ', Nat.pow_succ]
      refine step_add _ _ _ _ _ _ _ _ _ _ hv ?_
      unfold B9
      omega
    by_cases h7 : i < x.length
    · have k2 : I64 (c + ix x i) := by unfold I64; omega
      by_cases h8 : i < y.length
      · obtain ⟨⟨hI, hd⟩, k3, k4, k5⟩ := fin _ rfl
        simp [h5, h7, h8, rowAt_enc h7, rowAt_enc h8, rowAt_enc h6, k2, k3, k4, k5, tmod9 hs, tdiv9 hs]
        exact ⟨by omega, _, _, _, hI, hd, weak_slots (by simp)⟩
      · obtain ⟨⟨hI, hd⟩, k3, k4, k5⟩ := fin (c + ix x i) (by rw [ix_out (l := y) (by omega)]; omega)
        have hs' : 0 ≤ c + ix x i := by omega
        simp [h5, h7, h8, rowAt_enc h7, rowAt_enc h6, k2, k3, k4, k5, tmod9 hs', tdiv9 hs']
        exact ⟨by omega, _, _, _, hI, hd, weak_slots (by simp)⟩
    · by_cases h8 : i < y.length
      · obtain ⟨⟨hI, hd⟩, k3, k4, k5⟩ := fin (c + ix y i) (by rw [ix_out (l := x) (by omega)]; omega)
        have hs' : 0 ≤ c + ix y i := by omega
        simp [h5, h7, h8, rowAt_enc h8, rowAt_enc h6, k3, k4, k5, tmod9 hs', tdiv9 hs']
        exact ⟨by omega, _, _, _, hI, hd, weak_slots (by simp)⟩
      · obtain ⟨⟨hI, hd⟩, k3, k4, k5⟩ := fin c (by rw [ix_out (l := x) (by omega), ix_out (l := y) (by omega)]; omega)
        simp [h5, h7, h8, rowAt_enc h6, k3, k4, k5, tmod9 hc.1, tdiv9 hc.1]
        exact ⟨by omega, _, _, _, hI, hd, weak_slots (by simp)⟩
  · have h5 : ¬ (i : Int) < (m : Int) + 1 := by omega
    have him : i = m + 1 := by omega
    subst him
    rw [List.take_of_length_le (by omega), val_take_le (by omega), val_take_le (by omega)] at hv
    have hc0 : c = 0 := by
      rcases Int.lt_or_le 0 c with h | h
      · have : c.toNat = 1 := by omega
        rw [this, Nat.pow_succ] at hv
        have e1 := Nat.lt_of_lt_of_le (val_lt hxg) (B9_le h1)
        have e2 := Nat.lt_of_lt_of_le (val_lt hyg) (B9_le h2)
        have e3 : B9 ^ m * 2 ≤ B9 ^ m * B9 := Nat.mul_le_mul_left _ (by decide)
        omega
      · omega
    subst hc0
    have e : val x + val y = val o := by simpa using hv.symm
    rw [e]
    simp [h5, s37, hg, hl, fitT]
    omega

def s15 : List AV → Option (Prop × AV) := spec2 (fun (a b : List Int) => a.length ≤ 1000000 ∧ b.length ≤ 1000000) (fun a b => fitT (nv a * nv b))
def s22 : List AV → Option (Prop × AV) := spec2 (fun (a b : List Int) => a.length ≤ 1000000 ∧ b.length ≤ 1000000) (fun a b => fitT (nv a + nv b))
end Go.Proofs.YtfoipbjhaiimlaaGreatDoor.Nt


/-
  nat: the program's functions, fourth part: Clone, Pow.
-/
namespace Go.Proofs.YtfoipbjhaiimlaaGreatDoor.Nt
open Go.RowKit
set_option linter.unusedSimpArgs false
set_option linter.unusedVariables false

theorem clone34 : PureOK Tryz.prog G0 90 (spec1 (fun l : List Int => l.length ≤ 1000000) (fun l => Enc.enc l)) := by
  refine pure1 (C := C0) sig0 mix0 Tryz.func90 rfl rfl rfl (by kernel_rfl) (by decide) (fun l hl => ?_)
  by_cases h : l.length = 0
  · have h' : l = [] := List.length_eq_zero_iff.1 h
    subst h'
    simp
  · simp [h]
    omega
def s34 : List AV → Option (Prop × AV) := spec1 (fun l : List Int => l.length ≤ 1000000) (fun l => Enc.enc l)
noncomputable def C7 : Ctx := mkC Tryz.prog G0 [(51, .pure s15), (90, .pure s34), (49, .pure s24), (93, .pure s38), (92, .frz s37), (89, .pure s33), (91, .pure s45), (126, .frz s39), (124, .pure s26), (125, .pure s54), (48, .pure s20)]
@[simp] theorem C7_P : C7.P = Tryz.prog := rfl
@[simp] theorem C7_15 : C7.S 51 = .pure s15 := rfl
@[simp] theorem C7_34 : C7.S 90 = .pure s34 := rfl
@[simp] theorem C7_24 : C7.S 49 = .pure s24 := rfl
@[simp] theorem C7_38 : C7.S 93 = .pure s38 := rfl
@[simp] theorem C7_33 : C7.S 89 = .pure s33 := rfl
@[simp] theorem C7_45 : C7.S 91 = .pure s45 := rfl
@[simp] theorem C7_26 : C7.S 124 = .pure s26 := rfl
@[simp] theorem C7_54 : C7.S 125 = .pure s54 := rfl
@[simp] theorem C7_20 : C7.S 48 = .pure s20 := rfl
@[simp] theorem C7_37 : C7.S 92 = .frz s37 := rfl
@[simp] theorem C7_39 : C7.S 126 = .frz s39 := rfl
theorem sig7 : SigOK C7 := sigOK_cons (entryPure mul15 Tryz.func51 rfl (by decide)) (sigOK_cons (entryPure clone34 Tryz.func90 rfl (by decide)) sig6)
theorem mix7 : C7.P.follows .mixedOrders = true := mixed

theorem and_one {k : Int} (h : 0 ≤ k) (h' : k ≤ 9223372036854775807) : bits2 .and .i64 k 1 = k % 2 := by
  obtain ⟨n, rfl⟩ := Int.eq_ofNat_of_zero_le h
  have e : (BitVec.ofInt 64 (n : Int) &&& BitVec.ofInt 64 1).toNat = n % 2 := by
    rw [BitVec.toNat_and]
    have h1 : (BitVec.ofInt 64 (n : Int)).toNat = n := by simp; omega
    have h2 : (BitVec.ofInt 64 1).toNat = 1 := by decide
    rw [h1, h2, Nat.and_one_is_mod]
  show IntKind.wrap .i64 ((BitVec.ofInt 64 (n : Int) &&& BitVec.ofInt 64 1).toNat : Int) = _
  rw [e]
  rcases Nat.mod_two_eq_zero_or_one n with h | h <;> rw [h] <;> first | (show (0 : Int) = _; omega) | (show (1 : Int) = _; omega)

theorem nv_canon {n : Nat} (h : (canon n).length ≤ 64) : nv (canon n) = n := by
  have : validR (canon n) = true := validR_iff.2 ⟨h, canon_good n, canon_norm n⟩
  unfold nv numL
  rw [if_pos this, val_canon]

theorem long_of {v K : Nat} {k : Int} {m : Nat} (h1 : ¬ k < 0) (hK : k.toNat = K) (hm : m ≤ v ^ K) (hl : 64 < (canon m).length) : powT v k = .tup [.slice 1 false [], .bool false] := by
  have := canon_mono hm
  rw [powT_of h1 rfl, hK, if_neg (by omega), decide_eq_false (by omega)]
  rfl

set_option maxHeartbeats 2000000 in
theorem pow11 : PureOK Tryz.prog G0 47 (spec2 (fun (a : List Int) (k : Int) => a.length ≤ 1000000 ∧ I64 k) (fun a k => powT (nv a) k)) := by
  refine pure2 (C := C7) sig7 mix7 Tryz.func47 rfl rfl rfl (by kernel_rfl) (by decide) (fun a k ⟨ha, hk⟩ => ?_)
  have hxl := numL_len a
  have hxg := numL_good a
  have hxn := numL_norm a
  by_cases h1 : k < 0
  · simp [h1, powT_neg]
  have e1 : powT (nv a) k = powT (val (numL a)) k := rfl
  rw [e1]
  simp [s33, ha, h1]
  generalize numL a = x at *
  have i1 : I64 1 := by unfold I64; omega
  by_cases h2 : k = 0
  · subst h2
    rw [powT_of (l := [1]) h1 (by simp [canon_one])]
    simp [s20, i1, canon_one]
  by_cases h3 : x.length = 0
  · obtain rfl := List.length_eq_zero_iff.1 h3
    rw [powT_of (l := []) h1 (by rw [val, Nat.zero_pow (by omega), canon_zero])]
    simp [h2, s34]
  have h0 : 0 < x.length := by omega
  by_cases h4 : x.length = 1 ∧ ix x 0 = 1
  · obtain ⟨h5, h6⟩ := h4
    have hx1 : x = [1] := by
      obtain ⟨x0, rfl⟩ := List.length_eq_one_iff.1 h5
      obtain rfl : x0 = 1 := h6
      rfl
    rw [powT_of (l := x) h1 (by rw [hx1]; simp [val, canon_one])]
    have h7 : x ≠ [] := fun h => by subst h; simp at h0
    simp [h2, h7, h5, rowAt_enc h0, h6, s34]
  have hv : 2 ≤ val x := by
    by_cases h5 : x.length = 1
    · obtain ⟨x0, rfl⟩ := List.length_eq_one_iff.1 h5
      have h6 : ¬ x0 = 1 := fun h => h4 ⟨h5, h⟩
      have := hxn (by simp)
      have h8 : ¬ x0 = 0 := this
      have := hxg.head
      simp [val]
      omega
    · have h6 := val_top hxg hxn (fun h => by subst h; simp at h0)
      have h7 : B9 ^ 1 ≤ B9 ^ (x.length - 1) := B9_le (by omega)
      rw [Nat.pow_one] at h7
      have : B9 = 1000000000 := rfl
      omega
  have hx0 : x ≠ [] := fun h => by subst h; simp at h0
  have fin : ∀ (o : List Int) (m : Nat), o = canon m → m = val x ^ k.toNat → o.length ≤ 64 → powT (val x) k = .tup [.slice 1 false (encRows o), .bool true] := fun o m h h' hl => by
    subst h
    rw [powT_of (l := canon m) h1 (by rw [← h']), if_pos hl, decide_eq_true hl]
  have key : ∀ st : ASt, Weak C7 59 0 st ⟨[(1, .int .i64 k), (6, Enc.enc (canon 1)), (8, Enc.enc x)], []⟩ → ∀ body Q, codeOK C7 59 body = true →
    (∀ p : Nat × Nat × Nat, (0 < p.1 ∧ p.1 ≤ k.toNat ∧ 1 ≤ p.2.1 ∧ 2 ≤ p.2.2 ∧ p.2.1 * p.2.2 ^ p.1 = val x ^ k.toNat ∧ (canon p.2.1).length ≤ 64 ∧ (canon p.2.2).length ≤ 64) →
      avc C7 59 0 body ⟨[(1, .int .i64 p.1), (6, Enc.enc (canon p.2.1)), (8, Enc.enc (canon p.2.2))], []⟩ (round (fun p : Nat × Nat × Nat => ⟨[(1, .int .i64 p.1), (6, Enc.enc (canon p.2.1)), (8, Enc.enc (canon p.2.2))], []⟩)
        (fun p => 0 < p.1 ∧ p.1 ≤ k.toNat ∧ 1 ≤ p.2.1 ∧ 2 ≤ p.2.2 ∧ p.2.1 * p.2.2 ^ p.1 = val x ^ k.toNat ∧ (canon p.2.1).length ≤ 64 ∧ (canon p.2.2).length ≤ 64) (fun p' => p'.1 < p.1) 59 0 C7 Q)) → AW C7 59 0 (.loop body) st Q := by
    intro st hw body Q hok h
    refine loop_rule (C := C7) sig7 mix7 _ _ (fun p => p.1) hok ⟨(k.toNat, 1, val x), ⟨by omega, Nat.le_refl _, Nat.le_refl _, hv, by simp, by simp [canon_one], by rw [canon_val hxg hxn]; exact hxl⟩, ?_⟩ h
    have e1 : ((k.toNat : Nat) : Int) = k := by omega
    rw [e1, canon_val hxg hxn]
    exact hw
  have h10 : k.toNat ≤ 9223372036854775807 := by unfold I64 at hk; omega
  by_cases h5 : x.length = 1
  have h6 : ¬ ix x 0 = 1 := fun h => h4 ⟨h5, h⟩
  simp [h2, hx0, h5, rowAt_enc h0, h6, s34, s20, i1]
  refine key _ (weak_slots (by simp)) _ _ (by kernel_rfl) (fun ⟨j, u, v⟩ ⟨hj0, hj, hu, hv2, hp, hul, hvl⟩ => ?_)
  rotate_left
  have h8 : ¬ (x.length : Int) = 1 := by omega
  simp [h2, hx0, h8, s34, s20, i1]
  refine ⟨by omega, key _ (weak_slots (by simp)) _ _ (by kernel_rfl) (fun ⟨j, u, v⟩ ⟨hj0, hj, hu, hv2, hp, hul, hvl⟩ => ?_)⟩
  rotate_left
  all_goals
    simp only at hj0 hj hu hv2 hp hul hvl ⊢
    have e2 := and_one (k := j) (by omega) (by omega)
    have e3 : Int.fdiv (j : Int) (2 ^ min 1 IntKind.i64.bits) = ((j / 2 : Nat) : Int) := by
      show Int.fdiv (j : Int) 2 = _
      rw [Int.fdiv_eq_ediv_of_nonneg _ (by omega)]; omega
    have nu := nv_canon hul
    have nw := nv_canon hvl
    have hdv : v ^ j = (v * v) ^ (j / 2) * v ^ (j % 2) := by rw [← Nat.pow_two, ← Nat.pow_mul, ← Nat.pow_add, Nat.div_add_mod]
    have hsq : j / 2 ≠ 0 → v * v ≤ v ^ j := fun hz => by
      rw [hdv]
      have h1 : (v * v) ^ 1 ≤ (v * v) ^ (j / 2) := Nat.pow_le_pow_right (Nat.mul_pos (by omega) (by omega)) (by omega)
      have h2 : 1 ≤ v ^ (j % 2) := Nat.pow_pos (by omega)
      have := Nat.mul_le_mul h1 h2
      rwa [Nat.pow_one, Nat.mul_one] at this
    have big : ∀ w : Nat, w ≤ val x ^ k.toNat → 64 < (canon w).length → powT (val x) k = .tup [.slice 1 false [], .bool false] := fun w hw hl => long_of h1 rfl hw hl
    have hvx : v ^ j ≤ val x ^ k.toNat := by rw [← hp]; exact Nat.le_mul_of_pos_left _ hu
    by_cases hodd : j % 2 = 1
    · have ho : (j : Int) % 2 = 1 := by omega
      by_cases hf : (canon (u * v)).length ≤ 64
      · by_cases hz : j / 2 = 0
        · have hj1 : j = 1 := by omega
          rw [hj1, Nat.pow_one] at hp
          have hz' : (j : Int) / 2 = 0 := by omega
          rw [fin _ (u * v) rfl hp hf]
          simp [e2, ho, s15, nu, nw, fitT, hf, e3, hz']
          omega
        · have hz' : ¬ ((j : Int) / 2 = 0) := by omega
          by_cases hg : (canon (v * v)).length ≤ 64
          · simp [e2, ho, s15, nu, nw, fitT, hf, e3, hz', hg]
            exact ⟨⟨by omega, by omega⟩, by omega, j / 2, u * v, v * v, ⟨by omega, by omega, Nat.mul_pos (by omega) (by omega), Nat.le_trans hv2 (Nat.le_mul_of_pos_left v (by omega)), by rw [← hp, hdv, hodd, Nat.pow_one, Nat.mul_assoc, Nat.mul_comm v], hf, hg⟩, by omega, weak_slots (by simp)⟩
          · have := big (v * v) (Nat.le_trans (hsq hz) hvx) (by omega)
            rw [this]
            simp [e2, ho, s15, nu, nw, fitT, hf, e3, hz', hg]
            omega
      · have := big (u * v) (by
          rw [← hp]
          refine Nat.mul_le_mul_left _ ?_
          have : v ^ 1 ≤ v ^ j := Nat.pow_le_pow_right (by omega) (by omega)
          rwa [Nat.pow_one] at this) (by omega)
        rw [this]
        simp [e2, ho, s15, nu, nw, fitT, hf]
        omega
    · have ho : (j : Int) % 2 = 0 := by omega
      have hz : j / 2 ≠ 0 := by omega
      have hz' : ¬ ((j : Int) / 2 = 0) := by omega
      by_cases hg : (canon (v * v)).length ≤ 64
      · simp [e2, ho, s15, nu, nw, fitT, e3, hz', hg]
        exact ⟨by omega, j / 2, u, v * v, ⟨by omega, by omega, hu, Nat.le_trans hv2 (Nat.le_mul_of_pos_left v (by omega)), by rw [← hp, hdv, show j % 2 = 0 by omega, Nat.pow_zero, Nat.mul_one], hul, hg⟩, by omega, weak_slots (by simp)⟩
      · have := big (v * v) (Nat.le_trans (hsq hz) hvx) (by omega)
        rw [this]
        simp [e2, ho, s15, nu, nw, fitT, e3, hz', hg]
        omega
end Go.Proofs.YtfoipbjhaiimlaaGreatDoor.Nt


/-
  layers 29 and 31: hypergraphs: what is valid; looking for an element; the matrix of the program, in words.
-/
namespace Go.Proofs.YtfoipbjhaiimlaaGreatDoor
open Go.RowKit
set_option linter.unusedSimpArgs false
set_option linter.unusedVariables false
set_option maxRecDepth 100000

/-- The first place of v, or -1. -/
def idxF {α : Type} [DecidableEq α] : List α → α → Int → Int
  | [], _, _ => -1
  | a :: r, v, k => if v = a then k else idxF r v (k + 1)
theorem idxF_lt {α : Type} [DecidableEq α] {v : α} : ∀ (l : List α) (k : Int), 0 ≤ k → (0 ≤ idxF l v k ↔ v ∈ l)
  | [], k, hk => by simp [idxF]
  | a :: r, k, hk => by
    unfold idxF
    by_cases h : v = a
    · simp [h, hk]
    · rw [if_neg h, idxF_lt r (k + 1) (by omega)]
      simp [h]
theorem idxF_drop {α : Type} [DecidableEq α] [Inhabited α] {l : List α} {i : Nat} (h : i < l.length) (v : α) : idxF (l.drop i) v i = if v = ix l i then (i : Int) else idxF (l.drop (i + 1)) v ((i + 1 : Nat) : Int) := by
  rw [List.drop_eq_getElem_cons h, ix_lt h]
  rfl
theorem idxF_end {α : Type} [DecidableEq α] {l : List α} {i : Nat} (h : ¬ i < l.length) (v : α) : idxF (l.drop i) v i = -1 := by
  rw [List.drop_eq_nil_of_le (by omega)]
  rfl
def sIdxI : List AV → Option (Prop × AV) := spec2 (fun (l : List Int) (_ : Int) => l.length ≤ 1000000) (fun l v => .int .i64 (idxF l v 0))
set_option maxHeartbeats 4000000 in
theorem idxI : PureOK Tryz.prog G0 58 sIdxI := by
  refine pure2 (C := CE) sigCE mixCE Tryz.func58 rfl rfl rfl (by kernel_rfl) (by decide) (fun l v hl => ?_)
  simp
  refine loop_rule (C := CE) sigCE mixCE (fun i : Nat => ⟨[(0, Enc.enc l), (1, .int .i64 v), (7, .int .i64 l.length), (8, .int .i64 i)], []⟩) (fun i => i ≤ l.length ∧ idxF (l.drop i) v i = idxF l v 0) (fun i => l.length - i) (by kernel_rfl) ⟨0, by simp, weak_slots (by simp)⟩ (fun i ⟨hi, hx⟩ => ?_)
  by_cases h : i < l.length
  · rw [idxF_drop h] at hx
    by_cases e : v = ix l i
    · rw [if_pos e] at hx
      simp [h, rowAt_enc h, ← e, ← hx]
    · rw [if_neg e] at hx
      have i1 : I64 ((i : Int) + 1) := by unfold I64; omega
      simp [h, rowAt_enc h, e, i1]
      exact ⟨i + 1, ⟨by omega, hx⟩, by omega, weak_slots (by simp)⟩
  · rw [idxF_end h] at hx
    simp [h, ← hx]
def sConI : List AV → Option (Prop × AV) := spec2 (fun (l : List Int) (_ : Int) => l.length ≤ 1000000) (fun l v => .bool (decide (v ∈ l)))
noncomputable def CIx : Ctx := mkC Tryz.prog G0 [(58, .pure sIdxI)]
@[simp] theorem CIx_P : CIx.P = Tryz.prog := rfl
@[simp] theorem CIx_G : CIx.G = G0 := rfl
@[simp] theorem CIx_1 : CIx.S 58 = .pure sIdxI := rfl
theorem mixCIx : CIx.P.follows .mixedOrders = true := mixed
theorem sigCIx : SigOK CIx := sigOK_cons (entryPure (idxI) Tryz.func58 rfl (by decide)) (sigOK_nil _ _)
theorem conI : PureOK Tryz.prog G0 26 sConI := by
  refine pure2 (C := CIx) sigCIx mixCIx Tryz.func26 rfl rfl rfl (by kernel_rfl) (by decide) (fun l v hl => ?_)
  simp [sIdxI, hl, idxF_lt l 0 (Int.le_refl 0)]
theorem hasR : PureOK Tryz.prog G0 29 sConI := by
  refine pure2 (C := CE) sigCE mixCE Tryz.func29 rfl rfl rfl (by kernel_rfl) (by decide) (fun l v hl => ?_)
  simp
  refine loop_rule (C := CE) sigCE mixCE (fun i : Nat => ⟨[(0, Enc.enc l), (1, .int .i64 v), (5, .int .i64 i)], []⟩) (fun i => i ≤ l.length ∧ ∀ j < i, ix l j ≠ v) (fun i => l.length - i) (by kernel_rfl) ⟨0, by simp, weak_slots (by simp)⟩ (fun i ⟨hi, hx⟩ => ?_)
  by_cases h : i < l.length
  · by_cases e : ix l i = v
    · have : v ∈ l := e ▸ ix_mem h
      simp [h, rowAt_enc h, e, this]
    · have i1 : I64 ((i : Int) + 1) := by unfold I64; omega
      simp [h, rowAt_enc h, e, i1]
      refine ⟨i + 1, ⟨by omega, fun j hj => ?_⟩, by omega, weak_slots (by simp)⟩
      rcases Nat.lt_or_eq_of_le (Nat.le_of_lt_succ hj) with h | rfl
      · exact hx j h
      · exact e
  · have : v ∉ l := fun hm => by
      obtain ⟨j, hj, rfl⟩ := List.mem_iff_getElem.1 hm
      exact hx j (by omega) (ix_lt hj)
    simp [h, this]

def OkE (N : Int) (e : List Int) : Prop := e ≠ [] ∧ ∀ k, k < e.length → 0 ≤ ix e k ∧ ix e k < N ∧ (0 < k → ix e (k - 1) < ix e k)
instance (N : Int) (e : List Int) : Decidable (OkE N e) := by unfold OkE; infer_instance
def ValidH (h : Hy) : Prop := 0 ≤ h.N ∧ h.N ≤ 24 ∧ h.E.length ≤ 12 ∧ ∀ e ∈ h.E, OkE h.N e
instance (h : Hy) : Decidable (ValidH h) := by unfold ValidH; infer_instance
structure SmallH (h : Hy) : Prop where
  n : h.E.length ≤ 1000000
  e : ∀ e ∈ h.E, e.length ≤ 1000000
def BadE (N : Int) (e : List Int) (k : Nat) : Prop := ix e k < 0 ∨ N ≤ ix e k ∨ 0 < k ∧ ix e k ≤ ix e (k - 1)
theorem okE_false {N : Int} {e : List Int} {k : Nat} (hk : k < e.length) (h : BadE N e k) : ¬ OkE N e := by
  rintro ⟨_, h2⟩
  obtain ⟨a, b, c⟩ := h2 k hk
  rcases h with h | h | ⟨h, h'⟩
  · omega
  · omega
  · have := c h; omega
theorem okE_true {N : Int} {e : List Int} (h0 : e ≠ []) (h : ∀ k, k < e.length → ¬ BadE N e k) : OkE N e := by
  refine ⟨h0, fun k hk => ?_⟩
  have := h k hk
  unfold BadE at this
  refine ⟨by omega, by omega, fun h => by omega⟩
def HyB (h : Hy) : Blk := ⟨24, 2, [[.int .i64 h.N, .slice 1 false (encRows h.E)]], true, true⟩
def sValidH : List AV → Option (Prop × AV) := spec1 SmallH (fun h => .bool (decide (ValidH h)))
set_option maxHeartbeats 8000000 in
theorem validHP : PureOK Tryz.prog G0 23 sValidH := by
  refine pure1 (C := CE) sigCE mixCE Tryz.func23 rfl rfl rfl (by kernel_rfl) (by decide) (fun h hs => ?_)
  have hsn := hs.n
  by_cases h1 : h.N < 0
  · have : ¬ ValidH h := fun hv => by have := hv.1; omega
    simp [h1, this]
  by_cases h2 : 24 < h.N
  · have : ¬ ValidH h := fun hv => by have := hv.2.1; omega
    simp [h1, h2, this]
  by_cases h3 : (12 : Int) < h.E.length
  · have : ¬ ValidH h := fun hv => by have := hv.2.2.1; omega
    simp [h1, h2, h3, this]
  simp [h1, h2, h3]
  refine loop_rule (C := CE) sigCE mixCE (fun i : Nat => ⟨[(1, .ptr 0 1 2 0 0), (22, Enc.enc h.E), (23, .int .i64 h.E.length), (24, .int .i64 i)], [HyB h]⟩) (fun i => i ≤ h.E.length ∧ ∀ j < i, OkE h.N (ix h.E j)) (fun i => h.E.length - i) (by kernel_rfl) ⟨0, by simp, weak_eq (by simp) (by simp [HyB])⟩ (fun i ⟨hi, hx⟩ => ?_)
  by_cases hl : i < h.E.length
  · have hel : (ix h.E i).length ≤ 1000000 := hs.e _ (ix_mem hl)
    by_cases he : ix h.E i = []
    · have : ¬ ValidH h := fun hv => (hv.2.2.2 _ (ix_mem hl)).1 he
      simp [HyB, hl, rowAt_enc hl, he, this]
    have he0 : ¬ (ix h.E i).length = 0 := fun h => he (List.length_eq_zero_iff.1 h)
    simp [HyB, hl, rowAt_enc hl, he, he0]
    refine loop_rule (C := CE) sigCE mixCE (fun k : Nat => ⟨[(1, .ptr 0 1 2 0 0), (4, Enc.enc (ix h.E i)), (22, Enc.enc h.E), (23, .int .i64 h.E.length), (24, .int .i64 i), (31, Enc.enc (ix h.E i)), (32, .int .i64 (ix h.E i).length), (33, .int .i64 k)], [HyB h]⟩) (fun k => k ≤ (ix h.E i).length ∧ ∀ j < k, ¬ BadE h.N (ix h.E i) j) (fun k => (ix h.E i).length - k) (by kernel_rfl) ⟨0, by simp, weak_eq (by simp) (by simp [HyB])⟩ (fun k ⟨hk, hy⟩ => ?_)
    by_cases hkl : k < (ix h.E i).length
    · by_cases hb : BadE h.N (ix h.E i) k
      · have hv : ¬ ValidH h := fun hv => okE_false hkl hb (hv.2.2.2 _ (ix_mem hl))
        have hb' := hb
        unfold BadE at hb'
        by_cases q1 : ix (ix h.E i) k < 0
        · simp [HyB, hkl, rowAt_enc hkl, q1, hv]
        by_cases q2 : h.N ≤ ix (ix h.E i) k
        · simp [HyB, hkl, rowAt_enc hkl, q1, q2, hv]
        have q3 : 0 < k := by omega
        have q4 : ix (ix h.E i) k ≤ ix (ix h.E i) (k - 1) := by omega
        have q5 : k - 1 < (ix h.E i).length := by omega
        have q6 : ((k : Int) - 1).toNat = k - 1 := by omega
        have q7 : (k : Int) - 1 < (ix h.E i).length := by omega
        have q8 : (0 : Int) ≤ (k : Int) - 1 := by omega
        have q9 : I64 ((k : Int) - 1) := by unfold I64; omega
        simp [HyB, hkl, rowAt_enc hkl, q1, q2, q3, q4, q6, q7, q8, q9, rowAt_enc q5, hv]
        omega
      · have hb' := hb
        unfold BadE at hb'
        have q1 : ¬ ix (ix h.E i) k < 0 := by omega
        have q2 : ¬ h.N ≤ ix (ix h.E i) k := by omega
        have i1 : I64 ((k : Int) + 1) := by unfold I64; omega
        have fin : ∀ j < k + 1, ¬ BadE h.N (ix h.E i) j := fun j hj => by
          rcases Nat.lt_or_eq_of_le (Nat.le_of_lt_succ hj) with h | rfl
          · exact hy j h
          · exact hb
        by_cases q3 : 0 < k
        · have q4 : ¬ ix (ix h.E i) k ≤ ix (ix h.E i) (k - 1) := by omega
          have q5 : k - 1 < (ix h.E i).length := by omega
          have q6 : ((k : Int) - 1).toNat = k - 1 := by omega
          have q7 : (k : Int) - 1 < (ix h.E i).length := by omega
          have q8 : (0 : Int) ≤ (k : Int) - 1 := by omega
          have q9 : I64 ((k : Int) - 1) := by unfold I64; omega
          simp [HyB, hkl, rowAt_enc hkl, q1, q2, q3, q4, q6, q7, q8, q9, rowAt_enc q5, i1]
          exact ⟨by omega, k + 1, ⟨by omega, fin⟩, by omega, weak_eq (by simp) (by simp [HyB])⟩
        · simp [HyB, hkl, rowAt_enc hkl, q1, q2, q3, i1]
          exact ⟨k + 1, ⟨by omega, fin⟩, by omega, weak_eq (by simp) (by simp [HyB])⟩
    · have i1 : I64 ((i : Int) + 1) := by unfold I64; omega
      simp [HyB, hkl, i1]
      refine ⟨i + 1, ⟨by omega, fun j hj => ?_⟩, by omega, weak_eq (by simp) (by simp [HyB])⟩
      rcases Nat.lt_or_eq_of_le (Nat.le_of_lt_succ hj) with h | rfl
      · exact hx j h
      · exact okE_true he fun k hk => hy k (by omega)
  · have : ValidH h := ⟨by omega, by omega, by omega, fun e he => by
      obtain ⟨j, hj, rfl⟩ := List.mem_iff_getElem.1 he
      have := hx j (by omega)
      rwa [ix_lt hj] at this⟩
    simp [HyB, hl, this]
end Go.Proofs.YtfoipbjhaiimlaaGreatDoor


/-
  layers 29 and 31: the reference's Valid; small; fractions looked for; ones.
-/
namespace Go.Proofs.YtfoipbjhaiimlaaGreatDoor
open Go.RowKit
set_option linter.unusedSimpArgs false
set_option linter.unusedVariables false
set_option maxRecDepth 100000

set_option maxHeartbeats 8000000 in
theorem validHR : PureOK Tryz.prog G0 28 sValidH := by
  refine pure1 (C := CE) sigCE mixCE Tryz.func28 rfl rfl rfl (by kernel_rfl) (by decide) (fun h hs => ?_)
  have hsn := hs.n
  by_cases h1 : h.N < 0
  · have : ¬ ValidH h := fun hv => by have := hv.1; omega
    simp [h1, this]
  by_cases h2 : 24 < h.N
  · have : ¬ ValidH h := fun hv => by have := hv.2.1; omega
    simp [h1, h2, this]
  by_cases h3 : (12 : Int) < h.E.length
  · have : ¬ ValidH h := fun hv => by have := hv.2.2.1; omega
    simp [h1, h2, h3, this]
  simp [h1, h2, h3]
  refine loop_rule (C := CE) sigCE mixCE (fun i : Nat => ⟨[(1, .ptr 0 1 2 0 0), (3, .int .i64 i)], [HyB h]⟩) (fun i => i ≤ h.E.length ∧ ∀ j < i, OkE h.N (ix h.E j)) (fun i => h.E.length - i) (by kernel_rfl) ⟨0, by simp, weak_eq (by simp) (by simp [HyB])⟩ (fun i ⟨hi, hx⟩ => ?_)
  by_cases hl : i < h.E.length
  · have hel : (ix h.E i).length ≤ 1000000 := hs.e _ (ix_mem hl)
    by_cases he : ix h.E i = []
    · have : ¬ ValidH h := fun hv => (hv.2.2.2 _ (ix_mem hl)).1 he
      simp [HyB, hl, rowAt_enc hl, he, this]
    have he0 : ¬ (ix h.E i).length = 0 := fun h => he (List.length_eq_zero_iff.1 h)
    simp [HyB, hl, rowAt_enc hl, he, he0]
    refine loop_rule (C := CE) sigCE mixCE (fun k : Nat => ⟨[(1, .ptr 0 1 2 0 0), (3, .int .i64 i), (4, Enc.enc (ix h.E i)), (5, .int .i64 k)], [HyB h]⟩) (fun k => k ≤ (ix h.E i).length ∧ ∀ j < k, ¬ BadE h.N (ix h.E i) j) (fun k => (ix h.E i).length - k) (by kernel_rfl) ⟨0, by simp, weak_eq (by simp) (by simp [HyB])⟩ (fun k ⟨hk, hy⟩ => ?_)
    by_cases hkl : k < (ix h.E i).length
    · by_cases hb : BadE h.N (ix h.E i) k
      · have hv : ¬ ValidH h := fun hv => okE_false hkl hb (hv.2.2.2 _ (ix_mem hl))
        have hb' := hb
        unfold BadE at hb'
        by_cases q1 : ix (ix h.E i) k < 0
        · simp [HyB, hkl, rowAt_enc hkl, q1, hv]
        by_cases q2 : h.N ≤ ix (ix h.E i) k
        · simp [HyB, hkl, rowAt_enc hkl, q1, q2, hv]
        have q3 : 0 < k := by omega
        have q4 : ix (ix h.E i) k ≤ ix (ix h.E i) (k - 1) := by omega
        have q5 : k - 1 < (ix h.E i).length := by omega
        have q6 : ((k : Int) - 1).toNat = k - 1 := by omega
        have q7 : (k : Int) - 1 < (ix h.E i).length := by omega
        have q8 : (0 : Int) ≤ (k : Int) - 1 := by omega
        have q9 : I64 ((k : Int) - 1) := by unfold I64; omega
        simp [HyB, hkl, rowAt_enc hkl, q1, q2, q3, q4, q6, q7, q8, q9, rowAt_enc q5, hv]
        omega
      · have hb' := hb
        unfold BadE at hb'
        have q1 : ¬ ix (ix h.E i) k < 0 := by omega
        have q2 : ¬ h.N ≤ ix (ix h.E i) k := by omega
        have i1 : I64 ((k : Int) + 1) := by unfold I64; omega
        have fin : ∀ j < k + 1, ¬ BadE h.N (ix h.E i) j := fun j hj => by
          rcases Nat.lt_or_eq_of_le (Nat.le_of_lt_succ hj) with h | rfl
          · exact hy j h
          · exact hb
        by_cases q3 : 0 < k
        · have q4 : ¬ ix (ix h.E i) k ≤ ix (ix h.E i) (k - 1) := by omega
          have q5 : k - 1 < (ix h.E i).length := by omega
          have q6 : ((k : Int) - 1).toNat = k - 1 := by omega
          have q7 : (k : Int) - 1 < (ix h.E i).length := by omega
          have q8 : (0 : Int) ≤ (k : Int) - 1 := by omega
          have q9 : I64 ((k : Int) - 1) := by unfold I64; omega
          simp [HyB, hkl, rowAt_enc hkl, q1, q2, q3, q4, q6, q7, q8, q9, rowAt_enc q5, i1]
          exact ⟨by omega, k + 1, ⟨by omega, fin⟩, by omega, weak_eq (by simp) (by simp [HyB])⟩
        · simp [HyB, hkl, rowAt_enc hkl, q1, q2, q3, i1]
          exact ⟨k + 1, ⟨by omega, fin⟩, by omega, weak_eq (by simp) (by simp [HyB])⟩
    · have i1 : I64 ((i : Int) + 1) := by unfold I64; omega
      simp [HyB, hkl, i1]
      refine ⟨i + 1, ⟨by omega, fun j hj => ?_⟩, by omega, weak_eq (by simp) (by simp [HyB])⟩
      rcases Nat.lt_or_eq_of_le (Nat.le_of_lt_succ hj) with h | rfl
      · exact hx j h
      · exact okE_true he fun k hk => hy k (by omega)
  · have : ValidH h := ⟨by omega, by omega, by omega, fun e he => by
      obtain ⟨j, hj, rfl⟩ := List.mem_iff_getElem.1 he
      have := hx j (by omega)
      rwa [ix_lt hj] at this⟩
    simp [HyB, hl, this]

structure LightH (h : Hy) : Prop where
  n : h.E.length ≤ 14
  e : ∀ e ∈ h.E, e.length ≤ 30
instance (h : Hy) : Decidable (LightH h) := decidable_of_iff (h.E.length ≤ 14 ∧ ∀ e ∈ h.E, e.length ≤ 30) ⟨fun h => ⟨h.1, h.2⟩, fun h => ⟨h.n, h.e⟩⟩
theorem LightH.small {h : Hy} (l : LightH h) : SmallH h := ⟨by have := l.n; omega, fun e he => by have := l.e e he; omega⟩
instance : DecidableEq Fr := fun a b => if h : a.N = b.N ∧ a.D = b.D then .isTrue (by cases a; cases b; simp_all) else .isFalse (fun e => h (by rw [e]; exact ⟨rfl, rfl⟩))
def sIdxF : List AV → Option (Prop × AV) := spec2 (fun (l : List Fr) (_ : Fr) => l.length ≤ 1000000) (fun l v => .int .i64 (idxF l v 0))
theorem frx_eq (a b : Fr) : (a = b) = (a.N = b.N ∧ a.D = b.D) := by
  apply propext
  constructor
  · rintro rfl; exact ⟨rfl, rfl⟩
  · rintro ⟨h1, h2⟩; cases a; cases b; simp_all
set_option maxHeartbeats 4000000 in
theorem idxFP : PureOK Tryz.prog G0 59 sIdxF := by
  refine pure2 (C := CE) sigCE mixCE Tryz.func59 rfl rfl rfl (by kernel_rfl) (by decide) (fun l v hl => ?_)
  simp
  refine loop_rule (C := CE) sigCE mixCE (fun i : Nat => ⟨[(0, Enc.enc l), (3, .ptr 0 1 2 0 0), (7, .int .i64 l.length), (8, .int .i64 i)], [FB v]⟩) (fun i => i ≤ l.length ∧ idxF (l.drop i) v i = idxF l v 0) (fun i => l.length - i) (by kernel_rfl) ⟨0, by simp, weak_eq (by simp) (by simp [FB])⟩ (fun i ⟨hi, hx⟩ => ?_)
  by_cases h : i < l.length
  · have i1 : I64 ((i : Int) + 1) := by unfold I64; omega
    rw [idxF_drop h] at hx
    by_cases e : v = ix l i
    · rw [if_pos e] at hx
      rw [frx_eq] at e
      simp [FB, h, rowAt_enc h, ← e.1, ← e.2, ← hx]
    · rw [if_neg e] at hx
      rw [frx_eq] at e
      by_cases e1 : v.N = (ix l i).N
      · have e2 : ¬ v.D = (ix l i).D := fun h => e ⟨e1, h⟩
        simp [FB, h, rowAt_enc h, e1, e2, i1]
        exact ⟨i + 1, ⟨by omega, hx⟩, by omega, weak_eq (by simp) (by simp [FB, e1])⟩
      · simp [FB, h, rowAt_enc h, e1, i1]
        exact ⟨i + 1, ⟨by omega, hx⟩, by omega, weak_eq (by simp) (by simp [FB])⟩
  · rw [idxF_end h] at hx
    simp [FB, h, ← hx]
def sConF : List AV → Option (Prop × AV) := spec2 (fun (l : List Fr) (_ : Fr) => l.length ≤ 1000000) (fun l v => .bool (decide (v ∈ l)))
noncomputable def CIf : Ctx := mkC Tryz.prog G0 [(59, .pure sIdxF)]
@[simp] theorem CIf_P : CIf.P = Tryz.prog := rfl
@[simp] theorem CIf_G : CIf.G = G0 := rfl
@[simp] theorem CIf_1 : CIf.S 59 = .pure sIdxF := rfl
theorem mixCIf : CIf.P.follows .mixedOrders = true := mixed
theorem sigCIf : SigOK CIf := sigOK_cons (entryPure (idxFP) Tryz.func59 rfl (by decide)) (sigOK_nil _ _)
theorem conFP : PureOK Tryz.prog G0 27 sConF := by
  refine pure2 (C := CIf) sigCIf mixCIf Tryz.func27 rfl rfl rfl (by kernel_rfl) (by decide) (fun l v hl => ?_)
  simp [sIdxF, hl, idxF_lt l 0 (Int.le_refl 0)]

def entF (b : Bool) : Fr := if b then F11 else F01
def sEntry : List AV → Option (Prop × AV) := spec1 (fun (_ : Bool) => True) (fun b => Enc.enc (entF b))
theorem entryP : PureOK Tryz.prog G0 25 sEntry := by
  refine pure1 (C := CE) sigCE mixCE Tryz.func25 rfl rfl rfl (by kernel_rfl) (by decide) (fun b _ => ?_)
  cases b <;> simp [entF, F11, F01]
theorem oneR : PureOK Tryz.prog G0 30 (spec0 (Enc.enc F11)) := by
  refine pureH0 (C := CE) sigCE mixCE Tryz.func30 rfl rfl rfl [] (by kernel_rfl) ?_
  simp [F11]
end Go.Proofs.YtfoipbjhaiimlaaGreatDoor


/-
  slices.Repeat of one fraction; ones.
-/
namespace Go.Proofs.YtfoipbjhaiimlaaGreatDoor
open Go.RowKit
set_option linter.unusedSimpArgs false
set_option linter.unusedVariables false
set_option maxRecDepth 100000

noncomputable def CMu : Ctx := mkC Tryz.prog G0 [(129, .pure sMul64)]
@[simp] theorem CMu_P : CMu.P = Tryz.prog := rfl
@[simp] theorem CMu_G : CMu.G = G0 := rfl
@[simp] theorem CMu_1 : CMu.S 129 = .pure sMul64 := rfl
theorem mixCMu : CMu.P.follows .mixedOrders = true := mixed
theorem sigCMu : SigOK CMu := sigOK_cons (entryPure (mul64P) Tryz.func129 rfl (by decide)) (sigOK_nil _ _)
def sMulU : List AV → Option (Prop × AV)
  | [.int .u64 a, .int .u64 b] => some (a = 1 ∧ 0 ≤ b ∧ b ≤ 1000, .tup [.int .u64 0, .int .u64 b])
  | _ => none
theorem mulUP : PureOK Tryz.prog G0 97 sMulU := by
  refine pure_of (C := CMu) sigCMu mixCMu Tryz.func97 rfl rfl rfl (by kernel_rfl) (fun avs ob r hp hob => ?_)
  unfold sMulU at hp
  split at hp
  case h_2 => cases hp
  injection hp with hp; injection hp with e1 e2; subst e1 e2
  rename_i a b
  obtain ⟨rfl, h1, h2⟩ := hob
  refine ⟨by show 2 ≤ _; decide, ?_⟩
  have q1 : W64 1 := by unfold W64; omega
  have q2 : W64 b := by unfold W64; omega
  have q3 : b / 18446744073709551616 = 0 := by omega
  have q4 : b % 18446744073709551616 = b := by omega
  simp [argsρ, sMul64, q1, q2, q3, q4]
def rpK (f : Fr) (n k : Nat) : List Fr := List.replicate k f ++ List.replicate (n - k) F00
theorem rpK_len {f : Fr} {n k : Nat} (h : k ≤ n) : (rpK f n k).length = n := by unfold rpK; simp; omega
theorem rpK_step {f : Fr} {n k : Nat} (h : k ≤ n) : (rpK f n k).take k ++ (((rpK f n k).drop 0).take k).take (n - k) ++ (rpK f n k).drop (k + min k (n - k)) = rpK f n (k + min k (n - k)) := by
  have e1 : (rpK f n k).take k = List.replicate k f := by unfold rpK; rw [List.take_left' (by simp)]
  rw [List.drop_zero, e1, List.take_replicate]
  unfold rpK
  rw [List.drop_append, List.drop_replicate, List.drop_replicate, List.length_replicate, show k - (k + min k (n - k)) = 0 by omega, List.replicate_zero, List.nil_append, List.replicate_append_replicate]
  congr 2
  · omega
  · omega
def sRepeat : List AV → Option (Prop × AV) := spec2 (fun (l : List Fr) (n : Int) => l.length = 1 ∧ 0 ≤ n ∧ n ≤ 1000) (fun l n => Enc.enc (List.replicate n.toNat (ix l 0)))
noncomputable def CRt : Ctx := mkC Tryz.prog G0 [(97, .pure sMulU)]
@[simp] theorem CRt_P : CRt.P = Tryz.prog := rfl
@[simp] theorem CRt_G : CRt.G = G0 := rfl
@[simp] theorem CRt_1 : CRt.S 97 = .pure sMulU := rfl
theorem mixCRt : CRt.P.follows .mixedOrders = true := mixed
theorem sigCRt : SigOK CRt := sigOK_cons (entryPure (mulUP) Tryz.func97 rfl (by decide)) (sigOK_nil _ _)
set_option maxHeartbeats 8000000 in
theorem repeatP : PureOK Tryz.prog G0 57 sRepeat := by
  refine pure2 (C := CRt) sigCRt mixCRt Tryz.func57 rfl rfl rfl (by kernel_rfl) (by decide) (fun l n ⟨hl, h1, h2⟩ => ?_)
  obtain ⟨f, rfl⟩ := List.length_eq_one_iff.1 hl
  obtain ⟨n, rfl⟩ := Int.eq_ofNat_of_zero_le h1
  have w1 : IntKind.wrap .u64 (n : Int) = n := by rw [IntKind.wrap_u64]; omega
  have w2 : IntKind.wrap .i64 (n : Int) = n := IntWalk.i64_in _ (by omega)
  have w3 : IntKind.wrap .u64 1 = 1 := by decide
  have w4 : ¬ (9223372036854775807 : Int) < n := by omega
  have w5 : ¬ (n : Int) < 0 := by omega
  by_cases n0 : n = 0
  · subst n0
    have w0 : IntKind.wrap .u64 0 = 0 := by decide
    have w00 : IntKind.wrap .i64 0 = 0 := by decide
    simp [sMulU, w0, w00, w3]
    refine loop_rule (C := CRt) sigCRt mixCRt (fun _ : Nat => ⟨[(7, .own 0 0), (8, .int .i64 0)], [⟨35, 2, [], true, true⟩]⟩) (fun _ => True) (fun k => k) (by kernel_rfl) ⟨0, trivial, weak_eq (by simp) (by simp)⟩ (fun _ _ => ?_)
    simp
  have n1 : min 1 n = 1 := by omega
  have n2 : List.take n [[AV.int .i64 f.N, AV.int .i64 f.D]] = [[.int .i64 f.N, .int .i64 f.D]] := List.take_of_length_le (by simp; omega)
  have e1 : [[AV.int .i64 f.N, AV.int .i64 f.D]] ++ List.replicate (n - 1) [AV.int .i64 0, AV.int .i64 0] = encRows (rpK f n 1) := by
    unfold rpK
    rw [encRows_append]
    simp [encRows, F00]
  simp [sMulU, w1, w2, w3, w4, w5, h2]
  refine ⟨(by first | omega | (unfold I64; omega)), ?_⟩
  refine loop_rule (C := CRt) sigCRt mixCRt (fun k : Nat => ⟨[(7, .own 0 n), (8, .int .i64 k)], [⟨35, 2, encRows (rpK f n k), true, true⟩]⟩) (fun k => 1 ≤ k ∧ k ≤ n) (fun k => n - k) (by kernel_rfl) ⟨1, by omega, weak_eq (by simp [n1]) (by rw [n1, n2]; simpa using e1)⟩ (fun k ⟨k1, k2⟩ => ?_)
  have hlen := rpK_len (f := f) k2
  by_cases hk : k < n
  · have hst := rpK_step (f := f) k2
    have i1 : I64 ((k : Int) + (min k (n - k) : Nat)) := by unfold I64; omega
    have k3 : (k : Int) ≤ n := by omega
    simp [hlen, hk, k3, i1]
    refine ⟨k + min k (n - k), by omega, by omega, weak_eq (by simp) ?_⟩
    rw [List.drop_zero] at hst
    rw [← hst]
    simp [List.append_assoc]
  · have : k = n := by omega
    subst this
    simp [hk, hlen]
    simp [rpK]
    rfl
end Go.Proofs.YtfoipbjhaiimlaaGreatDoor


/-
  layer 31: the linear program of a hypergraph, the program's side.
-/
namespace Go.Proofs.YtfoipbjhaiimlaaGreatDoor
open Go.RowKit
set_option linter.unusedSimpArgs false
set_option linter.unusedVariables false
set_option maxRecDepth 100000

def sOnes : List AV → Option (Prop × AV) := spec1 (fun (n : Int) => 0 ≤ n ∧ n ≤ 1000) (fun n => Enc.enc (List.replicate n.toNat F11))
noncomputable def COn : Ctx := mkC Tryz.prog G0 [(25, .pure sEntry), (57, .pure sRepeat)]
@[simp] theorem COn_P : COn.P = Tryz.prog := rfl
@[simp] theorem COn_G : COn.G = G0 := rfl
@[simp] theorem COn_1 : COn.S 25 = .pure sEntry := rfl
@[simp] theorem COn_2 : COn.S 57 = .pure sRepeat := rfl
theorem mixCOn : COn.P.follows .mixedOrders = true := mixed
theorem sigCOn : SigOK COn := sigOK_cons (entryPure (entryP) Tryz.func25 rfl (by decide)) (sigOK_cons (entryPure (repeatP) Tryz.func57 rfl (by decide)) (sigOK_nil _ _))
theorem onesP : PureOK Tryz.prog G0 24 sOnes := by
  refine pure1 (C := COn) sigCOn mixCOn Tryz.func24 rfl rfl rfl (by kernel_rfl) (by decide) (fun n ⟨h1, h2⟩ => ?_)
  have e : isScalT COn 28 = true := by show isScalT ⟨Tryz.prog, fun _ => .no, G0⟩ 28 = true; kernel_rfl
  have e1 : Enc.dec (.slice 2 false [[.int .i64 1, .int .i64 1]]) = [F11] := rfl
  have e2 : ix [F11] 0 = F11 := rfl
  simp [sEntry, sRepeat, entF, F11, h1, h2, e]
  rfl

/-- The row of a vertex. -/
def rowH (h : Hy) (v : Nat) : List Fr := h.E.map fun e => entF (decide ((v : Int) ∈ e))
def matH (h : Hy) (k : Nat) : List (List Fr) := (List.range k).map (rowH h)
theorem matH_succ (h : Hy) (k : Nat) : matH h (k + 1) = matH h k ++ [rowH h k] := by unfold matH; rw [List.range_succ, List.map_append]; rfl
theorem matH_len (h : Hy) (k : Nat) : (matH h k).length = k := by unfold matH; simp
def linH (h : Hy) : Lin := ⟨matH h h.N.toNat, List.replicate h.N.toNat F11, List.replicate h.E.length F11⟩
/-- Vertex v is in some edge. -/
def SomeH (h : Hy) (v : Nat) : Prop := ∃ e ∈ h.E, (v : Int) ∈ e
instance (h : Hy) (v : Nat) : Decidable (SomeH h v) := by unfold SomeH; infer_instance
def progH (h : Hy) : Lin × Int := if ¬ ValidH h ∨ h.N = 0 then (L00, 1) else if ∀ v, v < h.N.toNat → SomeH h v then (linH h, 0) else (L00, 23)
theorem mem_rowH (h : Hy) (v : Nat) : F11 ∈ rowH h v ↔ SomeH h v := by
  unfold rowH SomeH
  rw [List.mem_map]
  constructor
  · rintro ⟨e, he, h1⟩
    refine ⟨e, he, ?_⟩
    by_cases hv : (v : Int) ∈ e
    · exact hv
    · exfalso; rw [decide_eq_false hv] at h1; revert h1; decide
  · rintro ⟨e, he, hv⟩
    exact ⟨e, he, by rw [decide_eq_true hv]; rfl⟩

def rowI (h : Hy) (v i : Nat) : List Fr := (rowH h v).take i ++ List.replicate (h.E.length - i) F00
theorem rowH_len (h : Hy) (v : Nat) : (rowH h v).length = h.E.length := by unfold rowH; simp
theorem rowI_len {h : Hy} {v i : Nat} (hi : i ≤ h.E.length) : (rowI h v i).length = h.E.length := by unfold rowI; simp [rowH_len]; omega
theorem rowI_set {h : Hy} {v i : Nat} (hi : i < h.E.length) : (rowI h v i).set i (entF (decide ((v : Int) ∈ ix h.E i))) = rowI h v (i + 1) := by
  have hl := rowH_len h v
  have e : ix (rowH h v) i = entF (decide ((v : Int) ∈ ix h.E i)) := by
    rw [ix_lt (by omega), ix_lt hi]
    unfold rowH
    rw [List.getElem_map]
  have ht : ((rowH h v).take i).length = i := by rw [List.length_take]; omega
  unfold rowI
  rw [List.set_append, if_neg (by rw [ht]; omega), ht, Nat.sub_self, show h.E.length - i = (h.E.length - (i + 1)) + 1 by omega, List.replicate_succ, List.set_cons_zero, List.take_succ_eq_append_getElem (by omega), ← ix_lt (show i < (rowH h v).length by omega), e, List.append_assoc]
  rfl
theorem rowI_all (h : Hy) (v : Nat) : rowI h v h.E.length = rowH h v := by unfold rowI; rw [Nat.sub_self, List.take_of_length_le (by rw [rowH_len]; exact Nat.le_refl _)]; simp
theorem rowI_nil (h : Hy) (v : Nat) : rowI h v 0 = List.replicate h.E.length F00 := by unfold rowI; simp
def PLB (h : Hy) (v : Nat) : Blk := ⟨30, 3, [[.own 3 v, .slice 2 false (encRows (List.replicate h.N.toNat F11)), .slice 2 false (encRows (List.replicate h.E.length F11))]], true, false⟩
@[simp] theorem rows_repF00 (n : Nat) : List.replicate n [AV.int .i64 0, AV.int .i64 0] = encRows (List.replicate n F00) := by simp [encRows, F00]
@[simp] theorem rows_setF (l : List Fr) (i : Nat) (x : Fr) : (encRows l).set i [.int .i64 x.N, .int .i64 x.D] = encRows (l.set i x) := encRows_set l i x
@[simp] theorem entF_t : entF true = F11 := rfl
def sProg : List AV → Option (Prop × AV) := spec1 SmallH (fun h => .tup [Enc.enc (progH h).1, .int .i64 (progH h).2])
noncomputable def CPr : Ctx := mkC Tryz.prog G0 [(23, .pure sValidH), (24, .pure sOnes), (25, .pure sEntry), (26, .pure sConI), (27, .pure sConF)]
@[simp] theorem CPr_P : CPr.P = Tryz.prog := rfl
@[simp] theorem CPr_G : CPr.G = G0 := rfl
@[simp] theorem CPr_1 : CPr.S 23 = .pure sValidH := rfl
@[simp] theorem CPr_2 : CPr.S 24 = .pure sOnes := rfl
@[simp] theorem CPr_3 : CPr.S 25 = .pure sEntry := rfl
@[simp] theorem CPr_4 : CPr.S 26 = .pure sConI := rfl
@[simp] theorem CPr_5 : CPr.S 27 = .pure sConF := rfl
theorem mixCPr : CPr.P.follows .mixedOrders = true := mixed
theorem sigCPr : SigOK CPr := sigOK_cons (entryPure (validHP) Tryz.func23 rfl (by decide)) (sigOK_cons (entryPure (onesP) Tryz.func24 rfl (by decide)) (sigOK_cons (entryPure (entryP) Tryz.func25 rfl (by decide)) (sigOK_cons (entryPure (conI) Tryz.func26 rfl (by decide)) (sigOK_cons (entryPure (conFP) Tryz.func27 rfl (by decide)) (sigOK_nil _ _)))))
set_option maxHeartbeats 16000000 in
theorem programP : PureOK Tryz.prog G0 7 sProg := by
  refine pureH1 (C := CPr) sigCPr mixCPr Tryz.func7 rfl rfl rfl [3] (by kernel_rfl) (by decide) (fun h hs => ?_)
  by_cases hv : ValidH h
  case neg =>
    have e : progH h = (L00, 1) := if_pos (.inl hv)
    simp [sValidH, hs, hv, e, L00]
  by_cases h0 : h.N = 0
  · have e : progH h = (L00, 1) := if_pos (.inr h0)
    have h0' : (h.N = 0) = True := eq_true h0
    simp [sValidH, hs, hv, h0', e, L00]
  obtain ⟨v1, v2, v3, v4⟩ := hv
  have hv : ValidH h := ⟨v1, v2, v3, v4⟩
  have hN : ((h.N.toNat : Nat) : Int) = h.N := by omega
  have hb : h.N ≤ 1000 := by omega
  have hb2 : (h.E.length : Int) ≤ 1000 := by omega
  have hp : progH h = if ∀ v, v < h.N.toNat → SomeH h v then (linH h, 0) else (L00, 23) := if_neg (by rintro (h | h) <;> contradiction)
  have sc : isScalT CPr 27 = false := by show isScalT ⟨Tryz.prog, fun _ => .no, G0⟩ 27 = false; kernel_rfl
  obtain ⟨P, ec, hP⟩ : ∃ P ec, progH h = (P, ec) := ⟨_, _, rfl⟩
  simp [sValidH, hs, hv, h0, hP]
  refine AW_regionF sigCPr mixCPr [.pure, .read, .read, .pure, .read, .pure, .read, .pure, .eff, .eff] [[],[0],[0,1],[],[3],[3,4],[1,0,2,4,3,5],[5,3,4,6,1,0,2],[],[2,0,1,6,4,3,5,7,8]] (by kernel_rfl) (by kernel_rfl) (by kernel_rfl) (by kernel_rfl) ?_
  simp [sOnes, v1, hb, hb2]
  refine AW.weak (weak_nilcell 2 0 0 1 28 rfl rfl rfl (by decide)) ?_
  refine loop_ruleH (C := CPr) sigCPr mixCPr [3] (fun v : Nat => ⟨[(1, .ptr 0 1 2 0 0), (2, .ptr 1 1 3 0 0), (4, .ptr 2 1 3 0 0), (27, .int .i64 h.N), (28, .int .i64 v)], [HyB h, ZLB, PLB h v, R1B (matH h v)]⟩) (fun v => v ≤ h.N.toNat ∧ ∀ u < v, SomeH h u) (fun v => h.N.toNat - v) (by kernel_rfl) ⟨0, by simp, weak_eq (by simp) (by simp [HyB, ZLB, PLB, R1B, matH])⟩ (fun v ⟨hv1, hv2⟩ => ?_)
  have hml := matH_len h v
  by_cases hlt : v < h.N.toNat
  · have hlt' : (v : Int) < h.N := by omega
    have i1 : I64 ((v : Int) + 1) := by unfold I64; omega
    simp [HyB, ZLB, PLB, R1B, hlt']
    refine ⟨(by first | omega | (unfold I64; omega)), ?_⟩
    refine loop_ruleH (C := CPr) sigCPr mixCPr [3] (fun i : Nat => ⟨[(1, .ptr 0 1 2 0 0), (2, .ptr 1 1 3 0 0), (4, .ptr 2 1 3 0 0), (5, .int .i64 v), (6, .own 4 h.E.length), (27, .int .i64 h.N), (28, .int .i64 v), (36, Enc.enc h.E), (37, .int .i64 h.E.length), (38, .int .i64 i)], [HyB h, ZLB, PLB h v, R1B (matH h v), R2B (rowI h v i)]⟩) (fun i => i ≤ h.E.length) (fun i => h.E.length - i) (by kernel_rfl) ⟨0, by simp, weak_eq (by simp) (by simp [HyB, ZLB, PLB, R1B, R2B, rowI_nil])⟩ (fun i hi => ?_)
    have hri := rowI_len (v := v) hi
    by_cases hil : i < h.E.length
    · have i2 : I64 ((i : Int) + 1) := by unfold I64; omega
      have hel : (ix h.E i).length ≤ 1000000 := hs.e _ (ix_mem hil)
      have hset := rowI_set (v := v) hil
      have hri' : i < (rowI h v i).length := by omega
      simp [HyB, ZLB, PLB, R1B, R2B, hil, rowAt_enc hil, rowAt_enc hri', sConI, hel, sEntry, hri, i2]
      refine ⟨i + 1, by omega, by omega, weak_eq (by simp) ?_⟩
      rw [← hset]
    · have : i = h.E.length := by omega
      subst this
      rw [rowI_all]
      have hrl := rowH_len h v
      have hm := mem_rowH h v
      have hrl2 : h.E.length ≤ 1000000 := by omega
      by_cases hsome : SomeH h v
      · have hc : decide (F11 ∈ rowH h v) = true := decide_eq_true (hm.2 hsome)
        simp [HyB, ZLB, PLB, R1B, R2B, hil, sConF, sEntry, hrl, hrl2, hc, hml, i1, sc]
        refine ⟨(by first | omega | (unfold I64; omega)), v + 1, ⟨by omega, fun u hu => ?_⟩, by omega, weak_keep 4 (by simp) (by simp) (by simp [AV.clean, AV.clean1]) ?_ ?_⟩
        · rcases Nat.lt_or_eq_of_le (Nat.le_of_lt_succ hu) with hu | rfl
          · exact hv2 u hu
          · exact hsome
        · simp [AV.clean, AV.clean1]
        · rw [matH_succ]
          simp [HyB, ZLB, PLB, R1B]
      · have hc : decide (F11 ∈ rowH h v) = false := decide_eq_false (fun e => hsome (hm.1 e))
        have e : progH h = (L00, 23) := by rw [hp, if_neg (fun hh => hsome (hh v hlt))]
        rw [hP] at e
        injection e with e1 e2
        subst e1 e2
        simp [HyB, ZLB, PLB, R1B, R2B, hil, sConF, sEntry, hrl, hrl2, hc, hml, L00]
        done
  · have hlt' : ¬ (v : Int) < h.N := by omega
    have hve : v = h.N.toNat := by omega
    have e : progH h = (linH h, 0) := by rw [hp, if_pos (fun u hu => hv2 u (by omega))]
    rw [hP] at e
    injection e with e1 e2
    subst e1 e2
    simp [HyB, ZLB, PLB, R1B, hlt', hml]
    simp [linH, hve]
end Go.Proofs.YtfoipbjhaiimlaaGreatDoor


/-
  layer 31: the linear program of a hypergraph, the reference's side; its number and weights.
-/
namespace Go.Proofs.YtfoipbjhaiimlaaGreatDoor
open Go.RowKit
set_option linter.unusedSimpArgs false
set_option linter.unusedVariables false
set_option maxRecDepth 100000

def RLB (a b c : Nat) : Blk := ⟨30, 3, [[.own 3 a, .own 4 b, .own 5 c]], true, false⟩
def smB (h : Hy) (v i : Nat) : Bool := (h.E.take i).any fun e => decide ((v : Int) ∈ e)
theorem smB_succ {h : Hy} {v i : Nat} (hi : i < h.E.length) : smB h v (i + 1) = (smB h v i || decide ((v : Int) ∈ ix h.E i)) := by
  unfold smB
  rw [List.take_succ_eq_append_getElem hi, List.any_append, ix_lt hi]
  simp
theorem smB_all (h : Hy) (v : Nat) : smB h v h.E.length = decide (SomeH h v) := by
  unfold smB
  rw [List.take_length]
  by_cases hh : SomeH h v
  · rw [decide_eq_true hh]
    obtain ⟨e, h1, h2⟩ := hh
    exact List.any_eq_true.2 ⟨e, h1, by simpa using h2⟩
  · rw [decide_eq_false hh]
    refine List.any_eq_false.2 fun e he hx => hh ⟨e, he, by simpa using hx⟩
theorem rowH_succ {h : Hy} {v i : Nat} (hi : i < h.E.length) : (rowH h v).take (i + 1) = (rowH h v).take i ++ [entF (decide ((v : Int) ∈ ix h.E i))] := by
  have hl := rowH_len h v
  rw [List.take_succ_eq_append_getElem (by omega)]
  congr 2
  rw [ix_lt hi]
  unfold rowH
  rw [List.getElem_map]
theorem rep_succ (n : Nat) (x : Fr) : List.replicate n x ++ [x] = List.replicate (n + 1) x := by rw [List.replicate_succ']
@[simp] theorem rows_snocF (l : List Fr) (a b : Int) : encRows l ++ [[.int .i64 a, .int .i64 b]] = encRows (l ++ [⟨a, b⟩]) := by rw [encRows_append]; rfl
noncomputable def CRp2 : Ctx := mkC Tryz.prog G0 [(28, .pure sValidH), (29, .pure sConI), (30, .pure (spec0 (Enc.enc F11)))]
@[simp] theorem CRp2_P : CRp2.P = Tryz.prog := rfl
@[simp] theorem CRp2_G : CRp2.G = G0 := rfl
@[simp] theorem CRp2_1 : CRp2.S 28 = .pure sValidH := rfl
@[simp] theorem CRp2_2 : CRp2.S 29 = .pure sConI := rfl
@[simp] theorem CRp2_3 : CRp2.S 30 = .pure (spec0 (Enc.enc F11)) := rfl
theorem mixCRp2 : CRp2.P.follows .mixedOrders = true := mixed
theorem sigCRp2 : SigOK CRp2 := sigOK_cons (entryPure (validHR) Tryz.func28 rfl (by decide)) (sigOK_cons (entryPure (hasR) Tryz.func29 rfl (by decide)) (sigOK_cons (entryPure (oneR) Tryz.func30 rfl (by decide)) (sigOK_nil _ _)))
set_option maxHeartbeats 16000000 in
theorem programR : PureOK Tryz.prog G0 8 sProg := by
  refine pureH1 (C := CRp2) sigCRp2 mixCRp2 Tryz.func8 rfl rfl rfl [20, 24] (by kernel_rfl) (by decide) (fun h hs => ?_)
  by_cases hv : ValidH h
  case neg =>
    have e : progH h = (L00, 1) := if_pos (.inl hv)
    simp [sValidH, hs, hv, e, L00]
  by_cases h0 : h.N = 0
  · have e : progH h = (L00, 1) := if_pos (.inr h0)
    have h0' : (h.N = 0) = True := eq_true h0
    simp [sValidH, hs, hv, h0', e, L00]
  obtain ⟨v1, v2, v3, v4⟩ := hv
  have hv : ValidH h := ⟨v1, v2, v3, v4⟩
  have hN : ((h.N.toNat : Nat) : Int) = h.N := by omega
  have hp : progH h = if ∀ v, v < h.N.toNat → SomeH h v then (linH h, 0) else (L00, 23) := if_neg (by rintro (h | h) <;> contradiction)
  have sc : isScalT CRp2 27 = false := by show isScalT ⟨Tryz.prog, fun _ => .no, G0⟩ 27 = false; kernel_rfl
  have sc2 : isScalT CRp2 28 = true := by show isScalT ⟨Tryz.prog, fun _ => .no, G0⟩ 28 = true; kernel_rfl
  obtain ⟨P, ec, hP⟩ : ∃ P ec, progH h = (P, ec) := ⟨_, _, rfl⟩
  simp [sValidH, hs, hv, h0, hP]
  refine AW.weak (weak_nilcell 2 0 0 1 28 rfl rfl rfl (by decide)) ?_
  refine AW.weak (weak_nilcell 2 0 1 2 35 rfl rfl rfl (by decide)) ?_
  refine AW.weak (weak_nilcell 2 0 2 2 35 rfl rfl rfl (by decide)) ?_
  refine loop_ruleH (C := CRp2) sigCRp2 mixCRp2 [20, 24] (fun v : Nat => ⟨[(1, .ptr 0 1 2 0 0), (2, .ptr 1 1 3 0 0), (4, .ptr 2 1 3 0 0), (5, .int .i64 v)], [HyB h, ZLB, RLB v v 0, R1B (matH h v), R2B (List.replicate v F11), R2B []]⟩) (fun v => v ≤ h.N.toNat ∧ ∀ u < v, SomeH h u) (fun v => h.N.toNat - v) (by kernel_rfl) ⟨0, by simp, weak_eq (by simp) (by simp [HyB, ZLB, RLB, R1B, R2B, matH])⟩ (fun v ⟨hv1, hv2⟩ => ?_)
  have hml := matH_len h v
  by_cases hlt : v < h.N.toNat
  · have hlt' : (v : Int) < h.N := by omega
    have i1 : I64 ((v : Int) + 1) := by unfold I64; omega
    simp [HyB, ZLB, RLB, R1B, R2B, hlt']
    refine AW.weak (weak_nil 6 2 35 rfl (by decide)) ?_
    refine loop_ruleH (C := CRp2) sigCRp2 mixCRp2 [20, 24] (fun i : Nat => ⟨[(1, .ptr 0 1 2 0 0), (2, .ptr 1 1 3 0 0), (4, .ptr 2 1 3 0 0), (5, .int .i64 v), (6, .own 6 i), (7, .bool (smB h v i)), (8, .int .i64 i)], [HyB h, ZLB, RLB v v 0, R1B (matH h v), R2B (List.replicate v F11), R2B [], R2B ((rowH h v).take i)]⟩) (fun i => i ≤ h.E.length) (fun i => h.E.length - i) (by kernel_rfl) ⟨0, by simp, weak_eq (by simp [smB]) (by simp [HyB, ZLB, RLB, R1B, R2B])⟩ (fun i hi => ?_)
    have hrl := rowH_len h v
    have hri : min i (rowH h v).length = i := by omega
    by_cases hil : i < h.E.length
    · have i2 : I64 ((i : Int) + 1) := by unfold I64; omega
      have hel : (ix h.E i).length ≤ 1000000 := hs.e _ (ix_mem hil)
      have hsm := smB_succ (v := v) hil
      have hrs := rowH_succ (v := v) hil
      by_cases hm : (v : Int) ∈ ix h.E i
      · have hm' : decide ((v : Int) ∈ ix h.E i) = true := decide_eq_true hm
        rw [hm'] at hsm hrs
        simp [HyB, ZLB, RLB, R1B, R2B, hil, rowAt_enc hil, sConI, hel, hm, sc2, i2, hri]
        refine ⟨(by first | omega | (unfold I64; omega)), i + 1, by omega, by omega, weak_keep 7 (by simp [hsm]) (by simp) (by simp [AV.clean, AV.clean1]) ?_ ?_⟩
        · simp [AV.clean, AV.clean1]
        · rw [hrs]
          simp [HyB, ZLB, RLB, R1B, R2B, F11]
      · have hm' : decide ((v : Int) ∈ ix h.E i) = false := decide_eq_false hm
        rw [hm'] at hsm hrs
        simp [HyB, ZLB, RLB, R1B, R2B, hil, rowAt_enc hil, sConI, hel, hm, sc2, i2, hri]
        refine ⟨(by first | omega | (unfold I64; omega)), i + 1, by omega, by omega, weak_keep 7 (by simp [hsm]) (by simp) (by simp [AV.clean, AV.clean1]) ?_ ?_⟩
        · simp [AV.clean, AV.clean1]
        · rw [hrs]
          simp [HyB, ZLB, RLB, R1B, R2B, entF, F01]
    · have : i = h.E.length := by omega
      subst this
      rw [smB_all, List.take_of_length_le (by omega)]
      by_cases hsome : SomeH h v
      · simp [HyB, ZLB, RLB, R1B, R2B, hil, hsome, hml, hrl, sc]
        refine ⟨(by first | omega | (unfold I64; omega)), ?_⟩
        refine AW_regionF sigCRp2 mixCRp2 [.pure, .read, .read, .read, .eff, .pure, .eff] [[],[0],[],[2],[2,3,0,1],[4,3,2,1,0],[0,1,2,3,4,5]] (by kernel_rfl) (by kernel_rfl) (by kernel_rfl) (by kernel_rfl) ?_
        simp [sc2, i1]
        refine ⟨(by first | omega | (unfold I64; omega)), v + 1, ⟨by omega, fun u hu => ?_⟩, by omega, weak_keep 6 (by simp) (by simp) (by simp [AV.clean, AV.clean1]) ?_ ?_⟩
        · rcases Nat.lt_or_eq_of_le (Nat.le_of_lt_succ hu) with hu | rfl
          · exact hv2 u hu
          · exact hsome
        · simp [AV.clean, AV.clean1]
        · rw [matH_succ, ← rep_succ]
          simp [HyB, ZLB, RLB, R1B, R2B, F11]
      · have e : progH h = (L00, 23) := by rw [hp, if_neg (fun hh => hsome (hh v hlt))]
        rw [hP] at e
        injection e with e1 e2
        subst e1 e2
        simp [HyB, ZLB, RLB, R1B, R2B, hil, hsome, hml, hrl, L00]
  · have hlt' : ¬ (v : Int) < h.N := by omega
    have hve : v = h.N.toNat := by omega
    have e : progH h = (linH h, 0) := by rw [hp, if_pos (fun u hu => hv2 u (by omega))]
    rw [hP] at e
    injection e with e1 e2
    subst e1 e2
    simp [HyB, ZLB, RLB, R1B, R2B, hlt', hml]
    refine loop_ruleH (C := CRp2) sigCRp2 mixCRp2 [20, 24] (fun i : Nat => ⟨[(1, .ptr 0 1 2 0 0), (2, .ptr 1 1 3 0 0), (4, .ptr 2 1 3 0 0), (10, .int .i64 i)], [HyB h, ZLB, RLB v v i, R1B (matH h v), R2B (List.replicate v F11), R2B (List.replicate i F11)]⟩) (fun i => i ≤ h.E.length) (fun i => h.E.length - i) (by kernel_rfl) ⟨0, by simp, weak_eq (by simp) (by simp [HyB, ZLB, RLB, R1B, R2B, matH])⟩ (fun i hi => ?_)
    by_cases hil : i < h.E.length
    · have i2 : I64 ((i : Int) + 1) := by unfold I64; omega
      simp [HyB, ZLB, RLB, R1B, R2B, hil]
      refine AW_regionF sigCRp2 mixCRp2 [.pure, .read, .read, .read, .eff, .pure, .eff] [[],[0],[],[2],[2,3,0,1],[4,3,2,1,0],[0,1,2,3,4,5]] (by kernel_rfl) (by kernel_rfl) (by kernel_rfl) (by kernel_rfl) ?_
      simp [sc2, i2]
      refine ⟨(by first | omega | (unfold I64; omega)), i + 1, by omega, by omega, weak_eq (by simp) ?_⟩
      rw [← rep_succ]
      try simp [HyB, ZLB, RLB, R1B, R2B, F11]
    · have : i = h.E.length := by omega
      subst this
      simp [HyB, ZLB, RLB, R1B, R2B, hil, hml]
      try simp [linH, hve]

noncomputable def rhoH (h : Hy) : Fr × List Fr × Int := if (progH h).2 ≠ 0 then (F00, [], (progH h).2) else if (solveF (progH h).1).2.2 ≠ 0 then (F00, [], (solveF (progH h).1).2.2) else ((solveF (progH h).1).2.1, (solveF (progH h).1).1, 0)
noncomputable def sRho : List AV → Option (Prop × AV) := spec1 SmallH (fun h => .tup [Enc.enc (rhoH h).1, Enc.enc (rhoH h).2.1, .int .i64 (rhoH h).2.2])
theorem prog_small {h : Hy} (hs : SmallH h) : SmallL (progH h).1 := by
  unfold progH
  split
  · exact ⟨by simp [L00], by simp [L00], by simp [L00], by simp [L00]⟩
  · rename_i hv
    have hv : ValidH h ∧ ¬ h.N = 0 := by
      rw [not_or] at hv
      exact ⟨Classical.not_not.1 hv.1, hv.2⟩
    obtain ⟨⟨v1, v2, v3, v4⟩, _⟩ := hv
    split
    · refine ⟨?_, ?_, ?_, fun r hr => ?_⟩
      · show (matH h _).length ≤ _
        rw [matH_len]; omega
      · show (List.replicate _ _).length ≤ _
        rw [List.length_replicate]; omega
      · show (List.replicate _ _).length ≤ _
        rw [List.length_replicate]; omega
      · have hr : r ∈ matH h h.N.toNat := hr
        unfold matH at hr
        obtain ⟨v, _, rfl⟩ := List.mem_map.1 hr
        rw [rowH_len]; omega
    · exact ⟨by simp [L00], by simp [L00], by simp [L00], by simp [L00]⟩
noncomputable def CRo : Ctx := mkC Tryz.prog G0 [(7, .pure sProg), (31, .pure sSolve)]
@[simp] theorem CRo_P : CRo.P = Tryz.prog := rfl
@[simp] theorem CRo_G : CRo.G = G0 := rfl
@[simp] theorem CRo_1 : CRo.S 7 = .pure sProg := rfl
@[simp] theorem CRo_2 : CRo.S 31 = .pure sSolve := rfl
theorem mixCRo : CRo.P.follows .mixedOrders = true := mixed
theorem sigCRo : SigOK CRo := sigOK_cons (entryPure (programP) Tryz.func7 rfl (by decide)) (sigOK_cons (entryPure (solveP) Tryz.func31 rfl (by decide)) (sigOK_nil _ _))
set_option maxHeartbeats 4000000 in
theorem rhoP : PureOK Tryz.prog G0 9 sRho := by
  refine pureH1 (C := CRo) sigCRo mixCRo Tryz.func9 rfl rfl rfl [] (by kernel_rfl) (by decide) (fun h hs => ?_)
  have hp := pre_solve (prog_small hs)
  obtain ⟨P, ec, hP⟩ : ∃ P ec, progH h = (P, ec) := ⟨_, _, rfl⟩
  rw [hP] at hp
  obtain ⟨x, v, e, hv⟩ : ∃ x v e, solveF P = (x, v, e) := ⟨_, _, _, rfl⟩
  by_cases h1 : ec = 0
  · by_cases h2 : e = 0
    · have e1 : rhoH h = (v, x, 0) := by unfold rhoH; rw [hP, if_neg (by simp [h1]), hv, if_neg (by simp [h2])]
      simp [sProg, hs, hP, h1, sSolve, hp, hv, h2, e1]
    · have e1 : rhoH h = (F00, [], e) := by unfold rhoH; rw [hP, if_neg (by simp [h1]), hv, if_pos h2]
      simp [sProg, hs, hP, h1, sSolve, hp, hv, h2, e1, F00]
  · have e1 : rhoH h = (F00, [], ec) := by unfold rhoH; rw [hP, if_pos h1]
    simp [sProg, hs, hP, h1, e1, F00]
def triH : Hy := ⟨3, [[0, 1], [1, 2], [0, 2]]⟩
theorem triHP : PureOK Tryz.prog G0 19 (spec0 (Enc.enc triH)) := by
  refine pureH0 (C := CE) sigCE mixCE Tryz.func19 rfl rfl rfl [] (by kernel_rfl) ?_
  simp [triH]
  done
end Go.Proofs.YtfoipbjhaiimlaaGreatDoor


/-
  layer 31: covers: the exact sum of the weights at a vertex.
-/
namespace Go.Proofs.YtfoipbjhaiimlaaGreatDoor
open Go.RowKit
set_option linter.unusedSimpArgs false
set_option linter.unusedVariables false
set_option maxRecDepth 100000

/-- A sum of fractions as numerator and denominator, one more. -/
def ndS (p : Nat × Nat) (f : Fr) : Nat × Nat := (p.1 * f.D.toNat + p.2 * f.N.toNat, p.2 * f.D.toNat)
def ndF (l : List Fr) : Nat × Nat := l.foldl ndS (0, 1)
def covF (l : List Fr) : Bool := decide ((ndF l).2 ≤ (ndF l).1)
structure WtF (f : Fr) : Prop where
  v : ValidF f
  n : 0 ≤ f.N
theorem WtF.b {f : Fr} (h : WtF f) : f.D.toNat ≤ 1000000000000000 ∧ f.N.toNat ≤ 1000000000000000 ∧ 0 < f.D.toNat := by
  have h1 := h.v
  have h2 := h.n
  unfold ValidF InR at h1
  omega
theorem snoc_ind {α : Type} {p : List α → Prop} (h0 : p []) (h1 : ∀ l x, p l → p (l ++ [x])) (l : List α) : p l := by
  have : ∀ m : List α, p m.reverse := by
    intro m
    induction m with
    | nil => exact h0
    | cons a r ih => rw [List.reverse_cons]; exact h1 _ _ ih
  have := this l.reverse
  rwa [List.reverse_reverse] at this
theorem ndF_snoc (l : List Fr) (f : Fr) : ndF (l ++ [f]) = ndS (ndF l) f := by unfold ndF; rw [List.foldl_append]; rfl
theorem nd_b : ∀ (l : List Fr), (∀ f ∈ l, WtF f) → (ndF l).1 ≤ l.length * 1000000000000000 ^ l.length ∧ (ndF l).2 ≤ 1000000000000000 ^ l.length ∧ 0 < (ndF l).2 := by
  refine snoc_ind ?_ fun l f ih => ?_
  · intro _; simp [ndF]
  · intro h
    obtain ⟨h1, h2, h3⟩ := ih fun g hg => h g (List.mem_append_left _ hg)
    obtain ⟨b1, b2, b3⟩ := (h f (by simp)).b
    rw [ndF_snoc]
    unfold ndS
    simp only [List.length_append, List.length_cons, List.length_nil, Nat.zero_add, Nat.pow_succ]
    generalize 1000000000000000 ^ l.length = M at *
    refine ⟨?_, Nat.mul_le_mul h2 b1, Nat.mul_pos h3 b3⟩
    have e1 := Nat.mul_le_mul h1 b1
    have e2 := Nat.mul_le_mul h2 b2
    rw [Nat.add_mul, ← Nat.mul_assoc]
    omega
theorem nd_ge {l : List Fr} (h : (ndF l).2 ≤ (ndF l).1) : ∀ m : List Fr, (ndF (l ++ m)).2 ≤ (ndF (l ++ m)).1 := by
  refine snoc_ind ?_ fun m f ih => ?_
  · rwa [List.append_nil]
  · rw [← List.append_assoc, ndF_snoc]
    unfold ndS
    exact Nat.le_trans (Nat.mul_le_mul_right _ ih) (Nat.le_add_right _ _)
theorem nd_one {l : List Fr} {f : Fr} (hf : f.D ≤ f.N) : (ndF (l ++ [f])).2 ≤ (ndF (l ++ [f])).1 := by
  rw [ndF_snoc]
  unfold ndS
  exact Nat.le_trans (Nat.mul_le_mul_left _ (show f.D.toNat ≤ f.N.toNat by omega)) (Nat.le_add_left _ _)
theorem fits64 {n : Nat} (h : n < 1000000000 ^ 64) : (Nt.canon n).length ≤ 64 := Nt.canon_len 64 n h
theorem nd_fit {l : List Fr} (hl : l.length ≤ 14) (h : ∀ f ∈ l, WtF f) : (ndF l).1 < 1000000000 ^ 60 ∧ (ndF l).2 < 1000000000 ^ 60 := by
  obtain ⟨h1, h2, _⟩ := nd_b l h
  have e1 : 1000000000000000 ^ l.length ≤ 1000000000000000 ^ 14 := Nat.pow_le_pow_right (by decide) hl
  have e2 := Nat.mul_le_mul hl e1
  have e3 : (14 : Nat) * 1000000000000000 ^ 14 < 1000000000 ^ 60 := by decide
  have e4 : (1000000000000000 : Nat) ^ 14 < 1000000000 ^ 60 := by decide
  omega
theorem fitT_ok {n : Nat} (h : n < 1000000000 ^ 64) : Nt.fitT n = .tup [Enc.enc (Nt.canon n), .bool true] := by
  have := fits64 h
  unfold Nt.fitT
  rw [if_pos this, decide_eq_true this]
theorem nv_ok {n : Nat} (h : n < 1000000000 ^ 64) : Nt.nv (Nt.canon n) = n := Nt.nv_canon (fits64 h)
theorem cl_ok {n : Nat} (h : n < 1000000000 ^ 64) : (Nt.canon n).length ≤ 1000000 := by have := fits64 h; omega
def sCovered : List AV → Option (Prop × AV) := spec1 (fun l : List Fr => l.length ≤ 14 ∧ ∀ f ∈ l, WtF f) (fun l => .bool (covF l))
noncomputable def CCv : Ctx := mkC Tryz.prog G0 [(48, .pure Nt.s20), (51, .pure Nt.s15), (54, .pure Nt.s22), (49, .pure Nt.s24)]
@[simp] theorem CCv_P : CCv.P = Tryz.prog := rfl
@[simp] theorem CCv_G : CCv.G = G0 := rfl
@[simp] theorem CCv_1 : CCv.S 48 = .pure Nt.s20 := rfl
@[simp] theorem CCv_2 : CCv.S 51 = .pure Nt.s15 := rfl
@[simp] theorem CCv_3 : CCv.S 54 = .pure Nt.s22 := rfl
@[simp] theorem CCv_4 : CCv.S 49 = .pure Nt.s24 := rfl
theorem mixCCv : CCv.P.follows .mixedOrders = true := mixed
theorem sigCCv : SigOK CCv := sigOK_cons (entryPure (Nt.of20) Tryz.func48 rfl (by decide)) (sigOK_cons (entryPure (Nt.mul15) Tryz.func51 rfl (by decide)) (sigOK_cons (entryPure (Nt.add22) Tryz.func54 rfl (by decide)) (sigOK_cons (entryPure (Nt.cmp24) Tryz.func49 rfl (by decide)) (sigOK_nil _ _))))
theorem take_ndS {l : List Fr} {i : Nat} (h : i < l.length) : ndF (l.take (i + 1)) = ndS (ndF (l.take i)) (ix l i) := by
  rw [List.take_succ_eq_append_getElem h, ndF_snoc, ix_lt h]
set_option maxHeartbeats 8000000 in
theorem coveredP : PureOK Tryz.prog G0 56 sCovered := by
  refine pureH1 (C := CCv) sigCCv mixCCv Tryz.func56 rfl rfl rfl [] (by kernel_rfl) (by decide) (fun l ⟨hl, hw⟩ => ?_)
  have z0 : Nt.canon 0 = [] := Nt.canon_zero
  have i0 : I64 0 := by unfold I64; omega
  have i1 : I64 1 := by unfold I64; omega
  simp [Nt.s20, i0, i1]
  refine loop_ruleH (C := CCv) sigCCv mixCCv [] (fun i : Nat => ⟨[(3, Enc.enc (Nt.canon (ndF (l.take i)).1)), (4, Enc.enc (Nt.canon (ndF (l.take i)).2)), (13, Enc.enc l), (14, .int .i64 l.length), (15, .int .i64 i)], []⟩) (fun i => i ≤ l.length) (fun i => l.length - i) (by kernel_rfl) ⟨0, by simp, weak_slots (by simp [ndF])⟩ (fun i hi => ?_)
  have hwt : ∀ f ∈ l.take i, WtF f := fun f hf => hw f (List.mem_of_mem_take hf)
  obtain ⟨f1, f2⟩ := nd_fit (l := l.take i) (by rw [List.length_take]; omega) hwt
  by_cases hil : i < l.length
  · have j1 : I64 ((i : Int) + 1) := by unfold I64; omega
    have hf := hw _ (ix_mem hil)
    obtain ⟨b1, b2, b3⟩ := hf.b
    have hs := take_ndS hil
    by_cases hge : (ix l i).D ≤ (ix l i).N
    · have hc : covF l = true := by
        refine decide_eq_true ?_
        have := nd_one (l := l.take i) hge
        have h2 := nd_ge this (l.drop (i + 1))
        rwa [show l.take i ++ [ix l i] ++ l.drop (i + 1) = l by rw [ix_lt hil, List.append_assoc, List.singleton_append, ← List.drop_eq_getElem_cons hil, List.take_append_drop]] at h2
      simp [hil, rowAt_enc hil, hge, hc]
    · have k1 : I64 (ix l i).D := by unfold I64; omega
      have k2 : I64 (ix l i).N := by have := hf.n; unfold I64; omega
      have p1 : (ndF (l.take i)).1 * (ix l i).D.toNat ≤ 1000000000 ^ 60 * 1000000000000000 := Nat.mul_le_mul (by omega) b1
      have p2 : (ndF (l.take i)).2 * (ix l i).N.toNat ≤ 1000000000 ^ 60 * 1000000000000000 := Nat.mul_le_mul (by omega) b2
      have p3 : (ndF (l.take i)).2 * (ix l i).D.toNat ≤ 1000000000 ^ 60 * 1000000000000000 := Nat.mul_le_mul (by omega) b1
      have e1 : (ndF (l.take (i + 1))).1 = (ndF (l.take i)).1 * (ix l i).D.toNat + (ndF (l.take i)).2 * (ix l i).N.toNat := by rw [hs]; rfl
      have e2 : (ndF (l.take (i + 1))).2 = (ndF (l.take i)).2 * (ix l i).D.toNat := by rw [hs]; rfl
      generalize (ndF (l.take i)).1 = n at *
      generalize (ndF (l.take i)).2 = d at *
      generalize ha : n * (ix l i).D.toNat = a at *
      generalize hb : d * (ix l i).N.toNat = b at *
      generalize hc : d * (ix l i).D.toNat = c at *
      have l1 : (1000000000 : Nat) ^ 60 * 1000000000000000 < 1000000000 ^ 62 := by decide
      have l2 : (1000000000 : Nat) ^ 62 + 1000000000 ^ 62 < 1000000000 ^ 64 := by decide
      have l3 : (1000000000 : Nat) ^ 60 < 1000000000 ^ 64 := by decide
      have l4 : (1000000000000000 : Nat) < 1000000000 ^ 64 := by decide
      have m0 : n < 1000000000 ^ 64 := by omega
      have m1 : d < 1000000000 ^ 64 := by omega
      have m2 : (ix l i).D.toNat < 1000000000 ^ 64 := by omega
      have m3 : (ix l i).N.toNat < 1000000000 ^ 64 := by omega
      have m4 : a < 1000000000 ^ 64 := by omega
      have m5 : b < 1000000000 ^ 64 := by omega
      have m6 : c < 1000000000 ^ 64 := by omega
      have m7 : a + b < 1000000000 ^ 64 := by omega
      clear l1 l2 l3 l4 f1 f2 p1 p2 p3
      simp [hil, rowAt_enc hil, hge, Nt.s20, Nt.s15, Nt.s22, k1, k2, j1, nv_ok m0, nv_ok m1, nv_ok m2, nv_ok m3, nv_ok m4, nv_ok m5, nv_ok m6, cl_ok m0, cl_ok m1, cl_ok m2, cl_ok m3, cl_ok m4, cl_ok m5, cl_ok m6, ha, hb, hc, fitT_ok m4, fitT_ok m5, fitT_ok m6, fitT_ok m7]
      exact ⟨i + 1, by omega, by omega, weak_keep 0 (by simp [e1, e2]) (by simp) (by simp [AV.clean, AV.clean1]) (by simp) rfl⟩
  · have : i = l.length := by omega
    subst this
    rw [List.take_length] at f1 f2 ⊢
    have hc : covF l = decide ((ndF l).2 ≤ (ndF l).1) := rfl
    have l3 : (1000000000 : Nat) ^ 60 < 1000000000 ^ 64 := by decide
    generalize (ndF l).1 = n at *
    generalize (ndF l).2 = d at *
    have m0 : n < 1000000000 ^ 64 := by omega
    have m1 : d < 1000000000 ^ 64 := by omega
    have e : decide (0 ≤ Nt.cmpN n d) = decide (d ≤ n) := by
      unfold Nt.cmpN
      by_cases h1 : n < d
      · rw [if_pos h1, decide_eq_false (by omega), decide_eq_false (by omega)]
      · rw [if_neg h1, decide_eq_true (show d ≤ n by omega)]
        split <;> rfl
    simp [hil, Nt.s24, nv_ok m0, nv_ok m1, cl_ok m0, cl_ok m1, hc]
    simpa using e
end Go.Proofs.YtfoipbjhaiimlaaGreatDoor


/-
  layer 31: covers.
-/
namespace Go.Proofs.YtfoipbjhaiimlaaGreatDoor
open Go.RowKit
set_option linter.unusedSimpArgs false
set_option linter.unusedVariables false
set_option maxRecDepth 100000

/-- The weights of the first i edges that contain v. -/
def selI (h : Hy) (x : List Fr) (v : Nat) : Nat → List Fr
  | 0 => []
  | i + 1 => if (v : Int) ∈ ix h.E i then selI h x v i ++ [ix x i] else selI h x v i
theorem selI_len (h : Hy) (x : List Fr) (v : Nat) : ∀ i, (selI h x v i).length ≤ i
  | 0 => Nat.le_refl _
  | i + 1 => by
    have := selI_len h x v i
    unfold selI
    split
    · rw [List.length_append]; simp; omega
    · omega
theorem selI_wt {h : Hy} {x : List Fr} (v : Nat) (hx : ∀ f ∈ x, WtF f) : ∀ i, i ≤ x.length → ∀ f ∈ selI h x v i, WtF f
  | 0, _ => fun f hf => by cases hf
  | i + 1, hi => fun f hf => by
    unfold selI at hf
    split at hf
    · rcases List.mem_append.1 hf with hf | hf
      · exact selI_wt v hx i (by omega) f hf
      · rw [List.mem_singleton.1 hf]
        exact hx _ (ix_mem (by omega))
    · exact selI_wt v hx i (by omega) f hf
def covH (h : Hy) (x : List Fr) (v : Nat) : Bool := covF (selI h x v h.E.length)
instance (f : Fr) : Decidable (WtF f) := decidable_of_iff (ValidF f ∧ 0 ≤ f.N) ⟨fun h => ⟨h.1, h.2⟩, fun h => ⟨h.v, h.n⟩⟩
def IsCovH (h : Hy) (x : List Fr) : Prop := ValidH h ∧ x.length = h.E.length ∧ (∀ f ∈ x, WtF f) ∧ ∀ v, v < h.N.toNat → covH h x v = true
instance (h : Hy) (x : List Fr) : Decidable (IsCovH h x) := by unfold IsCovH; infer_instance
def sIsCover : List AV → Option (Prop × AV) := spec2 (fun (h : Hy) (x : List Fr) => SmallH h ∧ x.length ≤ 1000) (fun h x => .bool (decide (IsCovH h x)))
noncomputable def CIc : Ctx := mkC Tryz.prog G0 [(23, .pure sValidH), (55, .pure sValidF), (26, .pure sConI), (56, .pure sCovered)]
@[simp] theorem CIc_P : CIc.P = Tryz.prog := rfl
@[simp] theorem CIc_G : CIc.G = G0 := rfl
@[simp] theorem CIc_1 : CIc.S 23 = .pure sValidH := rfl
@[simp] theorem CIc_2 : CIc.S 55 = .pure sValidF := rfl
@[simp] theorem CIc_3 : CIc.S 26 = .pure sConI := rfl
@[simp] theorem CIc_4 : CIc.S 56 = .pure sCovered := rfl
theorem mixCIc : CIc.P.follows .mixedOrders = true := mixed
theorem sigCIc : SigOK CIc := sigOK_cons (entryPure (validHP) Tryz.func23 rfl (by decide)) (sigOK_cons (entryPure (validP) Tryz.func55 rfl (by decide)) (sigOK_cons (entryPure (conI) Tryz.func26 rfl (by decide)) (sigOK_cons (entryPure (coveredP) Tryz.func56 rfl (by decide)) (sigOK_nil _ _))))
set_option maxHeartbeats 16000000 in
theorem isCoverP : PureOK Tryz.prog G0 21 sIsCover := by
  refine pureH2 (C := CIc) sigCIc mixCIc Tryz.func21 rfl rfl rfl [] (by kernel_rfl) (by decide) (fun h x ⟨hs, hxl⟩ => ?_)
  by_cases hv : ValidH h
  case neg =>
    have : ¬ IsCovH h x := fun c => hv c.1
    simp [sValidH, hs, hv, this]
  by_cases hlen : (x.length : Int) = h.E.length
  case neg =>
    have : ¬ IsCovH h x := fun c => hlen (by rw [c.2.1])
    have hlen' : ¬ x.length = h.E.length := fun c => hlen (by rw [c])
    simp [sValidH, hs, hv, hlen, hlen', this]
  have hlen' : x.length = h.E.length := by omega
  have hE := hv.2.2.1
  obtain ⟨v1, v2, v3, v4⟩ := hv
  have hv : ValidH h := ⟨v1, v2, v3, v4⟩
  obtain ⟨r, hr⟩ : ∃ r, decide (IsCovH h x) = r := ⟨_, rfl⟩
  rw [hr]
  simp [sValidH, hs, hv, hlen']
  refine loop_ruleH (C := CIc) sigCIc mixCIc [] (fun i : Nat => ⟨[(1, Enc.enc x), (2, .ptr 0 1 2 0 0), (22, Enc.enc x), (23, .int .i64 x.length), (24, .int .i64 i)], [HyB h]⟩) (fun i => i ≤ x.length ∧ ∀ j < i, WtF (ix x j)) (fun i => x.length - i) (by kernel_rfl) ⟨0, by simp, weak_eq (by simp [hlen']) (by simp [HyB])⟩ (fun i ⟨hi, hx⟩ => ?_)
  by_cases hil : i < x.length
  · have i1 : I64 ((i : Int) + 1) := by unfold I64; omega
    by_cases q1 : ValidF (ix x i)
    · by_cases q2 : (ix x i).N < 0
      · have : r = false := by rw [← hr]; exact decide_eq_false fun c => by have := (c.2.2.1 _ (ix_mem hil)).n; omega
        subst this
        simp [HyB, hil, rowAt_enc hil, sValidF, q1, q2]
      · simp [HyB, hil, rowAt_enc hil, sValidF, q1, q2, i1]
        refine ⟨i + 1, ⟨by omega, fun j hj => ?_⟩, by omega, weak_keep 1 (by simp) (by simp) (by simp [AV.clean, AV.clean1]) (by simp) (by simp [HyB])⟩
        rcases Nat.lt_or_eq_of_le (Nat.le_of_lt_succ hj) with hj | rfl
        · exact hx j hj
        · exact ⟨q1, by omega⟩
    · have : r = false := by rw [← hr]; exact decide_eq_false fun c => q1 (c.2.2.1 _ (ix_mem hil)).v
      subst this
      simp [HyB, hil, rowAt_enc hil, sValidF, q1]
  · have hwt : ∀ f ∈ x, WtF f := fun f hf => by
      obtain ⟨j, hj, rfl⟩ := List.mem_iff_getElem.1 hf
      have := hx j (by omega)
      rwa [ix_lt hj] at this
    simp [HyB, hil]
    refine loop_ruleH (C := CIc) sigCIc mixCIc [] (fun v : Nat => ⟨[(1, Enc.enc x), (2, .ptr 0 1 2 0 0), (38, .int .i64 h.N), (39, .int .i64 v)], [HyB h]⟩) (fun v => v ≤ h.N.toNat ∧ ∀ u < v, covH h x u = true) (fun v => h.N.toNat - v) (by kernel_rfl) ⟨0, by simp, weak_eq (by simp) (by simp [HyB])⟩ (fun v ⟨hv1, hv2⟩ => ?_)
    by_cases hvl : v < h.N.toNat
    · have hvl' : (v : Int) < h.N := by omega
      have i1 : I64 ((v : Int) + 1) := by unfold I64; omega
      simp [HyB, hvl']
      refine AW.weak (weak_nil 8 2 35 rfl (by decide)) ?_
      refine loop_ruleH (C := CIc) sigCIc mixCIc [] (fun i : Nat => ⟨[(1, Enc.enc x), (2, .ptr 0 1 2 0 0), (7, .int .i64 v), (8, .own 1 (selI h x v i).length), (38, .int .i64 h.N), (39, .int .i64 v), (43, Enc.enc h.E), (44, .int .i64 h.E.length), (45, .int .i64 i)], [HyB h, R2B (selI h x v i)]⟩) (fun i => i ≤ h.E.length) (fun i => h.E.length - i) (by kernel_rfl) ⟨0, by simp, weak_eq (by simp [selI]) (by simp [HyB, R2B, selI])⟩ (fun i hi => ?_)
      have hsl := selI_len h x v i
      by_cases hil2 : i < h.E.length
      · have i2 : I64 ((i : Int) + 1) := by unfold I64; omega
        have hel : (ix h.E i).length ≤ 1000000 := hs.e _ (ix_mem hil2)
        have hix : i < x.length := by omega
        have sc2 : isScalT CIc 28 = true := by show isScalT ⟨Tryz.prog, fun _ => .no, G0⟩ 28 = true; kernel_rfl
        by_cases hm : (v : Int) ∈ ix h.E i
        · have e : selI h x v (i + 1) = selI h x v i ++ [ix x i] := by rw [selI, if_pos hm]
          simp [HyB, R2B, hil2, rowAt_enc hil2, rowAt_enc hix, sConI, hel, hm, sc2, i2, hix]
          refine ⟨(by first | omega | (unfold I64; omega)), i + 1, by omega, by omega, weak_eq (by simp [e]) (by rw [e])⟩
        · have e : selI h x v (i + 1) = selI h x v i := by rw [selI, if_neg hm]
          simp [HyB, R2B, hil2, rowAt_enc hil2, sConI, hel, hm, i2]
          refine ⟨i + 1, by omega, by omega, weak_eq (by simp [e]) (by rw [e])⟩
      · have : i = h.E.length := by omega
        subst this
        have hsw := selI_wt (h := h) v hwt h.E.length (by omega)
        have hs14 : (selI h x v h.E.length).length ≤ 14 := by omega
        have hcv : covF (selI h x v h.E.length) = covH h x v := rfl
        have hpre : ∀ f, f ∈ selI h x v h.E.length → WtF f := hsw
        cases hc : covH h x v with
        | true =>
          rw [hc] at hcv
          simp [HyB, R2B, hil2, sCovered, hs14, hcv, i1]
          refine ⟨hpre, v + 1, ⟨by omega, fun u hu => ?_⟩, by omega, weak_keep 1 (by simp) (by simp) (by simp [AV.clean, AV.clean1]) (by simp) (by simp [HyB])⟩
          rcases Nat.lt_or_eq_of_le (Nat.le_of_lt_succ hu) with hu | rfl
          · exact hv2 u hu
          · exact hc
        | false =>
          rw [hc] at hcv
          have : r = false := by rw [← hr]; exact decide_eq_false fun c => by have := c.2.2.2 v hvl; rw [hc] at this; cases this
          subst this
          simp [HyB, R2B, hil2, sCovered, hs14, hcv]
          exact hpre
    · have hvl' : ¬ (v : Int) < h.N := by omega
      have : r = true := by rw [← hr]; exact decide_eq_true ⟨hv, hlen', hwt, fun u hu => hv2 u (by omega)⟩
      subst this
      simp [HyB, hvl']
end Go.Proofs.YtfoipbjhaiimlaaGreatDoor


/-
  layer 31: covers, the reference's side; powers compared.
-/
namespace Go.Proofs.YtfoipbjhaiimlaaGreatDoor
open Go.RowKit
set_option linter.unusedSimpArgs false
set_option linter.unusedVariables false
set_option maxRecDepth 100000

end Go.Proofs.YtfoipbjhaiimlaaGreatDoor


/-
  layer 31: covers as points of the program (plain).
-/
namespace Go.Proofs.YtfoipbjhaiimlaaGreatDoor
open Go.RowKit
set_option linter.unusedSimpArgs false
set_option linter.unusedVariables false
set_option maxRecDepth 100000

/-- What Rho's answer is, when there is one. -/
structure RhoOk (h : Hy) (y : List Fr) (r : Fr) : Prop where
  valid : ValidH h
  prog : progH h = (linH h, 0)
  cov : IsCovH h y
  vr : ValidF r
  vy : ∀ k, k < y.length → ValidF (ix y k)
  len : y.length = h.E.length
  sum : Sm y.length (fun k => V (ix y k)) = V r
  least : ∀ (x : List Fr) (u : Fr), IsCovH h x → valueF (linH h) x = (u, true) → cmpF r u ≤ 0
end Go.Proofs.YtfoipbjhaiimlaaGreatDoor


/-
  layer 31: powers compared: Fits, and what is below a power.
-/
namespace Go.Proofs.YtfoipbjhaiimlaaGreatDoor
open Go.RowKit
set_option linter.unusedSimpArgs false
set_option linter.unusedVariables false
set_option maxRecDepth 100000

def LimN : Nat := 1000000000 ^ 64
theorem lim64 {n : Nat} : (Nt.canon n).length ≤ 64 ↔ n < LimN := by
  constructor
  · intro h
    have h1 := Nt.val_lt (Nt.canon_good n)
    rw [Nt.val_canon] at h1
    exact Nat.lt_of_lt_of_le h1 (Nat.pow_le_pow_right (by decide) h)
  · exact fits64
theorem lim_big : (9223372036854775807 : Nat) < LimN := by unfold LimN; decide
theorem nvL {n : Nat} (h : n < LimN) : Nt.nv (Nt.canon n) = n := nv_ok h
theorem clL {n : Nat} (h : n < LimN) : (Nt.canon n).length ≤ 1000000 := cl_ok h
theorem fitL {n : Nat} (h : n < LimN) : Nt.fitT n = .tup [Enc.enc (Nt.canon n), .bool true] := fitT_ok h
theorem fitL_no {n : Nat} (h : ¬ n < LimN) : Nt.fitT n = .tup [.slice 1 false [], .bool false] := by
  have : ¬ (Nt.canon n).length ≤ 64 := fun e => h (lim64.1 e)
  unfold Nt.fitT
  rw [if_neg this, decide_eq_false this]
  rfl
theorem powL {v : Nat} {k : Int} (hk : 0 ≤ k) (h : v ^ k.toNat < LimN) : Nt.powT v k = .tup [Enc.enc (Nt.canon (v ^ k.toNat)), .bool true] := by
  unfold Nt.powT
  rw [if_neg (by omega), fitL h]
theorem powL_no {v : Nat} {k : Int} (hk : 0 ≤ k) (h : ¬ v ^ k.toNat < LimN) : Nt.powT v k = .tup [.slice 1 false [], .bool false] := by
  unfold Nt.powT
  rw [if_neg (by omega), fitL_no h]
theorem cmp_le0 (n d : Nat) : decide (Nt.cmpN n d ≤ 0) = decide (n ≤ d) := decide_eq_decide.2 Nt.cmpN_le
def Usable (n : Int) (r : Fr) : Prop := 1 ≤ n ∧ ValidF r ∧ 0 ≤ r.N
instance (n : Int) (r : Fr) : Decidable (Usable n r) := by unfold Usable; infer_instance
def FitsR (c n : Int) (r : Fr) : Prop := 0 ≤ c ∧ Usable n r ∧ c.toNat ^ r.D.toNat < LimN ∧ n.toNat ^ r.N.toNat < LimN ∧ c.toNat ^ r.D.toNat ≤ n.toNat ^ r.N.toNat
open Classical in
noncomputable def fitsB (c n : Int) (r : Fr) : Bool := decide (FitsR c n r)
def sUsable : List AV → Option (Prop × AV) := spec2 (fun (_ : Int) (_ : Fr) => True) (fun n r => .bool (decide (Usable n r)))
noncomputable def CUs : Ctx := mkC Tryz.prog G0 [(55, .pure sValidF)]
@[simp] theorem CUs_P : CUs.P = Tryz.prog := rfl
@[simp] theorem CUs_G : CUs.G = G0 := rfl
@[simp] theorem CUs_1 : CUs.S 55 = .pure sValidF := rfl
theorem mixCUs : CUs.P.follows .mixedOrders = true := mixed
theorem sigCUs : SigOK CUs := sigOK_cons (entryPure (validP) Tryz.func55 rfl (by decide)) (sigOK_nil _ _)
theorem usableP : PureOK Tryz.prog G0 46 sUsable := by
  refine pureH2 (C := CUs) sigCUs mixCUs Tryz.func46 rfl rfl rfl [] (by kernel_rfl) (by decide) (fun n r _ => ?_)
  unfold Usable
  by_cases h1 : 1 ≤ n
  · by_cases h2 : ValidF r
    · by_cases h3 : 0 ≤ r.N
      · simp [sValidF, h1, h2, h3]
      · simp [sValidF, h1, h2, h3]
    · simp [sValidF, h1, h2]
  · simp [sValidF, h1]
namespace Nt
def s11 : List AV → Option (Prop × AV) := spec2 (fun (a : List Int) (k : Int) => a.length ≤ 1000000 ∧ I64 k) (fun a k => powT (nv a) k)
end Nt
noncomputable def sFits : List AV → Option (Prop × AV) := spec3 (fun (c n : Int) (_ : Fr) => I64 c ∧ I64 n) (fun c n r => .bool (fitsB c n r))
noncomputable def CFt : Ctx := mkC Tryz.prog G0 [(46, .pure sUsable), (48, .pure Nt.s20), (47, .pure Nt.s11), (49, .pure Nt.s24)]
@[simp] theorem CFt_P : CFt.P = Tryz.prog := rfl
@[simp] theorem CFt_G : CFt.G = G0 := rfl
@[simp] theorem CFt_1 : CFt.S 46 = .pure sUsable := rfl
@[simp] theorem CFt_2 : CFt.S 48 = .pure Nt.s20 := rfl
@[simp] theorem CFt_3 : CFt.S 47 = .pure Nt.s11 := rfl
@[simp] theorem CFt_4 : CFt.S 49 = .pure Nt.s24 := rfl
theorem mixCFt : CFt.P.follows .mixedOrders = true := mixed
theorem sigCFt : SigOK CFt := sigOK_cons (entryPure (usableP) Tryz.func46 rfl (by decide)) (sigOK_cons (entryPure (Nt.of20) Tryz.func48 rfl (by decide)) (sigOK_cons (entryPure (Nt.pow11) Tryz.func47 rfl (by decide)) (sigOK_cons (entryPure (Nt.cmp24) Tryz.func49 rfl (by decide)) (sigOK_nil _ _))))
set_option maxHeartbeats 8000000 in
theorem fitsP : PureOK Tryz.prog G0 17 sFits := by
  refine pureH3 (C := CFt) sigCFt mixCFt Tryz.func17 rfl rfl rfl [] (by kernel_rfl) (by decide) (fun c n r ⟨hc, hn⟩ => ?_)
  obtain ⟨b, hb⟩ : ∃ b, fitsB c n r = b := ⟨_, rfl⟩
  have no : ¬ FitsR c n r → b = false := fun h => by rw [← hb]; exact @decide_eq_false _ (Classical.propDecidable _) h
  have yes : FitsR c n r → b = true := fun h => by rw [← hb]; exact @decide_eq_true _ (Classical.propDecidable _) h
  rw [hb]
  clear hb
  by_cases h1 : c < 0
  · obtain rfl := no fun h => by have := h.1; omega
    simp [h1]
  by_cases h2 : Usable n r
  case neg =>
    obtain rfl := no fun h => h2 h.2.1
    simp [h1, sUsable, h2]
  obtain ⟨u1, u2, u3⟩ := h2
  have h2 : Usable n r := ⟨u1, u2, u3⟩
  have hD : 0 ≤ r.D := by have := u2.1; omega
  have kD : I64 r.D := by have := u2.2.1; unfold I64; omega
  have kN : I64 r.N := by have := u2.2.2.1; unfold InR at this; unfold I64; omega
  have hl := lim_big
  have c1 : c.toNat < LimN := by unfold I64 at hc; omega
  have n1 : n.toNat < LimN := by unfold I64 at hn; omega
  clear hl
  by_cases hA : c.toNat ^ r.D.toNat < LimN
  · by_cases hB : n.toNat ^ r.N.toNat < LimN
    · have e : b = decide (c.toNat ^ r.D.toNat ≤ n.toNat ^ r.N.toNat) := by
        by_cases hle : c.toNat ^ r.D.toNat ≤ n.toNat ^ r.N.toNat
        · rw [decide_eq_true hle]; exact yes ⟨by omega, h2, hA, hB, hle⟩
        · rw [decide_eq_false hle]; exact no fun h => hle h.2.2.2.2
      have e2 := cmp_le0 (c.toNat ^ r.D.toNat) (n.toNat ^ r.N.toNat)
      simp [h1, sUsable, h2, Nt.s20, Nt.s11, Nt.s24, hc, hn, nvL c1, nvL n1, clL c1, clL n1, powL hD hA, powL u3 hB, nvL hA, nvL hB, clL hA, clL hB, kD, kN, e, e2]
    · obtain rfl := no fun h => hB h.2.2.2.1
      simp [h1, sUsable, h2, Nt.s20, Nt.s11, Nt.s24, hc, hn, nvL c1, nvL n1, clL c1, clL n1, powL hD hA, powL_no u3 hB, nvL hA, clL hA, kD, kN]
  · obtain rfl := no fun h => hA h.2.2.1
    by_cases hB : n.toNat ^ r.N.toNat < LimN
    · simp [h1, sUsable, h2, Nt.s20, Nt.s11, Nt.s24, hc, hn, nvL c1, nvL n1, clL c1, clL n1, powL_no hD hA, powL u3 hB, kD, kN]
    · simp [h1, sUsable, h2, Nt.s20, Nt.s11, Nt.s24, hc, hn, nvL c1, nvL n1, clL c1, clL n1, powL_no hD hA, powL_no u3 hB, kD, kN]
namespace Nt
end Nt
/-- Is a to the k at most x? -/
def sBelow : List AV → Option (Prop × AV) := spec3 (fun (a : List Int) (k : Int) (x : List Int) => a.length ≤ 1000000 ∧ I64 k ∧ 0 ≤ k ∧ x.length ≤ 1000000 ∧ Nt.nv x < LimN) (fun a k x => .bool (decide (Nt.nv a ^ k.toNat ≤ Nt.nv x)))
noncomputable def CBw : Ctx := mkC Tryz.prog G0 [(47, .pure Nt.s11), (49, .pure Nt.s24)]
@[simp] theorem CBw_P : CBw.P = Tryz.prog := rfl
@[simp] theorem CBw_G : CBw.G = G0 := rfl
@[simp] theorem CBw_1 : CBw.S 47 = .pure Nt.s11 := rfl
@[simp] theorem CBw_2 : CBw.S 49 = .pure Nt.s24 := rfl
theorem mixCBw : CBw.P.follows .mixedOrders = true := mixed
theorem sigCBw : SigOK CBw := sigOK_cons (entryPure (Nt.pow11) Tryz.func47 rfl (by decide)) (sigOK_cons (entryPure (Nt.cmp24) Tryz.func49 rfl (by decide)) (sigOK_nil _ _))
theorem belowP : PureOK Tryz.prog G0 52 sBelow := by
  refine pureH3 (C := CBw) sigCBw mixCBw Tryz.func52 rfl rfl rfl [] (by kernel_rfl) (by decide) (fun a k x ⟨ha, hk, hk0, hx, hxl⟩ => ?_)
  by_cases hA : Nt.nv a ^ k.toNat < LimN
  · have e2 := cmp_le0 (Nt.nv a ^ k.toNat) (Nt.nv x)
    simp [Nt.s11, Nt.s24, ha, hk, hx, powL hk0 hA, nvL hA, clL hA, e2]
  · have e : decide (Nt.nv a ^ k.toNat ≤ Nt.nv x) = false := decide_eq_false (by omega)
    simp [Nt.s11, Nt.s24, ha, hk, hx, powL_no hk0 hA]
    simpa using e
end Go.Proofs.YtfoipbjhaiimlaaGreatDoor


/-
  layer 31: the greatest number whose power is below a bound; half of a number.
-/
namespace Go.Proofs.YtfoipbjhaiimlaaGreatDoor
open Go.RowKit
set_option linter.unusedSimpArgs false
set_option linter.unusedVariables false
set_option maxRecDepth 100000

def IsRoot (D T b : Nat) : Prop := b ^ D ≤ T ∧ T < (b + 1) ^ D
def rootB (D T : Nat) : Nat → Nat
  | 0 => 0
  | k + 1 => if (k + 1) ^ D ≤ T then k + 1 else rootB D T k
def rootN (D T : Nat) : Nat := rootB D T T
theorem rootB_spec {D T : Nat} (hD : 1 ≤ D) : ∀ k, T < (k + 1) ^ D → IsRoot D T (rootB D T k)
  | 0, h => ⟨by unfold rootB; rw [Nat.zero_pow (by omega)]; exact Nat.zero_le _, by simpa [rootB] using h⟩
  | k + 1, h => by
    unfold rootB
    split
    · rename_i h1; exact ⟨h1, h⟩
    · rename_i h1; exact rootB_spec hD k (by omega)
theorem root_spec {D T : Nat} (hD : 1 ≤ D) : IsRoot D T (rootN D T) := rootB_spec hD T (by
  have : T + 1 ≤ (T + 1) ^ D := by
    have := Nat.pow_le_pow_right (n := T + 1) (by omega) hD
    rwa [Nat.pow_one] at this
  omega)
theorem root_uniq {D T a b : Nat} (ha : IsRoot D T a) (hb : IsRoot D T b) : a = b := by
  rcases Nat.lt_trichotomy a b with h | h | h
  · have := Nat.pow_le_pow_left (show a + 1 ≤ b by omega) D
    have := ha.2; have := hb.1; omega
  · exact h
  · have := Nat.pow_le_pow_left (show b + 1 ≤ a by omega) D
    have := hb.2; have := ha.1; omega
theorem root_eq {D T b : Nat} (hD : 1 ≤ D) (h : IsRoot D T b) : rootN D T = b := root_uniq (root_spec hD) h
theorem le_root {D T c : Nat} (hD : 1 ≤ D) : c ≤ rootN D T ↔ c ^ D ≤ T := by
  obtain ⟨h1, h2⟩ := root_spec (T := T) hD
  constructor
  · intro h; exact Nat.le_trans (Nat.pow_le_pow_left h D) h1
  · intro h
    apply Classical.byContradiction
    intro hc
    have := Nat.pow_le_pow_left (show rootN D T + 1 ≤ c by omega) D
    omega
theorem root_le {D T : Nat} (hD : 1 ≤ D) : rootN D T ≤ T := by
  have h := (root_spec (T := T) hD).1
  rcases Nat.eq_zero_or_pos (rootN D T) with h0 | h0
  · omega
  · have := Nat.pow_le_pow_right h0 hD
    rw [Nat.pow_one] at this
    omega
theorem root_one (T : Nat) : rootN 1 T = T := root_eq (Nat.le_refl _) ⟨by rw [Nat.pow_one]; exact Nat.le_refl _, by rw [Nat.pow_one]; omega⟩
theorem two_lt {m n : Nat} (h : m < n) : 2 ^ m < 2 ^ n := Nat.pow_lt_pow_right (by decide) h
theorem lim_two {a b k : Nat} (hb : LimN ≤ (2 ^ a) ^ b) (hk : a * b < k) : LimN < 2 ^ k := by
  rw [← Nat.pow_mul] at hb
  exact Nat.lt_of_le_of_lt hb (two_lt hk)
/-- What Bound answers. -/
def boundT (n : Int) (r : Fr) : AV := if Usable n r ∧ n.toNat ^ r.N.toNat < LimN then .tup [Enc.enc (Nt.canon (rootN r.D.toNat (n.toNat ^ r.N.toNat))), .bool true] else .tup [.slice 1 false [], .bool false]
theorem boundT_yes {n : Int} {r : Fr} (h : Usable n r) (h2 : n.toNat ^ r.N.toNat < LimN) : boundT n r = .tup [Enc.enc (Nt.canon (rootN r.D.toNat (n.toNat ^ r.N.toNat))), .bool true] := if_pos ⟨h, h2⟩
theorem boundT_no {n : Int} {r : Fr} (h : ¬ Usable n r) : boundT n r = .tup [.slice 1 false [], .bool false] := if_neg fun c => h c.1
theorem boundT_big {n : Int} {r : Fr} (h : ¬ n.toNat ^ r.N.toNat < LimN) : boundT n r = .tup [.slice 1 false [], .bool false] := if_neg fun c => h c.2
def sBound : List AV → Option (Prop × AV) := spec2 (fun (n : Int) (_ : Fr) => I64 n) boundT

end Go.Proofs.YtfoipbjhaiimlaaGreatDoor


/-
  A piece of code in a round of a range over a function, and behind such a range (the activation then holds a mark among its deferred calls). Own work; no program in sight.
-/
namespace Go.Proofs.YtfoipbjhaiimlaaGreatDoor
open Go.RowKit
set_option linter.unusedVariables false

def withD (a : Act) (ds : List Deferred) : Act := { a with defers := a.defers ++ ds }
theorem withD_put (a : Act) (ds : List Deferred) (d : Option Tmp) (v : Value) : withD (a.put d v) ds = (withD a ds).put d v := by
  cases d <;> rfl
theorem withD_eval (a : Act) (ds : List Deferred) : (withD a ds).eval = a.eval := rfl
def PR (ds : List Deferred) (Q : Exit → Act → World → Prop) (ex : Exit) (a' : Act) (w' : World) : Prop := ∃ a'', Q ex a'' w' ∧ a' = withD a'' ds
def wideAt (ro : Option Nat) : Fence := { Fence.wide with round := ro }

theorem callsAt {ro : Option Nat} {n : Nat} {P : Program} {f : FuncId} {args : Array Value} {w : World} {R : Ending → World → Prop} (h : Calls P f args w R) : CallsIn (wideAt ro) n P f args w R := by
  have h := (callsIn_wide (n := n)).2 h
  cases ro with
  | none => exact h
  | some l => exact h
theorem rowsAt {ro : Option Nat} {n : Nat} {P : Program} {row : String} {args : Array Value} {w : World} {R : Value → World → Prop} (h : Rows P row args w R) : RowsIn (wideAt ro) n P row args w R := by
  intro c cs _
  obtain ⟨v, w', r, s⟩ := h c cs
  refine ⟨v, w', r, ?_⟩
  have : ∀ m m', Steps P m m' → StepsIn (Machine.fenced P Fence.wide) P m m' := fun m m' h => stepsIn_wide.2 h
  exact this _ _ s

theorem bridge {P : Program} {ro : Option Nat} {n : Nat} {ops : Array Oper} {Q : Exit → Act → World → Prop} (hQ : ∀ a w, ¬ Q .outgrown a w) (ds : List Deferred) : ∀ (l : List Oper), (∀ o ∈ l, ∀ c, o.op ≠ .defer c) → ∀ {a : Act} {w : World}, wpList P ops Q l a w →
    wpListIn (wideAt ro) n P ops (PR ds Q) l (withD a ds) w
  | [], _, a, w, h => ⟨a, h, rfl⟩
  | o :: r, hd, a, w, h => by
    have ih := fun {a : Act} {w : World} => bridge (P := P) (ro := ro) (n := n) (ops := ops) hQ ds r (fun o ho => hd o (List.mem_cons_of_mem _ ho)) (a := a) (w := w)
    unfold wpList at h
    unfold wpListIn
    have hw : Region.wanted o (yielded ops (withD a ds).tmps) = Region.wanted o (yielded ops a.tmps) := rfl
    rw [hw]
    split
    · rename_i hw1
      rw [if_pos hw1] at h
      rcases h with h | ⟨_, a0, w0, h⟩
      · refine ⟨fun _ _ => trivial, ?_⟩
        rw [withD_eval, Oper.semAt_eq _ _ _ (hd o (List.mem_cons_self ..))]
        unfold Oper.wp at h
        generalize (execOp a.eval o).run P w = res at h
        unfold Oper.upon at h
        unfold Oper.uponIn
        split at h
        · rename_i v w'
          show wpListIn (wideAt ro) n P ops (PR ds Q) r ((withD a ds).put o.dst v) w'
          rw [← withD_put]; exact ih h
        · rename_i w'
          show wpListIn (wideAt ro) n P ops (PR ds Q) r ((withD a ds).put o.dst undef) w'
          rw [← withD_put]; exact ih h
        · rename_i d w'
          have := ih h
          rw [withD_put] at this
          exact this
        · refine ⟨fun hd => (by cases hd), (callsAt h).mono ?_⟩
          intro e w' he
          cases e with
          | returned v =>
            show wpListIn (wideAt ro) n P ops (PR ds Q) r ((withD a ds).put o.dst v) w'
            rw [← withD_put]; exact ih he
          | panicked ch => exact ⟨a, he, rfl⟩
          | outgrown => obtain ⟨a0, w0, h0⟩ := he; exact absurd h0 (hQ _ _)
        · refine ⟨fun hd => (by cases hd), (rowsAt h).mono ?_⟩
          intro v w' he
          show wpListIn (wideAt ro) n P ops (PR ds Q) r ((withD a ds).put o.dst v) w'
          rw [← withD_put]; exact ih he
        · exact ⟨a, h, rfl⟩
        · exact h.elim
      · exact absurd h (hQ _ _)
    · rename_i hw1
      rw [if_neg hw1] at h
      refine ⟨fun _ _ => trivial, ?_⟩
      rw [← withD_put]
      exact ih h

def noDefer : Oper → Bool
  | ⟨_, .defer _, _, _, _, _⟩ => false
  | _ => true
theorem noDefer_ne {o : Oper} (h : noDefer o = true) (c : Call) : o.op ≠ .defer c := by
  rintro e
  obtain ⟨d, op, t, p, af, g⟩ := o
  simp only at e
  subst e
  cases h
/-- Code that may stand in a round. -/
def codeR (N : Nat) : Code → Bool
  | .skip => true
  | .region _ ops draw => !draw && (ops.toList.all fun o => match o.dst with | some d => decide (d < N) | none => true) && ops.toList.all noDefer
  | .seq a b => codeR N a && codeR N b
  | .cond _ a b => codeR N a && codeR N b
  | .block _ b => codeR N b
  | .ret => true
  | .exit _ => true
  | _ => false

section
variable {C : Ctx} {N h0 : Nat}
theorem inR_sound (hS : SigOK C) {ro : Option Nat} {n : Nat} {ds : List Deferred} {X : Nat → Prop} {w0 : World} {β0 : List BI} {H0 : List Blk} : ∀ (code : Code) {st : ASt} {Q : Exit → ASt → Prop}, codeR N code = true → avcH C [] N h0 code st Q → ∀ {a : Act} {w : World}, Rel C N X w0 β0 H0 st a w →
    code.wpIn (wideAt ro) n C.P (PR ds fun ex a' w' => ∃ st', Q ex st' ∧ Rel C N X w0 β0 H0 st' a' w') (withD a ds) w
  | .skip, st, Q, _, h, a, w, hr => wpIn_skip ⟨a, ⟨st, h, hr⟩, rfl⟩
  | .ret, st, Q, _, h, a, w, hr => wpIn_ret ⟨a, ⟨st, h, hr⟩, rfl⟩
  | .exit id, st, Q, _, h, a, w, hr => wpIn_exit ⟨a, ⟨st, h, hr⟩, rfl⟩
  | .region id ops draw, st, Q, hok, h, a, w, hr => by
    simp only [codeR, Bool.and_eq_true, Bool.not_eq_true'] at hok
    obtain ⟨⟨hdr, hd⟩, hnd⟩ := hok
    subst hdr
    have h : aops C ops ops.toList st (Q .normal) := h
    have hw := wpList_of_aops (Q := fun ex a' w' => ex = .normal ∧ ∃ st', Q .normal st' ∧ Rel C N X w0 β0 H0 st' a' w') hS (ops := ops) ops.toList (fun o ho d hd' => by
      have := List.all_eq_true.1 hd o ho
      rw [hd'] at this
      simpa using this) h hr fun st' a' w' hr' hk => ⟨rfl, st', hk, hr'⟩
    refine wpIn_mono (wpIn_region_list (bridge (ro := ro) (n := n) (fun a w h => by cases h.1) ds ops.toList (fun o ho c => noDefer_ne (List.all_eq_true.1 hnd o ho) c) hw)) ?_
    rintro e a' w' ⟨a'', ⟨rfl, h1⟩, h2⟩
    exact ⟨a'', h1, h2⟩
  | .seq x y, st, Q, hok, h, a, w, hr => by
    simp only [codeR, Bool.and_eq_true] at hok
    have h : avcH C [] N h0 x st (goOn (fun st' => avcH C [] N h0 y st' Q) Q) := h
    refine wpIn_seq (wpIn_mono (inR_sound hS x hok.1 h hr) ?_)
    rintro e a' w' ⟨a'', ⟨st', hq, hr'⟩, rfl⟩
    cases e with
    | normal => exact inR_sound hS y hok.2 hq hr'
    | _ => exact ⟨a'', ⟨st', hq, hr'⟩, rfl⟩
  | .block id x, st, Q, hok, h, a, w, hr => by
    simp only [codeR] at hok
    have h : avcH C [] N h0 x st (outOf id Q) := h
    refine wpIn_block (wpIn_mono (inR_sound hS x hok h hr) ?_)
    rintro e a' w' ⟨a'', ⟨st', hq, hr'⟩, rfl⟩
    cases e with
    | exit j =>
      simp only [Exit.inBlock, outOf] at hq ⊢
      split
      · rename_i e; rw [if_pos e] at hq; exact ⟨a'', ⟨st', hq, hr'⟩, rfl⟩
      · rename_i e; rw [if_neg e] at hq; exact ⟨a'', ⟨st', hq, hr'⟩, rfl⟩
    | _ => exact ⟨a'', ⟨st', hq, hr'⟩, rfl⟩
  | .cond c x y, st, Q, hok, h, a, w, hr => by
    simp only [codeR, Bool.and_eq_true] at hok
    have h : onBool (aev C st.ρ 0 c) fun b => both b (avcH C [] N h0 x st Q) (avcH C [] N h0 y st Q) := h
    have hr0 := hr
    obtain ⟨β, R, S0, Tr, G, hN, hdef⟩ := hr0
    have hE := aev_sound Tr G 0 c
    unfold onBool at h
    split at h
    · rename_i b hb
      rw [hb] at hE
      have hc : (withD a ds).eval c = .bool b := rep_bool hE
      refine wpIn_cond hc ?_
      cases b
      · exact inR_sound hS y hok.2 (h.2 rfl) hr
      · exact inR_sound hS x hok.1 (h.1 rfl) hr
    · rename_i hb
      rw [hb] at hE
      obtain ⟨b, hb'⟩ := rep_anyb hE
      have hc : (withD a ds).eval c = .bool b := hb'
      refine wpIn_cond hc ?_
      cases b
      · exact inR_sound hS y hok.2 (h.2.2 rfl) hr
      · exact inR_sound hS x hok.1 (h.1.1 rfl) hr
    · exact h.elim
end

/-! ### A block that holds no data (a loop's record, the block of its deferred calls) is laid and written -/
def isOdd : Obj → Bool
  | .loop _ => true
  | .deferred _ => true
  | _ => false
theorem cell_odd {w : World} {b c off : Nat} {v : Value} {o0 : Obj} (hb : w.heap[b]? = some o0) (ho : isOdd o0 = true) (hc : w.cell? ⟨c, off, none⟩ = some v) : c ≠ b := by
  rintro rfl
  unfold World.cell? at hc
  simp only at hc
  split at hc
  · rename_i h
    rw [hb] at h
    cases h
    cases ho
  · cases hc
theorem RepD.odd {w : World} {b : Nat} {o0 o : Obj} (hb : w.heap[b]? = some o0) (ho : isOdd o0 = true) {X : Nat → Prop} {v : Value} {av : AV} (h : RepD w X v av) : RepD (w.putObj b o) X v av := by
  have hcell : ∀ {c off : Nat} {u : Value}, w.cell? ⟨c, off, none⟩ = some u → (w.putObj b o).cell? ⟨c, off, none⟩ = some u := fun {c off u} hc => by
    have hne := cell_odd hb ho hc
    rw [← hc]
    exact World.cell?_of_block (World.putObj_heap_other hne)
  induction h with
  | undef v => exact .undef v
  | bool b => exact .bool b
  | int k n => exact .int k n
  | str s => exact .str s
  | nilptr => exact .nilptr
  | anyb b => exact .anyb b
  | mapp b => exact .mapp b
  | tab c k zs t fr hc hx =>
    have hne : c ≠ b := by rintro rfl; rw [hb] at hc; cases hc; cases ho
    exact .tab c k zs t fr ((World.putObj_heap_other hne).trans hc) hx
  | slice sz full rows a n cap val hn h1 h2 h3 hr hm hv ih =>
    refine .slice sz full rows a n cap val hn h1 h2 h3 hr (fun h0 => ?_) ih
    obtain ⟨c, off, rfl, hlt, hx, hc⟩ := hm h0
    exact ⟨c, off, rfl, by rw [World.putObj_size]; exact hlt, hx, fun i j hi hj => ⟨hcell (hc i j hi hj).1, (hc i j hi hj).2⟩⟩
  | iptr c off cells val hlt hx hm hv ih => exact .iptr c off cells val (by rw [World.putObj_size]; exact hlt) hx (fun j hj => ⟨hcell (hm j hj).1, (hm j hj).2⟩) ih
  | agg cs cells val hl hm hv ih => exact .agg cs cells val hl hm ih
  | tup cs cells val hl hm hv ih => exact .tup cs cells val hl hm ih
  | fn f cs cells val hl hm hv ih => exact .fn f cs cells val hl hm ih
theorem Rep.odd {w : World} {b : Nat} {o0 o : Obj} (hb : w.heap[b]? = some o0) (ho : isOdd o0 = true) {X : Nat → Prop} {β : List BI} {H : List Blk} {v : Value} {av : AV} (h : Rep w X β H v av) : Rep (w.putObj b o) X β H v av := by
  induction h with
  | deep h => exact .deep (h.odd hb ho)
  | own l n a cap b' hb' hn h0 hc hx => exact .own l n a cap b' hb' hn h0 hc hx
  | osl l n sz off len a cap b' hb' hn hle h0 hc hx => exact .osl l n sz off len a cap b' hb' hn hle h0 hc hx
  | ptr l n sz i f a b' hb' hn hx => exact .ptr l n sz i f a b' hb' hn hx
  | agg cs cells val hl hm hv ih => exact .agg cs cells val hl hm ih
  | tup cs cells val hl hm hv ih => exact .tup cs cells val hl hm ih
  | fn f cs cells val hl hm hv ih => exact .fn f cs cells val hl hm ih
theorem HRel.odd {w : World} {b : Nat} {o0 o : Obj} (hb : w.heap[b]? = some o0) (ho : isOdd o0 = true) {X : Nat → Prop} {β : List BI} {H : List Blk} (h : HRel w X β H) : HRel (w.putObj b o) X β H := by
  refine ⟨h.len, fun l bi bk h1 h2 => ?_, fun l c cap h1 => by rw [World.putObj_size]; exact h.lt l c cap h1, h.inj, fun c hc => by rw [World.putObj_size]; exact h.base c hc⟩
  have := h.blk l bi bk h1 h2
  cases bi with
  | nil => exact this
  | lies c cap =>
    obtain ⟨cur, k1, k2, k3, k4, k5, k6, k7⟩ := this
    have hne : c ≠ b := by rintro rfl; rw [hb] at k1; cases k1; cases ho
    refine ⟨cur, (World.putObj_heap_other hne).trans k1, k2, k3, k4, k5, k6, fun i j r av hr hj => ?_⟩
    obtain ⟨v, q1, q2, q3, q4⟩ := k7 i j r av hr hj
    exact ⟨v, q1, q2, q3.odd hb ho, fun hd => (q4 hd).odd hb ho⟩
theorem GV.odd {P : Program} {w : World} {b : Nat} {o0 o : Obj} (hb : w.heap[b]? = some o0) (ho : isOdd o0 = true) {X : Nat → Prop} {g : Nat} {av : AV} (h : GV P w X g av) : GV P (w.putObj b o) X g av := by
  cases av
  case mapof k e L =>
    obtain ⟨h1, h2⟩ := h
    refine ⟨h1.same (World.putObj_heap_other ?_), h2⟩
    rintro rfl
    obtain ⟨D, ⟨es, clock, q1, q2⟩, q3⟩ := h1
    rw [hb] at q1
    cases q1
    cases ho
  all_goals exact RepD.odd hb ho (show RepD w X _ _ from h)
section
variable {C : Ctx} {N : Nat} {X : Nat → Prop} {w0 : World} {β0 : List BI} {H0 : List Blk} {st : ASt} {a : Act} {w : World}
theorem Rel.odd {b : Nat} {o0 o : Obj} (hb : w.heap[b]? = some o0) (ho : isOdd o0 = true) (hlo : w0.heap.size ≤ b) (h : Rel C N X w0 β0 H0 st a w) : Rel C N X w0 β0 H0 st a (w.putObj b o) := by
  obtain ⟨β, R, S, T, G, hN, hd⟩ := h
  refine ⟨β, R.odd hb ho, ⟨⟨S.keeps.os, S.keeps.tape, S.keeps.output, by rw [World.putObj_size]; exact S.keeps.size, fun c hc hn => (World.putObj_heap_other (by omega)).trans (S.keeps.block c hc hn), S.keeps.drawn⟩, S.grow, S.len⟩, fun t => (T t).odd hb ho, fun g => (G g).odd hb ho, hN, hd⟩
theorem Rel.alloc (o : Obj) (h : Rel C N X w0 β0 H0 st a w) : Rel C N X w0 β0 H0 st a (w.alloc o) := by
  obtain ⟨β, R, S, T, G, hN, hd⟩ := h
  have hk : Keeps (fun _ => False) w (w.alloc o) := Keeps.alloc _ _ _
  exact ⟨β, R.quiet hk, S.trans (StepR.quiet hk R.len), fun t => (T t).keep (StepR.quiet hk R.len), fun g => (G g).keep (fun b hb hn => hk.block b hb (fun h => h)) hk.size (fun b _ h => h), hN, hd⟩
theorem Rel.there {β1 : List BI} {w1 : World} {H1 : List Blk} (S0 : StepR w0 β0 H0 w1 β1 H1) (h : Rel C N X w1 β1 H1 st a w) : Rel C N X w0 β0 H0 st a w := by
  obtain ⟨β, R, S, T, G, hN, hd⟩ := h
  exact ⟨β, R, S0.trans S, T, G, hN, hd⟩
end
end Go.Proofs.YtfoipbjhaiimlaaGreatDoor

/-
  A function with a range over a function in it: the pieces ahead of it by their conditions. Own work; no program in sight.
-/
namespace Go.Proofs.YtfoipbjhaiimlaaGreatDoor
open Go.RowKit
set_option linter.unusedVariables false

def RX (C : Ctx) (fn : Func) (r : AV) (X : Nat → Prop) (w0 : World) : Exit → Act → World → Prop :=
  bodyPostM Fence.wide 9 C.P fn fun e w' => ∃ v, e = .returned v ∧ Keeps (fun _ => False) w0 w' ∧ RepD w' X v r
def AWX (C : Ctx) (N : Nat) (fn : Func) (r : AV) (code : Code) (st : ASt) : Prop :=
  ∀ (X : Nat → Prop) (w0 : World) (a : Act) (w : World), Rel C N X w0 [] [] st a w → code.wpIn Fence.wide 9 C.P (RX C fn r X w0) a w
@[congr] theorem AWX_congr {C : Ctx} {N : Nat} {fn : Func} {r : AV} {code : Code} {st st' : ASt} (h : mark st = st') : AWX C N fn r code st = AWX C N fn r code st' := by rw [mark_eq] at h; rw [h]

section
variable {C : Ctx} {N : Nat} {fn : Func} {r : AV}
theorem leaves_fin {X : Nat → Prop} {w0 : World} {st : ASt} {a : Act} {w : World} (h : finP C fn.results.toList r st) (hr : Rel C N X w0 [] [] st a w) : LeavesIn Fence.wide 9 C.P fn a.tmps (fun e w' => ∃ v, e = .returned v ∧ Keeps (fun _ => False) w0 w' ∧ RepD w' X v r) [] .returning w := by
  unfold finP at h
  split at h
  · rename_i ob' r' hres
    obtain ⟨hob', hview⟩ := h
    obtain ⟨β', R', S', T', G', hN', hdef'⟩ := hr
    obtain ⟨u, hu, hrep⟩ := aresults_sound R' T' hres hob'
    have hv := (view_sound R' (fun _ => True) 6 hrep (fun _ _ => trivial)).mono (X' := X) fun b _ hb => .inl hb
    have hv := repD_nrmV hv
    rw [hview] at hv
    exact ⟨u, hu, u, rfl, S'.keeps.weaken (fun b _ h => by obtain ⟨l, c, blk, h1, _, _⟩ := h; simp at h1), hv⟩
  · exact h.elim
theorem rx_fin {X : Nat → Prop} {w0 : World} {st : ASt} {a : Act} {w : World} {ex : Exit} (h : postP C fn.results.toList r ex st) (hr : Rel C N X w0 [] [] st a w) : RX C fn r X w0 ex a w := by
  have hd : a.defers = [] := by obtain ⟨_, _, _, _, _, _, h⟩ := hr; exact h
  cases ex with
  | normal => show LeavesInM _ _ _ _ _ _ a.defers _ _; rw [hd]; exact leaves_fin h hr
  | ret => show LeavesInM _ _ _ _ _ _ a.defers _ _; rw [hd]; exact leaves_fin h hr
  | _ => exact h.elim
theorem rx_mark {X : Nat → Prop} {w0 : World} {st : ASt} {a : Act} {w : World} {ex : Exit} {D : Nat} (hD : w.heap[D]? = some (.deferred (some []))) (hlo : w0.heap.size ≤ D) (h : postP C fn.results.toList r ex st) (hr : Rel C N X w0 [] [] st a w) :
    RX C fn r X w0 ex (withD a [{ target := .collected D, args := #[] }]) w := by
  have hd : a.defers = [] := by obtain ⟨_, _, _, _, _, _, h⟩ := hr; exact h
  have key : finP C fn.results.toList r st → LeavesInM Fence.wide 9 C.P fn a.tmps (fun e w' => ∃ v, e = .returned v ∧ Keeps (fun _ => False) w0 w' ∧ RepD w' X v r) [{ target := .collected D, args := #[] }] .returning w := fun h =>
    ⟨by simp, .inl ⟨D, _, rfl, run_takeDeferred hD, leaves_fin h (hr.odd hD rfl hlo)⟩⟩
  cases ex with
  | normal => show LeavesInM _ _ _ _ _ _ (a.defers ++ _) _ _; rw [hd]; exact key h
  | ret => show LeavesInM _ _ _ _ _ _ (a.defers ++ _) _ _; rw [hd]; exact key h
  | _ => exact h.elim
theorem AWX_seq (hS : SigOK C) (hM : C.P.follows .mixedOrders = true) (hd : List Nat) {a b : Code} {st : ASt} (hok : codeOKH C hd N a = true) (h : avcH C hd N 0 a st (goOn (AWX C N fn r b) (postP C fn.results.toList r))) : AWX C N fn r (.seq a b) st := fun X w0 x w hr => by
  refine wpIn_seq (wpIn_mono (wpIn_wide.2 (avcH_sound hS hM a hok h X w0 [] [] x w rfl hr)) ?_)
  rintro e a' w' ⟨st', hq, hr'⟩
  cases e with
  | normal => exact hq X w0 a' w' hr'
  | _ => exact rx_fin hq hr'
theorem AWX.weak {code : Code} {st st' : ASt} (hw : Weak C N 0 st st') (h : AWX C N fn r code st') : AWX C N fn r code st := fun X w0 a w hr => h X w0 a w (hw X w0 [] [] a w rfl hr)
/-- b, then c, in a function's body. -/
def AWXb (C : Ctx) (N : Nat) (fn : Func) (r : AV) (b c : Code) (st : ASt) : Prop :=
  ∀ (X : Nat → Prop) (w0 : World) (a : Act) (w : World), Rel C N X w0 [] [] st a w → b.wpIn Fence.wide 9 C.P (Exit.then (c.wpIn Fence.wide 9 C.P (RX C fn r X w0)) (RX C fn r X w0)) a w
@[congr] theorem AWXb_congr {C : Ctx} {N : Nat} {fn : Func} {r : AV} {b c : Code} {st st' : ASt} (h : mark st = st') : AWXb C N fn r b c st = AWXb C N fn r b c st' := by rw [mark_eq] at h; rw [h]
theorem AWXb.weak {b c : Code} {st st' : ASt} (hw : Weak C N 0 st st') (h : AWXb C N fn r b c st') : AWXb C N fn r b c st := fun X w0 a w hr => h X w0 a w (hw X w0 [] [] a w rfl hr)
theorem AWX_seq2 (hS : SigOK C) (hM : C.P.follows .mixedOrders = true) (hd : List Nat) {a b c : Code} {st : ASt} (hok : codeOKH C hd N a = true) (h : avcH C hd N 0 a st (goOn (AWXb C N fn r b c) (postP C fn.results.toList r))) : AWX C N fn r (.seq (.seq a b) c) st := fun X w0 x w hr => by
  refine wpIn_seq (wpIn_seq (wpIn_mono (wpIn_wide.2 (avcH_sound hS hM a hok h X w0 [] [] x w rfl hr)) ?_))
  rintro e a' w' ⟨st', hq, hr'⟩
  cases e with
  | normal => exact hq X w0 a' w' hr'
  | exit id => exact hq.elim
  | goto id => exact hq.elim
  | panic id => exact hq.elim
  | outgrown => exact hq.elim
  | ret =>
    have hq : postP C fn.results.toList r .ret st' := hq
    exact (rx_fin hq hr' : RX C fn r X w0 .ret a' w')
theorem pure2X {α β : Type} [Enc α] [Enc β] {f : FuncId} {body : Code} {n : Nat} (hf : C.P.funcs[f]? = some fn) (hb : fn.body = some body) (hn : fn.ntmps = n) (hnn : 2 ≤ n) {pre : α → β → Prop} {res : α → β → AV}
    (h : ∀ a b, pre a b → AWX C n fn (res a b) body ⟨[(0, Enc.enc a), (1, Enc.enc b)], []⟩) : PureOK C.P C.G f (spec2 pre res) := by
  subst hn
  intro w X args avs0 ob r' hX hG hsz0 harg0 hp hob
  obtain ⟨r0, hlen0, hav0⟩ : ∃ _ : r' = r', avs0.length ≤ fn.ntmps ∧ AWX C fn.ntmps fn r' body ⟨argsρ 0 (avs0.map nrmV), []⟩ := by
    unfold spec2 at hp
    split at hp
    · injection hp with hp; injection hp with e1 e2; subst e1 e2
      refine ⟨rfl, hnn, ?_⟩
      have := h _ _ hob.2.2
      rw [← hob.1, ← hob.2.1] at this
      exact this
    · cases hp
  generalize havs : avs0.map nrmV = avs at hav0
  have hlen : avs.length ≤ fn.ntmps := by rw [← havs]; simpa using hlen0
  have hsz : args.size = avs.length := by rw [← havs]; simpa using hsz0
  have harg : ∀ (j : Nat) (u : AV), avs[j]? = some u → ∃ v, args[j]? = some v ∧ RepD w X v u := fun j u hu => by
    rw [← havs, List.getElem?_map] at hu
    simp only [Option.map_eq_some_iff] at hu
    obtain ⟨av, hav, rfl⟩ := hu
    obtain ⟨v, h1, h2⟩ := harg0 j av hav
    exact ⟨v, h1, repD_nrmV h2⟩
  refine callsIn_wide.1 (callsIn_of_wp_marks (n := 9) hf hb trivial ?_)
  have hMu : ∀ b, Mu X [] [] b → X b := by
    rintro b (h | ⟨l, c, blk, h1, _, _⟩)
    · exact h
    · simp at h1
  have R : HRel w X [] [] := ⟨rfl, fun l bi b h1 _ => by simp at h1, fun l b c h1 => by simp at h1, fun l l' b c c' h1 => by simp at h1, hX⟩
  have hr : Rel C fn.ntmps X w [] [] ⟨argsρ 0 avs, []⟩ { tmps := args ++ Array.replicate (fn.ntmps - args.size) undef, defers := [] } w :=
    ⟨[], R, StepR.refl _ _ _ rfl, trel_args hsz (fun j u hj => let ⟨v, h1, h2⟩ := harg j u hj; ⟨v, h1, .deep (h2.mono fun b _ hb => hMu b hb)⟩), fun g => (hG g).mono fun b _ hb => hMu b hb, by simp; omega, rfl⟩
  exact hav0 X w _ w hr
end
end Go.Proofs.YtfoipbjhaiimlaaGreatDoor


/-
  layer 31: the closure of slices.Backward at numbers: its loop (after the kit's worked proofs of a range over a function).
-/
namespace Go.Proofs.YtfoipbjhaiimlaaGreatDoor
open Go.RowKit Go.Shelf Go.Proofs

attribute [local go_sem] Oper.semAt_some

set_option maxRecDepth 100000 in
set_option maxHeartbeats 2000000 in
theorem back_in (F : Fence) (n : Nat) (h7 : F.fn 94) (hro : F.round = none) (hn : 1 ≤ n) (l Bs bo b off len cap : Nat) (hlen : len ≤ 1000000) (J : Nat → World → Prop)
    (hB : ∀ k W, J k W → W.cell? ⟨Bs, bo, none⟩ = some (.slice (some ⟨b, off, none⟩) len cap))
    (hY : ∀ k W, J k W → k < len → ∃ v, W.cell? ⟨b, off + (len - 1 - k), none⟩ = some v ∧ YieldAt F (n - 1) Tryz.prog l #[.int .i64 ((len : Int) - 1 - k), v] W fun e W' => e = .returned (.bool true) ∧ J (k + 1) W')
    (W : World) (h0 : J 0 W) :
    CallsIn F n Tryz.prog 94 #[.func (.yield l) #[] #[], .pointer (some ⟨Bs, bo, none⟩)] W fun e W' => (∃ v, e = .returned v) ∧ J len W' := by
  refine callsIn_of_wp Tryz.func94 rfl h7 ?_ hro
  simp only [Tryz.ntmps94, List.size_toArray, List.length_cons, List.length_nil, Nat.reduceAdd, Nat.reduceSub, Array.replicate_succ, Array.replicate_zero, List.push_toArray, List.append_toArray, List.nil_append, List.cons_append]
  have hBs := hB 0 W h0
  gi_wp2
  gi_loopw [3] (fun i wr => ∃ k : Nat, k ≤ len ∧ i = .int .i64 ((len : Int) - 1 - k) ∧ J k wr)
    (fun i _ => (intOf i + 1).toNat)
  case atStart => exact ⟨0, Nat.zero_le _, by simp, h0⟩
  case round =>
    obtain ⟨k, hk, rfl, hJs⟩ := hrel
    have hBk := hB k wr hJs
    by_cases hlt : k < len
    · obtain ⟨v, hv, fn, tmps, assign, body, hy, hR⟩ := hY k wr hJs hlt
      gi_wp2
      refine hR.mono ?_
      rintro e W3 ⟨rfl, hJ3⟩
      gi_wp2
      go_roundw
      case rel => exact ⟨k + 1, by omega, by simp; omega, hJ3⟩
      case measure => simp [intOf]; omega
    · obtain rfl : k = len := by omega
      gi_wp2
      go_end0
      exact ⟨⟨_, rfl⟩, hJs⟩

section
variable {C : Ctx} {N : Nat} {X : Nat → Prop} {w0 : World} {β0 : List BI} {H0 : List Blk}
theorem rel_put64 {st : ASt} {a : Act} {w : World} (h : Rel C N X w0 β0 H0 st a w) {d : Tmp} (hd : d < N) {v : Value} {av : AV} (hv : ∀ β, HRel w X β st.H → StepR w0 β0 H0 w β st.H → Rep w (Mu X β st.H) β st.H v av) : Rel C N X w0 β0 H0 ⟨putA st.ρ (some d) av, st.H⟩ (a.put (some d) v) w := by
  obtain ⟨β, R, S, T, G, hN, hdef⟩ := h
  exact rel_put S T G hN hdef R (StepR.refl _ _ _ R.len) (hv β R S) (some d) (fun d' e => by cases e; exact hd)
theorem rel_loop {w w1 : World} {ex : ASt} {a' : Act} {β : List BI} {H : List Blk} {o : Obj} {L : Nat} (hL : w1.heap[L]? = some o) (ho : isOdd o = true) (R : HRel w1 X β H) (h' : Rel C N X w1 β H ex a' w) : w.heap[L]? = some o := by
  obtain ⟨β', R', S', _⟩ := h'
  have hlt : L < w1.heap.size := (Array.getElem?_eq_some_iff.1 hL).1
  rw [S'.keeps.block L hlt fun ⟨l, c, blk, k1, k2, k3⟩ => ?_, hL]
  obtain ⟨cur, q1, _⟩ := R.blk l _ _ k1 k2
  rw [hL] at q1
  cases q1
  cases ho
end
end Go.Proofs.YtfoipbjhaiimlaaGreatDoor


/-
  layer 31: 'for _, s := range slices.Backward(steps)' as a rule.
-/
namespace Go.Proofs.YtfoipbjhaiimlaaGreatDoor
open Go.RowKit Go.Shelf Go.Proofs
set_option linter.unusedVariables false

set_option maxHeartbeats 4000000 in
theorem range_back {C : Ctx} (hP : C.P = Tryz.prog) {N : Nat} {fn : Func} {r : AV} (hS : SigOK C) {bid : Nat} {g p1 p2 : Tmp} {assign body tail : Code} {st : ASt} {vs : List AV} (hg : getA st.ρ g = .fn 94 [.iptr [.slice 1 false (vs.map fun v => [v])]]) (h1 : vs.length ≠ 0) (hl : vs.length ≤ 1000000)
    (hp1 : p1 < N) (hp2 : p2 < N) (oka : codeR N assign = true) (okb : codeR N body = true) (okt : codeR N tail = true) (Hf : Nat → List Blk) (hH0 : Hf 0 = st.H)
    (hround : ∀ k v, k < vs.length → vs[vs.length - 1 - k]? = some v → avcH C [] N 0 assign ⟨putA (putA st.ρ (some p1) (.int .i64 ((vs.length : Int) - 1 - k))) (some p2) v, Hf k⟩ fun ex st1 => ex = .normal ∧ avcH C [] N 0 body st1 fun ex2 st2 => ex2 = .normal ∧ st2.H = Hf (k + 1))
    (htail : avcH C [] N 0 tail ⟨st.ρ, Hf vs.length⟩ (postP C fn.results.toList r)) :
    AWXb C N fn r (.block bid (.rangeFunc (.tmp g) #[p1, p2] assign body)) tail st := fun X w0 a w hr => by
  obtain ⟨P0, Sg, Gv⟩ := C
  simp only at hP
  subst hP
  obtain ⟨β, R, S1, T, G, hN, hdef⟩ := hr
  have hbase : Rel ⟨Tryz.prog, Sg, Gv⟩ N X w β st.H ⟨st.ρ, Hf 0⟩ a w := by rw [hH0]; exact ⟨β, R, StepR.refl _ _ _ R.len, T, G, hN, hdef⟩
  have T0 := T g
  rw [hg] at T0
  obtain ⟨Bs, bo, sv, hfv, hBs, hBm, hBc, hsv⟩ : ∃ Bs bo sv, a.tmps.getD g undef = .func (.func 94) #[] #[.pointer (some ⟨Bs, bo, none⟩)] ∧ Bs < w.heap.size ∧ ¬ Mu X β st.H Bs ∧ w.cell? ⟨Bs, bo, none⟩ = some sv ∧ RepD w (Mu X β st.H) sv (.slice 1 false (vs.map fun v => [v])) := by
    generalize a.tmps.getD g undef = fv at T0
    have key : ∀ cs : Array Value, cs.size = 1 → (∀ q, cs[0]? = some q → RepD w (Mu X β st.H) q (.iptr [.slice 1 false (vs.map fun v => [v])])) → ∃ Bs bo sv, Value.func (.func 94) #[] cs = .func (.func 94) #[] #[.pointer (some ⟨Bs, bo, none⟩)] ∧ Bs < w.heap.size ∧ ¬ Mu X β st.H Bs ∧ w.cell? ⟨Bs, bo, none⟩ = some sv ∧ RepD w (Mu X β st.H) sv (.slice 1 false (vs.map fun v => [v])) := by
      intro cs hcs hq
      obtain ⟨q, rfl⟩ : ∃ q, cs = #[q] := by
        refine ⟨cs[0]'(by omega), ?_⟩
        apply Array.ext (by simpa using hcs)
        intro i h1 h2
        have : i = 0 := by omega
        subst this
        rfl
      have hq := hq q rfl
      cases hq with
      | iptr c o cells val hlt hx hm hv =>
        obtain ⟨m1, m2⟩ := hm 0 (by simp)
        exact ⟨c, o, _, rfl, hlt, hx, m1, hv 0 _ rfl⟩
    cases T0 with
    | deep h =>
      cases h with
      | fn f cs cells val hl hm hv =>
        refine key cs hl fun q hq => ?_
        rw [hm 0 (by simp)] at hq
        cases hq
        exact hv 0 _ rfl
    | fn f cs cells val hl hm hv =>
      refine key cs hl fun q hq => ?_
      rw [hm 0 (by simp)] at hq
      injection hq with hq
      have := hv 0 _ rfl
      rw [hq] at this
      exact rep_iptr this
  obtain ⟨a0, cap, val, rfl, k1, k2, k3, k4, k5, k6⟩ := repD_slice hsv
  simp only [List.length_map] at k1 k5 hBc
  obtain ⟨b, off, rfl, hb, hbm, hbc⟩ := k5 h1
  refine wpIn_block (wpIn_rangeFunc ?_)
  intro fid hfn
  obtain ⟨rec, hrec⟩ : ∃ rec : LoopState → Loop, rec = fun st => { state := st, pending := none, fn := fid, tmps := a.tmps, params := #[p1, p2], assign, body, defers := w.heap.size } := ⟨_, rfl⟩
  obtain ⟨W1, hW1⟩ : ∃ W1, (w.alloc (.deferred (some []))).alloc (.loop (rec .ready)) = W1 := ⟨_, rfl⟩
  obtain ⟨J, hJ⟩ : ∃ J : Nat → World → Prop, J = fun k W => Rel ⟨Tryz.prog, Sg, Gv⟩ N X w β st.H ⟨st.ρ, Hf k⟩ a W ∧ W.heap[w.heap.size + 1]? = some (.loop (rec .ready)) ∧ W.heap[w.heap.size]? = some (.deferred (some [])) := ⟨_, rfl⟩
  have hJ0 : J 0 W1 := by
    rw [hJ, ← hW1]
    refine ⟨(hbase.alloc _).alloc _, ?_, ?_⟩
    · have := World.alloc_heap_new (w.alloc (.deferred (some []))) (.loop (rec .ready)); rwa [World.size_alloc] at this
    · exact (Below.heap_alloc _ _ _ (by simp)).trans (World.alloc_heap_new w _)
  have hkeep : ∀ k W, J k W → ∀ c, c < w.heap.size → ¬ Mu X β st.H c → W.heap[c]? = w.heap[c]? := fun k W h c hc hm => by
    rw [hJ] at h
    obtain ⟨⟨β', R', S', _⟩, _⟩ := h
    exact S'.keeps.block c hc fun h => hm (.inr h)
  refine ⟨w.heap.size + 1, [{ target := .collected w.heap.size, args := #[] }], W1, { target := .fn (.func 94) #[.pointer (some ⟨Bs, bo, none⟩)], args := #[.func (.yield (w.heap.size + 1)) #[] #[]] }, W1, 94,
    #[.func (.yield (w.heap.size + 1)) #[] #[]] ++ #[.pointer (some ⟨Bs, bo, none⟩)], W1, ?_, ?_, fun _ _ => trivial, ?_, fun _ => by omega, ?_⟩
  · rw [← hW1, hrec]; exact run_enterLoop_outer _ _ _ _ _
  · have he : a.eval (.tmp g) = .func (.func 94) #[] #[.pointer (some ⟨Bs, bo, none⟩)] := hfv
    simp only [resolve, he]
    simp [go_sem]
  · simp [invoke, go_sem]
  · have hY := back_in Fence.wide 8 trivial rfl (by omega) (w.heap.size + 1) Bs bo b off vs.length cap hl J (fun k W h => by
        rw [← hBc]
        exact World.cell?_of_block (hkeep k W h Bs hBs hBm)) (fun k W h hk => ?_) W1 hJ0
    · refine hY.mono ?_
      rintro e W2 ⟨⟨v, rfl⟩, h⟩
      rw [hJ] at h
      obtain ⟨h2, hl2, hd2⟩ := h
      have hr2 := run_endLoop (P := Tryz.prog) hl2 (by rw [hrec]; simp)
      rw [hrec] at hr2
      refine ⟨none, _, hr2, ?_⟩
      have h3 := h2.odd (o := .loop { rec .ready with state := .exhausted }) hl2 rfl (Nat.le_succ _)
      have hd3 := (World.putObj_heap_other (o := .loop { rec .ready with state := .exhausted }) (show w.heap.size ≠ w.heap.size + 1 by omega)).trans hd2
      rw [hrec] at h3 hd3
      have h4 := h3.there S1
      obtain ⟨β6, R6, S6, T6, G6, hN6, hdef6⟩ := h4
      have h5 : Rel ⟨Tryz.prog, Sg, Gv⟩ N X _ β6 (Hf vs.length) ⟨st.ρ, Hf vs.length⟩ a _ := ⟨β6, R6, StepR.refl _ _ _ R6.len, T6, G6, hN6, hdef6⟩
      have ht := inR_sound hS (ro := none) (n := 9) (ds := [{ target := .collected w.heap.size, args := #[] }]) tail okt htail h5
      have ea : withD a [{ target := .collected w.heap.size, args := #[] }] = { a with defers := [{ target := .collected w.heap.size, args := #[] }] ++ a.defers } := by
        unfold withD
        rw [hdef]; rfl
      rw [ea] at ht
      refine wpIn_mono ht ?_
      rintro e a' w' ⟨a'', ⟨st', hq, hr'⟩, rfl⟩
      exact rx_mark (rel_loop hd3 rfl R6 hr') S1.keeps.size hq (hr'.there S6)
    · rw [hJ] at h
      obtain ⟨hk1, hk2, hk3⟩ := h
      have hlt : vs.length - 1 - k < vs.length := by omega
      obtain ⟨av, hav⟩ : ∃ av, vs[vs.length - 1 - k]? = some av := ⟨_, List.getElem?_eq_getElem hlt⟩
      have hrow : (vs.map fun v => [v])[vs.length - 1 - k]? = some [av] := by rw [List.getElem?_map, hav]; rfl
      obtain ⟨hc1, hc2⟩ := hbc (vs.length - 1 - k) 0 hlt Nat.zero_lt_one
      have hv0 := k6 (vs.length - 1 - k) 0 [av] av hrow rfl
      rw [show off + (vs.length - 1 - k) * 1 + 0 = off + (vs.length - 1 - k) by omega] at hc1
      have hkW := hkeep k W (by rw [hJ]; exact ⟨hk1, hk2, hk3⟩)
      refine ⟨val (vs.length - 1 - k) 0, (World.cell?_of_block (hkW b hb hbm)).trans hc1, fid, (#[p1, p2].zip #[.int .i64 ((vs.length : Int) - 1 - k), val (vs.length - 1 - k) 0]).foldl (fun tmps (t, a) => tmps.setIfInBounds t a) a.tmps, assign, body, ?_, ?_⟩
      · have hy := run_yield (P := Tryz.prog) (args := #[.int .i64 ((vs.length : Int) - 1 - k), val (vs.length - 1 - k) 0]) hk2 (by rw [hrec]; rfl)
        rw [hrec] at hy
        exact hy
      refine roundIn_of_wpIn trivial ?_
      have hact : ({ tmps := (#[p1, p2].zip #[.int .i64 ((vs.length : Int) - 1 - k), val (vs.length - 1 - k) 0]).foldl (fun tmps (t, a) => tmps.setIfInBounds t a) a.tmps, defers := [] } : Act) = (a.put (some p1) (.int .i64 ((vs.length : Int) - 1 - k))).put (some p2) (val (vs.length - 1 - k) 0) := by
        simp [Act.put, hdef]
      have hA0 := rel_put64 (rel_put64 hk1 hp1 (v := .int .i64 ((vs.length : Int) - 1 - k)) (av := .int .i64 ((vs.length : Int) - 1 - k)) fun _ _ _ => .deep (.int .i64 _)) hp2 (v := val (vs.length - 1 - k) 0) (av := av) fun β' R' S' => Rep.keep S' (.deep hv0)
      rw [← hact] at hA0
      obtain ⟨β2, R2, S2, T2, G2, hN2, hd2⟩ := hA0
      have hA1 : Rel ⟨Tryz.prog, Sg, Gv⟩ N X W β2 (Hf k) _ _ W := ⟨β2, R2, StepR.refl _ _ _ R2.len, T2, G2, hN2, hd2⟩
      refine wpIn_mono (inR_sound hS (ro := some (w.heap.size + 1)) (n := 7) (ds := []) assign oka (hround k av hk hav) hA1) ?_
      rintro e a1 w1 ⟨a1', ⟨st1, ⟨rfl, hb1⟩, hr3⟩, rfl⟩
      have hl1 := rel_loop hk2 rfl R2 hr3
      have hd1 := rel_loop hk3 rfl R2 hr3
      refine ⟨_, run_beginRound hl1 (by rw [hrec]), ?_⟩
      have hr4 := (hr3.there S2).odd (o := .loop { rec .ready with state := .busy }) hl1 rfl (Nat.le_succ _)
      have hlt1 : w.heap.size + 1 < w1.heap.size := (Array.getElem?_eq_some_iff.1 hl1).1
      obtain ⟨W2, hW2⟩ : ∃ W2, w1.putObj (w.heap.size + 1) (.loop { rec .ready with state := .busy }) = W2 := ⟨_, rfl⟩
      have hl2 : W2.heap[w.heap.size + 1]? = some (.loop { rec .ready with state := .busy }) := by rw [← hW2]; exact World.putObj_heap_same hlt1
      have hd2' : W2.heap[w.heap.size]? = some (.deferred (some [])) := by rw [← hW2]; exact (World.putObj_heap_other (by omega)).trans hd1
      rw [hW2] at hr4 ⊢
      obtain ⟨β4, R4, S4, T4, G4, hN4, hd4⟩ := hr4
      have hB1 : Rel ⟨Tryz.prog, Sg, Gv⟩ N X W2 β4 st1.H st1 a1' W2 := ⟨β4, R4, StepR.refl _ _ _ R4.len, T4, G4, hN4, hd4⟩
      refine wpIn_mono (inR_sound hS (ro := some (w.heap.size + 1)) (n := 7) (ds := []) body okb hb1 hB1) ?_
      rintro e a3 w3 ⟨a3', ⟨⟨ρ3, H3⟩, ⟨rfl, hH3⟩, hr5⟩, rfl⟩
      simp only at hH3
      subst hH3
      have hl3 := rel_loop hl2 rfl R4 hr5
      have hd3 := rel_loop hd2' rfl R4 hr5
      have hre := run_endRound (P := Tryz.prog) none hl3
      refine ⟨_, _, hre, rfl, ?_⟩
      obtain ⟨β5, R5, S5, T5, G5, hN5, hd5⟩ := hr5.there S4
      have hr6 : Rel ⟨Tryz.prog, Sg, Gv⟩ N X w β st.H ⟨st.ρ, Hf (k + 1)⟩ a w3 := ⟨β5, R5, S5, fun t => (T t).keep S5, G5, hN, hdef⟩
      have hlt3 : w.heap.size + 1 < w3.heap.size := (Array.getElem?_eq_some_iff.1 hl3).1
      rw [hJ]
      refine ⟨hr6.odd hl3 rfl (Nat.le_succ _), ?_, (World.putObj_heap_other (by omega)).trans hd3⟩
      rw [World.putObj_heap_same hlt3, hrec]
      rfl
end Go.Proofs.YtfoipbjhaiimlaaGreatDoor


/-
  layer 31: Bound, the reference's side.
-/
namespace Go.Proofs.YtfoipbjhaiimlaaGreatDoor
open Go.RowKit
set_option linter.unusedSimpArgs false
set_option linter.unusedVariables false
set_option maxRecDepth 100000

end Go.Proofs.YtfoipbjhaiimlaaGreatDoor


/-
  layer 31: Bound.
-/
namespace Go.Proofs.YtfoipbjhaiimlaaGreatDoor
open Go.RowKit
set_option linter.unusedSimpArgs false
set_option linter.unusedVariables false
set_option maxRecDepth 100000

def sBack : List AV → Option (Prop × AV) := spec1 (fun (l : List (List Int)) => True) (fun l => .fn 94 [.iptr [Enc.enc l]])
theorem backP : PureOK Tryz.prog G0 53 sBack := by
  refine pureH1 (C := CE) sigCE mixCE Tryz.func53 rfl rfl rfl [] (by kernel_rfl) (by decide) (fun l _ => ?_)
  simp
def powsN (j : Nat) : List (List Int) := (List.range (j + 1)).map fun i => Nt.canon (2 ^ i)
theorem pows_len (j : Nat) : (powsN j).length = j + 1 := by simp [powsN]
theorem pows_succ (j : Nat) : powsN (j + 1) = powsN j ++ [Nt.canon (2 ^ (j + 1))] := by
  unfold powsN
  rw [List.range_succ (n := j + 1), List.map_append]; rfl
theorem pows_get {j i : Nat} (h : i ≤ j) : (powsN j)[i]? = some (Nt.canon (2 ^ i)) := by
  unfold powsN
  rw [List.getElem?_map, List.getElem?_range (by omega)]; rfl
def PWB (j : Nat) : Blk := ⟨63, 1, encRows (powsN j), true, true⟩
def PWF (j : Nat) : Blk := ⟨63, 1, encRows (powsN j), false, true⟩
theorem pows_rows (l : List (List Int)) : (l.map Enc.enc).map (fun v : AV => [v]) = encRows l := by
  unfold encRows
  rw [List.map_map]; rfl
theorem pows_at {j k : Nat} {v : AV} (hk : k < j + 1) (h : ((powsN j).map Enc.enc)[j + 1 - 1 - k]? = some v) : v = Enc.enc (Nt.canon (2 ^ (j - k))) := by
  rw [List.getElem?_map, show j + 1 - 1 - k = j - k by omega, pows_get (by omega)] at h
  injection h with h
  exact h.symm
def outF (b m : Nat) : Nat → Nat
  | 0 => 0
  | k + 1 => if outF b m k + 2 ^ (m - k) ≤ b then outF b m k + 2 ^ (m - k) else outF b m k
theorem outF_inv {b m : Nat} (hb : b < 2 ^ (m + 1)) : ∀ k, k ≤ m + 1 → outF b m k ≤ b ∧ b < outF b m k + 2 ^ (m + 1 - k)
  | 0, _ => ⟨Nat.zero_le _, by simpa [outF] using hb⟩
  | k + 1, h => by
    obtain ⟨h1, h2⟩ := outF_inv hb k (by omega)
    have e : 2 ^ (m + 1 - k) = 2 ^ (m - k) + 2 ^ (m - k) := by
      rw [show m + 1 - k = (m - k) + 1 by omega, Nat.pow_succ]; omega
    rw [show m + 1 - (k + 1) = m - k by omega]
    unfold outF
    split
    · rename_i h3; exact ⟨h3, by omega⟩
    · rename_i h3; exact ⟨h1, by omega⟩
theorem outF_fin {b m : Nat} (hb : b < 2 ^ (m + 1)) : outF b m (m + 1) = b := by
  obtain ⟨h1, h2⟩ := outF_inv hb (m + 1) (Nat.le_refl _)
  rw [Nat.sub_self] at h2
  omega
theorem outF_nx {bb j k : Nat} (hj : 2 ^ j < LimN) (hk : k < j + 1) : 2 ^ (j - k) < LimN ∧ outF bb j (k + 1) = if outF bb j k + 2 ^ (j - k) ≤ bb then outF bb j k + 2 ^ (j - k) else outF bb j k := by
  refine ⟨?_, rfl⟩
  have := Nat.pow_le_pow_right (n := 2) (by decide) (show j - k ≤ j by omega)
  omega
def NaB (n : Nat) : Blk := ⟨63, 1, [[Enc.enc (Nt.canon n)]], true, true⟩
def SfB (r : Fr) (T : Nat) : Nat → ASt
  | 0 => ⟨[(3, .ptr 0 1 2 0 0), (6, .ptr 1 1 1 0 0), (8, .slice 1 true [[Enc.enc (Nt.canon 1)]])], [FB r, NaB T]⟩
  | j + 1 => ⟨[(3, .ptr 0 1 2 0 0), (6, .ptr 1 1 1 0 0), (8, .own 2 (j + 2))], [FB r, NaB T, PWB (j + 1)]⟩
def sMulN : List AV → Option (Prop × AV) := spec2 (fun (a b : List Int) => a.length ≤ 1000000 ∧ b.length ≤ 1000000) (fun a b => Nt.fitT (Nt.nv a * Nt.nv b))
noncomputable def CBo : Ctx := mkC Tryz.prog G0 [(46, .pure sUsable), (48, .pure Nt.s20), (47, .pure Nt.s11), (51, .pure sMulN), (54, .pure Nt.s22), (52, .pure sBelow), (53, .frz sBack)]
@[simp] theorem CBo_P : CBo.P = Tryz.prog := rfl
@[simp] theorem CBo_G : CBo.G = G0 := rfl
@[simp] theorem CBo_1 : CBo.S 46 = .pure sUsable := rfl
@[simp] theorem CBo_2 : CBo.S 48 = .pure Nt.s20 := rfl
@[simp] theorem CBo_3 : CBo.S 47 = .pure Nt.s11 := rfl
@[simp] theorem CBo_4 : CBo.S 51 = .pure sMulN := rfl
@[simp] theorem CBo_5 : CBo.S 54 = .pure Nt.s22 := rfl
@[simp] theorem CBo_6 : CBo.S 52 = .pure sBelow := rfl
@[simp] theorem CBo_7 : CBo.S 53 = .frz sBack := rfl
theorem mixCBo : CBo.P.follows .mixedOrders = true := mixed
theorem sigCBo : SigOK CBo := sigOK_cons (entryPure (usableP) Tryz.func46 rfl (by decide)) (sigOK_cons (entryPure (Nt.of20) Tryz.func48 rfl (by decide)) (sigOK_cons (entryPure (Nt.pow11) Tryz.func47 rfl (by decide)) (sigOK_cons (entryPure (Nt.mul15) Tryz.func51 rfl (by decide)) (sigOK_cons (entryPure (Nt.add22) Tryz.func54 rfl (by decide)) (sigOK_cons (entryPure (belowP) Tryz.func52 rfl (by decide)) (sigOK_cons (entryFrz (backP) Tryz.func53 rfl (by decide)) (sigOK_nil _ _)))))))
theorem outOf_norm {Q : Exit → ASt → Prop} {ex : Exit} {st : ASt} (h : ex = .normal ∨ ex = .exit 0) : outOf 0 Q ex st = Q .normal st := by
  rcases h with rfl | rfl <;> rfl
set_option maxHeartbeats 16000000 in
theorem boundP : PureOK Tryz.prog G0 20 sBound := by
  refine pure2X (C := CBo) Tryz.func20 rfl rfl (by decide) (fun n r hn => ?_)
  obtain ⟨b, hb⟩ : ∃ b, boundT n r = b := ⟨_, rfl⟩
  rw [hb]
  refine AWX_seq (C := CBo) sigCBo mixCBo [] (by kernel_rfl) ?_
  simp
  refine AWX_seq (C := CBo) sigCBo mixCBo [] (by kernel_rfl) ?_
  by_cases hu : Usable n r
  case neg =>
    rw [boundT_no hu] at hb
    subst hb
    simp [hn, sUsable, hu]
  simp [hn, sUsable, hu]
  refine AWX_seq (C := CBo) sigCBo mixCBo [3] (by kernel_rfl) ?_
  have u2 := hu.2.1
  have u3 := hu.2.2
  have hD1 := u2.1
  have hD : 0 ≤ r.D := by omega
  have hDN : 1 ≤ r.D.toNat := by omega
  have kD : I64 r.D := by have := u2.2.1; unfold I64; omega
  have kN : I64 r.N := by have := u2.2.2.1; unfold InR at this; unfold I64; omega
  have hl := lim_big
  have n1 : n.toNat < LimN := by unfold I64 at hn; omega
  have o1 : (1 : Nat) < LimN := by omega
  have o2 : (2 : Nat) < LimN := by omega
  have i1 : I64 1 := by unfold I64; omega
  have i2 : I64 2 := by unfold I64; omega
  have i0 : I64 0 := by unfold I64; omega
  clear hl
  by_cases hB : n.toNat ^ r.N.toNat < LimN
  case neg =>
    rw [boundT_big hB] at hb
    subst hb
    simp
    refine AW_regionF sigCBo mixCBo [.pure, .read, .pure, .read, .read, .pure, .pure, .pure, .eff, .eff, .pure] [[],[0],[],[2],[2,3,0,1],[1,0,3,2,4],[4,2,3,0,1,5],[4,2,3,0,1,5],[],[5,1,0,3,2,4,6,8],[8,6,9,5,1,0,3,2,4,7]] (by kernel_rfl) (by kernel_rfl) (by kernel_rfl) (by kernel_rfl) ?_
    simp [Nt.s20, Nt.s11, hn, nvL n1, clL n1, powL_no u3 hB, kN]
    refine AWX_seq (C := CBo) sigCBo mixCBo [] (by kernel_rfl) ?_
    simp
  rw [boundT_yes hu hB] at hb
  subst hb
  simp
  refine AW_regionF sigCBo mixCBo [.pure, .read, .pure, .read, .read, .pure, .pure, .pure, .eff, .eff, .pure] [[],[0],[],[2],[2,3,0,1],[1,0,3,2,4],[4,2,3,0,1,5],[4,2,3,0,1,5],[],[5,1,0,3,2,4,6,8],[8,6,9,5,1,0,3,2,4,7]] (by kernel_rfl) (by kernel_rfl) (by kernel_rfl) (by kernel_rfl) ?_
  simp [Nt.s20, Nt.s11, hn, nvL n1, clL n1, powL u3 hB, kN]
  have hTpos : 1 ≤ n.toNat ^ r.N.toNat := Nat.pos_of_ne_zero fun h0 => by
    have := Nat.pow_le_pow_left (show 1 ≤ n.toNat by have := hu.1; omega) r.N.toNat
    rw [Nat.one_pow] at this
    omega
  generalize n.toNat ^ r.N.toNat = T at *
  refine AWX_seq (C := CBo) sigCBo mixCBo [] (by kernel_rfl) ?_
  simp
  refine AWX_seq (C := CBo) sigCBo mixCBo [] (by kernel_rfl) ?_
  by_cases hd1 : r.D = 1
  · have e : rootN 1 T = T := root_one T
    simp [hd1, e]
  simp [hd1]
  refine AWX_seq (C := CBo) sigCBo mixCBo [] (by kernel_rfl) ?_
  simp [Nt.s20, i1]
  refine AWX_seq (C := CBo) sigCBo mixCBo [] (by kernel_rfl) ?_
  simp
  have hT1 : 1 ≤ T := hTpos
  refine AW.mono (Q := outOf 0 (fun ex st' => ex = .normal ∧ ∃ j, j ≤ 2000 ∧ 2 ^ j < LimN ∧ rootN r.D.toNat T < 2 ^ (j + 1) ∧ Weak CBo 82 0 st' (SfB r T j))) ?_ ?_
  · refine loop_ruleH (C := CBo) sigCBo mixCBo [9] (SfB r T) (fun j => j ≤ 2000 ∧ 2 ^ j < LimN ∧ (2 ^ j) ^ r.D.toNat ≤ T) (fun j => 2000 - j) (by kernel_rfl) ⟨0, ⟨by omega, o1, by simpa using hT1⟩, weak_eq (by simp) (by simp [FB, NaB])⟩ (fun j ⟨hj1, hj2, hj3⟩ => ?_)
    have hF2 : ∀ h : 2 ^ (j + 1) < LimN, j + 1 ≤ 2000 := fun h => by
      apply Classical.byContradiction
      intro hc
      have := lim_two (a := 30) (b := 64) (k := j + 1) (Nat.pow_le_pow_left (by decide) 64) (by omega)
      omega
    have hex1 : ¬ 2 ^ (j + 1) < LimN → rootN r.D.toNat T < 2 ^ (j + 1) := fun h => by
      have := root_le (T := T) hDN
      omega
    have hex2 : ¬ (2 ^ (j + 1)) ^ r.D.toNat ≤ T → rootN r.D.toNat T < 2 ^ (j + 1) := fun h => by
      have := mt (le_root (T := T) (c := 2 ^ (j + 1)) hDN).1 h
      omega
    have hn1 : 2 ^ j * 2 = 2 ^ (j + 1) := by rw [Nat.pow_succ]
    cases j with
    | zero =>
      rw [show SfB r T 0 = ⟨[(3, .ptr 0 1 2 0 0), (6, .ptr 1 1 1 0 0), (8, .slice 1 true [[Enc.enc (Nt.canon 1)]])], [FB r, NaB T]⟩ from rfl]
      simp [FB, NaB]
      refine AW_regionF sigCBo mixCBo [.pure, .pure, .pure, .pure, .pure, .read, .read, .read, .pure, .pure, .pure, .pure, .pure] [[],[],[1],[1,2],[2,1,3,0],[0,3,1,2,4],[],[6,4,2,1,3,0,5],[5,0,3,1,2,4,6,7],[7,6,4,2,1,3,0,5,8],[7,6,4,2,1,3,0,5,8],[8,5,0,3,1,2,4,6,7,9],[9,11,8,5,0,3,1,2,4,6,7,10]] (by kernel_rfl) (by kernel_rfl) (by kernel_rfl) (by kernel_rfl) ?_
      by_cases hA : 2 ^ r.D.toNat ≤ T
      · simp [Nt.s20, sMulN, i2, i1, i0, nvL o1, nvL o2, clL o1, clL o2, fitL o2, sBelow, nvL hB, clL hB, kD, hD, hB, hA]
        exact ⟨1, ⟨by omega, by simpa using o2, by simpa using hA⟩, by omega, weak_eq (by simp) (by simp [FB, NaB, PWB, powsN, List.range_succ, encRows_append, encRows_cons, encRows_nil])⟩
      · simp [Nt.s20, sMulN, i2, i1, i0, nvL o1, nvL o2, clL o1, clL o2, fitL o2, sBelow, nvL hB, clL hB, kD, hD, hB, hA]
        exact ⟨0, by omega, o1, hex2 (by simpa using hA), weak_eq (by simp) (by simp [FB, NaB])⟩
    | succ j =>
      have hlen := pows_len (j + 1)
      have hix : ix (powsN (j + 1)) (j + 1) = Nt.canon (2 ^ (j + 1)) := by
        unfold ix
        rw [List.getD_eq_getElem?_getD, pows_get (Nat.le_refl _)]; rfl
      have hlt : j + 1 < (powsN (j + 1)).length := by rw [hlen]; omega
      have hi1 : w64 ((j : Int) + 2 - 1) = (j : Int) + 1 := by rw [w64_in (by unfold I64; omega)]; omega
      have hi4 : (0 : Int) ≤ (j : Int) + 1 := by omega
      have hi5 : (j : Int) + 1 < (j : Int) + 2 := by omega
      have hi2 : ((j : Int) + 1).toNat = j + 1 := by omega
      have hi3 : I64 ((j : Int) + 1) := by unfold I64; omega
      have hap : encRows (powsN (j + 1)) ++ [[Enc.enc (Nt.canon (2 ^ (j + 1 + 1)))]] = encRows (powsN (j + 1 + 1)) := by
        rw [pows_succ (j + 1), encRows_append]; rfl
      rw [show SfB r T (j + 1) = ⟨[(3, .ptr 0 1 2 0 0), (6, .ptr 1 1 1 0 0), (8, .own 2 (j + 2))], [FB r, NaB T, PWB (j + 1)]⟩ from rfl]
      generalize hp2 : 2 ^ (j + 1) = p2 at *
      simp [FB, NaB, PWB, hlen]
      refine AW_regionF sigCBo mixCBo [.pure, .pure, .pure, .pure, .pure, .read, .read, .read, .pure, .pure, .pure, .pure, .pure] [[],[],[1],[1,2],[2,1,3,0],[0,3,1,2,4],[],[6,4,2,1,3,0,5],[5,0,3,1,2,4,6,7],[7,6,4,2,1,3,0,5,8],[7,6,4,2,1,3,0,5,8],[8,5,0,3,1,2,4,6,7,9],[9,11,8,5,0,3,1,2,4,6,7,10]] (by kernel_rfl) (by kernel_rfl) (by kernel_rfl) (by kernel_rfl) ?_
      by_cases hF : p2 * 2 < LimN
      · by_cases hA : (p2 * 2) ^ r.D.toNat ≤ T
        · simp [Nt.s20, sMulN, i2, hi1, hi2, hi3, hi4, hi5, hlen, rowAt_enc hlt, hix, nvL hj2, nvL o2, clL hj2, clL o2, nvL hF, clL hF, fitL hF, sBelow, nvL hB, clL hB, kD, hD, hB, hA]
          have hj4 := hF2 (by rw [← hn1]; exact hF)
          exact ⟨by omega, j + 2, ⟨hj4, by rw [← hn1]; exact hF, by rw [← hn1]; exact hA⟩, by omega, weak_eq (by simp) (by simp [FB, NaB, PWB, ← hap, hn1])⟩
        · simp [Nt.s20, sMulN, i2, hi1, hi2, hi3, hi4, hi5, hlen, rowAt_enc hlt, hix, nvL hj2, nvL o2, clL hj2, clL o2, nvL hF, clL hF, fitL hF, sBelow, nvL hB, clL hB, kD, hD, hB, hA]
          exact ⟨j + 1, hj1, by rw [hp2]; exact hj2, hex2 (by rw [← hn1]; exact hA), weak_eq (by simp) (by simp [FB, NaB, PWB])⟩
      · simp [Nt.s20, sMulN, i2, hi1, hi2, hi3, hi4, hi5, hlen, rowAt_enc hlt, hix, nvL hj2, nvL o2, clL hj2, clL o2, fitL_no hF]
        exact ⟨j + 1, hj1, by rw [hp2]; exact hj2, hex1 (by rw [← hn1]; exact hF), weak_eq (by simp) (by simp [FB, NaB, PWB])⟩
  · intro ex st' h
    obtain ⟨hex, j, hj1, hj2, hj3, hw⟩ : (ex = .normal ∨ ex = .exit 0) ∧ ∃ j, j ≤ 2000 ∧ 2 ^ j < LimN ∧ rootN r.D.toNat T < 2 ^ (j + 1) ∧ Weak CBo 82 0 st' (SfB r T j) := by
      cases ex with
      | normal => exact ⟨.inl rfl, h.2⟩
      | exit i =>
        by_cases hi : i = 0
        · subst hi; exact ⟨.inr rfl, h.2⟩
        · have h : (if i = 0 then _ else _) := h
          rw [if_neg hi] at h
          exact absurd h.1 (by simp)
      | _ => exact absurd h.1 (by simp)
    rw [outOf_norm hex]
    show AWX _ _ _ _ _ _
    refine AWX.weak hw ?_
    clear hw hex h st' ex
    generalize hbb : rootN r.D.toNat T = bb at *
    have hle : ∀ c, c ≤ bb ↔ c ^ r.D.toNat ≤ T := fun c => by rw [← hbb]; exact le_root hDN
    have hbT : bb ≤ T := by rw [← hbb]; exact root_le hDN
    refine AWX_seq (C := CBo) sigCBo mixCBo [] (by kernel_rfl) ?_
    cases j with
    | zero =>
      rw [show SfB r T 0 = ⟨[(3, .ptr 0 1 2 0 0), (6, .ptr 1 1 1 0 0), (8, .slice 1 true [[Enc.enc (Nt.canon 1)]])], [FB r, NaB T]⟩ from rfl]
      simp [FB, NaB, Nt.s20, i0]
      refine AWX_seq2 (C := CBo) sigCBo mixCBo [] (by kernel_rfl) ?_
      simp [sBack]
      refine AWXb.weak (st' := ⟨[(3, .ptr 0 1 2 0 0), (6, .ptr 1 1 1 0 0), (11, .ptr 2 1 1 0 0), (63, .fn 94 [.iptr [.slice 1 false (encRows (powsN 0))]])], [FB r, NaB T, NaB 0]⟩) (weak_eq ?_ ?_) ?_
      · simp [powsN, List.range_succ]
      · simp [FB, NaB, PWF]
      refine range_back (C := CBo) rfl sigCBo (vs := (powsN 0).map Enc.enc) (by rw [pows_rows]; simp [getA]) (by rw [List.length_map, pows_len]; omega) (by rw [List.length_map, pows_len]; omega) (by decide) (by decide) (by kernel_rfl) (by kernel_rfl) (by kernel_rfl) (fun k => [FB r, NaB T, NaB (outF bb 0 k)]) rfl (fun k v hk hv => ?_) ?_
      · rw [List.length_map, pows_len] at hk hv ⊢
        obtain rfl := pows_at hk hv
        obtain ⟨ho1, ho2⟩ := outF_inv hj3 k (by omega)
        obtain ⟨hp1, hnx⟩ := outF_nx (bb := bb) hj2 hk
        generalize outF bb 0 (k + 1) = o' at *
        generalize outF bb 0 k = o at *
        generalize 2 ^ (0 - k) = p at *
        have hoL : o < LimN := by omega
        simp [putA]
        by_cases hF : o + p < LimN
        · by_cases hA : (o + p) ^ r.D.toNat ≤ T
          · rw [if_pos ((hle _).2 hA)] at hnx
            subst hnx
            simp [FB, NaB, PWF, Nt.s22, nvL hoL, clL hoL, nvL hp1, clL hp1, fitL hF, nvL hF, clL hF, sBelow, nvL hB, clL hB, kD, hD, hB, hA]
          · rw [if_neg (mt (hle _).1 hA)] at hnx
            subst hnx
            simp [FB, NaB, PWF, Nt.s22, nvL hoL, clL hoL, nvL hp1, clL hp1, fitL hF, nvL hF, clL hF, sBelow, nvL hB, clL hB, kD, hD, hB, hA]
        · rw [if_neg (by omega)] at hnx
          subst hnx
          simp [FB, NaB, PWF, Nt.s22, nvL hoL, clL hoL, nvL hp1, clL hp1, fitL_no hF]
      · rw [List.length_map, pows_len, outF_fin hj3]
        simp [FB, NaB, PWF]
    | succ j =>
      rw [show SfB r T (j + 1) = ⟨[(3, .ptr 0 1 2 0 0), (6, .ptr 1 1 1 0 0), (8, .own 2 (j + 2))], [FB r, NaB T, PWB (j + 1)]⟩ from rfl]
      simp [FB, NaB, PWB, Nt.s20, i0, pows_len]
      refine AWX_seq2 (C := CBo) sigCBo mixCBo [] (by kernel_rfl) ?_
      simp [sBack, pows_len]

      refine AWXb.weak (st' := ⟨[(3, .ptr 0 1 2 0 0), (6, .ptr 1 1 1 0 0), (11, .ptr 3 1 1 0 0), (63, .fn 94 [.iptr [.slice 1 false (encRows (powsN (j + 1)))]])], [FB r, NaB T, PWF (j + 1), NaB 0]⟩) (weak_eq ?_ ?_) ?_
      · simp
      · simp [FB, NaB, PWF]
      refine range_back (C := CBo) rfl sigCBo (vs := (powsN (j + 1)).map Enc.enc) (by rw [pows_rows]; simp [getA]) (by rw [List.length_map, pows_len]; omega) (by rw [List.length_map, pows_len]; omega) (by decide) (by decide) (by kernel_rfl) (by kernel_rfl) (by kernel_rfl) (fun k => [FB r, NaB T, PWF (j + 1), NaB (outF bb (j + 1) k)]) rfl (fun k v hk hv => ?_) ?_
      · rw [List.length_map, pows_len] at hk hv ⊢
        obtain rfl := pows_at hk hv
        obtain ⟨ho1, ho2⟩ := outF_inv hj3 k (by omega)
        obtain ⟨hp1, hnx⟩ := outF_nx (bb := bb) hj2 hk
        generalize outF bb (j + 1) (k + 1) = o' at *
        generalize outF bb (j + 1) k = o at *
        generalize 2 ^ ((j + 1) - k) = p at *
        have hoL : o < LimN := by omega
        simp [putA]
        by_cases hF : o + p < LimN
        · by_cases hA : (o + p) ^ r.D.toNat ≤ T
          · rw [if_pos ((hle _).2 hA)] at hnx
            subst hnx
            simp [FB, NaB, PWF, Nt.s22, nvL hoL, clL hoL, nvL hp1, clL hp1, fitL hF, nvL hF, clL hF, sBelow, nvL hB, clL hB, kD, hD, hB, hA]
          · rw [if_neg (mt (hle _).1 hA)] at hnx
            subst hnx
            simp [FB, NaB, PWF, Nt.s22, nvL hoL, clL hoL, nvL hp1, clL hp1, fitL hF, nvL hF, clL hF, sBelow, nvL hB, clL hB, kD, hD, hB, hA]
        · rw [if_neg (by omega)] at hnx
          subst hnx
          simp [FB, NaB, PWF, Nt.s22, nvL hoL, clL hoL, nvL hp1, clL hp1, fitL_no hF]
      · rw [List.length_map, pows_len, outF_fin hj3]
        simp [FB, NaB, PWF]
end Go.Proofs.YtfoipbjhaiimlaaGreatDoor


/-
  layer 31: the examples.
-/
namespace Go.Proofs.YtfoipbjhaiimlaaGreatDoor
open Go.RowKit
set_option linter.unusedSimpArgs false
set_option linter.unusedVariables false
set_option maxRecDepth 100000

def triC : Lin := ⟨[[F11, F01, F11], [F11, F11, F01], [F01, F11, F11]], [F11, F11, F11], [F11, F11, F11]⟩
theorem lin_tri : linH triH = triC := by kernel_rfl
theorem prog_tri : progH triH = (triC, 0) := by
  unfold progH
  rw [if_neg (by decide), if_pos (by decide), lin_tri]
theorem exC : solveN 20 triC = some ([Fh, Fh, Fh], ⟨3, 2⟩, 0) := by kernel_rfl
theorem svC : solveF triC = ([Fh, Fh, Fh], ⟨3, 2⟩, 0) := (solveN_eq exC).2
theorem rho_tri : rhoH triH = (⟨3, 2⟩, [Fh, Fh, Fh], 0) := by
  unfold rhoH
  rw [prog_tri, if_neg (by decide), svC, if_neg (by decide)]
theorem small_tri : SmallH triH := by
  refine ⟨?_, ?_⟩ <;> decide
theorem us1 (n : Int) (h : 1 ≤ n) : Usable n ⟨3, 2⟩ := ⟨h, by decide, by decide⟩
theorem lim_small {n : Nat} (h : n ≤ 1000) : n < LimN := by have := lim_big; omega
theorem fits_tri8 : fitsB 8 4 ⟨3, 2⟩ = true := @decide_eq_true _ (Classical.propDecidable _) ⟨by decide, us1 4 (by decide), lim_small (by decide), lim_small (by decide), by decide⟩
theorem fits_tri9 : fitsB 9 4 ⟨3, 2⟩ = false := @decide_eq_false _ (Classical.propDecidable _) fun h => absurd h.2.2.2.2 (by decide)
theorem bound_tri : boundT 5 ⟨3, 2⟩ = .tup [Enc.enc (Nt.canon 11), .bool true] := by
  rw [boundT_yes (us1 5 (by decide)) (lim_small (by decide)), show rootN (Fr.D ⟨3, 2⟩).toNat ((5 : Int).toNat ^ (Fr.N ⟨3, 2⟩).toNat) = 11 from root_eq (by decide) ⟨by decide, by decide⟩]
theorem cov_tri : IsCovH triH [Fh, Fh, Fh] := ⟨by decide, rfl, by decide, by decide⟩
theorem canon11 : Nt.canon 11 = [11] := Nt.canon_val (l := [11]) (fun x hx => by rw [List.mem_singleton.1 hx]; decide) (fun _ => by decide)
noncomputable def CAlC : Ctx := mkC Tryz.prog G0 [(19, .pure (spec0 (Enc.enc triH))), (9, .pure sRho), (20, .pure sBound), (21, .pure sIsCover), (17, .pure sFits), (22, .pure Nt.s13)]
@[simp] theorem CAlC_P : CAlC.P = Tryz.prog := rfl
@[simp] theorem CAlC_G : CAlC.G = G0 := rfl
@[simp] theorem CAlC_1 : CAlC.S 19 = .pure (spec0 (Enc.enc triH)) := rfl
@[simp] theorem CAlC_2 : CAlC.S 9 = .pure sRho := rfl
@[simp] theorem CAlC_3 : CAlC.S 20 = .pure sBound := rfl
@[simp] theorem CAlC_4 : CAlC.S 21 = .pure sIsCover := rfl
@[simp] theorem CAlC_5 : CAlC.S 17 = .pure sFits := rfl
@[simp] theorem CAlC_6 : CAlC.S 22 = .pure Nt.s13 := rfl
theorem mixCAlC : CAlC.P.follows .mixedOrders = true := mixed
theorem sigCAlC : SigOK CAlC := sigOK_cons (entryPure (triHP) Tryz.func19 rfl (by decide)) (sigOK_cons (entryPure (rhoP) Tryz.func9 rfl (by decide)) (sigOK_cons (entryPure (boundP) Tryz.func20 rfl (by decide)) (sigOK_cons (entryPure (isCoverP) Tryz.func21 rfl (by decide)) (sigOK_cons (entryPure (fitsP) Tryz.func17 rfl (by decide)) (sigOK_cons (entryPure (Nt.same13) Tryz.func22 rfl (by decide)) (sigOK_nil _ _))))))
set_option maxHeartbeats 16000000 in
theorem aliveC : PureOK Tryz.prog G0 6 (spec0 (.bool true)) := by
  refine pureH0 (C := CAlC) sigCAlC mixCAlC Tryz.func6 rfl rfl rfl [] (by kernel_rfl) ?_
  have b1 := bound_tri
  have r1 := rho_tri
  have c1 := cov_tri
  simp only [Fh] at r1 c1
  have i4 : I64 4 := by unfold I64; omega
  have i5 : I64 5 := by unfold I64; omega
  have i8 : I64 8 := by unfold I64; omega
  have i9 : I64 9 := by unfold I64; omega
  have isc : isScalT CAlC 63 = true := by show isScalT ⟨Tryz.prog, fun _ => .no, G0⟩ 63 = true; kernel_rfl
  simp [sRho, small_tri, r1, sBound, b1, i5, i4, i8, i9, sIsCover, c1, sFits, fits_tri8, fits_tri9, Nt.s13, canon11]
end Go.Proofs.YtfoipbjhaiimlaaGreatDoor


/-
  layer 31: the laws Checks, Fits and Greatest.
-/
namespace Go.Proofs.YtfoipbjhaiimlaaGreatDoor
open Go.RowKit
set_option linter.unusedSimpArgs false
set_option linter.unusedVariables false
set_option maxRecDepth 100000

def FewH (h : Hy) : Prop := h.E.length ≤ 14 ∧ ∀ e ∈ h.E, e.length ≤ 30
instance (h : Hy) : Decidable (FewH h) := inferInstanceAs (Decidable (_ ∧ _))
theorem fewH_small {h : Hy} (k : FewH h) : SmallH h := ⟨by have := k.1; omega, fun e he => by have := k.2 e he; omega⟩
def sFewH : List AV → Option (Prop × AV) := spec1 (fun (_ : Hy) => True) (fun h => .bool (decide (FewH h)))
set_option maxHeartbeats 4000000 in
theorem fewHP : PureOK Tryz.prog G0 5 sFewH := by
  refine pure1 (C := CE) sigCE mixCE Tryz.func5 rfl rfl rfl (by kernel_rfl) (by decide) (fun l _ => ?_)
  obtain ⟨r, hr⟩ : ∃ r, decide (FewH l) = r := ⟨_, rfl⟩
  rw [hr]
  by_cases h1 : 14 < l.E.length
  · have h1' : (14 : Int) < l.E.length := by omega
    have hr0 : r = false := by rw [← hr]; exact decide_eq_false fun h => by have := h.1; omega
    simp [h1', hr0]
  have h1' : ¬ (14 : Int) < l.E.length := by omega
  simp [h1']
  refine loop_rule (C := CE) sigCE mixCE (fun q : Nat => ⟨[(1, .ptr 0 1 2 0 0), (10, .slice 1 false (encRows l.E)), (11, .int .i64 l.E.length), (12, .int .i64 q)], [HyB l]⟩) (fun q => q ≤ l.E.length ∧ ∀ j, j < q → (ix l.E j).length ≤ 30) (fun q => l.E.length - q) (by kernel_rfl) ⟨0, ⟨by simp, fun j hj => by simp at hj⟩, weak_eq (by simp) (by simp [HyB])⟩ (fun k ⟨hk, hall⟩ => ?_)
  by_cases hlt : k < l.E.length
  · have i1 : I64 ((k : Int) + 1) := by unfold I64; omega
    by_cases hlen : 30 < (ix l.E k).length
    · have hlen' : (30 : Int) < (ix l.E k).length := by omega
      have hr0 : r = false := by rw [← hr]; exact decide_eq_false fun h => by have := h.2 _ (ix_mem hlt); omega
      simp [HyB, hlt, rowAt_enc hlt, hlen', hr0]
    · have hlen' : ¬ (30 : Int) < (ix l.E k).length := by omega
      simp [HyB, hlt, rowAt_enc hlt, hlen', i1]
      refine ⟨k + 1, ⟨by omega, fun j hj => ?_⟩, by omega, weak_eq (by simp) (by simp [HyB])⟩
      rcases Nat.lt_or_eq_of_le (Nat.le_of_lt_succ hj) with hj | rfl
      · exact hall j hj
      · omega
  · obtain rfl : k = l.E.length := by omega
    have hr1 : r = true := by
      rw [← hr]
      refine decide_eq_true ⟨by omega, fun e he => ?_⟩
      obtain ⟨j, hj, rfl⟩ := List.getElem_of_mem he
      have := hall j hj
      rwa [ix_lt hj] at this
    simp [HyB, hr1]
end Go.Proofs.YtfoipbjhaiimlaaGreatDoor


/-
  layer 30: costs that are a multiple of other costs: the same pivots.
-/
namespace Go.Proofs.YtfoipbjhaiimlaaGreatDoor
open Go.RowKit
set_option linter.unusedSimpArgs false
set_option linter.unusedVariables false
set_option maxRecDepth 100000

/-- Two tableaus that differ in their costs, by a factor. -/
structure Twin (a : Rat) (t u : Tab) : Prop where
  s : ∃ L, Shape L t
  s' : ∃ L, Shape L u
  v : Vd t
  v' : Vd u
  c : t.cost.length = t.w + 1
  c' : u.cost.length = u.w + 1
  n : u.n = t.n
  m : u.m = t.m
  r : u.rows = t.rows
  b : u.basis = t.basis
  q : ∀ k, (Q u).c k = a * (Q t).c k
section
variable {a : Rat} {t u : Tab}
theorem Twin.w (h : Twin a t u) : u.w = t.w := by unfold Tab.w; rw [h.n, h.m]
theorem rows_eq {L L' : Lay} (hS : Shape L t) (hS' : Shape L' u) (hv : Vd t) (hv' : Vd u) (hm : u.m = t.m) (hw : u.w = t.w) (h : ∀ i k, (Q u).T i k = (Q t).T i k) : u.rows = t.rows := by
  refine List.ext_getElem (by rw [hS.m, hS'.m, hm]) fun i h1 h2 => ?_
  have hi : i < t.m := by rw [← hS.m]; exact h2
  have l1 := row_len hS hi
  have l2 := row_len hS' (i := i) (by rw [hm]; exact hi)
  rw [ix_lt h1] at l2
  rw [ix_lt h2] at l1
  refine List.ext_getElem (by rw [l1, l2, hw]) fun k h3 h4 => ?_
  have e := h i k
  have v1 := hv.rows i k hi (by rw [l1] at h4; exact h4)
  have v2 := hv'.rows i k (by rw [hm]; exact hi) (by rw [l2] at h3; exact h3)
  have e : V (ix (ix u.rows i) k) = V (ix (ix t.rows i) k) := e
  have := V_inj v2 v1 e
  rwa [ix_lt h1, ix_lt h2, ix_lt h3, ix_lt h4] at this
theorem sign_same (ha : 0 < a) {x y : Fr} (hx : ValidF x) (hy : ValidF y) (h : V y = a * V x) : y.N < 0 ↔ x.N < 0 := by
  rw [V_neg_iff hx, V_neg_iff hy, h]
  constructor
  · intro h1
    apply Classical.byContradiction
    intro h2
    have : 0 ≤ a * V x := Rat.mul_nonneg (Rat.le_of_lt ha) (by grind)
    grind
  · intro h1
    have : 0 < a * (- V x) := Rat.mul_pos ha (by grind)
    grind
theorem Twin.ent (h : Twin a t u) (ha : 0 < a) : ∀ {k}, k ≤ t.w → entK u k = entK t k
  | 0, _ => rfl
  | k + 1, hk => by
    have ih := h.ent ha (k := k) (by omega)
    have hs := sign_same ha (cost_valid h.v h.c (k := k) (by omega)) (cost_valid h.v' h.c' (k := k) (by rw [h.w]; omega)) (h.q k)
    unfold entK
    rw [ih]
    split
    · rfl
    · by_cases hN : (ix t.cost k).N < 0
      · rw [if_pos hN, if_pos (hs.2 hN)]
      · rw [if_neg hN, if_neg (fun e => hN (hs.1 e))]
theorem Twin.enter (h : Twin a t u) (ha : 0 < a) : enterF u = enterF t := by
  unfold enterF
  rw [h.w]
  exact h.ent ha (Nat.le_refl _)
theorem Twin.lv (h : Twin a t u) (j : Nat) : ∀ k, lvK u j k = lvK t j k
  | 0 => rfl
  | k + 1 => by
    unfold lvK
    rw [h.lv j k, h.r, h.w]
    cases lvK t j k with
    | none => rfl
    | some p =>
      obtain ⟨s, low⟩ := p
      simp only
      split
      · rfl
      · cases divO (ix (ix t.rows k) t.w) (ix (ix t.rows k) j) with
        | none => rfl
        | some r =>
          simp only
          have : lvTest u s low k r = lvTest t s low k r := by unfold lvTest; rw [h.b]
          by_cases hT : lvTest t s low k r
          · rw [if_pos hT, if_pos (by rw [this]; exact hT)]
          · rw [if_neg hT, if_neg (by rw [this]; exact hT)]
theorem Twin.leav (h : Twin a t u) (j : Nat) : leavF u j = leavF t j := by
  unfold leavF
  rw [h.m, h.lv]
theorem Twin.piv (h : Twin a t u) {i j : Nat} (hi : i < t.m) (hj : j < t.w) (h1 : (pivF t i j).over = false) (h2 : (pivF u i j).over = false) : Twin a (pivF t i j) (pivF u i j) := by
  obtain ⟨L, hS⟩ := h.s
  obtain ⟨L', hS'⟩ := h.s'
  obtain ⟨p1, p2, p3, p4⟩ := piv_Q hS hi hj h1
  obtain ⟨q1, q2, q3, q4⟩ := piv_Q hS' (by rw [h.m]; exact hi) (by rw [h.w]; exact hj) h2
  have k1 := pivF_shape hS hi hj
  have k2 := pivF_shape hS' (i := i) (j := j) (by rw [h.m]; exact hi) (by rw [h.w]; exact hj)
  have hT : ∀ i k, (Q u).T i k = (Q t).T i k := fun i k => by
    show V (ix (ix u.rows i) k) = _
    rw [h.r]
    rfl
  have hm : (pivF u i j).m = (pivF t i j).m := by rw [pivF_m, pivF_m, h.m]
  have hw : (pivF u i j).w = (pivF t i j).w := by rw [pivF_w, pivF_w, h.w]
  refine ⟨⟨L, k1⟩, ⟨L', k2⟩, p4 h.v, q4 h.v', by rw [pivF_cost, pivF_w, h.c], by rw [pivF_cost, pivF_w, h.c'], by rw [pivF_n, pivF_n, h.n], hm, rows_eq k1 k2 (p4 h.v) (q4 h.v') hm hw (fun i' k => ?_), by rw [pivF_bas, pivF_bas, h.b], fun k => ?_⟩
  · rw [p3, q3]
    show (if i' = i then _ else _) = if i' = i then _ else _
    rw [hT, hT, hT, hT]
  · rw [p3, q3]
    show (Q u).c k - (Q u).c j * ((Q u).T i k / (Q u).T i j) = a * ((Q t).c k - (Q t).c j * ((Q t).T i k / (Q t).T i j))
    rw [hT, hT, h.q, h.q]
    grind
theorem runF_over {t : Tab} (h : t.over = true) {n : Nat} {r : Bool × Tab} (hr : runF n t = some r) : r = (true, t) := by
  cases n with
  | zero => cases hr
  | succ n =>
    unfold runF at hr
    have : stepF t = .inl (true, t) := if_pos h
    rw [this] at hr
    injection hr with hr
    exact hr.symm
theorem Twin.run (ha : 0 < a) : ∀ {n n' : Nat} {t u : Tab} {r r' : Bool × Tab}, Twin a t u → runF n t = some r → runF n' u = some r' → r.2.over = false → r'.2.over = false → r'.1 = r.1 ∧ Twin a r.2 r'.2
  | 0, _, _, _, _, _, _, h, _, _, _ => by cases h
  | _ + 1, 0, _, _, _, _, _, _, h, _, _ => by cases h
  | n + 1, n' + 1, t, u, r, r', h, h1, h2, o1, o2 => by
    have ot : t.over = false := by
      cases hb : t.over with
      | false => rfl
      | true => rw [runF_over hb h1, hb] at o1; cases o1
    have ou : u.over = false := by
      cases hb : u.over with
      | false => rfl
      | true => rw [runF_over hb h2, hb] at o2; cases o2
    unfold runF at h1 h2
    have s1 : stepF t = match enterF t with
      | none => .inl (true, t)
      | some j => if (leavF t j).2 then .inl (true, orT t true) else if (leavF t j).1 < 0 then .inl (false, t) else .inr (pivF t (leavF t j).1.toNat j) := if_neg (by rw [ot]; decide)
    have s2 : stepF u = match enterF u with
      | none => .inl (true, u)
      | some j => if (leavF u j).2 then .inl (true, orT u true) else if (leavF u j).1 < 0 then .inl (false, u) else .inr (pivF u (leavF u j).1.toNat j) := if_neg (by rw [ou]; decide)
    rw [h.enter ha] at s2
    cases he : enterF t with
    | none =>
      rw [he] at s1 s2
      rw [s1] at h1
      rw [s2] at h2
      injection h1 with h1
      injection h2 with h2
      rw [← h1, ← h2]
      exact ⟨rfl, h⟩
    | some j =>
      rw [he] at s1 s2
      simp only [h.leav] at s1 s2
      by_cases hl : (leavF t j).2 = true
      · rw [if_pos hl] at s1
        rw [s1] at h1
        injection h1 with h1
        rw [← h1] at o1
        simp [orT] at o1
      · rw [if_neg hl] at s1 s2
        by_cases hn : (leavF t j).1 < 0
        · rw [if_pos hn] at s1 s2
          rw [s1] at h1
          rw [s2] at h2
          injection h1 with h1
          injection h2 with h2
          rw [← h1, ← h2]
          exact ⟨rfl, h⟩
        · rw [if_neg hn] at s1 s2
          rw [s1] at h1
          rw [s2] at h2
          obtain ⟨i, hi, hii⟩ := leavF_in t j hn
          rw [hii, Int.toNat_natCast] at h1 h2
          have p1 : (pivF t i j).over = false := by
            cases hb : (pivF t i j).over with
            | false => rfl
            | true => rw [runF_over hb h1, hb] at o1; cases o1
          have p2 : (pivF u i j).over = false := by
            cases hb : (pivF u i j).over with
            | false => rfl
            | true => rw [runF_over hb h2, hb] at o2; cases o2
          exact Twin.run ha (h.piv hi (entK_lt he) p1 p2) h1 h2 o1 o2
end
/-! ### Programs that differ in their costs -/
structure Scaled (a : Rat) (l m : Lin) : Prop where
  A : m.A = l.A
  B : m.B = l.B
  n : m.C.length = l.C.length
  c : ∀ k, k < l.C.length → cQ m k = a * cQ l k
section
variable {a : Rat} {l m : Lin}
theorem Scaled.row (h : Scaled a l m) (i : Nat) : rowB m i = rowB l i := by
  unfold rowB putE keepB
  rw [h.A, h.B, h.n]
theorem Scaled.bas (h : Scaled a l m) : ∀ k, basK m k = basK l k
  | 0 => rfl
  | k + 1 => by
    unfold basK keepB
    rw [h.bas k, h.A, h.B, h.n]
theorem Scaled.s1 (h : Scaled a l m) (ol : Ok l) (om : Ok m) {t : Tab} (ht : In2 l l.A.length t) (o1 : (s1T t l.C).over = false) (o2 : (s1T t m.C).over = false) : Twin a (s1T t l.C) (s1T t m.C) := by
  obtain ⟨L, hS⟩ := ht.s
  have hmn : t.n = m.C.length := by rw [h.n, ht.n]
  have hmw : t.w = m.C.length + m.A.length := by rw [h.n, h.A, ht.w]
  obtain ⟨p1, p2, p3⟩ := s1_Q ol hS ht.n ht.w (k := t.m) (Nat.le_refl _) o1
  obtain ⟨q1, q2, q3⟩ := s1_Q om hS hmn hmw (k := t.m) (Nat.le_refl _) o2
  obtain ⟨a1, a2, a3, a4⟩ := s1K_same (t := t) ht.n.symm t.m
  obtain ⟨b1, b2, b3, b4⟩ := s1K_same (t := t) hmn.symm t.m
  have k1 : Shape (newC L []) (s1T t l.C) := s1K_shape hS ht.n.symm (Nat.le_refl _)
  have k2 : Shape (newC L []) (s1T t m.C) := s1K_shape hS hmn.symm (Nat.le_refl _)
  have w1 : (s1T t l.C).w = t.w := s1K_w ht.n.symm _
  have w2 : (s1T t m.C).w = t.w := s1K_w hmn.symm _
  have Q1 : Q (s1T t l.C) = _ := p2
  have Q2 : Q (s1T t m.C) = _ := q2
  have ce : ∀ k, cE m k = a * cE l k := fun k => by
    unfold cE
    rw [h.n]
    split
    · rename_i hk; exact h.c k hk
    · grind
  refine ⟨⟨_, k1⟩, ⟨_, k2⟩, p3 ht.v, q3 ht.v, by rw [w1]; exact a3, by rw [w2]; exact b3, b1.trans a1.symm, b2.trans a2.symm, rows_eq k1 k2 (p3 ht.v) (q3 ht.v) (b2.trans a2.symm) (by rw [w1, w2]) (fun i k => by rw [Q1, Q2]), b4.trans a4.symm, fun k => ?_⟩
  rw [Q1, Q2]
  show cE m k - Sm t.m (fun i => if (Q t).b i < m.C.length then cQ m ((Q t).b i) * (Q t).T i k else 0) = a * (cE l k - Sm t.m (fun i => if (Q t).b i < l.C.length then cQ l ((Q t).b i) * (Q t).T i k else 0))
  rw [ce, Sm_congr (g := fun i => a * (if (Q t).b i < l.C.length then cQ l ((Q t).b i) * (Q t).T i k else 0)) (fun i hi => by
    rw [h.n]
    split
    · rename_i hb; rw [h.c _ hb]; grind
    · grind), Sm_mul]
  grind
end
end Go.Proofs.YtfoipbjhaiimlaaGreatDoor


/-
  layer 30: SimplexScaled.
-/
namespace Go.Proofs.YtfoipbjhaiimlaaGreatDoor
open Go.RowKit
set_option linter.unusedSimpArgs false
set_option linter.unusedVariables false
set_option maxRecDepth 100000

/-- The costs times a fraction, as far as they go. -/
def MulTo (l : Lin) (κ : Fr) (j : Nat) (c : List Fr) : Prop := c.length = j ∧ ∀ i, i < j → mulO (ix l.C i) κ = some (ix c i)
theorem MulTo.snoc {l : Lin} {κ : Fr} {j : Nat} {c : List Fr} {p : Fr} (h : MulTo l κ j c) (hp : mulO (ix l.C j) κ = some p) : MulTo l κ (j + 1) (c ++ [p]) := by
  obtain ⟨h1, h2⟩ := h
  refine ⟨by simp [h1], fun i hi => ?_⟩
  by_cases hij : i < j
  · rw [h2 i hij]
    unfold ix
    rw [List.getD_eq_getElem?_getD, List.getD_eq_getElem?_getD, List.getElem?_append_left (by omega)]
  · have : i = j := by omega
    subst this
    rw [hp, ix_lt (by simp [h1])]
    simp [h1]
section
variable {l : Lin} {κ : Fr} {c : List Fr}
structure ScAns (p q : List Fr × Fr × Int) (κ : Fr) : Prop where
  e : p.2.2 ≠ 24 → q.2.2 ≠ 24 → q.2.2 = p.2.2
  x : p.2.2 = 0 → q.2.2 = 0 → p.1 = q.1
  v : p.2.2 = 0 → q.2.2 = 0 → ∀ r, mulF p.2.1 κ = (r, true) → r = q.2.1
end
end Go.Proofs.YtfoipbjhaiimlaaGreatDoor


/-
  layer 30: what the reference's tableau computes, in plain words.
-/
namespace Go.Proofs.YtfoipbjhaiimlaaGreatDoor
open Go.RowKit
set_option linter.unusedSimpArgs false
set_option linter.unusedVariables false
set_option maxRecDepth 100000

structure RS (w : Nat) (t : RTab) : Prop where
  w36 : w ≤ 36
  m24 : t.T.length ≤ 24
  row : ∀ r ∈ t.T, r.length = w + 1
  bas : t.Basic.length = t.T.length
  b64 : ∀ b ∈ t.Basic, 0 ≤ b ∧ b ≤ 1000
  cost : t.Cost = [] ∨ t.Cost.length = w + 1
theorem RS.rowAt {w : Nat} {t : RTab} (h : RS w t) {i : Nat} (hi : i < t.T.length) : (ix t.T i).length = w + 1 := h.row _ (ix_mem hi)
def minK (a : List Fr) (f : Fr) (b : List Fr) : Nat → Option (List Fr)
  | 0 => some []
  | k + 1 => match minK a f b k with
    | none => none
    | some l => match mnO (ix a k) f (ix b k) with
      | none => none
      | some d => some (l ++ [d])
def minO (a : List Fr) (f : Fr) (b : List Fr) : Option (List Fr) := minK a f b a.length
def divK (row : List Fr) (p : Fr) : Nat → Option (List Fr)
  | 0 => some []
  | k + 1 => match divK row p k with
    | none => none
    | some l => match divO (ix row k) p with
      | none => none
      | some d => some (l ++ [d])
def divL (row : List Fr) (p : Fr) : Option (List Fr) := divK row p row.length
theorem minK_none {a b : List Fr} {f : Fr} {k : Nat} (h : minK a f b k = none) : ∀ n, minK a f b (k + n) = none
  | 0 => h
  | n + 1 => by
    show minK a f b ((k + n) + 1) = none
    unfold minK
    rw [minK_none h n]
theorem divK_none {row : List Fr} {p : Fr} {k : Nat} (h : divK row p k = none) : ∀ n, divK row p (k + n) = none
  | 0 => h
  | n + 1 => by
    show divK row p ((k + n) + 1) = none
    unfold divK
    rw [divK_none h n]
theorem minK_succ {a b l : List Fr} {f : Fr} {k : Nat} (h : minK a f b k = some l) : minK a f b (k + 1) = match mnO (ix a k) f (ix b k) with
      | none => none
      | some d => some (l ++ [d]) := by
  conv => { lhs; unfold minK; rw [h] }
theorem divK_succ {row l : List Fr} {p : Fr} {k : Nat} (h : divK row p k = some l) : divK row p (k + 1) = match divO (ix row k) p with
      | none => none
      | some d => some (l ++ [d]) := by
  conv => { lhs; unfold divK; rw [h] }
theorem minK_len {a b : List Fr} {f : Fr} : ∀ {k : Nat} {l : List Fr}, minK a f b k = some l → l.length = k
  | 0, l, h => by unfold minK at h; injection h with h; rw [← h]; rfl
  | k + 1, l, h => by
    cases h1 : minK a f b k with
    | none => unfold minK at h; rw [h1] at h; cases h
    | some l' =>
      rw [minK_succ h1] at h
      have := minK_len h1
      cases h2 : mnO (ix a k) f (ix b k) with
      | none => rw [h2] at h; cases h
      | some d =>
        rw [h2] at h
        injection h with h
        rw [← h, List.length_append, this]
        rfl
theorem divK_len {row : List Fr} {p : Fr} : ∀ {k : Nat} {l : List Fr}, divK row p k = some l → l.length = k
  | 0, l, h => by unfold divK at h; injection h with h; rw [← h]; rfl
  | k + 1, l, h => by
    cases h1 : divK row p k with
    | none => unfold divK at h; rw [h1] at h; cases h
    | some l' =>
      rw [divK_succ h1] at h
      have := divK_len h1
      cases h2 : divO (ix row k) p with
      | none => rw [h2] at h; cases h
      | some d =>
        rw [h2] at h
        injection h with h
        rw [← h, List.length_append, this]
        rfl
def newRow (t : RTab) (r j : Nat) (row : List Fr) (i : Nat) : Option (List Fr) := if i = r then some row else if (ix (ix t.T i) j).N ≠ 0 then minO (ix t.T i) (ix (ix t.T i) j) row else some (ix t.T i)
def rowsR (t : RTab) (r j : Nat) (row : List Fr) : Nat → Option (List (List Fr))
  | 0 => some []
  | k + 1 => match rowsR t r j row k with
    | none => none
    | some l => match newRow t r j row k with
      | none => none
      | some x => some (l ++ [x])
theorem rowsR_none {t : RTab} {r j : Nat} {row : List Fr} {k : Nat} (h : rowsR t r j row k = none) : ∀ n, rowsR t r j row (k + n) = none
  | 0 => h
  | n + 1 => by
    show rowsR t r j row ((k + n) + 1) = none
    unfold rowsR
    rw [rowsR_none h n]
theorem rowsR_succ {t : RTab} {r j : Nat} {row : List Fr} {k : Nat} {l : List (List Fr)} (h : rowsR t r j row k = some l) : rowsR t r j row (k + 1) = match newRow t r j row k with
      | none => none
      | some x => some (l ++ [x]) := by
  conv => { lhs; unfold rowsR; rw [h] }
theorem rowsR_len {t : RTab} {r j : Nat} {row : List Fr} : ∀ {k : Nat} {l : List (List Fr)}, rowsR t r j row k = some l → l.length = k
  | 0, l, h => by unfold rowsR at h; injection h with h; rw [← h]; rfl
  | k + 1, l, h => by
    cases h1 : rowsR t r j row k with
    | none => unfold rowsR at h; rw [h1] at h; cases h
    | some l' =>
      rw [rowsR_succ h1] at h
      have := rowsR_len h1
      cases h2 : newRow t r j row k with
      | none => rw [h2] at h; cases h
      | some d =>
        rw [h2] at h
        injection h with h
        rw [← h, List.length_append, this]
        rfl
def basR (t : RTab) (r j k : Nat) : List Int := (List.range k).map fun i => if i = r then (j : Int) else ix t.Basic i
theorem basR_succ (t : RTab) (r j k : Nat) : basR t r j (k + 1) = basR t r j k ++ [if k = r then (j : Int) else ix t.Basic k] := by unfold basR; rw [List.range_succ, List.map_append]; rfl
theorem basR_len (t : RTab) (r j k : Nat) : (basR t r j k).length = k := by unfold basR; rw [List.length_map, List.length_range]
def costR (t : RTab) (j : Nat) (row : List Fr) : Option (List Fr) := if t.Cost ≠ [] ∧ (ix t.Cost j).N ≠ 0 then minO t.Cost (ix t.Cost j) row else some t.Cost
def overR (t : RTab) : RTab := { t with Over := true }
def pivR (t : RTab) (r j : Nat) : RTab := match divL (ix t.T r) (ix (ix t.T r) j) with
  | none => overR t
  | some row => match rowsR t r j row t.T.length with
    | none => overR t
    | some rows => match costR t j row with
      | none => overR t
      | some c => ⟨rows, basR t r j t.T.length, c, t.Over⟩
def lvTR (t : RTab) (s : Int) (low : Fr) (k : Nat) (r : Fr) : Prop := s < 0 ∨ cmpF r low < 0 ∨ (cmpF r low = 0 ∧ ix t.Basic k < ix t.Basic s.toNat)
instance (t : RTab) (s : Int) (low : Fr) (k : Nat) (r : Fr) : Decidable (lvTR t s low k r) := inferInstanceAs (Decidable (_ ∨ _ ∨ (_ ∧ _)))
def lvR (t : RTab) (j : Nat) : Nat → Option (Int × Fr)
  | 0 => some (-1, F01)
  | k + 1 => match lvR t j k with
    | none => none
    | some (s, low) => if (ix (ix t.T k) j).N ≤ 0 then some (s, low) else match divO (ix (ix t.T k) ((ix t.T k).length - 1)) (ix (ix t.T k) j) with
      | none => none
      | some r => if lvTR t s low k r then some ((k : Int), r) else some (s, low)
theorem lvR_none {t : RTab} {j k : Nat} (h : lvR t j k = none) : ∀ n, lvR t j (k + n) = none
  | 0 => h
  | n + 1 => by
    show lvR t j ((k + n) + 1) = none
    unfold lvR
    rw [lvR_none h n]
theorem lvR_succ {t : RTab} {j k : Nat} {s : Int} {low : Fr} (h : lvR t j k = some (s, low)) : lvR t j (k + 1) = if (ix (ix t.T k) j).N ≤ 0 then some (s, low) else match divO (ix (ix t.T k) ((ix t.T k).length - 1)) (ix (ix t.T k) j) with
      | none => none
      | some r => if lvTR t s low k r then some ((k : Int), r) else some (s, low) := by
  conv => { lhs; unfold lvR; rw [h] }
theorem lvR_s {t : RTab} {j : Nat} : ∀ {k : Nat} {s : Int} {low : Fr}, lvR t j k = some (s, low) → s = -1 ∨ (0 ≤ s ∧ s < k)
  | 0, s, low, h => by unfold lvR at h; injection h with h; injection h with h1 h2; exact .inl h1.symm
  | k + 1, s, low, h => by
    cases h1 : lvR t j k with
    | none => unfold lvR at h; rw [h1] at h; cases h
    | some p =>
      obtain ⟨s', low'⟩ := p
      have ih := lvR_s h1
      rw [lvR_succ h1] at h
      split at h
      · injection h with h; injection h with h2 h3; omega
      · split at h
        · cases h
        · split at h
          · injection h with h; injection h with h2 h3; omega
          · injection h with h; injection h with h2 h3; omega
def leavR (t : RTab) (j : Nat) : Int × Bool := match lvR t j t.T.length with
  | none => (-1, false)
  | some (s, _) => (s, true)
/-- The first of the columns from j on whose cost is below zero; n: none. -/
def entR (t : RTab) (n : Nat) : Nat → Nat
  | 0 => n
  | k + 1 => if (ix t.Cost (n - (k + 1))).N < 0 then n - (k + 1) else entR t n k
def stepR (t : RTab) : (RTab × Bool) ⊕ RTab :=
  let n := t.Cost.length - 1
  let j := entR t n n
  if t.Over then .inl (t, true) else if j = n then .inl (t, true)
  else if (leavR t j).2 = false then .inl (overR t, true)
  else if (leavR t j).1 < 0 then .inl (t, false) else .inr (pivR t (leavR t j).1.toNat j)
def runR : Nat → RTab → Option (RTab × Bool)
  | 0, _ => none
  | n + 1, t => match stepR t with
    | .inl r => some r
    | .inr t' => runR n t'
def HaltsR (t : RTab) : Prop := ∃ r n, runR n t = some r
open Classical in
noncomputable def phaseR (t : RTab) : RTab × Bool := if h : HaltsR t then h.choose else (t, false)
theorem runR_more : ∀ {n : Nat} {t : RTab} {r : RTab × Bool} (k : Nat), runR n t = some r → runR (n + k) t = some r
  | 0, _, _, _, h => by cases h
  | n + 1, t, r, k, h => by
    rw [show n + 1 + k = (n + k) + 1 by omega]
    unfold runR at h ⊢
    cases hs : stepR t with
    | inl q => rw [hs] at h; exact h
    | inr t' => rw [hs] at h; exact runR_more k h
theorem phaseR_eq {t : RTab} {n : Nat} {r : RTab × Bool} (h : runR n t = some r) : phaseR t = r := by
  have hx : HaltsR t := ⟨r, n, h⟩
  unfold phaseR
  rw [dif_pos hx]
  obtain ⟨k, hk⟩ := hx.choose_spec
  have h1 := runR_more k h
  have h2 := runR_more n hk
  rw [show k + n = n + k by omega, h1] at h2
  injection h2 with h2
  exact h2.symm
/-! ### first -/
def f1R (t : RTab) (size : Nat) : Nat → List Fr × Bool
  | 0 => (List.replicate (size + 1) F01, true)
  | k + 1 => if (f1R t size k).2 = false then f1R t size k
    else if (size : Int) ≤ ix t.Basic k then (match minO (f1R t size k).1 F11 (ix t.T k) with
      | none => ((f1R t size k).1, false)
      | some d => (d, true))
    else f1R t size k
def someR (t : RTab) (size k : Nat) : Bool := (List.range k).any fun i => decide ((size : Int) ≤ ix t.Basic i)
def colR (t : RTab) (i n : Nat) : Nat → Nat
  | 0 => n
  | k + 1 => if (ix (ix t.T i) (n - (k + 1))).N ≠ 0 then n - (k + 1) else colR t i n k
def repR (t : RTab) (size i : Nat) : RTab := if t.Over then t else if ix t.Basic i < size then t else if colR t i size size < size then pivR t i (colR t i size size) else t
def repsR (t : RTab) (size : Nat) : Nat → RTab
  | 0 => t
  | k + 1 => repR (repsR t size k) size k
def noCost (t : RTab) : RTab := { t with Cost := [] }
noncomputable def firstR (t : RTab) (size : Nat) : RTab × Bool :=
  if (f1R t size t.T.length).2 = false then (⟨t.T, t.Basic, (f1R t size t.T.length).1, true⟩, true)
  else if someR t size t.T.length = false then (⟨t.T, t.Basic, (f1R t size t.T.length).1, t.Over⟩, true)
  else if (phaseR ⟨t.T, t.Basic, (f1R t size t.T.length).1, t.Over⟩).1.Over then ((phaseR ⟨t.T, t.Basic, (f1R t size t.T.length).1, t.Over⟩).1, true)
  else if (ix (phaseR ⟨t.T, t.Basic, (f1R t size t.T.length).1, t.Over⟩).1.Cost size).N < 0 then ((phaseR ⟨t.T, t.Basic, (f1R t size t.T.length).1, t.Over⟩).1, false)
  else (repsR (noCost (phaseR ⟨t.T, t.Basic, (f1R t size t.T.length).1, t.Over⟩).1) size (phaseR ⟨t.T, t.Basic, (f1R t size t.T.length).1, t.Over⟩).1.T.length, true)
end Go.Proofs.YtfoipbjhaiimlaaGreatDoor


/-
  layer 30: zeros and minus of the reference.
-/
namespace Go.Proofs.YtfoipbjhaiimlaaGreatDoor
open Go.RowKit
set_option linter.unusedSimpArgs false
set_option linter.unusedVariables false
set_option maxRecDepth 100000

noncomputable def CRz : Ctx := mkC Tryz.prog G0 [(106, .pure (spec0 (Enc.enc F01)))]
@[simp] theorem CRz_P : CRz.P = Tryz.prog := rfl
@[simp] theorem CRz_G : CRz.G = G0 := rfl
@[simp] theorem CRz_1 : CRz.S 106 = .pure (spec0 (Enc.enc F01)) := rfl
theorem mixCRz : CRz.P.follows .mixedOrders = true := mixed
theorem sigCRz : SigOK CRz := sigOK_cons (entryPure (zeroR) Tryz.func106 rfl (by decide)) (sigOK_nil _ _)
def sZeros : List AV → Option (Prop × AV) := spec1 (fun (n : Int) => 0 ≤ n ∧ n ≤ 1000) (fun n => Enc.enc (List.replicate n.toNat F01))
set_option maxHeartbeats 4000000 in
theorem zerosR : PureOK Tryz.prog G0 69 sZeros := by
  refine pureH1 (C := CRz) sigCRz mixCRz Tryz.func69 rfl rfl rfl [] (by kernel_rfl) (by decide) (fun n ⟨h0, h1⟩ => ?_)
  obtain ⟨n, rfl⟩ : ∃ m : Nat, n = m := ⟨n.toNat, by omega⟩
  simp
  refine AW.weak (weak_nil 3 2 35 rfl (by decide)) ?_
  refine loop_ruleH (C := CRz) sigCRz mixCRz [] (fun k : Nat => ⟨[(0, .int .i64 n), (3, .own 0 k), (4, .int .i64 k)], [R2B (List.replicate k F01)]⟩) (fun k => k ≤ n) (fun k => n - k) (by kernel_rfl) ⟨0, by simp, weak_eq (by simp) (by simp [R2B])⟩ (fun k hk => ?_)
  by_cases hlt : k < n
  · have i1 : I64 ((k : Int) + 1) := by unfold I64; omega
    have hlt' : (k : Int) < n := by omega
    simp [R2B, hlt, hlt', i1, F01]
    exact ⟨⟨by omega, by omega⟩, k + 1, by omega, by omega, weak_eq (by simp) (by simp [R2B, List.replicate_succ', F01])⟩
  · have hke : k = n := by omega
    subst hke
    simp [R2B]
noncomputable def CRm : Ctx := mkC Tryz.prog G0 [(107, .pure sMulF), (108, .pure sSubF)]
@[simp] theorem CRm_P : CRm.P = Tryz.prog := rfl
@[simp] theorem CRm_G : CRm.G = G0 := rfl
@[simp] theorem CRm_1 : CRm.S 107 = .pure sMulF := rfl
@[simp] theorem CRm_2 : CRm.S 108 = .pure sSubF := rfl
theorem mixCRm : CRm.P.follows .mixedOrders = true := mixed
theorem sigCRm : SigOK CRm := sigOK_cons (entryPure (mulR) Tryz.func107 rfl (by decide)) (sigOK_cons (entryPure (subR) Tryz.func108 rfl (by decide)) (sigOK_nil _ _))
def sMinR : List AV → Option (Prop × AV) := spec3 (fun (a : List Fr) (_ : Fr) (b : List Fr) => a.length ≤ 1000 ∧ a.length ≤ b.length) (fun a f b => .tup [Enc.enc ((minO a f b).getD []), .bool (minO a f b).isSome])
set_option maxHeartbeats 8000000 in
theorem minR : PureOK Tryz.prog G0 70 sMinR := by
  refine pureH3 (C := CRm) sigCRm mixCRm Tryz.func70 rfl rfl rfl [5, 6] (by kernel_rfl) (by decide) (fun a f b ⟨hl, hb⟩ => ?_)
  obtain ⟨R, hR⟩ : ∃ R, minO a f b = R := ⟨_, rfl⟩
  rw [hR]
  simp
  refine AW.weak (weak_nil 8 2 35 rfl (by decide)) ?_
  refine loop_ruleH (C := CRm) sigCRm mixCRm [5, 6] (fun q : Nat × List Fr × List Blk => ⟨[(0, Enc.enc a), (2, Enc.enc b), (4, .ptr 0 1 2 0 0), (8, .own 1 q.1), (9, .int .i64 q.1)], FB f :: R2B q.2.1 :: q.2.2⟩) (fun q => q.1 ≤ a.length ∧ minK a f b q.1 = some q.2.1) (fun q => a.length - q.1) (by kernel_rfl) ⟨(0, [], []), ⟨by simp, rfl⟩, weak_eq (by simp) (by simp [FB, R2B])⟩ (fun ⟨k, c, Z⟩ ⟨hk, hm⟩ => ?_)
  simp only at hk hm ⊢
  have hcl := minK_len hm
  by_cases hlt : k < a.length
  · have i1 : I64 ((k : Int) + 1) := by unfold I64; omega
    have hltb : k < b.length := by omega
    have hsn := minK_succ hm
    have em := mul_ofO f (ix b k)
    have fin : minK a f b (k + 1) = none → R = none := fun h => by
      rw [← hR]
      have := minK_none h (a.length - (k + 1))
      rwa [show k + 1 + (a.length - (k + 1)) = a.length by omega] at this
    obtain ⟨fn, fd⟩ := f
    simp [FB, R2B, hlt]
    refine AW_regionF sigCRm mixCRm [.read, .pure, .pure, .pure, .read, .read, .pure, .pure, .pure, .eff, .eff, .pure] [[],[],[],[2,1],[1,2,3],[3,2,1,4,0],[0,4,1,2,3,5],[5,3,2,1,4,0,6],[5,3,2,1,4,0,6],[],[6,0,4,1,2,3,5,7,9],[9,7,10,6,0,4,1,2,3,5,8]] (by kernel_rfl) (by kernel_rfl) (by kernel_rfl) (by kernel_rfl) ?_
    unfold mnO at hsn
    cases hmm : mulO ⟨fn, fd⟩ (ix b k) with
    | none =>
      rw [hmm] at hsn em
      have hRn := fin hsn
      subst hRn
      obtain ⟨r, ok, hs⟩ : ∃ r ok, subF (ix a k) F00 = (r, ok) := ⟨_, _, rfl⟩
      simp only [F00] at hs
      have i0 : I64 (0 : Int) := by unfold I64; omega
      simp [FB, R2B, hltb, rowAt_enc hltb, sMulF, em, ofO, F00]
      refine AW_regionF sigCRm mixCRm [.pure, .pure, .pure, .read, .read, .read, .pure, .pure, .pure, .eff, .eff, .pure] [[],[],[1,0],[0,1,2],[],[4,2,1,0,3],[3,0,1,2,4,5],[5,4,2,1,0,3,6],[5,4,2,1,0,3,6],[],[6,3,0,1,2,4,5,7,9],[9,7,10,6,3,0,1,2,4,5,8]] (by kernel_rfl) (by kernel_rfl) (by kernel_rfl) (by kernel_rfl) ?_
      cases ok <;> simp [FB, R2B, hlt, rowAt_enc hlt, sSubF, hs, i0, F00]
      all_goals done
    | some p =>
      rw [hmm] at hsn em
      have hI := mulO_I64 hmm
      have es := sub_ofO (ix a k) p
      simp [FB, R2B, hltb, rowAt_enc hltb, sMulF, em, ofO]
      refine AW_regionF sigCRm mixCRm [.pure, .pure, .pure, .read, .read, .read, .pure, .pure, .pure, .eff, .eff, .pure] [[],[],[1,0],[0,1,2],[],[4,2,1,0,3],[3,0,1,2,4,5],[5,4,2,1,0,3,6],[5,4,2,1,0,3,6],[],[6,3,0,1,2,4,5,7,9],[9,7,10,6,3,0,1,2,4,5,8]] (by kernel_rfl) (by kernel_rfl) (by kernel_rfl) (by kernel_rfl) ?_
      simp only at hsn
      cases hss : subO (ix a k) p with
      | none =>
        rw [hss] at hsn es
        have hRn := fin hsn
        subst hRn
        simp [FB, R2B, hlt, rowAt_enc hlt, sSubF, es, hI, ofO, F00]
        done
      | some d =>
        rw [hss] at hsn es
        simp [FB, R2B, hlt, rowAt_enc hlt, sSubF, es, hI, ofO, hcl, i1]
        exact ⟨⟨by omega, by omega⟩, (k + 1), (c ++ [d]), ⟨by omega, hsn⟩, by omega, Z ++ [FB p, FB d], weak_eq (by simp) (by simp [FB])⟩
  · have hke : k = a.length := by omega
    have hRs : R = some c := by rw [← hR, ← hm, hke]; rfl
    subst hRs
    simp [FB, R2B, hlt, hcl]
end Go.Proofs.YtfoipbjhaiimlaaGreatDoor
