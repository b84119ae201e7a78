/-
  Texts joined: H4 H5 H6 H7 H8 H9 N0 N1 N2 N3 N4 N5 N6 N7 N8 N9 Q1 Q2 Q3 Q4 Q5 Q6 Q7 Q8 Q9 Q10 R1.
-/
import Derived.Test.YtfoipbjhaiimlaaDoorS2
import Derived.Test.YtfoipbjhaiimlaaDoorT
import Derived.Test.YtfoipbjhaiimlaaDoorS1
import Derived.RangeFuncBox
import Derived.RangeFuncLeaves
import Derived.RangeFuncWrites
import Derived.Shelf.Abstract
import Derived.WalkKit
import Derived.OwnWalkIn
import Derived.TacticsInMore
import Derived.LoopNIn
import Derived.LoopIn
import Derived.Test.YtfoipbjhaiimlaaDoorAmO

/-
  layer 30: the first tableau and phase one, as rational numbers.
-/
namespace Go.Proofs.YtfoipbjhaiimlaaDoor
open Go.RowKit
set_option linter.unusedSimpArgs false
set_option linter.unusedVariables false

section
variable (l : Lin)
def aQ (i k : Nat) : Rat := V (ix (ix l.A i) k)
def bQ (i : Nat) : Rat := V (ix l.B i)
def cQ (k : Nat) : Rat := V (ix l.C k)
def sg (i : Nat) : Rat := if keepB l i then 1 else -1
def T0 (i k : Nat) : Rat := if k < l.C.length then sg l i * aQ l i k else if k = l.C.length + i then - sg l i else if k = l.C.length + l.A.length then sg l i * bQ l i else 0
end
theorem V_01 : V F01 = 0 := V_zero rfl
theorem V_11 : V F11 = 1 := by
  unfold V F11
  have : ((1 : Int) : Rat) = 1 := rfl
  rw [this]
  grind
theorem V_m1 : V ⟨-1, 1⟩ = -1 := by
  unfold V
  have h1 : ((1 : Int) : Rat) = 1 := rfl
  have h2 : ((-1 : Int) : Rat) = -1 := rfl
  rw [h1, h2]
  grind
theorem valid_01 : ValidF F01 := by decide
theorem valid_11 : ValidF F11 := by decide
theorem valid_m1 : ValidF ⟨-1, 1⟩ := by decide
section
variable {l : Lin}
/-- A valid program. -/
structure Ok (l : Lin) : Prop where
  g : Good l
  a : ∀ i k, i < l.A.length → k < l.C.length → ValidF (ix (ix l.A i) k)
  b : ∀ i, i < l.A.length → ValidF (ix l.B i)
  c : ∀ k, k < l.C.length → ValidF (ix l.C k)
theorem ok_of (h : checkF l = 0) : Ok l := by
  obtain ⟨k1, k2, k3, k4, k5, k6, k7⟩ := check_zero h
  refine ⟨goodL_of h, fun i k hi hk => ?_, fun i hi => k5 _ (ix_mem (by omega)), fun k hk => k6 _ (ix_mem hk)⟩
  obtain ⟨q1, q2⟩ := k7 _ (ix_mem hi)
  exact q2 _ (ix_mem (by omega))
theorem put_val (h : Ok l) {i k : Nat} (hi : i < l.A.length) (hk : k < l.C.length) : ValidF (putE l i (ix (ix l.A i) k)) ∧ V (putE l i (ix (ix l.A i) k)) = sg l i * aQ l i k := by
  have ha := h.a i k hi hk
  unfold putE sg aQ
  split
  · exact ⟨ha, by grind⟩
  · exact ⟨valid_neg ha, by rw [neg_val ha]; grind⟩
theorem ix_rep {α : Type} [Inhabited α] {a : α} {n k : Nat} (h : k < n) : ix (List.replicate n a) k = a := by
  rw [ix_lt (by rw [List.length_replicate]; exact h), List.getElem_replicate]
theorem rowB_val (h : Ok l) {i k : Nat} (hi : i < l.A.length) (hk : k < l.C.length + l.A.length + 1) : ValidF (ix (rowB l i) k) ∧ V (ix (rowB l i) k) = T0 l i k := by
  have hb := h.b i hi
  have hlen : (List.replicate (l.C.length + l.A.length + 1) F01).length = l.C.length + l.A.length + 1 := List.length_replicate
  have h0 : ValidF (ix (mixF l.C.length (fun c => putE l i (ix (ix l.A i) c)) (List.replicate (l.C.length + l.A.length + 1) F01)) k) ∧ V (ix (mixF l.C.length (fun c => putE l i (ix (ix l.A i) c)) (List.replicate (l.C.length + l.A.length + 1) F01)) k) = if k < l.C.length then sg l i * aQ l i k else 0 := by
    rw [mixF_ix (by rw [hlen]; exact hk)]
    by_cases hkn : k < l.C.length
    · rw [if_pos hkn, if_pos hkn]
      exact put_val h hi hkn
    · rw [if_neg hkn, if_neg hkn, ix_rep hk]
      exact ⟨valid_01, V_01⟩
  unfold rowB T0
  simp only
  by_cases hkeep : keepB l i = true
  · have hs : sg l i = 1 := if_pos hkeep
    rw [if_pos hkeep, ix_set (by simp only [List.length_set, mixF_len, hlen]; omega)]
    by_cases hkw : k = l.C.length + l.A.length
    · rw [if_pos hkw, if_neg (by omega), if_neg (by omega), if_pos hkw, hs]
      exact ⟨hb, by unfold bQ; grind⟩
    · rw [if_neg hkw, ix_set (by simp only [List.length_set, mixF_len, hlen]; omega)]
      by_cases hki : k = l.C.length + i
      · rw [if_pos hki, if_neg (by omega), if_pos hki, hs]
        exact ⟨valid_m1, V_m1⟩
      · rw [if_neg hki, ix_set (by simp only [List.length_set, mixF_len, hlen]; omega), if_neg hkw, ix_set (by simp only [mixF_len, hlen]; omega), if_neg hki]
        refine ⟨h0.1, h0.2.trans ?_⟩
        rw [if_neg hki, if_neg hkw]
  · have hs : sg l i = -1 := if_neg hkeep
    rw [if_neg hkeep, ix_set (by simp only [List.length_set, mixF_len, hlen]; omega)]
    by_cases hkw : k = l.C.length + l.A.length
    · rw [if_pos hkw, if_neg (by omega), if_neg (by omega), if_pos hkw, hs]
      exact ⟨valid_neg hb, by rw [neg_val hb]; unfold bQ; grind⟩
    · rw [if_neg hkw, ix_set (by simp only [mixF_len, hlen]; omega)]
      by_cases hki : k = l.C.length + i
      · rw [if_pos hki, if_neg (by omega), if_pos hki, hs]
        exact ⟨valid_11, by rw [V_11]; grind⟩
      · rw [if_neg hki]
        refine ⟨h0.1, h0.2.trans ?_⟩
        rw [if_neg hki, if_neg hkw]
theorem basK_at (h : Ok l) : ∀ {k i : Nat}, k ≤ l.A.length → i < k → ix (basK l k) i = if keepB l i then (l.C.length : Int) + l.A.length + i else (l.C.length : Int) + i
  | 0, i, _, hi => by omega
  | k + 1, i, hk, hi => by
    have := h.g.m24
    unfold basK
    rw [ix_set (by rw [basK_len]; omega)]
    by_cases hik : i = k
    · subst hik
      rw [if_pos rfl]
    · rw [if_neg hik]
      exact basK_at h (by omega) (by omega)
theorem beg_w : (begF l).w = l.C.length + l.A.length := rfl
theorem beg_m : (begF l).m = l.A.length := rfl
theorem beg_n : (begF l).n = l.C.length := rfl
theorem beg_shape (h : Ok l) : ∃ L : Lay, L.c = none ∧ Shape L (begF l) :=
  ⟨layB 2 l l.A.length, rfl, (tabB_shape h.g 2 (Nat.le_refl l.A.length)).full (by simp [layB, tabB])⟩
theorem beg_row {i : Nat} (hi : i < l.A.length) : ix (begF l).rows i = rowB l i := by
  show ix ((List.range l.A.length).map (rowB l)) i = _
  exact ix_range hi
theorem beg_T (h : Ok l) {i k : Nat} (hi : i < l.A.length) (hk : k < l.C.length + l.A.length + 1) : (Q (begF l)).T i k = T0 l i k := by
  show V (ix (ix (begF l).rows i) k) = _
  rw [beg_row hi]
  exact (rowB_val h hi hk).2
theorem beg_b (h : Ok l) {i : Nat} (hi : i < l.A.length) : (Q (begF l)).b i = if keepB l i then l.C.length + l.A.length + i else l.C.length + i := by
  show (ix (basK l l.A.length) i).toNat = _
  rw [basK_at h (Nat.le_refl _) hi]
  split <;> omega
theorem beg_vd (h : Ok l) : Vd (begF l) := ⟨fun i k hi hk => by rw [beg_row hi]; exact (rowB_val h hi hk).1, .inl rfl⟩
/-- The units of the first tableau, and its right side. -/
theorem beg_unit (h : Ok l) : ∀ i, i < l.A.length → (Q (begF l)).b i < l.C.length + l.A.length → ∀ i', i' < l.A.length → (Q (begF l)).T i' ((Q (begF l)).b i) = if i' = i then 1 else 0 := fun i hi hb i' hi' => by
  rw [beg_b h hi] at hb ⊢
  by_cases hk : keepB l i = true
  · rw [if_pos hk] at hb; omega
  · rw [if_neg hk, beg_T h hi' (by omega)]
    unfold T0
    rw [if_neg (by omega)]
    by_cases hii : i' = i
    · subst hii
      rw [if_pos rfl, if_pos rfl]
      unfold sg
      rw [if_neg hk]
      grind
    · rw [if_neg (by omega), if_neg (by omega), if_neg hii]
theorem beg_rhs (h : Ok l) : ∀ i, i < l.A.length → 0 ≤ (Q (begF l)).T i (l.C.length + l.A.length) := fun i hi => by
  rw [beg_T h hi (by omega)]
  unfold T0
  rw [if_neg (by omega), if_neg (by omega), if_pos rfl]
  have hb := h.b i hi
  have h1 := V_pos_iff hb
  have hd : keepB l i = decide (0 < (ix l.B i).N) := rfl
  unfold sg bQ
  by_cases hk : 0 < (ix l.B i).N
  · rw [if_pos (by rw [hd]; exact decide_eq_true hk)]
    have := h1.1 hk
    grind
  · rw [if_neg (by rw [hd]; simpa using hk)]
    have := mt h1.2 hk
    grind
/-! ### Phase one -/
theorem art_iff {L : Lay} {t : Tab} (hS : Shape L t) (i : Nat) : artP t i = true ↔ t.w ≤ (Q t).b i := by
  have := bas_nn hS i
  unfold artP
  show decide ((t.w : Int) ≤ ix t.basis i) = true ↔ t.w ≤ (ix t.basis i).toNat
  rw [decide_eq_true_iff]
  omega
theorem rowE_V (t : Tab) (k : Nat) : V (ix (rowE t) k) = 0 := by
  by_cases hk : k < t.w + 1
  · rw [show rowE t = List.replicate (t.w + 1) F01 from rfl, ix_rep hk]; exact V_01
  · rw [ix_ge (by rw [rowE_len]; omega)]; exact V_def
theorem f1_Q {L : Lay} {t : Tab} (hS : Shape L t) : ∀ {k : Nat}, k ≤ t.m → (f1K t k).over = false → t.over = false ∧ Q (f1K t k) = ⟨(Q t).T, fun c => - Sm k (fun i => if t.w ≤ (Q t).b i then (Q t).T i c else 0), (Q t).b⟩ ∧ (Vd t → Vd (f1K t k))
  | 0, _, ho => ⟨ho, by
      refine QT.same (fun _ _ => rfl) (fun k => ?_) (fun _ => rfl)
      show V (ix (rowE t) k) = - Sm 0 _
      rw [rowE_V]
      unfold Sm
      grind, fun hv => ⟨hv.rows, .inr fun k hk => by
        have hk : k < t.w + 1 := hk
        show ValidF (ix (rowE t) k)
        rw [show rowE t = List.replicate (t.w + 1) F01 from rfl, ix_rep hk]
        exact valid_01⟩⟩
  | k + 1, hk, ho => by
    have hS1 : Shape (newC L []) (f1K t k) := f1K_shape hS (by omega)
    have ih := f1_Q hS (k := k) (by omega)
    have hb : ∀ i, artP t i = true ↔ t.w ≤ (Q t).b i := art_iff hS
    unfold f1K at ho ⊢
    by_cases ha : artP t k = true
    · rw [if_pos ha] at ho ⊢
      obtain ⟨h1, h2, h3⟩ := clr_cost hS1 (f1K_pre hk) ho
      obtain ⟨h4, h5, h6⟩ := ih h1
      refine ⟨h4, ?_, fun hv => h3 (h6 hv)⟩
      rw [h2, h5, V_11]
      refine QT.same (fun _ _ => rfl) (fun c => ?_) (fun _ => rfl)
      simp only
      show _ = - (Sm k _ + if t.w ≤ (Q t).b k then (Q t).T k c else 0)
      rw [if_pos ((hb k).1 ha)]
      grind
    · rw [if_neg ha] at ho ⊢
      obtain ⟨h4, h5, h6⟩ := ih ho
      refine ⟨h4, ?_, h6⟩
      rw [h5]
      refine QT.same (fun _ _ => rfl) (fun c => ?_) (fun _ => rfl)
      simp only
      show _ = - (Sm k _ + if t.w ≤ (Q t).b k then (Q t).T k c else 0)
      rw [if_neg (fun h => ha ((hb k).2 h))]
      grind
/-- What is true through phase one. -/
structure In1 (l : Lin) (t : Tab) : Prop where
  s : ∃ L, Shape L t
  v : Vd t
  c : t.cost.length = t.w + 1
  n : t.n = l.C.length
  m : t.m = l.A.length
  wf : WF l.A.length (l.C.length + l.A.length) (Q t)
  p1 : P1 l.A.length (l.C.length + l.A.length) (Q t)
  e : Eqv l.A.length (Q (begF l)).T (Q t).T
theorem In1.w {t : Tab} (h : In1 l t) : t.w = l.C.length + l.A.length := by unfold Tab.w; rw [h.n, h.m]
theorem f1_in (h : Ok l) (ho : (f1T (begF l)).over = false) : In1 l (f1T (begF l)) := by
  obtain ⟨L, hLc, hS⟩ := beg_shape h
  obtain ⟨h1, h2, h3⟩ := f1_Q hS (k := (begF l).m) (Nat.le_refl _) ho
  obtain ⟨s1, s2, s3, s4⟩ := f1K_same (begF l) (begF l).m
  have hw : (f1K (begF l) (begF l).m).w = (begF l).w := f1K_w _ _
  refine ⟨⟨_, f1K_shape (K := []) hS (Nat.le_refl _)⟩, h3 (beg_vd h), ?_, s1, s2, ?_, ?_, ?_⟩
  · show (f1K (begF l) (begF l).m).cost.length = (f1K (begF l) (begF l).m).w + 1
    rw [s3, hw]
  · rw [show f1T (begF l) = f1K (begF l) (begF l).m from rfl, h2]
    refine ⟨beg_unit h, fun i hi hb => ?_, beg_rhs h⟩
    have hb : (Q (begF l)).b i < l.C.length + l.A.length := hb
    show - Sm (begF l).m (fun x => if (begF l).w ≤ (Q (begF l)).b x then (Q (begF l)).T x ((Q (begF l)).b i) else 0) = 0
    rw [Sm_congr (g := fun _ => 0) (fun x hx => ?_), Sm_zero]
    · grind
    · split
      · rename_i hx2
        rw [beg_unit h i hi hb x hx, if_neg (fun e => by rw [e] at hx2; exact absurd hb (by rw [beg_w] at hx2; omega))]
      · rfl
  · rw [show f1T (begF l) = f1K (begF l) (begF l).m from rfl, h2]
    exact fun k => rfl
  · rw [show f1T (begF l) = f1K (begF l) (begF l).m from rfl, h2]
    exact Eqv.refl _ _
theorem In1.step {t u : Tab} (h : In1 l t) (hs : stepF t = .inr u) (ho : u.over = false) : In1 l u := by
  obtain ⟨L, hS⟩ := h.s
  obtain ⟨r, j, hB, hQ, hv⟩ := step_Q hS h.v h.c hs ho
  have hsh := stepF_shape hS
  rw [hs] at hsh
  obtain ⟨k1, k2⟩ := hsh
  rw [h.m, h.w] at hB
  have hp := pos_ne hB.pos
  refine ⟨⟨L, k1⟩, hv, by rw [k2.cost, h.c, k2.w], k2.n.trans h.n, k2.m.trans h.m, ?_, ?_, ?_⟩
  · rw [hQ]; exact h.wf.piv hB
  · rw [hQ]; exact h.p1.piv hB.jw hp
  · rw [hQ]; exact h.e.trans (Eqv.piv hB.rm hp)
theorem In1.halts {t : Tab} (h : In1 l t) : Halts t := by
  obtain ⟨L, hS⟩ := h.s
  exact Go.Proofs.YtfoipbjhaiimlaaDoor.halts hS h.v h.c (by rw [h.m, h.w]; exact h.wf)
theorem haltsF (h : Ok l) : HaltsF (begF l) := fun hn => (f1_in h (by
  cases ho : (f1T (begF l)).over with
  | false => rfl
  | true => exact absurd (.inr ho) hn)).halts
/-- The end of phase one. -/
theorem phase1_end (h : Ok l) (ho1 : (f1T (begF l)).over = false) (ho : (phaseF (f1T (begF l))).2.over = false) : In1 l (phaseF (f1T (begF l))).2 := by
  obtain ⟨r, n, hr⟩ := (f1_in h ho1).halts
  rw [phaseF_eq hr] at ho ⊢
  exact (runF_ind (P := In1 l) (fun t u ht hs ho => ht.step hs ho) hr (f1_in h ho1) ho).1
/-! ### Behind phase one -/
/-- What is true when the artificial variables below k have left. -/
structure In2 (l : Lin) (k : Nat) (t : Tab) : Prop where
  s : ∃ L, Shape L t
  v : Vd t
  n : t.n = l.C.length
  m : t.m = l.A.length
  wf : WF l.A.length (l.C.length + l.A.length) (Q t)
  e : Eqv l.A.length (Q (begF l)).T (Q t).T
  c : ∀ k, (Q t).c k = 0
  o : t.over = false
  r : ∀ i, i < l.A.length → l.C.length + l.A.length ≤ (Q t).b i → (Q t).T i (l.C.length + l.A.length) = 0
  z : ∀ i, i < k → i < l.A.length → l.C.length + l.A.length ≤ (Q t).b i → ∀ c, c < l.C.length + l.A.length → (Q t).T i c = 0
theorem In2.w {t : Tab} {k : Nat} (h : In2 l k t) : t.w = l.C.length + l.A.length := by unfold Tab.w; rw [h.n, h.m]
theorem colK_none {t : Tab} {i : Nat} : ∀ {k : Nat}, colK t i k = none → ∀ c, c < k → (ix (ix t.rows i) c).N = 0
  | 0, _, c, hc => by omega
  | k + 1, h, c, hc => by
    cases h1 : colK t i k with
    | some i' => unfold colK at h; rw [h1] at h; cases h
    | none =>
      rw [colK_succ h1] at h
      split at h
      · cases h
      · rename_i hN
        by_cases hck : c = k
        · rw [hck]; exact Classical.byContradiction hN
        · exact colK_none h1 c (by omega)
theorem In2.rep {t : Tab} {k : Nat} (h : In2 l k t) (hk : k < l.A.length) (ho : (repF t k).over = false) : In2 l (k + 1) (repF t k) := by
  obtain ⟨L, hS⟩ := h.s
  have hart := art_iff hS k
  have hw := h.w
  unfold repF at ho ⊢
  by_cases ha : (t.w : Int) ≤ ix t.basis k ∧ t.over = false
  · rw [if_pos ha] at ho ⊢
    have hbk : l.C.length + l.A.length ≤ (Q t).b k := by rw [← hw]; exact hart.1 (decide_eq_true ha.1)
    cases hc : colK t k t.w with
    | none =>
      refine ⟨h.s, h.v, h.n, h.m, h.wf, h.e, h.c, h.o, h.r, fun i hi hi2 hb c hc2 => ?_⟩
      by_cases hik : i = k
      · subst hik
        exact V_zero (colK_none hc c (by rw [hw]; exact hc2))
      · exact h.z i (by omega) hi2 hb c hc2
    | some j =>
      rw [hc] at ho
      simp only at ho ⊢
      have hj := colK_lt hc
      obtain ⟨p1, p2, p3, p4⟩ := piv_Q hS (by rw [h.m]; exact hk) hj ho
      have hj' : j < l.C.length + l.A.length := by omega
      have hr0 := h.r k hk hbk
      refine ⟨⟨L, pivF_shape hS (by rw [h.m]; exact hk) hj⟩, p4 h.v, (pivF_n k j).trans h.n, (pivF_m k j).trans h.m, ?_, ?_, ?_, ho, ?_, ?_⟩
      · rw [p3]; exact h.wf.piv0 hk hj' p2 hr0 h.c
      · rw [p3]; exact h.e.trans (Eqv.piv hk p2)
      · rw [p3]
        intro c
        show (Q t).c c - (Q t).c j * ((Q t).T k c / (Q t).T k j) = 0
        rw [h.c, h.c]
        grind
      · rw [p3]
        intro i hi hb
        have hb : _ ≤ (if i = k then j else (Q t).b i) := hb
        by_cases hik : i = k
        · rw [if_pos hik] at hb; omega
        · rw [if_neg hik] at hb
          show (if i = k then _ else _) = 0
          rw [if_neg hik, hr0, h.r i hi hb]
          grind
      · rw [p3]
        intro i hi hi2 hb c hc2
        have hb : _ ≤ (if i = k then j else (Q t).b i) := hb
        by_cases hik : i = k
        · rw [if_pos hik] at hb; omega
        · rw [if_neg hik] at hb
          show (if i = k then _ else _) = 0
          rw [if_neg hik, h.z i (by omega) hi2 hb c hc2, h.z i (by omega) hi2 hb j hj']
          grind
  · rw [if_neg ha] at ho ⊢
    refine ⟨h.s, h.v, h.n, h.m, h.wf, h.e, h.c, h.o, h.r, fun i hi hi2 hb c hc2 => ?_⟩
    by_cases hik : i = k
    · subst hik
      refine absurd ⟨?_, h.o⟩ ha
      have := hart.2 (by rw [hw]; exact hb)
      exact of_decide_eq_true this
    · exact h.z i (by omega) hi2 hb c hc2
theorem rep_over {t : Tab} {L : Lay} (hS : Shape L t) {k : Nat} (hk : k < t.m) (ho : (repF t k).over = false) : t.over = false := by
  unfold repF at ho
  split at ho
  · rename_i h; exact h.2
  · exact ho
theorem In2.reps {t : Tab} (h : In2 l 0 t) : ∀ {k : Nat}, k ≤ l.A.length → (repK t k).over = false → In2 l k (repK t k)
  | 0, _, _ => h
  | k + 1, hk, ho => by
    obtain ⟨L, hS⟩ := h.s
    have hsh := repK_shape hS (k := k) (by rw [h.m]; omega)
    have ho' : (repK t k).over = false := rep_over hsh.1 (by rw [hsh.2.m, h.m]; omega) ho
    exact (h.reps (k := k) (by omega) ho').rep (by omega) ho
/-- Phase one has a solution: the tableau that phase two begins with. -/
theorem first_in (h : Ok l) (ho : (firstF (begF l)).2.over = false) (hb : (firstF (begF l)).1 = true) : In2 l l.A.length (firstF (begF l)).2 := by
  obtain ⟨L, hLc, hS⟩ := beg_shape h
  unfold firstF at ho hb ⊢
  by_cases h1 : anyK (begF l).m (artP (begF l)) = false ∨ (f1T (begF l)).over = true
  · rw [if_pos h1] at ho ⊢
    have h2 : anyK (begF l).m (artP (begF l)) = false := h1.resolve_right (fun e => by rw [show (true, f1T (begF l)).2 = f1T (begF l) from rfl, e] at ho; cases ho)
    have ho : (f1T (begF l)).over = false := ho
    have hi := f1_in h ho
    obtain ⟨q1, q2, q3⟩ := f1_Q hS (k := (begF l).m) (Nat.le_refl _) ho
    have hQ : Q (f1T (begF l)) = ⟨(Q (begF l)).T, fun c => - Sm (begF l).m (fun i => if (begF l).w ≤ (Q (begF l)).b i then (Q (begF l)).T i c else 0), (Q (begF l)).b⟩ := q2
    have hna : ∀ i, i < l.A.length → ¬ l.C.length + l.A.length ≤ (Q (begF l)).b i := fun i hi hb => by
      have := anyK_false h2 i hi
      rw [(art_iff hS i).2 hb] at this
      cases this
    refine ⟨hi.s, hi.v, hi.n, hi.m, hi.wf, hi.e, fun k => ?_, ho, fun i hi hb => ?_, fun i _ hi hb => ?_⟩
    · rw [show (true, f1T (begF l)).2 = f1T (begF l) from rfl, hQ]
      show - Sm l.A.length _ = 0
      rw [Sm_congr (g := fun _ => 0) (fun i hi => by exact if_neg (hna i hi)), Sm_zero]
      grind
    · rw [show (true, f1T (begF l)).2 = f1T (begF l) from rfl, hQ] at hb
      exact absurd hb (hna i hi)
    · rw [show (true, f1T (begF l)).2 = f1T (begF l) from rfl, hQ] at hb
      exact absurd hb (hna i hi)
  · rw [if_neg h1] at ho hb ⊢
    have ho1 : (f1T (begF l)).over = false := by
      cases hh : (f1T (begF l)).over with
      | false => rfl
      | true => exact absurd (.inr hh) h1
    by_cases h2 : (phaseF (f1T (begF l))).2.over = true
    · rw [if_pos h2] at ho
      rw [show (true, (phaseF (f1T (begF l))).2).2 = (phaseF (f1T (begF l))).2 from rfl, h2] at ho
      cases ho
    rw [if_neg h2] at ho hb ⊢
    have h2 : (phaseF (f1T (begF l))).2.over = false := by simpa using h2
    have hi := phase1_end h ho1 h2
    by_cases h3 : (ix (phaseF (f1T (begF l))).2.cost (begF l).w).N < 0
    · rw [if_pos h3] at hb
      cases hb
    rw [if_neg h3] at ho ⊢
    generalize (phaseF (f1T (begF l))).2 = t at *
    have hc0 : 0 ≤ (Q t).c (l.C.length + l.A.length) := by
      have hv := cost_valid hi.v hi.c (k := t.w) (by omega)
      rw [beg_w, ← hi.w, V_neg_iff hv] at h3
      rw [← hi.w]
      show 0 ≤ V (ix t.cost t.w)
      grind
    have hr := hi.p1.rhs hi.wf hc0
    obtain ⟨L2, hS2⟩ := hi.s
    have hin : In2 l 0 { t with cost := [] } := by
      refine ⟨⟨{ L2 with c := none }, ⟨hS2.m, hS2.r, hS2.n1, hS2.n12, hS2.m24, hS2.row, .inl ⟨rfl, rfl⟩, hS2.bas, hS2.b64⟩⟩, ⟨hi.v.rows, .inl rfl⟩, hi.n, hi.m, ⟨hi.wf.unit, fun i _ _ => V_def, hi.wf.rhs⟩, hi.e, fun _ => V_def, h2, hr, fun i hi => by omega⟩
    exact hin.reps (Nat.le_refl _) ho
end
end Go.Proofs.YtfoipbjhaiimlaaDoor


/-
  layer 30: phase two; what Solve's answer says of the program, over the rational numbers.
-/
namespace Go.Proofs.YtfoipbjhaiimlaaDoor
open Go.RowKit
set_option linter.unusedSimpArgs false
set_option linter.unusedVariables false

section
variable {l : Lin}
def cE (l : Lin) (k : Nat) : Rat := if k < l.C.length then cQ l k else 0
theorem rowC_V {t : Tab} (hn : t.n = l.C.length) (hw : t.w = l.C.length + l.A.length) (k : Nat) : V (ix (rowC t l.C) k) = cE l k := by
  have hE : rowE t = List.replicate (t.w + 1) F01 := rfl
  unfold rowC cE cQ
  rw [hE, List.drop_replicate]
  by_cases hk : k < l.C.length
  · rw [if_pos hk]
    unfold ix
    rw [List.getD_eq_getElem?_getD, List.getElem?_append_left hk, List.getD_eq_getElem?_getD]
  · rw [if_neg hk]
    by_cases hk2 : k < l.C.length + (t.w + 1 - l.C.length)
    · rw [ix_lt (by rw [List.length_append, List.length_replicate]; exact hk2), List.getElem_append_right (by omega), List.getElem_replicate]
      exact V_01
    · rw [ix_ge (by rw [List.length_append, List.length_replicate]; omega)]
      exact V_def
theorem rowC_valid (h : Ok l) {t : Tab} (hn : t.n = l.C.length) (hw : t.w = l.C.length + l.A.length) {k : Nat} (hk : k < t.w + 1) : ValidF (ix (rowC t l.C) k) := by
  have hE : rowE t = List.replicate (t.w + 1) F01 := rfl
  unfold rowC
  rw [hE, List.drop_replicate]
  by_cases hkn : k < l.C.length
  · have := h.c k hkn
    unfold ix at this ⊢
    rw [List.getD_eq_getElem?_getD, List.getElem?_append_left hkn, ← List.getD_eq_getElem?_getD]
    exact this
  · rw [ix_lt (by rw [List.length_append, List.length_replicate]; omega), List.getElem_append_right (by omega), List.getElem_replicate]
    exact valid_01
theorem use_iff {t : Tab} {L : Lay} (hS : Shape L t) (k : Nat) : useP t l.C k ↔ (Q t).b k < t.n ∧ (ix l.C ((Q t).b k)).N ≠ 0 := by
  have := bas_nn hS k
  unfold useP
  show _ ↔ (ix t.basis k).toNat < t.n ∧ (ix l.C (ix t.basis k).toNat).N ≠ 0
  exact and_congr (by omega) Iff.rfl
theorem s1_Q (h : Ok l) {L : Lay} {t : Tab} (hS : Shape L t) (hn : t.n = l.C.length) (hw : t.w = l.C.length + l.A.length) : ∀ {k : Nat}, k ≤ t.m → (s1K t l.C k).over = false → t.over = false ∧ Q (s1K t l.C k) = ⟨(Q t).T, fun c => cE l c - Sm k (fun i => if (Q t).b i < l.C.length then cQ l ((Q t).b i) * (Q t).T i c else 0), (Q t).b⟩ ∧ (Vd t → Vd (s1K t l.C k))
  | 0, _, ho => ⟨ho, by
      refine QT.same (fun _ _ => rfl) (fun k => ?_) (fun _ => rfl)
      show V (ix (rowC t l.C) k) = cE l k - Sm 0 _
      rw [rowC_V hn hw]
      unfold Sm
      grind, fun hv => ⟨hv.rows, .inr fun k hk => rowC_valid h hn hw hk⟩⟩
  | k + 1, hk, ho => by
    have hS1 : Shape (newC L []) (s1K t l.C k) := s1K_shape hS hn.symm (by omega)
    have ih := s1_Q h hS hn hw (k := k) (by omega)
    have hu := use_iff (l := l) hS k
    unfold s1K at ho ⊢
    by_cases ha : useP t l.C k
    · rw [if_pos ha] at ho ⊢
      obtain ⟨sm1, sm2, sm3, sm4⟩ := s1K_same (t := t) hn.symm k
      obtain ⟨h1, h2, h3⟩ := clr_cost hS1 ⟨by rw [sm2]; exact hk, fun q hq => (by cases hq), fun _ => by rw [sm3, s1K_w hn.symm]⟩ ho
      obtain ⟨h4, h5, h6⟩ := ih h1
      refine ⟨h4, ?_, fun hv => h3 (h6 hv)⟩
      rw [h2, h5]
      refine QT.same (fun _ _ => rfl) (fun c => ?_) (fun _ => rfl)
      simp only
      show _ = _ - (Sm k _ + if (Q t).b k < l.C.length then cQ l ((Q t).b k) * (Q t).T k c else 0)
      rw [if_pos (by rw [← hn]; exact (hu.1 ha).1)]
      have : V (ix l.C (ix t.basis k).toNat) = cQ l ((Q t).b k) := rfl
      rw [this]
      grind
    · rw [if_neg ha] at ho ⊢
      obtain ⟨h4, h5, h6⟩ := ih ho
      refine ⟨h4, ?_, h6⟩
      rw [h5]
      refine QT.same (fun _ _ => rfl) (fun c => ?_) (fun _ => rfl)
      simp only
      show _ = _ - (Sm k _ + if (Q t).b k < l.C.length then cQ l ((Q t).b k) * (Q t).T k c else 0)
      by_cases hb : (Q t).b k < l.C.length
      · rw [if_pos hb]
        have hN : (ix l.C ((Q t).b k)).N = 0 := Classical.byContradiction fun hN => ha (hu.2 ⟨by rw [hn]; exact hb, hN⟩)
        have : cQ l ((Q t).b k) = 0 := V_zero hN
        rw [this]
        grind
      · rw [if_neg hb]
        grind
/-- What is true through phase two. -/
structure In3 (l : Lin) (t : Tab) : Prop where
  s : ∃ L, Shape L t
  v : Vd t
  c : t.cost.length = t.w + 1
  n : t.n = l.C.length
  m : t.m = l.A.length
  wf : WF l.A.length (l.C.length + l.A.length) (Q t)
  e : Eqv l.A.length (Q (begF l)).T (Q t).T
  d : Dif l.A.length (Q (begF l)).T (cE l) (Q t).c
  r : ∀ i, i < l.A.length → l.C.length + l.A.length ≤ (Q t).b i → (Q t).T i (l.C.length + l.A.length) = 0
  z : ∀ i, i < l.A.length → l.C.length + l.A.length ≤ (Q t).b i → ∀ c, c < l.C.length + l.A.length → (Q t).T i c = 0
theorem In3.w {t : Tab} (h : In3 l t) : t.w = l.C.length + l.A.length := by unfold Tab.w; rw [h.n, h.m]
theorem s1_in (h : Ok l) {t : Tab} (ht : In2 l l.A.length t) (ho : (s1T t l.C).over = false) : In3 l (s1T t l.C) := by
  obtain ⟨L, hS⟩ := ht.s
  have hw := ht.w
  obtain ⟨h1, h2, h3⟩ := s1_Q h hS ht.n hw (k := t.m) (Nat.le_refl _) ho
  obtain ⟨s1, s2, s3, s4⟩ := s1K_same (t := t) ht.n.symm t.m
  have hQ : Q (s1T t l.C) = _ := h2
  rw [ht.m] at hQ
  have hTs : (Q (s1T t l.C)).T = (Q t).T := by rw [hQ]
  have hbs : (Q (s1T t l.C)).b = (Q t).b := by rw [hQ]
  refine ⟨⟨_, s1K_shape (K := []) hS ht.n.symm (Nat.le_refl _)⟩, h3 ht.v, ?_, s1.trans ht.n, s2.trans ht.m, ⟨fun i hi hb => ?_, fun i hi hb => ?_, fun i hi => ?_⟩, ?_, ?_, ?_, ?_⟩
  · show (s1K t l.C t.m).cost.length = (s1K t l.C t.m).w + 1
    rw [s3, s1K_w ht.n.symm]
  · rw [hTs, hbs] at *
    exact ht.wf.unit i hi hb
  · rw [hbs] at hb ⊢
    rw [hQ]
    show cE l ((Q t).b i) - Sm l.A.length (fun x => if (Q t).b x < l.C.length then cQ l ((Q t).b x) * (Q t).T x ((Q t).b i) else 0) = 0
    have hpick : Sm l.A.length (fun x => if (Q t).b x < l.C.length then cQ l ((Q t).b x) * (Q t).T x ((Q t).b i) else 0) = if (Q t).b i < l.C.length then cQ l ((Q t).b i) * (Q t).T i ((Q t).b i) else 0 :=
      Sm_pick (f := fun x => if (Q t).b x < l.C.length then cQ l ((Q t).b x) * (Q t).T x ((Q t).b i) else 0) hi (fun x hx hxi => by
        show (if (Q t).b x < l.C.length then cQ l ((Q t).b x) * (Q t).T x ((Q t).b i) else 0) = 0
        rw [ht.wf.unit i hi hb x hx, if_neg hxi]
        split
        · grind
        · rfl)
    rw [hpick, ht.wf.unit i hi hb i hi, if_pos rfl]
    unfold cE
    split <;> grind
  · rw [hTs]
    exact ht.wf.rhs i hi
  · rw [hTs]
    exact ht.e
  · rw [hQ]
    refine Dif.eqv ht.e ?_
    show Sp (Q t).T (Lt l.A.length) (fun k => (cE l k - Sm l.A.length (fun i => if (Q t).b i < l.C.length then cQ l ((Q t).b i) * (Q t).T i k else 0)) - cE l k)
    have gen : ∀ n, n ≤ l.A.length → Sp (Q t).T (Lt l.A.length) (fun k => - Sm n (fun i => if (Q t).b i < l.C.length then cQ l ((Q t).b i) * (Q t).T i k else 0)) := by
      intro n
      induction n with
      | zero => exact fun _ => Sp.zero.eq (fun k => by unfold Sm; grind)
      | succ n ih =>
        intro hn
        refine ((ih (by omega)).add n (if (Q t).b n < l.C.length then - cQ l ((Q t).b n) else 0) (show n < l.A.length by omega)).eq (fun k => ?_)
        show - (Sm n _ + if (Q t).b n < l.C.length then cQ l ((Q t).b n) * (Q t).T n k else 0) = _
        split <;> grind
    exact (gen l.A.length (Nat.le_refl _)).eq (fun k => by grind)
  · rw [hTs, hbs]
    exact ht.r
  · rw [hTs, hbs]
    exact fun i hi hb => ht.z i hi hi hb
theorem In3.step {t u : Tab} (h : In3 l t) (hs : stepF t = .inr u) (ho : u.over = false) : In3 l u := by
  obtain ⟨L, hS⟩ := h.s
  obtain ⟨r, j, hB, hQ, hv⟩ := step_Q hS h.v h.c hs ho
  have hsh := stepF_shape hS
  rw [hs] at hsh
  obtain ⟨k1, k2⟩ := hsh
  rw [h.m, h.w] at hB
  have hp := pos_ne hB.pos
  have keep : ∀ i, i < l.A.length → l.C.length + l.A.length ≤ (pivQ (Q t) r j).b i → i ≠ r ∧ l.C.length + l.A.length ≤ (Q t).b i := fun i hi hb => by
    have hb : _ ≤ (if i = r then j else (Q t).b i) := hb
    by_cases hir : i = r
    · rw [if_pos hir] at hb
      have := hB.jw
      omega
    · rw [if_neg hir] at hb
      exact ⟨hir, hb⟩
  refine ⟨⟨L, k1⟩, hv, by rw [k2.cost, h.c, k2.w], k2.n.trans h.n, k2.m.trans h.m, ?_, ?_, ?_, ?_, ?_⟩
  · rw [hQ]; exact h.wf.piv hB
  · rw [hQ]; exact h.e.trans (Eqv.piv hB.rm hp)
  · rw [hQ]; exact h.d.trans (Dif.eqv h.e (Dif.piv hB.rm hp))
  · rw [hQ]
    intro i hi hb
    obtain ⟨q1, q2⟩ := keep i hi hb
    show (if i = r then _ else _) = 0
    rw [if_neg q1, h.r i hi q2, h.z i hi q2 j hB.jw]
    grind
  · rw [hQ]
    intro i hi hb c hc
    obtain ⟨q1, q2⟩ := keep i hi hb
    show (if i = r then _ else _) = 0
    rw [if_neg q1, h.z i hi q2 c hc, h.z i hi q2 j hB.jw]
    grind
theorem In3.halts {t : Tab} (h : In3 l t) : Halts t := by
  obtain ⟨L, hS⟩ := h.s
  exact Go.Proofs.YtfoipbjhaiimlaaDoor.halts hS h.v h.c (by rw [h.m, h.w]; exact h.wf)
theorem haltsL (h : Ok l) : HaltsL l := ⟨haltsF h, fun ho hb hn => (s1_in h (first_in h ho hb) (by simpa using hn)).halts⟩
/-- Solve answers for each program. -/
theorem pre_solve (h : SmallL l) : PreSolve l := ⟨h, fun hc => haltsL (ok_of hc)⟩
theorem phase2_end (h : Ok l) {t : Tab} (ht : In2 l l.A.length t) (ho : (secondF t l.C).2.over = false) : In3 l (secondF t l.C).2 ∧ stepF (secondF t l.C).2 = .inl (secondF t l.C) := by
  have h1 : (s1T t l.C).over = false := by
    cases hh : (s1T t l.C).over with
    | false => rfl
    | true =>
      unfold secondF at ho
      rw [if_pos hh] at ho
      exact absurd ho (by rw [show (true, s1T t l.C).2 = s1T t l.C from rfl, hh]; decide)
  have hin := s1_in h ht h1
  have e : secondF t l.C = phaseF (s1T t l.C) := if_neg (by rw [h1]; decide)
  rw [e] at ho ⊢
  obtain ⟨r, n, hr⟩ := hin.halts
  rw [phaseF_eq hr] at ho ⊢
  exact runF_ind (P := In3 l) (fun t u ht hs ho => ht.step hs ho) hr hin ho
/-! ### The first system, in words of the program -/
theorem Sm_split (f : Nat → Rat) (n : Nat) : ∀ m, Sm (n + m) f = Sm n f + Sm m (fun i => f (n + i))
  | 0 => by rw [Nat.add_zero]; unfold Sm; grind
  | m + 1 => by
    show Sm (n + m) f + f (n + m) = _ + (Sm m _ + _)
    rw [Sm_split f n m]
    grind
theorem val_T0 (h : Ok l) {i : Nat} (hi : i < l.A.length) (z : Nat → Rat) : val (l.C.length + l.A.length) ((Q (begF l)).T i) z = sg l i * (Sm l.C.length (fun k => aQ l i k * z k) - z (l.C.length + i) - bQ l i) := by
  unfold val
  rw [Sm_split, Sm_congr (n := l.C.length) (g := fun k => sg l i * (aQ l i k * z k)) (fun k hk => by
    rw [beg_T h hi (by omega)]
    unfold T0
    rw [if_pos hk]
    grind), Sm_mul, Sm_pick (f := fun x => (Q (begF l)).T i (l.C.length + x) * z (l.C.length + x)) hi (fun x hx hxi => by
    show (Q (begF l)).T i (l.C.length + x) * z (l.C.length + x) = 0
    rw [beg_T h hi (by omega)]
    unfold T0
    rw [if_neg (by omega), if_neg (by omega), if_neg (by omega)]
    grind), beg_T h hi (by omega), beg_T h hi (by omega)]
  unfold T0
  rw [if_neg (by omega), if_pos rfl, if_neg (by omega), if_neg (by omega), if_pos rfl]
  grind
theorem sg_ne (l : Lin) (i : Nat) : sg l i ≠ 0 := by unfold sg; split <;> decide
theorem sg_sq (l : Lin) (i : Nat) : sg l i * sg l i = 1 := by unfold sg; split <;> grind
structure FeasQ (l : Lin) (x : Nat → Rat) : Prop where
  nn : ∀ k, k < l.C.length → 0 ≤ x k
  row : ∀ i, i < l.A.length → bQ l i ≤ Sm l.C.length (fun k => aQ l i k * x k)
theorem sol_of (h : Ok l) {x : Nat → Rat} (hx : FeasQ l x) : ∃ z : Nat → Rat, (∀ k, k < l.C.length → z k = x k) ∧ (∀ k, k < l.C.length + l.A.length → 0 ≤ z k) ∧ Sol l.A.length (l.C.length + l.A.length) (Q (begF l)).T z := by
  obtain ⟨z, hz⟩ : ∃ z : Nat → Rat, z = fun k => if k < l.C.length then x k else Sm l.C.length (fun j => aQ l (k - l.C.length) j * x j) - bQ l (k - l.C.length) := ⟨_, rfl⟩
  have h1 : ∀ k, k < l.C.length → z k = x k := fun k hk => by rw [hz]; exact if_pos hk
  have h2 : ∀ i, z (l.C.length + i) = Sm l.C.length (fun j => aQ l i j * x j) - bQ l i := fun i => by
    rw [hz]
    show (if l.C.length + i < l.C.length then _ else _) = _
    rw [if_neg (by omega), show l.C.length + i - l.C.length = i by omega]
  refine ⟨z, h1, fun k hk => ?_, fun i hi => ?_⟩
  · by_cases hkn : k < l.C.length
    · rw [h1 k hkn]; exact hx.nn k hkn
    · have := hx.row (k - l.C.length) (by omega)
      rw [show k = l.C.length + (k - l.C.length) by omega, h2]
      grind
  · rw [val_T0 h hi, h2, Sm_congr (n := l.C.length) (g := fun k => aQ l i k * x k) (fun k hk => by rw [h1 k hk])]
    grind
theorem feas_of (h : Ok l) {z : Nat → Rat} (hz : ∀ k, k < l.C.length + l.A.length → 0 ≤ z k) (hs : Sol l.A.length (l.C.length + l.A.length) (Q (begF l)).T z) : FeasQ l z := by
  refine ⟨fun k hk => hz k (by omega), fun i hi => ?_⟩
  have h1 := hs i hi
  rw [val_T0 h hi] at h1
  have h2 := (Rat.mul_eq_zero.1 h1).resolve_left (sg_ne l i)
  have h3 := hz (l.C.length + i) (by omega)
  grind
theorem val_cE (z : Nat → Rat) : val (l.C.length + l.A.length) (cE l) z = Sm l.C.length (fun k => cQ l k * z k) := by
  unfold val
  rw [Sm_split, Sm_congr (n := l.C.length) (g := fun k => cQ l k * z k) (fun k hk => by unfold cE; rw [if_pos hk]), Sm_congr (n := l.A.length) (g := fun _ => 0) (fun k hk => by unfold cE; rw [if_neg (by omega)]; grind), Sm_zero]
  unfold cE
  rw [if_neg (by omega)]
  grind
/-- A certificate: nonnegative multipliers of the rows. -/
structure Cert (l : Lin) (y : Nat → Rat) (v : Rat) : Prop where
  nn : ∀ i, i < l.A.length → 0 ≤ y i
  col : ∀ k, k < l.C.length → Sm l.A.length (fun i => y i * aQ l i k) ≤ cQ l k
  val : Sm l.A.length (fun i => y i * bQ l i) = v
theorem cert_of (h : Ok l) {c : Nat → Rat} (hd : Dif l.A.length (Q (begF l)).T (cE l) c) (hc : ∀ k, k < l.C.length + l.A.length → 0 ≤ c k) : ∃ y, Cert l y (- c (l.C.length + l.A.length)) := by
  obtain ⟨L, _, hL⟩ := Sp.coef (m := l.A.length) (N := Lt l.A.length) (fun _ h => h) hd
  -- c k = cE k + sum of L i * T0 i k
  have hk : ∀ k, c k = cE l k + Sm l.A.length (fun i => L i * (Q (begF l)).T i k) := fun k => by have := hL k; grind
  refine ⟨fun i => - (L i * sg l i), fun i hi => ?_, fun k hkn => ?_, ?_⟩
  · have h1 := hk (l.C.length + i)
    rw [Sm_pick (f := fun x => L x * (Q (begF l)).T x (l.C.length + i)) hi (fun x hx hxi => by
      show L x * (Q (begF l)).T x (l.C.length + i) = 0
      rw [beg_T h hx (by omega)]
      unfold T0
      rw [if_neg (by omega), if_neg (by omega), if_neg (by omega)]
      grind), beg_T h hi (by omega)] at h1
    unfold T0 cE at h1
    rw [if_neg (by omega), if_neg (by omega), if_pos rfl] at h1
    have h2 := hc (l.C.length + i) (by omega)
    grind
  · have h1 := hk k
    have h2 := hc k (by omega)
    rw [Sm_congr (g := fun i => (-1) * ((- (L i * sg l i)) * aQ l i k)) (fun i hi => by
      rw [beg_T h hi (by omega)]
      unfold T0
      rw [if_pos hkn]
      grind), Sm_mul] at h1
    unfold cE at h1
    rw [if_pos hkn] at h1
    grind
  · have h1 := hk (l.C.length + l.A.length)
    rw [Sm_congr (g := fun i => (-1) * ((- (L i * sg l i)) * bQ l i)) (fun i hi => by
      rw [beg_T h hi (by omega)]
      unfold T0
      rw [if_neg (by omega), if_neg (by omega), if_pos rfl]
      grind), Sm_mul] at h1
    unfold cE at h1
    rw [if_neg (by omega)] at h1
    grind
theorem Sm_swap (f : Nat → Nat → Rat) (n : Nat) : ∀ m, Sm m (fun i => Sm n (fun k => f i k)) = Sm n (fun k => Sm m (fun i => f i k))
  | 0 => by
    show 0 = Sm n (fun _ => 0)
    rw [Sm_zero]
  | m + 1 => by
    show Sm m (fun i => Sm n (fun k => f i k)) + Sm n (fun k => f m k) = Sm n (fun k => Sm m (fun i => f i k) + f m k)
    rw [Sm_add, Sm_swap f n m]
theorem Sm_le {f g : Nat → Rat} : ∀ {n : Nat}, (∀ i, i < n → f i ≤ g i) → Sm n f ≤ Sm n g
  | 0, _ => by unfold Sm; exact Rat.le_refl
  | n + 1, h => by
    have h1 := Sm_le (n := n) (f := f) (g := g) (fun i hi => h i (by omega))
    have h2 := h n (by omega)
    unfold Sm
    grind
/-- No feasible point has a smaller value than a certificate. -/
theorem Cert.le {y x : Nat → Rat} {v : Rat} (hy : Cert l y v) (hx : FeasQ l x) : v ≤ Sm l.C.length (fun k => cQ l k * x k) := by
  have h1 : v ≤ Sm l.A.length (fun i => Sm l.C.length (fun k => y i * (aQ l i k * x k))) := by
    rw [← hy.val]
    refine Sm_le fun i hi => ?_
    rw [Sm_mul]
    exact Rat.mul_le_mul_of_nonneg_left (hx.row i hi) (hy.nn i hi)
  rw [Sm_swap (fun i k => y i * (aQ l i k * x k))] at h1
  refine Rat.le_trans h1 (Sm_le fun k hk => ?_)
  rw [Sm_congr (g := fun i => x k * (y i * aQ l i k)) (fun i _ => by grind), Sm_mul, Rat.mul_comm (x k)]
  exact Rat.mul_le_mul_of_nonneg_right (hy.col k hk) (hx.nn k hk)
end
end Go.Proofs.YtfoipbjhaiimlaaDoor


/-
  layer 30: Solve's answers over the rational numbers.
-/
namespace Go.Proofs.YtfoipbjhaiimlaaDoor
open Go.RowKit
set_option linter.unusedSimpArgs false
set_option linter.unusedVariables false

section
variable {l : Lin}
def XQ (x : List Fr) (k : Nat) : Rat := V (ix x k)
theorem xK_V {t : Tab} (h : In3 l t) : ∀ {k : Nat}, k ≤ l.A.length → (∀ c, c < l.C.length → ValidF (ix (xK t k) c) ∧ V (ix (xK t k) c) = Sm k (fun i => if (Q t).b i = c then (Q t).T i (l.C.length + l.A.length) else 0))
  | 0, _, c, hc => by
    have e : xK t 0 = List.replicate t.n F01 := rfl
    rw [e, ix_rep (by rw [h.n]; exact hc)]
    exact ⟨valid_01, by rw [V_01]; rfl⟩
  | k + 1, hk, c, hc => by
    obtain ⟨L, hS⟩ := h.s
    have hb := bas_nn hS k
    obtain ⟨i1, i2⟩ := xK_V h (k := k) (by omega) c hc
    have hbk : (Q t).b k = (ix t.basis k).toNat := rfl
    unfold xK
    show _ ∧ _ = Sm k _ + if (Q t).b k = c then (Q t).T k (l.C.length + l.A.length) else 0
    by_cases hlt : ix t.basis k < t.n
    · rw [if_pos hlt, ix_set (by rw [xK_len]; omega)]
      by_cases hcb : c = (ix t.basis k).toNat
      · rw [if_pos hcb, if_pos (by rw [hbk, hcb])]
        refine ⟨h.v.rows k t.w (by rw [h.m]; omega) (by omega), ?_⟩
        have z : Sm k (fun i => if (Q t).b i = c then (Q t).T i (l.C.length + l.A.length) else 0) = 0 := by
          rw [Sm_congr (g := fun _ => 0) (fun i hi => ?_), Sm_zero]
          rw [if_neg]
          intro e
          have := h.wf.inj (i := i) (i' := k) (by omega) (by omega) (by rw [e]; omega) (by rw [e, hbk, hcb])
          omega
        rw [z, h.w]
        show V _ = 0 + V _
        grind
      · rw [if_neg hcb, if_neg (fun e => hcb (by rw [← e, hbk]))]
        exact ⟨i1, by rw [i2]; grind⟩
    · rw [if_neg hlt, if_neg (fun e => by rw [hbk] at e; rw [h.n] at hlt; omega)]
      exact ⟨i1, by rw [i2]; grind⟩
theorem xF_V {t : Tab} (h : In3 l t) {c : Nat} (hc : c < l.C.length) : ValidF (ix (xF t) c) ∧ XQ (xF t) c = bp l.A.length (l.C.length + l.A.length) (Q t) c := by
  have := xK_V h (Nat.le_refl _) c hc
  unfold xF XQ bp
  rw [h.m]
  exact this
theorem step_inl {t : Tab} {b : Bool} (h : stepF t = .inl (b, t)) (ho : t.over = false) : (b = true ∧ enterF t = none) ∨ (b = false ∧ ∃ j, enterF t = some j ∧ (leavF t j).2 = false ∧ (leavF t j).1 < 0) := by
  unfold stepF at h
  rw [if_neg (by rw [ho]; decide)] at h
  cases he : enterF t with
  | none =>
    rw [he] at h
    injection h with h; injection h with h
    exact .inl ⟨h.symm, rfl⟩
  | some j =>
    rw [he] at h
    simp only at h
    split at h
    · injection h with h; injection h with h1 h2
      rw [← h2] at ho
      simp [orT] at ho
    · rename_i h1
      split at h
      · rename_i h2
        injection h with h; injection h with h3 h4
        exact .inr ⟨h3.symm, j, rfl, by simpa using h1, h2⟩
      · cases h
/-- What Solve's answer says. -/
structure Solved (l : Lin) (x : List Fr) (v : Fr) : Prop where
  len : x.length = l.C.length
  valid : ∀ k, k < l.C.length → ValidF (ix x k)
  vv : ValidF v
  feas : FeasQ l (XQ x)
  val : Sm l.C.length (fun k => cQ l k * XQ x k) = V v
  cert : ∃ y, Cert l y (V v)
structure Ray (l : Lin) (d : Nat → Rat) : Prop where
  nn : ∀ k, k < l.C.length → 0 ≤ d k
  row : ∀ i, i < l.A.length → 0 ≤ Sm l.C.length (fun k => aQ l i k * d k)
  neg : Sm l.C.length (fun k => cQ l k * d k) < 0
inductive Answer (l : Lin) : List Fr × Fr × Int → Prop
  | ok {x : List Fr} {v : Fr} : Solved l x v → Answer l (x, v, 0)
  | none : (¬ ∃ x, FeasQ l x) → Answer l ([], F00, 23)
  | free : (∃ x, FeasQ l x) → (∃ d, Ray l d) → Answer l ([], F00, 19)
  | great : Answer l ([], F00, 24)
theorem In3.sol {t : Tab} (h : In3 l t) : Sol l.A.length (l.C.length + l.A.length) (Q (begF l)).T (bp l.A.length (l.C.length + l.A.length) (Q t)) :=
  Sol.eqv' h.e (bp_sol h.wf h.r)
theorem Sm_congr_le {f g : Nat → Rat} {n : Nat} (h : ∀ i, i < n → f i = g i) : Sm n f = Sm n g := Sm_congr h
theorem end_ok (h : Ok l) {t : Tab} (ht : In3 l t) (he : enterF t = none) : Solved l (xF t) (negF (ix t.cost t.w)) := by
  have hcv : ∀ k, k < t.w + 1 → ValidF (ix t.cost k) := fun k hk => cost_valid ht.v ht.c hk
  have hw := ht.w
  have hx : ∀ k, k < l.C.length → XQ (xF t) k = bp l.A.length (l.C.length + l.A.length) (Q t) k := fun k hk => (xF_V ht hk).2
  have hfeas := feas_of h (fun k _ => bp_nonneg ht.wf k) ht.sol
  have hV : V (negF (ix t.cost t.w)) = - (Q t).c (l.C.length + l.A.length) := by
    rw [neg_val (hcv _ (by omega)), hw]
    rfl
  have hc0 : ∀ k, k < l.C.length + l.A.length → 0 ≤ (Q t).c k := fun k hk => by
    have h1 := entK_none (t := t) (k := t.w) he k (by omega)
    rw [V_neg_iff (hcv k (by omega))] at h1
    show 0 ≤ V (ix t.cost k)
    grind
  refine ⟨?_, fun k hk => (xF_V ht hk).1, valid_neg (hcv _ (by omega)), ⟨fun k hk => ?_, fun i hi => ?_⟩, ?_, ?_⟩
  · show (xK t t.m).length = _
    rw [xK_len, ht.n]
  · rw [hx k hk]; exact hfeas.nn k hk
  · rw [Sm_congr (g := fun k => aQ l i k * bp l.A.length (l.C.length + l.A.length) (Q t) k) (fun k hk => by rw [hx k hk])]
    exact hfeas.row i hi
  · rw [hV, Sm_congr (g := fun k => cQ l k * bp l.A.length (l.C.length + l.A.length) (Q t) k) (fun k hk => by rw [hx k hk]), ← val_cE, ← ht.d.same ht.sol]
    exact bp_cost ht.wf
  · rw [hV]
    exact cert_of h ht.d hc0
theorem end_free (h : Ok l) {t : Tab} (ht : In3 l t) {j : Nat} (he : enterF t = some j) (h1 : (leavF t j).2 = false) (h2 : (leavF t j).1 < 0) : (∃ x, FeasQ l x) ∧ ∃ d, Ray l d := by
  have hw := ht.w
  obtain ⟨L, hS⟩ := ht.s
  have hcv : ∀ k, k < t.w + 1 → ValidF (ix t.cost k) := fun k hk => cost_valid ht.v ht.c hk
  have hj := entK_lt he
  obtain ⟨e1, e2⟩ := entK_some he
  have hcj : (Q t).c j < 0 := (V_neg_iff (hcv j (by omega))).1 e1
  have hneg : ∀ i, i < l.A.length → (Q t).T i j ≤ 0 := fun i hi => by
    rcases leav_best h1 with ⟨_, h3⟩ | ⟨r, low, h3, _⟩
    · have h4 := h3 i (by rw [ht.m]; exact hi)
      rw [V_pos_iff (ht.v.rows i j (by rw [ht.m]; exact hi) (by omega))] at h4
      show V _ ≤ 0
      grind
    · omega
  have hj' : j < l.C.length + l.A.length := by omega
  refine ⟨⟨_, feas_of h (fun k _ => bp_nonneg ht.wf k) ht.sol⟩, ray l.A.length (l.C.length + l.A.length) (Q t) j, ?_⟩
  have hnn := ray_nonneg (m := l.A.length) ht.wf hj' hneg hcj
  have hsol := ray_sol ht.wf hj' (fun i hi hb => ht.z i hi hb j hj')
  have hray := ray_cost ht.wf hj'
  generalize ray l.A.length (l.C.length + l.A.length) (Q t) j = d at *
  -- homogeneous: the same with the right sides struck
  obtain ⟨W, hW⟩ : ∃ W, W = l.C.length + l.A.length := ⟨_, rfl⟩
  have hom : ∀ f : Nat → Rat, Sp (Q t).T (Lt l.A.length) f → Sm W (fun k => f k * d k) = 0 := fun f hf => by
    induction hf with
    | zero => rw [Sm_congr (g := fun _ => 0) (fun k _ => by grind), Sm_zero]
    | @add f i a hi _ ih =>
      have e : Sm W (fun k => (f k + a * (Q t).T i k) * d k) = Sm W (fun k => f k * d k) + Sm W (fun k => a * ((Q t).T i k * d k)) := by
        rw [← Sm_add]
        exact Sm_congr (fun k _ => by grind)
      rw [e, ih, Sm_mul, hW, hsol i hi]
      grind
  have h0 : ∀ i, i < l.A.length → Sm W (fun k => (Q (begF l)).T i k * d k) = 0 := fun i hi => hom _ (ht.e.back i hi)
  have hc : Sm W (fun k => cE l k * d k) < 0 := by
    have h3 := hom _ (Sp.trans (N := Lt l.A.length) ht.e.back ht.d)
    have e : Sm W (fun k => ((Q t).c k - cE l k) * d k) = Sm W (fun k => (Q t).c k * d k) + Sm W (fun k => (-1) * (cE l k * d k)) := by
      rw [← Sm_add]
      exact Sm_congr (fun k _ => by grind)
    rw [e, Sm_mul] at h3
    have h4 : Sm W (fun k => (Q t).c k * d k) = (Q t).c j := by rw [hW]; exact hray
    rw [h4] at h3
    grind
  subst hW
  refine ⟨fun k hk => hnn k, fun i hi => ?_, ?_⟩
  · have h3 := h0 i hi
    rw [Sm_split, Sm_congr (n := l.C.length) (g := fun k => sg l i * (aQ l i k * d k)) (fun k hk => by
      rw [beg_T h hi (by omega)]
      unfold T0
      rw [if_pos hk]
      grind), Sm_mul, Sm_pick (f := fun x => (Q (begF l)).T i (l.C.length + x) * d (l.C.length + x)) hi (fun x hx hxi => by
      show (Q (begF l)).T i (l.C.length + x) * d (l.C.length + x) = 0
      rw [beg_T h hi (by omega)]
      unfold T0
      rw [if_neg (by omega), if_neg (by omega), if_neg (by omega)]
      grind), beg_T h hi (by omega)] at h3
    unfold T0 at h3
    rw [if_neg (by omega), if_pos rfl] at h3
    have h4 : sg l i * (Sm l.C.length (fun k => aQ l i k * d k) - d (l.C.length + i)) = 0 := by grind
    have h5 := (Rat.mul_eq_zero.1 h4).resolve_left (sg_ne l i)
    have h6 := hnn (l.C.length + i)
    grind
  · rw [Sm_split, Sm_congr (n := l.C.length) (g := fun k => cQ l k * d k) (fun k hk => by unfold cE; rw [if_pos hk]), Sm_congr (n := l.A.length) (g := fun _ => 0) (fun k hk => by unfold cE; rw [if_neg (by omega)]; grind), Sm_zero] at hc
    grind
theorem no_feas (h : Ok l) (ho1 : (f1T (begF l)).over = false) (ho : (phaseF (f1T (begF l))).2.over = false) (hb : ¬ anyK (begF l).m (artP (begF l)) = false) (hn : (ix (phaseF (f1T (begF l))).2.cost (begF l).w).N < 0) : ¬ ∃ x, FeasQ l x := by
  rintro ⟨x, hx⟩
  obtain ⟨z, hz1, hz2, hz3⟩ := sol_of h hx
  have hi := phase1_end h ho1 ho
  obtain ⟨r, n, hr⟩ := (f1_in h ho1).halts
  rw [phaseF_eq hr] at ho hn hi
  have hst := (runF_ind (P := In1 l) (fun t u ht hs ho => ht.step hs ho) hr (f1_in h ho1) ho).2
  obtain ⟨b, t⟩ := r
  simp only at hst hi ho hn
  have hw := hi.w
  have hcv : ∀ k, k < t.w + 1 → ValidF (ix t.cost k) := fun k hk => cost_valid hi.v hi.c hk
  have hcw : (Q t).c (l.C.length + l.A.length) < 0 := by
    rw [beg_w, ← hw, V_neg_iff (hcv _ (by omega))] at hn
    rw [← hw]
    exact hn
  have hs := Sol.eqv hi.e hz3
  -- the costs are a sum of rows
  have hval : Go.Proofs.YtfoipbjhaiimlaaDoor.val (l.C.length + l.A.length) (Q t).c z = 0 := by
    refine val_sp (N := Lt l.A.length) hs (T := (Q t).T) ?_
    have gen : ∀ n, n ≤ l.A.length → Sp (Q t).T (Lt l.A.length) (fun k => - Sm n (fun i => if l.C.length + l.A.length ≤ (Q t).b i then (Q t).T i k else 0)) := by
      intro n
      induction n with
      | zero => exact fun _ => Sp.zero.eq (fun k => by unfold Sm; grind)
      | succ n ih =>
        intro hn
        refine ((ih (by omega)).add n (if l.C.length + l.A.length ≤ (Q t).b n then - 1 else 0) (show n < l.A.length by omega)).eq (fun k => ?_)
        show - (Sm n _ + if l.C.length + l.A.length ≤ (Q t).b n then (Q t).T n k else 0) = _
        split <;> grind
    exact (gen l.A.length (Nat.le_refl _)).eq (fun k => hi.p1 k)
  rcases step_inl hst ho with ⟨_, he⟩ | ⟨_, j, he, h1, h2⟩
  · have hc0 : ∀ k, k < l.C.length + l.A.length → 0 ≤ (Q t).c k := fun k hk => by
      have h1 := entK_none (t := t) (k := t.w) he k (by omega)
      rw [V_neg_iff (hcv k (by omega))] at h1
      show 0 ≤ V (ix t.cost k)
      grind
    have h3 : 0 ≤ Sm (l.C.length + l.A.length) (fun k => (Q t).c k * z k) := Sm_nonneg fun k hk => Rat.mul_nonneg (hc0 k hk) (hz2 k hk)
    unfold Go.Proofs.YtfoipbjhaiimlaaDoor.val at hval
    grind
  · -- a column with costs below zero has a positive element in a row with an artificial variable
    have hj := entK_lt he
    obtain ⟨e1, e2⟩ := entK_some he
    have hcj : (Q t).c j < 0 := (V_neg_iff (hcv j (by omega))).1 e1
    have h3 := hi.p1 j
    have h4 : 0 < artS l.A.length (l.C.length + l.A.length) (Q t) j := by grind
    obtain ⟨i, hil, hip⟩ := Sm_pos h4
    have hip : 0 < (if l.C.length + l.A.length ≤ (Q t).b i then (Q t).T i j else 0) := hip
    split at hip
    · rcases leav_best h1 with ⟨_, h5⟩ | ⟨r, low, h5, _⟩
      · have h6 := h5 i (by rw [hi.m]; exact hil)
        rw [V_pos_iff (hi.v.rows i j (by rw [hi.m]; exact hil) (by omega))] at h6
        exact h6 hip
      · omega
    · exact Rat.lt_irrefl hip
theorem solve_answer (hc : checkF l = 0) : Answer l (solveF l) := by
  have h := ok_of hc
  unfold solveF
  rw [if_neg (fun e => e hc)]
  by_cases h1 : (firstF (begF l)).2.over = true
  · rw [if_pos h1]; exact .great
  rw [if_neg h1]
  have h1 : (firstF (begF l)).2.over = false := by simpa using h1
  by_cases h2 : (firstF (begF l)).1 = false
  · rw [if_pos h2]
    refine .none ?_
    unfold firstF at h1 h2
    by_cases q1 : anyK (begF l).m (artP (begF l)) = false ∨ (f1T (begF l)).over = true
    · rw [if_pos q1] at h2; cases h2
    rw [if_neg q1] at h1 h2
    by_cases q2 : (phaseF (f1T (begF l))).2.over = true
    · rw [if_pos q2] at h2; cases h2
    rw [if_neg q2] at h1 h2
    by_cases q3 : (ix (phaseF (f1T (begF l))).2.cost (begF l).w).N < 0
    · exact no_feas h (by
        cases hh : (f1T (begF l)).over with
        | false => rfl
        | true => exact absurd (.inr hh) q1) (by simpa using q2) (fun e => q1 (.inl e)) q3
    · rw [if_neg q3] at h2; cases h2
  rw [if_neg h2]
  have h2 : (firstF (begF l)).1 = true := by simpa using h2
  have hin := first_in h h1 h2
  by_cases h3 : (secondF (firstF (begF l)).2 l.C).2.over = true
  · rw [if_pos h3]; exact .great
  rw [if_neg h3]
  have h3 : (secondF (firstF (begF l)).2 l.C).2.over = false := by simpa using h3
  obtain ⟨k1, k2⟩ := phase2_end h hin h3
  generalize secondF (firstF (begF l)).2 l.C = s at *
  obtain ⟨b, t⟩ := s
  simp only at *
  rcases step_inl k2 h3 with ⟨rfl, he⟩ | ⟨rfl, j, he, q1, q2⟩
  · rw [if_neg (by decide)]
    exact .ok (end_ok h k1 he)
  · rw [if_pos rfl]
    obtain ⟨f1, f2⟩ := end_free h k1 he q1 q2
    exact .free f1 f2
end
end Go.Proofs.YtfoipbjhaiimlaaDoor


/-
  layer 30: SimplexDuality.
-/
namespace Go.Proofs.YtfoipbjhaiimlaaDoor
open Go.RowKit
set_option linter.unusedSimpArgs false
set_option linter.unusedVariables false
set_option maxRecDepth 100000

section
variable {l : Lin}
structure DualQ (l : Lin) : Prop where
  n : (dualL l).C.length = l.A.length
  m : (dualL l).A.length = l.C.length
  a : ∀ j i, j < l.C.length → i < l.A.length → aQ (dualL l) j i = - aQ l i j
  b : ∀ j, j < l.C.length → bQ (dualL l) j = - cQ l j
  c : ∀ i, i < l.A.length → cQ (dualL l) i = - bQ l i
theorem dual_q (h : Ok l) : DualQ l := by
  have hB := h.g.b
  refine ⟨by show (l.B.map negF).length = _; rw [List.length_map, hB], by simp [dualL], fun j i hj hi => ?_, fun j hj => ?_, fun i hi => ?_⟩
  · show V (ix (ix ((List.range l.C.length).map fun j => l.A.map fun a => negF (ix a j)) j) i) = - V (ix (ix l.A i) j)
    rw [ix_range hj, ix_mapN hi, neg_val (h.a i j hi hj)]
  · show V (ix (l.C.map negF) j) = - V (ix l.C j)
    rw [ix_mapN hj, neg_val (h.c j hj)]
  · show V (ix (l.B.map negF) i) = - V (ix l.B i)
    rw [ix_mapN (by omega), neg_val (h.b i hi)]
theorem Sm_neg (f : Nat → Rat) (n : Nat) : Sm n (fun i => - f i) = - Sm n f := by
  rw [Sm_congr (g := fun i => (-1) * f i) (fun i _ => by grind), Sm_mul]
  grind
theorem cert_feas (h : Ok l) {y : Nat → Rat} {v : Rat} (hy : Cert l y v) : FeasQ (dualL l) y ∧ Sm (dualL l).C.length (fun i => cQ (dualL l) i * y i) = - v := by
  have d := dual_q h
  refine ⟨⟨fun k hk => hy.nn k (by rw [← d.n]; exact hk), fun j hj => ?_⟩, ?_⟩
  · rw [d.m] at hj
    rw [d.b j hj, d.n, Sm_congr (g := fun i => - (y i * aQ l i j)) (fun i hi => by rw [d.a j i hj hi]; grind), Sm_neg]
    have := hy.col j hj
    grind
  · rw [d.n, Sm_congr (g := fun i => - (y i * bQ l i)) (fun i hi => by rw [d.c i hi]; grind), Sm_neg, hy.val]
theorem feas_cert (h : Ok l) {y : Nat → Rat} (hy : FeasQ (dualL l) y) : Cert l y (- Sm (dualL l).C.length (fun i => cQ (dualL l) i * y i)) := by
  have d := dual_q h
  refine ⟨fun i hi => hy.nn i (by rw [d.n]; exact hi), fun k hk => ?_, ?_⟩
  · have := hy.row k (by rw [d.m]; exact hk)
    rw [d.b k hk, d.n, Sm_congr (g := fun i => - (y i * aQ l i k)) (fun i hi => by rw [d.a k i hk hi]; grind), Sm_neg] at this
    grind
  · rw [d.n, Sm_congr (n := l.A.length) (f := fun i => cQ (dualL l) i * y i) (g := fun i => - (y i * bQ l i)) (fun i hi => by show cQ (dualL l) i * y i = _; rw [d.c i hi]; grind), Sm_neg]
    grind
theorem ray_no (h : Ok l) {d : Nat → Rat} (hd : Ray (dualL l) d) {x : Nat → Rat} (hx : FeasQ l x) : False := by
  have D := dual_q h
  have h1 := hd.neg
  rw [D.n, Sm_congr (g := fun i => - (d i * bQ l i)) (fun i hi => by rw [D.c i hi]; grind), Sm_neg] at h1
  have h2 : Sm l.A.length (fun i => d i * bQ l i) ≤ Sm l.A.length (fun i => Sm l.C.length (fun k => d i * (aQ l i k * x k))) := Sm_le fun i hi => by
    rw [Sm_mul]
    exact Rat.mul_le_mul_of_nonneg_left (hx.row i hi) (hd.nn i (by rw [D.n]; exact hi))
  rw [Sm_swap (fun i k => d i * (aQ l i k * x k))] at h2
  have h3 : Sm l.C.length (fun k => Sm l.A.length (fun i => d i * (aQ l i k * x k))) ≤ Sm l.C.length (fun _ => 0) := Sm_le fun k hk => by
    have h4 := hd.row k (by rw [D.m]; exact hk)
    rw [D.n, Sm_congr (g := fun i => - (d i * aQ l i k)) (fun i hi => by rw [D.a k i hk hi]; grind), Sm_neg] at h4
    rw [Sm_congr (g := fun i => x k * (d i * aQ l i k)) (fun i _ => by grind), Sm_mul]
    have := Rat.mul_nonneg (hx.nn k hk) h4
    grind
  rw [Sm_zero] at h3
  grind
theorem solved_dual (h : Ok l) (hd : Ok (dualL l)) {x y : List Fr} {v w : Fr} (hx : Solved l x v) (hy : Solved (dualL l) y w) : v = negF w := by
  obtain ⟨y0, c0⟩ := hx.cert
  obtain ⟨z0, c1⟩ := hy.cert
  obtain ⟨f1, f2⟩ := cert_feas h c0
  have h1 := c1.le f1
  rw [f2] at h1
  have h2 := (feas_cert h hy.feas).le hx.feas
  rw [hy.val, hx.val] at h2
  refine V_inj hx.vv (valid_neg hy.vv) ?_
  rw [neg_val hy.vv]
  grind
theorem solved_other (h : Ok l) {x : List Fr} {v : Fr} (hx : Solved l x v) {r : List Fr × Fr × Int} (hr : Answer (dualL l) r) : r.2.2 = 0 ∨ r.2.2 = 24 := by
  cases hr with
  | ok _ => exact .inl rfl
  | great => exact .inr rfl
  | none hn =>
    obtain ⟨y0, c0⟩ := hx.cert
    exact absurd ⟨y0, (cert_feas h c0).1⟩ hn
  | free _ hd =>
    obtain ⟨d, hd⟩ := hd
    exact (ray_no h hd hx.feas).elim
structure DualAns (l : Lin) (p q : List Fr × Fr × Int) : Prop where
  both : p.2.2 = 0 → q.2.2 = 0 → p.2.1 = negF q.2.1
  one : p.2.2 = 0 → q.2.2 = 0 ∨ q.2.2 = 24
  two : q.2.2 = 0 → p.2.2 = 0 ∨ p.2.2 = 24
  no : ¬ (p.2.2 = 19 ∧ q.2.2 = 19)
theorem dual_ans (h1 : checkF l = 0) (h2 : checkF (dualL l) = 0) : DualAns l (solveF l) (solveF (dualL l)) := by
  have o1 := ok_of h1
  have o2 := ok_of h2
  have a1 := solve_answer h1
  have a2 := solve_answer h2
  generalize solveF l = p at *
  generalize solveF (dualL l) = q at *
  refine ⟨fun e1 e2 => ?_, fun e1 => ?_, fun e2 => ?_, fun ⟨e1, e2⟩ => ?_⟩
  · cases a1 with
    | ok s1 =>
      cases a2 with
      | ok s2 => exact solved_dual o1 o2 s1 s2
      | none _ => cases e2
      | free _ _ => cases e2
      | great => cases e2
    | none _ => cases e1
    | free _ _ => cases e1
    | great => cases e1
  · cases a1 with
    | ok s1 => exact solved_other o1 s1 a2
    | none _ => cases e1
    | free _ _ => cases e1
    | great => cases e1
  · cases a2 with
    | ok s2 => exact solved_other o2 s2 (by rw [dual_dual h1]; exact a1)
    | none _ => cases e2
    | free _ _ => cases e2
    | great => cases e2
  · cases a1 with
    | free f1 _ =>
      cases a2 with
      | free _ r2 =>
        obtain ⟨x, hx⟩ := f1
        obtain ⟨d, hd⟩ := r2
        exact ray_no o1 hd hx
      | ok _ => cases e2
      | none _ => cases e2
      | great => cases e2
    | ok _ => cases e1
    | none _ => cases e1
    | great => cases e1
end
noncomputable def CDu : Ctx := mkC Tryd.prog G0 [(45, .pure sSolve)]
@[simp] theorem CDu_P : CDu.P = Tryd.prog := rfl
@[simp] theorem CDu_G : CDu.G = G0 := rfl
@[simp] theorem CDu_1 : CDu.S 45 = .pure sSolve := rfl
theorem mixCDu : CDu.P.follows .mixedOrders = true := mixed
theorem sigCDu : SigOK CDu := sigOK_cons (entryPure (solveP) Tryd.func45 rfl (by decide)) (sigOK_nil _ _)
end Go.Proofs.YtfoipbjhaiimlaaDoor


/-
  layer 30: SimplexBest.
-/
namespace Go.Proofs.YtfoipbjhaiimlaaDoor
open Go.RowKit
set_option linter.unusedSimpArgs false
set_option linter.unusedVariables false
set_option maxRecDepth 100000

theorem Sm_head (f : Nat → Rat) : ∀ n, Sm (n + 1) f = f 0 + Sm n (fun i => f (i + 1))
  | 0 => by unfold Sm Sm; grind
  | n + 1 => by
    show Sm (n + 1) f + f (n + 1) = f 0 + (Sm n _ + f (n + 1))
    rw [Sm_head f n]
    grind
theorem dot_V : ∀ {a x : List Fr} {s r : Fr}, dotO s a x = some r → ValidF s → a.length ≤ x.length → ValidF r ∧ V r = V s + Sm a.length (fun k => V (ix a k) * V (ix x k))
  | [], x, s, r, h, hs, _ => by
    unfold dotO at h
    injection h with h
    rw [← h]
    exact ⟨hs, by show _ = _ + 0; grind⟩
  | a :: ar, [], s, r, h, hs, hl => by simp at hl
  | a :: ar, x :: xs, s, r, h, hs, hl => by
    unfold dotO at h
    cases h1 : mulO a x with
    | none => rw [h1] at h; cases h
    | some p =>
      rw [h1] at h
      simp only at h
      cases h2 : addO s p with
      | none => rw [h2] at h; cases h
      | some t =>
        rw [h2] at h
        obtain ⟨m1, m2, m3, m4⟩ := mulO_some h1
        obtain ⟨q1, q2, q3, q4⟩ := addO_some h2
        obtain ⟨i1, i2⟩ := dot_V h q3 (by simpa using hl)
        refine ⟨i1, ?_⟩
        rw [i2, q4, m4]
        show _ = _ + Sm (ar.length + 1) _
        rw [Sm_head]
        have e0 : V (ix (a :: ar) 0) * V (ix (x :: xs) 0) = V a * V x := rfl
        have e1 : (fun k => V (ix (a :: ar) (k + 1)) * V (ix (x :: xs) (k + 1))) = fun k => V (ix ar k) * V (ix xs k) := rfl
        rw [e0, e1]
        grind
theorem value_V {l : Lin} {x : List Fr} {u : Fr} (h : valueF l x = (u, true)) : x.length = l.C.length ∧ ValidF u ∧ V u = Sm l.C.length (fun k => cQ l k * XQ x k) := by
  unfold valueF at h
  split at h
  · rename_i hl
    cases h1 : dotO F01 l.C x with
    | none => rw [h1] at h; simp [ofO] at h
    | some r =>
      rw [h1] at h
      injection h with h
      obtain ⟨i1, i2⟩ := dot_V h1 valid_01 (by omega)
      rw [h] at i1 i2
      refine ⟨hl, i1, ?_⟩
      rw [i2, V_01]
      show _ = Sm _ (fun k => V (ix l.C k) * V (ix x k))
      grind
  · simp at h
theorem cmp_le {a b : Fr} (ha : ValidF a) (hb : ValidF b) (h : V a ≤ V b) : cmpF a b ≤ 0 := by
  have h1 := cross_lt hb ha
  have h2 := mt h1.1 (by grind)
  unfold cmpF fixF sgn
  rw [if_pos ha, if_pos hb]
  split
  · omega
  · split <;> omega
theorem cmp_ge {a b : Fr} (ha : ValidF a) (hb : ValidF b) (h : V b ≤ V a) : ¬ cmpF a b < 0 := by
  rw [cmp_lt ha hb]
  grind
theorem feasB_Q {l : Lin} {y : List Fr} (h : feasB l y = true) : checkF l = 0 ∧ FeasQ l (XQ y) := by
  unfold feasB at h
  obtain ⟨h1, h2, h3, h4⟩ := @of_decide_eq_true _ (Classical.propDecidable _) h
  have ok := ok_of h1
  refine ⟨h1, fun k hk => ?_, fun i hi => ?_⟩
  · obtain ⟨q1, q2⟩ := h3 _ (ix_mem (show k < y.length by omega))
    rw [V_neg_iff q1] at q2
    show 0 ≤ V (ix y k)
    grind
  · obtain ⟨s, e1, e2⟩ := h4 i hi
    have hr := ok.g.row _ (ix_mem hi)
    obtain ⟨i1, i2⟩ := dot_V e1 valid_01 (by omega)
    rw [cmp_lt i1 (ok.b i hi)] at e2
    rw [i2, V_01, hr] at e2
    show V (ix l.B i) ≤ Sm _ (fun k => V (ix (ix l.A i) k) * V (ix y k))
    grind
section
variable {l : Lin}
/-- What SimplexBest asks of a solution. -/
structure BestF (l : Lin) (x : List Fr) (v : Fr) : Prop where
  len : x.length = l.C.length
  u : ∀ u, valueF l x = (u, true) → u = v
  xs : ∀ j, j < x.length → ValidF (ix x j) ∧ 0 ≤ (ix x j).N
  r : ∀ i, i < l.A.length → ∀ s, valueF ⟨[], [], ix l.A i⟩ x = (s, true) → 0 ≤ cmpF s (ix l.B i)
  y : ∀ y w, valueF l y = (w, true) → feasB l y = true → cmpF v w ≤ 0
theorem best_of (hc : checkF l = 0) {x : List Fr} {v : Fr} (h : Solved l x v) : BestF l x v := by
  have ok := ok_of hc
  refine ⟨h.len, fun u hu => ?_, fun j hj => ?_, fun i hi s hs => ?_, fun y w hw hy => ?_⟩
  · obtain ⟨_, h2, h3⟩ := value_V hu
    exact V_inj h2 h.vv (by rw [h3, h.val])
  · have hv := h.valid j (by rw [← h.len]; exact hj)
    have hn := h.feas.nn j (by rw [← h.len]; exact hj)
    refine ⟨hv, ?_⟩
    have := mt (V_neg_iff hv).1 (by show ¬ V (ix x j) < 0; have hn : 0 ≤ V (ix x j) := hn; grind)
    omega
  · obtain ⟨h1, h2, h3⟩ := value_V hs
    have h4 := h.feas.row i hi
    have hr := ok.g.row _ (ix_mem hi)
    have e : V s = Sm l.C.length (fun k => aQ l i k * XQ x k) := by
      rw [h3]
      show Sm (ix l.A i).length _ = _
      rw [hr]
      rfl
    have := cmp_ge h2 (ok.b i hi) (by rw [e]; exact h4)
    omega
  · obtain ⟨h1, h2, h3⟩ := value_V hw
    obtain ⟨_, hf⟩ := feasB_Q hy
    obtain ⟨y0, c0⟩ := h.cert
    exact cmp_le h.vv h2 (by rw [h3]; exact c0.le hf)
theorem not_ok {r : List Fr × Fr × Int} (hr : solveF l = r) (h : r.2.2 ≠ 0) : r.1 = [] ∧ r.2.1 = F00 ∧ (r.2.2 = 23 → ∀ y, feasB l y = false) := by
  by_cases hc : checkF l = 0
  · have ha := solve_answer hc
    rw [hr] at ha
    cases ha with
    | ok _ => exact absurd rfl h
    | none hn =>
      refine ⟨rfl, rfl, fun _ y => ?_⟩
      cases hb : feasB l y with
      | false => rfl
      | true => exact absurd ⟨_, (feasB_Q hb).2⟩ hn
    | free _ _ => exact ⟨rfl, rfl, fun e => by cases e⟩
    | great => exact ⟨rfl, rfl, fun e => by cases e⟩
  · have e : solveF l = ([], F00, checkF l) := if_pos hc
    rw [← hr, e]
    refine ⟨rfl, rfl, fun e2 => ?_⟩
    exfalso
    simp only at e2
    unfold checkF at e2
    split at e2
    · cases e2
    · split at e2 <;> cases e2
theorem solved_of (hc : checkF l = 0) {x : List Fr} {v : Fr} (h : solveF l = (x, v, 0)) : Solved l x v := by
  have ha := solve_answer hc
  rw [h] at ha
  cases ha with
  | ok s => exact s
theorem check_of {x : List Fr} {v : Fr} (h : solveF l = (x, v, 0)) : checkF l = 0 := by
  apply Classical.byContradiction
  intro hc
  have e : solveF l = ([], F00, checkF l) := if_pos hc
  rw [e] at h
  injection h with _ h
  injection h with _ h
  exact hc h
end
end Go.Proofs.YtfoipbjhaiimlaaDoor


/-
  layer 30: SimplexBest, the law.
-/
namespace Go.Proofs.YtfoipbjhaiimlaaDoor
open Go.RowKit
set_option linter.unusedSimpArgs false
set_option linter.unusedVariables false
set_option maxRecDepth 100000

noncomputable def CBs : Ctx := mkC Tryd.prog G0 [(45, .pure sSolve), (29, .pure sValidF), (20, .pure sCmpF)]
@[simp] theorem CBs_P : CBs.P = Tryd.prog := rfl
@[simp] theorem CBs_G : CBs.G = G0 := rfl
@[simp] theorem CBs_1 : CBs.S 45 = .pure sSolve := rfl
@[simp] theorem CBs_2 : CBs.S 29 = .pure sValidF := rfl
@[simp] theorem CBs_3 : CBs.S 20 = .pure sCmpF := rfl
theorem mixCBs : CBs.P.follows .mixedOrders = true := mixed
theorem sigCBs : SigOK CBs := sigOK_cons (entryPure (solveP) Tryd.func45 rfl (by decide)) (sigOK_cons (entryPure (validR) Tryd.func29 rfl (by decide)) (sigOK_cons (entryPure (cmpR) Tryd.func20 rfl (by decide)) (sigOK_nil _ _)))
end Go.Proofs.YtfoipbjhaiimlaaDoor


/-
  nat: numbers and their limbs, plainly.
-/
namespace Go.Proofs.YtfoipbjhaiimlaaDoor.Nt
open Go.RowKit

set_option linter.unusedVariables false
def B9 : Nat := 1000000000
def val : List Int → Nat
  | [] => 0
  | x :: r => x.toNat + B9 * val r
def canon (n : Nat) : List Int := if h : n = 0 then [] else ((n % B9 : Nat) : Int) :: canon (n / B9)
termination_by n
decreasing_by exact Nat.div_lt_self (Nat.pos_of_ne_zero h) (show 1 < B9 by decide)

def validR (a : List Int) : Bool := decide (a.length ≤ 64 ∧ (∀ x ∈ a, 0 ≤ x ∧ x < 1000000000) ∧ (a ≠ [] → ix a (a.length - 1) ≠ 0))
def Good (l : List Int) : Prop := ∀ x ∈ l, 0 ≤ x ∧ x < 1000000000
def Norm (l : List Int) : Prop := l ≠ [] → ix l (l.length - 1) ≠ 0

theorem validR_iff {a : List Int} : validR a = true ↔ a.length ≤ 64 ∧ Good a ∧ Norm a := by simp only [validR, decide_eq_true_eq]; rfl
/-- The number as it is taken: none when it is not one. -/
def numL (a : List Int) : List Int := if validR a then a else []
theorem numL_len (a : List Int) : (numL a).length ≤ 64 := by
  unfold numL; split
  · rename_i h; exact (validR_iff.1 h).1
  · simp
theorem Good.tail {x : Int} {l : List Int} (h : Good (x :: l)) : Good l := fun y hy => h y (List.mem_cons_of_mem _ hy)
theorem Good.head {x : Int} {l : List Int} (h : Good (x :: l)) : 0 ≤ x ∧ x < 1000000000 := h x (by simp)
theorem good_nil : Good [] := fun x hx => by simp at hx
theorem good_cons {x : Int} {l : List Int} (h : 0 ≤ x ∧ x < 1000000000) (hl : Good l) : Good (x :: l) := fun y hy => by
  rcases List.mem_cons.1 hy with h' | h'
  · subst h'; exact h
  · exact hl y h'
theorem good_append {l m : List Int} (h : Good l) (h' : Good m) : Good (l ++ m) := fun y hy => by
  rcases List.mem_append.1 hy with h1 | h1
  · exact h y h1
  · exact h' y h1
theorem good_take {l : List Int} (n : Nat) (h : Good l) : Good (l.take n) := fun y hy => h y (List.mem_of_mem_take hy)

theorem canon_zero : canon 0 = [] := by rw [canon]; simp
theorem canon_pos {n : Nat} (h : n ≠ 0) : canon n = ((n % B9 : Nat) : Int) :: canon (n / B9) := by rw [canon]; simp [h]

theorem val_append : ∀ (l m : List Int), val (l ++ m) = val l + B9 ^ l.length * val m
  | [], m => by simp [val]
  | x :: r, m => by
    rw [List.cons_append, val, val, val_append r m, List.length_cons, Nat.pow_succ, Nat.mul_add, Nat.add_assoc]
    congr 2
    rw [Nat.mul_comm (B9 ^ r.length) B9, Nat.mul_assoc]

theorem val_lt : ∀ {l : List Int}, Good l → val l < B9 ^ l.length
  | [], _ => by simp [val]
  | x :: r, h => by
    have h1 := h.head
    have h2 := val_lt h.tail
    rw [val, List.length_cons, Nat.pow_succ]
    have h3 : B9 * val r + B9 ≤ B9 * B9 ^ r.length := by rw [← Nat.mul_succ]; exact Nat.mul_le_mul_left _ h2
    have h4 : x.toNat < B9 := by unfold B9; omega
    rw [Nat.mul_comm (B9 ^ r.length)]
    omega

theorem canon_good : ∀ (n : Nat), Good (canon n) := by
  intro n
  induction n using Nat.strongRecOn with
  | _ n ih =>
    by_cases h : n = 0
    · subst h; rw [canon_zero]; exact good_nil
    · rw [canon_pos h]
      refine good_cons ?_ (ih _ (Nat.div_lt_self (Nat.pos_of_ne_zero h) (show 1 < B9 by decide)))
      have : n % B9 < B9 := Nat.mod_lt _ (by decide)
      unfold B9 at this ⊢
      omega

theorem val_canon (n : Nat) : val (canon n) = n := by
  induction n using Nat.strongRecOn with
  | _ n ih =>
    by_cases h : n = 0
    · subst h; rw [canon_zero]; rfl
    · rw [canon_pos h, val, ih _ (Nat.div_lt_self (Nat.pos_of_ne_zero h) (show 1 < B9 by decide))]
      have := Nat.mod_add_div n B9
      omega

theorem norm_tail {x y : Int} {r : List Int} (h : Norm (x :: y :: r)) : Norm (y :: r) := fun _ => by
  have := h (by simp)
  simpa [ix] using this

theorem val_pos : ∀ {l : List Int}, Good l → Norm l → l ≠ [] → val l ≠ 0
  | [x], hg, hn, _ => by
    have := hg.head
    have h := hn (by simp)
    simp [ix] at h
    simp [val]
    omega
  | x :: y :: r, hg, hn, _ => by
    have := val_pos hg.tail (norm_tail hn) (by simp)
    rw [val]
    have : B9 * val (y :: r) ≠ 0 := Nat.mul_ne_zero (by decide) this
    omega

theorem canon_val : ∀ {l : List Int}, Good l → Norm l → canon (val l) = l
  | [], _, _ => canon_zero
  | x :: r, hg, hn => by
    have h1 := hg.head
    have h4 : x.toNat < B9 := by unfold B9; omega
    rw [canon_pos (val_pos hg hn (by simp)), val]
    have h5 : (x.toNat + B9 * val r) % B9 = x.toNat := by rw [Nat.add_mul_mod_self_left, Nat.mod_eq_of_lt h4]
    have h6 : (x.toNat + B9 * val r) / B9 = val r := by rw [Nat.add_mul_div_left _ _ (by decide), Nat.div_eq_of_lt h4, Nat.zero_add]
    rw [h5, h6]
    have h7 : canon (val r) = r := by
      cases r with
      | nil => exact canon_zero
      | cons y r => exact canon_val hg.tail (norm_tail hn)
    rw [h7]
    congr 1
    omega

theorem numL_good (a : List Int) : Good (numL a) := by
  unfold numL; split
  · rename_i h; exact (validR_iff.1 h).2.1
  · exact good_nil
theorem numL_norm (a : List Int) : Norm (numL a) := by
  unfold numL; split
  · rename_i h; exact (validR_iff.1 h).2.2
  · exact fun h => absurd rfl h
def nv (a : List Int) : Nat := val (numL a)
theorem canon_nv (a : List Int) : canon (nv a) = numL a := canon_val (numL_good a) (numL_norm a)

theorem canon_norm (n : Nat) : Norm (canon n) := by
  induction n using Nat.strongRecOn with
  | _ n ih =>
    by_cases h : n = 0
    · subst h; rw [canon_zero]; exact fun h => absurd rfl h
    · rw [canon_pos h]
      intro _
      have hi := ih _ (Nat.div_lt_self (Nat.pos_of_ne_zero h) (show 1 < B9 by decide))
      by_cases h' : n / B9 = 0
      · rw [h', canon_zero]
        have : n < B9 := by
          rcases Nat.lt_or_ge n B9 with h | h
          · exact h
          · have := Nat.div_pos h (show 0 < B9 by decide); omega
        simp [ix, Nat.mod_eq_of_lt this, h]
      · rw [canon_pos h'] at hi ⊢
        have := hi (by simp)
        simpa [ix] using this

theorem canon_len : ∀ (k n : Nat), n < B9 ^ k → (canon n).length ≤ k
  | 0, n, h => by
    have : n = 0 := by simpa using h
    subst this; rw [canon_zero]; simp
  | k + 1, n, h => by
    by_cases h0 : n = 0
    · subst h0; rw [canon_zero]; simp
    · rw [canon_pos h0, List.length_cons]
      have := canon_len k (n / B9) (Nat.div_lt_of_lt_mul (by rw [Nat.mul_comm]; rwa [Nat.pow_succ] at h))
      omega

theorem ix_set {l : List Int} {i j : Nat} {v : Int} (h : i < l.length) : ix (l.set i v) j = if i = j then v else ix l j := by
  unfold ix
  rw [List.getD_eq_getElem?_getD, List.getD_eq_getElem?_getD, List.getElem?_set]
  split
  · first | rfl | (rw [if_pos h]; rfl)
  · rfl

theorem val_take_succ {l : List Int} {i : Nat} (h : i < l.length) : val (l.take (i + 1)) = val (l.take i) + B9 ^ i * (ix l i).toNat := by
  rw [List.take_add_one, val_append, List.getElem?_eq_getElem h, ix_lt h]
  simp [val, Nat.min_eq_left (Nat.le_of_lt h)]

theorem val_take_le {l : List Int} {i : Nat} (h : l.length ≤ i) : val (l.take i) = val l := by rw [List.take_of_length_le h]

theorem val_set : ∀ {l : List Int} {k : Nat} {v : Int}, k < l.length → val (l.set k v) + B9 ^ k * (ix l k).toNat = val l + B9 ^ k * v.toNat
  | x :: r, 0, v, _ => by simp [val, ix]; omega
  | x :: r, k + 1, v, h => by
    have := val_set (l := r) (k := k) (v := v) (by simpa using h)
    have e : ix (x :: r) (k + 1) = ix r k := by simp [ix]
    rw [e, List.set_cons_succ, val, val, Nat.pow_succ, Nat.mul_comm (B9 ^ k) B9, Nat.mul_assoc, Nat.mul_assoc]
    have h2 : B9 * (val (r.set k v) + B9 ^ k * (ix r k).toNat) = B9 * (val r + B9 ^ k * v.toNat) := by rw [this]
    rw [Nat.mul_add, Nat.mul_add] at h2
    omega

theorem ix_good {l : List Int} (h : Good l) {i : Nat} (hi : i < l.length) : 0 ≤ ix l i ∧ ix l i < 1000000000 := h _ (ix_mem hi)
theorem ix_out {l : List Int} {i : Nat} (hi : l.length ≤ i) : ix l i = 0 := by unfold ix; rw [List.getD_eq_getElem?_getD, List.getElem?_eq_none hi]; rfl
theorem good_set {l : List Int} {i : Nat} {v : Int} (h : Good l) (hv : 0 ≤ v ∧ v < 1000000000) : Good (l.set i v) := fun x hx => by
  rcases List.mem_or_eq_of_mem_set hx with h' | h'
  · exact h x h'
  · subst h'; exact hv

/-- The top limb weighs what it weighs. -/
theorem val_top {l : List Int} (hg : Good l) (hn : Norm l) (h : l ≠ []) : B9 ^ (l.length - 1) ≤ val l := by
  have h0 : 0 < l.length := List.length_pos_iff.2 h
  have h1 := val_take_succ (l := l) (i := l.length - 1) (by omega)
  rw [Nat.sub_add_cancel h0, List.take_length] at h1
  have h2 := hn h
  have h3 := ix_good hg (i := l.length - 1) (by omega)
  have h4 : 1 ≤ (ix l (l.length - 1)).toNat := by omega
  have h5 := Nat.mul_le_mul_left (B9 ^ (l.length - 1)) h4
  omega
theorem norm_of_val {l : List Int} (hg : Good l) (h : l ≠ [] → B9 ^ (l.length - 1) ≤ val l) : Norm l := fun hne hz => by
  have h0 : 0 < l.length := List.length_pos_iff.2 hne
  have h1 := val_take_succ (l := l) (i := l.length - 1) (by omega)
  rw [Nat.sub_add_cancel h0, List.take_length, hz] at h1
  have h2 := val_lt (good_take (l.length - 1) hg)
  rw [List.length_take, Nat.min_eq_left (Nat.sub_le _ _)] at h2
  have := h hne
  simp at h1
  omega

theorem step_mul (vo vo' W on r q x y c V vy Bi Bj B : Nat) (hW : W = Bi * Bj) (e1 : vo' + W * on = vo + W * r) (e2 : r + B * q = on + x * y + c) (h : vo + c * W = V + x * Bi * vy) : vo' + q * (W * B) = V + x * Bi * (vy + Bj * y) := by grind
theorem step_row (vo vo' W on c V x Bi vy vx : Nat) (e1 : vo' + W * on = vo + W * c) (h0 : on = 0) (h : vo + c * W = V * vy + x * Bi * vy) (h1 : vx = V + Bi * x) : vo' = vx * vy := by grind
theorem val_rep (n : Nat) : val (List.replicate n 0) = 0 := by
  induction n with
  | zero => rfl
  | succ n ih => rw [List.replicate_succ, val, ih]; rfl
theorem good_rep (n : Nat) : Good (List.replicate n 0) := fun x hx => by rw [(List.mem_replicate.1 hx).2]; omega
theorem ix_rep (n k : Nat) : ix (List.replicate n (0 : Int)) k = 0 := by
  unfold ix
  rw [List.getD_eq_getElem?_getD, List.getElem?_replicate]
  split <;> rfl
theorem mul_lim {a b : Int} (ha : 0 ≤ a ∧ a < 1000000000) (hb : 0 ≤ b ∧ b < 1000000000) : 0 ≤ a * b ∧ a * b ≤ 999999998000000001 := by
  refine ⟨Int.mul_nonneg ha.1 hb.1, ?_⟩
  have h1 : a * b ≤ 999999999 * b := Int.mul_le_mul_of_nonneg_right (by omega) hb.1
  omega

theorem ix_good' {l : List Int} (h : Good l) (i : Nat) : 0 ≤ ix l i ∧ ix l i < 1000000000 := by
  rcases Nat.lt_or_ge i l.length with hi | hi
  · exact ix_good h hi
  · rw [ix_out hi]; omega
theorem val_take_succ' (l : List Int) (i : Nat) : val (l.take (i + 1)) = val (l.take i) + B9 ^ i * (ix l i).toNat := by
  rcases Nat.lt_or_ge i l.length with hi | hi
  · exact val_take_succ hi
  · rw [ix_out hi, List.take_of_length_le (by omega), List.take_of_length_le hi]; simp
theorem step_add (vo W r q B vx vy xi yi c : Nat) (h : vo + c * W = vx + vy) (e : r + B * q = xi + yi + c) : vo + W * r + q * (W * B) = (vx + W * xi) + (vy + W * yi) := by grind
theorem val_snoc (l : List Int) (x : Int) : val (l ++ [x]) = val l + B9 ^ l.length * x.toNat := by rw [val_append]; simp [val]
theorem B9_le {m n : Nat} (h : m ≤ n) : B9 ^ m ≤ B9 ^ n := Nat.pow_le_pow_right (by decide) h
theorem tmod9 {s : Int} (hs : 0 ≤ s) : s.tmod 1000000000 = s % 1000000000 := Int.tmod_eq_emod_of_nonneg hs
theorem tdiv9 {s : Int} (hs : 0 ≤ s) : s.tdiv 1000000000 = s / 1000000000 := Int.tdiv_eq_ediv_of_nonneg hs

theorem step_sub (vo W r bo' B vx vy xi yi bo : Nat) (h : vo + vy = vx + bo * W) (e : r + yi + bo = xi + B * bo') : (vo + W * r) + (vy + W * yi) = (vx + W * xi) + bo' * (W * B) := by grind
theorem canon_mono {m n : Nat} (h : m ≤ n) : (canon m).length ≤ (canon n).length := canon_len _ _ (by
  have := val_lt (canon_good n)
  rw [val_canon] at this
  omega)
theorem val_lt64 {l : List Int} (hg : Good l) (h : l.length ≤ 64) : val l < B9 ^ 64 := Nat.lt_of_lt_of_le (val_lt hg) (B9_le h)

/-- What comes back of a number that may be too long. -/
def fitT (n : Nat) : AV := .tup [Enc.enc (if (canon n).length ≤ 64 then canon n else []), .bool (decide ((canon n).length ≤ 64))]

theorem fitT_of {n : Nat} {l : List Int} (h : canon n = l) : fitT n = .tup [.slice 1 false (encRows (if l.length ≤ 64 then l else [])), .bool (decide (l.length ≤ 64))] := by rw [fitT, h]; rfl

theorem take_set_succ {α : Type} {l : List α} {i : Nat} {v : α} (h : i < l.length) : (l.set i v).take (i + 1) = l.take i ++ [v] := by
  rw [List.take_add_one, List.getElem?_set_self h, List.take_set_of_le (Nat.le_refl i)]; rfl

theorem take_snoc {α : Type} [Inhabited α] {l : List α} {i : Nat} (h : i < l.length) : l.take (i + 1) = l.take i ++ [ix l i] := by
  rw [List.take_add_one, List.getElem?_eq_getElem h, ix_lt h]; rfl

end Go.Proofs.YtfoipbjhaiimlaaDoor.Nt


/-
  nat: the reference's small functions.
-/
namespace Go.Proofs.YtfoipbjhaiimlaaDoor.Nt
open Go.RowKit
set_option linter.unusedSimpArgs false


noncomputable def C0 : Ctx := mkC Tryd.prog G0 []
theorem C0_P : C0.P = Tryd.prog := rfl
theorem C0_S : C0.S = look [] := rfl
theorem C0_G : C0.G = G0 := rfl
attribute [simp] C0_P C0_S C0_G
theorem sig0 : SigOK C0 := sigOK_nil _ _
theorem mix0 : C0.P.follows .mixedOrders = true := mixed

theorem limb46 : PureOK Tryd.prog G0 67 (spec2 (fun (_ : List Int) (i : Int) => 0 ≤ i) (fun a i => .int .i64 (ix a i.toNat))) := by
  refine pure2 (C := C0) sig0 mix0 Tryd.func67 rfl rfl rfl (by kernel_rfl) (by decide) (fun a i hi => ?_)
  simp
  refine both_intro (fun h => ?_) (fun h => ?_)
  · simp at h
    simp
    rw [ix_out (by omega)]
  · simp at h
    have h1 : i.toNat < a.length := by omega
    simp [rowAt_enc h1, h1]
    omega

set_option maxHeartbeats 1000000 in
theorem valid14 : PureOK Tryd.prog G0 85 (spec1 (fun _ : List Int => True) (fun a => .bool (validR a))) := by
  refine pure1 (C := C0) sig0 mix0 Tryd.func85 rfl rfl rfl (by kernel_rfl) (by decide) (fun a ha => ?_)
  simp
  refine both_intro (fun h => ?_) (fun h => ?_)
  · simp at h
    simp [validR]
    omega
  simp at h
  simp
  refine loop_rule (C := C0) sig0 mix0 (fun i : Nat => ⟨[(0, Enc.enc a), (3, .int .i64 i)], []⟩) (fun i => i ≤ a.length ∧ ∀ j < i, 0 ≤ ix a j ∧ ix a j < 1000000000) (fun i => a.length - i) (by kernel_rfl) ⟨0, by simp, weak_slots (by simp)⟩ (fun i ⟨hi, hb⟩ => ?_)
  simp
  by_cases h1 : i < a.length
  · have hm := ix_mem h1
    by_cases h2 : ix a i < 0
    · simp [rowAt_enc h1, h1, h2]
      refine decide_eq_false fun h => ?_
      have := h.2.1 _ hm; omega
    · by_cases h3 : ix a i ≥ 1000000000
      · simp [rowAt_enc h1, h1, h2, h3]
        refine decide_eq_false fun h => ?_
        have := h.2.1 _ hm; omega
      · have i1 : I64 ((i : Int) + 1) := by unfold I64; omega
        simp [rowAt_enc h1, h1, h2, h3, i1]
        refine ⟨i + 1, ⟨by omega, fun j hj => ?_⟩, by omega, weak_slots (by simp)⟩
        rcases Nat.lt_or_eq_of_le (Nat.le_of_lt_succ hj) with h | h
        · exact hb j h
        · subst h; omega
  · have hall : ∀ x ∈ a, 0 ≤ x ∧ x < 1000000000 := fun x hx => by
      obtain ⟨j, hj, rfl⟩ := List.mem_iff_getElem.1 hx
      have := hb j (by omega)
      rwa [ix_lt hj] at this
    by_cases h2 : a = []
    · subst h2
      simp [validR]
    · have h0 : a.length ≠ 0 := fun h => h2 (List.length_eq_zero_iff.1 h)
      have h3 : a.length - 1 < a.length := by omega
      have h4 : ((a.length : Int) - 1).toNat = a.length - 1 := by omega
      have h5 : I64 ((a.length : Int) - 1) := by unfold I64; omega
      simp [h1, h2, h4, rowAt_enc h3, h5]
      refine ⟨by omega, ?_⟩
      by_cases h6 : ix a (a.length - 1) = 0
      · simp [validR, h6, h2]
      · simp [validR, h6, h2, hall]
        exact ⟨by omega, hall⟩

end Go.Proofs.YtfoipbjhaiimlaaDoor.Nt


/-
  nat: the reference's functions, second part.
-/
namespace Go.Proofs.YtfoipbjhaiimlaaDoor.Nt
open Go.RowKit
set_option linter.unusedSimpArgs false
set_option linter.unusedVariables false

def s14 : List AV → Option (Prop × AV) := spec1 (fun _ : List Int => True) (fun a => .bool (validR a))
def s46 : List AV → Option (Prop × AV) := spec2 (fun (_ : List Int) (i : Int) => 0 ≤ i) (fun a i => .int .i64 (ix a i.toNat))
noncomputable def C1 : Ctx := mkC Tryd.prog G0 [(85, .pure s14), (67, .pure s46)]
@[simp] theorem C1_P : C1.P = Tryd.prog := rfl
@[simp] theorem C1_14 : C1.S 85 = .pure s14 := rfl
@[simp] theorem C1_46 : C1.S 67 = .pure s46 := rfl
theorem sig1 : SigOK C1 := sigOK_cons (entryPure valid14 Tryd.func85 rfl (by decide)) (sigOK_cons (entryPure limb46 Tryd.func67 rfl (by decide)) (sigOK_nil _ _))
theorem mix1 : C1.P.follows .mixedOrders = true := mixed

set_option maxHeartbeats 1000000 in
theorem num35 : PureOK Tryd.prog G0 56 (spec1 (fun a : List Int => a.length ≤ 1000000) (fun a => Enc.enc (numL a))) := by
  refine pure1 (C := C1) sig1 mix1 Tryd.func56 rfl rfl rfl (by kernel_rfl) (by decide) (fun a ha => ?_)
  cases h : validR a
  · simp [s14, h, ha, numL]
  · simp [s14, h, ha, numL]
    omega

set_option maxHeartbeats 1000000 in
theorem of21 : PureOK Tryd.prog G0 22 (spec1 (fun n : Int => I64 n) (fun n => Enc.enc (canon n.toNat))) := by
  refine pure1 (C := C1) sig1 mix1 Tryd.func22 rfl rfl rfl (by kernel_rfl) (by decide) (fun n hn => ?_)
  simp
  refine loop_rule (C := C1) sig1 mix1 (fun x : Int × List Int => ⟨[(0, .int .i64 x.1), (3, .own 0 x.2.length)], [⟨3, 1, encRows x.2, true, true⟩]⟩) (fun x => x.1 ≤ n ∧ x.2 ++ canon x.1.toNat = canon n.toNat) (fun x => x.1.toNat) (by kernel_rfl) ⟨(n, []), by simp, (weak_nil 3 1 3 (by simp) (by decide)).trans (weak_slots (by simp))⟩ (fun ⟨m, out⟩ ⟨hm, hx⟩ => ?_)
  simp only at hm hx ⊢
  by_cases h : 0 < m
  · have hc : canon m.toNat = (m.tmod 1000000000) :: canon (m.tdiv 1000000000).toNat := by
      rw [canon_pos (by omega)]
      rw [Int.tmod_eq_emod_of_nonneg (by omega), Int.tdiv_eq_ediv_of_nonneg (by omega)]
      congr 1
      · unfold B9; omega
      · congr 1; unfold B9; omega
    have hl : (canon n.toNat).length ≤ 10 := canon_len 10 _ (by unfold B9; unfold I64 at hn; omega)
    have hl2 := congrArg List.length hx
    rw [List.length_append] at hl2
    have hd : m.tdiv 1000000000 = m / 1000000000 := Int.tdiv_eq_ediv_of_nonneg (by omega)
    have i1 : I64 (m.tdiv 1000000000) := by rw [hd]; unfold I64 at hn ⊢; omega
    simp [h, i1]
    refine ⟨by omega, m.tdiv 1000000000, out ++ [m.tmod 1000000000], ⟨by omega, ?_⟩, by omega, weak_slots (by simp)⟩
    rw [← hx, hc]
    simp
  · simp [h]
    have h0 : m.toNat = 0 := by omega
    rw [h0, canon_zero, List.append_nil] at hx
    rw [hx]

set_option maxHeartbeats 1000000 in
theorem trim40 : PureOK Tryd.prog G0 69 (spec1 (fun a : List Int => Good a ∧ a.length ≤ 1000000) (fun a => Enc.enc (canon (val a)))) := by
  refine pure1 (C := C1) sig1 mix1 Tryd.func69 rfl rfl rfl (by kernel_rfl) (by decide) (fun a ⟨hg, ha⟩ => ?_)
  simp
  refine loop_rule (C := C1) sig1 mix1 (fun n : Nat => ⟨[(0, Enc.enc a), (3, .int .i64 n)], []⟩) (fun n => n ≤ a.length ∧ val (a.take n) = val a) id (by kernel_rfl) ⟨a.length, by simp, weak_slots (by simp)⟩ (fun n ⟨hn, hv⟩ => ?_)
  have fin : (n ≠ 0 → ix a (n - 1) ≠ 0) → canon (val a) = a.take n := fun h => by
    rw [← hv]
    refine canon_val (good_take n hg) fun hne => ?_
    have hl : (a.take n).length = n := by rw [List.length_take, Nat.min_eq_left hn]
    have h0 : n ≠ 0 := fun h0 => hne (by rw [h0]; simp)
    rw [hl]
    have := h h0
    unfold ix at this ⊢
    rw [List.getD_eq_getElem?_getD, List.getElem?_take, if_pos (by omega)]
    rwa [List.getD_eq_getElem?_getD] at this
  by_cases h0 : n = 0
  · subst h0
    simp
    rw [fin (by simp)]
    simp
  · have h1 : n - 1 < a.length := by omega
    have h2 : ((n : Int) - 1).toNat = n - 1 := by omega
    have h3 : I64 ((n : Int) - 1) := by unfold I64; omega
    have h4 : 0 < n := by omega
    by_cases h5 : ix a (n - 1) = 0
    · simp [h0, h2, h3, h4, rowAt_enc h1, h5]
      refine ⟨by omega, n - 1, ⟨by omega, ?_⟩, by omega, weak_slots (by simp; omega)⟩
      have := val_take_succ h1
      rw [Nat.sub_add_cancel h4, hv, h5] at this
      simpa using this.symm
    · simp [h0, h2, h3, h4, rowAt_enc h1, h5]
      rw [fin fun _ => h5]
      refine ⟨by omega, hn, by omega, rfl⟩

set_option maxHeartbeats 1000000 in
theorem bounded47 : PureOK Tryd.prog G0 68 (spec1 (fun l : List Int => l.length ≤ 1000000) (fun l => .tup [Enc.enc (if l.length ≤ 64 then l else []), .bool (decide (l.length ≤ 64))])) := by
  refine pure1 (C := C1) sig1 mix1 Tryd.func68 rfl rfl rfl (by kernel_rfl) (by decide) (fun a ha => ?_)
  by_cases h : a.length ≤ 64
  · have h' : ¬ (64 : Int) < a.length := by omega
    simp [h, h']
  · have h' : (64 : Int) < a.length := by omega
    simp [h, h']

set_option maxHeartbeats 1000000 in
theorem same13 : PureOK Tryd.prog G0 15 (spec2 (fun (a b : List Int) => a.length ≤ 1000000 ∧ b.length ≤ 1000000) (fun a b => .bool (decide (a = b)))) := by
  refine pure2 (C := C1) sig1 mix1 Tryd.func15 rfl rfl rfl (by kernel_rfl) (by decide) (fun a b ⟨ha, hb⟩ => ?_)
  by_cases hl : a.length = b.length
  · simp [hl]
    refine loop_rule (C := C1) sig1 mix1 (fun i : Nat => ⟨[(0, Enc.enc a), (1, Enc.enc b), (5, .int .i64 i)], []⟩) (fun i => i ≤ a.length ∧ a.take i = b.take i) (fun i => a.length - i) (by kernel_rfl) ⟨0, by simp, weak_slots (by simp)⟩ (fun i ⟨hi, he⟩ => ?_)
    by_cases h1 : i < a.length
    · have h2 : i < b.length := by omega
      by_cases h3 : ix a i = ix b i
      · have i1 : I64 ((i : Int) + 1) := by unfold I64; omega
        simp [h1, h2, rowAt_enc h1, rowAt_enc h2, h3, i1]
        refine ⟨i + 1, ⟨by omega, ?_⟩, by omega, weak_slots (by simp)⟩
        rw [take_snoc h1, take_snoc h2, he, h3]
      · simp [h1, h2, rowAt_enc h1, rowAt_enc h2, h3]
        rintro rfl
        exact h3 rfl
    · simp [h1]
      rw [List.take_of_length_le (by omega), List.take_of_length_le (by omega)] at he
      exact he
  · have hl' : ¬ (a.length : Int) = b.length := by omega
    simp [hl']
    rintro rfl
    exact hl rfl

end Go.Proofs.YtfoipbjhaiimlaaDoor.Nt


/-
  nat: the reference's functions, third part.
-/
namespace Go.Proofs.YtfoipbjhaiimlaaDoor.Nt
open Go.RowKit
set_option linter.unusedSimpArgs false
set_option linter.unusedVariables false

def s35 : List AV → Option (Prop × AV) := spec1 (fun a : List Int => a.length ≤ 1000000) (fun a => Enc.enc (numL a))
def s21 : List AV → Option (Prop × AV) := spec1 (fun n : Int => I64 n) (fun n => Enc.enc (canon n.toNat))
def s40 : List AV → Option (Prop × AV) := spec1 (fun a : List Int => Good a ∧ a.length ≤ 1000000) (fun a => Enc.enc (canon (val a)))
def s47 : List AV → Option (Prop × AV) := spec1 (fun l : List Int => l.length ≤ 1000000) (fun l => .tup [Enc.enc (if l.length ≤ 64 then l else []), .bool (decide (l.length ≤ 64))])
def s13 : List AV → Option (Prop × AV) := spec2 (fun (a b : List Int) => a.length ≤ 1000000 ∧ b.length ≤ 1000000) (fun a b => .bool (decide (a = b)))
noncomputable def C2 : Ctx := mkC Tryd.prog G0 [(56, .pure s35), (22, .pure s21), (69, .frz s40), (68, .frz s47), (15, .pure s13), (85, .pure s14), (67, .pure s46)]
@[simp] theorem C2_P : C2.P = Tryd.prog := rfl
@[simp] theorem C2_35 : C2.S 56 = .pure s35 := rfl
@[simp] theorem C2_21 : C2.S 22 = .pure s21 := rfl
@[simp] theorem C2_40 : C2.S 69 = .frz s40 := rfl
@[simp] theorem C2_47 : C2.S 68 = .frz s47 := rfl
@[simp] theorem C2_13 : C2.S 15 = .pure s13 := rfl
@[simp] theorem C2_14 : C2.S 85 = .pure s14 := rfl
@[simp] theorem C2_46 : C2.S 67 = .pure s46 := rfl
theorem sig2 : SigOK C2 :=
  sigOK_cons (entryPure num35 Tryd.func56 rfl (by decide)) (sigOK_cons (entryPure of21 Tryd.func22 rfl (by decide)) (sigOK_cons (entryFrz trim40 Tryd.func69 rfl (by decide)) (sigOK_cons (entryFrz bounded47 Tryd.func68 rfl (by decide)) (sigOK_cons (entryPure same13 Tryd.func15 rfl (by decide)) sig1))))
theorem mix2 : C2.P.follows .mixedOrders = true := mixed

set_option maxHeartbeats 2000000 in
theorem times36 : PureOK Tryd.prog G0 66 (spec2 (fun (x y : List Int) => (Good x ∧ x.length ≤ 128) ∧ Good y ∧ y.length ≤ 128) (fun x y => Enc.enc (canon (val x * val y)))) := by
  refine pure2 (C := C2) sig2 mix2 Tryd.func66 rfl rfl rfl (by kernel_rfl) (by decide) (fun x y ⟨⟨hx, hxl⟩, hy, hyl⟩ => ?_)
  have h1 : I64 ((x.length : Int) + y.length) := by unfold I64; omega
  have h2 : ((x.length : Int) + y.length).toNat = x.length + y.length := by omega
  simp [h1, h2]
  refine ⟨by omega, ?_⟩
  refine loop_rule (C := C2) sig2 mix2 (fun p : Nat × List Int => ⟨[(0, Enc.enc x), (1, Enc.enc y), (5, .own 0 (x.length + y.length)), (6, .int .i64 p.1)], [⟨3, 1, encRows p.2, true, true⟩]⟩)
    (fun p => p.1 ≤ x.length ∧ p.2.length = x.length + y.length ∧ Good p.2 ∧ val p.2 = val (x.take p.1) * val y ∧ ∀ k, p.1 + y.length ≤ k → ix p.2 k = 0)
    (fun p => x.length - p.1) (by kernel_rfl) ⟨(0, List.replicate (x.length + y.length) 0), ?_, weak_slots (by simp)⟩ (fun ⟨i, out⟩ ⟨hi, hl, hg, hv, hz⟩ => ?_)
  · exact ⟨Nat.zero_le _, by simp, good_rep _, by simp [val_rep, val], fun k _ => ix_rep _ k⟩
  simp only at hi hl hg hv hz ⊢
  by_cases h3 : i < x.length
  · simp [h3]
    refine loop_rule (C := C2) sig2 mix2 (fun p : Nat × Int × List Int => ⟨[(0, Enc.enc x), (1, Enc.enc y), (5, .own 0 (x.length + y.length)), (6, .int .i64 i), (7, .int .i64 p.2.1), (8, .int .i64 p.1)], [⟨3, 1, encRows p.2.2, true, true⟩]⟩)
      (fun p => p.1 ≤ y.length ∧ p.2.2.length = x.length + y.length ∧ Good p.2.2 ∧ (0 ≤ p.2.1 ∧ p.2.1 < 1000000000) ∧ val p.2.2 + p.2.1.toNat * B9 ^ (i + p.1) = val (x.take i) * val y + (ix x i).toNat * B9 ^ i * val (y.take p.1) ∧ ∀ k, i + y.length ≤ k → ix p.2.2 k = 0)
      (fun p => y.length - p.1) (by kernel_rfl) ⟨(0, 0, out), ?_, weak_slots (by simp)⟩ (fun ⟨j, c, o⟩ ⟨hj, hol, hog, hc, hov, hoz⟩ => ?_)
    · exact ⟨Nat.zero_le _, hl, hg, by simp, by simp [hv, val], hz⟩
    simp only at hj hol hog hc hov hoz ⊢
    by_cases h4 : j < y.length
    · have h5 : ((i : Int) + j).toNat = i + j := by omega
      have h6 : i + j < o.length := by omega
      have h7 : I64 ((i : Int) + j) := by unfold I64; omega
      have hxi := ix_good hx h3
      have hyj := ix_good hy h4
      have hoi := ix_good hog h6
      have hp := mul_lim hxi hyj
      have e : ∀ s : Int, 0 ≤ s → s.tmod 1000000000 = s % 1000000000 := fun s hs => Int.tmod_eq_emod_of_nonneg hs
      have e' : ∀ s : Int, 0 ≤ s → s.tdiv 1000000000 = s / 1000000000 := fun s hs => Int.tdiv_eq_ediv_of_nonneg hs
      have hs : 0 ≤ ix o (i + j) + ix x i * ix y j + c := by omega
      have k1 : I64 (ix x i * ix y j) := by unfold I64; omega
      have k2 : I64 (ix o (i + j) + ix x i * ix y j) := by unfold I64; omega
      have k3 : I64 (ix o (i + j) + ix x i * ix y j + c) := by unfold I64; omega
      have k4 : I64 ((ix o (i + j) + ix x i * ix y j + c) / 1000000000) := by unfold I64; omega
      have k5 : I64 ((j : Int) + 1) := by unfold I64; omega
      simp [h4, h3, h5, h6, h7, rowAt_enc h6, rowAt_enc h3, rowAt_enc h4, e _ hs, e' _ hs, k1, k2, k3, k4, k5]
      refine ⟨by omega, by omega, by omega, by omega, j + 1, _, _, ⟨by omega, by simpa using hol, good_set hog (v := (ix o (i + j) + ix x i * ix y j + c) % 1000000000) (by omega), (by omega : 0 ≤ (ix o (i + j) + ix x i * ix y j + c) / 1000000000 ∧ (ix o (i + j) + ix x i * ix y j + c) / 1000000000 < 1000000000), ?_, fun k hk => ?_⟩, by omega, weak_slots (by simp)⟩
      · rw [val_take_succ h4, ← Nat.add_assoc i j 1, Nat.pow_succ]
        refine step_mul _ _ _ _ _ _ _ _ _ _ _ _ _ _ (Nat.pow_add B9 i j) (val_set h6) ?_ hov
        have : (ix x i * ix y j).toNat = (ix x i).toNat * (ix y j).toNat := Int.toNat_mul hxi.1 hyj.1
        rw [← this]
        unfold B9
        omega
      · rw [ix_set h6, if_neg (by omega)]
        exact hoz k hk
    · have hje : j = y.length := by omega
      subst hje
      have h5 : ((i : Int) + y.length).toNat = i + y.length := by omega
      have h6 : i + y.length < o.length := by omega
      have h7 : I64 ((i : Int) + y.length) := by unfold I64; omega
      have k5 : I64 ((i : Int) + 1) := by unfold I64; omega
      simp [h4, h5, h6, h7, rowAt_enc h6, k5]
      refine ⟨by omega, ⟨hol, h3⟩, i + 1, _, ⟨by omega, by simpa using hol, good_set hog hc, ?_, fun k hk => ?_⟩, by omega, weak_slots (by simp)⟩
      · rw [List.take_length] at hov
        exact step_row _ _ _ _ _ _ _ _ _ _ (val_set h6) (by rw [hoz _ (Nat.le_refl _)]; rfl) hov (val_take_succ h3)
      · rw [ix_set h6, if_neg (by omega)]
        exact hoz k (by omega)
  · simp [h3, s40, hl]
    rw [val_take_le (by omega)] at hv
    refine ⟨⟨hg, by omega⟩, by rw [hv]⟩

def cmpN (m n : Nat) : Int := if m < n then -1 else if m = n then 0 else 1

theorem val_split {l : List Int} {i : Nat} (h : i < l.length) : val l = val (l.take i) + B9 ^ i * (ix l i).toNat + B9 ^ (i + 1) * val (l.drop (i + 1)) := by
  have := val_append (l.take (i + 1)) (l.drop (i + 1))
  rw [List.take_append_drop, List.length_take, Nat.min_eq_left h] at this
  rw [this, val_take_succ h]

theorem cmp_lt {x y : List Int} {i : Nat} (hx : Good x) (hy : Good y) (h1 : i < x.length) (h2 : i < y.length) (hd : x.drop (i + 1) = y.drop (i + 1)) (h : ix x i < ix y i) : val x < val y := by
  rw [val_split h1, val_split h2, hd]
  have h3 := val_lt (good_take i hx)
  rw [List.length_take, Nat.min_eq_left (Nat.le_of_lt h1)] at h3
  have hxi := ix_good hx h1
  have h4 : (ix x i).toNat + 1 ≤ (ix y i).toNat := by omega
  have h5 := Nat.mul_le_mul_left (B9 ^ i) h4
  rw [Nat.mul_add] at h5
  omega

theorem len_lt {x y : List Int} (hx : Good x) (hy : Good y) (hyn : Norm y) (h : x.length < y.length) : val x < val y := by
  have h1 := val_lt hx
  have h2 := val_top hy hyn (fun e => by rw [e] at h; simp at h)
  have h3 : B9 ^ x.length ≤ B9 ^ (y.length - 1) := Nat.pow_le_pow_right (by decide) (by omega)
  omega

theorem drop_eq {x : List Int} {i : Nat} (h : i < x.length) : x.drop i = ix x i :: x.drop (i + 1) := by rw [List.drop_eq_getElem_cons h, ix_lt h]

set_option maxHeartbeats 2000000 in
theorem cmp32 : PureOK Tryd.prog G0 21 (spec2 (fun (a b : List Int) => a.length ≤ 1000000 ∧ b.length ≤ 1000000) (fun a b => .int .i64 (cmpN (nv a) (nv b)))) := by
  refine pure2 (C := C2) sig2 mix2 Tryd.func21 rfl rfl rfl (by kernel_rfl) (by decide) (fun a b ⟨ha, hb⟩ => ?_)
  have hxl := numL_len a
  have hyl := numL_len b
  have hxg := numL_good a
  have hyg := numL_good b
  have hxn := numL_norm a
  have hyn := numL_norm b
  have e1 : cmpN (nv a) (nv b) = cmpN (val (numL a)) (val (numL b)) := rfl
  simp [s35, ha, hb]
  rw [e1]
  generalize numL a = x at *
  generalize numL b = y at *
  by_cases hl : x.length = y.length
  · simp [hl]
    have h1 : I64 ((y.length : Int) - 1) := by unfold I64; omega
    simp [h1]
    refine loop_rule (C := C2) sig2 mix2 (fun n : Nat => ⟨[(5, Enc.enc x), (6, Enc.enc y), (7, .int .i64 ((n : Int) - 1))], []⟩) (fun n => n ≤ x.length ∧ x.drop n = y.drop n) id (by kernel_rfl) ⟨x.length, ⟨by simp, by rw [List.drop_of_length_le (by simp), List.drop_of_length_le (by omega)]⟩, weak_slots (by simp [hl])⟩ (fun n ⟨hn, hd⟩ => ?_)
    by_cases h2 : n = 0
    · subst h2
      simp at hd
      subst hd
      simp [cmpN]
    · have h3 : n - 1 < x.length := by omega
      have h4 : n - 1 < y.length := by omega
      have h5 : ((n : Int) - 1).toNat = n - 1 := by omega
      have h6 : (1 : Int) ≤ n := by omega
      have h7 : 0 < n := by omega
      have e := Nat.sub_add_cancel h7
      by_cases h8 : ix x (n - 1) < ix y (n - 1)
      · have := cmp_lt hxg hyg h3 h4 (by rwa [e]) h8
        simp [h5, h6, h7, rowAt_enc h3, rowAt_enc h4, h8, cmpN, this]
        omega
      · by_cases h9 : ix y (n - 1) < ix x (n - 1)
        · have := cmp_lt hyg hxg h4 h3 (by rw [e]; exact hd.symm) h9
          have h10 : ¬ val x < val y := by omega
          have h11 : ¬ val x = val y := by omega
          simp [h5, h6, h7, rowAt_enc h3, rowAt_enc h4, h8, h9, cmpN, h10, h11]
          omega
        · have k5 : I64 ((n : Int) - 1 - 1) := by unfold I64; omega
          simp [h5, h6, h7, rowAt_enc h3, rowAt_enc h4, h8, h9, k5]
          refine ⟨by omega, by omega, by omega, by omega, n - 1, ⟨by omega, ?_⟩, by omega, weak_slots (by simp; omega)⟩
          rw [drop_eq h3, drop_eq h4, e, hd]
          congr 1
          omega
  · have hl' : ¬ (x.length : Int) = y.length := by omega
    by_cases h : x.length < y.length
    · have := len_lt hxg hyg hyn h
      simp [hl', h, cmpN, this]
    · have := len_lt hyg hxg hxn (by omega)
      have h' : ¬ val x < val y := by omega
      have h'' : ¬ val x = val y := by omega
      simp [hl', h, cmpN, h', h'']

def s32 : List AV → Option (Prop × AV) := spec2 (fun (a b : List Int) => a.length ≤ 1000000 ∧ b.length ≤ 1000000) (fun a b => .int .i64 (cmpN (nv a) (nv b)))
def s36 : List AV → Option (Prop × AV) := spec2 (fun (x y : List Int) => (Good x ∧ x.length ≤ 128) ∧ Good y ∧ y.length ≤ 128) (fun x y => Enc.enc (canon (val x * val y)))

end Go.Proofs.YtfoipbjhaiimlaaDoor.Nt


/-
  nat: the reference's functions, fourth part.
-/
namespace Go.Proofs.YtfoipbjhaiimlaaDoor.Nt
open Go.RowKit
set_option linter.unusedSimpArgs false
set_option linter.unusedVariables false

noncomputable def C3 : Ctx := mkC Tryd.prog G0 [(21, .pure s32), (66, .pure s36), (56, .pure s35), (22, .pure s21), (69, .frz s40), (68, .frz s47), (15, .pure s13), (85, .pure s14), (67, .pure s46)]
@[simp] theorem C3_P : C3.P = Tryd.prog := rfl
@[simp] theorem C3_32 : C3.S 21 = .pure s32 := rfl
@[simp] theorem C3_36 : C3.S 66 = .pure s36 := rfl
@[simp] theorem C3_35 : C3.S 56 = .pure s35 := rfl
@[simp] theorem C3_21 : C3.S 22 = .pure s21 := rfl
@[simp] theorem C3_13 : C3.S 15 = .pure s13 := rfl
@[simp] theorem C3_14 : C3.S 85 = .pure s14 := rfl
@[simp] theorem C3_46 : C3.S 67 = .pure s46 := rfl
@[simp] theorem C3_40 : C3.S 69 = .frz s40 := rfl
@[simp] theorem C3_47 : C3.S 68 = .frz s47 := rfl
theorem sig3 : SigOK C3 := sigOK_cons (entryPure cmp32 Tryd.func21 rfl (by decide)) (sigOK_cons (entryPure times36 Tryd.func66 rfl (by decide)) sig2)
theorem mix3 : C3.P.follows .mixedOrders = true := mixed

set_option maxHeartbeats 2000000 in
theorem mul29 : PureOK Tryd.prog G0 60 (spec2 (fun (a b : List Int) => a.length ≤ 1000000 ∧ b.length ≤ 1000000) (fun a b => fitT (nv a * nv b))) := by
  refine pure2 (C := C3) sig3 mix3 Tryd.func60 rfl rfl rfl (by kernel_rfl) (by decide) (fun a b ⟨ha, hb⟩ => ?_)
  have hxl := numL_len a
  have hyl := numL_len b
  have hxg := numL_good a
  have hyg := numL_good b
  have hlen : (canon (val (numL a) * val (numL b))).length ≤ 128 := canon_len 128 _ (by
    have h1 := val_lt hxg
    have h2 := val_lt hyg
    have h3 : B9 ^ (numL a).length ≤ B9 ^ 64 := Nat.pow_le_pow_right (by decide) hxl
    have h4 : B9 ^ (numL b).length ≤ B9 ^ 64 := Nat.pow_le_pow_right (by decide) hyl
    have h5 := Nat.mul_lt_mul_of_lt_of_le (Nat.lt_of_lt_of_le h1 h3) (Nat.le_of_lt (Nat.lt_of_lt_of_le h2 h4)) (by decide)
    rwa [← Nat.pow_add] at h5)
  simp [s35, s36, s47, ha, hb, hxg, hyg]
  exact ⟨⟨by omega, by omega⟩, by omega, (fitT_of rfl).symm⟩

set_option maxHeartbeats 2000000 in
theorem add28 : PureOK Tryd.prog G0 40 (spec2 (fun (a b : List Int) => a.length ≤ 1000000 ∧ b.length ≤ 1000000) (fun a b => fitT (nv a + nv b))) := by
  refine pure2 (C := C3) sig3 mix3 Tryd.func40 rfl rfl rfl (by kernel_rfl) (by decide) (fun a b ⟨ha, hb⟩ => ?_)
  have hxl := numL_len a
  have hyl := numL_len b
  have hxg := numL_good a
  have hyg := numL_good b
  have hxn := numL_norm a
  have hyn := numL_norm b
  have e1 : fitT (nv a + nv b) = fitT (val (numL a) + val (numL b)) := rfl
  simp [s35, ha, hb]
  rw [e1]
  generalize numL a = x at *
  generalize numL b = y at *
  refine loop_rule (C := C3) sig3 mix3 (fun p : Nat × Int × List Int => ⟨[(6, Enc.enc x), (7, Enc.enc y), (8, .own 0 p.2.2.length), (9, .int .i64 p.2.1), (10, .int .i64 p.1)], [⟨3, 1, encRows p.2.2, true, true⟩]⟩)
    (fun p => p.1 ≤ max x.length y.length ∧ p.2.2.length = p.1 ∧ Good p.2.2 ∧ (0 ≤ p.2.1 ∧ p.2.1 ≤ 1) ∧ val p.2.2 + p.2.1.toNat * B9 ^ p.1 = val (x.take p.1) + val (y.take p.1))
    (fun p => max x.length y.length - p.1) (by kernel_rfl) ⟨(0, 0, []), ⟨Nat.zero_le _, rfl, good_nil, by simp, by simp [val]⟩, (weak_nil 8 1 3 (by simp) (by decide)).trans (weak_slots (by simp))⟩ (fun ⟨i, c, o⟩ ⟨hi, hl, hg, hc, hv⟩ => ?_)
  simp only at hi hl hg hc hv ⊢
  have hxi := ix_good' hxg i
  have hyi := ix_good' hyg i
  have hs : 0 ≤ ix x i + ix y i + c := by omega
  by_cases h1 : i < max x.length y.length
  · have key : I64 (ix x i + ix y i) ∧ I64 (ix x i + ix y i + c) ∧ ((o.length + 1) * 8 ≤ 140737488355328 ∧ o.length + 1 < 1000000000000) ∧ I64 ((ix x i + ix y i + c) / 1000000000) ∧ I64 ((i : Int) + 1) :=
      ⟨by unfold I64; omega, by unfold I64; omega, by omega, by unfold I64; omega, by unfold I64; omega⟩
    obtain ⟨k1, k2, k3, k4, k5⟩ := key
    have fin : ∃ a b c', (a ≤ max x.length y.length ∧ c'.length = a ∧ Good c' ∧ (0 ≤ b ∧ b ≤ 1) ∧ val c' + b.toNat * B9 ^ a = val (x.take a) + val (y.take a)) ∧ max x.length y.length - a < max x.length y.length - i ∧ a = i + 1 ∧ b = (ix x i + ix y i + c) / 1000000000 ∧ c' = o ++ [(ix x i + ix y i + c) % 1000000000] := by
      refine ⟨i + 1, _, _, ⟨by omega, by simp [hl], good_append hg (good_cons (by omega) good_nil), by omega, ?_⟩, by omega, rfl, rfl, rfl⟩
      rw [val_snoc, hl, val_take_succ', val_take_succ', Nat.pow_succ]
      refine step_add _ _ _ _ _ _ _ _ _ _ hv ?_
      unfold B9
      omega
    obtain ⟨a', b', c', hI, hm, rfl, rfl, rfl⟩ := fin
    by_cases h2 : i < x.length
    · simp [h2, s46, tmod9 hs, tdiv9 hs, k1, k2, k4, k5]
      exact ⟨k3, _, _, _, hI, hm, weak_slots (by simp)⟩
    · have h3 : i < y.length := by omega
      simp [h2, h3, s46, tmod9 hs, tdiv9 hs, k1, k2, k4, k5]
      exact ⟨k3, _, _, _, hI, hm, weak_slots (by simp)⟩
  · have h2 : ¬ i < x.length := by omega
    have h3 : ¬ i < y.length := by omega
    have hi' : i = max x.length y.length := by omega
    rw [val_take_le (by omega), val_take_le (by omega)] at hv
    have top : ∀ {l : List Int}, Good l → Norm l → l ≠ [] → B9 ^ (l.length - 1) ≤ val l := val_top
    by_cases h4 : 0 < c
    · have hc1 : c = 1 := by omega
      subst hc1
      have hr : canon (val x + val y) = o ++ [1] := by
        have e : val (o ++ [1]) = val x + val y := by rw [val_snoc, hl]; simpa [Nat.mul_comm] using hv
        rw [← e]
        have hg' : Good (o ++ [1]) := good_append hg (good_cons (by omega) good_nil)
        refine canon_val hg' (norm_of_val hg' fun _ => ?_)
        rw [val_snoc]
        simp
      rw [fitT_of hr]
      simp [h2, h3, s46, s47]
      omega
    · have hc0 : c = 0 := by omega
      subst hc0
      have hr : canon (val x + val y) = o := by
        have e : val o = val x + val y := by simpa using hv
        rw [← e]
        refine canon_val hg (norm_of_val hg fun hne => ?_)
        rw [e, hl, hi']
        by_cases hxy : x.length ≤ y.length
        · have := top hyg hyn (fun h => by subst h; simp at hxy; subst hxy; simp [val] at hi'; subst hi'; exact hne (List.length_eq_zero_iff.1 hl))
          have := B9_le (show max x.length y.length - 1 ≤ y.length - 1 by omega)
          omega
        · have := top hxg hxn (fun h => by subst h; simp at hxy)
          have := B9_le (show max x.length y.length - 1 ≤ x.length - 1 by omega)
          omega
      rw [fitT_of hr]
      simp [h2, h3, s46, s47]
      omega

end Go.Proofs.YtfoipbjhaiimlaaDoor.Nt


/-
  nat: the reference's functions, fifth part.
-/
namespace Go.Proofs.YtfoipbjhaiimlaaDoor.Nt
open Go.RowKit
set_option linter.unusedSimpArgs false
set_option linter.unusedVariables false

theorem cmpN_le {m n : Nat} : cmpN m n ≤ 0 ↔ m ≤ n := by
  unfold cmpN
  split
  · constructor <;> intro <;> omega
  · split
    · constructor <;> intro <;> omega
    · constructor <;> intro <;> omega
theorem cmpN_gt {m n : Nat} : 0 < cmpN m n ↔ n < m := by
  have := @cmpN_le m n
  constructor
  · intro h
    rcases Nat.lt_or_ge n m with h' | h'
    · exact h'
    · have := this.2 h'; omega
  · intro h
    rcases Int.lt_or_le 0 (cmpN m n) with h' | h'
    · exact h'
    · have := this.1 h'; omega

set_option maxHeartbeats 2000000 in
theorem sub31 : PureOK Tryd.prog G0 41 (spec2 (fun (a b : List Int) => a.length ≤ 1000000 ∧ b.length ≤ 1000000) (fun a b => Enc.enc (canon (nv a - nv b)))) := by
  refine pure2 (C := C3) sig3 mix3 Tryd.func41 rfl rfl rfl (by kernel_rfl) (by decide) (fun a b ⟨ha, hb⟩ => ?_)
  have hxl := numL_len a
  have hyl := numL_len b
  have hxg := numL_good a
  have hyg := numL_good b
  have hxn := numL_norm a
  have hyn := numL_norm b
  have nx : ∀ a, (numL a).length ≤ 64 → numL (numL a) = numL a := fun a _ => by
    rw [numL, if_pos (validR_iff.2 ⟨numL_len a, numL_good a, numL_norm a⟩)]
  have e1 : nv (numL a) = val (numL a) := by rw [nv, nx a hxl]
  have e2 : nv (numL b) = val (numL b) := by rw [nv, nx b hyl]
  have e3 : canon (nv a - nv b) = canon (val (numL a) - val (numL b)) := rfl
  have hxl' : (numL a).length ≤ 1000000 := by omega
  have hyl' : (numL b).length ≤ 1000000 := by omega
  simp [s35, s32, ha, hb, hxl', hyl', e1, e2]
  rw [e3]
  generalize numL a = x at *
  generalize numL b = y at *
  by_cases hc : cmpN (val x) (val y) ≤ 0
  · have := cmpN_le.1 hc
    simp [hc, Nat.sub_eq_zero_of_le this, canon_zero]
  · have hlt : val y < val x := by have := @cmpN_le (val x) (val y); omega
    have hyx : y.length ≤ x.length := by
      rcases Nat.lt_or_ge x.length y.length with h | h
      · have := len_lt hxg hyg hyn h; omega
      · exact h
    simp [hc]
    refine loop_rule (C := C3) sig3 mix3 (fun p : Nat × Int × List Int => ⟨[(5, Enc.enc x), (6, Enc.enc y), (7, .own 0 p.2.2.length), (8, .int .i64 p.2.1), (9, .int .i64 p.1)], [⟨3, 1, encRows p.2.2, true, true⟩]⟩)
      (fun p => p.1 ≤ x.length ∧ p.2.2.length = p.1 ∧ Good p.2.2 ∧ (0 ≤ p.2.1 ∧ p.2.1 ≤ 1) ∧ val p.2.2 + val (y.take p.1) = val (x.take p.1) + p.2.1.toNat * B9 ^ p.1)
      (fun p => x.length - p.1) (by kernel_rfl) ⟨(0, 0, []), ⟨Nat.zero_le _, rfl, good_nil, by simp, by simp [val]⟩, (weak_nil 7 1 3 (by simp) (by decide)).trans (weak_slots (by simp))⟩ (fun ⟨i, c, o⟩ ⟨hi, hl, hg, hc, hv⟩ => ?_)
    simp only at hi hl hg hc hv ⊢
    by_cases h1 : i < x.length
    · have hxi := ix_good' hxg i
      have hyi := ix_good' hyg i
      have k1 : I64 (ix x i - ix y i) := by unfold I64; omega
      have k2 : I64 (ix x i - ix y i - c) := by unfold I64; omega
      have k3 : I64 (ix x i - ix y i - c + 1000000000) := by unfold I64; omega
      have k4 : I64 ((i : Int) + 1) := by unfold I64; omega
      have fin : ∀ (r : Int) (bo : Int), (0 ≤ bo ∧ bo ≤ 1) → (0 ≤ r ∧ r < 1000000000) → r + ix y i + c = ix x i + 1000000000 * bo →
          ((i + 1 ≤ x.length ∧ (o ++ [r]).length = i + 1 ∧ Good (o ++ [r]) ∧ (0 ≤ bo ∧ bo ≤ 1) ∧ val (o ++ [r]) + val (y.take (i + 1)) = val (x.take (i + 1)) + bo.toNat * B9 ^ (i + 1)) ∧ x.length - (i + 1) < x.length - i) := by
        intro r bo hbo hr he
        refine ⟨⟨by omega, by simp [hl], good_append hg (good_cons hr good_nil), hbo, ?_⟩, by omega⟩
        rw [val_snoc, hl, val_take_succ', val_take_succ', Nat.pow_succ]
        exact step_sub _ _ _ _ _ _ _ _ _ _ hv (by unfold B9; omega)
      by_cases h2 : ix x i - ix y i - c < 0
      · obtain ⟨hI, hm⟩ := fin (ix x i - ix y i - c + 1000000000) 1 (by omega) (by omega) (by omega)
        simp [h1, h2, s46, rowAt_enc h1, k1, k2, k3, k4]
        refine ⟨by omega, _, _, _, hI, hm, weak_slots (by simp)⟩
      · obtain ⟨hI, hm⟩ := fin (ix x i - ix y i - c) 0 (by omega) (by omega) (by omega)
        simp [h1, h2, s46, rowAt_enc h1, k1, k2, k3, k4]
        refine ⟨by omega, _, _, _, hI, hm, weak_slots (by simp)⟩
    · have hix : i = x.length := by omega
      subst hix
      rw [val_take_le hyx, List.take_length] at hv
      have hov := val_lt hg
      rw [hl] at hov
      have hc0 : c = 0 := by
        rcases Int.lt_or_le 0 c with h | h
        · have : c.toNat = 1 := by omega
          rw [this] at hv
          omega
        · omega
      subst hc0
      have e : val x - val y = val o := by simp at hv; omega
      simp [s40, hg, e]
      omega

def powT (v : Nat) (k : Int) : AV := if k < 0 then .tup [.slice 1 false [], .bool false] else fitT (v ^ k.toNat)

theorem powT_neg {v : Nat} {k : Int} (h : k < 0) : powT v k = .tup [.slice 1 false [], .bool false] := by rw [powT, if_pos h]
theorem powT_of {v : Nat} {k : Int} {l : List Int} (h : ¬ k < 0) (hl : canon (v ^ k.toNat) = l) : powT v k = .tup [.slice 1 false (encRows (if l.length ≤ 64 then l else [])), .bool (decide (l.length ≤ 64))] := by rw [powT, if_neg h, fitT_of hl]

def s28 : List AV → Option (Prop × AV) := spec2 (fun (a b : List Int) => a.length ≤ 1000000 ∧ b.length ≤ 1000000) (fun a b => fitT (nv a + nv b))
def s29 : List AV → Option (Prop × AV) := spec2 (fun (a b : List Int) => a.length ≤ 1000000 ∧ b.length ≤ 1000000) (fun a b => fitT (nv a * nv b))
def s31 : List AV → Option (Prop × AV) := spec2 (fun (a b : List Int) => a.length ≤ 1000000 ∧ b.length ≤ 1000000) (fun a b => Enc.enc (canon (nv a - nv b)))

theorem canon_one : canon 1 = [1] := by rw [canon_pos (by decide)]; simp [B9, canon_zero]

set_option maxHeartbeats 2000000 in
theorem pow12 : PureOK Tryd.prog G0 38 (spec2 (fun (a : List Int) (k : Int) => a.length ≤ 1000000 ∧ I64 k) (fun a k => powT (nv a) k)) := by
  refine pure2 (C := C3) sig3 mix3 Tryd.func38 rfl rfl rfl (by kernel_rfl) (by decide) (fun a k ⟨ha, hk⟩ => ?_)
  have hxl := numL_len a
  have hxg := numL_good a
  have hxn := numL_norm a
  simp [s35, ha]
  have e1 : powT (nv a) k = powT (val (numL a)) k := rfl
  rw [e1]
  generalize numL a = x at *
  by_cases h1 : k < 0
  · simp [h1, powT_neg]
  by_cases hA : 0 < k ∧ x.length = 0
  · obtain ⟨h2, h3⟩ := hA
    obtain rfl := List.length_eq_zero_iff.1 h3
    have e : canon (val [] ^ k.toNat) = [] := by rw [val, Nat.zero_pow (by omega), canon_zero]
    rw [powT_of h1 e]
    simp [h1, h2]
  by_cases hB : x.length = 1 ∧ ix x 0 = 1
  · obtain ⟨h5, h6⟩ := hB
    obtain ⟨x0, rfl⟩ := List.length_eq_one_iff.1 h5
    obtain rfl : x0 = 1 := h6
    have e : canon (val [1] ^ k.toNat) = [1] := by simp [val, canon_one]
    rw [powT_of h1 e]
    by_cases h2 : 0 < k <;> simp [h1, h2, rowAt]
  have tail : I64 1 ∧ ∀ Q : Exit → ASt → Prop, True := ⟨by unfold I64; omega, fun _ => trivial⟩
  have one : canon (val x ^ 0) = [1] := by rw [Nat.pow_zero, canon_one]
  have good1 : ∀ i : Nat, Good (canon (val x ^ i)) := fun i => canon_good _
  have long : ∀ i : Nat, i < k.toNat → 64 < (canon (val x ^ (i + 1))).length → powT (val x) k = .tup [.slice 1 false [], .bool false] := fun i hi hl => by
    rw [powT_of h1 rfl]
    have hv : 0 < val x := by
      rcases Nat.eq_zero_or_pos (val x) with h | h
      · rw [h, Nat.zero_pow (by omega), canon_zero] at hl; simp at hl
      · exact h
    have := canon_mono (Nat.pow_le_pow_right hv (show i + 1 ≤ k.toNat by omega))
    rw [if_neg (by omega), decide_eq_false (by omega)]
    rfl
  by_cases h2 : 0 < k <;> by_cases h5 : x.length = 1
  have h6 : ¬ ix x 0 = 1 := fun h => hB ⟨h5, h⟩
  have h7 : 0 < x.length := by omega
  have h8 : (x.length : Int) = 1 := by omega
  simp [h1, h2, h6, h5, rowAt_enc h7, s21, tail.1]
  rotate_left
  have h3 : ¬ x = [] := fun h => hA ⟨h2, by simp [h]⟩
  have h8 : ¬ (x.length : Int) = 1 := by omega
  simp [h1, h2, h3, h8, s21, tail.1]
  rotate_left
  have h6 : ¬ ix x 0 = 1 := fun h => hB ⟨h5, h⟩
  have h7 : 0 < x.length := by omega
  simp [h1, h2, h6, h5, rowAt_enc h7, s21, tail.1]
  rotate_left
  have h8 : ¬ (x.length : Int) = 1 := by omega
  simp [h1, h2, h8, s21, tail.1]
  rotate_left
  all_goals
    refine loop_rule (C := C3) sig3 mix3 (fun p : Nat × List Int => ⟨[(1, .int .i64 k), (6, Enc.enc x), (7, Enc.enc p.2), (8, .int .i64 p.1)], []⟩)
      (fun p => p.1 ≤ k.toNat ∧ p.2 = canon (val x ^ p.1) ∧ p.2.length ≤ 64)
      (fun p => k.toNat - p.1) (by kernel_rfl) ⟨(0, canon 1), ⟨Nat.zero_le _, by simp, by simp [canon_one]⟩, weak_slots (by simp)⟩ (fun ⟨i, l⟩ ⟨hi, hl, hlen⟩ => ?_)
    simp only at hi hl hlen ⊢
    subst hl
    have hg := good1 i
    have hmul : val (canon (val x ^ i)) * val x = val x ^ (i + 1) := by rw [val_canon, Nat.pow_succ]
    by_cases h10 : (i : Int) < k
    · have k1 : I64 ((i : Int) + 1) := by unfold I64 at hk ⊢; omega
      by_cases h11 : (64 : Int) < (canon (val x ^ (i + 1))).length
      · have := long i (by omega) (by omega)
        simp [h10, s36, hg, hxg, hmul, h11, this]
        omega
      · simp [h10, s36, hg, hxg, hmul, h11, k1]
        exact ⟨⟨by omega, by omega⟩, i + 1, _, ⟨by omega, rfl, by omega⟩, by omega, weak_slots (by simp)⟩
    · have hik : i = k.toNat := by omega
      rw [powT_of (l := canon (val x ^ i)) h1 (by rw [hik])]
      simp [h10, hlen]

end Go.Proofs.YtfoipbjhaiimlaaDoor.Nt


/-
  nat: the program's functions.
-/
namespace Go.Proofs.YtfoipbjhaiimlaaDoor.Nt
open Go.RowKit
set_option linter.unusedSimpArgs false
set_option linter.unusedVariables false

set_option maxHeartbeats 1000000 in
theorem valid26 : PureOK Tryd.prog G0 87 (spec1 (fun a : List Int => a.length ≤ 1000000) (fun a => .bool (validR a))) := by
  refine pure1 (C := C0) sig0 mix0 Tryd.func87 rfl rfl rfl (by kernel_rfl) (by decide) (fun a ha => ?_)
  simp
  refine both_intro (fun h => ?_) (fun h => ?_)
  · simp at h
    simp [validR]
    omega
  simp at h
  simp
  refine loop_rule (C := C0) sig0 mix0 (fun i : Nat => ⟨[(0, Enc.enc a), (8, Enc.enc a), (9, .int .i64 a.length), (10, .int .i64 i)], []⟩) (fun i => i ≤ a.length ∧ ∀ j < i, 0 ≤ ix a j ∧ ix a j < 1000000000) (fun i => a.length - i) (by kernel_rfl) ⟨0, by simp, weak_slots (by simp)⟩ (fun i ⟨hi, hb⟩ => ?_)
  simp
  by_cases h1 : i < a.length
  · have hm := ix_mem h1
    by_cases h2 : ix a i < 0
    · simp [rowAt_enc h1, h1, h2]
      refine decide_eq_false fun h => ?_
      have := h.2.1 _ hm; omega
    · by_cases h3 : ix a i ≥ 1000000000
      · simp [rowAt_enc h1, h1, h2, h3]
        refine decide_eq_false fun h => ?_
        have := h.2.1 _ hm; omega
      · have i1 : I64 ((i : Int) + 1) := by unfold I64; omega
        simp [rowAt_enc h1, h1, h2, h3, i1]
        refine ⟨i + 1, ⟨by omega, fun j hj => ?_⟩, by omega, weak_slots (by simp)⟩
        rcases Nat.lt_or_eq_of_le (Nat.le_of_lt_succ hj) with h | h
        · exact hb j h
        · subst h; omega
  · have hall : ∀ x ∈ a, 0 ≤ x ∧ x < 1000000000 := fun x hx => by
      obtain ⟨j, hj, rfl⟩ := List.mem_iff_getElem.1 hx
      have := hb j (by omega)
      rwa [ix_lt hj] at this
    by_cases h2 : a = []
    · subst h2
      simp [validR]
    · have h0 : a.length ≠ 0 := fun h => h2 (List.length_eq_zero_iff.1 h)
      have h3 : a.length - 1 < a.length := by omega
      have h4 : ((a.length : Int) - 1).toNat = a.length - 1 := by omega
      have h5 : I64 ((a.length : Int) - 1) := by unfold I64; omega
      simp [h1, h2, h4, rowAt_enc h3, h5]
      refine ⟨by omega, ?_⟩
      by_cases h6 : ix a (a.length - 1) = 0
      · simp [validR, h6, h2]
      · simp [validR, h6, h2, hall]
        exact ⟨by omega, hall⟩

def s26 : List AV → Option (Prop × AV) := spec1 (fun a : List Int => a.length ≤ 1000000) (fun a => .bool (validR a))

theorem nan54 : PureOK Tryd.prog G0 89 (spec1 (fun _ : Int => True) (fun _ => .bool false)) := by
  refine pure1 (C := C0) sig0 mix0 Tryd.func89 rfl rfl rfl (by kernel_rfl) (by decide) (fun a _ => ?_)
  simp

theorem of20 : PureOK Tryd.prog G0 33 (spec1 (fun n : Int => I64 n) (fun n => Enc.enc (canon n.toNat))) := by
  refine pure1 (C := C1) sig1 mix1 Tryd.func33 rfl rfl rfl (by kernel_rfl) (by decide) (fun n hn => ?_)
  simp
  refine loop_rule (C := C1) sig1 mix1 (fun x : Int × List Int => ⟨[(0, .int .i64 x.1), (3, .own 0 x.2.length)], [⟨3, 1, encRows x.2, true, true⟩]⟩) (fun x => x.1 ≤ n ∧ x.2 ++ canon x.1.toNat = canon n.toNat) (fun x => x.1.toNat) (by kernel_rfl) ⟨(n, []), by simp, (weak_nil 3 1 3 (by simp) (by decide)).trans (weak_slots (by simp))⟩ (fun ⟨m, out⟩ ⟨hm, hx⟩ => ?_)
  simp only at hm hx ⊢
  by_cases h : 0 < m
  · have hc : canon m.toNat = (m.tmod 1000000000) :: canon (m.tdiv 1000000000).toNat := by
      rw [canon_pos (by omega)]
      rw [Int.tmod_eq_emod_of_nonneg (by omega), Int.tdiv_eq_ediv_of_nonneg (by omega)]
      congr 1
      · unfold B9; omega
      · congr 1; unfold B9; omega
    have hl : (canon n.toNat).length ≤ 10 := canon_len 10 _ (by unfold B9; unfold I64 at hn; omega)
    have hl2 := congrArg List.length hx
    rw [List.length_append] at hl2
    have hd : m.tdiv 1000000000 = m / 1000000000 := Int.tdiv_eq_ediv_of_nonneg (by omega)
    have i1 : I64 (m.tdiv 1000000000) := by rw [hd]; unfold I64 at hn ⊢; omega
    simp [h, i1]
    refine ⟨by omega, m.tdiv 1000000000, out ++ [m.tmod 1000000000], ⟨by omega, ?_⟩, by omega, weak_slots (by simp)⟩
    rw [← hx, hc]
    simp
  · simp [h]
    have h0 : m.toNat = 0 := by omega
    rw [h0, canon_zero, List.append_nil] at hx
    rw [hx]

def s54 : List AV → Option (Prop × AV) := spec1 (fun _ : Int => True) (fun _ => .bool false)
def s20 : List AV → Option (Prop × AV) := spec1 (fun n : Int => I64 n) (fun n => Enc.enc (canon n.toNat))
noncomputable def C4 : Ctx := mkC Tryd.prog G0 [(87, .pure s26), (89, .pure s54), (33, .pure s20)]
@[simp] theorem C4_P : C4.P = Tryd.prog := rfl
@[simp] theorem C4_26 : C4.S 87 = .pure s26 := rfl
@[simp] theorem C4_54 : C4.S 89 = .pure s54 := rfl
@[simp] theorem C4_20 : C4.S 33 = .pure s20 := rfl
theorem sig4 : SigOK C4 := sigOK_cons (entryPure valid26 Tryd.func87 rfl (by decide)) (sigOK_cons (entryPure nan54 Tryd.func89 rfl (by decide)) (sigOK_cons (entryPure of20 Tryd.func33 rfl (by decide)) (sigOK_nil _ _)))
theorem mix4 : C4.P.follows .mixedOrders = true := mixed

theorem clean33 : PureOK Tryd.prog G0 61 (spec1 (fun a : List Int => a.length ≤ 1000000) (fun a => Enc.enc (numL a))) := by
  refine pure1 (C := C4) sig4 mix4 Tryd.func61 rfl rfl rfl (by kernel_rfl) (by decide) (fun a ha => ?_)
  cases h : validR a
  · simp [s26, h, ha, numL]
  · simp [s26, h, ha, numL]

theorem cmp45 : PureOK Tryd.prog G0 70 (spec2 (fun (_ _ : Int) => True) (fun a b => .int .i64 (if a < b then -1 else if b < a then 1 else 0))) := by
  refine pure2 (C := C4) sig4 mix4 Tryd.func70 rfl rfl rfl (by kernel_rfl) (by decide) (fun a b _ => ?_)
  by_cases h : a < b
  · simp [s54, h]
  · by_cases h' : b < a
    · simp [s54, h, h']
    · simp [s54, h, h']

set_option maxHeartbeats 1000000 in
theorem trim39 : PureOK Tryd.prog G0 88 (spec1 (fun a : List Int => Good a ∧ a.length ≤ 1000000) (fun a => Enc.enc (canon (val a)))) := by
  refine pure1 (C := C4) sig4 mix4 Tryd.func88 rfl rfl rfl (by kernel_rfl) (by decide) (fun a ⟨hg, ha⟩ => ?_)
  simp
  refine loop_rule (C := C4) sig4 mix4 (fun n : Nat => ⟨[(0, Enc.enc (a.take n))], []⟩) (fun n => n ≤ a.length ∧ val (a.take n) = val a) id (by kernel_rfl) ⟨a.length, by simp, weak_slots (by simp)⟩ (fun n ⟨hn, hv⟩ => ?_)
  have hl : (a.take n).length = n := by rw [List.length_take, Nat.min_eq_left hn]
  have fin : (n ≠ 0 → ix (a.take n) (n - 1) ≠ 0) → canon (val a) = a.take n := fun h => by
    rw [← hv]
    refine canon_val (good_take n hg) fun hne => ?_
    have h0 : n ≠ 0 := fun h0 => hne (by rw [h0]; simp)
    rw [hl]
    exact h h0
  by_cases h0 : n = 0
  · subst h0
    simp
    rw [fin (by simp)]
    simp
  · have h1 : n - 1 < (a.take n).length := by omega
    have h2 : ((n : Int) - 1).toNat = n - 1 := by omega
    have h3 : I64 ((n : Int) - 1) := by unfold I64; omega
    have h4 : 0 < n := by omega
    have ht : (a.take n).take (n - 1) = a.take (n - 1) := by rw [List.take_take, Nat.min_eq_left (by omega)]
    have hx : ix (a.take n) (n - 1) = ix a (n - 1) := by
      unfold ix
      rw [List.getD_eq_getElem?_getD, List.getD_eq_getElem?_getD, List.getElem?_take, if_pos (by omega)]
    have hv' := val_take_succ (l := a) (i := n - 1) (by omega)
    rw [Nat.sub_add_cancel h4, hv] at hv'
    have row := rowAt_enc h1
    by_cases h5 : ix (a.take n) (n - 1) = 0
    · rw [← hx, h5] at hv'
      generalize a.take n = t at *
      simp [h0, h2, h3, h4, hl, row, h5]
      refine ⟨by omega, by omega, n - 1, ⟨by omega, by simpa using hv'.symm⟩, by omega, weak_slots (by simp [ht])⟩
    · have := fin fun _ => h5
      rw [this]
      generalize a.take n = t at *
      simp [h0, h2, h3, h4, hl, row, h5]
      omega

def s33 : List AV → Option (Prop × AV) := spec1 (fun a : List Int => a.length ≤ 1000000) (fun a => Enc.enc (numL a))
def s45 : List AV → Option (Prop × AV) := spec2 (fun (_ _ : Int) => True) (fun a b => .int .i64 (if a < b then -1 else if b < a then 1 else 0))
def s39 : List AV → Option (Prop × AV) := spec1 (fun a : List Int => Good a ∧ a.length ≤ 1000000) (fun a => Enc.enc (canon (val a)))
noncomputable def C5 : Ctx := mkC Tryd.prog G0 [(61, .pure s33), (70, .pure s45), (88, .frz s39), (87, .pure s26), (89, .pure s54), (33, .pure s20)]
@[simp] theorem C5_P : C5.P = Tryd.prog := rfl
@[simp] theorem C5_26 : C5.S 87 = .pure s26 := rfl
@[simp] theorem C5_54 : C5.S 89 = .pure s54 := rfl
@[simp] theorem C5_20 : C5.S 33 = .pure s20 := rfl
@[simp] theorem C5_33 : C5.S 61 = .pure s33 := rfl
@[simp] theorem C5_45 : C5.S 70 = .pure s45 := rfl
@[simp] theorem C5_39 : C5.S 88 = .frz s39 := rfl
theorem sig5 : SigOK C5 := sigOK_cons (entryPure clean33 Tryd.func61 rfl (by decide)) (sigOK_cons (entryPure cmp45 Tryd.func70 rfl (by decide)) (sigOK_cons (entryFrz trim39 Tryd.func88 rfl (by decide)) sig4))
theorem mix5 : C5.P.follows .mixedOrders = true := mixed

end Go.Proofs.YtfoipbjhaiimlaaDoor.Nt


/-
  nat: the program's functions, second part.
-/
namespace Go.Proofs.YtfoipbjhaiimlaaDoor.Nt
open Go.RowKit
set_option linter.unusedSimpArgs false
set_option linter.unusedVariables false

set_option maxHeartbeats 1000000 in
theorem fits37 : PureOK Tryd.prog G0 63 (spec1 (fun l : List Int => Good l ∧ l.length ≤ 1000000) (fun l => fitT (val l))) := by
  refine pure1 (C := C5) sig5 mix5 Tryd.func63 rfl rfl rfl (by kernel_rfl) (by decide) (fun a ⟨hg, ha⟩ => ?_)
  by_cases h : (canon (val a)).length ≤ 64
  · have h' : ¬ (64 : Int) < (canon (val a)).length := by omega
    simp [s39, hg, ha, h', fitT, h]
  · have h' : (64 : Int) < (canon (val a)).length := by omega
    simp [s39, hg, ha, h', fitT, h]

set_option maxHeartbeats 2000000 in
theorem cmp24 : PureOK Tryd.prog G0 43 (spec2 (fun (a b : List Int) => a.length ≤ 1000000 ∧ b.length ≤ 1000000) (fun a b => .int .i64 (cmpN (nv a) (nv b)))) := by
  refine pure2 (C := C5) sig5 mix5 Tryd.func43 rfl rfl rfl (by kernel_rfl) (by decide) (fun a b ⟨ha, hb⟩ => ?_)
  have hxl := numL_len a
  have hyl := numL_len b
  have hxg := numL_good a
  have hyg := numL_good b
  have hxn := numL_norm a
  have hyn := numL_norm b
  have e1 : cmpN (nv a) (nv b) = cmpN (val (numL a)) (val (numL b)) := rfl
  simp [s45, s33, ha, hb]
  rw [e1]
  generalize numL a = x at *
  generalize numL b = y at *
  by_cases hl : x.length = y.length
  · simp [s45, hl]
    have h1 : I64 ((y.length : Int) - 1) := by unfold I64; omega
    simp [h1]
    refine loop_rule (C := C5) sig5 mix5 (fun n : Nat => ⟨[(0, Enc.enc x), (1, Enc.enc y), (6, .int .i64 ((n : Int) - 1))], []⟩) (fun n => n ≤ x.length ∧ x.drop n = y.drop n) id (by kernel_rfl) ⟨x.length, ⟨by simp, by rw [List.drop_of_length_le (by simp), List.drop_of_length_le (by omega)]⟩, weak_slots (by simp [hl])⟩ (fun n ⟨hn, hd⟩ => ?_)
    by_cases h2 : n = 0
    · subst h2
      simp at hd
      subst hd
      simp [s45, cmpN]
    · have h3 : n - 1 < x.length := by omega
      have h4 : n - 1 < y.length := by omega
      have h5 : ((n : Int) - 1).toNat = n - 1 := by omega
      have h6 : (1 : Int) ≤ n := by omega
      have h7 : 0 < n := by omega
      have e := Nat.sub_add_cancel h7
      by_cases h8 : ix x (n - 1) < ix y (n - 1)
      · have := cmp_lt hxg hyg h3 h4 (by rwa [e]) h8
        simp [s45, h5, h6, h7, rowAt_enc h3, rowAt_enc h4, h8, cmpN, this]
        omega
      · by_cases h9 : ix y (n - 1) < ix x (n - 1)
        · have := cmp_lt hyg hxg h4 h3 (by rw [e]; exact hd.symm) h9
          have h10 : ¬ val x < val y := by omega
          have h11 : ¬ val x = val y := by omega
          simp [s45, h5, h6, h7, rowAt_enc h3, rowAt_enc h4, h8, h9, cmpN, h10, h11]
          omega
        · have k5 : I64 ((n : Int) - 1 - 1) := by unfold I64; omega
          simp [s45, h5, h6, h7, rowAt_enc h3, rowAt_enc h4, h8, h9, k5]
          refine ⟨by omega, by omega, n - 1, ⟨by omega, ?_⟩, by omega, weak_slots (by simp; omega)⟩
          rw [drop_eq h3, drop_eq h4, e, hd]
          congr 1
          omega
  · have hl' : ¬ (x.length : Int) = y.length := by omega
    by_cases h : x.length < y.length
    · have := len_lt hxg hyg hyn h
      simp [s45, hl', h, cmpN, this]
    · have := len_lt hyg hxg hxn (by omega)
      have h' : ¬ val x < val y := by omega
      have h'' : ¬ val x = val y := by omega
      have h10 : ¬ x.length ≤ y.length := by omega
      have h11 : y.length < x.length := by omega
      simp [s45, hl', h, cmpN, h', h'', h10, h11]

set_option maxHeartbeats 2000000 in
theorem product38 : PureOK Tryd.prog G0 64 (spec2 (fun (x y : List Int) => (Good x ∧ x.length ≤ 128) ∧ Good y ∧ y.length ≤ 128) (fun x y => Enc.enc (canon (val x * val y)))) := by
  refine pure2 (C := C5) sig5 mix5 Tryd.func64 rfl rfl rfl (by kernel_rfl) (by decide) (fun x y ⟨⟨hx, hxl⟩, hy, hyl⟩ => ?_)
  have h1 : I64 ((x.length : Int) + y.length) := by unfold I64; omega
  have h2 : ((x.length : Int) + y.length).toNat = x.length + y.length := by omega
  simp [h1, h2]
  refine ⟨by omega, ?_⟩
  refine loop_rule (C := C5) sig5 mix5 (fun p : Nat × List Int => ⟨[(0, Enc.enc x), (1, Enc.enc y), (5, .own 0 (x.length + y.length)), (17, Enc.enc x), (18, .int .i64 x.length), (19, .int .i64 p.1)], [⟨3, 1, encRows p.2, true, true⟩]⟩)
    (fun p => p.1 ≤ x.length ∧ p.2.length = x.length + y.length ∧ Good p.2 ∧ val p.2 = val (x.take p.1) * val y ∧ ∀ k, p.1 + y.length ≤ k → ix p.2 k = 0)
    (fun p => x.length - p.1) (by kernel_rfl) ⟨(0, List.replicate (x.length + y.length) 0), ?_, weak_slots (by simp)⟩ (fun ⟨i, out⟩ ⟨hi, hl, hg, hv, hz⟩ => ?_)
  · exact ⟨Nat.zero_le _, by simp, good_rep _, by simp [val_rep, val], fun k _ => ix_rep _ k⟩
  simp only at hi hl hg hv hz ⊢
  by_cases h3 : i < x.length
  · simp [h3, rowAt_enc h3]
    refine loop_rule (C := C5) sig5 mix5 (fun p : Nat × Int × List Int => ⟨[(0, Enc.enc x), (1, Enc.enc y), (5, .own 0 (x.length + y.length)), (17, Enc.enc x), (18, .int .i64 x.length), (19, .int .i64 i), (6, .int .i64 i), (7, .int .i64 (ix x i)), (8, .int .i64 p.2.1), (24, Enc.enc y), (25, .int .i64 y.length), (26, .int .i64 p.1)], [⟨3, 1, encRows p.2.2, true, true⟩]⟩)
      (fun p => p.1 ≤ y.length ∧ p.2.2.length = x.length + y.length ∧ Good p.2.2 ∧ (0 ≤ p.2.1 ∧ p.2.1 < 1000000000) ∧ val p.2.2 + p.2.1.toNat * B9 ^ (i + p.1) = val (x.take i) * val y + (ix x i).toNat * B9 ^ i * val (y.take p.1) ∧ ∀ k, i + y.length ≤ k → ix p.2.2 k = 0)
      (fun p => y.length - p.1) (by kernel_rfl) ⟨(0, 0, out), ?_, weak_slots (by simp)⟩ (fun ⟨j, c, o⟩ ⟨hj, hol, hog, hc, hov, hoz⟩ => ?_)
    · exact ⟨Nat.zero_le _, hl, hg, by simp, by simp [hv, val], hz⟩
    simp only at hj hol hog hc hov hoz ⊢
    by_cases h4 : j < y.length
    · have h5 : ((i : Int) + j).toNat = i + j := by omega
      have h6 : i + j < o.length := by omega
      have h7 : I64 ((i : Int) + j) := by unfold I64; omega
      have hxi := ix_good hx h3
      have hyj := ix_good hy h4
      have hoi := ix_good hog h6
      have hp := mul_lim hxi hyj
      have e : ∀ s : Int, 0 ≤ s → s.tmod 1000000000 = s % 1000000000 := fun s hs => Int.tmod_eq_emod_of_nonneg hs
      have e' : ∀ s : Int, 0 ≤ s → s.tdiv 1000000000 = s / 1000000000 := fun s hs => Int.tdiv_eq_ediv_of_nonneg hs
      have hs : 0 ≤ c + (ix o (i + j) + ix x i * ix y j) := by omega
      have k1 : I64 (ix x i * ix y j) := by unfold I64; omega
      have k2 : I64 (ix o (i + j) + ix x i * ix y j) := by unfold I64; omega
      have k3 : I64 (c + (ix o (i + j) + ix x i * ix y j)) := by unfold I64; omega
      have k4 : I64 ((c + (ix o (i + j) + ix x i * ix y j)) / 1000000000) := by unfold I64; omega
      have k5 : I64 ((j : Int) + 1) := by unfold I64; omega
      simp [h4, h3, h5, h6, h7, rowAt_enc h6, rowAt_enc h3, rowAt_enc h4, e _ hs, e' _ hs, k1, k2, k3, k4, k5]
      refine ⟨by omega, by omega, by omega, by omega, j + 1, _, _, ⟨by omega, by simpa using hol, good_set hog (v := (c + (ix o (i + j) + ix x i * ix y j)) % 1000000000) (by omega), (by omega : 0 ≤ (c + (ix o (i + j) + ix x i * ix y j)) / 1000000000 ∧ (c + (ix o (i + j) + ix x i * ix y j)) / 1000000000 < 1000000000), ?_, fun k hk => ?_⟩, by omega, weak_slots (by simp)⟩
      · rw [val_take_succ h4, ← Nat.add_assoc i j 1, Nat.pow_succ]
        refine step_mul _ _ _ _ _ _ _ _ _ _ _ _ _ _ (Nat.pow_add B9 i j) (val_set h6) ?_ hov
        have : (ix x i * ix y j).toNat = (ix x i).toNat * (ix y j).toNat := Int.toNat_mul hxi.1 hyj.1
        rw [← this]
        unfold B9
        omega
      · rw [ix_set h6, if_neg (by omega)]
        exact hoz k hk
    · have hje : j = y.length := by omega
      subst hje
      have h5 : ((i : Int) + y.length).toNat = i + y.length := by omega
      have h6 : i + y.length < o.length := by omega
      have h7 : I64 ((i : Int) + y.length) := by unfold I64; omega
      have hz0 : ix o (i + y.length) = 0 := hoz _ (Nat.le_refl _)
      have hc2 : I64 c := by unfold I64; omega
      have k5 : I64 ((i : Int) + 1) := by unfold I64; omega
      simp [h4, h5, h6, h7, rowAt_enc h6, hz0, hc2, k5]
      refine ⟨by omega, ⟨hol, h3⟩, by omega, ⟨hol, h3⟩, i + 1, _, ⟨by omega, by simpa using hol, good_set hog hc, ?_, fun k hk => ?_⟩, by omega, weak_slots (by simp)⟩
      · rw [List.take_length] at hov
        exact step_row _ _ _ _ _ _ _ _ _ _ (val_set h6) (by rw [hoz _ (Nat.le_refl _)]; rfl) hov (val_take_succ h3)
      · rw [ix_set h6, if_neg (by omega)]
        exact hoz k (by omega)
  · simp [h3, s39, hl]
    rw [val_take_le (by omega)] at hv
    refine ⟨⟨hg, by omega⟩, by rw [hv]⟩


def s37 : List AV → Option (Prop × AV) := spec1 (fun l : List Int => Good l ∧ l.length ≤ 1000000) (fun l => fitT (val l))
def s24 : List AV → Option (Prop × AV) := spec2 (fun (a b : List Int) => a.length ≤ 1000000 ∧ b.length ≤ 1000000) (fun a b => .int .i64 (cmpN (nv a) (nv b)))
def s38 : List AV → Option (Prop × AV) := spec2 (fun (x y : List Int) => (Good x ∧ x.length ≤ 128) ∧ Good y ∧ y.length ≤ 128) (fun x y => Enc.enc (canon (val x * val y)))
noncomputable def C6 : Ctx := mkC Tryd.prog G0 [(43, .pure s24), (64, .pure s38), (63, .frz s37), (61, .pure s33), (70, .pure s45), (88, .frz s39), (87, .pure s26), (89, .pure s54), (33, .pure s20)]
@[simp] theorem C6_P : C6.P = Tryd.prog := rfl
@[simp] theorem C6_26 : C6.S 87 = .pure s26 := rfl
@[simp] theorem C6_54 : C6.S 89 = .pure s54 := rfl
@[simp] theorem C6_20 : C6.S 33 = .pure s20 := rfl
@[simp] theorem C6_33 : C6.S 61 = .pure s33 := rfl
@[simp] theorem C6_45 : C6.S 70 = .pure s45 := rfl
@[simp] theorem C6_24 : C6.S 43 = .pure s24 := rfl
@[simp] theorem C6_38 : C6.S 64 = .pure s38 := rfl
@[simp] theorem C6_39 : C6.S 88 = .frz s39 := rfl
@[simp] theorem C6_37 : C6.S 63 = .frz s37 := rfl
theorem sig6 : SigOK C6 := sigOK_cons (entryPure cmp24 Tryd.func43 rfl (by decide)) (sigOK_cons (entryPure product38 Tryd.func64 rfl (by decide)) (sigOK_cons (entryFrz fits37 Tryd.func63 rfl (by decide)) sig5))
theorem mix6 : C6.P.follows .mixedOrders = true := mixed

end Go.Proofs.YtfoipbjhaiimlaaDoor.Nt


/-
  nat: the program's functions, third part.
-/
namespace Go.Proofs.YtfoipbjhaiimlaaDoor.Nt
open Go.RowKit
set_option linter.unusedSimpArgs false
set_option linter.unusedVariables false

theorem val_mul_len {x y : List Int} (hx : Good x) (hy : Good y) (hxl : x.length ≤ 64) (hyl : y.length ≤ 64) : (canon (val x * val y)).length ≤ 128 := canon_len 128 _ (by
    have h5 := Nat.mul_lt_mul_of_lt_of_le (val_lt64 hx hxl) (Nat.le_of_lt (val_lt64 hy hyl)) (by decide)
    rwa [← Nat.pow_add] at h5)

set_option maxHeartbeats 1000000 in
theorem mul15 : PureOK Tryd.prog G0 34 (spec2 (fun (a b : List Int) => a.length ≤ 1000000 ∧ b.length ≤ 1000000) (fun a b => fitT (nv a * nv b))) := by
  refine pure2 (C := C6) sig6 mix6 Tryd.func34 rfl rfl rfl (by kernel_rfl) (by decide) (fun a b ⟨ha, hb⟩ => ?_)
  have hxl := numL_len a
  have hyl := numL_len b
  have hxg := numL_good a
  have hyg := numL_good b
  have hlen := val_mul_len hxg hyg hxl hyl
  simp [s33, s38, s37, ha, hb, hxg, hyg, canon_good, val_canon, fitT]
  exact ⟨⟨by omega, by omega⟩, by omega, rfl, Iff.rfl⟩

set_option maxHeartbeats 2000000 in
theorem add22 : PureOK Tryd.prog G0 37 (spec2 (fun (a b : List Int) => a.length ≤ 1000000 ∧ b.length ≤ 1000000) (fun a b => fitT (nv a + nv b))) := by
  refine pure2 (C := C6) sig6 mix6 Tryd.func37 rfl rfl rfl (by kernel_rfl) (by decide) (fun a b ⟨ha, hb⟩ => ?_)
  have hxl := numL_len a
  have hyl := numL_len b
  have hxg := numL_good a
  have hyg := numL_good b
  have e1 : fitT (nv a + nv b) = fitT (val (numL a) + val (numL b)) := rfl
  rw [e1]
  obtain ⟨m, hm, h1, h2, h3⟩ : ∃ m : Nat, (if (numL a).length < (numL b).length then ((numL b).length : Int) else (numL a).length) = m ∧ (numL a).length ≤ m ∧ (numL b).length ≤ m ∧ m ≤ 64 := by
    by_cases h : (numL a).length < (numL b).length
    · exact ⟨(numL b).length, by rw [if_pos h], by omega, by omega, by omega⟩
    · exact ⟨(numL a).length, by rw [if_neg h], by omega, by omega, by omega⟩
  have k0 : I64 ((m : Int) + 1) := by unfold I64; omega
  have k1 : ((m : Int) + 1).toNat = m + 1 := by omega
  simp [s33, ha, hb, hm, k0, k1]
  refine ⟨by omega, ?_⟩
  generalize numL a = x at *
  generalize numL b = y at *
  refine loop_rule (C := C6) sig6 mix6 (fun p : Nat × Int × List Int => ⟨[(0, Enc.enc x), (1, Enc.enc y), (6, .own 0 (m + 1)), (7, .int .i64 p.2.1), (21, .int .i64 ((m : Int) + 1)), (22, .int .i64 p.1)], [⟨3, 1, encRows p.2.2, true, true⟩]⟩)
    (fun p => p.1 ≤ m + 1 ∧ p.2.2.length = m + 1 ∧ Good p.2.2 ∧ (0 ≤ p.2.1 ∧ p.2.1 ≤ 1) ∧ val (p.2.2.take p.1) + p.2.1.toNat * B9 ^ p.1 = val (x.take p.1) + val (y.take p.1))
    (fun p => m + 1 - p.1) (by kernel_rfl) ⟨(0, 0, List.replicate (m + 1) 0), ⟨Nat.zero_le _, by simp, good_rep _, by simp, by simp [val]⟩, weak_slots (by simp)⟩ (fun ⟨i, c, o⟩ ⟨hi, hl, hg, hc, hv⟩ => ?_)
  simp only at hi hl hg hc hv ⊢
  by_cases h4 : i < m + 1
  · have h5 : (i : Int) < (m : Int) + 1 := by omega
    have h6 : i < o.length := by omega
    have hxi := ix_good' hxg i
    have hyi := ix_good' hyg i
    have hs : 0 ≤ c + ix x i + ix y i := by omega
    have fin : ∀ s : Int, s = c + ix x i + ix y i → ((i + 1 ≤ m + 1 ∧ (o.set i (s % 1000000000)).length = m + 1 ∧ Good (o.set i (s % 1000000000)) ∧ (0 ≤ s / 1000000000 ∧ s / 1000000000 ≤ 1) ∧ val ((o.set i (s % 1000000000)).take (i + 1)) + (s / 1000000000).toNat * B9 ^ (i + 1) = val (x.take (i + 1)) + val (y.take (i + 1))) ∧ m + 1 - (i + 1) < m + 1 - i) ∧ I64 s ∧ I64 (s / 1000000000) ∧ I64 ((i : Int) + 1) := by
      intro s hs
      refine ⟨⟨⟨by omega, by simp [hl], good_set hg (by omega), by omega, ?_⟩, by omega⟩, by unfold I64; omega, by unfold I64; omega, by unfold I64; omega⟩
      rw [take_set_succ h6, val_snoc, List.length_take, Nat.min_eq_left (by omega), val_take_succ', val_take_succ', Nat.pow_succ]
      refine step_add _ _ _ _ _ _ _ _ _ _ hv ?_
      unfold B9
      omega
    by_cases h7 : i < x.length
    · have k2 : I64 (c + ix x i) := by unfold I64; omega
      by_cases h8 : i < y.length
      · obtain ⟨⟨hI, hd⟩, k3, k4, k5⟩ := fin _ rfl
        simp [h5, h7, h8, rowAt_enc h7, rowAt_enc h8, rowAt_enc h6, k2, k3, k4, k5, tmod9 hs, tdiv9 hs]
        exact ⟨by omega, _, _, _, hI, hd, weak_slots (by simp)⟩
      · obtain ⟨⟨hI, hd⟩, k3, k4, k5⟩ := fin (c + ix x i) (by rw [ix_out (l := y) (by omega)]; omega)
        have hs' : 0 ≤ c + ix x i := by omega
        simp [h5, h7, h8, rowAt_enc h7, rowAt_enc h6, k2, k3, k4, k5, tmod9 hs', tdiv9 hs']
        exact ⟨by omega, _, _, _, hI, hd, weak_slots (by simp)⟩
    · by_cases h8 : i < y.length
      · obtain ⟨⟨hI, hd⟩, k3, k4, k5⟩ := fin (c + ix y i) (by rw [ix_out (l := x) (by omega)]; omega)
        have hs' : 0 ≤ c + ix y i := by omega
        simp [h5, h7, h8, rowAt_enc h8, rowAt_enc h6, k3, k4, k5, tmod9 hs', tdiv9 hs']
        exact ⟨by omega, _, _, _, hI, hd, weak_slots (by simp)⟩
      · obtain ⟨⟨hI, hd⟩, k3, k4, k5⟩ := fin c (by rw [ix_out (l := x) (by omega), ix_out (l := y) (by omega)]; omega)
        simp [h5, h7, h8, rowAt_enc h6, k3, k4, k5, tmod9 hc.1, tdiv9 hc.1]
        exact ⟨by omega, _, _, _, hI, hd, weak_slots (by simp)⟩
  · have h5 : ¬ (i : Int) < (m : Int) + 1 := by omega
    have him : i = m + 1 := by omega
    subst him
    rw [List.take_of_length_le (by omega), val_take_le (by omega), val_take_le (by omega)] at hv
    have hc0 : c = 0 := by
      rcases Int.lt_or_le 0 c with h | h
      · have : c.toNat = 1 := by omega
        rw [this, Nat.pow_succ] at hv
        have e1 := Nat.lt_of_lt_of_le (val_lt hxg) (B9_le h1)
        have e2 := Nat.lt_of_lt_of_le (val_lt hyg) (B9_le h2)
        have e3 : B9 ^ m * 2 ≤ B9 ^ m * B9 := Nat.mul_le_mul_left _ (by decide)
        omega
      · omega
    subst hc0
    have e : val x + val y = val o := by simpa using hv.symm
    rw [e]
    simp [h5, s37, hg, hl, fitT]
    omega

def s15 : List AV → Option (Prop × AV) := spec2 (fun (a b : List Int) => a.length ≤ 1000000 ∧ b.length ≤ 1000000) (fun a b => fitT (nv a * nv b))
def s22 : List AV → Option (Prop × AV) := spec2 (fun (a b : List Int) => a.length ≤ 1000000 ∧ b.length ≤ 1000000) (fun a b => fitT (nv a + nv b))
def s23 : List AV → Option (Prop × AV) := spec2 (fun (a b : List Int) => a.length ≤ 1000000 ∧ b.length ≤ 1000000) (fun a b => Enc.enc (canon (nv a - nv b)))
def s25 : List AV → Option (Prop × AV) := spec1 (fun (a : List Int) => a.length ≤ 1000000) (fun a => if nv a ≤ 9223372036854775807 then .tup [.int .i64 (nv a), .bool true] else .tup [.int .i64 0, .bool false])

end Go.Proofs.YtfoipbjhaiimlaaDoor.Nt


/-
  nat: the program's functions, fourth part: Clone, Pow.
-/
namespace Go.Proofs.YtfoipbjhaiimlaaDoor.Nt
open Go.RowKit
set_option linter.unusedSimpArgs false
set_option linter.unusedVariables false

theorem clone34 : PureOK Tryd.prog G0 62 (spec1 (fun l : List Int => l.length ≤ 1000000) (fun l => Enc.enc l)) := by
  refine pure1 (C := C0) sig0 mix0 Tryd.func62 rfl rfl rfl (by kernel_rfl) (by decide) (fun l hl => ?_)
  by_cases h : l.length = 0
  · have h' : l = [] := List.length_eq_zero_iff.1 h
    subst h'
    simp
  · simp [h]
    omega
def s34 : List AV → Option (Prop × AV) := spec1 (fun l : List Int => l.length ≤ 1000000) (fun l => Enc.enc l)
noncomputable def C7 : Ctx := mkC Tryd.prog G0 [(34, .pure s15), (62, .pure s34), (43, .pure s24), (64, .pure s38), (63, .frz s37), (61, .pure s33), (70, .pure s45), (88, .frz s39), (87, .pure s26), (89, .pure s54), (33, .pure s20)]
@[simp] theorem C7_P : C7.P = Tryd.prog := rfl
@[simp] theorem C7_15 : C7.S 34 = .pure s15 := rfl
@[simp] theorem C7_34 : C7.S 62 = .pure s34 := rfl
@[simp] theorem C7_24 : C7.S 43 = .pure s24 := rfl
@[simp] theorem C7_38 : C7.S 64 = .pure s38 := rfl
@[simp] theorem C7_33 : C7.S 61 = .pure s33 := rfl
@[simp] theorem C7_45 : C7.S 70 = .pure s45 := rfl
@[simp] theorem C7_26 : C7.S 87 = .pure s26 := rfl
@[simp] theorem C7_54 : C7.S 89 = .pure s54 := rfl
@[simp] theorem C7_20 : C7.S 33 = .pure s20 := rfl
@[simp] theorem C7_37 : C7.S 63 = .frz s37 := rfl
@[simp] theorem C7_39 : C7.S 88 = .frz s39 := rfl
theorem sig7 : SigOK C7 := sigOK_cons (entryPure mul15 Tryd.func34 rfl (by decide)) (sigOK_cons (entryPure clone34 Tryd.func62 rfl (by decide)) sig6)
theorem mix7 : C7.P.follows .mixedOrders = true := mixed

theorem and_one {k : Int} (h : 0 ≤ k) (h' : k ≤ 9223372036854775807) : bits2 .and .i64 k 1 = k % 2 := by
  obtain ⟨n, rfl⟩ := Int.eq_ofNat_of_zero_le h
  have e : (BitVec.ofInt 64 (n : Int) &&& BitVec.ofInt 64 1).toNat = n % 2 := by
    rw [BitVec.toNat_and]
    have h1 : (BitVec.ofInt 64 (n : Int)).toNat = n := by simp; omega
    have h2 : (BitVec.ofInt 64 1).toNat = 1 := by decide
    rw [h1, h2, Nat.and_one_is_mod]
  show IntKind.wrap .i64 ((BitVec.ofInt 64 (n : Int) &&& BitVec.ofInt 64 1).toNat : Int) = _
  rw [e]
  rcases Nat.mod_two_eq_zero_or_one n with h | h <;> rw [h] <;> first | (show (0 : Int) = _; omega) | (show (1 : Int) = _; omega)

theorem nv_canon {n : Nat} (h : (canon n).length ≤ 64) : nv (canon n) = n := by
  have : validR (canon n) = true := validR_iff.2 ⟨h, canon_good n, canon_norm n⟩
  unfold nv numL
  rw [if_pos this, val_canon]

theorem long_of {v K : Nat} {k : Int} {m : Nat} (h1 : ¬ k < 0) (hK : k.toNat = K) (hm : m ≤ v ^ K) (hl : 64 < (canon m).length) : powT v k = .tup [.slice 1 false [], .bool false] := by
  have := canon_mono hm
  rw [powT_of h1 rfl, hK, if_neg (by omega), decide_eq_false (by omega)]
  rfl

set_option maxHeartbeats 2000000 in
theorem pow11 : PureOK Tryd.prog G0 32 (spec2 (fun (a : List Int) (k : Int) => a.length ≤ 1000000 ∧ I64 k) (fun a k => powT (nv a) k)) := by
  refine pure2 (C := C7) sig7 mix7 Tryd.func32 rfl rfl rfl (by kernel_rfl) (by decide) (fun a k ⟨ha, hk⟩ => ?_)
  have hxl := numL_len a
  have hxg := numL_good a
  have hxn := numL_norm a
  by_cases h1 : k < 0
  · simp [h1, powT_neg]
  have e1 : powT (nv a) k = powT (val (numL a)) k := rfl
  rw [e1]
  simp [s33, ha, h1]
  generalize numL a = x at *
  have i1 : I64 1 := by unfold I64; omega
  by_cases h2 : k = 0
  · subst h2
    rw [powT_of (l := [1]) h1 (by simp [canon_one])]
    simp [s20, i1, canon_one]
  by_cases h3 : x.length = 0
  · obtain rfl := List.length_eq_zero_iff.1 h3
    rw [powT_of (l := []) h1 (by rw [val, Nat.zero_pow (by omega), canon_zero])]
    simp [h2, s34]
  have h0 : 0 < x.length := by omega
  by_cases h4 : x.length = 1 ∧ ix x 0 = 1
  · obtain ⟨h5, h6⟩ := h4
    have hx1 : x = [1] := by
      obtain ⟨x0, rfl⟩ := List.length_eq_one_iff.1 h5
      obtain rfl : x0 = 1 := h6
      rfl
    rw [powT_of (l := x) h1 (by rw [hx1]; simp [val, canon_one])]
    have h7 : x ≠ [] := fun h => by subst h; simp at h0
    simp [h2, h7, h5, rowAt_enc h0, h6, s34]
  have hv : 2 ≤ val x := by
    by_cases h5 : x.length = 1
    · obtain ⟨x0, rfl⟩ := List.length_eq_one_iff.1 h5
      have h6 : ¬ x0 = 1 := fun h => h4 ⟨h5, h⟩
      have := hxn (by simp)
      have h8 : ¬ x0 = 0 := this
      have := hxg.head
      simp [val]
      omega
    · have h6 := val_top hxg hxn (fun h => by subst h; simp at h0)
      have h7 : B9 ^ 1 ≤ B9 ^ (x.length - 1) := B9_le (by omega)
      rw [Nat.pow_one] at h7
      have : B9 = 1000000000 := rfl
      omega
  have hx0 : x ≠ [] := fun h => by subst h; simp at h0
  have fin : ∀ (o : List Int) (m : Nat), o = canon m → m = val x ^ k.toNat → o.length ≤ 64 → powT (val x) k = .tup [.slice 1 false (encRows o), .bool true] := fun o m h h' hl => by
    subst h
    rw [powT_of (l := canon m) h1 (by rw [← h']), if_pos hl, decide_eq_true hl]
  have key : ∀ st : ASt, Weak C7 59 0 st ⟨[(1, .int .i64 k), (6, Enc.enc (canon 1)), (8, Enc.enc x)], []⟩ → ∀ body Q, codeOK C7 59 body = true →
    (∀ p : Nat × Nat × Nat, (0 < p.1 ∧ p.1 ≤ k.toNat ∧ 1 ≤ p.2.1 ∧ 2 ≤ p.2.2 ∧ p.2.1 * p.2.2 ^ p.1 = val x ^ k.toNat ∧ (canon p.2.1).length ≤ 64 ∧ (canon p.2.2).length ≤ 64) →
      avc C7 59 0 body ⟨[(1, .int .i64 p.1), (6, Enc.enc (canon p.2.1)), (8, Enc.enc (canon p.2.2))], []⟩ (round (fun p : Nat × Nat × Nat => ⟨[(1, .int .i64 p.1), (6, Enc.enc (canon p.2.1)), (8, Enc.enc (canon p.2.2))], []⟩)
        (fun p => 0 < p.1 ∧ p.1 ≤ k.toNat ∧ 1 ≤ p.2.1 ∧ 2 ≤ p.2.2 ∧ p.2.1 * p.2.2 ^ p.1 = val x ^ k.toNat ∧ (canon p.2.1).length ≤ 64 ∧ (canon p.2.2).length ≤ 64) (fun p' => p'.1 < p.1) 59 0 C7 Q)) → AW C7 59 0 (.loop body) st Q := by
    intro st hw body Q hok h
    refine loop_rule (C := C7) sig7 mix7 _ _ (fun p => p.1) hok ⟨(k.toNat, 1, val x), ⟨by omega, Nat.le_refl _, Nat.le_refl _, hv, by simp, by simp [canon_one], by rw [canon_val hxg hxn]; exact hxl⟩, ?_⟩ h
    have e1 : ((k.toNat : Nat) : Int) = k := by omega
    rw [e1, canon_val hxg hxn]
    exact hw
  have h10 : k.toNat ≤ 9223372036854775807 := by unfold I64 at hk; omega
  by_cases h5 : x.length = 1
  have h6 : ¬ ix x 0 = 1 := fun h => h4 ⟨h5, h⟩
  simp [h2, hx0, h5, rowAt_enc h0, h6, s34, s20, i1]
  refine key _ (weak_slots (by simp)) _ _ (by kernel_rfl) (fun ⟨j, u, v⟩ ⟨hj0, hj, hu, hv2, hp, hul, hvl⟩ => ?_)
  rotate_left
  have h8 : ¬ (x.length : Int) = 1 := by omega
  simp [h2, hx0, h8, s34, s20, i1]
  refine ⟨by omega, key _ (weak_slots (by simp)) _ _ (by kernel_rfl) (fun ⟨j, u, v⟩ ⟨hj0, hj, hu, hv2, hp, hul, hvl⟩ => ?_)⟩
  rotate_left
  all_goals
    simp only at hj0 hj hu hv2 hp hul hvl ⊢
    have e2 := and_one (k := j) (by omega) (by omega)
    have e3 : Int.fdiv (j : Int) (2 ^ min 1 IntKind.i64.bits) = ((j / 2 : Nat) : Int) := by
      show Int.fdiv (j : Int) 2 = _
      rw [Int.fdiv_eq_ediv_of_nonneg _ (by omega)]; omega
    have nu := nv_canon hul
    have nw := nv_canon hvl
    have hdv : v ^ j = (v * v) ^ (j / 2) * v ^ (j % 2) := by rw [← Nat.pow_two, ← Nat.pow_mul, ← Nat.pow_add, Nat.div_add_mod]
    have hsq : j / 2 ≠ 0 → v * v ≤ v ^ j := fun hz => by
      rw [hdv]
      have h1 : (v * v) ^ 1 ≤ (v * v) ^ (j / 2) := Nat.pow_le_pow_right (Nat.mul_pos (by omega) (by omega)) (by omega)
      have h2 : 1 ≤ v ^ (j % 2) := Nat.pow_pos (by omega)
      have := Nat.mul_le_mul h1 h2
      rwa [Nat.pow_one, Nat.mul_one] at this
    have big : ∀ w : Nat, w ≤ val x ^ k.toNat → 64 < (canon w).length → powT (val x) k = .tup [.slice 1 false [], .bool false] := fun w hw hl => long_of h1 rfl hw hl
    have hvx : v ^ j ≤ val x ^ k.toNat := by rw [← hp]; exact Nat.le_mul_of_pos_left _ hu
    by_cases hodd : j % 2 = 1
    · have ho : (j : Int) % 2 = 1 := by omega
      by_cases hf : (canon (u * v)).length ≤ 64
      · by_cases hz : j / 2 = 0
        · have hj1 : j = 1 := by omega
          rw [hj1, Nat.pow_one] at hp
          have hz' : (j : Int) / 2 = 0 := by omega
          rw [fin _ (u * v) rfl hp hf]
          simp [e2, ho, s15, nu, nw, fitT, hf, e3, hz']
          omega
        · have hz' : ¬ ((j : Int) / 2 = 0) := by omega
          by_cases hg : (canon (v * v)).length ≤ 64
          · simp [e2, ho, s15, nu, nw, fitT, hf, e3, hz', hg]
            exact ⟨⟨by omega, by omega⟩, by omega, j / 2, u * v, v * v, ⟨by omega, by omega, Nat.mul_pos (by omega) (by omega), Nat.le_trans hv2 (Nat.le_mul_of_pos_left v (by omega)), by rw [← hp, hdv, hodd, Nat.pow_one, Nat.mul_assoc, Nat.mul_comm v], hf, hg⟩, by omega, weak_slots (by simp)⟩
          · have := big (v * v) (Nat.le_trans (hsq hz) hvx) (by omega)
            rw [this]
            simp [e2, ho, s15, nu, nw, fitT, hf, e3, hz', hg]
            omega
      · have := big (u * v) (by
          rw [← hp]
          refine Nat.mul_le_mul_left _ ?_
          have : v ^ 1 ≤ v ^ j := Nat.pow_le_pow_right (by omega) (by omega)
          rwa [Nat.pow_one] at this) (by omega)
        rw [this]
        simp [e2, ho, s15, nu, nw, fitT, hf]
        omega
    · have ho : (j : Int) % 2 = 0 := by omega
      have hz : j / 2 ≠ 0 := by omega
      have hz' : ¬ ((j : Int) / 2 = 0) := by omega
      by_cases hg : (canon (v * v)).length ≤ 64
      · simp [e2, ho, s15, nu, nw, fitT, e3, hz', hg]
        exact ⟨by omega, j / 2, u, v * v, ⟨by omega, by omega, hu, Nat.le_trans hv2 (Nat.le_mul_of_pos_left v (by omega)), by rw [← hp, hdv, show j % 2 = 0 by omega, Nat.pow_zero, Nat.mul_one], hul, hg⟩, by omega, weak_slots (by simp)⟩
      · have := big (v * v) (Nat.le_trans (hsq hz) hvx) (by omega)
        rw [this]
        simp [e2, ho, s15, nu, nw, fitT, e3, hz', hg]
        omega
end Go.Proofs.YtfoipbjhaiimlaaDoor.Nt


/-
  layers 29 and 31: hypergraphs: what is valid; looking for an element; the matrix of the program, in words.
-/
namespace Go.Proofs.YtfoipbjhaiimlaaDoor
open Go.RowKit
set_option linter.unusedSimpArgs false
set_option linter.unusedVariables false
set_option maxRecDepth 100000

/-- The first place of v, or -1. -/
def idxF {α : Type} [DecidableEq α] : List α → α → Int → Int
  | [], _, _ => -1
  | a :: r, v, k => if v = a then k else idxF r v (k + 1)
theorem idxF_lt {α : Type} [DecidableEq α] {v : α} : ∀ (l : List α) (k : Int), 0 ≤ k → (0 ≤ idxF l v k ↔ v ∈ l)
  | [], k, hk => by simp [idxF]
  | a :: r, k, hk => by
    unfold idxF
    by_cases h : v = a
    · simp [h, hk]
    · rw [if_neg h, idxF_lt r (k + 1) (by omega)]
      simp [h]
theorem idxF_drop {α : Type} [DecidableEq α] [Inhabited α] {l : List α} {i : Nat} (h : i < l.length) (v : α) : idxF (l.drop i) v i = if v = ix l i then (i : Int) else idxF (l.drop (i + 1)) v ((i + 1 : Nat) : Int) := by
  rw [List.drop_eq_getElem_cons h, ix_lt h]
  rfl
theorem idxF_end {α : Type} [DecidableEq α] {l : List α} {i : Nat} (h : ¬ i < l.length) (v : α) : idxF (l.drop i) v i = -1 := by
  rw [List.drop_eq_nil_of_le (by omega)]
  rfl
def sIdxI : List AV → Option (Prop × AV) := spec2 (fun (l : List Int) (_ : Int) => l.length ≤ 1000000) (fun l v => .int .i64 (idxF l v 0))
set_option maxHeartbeats 4000000 in
theorem idxI : PureOK Tryd.prog G0 59 sIdxI := by
  refine pure2 (C := CE) sigCE mixCE Tryd.func59 rfl rfl rfl (by kernel_rfl) (by decide) (fun l v hl => ?_)
  simp
  refine loop_rule (C := CE) sigCE mixCE (fun i : Nat => ⟨[(0, Enc.enc l), (1, .int .i64 v), (7, .int .i64 l.length), (8, .int .i64 i)], []⟩) (fun i => i ≤ l.length ∧ idxF (l.drop i) v i = idxF l v 0) (fun i => l.length - i) (by kernel_rfl) ⟨0, by simp, weak_slots (by simp)⟩ (fun i ⟨hi, hx⟩ => ?_)
  by_cases h : i < l.length
  · rw [idxF_drop h] at hx
    by_cases e : v = ix l i
    · rw [if_pos e] at hx
      simp [h, rowAt_enc h, ← e, ← hx]
    · rw [if_neg e] at hx
      have i1 : I64 ((i : Int) + 1) := by unfold I64; omega
      simp [h, rowAt_enc h, e, i1]
      exact ⟨i + 1, ⟨by omega, hx⟩, by omega, weak_slots (by simp)⟩
  · rw [idxF_end h] at hx
    simp [h, ← hx]
def sConI : List AV → Option (Prop × AV) := spec2 (fun (l : List Int) (_ : Int) => l.length ≤ 1000000) (fun l v => .bool (decide (v ∈ l)))
noncomputable def CIx : Ctx := mkC Tryd.prog G0 [(59, .pure sIdxI)]
@[simp] theorem CIx_P : CIx.P = Tryd.prog := rfl
@[simp] theorem CIx_G : CIx.G = G0 := rfl
@[simp] theorem CIx_1 : CIx.S 59 = .pure sIdxI := rfl
theorem mixCIx : CIx.P.follows .mixedOrders = true := mixed
theorem sigCIx : SigOK CIx := sigOK_cons (entryPure (idxI) Tryd.func59 rfl (by decide)) (sigOK_nil _ _)
theorem conI : PureOK Tryd.prog G0 26 sConI := by
  refine pure2 (C := CIx) sigCIx mixCIx Tryd.func26 rfl rfl rfl (by kernel_rfl) (by decide) (fun l v hl => ?_)
  simp [sIdxI, hl, idxF_lt l 0 (Int.le_refl 0)]
theorem hasR : PureOK Tryd.prog G0 53 sConI := by
  refine pure2 (C := CE) sigCE mixCE Tryd.func53 rfl rfl rfl (by kernel_rfl) (by decide) (fun l v hl => ?_)
  simp
  refine loop_rule (C := CE) sigCE mixCE (fun i : Nat => ⟨[(0, Enc.enc l), (1, .int .i64 v), (5, .int .i64 i)], []⟩) (fun i => i ≤ l.length ∧ ∀ j < i, ix l j ≠ v) (fun i => l.length - i) (by kernel_rfl) ⟨0, by simp, weak_slots (by simp)⟩ (fun i ⟨hi, hx⟩ => ?_)
  by_cases h : i < l.length
  · by_cases e : ix l i = v
    · have : v ∈ l := e ▸ ix_mem h
      simp [h, rowAt_enc h, e, this]
    · have i1 : I64 ((i : Int) + 1) := by unfold I64; omega
      simp [h, rowAt_enc h, e, i1]
      refine ⟨i + 1, ⟨by omega, fun j hj => ?_⟩, by omega, weak_slots (by simp)⟩
      rcases Nat.lt_or_eq_of_le (Nat.le_of_lt_succ hj) with h | rfl
      · exact hx j h
      · exact e
  · have : v ∉ l := fun hm => by
      obtain ⟨j, hj, rfl⟩ := List.mem_iff_getElem.1 hm
      exact hx j (by omega) (ix_lt hj)
    simp [h, this]

def OkE (N : Int) (e : List Int) : Prop := e ≠ [] ∧ ∀ k, k < e.length → 0 ≤ ix e k ∧ ix e k < N ∧ (0 < k → ix e (k - 1) < ix e k)
instance (N : Int) (e : List Int) : Decidable (OkE N e) := by unfold OkE; infer_instance
def ValidH (h : Hy) : Prop := 0 ≤ h.N ∧ h.N ≤ 24 ∧ h.E.length ≤ 12 ∧ ∀ e ∈ h.E, OkE h.N e
instance (h : Hy) : Decidable (ValidH h) := by unfold ValidH; infer_instance
structure SmallH (h : Hy) : Prop where
  n : h.E.length ≤ 1000000
  e : ∀ e ∈ h.E, e.length ≤ 1000000
def BadE (N : Int) (e : List Int) (k : Nat) : Prop := ix e k < 0 ∨ N ≤ ix e k ∨ 0 < k ∧ ix e k ≤ ix e (k - 1)
theorem okE_false {N : Int} {e : List Int} {k : Nat} (hk : k < e.length) (h : BadE N e k) : ¬ OkE N e := by
  rintro ⟨_, h2⟩
  obtain ⟨a, b, c⟩ := h2 k hk
  rcases h with h | h | ⟨h, h'⟩
  · omega
  · omega
  · have := c h; omega
theorem okE_true {N : Int} {e : List Int} (h0 : e ≠ []) (h : ∀ k, k < e.length → ¬ BadE N e k) : OkE N e := by
  refine ⟨h0, fun k hk => ?_⟩
  have := h k hk
  unfold BadE at this
  refine ⟨by omega, by omega, fun h => by omega⟩
def HyB (h : Hy) : Blk := ⟨24, 2, [[.int .i64 h.N, .slice 1 false (encRows h.E)]], true, true⟩
def sValidH : List AV → Option (Prop × AV) := spec1 SmallH (fun h => .bool (decide (ValidH h)))
set_option maxHeartbeats 8000000 in
theorem validHP : PureOK Tryd.prog G0 24 sValidH := by
  refine pure1 (C := CE) sigCE mixCE Tryd.func24 rfl rfl rfl (by kernel_rfl) (by decide) (fun h hs => ?_)
  have hsn := hs.n
  by_cases h1 : h.N < 0
  · have : ¬ ValidH h := fun hv => by have := hv.1; omega
    simp [h1, this]
  by_cases h2 : 24 < h.N
  · have : ¬ ValidH h := fun hv => by have := hv.2.1; omega
    simp [h1, h2, this]
  by_cases h3 : (12 : Int) < h.E.length
  · have : ¬ ValidH h := fun hv => by have := hv.2.2.1; omega
    simp [h1, h2, h3, this]
  simp [h1, h2, h3]
  refine loop_rule (C := CE) sigCE mixCE (fun i : Nat => ⟨[(1, .ptr 0 1 2 0 0), (22, Enc.enc h.E), (23, .int .i64 h.E.length), (24, .int .i64 i)], [HyB h]⟩) (fun i => i ≤ h.E.length ∧ ∀ j < i, OkE h.N (ix h.E j)) (fun i => h.E.length - i) (by kernel_rfl) ⟨0, by simp, weak_eq (by simp) (by simp [HyB])⟩ (fun i ⟨hi, hx⟩ => ?_)
  by_cases hl : i < h.E.length
  · have hel : (ix h.E i).length ≤ 1000000 := hs.e _ (ix_mem hl)
    by_cases he : ix h.E i = []
    · have : ¬ ValidH h := fun hv => (hv.2.2.2 _ (ix_mem hl)).1 he
      simp [HyB, hl, rowAt_enc hl, he, this]
    have he0 : ¬ (ix h.E i).length = 0 := fun h => he (List.length_eq_zero_iff.1 h)
    simp [HyB, hl, rowAt_enc hl, he, he0]
    refine loop_rule (C := CE) sigCE mixCE (fun k : Nat => ⟨[(1, .ptr 0 1 2 0 0), (4, Enc.enc (ix h.E i)), (22, Enc.enc h.E), (23, .int .i64 h.E.length), (24, .int .i64 i), (31, Enc.enc (ix h.E i)), (32, .int .i64 (ix h.E i).length), (33, .int .i64 k)], [HyB h]⟩) (fun k => k ≤ (ix h.E i).length ∧ ∀ j < k, ¬ BadE h.N (ix h.E i) j) (fun k => (ix h.E i).length - k) (by kernel_rfl) ⟨0, by simp, weak_eq (by simp) (by simp [HyB])⟩ (fun k ⟨hk, hy⟩ => ?_)
    by_cases hkl : k < (ix h.E i).length
    · by_cases hb : BadE h.N (ix h.E i) k
      · have hv : ¬ ValidH h := fun hv => okE_false hkl hb (hv.2.2.2 _ (ix_mem hl))
        have hb' := hb
        unfold BadE at hb'
        by_cases q1 : ix (ix h.E i) k < 0
        · simp [HyB, hkl, rowAt_enc hkl, q1, hv]
        by_cases q2 : h.N ≤ ix (ix h.E i) k
        · simp [HyB, hkl, rowAt_enc hkl, q1, q2, hv]
        have q3 : 0 < k := by omega
        have q4 : ix (ix h.E i) k ≤ ix (ix h.E i) (k - 1) := by omega
        have q5 : k - 1 < (ix h.E i).length := by omega
        have q6 : ((k : Int) - 1).toNat = k - 1 := by omega
        have q7 : (k : Int) - 1 < (ix h.E i).length := by omega
        have q8 : (0 : Int) ≤ (k : Int) - 1 := by omega
        have q9 : I64 ((k : Int) - 1) := by unfold I64; omega
        simp [HyB, hkl, rowAt_enc hkl, q1, q2, q3, q4, q6, q7, q8, q9, rowAt_enc q5, hv]
        omega
      · have hb' := hb
        unfold BadE at hb'
        have q1 : ¬ ix (ix h.E i) k < 0 := by omega
        have q2 : ¬ h.N ≤ ix (ix h.E i) k := by omega
        have i1 : I64 ((k : Int) + 1) := by unfold I64; omega
        have fin : ∀ j < k + 1, ¬ BadE h.N (ix h.E i) j := fun j hj => by
          rcases Nat.lt_or_eq_of_le (Nat.le_of_lt_succ hj) with h | rfl
          · exact hy j h
          · exact hb
        by_cases q3 : 0 < k
        · have q4 : ¬ ix (ix h.E i) k ≤ ix (ix h.E i) (k - 1) := by omega
          have q5 : k - 1 < (ix h.E i).length := by omega
          have q6 : ((k : Int) - 1).toNat = k - 1 := by omega
          have q7 : (k : Int) - 1 < (ix h.E i).length := by omega
          have q8 : (0 : Int) ≤ (k : Int) - 1 := by omega
          have q9 : I64 ((k : Int) - 1) := by unfold I64; omega
          simp [HyB, hkl, rowAt_enc hkl, q1, q2, q3, q4, q6, q7, q8, q9, rowAt_enc q5, i1]
          exact ⟨by omega, k + 1, ⟨by omega, fin⟩, by omega, weak_eq (by simp) (by simp [HyB])⟩
        · simp [HyB, hkl, rowAt_enc hkl, q1, q2, q3, i1]
          exact ⟨k + 1, ⟨by omega, fin⟩, by omega, weak_eq (by simp) (by simp [HyB])⟩
    · have i1 : I64 ((i : Int) + 1) := by unfold I64; omega
      simp [HyB, hkl, i1]
      refine ⟨i + 1, ⟨by omega, fun j hj => ?_⟩, by omega, weak_eq (by simp) (by simp [HyB])⟩
      rcases Nat.lt_or_eq_of_le (Nat.le_of_lt_succ hj) with h | rfl
      · exact hx j h
      · exact okE_true he fun k hk => hy k (by omega)
  · have : ValidH h := ⟨by omega, by omega, by omega, fun e he => by
      obtain ⟨j, hj, rfl⟩ := List.mem_iff_getElem.1 he
      have := hx j (by omega)
      rwa [ix_lt hj] at this⟩
    simp [HyB, hl, this]
end Go.Proofs.YtfoipbjhaiimlaaDoor


/-
  layers 29 and 31: the reference's Valid; small; fractions looked for; ones.
-/
namespace Go.Proofs.YtfoipbjhaiimlaaDoor
open Go.RowKit
set_option linter.unusedSimpArgs false
set_option linter.unusedVariables false
set_option maxRecDepth 100000

set_option maxHeartbeats 8000000 in
theorem validHR : PureOK Tryd.prog G0 28 sValidH := by
  refine pure1 (C := CE) sigCE mixCE Tryd.func28 rfl rfl rfl (by kernel_rfl) (by decide) (fun h hs => ?_)
  have hsn := hs.n
  by_cases h1 : h.N < 0
  · have : ¬ ValidH h := fun hv => by have := hv.1; omega
    simp [h1, this]
  by_cases h2 : 24 < h.N
  · have : ¬ ValidH h := fun hv => by have := hv.2.1; omega
    simp [h1, h2, this]
  by_cases h3 : (12 : Int) < h.E.length
  · have : ¬ ValidH h := fun hv => by have := hv.2.2.1; omega
    simp [h1, h2, h3, this]
  simp [h1, h2, h3]
  refine loop_rule (C := CE) sigCE mixCE (fun i : Nat => ⟨[(1, .ptr 0 1 2 0 0), (3, .int .i64 i)], [HyB h]⟩) (fun i => i ≤ h.E.length ∧ ∀ j < i, OkE h.N (ix h.E j)) (fun i => h.E.length - i) (by kernel_rfl) ⟨0, by simp, weak_eq (by simp) (by simp [HyB])⟩ (fun i ⟨hi, hx⟩ => ?_)
  by_cases hl : i < h.E.length
  · have hel : (ix h.E i).length ≤ 1000000 := hs.e _ (ix_mem hl)
    by_cases he : ix h.E i = []
    · have : ¬ ValidH h := fun hv => (hv.2.2.2 _ (ix_mem hl)).1 he
      simp [HyB, hl, rowAt_enc hl, he, this]
    have he0 : ¬ (ix h.E i).length = 0 := fun h => he (List.length_eq_zero_iff.1 h)
    simp [HyB, hl, rowAt_enc hl, he, he0]
    refine loop_rule (C := CE) sigCE mixCE (fun k : Nat => ⟨[(1, .ptr 0 1 2 0 0), (3, .int .i64 i), (4, Enc.enc (ix h.E i)), (5, .int .i64 k)], [HyB h]⟩) (fun k => k ≤ (ix h.E i).length ∧ ∀ j < k, ¬ BadE h.N (ix h.E i) j) (fun k => (ix h.E i).length - k) (by kernel_rfl) ⟨0, by simp, weak_eq (by simp) (by simp [HyB])⟩ (fun k ⟨hk, hy⟩ => ?_)
    by_cases hkl : k < (ix h.E i).length
    · by_cases hb : BadE h.N (ix h.E i) k
      · have hv : ¬ ValidH h := fun hv => okE_false hkl hb (hv.2.2.2 _ (ix_mem hl))
        have hb' := hb
        unfold BadE at hb'
        by_cases q1 : ix (ix h.E i) k < 0
        · simp [HyB, hkl, rowAt_enc hkl, q1, hv]
        by_cases q2 : h.N ≤ ix (ix h.E i) k
        · simp [HyB, hkl, rowAt_enc hkl, q1, q2, hv]
        have q3 : 0 < k := by omega
        have q4 : ix (ix h.E i) k ≤ ix (ix h.E i) (k - 1) := by omega
        have q5 : k - 1 < (ix h.E i).length := by omega
        have q6 : ((k : Int) - 1).toNat = k - 1 := by omega
        have q7 : (k : Int) - 1 < (ix h.E i).length := by omega
        have q8 : (0 : Int) ≤ (k : Int) - 1 := by omega
        have q9 : I64 ((k : Int) - 1) := by unfold I64; omega
        simp [HyB, hkl, rowAt_enc hkl, q1, q2, q3, q4, q6, q7, q8, q9, rowAt_enc q5, hv]
        omega
      · have hb' := hb
        unfold BadE at hb'
        have q1 : ¬ ix (ix h.E i) k < 0 := by omega
        have q2 : ¬ h.N ≤ ix (ix h.E i) k := by omega
        have i1 : I64 ((k : Int) + 1) := by unfold I64; omega
        have fin : ∀ j < k + 1, ¬ BadE h.N (ix h.E i) j := fun j hj => by
          rcases Nat.lt_or_eq_of_le (Nat.le_of_lt_succ hj) with h | rfl
          · exact hy j h
          · exact hb
        by_cases q3 : 0 < k
        · have q4 : ¬ ix (ix h.E i) k ≤ ix (ix h.E i) (k - 1) := by omega
          have q5 : k - 1 < (ix h.E i).length := by omega
          have q6 : ((k : Int) - 1).toNat = k - 1 := by omega
          have q7 : (k : Int) - 1 < (ix h.E i).length := by omega
          have q8 : (0 : Int) ≤ (k : Int) - 1 := by omega
          have q9 : I64 ((k : Int) - 1) := by unfold I64; omega
          simp [HyB, hkl, rowAt_enc hkl, q1, q2, q3, q4, q6, q7, q8, q9, rowAt_enc q5, i1]
          exact ⟨by omega, k + 1, ⟨by omega, fin⟩, by omega, weak_eq (by simp) (by simp [HyB])⟩
        · simp [HyB, hkl, rowAt_enc hkl, q1, q2, q3, i1]
          exact ⟨k + 1, ⟨by omega, fin⟩, by omega, weak_eq (by simp) (by simp [HyB])⟩
    · have i1 : I64 ((i : Int) + 1) := by unfold I64; omega
      simp [HyB, hkl, i1]
      refine ⟨i + 1, ⟨by omega, fun j hj => ?_⟩, by omega, weak_eq (by simp) (by simp [HyB])⟩
      rcases Nat.lt_or_eq_of_le (Nat.le_of_lt_succ hj) with h | rfl
      · exact hx j h
      · exact okE_true he fun k hk => hy k (by omega)
  · have : ValidH h := ⟨by omega, by omega, by omega, fun e he => by
      obtain ⟨j, hj, rfl⟩ := List.mem_iff_getElem.1 he
      have := hx j (by omega)
      rwa [ix_lt hj] at this⟩
    simp [HyB, hl, this]

structure LightH (h : Hy) : Prop where
  n : h.E.length ≤ 14
  e : ∀ e ∈ h.E, e.length ≤ 30
instance (h : Hy) : Decidable (LightH h) := decidable_of_iff (h.E.length ≤ 14 ∧ ∀ e ∈ h.E, e.length ≤ 30) ⟨fun h => ⟨h.1, h.2⟩, fun h => ⟨h.n, h.e⟩⟩
theorem LightH.small {h : Hy} (l : LightH h) : SmallH h := ⟨by have := l.n; omega, fun e he => by have := l.e e he; omega⟩
def sSmallH : List AV → Option (Prop × AV) := spec1 (fun (_ : Hy) => True) (fun h => .bool (decide (LightH h)))
set_option maxHeartbeats 4000000 in
theorem smallHP : PureOK Tryd.prog G0 7 sSmallH := by
  refine pure1 (C := CE) sigCE mixCE Tryd.func7 rfl rfl rfl (by kernel_rfl) (by decide) (fun h _ => ?_)
  by_cases h1 : (14 : Int) < h.E.length
  · have : ¬ LightH h := fun l => by have := l.n; omega
    simp [h1, this]
  simp [h1]
  refine loop_rule (C := CE) sigCE mixCE (fun i : Nat => ⟨[(1, .ptr 0 1 2 0 0), (10, Enc.enc h.E), (11, .int .i64 h.E.length), (12, .int .i64 i)], [HyB h]⟩) (fun i => i ≤ h.E.length ∧ ∀ j < i, (ix h.E j).length ≤ 30) (fun i => h.E.length - i) (by kernel_rfl) ⟨0, by simp, weak_eq (by simp) (by simp [HyB])⟩ (fun i ⟨hi, hx⟩ => ?_)
  by_cases hl : i < h.E.length
  · have i1 : I64 ((i : Int) + 1) := by unfold I64; omega
    by_cases he : (30 : Int) < (ix h.E i).length
    · have : ¬ LightH h := fun l => by have := l.e _ (ix_mem hl); omega
      simp [HyB, hl, rowAt_enc hl, he, this]
    simp [HyB, hl, rowAt_enc hl, he, i1]
    refine ⟨i + 1, ⟨by omega, fun j hj => ?_⟩, by omega, weak_eq (by simp) (by simp [HyB])⟩
    rcases Nat.lt_or_eq_of_le (Nat.le_of_lt_succ hj) with h | rfl
    · exact hx j h
    · omega
  · have : LightH h := ⟨by omega, fun e he => by
      obtain ⟨j, hj, rfl⟩ := List.mem_iff_getElem.1 he
      have := hx j (by omega)
      rwa [ix_lt hj] at this⟩
    simp [HyB, hl, this]

instance : DecidableEq Fr := fun a b => if h : a.N = b.N ∧ a.D = b.D then .isTrue (by cases a; cases b; simp_all) else .isFalse (fun e => h (by rw [e]; exact ⟨rfl, rfl⟩))
def sIdxF : List AV → Option (Prop × AV) := spec2 (fun (l : List Fr) (_ : Fr) => l.length ≤ 1000000) (fun l v => .int .i64 (idxF l v 0))
theorem frx_eq (a b : Fr) : (a = b) = (a.N = b.N ∧ a.D = b.D) := by
  apply propext
  constructor
  · rintro rfl; exact ⟨rfl, rfl⟩
  · rintro ⟨h1, h2⟩; cases a; cases b; simp_all
set_option maxHeartbeats 4000000 in
theorem idxFP : PureOK Tryd.prog G0 91 sIdxF := by
  refine pure2 (C := CE) sigCE mixCE Tryd.func91 rfl rfl rfl (by kernel_rfl) (by decide) (fun l v hl => ?_)
  simp
  refine loop_rule (C := CE) sigCE mixCE (fun i : Nat => ⟨[(0, Enc.enc l), (3, .ptr 0 1 2 0 0), (7, .int .i64 l.length), (8, .int .i64 i)], [FB v]⟩) (fun i => i ≤ l.length ∧ idxF (l.drop i) v i = idxF l v 0) (fun i => l.length - i) (by kernel_rfl) ⟨0, by simp, weak_eq (by simp) (by simp [FB])⟩ (fun i ⟨hi, hx⟩ => ?_)
  by_cases h : i < l.length
  · have i1 : I64 ((i : Int) + 1) := by unfold I64; omega
    rw [idxF_drop h] at hx
    by_cases e : v = ix l i
    · rw [if_pos e] at hx
      rw [frx_eq] at e
      simp [FB, h, rowAt_enc h, ← e.1, ← e.2, ← hx]
    · rw [if_neg e] at hx
      rw [frx_eq] at e
      by_cases e1 : v.N = (ix l i).N
      · have e2 : ¬ v.D = (ix l i).D := fun h => e ⟨e1, h⟩
        simp [FB, h, rowAt_enc h, e1, e2, i1]
        exact ⟨i + 1, ⟨by omega, hx⟩, by omega, weak_eq (by simp) (by simp [FB, e1])⟩
      · simp [FB, h, rowAt_enc h, e1, i1]
        exact ⟨i + 1, ⟨by omega, hx⟩, by omega, weak_eq (by simp) (by simp [FB])⟩
  · rw [idxF_end h] at hx
    simp [FB, h, ← hx]
def sConF : List AV → Option (Prop × AV) := spec2 (fun (l : List Fr) (_ : Fr) => l.length ≤ 1000000) (fun l v => .bool (decide (v ∈ l)))
noncomputable def CIf : Ctx := mkC Tryd.prog G0 [(91, .pure sIdxF)]
@[simp] theorem CIf_P : CIf.P = Tryd.prog := rfl
@[simp] theorem CIf_G : CIf.G = G0 := rfl
@[simp] theorem CIf_1 : CIf.S 91 = .pure sIdxF := rfl
theorem mixCIf : CIf.P.follows .mixedOrders = true := mixed
theorem sigCIf : SigOK CIf := sigOK_cons (entryPure (idxFP) Tryd.func91 rfl (by decide)) (sigOK_nil _ _)
theorem conFP : PureOK Tryd.prog G0 73 sConF := by
  refine pure2 (C := CIf) sigCIf mixCIf Tryd.func73 rfl rfl rfl (by kernel_rfl) (by decide) (fun l v hl => ?_)
  simp [sIdxF, hl, idxF_lt l 0 (Int.le_refl 0)]

def entF (b : Bool) : Fr := if b then F11 else F01
def sEntry : List AV → Option (Prop × AV) := spec1 (fun (_ : Bool) => True) (fun b => Enc.enc (entF b))
theorem entryP : PureOK Tryd.prog G0 72 sEntry := by
  refine pure1 (C := CE) sigCE mixCE Tryd.func72 rfl rfl rfl (by kernel_rfl) (by decide) (fun b _ => ?_)
  cases b <;> simp [entF, F11, F01]
theorem oneR : PureOK Tryd.prog G0 54 (spec0 (Enc.enc F11)) := by
  refine pureH0 (C := CE) sigCE mixCE Tryd.func54 rfl rfl rfl [] (by kernel_rfl) ?_
  simp [F11]
end Go.Proofs.YtfoipbjhaiimlaaDoor


/-
  slices.Repeat of one fraction; ones.
-/
namespace Go.Proofs.YtfoipbjhaiimlaaDoor
open Go.RowKit
set_option linter.unusedSimpArgs false
set_option linter.unusedVariables false
set_option maxRecDepth 100000

noncomputable def CMu : Ctx := mkC Tryd.prog G0 [(103, .pure sMul64)]
@[simp] theorem CMu_P : CMu.P = Tryd.prog := rfl
@[simp] theorem CMu_G : CMu.G = G0 := rfl
@[simp] theorem CMu_1 : CMu.S 103 = .pure sMul64 := rfl
theorem mixCMu : CMu.P.follows .mixedOrders = true := mixed
theorem sigCMu : SigOK CMu := sigOK_cons (entryPure (mul64P) Tryd.func103 rfl (by decide)) (sigOK_nil _ _)
def sMulU : List AV → Option (Prop × AV)
  | [.int .u64 a, .int .u64 b] => some (a = 1 ∧ 0 ≤ b ∧ b ≤ 1000, .tup [.int .u64 0, .int .u64 b])
  | _ => none
theorem mulUP : PureOK Tryd.prog G0 98 sMulU := by
  refine pure_of (C := CMu) sigCMu mixCMu Tryd.func98 rfl rfl rfl (by kernel_rfl) (fun avs ob r hp hob => ?_)
  unfold sMulU at hp
  split at hp
  case h_2 => cases hp
  injection hp with hp; injection hp with e1 e2; subst e1 e2
  rename_i a b
  obtain ⟨rfl, h1, h2⟩ := hob
  refine ⟨by show 2 ≤ _; decide, ?_⟩
  have q1 : W64 1 := by unfold W64; omega
  have q2 : W64 b := by unfold W64; omega
  have q3 : b / 18446744073709551616 = 0 := by omega
  have q4 : b % 18446744073709551616 = b := by omega
  simp [argsρ, sMul64, q1, q2, q3, q4]
def rpK (f : Fr) (n k : Nat) : List Fr := List.replicate k f ++ List.replicate (n - k) F00
theorem rpK_len {f : Fr} {n k : Nat} (h : k ≤ n) : (rpK f n k).length = n := by unfold rpK; simp; omega
theorem rpK_step {f : Fr} {n k : Nat} (h : k ≤ n) : (rpK f n k).take k ++ (((rpK f n k).drop 0).take k).take (n - k) ++ (rpK f n k).drop (k + min k (n - k)) = rpK f n (k + min k (n - k)) := by
  have e1 : (rpK f n k).take k = List.replicate k f := by unfold rpK; rw [List.take_left' (by simp)]
  rw [List.drop_zero, e1, List.take_replicate]
  unfold rpK
  rw [List.drop_append, List.drop_replicate, List.drop_replicate, List.length_replicate, show k - (k + min k (n - k)) = 0 by omega, List.replicate_zero, List.nil_append, List.replicate_append_replicate]
  congr 2
  · omega
  · omega
def sRepeat : List AV → Option (Prop × AV) := spec2 (fun (l : List Fr) (n : Int) => l.length = 1 ∧ 0 ≤ n ∧ n ≤ 1000) (fun l n => Enc.enc (List.replicate n.toNat (ix l 0)))
noncomputable def CRt : Ctx := mkC Tryd.prog G0 [(98, .pure sMulU)]
@[simp] theorem CRt_P : CRt.P = Tryd.prog := rfl
@[simp] theorem CRt_G : CRt.G = G0 := rfl
@[simp] theorem CRt_1 : CRt.S 98 = .pure sMulU := rfl
theorem mixCRt : CRt.P.follows .mixedOrders = true := mixed
theorem sigCRt : SigOK CRt := sigOK_cons (entryPure (mulUP) Tryd.func98 rfl (by decide)) (sigOK_nil _ _)
set_option maxHeartbeats 8000000 in
theorem repeatP : PureOK Tryd.prog G0 90 sRepeat := by
  refine pure2 (C := CRt) sigCRt mixCRt Tryd.func90 rfl rfl rfl (by kernel_rfl) (by decide) (fun l n ⟨hl, h1, h2⟩ => ?_)
  obtain ⟨f, rfl⟩ := List.length_eq_one_iff.1 hl
  obtain ⟨n, rfl⟩ := Int.eq_ofNat_of_zero_le h1
  have w1 : IntKind.wrap .u64 (n : Int) = n := by rw [IntKind.wrap_u64]; omega
  have w2 : IntKind.wrap .i64 (n : Int) = n := IntWalk.i64_in _ (by omega)
  have w3 : IntKind.wrap .u64 1 = 1 := by decide
  have w4 : ¬ (9223372036854775807 : Int) < n := by omega
  have w5 : ¬ (n : Int) < 0 := by omega
  by_cases n0 : n = 0
  · subst n0
    have w0 : IntKind.wrap .u64 0 = 0 := by decide
    have w00 : IntKind.wrap .i64 0 = 0 := by decide
    simp [sMulU, w0, w00, w3]
    refine loop_rule (C := CRt) sigCRt mixCRt (fun _ : Nat => ⟨[(7, .own 0 0), (8, .int .i64 0)], [⟨30, 2, [], true, true⟩]⟩) (fun _ => True) (fun k => k) (by kernel_rfl) ⟨0, trivial, weak_eq (by simp) (by simp)⟩ (fun _ _ => ?_)
    simp
  have n1 : min 1 n = 1 := by omega
  have n2 : List.take n [[AV.int .i64 f.N, AV.int .i64 f.D]] = [[.int .i64 f.N, .int .i64 f.D]] := List.take_of_length_le (by simp; omega)
  have e1 : [[AV.int .i64 f.N, AV.int .i64 f.D]] ++ List.replicate (n - 1) [AV.int .i64 0, AV.int .i64 0] = encRows (rpK f n 1) := by
    unfold rpK
    rw [encRows_append]
    simp [encRows, F00]
  simp [sMulU, w1, w2, w3, w4, w5, h2]
  refine ⟨(by first | omega | (unfold I64; omega)), ?_⟩
  refine loop_rule (C := CRt) sigCRt mixCRt (fun k : Nat => ⟨[(7, .own 0 n), (8, .int .i64 k)], [⟨30, 2, encRows (rpK f n k), true, true⟩]⟩) (fun k => 1 ≤ k ∧ k ≤ n) (fun k => n - k) (by kernel_rfl) ⟨1, by omega, weak_eq (by simp [n1]) (by rw [n1, n2]; simpa using e1)⟩ (fun k ⟨k1, k2⟩ => ?_)
  have hlen := rpK_len (f := f) k2
  by_cases hk : k < n
  · have hst := rpK_step (f := f) k2
    have i1 : I64 ((k : Int) + (min k (n - k) : Nat)) := by unfold I64; omega
    have k3 : (k : Int) ≤ n := by omega
    simp [hlen, hk, k3, i1]
    refine ⟨k + min k (n - k), by omega, by omega, weak_eq (by simp) ?_⟩
    rw [List.drop_zero] at hst
    rw [← hst]
    simp [List.append_assoc]
  · have : k = n := by omega
    subst this
    simp [hk, hlen]
    simp [rpK]
    rfl
end Go.Proofs.YtfoipbjhaiimlaaDoor


/-
  layer 31: the linear program of a hypergraph, the program's side.
-/
namespace Go.Proofs.YtfoipbjhaiimlaaDoor
open Go.RowKit
set_option linter.unusedSimpArgs false
set_option linter.unusedVariables false
set_option maxRecDepth 100000

def sOnes : List AV → Option (Prop × AV) := spec1 (fun (n : Int) => 0 ≤ n ∧ n ≤ 1000) (fun n => Enc.enc (List.replicate n.toNat F11))
noncomputable def COn : Ctx := mkC Tryd.prog G0 [(72, .pure sEntry), (90, .pure sRepeat)]
@[simp] theorem COn_P : COn.P = Tryd.prog := rfl
@[simp] theorem COn_G : COn.G = G0 := rfl
@[simp] theorem COn_1 : COn.S 72 = .pure sEntry := rfl
@[simp] theorem COn_2 : COn.S 90 = .pure sRepeat := rfl
theorem mixCOn : COn.P.follows .mixedOrders = true := mixed
theorem sigCOn : SigOK COn := sigOK_cons (entryPure (entryP) Tryd.func72 rfl (by decide)) (sigOK_cons (entryPure (repeatP) Tryd.func90 rfl (by decide)) (sigOK_nil _ _))
theorem onesP : PureOK Tryd.prog G0 71 sOnes := by
  refine pure1 (C := COn) sigCOn mixCOn Tryd.func71 rfl rfl rfl (by kernel_rfl) (by decide) (fun n ⟨h1, h2⟩ => ?_)
  have e : isScalT COn 25 = true := by show isScalT ⟨Tryd.prog, fun _ => .no, G0⟩ 25 = true; kernel_rfl
  have e1 : Enc.dec (.slice 2 false [[.int .i64 1, .int .i64 1]]) = [F11] := rfl
  have e2 : ix [F11] 0 = F11 := rfl
  simp [sEntry, sRepeat, entF, F11, h1, h2, e]
  rfl

/-- The row of a vertex. -/
def rowH (h : Hy) (v : Nat) : List Fr := h.E.map fun e => entF (decide ((v : Int) ∈ e))
def matH (h : Hy) (k : Nat) : List (List Fr) := (List.range k).map (rowH h)
theorem matH_succ (h : Hy) (k : Nat) : matH h (k + 1) = matH h k ++ [rowH h k] := by unfold matH; rw [List.range_succ, List.map_append]; rfl
theorem matH_len (h : Hy) (k : Nat) : (matH h k).length = k := by unfold matH; simp
def linH (h : Hy) : Lin := ⟨matH h h.N.toNat, List.replicate h.N.toNat F11, List.replicate h.E.length F11⟩
/-- Vertex v is in some edge. -/
def SomeH (h : Hy) (v : Nat) : Prop := ∃ e ∈ h.E, (v : Int) ∈ e
instance (h : Hy) (v : Nat) : Decidable (SomeH h v) := by unfold SomeH; infer_instance
def progH (h : Hy) : Lin × Int := if ¬ ValidH h ∨ h.N = 0 then (L00, 1) else if ∀ v, v < h.N.toNat → SomeH h v then (linH h, 0) else (L00, 23)
theorem mem_rowH (h : Hy) (v : Nat) : F11 ∈ rowH h v ↔ SomeH h v := by
  unfold rowH SomeH
  rw [List.mem_map]
  constructor
  · rintro ⟨e, he, h1⟩
    refine ⟨e, he, ?_⟩
    by_cases hv : (v : Int) ∈ e
    · exact hv
    · exfalso; rw [decide_eq_false hv] at h1; revert h1; decide
  · rintro ⟨e, he, hv⟩
    exact ⟨e, he, by rw [decide_eq_true hv]; rfl⟩

def rowI (h : Hy) (v i : Nat) : List Fr := (rowH h v).take i ++ List.replicate (h.E.length - i) F00
theorem rowH_len (h : Hy) (v : Nat) : (rowH h v).length = h.E.length := by unfold rowH; simp
theorem rowI_len {h : Hy} {v i : Nat} (hi : i ≤ h.E.length) : (rowI h v i).length = h.E.length := by unfold rowI; simp [rowH_len]; omega
theorem rowI_set {h : Hy} {v i : Nat} (hi : i < h.E.length) : (rowI h v i).set i (entF (decide ((v : Int) ∈ ix h.E i))) = rowI h v (i + 1) := by
  have hl := rowH_len h v
  have e : ix (rowH h v) i = entF (decide ((v : Int) ∈ ix h.E i)) := by
    rw [ix_lt (by omega), ix_lt hi]
    unfold rowH
    rw [List.getElem_map]
  have ht : ((rowH h v).take i).length = i := by rw [List.length_take]; omega
  unfold rowI
  rw [List.set_append, if_neg (by rw [ht]; omega), ht, Nat.sub_self, show h.E.length - i = (h.E.length - (i + 1)) + 1 by omega, List.replicate_succ, List.set_cons_zero, List.take_succ_eq_append_getElem (by omega), ← ix_lt (show i < (rowH h v).length by omega), e, List.append_assoc]
  rfl
theorem rowI_all (h : Hy) (v : Nat) : rowI h v h.E.length = rowH h v := by unfold rowI; rw [Nat.sub_self, List.take_of_length_le (by rw [rowH_len]; exact Nat.le_refl _)]; simp
theorem rowI_nil (h : Hy) (v : Nat) : rowI h v 0 = List.replicate h.E.length F00 := by unfold rowI; simp
def PLB (h : Hy) (v : Nat) : Blk := ⟨44, 3, [[.own 3 v, .slice 2 false (encRows (List.replicate h.N.toNat F11)), .slice 2 false (encRows (List.replicate h.E.length F11))]], true, false⟩
@[simp] theorem rows_repF00 (n : Nat) : List.replicate n [AV.int .i64 0, AV.int .i64 0] = encRows (List.replicate n F00) := by simp [encRows, F00]
@[simp] theorem rows_setF (l : List Fr) (i : Nat) (x : Fr) : (encRows l).set i [.int .i64 x.N, .int .i64 x.D] = encRows (l.set i x) := encRows_set l i x
@[simp] theorem entF_t : entF true = F11 := rfl
def sProg : List AV → Option (Prop × AV) := spec1 SmallH (fun h => .tup [Enc.enc (progH h).1, .int .i64 (progH h).2])
noncomputable def CPr : Ctx := mkC Tryd.prog G0 [(24, .pure sValidH), (71, .pure sOnes), (72, .pure sEntry), (26, .pure sConI), (73, .pure sConF)]
@[simp] theorem CPr_P : CPr.P = Tryd.prog := rfl
@[simp] theorem CPr_G : CPr.G = G0 := rfl
@[simp] theorem CPr_1 : CPr.S 24 = .pure sValidH := rfl
@[simp] theorem CPr_2 : CPr.S 71 = .pure sOnes := rfl
@[simp] theorem CPr_3 : CPr.S 72 = .pure sEntry := rfl
@[simp] theorem CPr_4 : CPr.S 26 = .pure sConI := rfl
@[simp] theorem CPr_5 : CPr.S 73 = .pure sConF := rfl
theorem mixCPr : CPr.P.follows .mixedOrders = true := mixed
theorem sigCPr : SigOK CPr := sigOK_cons (entryPure (validHP) Tryd.func24 rfl (by decide)) (sigOK_cons (entryPure (onesP) Tryd.func71 rfl (by decide)) (sigOK_cons (entryPure (entryP) Tryd.func72 rfl (by decide)) (sigOK_cons (entryPure (conI) Tryd.func26 rfl (by decide)) (sigOK_cons (entryPure (conFP) Tryd.func73 rfl (by decide)) (sigOK_nil _ _)))))
set_option maxHeartbeats 16000000 in
theorem programP : PureOK Tryd.prog G0 44 sProg := by
  refine pureH1 (C := CPr) sigCPr mixCPr Tryd.func44 rfl rfl rfl [3] (by kernel_rfl) (by decide) (fun h hs => ?_)
  by_cases hv : ValidH h
  case neg =>
    have e : progH h = (L00, 1) := if_pos (.inl hv)
    simp [sValidH, hs, hv, e, L00]
  by_cases h0 : h.N = 0
  · have e : progH h = (L00, 1) := if_pos (.inr h0)
    have h0' : (h.N = 0) = True := eq_true h0
    simp [sValidH, hs, hv, h0', e, L00]
  obtain ⟨v1, v2, v3, v4⟩ := hv
  have hv : ValidH h := ⟨v1, v2, v3, v4⟩
  have hN : ((h.N.toNat : Nat) : Int) = h.N := by omega
  have hb : h.N ≤ 1000 := by omega
  have hb2 : (h.E.length : Int) ≤ 1000 := by omega
  have hp : progH h = if ∀ v, v < h.N.toNat → SomeH h v then (linH h, 0) else (L00, 23) := if_neg (by rintro (h | h) <;> contradiction)
  have sc : isScalT CPr 42 = false := by show isScalT ⟨Tryd.prog, fun _ => .no, G0⟩ 42 = false; kernel_rfl
  obtain ⟨P, ec, hP⟩ : ∃ P ec, progH h = (P, ec) := ⟨_, _, rfl⟩
  simp [sValidH, hs, hv, h0, hP]
  refine AW_regionF sigCPr mixCPr [.pure, .read, .read, .pure, .read, .pure, .read, .pure, .eff, .eff] [[],[0],[0,1],[],[3],[3,4],[1,0,2,4,3,5],[5,3,4,6,1,0,2],[],[2,0,1,6,4,3,5,7,8]] (by kernel_rfl) (by kernel_rfl) (by kernel_rfl) (by kernel_rfl) ?_
  simp [sOnes, v1, hb, hb2]
  refine AW.weak (weak_nilcell 2 0 0 1 25 rfl rfl rfl (by decide)) ?_
  refine loop_ruleH (C := CPr) sigCPr mixCPr [3] (fun v : Nat => ⟨[(1, .ptr 0 1 2 0 0), (2, .ptr 1 1 3 0 0), (4, .ptr 2 1 3 0 0), (27, .int .i64 h.N), (28, .int .i64 v)], [HyB h, ZLB, PLB h v, R1B (matH h v)]⟩) (fun v => v ≤ h.N.toNat ∧ ∀ u < v, SomeH h u) (fun v => h.N.toNat - v) (by kernel_rfl) ⟨0, by simp, weak_eq (by simp) (by simp [HyB, ZLB, PLB, R1B, matH])⟩ (fun v ⟨hv1, hv2⟩ => ?_)
  have hml := matH_len h v
  by_cases hlt : v < h.N.toNat
  · have hlt' : (v : Int) < h.N := by omega
    have i1 : I64 ((v : Int) + 1) := by unfold I64; omega
    simp [HyB, ZLB, PLB, R1B, hlt']
    refine ⟨(by first | omega | (unfold I64; omega)), ?_⟩
    refine loop_ruleH (C := CPr) sigCPr mixCPr [3] (fun i : Nat => ⟨[(1, .ptr 0 1 2 0 0), (2, .ptr 1 1 3 0 0), (4, .ptr 2 1 3 0 0), (5, .int .i64 v), (6, .own 4 h.E.length), (27, .int .i64 h.N), (28, .int .i64 v), (36, Enc.enc h.E), (37, .int .i64 h.E.length), (38, .int .i64 i)], [HyB h, ZLB, PLB h v, R1B (matH h v), R2B (rowI h v i)]⟩) (fun i => i ≤ h.E.length) (fun i => h.E.length - i) (by kernel_rfl) ⟨0, by simp, weak_eq (by simp) (by simp [HyB, ZLB, PLB, R1B, R2B, rowI_nil])⟩ (fun i hi => ?_)
    have hri := rowI_len (v := v) hi
    by_cases hil : i < h.E.length
    · have i2 : I64 ((i : Int) + 1) := by unfold I64; omega
      have hel : (ix h.E i).length ≤ 1000000 := hs.e _ (ix_mem hil)
      have hset := rowI_set (v := v) hil
      have hri' : i < (rowI h v i).length := by omega
      simp [HyB, ZLB, PLB, R1B, R2B, hil, rowAt_enc hil, rowAt_enc hri', sConI, hel, sEntry, hri, i2]
      refine ⟨i + 1, by omega, by omega, weak_eq (by simp) ?_⟩
      rw [← hset]
    · have : i = h.E.length := by omega
      subst this
      rw [rowI_all]
      have hrl := rowH_len h v
      have hm := mem_rowH h v
      have hrl2 : h.E.length ≤ 1000000 := by omega
      by_cases hsome : SomeH h v
      · have hc : decide (F11 ∈ rowH h v) = true := decide_eq_true (hm.2 hsome)
        simp [HyB, ZLB, PLB, R1B, R2B, hil, sConF, sEntry, hrl, hrl2, hc, hml, i1, sc]
        refine ⟨(by first | omega | (unfold I64; omega)), v + 1, ⟨by omega, fun u hu => ?_⟩, by omega, weak_keep 4 (by simp) (by simp) (by simp [AV.clean, AV.clean1]) ?_ ?_⟩
        · rcases Nat.lt_or_eq_of_le (Nat.le_of_lt_succ hu) with hu | rfl
          · exact hv2 u hu
          · exact hsome
        · simp [AV.clean, AV.clean1]
        · rw [matH_succ]
          simp [HyB, ZLB, PLB, R1B]
      · have hc : decide (F11 ∈ rowH h v) = false := decide_eq_false (fun e => hsome (hm.1 e))
        have e : progH h = (L00, 23) := by rw [hp, if_neg (fun hh => hsome (hh v hlt))]
        rw [hP] at e
        injection e with e1 e2
        subst e1 e2
        simp [HyB, ZLB, PLB, R1B, R2B, hil, sConF, sEntry, hrl, hrl2, hc, hml, L00]
        done
  · have hlt' : ¬ (v : Int) < h.N := by omega
    have hve : v = h.N.toNat := by omega
    have e : progH h = (linH h, 0) := by rw [hp, if_pos (fun u hu => hv2 u (by omega))]
    rw [hP] at e
    injection e with e1 e2
    subst e1 e2
    simp [HyB, ZLB, PLB, R1B, hlt', hml]
    simp [linH, hve]
end Go.Proofs.YtfoipbjhaiimlaaDoor


/-
  layer 31: the linear program of a hypergraph, the reference's side; its number and weights.
-/
namespace Go.Proofs.YtfoipbjhaiimlaaDoor
open Go.RowKit
set_option linter.unusedSimpArgs false
set_option linter.unusedVariables false
set_option maxRecDepth 100000

def RLB (a b c : Nat) : Blk := ⟨44, 3, [[.own 3 a, .own 4 b, .own 5 c]], true, false⟩
def smB (h : Hy) (v i : Nat) : Bool := (h.E.take i).any fun e => decide ((v : Int) ∈ e)
theorem smB_succ {h : Hy} {v i : Nat} (hi : i < h.E.length) : smB h v (i + 1) = (smB h v i || decide ((v : Int) ∈ ix h.E i)) := by
  unfold smB
  rw [List.take_succ_eq_append_getElem hi, List.any_append, ix_lt hi]
  simp
theorem smB_all (h : Hy) (v : Nat) : smB h v h.E.length = decide (SomeH h v) := by
  unfold smB
  rw [List.take_length]
  by_cases hh : SomeH h v
  · rw [decide_eq_true hh]
    obtain ⟨e, h1, h2⟩ := hh
    exact List.any_eq_true.2 ⟨e, h1, by simpa using h2⟩
  · rw [decide_eq_false hh]
    refine List.any_eq_false.2 fun e he hx => hh ⟨e, he, by simpa using hx⟩
theorem rowH_succ {h : Hy} {v i : Nat} (hi : i < h.E.length) : (rowH h v).take (i + 1) = (rowH h v).take i ++ [entF (decide ((v : Int) ∈ ix h.E i))] := by
  have hl := rowH_len h v
  rw [List.take_succ_eq_append_getElem (by omega)]
  congr 2
  rw [ix_lt hi]
  unfold rowH
  rw [List.getElem_map]
theorem rep_succ (n : Nat) (x : Fr) : List.replicate n x ++ [x] = List.replicate (n + 1) x := by rw [List.replicate_succ']
@[simp] theorem rows_snocF (l : List Fr) (a b : Int) : encRows l ++ [[.int .i64 a, .int .i64 b]] = encRows (l ++ [⟨a, b⟩]) := by rw [encRows_append]; rfl
noncomputable def CRp2 : Ctx := mkC Tryd.prog G0 [(28, .pure sValidH), (53, .pure sConI), (54, .pure (spec0 (Enc.enc F11)))]
@[simp] theorem CRp2_P : CRp2.P = Tryd.prog := rfl
@[simp] theorem CRp2_G : CRp2.G = G0 := rfl
@[simp] theorem CRp2_1 : CRp2.S 28 = .pure sValidH := rfl
@[simp] theorem CRp2_2 : CRp2.S 53 = .pure sConI := rfl
@[simp] theorem CRp2_3 : CRp2.S 54 = .pure (spec0 (Enc.enc F11)) := rfl
theorem mixCRp2 : CRp2.P.follows .mixedOrders = true := mixed
theorem sigCRp2 : SigOK CRp2 := sigOK_cons (entryPure (validHR) Tryd.func28 rfl (by decide)) (sigOK_cons (entryPure (hasR) Tryd.func53 rfl (by decide)) (sigOK_cons (entryPure (oneR) Tryd.func54 rfl (by decide)) (sigOK_nil _ _)))
set_option maxHeartbeats 16000000 in
theorem programR : PureOK Tryd.prog G0 18 sProg := by
  refine pureH1 (C := CRp2) sigCRp2 mixCRp2 Tryd.func18 rfl rfl rfl [20, 24] (by kernel_rfl) (by decide) (fun h hs => ?_)
  by_cases hv : ValidH h
  case neg =>
    have e : progH h = (L00, 1) := if_pos (.inl hv)
    simp [sValidH, hs, hv, e, L00]
  by_cases h0 : h.N = 0
  · have e : progH h = (L00, 1) := if_pos (.inr h0)
    have h0' : (h.N = 0) = True := eq_true h0
    simp [sValidH, hs, hv, h0', e, L00]
  obtain ⟨v1, v2, v3, v4⟩ := hv
  have hv : ValidH h := ⟨v1, v2, v3, v4⟩
  have hN : ((h.N.toNat : Nat) : Int) = h.N := by omega
  have hp : progH h = if ∀ v, v < h.N.toNat → SomeH h v then (linH h, 0) else (L00, 23) := if_neg (by rintro (h | h) <;> contradiction)
  have sc : isScalT CRp2 42 = false := by show isScalT ⟨Tryd.prog, fun _ => .no, G0⟩ 42 = false; kernel_rfl
  have sc2 : isScalT CRp2 25 = true := by show isScalT ⟨Tryd.prog, fun _ => .no, G0⟩ 25 = true; kernel_rfl
  obtain ⟨P, ec, hP⟩ : ∃ P ec, progH h = (P, ec) := ⟨_, _, rfl⟩
  simp [sValidH, hs, hv, h0, hP]
  refine AW.weak (weak_nilcell 2 0 0 1 25 rfl rfl rfl (by decide)) ?_
  refine AW.weak (weak_nilcell 2 0 1 2 30 rfl rfl rfl (by decide)) ?_
  refine AW.weak (weak_nilcell 2 0 2 2 30 rfl rfl rfl (by decide)) ?_
  refine loop_ruleH (C := CRp2) sigCRp2 mixCRp2 [20, 24] (fun v : Nat => ⟨[(1, .ptr 0 1 2 0 0), (2, .ptr 1 1 3 0 0), (4, .ptr 2 1 3 0 0), (5, .int .i64 v)], [HyB h, ZLB, RLB v v 0, R1B (matH h v), R2B (List.replicate v F11), R2B []]⟩) (fun v => v ≤ h.N.toNat ∧ ∀ u < v, SomeH h u) (fun v => h.N.toNat - v) (by kernel_rfl) ⟨0, by simp, weak_eq (by simp) (by simp [HyB, ZLB, RLB, R1B, R2B, matH])⟩ (fun v ⟨hv1, hv2⟩ => ?_)
  have hml := matH_len h v
  by_cases hlt : v < h.N.toNat
  · have hlt' : (v : Int) < h.N := by omega
    have i1 : I64 ((v : Int) + 1) := by unfold I64; omega
    simp [HyB, ZLB, RLB, R1B, R2B, hlt']
    refine AW.weak (weak_nil 6 2 30 rfl (by decide)) ?_
    refine loop_ruleH (C := CRp2) sigCRp2 mixCRp2 [20, 24] (fun i : Nat => ⟨[(1, .ptr 0 1 2 0 0), (2, .ptr 1 1 3 0 0), (4, .ptr 2 1 3 0 0), (5, .int .i64 v), (6, .own 6 i), (7, .bool (smB h v i)), (8, .int .i64 i)], [HyB h, ZLB, RLB v v 0, R1B (matH h v), R2B (List.replicate v F11), R2B [], R2B ((rowH h v).take i)]⟩) (fun i => i ≤ h.E.length) (fun i => h.E.length - i) (by kernel_rfl) ⟨0, by simp, weak_eq (by simp [smB]) (by simp [HyB, ZLB, RLB, R1B, R2B])⟩ (fun i hi => ?_)
    have hrl := rowH_len h v
    have hri : min i (rowH h v).length = i := by omega
    by_cases hil : i < h.E.length
    · have i2 : I64 ((i : Int) + 1) := by unfold I64; omega
      have hel : (ix h.E i).length ≤ 1000000 := hs.e _ (ix_mem hil)
      have hsm := smB_succ (v := v) hil
      have hrs := rowH_succ (v := v) hil
      by_cases hm : (v : Int) ∈ ix h.E i
      · have hm' : decide ((v : Int) ∈ ix h.E i) = true := decide_eq_true hm
        rw [hm'] at hsm hrs
        simp [HyB, ZLB, RLB, R1B, R2B, hil, rowAt_enc hil, sConI, hel, hm, sc2, i2, hri]
        refine ⟨(by first | omega | (unfold I64; omega)), i + 1, by omega, by omega, weak_keep 7 (by simp [hsm]) (by simp) (by simp [AV.clean, AV.clean1]) ?_ ?_⟩
        · simp [AV.clean, AV.clean1]
        · rw [hrs]
          simp [HyB, ZLB, RLB, R1B, R2B, F11]
      · have hm' : decide ((v : Int) ∈ ix h.E i) = false := decide_eq_false hm
        rw [hm'] at hsm hrs
        simp [HyB, ZLB, RLB, R1B, R2B, hil, rowAt_enc hil, sConI, hel, hm, sc2, i2, hri]
        refine ⟨(by first | omega | (unfold I64; omega)), i + 1, by omega, by omega, weak_keep 7 (by simp [hsm]) (by simp) (by simp [AV.clean, AV.clean1]) ?_ ?_⟩
        · simp [AV.clean, AV.clean1]
        · rw [hrs]
          simp [HyB, ZLB, RLB, R1B, R2B, entF, F01]
    · have : i = h.E.length := by omega
      subst this
      rw [smB_all, List.take_of_length_le (by omega)]
      by_cases hsome : SomeH h v
      · simp [HyB, ZLB, RLB, R1B, R2B, hil, hsome, hml, hrl, sc]
        refine ⟨(by first | omega | (unfold I64; omega)), ?_⟩
        refine AW_regionF sigCRp2 mixCRp2 [.pure, .read, .read, .read, .eff, .pure, .eff] [[],[0],[],[2],[2,3,0,1],[4,3,2,1,0],[0,1,2,3,4,5]] (by kernel_rfl) (by kernel_rfl) (by kernel_rfl) (by kernel_rfl) ?_
        simp [sc2, i1]
        refine ⟨(by first | omega | (unfold I64; omega)), v + 1, ⟨by omega, fun u hu => ?_⟩, by omega, weak_keep 6 (by simp) (by simp) (by simp [AV.clean, AV.clean1]) ?_ ?_⟩
        · rcases Nat.lt_or_eq_of_le (Nat.le_of_lt_succ hu) with hu | rfl
          · exact hv2 u hu
          · exact hsome
        · simp [AV.clean, AV.clean1]
        · rw [matH_succ, ← rep_succ]
          simp [HyB, ZLB, RLB, R1B, R2B, F11]
      · have e : progH h = (L00, 23) := by rw [hp, if_neg (fun hh => hsome (hh v hlt))]
        rw [hP] at e
        injection e with e1 e2
        subst e1 e2
        simp [HyB, ZLB, RLB, R1B, R2B, hil, hsome, hml, hrl, L00]
  · have hlt' : ¬ (v : Int) < h.N := by omega
    have hve : v = h.N.toNat := by omega
    have e : progH h = (linH h, 0) := by rw [hp, if_pos (fun u hu => hv2 u (by omega))]
    rw [hP] at e
    injection e with e1 e2
    subst e1 e2
    simp [HyB, ZLB, RLB, R1B, R2B, hlt', hml]
    refine loop_ruleH (C := CRp2) sigCRp2 mixCRp2 [20, 24] (fun i : Nat => ⟨[(1, .ptr 0 1 2 0 0), (2, .ptr 1 1 3 0 0), (4, .ptr 2 1 3 0 0), (10, .int .i64 i)], [HyB h, ZLB, RLB v v i, R1B (matH h v), R2B (List.replicate v F11), R2B (List.replicate i F11)]⟩) (fun i => i ≤ h.E.length) (fun i => h.E.length - i) (by kernel_rfl) ⟨0, by simp, weak_eq (by simp) (by simp [HyB, ZLB, RLB, R1B, R2B, matH])⟩ (fun i hi => ?_)
    by_cases hil : i < h.E.length
    · have i2 : I64 ((i : Int) + 1) := by unfold I64; omega
      simp [HyB, ZLB, RLB, R1B, R2B, hil]
      refine AW_regionF sigCRp2 mixCRp2 [.pure, .read, .read, .read, .eff, .pure, .eff] [[],[0],[],[2],[2,3,0,1],[4,3,2,1,0],[0,1,2,3,4,5]] (by kernel_rfl) (by kernel_rfl) (by kernel_rfl) (by kernel_rfl) ?_
      simp [sc2, i2]
      refine ⟨(by first | omega | (unfold I64; omega)), i + 1, by omega, by omega, weak_eq (by simp) ?_⟩
      rw [← rep_succ]
      try simp [HyB, ZLB, RLB, R1B, R2B, F11]
    · have : i = h.E.length := by omega
      subst this
      simp [HyB, ZLB, RLB, R1B, R2B, hil, hml]
      try simp [linH, hve]

noncomputable def rhoH (h : Hy) : Fr × List Fr × Int := if (progH h).2 ≠ 0 then (F00, [], (progH h).2) else if (solveF (progH h).1).2.2 ≠ 0 then (F00, [], (solveF (progH h).1).2.2) else ((solveF (progH h).1).2.1, (solveF (progH h).1).1, 0)
noncomputable def sRho : List AV → Option (Prop × AV) := spec1 SmallH (fun h => .tup [Enc.enc (rhoH h).1, Enc.enc (rhoH h).2.1, .int .i64 (rhoH h).2.2])
theorem prog_small {h : Hy} (hs : SmallH h) : SmallL (progH h).1 := by
  unfold progH
  split
  · exact ⟨by simp [L00], by simp [L00], by simp [L00], by simp [L00]⟩
  · rename_i hv
    have hv : ValidH h ∧ ¬ h.N = 0 := by
      rw [not_or] at hv
      exact ⟨Classical.not_not.1 hv.1, hv.2⟩
    obtain ⟨⟨v1, v2, v3, v4⟩, _⟩ := hv
    split
    · refine ⟨?_, ?_, ?_, fun r hr => ?_⟩
      · show (matH h _).length ≤ _
        rw [matH_len]; omega
      · show (List.replicate _ _).length ≤ _
        rw [List.length_replicate]; omega
      · show (List.replicate _ _).length ≤ _
        rw [List.length_replicate]; omega
      · have hr : r ∈ matH h h.N.toNat := hr
        unfold matH at hr
        obtain ⟨v, _, rfl⟩ := List.mem_map.1 hr
        rw [rowH_len]; omega
    · exact ⟨by simp [L00], by simp [L00], by simp [L00], by simp [L00]⟩
noncomputable def CRo : Ctx := mkC Tryd.prog G0 [(44, .pure sProg), (45, .pure sSolve)]
@[simp] theorem CRo_P : CRo.P = Tryd.prog := rfl
@[simp] theorem CRo_G : CRo.G = G0 := rfl
@[simp] theorem CRo_1 : CRo.S 44 = .pure sProg := rfl
@[simp] theorem CRo_2 : CRo.S 45 = .pure sSolve := rfl
theorem mixCRo : CRo.P.follows .mixedOrders = true := mixed
theorem sigCRo : SigOK CRo := sigOK_cons (entryPure (programP) Tryd.func44 rfl (by decide)) (sigOK_cons (entryPure (solveP) Tryd.func45 rfl (by decide)) (sigOK_nil _ _))
set_option maxHeartbeats 4000000 in
theorem rhoP : PureOK Tryd.prog G0 16 sRho := by
  refine pureH1 (C := CRo) sigCRo mixCRo Tryd.func16 rfl rfl rfl [] (by kernel_rfl) (by decide) (fun h hs => ?_)
  have hp := pre_solve (prog_small hs)
  obtain ⟨P, ec, hP⟩ : ∃ P ec, progH h = (P, ec) := ⟨_, _, rfl⟩
  rw [hP] at hp
  obtain ⟨x, v, e, hv⟩ : ∃ x v e, solveF P = (x, v, e) := ⟨_, _, _, rfl⟩
  by_cases h1 : ec = 0
  · by_cases h2 : e = 0
    · have e1 : rhoH h = (v, x, 0) := by unfold rhoH; rw [hP, if_neg (by simp [h1]), hv, if_neg (by simp [h2])]
      simp [sProg, hs, hP, h1, sSolve, hp, hv, h2, e1]
    · have e1 : rhoH h = (F00, [], e) := by unfold rhoH; rw [hP, if_neg (by simp [h1]), hv, if_pos h2]
      simp [sProg, hs, hP, h1, sSolve, hp, hv, h2, e1, F00]
  · have e1 : rhoH h = (F00, [], ec) := by unfold rhoH; rw [hP, if_pos h1]
    simp [sProg, hs, hP, h1, e1, F00]
def triH : Hy := ⟨3, [[0, 1], [1, 2], [0, 2]]⟩
theorem triHP : PureOK Tryd.prog G0 23 (spec0 (Enc.enc triH)) := by
  refine pureH0 (C := CE) sigCE mixCE Tryd.func23 rfl rfl rfl [] (by kernel_rfl) ?_
  simp [triH]
  done
end Go.Proofs.YtfoipbjhaiimlaaDoor


/-
  layer 31: covers: the exact sum of the weights at a vertex.
-/
namespace Go.Proofs.YtfoipbjhaiimlaaDoor
open Go.RowKit
set_option linter.unusedSimpArgs false
set_option linter.unusedVariables false
set_option maxRecDepth 100000

/-- A sum of fractions as numerator and denominator, one more. -/
def ndS (p : Nat × Nat) (f : Fr) : Nat × Nat := (p.1 * f.D.toNat + p.2 * f.N.toNat, p.2 * f.D.toNat)
def ndF (l : List Fr) : Nat × Nat := l.foldl ndS (0, 1)
def covF (l : List Fr) : Bool := decide ((ndF l).2 ≤ (ndF l).1)
structure WtF (f : Fr) : Prop where
  v : ValidF f
  n : 0 ≤ f.N
theorem WtF.b {f : Fr} (h : WtF f) : f.D.toNat ≤ 1000000000000000 ∧ f.N.toNat ≤ 1000000000000000 ∧ 0 < f.D.toNat := by
  have h1 := h.v
  have h2 := h.n
  unfold ValidF InR at h1
  omega
theorem snoc_ind {α : Type} {p : List α → Prop} (h0 : p []) (h1 : ∀ l x, p l → p (l ++ [x])) (l : List α) : p l := by
  have : ∀ m : List α, p m.reverse := by
    intro m
    induction m with
    | nil => exact h0
    | cons a r ih => rw [List.reverse_cons]; exact h1 _ _ ih
  have := this l.reverse
  rwa [List.reverse_reverse] at this
theorem ndF_snoc (l : List Fr) (f : Fr) : ndF (l ++ [f]) = ndS (ndF l) f := by unfold ndF; rw [List.foldl_append]; rfl
theorem nd_b : ∀ (l : List Fr), (∀ f ∈ l, WtF f) → (ndF l).1 ≤ l.length * 1000000000000000 ^ l.length ∧ (ndF l).2 ≤ 1000000000000000 ^ l.length ∧ 0 < (ndF l).2 := by
  refine snoc_ind ?_ fun l f ih => ?_
  · intro _; simp [ndF]
  · intro h
    obtain ⟨h1, h2, h3⟩ := ih fun g hg => h g (List.mem_append_left _ hg)
    obtain ⟨b1, b2, b3⟩ := (h f (by simp)).b
    rw [ndF_snoc]
    unfold ndS
    simp only [List.length_append, List.length_cons, List.length_nil, Nat.zero_add, Nat.pow_succ]
    generalize 1000000000000000 ^ l.length = M at *
    refine ⟨?_, Nat.mul_le_mul h2 b1, Nat.mul_pos h3 b3⟩
    have e1 := Nat.mul_le_mul h1 b1
    have e2 := Nat.mul_le_mul h2 b2
    rw [Nat.add_mul, ← Nat.mul_assoc]
    omega
theorem nd_ge {l : List Fr} (h : (ndF l).2 ≤ (ndF l).1) : ∀ m : List Fr, (ndF (l ++ m)).2 ≤ (ndF (l ++ m)).1 := by
  refine snoc_ind ?_ fun m f ih => ?_
  · rwa [List.append_nil]
  · rw [← List.append_assoc, ndF_snoc]
    unfold ndS
    exact Nat.le_trans (Nat.mul_le_mul_right _ ih) (Nat.le_add_right _ _)
theorem nd_one {l : List Fr} {f : Fr} (hf : f.D ≤ f.N) : (ndF (l ++ [f])).2 ≤ (ndF (l ++ [f])).1 := by
  rw [ndF_snoc]
  unfold ndS
  exact Nat.le_trans (Nat.mul_le_mul_left _ (show f.D.toNat ≤ f.N.toNat by omega)) (Nat.le_add_left _ _)
theorem fits64 {n : Nat} (h : n < 1000000000 ^ 64) : (Nt.canon n).length ≤ 64 := Nt.canon_len 64 n h
theorem nd_fit {l : List Fr} (hl : l.length ≤ 14) (h : ∀ f ∈ l, WtF f) : (ndF l).1 < 1000000000 ^ 60 ∧ (ndF l).2 < 1000000000 ^ 60 := by
  obtain ⟨h1, h2, _⟩ := nd_b l h
  have e1 : 1000000000000000 ^ l.length ≤ 1000000000000000 ^ 14 := Nat.pow_le_pow_right (by decide) hl
  have e2 := Nat.mul_le_mul hl e1
  have e3 : (14 : Nat) * 1000000000000000 ^ 14 < 1000000000 ^ 60 := by decide
  have e4 : (1000000000000000 : Nat) ^ 14 < 1000000000 ^ 60 := by decide
  omega
theorem fitT_ok {n : Nat} (h : n < 1000000000 ^ 64) : Nt.fitT n = .tup [Enc.enc (Nt.canon n), .bool true] := by
  have := fits64 h
  unfold Nt.fitT
  rw [if_pos this, decide_eq_true this]
theorem nv_ok {n : Nat} (h : n < 1000000000 ^ 64) : Nt.nv (Nt.canon n) = n := Nt.nv_canon (fits64 h)
theorem cl_ok {n : Nat} (h : n < 1000000000 ^ 64) : (Nt.canon n).length ≤ 1000000 := by have := fits64 h; omega
def sCovered : List AV → Option (Prop × AV) := spec1 (fun l : List Fr => l.length ≤ 14 ∧ ∀ f ∈ l, WtF f) (fun l => .bool (covF l))
noncomputable def CCv : Ctx := mkC Tryd.prog G0 [(33, .pure Nt.s20), (34, .pure Nt.s15), (37, .pure Nt.s22), (43, .pure Nt.s24)]
@[simp] theorem CCv_P : CCv.P = Tryd.prog := rfl
@[simp] theorem CCv_G : CCv.G = G0 := rfl
@[simp] theorem CCv_1 : CCv.S 33 = .pure Nt.s20 := rfl
@[simp] theorem CCv_2 : CCv.S 34 = .pure Nt.s15 := rfl
@[simp] theorem CCv_3 : CCv.S 37 = .pure Nt.s22 := rfl
@[simp] theorem CCv_4 : CCv.S 43 = .pure Nt.s24 := rfl
theorem mixCCv : CCv.P.follows .mixedOrders = true := mixed
theorem sigCCv : SigOK CCv := sigOK_cons (entryPure (Nt.of20) Tryd.func33 rfl (by decide)) (sigOK_cons (entryPure (Nt.mul15) Tryd.func34 rfl (by decide)) (sigOK_cons (entryPure (Nt.add22) Tryd.func37 rfl (by decide)) (sigOK_cons (entryPure (Nt.cmp24) Tryd.func43 rfl (by decide)) (sigOK_nil _ _))))
theorem take_ndS {l : List Fr} {i : Nat} (h : i < l.length) : ndF (l.take (i + 1)) = ndS (ndF (l.take i)) (ix l i) := by
  rw [List.take_succ_eq_append_getElem h, ndF_snoc, ix_lt h]
set_option maxHeartbeats 8000000 in
theorem coveredP : PureOK Tryd.prog G0 27 sCovered := by
  refine pureH1 (C := CCv) sigCCv mixCCv Tryd.func27 rfl rfl rfl [] (by kernel_rfl) (by decide) (fun l ⟨hl, hw⟩ => ?_)
  have z0 : Nt.canon 0 = [] := Nt.canon_zero
  have i0 : I64 0 := by unfold I64; omega
  have i1 : I64 1 := by unfold I64; omega
  simp [Nt.s20, i0, i1]
  refine loop_ruleH (C := CCv) sigCCv mixCCv [] (fun i : Nat => ⟨[(3, Enc.enc (Nt.canon (ndF (l.take i)).1)), (4, Enc.enc (Nt.canon (ndF (l.take i)).2)), (13, Enc.enc l), (14, .int .i64 l.length), (15, .int .i64 i)], []⟩) (fun i => i ≤ l.length) (fun i => l.length - i) (by kernel_rfl) ⟨0, by simp, weak_slots (by simp [ndF])⟩ (fun i hi => ?_)
  have hwt : ∀ f ∈ l.take i, WtF f := fun f hf => hw f (List.mem_of_mem_take hf)
  obtain ⟨f1, f2⟩ := nd_fit (l := l.take i) (by rw [List.length_take]; omega) hwt
  by_cases hil : i < l.length
  · have j1 : I64 ((i : Int) + 1) := by unfold I64; omega
    have hf := hw _ (ix_mem hil)
    obtain ⟨b1, b2, b3⟩ := hf.b
    have hs := take_ndS hil
    by_cases hge : (ix l i).D ≤ (ix l i).N
    · have hc : covF l = true := by
        refine decide_eq_true ?_
        have := nd_one (l := l.take i) hge
        have h2 := nd_ge this (l.drop (i + 1))
        rwa [show l.take i ++ [ix l i] ++ l.drop (i + 1) = l by rw [ix_lt hil, List.append_assoc, List.singleton_append, ← List.drop_eq_getElem_cons hil, List.take_append_drop]] at h2
      simp [hil, rowAt_enc hil, hge, hc]
    · have k1 : I64 (ix l i).D := by unfold I64; omega
      have k2 : I64 (ix l i).N := by have := hf.n; unfold I64; omega
      have p1 : (ndF (l.take i)).1 * (ix l i).D.toNat ≤ 1000000000 ^ 60 * 1000000000000000 := Nat.mul_le_mul (by omega) b1
      have p2 : (ndF (l.take i)).2 * (ix l i).N.toNat ≤ 1000000000 ^ 60 * 1000000000000000 := Nat.mul_le_mul (by omega) b2
      have p3 : (ndF (l.take i)).2 * (ix l i).D.toNat ≤ 1000000000 ^ 60 * 1000000000000000 := Nat.mul_le_mul (by omega) b1
      have e1 : (ndF (l.take (i + 1))).1 = (ndF (l.take i)).1 * (ix l i).D.toNat + (ndF (l.take i)).2 * (ix l i).N.toNat := by rw [hs]; rfl
      have e2 : (ndF (l.take (i + 1))).2 = (ndF (l.take i)).2 * (ix l i).D.toNat := by rw [hs]; rfl
      generalize (ndF (l.take i)).1 = n at *
      generalize (ndF (l.take i)).2 = d at *
      generalize ha : n * (ix l i).D.toNat = a at *
      generalize hb : d * (ix l i).N.toNat = b at *
      generalize hc : d * (ix l i).D.toNat = c at *
      have l1 : (1000000000 : Nat) ^ 60 * 1000000000000000 < 1000000000 ^ 62 := by decide
      have l2 : (1000000000 : Nat) ^ 62 + 1000000000 ^ 62 < 1000000000 ^ 64 := by decide
      have l3 : (1000000000 : Nat) ^ 60 < 1000000000 ^ 64 := by decide
      have l4 : (1000000000000000 : Nat) < 1000000000 ^ 64 := by decide
      have m0 : n < 1000000000 ^ 64 := by omega
      have m1 : d < 1000000000 ^ 64 := by omega
      have m2 : (ix l i).D.toNat < 1000000000 ^ 64 := by omega
      have m3 : (ix l i).N.toNat < 1000000000 ^ 64 := by omega
      have m4 : a < 1000000000 ^ 64 := by omega
      have m5 : b < 1000000000 ^ 64 := by omega
      have m6 : c < 1000000000 ^ 64 := by omega
      have m7 : a + b < 1000000000 ^ 64 := by omega
      clear l1 l2 l3 l4 f1 f2 p1 p2 p3
      simp [hil, rowAt_enc hil, hge, Nt.s20, Nt.s15, Nt.s22, k1, k2, j1, nv_ok m0, nv_ok m1, nv_ok m2, nv_ok m3, nv_ok m4, nv_ok m5, nv_ok m6, cl_ok m0, cl_ok m1, cl_ok m2, cl_ok m3, cl_ok m4, cl_ok m5, cl_ok m6, ha, hb, hc, fitT_ok m4, fitT_ok m5, fitT_ok m6, fitT_ok m7]
      exact ⟨i + 1, by omega, by omega, weak_keep 0 (by simp [e1, e2]) (by simp) (by simp [AV.clean, AV.clean1]) (by simp) rfl⟩
  · have : i = l.length := by omega
    subst this
    rw [List.take_length] at f1 f2 ⊢
    have hc : covF l = decide ((ndF l).2 ≤ (ndF l).1) := rfl
    have l3 : (1000000000 : Nat) ^ 60 < 1000000000 ^ 64 := by decide
    generalize (ndF l).1 = n at *
    generalize (ndF l).2 = d at *
    have m0 : n < 1000000000 ^ 64 := by omega
    have m1 : d < 1000000000 ^ 64 := by omega
    have e : decide (0 ≤ Nt.cmpN n d) = decide (d ≤ n) := by
      unfold Nt.cmpN
      by_cases h1 : n < d
      · rw [if_pos h1, decide_eq_false (by omega), decide_eq_false (by omega)]
      · rw [if_neg h1, decide_eq_true (show d ≤ n by omega)]
        split <;> rfl
    simp [hil, Nt.s24, nv_ok m0, nv_ok m1, cl_ok m0, cl_ok m1, hc]
    simpa using e
end Go.Proofs.YtfoipbjhaiimlaaDoor


/-
  layer 31: covers.
-/
namespace Go.Proofs.YtfoipbjhaiimlaaDoor
open Go.RowKit
set_option linter.unusedSimpArgs false
set_option linter.unusedVariables false
set_option maxRecDepth 100000

/-- The weights of the first i edges that contain v. -/
def selI (h : Hy) (x : List Fr) (v : Nat) : Nat → List Fr
  | 0 => []
  | i + 1 => if (v : Int) ∈ ix h.E i then selI h x v i ++ [ix x i] else selI h x v i
theorem selI_len (h : Hy) (x : List Fr) (v : Nat) : ∀ i, (selI h x v i).length ≤ i
  | 0 => Nat.le_refl _
  | i + 1 => by
    have := selI_len h x v i
    unfold selI
    split
    · rw [List.length_append]; simp; omega
    · omega
theorem selI_wt {h : Hy} {x : List Fr} (v : Nat) (hx : ∀ f ∈ x, WtF f) : ∀ i, i ≤ x.length → ∀ f ∈ selI h x v i, WtF f
  | 0, _ => fun f hf => by cases hf
  | i + 1, hi => fun f hf => by
    unfold selI at hf
    split at hf
    · rcases List.mem_append.1 hf with hf | hf
      · exact selI_wt v hx i (by omega) f hf
      · rw [List.mem_singleton.1 hf]
        exact hx _ (ix_mem (by omega))
    · exact selI_wt v hx i (by omega) f hf
def covH (h : Hy) (x : List Fr) (v : Nat) : Bool := covF (selI h x v h.E.length)
instance (f : Fr) : Decidable (WtF f) := decidable_of_iff (ValidF f ∧ 0 ≤ f.N) ⟨fun h => ⟨h.1, h.2⟩, fun h => ⟨h.v, h.n⟩⟩
def IsCovH (h : Hy) (x : List Fr) : Prop := ValidH h ∧ x.length = h.E.length ∧ (∀ f ∈ x, WtF f) ∧ ∀ v, v < h.N.toNat → covH h x v = true
instance (h : Hy) (x : List Fr) : Decidable (IsCovH h x) := by unfold IsCovH; infer_instance
def sIsCover : List AV → Option (Prop × AV) := spec2 (fun (h : Hy) (x : List Fr) => SmallH h ∧ x.length ≤ 1000) (fun h x => .bool (decide (IsCovH h x)))
noncomputable def CIc : Ctx := mkC Tryd.prog G0 [(24, .pure sValidH), (25, .pure sValidF), (26, .pure sConI), (27, .pure sCovered)]
@[simp] theorem CIc_P : CIc.P = Tryd.prog := rfl
@[simp] theorem CIc_G : CIc.G = G0 := rfl
@[simp] theorem CIc_1 : CIc.S 24 = .pure sValidH := rfl
@[simp] theorem CIc_2 : CIc.S 25 = .pure sValidF := rfl
@[simp] theorem CIc_3 : CIc.S 26 = .pure sConI := rfl
@[simp] theorem CIc_4 : CIc.S 27 = .pure sCovered := rfl
theorem mixCIc : CIc.P.follows .mixedOrders = true := mixed
theorem sigCIc : SigOK CIc := sigOK_cons (entryPure (validHP) Tryd.func24 rfl (by decide)) (sigOK_cons (entryPure (validP) Tryd.func25 rfl (by decide)) (sigOK_cons (entryPure (conI) Tryd.func26 rfl (by decide)) (sigOK_cons (entryPure (coveredP) Tryd.func27 rfl (by decide)) (sigOK_nil _ _))))
set_option maxHeartbeats 16000000 in
theorem isCoverP : PureOK Tryd.prog G0 9 sIsCover := by
  refine pureH2 (C := CIc) sigCIc mixCIc Tryd.func9 rfl rfl rfl [] (by kernel_rfl) (by decide) (fun h x ⟨hs, hxl⟩ => ?_)
  by_cases hv : ValidH h
  case neg =>
    have : ¬ IsCovH h x := fun c => hv c.1
    simp [sValidH, hs, hv, this]
  by_cases hlen : (x.length : Int) = h.E.length
  case neg =>
    have : ¬ IsCovH h x := fun c => hlen (by rw [c.2.1])
    have hlen' : ¬ x.length = h.E.length := fun c => hlen (by rw [c])
    simp [sValidH, hs, hv, hlen, hlen', this]
  have hlen' : x.length = h.E.length := by omega
  have hE := hv.2.2.1
  obtain ⟨v1, v2, v3, v4⟩ := hv
  have hv : ValidH h := ⟨v1, v2, v3, v4⟩
  obtain ⟨r, hr⟩ : ∃ r, decide (IsCovH h x) = r := ⟨_, rfl⟩
  rw [hr]
  simp [sValidH, hs, hv, hlen']
  refine loop_ruleH (C := CIc) sigCIc mixCIc [] (fun i : Nat => ⟨[(1, Enc.enc x), (2, .ptr 0 1 2 0 0), (22, Enc.enc x), (23, .int .i64 x.length), (24, .int .i64 i)], [HyB h]⟩) (fun i => i ≤ x.length ∧ ∀ j < i, WtF (ix x j)) (fun i => x.length - i) (by kernel_rfl) ⟨0, by simp, weak_eq (by simp [hlen']) (by simp [HyB])⟩ (fun i ⟨hi, hx⟩ => ?_)
  by_cases hil : i < x.length
  · have i1 : I64 ((i : Int) + 1) := by unfold I64; omega
    by_cases q1 : ValidF (ix x i)
    · by_cases q2 : (ix x i).N < 0
      · have : r = false := by rw [← hr]; exact decide_eq_false fun c => by have := (c.2.2.1 _ (ix_mem hil)).n; omega
        subst this
        simp [HyB, hil, rowAt_enc hil, sValidF, q1, q2]
      · simp [HyB, hil, rowAt_enc hil, sValidF, q1, q2, i1]
        refine ⟨i + 1, ⟨by omega, fun j hj => ?_⟩, by omega, weak_keep 1 (by simp) (by simp) (by simp [AV.clean, AV.clean1]) (by simp) (by simp [HyB])⟩
        rcases Nat.lt_or_eq_of_le (Nat.le_of_lt_succ hj) with hj | rfl
        · exact hx j hj
        · exact ⟨q1, by omega⟩
    · have : r = false := by rw [← hr]; exact decide_eq_false fun c => q1 (c.2.2.1 _ (ix_mem hil)).v
      subst this
      simp [HyB, hil, rowAt_enc hil, sValidF, q1]
  · have hwt : ∀ f ∈ x, WtF f := fun f hf => by
      obtain ⟨j, hj, rfl⟩ := List.mem_iff_getElem.1 hf
      have := hx j (by omega)
      rwa [ix_lt hj] at this
    simp [HyB, hil]
    refine loop_ruleH (C := CIc) sigCIc mixCIc [] (fun v : Nat => ⟨[(1, Enc.enc x), (2, .ptr 0 1 2 0 0), (38, .int .i64 h.N), (39, .int .i64 v)], [HyB h]⟩) (fun v => v ≤ h.N.toNat ∧ ∀ u < v, covH h x u = true) (fun v => h.N.toNat - v) (by kernel_rfl) ⟨0, by simp, weak_eq (by simp) (by simp [HyB])⟩ (fun v ⟨hv1, hv2⟩ => ?_)
    by_cases hvl : v < h.N.toNat
    · have hvl' : (v : Int) < h.N := by omega
      have i1 : I64 ((v : Int) + 1) := by unfold I64; omega
      simp [HyB, hvl']
      refine AW.weak (weak_nil 8 2 30 rfl (by decide)) ?_
      refine loop_ruleH (C := CIc) sigCIc mixCIc [] (fun i : Nat => ⟨[(1, Enc.enc x), (2, .ptr 0 1 2 0 0), (7, .int .i64 v), (8, .own 1 (selI h x v i).length), (38, .int .i64 h.N), (39, .int .i64 v), (43, Enc.enc h.E), (44, .int .i64 h.E.length), (45, .int .i64 i)], [HyB h, R2B (selI h x v i)]⟩) (fun i => i ≤ h.E.length) (fun i => h.E.length - i) (by kernel_rfl) ⟨0, by simp, weak_eq (by simp [selI]) (by simp [HyB, R2B, selI])⟩ (fun i hi => ?_)
      have hsl := selI_len h x v i
      by_cases hil2 : i < h.E.length
      · have i2 : I64 ((i : Int) + 1) := by unfold I64; omega
        have hel : (ix h.E i).length ≤ 1000000 := hs.e _ (ix_mem hil2)
        have hix : i < x.length := by omega
        have sc2 : isScalT CIc 25 = true := by show isScalT ⟨Tryd.prog, fun _ => .no, G0⟩ 25 = true; kernel_rfl
        by_cases hm : (v : Int) ∈ ix h.E i
        · have e : selI h x v (i + 1) = selI h x v i ++ [ix x i] := by rw [selI, if_pos hm]
          simp [HyB, R2B, hil2, rowAt_enc hil2, rowAt_enc hix, sConI, hel, hm, sc2, i2, hix]
          refine ⟨(by first | omega | (unfold I64; omega)), i + 1, by omega, by omega, weak_eq (by simp [e]) (by rw [e])⟩
        · have e : selI h x v (i + 1) = selI h x v i := by rw [selI, if_neg hm]
          simp [HyB, R2B, hil2, rowAt_enc hil2, sConI, hel, hm, i2]
          refine ⟨i + 1, by omega, by omega, weak_eq (by simp [e]) (by rw [e])⟩
      · have : i = h.E.length := by omega
        subst this
        have hsw := selI_wt (h := h) v hwt h.E.length (by omega)
        have hs14 : (selI h x v h.E.length).length ≤ 14 := by omega
        have hcv : covF (selI h x v h.E.length) = covH h x v := rfl
        have hpre : ∀ f, f ∈ selI h x v h.E.length → WtF f := hsw
        cases hc : covH h x v with
        | true =>
          rw [hc] at hcv
          simp [HyB, R2B, hil2, sCovered, hs14, hcv, i1]
          refine ⟨hpre, v + 1, ⟨by omega, fun u hu => ?_⟩, by omega, weak_keep 1 (by simp) (by simp) (by simp [AV.clean, AV.clean1]) (by simp) (by simp [HyB])⟩
          rcases Nat.lt_or_eq_of_le (Nat.le_of_lt_succ hu) with hu | rfl
          · exact hv2 u hu
          · exact hc
        | false =>
          rw [hc] at hcv
          have : r = false := by rw [← hr]; exact decide_eq_false fun c => by have := c.2.2.2 v hvl; rw [hc] at this; cases this
          subst this
          simp [HyB, R2B, hil2, sCovered, hs14, hcv]
          exact hpre
    · have hvl' : ¬ (v : Int) < h.N := by omega
      have : r = true := by rw [← hr]; exact decide_eq_true ⟨hv, hlen', hwt, fun u hu => hv2 u (by omega)⟩
      subst this
      simp [HyB, hvl']
end Go.Proofs.YtfoipbjhaiimlaaDoor


/-
  layer 31: covers, the reference's side; powers compared.
-/
namespace Go.Proofs.YtfoipbjhaiimlaaDoor
open Go.RowKit
set_option linter.unusedSimpArgs false
set_option linter.unusedVariables false
set_option maxRecDepth 100000

theorem ndB {l : List Fr} (hl : l.length ≤ 13) (h : ∀ f ∈ l, WtF f) {f : Fr} (hf : WtF f) : (ndF l).1 < 1000000000 ^ 64 ∧ (ndF l).2 < 1000000000 ^ 64 ∧ f.D.toNat < 1000000000 ^ 64 ∧ f.N.toNat < 1000000000 ^ 64 ∧ (ndF l).1 * f.D.toNat < 1000000000 ^ 64 ∧ (ndF l).2 * f.N.toNat < 1000000000 ^ 64 ∧ (ndF l).2 * f.D.toNat < 1000000000 ^ 64 ∧ (ndF l).1 * f.D.toNat + (ndF l).2 * f.N.toNat < 1000000000 ^ 64 := by
  obtain ⟨b1, b2, b3⟩ := hf.b
  obtain ⟨f1, f2⟩ := nd_fit (l := l) (by omega) h
  have p1 : (ndF l).1 * f.D.toNat ≤ 1000000000 ^ 60 * 1000000000000000 := Nat.mul_le_mul (by omega) b1
  have p2 : (ndF l).2 * f.N.toNat ≤ 1000000000 ^ 60 * 1000000000000000 := Nat.mul_le_mul (by omega) b2
  have p3 : (ndF l).2 * f.D.toNat ≤ 1000000000 ^ 60 * 1000000000000000 := Nat.mul_le_mul (by omega) b1
  have l1 : (1000000000 : Nat) ^ 60 * 1000000000000000 < 1000000000 ^ 62 := by decide
  have l2 : (1000000000 : Nat) ^ 62 + 1000000000 ^ 62 < 1000000000 ^ 64 := by decide
  have l3 : (1000000000 : Nat) ^ 60 < 1000000000 ^ 64 := by decide
  have l4 : (1000000000000000 : Nat) < 1000000000 ^ 64 := by decide
  omega
theorem cmp_ge0 (n d : Nat) : decide (0 ≤ Nt.cmpN n d) = decide (d ≤ n) := by
  unfold Nt.cmpN
  by_cases h1 : n < d
  · rw [if_pos h1, decide_eq_false (by omega), decide_eq_false (by omega)]
  · rw [if_neg h1, decide_eq_true (show d ≤ n by omega)]
    split <;> rfl
def sCovR : List AV → Option (Prop × AV) := spec3 (fun (h : Hy) (x : List Fr) (v : Int) => SmallH h ∧ h.E.length ≤ 12 ∧ x.length = h.E.length ∧ (∀ f ∈ x, WtF f) ∧ 0 ≤ v) (fun h x v => .bool (covH h x v.toNat))
noncomputable def CCr : Ctx := mkC Tryd.prog G0 [(53, .pure sConI), (22, .pure Nt.s21), (60, .pure Nt.s29), (40, .pure Nt.s28), (21, .pure Nt.s32)]
@[simp] theorem CCr_P : CCr.P = Tryd.prog := rfl
@[simp] theorem CCr_G : CCr.G = G0 := rfl
@[simp] theorem CCr_1 : CCr.S 53 = .pure sConI := rfl
@[simp] theorem CCr_2 : CCr.S 22 = .pure Nt.s21 := rfl
@[simp] theorem CCr_3 : CCr.S 60 = .pure Nt.s29 := rfl
@[simp] theorem CCr_4 : CCr.S 40 = .pure Nt.s28 := rfl
@[simp] theorem CCr_5 : CCr.S 21 = .pure Nt.s32 := rfl
theorem mixCCr : CCr.P.follows .mixedOrders = true := mixed
theorem sigCCr : SigOK CCr := sigOK_cons (entryPure (hasR) Tryd.func53 rfl (by decide)) (sigOK_cons (entryPure (Nt.of21) Tryd.func22 rfl (by decide)) (sigOK_cons (entryPure (Nt.mul29) Tryd.func60 rfl (by decide)) (sigOK_cons (entryPure (Nt.add28) Tryd.func40 rfl (by decide)) (sigOK_cons (entryPure (Nt.cmp32) Tryd.func21 rfl (by decide)) (sigOK_nil _ _)))))
set_option maxHeartbeats 16000000 in
theorem coveredR : PureOK Tryd.prog G0 30 sCovR := by
  refine pureH3 (C := CCr) sigCCr mixCCr Tryd.func30 rfl rfl rfl [] (by kernel_rfl) (by decide) (fun h x v ⟨hs, hE, hl, hw, hv⟩ => ?_)
  obtain ⟨v, rfl⟩ := Int.eq_ofNat_of_zero_le hv
  have i0 : I64 0 := by unfold I64; omega
  have i1 : I64 1 := by unfold I64; omega
  have z0 : Nt.canon 0 = [] := Nt.canon_zero
  simp [Nt.s21, i0, i1]
  refine loop_ruleH (C := CCr) sigCCr mixCCr [] (fun i : Nat => ⟨[(1, Enc.enc x), (2, .int .i64 v), (3, .ptr 0 1 2 0 0), (7, Enc.enc (Nt.canon (ndF (selI h x v i)).1)), (8, Enc.enc (Nt.canon (ndF (selI h x v i)).2)), (9, .int .i64 i)], [HyB h]⟩) (fun i => i ≤ h.E.length) (fun i => h.E.length - i) (by kernel_rfl) ⟨0, by simp, weak_eq (by simp [ndF, selI]) (by simp [HyB])⟩ (fun i hi => ?_)
  have hsl := selI_len h x v i
  have hsw := selI_wt (h := h) v hw i (by omega)
  by_cases hil : i < h.E.length
  · have j1 : I64 ((i : Int) + 1) := by unfold I64; omega
    have hel : (ix h.E i).length ≤ 1000000 := hs.e _ (ix_mem hil)
    have hix : i < x.length := by omega
    by_cases hm : (v : Int) ∈ ix h.E i
    · have hf := hw _ (ix_mem hix)
      obtain ⟨m0, m1, m2, m3, m4, m5, m6, m7⟩ := ndB (l := selI h x v i) (by omega) hsw hf
      obtain ⟨b1, b2, b3⟩ := hf.b
      have k1 : I64 (ix x i).D := by unfold I64; omega
      have k2 : I64 (ix x i).N := by have := hf.n; unfold I64; omega
      have e : selI h x v (i + 1) = selI h x v i ++ [ix x i] := by rw [selI, if_pos hm]
      have e1 : (ndF (selI h x v (i + 1))).1 = (ndF (selI h x v i)).1 * (ix x i).D.toNat + (ndF (selI h x v i)).2 * (ix x i).N.toNat := by rw [e, ndF_snoc]; rfl
      have e2 : (ndF (selI h x v (i + 1))).2 = (ndF (selI h x v i)).2 * (ix x i).D.toNat := by rw [e, ndF_snoc]; rfl
      generalize (ndF (selI h x v i)).1 = n at *
      generalize (ndF (selI h x v i)).2 = d at *
      generalize ha : n * (ix x i).D.toNat = a at *
      generalize hb : d * (ix x i).N.toNat = b at *
      generalize hc : d * (ix x i).D.toNat = c at *
      simp [HyB, hil, rowAt_enc hil, rowAt_enc hix, hix, sConI, hel, hm, Nt.s21, Nt.s29, Nt.s28, k1, k2, j1, nv_ok m0, nv_ok m1, nv_ok m2, nv_ok m3, nv_ok m4, nv_ok m5, nv_ok m6, cl_ok m0, cl_ok m1, cl_ok m2, cl_ok m3, cl_ok m4, cl_ok m5, cl_ok m6, ha, hb, hc, fitT_ok m4, fitT_ok m5, fitT_ok m6, fitT_ok m7]
      exact ⟨i + 1, by omega, by omega, weak_eq (by simp [e1, e2]) (by simp [HyB])⟩
    · have e : selI h x v (i + 1) = selI h x v i := by rw [selI, if_neg hm]
      simp [HyB, hil, rowAt_enc hil, sConI, hel, hm, j1]
      exact ⟨i + 1, by omega, by omega, weak_eq (by simp [e]) (by simp [HyB])⟩
  · have : i = h.E.length := by omega
    subst this
    have hc : covH h x v = decide ((ndF (selI h x v h.E.length)).2 ≤ (ndF (selI h x v h.E.length)).1) := rfl
    obtain ⟨f1, f2⟩ := nd_fit (l := selI h x v h.E.length) (by omega) hsw
    have l3 : (1000000000 : Nat) ^ 60 < 1000000000 ^ 64 := by decide
    generalize (ndF (selI h x v h.E.length)).1 = n at *
    generalize (ndF (selI h x v h.E.length)).2 = d at *
    have m0 : n < 1000000000 ^ 64 := by omega
    have m1 : d < 1000000000 ^ 64 := by omega
    have e := cmp_ge0 n d
    simp [HyB, hil, Nt.s32, nv_ok m0, nv_ok m1, cl_ok m0, cl_ok m1, hc]
    simpa using e
noncomputable def CIr : Ctx := mkC Tryd.prog G0 [(28, .pure sValidH), (29, .pure sValidF), (30, .pure sCovR)]
@[simp] theorem CIr_P : CIr.P = Tryd.prog := rfl
@[simp] theorem CIr_G : CIr.G = G0 := rfl
@[simp] theorem CIr_1 : CIr.S 28 = .pure sValidH := rfl
@[simp] theorem CIr_2 : CIr.S 29 = .pure sValidF := rfl
@[simp] theorem CIr_3 : CIr.S 30 = .pure sCovR := rfl
theorem mixCIr : CIr.P.follows .mixedOrders = true := mixed
theorem sigCIr : SigOK CIr := sigOK_cons (entryPure (validHR) Tryd.func28 rfl (by decide)) (sigOK_cons (entryPure (validR) Tryd.func29 rfl (by decide)) (sigOK_cons (entryPure (coveredR) Tryd.func30 rfl (by decide)) (sigOK_nil _ _)))
set_option maxHeartbeats 16000000 in
theorem isCoverR : PureOK Tryd.prog G0 10 sIsCover := by
  refine pureH2 (C := CIr) sigCIr mixCIr Tryd.func10 rfl rfl rfl [] (by kernel_rfl) (by decide) (fun h x ⟨hs, hxl⟩ => ?_)
  by_cases hv : ValidH h
  case neg =>
    have : ¬ IsCovH h x := fun c => hv c.1
    simp [sValidH, hs, hv, this]
  by_cases hlen : (x.length : Int) = h.E.length
  case neg =>
    have : ¬ IsCovH h x := fun c => hlen (by rw [c.2.1])
    have hlen' : ¬ x.length = h.E.length := fun c => hlen (by rw [c])
    simp [sValidH, hs, hv, hlen, hlen', this]
  have hlen' : x.length = h.E.length := by omega
  have hE := hv.2.2.1
  obtain ⟨r, hr⟩ : ∃ r, decide (IsCovH h x) = r := ⟨_, rfl⟩
  rw [hr]
  simp [sValidH, hs, hv, hlen']
  refine loop_ruleH (C := CIr) sigCIr mixCIr [] (fun i : Nat => ⟨[(1, Enc.enc x), (2, .ptr 0 1 2 0 0), (5, .int .i64 i)], [HyB h]⟩) (fun i => i ≤ x.length ∧ ∀ j < i, WtF (ix x j)) (fun i => x.length - i) (by kernel_rfl) ⟨0, by simp, weak_eq (by simp) (by simp [HyB])⟩ (fun i ⟨hi, hx⟩ => ?_)
  by_cases hil : i < x.length
  · have i1 : I64 ((i : Int) + 1) := by unfold I64; omega
    by_cases q1 : ValidF (ix x i)
    · by_cases q2 : (ix x i).N < 0
      · have : r = false := by rw [← hr]; exact decide_eq_false fun c => by have := (c.2.2.1 _ (ix_mem hil)).n; omega
        subst this
        simp [HyB, hil, rowAt_enc hil, sValidF, q1, q2]
      · simp [HyB, hil, rowAt_enc hil, sValidF, q1, q2, i1]
        refine ⟨i + 1, ⟨by omega, fun j hj => ?_⟩, by omega, weak_eq (by simp) (by simp [HyB])⟩
        rcases Nat.lt_or_eq_of_le (Nat.le_of_lt_succ hj) with hj | rfl
        · exact hx j hj
        · exact ⟨q1, by omega⟩
    · have : r = false := by rw [← hr]; exact decide_eq_false fun c => q1 (c.2.2.1 _ (ix_mem hil)).v
      subst this
      simp [HyB, hil, rowAt_enc hil, sValidF, q1]
  · have hwt : ∀ f ∈ x, WtF f := fun f hf => by
      obtain ⟨j, hj, rfl⟩ := List.mem_iff_getElem.1 hf
      have := hx j (by omega)
      rwa [ix_lt hj] at this
    simp [HyB, hil]
    refine loop_ruleH (C := CIr) sigCIr mixCIr [] (fun v : Nat => ⟨[(1, Enc.enc x), (2, .ptr 0 1 2 0 0), (6, .int .i64 v)], [HyB h]⟩) (fun v => v ≤ h.N.toNat ∧ ∀ u < v, covH h x u = true) (fun v => h.N.toNat - v) (by kernel_rfl) ⟨0, by simp, weak_eq (by simp) (by simp [HyB])⟩ (fun v ⟨hv1, hv2⟩ => ?_)
    have hN := hv.1
    have hN2 := hv.2.1
    by_cases hvl : v < h.N.toNat
    · have hvl' : (v : Int) < h.N := by omega
      have i1 : I64 ((v : Int) + 1) := by unfold I64; omega
      cases hc : covH h x v with
      | true =>
        simp [HyB, hvl', sCovR, hs, hE, hlen', hc, i1]
        refine ⟨hwt, v + 1, ⟨by omega, fun u hu => ?_⟩, by omega, weak_eq (by simp) (by simp [HyB])⟩
        rcases Nat.lt_or_eq_of_le (Nat.le_of_lt_succ hu) with hu | rfl
        · exact hv2 u hu
        · exact hc
      | false =>
        have : r = false := by rw [← hr]; exact decide_eq_false fun c => by have := c.2.2.2 v hvl; rw [hc] at this; cases this
        subst this
        simp [HyB, hvl', sCovR, hs, hE, hlen', hc]
        exact hwt
    · have hvl' : ¬ (v : Int) < h.N := by omega
      have : r = true := by rw [← hr]; exact decide_eq_true ⟨hv, hlen', hwt, fun u hu => hv2 u (by omega)⟩
      subst this
      simp [HyB, hvl']
end Go.Proofs.YtfoipbjhaiimlaaDoor


/-
  layer 31: powers compared: Fits, and what is below a power.
-/
namespace Go.Proofs.YtfoipbjhaiimlaaDoor
open Go.RowKit
set_option linter.unusedSimpArgs false
set_option linter.unusedVariables false
set_option maxRecDepth 100000

def LimN : Nat := 1000000000 ^ 64
theorem lim64 {n : Nat} : (Nt.canon n).length ≤ 64 ↔ n < LimN := by
  constructor
  · intro h
    have h1 := Nt.val_lt (Nt.canon_good n)
    rw [Nt.val_canon] at h1
    exact Nat.lt_of_lt_of_le h1 (Nat.pow_le_pow_right (by decide) h)
  · exact fits64
theorem lim_big : (9223372036854775807 : Nat) < LimN := by unfold LimN; decide
theorem nvL {n : Nat} (h : n < LimN) : Nt.nv (Nt.canon n) = n := nv_ok h
theorem clL {n : Nat} (h : n < LimN) : (Nt.canon n).length ≤ 1000000 := cl_ok h
theorem fitL {n : Nat} (h : n < LimN) : Nt.fitT n = .tup [Enc.enc (Nt.canon n), .bool true] := fitT_ok h
theorem fitL_no {n : Nat} (h : ¬ n < LimN) : Nt.fitT n = .tup [.slice 1 false [], .bool false] := by
  have : ¬ (Nt.canon n).length ≤ 64 := fun e => h (lim64.1 e)
  unfold Nt.fitT
  rw [if_neg this, decide_eq_false this]
  rfl
theorem powL {v : Nat} {k : Int} (hk : 0 ≤ k) (h : v ^ k.toNat < LimN) : Nt.powT v k = .tup [Enc.enc (Nt.canon (v ^ k.toNat)), .bool true] := by
  unfold Nt.powT
  rw [if_neg (by omega), fitL h]
theorem powL_no {v : Nat} {k : Int} (hk : 0 ≤ k) (h : ¬ v ^ k.toNat < LimN) : Nt.powT v k = .tup [.slice 1 false [], .bool false] := by
  unfold Nt.powT
  rw [if_neg (by omega), fitL_no h]
theorem cmp_le0 (n d : Nat) : decide (Nt.cmpN n d ≤ 0) = decide (n ≤ d) := decide_eq_decide.2 Nt.cmpN_le
def Usable (n : Int) (r : Fr) : Prop := 1 ≤ n ∧ ValidF r ∧ 0 ≤ r.N
instance (n : Int) (r : Fr) : Decidable (Usable n r) := by unfold Usable; infer_instance
def FitsR (c n : Int) (r : Fr) : Prop := 0 ≤ c ∧ Usable n r ∧ c.toNat ^ r.D.toNat < LimN ∧ n.toNat ^ r.N.toNat < LimN ∧ c.toNat ^ r.D.toNat ≤ n.toNat ^ r.N.toNat
open Classical in
noncomputable def fitsB (c n : Int) (r : Fr) : Bool := decide (FitsR c n r)
def sUsable : List AV → Option (Prop × AV) := spec2 (fun (_ : Int) (_ : Fr) => True) (fun n r => .bool (decide (Usable n r)))
noncomputable def CUs : Ctx := mkC Tryd.prog G0 [(25, .pure sValidF)]
@[simp] theorem CUs_P : CUs.P = Tryd.prog := rfl
@[simp] theorem CUs_G : CUs.G = G0 := rfl
@[simp] theorem CUs_1 : CUs.S 25 = .pure sValidF := rfl
theorem mixCUs : CUs.P.follows .mixedOrders = true := mixed
theorem sigCUs : SigOK CUs := sigOK_cons (entryPure (validP) Tryd.func25 rfl (by decide)) (sigOK_nil _ _)
theorem usableP : PureOK Tryd.prog G0 31 sUsable := by
  refine pureH2 (C := CUs) sigCUs mixCUs Tryd.func31 rfl rfl rfl [] (by kernel_rfl) (by decide) (fun n r _ => ?_)
  unfold Usable
  by_cases h1 : 1 ≤ n
  · by_cases h2 : ValidF r
    · by_cases h3 : 0 ≤ r.N
      · simp [sValidF, h1, h2, h3]
      · simp [sValidF, h1, h2, h3]
    · simp [sValidF, h1, h2]
  · simp [sValidF, h1]
namespace Nt
def s11 : List AV → Option (Prop × AV) := spec2 (fun (a : List Int) (k : Int) => a.length ≤ 1000000 ∧ I64 k) (fun a k => powT (nv a) k)
end Nt
noncomputable def sFits : List AV → Option (Prop × AV) := spec3 (fun (c n : Int) (_ : Fr) => I64 c ∧ I64 n) (fun c n r => .bool (fitsB c n r))
noncomputable def CFt : Ctx := mkC Tryd.prog G0 [(31, .pure sUsable), (33, .pure Nt.s20), (32, .pure Nt.s11), (43, .pure Nt.s24)]
@[simp] theorem CFt_P : CFt.P = Tryd.prog := rfl
@[simp] theorem CFt_G : CFt.G = G0 := rfl
@[simp] theorem CFt_1 : CFt.S 31 = .pure sUsable := rfl
@[simp] theorem CFt_2 : CFt.S 33 = .pure Nt.s20 := rfl
@[simp] theorem CFt_3 : CFt.S 32 = .pure Nt.s11 := rfl
@[simp] theorem CFt_4 : CFt.S 43 = .pure Nt.s24 := rfl
theorem mixCFt : CFt.P.follows .mixedOrders = true := mixed
theorem sigCFt : SigOK CFt := sigOK_cons (entryPure (usableP) Tryd.func31 rfl (by decide)) (sigOK_cons (entryPure (Nt.of20) Tryd.func33 rfl (by decide)) (sigOK_cons (entryPure (Nt.pow11) Tryd.func32 rfl (by decide)) (sigOK_cons (entryPure (Nt.cmp24) Tryd.func43 rfl (by decide)) (sigOK_nil _ _))))
set_option maxHeartbeats 8000000 in
theorem fitsP : PureOK Tryd.prog G0 13 sFits := by
  refine pureH3 (C := CFt) sigCFt mixCFt Tryd.func13 rfl rfl rfl [] (by kernel_rfl) (by decide) (fun c n r ⟨hc, hn⟩ => ?_)
  obtain ⟨b, hb⟩ : ∃ b, fitsB c n r = b := ⟨_, rfl⟩
  have no : ¬ FitsR c n r → b = false := fun h => by rw [← hb]; exact @decide_eq_false _ (Classical.propDecidable _) h
  have yes : FitsR c n r → b = true := fun h => by rw [← hb]; exact @decide_eq_true _ (Classical.propDecidable _) h
  rw [hb]
  clear hb
  by_cases h1 : c < 0
  · obtain rfl := no fun h => by have := h.1; omega
    simp [h1]
  by_cases h2 : Usable n r
  case neg =>
    obtain rfl := no fun h => h2 h.2.1
    simp [h1, sUsable, h2]
  obtain ⟨u1, u2, u3⟩ := h2
  have h2 : Usable n r := ⟨u1, u2, u3⟩
  have hD : 0 ≤ r.D := by have := u2.1; omega
  have kD : I64 r.D := by have := u2.2.1; unfold I64; omega
  have kN : I64 r.N := by have := u2.2.2.1; unfold InR at this; unfold I64; omega
  have hl := lim_big
  have c1 : c.toNat < LimN := by unfold I64 at hc; omega
  have n1 : n.toNat < LimN := by unfold I64 at hn; omega
  clear hl
  by_cases hA : c.toNat ^ r.D.toNat < LimN
  · by_cases hB : n.toNat ^ r.N.toNat < LimN
    · have e : b = decide (c.toNat ^ r.D.toNat ≤ n.toNat ^ r.N.toNat) := by
        by_cases hle : c.toNat ^ r.D.toNat ≤ n.toNat ^ r.N.toNat
        · rw [decide_eq_true hle]; exact yes ⟨by omega, h2, hA, hB, hle⟩
        · rw [decide_eq_false hle]; exact no fun h => hle h.2.2.2.2
      have e2 := cmp_le0 (c.toNat ^ r.D.toNat) (n.toNat ^ r.N.toNat)
      simp [h1, sUsable, h2, Nt.s20, Nt.s11, Nt.s24, hc, hn, nvL c1, nvL n1, clL c1, clL n1, powL hD hA, powL u3 hB, nvL hA, nvL hB, clL hA, clL hB, kD, kN, e, e2]
    · obtain rfl := no fun h => hB h.2.2.2.1
      simp [h1, sUsable, h2, Nt.s20, Nt.s11, Nt.s24, hc, hn, nvL c1, nvL n1, clL c1, clL n1, powL hD hA, powL_no u3 hB, nvL hA, clL hA, kD, kN]
  · obtain rfl := no fun h => hA h.2.2.1
    by_cases hB : n.toNat ^ r.N.toNat < LimN
    · simp [h1, sUsable, h2, Nt.s20, Nt.s11, Nt.s24, hc, hn, nvL c1, nvL n1, clL c1, clL n1, powL_no hD hA, powL u3 hB, kD, kN]
    · simp [h1, sUsable, h2, Nt.s20, Nt.s11, Nt.s24, hc, hn, nvL c1, nvL n1, clL c1, clL n1, powL_no hD hA, powL_no u3 hB, kD, kN]
namespace Nt
def s12 : List AV → Option (Prop × AV) := spec2 (fun (a : List Int) (k : Int) => a.length ≤ 1000000 ∧ I64 k) (fun a k => powT (nv a) k)
end Nt
noncomputable def CFtR : Ctx := mkC Tryd.prog G0 [(29, .pure sValidF), (22, .pure Nt.s21), (38, .pure Nt.s12), (21, .pure Nt.s32)]
@[simp] theorem CFtR_P : CFtR.P = Tryd.prog := rfl
@[simp] theorem CFtR_G : CFtR.G = G0 := rfl
@[simp] theorem CFtR_1 : CFtR.S 29 = .pure sValidF := rfl
@[simp] theorem CFtR_2 : CFtR.S 22 = .pure Nt.s21 := rfl
@[simp] theorem CFtR_3 : CFtR.S 38 = .pure Nt.s12 := rfl
@[simp] theorem CFtR_4 : CFtR.S 21 = .pure Nt.s32 := rfl
theorem mixCFtR : CFtR.P.follows .mixedOrders = true := mixed
theorem sigCFtR : SigOK CFtR := sigOK_cons (entryPure (validR) Tryd.func29 rfl (by decide)) (sigOK_cons (entryPure (Nt.of21) Tryd.func22 rfl (by decide)) (sigOK_cons (entryPure (Nt.pow12) Tryd.func38 rfl (by decide)) (sigOK_cons (entryPure (Nt.cmp32) Tryd.func21 rfl (by decide)) (sigOK_nil _ _))))
set_option maxHeartbeats 8000000 in
theorem fitsRR : PureOK Tryd.prog G0 14 sFits := by
  refine pureH3 (C := CFtR) sigCFtR mixCFtR Tryd.func14 rfl rfl rfl [] (by kernel_rfl) (by decide) (fun c n r ⟨hc, hn⟩ => ?_)
  obtain ⟨b, hb⟩ : ∃ b, fitsB c n r = b := ⟨_, rfl⟩
  have no : ¬ FitsR c n r → b = false := fun h => by rw [← hb]; exact @decide_eq_false _ (Classical.propDecidable _) h
  have yes : FitsR c n r → b = true := fun h => by rw [← hb]; exact @decide_eq_true _ (Classical.propDecidable _) h
  rw [hb]
  clear hb
  by_cases h1 : c < 0
  · obtain rfl := no fun h => by have := h.1; omega
    simp [h1]
  by_cases w1 : n < 1
  · obtain rfl := no fun h => by have := h.2.1.1; omega
    simp [h1, w1]
  by_cases u2 : ValidF r
  case neg =>
    obtain rfl := no fun h => u2 h.2.1.2.1
    simp [h1, w1, sValidF, u2]
  by_cases w3 : r.N < 0
  · obtain rfl := no fun h => by have := h.2.1.2.2; omega
    simp [h1, w1, sValidF, u2, w3]
  have u3 : 0 ≤ r.N := by omega
  have h2 : Usable n r := ⟨by omega, u2, u3⟩
  have hD : 0 ≤ r.D := by have := u2.1; omega
  have kD : I64 r.D := by have := u2.2.1; unfold I64; omega
  have kN : I64 r.N := by have := u2.2.2.1; unfold InR at this; unfold I64; omega
  have hl := lim_big
  have c1 : c.toNat < LimN := by unfold I64 at hc; omega
  have n1 : n.toNat < LimN := by unfold I64 at hn; omega
  clear hl
  by_cases hA : c.toNat ^ r.D.toNat < LimN
  · by_cases hB : n.toNat ^ r.N.toNat < LimN
    · have e : b = decide (c.toNat ^ r.D.toNat ≤ n.toNat ^ r.N.toNat) := by
        by_cases hle : c.toNat ^ r.D.toNat ≤ n.toNat ^ r.N.toNat
        · rw [decide_eq_true hle]; exact yes ⟨by omega, h2, hA, hB, hle⟩
        · rw [decide_eq_false hle]; exact no fun h => hle h.2.2.2.2
      have e2 := cmp_le0 (c.toNat ^ r.D.toNat) (n.toNat ^ r.N.toNat)
      simp [h1, w1, sValidF, u2, w3, Nt.s21, Nt.s12, Nt.s32, hc, hn, nvL c1, nvL n1, clL c1, clL n1, powL hD hA, powL u3 hB, nvL hA, nvL hB, clL hA, clL hB, kD, kN, e, e2]
    · obtain rfl := no fun h => hB h.2.2.2.1
      simp [h1, w1, sValidF, u2, w3, Nt.s21, Nt.s12, Nt.s32, hc, hn, nvL c1, nvL n1, clL c1, clL n1, powL hD hA, powL_no u3 hB, nvL hA, clL hA, kD, kN]
  · obtain rfl := no fun h => hA h.2.2.1
    by_cases hB : n.toNat ^ r.N.toNat < LimN
    · simp [h1, w1, sValidF, u2, w3, Nt.s21, Nt.s12, Nt.s32, hc, hn, nvL c1, nvL n1, clL c1, clL n1, powL_no hD hA, powL u3 hB, kD, kN]
    · simp [h1, w1, sValidF, u2, w3, Nt.s21, Nt.s12, Nt.s32, hc, hn, nvL c1, nvL n1, clL c1, clL n1, powL_no hD hA, powL_no u3 hB, kD, kN]

/-- Is a to the k at most x? -/
def sBelow : List AV → Option (Prop × AV) := spec3 (fun (a : List Int) (k : Int) (x : List Int) => a.length ≤ 1000000 ∧ I64 k ∧ 0 ≤ k ∧ x.length ≤ 1000000 ∧ Nt.nv x < LimN) (fun a k x => .bool (decide (Nt.nv a ^ k.toNat ≤ Nt.nv x)))
noncomputable def CBw : Ctx := mkC Tryd.prog G0 [(32, .pure Nt.s11), (43, .pure Nt.s24)]
@[simp] theorem CBw_P : CBw.P = Tryd.prog := rfl
@[simp] theorem CBw_G : CBw.G = G0 := rfl
@[simp] theorem CBw_1 : CBw.S 32 = .pure Nt.s11 := rfl
@[simp] theorem CBw_2 : CBw.S 43 = .pure Nt.s24 := rfl
theorem mixCBw : CBw.P.follows .mixedOrders = true := mixed
theorem sigCBw : SigOK CBw := sigOK_cons (entryPure (Nt.pow11) Tryd.func32 rfl (by decide)) (sigOK_cons (entryPure (Nt.cmp24) Tryd.func43 rfl (by decide)) (sigOK_nil _ _))
theorem belowP : PureOK Tryd.prog G0 35 sBelow := by
  refine pureH3 (C := CBw) sigCBw mixCBw Tryd.func35 rfl rfl rfl [] (by kernel_rfl) (by decide) (fun a k x ⟨ha, hk, hk0, hx, hxl⟩ => ?_)
  by_cases hA : Nt.nv a ^ k.toNat < LimN
  · have e2 := cmp_le0 (Nt.nv a ^ k.toNat) (Nt.nv x)
    simp [Nt.s11, Nt.s24, ha, hk, hx, powL hk0 hA, nvL hA, clL hA, e2]
  · have e : decide (Nt.nv a ^ k.toNat ≤ Nt.nv x) = false := decide_eq_false (by omega)
    simp [Nt.s11, Nt.s24, ha, hk, hx, powL_no hk0 hA]
    simpa using e
noncomputable def CAm : Ctx := mkC Tryd.prog G0 [(38, .pure Nt.s12), (21, .pure Nt.s32)]
@[simp] theorem CAm_P : CAm.P = Tryd.prog := rfl
@[simp] theorem CAm_G : CAm.G = G0 := rfl
@[simp] theorem CAm_1 : CAm.S 38 = .pure Nt.s12 := rfl
@[simp] theorem CAm_2 : CAm.S 21 = .pure Nt.s32 := rfl
theorem mixCAm : CAm.P.follows .mixedOrders = true := mixed
theorem sigCAm : SigOK CAm := sigOK_cons (entryPure (Nt.pow12) Tryd.func38 rfl (by decide)) (sigOK_cons (entryPure (Nt.cmp32) Tryd.func21 rfl (by decide)) (sigOK_nil _ _))
theorem atMostR : PureOK Tryd.prog G0 39 sBelow := by
  refine pureH3 (C := CAm) sigCAm mixCAm Tryd.func39 rfl rfl rfl [] (by kernel_rfl) (by decide) (fun a k x ⟨ha, hk, hk0, hx, hxl⟩ => ?_)
  by_cases hA : Nt.nv a ^ k.toNat < LimN
  · have e2 := cmp_le0 (Nt.nv a ^ k.toNat) (Nt.nv x)
    simp [Nt.s12, Nt.s32, ha, hk, hx, powL hk0 hA, nvL hA, clL hA, e2]
  · have e : decide (Nt.nv a ^ k.toNat ≤ Nt.nv x) = false := decide_eq_false (by omega)
    simp [Nt.s12, Nt.s32, ha, hk, hx, powL_no hk0 hA]
    simpa using e
end Go.Proofs.YtfoipbjhaiimlaaDoor


/-
  layer 31: the greatest number whose power is below a bound; half of a number.
-/
namespace Go.Proofs.YtfoipbjhaiimlaaDoor
open Go.RowKit
set_option linter.unusedSimpArgs false
set_option linter.unusedVariables false
set_option maxRecDepth 100000

def IsRoot (D T b : Nat) : Prop := b ^ D ≤ T ∧ T < (b + 1) ^ D
def rootB (D T : Nat) : Nat → Nat
  | 0 => 0
  | k + 1 => if (k + 1) ^ D ≤ T then k + 1 else rootB D T k
def rootN (D T : Nat) : Nat := rootB D T T
theorem rootB_spec {D T : Nat} (hD : 1 ≤ D) : ∀ k, T < (k + 1) ^ D → IsRoot D T (rootB D T k)
  | 0, h => ⟨by unfold rootB; rw [Nat.zero_pow (by omega)]; exact Nat.zero_le _, by simpa [rootB] using h⟩
  | k + 1, h => by
    unfold rootB
    split
    · rename_i h1; exact ⟨h1, h⟩
    · rename_i h1; exact rootB_spec hD k (by omega)
theorem root_spec {D T : Nat} (hD : 1 ≤ D) : IsRoot D T (rootN D T) := rootB_spec hD T (by
  have : T + 1 ≤ (T + 1) ^ D := by
    have := Nat.pow_le_pow_right (n := T + 1) (by omega) hD
    rwa [Nat.pow_one] at this
  omega)
theorem root_uniq {D T a b : Nat} (ha : IsRoot D T a) (hb : IsRoot D T b) : a = b := by
  rcases Nat.lt_trichotomy a b with h | h | h
  · have := Nat.pow_le_pow_left (show a + 1 ≤ b by omega) D
    have := ha.2; have := hb.1; omega
  · exact h
  · have := Nat.pow_le_pow_left (show b + 1 ≤ a by omega) D
    have := hb.2; have := ha.1; omega
theorem root_eq {D T b : Nat} (hD : 1 ≤ D) (h : IsRoot D T b) : rootN D T = b := root_uniq (root_spec hD) h
theorem le_root {D T c : Nat} (hD : 1 ≤ D) : c ≤ rootN D T ↔ c ^ D ≤ T := by
  obtain ⟨h1, h2⟩ := root_spec (T := T) hD
  constructor
  · intro h; exact Nat.le_trans (Nat.pow_le_pow_left h D) h1
  · intro h
    apply Classical.byContradiction
    intro hc
    have := Nat.pow_le_pow_left (show rootN D T + 1 ≤ c by omega) D
    omega
theorem root_le {D T : Nat} (hD : 1 ≤ D) : rootN D T ≤ T := by
  have h := (root_spec (T := T) hD).1
  rcases Nat.eq_zero_or_pos (rootN D T) with h0 | h0
  · omega
  · have := Nat.pow_le_pow_right h0 hD
    rw [Nat.pow_one] at this
    omega
theorem root_one (T : Nat) : rootN 1 T = T := root_eq (Nat.le_refl _) ⟨by rw [Nat.pow_one]; exact Nat.le_refl _, by rw [Nat.pow_one]; omega⟩
theorem two_lt {m n : Nat} (h : m < n) : 2 ^ m < 2 ^ n := Nat.pow_lt_pow_right (by decide) h
theorem lim_two {a b k : Nat} (hb : LimN ≤ (2 ^ a) ^ b) (hk : a * b < k) : LimN < 2 ^ k := by
  rw [← Nat.pow_mul] at hb
  exact Nat.lt_of_le_of_lt hb (two_lt hk)
theorem root_big {D T : Nat} (hD : 2000 < D) (h1 : 1 ≤ T) (hT : T < LimN) : rootN D T = 1 := root_eq (by omega) ⟨by rw [Nat.one_pow]; exact h1, by
  have h2 : LimN < 2 ^ D := lim_two (a := 30) (b := 64) (Nat.pow_le_pow_left (by decide) 64) (by omega)
  show T < 2 ^ D
  omega⟩
/-- What Bound answers. -/
def boundT (n : Int) (r : Fr) : AV := if Usable n r ∧ n.toNat ^ r.N.toNat < LimN then .tup [Enc.enc (Nt.canon (rootN r.D.toNat (n.toNat ^ r.N.toNat))), .bool true] else .tup [.slice 1 false [], .bool false]
theorem boundT_yes {n : Int} {r : Fr} (h : Usable n r) (h2 : n.toNat ^ r.N.toNat < LimN) : boundT n r = .tup [Enc.enc (Nt.canon (rootN r.D.toNat (n.toNat ^ r.N.toNat))), .bool true] := if_pos ⟨h, h2⟩
theorem boundT_no {n : Int} {r : Fr} (h : ¬ Usable n r) : boundT n r = .tup [.slice 1 false [], .bool false] := if_neg fun c => h c.1
theorem boundT_big {n : Int} {r : Fr} (h : ¬ n.toNat ^ r.N.toNat < LimN) : boundT n r = .tup [.slice 1 false [], .bool false] := if_neg fun c => h c.2
def sBound : List AV → Option (Prop × AV) := spec2 (fun (n : Int) (_ : Fr) => I64 n) boundT

def sHalf : List AV → Option (Prop × AV) := spec1 (fun a : List Int => Nt.Good a ∧ a.length ≤ 1000) (fun a => Enc.enc (Nt.canon (Nt.val a / 2)))
def NB (l : List Int) : Blk := ⟨3, 1, encRows l, true, true⟩
set_option maxHeartbeats 8000000 in
theorem halfR : PureOK Tryd.prog G0 42 sHalf := by
  refine pureH1 (C := CE) sigCE mixCE Tryd.func42 rfl rfl rfl [] (by kernel_rfl) (by decide) (fun a ⟨hg, ha⟩ => ?_)
  have i0 : I64 ((a.length : Int) - 1) := by unfold I64; omega
  simp [i0]
  refine ⟨(by first | omega | (unfold I64; omega)), ?_⟩
  refine loop_ruleH (C := CE) sigCE mixCE [] (fun q : Nat × Int × List Int => ⟨[(0, Enc.enc a), (3, .own 0 a.length), (4, .int .i64 q.2.1), (5, .int .i64 ((q.1 : Int) - 1))], [NB q.2.2]⟩) (fun q => q.1 ≤ a.length ∧ q.2.2.length = a.length ∧ Nt.Good q.2.2 ∧ (0 ≤ q.2.1 ∧ q.2.1 ≤ 1) ∧ Nt.val (a.drop q.1) = 2 * Nt.val (q.2.2.drop q.1) + q.2.1.toNat) (fun q => q.1) (by kernel_rfl) ⟨(a.length, 0, List.replicate a.length 0), ⟨by simp, by simp, Nt.good_rep _, by simp, by simp [Nt.val]⟩, weak_eq (by simp) (by simp [NB])⟩ (fun ⟨m, rs, o⟩ ⟨hm, hol, hog, hr, hv⟩ => ?_)
  simp only at hm hol hog hr hv ⊢
  by_cases h0 : m = 0
  · subst h0
    rw [List.drop_zero, List.drop_zero] at hv
    have hval : Nt.val o = Nt.val a / 2 := by omega
    have i1 : I64 (o.length : Int) := by unfold I64; omega
    simp [NB, hol]
    refine loop_ruleH (C := CE) sigCE mixCE [] (fun n : Nat => ⟨[(3, .own 0 a.length), (6, .int .i64 n)], [NB o]⟩) (fun n => n ≤ o.length ∧ Nt.val (o.take n) = Nt.val o) (fun n => n) (by kernel_rfl) ⟨o.length, by simp, weak_eq (by simp [hol]) (by simp [NB])⟩ (fun n ⟨hn, hvn⟩ => ?_)
    have fin : (n ≠ 0 → ix o (n - 1) ≠ 0) → Nt.canon (Nt.val a / 2) = o.take n := fun h => by
      rw [← hval, ← hvn]
      refine Nt.canon_val (Nt.good_take n hog) fun hne => ?_
      have hl : (o.take n).length = n := by rw [List.length_take, Nat.min_eq_left hn]
      have h0 : n ≠ 0 := fun h0 => hne (by rw [h0]; simp)
      rw [hl]
      have := h h0
      unfold ix at this ⊢
      rw [List.getD_eq_getElem?_getD, List.getElem?_take, if_pos (by omega)]
      rwa [List.getD_eq_getElem?_getD] at this
    by_cases hn0 : n = 0
    · subst hn0
      have hf := fin (by simp)
      have isc : isScalT CE 32 = true := by show isScalT ⟨Tryd.prog, fun _ => .no, G0⟩ 32 = true; kernel_rfl
      simp [NB, hol, isc, hf]
    · have h1 : n - 1 < o.length := by omega
      have h2 : ((n : Int) - 1).toNat = n - 1 := by omega
      have h3 : I64 ((n : Int) - 1) := by unfold I64; omega
      have h4 : 0 < n := by omega
      have h6 : (n : Int) ≤ a.length := by omega
      by_cases h5 : ix o (n - 1) = 0
      · simp [NB, hol, hn0, h2, h3, h4, rowAt_enc h1, h5]
        refine ⟨by omega, by omega, n - 1, ⟨by omega, ?_⟩, by omega, weak_eq (by simp; omega) (by simp [NB])⟩
        have := Nt.val_take_succ h1
        rw [Nat.sub_add_cancel h4, hvn, h5] at this
        simpa using this.symm
      · have hf := fin fun _ => h5
        have isc : isScalT CE 32 = true := by show isScalT ⟨Tryd.prog, fun _ => .no, G0⟩ 32 = true; kernel_rfl
        simp [NB, hol, hn0, h2, h3, h4, rowAt_enc h1, h5, isc, hf, h6]
        omega
  · have k1 : m - 1 < a.length := by omega
    have k2 : m - 1 < o.length := by omega
    have k3 : ((m : Int) - 1).toNat = m - 1 := by omega
    have k4 : (1 : Int) ≤ m := by omega
    have k5 : 0 < m := by omega
    have ga := Nt.ix_good hg k1
    have e1 : (rs * 1000000000 + ix a (m - 1)).tdiv 2 = (rs * 1000000000 + ix a (m - 1)) / 2 := Int.tdiv_eq_ediv_of_nonneg (by omega)
    have e2 : (ix a (m - 1)).tmod 2 = ix a (m - 1) % 2 := Int.tmod_eq_emod_of_nonneg (by omega)
    have j1 : I64 (rs * 1000000000) := by unfold I64; omega
    have j2 : I64 (rs * 1000000000 + ix a (m - 1)) := by unfold I64; omega
    have j3 : I64 ((rs * 1000000000 + ix a (m - 1)) / 2) := by unfold I64; omega
    have j4 : I64 ((m : Int) - 1 - 1) := by unfold I64; omega
    simp [NB, hol, k3, k4, k5, rowAt_enc k1, rowAt_enc k2, e1, e2, j1, j2, j3, j4]
    refine ⟨by omega, by omega, by omega, m - 1, ix a (m - 1) % 2, o.set (m - 1) ((rs * 1000000000 + ix a (m - 1)) / 2), ⟨by omega, by simpa using hol, Nt.good_set hog (by omega), by omega, ?_⟩, by omega, weak_eq (by simp; omega) (by simp [NB])⟩
    have hd : (o.set (m - 1) ((rs * 1000000000 + ix a (m - 1)) / 2)).drop (m - 1) = ((rs * 1000000000 + ix a (m - 1)) / 2) :: o.drop m := by
      rw [List.drop_eq_getElem_cons (by simpa using k2), List.getElem_set_self, List.drop_set_of_lt (by omega)]
      congr 2
      omega
    have ha' : a.drop (m - 1) = ix a (m - 1) :: a.drop m := by
      rw [Nt.drop_eq k1, Nat.sub_add_cancel k5]
    rw [hd, ha', Nt.val, Nt.val, hv]
    unfold Nt.B9
    omega
end Go.Proofs.YtfoipbjhaiimlaaDoor


/-
  layer 31: the closure of slices.Backward at numbers: its loop (after the kit's worked proofs of a range over a function).
-/
namespace Go.Proofs.YtfoipbjhaiimlaaDoor
open Go.RowKit Go.Shelf Go.Proofs

attribute [local go_sem] Oper.semAt_some

set_option maxRecDepth 100000 in
set_option maxHeartbeats 2000000 in
theorem back_in (F : Fence) (n : Nat) (h7 : F.fn 65) (hro : F.round = none) (hn : 1 ≤ n) (l Bs bo b off len cap : Nat) (hlen : len ≤ 1000000) (J : Nat → World → Prop)
    (hB : ∀ k W, J k W → W.cell? ⟨Bs, bo, none⟩ = some (.slice (some ⟨b, off, none⟩) len cap))
    (hY : ∀ k W, J k W → k < len → ∃ v, W.cell? ⟨b, off + (len - 1 - k), none⟩ = some v ∧ YieldAt F (n - 1) Tryd.prog l #[.int .i64 ((len : Int) - 1 - k), v] W fun e W' => e = .returned (.bool true) ∧ J (k + 1) W')
    (W : World) (h0 : J 0 W) :
    CallsIn F n Tryd.prog 65 #[.func (.yield l) #[] #[], .pointer (some ⟨Bs, bo, none⟩)] W fun e W' => (∃ v, e = .returned v) ∧ J len W' := by
  refine callsIn_of_wp Tryd.func65 rfl h7 ?_ hro
  simp only [Tryd.ntmps65, List.size_toArray, List.length_cons, List.length_nil, Nat.reduceAdd, Nat.reduceSub, Array.replicate_succ, Array.replicate_zero, List.push_toArray, List.append_toArray, List.nil_append, List.cons_append]
  have hBs := hB 0 W h0
  gi_wp2
  gi_loopw [3] (fun i wr => ∃ k : Nat, k ≤ len ∧ i = .int .i64 ((len : Int) - 1 - k) ∧ J k wr)
    (fun i _ => (intOf i + 1).toNat)
  case atStart => exact ⟨0, Nat.zero_le _, by simp, h0⟩
  case round =>
    obtain ⟨k, hk, rfl, hJs⟩ := hrel
    have hBk := hB k wr hJs
    by_cases hlt : k < len
    · obtain ⟨v, hv, fn, tmps, assign, body, hy, hR⟩ := hY k wr hJs hlt
      gi_wp2
      refine hR.mono ?_
      rintro e W3 ⟨rfl, hJ3⟩
      gi_wp2
      go_roundw
      case rel => exact ⟨k + 1, by omega, by simp; omega, hJ3⟩
      case measure => simp [intOf]; omega
    · obtain rfl : k = len := by omega
      gi_wp2
      go_end0
      exact ⟨⟨_, rfl⟩, hJs⟩

section
variable {C : Ctx} {N : Nat} {X : Nat → Prop} {w0 : World} {β0 : List BI} {H0 : List Blk}
theorem rel_put64 {st : ASt} {a : Act} {w : World} (h : Rel C N X w0 β0 H0 st a w) {d : Tmp} (hd : d < N) {v : Value} {av : AV} (hv : ∀ β, HRel w X β st.H → StepR w0 β0 H0 w β st.H → Rep w (Mu X β st.H) β st.H v av) : Rel C N X w0 β0 H0 ⟨putA st.ρ (some d) av, st.H⟩ (a.put (some d) v) w := by
  obtain ⟨β, R, S, T, G, hN, hdef⟩ := h
  exact rel_put S T G hN hdef R (StepR.refl _ _ _ R.len) (hv β R S) (some d) (fun d' e => by cases e; exact hd)
theorem rel_loop {w w1 : World} {ex : ASt} {a' : Act} {β : List BI} {H : List Blk} {o : Obj} {L : Nat} (hL : w1.heap[L]? = some o) (ho : isOdd o = true) (R : HRel w1 X β H) (h' : Rel C N X w1 β H ex a' w) : w.heap[L]? = some o := by
  obtain ⟨β', R', S', _⟩ := h'
  have hlt : L < w1.heap.size := (Array.getElem?_eq_some_iff.1 hL).1
  rw [S'.keeps.block L hlt fun ⟨l, c, blk, k1, k2, k3⟩ => ?_, hL]
  obtain ⟨cur, q1, _⟩ := R.blk l _ _ k1 k2
  rw [hL] at q1
  cases q1
  cases ho
end
end Go.Proofs.YtfoipbjhaiimlaaDoor
