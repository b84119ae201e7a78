/-
  Texts joined: B1 B2 H1 H2 H3 H4 H5 H6 H7 H8 H9 H10 H11 K1 K2 K3 K4 K5 K6 K7.
-/
import Derived.Test.YtifbaegnkodneaaDoorS2
/-
  layer 30: pivots by the least index come to an end. Plain words on tableaus of rational numbers; no program in sight.
-/
namespace Go.Proofs.YtifbaegnkodneaaDoor
set_option linter.unusedVariables false

structure QT where
  T : Nat → Nat → Rat
  c : Nat → Rat
  b : Nat → Nat
def pivQ (t : QT) (r j : Nat) : QT where
  T i k := if i = r then t.T r k / t.T r j else t.T i k - t.T i j * (t.T r k / t.T r j)
  c k := t.c k - t.c j * (t.T r k / t.T r j)
  b i := if i = r then j else t.b i
structure WF (m w : Nat) (t : QT) : Prop where
  unit : ∀ i, i < m → t.b i < w → ∀ i', i' < m → t.T i' (t.b i) = if i' = i then 1 else 0
  cost : ∀ i, i < m → t.b i < w → t.c (t.b i) = 0
  rhs : ∀ i, i < m → 0 ≤ t.T i w
structure Bl (m w : Nat) (t : QT) (r j : Nat) : Prop where
  jw : j < w
  neg : t.c j < 0
  ent : ∀ k, k < j → 0 ≤ t.c k
  rm : r < m
  pos : 0 < t.T r j
  least : ∀ i, i < m → 0 < t.T i j → t.T r w / t.T r j < t.T i w / t.T i j ∨ (t.T r w / t.T r j = t.T i w / t.T i j ∧ t.b r ≤ t.b i)

theorem div_back {a p : Rat} (h : p ≠ 0) : a / p * p = a := by grind
theorem div_same {p : Rat} (h : p ≠ 0) : p / p = 1 := by grind
theorem nn_div {a p : Rat} (ha : 0 ≤ a) (hp : 0 < p) : 0 ≤ a / p := by
  rw [Rat.div_def]
  exact Rat.mul_nonneg ha (Rat.le_of_lt (Rat.inv_pos.2 hp))
theorem pos_ne {p : Rat} (hp : 0 < p) : p ≠ 0 := fun h => by rw [h] at hp; exact Rat.lt_irrefl hp

section
variable {m w : Nat} {t : QT} {r j : Nat}
theorem WF.inj (h : WF m w t) {i i' : Nat} (hi : i < m) (hi' : i' < m) (hb : t.b i < w) (e : t.b i = t.b i') : i = i' := by
  have h1 := h.unit i hi hb i hi
  have h2 := h.unit i' hi' (by rw [← e]; exact hb) i hi
  rw [← e, h1, if_pos rfl] at h2
  by_cases hh : i = i'
  · exact hh
  · rw [if_neg hh] at h2
    exact absurd h2 (by decide)
theorem WF.piv (h : WF m w t) (hB : Bl m w t r j) : WF m w (pivQ t r j) := by
  have hp := pos_ne hB.pos
  refine ⟨fun i hi hb i' hi' => ?_, fun i hi hb => ?_, fun i hi => ?_⟩
  · show (if i' = r then _ else _) = _
    by_cases hir : i = r
    · subst hir
      have e : (pivQ t i j).b i = j := if_pos rfl
      rw [e]
      by_cases hi2 : i' = i
      · subst hi2
        rw [if_pos rfl, if_pos rfl]
        exact div_same hp
      · rw [if_neg hi2, if_neg hi2, div_same hp]
        grind
    · have e : (pivQ t r j).b i = t.b i := if_neg hir
      rw [e] at hb ⊢
      have h0 : t.T r (t.b i) = 0 := by
        have := h.unit i hi hb r hB.rm
        rwa [if_neg (fun h => hir h.symm)] at this
      rw [h0]
      by_cases hi2 : i' = r
      · subst hi2
        rw [if_pos rfl, if_neg (fun h => hir h.symm)]
        grind
      · rw [if_neg hi2, h.unit i hi hb i' hi']
        grind
  · show t.c _ - t.c j * (t.T r _ / t.T r j) = 0
    by_cases hir : i = r
    · subst hir
      have e : (pivQ t i j).b i = j := if_pos rfl
      rw [e, div_same hp]
      grind
    · have e : (pivQ t r j).b i = t.b i := if_neg hir
      rw [e] at hb ⊢
      have h0 : t.T r (t.b i) = 0 := by
        have := h.unit i hi hb r hB.rm
        rwa [if_neg (fun h => hir h.symm)] at this
      rw [h0, h.cost i hi hb]
      grind
  · show 0 ≤ (if i = r then _ else _)
    have hth := nn_div (h.rhs r hB.rm) hB.pos
    split
    · exact hth
    · have hrw := h.rhs i hi
      by_cases hij : 0 < t.T i j
      · have hle : t.T r w / t.T r j ≤ t.T i w / t.T i j := by
          rcases hB.least i hi hij with h1 | ⟨h1, _⟩
          · exact Rat.le_of_lt h1
          · rw [h1]; exact Rat.le_refl
        have := Rat.mul_le_mul_of_nonneg_left hle (Rat.le_of_lt hij)
        have e : t.T i j * (t.T i w / t.T i j) = t.T i w := by rw [Rat.mul_comm]; exact div_back (pos_ne hij)
        rw [e] at this
        grind
      · have : 0 ≤ (- t.T i j) * (t.T r w / t.T r j) := Rat.mul_nonneg (by grind) hth
        grind
end

/-! ### Sums -/
def Sm : Nat → (Nat → Rat) → Rat
  | 0, _ => 0
  | n + 1, f => Sm n f + f n
theorem Sm_congr {f g : Nat → Rat} : ∀ {n : Nat}, (∀ i, i < n → f i = g i) → Sm n f = Sm n g
  | 0, _ => rfl
  | n + 1, h => by unfold Sm; rw [Sm_congr (fun i hi => h i (by omega)), h n (by omega)]
theorem Sm_zero : ∀ (n : Nat), Sm n (fun _ => 0) = 0
  | 0 => rfl
  | n + 1 => by unfold Sm; rw [Sm_zero n]; grind
theorem Sm_add (f g : Nat → Rat) : ∀ n, Sm n (fun i => f i + g i) = Sm n f + Sm n g
  | 0 => by unfold Sm; grind
  | n + 1 => by unfold Sm; rw [Sm_add f g n]; grind
theorem Sm_mul (a : Rat) (f : Nat → Rat) : ∀ n, Sm n (fun i => a * f i) = a * Sm n f
  | 0 => by unfold Sm; grind
  | n + 1 => by unfold Sm; rw [Sm_mul a f n]; grind
theorem Sm_pick {f : Nat → Rat} : ∀ {n i : Nat}, i < n → (∀ k, k < n → k ≠ i → f k = 0) → Sm n f = f i
  | 0, _, h, _ => by omega
  | n + 1, i, h, hz => by
    unfold Sm
    by_cases hi : i = n
    · subst hi
      rw [Sm_congr (g := fun _ => 0) (fun k hk => hz k (by omega) (by omega)), Sm_zero]
      grind
    · rw [Sm_pick (i := i) (by omega) (fun k hk hki => hz k (by omega) hki), hz n (by omega) (by omega)]
      grind
theorem Sm_pos {f : Nat → Rat} : ∀ {n : Nat}, 0 < Sm n f → ∃ i, i < n ∧ 0 < f i
  | 0, h => absurd h (by unfold Sm; decide)
  | n + 1, h => by
    unfold Sm at h
    by_cases hf : 0 < f n
    · exact ⟨n, by omega, hf⟩
    · obtain ⟨i, hi, hfi⟩ := Sm_pos (n := n) (f := f) (by grind)
      exact ⟨i, by omega, hfi⟩
theorem Sm_nonneg {f : Nat → Rat} : ∀ {n : Nat}, (∀ i, i < n → 0 ≤ f i) → 0 ≤ Sm n f
  | 0, _ => by unfold Sm; exact Rat.le_refl
  | n + 1, h => by
    have h1 := Sm_nonneg (n := n) (f := f) (fun i hi => h i (by omega))
    have h2 := h n (by omega)
    unfold Sm
    grind

/-! ### What rows span -/
inductive Sp (T : Nat → Nat → Rat) (N : Nat → Prop) : (Nat → Rat) → Prop
  | zero : Sp T N (fun _ => 0)
  | add {f : Nat → Rat} (l : Nat) (a : Rat) : N l → Sp T N f → Sp T N (fun k => f k + a * T l k)
section
variable {T T' : Nat → Nat → Rat} {N : Nat → Prop} {f g : Nat → Rat}
theorem Sp.eq (h : Sp T N f) (e : ∀ k, g k = f k) : Sp T N g := by
  rw [show g = f from funext e]
  exact h
theorem Sp.plus (hf : Sp T N f) (hg : Sp T N g) : Sp T N (fun k => f k + g k) := by
  induction hg with
  | zero => exact hf.eq (fun k => by grind)
  | add l a hl hg ih => exact (ih.add l a hl).eq (fun k => by grind)
theorem Sp.smul (a : Rat) (hf : Sp T N f) : Sp T N (fun k => a * f k) := by
  induction hf with
  | zero => exact Sp.zero.eq (fun k => by grind)
  | add l b hl hg ih => exact (ih.add l (a * b) hl).eq (fun k => by grind)
theorem Sp.row {l : Nat} (hl : N l) : Sp T N (T l) := (Sp.zero.add l 1 hl).eq (fun k => by grind)
theorem Sp.trans (h : ∀ l, N l → Sp T N (T' l)) (hf : Sp T' N f) : Sp T N f := by
  induction hf with
  | zero => exact Sp.zero
  | add l a hl _ ih => exact (ih.plus ((h l hl).smul a)).eq (fun k => by grind)
theorem Sp.coef {m : Nat} (hN : ∀ l, N l → l < m) (hf : Sp T N f) : ∃ L : Nat → Rat, (∀ l, ¬ N l → L l = 0) ∧ ∀ k, f k = Sm m (fun l => L l * T l k) := by
  induction hf with
  | zero => exact ⟨fun _ => 0, fun _ _ => rfl, fun k => by rw [Sm_congr (g := fun _ => 0) (fun i _ => by grind), Sm_zero]⟩
  | @add f l a hl _ ih =>
    obtain ⟨L, h1, h2⟩ := ih
    refine ⟨fun x => L x + if x = l then a else 0, fun x hx => ?_, fun k => ?_⟩
    · show L x + (if x = l then a else 0) = 0
      rw [h1 x hx, if_neg (fun e => hx (by rw [e]; exact hl))]
      grind
    · have e : Sm m (fun x => (L x + if x = l then a else 0) * T x k) = Sm m (fun x => L x * T x k) + Sm m (fun x => (if x = l then a else 0) * T x k) := by
        rw [← Sm_add]
        exact Sm_congr (fun i _ => by grind)
      show f k + a * T l k = _
      rw [e, Sm_pick (f := fun x => (if x = l then a else 0) * T x k) (hN l hl) (fun x _ hx => by show (if x = l then a else 0) * T x k = 0; rw [if_neg hx]; grind), h2 k]
      show _ = _ + (if l = l then a else 0) * T l k
      rw [if_pos rfl]
end
/-- The coefficients stand in the basic columns. -/
theorem Sp.coefB {m w : Nat} {t : QT} {N : Nat → Prop} {f : Nat → Rat} (h : WF m w t) (hN : ∀ l, N l → l < m ∧ t.b l < w) (hf : Sp t.T N f) : ∃ L : Nat → Rat, (∀ l, ¬ N l → L l = 0) ∧ (∀ l, N l → L l = f (t.b l)) ∧ ∀ k, f k = Sm m (fun l => L l * t.T l k) := by
  obtain ⟨L, h1, h2⟩ := hf.coef (fun l hl => (hN l hl).1)
  refine ⟨L, h1, fun l hl => ?_, h2⟩
  obtain ⟨k1, k2⟩ := hN l hl
  rw [h2, Sm_pick k1 (fun x hx hxl => by rw [h.unit l k1 k2 x hx, if_neg hxl]; grind), h.unit l k1 k2 l k1, if_pos rfl]
  grind
section
variable {m w : Nat} {t : QT} {r j : Nat} {N : Nat → Prop}
theorem piv_sp (hr : N r) (hp : t.T r j ≠ 0) : ∀ l, N l → Sp t.T N ((pivQ t r j).T l) := fun l hl => by
  by_cases hlr : l = r
  · subst hlr
    refine ((Sp.row hl).smul (1 / t.T l j)).eq (fun k => ?_)
    show (if l = l then _ else _) = _
    rw [if_pos rfl]
    grind
  · refine ((Sp.row hl).plus ((Sp.row hr).smul (- (t.T l j / t.T r j)))).eq (fun k => ?_)
    show (if l = r then _ else _) = _
    rw [if_neg hlr]
    grind
theorem piv_sp' (hr : N r) (hp : t.T r j ≠ 0) : ∀ l, N l → Sp (pivQ t r j).T N (t.T l) := fun l hl => by
  have er : ∀ k, (pivQ t r j).T r k = t.T r k / t.T r j := fun k => if_pos rfl
  by_cases hlr : l = r
  · subst hlr
    refine ((Sp.row hl).smul (t.T l j)).eq (fun k => ?_)
    rw [er]
    grind
  · refine ((Sp.row hl).plus ((Sp.row hr).smul (t.T l j))).eq (fun k => ?_)
    rw [er]
    have : (pivQ t r j).T l k = t.T l k - t.T l j * (t.T r k / t.T r j) := if_neg hlr
    rw [this]
    grind
theorem piv_cost (hr : N r) (hp : t.T r j ≠ 0) : Sp t.T N (fun k => (pivQ t r j).c k - t.c k) :=
  ((Sp.row hr).smul (- (t.c j / t.T r j))).eq (fun k => by
    show t.c k - t.c j * (t.T r k / t.T r j) - t.c k = _
    grind)
end

/-! ### No way round -/
theorem change_at {P : Nat → Prop} : ∀ {a b : Nat}, a ≤ b → P a → ¬ P b → ∃ n, a ≤ n ∧ n < b ∧ P n ∧ ¬ P (n + 1)
  | a, 0, h, ha, hb => absurd (by rw [show a = 0 by omega] at ha; exact ha) hb
  | a, b + 1, h, ha, hb => by
    by_cases hab : a = b + 1
    · rw [hab] at ha; exact absurd ha hb
    · by_cases hP : P b
      · exact ⟨b, by omega, by omega, hP, hb⟩
      · obtain ⟨n, h1, h2, h3⟩ := change_at (a := a) (b := b) (by omega) ha hP
        exact ⟨n, h1, by omega, h3⟩
theorem max_of {P : Nat → Prop} : ∀ {w : Nat}, (∀ v, P v → v < w) → (∃ v, P v) → ∃ v, P v ∧ ∀ u, P u → u ≤ v
  | 0, h, ⟨v, hv⟩ => absurd (h v hv) (by omega)
  | w + 1, h, ⟨v, hv⟩ => by
    by_cases hw : P w
    · exact ⟨w, hw, fun u hu => by have := h u hu; omega⟩
    · exact max_of (w := w) (fun u hu => by
        have := h u hu
        by_cases e : u = w
        · rw [e] at hu; exact absurd hu hw
        · omega) ⟨v, hv⟩
structure Run (m w d : Nat) (t : Nat → QT) (r j : Nat → Nat) : Prop where
  bl : ∀ n, n < d → Bl m w (t n) (r n) (j n)
  st : ∀ n, n < d → t (n + 1) = pivQ (t n) (r n) (j n)
  wf : WF m w (t 0)
section
variable {m w d : Nat} {t : Nat → QT} {r j : Nat → Nat}
theorem Run.wfn (R : Run m w d t r j) : ∀ {n}, n ≤ d → WF m w (t n)
  | 0, _ => R.wf
  | n + 1, h => by rw [R.st n (by omega)]; exact (R.wfn (n := n) (by omega)).piv (R.bl n (by omega))
theorem Run.bn (R : Run m w d t r j) {n : Nat} (h : n < d) (i : Nat) : (t (n + 1)).b i = if i = r n then j n else (t n).b i := by rw [R.st n h]; rfl
theorem Run.stay (R : Run m w d t r j) {i : Nat} : ∀ {n k}, n + k ≤ d → (t n).b i < w → (t (n + k)).b i < w
  | n, 0, _, h => h
  | n, k + 1, hk, h => by
    rw [show n + (k + 1) = (n + k) + 1 by omega, R.bn (by omega)]
    split
    · exact (R.bl (n + k) (by omega)).jw
    · exact R.stay (by omega) h
/-- No basis comes twice. -/
theorem Run.not_back (R : Run m w d t r j) (hd : 0 < d) (hb : ∀ i, i < m → (t d).b i = (t 0).b i) : False := by
  obtain ⟨N, hN⟩ : ∃ N : Nat → Prop, N = fun l => l < m ∧ (t 0).b l < w := ⟨_, rfl⟩
  have hNr : ∀ n, n < d → N (r n) := fun n hn => by
    have h1 : (t (n + 1)).b (r n) < w := by rw [R.bn hn, if_pos rfl]; exact (R.bl n hn).jw
    have h2 := R.stay (n := n + 1) (k := d - (n + 1)) (by omega) h1
    rw [show n + 1 + (d - (n + 1)) = d by omega, hb _ (R.bl n hn).rm] at h2
    rw [hN]
    exact ⟨(R.bl n hn).rm, h2⟩
  have hNn : ∀ n, n ≤ d → ∀ l, N l → l < m ∧ (t n).b l < w := fun n hn l hl => by
    rw [hN] at hl
    have := R.stay (n := 0) (k := n) (i := l) (by omega) hl.2
    rw [Nat.zero_add] at this
    exact ⟨hl.1, this⟩
  have hsp : ∀ n, n ≤ d → (∀ l, N l → Sp (t 0).T N ((t n).T l)) ∧ (∀ l, N l → Sp (t n).T N ((t 0).T l)) ∧ Sp (t 0).T N (fun k => (t n).c k - (t 0).c k) := by
    intro n
    induction n with
    | zero => exact fun _ => ⟨fun l hl => Sp.row hl, fun l hl => Sp.row hl, Sp.zero.eq (fun k => by grind)⟩
    | succ n ih =>
      intro hn
      obtain ⟨h1, h2, h3⟩ := ih (by omega)
      have hr := hNr n (by omega)
      have hp := pos_ne (R.bl n (by omega)).pos
      rw [R.st n (by omega)]
      refine ⟨fun l hl => Sp.trans h1 (piv_sp hr hp l hl), fun l hl => Sp.trans (piv_sp' hr hp) (h2 l hl), ?_⟩
      exact (h3.plus (Sp.trans h1 (piv_cost hr hp))).eq (fun k => by grind)
  have hcc : ∀ n n', n ≤ d → n' ≤ d → Sp (t n).T N (fun k => (t n').c k - (t n).c k) := fun n n' hn hn' =>
    Sp.trans (hsp n hn).2.1 (((hsp n' hn').2.2.plus ((hsp n hn).2.2.smul (-1))).eq (fun k => by grind))
  -- the costs are back where they were
  have hcd : (t d).c w = (t 0).c w := by
    obtain ⟨L, h1, h2, h3⟩ := (hcc 0 d (by omega) (by omega)).coefB R.wf (hNn 0 (by omega))
    have h4 := h3 w
    rw [Sm_congr (g := fun _ => 0) (fun l hl => ?_), Sm_zero] at h4
    · grind
    · by_cases hl' : N l
      · have h5 := h2 l hl'
        obtain ⟨q1, q2⟩ := hNn 0 (by omega) l hl'
        obtain ⟨q3, q4⟩ := hNn d (by omega) l hl'
        rw [R.wf.cost l q1 q2] at h5
        have h6 := (R.wfn (n := d) (by omega)).cost l q3 q4
        rw [hb l q1] at h6
        rw [h6] at h5
        rw [h5]
        grind
      · rw [h1 l hl']
        grind
  have hcs : ∀ n, n < d → (t (n + 1)).c w = (t n).c w - (t n).c (j n) * ((t n).T (r n) w / (t n).T (r n) (j n)) := fun n hn => by rw [R.st n hn]; rfl
  have hth : ∀ n, n < d → 0 ≤ (t n).T (r n) w / (t n).T (r n) (j n) := fun n hn => nn_div ((R.wfn (n := n) (by omega)).rhs _ (R.bl n hn).rm) (R.bl n hn).pos
  have hup : ∀ n, n < d → (t n).c w ≤ (t (n + 1)).c w := fun n hn => by
    have h1 := hcs n hn
    have h2 : 0 ≤ - (t n).c (j n) * ((t n).T (r n) w / (t n).T (r n) (j n)) := Rat.mul_nonneg (by have := (R.bl n hn).neg; grind) (hth n hn)
    grind
  have hmono : ∀ k n, n + k ≤ d → (t n).c w ≤ (t (n + k)).c w := by
    intro k
    induction k with
    | zero => exact fun n _ => Rat.le_refl
    | succ k ih => exact fun n hk => Rat.le_trans (ih n (by omega)) (hup (n + k) (by omega))
  have hz : ∀ n, n < d → (t n).T (r n) w / (t n).T (r n) (j n) = 0 := fun n hn => by
    have h1 := hmono n 0 (by omega)
    have h2 := hmono (d - (n + 1)) (n + 1) (by omega)
    rw [Nat.zero_add] at h1
    rw [show n + 1 + (d - (n + 1)) = d by omega, hcd] at h2
    have h3 := hcs n hn
    have h4 := hup n hn
    have h5 : (t n).c (j n) * ((t n).T (r n) w / (t n).T (r n) (j n)) = 0 := by grind
    rcases Rat.mul_eq_zero.1 h5 with h6 | h6
    · have := (R.bl n hn).neg
      rw [h6] at this
      exact absurd this Rat.lt_irrefl
    · exact h6
  have hrc : ∀ n, n ≤ d → ∀ i, i < m → (t n).T i w = (t 0).T i w := by
    intro n
    induction n with
    | zero => exact fun _ _ _ => rfl
    | succ n ih =>
      intro hn i hi
      have h1 := hz n (by omega)
      have h2 := ih (by omega) i hi
      rw [R.st n (by omega)]
      show (if i = r n then _ else _) = _
      rw [h1]
      split
      · rename_i h
        rw [← h2, h]
        have := div_back (a := (t n).T (r n) w) (pos_ne (R.bl n (by omega)).pos)
        rw [h1] at this
        grind
      · rw [h2]
        grind
  have hr0 : ∀ n, n < d → (t 0).T (r n) w = 0 := fun n hn => by
    have := div_back (a := (t n).T (r n) w) (pos_ne (R.bl n hn).pos)
    rw [hz n hn, hrc n (by omega) _ (R.bl n hn).rm] at this
    grind
  -- what is basic at some times and at others not
  obtain ⟨bas, hbas⟩ : ∃ bas : Nat → Nat → Prop, bas = fun n v => ∃ i, i < m ∧ (t n).b i = v := ⟨_, rfl⟩
  have nb : ∀ n, n ≤ d → ∀ v, v < w → (t n).c v ≠ 0 → ¬ bas n v := fun n hn v hv hc h => by
    rw [hbas] at h
    obtain ⟨i, hi, e⟩ := h
    exact hc (by rw [← e]; exact (R.wfn hn).cost i hi (by rw [e]; exact hv))
  have ej : ∀ n, n < d → ¬ bas n (j n) := fun n hn => nb n (by omega) _ (R.bl n hn).jw (fun h => by have := (R.bl n hn).neg; rw [h] at this; exact Rat.lt_irrefl this)
  have ej' : ∀ n, n < d → bas (n + 1) (j n) := fun n hn => by rw [hbas]; exact ⟨r n, (R.bl n hn).rm, by rw [R.bn hn, if_pos rfl]⟩
  have lv : ∀ n, n < d → ∀ v, bas n v → ¬ bas (n + 1) v → (t n).b (r n) = v := fun n hn v h1 h2 => by
    rw [hbas] at h1 h2
    obtain ⟨i, hi, e⟩ := h1
    by_cases hir : i = r n
    · rw [← hir]; exact e
    · exact absurd ⟨i, hi, by rw [R.bn hn, if_neg hir]; exact e⟩ h2
  have en : ∀ n, n < d → ∀ v, ¬ bas n v → bas (n + 1) v → j n = v := fun n hn v h1 h2 => by
    rw [hbas] at h1 h2
    obtain ⟨i, hi, e⟩ := h2
    rw [R.bn hn] at e
    by_cases hir : i = r n
    · rwa [if_pos hir] at e
    · rw [if_neg hir] at e
      exact absurd ⟨i, hi, e⟩ h1
  have b0d : ∀ v, bas d v ↔ bas 0 v := fun v => by
    rw [hbas]
    exact ⟨fun ⟨i, hi, e⟩ => ⟨i, hi, by rw [← hb i hi]; exact e⟩, fun ⟨i, hi, e⟩ => ⟨i, hi, by rw [hb i hi]; exact e⟩⟩
  obtain ⟨fk, hfk⟩ : ∃ fk : Nat → Prop, fk = fun v => v < w ∧ (∃ n, n ≤ d ∧ bas n v) ∧ ∃ n, n ≤ d ∧ ¬ bas n v := ⟨_, rfl⟩
  have fkj : ∀ n, n < d → fk (j n) := fun n hn => by rw [hfk]; exact ⟨(R.bl n hn).jw, ⟨n + 1, by omega, ej' n hn⟩, ⟨n, by omega, ej n hn⟩⟩
  have fk1 : ∀ v, fk v → ∃ n, n < d ∧ bas n v ∧ ¬ bas (n + 1) v := fun v h => by
    rw [hfk] at h
    obtain ⟨_, ⟨a, ha, hav⟩, ⟨b, hb', hbv⟩⟩ := h
    by_cases h0 : bas 0 v
    · obtain ⟨n, h1, h2, h3⟩ := change_at (P := fun n => bas n v) (Nat.zero_le b) h0 hbv
      exact ⟨n, by omega, h3⟩
    · obtain ⟨n, h1, h2, h3⟩ := change_at (P := fun n => bas n v) ha hav (fun h => h0 ((b0d v).1 h))
      exact ⟨n, by omega, h3⟩
  have fk2 : ∀ v, fk v → ∃ n, n < d ∧ ¬ bas n v ∧ bas (n + 1) v := fun v h => by
    rw [hfk] at h
    obtain ⟨_, ⟨a, ha, hav⟩, ⟨b, hb', hbv⟩⟩ := h
    by_cases h0 : bas 0 v
    · obtain ⟨n, h1, h2, h3, h4⟩ := change_at (P := fun n => ¬ bas n v) hb' hbv (fun h => h ((b0d v).2 h0))
      exact ⟨n, by omega, h3, Classical.byContradiction h4⟩
    · obtain ⟨n, h1, h2, h3, h4⟩ := change_at (P := fun n => ¬ bas n v) (Nat.zero_le a) h0 (fun h => h hav)
      exact ⟨n, by omega, h3, Classical.byContradiction h4⟩
  obtain ⟨v, hv, hmax⟩ := max_of (P := fk) (w := w) (fun v h => by rw [hfk] at h; exact h.1) ⟨_, fkj 0 hd⟩
  have hvw : v < w := by rw [hfk] at hv; exact hv.1
  obtain ⟨n1, hn1, q1, q2⟩ := fk1 v hv
  obtain ⟨n2, hn2, q3, q4⟩ := fk2 v hv
  have e1 := lv n1 hn1 v q1 q2
  have e2 := en n2 hn2 v q3 q4
  have B1 := R.bl n1 hn1
  have B2 := R.bl n2 hn2
  have W1 := R.wfn (n := n1) (by omega)
  have W2 := R.wfn (n := n2) (by omega)
  have hs := hmax _ (fkj n1 hn1)
  have hsv : j n1 ≠ v := fun h => ej n1 hn1 (by rw [h]; exact q1)
  have hc2 : 0 ≤ (t n2).c (j n1) := B2.ent _ (by omega)
  obtain ⟨L, h1, h2, h3⟩ := (hcc n1 n2 (by omega) (by omega)).coefB W1 (hNn n1 (by omega))
  have h4 := h3 (j n1)
  have hpos : 0 < Sm m (fun l => L l * (t n1).T l (j n1)) := by
    rw [← h4]
    have := B1.neg
    grind
  obtain ⟨l, hl, hlp⟩ := Sm_pos hpos
  by_cases hNl : N l
  case neg =>
    rw [h1 l hNl, Rat.zero_mul] at hlp
    exact Rat.lt_irrefl hlp
  obtain ⟨_, hlw⟩ := hNn n1 (by omega) l hNl
  have hLl := h2 l hNl
  rw [W1.cost l hl hlw] at hLl
  have hLl : L l = (t n2).c ((t n1).b l) := by rw [hLl]; grind
  rw [hLl] at hlp
  have hu1 : bas n1 ((t n1).b l) := by rw [hbas]; exact ⟨l, hl, rfl⟩
  have hu2 : ¬ bas n2 ((t n1).b l) := nb n2 (by omega) _ hlw (fun h => by rw [h, Rat.zero_mul] at hlp; exact Rat.lt_irrefl hlp)
  have hufk : fk ((t n1).b l) := by rw [hfk]; exact ⟨hlw, ⟨n1, by omega, hu1⟩, ⟨n2, by omega, hu2⟩⟩
  have huv := hmax _ hufk
  by_cases hue : (t n1).b l = v
  · have hlr : l = r n1 := W1.inj hl B1.rm hlw (by rw [hue, e1])
    rw [hue] at hlp
    have g1 := B1.pos
    have g2 := B2.neg
    rw [e2] at g2
    rw [hlr] at hlp
    have : 0 ≤ - (t n2).c v * (t n1).T (r n1) (j n1) := Rat.mul_nonneg (by grind) (Rat.le_of_lt g1)
    grind
  · have g1 : 0 ≤ (t n2).c ((t n1).b l) := B2.ent _ (by omega)
    have g2 : 0 < (t n1).T l (j n1) := by
      apply Classical.byContradiction
      intro hn
      have : 0 ≤ (t n2).c ((t n1).b l) * - (t n1).T l (j n1) := Rat.mul_nonneg g1 (by grind)
      grind
    -- row l is pivoted at some time: its right side is zero
    have hrow : ∃ n, n < d ∧ r n = l := by
      apply Classical.byContradiction
      intro hn
      have keep : ∀ n, n ≤ d → (t n).b l = (t 0).b l := by
        intro n
        induction n with
        | zero => exact fun _ => rfl
        | succ n ih => exact fun hn' => by rw [R.bn (by omega), if_neg (fun h => hn ⟨n, by omega, h.symm⟩)]; exact ih (by omega)
      refine hu2 ?_
      rw [hbas]
      exact ⟨l, hl, by rw [keep n2 (by omega), keep n1 (by omega)]⟩
    obtain ⟨n, hn, hnl⟩ := hrow
    have hl0 := hr0 n hn
    rw [hnl] at hl0
    have z1 := hrc n1 (by omega) l hl
    have z2 := hz n1 hn1
    rcases B1.least l hl g2 with h | ⟨_, h⟩
    · rw [z2, z1, hl0] at h
      grind
    · rw [e1] at h
      omega
end

/-! ### A basis comes again -/
def code (B : Nat) : Nat → (Nat → Nat) → Nat
  | 0, _ => 0
  | k + 1, f => code B k f * (B + 1) + f k
theorem code_lt {B : Nat} {f : Nat → Nat} : ∀ {m}, (∀ i, i < m → f i ≤ B) → code B m f < (B + 1) ^ m
  | 0, _ => by show 0 < (B + 1) ^ 0; rw [Nat.pow_zero]; exact Nat.one_pos
  | m + 1, h => by
    have h1 := code_lt (B := B) (f := f) (m := m) (fun i hi => h i (by omega))
    have h2 := h m (by omega)
    unfold code
    rw [Nat.pow_succ]
    have : (code B m f + 1) * (B + 1) ≤ (B + 1) ^ m * (B + 1) := Nat.mul_le_mul_right _ h1
    rw [Nat.add_mul] at this
    omega
theorem code_inj {B : Nat} {f g : Nat → Nat} : ∀ {m}, (∀ i, i < m → f i ≤ B) → (∀ i, i < m → g i ≤ B) → code B m f = code B m g → ∀ i, i < m → f i = g i
  | 0, _, _, _, i, hi => by omega
  | m + 1, hf, hg, e, i, hi => by
    unfold code at e
    have h1 := hf m (by omega)
    have h2 := hg m (by omega)
    have e1 : f m = g m := by
      have := congrArg (· % (B + 1)) e
      simp only [Nat.mul_add_mod_self_right, Nat.mod_eq_of_lt (show f m < B + 1 by omega), Nat.mod_eq_of_lt (show g m < B + 1 by omega)] at this
      exact this
    have e2 : code B m f = code B m g := by
      rw [e1] at e
      exact Nat.eq_of_mul_eq_mul_right (Nat.succ_pos B) (Nat.add_right_cancel e)
    by_cases him : i = m
    · rw [him]; exact e1
    · exact code_inj (fun k hk => hf k (by omega)) (fun k hk => hg k (by omega)) e2 i (by omega)
theorem pigeon {N : Nat} {f : Nat → Nat} (h : ∀ n, f n < N) : ∃ a b, a < b ∧ f a = f b := by
  apply Classical.byContradiction
  intro hn
  have inj : ∀ a b, f a = f b → a = b := fun a b e => by
    rcases Nat.lt_trichotomy a b with h1 | h1 | h1
    · exact absurd ⟨a, b, h1, e⟩ hn
    · exact h1
    · exact absurd ⟨b, a, h1, e.symm⟩ hn
  have hnd : ((List.range (N + 1)).map f).Nodup := List.Pairwise.map _ (fun a b (hab : a ≠ b) e => hab (inj a b e)) List.nodup_range
  have := hnd.length_le_of_subset (l₂ := List.range N) (fun x hx => by
    obtain ⟨a, _, rfl⟩ := List.mem_map.1 hx
    exact List.mem_range.2 (h a))
  simp only [List.length_map, List.length_range] at this
  omega
/-- Pivots by the least index come to an end. -/
theorem bland_ends {m w B : Nat} {t : Nat → QT} {r j : Nat → Nat} (h0 : WF m w (t 0)) (hw : w ≤ B) (hb : ∀ i, i < m → (t 0).b i ≤ B) (hB : ∀ n, Bl m w (t n) (r n) (j n)) (hs : ∀ n, t (n + 1) = pivQ (t n) (r n) (j n)) : False := by
  have hbn : ∀ n i, i < m → (t n).b i ≤ B := by
    intro n
    induction n with
    | zero => exact hb
    | succ n ih =>
      intro i hi
      rw [hs n]
      show (if i = r n then _ else _) ≤ B
      split
      · have := (hB n).jw; omega
      · exact ih i hi
  obtain ⟨a, b, hab, e⟩ := pigeon (f := fun n => code B m (t n).b) (fun n => code_lt (hbn n))
  have hwf : ∀ n, WF m w (t n) := by
    intro n
    induction n with
    | zero => exact h0
    | succ n ih => rw [hs n]; exact ih.piv (hB n)
  have R : Run m w (b - a) (fun n => t (a + n)) (fun n => r (a + n)) (fun n => j (a + n)) := ⟨fun n _ => hB _, fun n _ => hs _, hwf _⟩
  refine R.not_back (by omega) (fun i hi => ?_)
  show (t (a + (b - a))).b i = (t (a + 0)).b i
  rw [show a + (b - a) = b by omega, Nat.add_zero]
  exact (code_inj (hbn a) (hbn b) e i hi).symm
end Go.Proofs.YtifbaegnkodneaaDoor

/-
  layer 30: linear programs over the rational numbers: equal systems, costs, certificates. No program in sight.
-/
namespace Go.Proofs.YtifbaegnkodneaaDoor
set_option linter.unusedVariables false

def Lt (m : Nat) : Nat → Prop := fun l => l < m
/-- Two systems of m rows that span each other. -/
structure Eqv (m : Nat) (T T' : Nat → Nat → Rat) : Prop where
  to : ∀ l, l < m → Sp T (Lt m) (T' l)
  back : ∀ l, l < m → Sp T' (Lt m) (T l)
theorem Eqv.refl (m : Nat) (T : Nat → Nat → Rat) : Eqv m T T := ⟨fun l hl => Sp.row (N := Lt m) hl, fun l hl => Sp.row (N := Lt m) hl⟩
theorem Eqv.trans {m : Nat} {T T' T'' : Nat → Nat → Rat} (h : Eqv m T T') (h' : Eqv m T' T'') : Eqv m T T'' :=
  ⟨fun l hl => Sp.trans (N := Lt m) h.to (h'.to l hl), fun l hl => Sp.trans (N := Lt m) h'.back (h.back l hl)⟩
theorem Eqv.piv {m : Nat} {t : QT} {r j : Nat} (hr : r < m) (hp : t.T r j ≠ 0) : Eqv m t.T (pivQ t r j).T :=
  ⟨fun l hl => piv_sp (N := Lt m) hr hp l hl, fun l hl => piv_sp' (N := Lt m) hr hp l hl⟩
/-- What a row says of a point. -/
def val (w : Nat) (f z : Nat → Rat) : Rat := Sm w (fun k => f k * z k) - f w
def Sol (m w : Nat) (T : Nat → Nat → Rat) (z : Nat → Rat) : Prop := ∀ i, i < m → val w (T i) z = 0
section
variable {m w : Nat} {z : Nat → Rat} {T T' : Nat → Nat → Rat} {f g : Nat → Rat}
theorem val_add : val w (fun k => f k + g k) z = val w f z + val w g z := by
  unfold val
  rw [Sm_congr (g := fun k => f k * z k + g k * z k) (fun k _ => by grind), Sm_add]
  grind
theorem val_mul (a : Rat) : val w (fun k => a * f k) z = a * val w f z := by
  unfold val
  rw [Sm_congr (g := fun k => a * (f k * z k)) (fun k _ => by grind), Sm_mul]
  grind
theorem val_sp {N : Nat → Prop} (h : ∀ l, N l → val w (T l) z = 0) (hf : Sp T N f) : val w f z = 0 := by
  induction hf with
  | zero =>
    unfold val
    rw [Sm_congr (g := fun _ => 0) (fun k _ => by grind), Sm_zero]
    grind
  | @add f l a hl _ ih =>
    rw [val_add (f := f) (g := fun k => a * T l k), val_mul, h l hl, ih]
    grind
theorem Sol.eqv (h : Eqv m T T') (hs : Sol m w T z) : Sol m w T' z := fun i hi => val_sp (N := Lt m) hs (h.to i hi)
theorem Sol.eqv' (h : Eqv m T T') (hs : Sol m w T' z) : Sol m w T z := fun i hi => val_sp (N := Lt m) hs (h.back i hi)
end
/-- Costs that differ by rows. -/
def Dif (m : Nat) (T : Nat → Nat → Rat) (c c' : Nat → Rat) : Prop := Sp T (Lt m) (fun k => c' k - c k)
theorem Dif.refl {m : Nat} {T : Nat → Nat → Rat} {c : Nat → Rat} : Dif m T c c := Sp.zero.eq (fun k => by grind)
theorem Dif.trans {m : Nat} {T : Nat → Nat → Rat} {c c' c'' : Nat → Rat} (h : Dif m T c c') (h' : Dif m T c' c'') : Dif m T c c'' := (h.plus h').eq (fun k => by grind)
theorem Dif.eqv {m : Nat} {T T' : Nat → Nat → Rat} {c c' : Nat → Rat} (e : Eqv m T T') (h : Dif m T' c c') : Dif m T c c' := Sp.trans (N := Lt m) e.to h
theorem Dif.same {m w : Nat} {T : Nat → Nat → Rat} {c c' z : Nat → Rat} (h : Dif m T c c') (hs : Sol m w T z) : val w c' z = val w c z := by
  have h1 := val_sp (N := Lt m) hs h
  have e : val w (fun k => c' k - c k) z = val w c' z + (-1) * val w c z := by
    rw [← val_mul, ← val_add]
    congr 1
    funext k
    grind
  rw [e] at h1
  grind
theorem Dif.piv {m : Nat} {t : QT} {r j : Nat} (hr : r < m) (hp : t.T r j ≠ 0) : Dif m t.T t.c (pivQ t r j).c := piv_cost (N := Lt m) hr hp

/-! ### Phase one -/
def artS (m w : Nat) (t : QT) (k : Nat) : Rat := Sm m (fun i => if w ≤ t.b i then t.T i k else 0)
def P1 (m w : Nat) (t : QT) : Prop := ∀ k, t.c k = - artS m w t k
theorem P1.piv {m w : Nat} {t : QT} {r j : Nat} (h : P1 m w t) (hj : j < w) (hp : t.T r j ≠ 0) : P1 m w (pivQ t r j) := fun k => by
  show t.c k - t.c j * (t.T r k / t.T r j) = _
  have e : artS m w (pivQ t r j) k = Sm m (fun i => (if w ≤ t.b i then t.T i k else 0) + (- (t.T r k / t.T r j)) * (if w ≤ t.b i then t.T i j else 0)) := by
    refine Sm_congr (fun i _ => ?_)
    show (if w ≤ (if i = r then j else t.b i) then (if i = r then _ else _) else 0) = _
    by_cases hir : i = r
    · subst hir
      rw [if_pos rfl, if_neg (by omega)]
      split
      · grind
      · grind
    · rw [if_neg hir]
      split
      · grind
      · grind
  rw [e, Sm_add, Sm_mul, h k, h j]
  unfold artS
  grind
theorem Sm_zero_of {f : Nat → Rat} : ∀ {n : Nat}, (∀ i, i < n → 0 ≤ f i) → Sm n f ≤ 0 → ∀ i, i < n → f i = 0
  | 0, _, _, i, hi => by omega
  | n + 1, h, hs, i, hi => by
    have h1 := Sm_nonneg (n := n) (f := f) (fun i hi => h i (by omega))
    have h2 := h n (by omega)
    unfold Sm at hs
    by_cases hin : i = n
    · subst hin; grind
    · exact Sm_zero_of (n := n) (fun i hi => h i (by omega)) (by grind) i (by omega)
theorem P1.rhs {m w : Nat} {t : QT} (h : P1 m w t) (hw : WF m w t) (hc : 0 ≤ t.c w) : ∀ i, i < m → w ≤ t.b i → t.T i w = 0 := fun i hi hb => by
  have h1 : artS m w t w ≤ 0 := by have := h w; grind
  have h2 := Sm_zero_of (f := fun i => if w ≤ t.b i then t.T i w else 0) (fun i hi => by
    split
    · exact hw.rhs i hi
    · exact Rat.le_refl) h1 i hi
  have h2 : (if w ≤ t.b i then t.T i w else 0) = 0 := h2
  rwa [if_pos hb] at h2

/-! ### A pivot where the right side is zero -/
theorem WF.piv0 {m w : Nat} {t : QT} {r j : Nat} (h : WF m w t) (hr : r < m) (hj : j < w) (hp : t.T r j ≠ 0) (h0 : t.T r w = 0) (hc : ∀ k, t.c k = 0) : WF m w (pivQ t r j) := by
  refine ⟨fun i hi hb i' hi' => ?_, fun i hi hb => ?_, fun i hi => ?_⟩
  · show (if i' = r then _ else _) = _
    by_cases hir : i = r
    · subst hir
      have e : (pivQ t i j).b i = j := if_pos rfl
      rw [e]
      by_cases hi2 : i' = i
      · subst hi2
        rw [if_pos rfl, if_pos rfl]
        exact div_same hp
      · rw [if_neg hi2, if_neg hi2, div_same hp]
        grind
    · have e : (pivQ t r j).b i = t.b i := if_neg hir
      rw [e] at hb ⊢
      have h0 : t.T r (t.b i) = 0 := by
        have := h.unit i hi hb r hr
        rwa [if_neg (fun h => hir h.symm)] at this
      rw [h0]
      by_cases hi2 : i' = r
      · subst hi2
        rw [if_pos rfl, if_neg (fun h => hir h.symm)]
        grind
      · rw [if_neg hi2, h.unit i hi hb i' hi']
        grind
  · show t.c _ - t.c j * (t.T r _ / t.T r j) = 0
    rw [hc, hc]
    grind
  · show 0 ≤ (if i = r then _ else _)
    rw [h0]
    split
    · grind
    · have := h.rhs i hi
      grind

/-! ### The basic point -/
def bp (m w : Nat) (t : QT) (k : Nat) : Rat := Sm m (fun i => if t.b i = k then t.T i w else 0)
section
variable {m w : Nat} {t : QT}
theorem bp_at (h : WF m w t) {i : Nat} (hi : i < m) (hb : t.b i < w) : bp m w t (t.b i) = t.T i w := by
  unfold bp
  rw [Sm_pick (f := fun x => if t.b x = t.b i then t.T x w else 0) hi (fun x hx hxi => if_neg (fun e => hxi (h.inj hi hx hb e.symm).symm)), if_pos rfl]
theorem bp_out {k : Nat} (h : ∀ i, i < m → t.b i ≠ k) : bp m w t k = 0 := by
  unfold bp
  rw [Sm_congr (g := fun _ => 0) (fun i hi => if_neg (h i hi)), Sm_zero]
theorem bp_nonneg (h : WF m w t) (k : Nat) : 0 ≤ bp m w t k := Sm_nonneg fun i hi => by
  split
  · exact h.rhs i hi
  · exact Rat.le_refl
/-- A sum over the columns at the basic point. -/
theorem bp_sum (f : Nat → Rat) : Sm w (fun k => f k * bp m w t k) = Sm m (fun i => if t.b i < w then f (t.b i) * t.T i w else 0) := by
  have sw : ∀ (m : Nat), Sm w (fun k => f k * Sm m (fun i => if t.b i = k then t.T i w else 0)) = Sm m (fun i => if t.b i < w then f (t.b i) * t.T i w else 0) := by
    intro m
    induction m with
    | zero => rw [Sm_congr (g := fun _ => 0) (fun k _ => by unfold Sm; grind), Sm_zero]; rfl
    | succ m ih =>
      show Sm w (fun k => f k * (Sm m (fun i => if t.b i = k then t.T i w else 0) + if t.b m = k then t.T m w else 0)) = Sm m _ + _
      rw [Sm_congr (g := fun k => f k * Sm m (fun i => if t.b i = k then t.T i w else 0) + f k * (if t.b m = k then t.T m w else 0)) (fun k _ => by grind), Sm_add, ih]
      congr 1
      show _ = if t.b m < w then _ else 0
      by_cases hb : t.b m < w
      · rw [if_pos hb, Sm_pick hb (fun k _ hk => by rw [if_neg (fun e => hk e.symm)]; grind), if_pos rfl]
      · rw [if_neg hb, Sm_congr (g := fun _ => 0) (fun k hk => by rw [if_neg (fun e => hb (by rw [e]; exact hk))]; grind), Sm_zero]
  exact sw m
/-- The basic point solves the system, if the other rows say nothing. -/
theorem bp_sol (h : WF m w t) (ha : ∀ i, i < m → w ≤ t.b i → t.T i w = 0) : Sol m w t.T (bp m w t) := fun i hi => by
  unfold val
  rw [bp_sum]
  by_cases hb : t.b i < w
  · rw [Sm_pick hi (fun x hx hxi => ?_), if_pos hb, h.unit i hi hb i hi, if_pos rfl]
    · grind
    · split
      · rename_i hbx
        rw [h.unit x hx hbx i hi, if_neg (fun e => hxi e.symm)]
        grind
      · rfl
  · rw [Sm_congr (g := fun _ => 0) (fun x hx => ?_), Sm_zero, ha i hi (by omega)]
    · grind
    · split
      · rename_i hbx
        rw [h.unit x hx hbx i hi, if_neg (fun e => hb (by rw [e]; exact hbx))]
        grind
      · rfl
theorem bp_cost (h : WF m w t) : val w t.c (bp m w t) = - t.c w := by
  unfold val
  rw [bp_sum, Sm_congr (g := fun _ => 0) (fun x hx => ?_), Sm_zero]
  · grind
  · split
    · rename_i hbx
      rw [h.cost x hx hbx]
      grind
    · rfl
end
/-! ### A direction -/
def ray (m w : Nat) (t : QT) (j k : Nat) : Rat := (if k = j then 1 else 0) - Sm m (fun i => if t.b i = k then t.T i j else 0)
section
variable {m w : Nat} {t : QT} {j : Nat}
theorem ray_sum (hj : j < w) (f : Nat → Rat) : Sm w (fun k => f k * ray m w t j k) = f j - Sm m (fun i => if t.b i < w then f (t.b i) * t.T i j else 0) := by
  unfold ray
  have e1 : Sm w (fun k => f k * ((if k = j then 1 else 0) - Sm m (fun i => if t.b i = k then t.T i j else 0))) = Sm w (fun k => f k * (if k = j then 1 else 0)) + Sm w (fun k => (-1) * (f k * Sm m (fun i => if t.b i = k then t.T i j else 0))) := by
    rw [← Sm_add]
    exact Sm_congr (fun k _ => by grind)
  have sw : ∀ (m : Nat), Sm w (fun k => f k * Sm m (fun i => if t.b i = k then t.T i j else 0)) = Sm m (fun i => if t.b i < w then f (t.b i) * t.T i j else 0) := by
    intro m
    induction m with
    | zero => rw [Sm_congr (g := fun _ => 0) (fun k _ => by unfold Sm; grind), Sm_zero]; rfl
    | succ m ih =>
      show Sm w (fun k => f k * (Sm m (fun i => if t.b i = k then t.T i j else 0) + if t.b m = k then t.T m j else 0)) = Sm m _ + _
      rw [Sm_congr (g := fun k => f k * Sm m (fun i => if t.b i = k then t.T i j else 0) + f k * (if t.b m = k then t.T m j else 0)) (fun k _ => by grind), Sm_add, ih]
      congr 1
      show _ = if t.b m < w then _ else 0
      by_cases hb : t.b m < w
      · rw [if_pos hb, Sm_pick hb (fun k _ hk => by rw [if_neg (fun e => hk e.symm)]; grind), if_pos rfl]
      · rw [if_neg hb, Sm_congr (g := fun _ => 0) (fun k hk => by rw [if_neg (fun e => hb (by rw [e]; exact hk))]; grind), Sm_zero]
  rw [e1, Sm_pick hj (fun k _ hk => by rw [if_neg hk]; grind), if_pos rfl, Sm_mul, sw]
  grind
theorem ray_nonneg (h : WF m w t) (hj : j < w) (hn : ∀ i, i < m → t.T i j ≤ 0) (hc : t.c j < 0) (k : Nat) : 0 ≤ ray m w t j k := by
  unfold ray
  have h1 : 0 ≤ Sm m (fun i => if t.b i = k then - t.T i j else 0) := Sm_nonneg fun i hi => by
    have := hn i hi
    split
    · grind
    · exact Rat.le_refl
  have e : Sm m (fun i => if t.b i = k then - t.T i j else 0) = (-1) * Sm m (fun i => if t.b i = k then t.T i j else 0) := by
    rw [← Sm_mul]
    exact Sm_congr (fun i _ => by split <;> grind)
  rw [e] at h1
  split <;> grind
/-- Homogeneous: the sum over the columns is zero for each row, if the other rows have nothing in the column. -/
theorem ray_sol (h : WF m w t) (hj : j < w) (ha : ∀ i, i < m → w ≤ t.b i → t.T i j = 0) : ∀ i, i < m → Sm w (fun k => t.T i k * ray m w t j k) = 0 := fun i hi => by
  rw [ray_sum hj]
  by_cases hb : t.b i < w
  · rw [Sm_pick hi (fun x hx hxi => ?_), if_pos hb, h.unit i hi hb i hi, if_pos rfl]
    · grind
    · split
      · rename_i hbx
        rw [h.unit x hx hbx i hi, if_neg (fun e => hxi e.symm)]
        grind
      · rfl
  · rw [Sm_congr (g := fun _ => 0) (fun x hx => ?_), Sm_zero, ha i hi (by omega)]
    · grind
    · split
      · rename_i hbx
        rw [h.unit x hx hbx i hi, if_neg (fun e => hb (by rw [e]; exact hbx))]
        grind
      · rfl
theorem ray_cost (h : WF m w t) (hj : j < w) : Sm w (fun k => t.c k * ray m w t j k) = t.c j := by
  rw [ray_sum hj, Sm_congr (g := fun _ => 0) (fun x hx => ?_), Sm_zero]
  · grind
  · split
    · rename_i hbx
      rw [h.cost x hx hbx]
      grind
    · rfl
end
end Go.Proofs.YtifbaegnkodneaaDoor

/-
  layer 30: fractions as rational numbers.
-/
namespace Go.Proofs.YtifbaegnkodneaaDoor
open Go.RowKit
set_option linter.unusedSimpArgs false
set_option linter.unusedVariables false

def V (f : Fr) : Rat := (f.N : Rat) / (f.D : Rat)
theorem cast_pos {d : Int} (h : 1 ≤ d) : (0 : Rat) < (d : Rat) := by
  have : ((0 : Int) : Rat) < (d : Rat) := Rat.intCast_lt_intCast.2 (by omega)
  exact this
theorem norm_val {n d : Int} {p : Fr} (hd : 1 ≤ d) (h : toO (normF n d) = some p) : V p = (n : Rat) / (d : Rat) ∧ ValidF p := by
  have g1 : 0 < Int.gcd n d := Int.gcd_pos_of_ne_zero_right _ (by omega)
  obtain ⟨x, hx⟩ := Int.gcd_dvd_left n d
  obtain ⟨y, hy⟩ := Int.gcd_dvd_right n d
  have xy : Int.gcd x y = 1 := by
    have := Int.gcd_mul_left (Int.gcd n d) x y
    rw [← hx, ← hy, Int.natAbs_natCast] at this
    exact Nat.eq_of_mul_eq_mul_left g1 (by omega)
  unfold normF at h
  generalize hg : Int.gcd n d = g at *
  have q1 : n.tdiv g = x := by rw [hx, Int.mul_tdiv_cancel_left _ (by omega)]
  have q2 : d.tdiv g = y := by rw [hy, Int.mul_tdiv_cancel_left _ (by omega)]
  rw [q1, q2] at h
  have hr := rngO_in h
  unfold toO rngF at h
  by_cases h4 : InR x ∧ InR y
  case neg => rw [if_neg h4] at h; simp at h
  rw [if_pos h4, if_pos rfl] at h
  injection h with h
  subst h
  have hy1 : 1 ≤ y := by
    have hgp : (0 : Int) < (g : Int) := by omega
    have : 0 < (g : Int) * y := by omega
    have := Int.pos_of_mul_pos_right this hgp
    omega
  have c1 := cast_pos (d := (g : Int)) (by omega)
  have c2 := cast_pos hy1
  refine ⟨?_, hy1, h4.2.2, h4.1, xy⟩
  show (x : Rat) / (y : Rat) = _
  rw [hx, hy, Rat.intCast_mul, Rat.intCast_mul]
  grind
theorem mulO_some {a b p : Fr} (h : mulO a b = some p) : ValidF a ∧ ValidF b ∧ ValidF p ∧ V p = V a * V b := by
  unfold mulO mulF at h
  split at h
  · rename_i hv
    obtain ⟨⟨a1, a2, a3, a4⟩, ⟨b1, b2, b3, b4⟩⟩ := hv
    obtain ⟨h1, h2⟩ := norm_val (by have := Int.mul_pos (show 0 < a.D by omega) (show 0 < b.D by omega); omega) h
    refine ⟨⟨a1, a2, a3, a4⟩, ⟨b1, b2, b3, b4⟩, h2, ?_⟩
    have c1 := cast_pos a1
    have c2 := cast_pos b1
    rw [h1, Rat.intCast_mul, Rat.intCast_mul]
    unfold V
    grind
  · simp [toO] at h
theorem addO_some {a b p : Fr} (h : addO a b = some p) : ValidF a ∧ ValidF b ∧ ValidF p ∧ V p = V a + V b := by
  unfold addO addF at h
  split at h
  · rename_i hv
    obtain ⟨⟨a1, a2, a3, a4⟩, ⟨b1, b2, b3, b4⟩⟩ := hv
    obtain ⟨h1, h2⟩ := norm_val (by have := Int.mul_pos (show 0 < a.D by omega) (show 0 < b.D by omega); omega) h
    refine ⟨⟨a1, a2, a3, a4⟩, ⟨b1, b2, b3, b4⟩, h2, ?_⟩
    have c1 := cast_pos a1
    have c2 := cast_pos b1
    rw [h1, Rat.intCast_add, Rat.intCast_mul, Rat.intCast_mul, Rat.intCast_mul]
    unfold V
    grind
  · simp [toO] at h
theorem neg_N {a : Fr} (h : ValidF a) : (negF a).N = -a.N := by rw [negF_valid h]
theorem neg_val {a : Fr} (h : ValidF a) : V (negF a) = - V a := by
  unfold V
  rw [neg_N h, Rat.intCast_neg]
  show -(a.N : Rat) / (a.D : Rat) = _
  grind
theorem subO_some {a b p : Fr} (h : subO a b = some p) (hb : ValidF b) : ValidF a ∧ ValidF p ∧ V p = V a - V b := by
  obtain ⟨h1, h2, h3, h4⟩ := addO_some (show addO a (negF b) = some p from h)
  rw [neg_val hb] at h4
  exact ⟨h1, h3, by grind⟩
theorem divO_some {a b p : Fr} (h : divO a b = some p) : ValidF a ∧ ValidF b ∧ b.N ≠ 0 ∧ ValidF p ∧ V p = V a / V b := by
  unfold divO divF at h
  split at h
  · rename_i hv
    have c1 := cast_pos hv.1.1
    have c2 : (b.N : Rat) ≠ 0 := fun e => hv.2 (by
      have : (b.N : Rat) = ((0 : Int) : Rat) := e
      exact Rat.intCast_inj.1 this)
    split at h
    · obtain ⟨h1, h2, h3, h4⟩ := mulO_some (show mulO a ⟨-b.D, -b.N⟩ = some p from h)
      refine ⟨h1, hv.1, hv.2, h3, ?_⟩
      rw [h4]
      unfold V
      rw [Rat.intCast_neg, Rat.intCast_neg]
      grind
    · obtain ⟨h1, h2, h3, h4⟩ := mulO_some (show mulO a ⟨b.D, b.N⟩ = some p from h)
      refine ⟨h1, hv.1, hv.2, h3, ?_⟩
      rw [h4]
      unfold V
      grind
  · simp [toO] at h
theorem mnO_some {a f b p : Fr} (h : mnO a f b = some p) : ValidF a ∧ ValidF f ∧ ValidF b ∧ ValidF p ∧ V p = V a - V f * V b := by
  unfold mnO at h
  cases h1 : mulO f b with
  | none => rw [h1] at h; cases h
  | some q =>
    rw [h1] at h
    obtain ⟨k1, k2, k3, k4⟩ := mulO_some h1
    obtain ⟨k5, k6, k7⟩ := subO_some h k3
    exact ⟨k5, k1, k2, k6, by rw [k7, k4]⟩
theorem V_neg_iff {a : Fr} (h : ValidF a) : a.N < 0 ↔ V a < 0 := by
  have c := cast_pos h.1
  unfold V
  rw [Rat.div_lt_iff c, Rat.zero_mul]
  exact (Rat.intCast_lt_intCast (a := a.N) (b := 0)).symm
theorem V_pos_iff {a : Fr} (h : ValidF a) : 0 < a.N ↔ 0 < V a := by
  have c := cast_pos h.1
  unfold V
  rw [Rat.lt_div_iff c, Rat.zero_mul]
  exact (Rat.intCast_lt_intCast (a := 0) (b := a.N)).symm
theorem V_zero_iff {a : Fr} (h : ValidF a) : a.N = 0 ↔ V a = 0 := by
  have h1 := V_neg_iff h
  have h2 := V_pos_iff h
  constructor
  · intro e
    unfold V
    rw [e]
    show ((0 : Int) : Rat) / _ = 0
    grind
  · intro e
    rw [e] at h1 h2
    have q1 := mt h1.1 Rat.lt_irrefl
    have q2 := mt h2.1 Rat.lt_irrefl
    omega
theorem cross_lt {a b : Fr} (ha : ValidF a) (hb : ValidF b) : a.N * b.D < b.N * a.D ↔ V a < V b := by
  have c1 := cast_pos ha.1
  have c2 := cast_pos hb.1
  unfold V
  rw [Rat.div_lt_iff c1]
  have e : (b.N : Rat) / (b.D : Rat) * (a.D : Rat) = (b.N : Rat) * (a.D : Rat) / (b.D : Rat) := by grind
  rw [e, Rat.lt_div_iff c2, ← Rat.intCast_mul, ← Rat.intCast_mul, Rat.intCast_lt_intCast]
theorem dvd_mul_cop {a b c : Int} (h : a ∣ b * c) (hg : Int.gcd b a = 1) : a ∣ c := by
  rw [← Int.natAbs_dvd_natAbs] at h ⊢
  rw [Int.natAbs_mul] at h
  exact Nat.Coprime.dvd_of_dvd_mul_left (Nat.Coprime.symm hg) h
theorem V_inj {a b : Fr} (ha : ValidF a) (hb : ValidF b) (h : V a = V b) : a = b := by
  have h1 := cross_lt ha hb
  have h2 := cross_lt hb ha
  rw [h] at h1 h2
  have q1 := mt h1.1 Rat.lt_irrefl
  have q2 := mt h2.1 Rat.lt_irrefl
  have e : a.N * b.D = b.N * a.D := by omega
  obtain ⟨a1, a2, a3, a4⟩ := ha
  obtain ⟨b1, b2, b3, b4⟩ := hb
  have d1 : a.D ∣ b.D := by
    have : a.D ∣ a.N * b.D := by rw [e]; exact Int.dvd_mul_left _ _
    exact dvd_mul_cop this a4
  have d2 : b.D ∣ a.D := by
    have : b.D ∣ b.N * a.D := by rw [← e]; exact Int.dvd_mul_left _ _
    exact dvd_mul_cop this b4
  have eD : a.D = b.D := Int.le_antisymm (Int.le_of_dvd (by omega) d1) (Int.le_of_dvd (by omega) d2)
  have eN : a.N = b.N := by
    rw [eD] at e
    exact Int.eq_of_mul_eq_mul_right (by omega) e
  obtain ⟨x, y⟩ := a
  obtain ⟨u, v⟩ := b
  simp only at eD eN
  rw [eD, eN]
theorem cmp_lt {a b : Fr} (ha : ValidF a) (hb : ValidF b) : cmpF a b < 0 ↔ V a < V b := by
  rw [← cross_lt ha hb]
  unfold cmpF fixF sgn
  rw [if_pos ha, if_pos hb]
  split
  · constructor <;> intro <;> omega
  · split <;> constructor <;> intro <;> omega
theorem cmp_zero {a b : Fr} (ha : ValidF a) (hb : ValidF b) : cmpF a b = 0 ↔ V a = V b := by
  constructor
  · intro h
    have h1 := cross_lt ha hb
    have h2 := cross_lt hb ha
    unfold cmpF fixF sgn at h
    rw [if_pos ha, if_pos hb] at h
    have e : a.N * b.D - b.N * a.D = 0 := by
      split at h
      · omega
      · split at h <;> omega
    have q1 := mt h1.2 (by omega)
    have q2 := mt h2.2 (by omega)
    grind
  · intro h
    rw [V_inj ha hb h]
    unfold cmpF sgn
    rw [if_neg (by omega), if_neg (by omega)]
end Go.Proofs.YtifbaegnkodneaaDoor

/-
  layer 30: the tableau as a table of rational numbers; a pivot that is not too great.
-/
namespace Go.Proofs.YtifbaegnkodneaaDoor
open Go.RowKit
set_option linter.unusedSimpArgs false
set_option linter.unusedVariables false

def Q (t : Tab) : QT := ⟨fun i k => V (ix (ix t.rows i) k), fun k => V (ix t.cost k), fun i => (ix t.basis i).toNat⟩
structure Vd (t : Tab) : Prop where
  rows : ∀ i k, i < t.m → k < t.w + 1 → ValidF (ix (ix t.rows i) k)
  cost : t.cost = [] ∨ ∀ k, k < t.w + 1 → ValidF (ix t.cost k)
theorem ix_ge {α : Type} [Inhabited α] {l : List α} {i : Nat} (h : l.length ≤ i) : ix l i = default := by
  unfold ix
  rw [List.getD_eq_getElem?_getD, List.getElem?_eq_none h]
  rfl
theorem ix_set {α : Type} [Inhabited α] {l : List α} {i q : Nat} {x : α} (hq : q < l.length) : ix (l.set q x) i = if i = q then x else ix l i := by
  by_cases hi : i < l.length
  · rw [ix_lt (by rw [List.length_set]; exact hi), List.getElem_set, ix_lt hi]
    by_cases h : q = i
    · rw [if_pos h, if_pos h.symm]
    · rw [if_neg h, if_neg (fun e => h e.symm)]
  · rw [ix_ge (by rw [List.length_set]; omega), if_neg (by omega), ix_ge (by omega)]
theorem V_def : V (default : Fr) = 0 := by
  show V ⟨0, 0⟩ = 0
  unfold V
  show ((0 : Int) : Rat) / ((0 : Int) : Rat) = 0
  have : ((0 : Int) : Rat) = 0 := rfl
  rw [this]
  grind
theorem QT.same {a b : QT} (h1 : ∀ i k, a.T i k = b.T i k) (h2 : ∀ k, a.c k = b.c k) (h3 : ∀ i, a.b i = b.b i) : a = b := by
  obtain ⟨x, y, z⟩ := a
  obtain ⟨x', y', z'⟩ := b
  have e1 : x = x' := funext fun i => funext fun k => h1 i k
  have e2 : y = y' := funext h2
  have e3 : z = z' := funext h3
  rw [e1, e2, e3]
theorem anyK_false {g : Nat → Bool} : ∀ {n : Nat}, anyK n g = false → ∀ k, k < n → g k = false
  | 0, _, k, hk => by omega
  | n + 1, h, k, hk => by
    rw [anyK_succ] at h
    simp only [Bool.or_eq_false_iff] at h
    by_cases hkn : k = n
    · rw [hkn]; exact h.2
    · exact anyK_false h.1 k (by omega)
theorem mnP_ok {a f b : Fr} (h : (mnP a f b).2 = false) : ValidF a ∧ ValidF f ∧ ValidF b ∧ ValidF (mnP a f b).1 ∧ V (mnP a f b).1 = V a - V f * V b := by
  unfold mnP at h ⊢
  cases h1 : mnO a f b with
  | none => rw [h1] at h; simp at h
  | some d => exact mnO_some h1
theorem dvP_ok {a p : Fr} (h : (dvP a p).2 = false) : ValidF a ∧ ValidF p ∧ p.N ≠ 0 ∧ ValidF (dvP a p).1 ∧ V (dvP a p).1 = V a / V p := by
  unfold dvP at h ⊢
  cases h1 : divO a p with
  | none => rw [h1] at h; simp at h
  | some d => exact divO_some h1
section
variable {L : Lay} {t : Tab}
theorem or_over {b : Bool} (h : (orT t b).over = false) : t.over = false ∧ b = false := by
  have h : (t.over || b) = false := h
  simpa using h
/-- A row that is new in its first places. -/
theorem V_mix {g : Nat → Fr} {row by_ : List Fr} {n : Nat} {f : Nat → Rat} (hl : row.length = n) (h : ∀ k, k < n → V (g k) = f k) (h0 : ∀ k, n ≤ k → f k = 0) (k : Nat) : V (ix (mixF n g row) k) = f k := by
  by_cases hk : k < n
  · rw [mixF_ix (by rw [hl]; exact hk), if_pos hk, h k hk]
  · rw [ix_ge (by rw [mixF_len, hl]; omega), V_def, h0 k (by omega)]
theorem row_out (hS : Shape L t) {i k : Nat} (hk : t.w + 1 ≤ k) : V (ix (ix t.rows i) k) = 0 := by
  by_cases hi : i < t.m
  · rw [ix_ge (by rw [hS.row _ (ix_mem (by rw [hS.m]; exact hi))]; exact hk), V_def]
  · rw [ix_ge (l := t.rows) (by rw [hS.m]; omega)]
    exact V_def
theorem row_len (hS : Shape L t) {i : Nat} (hi : i < t.m) : (ix t.rows i).length = t.w + 1 := hS.row _ (ix_mem (by rw [hS.m]; exact hi))
theorem cost_out (hS : Shape L t) {k : Nat} (hk : t.w + 1 ≤ k) : V (ix t.cost k) = 0 := by
  rw [ix_ge (l := t.cost) (by rcases hS.cost with ⟨_, h⟩ | ⟨_, h⟩
                              · rw [h]; exact Nat.zero_le _
                              · omega)]
  exact V_def
theorem clr_row (hS : Shape L t) {q i : Nat} {f : Fr} (hp : PreClr L t ⟨some q, f, i⟩) (ho : (clrT t ⟨some q, f, i⟩).over = false) : t.over = false ∧ Q (clrT t ⟨some q, f, i⟩) = ⟨fun i' k => if i' = q then (Q t).T q k - V f * (Q t).T i k else (Q t).T i' k, (Q t).c, (Q t).b⟩ ∧ (Vd t → Vd (clrT t ⟨some q, f, i⟩)) := by
  obtain ⟨hq, hqi⟩ := hp.row q rfl
  have hi := hp.i
  unfold clrT clrK at ho ⊢
  obtain ⟨h1, h2⟩ := or_over ho
  have h2 := anyK_false h2
  have h2 : ∀ k, k < t.w + 1 → (mnP (ix (ix t.rows q) k) f (ix (ix t.rows i) k)).2 = false := h2
  have hql := row_len hS hq
  refine ⟨h1, ?_, fun hv => ⟨fun i' k hi' hk => ?_, hv.cost⟩⟩
  · refine QT.same (fun i' k => ?_) (fun _ => rfl) (fun _ => rfl)
    show V (ix (ix (t.rows.set q _) i') k) = if i' = q then (Q t).T q k - V f * (Q t).T i k else (Q t).T i' k
    rw [ix_set (by rw [hS.m]; exact hq)]
    by_cases hiq : i' = q
    · rw [if_pos hiq, if_pos hiq]
      refine V_mix (by_ := []) (f := fun k => (Q t).T q k - V f * (Q t).T i k) hql (fun k hk => (mnP_ok (h2 k hk)).2.2.2.2) (fun k hk => ?_) k
      show V (ix (ix t.rows q) k) - V f * V (ix (ix t.rows i) k) = 0
      rw [row_out hS hk, row_out hS hk]
      grind
    · rw [if_neg hiq, if_neg hiq]
      rfl
  · show ValidF (ix (ix (t.rows.set q _) i') k)
    rw [ix_set (by rw [hS.m]; exact hq)]
    by_cases hiq : i' = q
    · rw [if_pos hiq]
      show ValidF (ix (mixF (t.w + 1) _ (ix t.rows q)) k)
      have hk : k < t.w + 1 := hk
      rw [mixF_ix (by rw [hql]; exact hk), if_pos hk]
      exact (mnP_ok (h2 k hk)).2.2.2.1
    · rw [if_neg hiq]
      exact hv.rows i' k hi' hk
theorem clr_cost (hS : Shape L t) {i : Nat} {f : Fr} (hp : PreClr L t ⟨none, f, i⟩) (ho : (clrT t ⟨none, f, i⟩).over = false) : t.over = false ∧ Q (clrT t ⟨none, f, i⟩) = ⟨(Q t).T, fun k => (Q t).c k - V f * (Q t).T i k, (Q t).b⟩ ∧ (Vd t → Vd (clrT t ⟨none, f, i⟩)) := by
  have hc := hp.cost rfl
  have hi := hp.i
  unfold clrT clrK at ho ⊢
  obtain ⟨h1, h2⟩ := or_over ho
  have h2 := anyK_false h2
  have h2 : ∀ k, k < t.w + 1 → (mnP (ix t.cost k) f (ix (ix t.rows i) k)).2 = false := h2
  refine ⟨h1, ?_, fun hv => ⟨hv.rows, .inr fun k hk => ?_⟩⟩
  · refine QT.same (fun _ _ => rfl) (fun k => ?_) (fun _ => rfl)
    show V (ix (mixF (t.w + 1) _ t.cost) k) = (Q t).c k - V f * (Q t).T i k
    refine V_mix (by_ := []) (f := fun k => (Q t).c k - V f * (Q t).T i k) hc (fun k hk => (mnP_ok (h2 k hk)).2.2.2.2) (fun k hk => ?_) k
    show V (ix t.cost k) - V f * V (ix (ix t.rows i) k) = 0
    rw [row_out hS hk, cost_out hS hk]
    grind
  · show ValidF (ix (mixF (t.w + 1) _ t.cost) k)
    have hk : k < t.w + 1 := hk
    rw [mixF_ix (by rw [hc]; exact hk), if_pos hk]
    exact (mnP_ok (h2 k hk)).2.2.2.1
theorem pv_Q (hS : Shape L t) {i j : Nat} (hi : i < t.m) (hj : j < t.w) (ho : (pvK t i j (t.w + 1)).over = false) : t.over = false ∧ (ix (ix t.rows i) j).N ≠ 0 ∧ V (ix (ix t.rows i) j) ≠ 0 ∧ Q (pvK t i j (t.w + 1)) = ⟨fun i' k => if i' = i then (Q t).T i k / (Q t).T i j else (Q t).T i' k, (Q t).c, (Q t).b⟩ ∧ (Vd t → Vd (pvK t i j (t.w + 1))) := by
  unfold pvK at ho ⊢
  obtain ⟨h1, h2⟩ := or_over ho
  have h2 := anyK_false h2
  have h2 : ∀ k, k < t.w + 1 → (dvP (ix (ix t.rows i) k) (ix (ix t.rows i) j)).2 = false := h2
  have hil := row_len hS hi
  have h3 := dvP_ok (h2 j (by omega))
  refine ⟨h1, h3.2.2.1, fun e => h3.2.2.1 ((V_zero_iff h3.1).2 e), ?_, fun hv => ⟨fun i' k hi' hk => ?_, hv.cost⟩⟩
  · refine QT.same (fun i' k => ?_) (fun _ => rfl) (fun _ => rfl)
    show V (ix (ix (t.rows.set i _) i') k) = if i' = i then (Q t).T i k / (Q t).T i j else (Q t).T i' k
    rw [ix_set (by rw [hS.m]; exact hi)]
    by_cases hiq : i' = i
    · rw [if_pos hiq, if_pos hiq]
      refine V_mix (by_ := []) (f := fun k => (Q t).T i k / (Q t).T i j) hil (fun k hk => (dvP_ok (h2 k hk)).2.2.2.2) (fun k hk => ?_) k
      show V (ix (ix t.rows i) k) / V (ix (ix t.rows i) j) = 0
      rw [row_out hS hk]
      grind
    · rw [if_neg hiq, if_neg hiq]
      rfl
  · show ValidF (ix (ix (t.rows.set i _) i') k)
    rw [ix_set (by rw [hS.m]; exact hi)]
    by_cases hiq : i' = i
    · rw [if_pos hiq]
      show ValidF (ix (mixF (t.w + 1) _ (ix t.rows i)) k)
      have hk : k < t.w + 1 := hk
      rw [mixF_ix (by rw [hil]; exact hk), if_pos hk]
      exact (dvP_ok (h2 k hk)).2.2.2.1
    · rw [if_neg hiq]
      exact hv.rows i' k hi' hk
theorem V_zero {a : Fr} (h : a.N = 0) : V a = 0 := by
  unfold V
  rw [h]
  show ((0 : Int) : Rat) / _ = 0
  have : ((0 : Int) : Rat) = 0 := rfl
  rw [this]
  grind
theorem elim_Q (hS : Shape L t) {i j : Nat} (hi : i < t.m) : ∀ {k : Nat}, k ≤ t.m → (elimK t i j k).over = false → t.over = false ∧ Q (elimK t i j k) = ⟨fun i' c => if i' < k ∧ i' ≠ i then (Q t).T i' c - (Q t).T i' j * (Q t).T i c else (Q t).T i' c, (Q t).c, (Q t).b⟩ ∧ (Vd t → Vd (elimK t i j k))
  | 0, _, ho => ⟨ho, by
      refine QT.same (fun i' c => ?_) (fun _ => rfl) (fun _ => rfl)
      simp only
      rw [if_neg (by omega)]
      rfl, fun h => h⟩
  | k + 1, hk, ho => by
    have hS1 := elimK_shape hS hi j (k := k) (by omega)
    have hm1 : (elimK t i j k).m = t.m := elimK_m i j k
    unfold elimK elim1 at ho ⊢
    have ihh := elim_Q hS hi (j := j) (k := k) (by omega)
    have rowk : ∀ {u : QT}, Q (elimK t i j k) = u → V (ix (ix (elimK t i j k).rows k) j) = u.T k j := fun e => by rw [← e]; rfl
    split at ho
    · rename_i hc
      obtain ⟨hki, hN⟩ := hc
      rw [if_pos ⟨hki, hN⟩]
      have hpre : PreClr L (elimK t i j k) ⟨some k, ix (ix (elimK t i j k).rows k) j, i⟩ := elim1_pre (j := j) (by omega) (by omega) hki _
      obtain ⟨h1, h2, h3⟩ := clr_row hS1 hpre ho
      obtain ⟨h4, h5, h6⟩ := ihh h1
      refine ⟨h4, ?_, fun hv => h3 (h6 hv)⟩
      have hr := rowk h5
      rw [h2, hr, h5]
      refine QT.same (fun i' c => ?_) (fun _ => rfl) (fun _ => rfl)
      simp only
      by_cases hik : i' = k
      · subst hik
        rw [if_pos rfl, if_neg (by omega), if_neg (by omega), if_neg (by omega), if_pos ⟨by omega, hki⟩]
      · rw [if_neg hik]
        by_cases hlt : i' < k ∧ i' ≠ i
        · rw [if_pos hlt, if_pos ⟨by omega, hlt.2⟩]
        · rw [if_neg hlt, if_neg (by omega)]
    · rename_i hc
      rw [if_neg hc]
      obtain ⟨h4, h5, h6⟩ := ihh ho
      refine ⟨h4, ?_, h6⟩
      have hr := rowk h5
      rw [h5]
      refine QT.same (fun i' c => ?_) (fun _ => rfl) (fun _ => rfl)
      simp only
      by_cases hik : i' = k
      · subst hik
        rw [if_neg (by omega)]
        by_cases hki : i' = i
        · rw [if_neg (by omega)]
        · rw [if_pos ⟨by omega, hki⟩]
          have hN : (ix (ix (elimK t i j i').rows i') j).N = 0 := Classical.byContradiction fun h => hc ⟨hki, h⟩
          rw [V_zero hN] at hr
          have hr : (0 : Rat) = if i' < i' ∧ i' ≠ i then _ else (Q t).T i' j := hr
          rw [if_neg (by omega)] at hr
          rw [← hr]
          grind
      · by_cases hlt : i' < k ∧ i' ≠ i
        · rw [if_pos hlt, if_pos ⟨by omega, hlt.2⟩]
        · rw [if_neg hlt, if_neg (by omega)]
theorem elimC_Q (hS : Shape L t) {i j : Nat} (hi : i < t.m) (ho : (elimC t i j).over = false) : t.over = false ∧ Q (elimC t i j) = ⟨(Q t).T, fun k => (Q t).c k - (Q t).c j * (Q t).T i k, (Q t).b⟩ ∧ (Vd t → Vd (elimC t i j)) := by
  unfold elimC at ho ⊢
  split at ho
  · rename_i hc
    rw [if_pos hc]
    exact clr_cost hS (elimC_pre hS hi hc.1 _) ho
  · rename_i hc
    rw [if_neg hc]
    refine ⟨ho, ?_, fun h => h⟩
    refine QT.same (fun _ _ => rfl) (fun k => ?_) (fun _ => rfl)
    show V (ix t.cost k) = V (ix t.cost k) - V (ix t.cost j) * V (ix (ix t.rows i) k)
    have : V (ix t.cost j) = 0 := by
      by_cases he : t.cost = []
      · rw [he]; exact V_def
      · exact V_zero (Classical.byContradiction fun h => hc ⟨he, h⟩)
    rw [this]
    grind
/-- A pivot that is not too great is a pivot of the rational numbers. -/
theorem piv_Q (hS : Shape L t) {i j : Nat} (hi : i < t.m) (hj : j < t.w) (ho : (pivF t i j).over = false) : t.over = false ∧ (Q t).T i j ≠ 0 ∧ Q (pivF t i j) = pivQ (Q t) i j ∧ (Vd t → Vd (pivF t i j)) := by
  have ho : (elimT t i j).over = false := ho
  have hS1 := pvK_shape hS hi j (t.w + 1)
  have hS2 := elimK_shape hS1 hi j (k := t.m) (by rw [pvK_m]; exact Nat.le_refl _)
  unfold elimT at ho
  obtain ⟨a1, a2, a3⟩ := elimC_Q hS2 (by rw [elimK_m, pvK_m]; exact hi) ho
  obtain ⟨b1, b2, b3⟩ := elim_Q hS1 (by rw [pvK_m]; exact hi) (by rw [pvK_m]; exact Nat.le_refl _) a1
  obtain ⟨c1, c2, c3, c4, c5⟩ := pv_Q hS hi hj b1
  have hb24 : i < t.basis.length := by rw [hS.bas]; have := hS.m24; omega
  have eQ : Q (elimT t i j) = ⟨fun i' k => if i' = i then (Q t).T i k / (Q t).T i j else (Q t).T i' k - (Q t).T i' j * ((Q t).T i k / (Q t).T i j), fun k => (Q t).c k - (Q t).c j * ((Q t).T i k / (Q t).T i j), (Q t).b⟩ := by
    unfold elimT
    rw [a2, b2, c4]
    refine QT.same (fun i' k => ?_) (fun k => ?_) (fun _ => rfl)
    · simp only
      by_cases hii : i' = i
      · subst hii
        rw [if_neg (by omega), if_pos rfl, if_pos rfl]
      · rw [if_neg hii]
        by_cases hm : i' < t.m
        · rw [if_pos ⟨hm, hii⟩, if_neg hii, if_neg hii, if_pos trivial]
        · rw [if_neg (by omega), if_neg hii]
          have z : ∀ k, (Q t).T i' k = 0 := fun k => by
            show V (ix (ix t.rows i') k) = 0
            rw [ix_ge (l := t.rows) (by rw [hS.m]; omega)]
            exact V_def
          rw [z, z]
          grind
    · simp only
      rw [if_neg (by omega), if_pos trivial]
  refine ⟨c1, c3, ?_, fun hv => ?_⟩
  · have e : Q (pivF t i j) = { Q (elimT t i j) with b := fun i' => (ix ((elimT t i j).basis.set i j) i').toNat } := rfl
    rw [e, eQ]
    refine QT.same (fun _ _ => rfl) (fun _ => rfl) (fun i' => ?_)
    show (ix ((elimT t i j).basis.set i j) i').toNat = if i' = i then j else (Q t).b i'
    have hbb : (elimT t i j).basis = t.basis := by unfold elimT; rw [elimC_bas, elimK_bas]; rfl
    rw [hbb, ix_set hb24]
    split
    · rfl
    · rfl
  · have hv' := a3 (b3 (c5 hv))
    exact ⟨hv'.rows, hv'.cost⟩
end
end Go.Proofs.YtifbaegnkodneaaDoor

/-
  layer 30: a phase is a run of pivots by the least index; it comes to an end.
-/
namespace Go.Proofs.YtifbaegnkodneaaDoor
open Go.RowKit
set_option linter.unusedSimpArgs false
set_option linter.unusedVariables false

theorem entK_some {t : Tab} : ∀ {k j : Nat}, entK t k = some j → (ix t.cost j).N < 0 ∧ ∀ i, i < j → ¬ (ix t.cost i).N < 0
  | 0, j, h => by cases h
  | k + 1, j, h => by
    cases h1 : entK t k with
    | some i =>
      have := entK_some h1
      unfold entK at h
      rw [h1] at h
      injection h with h
      rw [← h]
      exact this
    | none =>
      rw [entK_succ h1] at h
      split at h
      · rename_i hN
        injection h with h
        rw [← h]
        refine ⟨hN, fun i hi => ?_⟩
        exact (entK_none h1) i hi
      · cases h
where
  entK_none {t : Tab} : ∀ {k : Nat}, entK t k = none → ∀ i, i < k → ¬ (ix t.cost i).N < 0
  | 0, _, i, hi => by omega
  | k + 1, h, i, hi => by
    cases h1 : entK t k with
    | some i' => unfold entK at h; rw [h1] at h; cases h
    | none =>
      rw [entK_succ h1] at h
      split at h
      · cases h
      · rename_i hN
        by_cases hik : i = k
        · rw [hik]; exact hN
        · exact entK_none h1 i (by omega)
theorem entK_none {t : Tab} {k : Nat} (h : entK t k = none) : ∀ i, i < k → ¬ (ix t.cost i).N < 0 := entK_some.entK_none h
/-- The ratio of a row. -/
def rat (t : Tab) (j i : Nat) : Rat := (Q t).T i t.w / (Q t).T i j
structure Best (t : Tab) (j k r : Nat) (low : Fr) : Prop where
  lt : r < k
  pos : 0 < (ix (ix t.rows r) j).N
  lv : ValidF low ∧ V low = rat t j r
  best : ∀ i, i < k → 0 < (ix (ix t.rows i) j).N → V low < rat t j i ∨ (V low = rat t j i ∧ ix t.basis r ≤ ix t.basis i)
theorem lvK_best {t : Tab} {j : Nat} : ∀ {k : Nat} {s : Int} {low : Fr}, lvK t j k = some (s, low) → (s = -1 ∧ ∀ i, i < k → ¬ 0 < (ix (ix t.rows i) j).N) ∨ ∃ r : Nat, s = r ∧ Best t j k r low
  | 0, s, low, h => by
    unfold lvK at h
    injection h with h
    injection h with h1 h2
    exact .inl ⟨h1.symm, fun i hi => by omega⟩
  | k + 1, s, low, h => by
    cases h1 : lvK t j k with
    | none => unfold lvK at h; rw [h1] at h; cases h
    | some p =>
      obtain ⟨s', low'⟩ := p
      have ih := lvK_best h1
      rw [lvK_succ h1] at h
      by_cases hN : (ix (ix t.rows k) j).N ≤ 0
      · rw [if_pos hN] at h
        injection h with h
        injection h with h2 h3
        subst h2 h3
        rcases ih with ⟨e, hn⟩ | ⟨r, e, b⟩
        · exact .inl ⟨e, fun i hi => by
            by_cases hik : i = k
            · rw [hik]; omega
            · exact hn i (by omega)⟩
        · exact .inr ⟨r, e, ⟨by have := b.lt; omega, b.pos, b.lv, fun i hi hp => by
            by_cases hik : i = k
            · rw [hik] at hp; omega
            · exact b.best i (by omega) hp⟩⟩
      · rw [if_neg hN] at h
        cases h2 : divO (ix (ix t.rows k) t.w) (ix (ix t.rows k) j) with
        | none => rw [h2] at h; cases h
        | some q =>
          rw [h2] at h
          obtain ⟨d1, d2, d3, d4, d5⟩ := divO_some h2
          have hq : V q = rat t j k := d5
          simp only at h
          by_cases hT : lvTest t s' low' k q
          · rw [if_pos hT] at h
            injection h with h
            injection h with h3 h4
            subst h3 h4
            refine .inr ⟨k, rfl, ⟨by omega, by omega, ⟨d4, hq⟩, fun i hi hp => ?_⟩⟩
            by_cases hik : i = k
            · rw [hik]; exact .inr ⟨hq, Int.le_refl _⟩
            · rcases ih with ⟨e, hn⟩ | ⟨r, e, b⟩
              · exact absurd hp (hn i (by omega))
              · have hb := b.best i (by omega) hp
                subst e
                rcases hT with hT | hT | ⟨hT1, hT2⟩
                · omega
                · have := (cmp_lt d4 b.lv.1).1 hT
                  exact .inl (by rcases hb with hb | ⟨hb, _⟩ <;> grind)
                · have h5 := (cmp_zero d4 b.lv.1).1 hT1
                  simp only [Int.toNat_natCast] at hT2
                  rw [h5]
                  rcases hb with hb | ⟨hb, hb2⟩
                  · exact .inl hb
                  · exact .inr ⟨hb, by omega⟩
          · rw [if_neg hT] at h
            injection h with h
            injection h with h3 h4
            subst h3 h4
            rcases ih with ⟨e, hn⟩ | ⟨r, e, b⟩
            · exact absurd (.inl (by omega)) hT
            · refine .inr ⟨r, e, ⟨by have := b.lt; omega, b.pos, b.lv, fun i hi hp => ?_⟩⟩
              by_cases hik : i = k
              · subst hik
                subst e
                have n1 : ¬ V q < V low' := fun h => hT (.inr (.inl ((cmp_lt d4 b.lv.1).2 h)))
                have n2 : V q = V low' → ix t.basis r ≤ ix t.basis i := fun h => by
                  refine Int.not_lt.1 fun h' => hT (.inr (.inr ⟨(cmp_zero d4 b.lv.1).2 h, ?_⟩))
                  rw [Int.toNat_natCast]
                  exact h'
                rw [← hq]
                by_cases he : V q = V low'
                · exact .inr ⟨he.symm, n2 he⟩
                · exact .inl (by grind)
              · exact b.best i (by omega) hp
section
variable {L : Lay} {t : Tab}
theorem bas_nn (hS : Shape L t) (i : Nat) : 0 ≤ ix t.basis i ∧ ix t.basis i ≤ 1000 := by
  by_cases hi : i < t.basis.length
  · exact hS.b64 _ (ix_mem hi)
  · rw [ix_ge (by omega)]
    show (0 : Int) ≤ 0 ∧ (0 : Int) ≤ 1000
    omega
theorem cost_valid (hv : Vd t) (hc : t.cost.length = t.w + 1) {k : Nat} (hk : k < t.w + 1) : ValidF (ix t.cost k) := by
  rcases hv.cost with h | h
  · rw [h] at hc; simp at hc
  · exact h k hk
theorem lv_bl (hS : Shape L t) (hv : Vd t) (hc : t.cost.length = t.w + 1) {j r : Nat} {low : Fr} (hj : entK t t.w = some j) (b : Best t j t.m r low) : Bl t.m t.w (Q t) r j := by
  have hjw := entK_lt hj
  obtain ⟨e1, e2⟩ := entK_some hj
  have vj := fun i (hi : i < t.m) => hv.rows i j hi (by omega)
  refine ⟨hjw, (V_neg_iff (cost_valid hv hc (by omega))).1 e1, fun k hk => ?_, b.lt, (V_pos_iff (vj r b.lt)).1 b.pos, fun i hi hp => ?_⟩
  · have h1 := e2 k hk
    rw [V_neg_iff (cost_valid hv hc (by omega))] at h1
    show 0 ≤ V (ix t.cost k)
    grind
  · have h1 := b.best i hi ((V_pos_iff (vj i hi)).2 hp)
    rw [b.lv.2] at h1
    refine h1.imp id fun ⟨h2, h3⟩ => ⟨h2, ?_⟩
    have q1 := bas_nn hS r
    have q2 := bas_nn hS i
    show (ix t.basis r).toNat ≤ (ix t.basis i).toNat
    omega
theorem leav_best {j : Nat} (h1 : (leavF t j).2 = false) : (leavF t j).1 = -1 ∧ (∀ i, i < t.m → ¬ 0 < (ix (ix t.rows i) j).N) ∨ ∃ r low, (leavF t j).1 = (r : Nat) ∧ Best t j t.m r low := by
  unfold leavF at h1 ⊢
  cases h2 : lvK t j t.m with
  | none => rw [h2] at h1; simp at h1
  | some p =>
    obtain ⟨s, low⟩ := p
    rcases lvK_best h2 with h3 | ⟨r, h3, h4⟩
    · exact .inl h3
    · exact .inr ⟨r, low, h3, h4⟩
theorem step_Q (hS : Shape L t) (hv : Vd t) (hc : t.cost.length = t.w + 1) {u : Tab} (h : stepF t = .inr u) (ho : u.over = false) : ∃ r j, Bl t.m t.w (Q t) r j ∧ Q u = pivQ (Q t) r j ∧ Vd u := by
  unfold stepF at h
  split at h
  · cases h
  · split at h
    · cases h
    · rename_i j hj
      split at h
      · cases h
      · rename_i h1
        split at h
        · cases h
        · rename_i h2
          injection h with h
          rcases leav_best (t := t) (j := j) (by simpa using h1) with ⟨h3, _⟩ | ⟨r, low, h3, h4⟩
          · omega
          · rw [h3, Int.toNat_natCast] at h
            rw [← h] at ho ⊢
            obtain ⟨_, _, k3, k4⟩ := piv_Q hS h4.lt (entK_lt hj) ho
            exact ⟨r, j, lv_bl hS hv hc hj h4, k3, k4 hv⟩
theorem step_over {u : Tab} (h : stepF t = .inr u) : t.over = false := by
  unfold stepF at h
  split at h
  · cases h
  · rename_i h1
    simpa using h1
/-- A phase comes to an end. -/
theorem halts (hS : Shape L t) (hv : Vd t) (hc : t.cost.length = t.w + 1) (hW : WF t.m t.w (Q t)) : Halts t := by
  apply Classical.byContradiction
  intro hn
  obtain ⟨nxt, hnxt⟩ : ∃ nxt : Tab → Tab, nxt = fun t => match stepF t with | .inr v => v | .inl _ => t := ⟨_, rfl⟩
  obtain ⟨u, hu0, hus⟩ : ∃ u : Nat → Tab, u 0 = t ∧ ∀ n, u (n + 1) = nxt (u n) := ⟨fun n => Nat.rec t (fun _ x => nxt x) n, rfl, fun n => rfl⟩
  have step : ∀ x, ¬ Halts x → stepF x = .inr (nxt x) ∧ ¬ Halts (nxt x) := fun x hx => by
    cases h : stepF x with
    | inl r => exact absurd ⟨r, 1, by unfold runF; rw [h]⟩ hx
    | inr v =>
      have e : nxt x = v := by rw [hnxt]; simp only [h]
      rw [e]
      refine ⟨rfl, fun ⟨r, n, hr⟩ => hx ⟨r, n + 1, ?_⟩⟩
      unfold runF
      rw [h]
      exact hr
  have hnh : ∀ n, ¬ Halts (u n) := by
    intro n
    induction n with
    | zero => rw [hu0]; exact hn
    | succ n ih => rw [hus]; exact (step _ ih).2
  have hst : ∀ n, stepF (u n) = .inr (u (n + 1)) := fun n => by rw [hus]; exact (step _ (hnh n)).1
  have hov : ∀ n, (u n).over = false := fun n => step_over (hst n)
  have inv : ∀ n, Shape L (u n) ∧ Vd (u n) ∧ Kin t (u n) := by
    intro n
    induction n with
    | zero => rw [hu0]; exact ⟨hS, hv, Kin.refl t⟩
    | succ n ih =>
      obtain ⟨i1, i2, i3⟩ := ih
      have h1 := stepF_shape i1
      rw [hst n] at h1
      obtain ⟨_, _, _, _, h2⟩ := step_Q i1 i2 (by rw [i3.cost, hc, i3.w]) (hst n) (hov (n + 1))
      exact ⟨h1.1, h2, i3.trans h1.2⟩
  have hex : ∀ n, ∃ p : Nat × Nat, Bl t.m t.w (Q (u n)) p.1 p.2 ∧ Q (u (n + 1)) = pivQ (Q (u n)) p.1 p.2 := fun n => by
    obtain ⟨i1, i2, i3⟩ := inv n
    obtain ⟨r, j, h1, h2, _⟩ := step_Q i1 i2 (by rw [i3.cost, hc, i3.w]) (hst n) (hov (n + 1))
    rw [i3.m, i3.w] at h1
    exact ⟨(r, j), h1, h2⟩
  have hw := shape_w36 hS
  exact bland_ends (m := t.m) (w := t.w) (B := 1000) (t := fun n => Q (u n)) (r := fun n => (hex n).choose.1) (j := fun n => (hex n).choose.2) (by rw [hu0]; exact hW) (by omega) (fun i hi => by
    rw [hu0]
    have := bas_nn hS i
    show (ix t.basis i).toNat ≤ 1000
    omega) (fun n => (hex n).choose_spec.1) (fun n => (hex n).choose_spec.2)
end
/-- What stays true through a phase that is not too great is true at its end. -/
theorem runF_ind {P : Tab → Prop} (hst : ∀ t u, P t → stepF t = .inr u → u.over = false → P u) : ∀ {n : Nat} {t : Tab} {r : Bool × Tab}, runF n t = some r → P t → r.2.over = false → P r.2 ∧ stepF r.2 = .inl r
  | 0, _, _, h, _, _ => by cases h
  | n + 1, t, r, h, hP, ho => by
    unfold runF at h
    cases hs : stepF t with
    | inl q =>
      rw [hs] at h
      injection h with h
      subst h
      have e : q.2 = t := by
        unfold stepF at hs
        split at hs
        · injection hs with hs; rw [← hs]
        · split at hs
          · injection hs with hs; rw [← hs]
          · split at hs
            · injection hs with hs
              rw [← hs] at ho
              simp [orT] at ho
            · split at hs
              · injection hs with hs; rw [← hs]
              · cases hs
      rw [e]
      exact ⟨hP, hs⟩
    | inr u =>
      rw [hs] at h
      have hou : u.over = false := by
        cases hb : u.over with
        | false => rfl
        | true =>
          cases n with
          | zero => cases h
          | succ n =>
            unfold runF at h
            have : stepF u = .inl (true, u) := if_pos hb
            simp only [this] at h
            injection h with h
            rw [← h, hb] at ho
            cases ho
      exact runF_ind hst h (hst t u hP hs hou) ho
end Go.Proofs.YtifbaegnkodneaaDoor

/-
  layer 30: the first tableau and phase one, as rational numbers.
-/
namespace Go.Proofs.YtifbaegnkodneaaDoor
open Go.RowKit
set_option linter.unusedSimpArgs false
set_option linter.unusedVariables false

section
variable (l : Lin)
def aQ (i k : Nat) : Rat := V (ix (ix l.A i) k)
def bQ (i : Nat) : Rat := V (ix l.B i)
def cQ (k : Nat) : Rat := V (ix l.C k)
def sg (i : Nat) : Rat := if keepB l i then 1 else -1
def T0 (i k : Nat) : Rat := if k < l.C.length then sg l i * aQ l i k else if k = l.C.length + i then - sg l i else if k = l.C.length + l.A.length then sg l i * bQ l i else 0
end
theorem V_01 : V F01 = 0 := V_zero rfl
theorem V_11 : V F11 = 1 := by
  unfold V F11
  have : ((1 : Int) : Rat) = 1 := rfl
  rw [this]
  grind
theorem V_m1 : V ⟨-1, 1⟩ = -1 := by
  unfold V
  have h1 : ((1 : Int) : Rat) = 1 := rfl
  have h2 : ((-1 : Int) : Rat) = -1 := rfl
  rw [h1, h2]
  grind
theorem valid_01 : ValidF F01 := by decide
theorem valid_11 : ValidF F11 := by decide
theorem valid_m1 : ValidF ⟨-1, 1⟩ := by decide
section
variable {l : Lin}
/-- A valid program. -/
structure Ok (l : Lin) : Prop where
  g : Good l
  a : ∀ i k, i < l.A.length → k < l.C.length → ValidF (ix (ix l.A i) k)
  b : ∀ i, i < l.A.length → ValidF (ix l.B i)
  c : ∀ k, k < l.C.length → ValidF (ix l.C k)
theorem ok_of (h : checkF l = 0) : Ok l := by
  obtain ⟨k1, k2, k3, k4, k5, k6, k7⟩ := check_zero h
  refine ⟨goodL_of h, fun i k hi hk => ?_, fun i hi => k5 _ (ix_mem (by omega)), fun k hk => k6 _ (ix_mem hk)⟩
  obtain ⟨q1, q2⟩ := k7 _ (ix_mem hi)
  exact q2 _ (ix_mem (by omega))
theorem put_val (h : Ok l) {i k : Nat} (hi : i < l.A.length) (hk : k < l.C.length) : ValidF (putE l i (ix (ix l.A i) k)) ∧ V (putE l i (ix (ix l.A i) k)) = sg l i * aQ l i k := by
  have ha := h.a i k hi hk
  unfold putE sg aQ
  split
  · exact ⟨ha, by grind⟩
  · exact ⟨valid_neg ha, by rw [neg_val ha]; grind⟩
theorem ix_rep {α : Type} [Inhabited α] {a : α} {n k : Nat} (h : k < n) : ix (List.replicate n a) k = a := by
  rw [ix_lt (by rw [List.length_replicate]; exact h), List.getElem_replicate]
theorem rowB_val (h : Ok l) {i k : Nat} (hi : i < l.A.length) (hk : k < l.C.length + l.A.length + 1) : ValidF (ix (rowB l i) k) ∧ V (ix (rowB l i) k) = T0 l i k := by
  have hb := h.b i hi
  have hlen : (List.replicate (l.C.length + l.A.length + 1) F01).length = l.C.length + l.A.length + 1 := List.length_replicate
  have h0 : ValidF (ix (mixF l.C.length (fun c => putE l i (ix (ix l.A i) c)) (List.replicate (l.C.length + l.A.length + 1) F01)) k) ∧ V (ix (mixF l.C.length (fun c => putE l i (ix (ix l.A i) c)) (List.replicate (l.C.length + l.A.length + 1) F01)) k) = if k < l.C.length then sg l i * aQ l i k else 0 := by
    rw [mixF_ix (by rw [hlen]; exact hk)]
    by_cases hkn : k < l.C.length
    · rw [if_pos hkn, if_pos hkn]
      exact put_val h hi hkn
    · rw [if_neg hkn, if_neg hkn, ix_rep hk]
      exact ⟨valid_01, V_01⟩
  unfold rowB T0
  simp only
  by_cases hkeep : keepB l i = true
  · have hs : sg l i = 1 := if_pos hkeep
    rw [if_pos hkeep, ix_set (by simp only [List.length_set, mixF_len, hlen]; omega)]
    by_cases hkw : k = l.C.length + l.A.length
    · rw [if_pos hkw, if_neg (by omega), if_neg (by omega), if_pos hkw, hs]
      exact ⟨hb, by unfold bQ; grind⟩
    · rw [if_neg hkw, ix_set (by simp only [List.length_set, mixF_len, hlen]; omega)]
      by_cases hki : k = l.C.length + i
      · rw [if_pos hki, if_neg (by omega), if_pos hki, hs]
        exact ⟨valid_m1, V_m1⟩
      · rw [if_neg hki, ix_set (by simp only [List.length_set, mixF_len, hlen]; omega), if_neg hkw, ix_set (by simp only [mixF_len, hlen]; omega), if_neg hki]
        refine ⟨h0.1, h0.2.trans ?_⟩
        rw [if_neg hki, if_neg hkw]
  · have hs : sg l i = -1 := if_neg hkeep
    rw [if_neg hkeep, ix_set (by simp only [List.length_set, mixF_len, hlen]; omega)]
    by_cases hkw : k = l.C.length + l.A.length
    · rw [if_pos hkw, if_neg (by omega), if_neg (by omega), if_pos hkw, hs]
      exact ⟨valid_neg hb, by rw [neg_val hb]; unfold bQ; grind⟩
    · rw [if_neg hkw, ix_set (by simp only [mixF_len, hlen]; omega)]
      by_cases hki : k = l.C.length + i
      · rw [if_pos hki, if_neg (by omega), if_pos hki, hs]
        exact ⟨valid_11, by rw [V_11]; grind⟩
      · rw [if_neg hki]
        refine ⟨h0.1, h0.2.trans ?_⟩
        rw [if_neg hki, if_neg hkw]
theorem basK_at (h : Ok l) : ∀ {k i : Nat}, k ≤ l.A.length → i < k → ix (basK l k) i = if keepB l i then (l.C.length : Int) + l.A.length + i else (l.C.length : Int) + i
  | 0, i, _, hi => by omega
  | k + 1, i, hk, hi => by
    have := h.g.m24
    unfold basK
    rw [ix_set (by rw [basK_len]; omega)]
    by_cases hik : i = k
    · subst hik
      rw [if_pos rfl]
    · rw [if_neg hik]
      exact basK_at h (by omega) (by omega)
theorem beg_w : (begF l).w = l.C.length + l.A.length := rfl
theorem beg_m : (begF l).m = l.A.length := rfl
theorem beg_n : (begF l).n = l.C.length := rfl
theorem beg_shape (h : Ok l) : ∃ L : Lay, L.c = none ∧ Shape L (begF l) :=
  ⟨layB 2 l l.A.length, rfl, (tabB_shape h.g 2 (Nat.le_refl l.A.length)).full (by simp [layB, tabB])⟩
theorem beg_row {i : Nat} (hi : i < l.A.length) : ix (begF l).rows i = rowB l i := by
  show ix ((List.range l.A.length).map (rowB l)) i = _
  exact ix_range hi
theorem beg_T (h : Ok l) {i k : Nat} (hi : i < l.A.length) (hk : k < l.C.length + l.A.length + 1) : (Q (begF l)).T i k = T0 l i k := by
  show V (ix (ix (begF l).rows i) k) = _
  rw [beg_row hi]
  exact (rowB_val h hi hk).2
theorem beg_b (h : Ok l) {i : Nat} (hi : i < l.A.length) : (Q (begF l)).b i = if keepB l i then l.C.length + l.A.length + i else l.C.length + i := by
  show (ix (basK l l.A.length) i).toNat = _
  rw [basK_at h (Nat.le_refl _) hi]
  split <;> omega
theorem beg_vd (h : Ok l) : Vd (begF l) := ⟨fun i k hi hk => by rw [beg_row hi]; exact (rowB_val h hi hk).1, .inl rfl⟩
/-- The units of the first tableau, and its right side. -/
theorem beg_unit (h : Ok l) : ∀ i, i < l.A.length → (Q (begF l)).b i < l.C.length + l.A.length → ∀ i', i' < l.A.length → (Q (begF l)).T i' ((Q (begF l)).b i) = if i' = i then 1 else 0 := fun i hi hb i' hi' => by
  rw [beg_b h hi] at hb ⊢
  by_cases hk : keepB l i = true
  · rw [if_pos hk] at hb; omega
  · rw [if_neg hk, beg_T h hi' (by omega)]
    unfold T0
    rw [if_neg (by omega)]
    by_cases hii : i' = i
    · subst hii
      rw [if_pos rfl, if_pos rfl]
      unfold sg
      rw [if_neg hk]
      grind
    · rw [if_neg (by omega), if_neg (by omega), if_neg hii]
theorem beg_rhs (h : Ok l) : ∀ i, i < l.A.length → 0 ≤ (Q (begF l)).T i (l.C.length + l.A.length) := fun i hi => by
  rw [beg_T h hi (by omega)]
  unfold T0
  rw [if_neg (by omega), if_neg (by omega), if_pos rfl]
  have hb := h.b i hi
  have h1 := V_pos_iff hb
  have hd : keepB l i = decide (0 < (ix l.B i).N) := rfl
  unfold sg bQ
  by_cases hk : 0 < (ix l.B i).N
  · rw [if_pos (by rw [hd]; exact decide_eq_true hk)]
    have := h1.1 hk
    grind
  · rw [if_neg (by rw [hd]; simpa using hk)]
    have := mt h1.2 hk
    grind
/-! ### Phase one -/
theorem art_iff {L : Lay} {t : Tab} (hS : Shape L t) (i : Nat) : artP t i = true ↔ t.w ≤ (Q t).b i := by
  have := bas_nn hS i
  unfold artP
  show decide ((t.w : Int) ≤ ix t.basis i) = true ↔ t.w ≤ (ix t.basis i).toNat
  rw [decide_eq_true_iff]
  omega
theorem rowE_V (t : Tab) (k : Nat) : V (ix (rowE t) k) = 0 := by
  by_cases hk : k < t.w + 1
  · rw [show rowE t = List.replicate (t.w + 1) F01 from rfl, ix_rep hk]; exact V_01
  · rw [ix_ge (by rw [rowE_len]; omega)]; exact V_def
theorem f1_Q {L : Lay} {t : Tab} (hS : Shape L t) : ∀ {k : Nat}, k ≤ t.m → (f1K t k).over = false → t.over = false ∧ Q (f1K t k) = ⟨(Q t).T, fun c => - Sm k (fun i => if t.w ≤ (Q t).b i then (Q t).T i c else 0), (Q t).b⟩ ∧ (Vd t → Vd (f1K t k))
  | 0, _, ho => ⟨ho, by
      refine QT.same (fun _ _ => rfl) (fun k => ?_) (fun _ => rfl)
      show V (ix (rowE t) k) = - Sm 0 _
      rw [rowE_V]
      unfold Sm
      grind, fun hv => ⟨hv.rows, .inr fun k hk => by
        have hk : k < t.w + 1 := hk
        show ValidF (ix (rowE t) k)
        rw [show rowE t = List.replicate (t.w + 1) F01 from rfl, ix_rep hk]
        exact valid_01⟩⟩
  | k + 1, hk, ho => by
    have hS1 : Shape (newC L []) (f1K t k) := f1K_shape hS (by omega)
    have ih := f1_Q hS (k := k) (by omega)
    have hb : ∀ i, artP t i = true ↔ t.w ≤ (Q t).b i := art_iff hS
    unfold f1K at ho ⊢
    by_cases ha : artP t k = true
    · rw [if_pos ha] at ho ⊢
      obtain ⟨h1, h2, h3⟩ := clr_cost hS1 (f1K_pre hk) ho
      obtain ⟨h4, h5, h6⟩ := ih h1
      refine ⟨h4, ?_, fun hv => h3 (h6 hv)⟩
      rw [h2, h5, V_11]
      refine QT.same (fun _ _ => rfl) (fun c => ?_) (fun _ => rfl)
      simp only
      show _ = - (Sm k _ + if t.w ≤ (Q t).b k then (Q t).T k c else 0)
      rw [if_pos ((hb k).1 ha)]
      grind
    · rw [if_neg ha] at ho ⊢
      obtain ⟨h4, h5, h6⟩ := ih ho
      refine ⟨h4, ?_, h6⟩
      rw [h5]
      refine QT.same (fun _ _ => rfl) (fun c => ?_) (fun _ => rfl)
      simp only
      show _ = - (Sm k _ + if t.w ≤ (Q t).b k then (Q t).T k c else 0)
      rw [if_neg (fun h => ha ((hb k).2 h))]
      grind
/-- What is true through phase one. -/
structure In1 (l : Lin) (t : Tab) : Prop where
  s : ∃ L, Shape L t
  v : Vd t
  c : t.cost.length = t.w + 1
  n : t.n = l.C.length
  m : t.m = l.A.length
  wf : WF l.A.length (l.C.length + l.A.length) (Q t)
  p1 : P1 l.A.length (l.C.length + l.A.length) (Q t)
  e : Eqv l.A.length (Q (begF l)).T (Q t).T
theorem In1.w {t : Tab} (h : In1 l t) : t.w = l.C.length + l.A.length := by unfold Tab.w; rw [h.n, h.m]
theorem f1_in (h : Ok l) (ho : (f1T (begF l)).over = false) : In1 l (f1T (begF l)) := by
  obtain ⟨L, hLc, hS⟩ := beg_shape h
  obtain ⟨h1, h2, h3⟩ := f1_Q hS (k := (begF l).m) (Nat.le_refl _) ho
  obtain ⟨s1, s2, s3, s4⟩ := f1K_same (begF l) (begF l).m
  have hw : (f1K (begF l) (begF l).m).w = (begF l).w := f1K_w _ _
  refine ⟨⟨_, f1K_shape (K := []) hS (Nat.le_refl _)⟩, h3 (beg_vd h), ?_, s1, s2, ?_, ?_, ?_⟩
  · show (f1K (begF l) (begF l).m).cost.length = (f1K (begF l) (begF l).m).w + 1
    rw [s3, hw]
  · rw [show f1T (begF l) = f1K (begF l) (begF l).m from rfl, h2]
    refine ⟨beg_unit h, fun i hi hb => ?_, beg_rhs h⟩
    have hb : (Q (begF l)).b i < l.C.length + l.A.length := hb
    show - Sm (begF l).m (fun x => if (begF l).w ≤ (Q (begF l)).b x then (Q (begF l)).T x ((Q (begF l)).b i) else 0) = 0
    rw [Sm_congr (g := fun _ => 0) (fun x hx => ?_), Sm_zero]
    · grind
    · split
      · rename_i hx2
        rw [beg_unit h i hi hb x hx, if_neg (fun e => by rw [e] at hx2; exact absurd hb (by rw [beg_w] at hx2; omega))]
      · rfl
  · rw [show f1T (begF l) = f1K (begF l) (begF l).m from rfl, h2]
    exact fun k => rfl
  · rw [show f1T (begF l) = f1K (begF l) (begF l).m from rfl, h2]
    exact Eqv.refl _ _
theorem In1.step {t u : Tab} (h : In1 l t) (hs : stepF t = .inr u) (ho : u.over = false) : In1 l u := by
  obtain ⟨L, hS⟩ := h.s
  obtain ⟨r, j, hB, hQ, hv⟩ := step_Q hS h.v h.c hs ho
  have hsh := stepF_shape hS
  rw [hs] at hsh
  obtain ⟨k1, k2⟩ := hsh
  rw [h.m, h.w] at hB
  have hp := pos_ne hB.pos
  refine ⟨⟨L, k1⟩, hv, by rw [k2.cost, h.c, k2.w], k2.n.trans h.n, k2.m.trans h.m, ?_, ?_, ?_⟩
  · rw [hQ]; exact h.wf.piv hB
  · rw [hQ]; exact h.p1.piv hB.jw hp
  · rw [hQ]; exact h.e.trans (Eqv.piv hB.rm hp)
theorem In1.halts {t : Tab} (h : In1 l t) : Halts t := by
  obtain ⟨L, hS⟩ := h.s
  exact Go.Proofs.YtifbaegnkodneaaDoor.halts hS h.v h.c (by rw [h.m, h.w]; exact h.wf)
theorem haltsF (h : Ok l) : HaltsF (begF l) := fun hn => (f1_in h (by
  cases ho : (f1T (begF l)).over with
  | false => rfl
  | true => exact absurd (.inr ho) hn)).halts
/-- The end of phase one. -/
theorem phase1_end (h : Ok l) (ho1 : (f1T (begF l)).over = false) (ho : (phaseF (f1T (begF l))).2.over = false) : In1 l (phaseF (f1T (begF l))).2 := by
  obtain ⟨r, n, hr⟩ := (f1_in h ho1).halts
  rw [phaseF_eq hr] at ho ⊢
  exact (runF_ind (P := In1 l) (fun t u ht hs ho => ht.step hs ho) hr (f1_in h ho1) ho).1
/-! ### Behind phase one -/
/-- What is true when the artificial variables below k have left. -/
structure In2 (l : Lin) (k : Nat) (t : Tab) : Prop where
  s : ∃ L, Shape L t
  v : Vd t
  n : t.n = l.C.length
  m : t.m = l.A.length
  wf : WF l.A.length (l.C.length + l.A.length) (Q t)
  e : Eqv l.A.length (Q (begF l)).T (Q t).T
  c : ∀ k, (Q t).c k = 0
  o : t.over = false
  r : ∀ i, i < l.A.length → l.C.length + l.A.length ≤ (Q t).b i → (Q t).T i (l.C.length + l.A.length) = 0
  z : ∀ i, i < k → i < l.A.length → l.C.length + l.A.length ≤ (Q t).b i → ∀ c, c < l.C.length + l.A.length → (Q t).T i c = 0
theorem In2.w {t : Tab} {k : Nat} (h : In2 l k t) : t.w = l.C.length + l.A.length := by unfold Tab.w; rw [h.n, h.m]
theorem colK_none {t : Tab} {i : Nat} : ∀ {k : Nat}, colK t i k = none → ∀ c, c < k → (ix (ix t.rows i) c).N = 0
  | 0, _, c, hc => by omega
  | k + 1, h, c, hc => by
    cases h1 : colK t i k with
    | some i' => unfold colK at h; rw [h1] at h; cases h
    | none =>
      rw [colK_succ h1] at h
      split at h
      · cases h
      · rename_i hN
        by_cases hck : c = k
        · rw [hck]; exact Classical.byContradiction hN
        · exact colK_none h1 c (by omega)
theorem In2.rep {t : Tab} {k : Nat} (h : In2 l k t) (hk : k < l.A.length) (ho : (repF t k).over = false) : In2 l (k + 1) (repF t k) := by
  obtain ⟨L, hS⟩ := h.s
  have hart := art_iff hS k
  have hw := h.w
  unfold repF at ho ⊢
  by_cases ha : (t.w : Int) ≤ ix t.basis k ∧ t.over = false
  · rw [if_pos ha] at ho ⊢
    have hbk : l.C.length + l.A.length ≤ (Q t).b k := by rw [← hw]; exact hart.1 (decide_eq_true ha.1)
    cases hc : colK t k t.w with
    | none =>
      refine ⟨h.s, h.v, h.n, h.m, h.wf, h.e, h.c, h.o, h.r, fun i hi hi2 hb c hc2 => ?_⟩
      by_cases hik : i = k
      · subst hik
        exact V_zero (colK_none hc c (by rw [hw]; exact hc2))
      · exact h.z i (by omega) hi2 hb c hc2
    | some j =>
      rw [hc] at ho
      simp only at ho ⊢
      have hj := colK_lt hc
      obtain ⟨p1, p2, p3, p4⟩ := piv_Q hS (by rw [h.m]; exact hk) hj ho
      have hj' : j < l.C.length + l.A.length := by omega
      have hr0 := h.r k hk hbk
      refine ⟨⟨L, pivF_shape hS (by rw [h.m]; exact hk) hj⟩, p4 h.v, (pivF_n k j).trans h.n, (pivF_m k j).trans h.m, ?_, ?_, ?_, ho, ?_, ?_⟩
      · rw [p3]; exact h.wf.piv0 hk hj' p2 hr0 h.c
      · rw [p3]; exact h.e.trans (Eqv.piv hk p2)
      · rw [p3]
        intro c
        show (Q t).c c - (Q t).c j * ((Q t).T k c / (Q t).T k j) = 0
        rw [h.c, h.c]
        grind
      · rw [p3]
        intro i hi hb
        have hb : _ ≤ (if i = k then j else (Q t).b i) := hb
        by_cases hik : i = k
        · rw [if_pos hik] at hb; omega
        · rw [if_neg hik] at hb
          show (if i = k then _ else _) = 0
          rw [if_neg hik, hr0, h.r i hi hb]
          grind
      · rw [p3]
        intro i hi hi2 hb c hc2
        have hb : _ ≤ (if i = k then j else (Q t).b i) := hb
        by_cases hik : i = k
        · rw [if_pos hik] at hb; omega
        · rw [if_neg hik] at hb
          show (if i = k then _ else _) = 0
          rw [if_neg hik, h.z i (by omega) hi2 hb c hc2, h.z i (by omega) hi2 hb j hj']
          grind
  · rw [if_neg ha] at ho ⊢
    refine ⟨h.s, h.v, h.n, h.m, h.wf, h.e, h.c, h.o, h.r, fun i hi hi2 hb c hc2 => ?_⟩
    by_cases hik : i = k
    · subst hik
      refine absurd ⟨?_, h.o⟩ ha
      have := hart.2 (by rw [hw]; exact hb)
      exact of_decide_eq_true this
    · exact h.z i (by omega) hi2 hb c hc2
theorem rep_over {t : Tab} {L : Lay} (hS : Shape L t) {k : Nat} (hk : k < t.m) (ho : (repF t k).over = false) : t.over = false := by
  unfold repF at ho
  split at ho
  · rename_i h; exact h.2
  · exact ho
theorem In2.reps {t : Tab} (h : In2 l 0 t) : ∀ {k : Nat}, k ≤ l.A.length → (repK t k).over = false → In2 l k (repK t k)
  | 0, _, _ => h
  | k + 1, hk, ho => by
    obtain ⟨L, hS⟩ := h.s
    have hsh := repK_shape hS (k := k) (by rw [h.m]; omega)
    have ho' : (repK t k).over = false := rep_over hsh.1 (by rw [hsh.2.m, h.m]; omega) ho
    exact (h.reps (k := k) (by omega) ho').rep (by omega) ho
/-- Phase one has a solution: the tableau that phase two begins with. -/
theorem first_in (h : Ok l) (ho : (firstF (begF l)).2.over = false) (hb : (firstF (begF l)).1 = true) : In2 l l.A.length (firstF (begF l)).2 := by
  obtain ⟨L, hLc, hS⟩ := beg_shape h
  unfold firstF at ho hb ⊢
  by_cases h1 : anyK (begF l).m (artP (begF l)) = false ∨ (f1T (begF l)).over = true
  · rw [if_pos h1] at ho ⊢
    have h2 : anyK (begF l).m (artP (begF l)) = false := h1.resolve_right (fun e => by rw [show (true, f1T (begF l)).2 = f1T (begF l) from rfl, e] at ho; cases ho)
    have ho : (f1T (begF l)).over = false := ho
    have hi := f1_in h ho
    obtain ⟨q1, q2, q3⟩ := f1_Q hS (k := (begF l).m) (Nat.le_refl _) ho
    have hQ : Q (f1T (begF l)) = ⟨(Q (begF l)).T, fun c => - Sm (begF l).m (fun i => if (begF l).w ≤ (Q (begF l)).b i then (Q (begF l)).T i c else 0), (Q (begF l)).b⟩ := q2
    have hna : ∀ i, i < l.A.length → ¬ l.C.length + l.A.length ≤ (Q (begF l)).b i := fun i hi hb => by
      have := anyK_false h2 i hi
      rw [(art_iff hS i).2 hb] at this
      cases this
    refine ⟨hi.s, hi.v, hi.n, hi.m, hi.wf, hi.e, fun k => ?_, ho, fun i hi hb => ?_, fun i _ hi hb => ?_⟩
    · rw [show (true, f1T (begF l)).2 = f1T (begF l) from rfl, hQ]
      show - Sm l.A.length _ = 0
      rw [Sm_congr (g := fun _ => 0) (fun i hi => by exact if_neg (hna i hi)), Sm_zero]
      grind
    · rw [show (true, f1T (begF l)).2 = f1T (begF l) from rfl, hQ] at hb
      exact absurd hb (hna i hi)
    · rw [show (true, f1T (begF l)).2 = f1T (begF l) from rfl, hQ] at hb
      exact absurd hb (hna i hi)
  · rw [if_neg h1] at ho hb ⊢
    have ho1 : (f1T (begF l)).over = false := by
      cases hh : (f1T (begF l)).over with
      | false => rfl
      | true => exact absurd (.inr hh) h1
    by_cases h2 : (phaseF (f1T (begF l))).2.over = true
    · rw [if_pos h2] at ho
      rw [show (true, (phaseF (f1T (begF l))).2).2 = (phaseF (f1T (begF l))).2 from rfl, h2] at ho
      cases ho
    rw [if_neg h2] at ho hb ⊢
    have h2 : (phaseF (f1T (begF l))).2.over = false := by simpa using h2
    have hi := phase1_end h ho1 h2
    by_cases h3 : (ix (phaseF (f1T (begF l))).2.cost (begF l).w).N < 0
    · rw [if_pos h3] at hb
      cases hb
    rw [if_neg h3] at ho ⊢
    generalize (phaseF (f1T (begF l))).2 = t at *
    have hc0 : 0 ≤ (Q t).c (l.C.length + l.A.length) := by
      have hv := cost_valid hi.v hi.c (k := t.w) (by omega)
      rw [beg_w, ← hi.w, V_neg_iff hv] at h3
      rw [← hi.w]
      show 0 ≤ V (ix t.cost t.w)
      grind
    have hr := hi.p1.rhs hi.wf hc0
    obtain ⟨L2, hS2⟩ := hi.s
    have hin : In2 l 0 { t with cost := [] } := by
      refine ⟨⟨{ L2 with c := none }, ⟨hS2.m, hS2.r, hS2.n1, hS2.n12, hS2.m24, hS2.row, .inl ⟨rfl, rfl⟩, hS2.bas, hS2.b64⟩⟩, ⟨hi.v.rows, .inl rfl⟩, hi.n, hi.m, ⟨hi.wf.unit, fun i _ _ => V_def, hi.wf.rhs⟩, hi.e, fun _ => V_def, h2, hr, fun i hi => by omega⟩
    exact hin.reps (Nat.le_refl _) ho
end
end Go.Proofs.YtifbaegnkodneaaDoor

/-
  layer 30: phase two; what Solve's answer says of the program, over the rational numbers.
-/
namespace Go.Proofs.YtifbaegnkodneaaDoor
open Go.RowKit
set_option linter.unusedSimpArgs false
set_option linter.unusedVariables false

section
variable {l : Lin}
def cE (l : Lin) (k : Nat) : Rat := if k < l.C.length then cQ l k else 0
theorem rowC_V {t : Tab} (hn : t.n = l.C.length) (hw : t.w = l.C.length + l.A.length) (k : Nat) : V (ix (rowC t l.C) k) = cE l k := by
  have hE : rowE t = List.replicate (t.w + 1) F01 := rfl
  unfold rowC cE cQ
  rw [hE, List.drop_replicate]
  by_cases hk : k < l.C.length
  · rw [if_pos hk]
    unfold ix
    rw [List.getD_eq_getElem?_getD, List.getElem?_append_left hk, List.getD_eq_getElem?_getD]
  · rw [if_neg hk]
    by_cases hk2 : k < l.C.length + (t.w + 1 - l.C.length)
    · rw [ix_lt (by rw [List.length_append, List.length_replicate]; exact hk2), List.getElem_append_right (by omega), List.getElem_replicate]
      exact V_01
    · rw [ix_ge (by rw [List.length_append, List.length_replicate]; omega)]
      exact V_def
theorem rowC_valid (h : Ok l) {t : Tab} (hn : t.n = l.C.length) (hw : t.w = l.C.length + l.A.length) {k : Nat} (hk : k < t.w + 1) : ValidF (ix (rowC t l.C) k) := by
  have hE : rowE t = List.replicate (t.w + 1) F01 := rfl
  unfold rowC
  rw [hE, List.drop_replicate]
  by_cases hkn : k < l.C.length
  · have := h.c k hkn
    unfold ix at this ⊢
    rw [List.getD_eq_getElem?_getD, List.getElem?_append_left hkn, ← List.getD_eq_getElem?_getD]
    exact this
  · rw [ix_lt (by rw [List.length_append, List.length_replicate]; omega), List.getElem_append_right (by omega), List.getElem_replicate]
    exact valid_01
theorem use_iff {t : Tab} {L : Lay} (hS : Shape L t) (k : Nat) : useP t l.C k ↔ (Q t).b k < t.n ∧ (ix l.C ((Q t).b k)).N ≠ 0 := by
  have := bas_nn hS k
  unfold useP
  show _ ↔ (ix t.basis k).toNat < t.n ∧ (ix l.C (ix t.basis k).toNat).N ≠ 0
  exact and_congr (by omega) Iff.rfl
theorem s1_Q (h : Ok l) {L : Lay} {t : Tab} (hS : Shape L t) (hn : t.n = l.C.length) (hw : t.w = l.C.length + l.A.length) : ∀ {k : Nat}, k ≤ t.m → (s1K t l.C k).over = false → t.over = false ∧ Q (s1K t l.C k) = ⟨(Q t).T, fun c => cE l c - Sm k (fun i => if (Q t).b i < l.C.length then cQ l ((Q t).b i) * (Q t).T i c else 0), (Q t).b⟩ ∧ (Vd t → Vd (s1K t l.C k))
  | 0, _, ho => ⟨ho, by
      refine QT.same (fun _ _ => rfl) (fun k => ?_) (fun _ => rfl)
      show V (ix (rowC t l.C) k) = cE l k - Sm 0 _
      rw [rowC_V hn hw]
      unfold Sm
      grind, fun hv => ⟨hv.rows, .inr fun k hk => rowC_valid h hn hw hk⟩⟩
  | k + 1, hk, ho => by
    have hS1 : Shape (newC L []) (s1K t l.C k) := s1K_shape hS hn.symm (by omega)
    have ih := s1_Q h hS hn hw (k := k) (by omega)
    have hu := use_iff (l := l) hS k
    unfold s1K at ho ⊢
    by_cases ha : useP t l.C k
    · rw [if_pos ha] at ho ⊢
      obtain ⟨sm1, sm2, sm3, sm4⟩ := s1K_same (t := t) hn.symm k
      obtain ⟨h1, h2, h3⟩ := clr_cost hS1 ⟨by rw [sm2]; exact hk, fun q hq => (by cases hq), fun _ => by rw [sm3, s1K_w hn.symm]⟩ ho
      obtain ⟨h4, h5, h6⟩ := ih h1
      refine ⟨h4, ?_, fun hv => h3 (h6 hv)⟩
      rw [h2, h5]
      refine QT.same (fun _ _ => rfl) (fun c => ?_) (fun _ => rfl)
      simp only
      show _ = _ - (Sm k _ + if (Q t).b k < l.C.length then cQ l ((Q t).b k) * (Q t).T k c else 0)
      rw [if_pos (by rw [← hn]; exact (hu.1 ha).1)]
      have : V (ix l.C (ix t.basis k).toNat) = cQ l ((Q t).b k) := rfl
      rw [this]
      grind
    · rw [if_neg ha] at ho ⊢
      obtain ⟨h4, h5, h6⟩ := ih ho
      refine ⟨h4, ?_, h6⟩
      rw [h5]
      refine QT.same (fun _ _ => rfl) (fun c => ?_) (fun _ => rfl)
      simp only
      show _ = _ - (Sm k _ + if (Q t).b k < l.C.length then cQ l ((Q t).b k) * (Q t).T k c else 0)
      by_cases hb : (Q t).b k < l.C.length
      · rw [if_pos hb]
        have hN : (ix l.C ((Q t).b k)).N = 0 := Classical.byContradiction fun hN => ha (hu.2 ⟨by rw [hn]; exact hb, hN⟩)
        have : cQ l ((Q t).b k) = 0 := V_zero hN
        rw [this]
        grind
      · rw [if_neg hb]
        grind
/-- What is true through phase two. -/
structure In3 (l : Lin) (t : Tab) : Prop where
  s : ∃ L, Shape L t
  v : Vd t
  c : t.cost.length = t.w + 1
  n : t.n = l.C.length
  m : t.m = l.A.length
  wf : WF l.A.length (l.C.length + l.A.length) (Q t)
  e : Eqv l.A.length (Q (begF l)).T (Q t).T
  d : Dif l.A.length (Q (begF l)).T (cE l) (Q t).c
  r : ∀ i, i < l.A.length → l.C.length + l.A.length ≤ (Q t).b i → (Q t).T i (l.C.length + l.A.length) = 0
  z : ∀ i, i < l.A.length → l.C.length + l.A.length ≤ (Q t).b i → ∀ c, c < l.C.length + l.A.length → (Q t).T i c = 0
theorem In3.w {t : Tab} (h : In3 l t) : t.w = l.C.length + l.A.length := by unfold Tab.w; rw [h.n, h.m]
theorem s1_in (h : Ok l) {t : Tab} (ht : In2 l l.A.length t) (ho : (s1T t l.C).over = false) : In3 l (s1T t l.C) := by
  obtain ⟨L, hS⟩ := ht.s
  have hw := ht.w
  obtain ⟨h1, h2, h3⟩ := s1_Q h hS ht.n hw (k := t.m) (Nat.le_refl _) ho
  obtain ⟨s1, s2, s3, s4⟩ := s1K_same (t := t) ht.n.symm t.m
  have hQ : Q (s1T t l.C) = _ := h2
  rw [ht.m] at hQ
  have hTs : (Q (s1T t l.C)).T = (Q t).T := by rw [hQ]
  have hbs : (Q (s1T t l.C)).b = (Q t).b := by rw [hQ]
  refine ⟨⟨_, s1K_shape (K := []) hS ht.n.symm (Nat.le_refl _)⟩, h3 ht.v, ?_, s1.trans ht.n, s2.trans ht.m, ⟨fun i hi hb => ?_, fun i hi hb => ?_, fun i hi => ?_⟩, ?_, ?_, ?_, ?_⟩
  · show (s1K t l.C t.m).cost.length = (s1K t l.C t.m).w + 1
    rw [s3, s1K_w ht.n.symm]
  · rw [hTs, hbs] at *
    exact ht.wf.unit i hi hb
  · rw [hbs] at hb ⊢
    rw [hQ]
    show cE l ((Q t).b i) - Sm l.A.length (fun x => if (Q t).b x < l.C.length then cQ l ((Q t).b x) * (Q t).T x ((Q t).b i) else 0) = 0
    have hpick : Sm l.A.length (fun x => if (Q t).b x < l.C.length then cQ l ((Q t).b x) * (Q t).T x ((Q t).b i) else 0) = if (Q t).b i < l.C.length then cQ l ((Q t).b i) * (Q t).T i ((Q t).b i) else 0 :=
      Sm_pick (f := fun x => if (Q t).b x < l.C.length then cQ l ((Q t).b x) * (Q t).T x ((Q t).b i) else 0) hi (fun x hx hxi => by
        show (if (Q t).b x < l.C.length then cQ l ((Q t).b x) * (Q t).T x ((Q t).b i) else 0) = 0
        rw [ht.wf.unit i hi hb x hx, if_neg hxi]
        split
        · grind
        · rfl)
    rw [hpick, ht.wf.unit i hi hb i hi, if_pos rfl]
    unfold cE
    split <;> grind
  · rw [hTs]
    exact ht.wf.rhs i hi
  · rw [hTs]
    exact ht.e
  · rw [hQ]
    refine Dif.eqv ht.e ?_
    show Sp (Q t).T (Lt l.A.length) (fun k => (cE l k - Sm l.A.length (fun i => if (Q t).b i < l.C.length then cQ l ((Q t).b i) * (Q t).T i k else 0)) - cE l k)
    have gen : ∀ n, n ≤ l.A.length → Sp (Q t).T (Lt l.A.length) (fun k => - Sm n (fun i => if (Q t).b i < l.C.length then cQ l ((Q t).b i) * (Q t).T i k else 0)) := by
      intro n
      induction n with
      | zero => exact fun _ => Sp.zero.eq (fun k => by unfold Sm; grind)
      | succ n ih =>
        intro hn
        refine ((ih (by omega)).add n (if (Q t).b n < l.C.length then - cQ l ((Q t).b n) else 0) (show n < l.A.length by omega)).eq (fun k => ?_)
        show - (Sm n _ + if (Q t).b n < l.C.length then cQ l ((Q t).b n) * (Q t).T n k else 0) = _
        split <;> grind
    exact (gen l.A.length (Nat.le_refl _)).eq (fun k => by grind)
  · rw [hTs, hbs]
    exact ht.r
  · rw [hTs, hbs]
    exact fun i hi hb => ht.z i hi hi hb
theorem In3.step {t u : Tab} (h : In3 l t) (hs : stepF t = .inr u) (ho : u.over = false) : In3 l u := by
  obtain ⟨L, hS⟩ := h.s
  obtain ⟨r, j, hB, hQ, hv⟩ := step_Q hS h.v h.c hs ho
  have hsh := stepF_shape hS
  rw [hs] at hsh
  obtain ⟨k1, k2⟩ := hsh
  rw [h.m, h.w] at hB
  have hp := pos_ne hB.pos
  have keep : ∀ i, i < l.A.length → l.C.length + l.A.length ≤ (pivQ (Q t) r j).b i → i ≠ r ∧ l.C.length + l.A.length ≤ (Q t).b i := fun i hi hb => by
    have hb : _ ≤ (if i = r then j else (Q t).b i) := hb
    by_cases hir : i = r
    · rw [if_pos hir] at hb
      have := hB.jw
      omega
    · rw [if_neg hir] at hb
      exact ⟨hir, hb⟩
  refine ⟨⟨L, k1⟩, hv, by rw [k2.cost, h.c, k2.w], k2.n.trans h.n, k2.m.trans h.m, ?_, ?_, ?_, ?_, ?_⟩
  · rw [hQ]; exact h.wf.piv hB
  · rw [hQ]; exact h.e.trans (Eqv.piv hB.rm hp)
  · rw [hQ]; exact h.d.trans (Dif.eqv h.e (Dif.piv hB.rm hp))
  · rw [hQ]
    intro i hi hb
    obtain ⟨q1, q2⟩ := keep i hi hb
    show (if i = r then _ else _) = 0
    rw [if_neg q1, h.r i hi q2, h.z i hi q2 j hB.jw]
    grind
  · rw [hQ]
    intro i hi hb c hc
    obtain ⟨q1, q2⟩ := keep i hi hb
    show (if i = r then _ else _) = 0
    rw [if_neg q1, h.z i hi q2 c hc, h.z i hi q2 j hB.jw]
    grind
theorem In3.halts {t : Tab} (h : In3 l t) : Halts t := by
  obtain ⟨L, hS⟩ := h.s
  exact Go.Proofs.YtifbaegnkodneaaDoor.halts hS h.v h.c (by rw [h.m, h.w]; exact h.wf)
theorem haltsL (h : Ok l) : HaltsL l := ⟨haltsF h, fun ho hb hn => (s1_in h (first_in h ho hb) (by simpa using hn)).halts⟩
/-- Solve answers for each program. -/
theorem pre_solve (h : SmallL l) : PreSolve l := ⟨h, fun hc => haltsL (ok_of hc)⟩
theorem phase2_end (h : Ok l) {t : Tab} (ht : In2 l l.A.length t) (ho : (secondF t l.C).2.over = false) : In3 l (secondF t l.C).2 ∧ stepF (secondF t l.C).2 = .inl (secondF t l.C) := by
  have h1 : (s1T t l.C).over = false := by
    cases hh : (s1T t l.C).over with
    | false => rfl
    | true =>
      unfold secondF at ho
      rw [if_pos hh] at ho
      exact absurd ho (by rw [show (true, s1T t l.C).2 = s1T t l.C from rfl, hh]; decide)
  have hin := s1_in h ht h1
  have e : secondF t l.C = phaseF (s1T t l.C) := if_neg (by rw [h1]; decide)
  rw [e] at ho ⊢
  obtain ⟨r, n, hr⟩ := hin.halts
  rw [phaseF_eq hr] at ho ⊢
  exact runF_ind (P := In3 l) (fun t u ht hs ho => ht.step hs ho) hr hin ho
/-! ### The first system, in words of the program -/
theorem Sm_split (f : Nat → Rat) (n : Nat) : ∀ m, Sm (n + m) f = Sm n f + Sm m (fun i => f (n + i))
  | 0 => by rw [Nat.add_zero]; unfold Sm; grind
  | m + 1 => by
    show Sm (n + m) f + f (n + m) = _ + (Sm m _ + _)
    rw [Sm_split f n m]
    grind
theorem val_T0 (h : Ok l) {i : Nat} (hi : i < l.A.length) (z : Nat → Rat) : val (l.C.length + l.A.length) ((Q (begF l)).T i) z = sg l i * (Sm l.C.length (fun k => aQ l i k * z k) - z (l.C.length + i) - bQ l i) := by
  unfold val
  rw [Sm_split, Sm_congr (n := l.C.length) (g := fun k => sg l i * (aQ l i k * z k)) (fun k hk => by
    rw [beg_T h hi (by omega)]
    unfold T0
    rw [if_pos hk]
    grind), Sm_mul, Sm_pick (f := fun x => (Q (begF l)).T i (l.C.length + x) * z (l.C.length + x)) hi (fun x hx hxi => by
    show (Q (begF l)).T i (l.C.length + x) * z (l.C.length + x) = 0
    rw [beg_T h hi (by omega)]
    unfold T0
    rw [if_neg (by omega), if_neg (by omega), if_neg (by omega)]
    grind), beg_T h hi (by omega), beg_T h hi (by omega)]
  unfold T0
  rw [if_neg (by omega), if_pos rfl, if_neg (by omega), if_neg (by omega), if_pos rfl]
  grind
theorem sg_ne (l : Lin) (i : Nat) : sg l i ≠ 0 := by unfold sg; split <;> decide
theorem sg_sq (l : Lin) (i : Nat) : sg l i * sg l i = 1 := by unfold sg; split <;> grind
structure FeasQ (l : Lin) (x : Nat → Rat) : Prop where
  nn : ∀ k, k < l.C.length → 0 ≤ x k
  row : ∀ i, i < l.A.length → bQ l i ≤ Sm l.C.length (fun k => aQ l i k * x k)
theorem sol_of (h : Ok l) {x : Nat → Rat} (hx : FeasQ l x) : ∃ z : Nat → Rat, (∀ k, k < l.C.length → z k = x k) ∧ (∀ k, k < l.C.length + l.A.length → 0 ≤ z k) ∧ Sol l.A.length (l.C.length + l.A.length) (Q (begF l)).T z := by
  obtain ⟨z, hz⟩ : ∃ z : Nat → Rat, z = fun k => if k < l.C.length then x k else Sm l.C.length (fun j => aQ l (k - l.C.length) j * x j) - bQ l (k - l.C.length) := ⟨_, rfl⟩
  have h1 : ∀ k, k < l.C.length → z k = x k := fun k hk => by rw [hz]; exact if_pos hk
  have h2 : ∀ i, z (l.C.length + i) = Sm l.C.length (fun j => aQ l i j * x j) - bQ l i := fun i => by
    rw [hz]
    show (if l.C.length + i < l.C.length then _ else _) = _
    rw [if_neg (by omega), show l.C.length + i - l.C.length = i by omega]
  refine ⟨z, h1, fun k hk => ?_, fun i hi => ?_⟩
  · by_cases hkn : k < l.C.length
    · rw [h1 k hkn]; exact hx.nn k hkn
    · have := hx.row (k - l.C.length) (by omega)
      rw [show k = l.C.length + (k - l.C.length) by omega, h2]
      grind
  · rw [val_T0 h hi, h2, Sm_congr (n := l.C.length) (g := fun k => aQ l i k * x k) (fun k hk => by rw [h1 k hk])]
    grind
theorem feas_of (h : Ok l) {z : Nat → Rat} (hz : ∀ k, k < l.C.length + l.A.length → 0 ≤ z k) (hs : Sol l.A.length (l.C.length + l.A.length) (Q (begF l)).T z) : FeasQ l z := by
  refine ⟨fun k hk => hz k (by omega), fun i hi => ?_⟩
  have h1 := hs i hi
  rw [val_T0 h hi] at h1
  have h2 := (Rat.mul_eq_zero.1 h1).resolve_left (sg_ne l i)
  have h3 := hz (l.C.length + i) (by omega)
  grind
theorem val_cE (z : Nat → Rat) : val (l.C.length + l.A.length) (cE l) z = Sm l.C.length (fun k => cQ l k * z k) := by
  unfold val
  rw [Sm_split, Sm_congr (n := l.C.length) (g := fun k => cQ l k * z k) (fun k hk => by unfold cE; rw [if_pos hk]), Sm_congr (n := l.A.length) (g := fun _ => 0) (fun k hk => by unfold cE; rw [if_neg (by omega)]; grind), Sm_zero]
  unfold cE
  rw [if_neg (by omega)]
  grind
/-- A certificate: nonnegative multipliers of the rows. -/
structure Cert (l : Lin) (y : Nat → Rat) (v : Rat) : Prop where
  nn : ∀ i, i < l.A.length → 0 ≤ y i
  col : ∀ k, k < l.C.length → Sm l.A.length (fun i => y i * aQ l i k) ≤ cQ l k
  val : Sm l.A.length (fun i => y i * bQ l i) = v
theorem cert_of (h : Ok l) {c : Nat → Rat} (hd : Dif l.A.length (Q (begF l)).T (cE l) c) (hc : ∀ k, k < l.C.length + l.A.length → 0 ≤ c k) : ∃ y, Cert l y (- c (l.C.length + l.A.length)) := by
  obtain ⟨L, _, hL⟩ := Sp.coef (m := l.A.length) (N := Lt l.A.length) (fun _ h => h) hd
  -- c k = cE k + sum of L i * T0 i k
  have hk : ∀ k, c k = cE l k + Sm l.A.length (fun i => L i * (Q (begF l)).T i k) := fun k => by have := hL k; grind
  refine ⟨fun i => - (L i * sg l i), fun i hi => ?_, fun k hkn => ?_, ?_⟩
  · have h1 := hk (l.C.length + i)
    rw [Sm_pick (f := fun x => L x * (Q (begF l)).T x (l.C.length + i)) hi (fun x hx hxi => by
      show L x * (Q (begF l)).T x (l.C.length + i) = 0
      rw [beg_T h hx (by omega)]
      unfold T0
      rw [if_neg (by omega), if_neg (by omega), if_neg (by omega)]
      grind), beg_T h hi (by omega)] at h1
    unfold T0 cE at h1
    rw [if_neg (by omega), if_neg (by omega), if_pos rfl] at h1
    have h2 := hc (l.C.length + i) (by omega)
    grind
  · have h1 := hk k
    have h2 := hc k (by omega)
    rw [Sm_congr (g := fun i => (-1) * ((- (L i * sg l i)) * aQ l i k)) (fun i hi => by
      rw [beg_T h hi (by omega)]
      unfold T0
      rw [if_pos hkn]
      grind), Sm_mul] at h1
    unfold cE at h1
    rw [if_pos hkn] at h1
    grind
  · have h1 := hk (l.C.length + l.A.length)
    rw [Sm_congr (g := fun i => (-1) * ((- (L i * sg l i)) * bQ l i)) (fun i hi => by
      rw [beg_T h hi (by omega)]
      unfold T0
      rw [if_neg (by omega), if_neg (by omega), if_pos rfl]
      grind), Sm_mul] at h1
    unfold cE at h1
    rw [if_neg (by omega)] at h1
    grind
theorem Sm_swap (f : Nat → Nat → Rat) (n : Nat) : ∀ m, Sm m (fun i => Sm n (fun k => f i k)) = Sm n (fun k => Sm m (fun i => f i k))
  | 0 => by
    show 0 = Sm n (fun _ => 0)
    rw [Sm_zero]
  | m + 1 => by
    show Sm m (fun i => Sm n (fun k => f i k)) + Sm n (fun k => f m k) = Sm n (fun k => Sm m (fun i => f i k) + f m k)
    rw [Sm_add, Sm_swap f n m]
theorem Sm_le {f g : Nat → Rat} : ∀ {n : Nat}, (∀ i, i < n → f i ≤ g i) → Sm n f ≤ Sm n g
  | 0, _ => by unfold Sm; exact Rat.le_refl
  | n + 1, h => by
    have h1 := Sm_le (n := n) (f := f) (g := g) (fun i hi => h i (by omega))
    have h2 := h n (by omega)
    unfold Sm
    grind
/-- No feasible point has a smaller value than a certificate. -/
theorem Cert.le {y x : Nat → Rat} {v : Rat} (hy : Cert l y v) (hx : FeasQ l x) : v ≤ Sm l.C.length (fun k => cQ l k * x k) := by
  have h1 : v ≤ Sm l.A.length (fun i => Sm l.C.length (fun k => y i * (aQ l i k * x k))) := by
    rw [← hy.val]
    refine Sm_le fun i hi => ?_
    rw [Sm_mul]
    exact Rat.mul_le_mul_of_nonneg_left (hx.row i hi) (hy.nn i hi)
  rw [Sm_swap (fun i k => y i * (aQ l i k * x k))] at h1
  refine Rat.le_trans h1 (Sm_le fun k hk => ?_)
  rw [Sm_congr (g := fun i => x k * (y i * aQ l i k)) (fun i _ => by grind), Sm_mul, Rat.mul_comm (x k)]
  exact Rat.mul_le_mul_of_nonneg_right (hy.col k hk) (hx.nn k hk)
end
end Go.Proofs.YtifbaegnkodneaaDoor

/-
  layer 30: Solve's answers over the rational numbers.
-/
namespace Go.Proofs.YtifbaegnkodneaaDoor
open Go.RowKit
set_option linter.unusedSimpArgs false
set_option linter.unusedVariables false

section
variable {l : Lin}
def XQ (x : List Fr) (k : Nat) : Rat := V (ix x k)
theorem xK_V {t : Tab} (h : In3 l t) : ∀ {k : Nat}, k ≤ l.A.length → (∀ c, c < l.C.length → ValidF (ix (xK t k) c) ∧ V (ix (xK t k) c) = Sm k (fun i => if (Q t).b i = c then (Q t).T i (l.C.length + l.A.length) else 0))
  | 0, _, c, hc => by
    have e : xK t 0 = List.replicate t.n F01 := rfl
    rw [e, ix_rep (by rw [h.n]; exact hc)]
    exact ⟨valid_01, by rw [V_01]; rfl⟩
  | k + 1, hk, c, hc => by
    obtain ⟨L, hS⟩ := h.s
    have hb := bas_nn hS k
    obtain ⟨i1, i2⟩ := xK_V h (k := k) (by omega) c hc
    have hbk : (Q t).b k = (ix t.basis k).toNat := rfl
    unfold xK
    show _ ∧ _ = Sm k _ + if (Q t).b k = c then (Q t).T k (l.C.length + l.A.length) else 0
    by_cases hlt : ix t.basis k < t.n
    · rw [if_pos hlt, ix_set (by rw [xK_len]; omega)]
      by_cases hcb : c = (ix t.basis k).toNat
      · rw [if_pos hcb, if_pos (by rw [hbk, hcb])]
        refine ⟨h.v.rows k t.w (by rw [h.m]; omega) (by omega), ?_⟩
        have z : Sm k (fun i => if (Q t).b i = c then (Q t).T i (l.C.length + l.A.length) else 0) = 0 := by
          rw [Sm_congr (g := fun _ => 0) (fun i hi => ?_), Sm_zero]
          rw [if_neg]
          intro e
          have := h.wf.inj (i := i) (i' := k) (by omega) (by omega) (by rw [e]; omega) (by rw [e, hbk, hcb])
          omega
        rw [z, h.w]
        show V _ = 0 + V _
        grind
      · rw [if_neg hcb, if_neg (fun e => hcb (by rw [← e, hbk]))]
        exact ⟨i1, by rw [i2]; grind⟩
    · rw [if_neg hlt, if_neg (fun e => by rw [hbk] at e; rw [h.n] at hlt; omega)]
      exact ⟨i1, by rw [i2]; grind⟩
theorem xF_V {t : Tab} (h : In3 l t) {c : Nat} (hc : c < l.C.length) : ValidF (ix (xF t) c) ∧ XQ (xF t) c = bp l.A.length (l.C.length + l.A.length) (Q t) c := by
  have := xK_V h (Nat.le_refl _) c hc
  unfold xF XQ bp
  rw [h.m]
  exact this
theorem step_inl {t : Tab} {b : Bool} (h : stepF t = .inl (b, t)) (ho : t.over = false) : (b = true ∧ enterF t = none) ∨ (b = false ∧ ∃ j, enterF t = some j ∧ (leavF t j).2 = false ∧ (leavF t j).1 < 0) := by
  unfold stepF at h
  rw [if_neg (by rw [ho]; decide)] at h
  cases he : enterF t with
  | none =>
    rw [he] at h
    injection h with h; injection h with h
    exact .inl ⟨h.symm, rfl⟩
  | some j =>
    rw [he] at h
    simp only at h
    split at h
    · injection h with h; injection h with h1 h2
      rw [← h2] at ho
      simp [orT] at ho
    · rename_i h1
      split at h
      · rename_i h2
        injection h with h; injection h with h3 h4
        exact .inr ⟨h3.symm, j, rfl, by simpa using h1, h2⟩
      · cases h
/-- What Solve's answer says. -/
structure Solved (l : Lin) (x : List Fr) (v : Fr) : Prop where
  len : x.length = l.C.length
  valid : ∀ k, k < l.C.length → ValidF (ix x k)
  vv : ValidF v
  feas : FeasQ l (XQ x)
  val : Sm l.C.length (fun k => cQ l k * XQ x k) = V v
  cert : ∃ y, Cert l y (V v)
structure Ray (l : Lin) (d : Nat → Rat) : Prop where
  nn : ∀ k, k < l.C.length → 0 ≤ d k
  row : ∀ i, i < l.A.length → 0 ≤ Sm l.C.length (fun k => aQ l i k * d k)
  neg : Sm l.C.length (fun k => cQ l k * d k) < 0
inductive Answer (l : Lin) : List Fr × Fr × Int → Prop
  | ok {x : List Fr} {v : Fr} : Solved l x v → Answer l (x, v, 0)
  | none : (¬ ∃ x, FeasQ l x) → Answer l ([], F00, 23)
  | free : (∃ x, FeasQ l x) → (∃ d, Ray l d) → Answer l ([], F00, 19)
  | great : Answer l ([], F00, 24)
theorem In3.sol {t : Tab} (h : In3 l t) : Sol l.A.length (l.C.length + l.A.length) (Q (begF l)).T (bp l.A.length (l.C.length + l.A.length) (Q t)) :=
  Sol.eqv' h.e (bp_sol h.wf h.r)
theorem Sm_congr_le {f g : Nat → Rat} {n : Nat} (h : ∀ i, i < n → f i = g i) : Sm n f = Sm n g := Sm_congr h
theorem end_ok (h : Ok l) {t : Tab} (ht : In3 l t) (he : enterF t = none) : Solved l (xF t) (negF (ix t.cost t.w)) := by
  have hcv : ∀ k, k < t.w + 1 → ValidF (ix t.cost k) := fun k hk => cost_valid ht.v ht.c hk
  have hw := ht.w
  have hx : ∀ k, k < l.C.length → XQ (xF t) k = bp l.A.length (l.C.length + l.A.length) (Q t) k := fun k hk => (xF_V ht hk).2
  have hfeas := feas_of h (fun k _ => bp_nonneg ht.wf k) ht.sol
  have hV : V (negF (ix t.cost t.w)) = - (Q t).c (l.C.length + l.A.length) := by
    rw [neg_val (hcv _ (by omega)), hw]
    rfl
  have hc0 : ∀ k, k < l.C.length + l.A.length → 0 ≤ (Q t).c k := fun k hk => by
    have h1 := entK_none (t := t) (k := t.w) he k (by omega)
    rw [V_neg_iff (hcv k (by omega))] at h1
    show 0 ≤ V (ix t.cost k)
    grind
  refine ⟨?_, fun k hk => (xF_V ht hk).1, valid_neg (hcv _ (by omega)), ⟨fun k hk => ?_, fun i hi => ?_⟩, ?_, ?_⟩
  · show (xK t t.m).length = _
    rw [xK_len, ht.n]
  · rw [hx k hk]; exact hfeas.nn k hk
  · rw [Sm_congr (g := fun k => aQ l i k * bp l.A.length (l.C.length + l.A.length) (Q t) k) (fun k hk => by rw [hx k hk])]
    exact hfeas.row i hi
  · rw [hV, Sm_congr (g := fun k => cQ l k * bp l.A.length (l.C.length + l.A.length) (Q t) k) (fun k hk => by rw [hx k hk]), ← val_cE, ← ht.d.same ht.sol]
    exact bp_cost ht.wf
  · rw [hV]
    exact cert_of h ht.d hc0
theorem end_free (h : Ok l) {t : Tab} (ht : In3 l t) {j : Nat} (he : enterF t = some j) (h1 : (leavF t j).2 = false) (h2 : (leavF t j).1 < 0) : (∃ x, FeasQ l x) ∧ ∃ d, Ray l d := by
  have hw := ht.w
  obtain ⟨L, hS⟩ := ht.s
  have hcv : ∀ k, k < t.w + 1 → ValidF (ix t.cost k) := fun k hk => cost_valid ht.v ht.c hk
  have hj := entK_lt he
  obtain ⟨e1, e2⟩ := entK_some he
  have hcj : (Q t).c j < 0 := (V_neg_iff (hcv j (by omega))).1 e1
  have hneg : ∀ i, i < l.A.length → (Q t).T i j ≤ 0 := fun i hi => by
    rcases leav_best h1 with ⟨_, h3⟩ | ⟨r, low, h3, _⟩
    · have h4 := h3 i (by rw [ht.m]; exact hi)
      rw [V_pos_iff (ht.v.rows i j (by rw [ht.m]; exact hi) (by omega))] at h4
      show V _ ≤ 0
      grind
    · omega
  have hj' : j < l.C.length + l.A.length := by omega
  refine ⟨⟨_, feas_of h (fun k _ => bp_nonneg ht.wf k) ht.sol⟩, ray l.A.length (l.C.length + l.A.length) (Q t) j, ?_⟩
  have hnn := ray_nonneg (m := l.A.length) ht.wf hj' hneg hcj
  have hsol := ray_sol ht.wf hj' (fun i hi hb => ht.z i hi hb j hj')
  have hray := ray_cost ht.wf hj'
  generalize ray l.A.length (l.C.length + l.A.length) (Q t) j = d at *
  -- homogeneous: the same with the right sides struck
  obtain ⟨W, hW⟩ : ∃ W, W = l.C.length + l.A.length := ⟨_, rfl⟩
  have hom : ∀ f : Nat → Rat, Sp (Q t).T (Lt l.A.length) f → Sm W (fun k => f k * d k) = 0 := fun f hf => by
    induction hf with
    | zero => rw [Sm_congr (g := fun _ => 0) (fun k _ => by grind), Sm_zero]
    | @add f i a hi _ ih =>
      have e : Sm W (fun k => (f k + a * (Q t).T i k) * d k) = Sm W (fun k => f k * d k) + Sm W (fun k => a * ((Q t).T i k * d k)) := by
        rw [← Sm_add]
        exact Sm_congr (fun k _ => by grind)
      rw [e, ih, Sm_mul, hW, hsol i hi]
      grind
  have h0 : ∀ i, i < l.A.length → Sm W (fun k => (Q (begF l)).T i k * d k) = 0 := fun i hi => hom _ (ht.e.back i hi)
  have hc : Sm W (fun k => cE l k * d k) < 0 := by
    have h3 := hom _ (Sp.trans (N := Lt l.A.length) ht.e.back ht.d)
    have e : Sm W (fun k => ((Q t).c k - cE l k) * d k) = Sm W (fun k => (Q t).c k * d k) + Sm W (fun k => (-1) * (cE l k * d k)) := by
      rw [← Sm_add]
      exact Sm_congr (fun k _ => by grind)
    rw [e, Sm_mul] at h3
    have h4 : Sm W (fun k => (Q t).c k * d k) = (Q t).c j := by rw [hW]; exact hray
    rw [h4] at h3
    grind
  subst hW
  refine ⟨fun k hk => hnn k, fun i hi => ?_, ?_⟩
  · have h3 := h0 i hi
    rw [Sm_split, Sm_congr (n := l.C.length) (g := fun k => sg l i * (aQ l i k * d k)) (fun k hk => by
      rw [beg_T h hi (by omega)]
      unfold T0
      rw [if_pos hk]
      grind), Sm_mul, Sm_pick (f := fun x => (Q (begF l)).T i (l.C.length + x) * d (l.C.length + x)) hi (fun x hx hxi => by
      show (Q (begF l)).T i (l.C.length + x) * d (l.C.length + x) = 0
      rw [beg_T h hi (by omega)]
      unfold T0
      rw [if_neg (by omega), if_neg (by omega), if_neg (by omega)]
      grind), beg_T h hi (by omega)] at h3
    unfold T0 at h3
    rw [if_neg (by omega), if_pos rfl] at h3
    have h4 : sg l i * (Sm l.C.length (fun k => aQ l i k * d k) - d (l.C.length + i)) = 0 := by grind
    have h5 := (Rat.mul_eq_zero.1 h4).resolve_left (sg_ne l i)
    have h6 := hnn (l.C.length + i)
    grind
  · rw [Sm_split, Sm_congr (n := l.C.length) (g := fun k => cQ l k * d k) (fun k hk => by unfold cE; rw [if_pos hk]), Sm_congr (n := l.A.length) (g := fun _ => 0) (fun k hk => by unfold cE; rw [if_neg (by omega)]; grind), Sm_zero] at hc
    grind
theorem no_feas (h : Ok l) (ho1 : (f1T (begF l)).over = false) (ho : (phaseF (f1T (begF l))).2.over = false) (hb : ¬ anyK (begF l).m (artP (begF l)) = false) (hn : (ix (phaseF (f1T (begF l))).2.cost (begF l).w).N < 0) : ¬ ∃ x, FeasQ l x := by
  rintro ⟨x, hx⟩
  obtain ⟨z, hz1, hz2, hz3⟩ := sol_of h hx
  have hi := phase1_end h ho1 ho
  obtain ⟨r, n, hr⟩ := (f1_in h ho1).halts
  rw [phaseF_eq hr] at ho hn hi
  have hst := (runF_ind (P := In1 l) (fun t u ht hs ho => ht.step hs ho) hr (f1_in h ho1) ho).2
  obtain ⟨b, t⟩ := r
  simp only at hst hi ho hn
  have hw := hi.w
  have hcv : ∀ k, k < t.w + 1 → ValidF (ix t.cost k) := fun k hk => cost_valid hi.v hi.c hk
  have hcw : (Q t).c (l.C.length + l.A.length) < 0 := by
    rw [beg_w, ← hw, V_neg_iff (hcv _ (by omega))] at hn
    rw [← hw]
    exact hn
  have hs := Sol.eqv hi.e hz3
  -- the costs are a sum of rows
  have hval : Go.Proofs.YtifbaegnkodneaaDoor.val (l.C.length + l.A.length) (Q t).c z = 0 := by
    refine val_sp (N := Lt l.A.length) hs (T := (Q t).T) ?_
    have gen : ∀ n, n ≤ l.A.length → Sp (Q t).T (Lt l.A.length) (fun k => - Sm n (fun i => if l.C.length + l.A.length ≤ (Q t).b i then (Q t).T i k else 0)) := by
      intro n
      induction n with
      | zero => exact fun _ => Sp.zero.eq (fun k => by unfold Sm; grind)
      | succ n ih =>
        intro hn
        refine ((ih (by omega)).add n (if l.C.length + l.A.length ≤ (Q t).b n then - 1 else 0) (show n < l.A.length by omega)).eq (fun k => ?_)
        show - (Sm n _ + if l.C.length + l.A.length ≤ (Q t).b n then (Q t).T n k else 0) = _
        split <;> grind
    exact (gen l.A.length (Nat.le_refl _)).eq (fun k => hi.p1 k)
  rcases step_inl hst ho with ⟨_, he⟩ | ⟨_, j, he, h1, h2⟩
  · have hc0 : ∀ k, k < l.C.length + l.A.length → 0 ≤ (Q t).c k := fun k hk => by
      have h1 := entK_none (t := t) (k := t.w) he k (by omega)
      rw [V_neg_iff (hcv k (by omega))] at h1
      show 0 ≤ V (ix t.cost k)
      grind
    have h3 : 0 ≤ Sm (l.C.length + l.A.length) (fun k => (Q t).c k * z k) := Sm_nonneg fun k hk => Rat.mul_nonneg (hc0 k hk) (hz2 k hk)
    unfold Go.Proofs.YtifbaegnkodneaaDoor.val at hval
    grind
  · -- a column with costs below zero has a positive element in a row with an artificial variable
    have hj := entK_lt he
    obtain ⟨e1, e2⟩ := entK_some he
    have hcj : (Q t).c j < 0 := (V_neg_iff (hcv j (by omega))).1 e1
    have h3 := hi.p1 j
    have h4 : 0 < artS l.A.length (l.C.length + l.A.length) (Q t) j := by grind
    obtain ⟨i, hil, hip⟩ := Sm_pos h4
    have hip : 0 < (if l.C.length + l.A.length ≤ (Q t).b i then (Q t).T i j else 0) := hip
    split at hip
    · rcases leav_best h1 with ⟨_, h5⟩ | ⟨r, low, h5, _⟩
      · have h6 := h5 i (by rw [hi.m]; exact hil)
        rw [V_pos_iff (hi.v.rows i j (by rw [hi.m]; exact hil) (by omega))] at h6
        exact h6 hip
      · omega
    · exact Rat.lt_irrefl hip
theorem solve_answer (hc : checkF l = 0) : Answer l (solveF l) := by
  have h := ok_of hc
  unfold solveF
  rw [if_neg (fun e => e hc)]
  by_cases h1 : (firstF (begF l)).2.over = true
  · rw [if_pos h1]; exact .great
  rw [if_neg h1]
  have h1 : (firstF (begF l)).2.over = false := by simpa using h1
  by_cases h2 : (firstF (begF l)).1 = false
  · rw [if_pos h2]
    refine .none ?_
    unfold firstF at h1 h2
    by_cases q1 : anyK (begF l).m (artP (begF l)) = false ∨ (f1T (begF l)).over = true
    · rw [if_pos q1] at h2; cases h2
    rw [if_neg q1] at h1 h2
    by_cases q2 : (phaseF (f1T (begF l))).2.over = true
    · rw [if_pos q2] at h2; cases h2
    rw [if_neg q2] at h1 h2
    by_cases q3 : (ix (phaseF (f1T (begF l))).2.cost (begF l).w).N < 0
    · exact no_feas h (by
        cases hh : (f1T (begF l)).over with
        | false => rfl
        | true => exact absurd (.inr hh) q1) (by simpa using q2) (fun e => q1 (.inl e)) q3
    · rw [if_neg q3] at h2; cases h2
  rw [if_neg h2]
  have h2 : (firstF (begF l)).1 = true := by simpa using h2
  have hin := first_in h h1 h2
  by_cases h3 : (secondF (firstF (begF l)).2 l.C).2.over = true
  · rw [if_pos h3]; exact .great
  rw [if_neg h3]
  have h3 : (secondF (firstF (begF l)).2 l.C).2.over = false := by simpa using h3
  obtain ⟨k1, k2⟩ := phase2_end h hin h3
  generalize secondF (firstF (begF l)).2 l.C = s at *
  obtain ⟨b, t⟩ := s
  simp only at *
  rcases step_inl k2 h3 with ⟨rfl, he⟩ | ⟨rfl, j, he, q1, q2⟩
  · rw [if_neg (by decide)]
    exact .ok (end_ok h k1 he)
  · rw [if_pos rfl]
    obtain ⟨f1, f2⟩ := end_free h k1 he q1 q2
    exact .free f1 f2
end
end Go.Proofs.YtifbaegnkodneaaDoor

/-
  layer 30: SimplexDuality.
-/
namespace Go.Proofs.YtifbaegnkodneaaDoor
open Go.RowKit
set_option linter.unusedSimpArgs false
set_option linter.unusedVariables false
set_option maxRecDepth 100000

section
variable {l : Lin}
structure DualQ (l : Lin) : Prop where
  n : (dualL l).C.length = l.A.length
  m : (dualL l).A.length = l.C.length
  a : ∀ j i, j < l.C.length → i < l.A.length → aQ (dualL l) j i = - aQ l i j
  b : ∀ j, j < l.C.length → bQ (dualL l) j = - cQ l j
  c : ∀ i, i < l.A.length → cQ (dualL l) i = - bQ l i
theorem dual_q (h : Ok l) : DualQ l := by
  have hB := h.g.b
  refine ⟨by show (l.B.map negF).length = _; rw [List.length_map, hB], by simp [dualL], fun j i hj hi => ?_, fun j hj => ?_, fun i hi => ?_⟩
  · show V (ix (ix ((List.range l.C.length).map fun j => l.A.map fun a => negF (ix a j)) j) i) = - V (ix (ix l.A i) j)
    rw [ix_range hj, ix_mapN hi, neg_val (h.a i j hi hj)]
  · show V (ix (l.C.map negF) j) = - V (ix l.C j)
    rw [ix_mapN hj, neg_val (h.c j hj)]
  · show V (ix (l.B.map negF) i) = - V (ix l.B i)
    rw [ix_mapN (by omega), neg_val (h.b i hi)]
theorem Sm_neg (f : Nat → Rat) (n : Nat) : Sm n (fun i => - f i) = - Sm n f := by
  rw [Sm_congr (g := fun i => (-1) * f i) (fun i _ => by grind), Sm_mul]
  grind
theorem cert_feas (h : Ok l) {y : Nat → Rat} {v : Rat} (hy : Cert l y v) : FeasQ (dualL l) y ∧ Sm (dualL l).C.length (fun i => cQ (dualL l) i * y i) = - v := by
  have d := dual_q h
  refine ⟨⟨fun k hk => hy.nn k (by rw [← d.n]; exact hk), fun j hj => ?_⟩, ?_⟩
  · rw [d.m] at hj
    rw [d.b j hj, d.n, Sm_congr (g := fun i => - (y i * aQ l i j)) (fun i hi => by rw [d.a j i hj hi]; grind), Sm_neg]
    have := hy.col j hj
    grind
  · rw [d.n, Sm_congr (g := fun i => - (y i * bQ l i)) (fun i hi => by rw [d.c i hi]; grind), Sm_neg, hy.val]
theorem feas_cert (h : Ok l) {y : Nat → Rat} (hy : FeasQ (dualL l) y) : Cert l y (- Sm (dualL l).C.length (fun i => cQ (dualL l) i * y i)) := by
  have d := dual_q h
  refine ⟨fun i hi => hy.nn i (by rw [d.n]; exact hi), fun k hk => ?_, ?_⟩
  · have := hy.row k (by rw [d.m]; exact hk)
    rw [d.b k hk, d.n, Sm_congr (g := fun i => - (y i * aQ l i k)) (fun i hi => by rw [d.a k i hk hi]; grind), Sm_neg] at this
    grind
  · rw [d.n, Sm_congr (n := l.A.length) (f := fun i => cQ (dualL l) i * y i) (g := fun i => - (y i * bQ l i)) (fun i hi => by show cQ (dualL l) i * y i = _; rw [d.c i hi]; grind), Sm_neg]
    grind
theorem ray_no (h : Ok l) {d : Nat → Rat} (hd : Ray (dualL l) d) {x : Nat → Rat} (hx : FeasQ l x) : False := by
  have D := dual_q h
  have h1 := hd.neg
  rw [D.n, Sm_congr (g := fun i => - (d i * bQ l i)) (fun i hi => by rw [D.c i hi]; grind), Sm_neg] at h1
  have h2 : Sm l.A.length (fun i => d i * bQ l i) ≤ Sm l.A.length (fun i => Sm l.C.length (fun k => d i * (aQ l i k * x k))) := Sm_le fun i hi => by
    rw [Sm_mul]
    exact Rat.mul_le_mul_of_nonneg_left (hx.row i hi) (hd.nn i (by rw [D.n]; exact hi))
  rw [Sm_swap (fun i k => d i * (aQ l i k * x k))] at h2
  have h3 : Sm l.C.length (fun k => Sm l.A.length (fun i => d i * (aQ l i k * x k))) ≤ Sm l.C.length (fun _ => 0) := Sm_le fun k hk => by
    have h4 := hd.row k (by rw [D.m]; exact hk)
    rw [D.n, Sm_congr (g := fun i => - (d i * aQ l i k)) (fun i hi => by rw [D.a k i hk hi]; grind), Sm_neg] at h4
    rw [Sm_congr (g := fun i => x k * (d i * aQ l i k)) (fun i _ => by grind), Sm_mul]
    have := Rat.mul_nonneg (hx.nn k hk) h4
    grind
  rw [Sm_zero] at h3
  grind
theorem solved_dual (h : Ok l) (hd : Ok (dualL l)) {x y : List Fr} {v w : Fr} (hx : Solved l x v) (hy : Solved (dualL l) y w) : v = negF w := by
  obtain ⟨y0, c0⟩ := hx.cert
  obtain ⟨z0, c1⟩ := hy.cert
  obtain ⟨f1, f2⟩ := cert_feas h c0
  have h1 := c1.le f1
  rw [f2] at h1
  have h2 := (feas_cert h hy.feas).le hx.feas
  rw [hy.val, hx.val] at h2
  refine V_inj hx.vv (valid_neg hy.vv) ?_
  rw [neg_val hy.vv]
  grind
theorem solved_other (h : Ok l) {x : List Fr} {v : Fr} (hx : Solved l x v) {r : List Fr × Fr × Int} (hr : Answer (dualL l) r) : r.2.2 = 0 ∨ r.2.2 = 24 := by
  cases hr with
  | ok _ => exact .inl rfl
  | great => exact .inr rfl
  | none hn =>
    obtain ⟨y0, c0⟩ := hx.cert
    exact absurd ⟨y0, (cert_feas h c0).1⟩ hn
  | free _ hd =>
    obtain ⟨d, hd⟩ := hd
    exact (ray_no h hd hx.feas).elim
structure DualAns (l : Lin) (p q : List Fr × Fr × Int) : Prop where
  both : p.2.2 = 0 → q.2.2 = 0 → p.2.1 = negF q.2.1
  one : p.2.2 = 0 → q.2.2 = 0 ∨ q.2.2 = 24
  two : q.2.2 = 0 → p.2.2 = 0 ∨ p.2.2 = 24
  no : ¬ (p.2.2 = 19 ∧ q.2.2 = 19)
theorem dual_ans (h1 : checkF l = 0) (h2 : checkF (dualL l) = 0) : DualAns l (solveF l) (solveF (dualL l)) := by
  have o1 := ok_of h1
  have o2 := ok_of h2
  have a1 := solve_answer h1
  have a2 := solve_answer h2
  generalize solveF l = p at *
  generalize solveF (dualL l) = q at *
  refine ⟨fun e1 e2 => ?_, fun e1 => ?_, fun e2 => ?_, fun ⟨e1, e2⟩ => ?_⟩
  · cases a1 with
    | ok s1 =>
      cases a2 with
      | ok s2 => exact solved_dual o1 o2 s1 s2
      | none _ => cases e2
      | free _ _ => cases e2
      | great => cases e2
    | none _ => cases e1
    | free _ _ => cases e1
    | great => cases e1
  · cases a1 with
    | ok s1 => exact solved_other o1 s1 a2
    | none _ => cases e1
    | free _ _ => cases e1
    | great => cases e1
  · cases a2 with
    | ok s2 => exact solved_other o2 s2 (by rw [dual_dual h1]; exact a1)
    | none _ => cases e2
    | free _ _ => cases e2
    | great => cases e2
  · cases a1 with
    | free f1 _ =>
      cases a2 with
      | free _ r2 =>
        obtain ⟨x, hx⟩ := f1
        obtain ⟨d, hd⟩ := r2
        exact ray_no o1 hd hx
      | ok _ => cases e2
      | none _ => cases e2
      | great => cases e2
    | ok _ => cases e1
    | none _ => cases e1
    | great => cases e1
end
noncomputable def CDu : Ctx := mkC Tryd.prog G0 [(9, .pure sFew), (10, .pure (spec0 (.bool true))), (13, .pure sDual), (20, .pure sSolve)]
@[simp] theorem CDu_P : CDu.P = Tryd.prog := rfl
@[simp] theorem CDu_G : CDu.G = G0 := rfl
@[simp] theorem CDu_1 : CDu.S 9 = .pure sFew := rfl
@[simp] theorem CDu_2 : CDu.S 10 = .pure (spec0 (.bool true)) := rfl
@[simp] theorem CDu_3 : CDu.S 13 = .pure sDual := rfl
@[simp] theorem CDu_4 : CDu.S 20 = .pure sSolve := rfl
theorem mixCDu : CDu.P.follows .mixedOrders = true := mixed
theorem sigCDu : SigOK CDu := sigOK_cons (entryPure (fewP) Tryd.func9 rfl (by decide)) (sigOK_cons (entryPure (aliveP) Tryd.func10 rfl (by decide)) (sigOK_cons (entryPure (dualP) Tryd.func13 rfl (by decide)) (sigOK_cons (entryPure (solveP) Tryd.func20 rfl (by decide)) (sigOK_nil _ _))))
set_option maxHeartbeats 16000000 in
theorem lawDuality : PureOK Tryd.prog G0 6 (spec1 (fun (_ : Lin) => True) (fun _ => .bool true)) := by
  refine pureH1 (C := CDu) sigCDu mixCDu Tryd.func6 rfl rfl rfl [] (by kernel_rfl) (by decide) (fun l _ => ?_)
  by_cases h1 : FewL l
  case neg => simp [sFew, h1]
  have hs := few_small h1
  have hd := small_dualF hs
  have hok := dualF_ok (l := l)
  obtain ⟨d, e, hde⟩ : ∃ d e, dualF l = (d, e) := ⟨_, _, rfl⟩
  rw [hde] at hd hok
  by_cases h2 : e = 0
  case neg => simp [sFew, h1, sDual, hs, hde, h2]
  obtain ⟨k1, k2, k3⟩ := hok h2
  injection k3 with k3 k4
  subst k3 k4
  have ha := dual_ans k1 k2
  have p1 := pre_solve hs
  have p2 := pre_solve hd
  simp only at p2
  obtain ⟨x, v, f, hv⟩ : ∃ x v f, solveF l = (x, v, f) := ⟨_, _, _, rfl⟩
  obtain ⟨y, w, g, hw⟩ : ∃ y w g, solveF (dualL l) = (y, w, g) := ⟨_, _, _, rfl⟩
  rw [hv, hw] at ha
  obtain ⟨b1, b2, b3, b4⟩ := ha
  simp only at b1 b2 b3 b4
  by_cases hf : f = 0
  · subst hf
    by_cases hg : g = 0
    · subst hg
      have b1 := b1 rfl rfl
      subst b1
      have nN : (negF w).N = IntKind.i64.wrap (-w.N) := rfl
      have nD : (negF w).D = w.D := rfl
      simp [sFew, h1, sDual, hs, hde, hd, sSolve, p1, p2, hv, hw, nN, nD]
      done
    · have hg2 : g = 24 := (b2 rfl).resolve_left hg
      subst hg2
      simp [sFew, h1, sDual, hs, hde, hd, sSolve, p1, p2, hv, hw]
      done
  · by_cases hg : g = 0
    · subst hg
      have hf2 : f = 24 := (b3 rfl).resolve_left hf
      subst hf2
      simp [sFew, h1, sDual, hs, hde, hd, sSolve, p1, p2, hv, hw]
      done
    · by_cases hf9 : f = 19
      · subst hf9
        have hg9 : ¬ g = 19 := fun e => b4 ⟨rfl, e⟩
        simp [sFew, h1, sDual, hs, hde, hd, sSolve, p1, p2, hv, hw, hg, hg9]
        done
      · simp [sFew, h1, sDual, hs, hde, hd, sSolve, p1, p2, hv, hw, hf, hg, hf9]
        done
end Go.Proofs.YtifbaegnkodneaaDoor

/-
  layer 30: SimplexBest.
-/
namespace Go.Proofs.YtifbaegnkodneaaDoor
open Go.RowKit
set_option linter.unusedSimpArgs false
set_option linter.unusedVariables false
set_option maxRecDepth 100000

theorem Sm_head (f : Nat → Rat) : ∀ n, Sm (n + 1) f = f 0 + Sm n (fun i => f (i + 1))
  | 0 => by unfold Sm Sm; grind
  | n + 1 => by
    show Sm (n + 1) f + f (n + 1) = f 0 + (Sm n _ + f (n + 1))
    rw [Sm_head f n]
    grind
theorem dot_V : ∀ {a x : List Fr} {s r : Fr}, dotO s a x = some r → ValidF s → a.length ≤ x.length → ValidF r ∧ V r = V s + Sm a.length (fun k => V (ix a k) * V (ix x k))
  | [], x, s, r, h, hs, _ => by
    unfold dotO at h
    injection h with h
    rw [← h]
    exact ⟨hs, by show _ = _ + 0; grind⟩
  | a :: ar, [], s, r, h, hs, hl => by simp at hl
  | a :: ar, x :: xs, s, r, h, hs, hl => by
    unfold dotO at h
    cases h1 : mulO a x with
    | none => rw [h1] at h; cases h
    | some p =>
      rw [h1] at h
      simp only at h
      cases h2 : addO s p with
      | none => rw [h2] at h; cases h
      | some t =>
        rw [h2] at h
        obtain ⟨m1, m2, m3, m4⟩ := mulO_some h1
        obtain ⟨q1, q2, q3, q4⟩ := addO_some h2
        obtain ⟨i1, i2⟩ := dot_V h q3 (by simpa using hl)
        refine ⟨i1, ?_⟩
        rw [i2, q4, m4]
        show _ = _ + Sm (ar.length + 1) _
        rw [Sm_head]
        have e0 : V (ix (a :: ar) 0) * V (ix (x :: xs) 0) = V a * V x := rfl
        have e1 : (fun k => V (ix (a :: ar) (k + 1)) * V (ix (x :: xs) (k + 1))) = fun k => V (ix ar k) * V (ix xs k) := rfl
        rw [e0, e1]
        grind
theorem value_V {l : Lin} {x : List Fr} {u : Fr} (h : valueF l x = (u, true)) : x.length = l.C.length ∧ ValidF u ∧ V u = Sm l.C.length (fun k => cQ l k * XQ x k) := by
  unfold valueF at h
  split at h
  · rename_i hl
    cases h1 : dotO F01 l.C x with
    | none => rw [h1] at h; simp [ofO] at h
    | some r =>
      rw [h1] at h
      injection h with h
      obtain ⟨i1, i2⟩ := dot_V h1 valid_01 (by omega)
      rw [h] at i1 i2
      refine ⟨hl, i1, ?_⟩
      rw [i2, V_01]
      show _ = Sm _ (fun k => V (ix l.C k) * V (ix x k))
      grind
  · simp at h
theorem cmp_le {a b : Fr} (ha : ValidF a) (hb : ValidF b) (h : V a ≤ V b) : cmpF a b ≤ 0 := by
  have h1 := cross_lt hb ha
  have h2 := mt h1.1 (by grind)
  unfold cmpF fixF sgn
  rw [if_pos ha, if_pos hb]
  split
  · omega
  · split <;> omega
theorem cmp_ge {a b : Fr} (ha : ValidF a) (hb : ValidF b) (h : V b ≤ V a) : ¬ cmpF a b < 0 := by
  rw [cmp_lt ha hb]
  grind
theorem feasB_Q {l : Lin} {y : List Fr} (h : feasB l y = true) : checkF l = 0 ∧ FeasQ l (XQ y) := by
  unfold feasB at h
  obtain ⟨h1, h2, h3, h4⟩ := @of_decide_eq_true _ (Classical.propDecidable _) h
  have ok := ok_of h1
  refine ⟨h1, fun k hk => ?_, fun i hi => ?_⟩
  · obtain ⟨q1, q2⟩ := h3 _ (ix_mem (show k < y.length by omega))
    rw [V_neg_iff q1] at q2
    show 0 ≤ V (ix y k)
    grind
  · obtain ⟨s, e1, e2⟩ := h4 i hi
    have hr := ok.g.row _ (ix_mem hi)
    obtain ⟨i1, i2⟩ := dot_V e1 valid_01 (by omega)
    rw [cmp_lt i1 (ok.b i hi)] at e2
    rw [i2, V_01, hr] at e2
    show V (ix l.B i) ≤ Sm _ (fun k => V (ix (ix l.A i) k) * V (ix y k))
    grind
section
variable {l : Lin}
/-- What SimplexBest asks of a solution. -/
structure BestF (l : Lin) (x : List Fr) (v : Fr) : Prop where
  len : x.length = l.C.length
  u : ∀ u, valueF l x = (u, true) → u = v
  xs : ∀ j, j < x.length → ValidF (ix x j) ∧ 0 ≤ (ix x j).N
  r : ∀ i, i < l.A.length → ∀ s, valueF ⟨[], [], ix l.A i⟩ x = (s, true) → 0 ≤ cmpF s (ix l.B i)
  y : ∀ y w, valueF l y = (w, true) → feasB l y = true → cmpF v w ≤ 0
theorem best_of (hc : checkF l = 0) {x : List Fr} {v : Fr} (h : Solved l x v) : BestF l x v := by
  have ok := ok_of hc
  refine ⟨h.len, fun u hu => ?_, fun j hj => ?_, fun i hi s hs => ?_, fun y w hw hy => ?_⟩
  · obtain ⟨_, h2, h3⟩ := value_V hu
    exact V_inj h2 h.vv (by rw [h3, h.val])
  · have hv := h.valid j (by rw [← h.len]; exact hj)
    have hn := h.feas.nn j (by rw [← h.len]; exact hj)
    refine ⟨hv, ?_⟩
    have := mt (V_neg_iff hv).1 (by show ¬ V (ix x j) < 0; have hn : 0 ≤ V (ix x j) := hn; grind)
    omega
  · obtain ⟨h1, h2, h3⟩ := value_V hs
    have h4 := h.feas.row i hi
    have hr := ok.g.row _ (ix_mem hi)
    have e : V s = Sm l.C.length (fun k => aQ l i k * XQ x k) := by
      rw [h3]
      show Sm (ix l.A i).length _ = _
      rw [hr]
      rfl
    have := cmp_ge h2 (ok.b i hi) (by rw [e]; exact h4)
    omega
  · obtain ⟨h1, h2, h3⟩ := value_V hw
    obtain ⟨_, hf⟩ := feasB_Q hy
    obtain ⟨y0, c0⟩ := h.cert
    exact cmp_le h.vv h2 (by rw [h3]; exact c0.le hf)
theorem not_ok {r : List Fr × Fr × Int} (hr : solveF l = r) (h : r.2.2 ≠ 0) : r.1 = [] ∧ r.2.1 = F00 ∧ (r.2.2 = 23 → ∀ y, feasB l y = false) := by
  by_cases hc : checkF l = 0
  · have ha := solve_answer hc
    rw [hr] at ha
    cases ha with
    | ok _ => exact absurd rfl h
    | none hn =>
      refine ⟨rfl, rfl, fun _ y => ?_⟩
      cases hb : feasB l y with
      | false => rfl
      | true => exact absurd ⟨_, (feasB_Q hb).2⟩ hn
    | free _ _ => exact ⟨rfl, rfl, fun e => by cases e⟩
    | great => exact ⟨rfl, rfl, fun e => by cases e⟩
  · have e : solveF l = ([], F00, checkF l) := if_pos hc
    rw [← hr, e]
    refine ⟨rfl, rfl, fun e2 => ?_⟩
    exfalso
    simp only at e2
    unfold checkF at e2
    split at e2
    · cases e2
    · split at e2 <;> cases e2
theorem solved_of (hc : checkF l = 0) {x : List Fr} {v : Fr} (h : solveF l = (x, v, 0)) : Solved l x v := by
  have ha := solve_answer hc
  rw [h] at ha
  cases ha with
  | ok s => exact s
theorem check_of {x : List Fr} {v : Fr} (h : solveF l = (x, v, 0)) : checkF l = 0 := by
  apply Classical.byContradiction
  intro hc
  have e : solveF l = ([], F00, checkF l) := if_pos hc
  rw [e] at h
  injection h with _ h
  injection h with _ h
  exact hc h
end
end Go.Proofs.YtifbaegnkodneaaDoor

/-
  layer 30: SimplexBest, the law.
-/
namespace Go.Proofs.YtifbaegnkodneaaDoor
open Go.RowKit
set_option linter.unusedSimpArgs false
set_option linter.unusedVariables false
set_option maxRecDepth 100000

noncomputable def CBs : Ctx := mkC Tryd.prog G0 [(9, .pure sFew), (10, .pure (spec0 (.bool true))), (20, .pure sSolve), (11, .pure sValueF), (17, .pure sFeas), (23, .pure sValidF), (24, .pure sCmpF)]
@[simp] theorem CBs_P : CBs.P = Tryd.prog := rfl
@[simp] theorem CBs_G : CBs.G = G0 := rfl
@[simp] theorem CBs_1 : CBs.S 9 = .pure sFew := rfl
@[simp] theorem CBs_2 : CBs.S 10 = .pure (spec0 (.bool true)) := rfl
@[simp] theorem CBs_3 : CBs.S 20 = .pure sSolve := rfl
@[simp] theorem CBs_4 : CBs.S 11 = .pure sValueF := rfl
@[simp] theorem CBs_5 : CBs.S 17 = .pure sFeas := rfl
@[simp] theorem CBs_6 : CBs.S 23 = .pure sValidF := rfl
@[simp] theorem CBs_7 : CBs.S 24 = .pure sCmpF := rfl
theorem mixCBs : CBs.P.follows .mixedOrders = true := mixed
theorem sigCBs : SigOK CBs := sigOK_cons (entryPure (fewP) Tryd.func9 rfl (by decide)) (sigOK_cons (entryPure (aliveP) Tryd.func10 rfl (by decide)) (sigOK_cons (entryPure (solveP) Tryd.func20 rfl (by decide)) (sigOK_cons (entryPure (valueP) Tryd.func11 rfl (by decide)) (sigOK_cons (entryPure (feasibleP) Tryd.func17 rfl (by decide)) (sigOK_cons (entryPure (validR) Tryd.func23 rfl (by decide)) (sigOK_cons (entryPure (cmpR) Tryd.func24 rfl (by decide)) (sigOK_nil _ _)))))))
set_option maxHeartbeats 16000000 in
theorem lawBest : PureOK Tryd.prog G0 5 (spec2 (fun (_ : Lin) (_ : List Fr) => True) (fun _ _ => .bool true)) := by
  refine pureH2 (C := CBs) sigCBs mixCBs Tryd.func5 rfl rfl rfl [21] (by kernel_rfl) (by decide) (fun l y _ => ?_)
  by_cases h1 : FewL l
  case neg => simp [sFew, h1]
  by_cases h2 : (60 : Int) < y.length
  · simp [sFew, h1, h2]
  have hs := few_small h1
  have hc : l.C.length ≤ 1000 := hs.c
  have hy : y.length ≤ 1000 := by omega
  have hp := pre_solve hs
  obtain ⟨x, v, e, hv⟩ : ∃ x v e, solveF l = (x, v, e) := ⟨_, _, _, rfl⟩
  obtain ⟨w, ok, hw⟩ : ∃ w ok, valueF l y = (w, ok) := ⟨_, _, rfl⟩
  by_cases he : e = 0
  case neg =>
    obtain ⟨k1, k2, k3⟩ := not_ok hv he
    simp only at k1 k2 k3
    subst k1 k2
    by_cases h23 : e = 23
    · have hf := k3 h23 y
      subst h23
      simp [sFew, h1, h2, sSolve, hp, hv, sValueF, hc, hw, sFeas, hs, hy, hf, F00]
      done
    · simp [sFew, h1, h2, sSolve, hp, hv, sValueF, hc, hw, he, h23, F00]
      done
  subst he
  have hck := check_of hv
  obtain ⟨b1, b2, b3, b4, b5⟩ := best_of hck (solved_of hck hv)
  have hyy := b5 y
  rw [hw] at hyy
  clear b5
  obtain ⟨u, is, hu⟩ : ∃ u is, valueF l x = (u, is) := ⟨_, _, rfl⟩
  have b2 := b2 u
  rw [hu] at b2
  have hcc : ∀ us : Bool, us = is → (us = false ∧ True ∨ (us = true ∧ u.N = v.N ∧ u.D = v.D)) := fun us e => by
    cases us with
    | false => exact .inl ⟨rfl, trivial⟩
    | true => have := b2 (by rw [← e]); exact .inr ⟨rfl, by rw [this], by rw [this]⟩
  have hla := hs.a
  have hL : (x.length : Int) = l.C.length := by omega
  rcases hcc is rfl with ⟨rfl, hE⟩ | ⟨rfl, hE⟩
  all_goals
    simp [sFew, h1, h2, sSolve, hp, hv, sValueF, hc, hw, hu, b1, hE]
    refine loop_ruleH (C := CBs) sigCBs mixCBs [21] (fun k : Nat => ⟨[(1, Enc.enc y), (2, .ptr 0 1 3 0 0), (5, Enc.enc x), (6, .ptr 1 1 2 0 0), (8, .ptr 2 1 2 0 0), (9, .bool ok), (12, .int .i64 k)], [CB l, FB v, FB w, FB u]⟩) (fun k => k ≤ x.length) (fun k => x.length - k) (by kernel_rfl) ⟨0, by simp, weak_eq (by simp) (by simp [CB, FB, hE])⟩ (fun k hk => ?_)
    by_cases hlt : k < x.length
    · have i1 : I64 ((k : Int) + 1) := by unfold I64; omega
      obtain ⟨q1, q2⟩ := b3 k hlt
      have q2' : ¬ (ix x k).N < 0 := by omega
      simp [CB, FB, hlt, rowAt_enc hlt, sValidF, q1, q2, q2', i1]
      exact ⟨k + 1, by omega, by omega, weak_eq (by simp) (by simp [CB, FB])⟩
    · simp [CB, FB, hlt]
      refine loop_ruleH (C := CBs) sigCBs mixCBs [21] (fun q : Nat × List Blk => ⟨[(1, Enc.enc y), (2, .ptr 0 1 3 0 0), (5, Enc.enc x), (6, .ptr 1 1 2 0 0), (8, .ptr 2 1 2 0 0), (9, .bool ok), (13, .int .i64 q.1)], CB l :: FB v :: FB w :: FB u :: q.2⟩) (fun q => q.1 ≤ l.A.length) (fun q => l.A.length - q.1) (by kernel_rfl) ⟨(0, []), by simp, weak_eq (by simp) (by simp [CB, FB])⟩ (fun ⟨i, Z⟩ hi => ?_)
      simp only at hi ⊢
      by_cases hil : i < l.A.length
      · have i1 : I64 ((i : Int) + 1) := by unfold I64; omega
        have hrl : (ix l.A i).length ≤ 1000 := hs.r _ (ix_mem hil)
        have b4 := b4 i hil
        obtain ⟨s, iss, hsv⟩ : ∃ s iss, valueF ⟨[], [], ix l.A i⟩ x = (s, iss) := ⟨_, _, rfl⟩
        have b4 := b4 s
        rw [hsv] at b4
        have hib : i < l.B.length := by have := (check_zero hck).2.2.2.1; omega
        simp [CB, FB, hil, rowAt_enc hil, sValueF, hrl, hsv]
        refine AW_regionF sigCBs mixCBs [.pure, .pure, .read, .pure, .read, .pure, .pure, .read, .read, .pure, .pure] [[],[0],[0,1],[0,1],[1,0,3],[0,1],[5,3,0,1,4],[4,1,0,3,5,6],[6,5,3,4,7,1,0,2],[2,0,1,7,4,3,5,6,8],[8,6,5,3,4,7,2,9,0,1]] (by kernel_rfl) (by kernel_rfl) (by kernel_rfl) (by kernel_rfl) ?_
        cases iss with
        | false =>
          simp [CB, FB, hil, hib, i1]
          exact ⟨i + 1, by omega, by omega, Z ++ [FB s], weak_eq (by simp) (by simp [CB, FB])⟩
        | true =>
          have b4 := b4 rfl
          have b4' : ¬ cmpF s (ix l.B i) < 0 := by omega
          simp [CB, FB, hil, hib, rowAt_enc hib, sCmpF, b4, b4', i1]
          exact ⟨i + 1, by omega, by omega, Z ++ [FB s], weak_eq (by simp) (by simp [CB, FB])⟩
      · obtain ⟨fb, hfb⟩ : ∃ fb, feasB l y = fb := ⟨_, rfl⟩
        rw [hfb] at hyy
        cases ok with
        | false => simp [CB, FB, hil]
        | true =>
          cases fb with
          | false => simp [CB, FB, hil, sFeas, hs, hy, hfb]
          | true =>
            have hyy := hyy w rfl rfl
            simp [CB, FB, hil, sFeas, hs, hy, hfb, sCmpF, hyy]
end Go.Proofs.YtifbaegnkodneaaDoor

/-
  layer 30: costs that are a multiple of other costs: the same pivots.
-/
namespace Go.Proofs.YtifbaegnkodneaaDoor
open Go.RowKit
set_option linter.unusedSimpArgs false
set_option linter.unusedVariables false
set_option maxRecDepth 100000

/-- Two tableaus that differ in their costs, by a factor. -/
structure Twin (a : Rat) (t u : Tab) : Prop where
  s : ∃ L, Shape L t
  s' : ∃ L, Shape L u
  v : Vd t
  v' : Vd u
  c : t.cost.length = t.w + 1
  c' : u.cost.length = u.w + 1
  n : u.n = t.n
  m : u.m = t.m
  r : u.rows = t.rows
  b : u.basis = t.basis
  q : ∀ k, (Q u).c k = a * (Q t).c k
section
variable {a : Rat} {t u : Tab}
theorem Twin.w (h : Twin a t u) : u.w = t.w := by unfold Tab.w; rw [h.n, h.m]
theorem rows_eq {L L' : Lay} (hS : Shape L t) (hS' : Shape L' u) (hv : Vd t) (hv' : Vd u) (hm : u.m = t.m) (hw : u.w = t.w) (h : ∀ i k, (Q u).T i k = (Q t).T i k) : u.rows = t.rows := by
  refine List.ext_getElem (by rw [hS.m, hS'.m, hm]) fun i h1 h2 => ?_
  have hi : i < t.m := by rw [← hS.m]; exact h2
  have l1 := row_len hS hi
  have l2 := row_len hS' (i := i) (by rw [hm]; exact hi)
  rw [ix_lt h1] at l2
  rw [ix_lt h2] at l1
  refine List.ext_getElem (by rw [l1, l2, hw]) fun k h3 h4 => ?_
  have e := h i k
  have v1 := hv.rows i k hi (by rw [l1] at h4; exact h4)
  have v2 := hv'.rows i k (by rw [hm]; exact hi) (by rw [l2] at h3; exact h3)
  have e : V (ix (ix u.rows i) k) = V (ix (ix t.rows i) k) := e
  have := V_inj v2 v1 e
  rwa [ix_lt h1, ix_lt h2, ix_lt h3, ix_lt h4] at this
theorem sign_same (ha : 0 < a) {x y : Fr} (hx : ValidF x) (hy : ValidF y) (h : V y = a * V x) : y.N < 0 ↔ x.N < 0 := by
  rw [V_neg_iff hx, V_neg_iff hy, h]
  constructor
  · intro h1
    apply Classical.byContradiction
    intro h2
    have : 0 ≤ a * V x := Rat.mul_nonneg (Rat.le_of_lt ha) (by grind)
    grind
  · intro h1
    have : 0 < a * (- V x) := Rat.mul_pos ha (by grind)
    grind
theorem Twin.ent (h : Twin a t u) (ha : 0 < a) : ∀ {k}, k ≤ t.w → entK u k = entK t k
  | 0, _ => rfl
  | k + 1, hk => by
    have ih := h.ent ha (k := k) (by omega)
    have hs := sign_same ha (cost_valid h.v h.c (k := k) (by omega)) (cost_valid h.v' h.c' (k := k) (by rw [h.w]; omega)) (h.q k)
    unfold entK
    rw [ih]
    split
    · rfl
    · by_cases hN : (ix t.cost k).N < 0
      · rw [if_pos hN, if_pos (hs.2 hN)]
      · rw [if_neg hN, if_neg (fun e => hN (hs.1 e))]
theorem Twin.enter (h : Twin a t u) (ha : 0 < a) : enterF u = enterF t := by
  unfold enterF
  rw [h.w]
  exact h.ent ha (Nat.le_refl _)
theorem Twin.lv (h : Twin a t u) (j : Nat) : ∀ k, lvK u j k = lvK t j k
  | 0 => rfl
  | k + 1 => by
    unfold lvK
    rw [h.lv j k, h.r, h.w]
    cases lvK t j k with
    | none => rfl
    | some p =>
      obtain ⟨s, low⟩ := p
      simp only
      split
      · rfl
      · cases divO (ix (ix t.rows k) t.w) (ix (ix t.rows k) j) with
        | none => rfl
        | some r =>
          simp only
          have : lvTest u s low k r = lvTest t s low k r := by unfold lvTest; rw [h.b]
          by_cases hT : lvTest t s low k r
          · rw [if_pos hT, if_pos (by rw [this]; exact hT)]
          · rw [if_neg hT, if_neg (by rw [this]; exact hT)]
theorem Twin.leav (h : Twin a t u) (j : Nat) : leavF u j = leavF t j := by
  unfold leavF
  rw [h.m, h.lv]
theorem Twin.piv (h : Twin a t u) {i j : Nat} (hi : i < t.m) (hj : j < t.w) (h1 : (pivF t i j).over = false) (h2 : (pivF u i j).over = false) : Twin a (pivF t i j) (pivF u i j) := by
  obtain ⟨L, hS⟩ := h.s
  obtain ⟨L', hS'⟩ := h.s'
  obtain ⟨p1, p2, p3, p4⟩ := piv_Q hS hi hj h1
  obtain ⟨q1, q2, q3, q4⟩ := piv_Q hS' (by rw [h.m]; exact hi) (by rw [h.w]; exact hj) h2
  have k1 := pivF_shape hS hi hj
  have k2 := pivF_shape hS' (i := i) (j := j) (by rw [h.m]; exact hi) (by rw [h.w]; exact hj)
  have hT : ∀ i k, (Q u).T i k = (Q t).T i k := fun i k => by
    show V (ix (ix u.rows i) k) = _
    rw [h.r]
    rfl
  have hm : (pivF u i j).m = (pivF t i j).m := by rw [pivF_m, pivF_m, h.m]
  have hw : (pivF u i j).w = (pivF t i j).w := by rw [pivF_w, pivF_w, h.w]
  refine ⟨⟨L, k1⟩, ⟨L', k2⟩, p4 h.v, q4 h.v', by rw [pivF_cost, pivF_w, h.c], by rw [pivF_cost, pivF_w, h.c'], by rw [pivF_n, pivF_n, h.n], hm, rows_eq k1 k2 (p4 h.v) (q4 h.v') hm hw (fun i' k => ?_), by rw [pivF_bas, pivF_bas, h.b], fun k => ?_⟩
  · rw [p3, q3]
    show (if i' = i then _ else _) = if i' = i then _ else _
    rw [hT, hT, hT, hT]
  · rw [p3, q3]
    show (Q u).c k - (Q u).c j * ((Q u).T i k / (Q u).T i j) = a * ((Q t).c k - (Q t).c j * ((Q t).T i k / (Q t).T i j))
    rw [hT, hT, h.q, h.q]
    grind
theorem runF_over {t : Tab} (h : t.over = true) {n : Nat} {r : Bool × Tab} (hr : runF n t = some r) : r = (true, t) := by
  cases n with
  | zero => cases hr
  | succ n =>
    unfold runF at hr
    have : stepF t = .inl (true, t) := if_pos h
    rw [this] at hr
    injection hr with hr
    exact hr.symm
theorem Twin.run (ha : 0 < a) : ∀ {n n' : Nat} {t u : Tab} {r r' : Bool × Tab}, Twin a t u → runF n t = some r → runF n' u = some r' → r.2.over = false → r'.2.over = false → r'.1 = r.1 ∧ Twin a r.2 r'.2
  | 0, _, _, _, _, _, _, h, _, _, _ => by cases h
  | _ + 1, 0, _, _, _, _, _, _, h, _, _ => by cases h
  | n + 1, n' + 1, t, u, r, r', h, h1, h2, o1, o2 => by
    have ot : t.over = false := by
      cases hb : t.over with
      | false => rfl
      | true => rw [runF_over hb h1, hb] at o1; cases o1
    have ou : u.over = false := by
      cases hb : u.over with
      | false => rfl
      | true => rw [runF_over hb h2, hb] at o2; cases o2
    unfold runF at h1 h2
    have s1 : stepF t = match enterF t with
      | none => .inl (true, t)
      | some j => if (leavF t j).2 then .inl (true, orT t true) else if (leavF t j).1 < 0 then .inl (false, t) else .inr (pivF t (leavF t j).1.toNat j) := if_neg (by rw [ot]; decide)
    have s2 : stepF u = match enterF u with
      | none => .inl (true, u)
      | some j => if (leavF u j).2 then .inl (true, orT u true) else if (leavF u j).1 < 0 then .inl (false, u) else .inr (pivF u (leavF u j).1.toNat j) := if_neg (by rw [ou]; decide)
    rw [h.enter ha] at s2
    cases he : enterF t with
    | none =>
      rw [he] at s1 s2
      rw [s1] at h1
      rw [s2] at h2
      injection h1 with h1
      injection h2 with h2
      rw [← h1, ← h2]
      exact ⟨rfl, h⟩
    | some j =>
      rw [he] at s1 s2
      simp only [h.leav] at s1 s2
      by_cases hl : (leavF t j).2 = true
      · rw [if_pos hl] at s1
        rw [s1] at h1
        injection h1 with h1
        rw [← h1] at o1
        simp [orT] at o1
      · rw [if_neg hl] at s1 s2
        by_cases hn : (leavF t j).1 < 0
        · rw [if_pos hn] at s1 s2
          rw [s1] at h1
          rw [s2] at h2
          injection h1 with h1
          injection h2 with h2
          rw [← h1, ← h2]
          exact ⟨rfl, h⟩
        · rw [if_neg hn] at s1 s2
          rw [s1] at h1
          rw [s2] at h2
          obtain ⟨i, hi, hii⟩ := leavF_in t j hn
          rw [hii, Int.toNat_natCast] at h1 h2
          have p1 : (pivF t i j).over = false := by
            cases hb : (pivF t i j).over with
            | false => rfl
            | true => rw [runF_over hb h1, hb] at o1; cases o1
          have p2 : (pivF u i j).over = false := by
            cases hb : (pivF u i j).over with
            | false => rfl
            | true => rw [runF_over hb h2, hb] at o2; cases o2
          exact Twin.run ha (h.piv hi (entK_lt he) p1 p2) h1 h2 o1 o2
end
/-! ### Programs that differ in their costs -/
structure Scaled (a : Rat) (l m : Lin) : Prop where
  A : m.A = l.A
  B : m.B = l.B
  n : m.C.length = l.C.length
  c : ∀ k, k < l.C.length → cQ m k = a * cQ l k
section
variable {a : Rat} {l m : Lin}
theorem Scaled.row (h : Scaled a l m) (i : Nat) : rowB m i = rowB l i := by
  unfold rowB putE keepB
  rw [h.A, h.B, h.n]
theorem Scaled.bas (h : Scaled a l m) : ∀ k, basK m k = basK l k
  | 0 => rfl
  | k + 1 => by
    unfold basK keepB
    rw [h.bas k, h.A, h.B, h.n]
theorem Scaled.beg (h : Scaled a l m) : begF m = begF l := by
  unfold begF tabB
  rw [h.bas, h.A, h.n]
  congr 1
  exact List.map_congr_left fun i _ => h.row i
theorem Scaled.s1 (h : Scaled a l m) (ol : Ok l) (om : Ok m) {t : Tab} (ht : In2 l l.A.length t) (o1 : (s1T t l.C).over = false) (o2 : (s1T t m.C).over = false) : Twin a (s1T t l.C) (s1T t m.C) := by
  obtain ⟨L, hS⟩ := ht.s
  have hmn : t.n = m.C.length := by rw [h.n, ht.n]
  have hmw : t.w = m.C.length + m.A.length := by rw [h.n, h.A, ht.w]
  obtain ⟨p1, p2, p3⟩ := s1_Q ol hS ht.n ht.w (k := t.m) (Nat.le_refl _) o1
  obtain ⟨q1, q2, q3⟩ := s1_Q om hS hmn hmw (k := t.m) (Nat.le_refl _) o2
  obtain ⟨a1, a2, a3, a4⟩ := s1K_same (t := t) ht.n.symm t.m
  obtain ⟨b1, b2, b3, b4⟩ := s1K_same (t := t) hmn.symm t.m
  have k1 : Shape (newC L []) (s1T t l.C) := s1K_shape hS ht.n.symm (Nat.le_refl _)
  have k2 : Shape (newC L []) (s1T t m.C) := s1K_shape hS hmn.symm (Nat.le_refl _)
  have w1 : (s1T t l.C).w = t.w := s1K_w ht.n.symm _
  have w2 : (s1T t m.C).w = t.w := s1K_w hmn.symm _
  have Q1 : Q (s1T t l.C) = _ := p2
  have Q2 : Q (s1T t m.C) = _ := q2
  have ce : ∀ k, cE m k = a * cE l k := fun k => by
    unfold cE
    rw [h.n]
    split
    · rename_i hk; exact h.c k hk
    · grind
  refine ⟨⟨_, k1⟩, ⟨_, k2⟩, p3 ht.v, q3 ht.v, by rw [w1]; exact a3, by rw [w2]; exact b3, b1.trans a1.symm, b2.trans a2.symm, rows_eq k1 k2 (p3 ht.v) (q3 ht.v) (b2.trans a2.symm) (by rw [w1, w2]) (fun i k => by rw [Q1, Q2]), b4.trans a4.symm, fun k => ?_⟩
  rw [Q1, Q2]
  show cE m k - Sm t.m (fun i => if (Q t).b i < m.C.length then cQ m ((Q t).b i) * (Q t).T i k else 0) = a * (cE l k - Sm t.m (fun i => if (Q t).b i < l.C.length then cQ l ((Q t).b i) * (Q t).T i k else 0))
  rw [ce, Sm_congr (g := fun i => a * (if (Q t).b i < l.C.length then cQ l ((Q t).b i) * (Q t).T i k else 0)) (fun i hi => by
    rw [h.n]
    split
    · rename_i hb; rw [h.c _ hb]; grind
    · grind), Sm_mul]
  grind
noncomputable def afterF (f : Bool × Tab) (c : List Fr) : List Fr × Fr × Int :=
  if f.2.over = true then ([], F00, 24) else if f.1 = false then ([], F00, 23)
  else if (secondF f.2 c).2.over = true then ([], F00, 24) else if (secondF f.2 c).1 = false then ([], F00, 19)
  else (xF (secondF f.2 c).2, negF (ix (secondF f.2 c).2.cost (secondF f.2 c).2.w), 0)
theorem solveF_at {l : Lin} (h : checkF l = 0) : solveF l = afterF (firstF (begF l)) l.C := if_neg (fun e => e h)
/-- The same errors, the same solutions, a multiple of the value, unless one of them is too great. -/
theorem Scaled.solve (h : Scaled a l m) (ha : 0 < a) (hl : checkF l = 0) (hm : checkF m = 0) (n1 : (solveF l).2.2 ≠ 24) (n2 : (solveF m).2.2 ≠ 24) : (solveF m).2.2 = (solveF l).2.2 ∧ ((solveF l).2.2 = 0 → (solveF m).1 = (solveF l).1 ∧ V (solveF m).2.1 = a * V (solveF l).2.1 ∧ ValidF (solveF m).2.1) := by
  have ol := ok_of hl
  have om := ok_of hm
  have fi := first_in ol
  have fi' := first_in om
  rw [h.beg] at fi'
  rw [solveF_at hl] at n1 ⊢
  rw [solveF_at hm, h.beg] at n2 ⊢
  generalize firstF (begF l) = f at *
  obtain ⟨fb, t⟩ := f
  unfold afterF at *
  simp only at *
  by_cases h1 : t.over = true
  · rw [if_pos h1] at n1; exact absurd rfl n1
  simp only [if_neg h1] at n1 n2 ⊢
  by_cases h2 : fb = false
  · simp only [if_pos h2]
    exact ⟨trivial, fun e => by cases e⟩
  simp only [if_neg h2] at n1 n2 ⊢
  have h1 : t.over = false := by simpa using h1
  have h2 : fb = true := by simpa using h2
  have hin := fi h1 h2
  have hin' := fi' h1 h2
  by_cases o1 : (secondF t l.C).2.over = true
  · rw [if_pos o1] at n1; exact absurd rfl n1
  by_cases o2 : (secondF t m.C).2.over = true
  · rw [if_pos o2] at n2; exact absurd rfl n2
  simp only [if_neg o1, if_neg o2]
  have o1 : (secondF t l.C).2.over = false := by simpa using o1
  have o2 : (secondF t m.C).2.over = false := by simpa using o2
  have s1 : ∀ c : List Fr, (secondF t c).2.over = false → (s1T t c).over = false ∧ secondF t c = phaseF (s1T t c) := fun c o => by
    unfold secondF at o ⊢
    by_cases hb : (s1T t c).over = true
    · rw [if_pos hb] at o
      exact absurd o (by rw [show (true, s1T t c).2 = s1T t c from rfl, hb]; decide)
    · rw [if_neg hb]
      exact ⟨by simpa using hb, rfl⟩
  obtain ⟨f1, f2⟩ := s1 _ o1
  obtain ⟨g1, g2⟩ := s1 _ o2
  have tw := h.s1 ol om hin f1 g1
  obtain ⟨r, n, hr⟩ := (s1_in ol hin f1).halts
  obtain ⟨r', n', hr'⟩ := (s1_in om hin' g1).halts
  rw [f2, phaseF_eq hr] at o1 ⊢
  rw [g2, phaseF_eq hr'] at o2 ⊢
  obtain ⟨e1, e2⟩ := Twin.run ha tw hr hr' o1 o2
  rw [e1]
  by_cases hb : r.1 = false
  · simp only [if_pos hb]
    exact ⟨trivial, fun e => by cases e⟩
  simp only [if_neg hb]
  refine ⟨trivial, fun _ => ⟨?_, ?_, ?_⟩⟩
  · show xF r'.2 = xF r.2
    have hx : ∀ k, xK r'.2 k = xK r.2 k := by
      intro k
      induction k with
      | zero => unfold xK; rw [e2.n]
      | succ k ih =>
        unfold xK
        rw [ih, e2.b, e2.n, e2.r, e2.w]
    unfold xF
    rw [e2.m]
    exact hx _
  · have v1 := cost_valid e2.v e2.c (k := r.2.w) (by omega)
    have v2 := cost_valid e2.v' e2.c' (k := r'.2.w) (by omega)
    show V (negF (ix r'.2.cost r'.2.w)) = a * V (negF (ix r.2.cost r.2.w))
    rw [neg_val v1, neg_val v2]
    have := e2.q r.2.w
    have this : V (ix r'.2.cost r.2.w) = a * V (ix r.2.cost r.2.w) := this
    rw [e2.w, this]
    grind
  · exact valid_neg (cost_valid e2.v' e2.c' (k := r'.2.w) (by omega))
end
end Go.Proofs.YtifbaegnkodneaaDoor

/-
  layer 30: SimplexScaled.
-/
namespace Go.Proofs.YtifbaegnkodneaaDoor
open Go.RowKit
set_option linter.unusedSimpArgs false
set_option linter.unusedVariables false
set_option maxRecDepth 100000

/-- The costs times a fraction, as far as they go. -/
def MulTo (l : Lin) (κ : Fr) (j : Nat) (c : List Fr) : Prop := c.length = j ∧ ∀ i, i < j → mulO (ix l.C i) κ = some (ix c i)
theorem MulTo.snoc {l : Lin} {κ : Fr} {j : Nat} {c : List Fr} {p : Fr} (h : MulTo l κ j c) (hp : mulO (ix l.C j) κ = some p) : MulTo l κ (j + 1) (c ++ [p]) := by
  obtain ⟨h1, h2⟩ := h
  refine ⟨by simp [h1], fun i hi => ?_⟩
  by_cases hij : i < j
  · rw [h2 i hij]
    unfold ix
    rw [List.getD_eq_getElem?_getD, List.getD_eq_getElem?_getD, List.getElem?_append_left (by omega)]
  · have : i = j := by omega
    subst this
    rw [hp, ix_lt (by simp [h1])]
    simp [h1]
section
variable {l : Lin} {κ : Fr} {c : List Fr}
theorem mulTo_check (hl : checkF l = 0) (h : MulTo l κ l.C.length c) : checkF ⟨l.A, l.B, c⟩ = 0 := by
  obtain ⟨k1, k2, k3, k4, k5, k6, k7⟩ := check_zero hl
  have hc := h.1
  have hv : AllV c := fun f hf => by
    obtain ⟨i, hi, rfl⟩ := List.getElem_of_mem hf
    have := (mulO_some (h.2 i (by omega))).2.2.1
    rwa [ix_lt hi] at this
  unfold checkF
  simp only [hc]
  rw [if_neg (by omega), if_neg]
  rintro (e | e | e | e | e)
  · rw [e] at hc
    exact k3 (List.length_eq_zero_iff.1 hc.symm)
  · exact e k4
  · exact e k5
  · exact e hv
  · exact e k7
theorem mulTo_scaled (h : MulTo l κ l.C.length c) : Scaled (V κ) l ⟨l.A, l.B, c⟩ := by
  refine ⟨rfl, rfl, h.1, fun k hk => ?_⟩
  have := (mulO_some (h.2 k hk)).2.2.2
  show V (ix c k) = V κ * V (ix l.C k)
  rw [this]
  grind
structure ScAns (p q : List Fr × Fr × Int) (κ : Fr) : Prop where
  e : p.2.2 ≠ 24 → q.2.2 ≠ 24 → q.2.2 = p.2.2
  x : p.2.2 = 0 → q.2.2 = 0 → p.1 = q.1
  v : p.2.2 = 0 → q.2.2 = 0 → ∀ r, mulF p.2.1 κ = (r, true) → r = q.2.1
theorem sc_ans (hl : checkF l = 0) (hk : 0 < κ.N) (hv : ValidF κ) (h : MulTo l κ l.C.length c) : ScAns (solveF l) (solveF ⟨l.A, l.B, c⟩) κ := by
  have hs := (mulTo_scaled h).solve ((V_pos_iff hv).1 hk) hl (mulTo_check hl h)
  refine ⟨fun n1 n2 => (hs n1 n2).1, fun e1 e2 => ?_, fun e1 e2 r hr => ?_⟩
  · exact ((hs (by omega) (by omega)).2 e1).1.symm
  · obtain ⟨_, q1, q2⟩ := (hs (by omega) (by omega)).2 e1
    have hm : mulO (solveF l).2.1 κ = some r := by unfold mulO toO; rw [hr]; rfl
    obtain ⟨_, _, r3, r4⟩ := mulO_some hm
    refine V_inj r3 q2 ?_
    rw [r4, q1]
    grind
end
def kB (by_ : UInt8) : Int := (by_.toNat % 9 : Nat) + 1
def MB (l : Lin) (j : Nat) : Blk := ⟨25, 3, [[.slice 1 false (encRows l.A), .slice 2 false (encRows l.B), .own 3 j]], true, false⟩
theorem reads_u : Reads Tryd.prog 5 UInt8 (fun _ => True) := reads_u8 (by kernel_rfl)
theorem frz34 (H : List Blk) : frzL [3] 4 H = H := by
  refine List.ext_getElem? fun k => ?_
  rw [frzL_get]
  have : [3].contains (4 + k) = false := by simp; omega
  rw [this]
  cases H[k]? <;> rfl
noncomputable def CSc : Ctx := mkC Tryd.prog G0 [(9, .pure sFew), (10, .pure (spec0 (.bool true))), (25, .pure sWhole), (15, .pure sCheckF), (20, .frz sSolve), (26, .pure sMulF), (22, .pure sFracs)]
@[simp] theorem CSc_P : CSc.P = Tryd.prog := rfl
@[simp] theorem CSc_G : CSc.G = G0 := rfl
@[simp] theorem CSc_1 : CSc.S 9 = .pure sFew := rfl
@[simp] theorem CSc_2 : CSc.S 10 = .pure (spec0 (.bool true)) := rfl
@[simp] theorem CSc_3 : CSc.S 25 = .pure sWhole := rfl
@[simp] theorem CSc_4 : CSc.S 15 = .pure sCheckF := rfl
@[simp] theorem CSc_5 : CSc.S 20 = .frz sSolve := rfl
@[simp] theorem CSc_6 : CSc.S 26 = .pure sMulF := rfl
@[simp] theorem CSc_7 : CSc.S 22 = .pure sFracs := rfl
theorem mixCSc : CSc.P.follows .mixedOrders = true := mixed
theorem sigCSc : SigOK CSc := sigOK_cons (entryPure (fewP) Tryd.func9 rfl (by decide)) (sigOK_cons (entryPure (aliveP) Tryd.func10 rfl (by decide)) (sigOK_cons (entryPure (wholeP) Tryd.func25 rfl (by decide)) (sigOK_cons (entryPure (checkP) Tryd.func15 rfl (by decide)) (sigOK_cons (entryFrz (solveP) Tryd.func20 rfl (by decide)) (sigOK_cons (entryPure (mulR) Tryd.func26 rfl (by decide)) (sigOK_cons (entryPure (fracsR) Tryd.func22 rfl (by decide)) (sigOK_nil _ _)))))))
set_option maxHeartbeats 16000000 in
theorem lawScaled : PureOK Tryd.prog G0 8 (spec2 (fun (_ : Lin) (_ : UInt8) => True) (fun _ _ => .bool true)) := by
  refine pureH2 (C := CSc) sigCSc mixCSc Tryd.func8 rfl rfl rfl [9] (by kernel_rfl) (by decide) (fun l b _ => ?_)
  by_cases h1 : FewL l
  case neg => simp [sFew, h1]
  have hs := few_small h1
  by_cases hc : checkF l = 0
  case neg => simp [sFew, h1, sCheckF, hs, hc]
  have hkb : 1 ≤ kB b ∧ kB b ≤ 9 := by unfold kB; omega
  have eb : (Enc.enc b : AV) = .int .u8 (b.toNat : Int) := rfl
  obtain ⟨q, hq⟩ : ∃ q : Nat, b.toNat % 9 = q := ⟨_, rfl⟩
  have hq9 : q < 9 := by omega
  have et : (b.toNat : Int).tmod 9 = q := by rw [Int.tmod_eq_emod_of_nonneg (by omega)]; omega
  have i0 : I64 (q : Int) := by unfold I64; omega
  have i1 : I64 ((q : Int) + 1) := by unfold I64; omega
  obtain ⟨κ, hκ⟩ : ∃ κ : Fr, κ = ⟨(q : Int) + 1, 1⟩ := ⟨_, rfl⟩
  have hκN : 0 < κ.N := by rw [hκ]; show (0 : Int) < q + 1; omega
  have hκv : ValidF κ := by
    rw [hκ]
    exact ⟨by show (1 : Int) ≤ 1; omega, by show (1 : Int) ≤ 1000000000000000; omega, ⟨by show _ ≤ (q : Int) + 1; omega, by show (q : Int) + 1 ≤ _; omega⟩, by show Int.gcd ((q : Int) + 1) 1 = 1; exact Int.gcd_one_right _⟩
  have i8 : IntKind.wrap .u8 (q : Int) = q := by simp [IntKind.wrap, IntKind.bits, IntKind.signed]; omega
  have i9 : IntKind.wrap .i64 (q : Int) = q := w64_in i0
  simp [sFew, h1, sCheckF, hs, hc, sWhole, eb, et, i0, i1, i8, i9]
  refine AW.weak (weak_nilcell 2 0 2 2 29 rfl rfl rfl (by decide)) ?_
  have hcl : l.C.length ≤ 1000 := hs.c
  refine loop_ruleH (C := CSc) sigCSc mixCSc [9] (fun x : Nat × List Fr × List Blk => ⟨[(2, .ptr 0 1 3 0 0), (5, .ptr 1 1 2 0 0), (6, .ptr 2 1 3 0 0), (7, .int .i64 x.1)], CB l :: FB κ :: MB l x.1 :: R2B x.2.1 :: x.2.2⟩) (fun x => x.1 ≤ l.C.length ∧ MulTo l κ x.1 x.2.1) (fun x => l.C.length - x.1) (by kernel_rfl) ⟨(0, [], []), ⟨by simp, rfl, fun i hi => by simp at hi⟩, weak_eq (by simp) (by simp [CB, FB, MB, R2B, hκ])⟩ (fun ⟨j, c, Z⟩ ⟨hj, hm⟩ => ?_)
  simp only at hj hm ⊢
  have hcj := hm.1
  by_cases hlt : j < l.C.length
  · have i2 : I64 ((j : Int) + 1) := by unfold I64; omega
    simp [CB, FB, MB, R2B, hlt]
    refine AW_regionF sigCSc mixCSc [.pure, .read, .pure, .pure, .read, .read, .read, .pure, .pure, .pure, .eff, .eff, .pure] [[],[0],[],[2,0,1],[1,0,2,3],[],[5,3,2,0,1,4],[4,1,0,2,3,5,6],[6,5,3,2,0,1,4,7],[6,5,3,2,0,1,4,7],[],[7,4,1,0,2,3,5,6,8,10],[10,8,11,7,4,1,0,2,3,5,6,9]] (by kernel_rfl) (by kernel_rfl) (by kernel_rfl) (by kernel_rfl) ?_
    have em := mul_ofO (ix l.C j) κ
    have hsn := fun p => hm.snoc (p := p)
    obtain ⟨κn, κd⟩ := κ
    cases hmm : mulO (ix l.C j) ⟨κn, κd⟩ with
    | none =>
      rw [hmm] at em
      simp [CB, FB, MB, R2B, hlt, rowAt_enc hlt, sMulF, em, ofO, F00]
      done
    | some p =>
      rw [hmm] at em hsn
      simp [CB, FB, MB, R2B, hlt, rowAt_enc hlt, sMulF, em, ofO, F00, hcj, i2]
      exact ⟨⟨by omega, by omega⟩, j + 1, c ++ [p], ⟨by omega, hsn p rfl⟩, by omega, Z ++ [FB p], weak_eq (by simp) (by simp [FB])⟩
  · have hje : j = l.C.length := by omega
    subst hje
    have hsm : SmallL ⟨l.A, l.B, c⟩ := ⟨hs.a, hs.b, by show c.length ≤ 1000; omega, hs.r⟩
    have ha := sc_ans hc hκN hκv hm
    have p1 := pre_solve hs
    have p2 := pre_solve hsm
    obtain ⟨x, v, e, hv⟩ : ∃ x v e, solveF l = (x, v, e) := ⟨_, _, _, rfl⟩
    obtain ⟨y, w, f, hw⟩ : ∃ y w f, solveF ⟨l.A, l.B, c⟩ = (y, w, f) := ⟨_, _, _, rfl⟩
    rw [hv, hw] at ha
    obtain ⟨b1, b2, b3⟩ := ha
    simp only at b1 b2 b3
    by_cases he : e = 24
    · subst he
      simp [CB, FB, MB, R2B, hlt, hcj, frz34, sSolve, p1, p2, hv, hw]
      done
    by_cases hf : f = 24
    · subst hf
      simp [CB, FB, MB, R2B, hlt, hcj, frz34, sSolve, p1, p2, hv, hw, he]
      done
    have hfe := b1 he hf
    subst hfe
    obtain ⟨r, ok, hr⟩ : ∃ r ok, mulF v κ = (r, ok) := ⟨_, _, rfl⟩
    have hr' := hr
    obtain ⟨κn, κd⟩ := κ
    by_cases h0 : f = 0
    · subst h0
      have hxy := b2 rfl rfl
      subst hxy
      have hxl : x.length ≤ 1000 := by
        have := (best_of hc (solved_of hc hv)).len
        omega
      have b3 := b3 rfl rfl r
      rw [hr] at b3
      cases ok with
      | false =>
        simp [CB, FB, MB, R2B, hlt, hcj, frz34, sSolve, p1, p2, hv, hw, sMulF, hr, sFracs, hxl]
        done
      | true =>
        have b3 := b3 rfl
        subst b3
        simp [CB, FB, MB, R2B, hlt, hcj, frz34, sSolve, p1, p2, hv, hw, sMulF, hr, sFracs, hxl]
        done
    · simp [CB, FB, MB, R2B, hlt, hcj, frz34, sSolve, p1, p2, hv, hw, he, h0, sMulF, hr]
      done
end Go.Proofs.YtifbaegnkodneaaDoor

/-
  layer 30: what the reference's tableau computes, in plain words.
-/
namespace Go.Proofs.YtifbaegnkodneaaDoor
open Go.RowKit
set_option linter.unusedSimpArgs false
set_option linter.unusedVariables false
set_option maxRecDepth 100000

structure RS (w : Nat) (t : RTab) : Prop where
  w36 : w ≤ 36
  m24 : t.T.length ≤ 24
  row : ∀ r ∈ t.T, r.length = w + 1
  bas : t.Basic.length = t.T.length
  b64 : ∀ b ∈ t.Basic, 0 ≤ b ∧ b ≤ 1000
  cost : t.Cost = [] ∨ t.Cost.length = w + 1
theorem RS.rowAt {w : Nat} {t : RTab} (h : RS w t) {i : Nat} (hi : i < t.T.length) : (ix t.T i).length = w + 1 := h.row _ (ix_mem hi)
def minK (a : List Fr) (f : Fr) (b : List Fr) : Nat → Option (List Fr)
  | 0 => some []
  | k + 1 => match minK a f b k with
    | none => none
    | some l => match mnO (ix a k) f (ix b k) with
      | none => none
      | some d => some (l ++ [d])
def minO (a : List Fr) (f : Fr) (b : List Fr) : Option (List Fr) := minK a f b a.length
def divK (row : List Fr) (p : Fr) : Nat → Option (List Fr)
  | 0 => some []
  | k + 1 => match divK row p k with
    | none => none
    | some l => match divO (ix row k) p with
      | none => none
      | some d => some (l ++ [d])
def divL (row : List Fr) (p : Fr) : Option (List Fr) := divK row p row.length
theorem minK_none {a b : List Fr} {f : Fr} {k : Nat} (h : minK a f b k = none) : ∀ n, minK a f b (k + n) = none
  | 0 => h
  | n + 1 => by
    show minK a f b ((k + n) + 1) = none
    unfold minK
    rw [minK_none h n]
theorem divK_none {row : List Fr} {p : Fr} {k : Nat} (h : divK row p k = none) : ∀ n, divK row p (k + n) = none
  | 0 => h
  | n + 1 => by
    show divK row p ((k + n) + 1) = none
    unfold divK
    rw [divK_none h n]
theorem minK_succ {a b l : List Fr} {f : Fr} {k : Nat} (h : minK a f b k = some l) : minK a f b (k + 1) = match mnO (ix a k) f (ix b k) with
      | none => none
      | some d => some (l ++ [d]) := by
  conv => { lhs; unfold minK; rw [h] }
theorem divK_succ {row l : List Fr} {p : Fr} {k : Nat} (h : divK row p k = some l) : divK row p (k + 1) = match divO (ix row k) p with
      | none => none
      | some d => some (l ++ [d]) := by
  conv => { lhs; unfold divK; rw [h] }
theorem minK_len {a b : List Fr} {f : Fr} : ∀ {k : Nat} {l : List Fr}, minK a f b k = some l → l.length = k
  | 0, l, h => by unfold minK at h; injection h with h; rw [← h]; rfl
  | k + 1, l, h => by
    cases h1 : minK a f b k with
    | none => unfold minK at h; rw [h1] at h; cases h
    | some l' =>
      rw [minK_succ h1] at h
      have := minK_len h1
      cases h2 : mnO (ix a k) f (ix b k) with
      | none => rw [h2] at h; cases h
      | some d =>
        rw [h2] at h
        injection h with h
        rw [← h, List.length_append, this]
        rfl
theorem divK_len {row : List Fr} {p : Fr} : ∀ {k : Nat} {l : List Fr}, divK row p k = some l → l.length = k
  | 0, l, h => by unfold divK at h; injection h with h; rw [← h]; rfl
  | k + 1, l, h => by
    cases h1 : divK row p k with
    | none => unfold divK at h; rw [h1] at h; cases h
    | some l' =>
      rw [divK_succ h1] at h
      have := divK_len h1
      cases h2 : divO (ix row k) p with
      | none => rw [h2] at h; cases h
      | some d =>
        rw [h2] at h
        injection h with h
        rw [← h, List.length_append, this]
        rfl
def newRow (t : RTab) (r j : Nat) (row : List Fr) (i : Nat) : Option (List Fr) := if i = r then some row else if (ix (ix t.T i) j).N ≠ 0 then minO (ix t.T i) (ix (ix t.T i) j) row else some (ix t.T i)
def rowsR (t : RTab) (r j : Nat) (row : List Fr) : Nat → Option (List (List Fr))
  | 0 => some []
  | k + 1 => match rowsR t r j row k with
    | none => none
    | some l => match newRow t r j row k with
      | none => none
      | some x => some (l ++ [x])
theorem rowsR_none {t : RTab} {r j : Nat} {row : List Fr} {k : Nat} (h : rowsR t r j row k = none) : ∀ n, rowsR t r j row (k + n) = none
  | 0 => h
  | n + 1 => by
    show rowsR t r j row ((k + n) + 1) = none
    unfold rowsR
    rw [rowsR_none h n]
theorem rowsR_succ {t : RTab} {r j : Nat} {row : List Fr} {k : Nat} {l : List (List Fr)} (h : rowsR t r j row k = some l) : rowsR t r j row (k + 1) = match newRow t r j row k with
      | none => none
      | some x => some (l ++ [x]) := by
  conv => { lhs; unfold rowsR; rw [h] }
theorem rowsR_len {t : RTab} {r j : Nat} {row : List Fr} : ∀ {k : Nat} {l : List (List Fr)}, rowsR t r j row k = some l → l.length = k
  | 0, l, h => by unfold rowsR at h; injection h with h; rw [← h]; rfl
  | k + 1, l, h => by
    cases h1 : rowsR t r j row k with
    | none => unfold rowsR at h; rw [h1] at h; cases h
    | some l' =>
      rw [rowsR_succ h1] at h
      have := rowsR_len h1
      cases h2 : newRow t r j row k with
      | none => rw [h2] at h; cases h
      | some d =>
        rw [h2] at h
        injection h with h
        rw [← h, List.length_append, this]
        rfl
def basR (t : RTab) (r j k : Nat) : List Int := (List.range k).map fun i => if i = r then (j : Int) else ix t.Basic i
theorem basR_succ (t : RTab) (r j k : Nat) : basR t r j (k + 1) = basR t r j k ++ [if k = r then (j : Int) else ix t.Basic k] := by unfold basR; rw [List.range_succ, List.map_append]; rfl
theorem basR_len (t : RTab) (r j k : Nat) : (basR t r j k).length = k := by unfold basR; rw [List.length_map, List.length_range]
def costR (t : RTab) (j : Nat) (row : List Fr) : Option (List Fr) := if t.Cost ≠ [] ∧ (ix t.Cost j).N ≠ 0 then minO t.Cost (ix t.Cost j) row else some t.Cost
def overR (t : RTab) : RTab := { t with Over := true }
def pivR (t : RTab) (r j : Nat) : RTab := match divL (ix t.T r) (ix (ix t.T r) j) with
  | none => overR t
  | some row => match rowsR t r j row t.T.length with
    | none => overR t
    | some rows => match costR t j row with
      | none => overR t
      | some c => ⟨rows, basR t r j t.T.length, c, t.Over⟩
def lvTR (t : RTab) (s : Int) (low : Fr) (k : Nat) (r : Fr) : Prop := s < 0 ∨ cmpF r low < 0 ∨ (cmpF r low = 0 ∧ ix t.Basic k < ix t.Basic s.toNat)
instance (t : RTab) (s : Int) (low : Fr) (k : Nat) (r : Fr) : Decidable (lvTR t s low k r) := inferInstanceAs (Decidable (_ ∨ _ ∨ (_ ∧ _)))
def lvR (t : RTab) (j : Nat) : Nat → Option (Int × Fr)
  | 0 => some (-1, F01)
  | k + 1 => match lvR t j k with
    | none => none
    | some (s, low) => if (ix (ix t.T k) j).N ≤ 0 then some (s, low) else match divO (ix (ix t.T k) ((ix t.T k).length - 1)) (ix (ix t.T k) j) with
      | none => none
      | some r => if lvTR t s low k r then some ((k : Int), r) else some (s, low)
theorem lvR_none {t : RTab} {j k : Nat} (h : lvR t j k = none) : ∀ n, lvR t j (k + n) = none
  | 0 => h
  | n + 1 => by
    show lvR t j ((k + n) + 1) = none
    unfold lvR
    rw [lvR_none h n]
theorem lvR_succ {t : RTab} {j k : Nat} {s : Int} {low : Fr} (h : lvR t j k = some (s, low)) : lvR t j (k + 1) = if (ix (ix t.T k) j).N ≤ 0 then some (s, low) else match divO (ix (ix t.T k) ((ix t.T k).length - 1)) (ix (ix t.T k) j) with
      | none => none
      | some r => if lvTR t s low k r then some ((k : Int), r) else some (s, low) := by
  conv => { lhs; unfold lvR; rw [h] }
theorem lvR_s {t : RTab} {j : Nat} : ∀ {k : Nat} {s : Int} {low : Fr}, lvR t j k = some (s, low) → s = -1 ∨ (0 ≤ s ∧ s < k)
  | 0, s, low, h => by unfold lvR at h; injection h with h; injection h with h1 h2; exact .inl h1.symm
  | k + 1, s, low, h => by
    cases h1 : lvR t j k with
    | none => unfold lvR at h; rw [h1] at h; cases h
    | some p =>
      obtain ⟨s', low'⟩ := p
      have ih := lvR_s h1
      rw [lvR_succ h1] at h
      split at h
      · injection h with h; injection h with h2 h3; omega
      · split at h
        · cases h
        · split at h
          · injection h with h; injection h with h2 h3; omega
          · injection h with h; injection h with h2 h3; omega
def leavR (t : RTab) (j : Nat) : Int × Bool := match lvR t j t.T.length with
  | none => (-1, false)
  | some (s, _) => (s, true)
/-- The first of the columns from j on whose cost is below zero; n: none. -/
def entR (t : RTab) (n : Nat) : Nat → Nat
  | 0 => n
  | k + 1 => if (ix t.Cost (n - (k + 1))).N < 0 then n - (k + 1) else entR t n k
def stepR (t : RTab) : (RTab × Bool) ⊕ RTab :=
  let n := t.Cost.length - 1
  let j := entR t n n
  if t.Over then .inl (t, true) else if j = n then .inl (t, true)
  else if (leavR t j).2 = false then .inl (overR t, true)
  else if (leavR t j).1 < 0 then .inl (t, false) else .inr (pivR t (leavR t j).1.toNat j)
def runR : Nat → RTab → Option (RTab × Bool)
  | 0, _ => none
  | n + 1, t => match stepR t with
    | .inl r => some r
    | .inr t' => runR n t'
def HaltsR (t : RTab) : Prop := ∃ r n, runR n t = some r
open Classical in
noncomputable def phaseR (t : RTab) : RTab × Bool := if h : HaltsR t then h.choose else (t, false)
theorem runR_more : ∀ {n : Nat} {t : RTab} {r : RTab × Bool} (k : Nat), runR n t = some r → runR (n + k) t = some r
  | 0, _, _, _, h => by cases h
  | n + 1, t, r, k, h => by
    rw [show n + 1 + k = (n + k) + 1 by omega]
    unfold runR at h ⊢
    cases hs : stepR t with
    | inl q => rw [hs] at h; exact h
    | inr t' => rw [hs] at h; exact runR_more k h
theorem phaseR_eq {t : RTab} {n : Nat} {r : RTab × Bool} (h : runR n t = some r) : phaseR t = r := by
  have hx : HaltsR t := ⟨r, n, h⟩
  unfold phaseR
  rw [dif_pos hx]
  obtain ⟨k, hk⟩ := hx.choose_spec
  have h1 := runR_more k h
  have h2 := runR_more n hk
  rw [show k + n = n + k by omega, h1] at h2
  injection h2 with h2
  exact h2.symm
/-! ### first -/
def f1R (t : RTab) (size : Nat) : Nat → List Fr × Bool
  | 0 => (List.replicate (size + 1) F01, true)
  | k + 1 => if (f1R t size k).2 = false then f1R t size k
    else if (size : Int) ≤ ix t.Basic k then (match minO (f1R t size k).1 F11 (ix t.T k) with
      | none => ((f1R t size k).1, false)
      | some d => (d, true))
    else f1R t size k
def someR (t : RTab) (size k : Nat) : Bool := (List.range k).any fun i => decide ((size : Int) ≤ ix t.Basic i)
def colR (t : RTab) (i n : Nat) : Nat → Nat
  | 0 => n
  | k + 1 => if (ix (ix t.T i) (n - (k + 1))).N ≠ 0 then n - (k + 1) else colR t i n k
def repR (t : RTab) (size i : Nat) : RTab := if t.Over then t else if ix t.Basic i < size then t else if colR t i size size < size then pivR t i (colR t i size size) else t
def repsR (t : RTab) (size : Nat) : Nat → RTab
  | 0 => t
  | k + 1 => repR (repsR t size k) size k
def noCost (t : RTab) : RTab := { t with Cost := [] }
noncomputable def firstR (t : RTab) (size : Nat) : RTab × Bool :=
  if (f1R t size t.T.length).2 = false then (⟨t.T, t.Basic, (f1R t size t.T.length).1, true⟩, true)
  else if someR t size t.T.length = false then (⟨t.T, t.Basic, (f1R t size t.T.length).1, t.Over⟩, true)
  else if (phaseR ⟨t.T, t.Basic, (f1R t size t.T.length).1, t.Over⟩).1.Over then ((phaseR ⟨t.T, t.Basic, (f1R t size t.T.length).1, t.Over⟩).1, true)
  else if (ix (phaseR ⟨t.T, t.Basic, (f1R t size t.T.length).1, t.Over⟩).1.Cost size).N < 0 then ((phaseR ⟨t.T, t.Basic, (f1R t size t.T.length).1, t.Over⟩).1, false)
  else (repsR (noCost (phaseR ⟨t.T, t.Basic, (f1R t size t.T.length).1, t.Over⟩).1) size (phaseR ⟨t.T, t.Basic, (f1R t size t.T.length).1, t.Over⟩).1.T.length, true)
end Go.Proofs.YtifbaegnkodneaaDoor

/-
  layer 30: zeros and minus of the reference.
-/
namespace Go.Proofs.YtifbaegnkodneaaDoor
open Go.RowKit
set_option linter.unusedSimpArgs false
set_option linter.unusedVariables false
set_option maxRecDepth 100000

noncomputable def CRz : Ctx := mkC Tryd.prog G0 [(53, .pure (spec0 (Enc.enc F01)))]
@[simp] theorem CRz_P : CRz.P = Tryd.prog := rfl
@[simp] theorem CRz_G : CRz.G = G0 := rfl
@[simp] theorem CRz_1 : CRz.S 53 = .pure (spec0 (Enc.enc F01)) := rfl
theorem mixCRz : CRz.P.follows .mixedOrders = true := mixed
theorem sigCRz : SigOK CRz := sigOK_cons (entryPure (zeroR) Tryd.func53 rfl (by decide)) (sigOK_nil _ _)
def sZeros : List AV → Option (Prop × AV) := spec1 (fun (n : Int) => 0 ≤ n ∧ n ≤ 1000) (fun n => Enc.enc (List.replicate n.toNat F01))
set_option maxHeartbeats 4000000 in
theorem zerosR : PureOK Tryd.prog G0 42 sZeros := by
  refine pureH1 (C := CRz) sigCRz mixCRz Tryd.func42 rfl rfl rfl [] (by kernel_rfl) (by decide) (fun n ⟨h0, h1⟩ => ?_)
  obtain ⟨n, rfl⟩ : ∃ m : Nat, n = m := ⟨n.toNat, by omega⟩
  simp
  refine AW.weak (weak_nil 3 2 29 rfl (by decide)) ?_
  refine loop_ruleH (C := CRz) sigCRz mixCRz [] (fun k : Nat => ⟨[(0, .int .i64 n), (3, .own 0 k), (4, .int .i64 k)], [R2B (List.replicate k F01)]⟩) (fun k => k ≤ n) (fun k => n - k) (by kernel_rfl) ⟨0, by simp, weak_eq (by simp) (by simp [R2B])⟩ (fun k hk => ?_)
  by_cases hlt : k < n
  · have i1 : I64 ((k : Int) + 1) := by unfold I64; omega
    have hlt' : (k : Int) < n := by omega
    simp [R2B, hlt, hlt', i1, F01]
    exact ⟨⟨by omega, by omega⟩, k + 1, by omega, by omega, weak_eq (by simp) (by simp [R2B, List.replicate_succ', F01])⟩
  · have hke : k = n := by omega
    subst hke
    simp [R2B]
noncomputable def CRm : Ctx := mkC Tryd.prog G0 [(26, .pure sMulF), (66, .pure sSubF)]
@[simp] theorem CRm_P : CRm.P = Tryd.prog := rfl
@[simp] theorem CRm_G : CRm.G = G0 := rfl
@[simp] theorem CRm_1 : CRm.S 26 = .pure sMulF := rfl
@[simp] theorem CRm_2 : CRm.S 66 = .pure sSubF := rfl
theorem mixCRm : CRm.P.follows .mixedOrders = true := mixed
theorem sigCRm : SigOK CRm := sigOK_cons (entryPure (mulR) Tryd.func26 rfl (by decide)) (sigOK_cons (entryPure (subR) Tryd.func66 rfl (by decide)) (sigOK_nil _ _))
def sMinR : List AV → Option (Prop × AV) := spec3 (fun (a : List Fr) (_ : Fr) (b : List Fr) => a.length ≤ 1000 ∧ a.length ≤ b.length) (fun a f b => .tup [Enc.enc ((minO a f b).getD []), .bool (minO a f b).isSome])
set_option maxHeartbeats 8000000 in
theorem minR : PureOK Tryd.prog G0 43 sMinR := by
  refine pureH3 (C := CRm) sigCRm mixCRm Tryd.func43 rfl rfl rfl [5, 6] (by kernel_rfl) (by decide) (fun a f b ⟨hl, hb⟩ => ?_)
  obtain ⟨R, hR⟩ : ∃ R, minO a f b = R := ⟨_, rfl⟩
  rw [hR]
  simp
  refine AW.weak (weak_nil 8 2 29 rfl (by decide)) ?_
  refine loop_ruleH (C := CRm) sigCRm mixCRm [5, 6] (fun q : Nat × List Fr × List Blk => ⟨[(0, Enc.enc a), (2, Enc.enc b), (4, .ptr 0 1 2 0 0), (8, .own 1 q.1), (9, .int .i64 q.1)], FB f :: R2B q.2.1 :: q.2.2⟩) (fun q => q.1 ≤ a.length ∧ minK a f b q.1 = some q.2.1) (fun q => a.length - q.1) (by kernel_rfl) ⟨(0, [], []), ⟨by simp, rfl⟩, weak_eq (by simp) (by simp [FB, R2B])⟩ (fun ⟨k, c, Z⟩ ⟨hk, hm⟩ => ?_)
  simp only at hk hm ⊢
  have hcl := minK_len hm
  by_cases hlt : k < a.length
  · have i1 : I64 ((k : Int) + 1) := by unfold I64; omega
    have hltb : k < b.length := by omega
    have hsn := minK_succ hm
    have em := mul_ofO f (ix b k)
    have fin : minK a f b (k + 1) = none → R = none := fun h => by
      rw [← hR]
      have := minK_none h (a.length - (k + 1))
      rwa [show k + 1 + (a.length - (k + 1)) = a.length by omega] at this
    obtain ⟨fn, fd⟩ := f
    simp [FB, R2B, hlt]
    refine AW_regionF sigCRm mixCRm [.read, .pure, .pure, .pure, .read, .read, .pure, .pure, .pure, .eff, .eff, .pure] [[],[],[],[2,1],[1,2,3],[3,2,1,4,0],[0,4,1,2,3,5],[5,3,2,1,4,0,6],[5,3,2,1,4,0,6],[],[6,0,4,1,2,3,5,7,9],[9,7,10,6,0,4,1,2,3,5,8]] (by kernel_rfl) (by kernel_rfl) (by kernel_rfl) (by kernel_rfl) ?_
    unfold mnO at hsn
    cases hmm : mulO ⟨fn, fd⟩ (ix b k) with
    | none =>
      rw [hmm] at hsn em
      have hRn := fin hsn
      subst hRn
      obtain ⟨r, ok, hs⟩ : ∃ r ok, subF (ix a k) F00 = (r, ok) := ⟨_, _, rfl⟩
      simp only [F00] at hs
      have i0 : I64 (0 : Int) := by unfold I64; omega
      simp [FB, R2B, hltb, rowAt_enc hltb, sMulF, em, ofO, F00]
      refine AW_regionF sigCRm mixCRm [.pure, .pure, .pure, .read, .read, .read, .pure, .pure, .pure, .eff, .eff, .pure] [[],[],[1,0],[0,1,2],[],[4,2,1,0,3],[3,0,1,2,4,5],[5,4,2,1,0,3,6],[5,4,2,1,0,3,6],[],[6,3,0,1,2,4,5,7,9],[9,7,10,6,3,0,1,2,4,5,8]] (by kernel_rfl) (by kernel_rfl) (by kernel_rfl) (by kernel_rfl) ?_
      cases ok <;> simp [FB, R2B, hlt, rowAt_enc hlt, sSubF, hs, i0, F00]
      all_goals done
    | some p =>
      rw [hmm] at hsn em
      have hI := mulO_I64 hmm
      have es := sub_ofO (ix a k) p
      simp [FB, R2B, hltb, rowAt_enc hltb, sMulF, em, ofO]
      refine AW_regionF sigCRm mixCRm [.pure, .pure, .pure, .read, .read, .read, .pure, .pure, .pure, .eff, .eff, .pure] [[],[],[1,0],[0,1,2],[],[4,2,1,0,3],[3,0,1,2,4,5],[5,4,2,1,0,3,6],[5,4,2,1,0,3,6],[],[6,3,0,1,2,4,5,7,9],[9,7,10,6,3,0,1,2,4,5,8]] (by kernel_rfl) (by kernel_rfl) (by kernel_rfl) (by kernel_rfl) ?_
      simp only at hsn
      cases hss : subO (ix a k) p with
      | none =>
        rw [hss] at hsn es
        have hRn := fin hsn
        subst hRn
        simp [FB, R2B, hlt, rowAt_enc hlt, sSubF, es, hI, ofO, F00]
        done
      | some d =>
        rw [hss] at hsn es
        simp [FB, R2B, hlt, rowAt_enc hlt, sSubF, es, hI, ofO, hcl, i1]
        exact ⟨⟨by omega, by omega⟩, (k + 1), (c ++ [d]), ⟨by omega, hsn⟩, by omega, Z ++ [FB p, FB d], weak_eq (by simp) (by simp [FB])⟩
  · have hke : k = a.length := by omega
    have hRs : R = some c := by rw [← hR, ← hm, hke]; rfl
    subst hRs
    simp [FB, R2B, hlt, hcl]
end Go.Proofs.YtifbaegnkodneaaDoor

/-
  layer 30: pivot of the reference.
-/
namespace Go.Proofs.YtifbaegnkodneaaDoor
open Go.RowKit
set_option linter.unusedSimpArgs false
set_option linter.unusedVariables false
set_option maxRecDepth 100000

def RB (t : RTab) : Blk := ⟨58, 4, [[.slice 1 false (encRows t.T), .slice 1 false (encRows t.Basic), .slice 2 false (encRows t.Cost), .bool t.Over]], true, true⟩
def RZ : Blk := ⟨58, 4, [[.slice 1 true [], .slice 1 true [], .slice 2 true [], .bool false]], true, true⟩
def R3B (l : List Int) : Blk := ⟨3, 1, encRows l, true, true⟩
structure PrePv (t : RTab) (i j : Int) : Prop where
  s : ∃ w, RS w t ∧ j < w
  i : 0 ≤ i ∧ i < t.T.length
  j : 0 ≤ j
noncomputable def CRp2 : Ctx := mkC Tryd.prog G0 [(84, .pure sDivF), (43, .pure sMinR)]
@[simp] theorem CRp2_P : CRp2.P = Tryd.prog := rfl
@[simp] theorem CRp2_G : CRp2.G = G0 := rfl
@[simp] theorem CRp2_1 : CRp2.S 84 = .pure sDivF := rfl
@[simp] theorem CRp2_2 : CRp2.S 43 = .pure sMinR := rfl
theorem mixCRp2 : CRp2.P.follows .mixedOrders = true := mixed
theorem sigCRp2 : SigOK CRp2 := sigOK_cons (entryPure (divR) Tryd.func84 rfl (by decide)) (sigOK_cons (entryPure (minR) Tryd.func43 rfl (by decide)) (sigOK_nil _ _))
def sPivR : List AV → Option (Prop × AV) := spec3 PrePv (fun t i j => Enc.enc (pivR t i.toNat j.toNat))
set_option maxHeartbeats 16000000 in
theorem pivRR : PureOK Tryd.prog G0 65 sPivR := by
  refine pureH3 (C := CRp2) sigCRp2 mixCRp2 Tryd.func65 rfl rfl rfl [5, 29] (by kernel_rfl) (by decide) (fun t i j hp => ?_)
  obtain ⟨⟨w, hS, hjw⟩, ⟨hi0, hi⟩, hj0⟩ := hp
  obtain ⟨i, rfl⟩ : ∃ m : Nat, i = m := ⟨i.toNat, by omega⟩
  obtain ⟨j, rfl⟩ : ∃ m : Nat, j = m := ⟨j.toNat, by omega⟩
  rw [Int.toNat_natCast, Int.toNat_natCast]
  have hi : i < t.T.length := by omega
  have hjw : j < w := by omega
  have hw := hS.w36
  have hm := hS.m24
  have hrow := hS.rowAt hi
  have hjr : j < (ix t.T i).length := by omega
  obtain ⟨R, hR⟩ : ∃ R, pivR t i j = R := ⟨_, rfl⟩
  rw [hR]
  simp
  refine AW.weak (weak_nil 7 2 29 rfl (by decide)) ?_
  refine loop_ruleH (C := CRp2) sigCRp2 mixCRp2 [5, 29] (fun q : Nat × List Fr × List Blk => ⟨[(1, .int .i64 i), (2, .int .i64 j), (3, .ptr 0 1 4 0 0), (6, .ptr 1 1 4 0 0), (7, .own 2 q.1), (8, .int .i64 q.1)], RB t :: RZ :: R2B q.2.1 :: q.2.2⟩) (fun q => q.1 ≤ w + 1 ∧ divK (ix t.T i) (ix (ix t.T i) j) q.1 = some q.2.1) (fun q => w + 1 - q.1) (by kernel_rfl) ⟨(0, [], []), ⟨by simp, rfl⟩, weak_eq (by simp) (by simp [RB, RZ, R2B])⟩ (fun ⟨k, c, Z⟩ ⟨hk, hd⟩ => ?_)
  simp only at hk hd ⊢
  have hcl := divK_len hd
  by_cases hlt : k < w + 1
  · have i1 : I64 ((k : Int) + 1) := by unfold I64; omega
    have hkr : k < (ix t.T i).length := by omega
    have hlt' : (k : Int) < (w : Int) + 1 := by omega
    have hsn := divK_succ hd
    have ed := div_ofO (ix (ix t.T i) k) (ix (ix t.T i) j)
    simp [RB, RZ, R2B, hi, rowAt_enc hi, hkr, hrow, hlt']
    refine AW_regionF sigCRp2 mixCRp2 [.pure, .read, .pure, .pure, .read, .pure, .pure, .read, .pure, .read, .pure, .pure, .read, .pure, .pure, .read, .read, .pure, .pure, .pure, .eff, .eff, .pure] [[],[0],[],[2,0,1],[1,0,2,3],[],[5,3,2,0,1,4],[4,1,0,2,3,5,6],[],[8],[],[10,8,9],[9,8,10,11],[],[13,11,10,8,9,12],[12,9,8,10,11,13,14],[14,13,11,10,8,9,12,15,6,5,3,2,0,1,4,7],[7,4,1,0,2,3,5,6,15,12,9,8,10,11,13,14,16],[16,14,13,11,10,8,9,12,15,6,5,3,2,0,1,4,7,17],[16,14,13,11,10,8,9,12,15,6,5,3,2,0,1,4,7,17],[],[17,7,4,1,0,2,3,5,6,15,12,9,8,10,11,13,14,16,18,20],[20,18,21,17,7,4,1,0,2,3,5,6,15,12,9,8,10,11,13,14,16,19]] (by kernel_rfl) (by kernel_rfl) (by kernel_rfl) (by kernel_rfl) ?_
    cases hdd : divO (ix (ix t.T i) k) (ix (ix t.T i) j) with
    | none =>
      rw [hdd] at hsn ed
      have hRn : R = overR t := by
        have := divK_none hsn ((w + 1) - (k + 1))
        rw [show k + 1 + ((w + 1) - (k + 1)) = w + 1 by omega, ← hrow] at this
        rw [← hR]
        unfold pivR divL
        rw [this]
      subst hRn
      simp [RB, RZ, R2B, hi, rowAt_enc hi, hkr, rowAt_enc hkr, hjr, rowAt_enc hjr, hrow, sDivF, ed, ofO, F00, overR]
      exact ⟨by omega, by omega⟩
    | some d =>
      rw [hdd] at hsn ed
      simp [RB, RZ, R2B, hi, rowAt_enc hi, hkr, rowAt_enc hkr, hjr, rowAt_enc hjr, hrow, sDivF, ed, ofO, hcl, i1]
      exact ⟨by omega, by omega, ⟨by omega, by omega⟩, (k + 1), (c ++ [d]), ⟨by omega, hsn⟩, by omega, Z ++ [FB d], weak_eq (by simp) (by simp [FB])⟩
  · have hke : k = w + 1 := by omega
    have hdL : divL (ix t.T i) (ix (ix t.T i) j) = some c := by unfold divL; rw [hrow, ← hke]; exact hd
    have hR2 : R = match rowsR t i j c t.T.length with
      | none => overR t
      | some rows => match costR t j c with
        | none => overR t
        | some cs => ⟨rows, basR t i j t.T.length, cs, t.Over⟩ := by
      rw [← hR]
      unfold pivR
      rw [hdL]
      all_goals rfl
    have hlt' : ¬ (k : Int) < (w : Int) + 1 := by omega
    simp [RB, RZ, R2B, hi, rowAt_enc hi, hrow, hlt']
    refine AW.weak (weak_nil 11 1 23 rfl (by decide)) ?_
    refine AW.weak (weak_nil 12 1 3 rfl (by decide)) ?_
    have hck : c.length = w + 1 := by omega
    have g1 : ∀ (x : Blk) (Y : List Blk), (Z ++ x :: Y)[Z.length]? = some x := fun x Y => by simp
    have g2 : ∀ (x y : Blk) (Y : List Blk), (Z ++ x :: y :: Y)[Z.length + 1]? = some y := fun x y Y => by simp
    have s1 : ∀ (x x' : Blk) (Y : List Blk), (Z ++ x :: Y).set Z.length x' = Z ++ x' :: Y := fun x x' Y => by simp
    have s2 : ∀ (x y y' : Blk) (Y : List Blk), (Z ++ x :: y :: Y).set (Z.length + 1) y' = Z ++ x :: y' :: Y := fun x y y' Y => by simp
    have fz : ∀ H : List Blk, frzL [2] 3 H = H := fun H => by
      refine List.ext_getElem? fun q => ?_
      rw [frzL_get]
      have : [2].contains (3 + q) = false := by simp; omega
      rw [this]
      cases H[q]? <;> rfl
    have scal22 : isScalT CRp2 22 = false := by show isScalT ⟨Tryd.prog, fun _ => .no, G0⟩ 22 = false; kernel_rfl
    refine loop_ruleH (C := CRp2) sigCRp2 mixCRp2 [5, 29] (fun q : Nat × List (List Fr) × List Blk => ⟨[(1, .int .i64 i), (2, .int .i64 j), (3, .ptr 0 1 4 0 0), (6, .ptr 1 1 4 0 0), (7, .slice 2 false (encRows c)), (11, .own (Z.length + 3) q.1), (12, .own (Z.length + 4) q.1), (13, .int .i64 q.1)], RB t :: RZ :: ⟨29, 2, encRows c, false, true⟩ :: (Z ++ R1B q.2.1 :: R3B (basR t i j q.1) :: q.2.2)⟩) (fun q => q.1 ≤ t.T.length ∧ rowsR t i j c q.1 = some q.2.1) (fun q => t.T.length - q.1) (by kernel_rfl) ⟨(0, [], []), ⟨by simp, rfl⟩, (weak_view 7).trans (weak_eq (by simp [hck, RB, RZ, R2B, hke]) (by simp [RB, RZ, R2B, R1B, R3B, fz, basR]))⟩ (fun ⟨q, rs, Y⟩ ⟨hq, hrs⟩ => ?_)
    simp only at hq hrs ⊢
    have hrl := rowsR_len hrs
    have hbl := basR_len t i j q
    have hbs := basR_succ t i j q
    by_cases hqt : q < t.T.length
    · have i1 : I64 ((q : Int) + 1) := by unfold I64; omega
      have hqb : q < t.Basic.length := by rw [hS.bas]; exact hqt
      have hsn := rowsR_succ hrs
      have fin : rowsR t i j c (q + 1) = none → R = overR t := fun h => by
        have := rowsR_none h (t.T.length - (q + 1))
        rw [show q + 1 + (t.T.length - (q + 1)) = t.T.length by omega] at this
        rw [hR2, this]
      have hjq : j < (ix t.T q).length := by have := hS.rowAt hqt; omega
      have hjq' : j < w + 1 := by omega
      have hrq := hS.rowAt hqt
      unfold newRow at hsn
      by_cases hqi : q = i
      · subst hqi
        rw [if_pos rfl] at hsn hbs
        simp [RB, RZ, R1B, R3B, hqt, rowAt_enc hqt, hqb, rowAt_enc hqb, g1, g2, s1, s2, hrl, hbl, scal22, i1]
        exact ⟨⟨by omega, by omega⟩, ⟨by omega, by omega⟩, q + 1, rs ++ [c], ⟨by omega, hsn⟩, by omega, Y, weak_eq (by simp) (by simp [hbs])⟩
      · rw [if_neg hqi] at hsn hbs
        have hqi' : ¬ (q : Int) = i := by omega
        by_cases hN : (ix (ix t.T q) j).N = 0
        · rw [if_neg (fun h => h hN)] at hsn
          simp [RB, RZ, R1B, R3B, hqt, rowAt_enc hqt, hqb, rowAt_enc hqb, g1, g2, s1, s2, hrl, hbl, scal22, i1, hqi, hqi', hjq, rowAt_enc hjq, hN, hrq, hjq']
          exact ⟨by omega, ⟨by omega, by omega⟩, ⟨by omega, by omega⟩, q + 1, rs ++ [ix t.T q], ⟨by omega, hsn⟩, by omega, Y, weak_eq (by simp) (by simp [hbs])⟩
        · rw [if_pos hN] at hsn
          have hm1 : (ix t.T q).length ≤ 1000 := by omega
          have hm2 : (ix t.T q).length ≤ c.length := by omega
          cases hmo : minO (ix t.T q) (ix (ix t.T q) j) c with
          | none =>
            rw [hmo] at hsn
            have hRn := fin hsn
            subst hRn
            simp [RB, RZ, R1B, R3B, hqt, rowAt_enc hqt, hqb, rowAt_enc hqb, g1, g2, s1, s2, hrl, hbl, scal22, i1, hqi, hqi', hjq, rowAt_enc hjq, hN, hrq, hjq', sMinR, hm1, hm2, hmo, hck, overR]
            exact ⟨by omega, by omega⟩
          | some x =>
            rw [hmo] at hsn
            simp [RB, RZ, R1B, R3B, hqt, rowAt_enc hqt, hqb, rowAt_enc hqb, g1, g2, s1, s2, hrl, hbl, scal22, i1, hqi, hqi', hjq, rowAt_enc hjq, hN, hrq, hjq', sMinR, hm1, hm2, hmo, hck]
            exact ⟨by omega, by omega, ⟨by omega, by omega⟩, ⟨by omega, by omega⟩, q + 1, rs ++ [x], ⟨by omega, hsn⟩, by omega, Y, weak_eq (by simp) (by simp [hbs])⟩
    · have hqe : q = t.T.length := by omega
      subst hqe
      rw [hrs] at hR2
      simp only at hR2
      have hlt0 : ¬ (t.T.length : Int) < t.T.length := by omega
      unfold costR at hR2
      by_cases hC : t.Cost = []
      · rw [if_neg (fun h => h.1 hC)] at hR2
        simp only at hR2
        simp [RB, RZ, R1B, R3B, hC, g1, g2, hrl, hbl]
        simp [hR2, hC]
      · have hCl : t.Cost.length = w + 1 := hS.cost.resolve_left hC
        have hjc : j < t.Cost.length := by omega
        have hC0 : (0 : Int) < t.Cost.length := by omega
        have hjw1 : j < w + 1 := by omega
        by_cases hN : (ix t.Cost j).N = 0
        · rw [if_neg (fun h => h.2 hN)] at hR2
          simp only at hR2
          simp [RB, RZ, R1B, R3B, g1, g2, hrl, hbl, hC, hC0, hjc, rowAt_enc hjc, hN, hCl]
          subst hR2
          exact ⟨by omega, rfl, rfl, rfl, rfl⟩
        · rw [if_pos ⟨hC, hN⟩] at hR2
          have hm1 : t.Cost.length ≤ 1000 := by omega
          have hm2 : t.Cost.length ≤ c.length := by omega
          simp [RB, RZ, R1B, R3B, g1, g2, hrl, hbl, hC, hC0, hjc, rowAt_enc hjc, hN, hCl]
          refine ⟨by omega, ?_⟩
          refine AW_regionF sigCRp2 mixCRp2 [.pure, .read, .pure, .read, .pure, .pure, .read, .pure, .read, .pure, .pure, .pure, .pure, .pure] [[],[0],[],[2],[],[4,2,3],[3,2,4,5],[],[7,5,4,2,3,6,0,1],[1,0,6,3,2,4,5,7,8],[8,7,5,4,2,3,6,0,1,9],[8,7,5,4,2,3,6,0,1,9],[9,1,0,6,3,2,4,5,7,8,10],[10,12,9,1,0,6,3,2,4,5,7,8,11]] (by kernel_rfl) (by kernel_rfl) (by kernel_rfl) (by kernel_rfl) ?_
          cases hmo : minO t.Cost (ix t.Cost j) c with
          | none =>
            rw [hmo] at hR2
            simp only at hR2
            subst hR2
            simp [RB, RZ, R1B, R3B, g1, g2, hrl, hbl, hjc, rowAt_enc hjc, hCl, sMinR, hm1, hm2, hmo, hck, overR]
            exact ⟨by omega, by omega⟩
          | some x =>
            rw [hmo] at hR2
            simp only at hR2
            subst hR2
            simp [RB, RZ, R1B, R3B, g1, g2, hrl, hbl, hjc, rowAt_enc hjc, hCl, sMinR, hm1, hm2, hmo, hck]
            exact ⟨by omega, by omega⟩
end Go.Proofs.YtifbaegnkodneaaDoor

/-
  layer 30: leaving of the reference.
-/
namespace Go.Proofs.YtifbaegnkodneaaDoor
open Go.RowKit
set_option linter.unusedSimpArgs false
set_option linter.unusedVariables false
set_option maxRecDepth 100000

structure PreLv (t : RTab) (j : Int) : Prop where
  s : ∃ w, RS w t ∧ j < w
  j : 0 ≤ j
noncomputable def CRl : Ctx := mkC Tryd.prog G0 [(53, .pure (spec0 (Enc.enc F01))), (84, .pure sDivF), (24, .pure sCmpF)]
@[simp] theorem CRl_P : CRl.P = Tryd.prog := rfl
@[simp] theorem CRl_G : CRl.G = G0 := rfl
@[simp] theorem CRl_1 : CRl.S 53 = .pure (spec0 (Enc.enc F01)) := rfl
@[simp] theorem CRl_2 : CRl.S 84 = .pure sDivF := rfl
@[simp] theorem CRl_3 : CRl.S 24 = .pure sCmpF := rfl
theorem mixCRl : CRl.P.follows .mixedOrders = true := mixed
theorem sigCRl : SigOK CRl := sigOK_cons (entryPure (zeroR) Tryd.func53 rfl (by decide)) (sigOK_cons (entryPure (divR) Tryd.func84 rfl (by decide)) (sigOK_cons (entryPure (cmpR) Tryd.func24 rfl (by decide)) (sigOK_nil _ _)))
def sLeavR : List AV → Option (Prop × AV) := spec2 PreLv (fun t j => .tup [.int .i64 (leavR t j.toNat).1, .bool (leavR t j.toNat).2])
set_option maxHeartbeats 16000000 in
theorem leavRR : PureOK Tryd.prog G0 67 sLeavR := by
  refine pureH2 (C := CRl) sigCRl mixCRl Tryd.func67 rfl rfl rfl [7, 11] (by kernel_rfl) (by decide) (fun t j hp => ?_)
  obtain ⟨⟨w, hS, hjw⟩, hj0⟩ := hp
  obtain ⟨j, rfl⟩ : ∃ m : Nat, j = m := ⟨j.toNat, by omega⟩
  rw [Int.toNat_natCast]
  have hjw : j < w := by omega
  have hw := hS.w36
  have hm := hS.m24
  obtain ⟨R, hR⟩ : ∃ R, leavR t j = R := ⟨_, rfl⟩
  rw [hR]
  simp [F01]
  refine loop_ruleH (C := CRl) sigCRl mixCRl [7, 11] (fun q : Nat × (Int × Fr) × List Blk => ⟨[(1, .int .i64 j), (2, .ptr 0 1 4 0 0), (6, .int .i64 q.2.1.1), (7, .ptr 1 1 2 0 0), (8, .int .i64 q.1)], RB t :: FB q.2.1.2 :: q.2.2⟩) (fun q => q.1 ≤ t.T.length ∧ lvR t j q.1 = some q.2.1) (fun q => t.T.length - q.1) (by kernel_rfl) ⟨(0, (-1, F01), []), ⟨by simp, rfl⟩, weak_eq (by simp) (by simp [RB, FB, F01])⟩ (fun ⟨k, ⟨s, low⟩, Z⟩ ⟨hk, hl⟩ => ?_)
  simp only at hk hl ⊢
  have hs1 := lvR_s hl
  by_cases hlt : k < t.T.length
  · have i1 : I64 ((k : Int) + 1) := by unfold I64; omega
    have hsn := lvR_succ hl
    have fin : lvR t j (k + 1) = none → R = (-1, false) := fun h => by
      have := lvR_none h (t.T.length - (k + 1))
      rw [show k + 1 + (t.T.length - (k + 1)) = t.T.length by omega] at this
      rw [← hR]
      unfold leavR
      rw [this]
    have hrk := hS.rowAt hlt
    have hjr : j < (ix t.T k).length := by omega
    have hwr : w < (ix t.T k).length := by omega
    have hjw1 : j < w + 1 := by omega
    have hkb : k < t.Basic.length := by rw [hS.bas]; exact hlt
    have hww : w + 1 - 1 = w := by omega
    rw [hrk, hww] at hsn
    by_cases hN : (ix (ix t.T k) j).N ≤ 0
    · rw [if_pos hN] at hsn
      simp [RB, FB, hlt, rowAt_enc hlt, hjr, rowAt_enc hjr, hrk, hN, i1]
      exact ⟨by omega, k + 1, s, low, ⟨by omega, hsn⟩, by omega, Z, weak_eq (by simp) (by simp [FB])⟩
    · rw [if_neg hN] at hsn
      have hNp : 0 < (ix (ix t.T k) j).N := by omega
      have ed := div_ofO (ix (ix t.T k) w) (ix (ix t.T k) j)
      have iw : I64 (w : Int) := by unfold I64; omega
      simp [RB, FB, hlt, rowAt_enc hlt, hjr, rowAt_enc hjr, hrk, hN]
      refine ⟨by omega, ?_⟩
      refine AW_regionF sigCRl mixCRl [.pure, .read, .pure, .pure, .read, .pure, .read, .pure, .pure, .read, .pure, .pure, .pure, .read, .pure, .read, .pure, .pure, .read, .pure, .pure, .read, .read, .pure, .pure, .pure, .eff, .eff, .pure] [[],[0],[],[2,0,1],[1,0,2,3],[],[5],[],[7,5,6],[6,5,7,8],[8,7,5,6,9],[9,6,5,7,8,10],[10,8,7,5,6,9,11,3,2,0,1,4],[4,1,0,2,3,11,9,6,5,7,8,10,12],[],[14],[],[16,14,15],[15,14,16,17],[],[19,17,16,14,15,18],[18,15,14,16,17,19,20],[20,19,17,16,14,15,18,21,12,10,8,7,5,6,9,11,3,2,0,1,4,13],[13,4,1,0,2,3,11,9,6,5,7,8,10,12,21,18,15,14,16,17,19,20,22],[22,20,19,17,16,14,15,18,21,12,10,8,7,5,6,9,11,3,2,0,1,4,13,23],[22,20,19,17,16,14,15,18,21,12,10,8,7,5,6,9,11,3,2,0,1,4,13,23],[],[23,13,4,1,0,2,3,11,9,6,5,7,8,10,12,21,18,15,14,16,17,19,20,22,24,26],[26,24,27,23,13,4,1,0,2,3,11,9,6,5,7,8,10,12,21,18,15,14,16,17,19,20,22,25]] (by kernel_rfl) (by kernel_rfl) (by kernel_rfl) (by kernel_rfl) ?_
      cases hdd : divO (ix (ix t.T k) w) (ix (ix t.T k) j) with
      | none =>
        rw [hdd] at hsn ed
        have hRn := fin hsn
        subst hRn
        simp [RB, FB, hlt, rowAt_enc hlt, hjr, rowAt_enc hjr, hwr, rowAt_enc hwr, hrk, sDivF, ed, ofO, F00, iw]
        exact ⟨by omega, by omega⟩
      | some r =>
        rw [hdd] at hsn ed
        simp only at hsn
        obtain ⟨c, hc⟩ : ∃ c, cmpF r low = c := ⟨_, rfl⟩
        have hL1 : ∀ {s : Int}, s < 0 → lvTR t s low k r := fun h => .inl h
        have hL2 : ∀ {s : Int}, c < 0 → lvTR t s low k r := fun h => .inr (.inl (by rw [hc]; exact h))
        have hL3 : ∀ {n : Nat}, c = 0 → ix t.Basic k < ix t.Basic n → lvTR t n low k r := fun h h' => .inr (.inr ⟨by rw [hc]; exact h, by rw [Int.toNat_natCast]; exact h'⟩)
        have hL4 : ∀ {n : Nat}, ¬ c < 0 → (c = 0 → ¬ ix t.Basic k < ix t.Basic n) → ¬ lvTR t n low k r := fun h h' => by
          unfold lvTR
          rw [hc, Int.toNat_natCast]
          rintro (h1 | h1 | ⟨h1, h2⟩)
          · omega
          · exact h h1
          · exact h' h1 h2
        obtain ⟨ln, ld⟩ := low
        simp [RB, FB, hlt, rowAt_enc hlt, hjr, rowAt_enc hjr, hwr, rowAt_enc hwr, hrk, sDivF, sCmpF, ed, ofO, iw, hc]
        refine ⟨by omega, by omega, ?_⟩
        refine AW_regionF sigCRl mixCRl [.pure, .pure, .pure, .pure, .pure, .pure, .pure, .pure, .pure, .pure, .pure, .read, .pure, .pure, .read, .pure, .read, .pure, .pure, .read, .pure, .pure, .pure] [[],[0],[0,1],[1,0,2],[2,0,1,3],[3,4,1,0,2],[2,0,1,4,3,5],[5,3,4,1,0,2,6],[6,2,0,1,4,3,5,7],[7,5,3,4,1,0,2,6,8],[8,6,2,0,1,4,3,5,7,9],[9,7,5,3,4,1,0,2,6,8,10],[8,6,2,0,1,4,3,5,7,9],[12,10,8,6,2,0,1,4,3,5,7,9,11],[11,9,7,5,3,4,1,0,2,6,8,10,12,13],[8,6,2,0,1,4,3,5,7,9],[9,7,5,3,4,1,0,2,6,8,15],[8,6,2,0,1,4,3,5,7,9],[17,15,8,6,2,0,1,4,3,5,7,9,16],[16,9,7,5,3,4,1,0,2,6,8,15,17,18],[18,17,15,16,19,13,12,10,8,6,2,0,1,4,3,5,7,9,11,14],[14,11,10,12,13,19,16,15,17,18,20,8,6,2,0,1,4,3,5,7,9],[9,7,8,20,18,17,15,16,19,13,12,10,11,14,21,5,3,4,1,0,2,6]] (by kernel_rfl) (by kernel_rfl) (by kernel_rfl) (by kernel_rfl) ?_
        rcases hs1 with hs | ⟨hs, hsk⟩
        · subst hs
          rw [if_pos (hL1 (by decide))] at hsn
          simp [RB, FB, i1]
          exact ⟨k + 1, k, r, ⟨by omega, hsn⟩, by omega, Z ++ [FB r], weak_eq (by simp) (by simp [FB])⟩
        · obtain ⟨sn, rfl⟩ : ∃ n : Nat, s = n := ⟨s.toNat, by omega⟩
          have hns : ¬ ((sn : Int) < 0) := by omega
          have hsb : sn < t.Basic.length := by rw [hS.bas]; omega
          rcases Int.lt_trichotomy c 0 with h1 | h1 | h1
          · rw [if_pos (hL2 h1)] at hsn
            simp [RB, FB, h1, hns, i1]
            exact ⟨k + 1, k, r, ⟨by omega, hsn⟩, by omega, Z ++ [FB r], weak_eq (by simp) (by simp [FB])⟩
          · subst h1
            by_cases h2 : ix t.Basic k < ix t.Basic sn
            · rw [if_pos (hL3 rfl h2)] at hsn
              simp [RB, FB, hns, hkb, rowAt_enc hkb, hsb, rowAt_enc hsb, h2, i1]
              exact ⟨k + 1, k, r, ⟨by omega, hsn⟩, by omega, Z ++ [FB r], weak_eq (by simp) (by simp [FB])⟩
            · rw [if_neg (hL4 (by omega) (fun _ => h2))] at hsn
              simp [RB, FB, hns, hkb, rowAt_enc hkb, hsb, rowAt_enc hsb, h2, i1]
              exact ⟨k + 1, sn, ⟨ln, ld⟩, ⟨by omega, hsn⟩, by omega, Z ++ [FB r], weak_eq (by simp) (by simp [FB])⟩
          · have h3 : ¬ c < 0 := by omega
            have h4 : ¬ c = 0 := by omega
            rw [if_neg (hL4 (by omega) (fun h => absurd h h4))] at hsn
            simp [RB, FB, hns, h3, h4, i1]
            exact ⟨k + 1, sn, ⟨ln, ld⟩, ⟨by omega, hsn⟩, by omega, Z ++ [FB r], weak_eq (by simp) (by simp [FB])⟩
  · have hke : k = t.T.length := by omega
    have hRs : R = (s, true) := by
      rw [← hR]
      unfold leavR
      rw [← hke, hl]
    subst hRs
    simp [RB, FB, hlt]
end Go.Proofs.YtifbaegnkodneaaDoor

/-
  layer 30: phase of the reference.
-/
namespace Go.Proofs.YtifbaegnkodneaaDoor
open Go.RowKit
set_option linter.unusedSimpArgs false
set_option linter.unusedVariables false
set_option maxRecDepth 100000

theorem minO_len {a b c : List Fr} {f : Fr} (h : minO a f b = some c) : c.length = a.length := minK_len h
theorem rowsR_row {t : RTab} {w r j : Nat} {row : List Fr} (hS : RS w t) (hr : row.length = w + 1) : ∀ {k : Nat} {l : List (List Fr)}, k ≤ t.T.length → rowsR t r j row k = some l → ∀ x ∈ l, x.length = w + 1
  | 0, l, _, h, x, hx => by unfold rowsR at h; injection h with h; rw [← h] at hx; simp at hx
  | k + 1, l, hk, h, x, hx => by
    cases h1 : rowsR t r j row k with
    | none => unfold rowsR at h; rw [h1] at h; cases h
    | some l' =>
      rw [rowsR_succ h1] at h
      have ih := rowsR_row hS hr (by omega) h1
      cases h2 : newRow t r j row k with
      | none => rw [h2] at h; cases h
      | some d =>
        rw [h2] at h
        injection h with h
        rw [← h] at hx
        rcases List.mem_append.1 hx with hx | hx
        · exact ih x hx
        · rw [List.mem_singleton] at hx
          subst hx
          have hrk := hS.rowAt (show k < t.T.length by omega)
          unfold newRow at h2
          split at h2
          · injection h2 with h2; rw [← h2]; exact hr
          · split at h2
            · rw [minO_len h2]; exact hrk
            · injection h2 with h2; rw [← h2]; exact hrk
theorem RS.over {w : Nat} {t : RTab} (h : RS w t) : RS w (overR t) := ⟨h.w36, h.m24, h.row, h.bas, h.b64, h.cost⟩
theorem pivR_shape {w : Nat} {t : RTab} {i j : Nat} (h : RS w t) (hi : i < t.T.length) (hj : j < w) : RS w (pivR t i j) ∧ (pivR t i j).T.length = t.T.length ∧ (pivR t i j).Cost.length = t.Cost.length := by
  have hw := h.w36
  unfold pivR
  split
  · exact ⟨h.over, rfl, rfl⟩
  · rename_i row hrow
    have hr : row.length = w + 1 := by rw [divK_len hrow]; exact h.rowAt hi
    split
    · exact ⟨h.over, rfl, rfl⟩
    · rename_i rows hrs
      have hl := rowsR_len hrs
      split
      · exact ⟨h.over, rfl, rfl⟩
      · rename_i c hc
        have hcl : c.length = t.Cost.length := by
          unfold costR at hc
          split at hc
          · exact minO_len hc
          · injection hc with hc; rw [hc]
        refine ⟨⟨h.w36, by show rows.length ≤ 24; rw [hl]; exact h.m24, rowsR_row h hr (Nat.le_refl _) hrs, by show (basR _ _ _ _).length = rows.length; rw [basR_len, hl], fun b hb => ?_, ?_⟩, hl, hcl⟩
        · obtain ⟨q, hq, rfl⟩ := List.mem_map.1 hb
          have hq := List.mem_range.1 hq
          split
          · omega
          · exact h.b64 _ (ix_mem (by rw [h.bas]; exact hq))
        · show c = [] ∨ c.length = w + 1
          rcases h.cost with h1 | h1
          · left
            exact List.length_eq_zero_iff.1 (by rw [hcl, h1]; rfl)
          · right
            rw [hcl, h1]
theorem leavR_in (t : RTab) (j : Nat) (h : ¬ (leavR t j).1 < 0) : ∃ i : Nat, i < t.T.length ∧ (leavR t j).1 = i := by
  unfold leavR at h ⊢
  cases h1 : lvR t j t.T.length with
  | none => rw [h1] at h; simp at h
  | some p =>
    obtain ⟨s, low⟩ := p
    rw [h1] at h
    simp only at h ⊢
    have := lvR_s h1
    exact ⟨s.toNat, by omega, by omega⟩
theorem entR_le (t : RTab) (n : Nat) : ∀ k, k ≤ n → entR t n k ≤ n ∧ n - k ≤ entR t n k
  | 0, _ => ⟨Nat.le_refl _, by unfold entR; omega⟩
  | k + 1, h => by
    have := entR_le t n k (by omega)
    unfold entR
    split
    · omega
    · omega
theorem entR_succ (t : RTab) (n k : Nat) : entR t n (k + 1) = if (ix t.Cost (n - (k + 1))).N < 0 then n - (k + 1) else entR t n k := rfl
structure PrePhR (t : RTab) : Prop where
  s : ∃ w, RS w t ∧ t.Cost.length = w + 1
  h : HaltsR t
noncomputable def CRq : Ctx := mkC Tryd.prog G0 [(67, .pure sLeavR), (65, .pure sPivR)]
@[simp] theorem CRq_P : CRq.P = Tryd.prog := rfl
@[simp] theorem CRq_G : CRq.G = G0 := rfl
@[simp] theorem CRq_1 : CRq.S 67 = .pure sLeavR := rfl
@[simp] theorem CRq_2 : CRq.S 65 = .pure sPivR := rfl
theorem mixCRq : CRq.P.follows .mixedOrders = true := mixed
theorem sigCRq : SigOK CRq := sigOK_cons (entryPure (leavRR) Tryd.func67 rfl (by decide)) (sigOK_cons (entryPure (pivRR) Tryd.func65 rfl (by decide)) (sigOK_nil _ _))
noncomputable def sPhR : List AV → Option (Prop × AV) := spec1 PrePhR (fun t => .tup [Enc.enc (phaseR t).1, .bool (phaseR t).2])
set_option maxHeartbeats 16000000 in
theorem phaseRR : PureOK Tryd.prog G0 44 sPhR := by
  refine pureH1 (C := CRq) sigCRq mixCRq Tryd.func44 rfl rfl rfl [] (by kernel_rfl) (by decide) (fun t hp => ?_)
  obtain ⟨⟨w, hS, hc⟩, R, n, hn⟩ := hp
  rw [phaseR_eq hn]
  simp
  refine loop_ruleH (C := CRq) sigCRq mixCRq [] (fun q : Nat × RTab => ⟨[(1, .ptr 0 1 4 0 0), (2, .ptr 1 1 4 0 0)], [RB q.2, RZ]⟩) (fun q => runR q.1 q.2 = some R ∧ RS w q.2 ∧ q.2.Cost.length = w + 1) (fun q => q.1) (by kernel_rfl) ⟨(n, t), ⟨hn, hS, hc⟩, weak_eq (by simp) (by simp [RB, RZ])⟩ (fun ⟨n, u⟩ ⟨hn, hS, hc⟩ => ?_)
  simp only at hn hS hc ⊢
  cases n with
  | zero => cases hn
  | succ n =>
    have hw := hS.w36
    unfold runR at hn
    by_cases ho : u.Over = true
    · have hs : stepR u = .inl (u, true) := if_pos ho
      rw [hs] at hn
      injection hn with hn
      subst hn
      simp [RB, RZ, ho]
      done
    have ho' : u.Over = false := by simpa using ho
    have hww : w + 1 - 1 = w := by omega
    have hs : stepR u = if entR u w w = w then .inl (u, true)
      else if (leavR u (entR u w w)).2 = false then .inl (overR u, true)
      else if (leavR u (entR u w w)).1 < 0 then .inl (u, false) else .inr (pivR u (leavR u (entR u w w)).1.toNat (entR u w w)) := by
      unfold stepR
      simp only [hc, hww]
      rw [if_neg ho]
    rw [hs] at hn
    clear hs
    obtain ⟨uT, uB, uC, uO⟩ := u
    simp only at ho' hc
    subst ho'
    simp [RB, RZ]
    obtain ⟨u, hu⟩ : ∃ u : RTab, u = ⟨uT, uB, uC, false⟩ := ⟨_, rfl⟩
    rw [← hu] at hn hS
    have hin := leavR_in u
    refine loop_ruleH (C := CRq) sigCRq mixCRq [] (fun j : Nat => ⟨[(1, .ptr 0 1 4 0 0), (2, .ptr 1 1 4 0 0), (4, .int .i64 j)], [RB ⟨uT, uB, uC, false⟩, RZ]⟩) (fun j => j ≤ w ∧ entR u w w = entR u w (w - j)) (fun j => w - j) (by kernel_rfl) ⟨0, ⟨by omega, by simp⟩, weak_eq (by simp) (by simp [RB, RZ])⟩ (fun j ⟨hj, he⟩ => ?_)
    by_cases hjw : j < w
    · have i1 : I64 ((j : Int) + 1) := by unfold I64; omega
      have i2 : I64 (w : Int) := by unfold I64; omega
      have hjc : j < uC.length := by omega
      have hjw1 : j < w + 1 := by omega
      have he2 : entR u w (w - j) = if (ix uC j).N < 0 then j else entR u w (w - (j + 1)) := by
        obtain ⟨k, hk⟩ : ∃ k, w - j = k + 1 := ⟨w - j - 1, by omega⟩
        rw [hk, entR_succ]
        rw [show w - (k + 1) = j by omega, show w - (j + 1) = k by omega, hu]
      rw [he2] at he
      have hjwi : (j : Int) < (w : Int) := by omega
      have hjwn : ¬ (j : Int) = (w : Int) := by omega
      by_cases hN : (ix uC j).N < 0
      · rw [if_pos hN] at he
        have hNp : ¬ 0 ≤ (ix uC j).N := by omega
        rw [he, if_neg (by omega)] at hn
        have hpl : PreLv u j := ⟨⟨w, hS, hjwi⟩, by omega⟩
        rw [hu] at hpl
        obtain ⟨sv, ok, hv⟩ : ∃ sv ok, leavR u j = (sv, ok) := ⟨_, _, rfl⟩
        have hin := hin j
        rw [hv] at hn hin
        rw [hu] at hv
        cases ok with
        | false =>
          rw [if_pos rfl] at hn
          injection hn with hn
          subst hn
          simp [RB, RZ, hc, hjw, hjwi, hjwn, hjc, rowAt_enc hjc, hjw1, hNp, i2, sLeavR, hpl, hv, hu, overR]
          omega
        | true =>
          rw [if_neg (by simp)] at hn
          by_cases hsn : sv < 0
          · rw [if_pos hsn] at hn
            injection hn with hn
            subst hn
            simp [RB, RZ, hc, hjw, hjwi, hjwn, hjc, rowAt_enc hjc, hjw1, hNp, i2, sLeavR, hpl, hv, hu, hsn]
            omega
          · rw [if_neg hsn] at hn
            obtain ⟨i, hi, hii⟩ := hin hsn
            simp only at hii hn
            subst hii
            rw [Int.toNat_natCast] at hn
            have hpp : PrePv u i j := ⟨⟨w, hS, hjwi⟩, ⟨by omega, by omega⟩, by omega⟩
            obtain ⟨k1, k2, k3⟩ := pivR_shape hS hi hjw
            have hcu : u.Cost.length = w + 1 := by rw [hu]; exact hc
            have hnu : runR n (pivR u i j) = some R := hn
            rw [hu] at hpp
            simp [RB, RZ, hc, hjw, hjwi, hjwn, hjc, rowAt_enc hjc, hjw1, hNp, i2, sLeavR, hpl, hv, hsn, sPivR, hpp]
            exact ⟨by omega, n, pivR u i j, ⟨hnu, k1, by omega⟩, by omega, weak_eq (by simp) (by simp [RB, RZ, hu])⟩
      · rw [if_neg hN] at he
        have hNp : 0 ≤ (ix uC j).N := by omega
        simp [RB, RZ, hc, hjw, hjwi, hjc, rowAt_enc hjc, hjw1, hNp, i1, i2]
        exact ⟨by omega, j + 1, ⟨by omega, he⟩, by omega, weak_eq (by simp) (by simp)⟩
    · have hje : j = w := by omega
      subst hje
      have he3 : entR u j j = j := by rw [he, Nat.sub_self]; rfl
      rw [he3, if_pos rfl] at hn
      injection hn with hn
      subst hn
      have i2 : I64 (j : Int) := by unfold I64; omega
      simp [RB, RZ, hc, hu, i2]
      done
end Go.Proofs.YtifbaegnkodneaaDoor

/-
  layer 30: begin of the reference.
-/
namespace Go.Proofs.YtifbaegnkodneaaDoor
open Go.RowKit
set_option linter.unusedSimpArgs false
set_option linter.unusedVariables false
set_option maxRecDepth 100000

def rA (l : Lin) (i k : Nat) : List Fr := (List.range k).map fun c => putE l i (ix (ix l.A i) c)
def slk (l : Lin) (i j : Nat) : Fr := if j = i then (if keepB l i then ⟨-1, 1⟩ else F11) else F01
def rSl (l : Lin) (i k : Nat) : List Fr := rA l i l.C.length ++ (List.range k).map (slk l i)
def rhsE (l : Lin) (i : Nat) : Fr := if keepB l i then ix l.B i else negF (ix l.B i)
def rowR (l : Lin) (i : Nat) : List Fr := rSl l i l.A.length ++ [rhsE l i]
def basE (l : Lin) (i : Nat) : Int := if keepB l i then (l.C.length : Int) + l.A.length + i else (l.C.length : Int) + i
theorem rA_succ (l : Lin) (i k : Nat) : rA l i (k + 1) = rA l i k ++ [putE l i (ix (ix l.A i) k)] := by unfold rA; rw [List.range_succ, List.map_append]; rfl
theorem rA_len (l : Lin) (i k : Nat) : (rA l i k).length = k := by unfold rA; rw [List.length_map, List.length_range]
theorem rSl_succ (l : Lin) (i k : Nat) : rSl l i (k + 1) = rSl l i k ++ [slk l i k] := by unfold rSl; rw [List.range_succ, List.map_append, List.append_assoc]; rfl
theorem rSl_zero (l : Lin) (i : Nat) : rSl l i 0 = rA l i l.C.length := by unfold rSl; simp
theorem rSl_len (l : Lin) (i k : Nat) : (rSl l i k).length = l.C.length + k := by unfold rSl; rw [List.length_append, rA_len, List.length_map, List.length_range]
def rowsB (l : Lin) (k : Nat) : List (List Fr) := (List.range k).map (rowR l)
def basB (l : Lin) (k : Nat) : List Int := (List.range k).map (basE l)
theorem rowsB_succ (l : Lin) (k : Nat) : rowsB l (k + 1) = rowsB l k ++ [rowR l k] := by unfold rowsB; rw [List.range_succ, List.map_append]; rfl
theorem basB_succ (l : Lin) (k : Nat) : basB l (k + 1) = basB l k ++ [basE l k] := by unfold basB; rw [List.range_succ, List.map_append]; rfl
theorem rowsB_len (l : Lin) (k : Nat) : (rowsB l k).length = k := by unfold rowsB; rw [List.length_map, List.length_range]
theorem basB_len (l : Lin) (k : Nat) : (basB l k).length = k := by unfold basB; rw [List.length_map, List.length_range]
def begR (l : Lin) : RTab := ⟨rowsB l l.A.length, basB l l.A.length, [], false⟩
def RO (a b : Nat) (n m : Nat) : Blk := ⟨58, 4, [[.own a n, .own b m, .slice 2 true [], .bool false]], true, false⟩
noncomputable def CRb : Ctx := mkC Tryd.prog G0 [(53, .pure (spec0 (Enc.enc F01))), (31, .pure sNeg)]
@[simp] theorem CRb_P : CRb.P = Tryd.prog := rfl
@[simp] theorem CRb_G : CRb.G = G0 := rfl
@[simp] theorem CRb_1 : CRb.S 53 = .pure (spec0 (Enc.enc F01)) := rfl
@[simp] theorem CRb_2 : CRb.S 31 = .pure sNeg := rfl
theorem mixCRb : CRb.P.follows .mixedOrders = true := mixed
theorem sigCRb : SigOK CRb := sigOK_cons (entryPure (zeroR) Tryd.func53 rfl (by decide)) (sigOK_cons (entryPure (negR) Tryd.func31 rfl (by decide)) (sigOK_nil _ _))
def sBegR : List AV → Option (Prop × AV) := spec1 (fun l => checkF l = 0) (fun l => Enc.enc (begR l))
set_option maxHeartbeats 16000000 in
theorem begRR : PureOK Tryd.prog G0 41 sBegR := by
  refine pureH1 (C := CRb) sigCRb mixCRb Tryd.func41 rfl rfl rfl [] (by kernel_rfl) (by decide) (fun l hc => ?_)
  obtain ⟨k1, k2, k3, k4, k5, k6, k7⟩ := check_zero hc
  simp
  refine AW.weak (weak_nilcell 2 0 0 1 23 rfl rfl rfl (by decide)) ?_
  refine AW.weak (weak_nilcell 2 0 1 1 3 rfl rfl rfl (by decide)) ?_
  have scal22 : isScalT CRb 22 = false := by show isScalT ⟨Tryd.prog, fun _ => .no, G0⟩ 22 = false; kernel_rfl
  refine loop_ruleH (C := CRb) sigCRb mixCRb [] (fun q : Nat × List Blk => ⟨[(1, .ptr 0 1 3 0 0), (2, .ptr 1 1 4 0 0), (3, .int .i64 l.C.length), (4, .int .i64 l.A.length), (5, .ptr 2 1 4 0 0), (6, .int .i64 q.1)], CB l :: RZ :: RO 3 4 q.1 q.1 :: R1B (rowsB l q.1) :: R3B (basB l q.1) :: q.2⟩) (fun q => q.1 ≤ l.A.length) (fun q => l.A.length - q.1) (by kernel_rfl) ⟨(0, []), by simp, weak_eq (by simp) (by simp [CB, RZ, RO, R1B, R3B, rowsB, basB])⟩ (fun ⟨i, Z⟩ hi => ?_)
  simp only at hi ⊢
  have hrl := rowsB_len l i
  have hbl := basB_len l i
  by_cases hil : i < l.A.length
  · have i1 : I64 ((i : Int) + 1) := by unfold I64; omega
    have hib : i < l.B.length := by omega
    have hrow := (k7 _ (ix_mem hil)).1
    obtain ⟨kp, hkp⟩ : ∃ kp, keepB l i = kp := ⟨_, rfl⟩
    have hkd : decide (0 < (ix l.B i).N) = kp := hkp
    simp [CB, RZ, RO, R1B, R3B, hil, hib, rowAt_enc hib, hkd]
    refine AW.weak (weak_nil 8 2 29 rfl (by decide)) ?_
    have g1 : ∀ (x : Blk) (Y : List Blk), (Z ++ x :: Y)[Z.length]? = some x := fun x Y => by simp
    have s1 : ∀ (x x' : Blk) (Y : List Blk), (Z ++ x :: Y).set Z.length x' = Z ++ x' :: Y := fun x x' Y => by simp
    refine loop_ruleH (C := CRb) sigCRb mixCRb [] (fun k : Nat => ⟨[(1, .ptr 0 1 3 0 0), (2, .ptr 1 1 4 0 0), (3, .int .i64 l.C.length), (4, .int .i64 l.A.length), (5, .ptr 2 1 4 0 0), (6, .int .i64 i), (7, .bool kp), (8, .own (Z.length + 5) k), (9, .int .i64 k)], CB l :: RZ :: RO 3 4 i i :: R1B (rowsB l i) :: R3B (basB l i) :: (Z ++ [R2B (rA l i k)])⟩) (fun k => k ≤ l.C.length) (fun k => l.C.length - k) (by kernel_rfl) ⟨0, by simp, weak_eq (by simp) (by simp [CB, RZ, RO, R1B, R2B, R3B, rA])⟩ (fun k hk => ?_)
    have hral := rA_len l i k
    have hras := rA_succ l i k
    unfold putE at hras
    rw [hkp] at hras
    by_cases hkl : k < l.C.length
    · have i2 : I64 ((k : Int) + 1) := by unfold I64; omega
      have hkr : k < (ix l.A i).length := by omega
      cases kp with
      | true =>
        simp [CB, RZ, RO, R1B, R2B, R3B, hkl, hil, rowAt_enc hil, hkr, rowAt_enc hkr, g1, s1, hral, i2]
        exact ⟨⟨by omega, by omega⟩, k + 1, by omega, by omega, weak_eq (by simp) (by simp [hras])⟩
      | false =>
        simp [CB, RZ, RO, R1B, R2B, R3B, hkl, hil, rowAt_enc hil, hkr, rowAt_enc hkr, g1, s1, hral, i2, sNeg]
        exact ⟨⟨by omega, by omega⟩, k + 1, by omega, by omega, weak_eq (by simp) (by simp [hras])⟩
    · have hke : k = l.C.length := by omega
      subst hke
      clear hras
      simp [CB, RZ, RO, R1B, R2B, R3B, hkl]
      refine loop_ruleH (C := CRb) sigCRb mixCRb [] (fun q : Nat × List Blk => ⟨[(1, .ptr 0 1 3 0 0), (2, .ptr 1 1 4 0 0), (3, .int .i64 l.C.length), (4, .int .i64 l.A.length), (5, .ptr 2 1 4 0 0), (6, .int .i64 i), (7, .bool kp), (8, .own (Z.length + 5) (l.C.length + q.1)), (10, .int .i64 q.1)], CB l :: RZ :: RO 3 4 i i :: R1B (rowsB l i) :: R3B (basB l i) :: (Z ++ R2B (rSl l i q.1) :: q.2)⟩) (fun q => q.1 ≤ l.A.length) (fun q => l.A.length - q.1) (by kernel_rfl) ⟨(0, []), by simp, weak_eq (by simp) (by simp [CB, RZ, RO, R1B, R2B, R3B, rSl_zero])⟩ (fun ⟨j, Y⟩ hj => ?_)
      simp only at hj ⊢
      have hsl := rSl_len l i j
      have hss := rSl_succ l i j
      have hsk : slk l i j = if j = i then (if kp then ⟨-1, 1⟩ else F11) else F01 := by unfold slk; rw [hkp]
      by_cases hjl : j < l.A.length
      · have i2 : I64 ((j : Int) + 1) := by unfold I64; omega
        by_cases hji : j = i
        · subst hji
          rw [if_pos rfl] at hsk
          cases kp with
          | true =>
            simp [CB, RZ, RO, R1B, R2B, R3B, hjl, g1, s1, hsl, i2, F01]
            exact ⟨⟨by omega, by omega⟩, j + 1, by omega, by omega, Y ++ [FB ⟨-1, 1⟩], weak_eq (by simp [Nat.add_assoc]) (by simp [FB, hss, hsk, F11, F01])⟩
          | false =>
            simp [CB, RZ, RO, R1B, R2B, R3B, hjl, g1, s1, hsl, i2, F01]
            exact ⟨⟨by omega, by omega⟩, j + 1, by omega, by omega, Y ++ [FB F11], weak_eq (by simp [Nat.add_assoc]) (by simp [FB, hss, hsk, F11, F01])⟩
        · rw [if_neg hji] at hsk
          have hji' : ¬ (j : Int) = i := by omega
          simp [CB, RZ, RO, R1B, R2B, R3B, hjl, hji, hji', g1, s1, hsl, i2, F01]
          exact ⟨⟨by omega, by omega⟩, j + 1, by omega, by omega, Y ++ [FB F01], weak_eq (by simp [Nat.add_assoc]) (by simp [FB, hss, hsk, F11, F01])⟩
      · have hje : j = l.A.length := by omega
        subst hje
        have fz : ∀ (x : Blk) (Y : List Blk), frzL [Z.length + 5] 5 (Z ++ x :: Y) = Z ++ { x with mu := false } :: Y := fun x Y => by
          refine List.ext_getElem? fun q => ?_
          rw [frzL_get]
          by_cases hq : q = Z.length
          · subst hq
            have : [Z.length + 5].contains (5 + Z.length) = true := by simp; omega
            rw [this, g1, g1]
            rfl
          · have : [Z.length + 5].contains (5 + q) = false := by simp; omega
            rw [this]
            by_cases hq2 : q < Z.length
            · rw [List.getElem?_append_left hq2, List.getElem?_append_left hq2]
              cases Z[q]? <;> rfl
            · obtain ⟨p, rfl⟩ : ∃ p, q = Z.length + (p + 1) := ⟨q - Z.length - 1, by omega⟩
              rw [List.getElem?_append_right (by omega), List.getElem?_append_right (by omega), Nat.add_sub_cancel_left, List.getElem?_cons_succ, List.getElem?_cons_succ]
              cases Y[p]? <;> rfl
        have hre : rowR l i = rSl l i l.A.length ++ [rhsE l i] := rfl
        have hrh : rhsE l i = if kp then ix l.B i else negF (ix l.B i) := by unfold rhsE; rw [hkp]
        have hbe : basE l i = if kp then (l.C.length : Int) + l.A.length + i else (l.C.length : Int) + i := by unfold basE; rw [hkp]
        have hrs := rowsB_succ l i
        have hbs := basB_succ l i
        have i3 : I64 ((l.C.length : Int) + l.A.length) := by unfold I64; omega
        have i4 : I64 ((l.C.length : Int) + l.A.length + i) := by unfold I64; omega
        have i5 : I64 ((l.C.length : Int) + i) := by unfold I64; omega
        cases kp with
        | true =>
          simp [CB, RZ, RO, R1B, R2B, R3B, hjl, hib, rowAt_enc hib, g1, s1, hsl, hrl, hbl, i1, i3, i4, scal22, fz]
          exact ⟨⟨by omega, by omega⟩, ⟨by omega, by omega⟩, ⟨by omega, by omega⟩, i + 1, by omega, by omega, Z ++ ⟨29, 2, encRows (rSl l i l.A.length ++ [rhsE l i]), false, true⟩ :: Y, weak_eq (by simp) (by simp [hrs, hbs, hre, hrh, hbe])⟩
        | false =>
          simp [CB, RZ, RO, R1B, R2B, R3B, hjl, hib, rowAt_enc hib, g1, s1, hsl, hrl, hbl, i1, i5, scal22, fz, sNeg]
          exact ⟨⟨by omega, by omega⟩, ⟨by omega, by omega⟩, ⟨by omega, by omega⟩, i + 1, by omega, by omega, Z ++ ⟨29, 2, encRows (rSl l i l.A.length ++ [rhsE l i]), false, true⟩ :: Y, weak_eq (by simp) (by simp [hrs, hbs, hre, hrh, hbe])⟩
  · have hie : i = l.A.length := by omega
    subst hie
    simp [CB, RZ, RO, R1B, R3B, hil, hrl, hbl, begR]
    done
end Go.Proofs.YtifbaegnkodneaaDoor

/-
  layer 30: first of the reference.
-/
namespace Go.Proofs.YtifbaegnkodneaaDoor
open Go.RowKit
set_option linter.unusedSimpArgs false
set_option linter.unusedVariables false
set_option maxRecDepth 100000

theorem f1R_len {w : Nat} {t : RTab} (h : RS w t) : ∀ k, k ≤ t.T.length → (f1R t w k).1.length = w + 1
  | 0, _ => List.length_replicate
  | k + 1, hk => by
    have ih := f1R_len h k (by omega)
    unfold f1R
    split
    · exact ih
    · split
      · split
        · exact ih
        · rename_i d hd
          show d.length = w + 1
          rw [minO_len hd, ih]
      · exact ih
theorem f1R_bad {t : RTab} {size k : Nat} (h : (f1R t size k).2 = false) : ∀ n, f1R t size (k + n) = f1R t size k
  | 0 => rfl
  | n + 1 => by
    have ih := f1R_bad h n
    show f1R t size ((k + n) + 1) = _
    unfold f1R
    rw [if_pos (by rw [ih]; exact h), ih]
    cases k <;> rfl
theorem someR_succ (t : RTab) (size k : Nat) : someR t size (k + 1) = (someR t size k || decide ((size : Int) ≤ ix t.Basic k)) := by unfold someR; rw [List.range_succ, List.any_append]; simp
theorem repR_shape {w : Nat} {t : RTab} (h : RS w t) {i : Nat} (hi : i < t.T.length) : RS w (repR t w i) ∧ (repR t w i).T.length = t.T.length ∧ (repR t w i).Cost.length = t.Cost.length := by
  unfold repR
  split
  · exact ⟨h, rfl, rfl⟩
  · split
    · exact ⟨h, rfl, rfl⟩
    · split
      · rename_i hc; exact pivR_shape h hi hc
      · exact ⟨h, rfl, rfl⟩
theorem repsR_shape {w : Nat} {t : RTab} (h : RS w t) : ∀ k, k ≤ t.T.length → RS w (repsR t w k) ∧ (repsR t w k).T.length = t.T.length ∧ (repsR t w k).Cost.length = t.Cost.length
  | 0, _ => ⟨h, rfl, rfl⟩
  | k + 1, hk => by
    obtain ⟨h1, h2, h3⟩ := repsR_shape h k (by omega)
    obtain ⟨h4, h5, h6⟩ := repR_shape h1 (i := k) (by omega)
    exact ⟨h4, h5.trans h2, h6.trans h3⟩
theorem stepR_shape {w : Nat} {t : RTab} (h : RS w t) (hc : t.Cost.length = w + 1) : match stepR t with
    | .inl r => RS w r.1 ∧ r.1.Cost.length = w + 1 ∧ r.1.T.length = t.T.length
    | .inr u => RS w u ∧ u.Cost.length = w + 1 ∧ u.T.length = t.T.length := by
  have hwn : t.Cost.length - 1 = w := by omega
  unfold stepR
  simp only [hwn]
  split
  · rename_i q hq
    split at hq
    · injection hq with hq; rw [← hq]; exact ⟨h, hc, rfl⟩
    · split at hq
      · injection hq with hq; rw [← hq]; exact ⟨h, hc, rfl⟩
      · split at hq
        · injection hq with hq; rw [← hq]; exact ⟨h.over, hc, rfl⟩
        · split at hq
          · injection hq with hq; rw [← hq]; exact ⟨h, hc, rfl⟩
          · cases hq
  · rename_i q hq
    split at hq
    · cases hq
    · split at hq
      · cases hq
      · rename_i hjw
        split at hq
        · cases hq
        · split at hq
          · cases hq
          · rename_i hn
            injection hq with hq
            obtain ⟨i, hi, hii⟩ := leavR_in t _ hn
            rw [hii, Int.toNat_natCast] at hq
            have := (entR_le t w w (Nat.le_refl _)).1
            obtain ⟨k1, k2, k3⟩ := pivR_shape (i := i) (j := entR t w w) h hi (by omega)
            rw [← hq]
            exact ⟨k1, k3.trans hc, k2⟩
theorem runR_shape {w : Nat} : ∀ {n : Nat} {t : RTab} {r : RTab × Bool}, RS w t → t.Cost.length = w + 1 → runR n t = some r → RS w r.1 ∧ r.1.Cost.length = w + 1 ∧ r.1.T.length = t.T.length
  | 0, _, _, _, _, h => by cases h
  | n + 1, t, r, hS, hc, h => by
    have hs := stepR_shape hS hc
    unfold runR at h
    cases h1 : stepR t with
    | inl q =>
      rw [h1] at h hs
      injection h with h
      subst h
      exact hs
    | inr u =>
      rw [h1] at h hs
      have := runR_shape hs.1 hs.2.1 h
      exact ⟨this.1, this.2.1, this.2.2.trans hs.2.2⟩
theorem phaseR_shape {w : Nat} {t : RTab} (hS : RS w t) (hc : t.Cost.length = w + 1) (h : HaltsR t) : RS w (phaseR t).1 ∧ (phaseR t).1.Cost.length = w + 1 ∧ (phaseR t).1.T.length = t.T.length := by
  obtain ⟨r, n, hn⟩ := h
  rw [phaseR_eq hn]
  exact runR_shape hS hc hn
theorem colR_le (t : RTab) (i n : Nat) : ∀ k, k ≤ n → colR t i n k ≤ n ∧ n - k ≤ colR t i n k
  | 0, _ => ⟨Nat.le_refl _, by unfold colR; omega⟩
  | k + 1, h => by
    have := colR_le t i n k (by omega)
    unfold colR
    split <;> omega
theorem colR_succ (t : RTab) (i n k : Nat) : colR t i n (k + 1) = if (ix (ix t.T i) (n - (k + 1))).N ≠ 0 then n - (k + 1) else colR t i n k := rfl
def costed (t : RTab) (size : Nat) : RTab := ⟨t.T, t.Basic, (f1R t size t.T.length).1, t.Over⟩
theorem repsR_over {t : RTab} {size k : Nat} (h : (repsR t size k).Over = true) : ∀ n, repsR t size (k + n) = repsR t size k
  | 0 => rfl
  | n + 1 => by
    have ih := repsR_over h n
    show repR (repsR t size (k + n)) size (k + n) = _
    rw [ih]
    unfold repR
    rw [if_pos h]
/-- A tableau and whether its costs carry the mark of nil. -/
structure GV where
  v : RTab
  f : Bool
def RBf (g : GV) : Blk := ⟨58, 4, [[.slice 1 false (encRows g.v.T), .slice 1 false (encRows g.v.Basic), .slice 2 g.f (encRows g.v.Cost), .bool g.v.Over]], true, true⟩
structure PreFiR (t : RTab) (size : Int) : Prop where
  i : 1 ≤ size
  s : RS size.toNat t
  o : t.Over = false
  h : (f1R t size.toNat t.T.length).2 = true → someR t size.toNat t.T.length = true → HaltsR (costed t size.toNat)
noncomputable def CRf : Ctx := mkC Tryd.prog G0 [(42, .pure sZeros), (43, .pure sMinR), (44, .pure sPhR), (65, .pure sPivR)]
@[simp] theorem CRf_P : CRf.P = Tryd.prog := rfl
@[simp] theorem CRf_G : CRf.G = G0 := rfl
@[simp] theorem CRf_1 : CRf.S 42 = .pure sZeros := rfl
@[simp] theorem CRf_2 : CRf.S 43 = .pure sMinR := rfl
@[simp] theorem CRf_3 : CRf.S 44 = .pure sPhR := rfl
@[simp] theorem CRf_4 : CRf.S 65 = .pure sPivR := rfl
theorem mixCRf : CRf.P.follows .mixedOrders = true := mixed
theorem sigCRf : SigOK CRf := sigOK_cons (entryPure (zerosR) Tryd.func42 rfl (by decide)) (sigOK_cons (entryPure (minR) Tryd.func43 rfl (by decide)) (sigOK_cons (entryPure (phaseRR) Tryd.func44 rfl (by decide)) (sigOK_cons (entryPure (pivRR) Tryd.func65 rfl (by decide)) (sigOK_nil _ _))))
noncomputable def sFiR : List AV → Option (Prop × AV) := spec2 PreFiR (fun t size => .tup [Enc.enc (firstR t size.toNat).1, .bool (firstR t size.toNat).2])
set_option maxHeartbeats 16000000 in
theorem firstRR : PureOK Tryd.prog G0 40 sFiR := by
  refine pureH2 (C := CRf) sigCRf mixCRf Tryd.func40 rfl rfl rfl [8] (by kernel_rfl) (by decide) (fun t size hp => ?_)
  obtain ⟨hi, hS, ho, hh⟩ := hp
  obtain ⟨w, rfl⟩ : ∃ m : Nat, size = m := ⟨size.toNat, by omega⟩
  rw [Int.toNat_natCast] at *
  have hw := hS.w36
  have hm := hS.m24
  have iw : I64 ((w : Int) + 1) := by unfold I64; omega
  have hzw : (0 : Int) ≤ (w : Int) + 1 ∧ (w : Int) + 1 ≤ 1000 := by omega
  have hzt : ((w : Int) + 1).toNat = w + 1 := by omega
  obtain ⟨T, B, Co, O⟩ := t
  simp only at ho hm
  subst ho
  obtain ⟨t, ht⟩ : ∃ t : RTab, t = ⟨T, B, Co, false⟩ := ⟨_, rfl⟩
  rw [← ht] at hS hh ⊢
  have tT : t.T = T := by rw [ht]
  have tB : t.Basic = B := by rw [ht]
  have hBT : B.length = T.length := by rw [← tB, ← tT]; exact hS.bas
  have hrowT : ∀ k, k < T.length → (ix T k).length = w + 1 := fun k hk => by rw [← tT]; exact hS.rowAt (by rw [tT]; exact hk)
  have hflen := fun k (hk : k ≤ T.length) => f1R_len hS k (by rw [tT]; exact hk)
  simp [iw, sZeros, hzw, hzt]
  refine loop_ruleH (C := CRf) sigCRf mixCRf [8] (fun k : Nat => ⟨[(1, .int .i64 w), (2, .ptr 0 1 4 0 0), (4, .ptr 1 1 4 0 0), (6, .bool (someR t w k)), (7, .int .i64 k)], [RB ⟨T, B, (f1R t w k).1, false⟩, RZ]⟩) (fun k => k ≤ T.length ∧ (f1R t w k).2 = true) (fun k => T.length - k) (by kernel_rfl) ⟨0, ⟨by omega, rfl⟩, weak_eq (by simp [someR]) (by simp [RB, RZ, f1R, ht])⟩ (fun k ⟨hk, hok⟩ => ?_)
  have hfl := hflen k hk
  have hsk := someR_succ t w k
  rw [tB] at hsk
  by_cases hlt : k < T.length
  · have i1 : I64 ((k : Int) + 1) := by unfold I64; omega
    have hkb : k < B.length := by omega
    have hrk := hrowT k hlt
    have hfs : f1R t w (k + 1) = if (w : Int) ≤ ix B k then (match minO (f1R t w k).1 F11 (ix T k) with
      | none => ((f1R t w k).1, false)
      | some d => (d, true))
      else f1R t w k := by
      conv => { lhs; unfold f1R; rw [if_neg (by rw [hok]; decide), tB, tT] }
      all_goals rfl
    by_cases hb : (w : Int) ≤ ix B k
    · rw [if_pos hb] at hfs
      have hdb : decide ((w : Int) ≤ ix B k) = true := decide_eq_true hb
      rw [hdb, Bool.or_true] at hsk
      simp [RB, RZ, hlt, hkb, rowAt_enc hkb, hb]
      refine AW_regionF sigCRf mixCRf [.pure, .read, .pure, .pure, .read, .pure, .pure, .read, .read, .pure, .pure, .pure, .pure, .pure] [[],[0],[],[],[3],[],[5,3,4],[4,3,5,6],[6,5,3,4,7,2,0,1],[1,0,2,7,4,3,5,6,8],[8,6,5,3,4,7,2,0,1,9],[8,6,5,3,4,7,2,0,1,9],[9,1,0,2,7,4,3,5,6,8,10],[10,12,9,1,0,2,7,4,3,5,6,8,11]] (by kernel_rfl) (by kernel_rfl) (by kernel_rfl) (by kernel_rfl) ?_
      have hm1 : (f1R t w k).1.length ≤ 1000 := by omega
      have hm2 : (f1R t w k).1.length ≤ (ix T k).length := by omega
      cases hmo : minO (f1R t w k).1 F11 (ix T k) with
      | none =>
        rw [hmo] at hfs
        simp only at hfs
        have hbad := f1R_bad (t := t) (size := w) (k := k + 1) (by rw [hfs]) (T.length - (k + 1))
        rw [show k + 1 + (T.length - (k + 1)) = T.length by omega, hfs] at hbad
        have hfirst : firstR t w = (⟨T, B, (f1R t w k).1, true⟩, true) := by
          unfold firstR
          rw [tT, hbad, tB]
          exact if_pos rfl
        simp only [F11] at hmo
        simp [RB, RZ, hlt, rowAt_enc hlt, sMinR, hm1, hm2, hmo, hfirst]
        done
      | some d =>
        rw [hmo] at hfs
        simp only [F11] at hmo
        simp [RB, RZ, hlt, rowAt_enc hlt, sMinR, hm1, hm2, hmo, i1]
        exact ⟨k + 1, ⟨by omega, by rw [hfs]⟩, by omega, weak_eq (by simp [hsk]) (by simp [hfs])⟩
    · rw [if_neg hb] at hfs
      have hdb : decide ((w : Int) ≤ ix B k) = false := decide_eq_false hb
      rw [hdb, Bool.or_false] at hsk
      simp [RB, RZ, hlt, hkb, rowAt_enc hkb, hb, i1]
      exact ⟨k + 1, ⟨by omega, by rw [hfs]; exact hok⟩, by omega, weak_eq (by simp [hsk]) (by simp [hfs])⟩
  · have hke : k = T.length := by omega
    subst hke
    have hcs : costed t w = ⟨T, B, (f1R t w T.length).1, false⟩ := by unfold costed; rw [tT, tB, ht]
    have hfirst0 : firstR t w = if someR t w T.length = false then (costed t w, true)
      else if (phaseR (costed t w)).1.Over then ((phaseR (costed t w)).1, true)
      else if (ix (phaseR (costed t w)).1.Cost w).N < 0 then ((phaseR (costed t w)).1, false)
      else (repsR (noCost (phaseR (costed t w)).1) w (phaseR (costed t w)).1.T.length, true) := by
      unfold firstR costed
      rw [tT, hok, if_neg (by decide)]
    cases hsome : someR t w T.length with
    | false =>
      rw [if_pos hsome] at hfirst0
      simp [RB, RZ, hlt, hsome, hfirst0, hcs]
      done
    | true =>
      rw [if_neg (by rw [hsome]; decide)] at hfirst0
      have hH := hh (by rw [tT]; exact hok) (by rw [tT]; exact hsome)
      have hSc : RS w (costed t w) := by
        rw [hcs]
        exact ⟨hS.w36, by rw [← tT]; exact hS.m24, by rw [← tT]; exact hS.row, hBT, by rw [← tB]; exact hS.b64, .inr hfl⟩
      have hCc : (costed t w).Cost.length = w + 1 := by rw [hcs]; exact hfl
      obtain ⟨p1, p2, p3⟩ := phaseR_shape hSc hCc hH
      have hpp : PrePhR (costed t w) := ⟨⟨w, hSc, hCc⟩, hH⟩
      rw [hcs] at hpp p3
      have p3 : _ = T.length := p3
      rw [hcs] at hfirst0 p1 p2
      obtain ⟨u, pb, hu⟩ : ∃ u pb, phaseR ⟨T, B, (f1R t w T.length).1, false⟩ = (u, pb) := ⟨_, _, rfl⟩
      rw [hu] at hfirst0 p1 p2 p3
      simp only at hfirst0 p1 p2 p3
      obtain ⟨uT, uB, uC, uO⟩ := u
      cases uO with
      | true =>
        rw [if_pos rfl] at hfirst0
        simp [RB, RZ, hlt, hsome, hfirst0, sPhR, hpp, hu]
        done
      | false =>
        rw [if_neg (by simp)] at hfirst0
        simp only at hfirst0 p2 p3
        have hwc : w < uC.length := by omega
        by_cases hN : (ix uC w).N < 0
        · rw [if_pos hN] at hfirst0
          simp [RB, RZ, hlt, hsome, hfirst0, sPhR, hpp, hu, hwc, rowAt_enc hwc, hN]
          done
        · rw [if_neg hN] at hfirst0
          have hnc : noCost ⟨uT, uB, uC, false⟩ = ⟨uT, uB, [], false⟩ := rfl
          rw [hnc] at hfirst0
          have hS0 : RS w ⟨uT, uB, [], false⟩ := ⟨p1.w36, p1.m24, p1.row, p1.bas, p1.b64, .inl rfl⟩
          have hshp := fun k (hk : k ≤ uT.length) => repsR_shape hS0 k hk
          have hover := fun k => repsR_over (t := ⟨uT, uB, [], false⟩) (size := w) (k := k)
          have hstp : ∀ k, repsR ⟨uT, uB, [], false⟩ w (k + 1) = repR (repsR ⟨uT, uB, [], false⟩ w k) w k := fun k => rfl
          have hst0 : repsR ⟨uT, uB, [], false⟩ w 0 = ⟨uT, uB, [], false⟩ := rfl
          generalize repsR ⟨uT, uB, [], false⟩ w = rep at *
          simp [RB, RZ, hlt, hsome, sPhR, hpp, hu, hwc, rowAt_enc hwc, hN]
          refine loop_ruleH (C := CRf) sigCRf mixCRf [8] (fun q : Nat × GV => ⟨[(1, .int .i64 w), (4, .ptr 1 1 4 0 0), (10, .ptr 2 1 4 0 0), (12, .int .i64 q.1)], [RB ⟨T, B, (f1R t w T.length).1, false⟩, RZ, RBf q.2]⟩) (fun q => q.1 ≤ uT.length ∧ q.2.v = rep q.1) (fun q => uT.length - q.1) (by kernel_rfl) ⟨(0, ⟨⟨uT, uB, [], false⟩, true⟩), ⟨by simp, hst0.symm⟩, weak_eq (by simp) (by simp [RB, RZ, RBf])⟩ (fun ⟨k, ⟨v, f⟩⟩ ⟨hk, hv⟩ => ?_)
          simp only at hk hv ⊢
          obtain ⟨r1, r2, r3⟩ := hshp k hk
          have hov := hover k
          have hsp := hstp k
          rw [← hv] at r1 r2 r3 hov hsp
          obtain ⟨vT, vB, vC, vO⟩ := v
          simp only at r2 r3 hov
          have r2 : vT.length = uT.length := r2
          by_cases hkl : k < uT.length
          case neg =>
            have hke : k = uT.length := by omega
            rw [← hke, ← hv] at hfirst0
            have hkv : ¬ (k : Int) < vT.length := by omega
            simp [RB, RZ, RBf, hkv, r2, hkl, hfirst0]
            done
          have hkv : k < vT.length := by omega
          cases vO with
          | true =>
            have hov := hov rfl (uT.length - k)
            rw [show k + (uT.length - k) = uT.length by omega] at hov
            rw [hov] at hfirst0
            simp [RB, RZ, RBf, hkv, hfirst0]
            done
          | false =>
            have i1 : I64 ((k : Int) + 1) := by unfold I64; omega
            have hkb : k < vB.length := by have := r1.bas; simp only at this; omega
            unfold repR at hsp
            rw [if_neg (by simp)] at hsp
            simp only at hsp
            by_cases hb : ix vB k < (w : Int)
            · rw [if_pos hb] at hsp
              simp [RB, RZ, RBf, hkv, hkb, rowAt_enc hkb, hb, i1]
              exact ⟨k + 1, ⟨⟨vT, vB, vC, false⟩, f⟩, ⟨by omega, hsp.symm⟩, by omega, weak_eq (by simp) (by simp)⟩
            · rw [if_neg hb] at hsp
              simp [RB, RZ, RBf, hkv, hkb, rowAt_enc hkb, hb]
              have hcle := colR_le ⟨vT, vB, vC, false⟩ k w w (Nat.le_refl _)
              have hcs2 := colR_succ ⟨vT, vB, vC, false⟩ k w
              have hc0 : colR ⟨vT, vB, vC, false⟩ k w 0 = w := rfl
              generalize colR ⟨vT, vB, vC, false⟩ k w = col at *
              have hrk : (ix vT k).length = w + 1 := r1.rowAt hkv
              refine loop_ruleH (C := CRf) sigCRf mixCRf [8] (fun j : Nat => ⟨[(1, .int .i64 w), (4, .ptr 1 1 4 0 0), (10, .ptr 2 1 4 0 0), (12, .int .i64 k), (13, .int .i64 j)], [RB ⟨T, B, (f1R t w T.length).1, false⟩, RZ, RBf ⟨⟨vT, vB, vC, false⟩, f⟩]⟩) (fun j => j ≤ w ∧ col w = col (w - j)) (fun j => w - j) (by kernel_rfl) ⟨0, ⟨by omega, by simp⟩, weak_eq (by simp) (by simp [RB, RZ, RBf])⟩ (fun j ⟨hj, hcj⟩ => ?_)
              by_cases hjw : j < w
              · have i2 : I64 ((j : Int) + 1) := by unfold I64; omega
                have hjr : j < (ix vT k).length := by omega
                have hjwi : (j : Int) < w := by omega
                have hjw1 : j < w + 1 := by omega
                obtain ⟨q, hq⟩ : ∃ q, w - j = q + 1 := ⟨w - j - 1, by omega⟩
                rw [hq, hcs2, show w - (q + 1) = j by omega] at hcj
                by_cases hz : (ix (ix vT k) j).N = 0
                · rw [if_neg (fun h => h hz), show q = w - (j + 1) by omega] at hcj
                  simp [RB, RZ, RBf, hjw, hjwi, hkv, rowAt_enc hkv, hjr, rowAt_enc hjr, hz, hrk, i2]
                  exact ⟨by omega, j + 1, ⟨by omega, hcj⟩, by omega, weak_eq (by simp) (by simp)⟩
                · rw [if_pos hz] at hcj
                  rw [hcj, if_pos hjw] at hsp
                  have hpv : PrePv ⟨vT, vB, vC, false⟩ k j := ⟨⟨w, r1, by omega⟩, ⟨by omega, by show (k : Int) < vT.length; omega⟩, by omega⟩
                  simp [RB, RZ, RBf, hjw, hjwi, hkv, rowAt_enc hkv, hjr, rowAt_enc hjr, hz, hrk, sPivR, hpv, i1]
                  exact ⟨by omega, k + 1, ⟨pivR ⟨vT, vB, vC, false⟩ k j, false⟩, ⟨by omega, hsp.symm⟩, by omega, weak_eq (by simp) (by simp)⟩
              · have hje : j = w := by omega
                subst hje
                rw [Nat.sub_self, hc0] at hcj
                rw [hcj, if_neg (by omega)] at hsp
                have hjj : ¬ (j : Int) < j := by omega
                simp [RB, RZ, RBf, hjj, i1]
                exact ⟨k + 1, ⟨⟨vT, vB, vC, false⟩, f⟩, ⟨by omega, hsp.symm⟩, by omega, weak_eq (by simp) (by simp)⟩
end Go.Proofs.YtifbaegnkodneaaDoor
