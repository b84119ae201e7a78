/-
  The abstract state and the real one; a region in the order of its text. Own work; no program in sight.
-/
import Derived.Test.YtankjfiaajpfoaaDoorAm16
namespace Go.Proofs.YtankjfiaajpfoaaDoor
open Go.RowKit

/-- The abstract state st says what is the case; since (w0, β0, H0) nothing has turned but what may. -/
def Rel (C : Ctx) (N : Nat) (X : Nat → Prop) (w0 : World) (β0 : List BI) (H0 : List Blk) (st : ASt) (a : Act) (w : World) : Prop :=
  ∃ β, HRel w X β st.H ∧ StepR w0 β0 H0 w β st.H ∧ TRel w (Mu X β st.H) β st.H a st.ρ ∧ GRel C w (Mu X β st.H) ∧ a.tmps.size = N ∧ a.defers = []

section
variable {C : Ctx} {N : Nat} {X : Nat → Prop} {w0 : World} {β0 : List BI} {H0 : List Blk}

theorem trel_put {w w' : World} {β β' : List BI} {H H' : List Blk} {a : Act} {ρ : List (Nat × AV)} (T : TRel w (Mu X β H) β H a ρ) (S : StepR w β H w' β' H') {u : Value} {r : AV} (hr : Rep w' (Mu X β' H') β' H' u r) (dst : Option Tmp) (hd : ∀ d, dst = some d → d < a.tmps.size) :
    TRel w' (Mu X β' H') β' H' (a.put dst u) (putA ρ dst r) := by
  intro t
  cases dst with
  | none => exact (T t).keep S
  | some d =>
    have hd := hd d rfl
    simp only [putA, getA, Act.put]
    split
    · rename_i e
      subst e
      have : (a.tmps.setIfInBounds d u).getD d undef = u := by simp [Array.getD_eq_getD_getElem?, hd]
      rw [this]
      exact hr
    · rename_i e
      have : (a.tmps.setIfInBounds d u).getD t undef = a.tmps.getD t undef := by
        simp [Array.getD_eq_getD_getElem?, Array.getElem?_setIfInBounds_ne e]
      rw [this]
      exact (T t).keep S

theorem rel_put {w w' : World} {β β' : List BI} {st : ASt} {H' : List Blk} {a : Act} (S0 : StepR w0 β0 H0 w β st.H) (T : TRel w (Mu X β st.H) β st.H a st.ρ) (G : GRel C w (Mu X β st.H)) (hN : a.tmps.size = N) (hdef : a.defers = [])
    {u : Value} {r : AV} (R' : HRel w' X β' H') (S : StepR w β st.H w' β' H') (hr : Rep w' (Mu X β' H') β' H' u r) (dst : Option Tmp) (hd : ∀ d, dst = some d → d < N) : Rel C N X w0 β0 H0 ⟨putA st.ρ dst r, H'⟩ (a.put dst u) w' := by
  refine ⟨β', R', S0.trans S, trel_put T S hr dst (fun d h => by rw [hN]; exact hd d h), fun g => (G g).keep (fun b hb hn => S.keeps.block b hb (fun hm => hn (.inr hm))) S.keeps.size (fun b hb => S.mu b hb), ?_, ?_⟩
  · cases dst with
    | none => exact hN
    | some d => simp [Act.put, hN]
  · cases dst with
    | none => exact hdef
    | some d => exact hdef

theorem wantG_sound {w : World} {β : List BI} {H : List Blk} {a : Act} {ρ : List (Nat × AV)} (T : TRel w X β H a ρ) {ops : Array Oper} {o : Oper} {g : Bool} (h : wantG ops ρ o = some g) : Region.wanted o (yielded ops a.tmps) = g := by
  unfold wantG at h
  unfold Region.wanted
  split at h
  · rename_i hg
    injection h with h
    rw [hg]
    exact h
  · rename_i j want hg
    rw [hg]
    simp only
    split at h
    · rename_i d hd
      have hT := T d
      split at h
      · rename_i b hb
        injection h with h
        subst h
        rw [hb] at hT
        have h1 := rep_bool hT
        have h2 : a.tmps[d]? = some (.bool b) := by
          rw [Array.getD_eq_getD_getElem?] at h1
          cases hh : a.tmps[d]? with
          | none => rw [hh] at h1; cases h1
          | some x => rw [hh] at h1; simp at h1; rw [h1]
        unfold yielded
        rw [hd]
        simp [h2]
      · rename_i hb
        injection h with h
        subst h
        rw [hb] at hT
        obtain ⟨cs, val, h1, hl, _⟩ := rep_tup hT
        have hcs : cs = #[] := Array.eq_empty_of_size_eq_zero (by simpa using hl)
        subst hcs
        unfold yielded
        rw [hd]
        rw [Array.getD_eq_getD_getElem?] at h1
        cases hh : a.tmps[d]? with
        | none => simp [hh]
        | some x => rw [hh] at h1; simp at h1; subst h1; simp [hh]
      · cases h
    · cases h

theorem rep_skip {w : World} {Y : Nat → Prop} {β : List BI} {H : List Blk} : Rep w Y β H undef (.tup []) :=
  .tup #[] [] (fun _ => undef) rfl (fun j hj => by simp at hj) (fun j v hj => by simp at hj)

/-- A region in the order of its text. -/
theorem wpList_of_aops (hS : SigOK C) {ops : Array Oper} {Q : Exit → Act → World → Prop} : ∀ (l : List Oper), (∀ o ∈ l, ∀ d, o.dst = some d → d < N) → ∀ {st : ASt} {K : ASt → Prop} {a : Act} {w : World}, aops C ops l st K → Rel C N X w0 β0 H0 st a w →
    (∀ st' a' w', Rel C N X w0 β0 H0 st' a' w' → K st' → Q .normal a' w') → wpList C.P ops Q l a w
  | [], _, st, K, a, w, h, hr, hQ => hQ st a w hr h
  | o :: r, hd, st, K, a, w, h, hr, hQ => by
    obtain ⟨β, R, S0, T, G, hN, hdef⟩ := hr
    unfold aops at h
    split at h
    · exact h.elim
    · rename_i g hg
      have hw := wantG_sound T hg
      have ih := fun {st : ASt} {a : Act} {w : World} => wpList_of_aops hS r (fun o ho => hd o (List.mem_cons_of_mem _ ho)) (st := st) (K := K) (a := a) (w := w) (ops := ops) (Q := Q)
      unfold wpList
      rw [hw]
      cases g with
      | true =>
        have h := h.1 rfl
        split at h
        · rename_i ob v H' hst
          rw [if_pos rfl]
          refine .inl (astep_sound hS R T G hst h.1 fun u w' β' R' S hr => ih h.2 (rel_put S0 T G hN hdef R' S hr o.dst (hd o (by simp))) hQ)
        · exact h.elim
      | false =>
        have h := h.2 rfl
        rw [if_neg (by simp)]
        exact ih h (rel_put S0 T G hN hdef R (StepR.refl _ _ _ R.len) rep_skip o.dst (hd o (by simp))) hQ

end
end Go.Proofs.YtankjfiaajpfoaaDoor
