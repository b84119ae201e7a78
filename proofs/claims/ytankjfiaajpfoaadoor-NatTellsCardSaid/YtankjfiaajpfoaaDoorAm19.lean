/-
  A region that draws its order: where what touches is ordered by the edges, every order leaves what the text's order leaves. Own work; no program in sight.
-/
import Derived.Test.YtankjfiaajpfoaaDoorAm18
namespace Go.Proofs.YtankjfiaajpfoaaDoor
open Go.RowKit

/-- The operations that an operation stands directly behind. -/
def directs (o : Oper) : List Nat := (o.after.toList.filter fun e => Region.binds .any e).map (·.on)

/-- All that an operation stands behind, as a table. -/
def befT : List Oper → List (List Nat) → List (List Nat)
  | [], acc => acc
  | o :: r, acc => befT r (acc ++ [(directs o).foldl (fun s d => (d :: acc.getD d []).foldl (fun s x => if s.contains x then s else x :: s) s) []])

def opAt (ops : Array Oper) (i : Nat) : Oper := ops.getD i default

def isEff (C : Ctx) (o : Oper) : Bool := match kindOf C o with | .eff => true | _ => false
def isPure (C : Ctx) (o : Oper) : Bool := match kindOf C o with | .pure => true | _ => false

/-- What an operation looks at: its operands, and what guards it. -/
def looks (ops : Array Oper) (o : Oper) : List Tmp :=
  (o.op.operands.toList.filterMap fun x => match x with | .tmp t => some t | _ => none) ++
  (match o.guard with
   | some (j, _) => match (ops[j]?).bind (·.dst) with | some d => [d] | none => []
   | none => [])

def confl (C : Ctx) (ops : Array Oper) (x y : Oper) : Bool :=
  (match x.dst with | some d => (looks ops y).contains d | none => false) || (isEff C x && !isPure C y)

def regOKi (C : Ctx) (ops : Array Oper) (B : Nat → List Nat) (i : Nat) : Bool :=
  (directs (opAt ops i)).all (fun d => decide (d < i)) &&
  (B i).all (fun x => decide (x < i) && ((directs (opAt ops i)).contains x || (directs (opAt ops i)).any fun d => (B d).contains x)) &&
  (List.range ops.size).all fun j => i == j ||
    ((!confl C ops (opAt ops i) (opAt ops j) || (B j).contains i || (B i).contains j) &&
     (match (opAt ops i).dst with | some d => (opAt ops j).dst != some d | none => true))

def regOK (C : Ctx) (ops : Array Oper) : Bool :=
  (List.range ops.size).all (regOKi C ops fun i => (befT ops.toList []).getD i [])

section
variable {C : Ctx} {N : Nat} {X : Nat → Prop} {w0 : World} {β0 : List BI} {H0 : List Blk}

/-- The run in the order of the text. -/
structure Trace (C : Ctx) (ops : Array Oper) (k : Nat) (st : ASt) (v : Nat → AV) (ρ : Nat → List (Nat × AV)) (H : Nat → List Blk) : Prop where
  ρ0 : ρ k = st.ρ
  H0 : H k = st.H
  step : ∀ i, k ≤ i → i < ops.size → ∃ g, wantG ops (ρ i) (opAt ops i) = some g ∧ (g = true → ∃ ob, astep C ⟨ρ i, H i⟩ (opAt ops i) = some (ob, v i, H (i + 1)) ∧ ob) ∧ (g = false → v i = .tup [] ∧ H (i + 1) = H i) ∧ ρ (i + 1) = putA (ρ i) (opAt ops i).dst (v i)

theorem aops_trace {ops : Array Oper} : ∀ (l : List Oper) (k : Nat) (st : ASt) (K : ASt → Prop), (∀ j : Nat, l[j]? = ops[k + j]?) → k ≤ ops.size → aops C ops l st K → ∃ v ρ H, Trace C ops k st v ρ H ∧ K ⟨ρ ops.size, H ops.size⟩
  | [], k, st, K, hl, hk, h => by
    have h0 := hl 0
    simp at h0
    have : k = ops.size := by omega
    subst this
    exact ⟨fun _ => .undef, fun _ => st.ρ, fun _ => st.H, ⟨rfl, rfl, fun i h1 h2 => by omega⟩, h⟩
  | o :: r, k, st, K, hl, hk, h => by
    have h0 := hl 0
    simp only [List.getElem?_cons_zero, Nat.add_zero] at h0
    have hlt : k < ops.size := (Array.getElem?_eq_some_iff.1 h0.symm).1
    have ho : opAt ops k = o := by simp [opAt, Array.getD_eq_getD_getElem?, ← h0]
    have hl' : ∀ j : Nat, r[j]? = ops[k + 1 + j]? := fun j => by have := hl (j + 1); rwa [List.getElem?_cons_succ, show k + (j + 1) = k + 1 + j by omega] at this
    unfold aops at h
    split at h
    · exact h.elim
    · rename_i g hg
      have fin : ∀ (vk : AV) (Hk : List Blk), ((g = true → ∃ ob, astep C ⟨st.ρ, st.H⟩ o = some (ob, vk, Hk) ∧ ob) ∧ (g = false → vk = .tup [] ∧ Hk = st.H)) → aops C ops r ⟨putA st.ρ o.dst vk, Hk⟩ K → ∃ v ρ H, Trace C ops k st v ρ H ∧ K ⟨ρ ops.size, H ops.size⟩ := by
        intro vk Hk hst hr
        obtain ⟨v, ρ, H, hT, hK⟩ := aops_trace r (k + 1) _ K hl' (by omega) hr
        refine ⟨fun i => if i = k then vk else v i, fun i => if i = k then st.ρ else ρ i, fun i => if i = k then st.H else H i, ⟨by simp, by simp, fun i h1 h2 => ?_⟩, ?_⟩
        · by_cases e : i = k
          · subst e
            refine ⟨g, by simpa [ho] using hg, fun hgt => ?_, fun hgf => ?_, ?_⟩
            · simp only [if_true, ho, Nat.succ_ne_self, if_false, hT.H0]
              exact hst.1 hgt
            · simp only [if_true, Nat.succ_ne_self, if_false, hT.H0]
              exact hst.2 hgf
            · simp only [if_true, ho, Nat.succ_ne_self, if_false, hT.ρ0]
          · have := hT.step i (by omega) h2
            simp only [e, if_false, show ¬ i + 1 = k by omega]
            exact this
        · have e : ¬ ops.size = k := by omega
          simpa only [e, if_false] using hK
      cases g with
      | true =>
        have h := h.1 rfl
        split at h
        · rename_i ob vk Hk hst
          exact fin vk Hk ⟨fun _ => ⟨ob, hst, h.1⟩, fun h => by cases h⟩ h.2
        · exact h.elim
      | false => exact fin (.tup []) st.H ⟨fun h => (by cases h), fun _ => ⟨rfl, rfl⟩⟩ (h.2 rfl)

theorem getA_putA {ρ : List (Nat × AV)} {dst : Option Nat} {v : AV} {t : Nat} : getA (putA ρ dst v) t = if dst = some t then v else getA ρ t := by
  cases dst with
  | none => simp [putA]
  | some d => simp [putA, getA]

theorem wantG_congr {ops : Array Oper} {ρ ρ' : List (Nat × AV)} {o : Oper} (h : ∀ t ∈ looks ops o, getA ρ t = getA ρ' t) : wantG ops ρ o = wantG ops ρ' o := by
  unfold wantG
  cases hg : o.guard with
  | none => rfl
  | some jw =>
    obtain ⟨j, want⟩ := jw
    simp only
    cases hd : (ops[j]?).bind (·.dst) with
    | none => rfl
    | some d =>
      simp only
      rw [h d (by simp [looks, hg, hd])]

theorem looks_aev {ops : Array Oper} {ρ ρ' : List (Nat × AV)} {o : Oper} (h : ∀ t ∈ looks ops o, getA ρ t = getA ρ' t) : ∀ x ∈ o.op.operands, ∀ t, aev C ρ t x = aev C ρ' t x := by
  intro x hx t
  refine aev_congr fun i hi => h i ?_
  subst hi
  exact List.mem_append.2 (.inl (List.mem_filterMap.2 ⟨.tmp i, Array.mem_toList_iff.2 hx, rfl⟩))

/-- What the check says. -/
structure RegFacts (C : Ctx) (ops : Array Oper) (B : Nat → List Nat) : Prop where
  dir : ∀ i, i < ops.size → ∀ d ∈ directs (opAt ops i), d < i
  lt : ∀ i, i < ops.size → ∀ x ∈ B i, x < i
  clo : ∀ i, i < ops.size → ∀ x ∈ B i, x ∈ directs (opAt ops i) ∨ ∃ d ∈ directs (opAt ops i), x ∈ B d
  con : ∀ i j, i < ops.size → j < ops.size → i ≠ j → confl C ops (opAt ops i) (opAt ops j) = true → i ∈ B j ∨ j ∈ B i
  dst : ∀ i j, i < ops.size → j < ops.size → i ≠ j → ∀ d, (opAt ops i).dst = some d → (opAt ops j).dst ≠ some d

theorem regOK_facts {ops : Array Oper} (h : regOK C ops = true) : ∃ B, RegFacts C ops B := by
  refine ⟨fun i => (befT ops.toList []).getD i [], ?_⟩
  unfold regOK at h
  generalize (fun i => (befT ops.toList []).getD i []) = B at h ⊢
  have hi : ∀ i, i < ops.size → regOKi C ops B i = true := fun i hi => List.all_eq_true.1 h i (List.mem_range.2 hi)
  have parts : ∀ i, i < ops.size → ((∀ d ∈ directs (opAt ops i), d < i) ∧ (∀ x ∈ B i, x < i ∧ (x ∈ directs (opAt ops i) ∨ ∃ d ∈ directs (opAt ops i), x ∈ B d))) ∧ ∀ j, j < ops.size → i ≠ j →
      (confl C ops (opAt ops i) (opAt ops j) = true → i ∈ B j ∨ j ∈ B i) ∧ ∀ d, (opAt ops i).dst = some d → (opAt ops j).dst ≠ some d := by
    intro i hlt
    have h1 := hi i hlt
    unfold regOKi at h1
    simp only [Bool.and_eq_true, List.all_eq_true, decide_eq_true_eq, Bool.or_eq_true, List.any_eq_true, List.contains_iff_mem] at h1
    refine ⟨⟨h1.1.1, fun x hx => h1.1.2 x hx⟩, fun j hj hne => ?_⟩
    have h2 := (h1.2 j (List.mem_range.2 hj)).resolve_left (by simpa using hne)
    refine ⟨fun hc => ?_, fun d hd => ?_⟩
    · rcases h2.1 with (h3 | h3) | h3
      · simp [hc] at h3
      · exact .inl h3
      · exact .inr h3
    · have h3 := h2.2
      rw [hd] at h3
      simpa using h3
  exact ⟨fun i hi => (parts i hi).1.1, fun i hi x hx => ((parts i hi).1.2 x hx).1, fun i hi x hx => ((parts i hi).1.2 x hx).2, fun i j hi hj hne => ((parts i hi).2 j hj hne).1, fun i j hi hj hne => ((parts i hi).2 j hj hne).2⟩

end
end Go.Proofs.YtankjfiaajpfoaaDoor
