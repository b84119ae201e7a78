import Derived.Test.YtfoipbjhaiimlaaDoorAmB
import Derived.Orders
/-
  The abstract state and the real one; a region in the order of its text. Own work; no program in sight.
-/
namespace Go.Proofs.YtfoipbjhaiimlaaDoor
open Go.RowKit

/-- The abstract state st says what is the case; since (w0, β0, H0) nothing has turned but what may. -/
def Rel (C : Ctx) (N : Nat) (X : Nat → Prop) (w0 : World) (β0 : List BI) (H0 : List Blk) (st : ASt) (a : Act) (w : World) : Prop :=
  ∃ β, HRel w X β st.H ∧ StepR w0 β0 H0 w β st.H ∧ TRel w (Mu X β st.H) β st.H a st.ρ ∧ GRel C w (Mu X β st.H) ∧ a.tmps.size = N ∧ a.defers = []

section
variable {C : Ctx} {N : Nat} {X : Nat → Prop} {w0 : World} {β0 : List BI} {H0 : List Blk}

theorem trel_put {w w' : World} {β β' : List BI} {H H' : List Blk} {a : Act} {ρ : List (Nat × AV)} (T : TRel w (Mu X β H) β H a ρ) (S : StepR w β H w' β' H') {u : Value} {r : AV} (hr : Rep w' (Mu X β' H') β' H' u r) (dst : Option Tmp) (hd : ∀ d, dst = some d → d < a.tmps.size) :
    TRel w' (Mu X β' H') β' H' (a.put dst u) (putA ρ dst r) := by
  intro t
  cases dst with
  | none => exact (T t).keep S
  | some d =>
    have hd := hd d rfl
    simp only [putA, getA, Act.put]
    split
    · rename_i e
      subst e
      have : (a.tmps.setIfInBounds d u).getD d undef = u := by simp [Array.getD_eq_getD_getElem?, hd]
      rw [this]
      exact hr
    · rename_i e
      have : (a.tmps.setIfInBounds d u).getD t undef = a.tmps.getD t undef := by
        simp [Array.getD_eq_getD_getElem?, Array.getElem?_setIfInBounds_ne e]
      rw [this]
      exact (T t).keep S

theorem rel_put {w w' : World} {β β' : List BI} {st : ASt} {H' : List Blk} {a : Act} (S0 : StepR w0 β0 H0 w β st.H) (T : TRel w (Mu X β st.H) β st.H a st.ρ) (G : GRel C w (Mu X β st.H)) (hN : a.tmps.size = N) (hdef : a.defers = [])
    {u : Value} {r : AV} (R' : HRel w' X β' H') (S : StepR w β st.H w' β' H') (hr : Rep w' (Mu X β' H') β' H' u r) (dst : Option Tmp) (hd : ∀ d, dst = some d → d < N) : Rel C N X w0 β0 H0 ⟨putA st.ρ dst r, H'⟩ (a.put dst u) w' := by
  refine ⟨β', R', S0.trans S, trel_put T S hr dst (fun d h => by rw [hN]; exact hd d h), fun g => (G g).keep (fun b hb hn => S.keeps.block b hb (fun hm => hn (.inr hm))) S.keeps.size (fun b hb => S.mu b hb), ?_, ?_⟩
  · cases dst with
    | none => exact hN
    | some d => simp [Act.put, hN]
  · cases dst with
    | none => exact hdef
    | some d => exact hdef

theorem wantG_sound {w : World} {β : List BI} {H : List Blk} {a : Act} {ρ : List (Nat × AV)} (T : TRel w X β H a ρ) {ops : Array Oper} {o : Oper} {g : Bool} (h : wantG ops ρ o = some g) : Region.wanted o (yielded ops a.tmps) = g := by
  unfold wantG at h
  unfold Region.wanted
  split at h
  · rename_i hg
    injection h with h
    rw [hg]
    exact h
  · rename_i j want hg
    rw [hg]
    simp only
    split at h
    · rename_i d hd
      have hT := T d
      split at h
      · rename_i b hb
        injection h with h
        subst h
        rw [hb] at hT
        have h1 := rep_bool hT
        have h2 : a.tmps[d]? = some (.bool b) := by
          rw [Array.getD_eq_getD_getElem?] at h1
          cases hh : a.tmps[d]? with
          | none => rw [hh] at h1; cases h1
          | some x => rw [hh] at h1; simp at h1; rw [h1]
        unfold yielded
        rw [hd]
        simp [h2]
      · rename_i hb
        injection h with h
        subst h
        rw [hb] at hT
        obtain ⟨cs, val, h1, hl, _⟩ := rep_tup hT
        have hcs : cs = #[] := Array.eq_empty_of_size_eq_zero (by simpa using hl)
        subst hcs
        unfold yielded
        rw [hd]
        rw [Array.getD_eq_getD_getElem?] at h1
        cases hh : a.tmps[d]? with
        | none => simp [hh]
        | some x => rw [hh] at h1; simp at h1; subst h1; simp [hh]
      · cases h
    · cases h

theorem rep_skip {w : World} {Y : Nat → Prop} {β : List BI} {H : List Blk} : Rep w Y β H undef (.tup []) :=
  .tup #[] [] (fun _ => undef) rfl (fun j hj => by simp at hj) (fun j v hj => by simp at hj)

/-- A region in the order of its text. -/
theorem wpList_of_aops (hS : SigOK C) {ops : Array Oper} {Q : Exit → Act → World → Prop} : ∀ (l : List Oper), (∀ o ∈ l, ∀ d, o.dst = some d → d < N) → ∀ {st : ASt} {K : ASt → Prop} {a : Act} {w : World}, aops C ops l st K → Rel C N X w0 β0 H0 st a w →
    (∀ st' a' w', Rel C N X w0 β0 H0 st' a' w' → K st' → Q .normal a' w') → wpList C.P ops Q l a w
  | [], _, st, K, a, w, h, hr, hQ => hQ st a w hr h
  | o :: r, hd, st, K, a, w, h, hr, hQ => by
    obtain ⟨β, R, S0, T, G, hN, hdef⟩ := hr
    unfold aops at h
    split at h
    · exact h.elim
    · rename_i g hg
      have hw := wantG_sound T hg
      have ih := fun {st : ASt} {a : Act} {w : World} => wpList_of_aops hS r (fun o ho => hd o (List.mem_cons_of_mem _ ho)) (st := st) (K := K) (a := a) (w := w) (ops := ops) (Q := Q)
      unfold wpList
      rw [hw]
      cases g with
      | true =>
        have h := h.1 rfl
        split at h
        · rename_i ob v H' hst
          rw [if_pos rfl]
          refine .inl (astep_sound hS R T G hst h.1 fun u w' β' R' S hr => ih h.2 (rel_put S0 T G hN hdef R' S hr o.dst (hd o (by simp))) hQ)
        · exact h.elim
      | false =>
        have h := h.2 rfl
        rw [if_neg (by simp)]
        exact ih h (rel_put S0 T G hN hdef R (StepR.refl _ _ _ R.len) rep_skip o.dst (hd o (by simp))) hQ

end
end Go.Proofs.YtfoipbjhaiimlaaDoor

/-
  What an operation looks at. Own work; no program in sight.
-/
namespace Go.Proofs.YtfoipbjhaiimlaaDoor
open Go.RowKit

section
variable {C : Ctx} {ρ ρ' : List (Nat × AV)} {H : List Blk}

theorem aev_congr {t : TypeId} {x : Operand} (h : ∀ i, x = .tmp i → getA ρ i = getA ρ' i) : aev C ρ t x = aev C ρ' t x := by
  cases x with
  | tmp i => exact h i rfl
  | _ => rfl

theorem argAVs_congr : ∀ {xs : List Operand} {ts : List TypeId}, (∀ x ∈ xs, ∀ t, aev C ρ t x = aev C ρ' t x) → argAVs C ρ xs ts = argAVs C ρ' xs ts
  | [], ts, _ => by cases ts <;> rfl
  | x :: r, [], h => by simp only [argAVs, h x (by simp) 0, argAVs_congr (xs := r) (ts := []) (fun y hy => h y (List.mem_cons_of_mem _ hy))]
  | x :: r, t :: q, h => by simp only [argAVs, h x (by simp) t, argAVs_congr (xs := r) (ts := q) (fun y hy => h y (List.mem_cons_of_mem _ hy))]

theorem optmap_congr {lo : Option Operand} {t : TypeId} (h : ∀ x, lo = some x → aev C ρ t x = aev C ρ' t x) : lo.map (aev C ρ t) = lo.map (aev C ρ' t) := by
  cases lo with
  | none => rfl
  | some x => simp [h x rfl]

theorem target_congr {c : Call} (h : ∀ x ∈ c.operands, ∀ t, aev C ρ t x = aev C ρ' t x) : target C ρ c = target C ρ' c := by
  have ha : ∀ x ∈ c.args.toList, ∀ t, aev C ρ t x = aev C ρ' t x := fun x hx => h x (by simp only [Call.operands]; exact Array.mem_append.2 (.inr (Array.mem_toList_iff.1 hx)))
  unfold target
  split
  · rename_i f hf
    rw [h f (by simp [Call.operands, hf]) 0, argAVs_congr ha]
  · rfl

theorem parts_congr {parts : List (Nat × Operand)} {ty : Nat → TypeId} (h : ∀ x ∈ parts.map (·.2), ∀ t, aev C ρ t x = aev C ρ' t x) : (parts.map fun p => (p.1, aev C ρ (ty p.1) p.2)) = parts.map fun p => (p.1, aev C ρ' (ty p.1) p.2) :=
  List.map_congr_left fun p hp => by rw [h p.2 (List.mem_map.2 ⟨p, hp, rfl⟩)]

theorem call_args {c : Call} (h : ∀ x ∈ c.operands, ∀ t, aev C ρ t x = aev C ρ' t x) : ∀ x ∈ c.args.toList, ∀ t, aev C ρ t x = aev C ρ' t x := fun x hx => h x (by simp only [Call.operands]; exact Array.mem_append.2 (.inr (Array.mem_toList_iff.1 hx)))

theorem abuild_congr {t : TypeId} {parts : List (Nat × Operand)} (hp : ∀ x ∈ parts.map (·.2), ∀ t, aev C ρ t x = aev C ρ' t x) : abuild C ρ t parts = abuild C ρ' t parts := by
  unfold abuild
  cases zT C.P t with
  | none => rfl
  | some z =>
    simp only
    cases arrT C.P t with
    | none => simp only; rw [parts_congr (ty := fieldTy C t) hp]
    | some ne =>
      obtain ⟨n, e⟩ := ne
      simp only
      rw [parts_congr (ty := fun _ => e) hp]

theorem apure_congr {o : Oper} (h : ∀ x ∈ o.op.operands, ∀ t, aev C ρ t x = aev C ρ' t x) : apure C ρ o = apure C ρ' o := by
  obtain ⟨dst, op, type, pos, after, guard⟩ := o
  simp only at h
  unfold apure
  simp only
  cases op <;> simp only [Op.operands] at h <;> try rfl
  case move x => simp only; rw [h x (by simp)]
  case assign x => simp only; rw [h x (by simp)]
  case pick c a b => simp only; rw [h c (by simp), h a (by simp), h b (by simp)]
  case binOp op t x y ty => simp only; rw [h x (by simp), h y (by simp)]
  case unOp op t x => simp only; rw [h x (by simp)]
  case convert s d x => simp only; rw [h x (by simp)]
  case field t x k => simp only; rw [h x (by simp)]
  case fieldAddr t x k => simp only; rw [h x (by simp)]
  case indexAddr t x ix => simp only; rw [h x (by simp), h ix (by simp)]
  case index t x ix => simp only; rw [h x (by simp), h ix (by simp)]
  case slice t x lo hi mx =>
    simp only
    rw [h x (by simp), optmap_congr (lo := lo) (fun y hy => h y (by subst hy; simp) _), optmap_congr (lo := hi) (fun y hy => h y (by subst hy; simp) _), optmap_congr (lo := mx) (fun y hy => h y (by subst hy; simp) _)]
  case extract x k => simp only; rw [h x (by simp)]
  case makeFunc fn first cap =>
    cases fn with
    | func f =>
      simp only
      have : cap.toList.map (aev C ρ 0) = cap.toList.map (aev C ρ' 0) := List.map_congr_left fun x hx => h x (Array.mem_append.2 (.inr (Array.mem_toList_iff.1 hx))) 0
      rw [this]
    | _ => rfl
  case nilCheck x => simp only; rw [h x (by simp)]
  case lookup t m x ok => simp only; rw [h m (by simp), h x (by simp)]
  case build t parts =>
    have hp : ∀ x ∈ parts.toList.map (·.2), ∀ t, aev C ρ t x = aev C ρ' t x := fun x hx => h x (by simpa using hx)
    simp only
    rw [abuild_congr hp]
  case call c =>
    have ha := call_args h
    obtain ⟨callee, args, argTypes⟩ := c
    simp only at ha ⊢
    split
    · split
      · rename_i x t hx ht
        rw [ha x (by rw [hx]; simp)]
      · rfl
    · rw [argAVs_congr ha]
    · rw [argAVs_congr ha]
    · rfl

theorem aread_congr {o : Oper} (h : ∀ x ∈ o.op.operands, ∀ t, aev C ρ t x = aev C ρ' t x) : aread C ρ H o = aread C ρ' H o := by
  obtain ⟨dst, op, type, pos, after, guard⟩ := o
  simp only at h
  unfold aread
  simp only
  cases op <;> simp only [Op.operands] at h <;> try rfl
  case load t p => simp only; rw [h p (by simp)]
  case buildSlice t len parts =>
    have hp : ∀ x ∈ parts.toList.map (·.2), ∀ t, aev C ρ t x = aev C ρ' t x := fun x hx => h x (by simpa using hx)
    have : elParts C ρ t parts.toList = elParts C ρ' t parts.toList := by
      unfold elParts
      split
      · rename_i e _; exact parts_congr (ty := fun _ => e) hp
      · rfl
    simp only
    rw [this]
  case convert s d x => simp only; rw [h x (by simp)]
  case call c => simp only; rw [target_congr h]

theorem aeff_congr {o : Oper} (h : ∀ x ∈ o.op.operands, ∀ t, aev C ρ t x = aev C ρ' t x) : aeff C ρ H o = aeff C ρ' H o := by
  obtain ⟨dst, op, type, pos, after, guard⟩ := o
  simp only at h
  unfold aeff
  simp only
  cases op <;> simp only [Op.operands] at h <;> try rfl
  case box t x => simp only; rw [h x (by simp)]
  case store t p x => simp only; rw [h p (by simp), h x (by simp)]
  case buildSlice t len parts =>
    have hp : ∀ x ∈ parts.toList.map (·.2), ∀ t, aev C ρ t x = aev C ρ' t x := fun x hx => h x (by simpa using hx)
    have : elParts C ρ t parts.toList = elParts C ρ' t parts.toList := by
      unfold elParts
      split
      · rename_i e _; exact parts_congr (ty := fun _ => e) hp
      · rfl
    simp only
    rw [this]
  case makeSlice t l c => simp only; rw [h l (by simp), h c (by simp)]
  case call c =>
    have ha := call_args h
    have ht := target_congr h
    obtain ⟨callee, args, argTypes⟩ := c
    simp only at ha ⊢
    split
    · split
      · rename_i s x t t' hx _
        rw [ha s (by rw [hx]; simp), ha x (by rw [hx]; simp)]
      · rfl
    · split
      · rename_i s t hx _
        rw [ha s (by rw [hx]; simp)]
      · rfl
    · split
      · rename_i s x t t' hx _
        rw [ha s (by rw [hx]; simp), ha x (by rw [hx]; simp)]
      · rfl
    · rw [ht]

theorem astep_congr {o : Oper} (h : ∀ x ∈ o.op.operands, ∀ t, aev C ρ t x = aev C ρ' t x) : astep C ⟨ρ, H⟩ o = astep C ⟨ρ', H⟩ o := by
  unfold astep
  cases kindOf C o with
  | pure => simp only [apure_congr h]
  | read => simp only [aread_congr h]
  | eff => simp only [aeff_congr h]

theorem astep_pure {o : Oper} (hk : kindOf C o = .pure) {ob : Prop} {v : AV} {H' : List Blk} (h : astep C ⟨ρ, H⟩ o = some (ob, v, H')) : H' = H ∧ ∀ H2, astep C ⟨ρ, H2⟩ o = some (ob, v, H2) := by
  unfold astep at h ⊢
  rw [hk] at h
  simp only at h
  rw [hk]
  split at h
  · rename_i h1
    injection h with h; injection h with e1 e2; injection e2 with e2 e3; subst e1 e2 e3
    refine ⟨rfl, fun H2 => ?_⟩
    simp only [h1]
  · cases h

theorem astep_read {o : Oper} (hk : kindOf C o = .read) {ob : Prop} {v : AV} {H' : List Blk} (h : astep C ⟨ρ, H⟩ o = some (ob, v, H')) : H' = H := by
  unfold astep at h
  rw [hk] at h
  simp only at h
  split at h
  · injection h with h; injection h with e1 e2; injection e2 with e2 e3; exact e3.symm
  · cases h

end
end Go.Proofs.YtfoipbjhaiimlaaDoor

/-
  A region that draws its order: where what touches is ordered by the edges, every order leaves what the text's order leaves. Own work; no program in sight.
-/
namespace Go.Proofs.YtfoipbjhaiimlaaDoor
open Go.RowKit

/-- The operations that an operation stands directly behind. -/
def directs (o : Oper) : List Nat := (o.after.toList.filter fun e => Region.binds .any e).map (·.on)

/-- All that an operation stands behind, as a table. -/
def befT : List Oper → List (List Nat) → List (List Nat)
  | [], acc => acc
  | o :: r, acc => befT r (acc ++ [(directs o).foldl (fun s d => (d :: acc.getD d []).foldl (fun s x => if s.contains x then s else x :: s) s) []])

def opAt (ops : Array Oper) (i : Nat) : Oper := ops.getD i default

def isEff (C : Ctx) (o : Oper) : Bool := match kindOf C o with | .eff => true | _ => false
def isPure (C : Ctx) (o : Oper) : Bool := match kindOf C o with | .pure => true | _ => false

/-- What an operation looks at: its operands, and what guards it. -/
def looks (ops : Array Oper) (o : Oper) : List Tmp :=
  (o.op.operands.toList.filterMap fun x => match x with | .tmp t => some t | _ => none) ++
  (match o.guard with
   | some (j, _) => match (ops[j]?).bind (·.dst) with | some d => [d] | none => []
   | none => [])

def confl (C : Ctx) (ops : Array Oper) (x y : Oper) : Bool :=
  (match x.dst with | some d => (looks ops y).contains d | none => false) || (isEff C x && !isPure C y)

/-- What must be ordered where the reads are looked at apart. -/
def conflF (C : Ctx) (ops : Array Oper) (x y : Oper) : Bool :=
  (match x.dst with | some d => (looks ops y).contains d | none => false) || (isEff C x && isEff C y)

def regOKi (ops : Array Oper) (cf : Oper → Oper → Bool) (B : Nat → List Nat) (i : Nat) : Bool :=
  (directs (opAt ops i)).all (fun d => decide (d < i)) &&
  (B i).all (fun x => decide (x < i) && ((directs (opAt ops i)).contains x || (directs (opAt ops i)).any fun d => (B d).contains x)) &&
  (List.range ops.size).all fun j => i == j ||
    ((!cf (opAt ops i) (opAt ops j) || (B j).contains i || (B i).contains j) &&
     (match (opAt ops i).dst with | some d => (opAt ops j).dst != some d | none => true))

def regOK (C : Ctx) (ops : Array Oper) : Bool :=
  (List.range ops.size).all (regOKi ops (confl C ops) fun i => (befT ops.toList []).getD i [])
def regOKF (C : Ctx) (ops : Array Oper) : Bool :=
  (List.range ops.size).all (regOKi ops (conflF C ops) fun i => (befT ops.toList []).getD i [])

section
variable {C : Ctx} {N : Nat} {X : Nat → Prop} {w0 : World} {β0 : List BI} {H0 : List Blk}

/-- The run in the order of the text. -/
structure Trace (C : Ctx) (ops : Array Oper) (k : Nat) (st : ASt) (v : Nat → AV) (ρ : Nat → List (Nat × AV)) (H : Nat → List Blk) : Prop where
  ρ0 : ρ k = st.ρ
  H0 : H k = st.H
  step : ∀ i, k ≤ i → i < ops.size → ∃ g, wantG ops (ρ i) (opAt ops i) = some g ∧ (g = true → ∃ ob, astep C ⟨ρ i, H i⟩ (opAt ops i) = some (ob, v i, H (i + 1)) ∧ ob) ∧ (g = false → v i = .tup [] ∧ H (i + 1) = H i) ∧ ρ (i + 1) = putA (ρ i) (opAt ops i).dst (v i)

theorem aops_trace {ops : Array Oper} : ∀ (l : List Oper) (k : Nat) (st : ASt) (K : ASt → Prop), (∀ j : Nat, l[j]? = ops[k + j]?) → k ≤ ops.size → aops C ops l st K → ∃ v ρ H, Trace C ops k st v ρ H ∧ K ⟨ρ ops.size, H ops.size⟩
  | [], k, st, K, hl, hk, h => by
    have h0 := hl 0
    simp at h0
    have : k = ops.size := by omega
    subst this
    exact ⟨fun _ => .undef, fun _ => st.ρ, fun _ => st.H, ⟨rfl, rfl, fun i h1 h2 => by omega⟩, h⟩
  | o :: r, k, st, K, hl, hk, h => by
    have h0 := hl 0
    simp only [List.getElem?_cons_zero, Nat.add_zero] at h0
    have hlt : k < ops.size := (Array.getElem?_eq_some_iff.1 h0.symm).1
    have ho : opAt ops k = o := by simp [opAt, Array.getD_eq_getD_getElem?, ← h0]
    have hl' : ∀ j : Nat, r[j]? = ops[k + 1 + j]? := fun j => by have := hl (j + 1); rwa [List.getElem?_cons_succ, show k + (j + 1) = k + 1 + j by omega] at this
    unfold aops at h
    split at h
    · exact h.elim
    · rename_i g hg
      have fin : ∀ (vk : AV) (Hk : List Blk), ((g = true → ∃ ob, astep C ⟨st.ρ, st.H⟩ o = some (ob, vk, Hk) ∧ ob) ∧ (g = false → vk = .tup [] ∧ Hk = st.H)) → aops C ops r ⟨putA st.ρ o.dst vk, Hk⟩ K → ∃ v ρ H, Trace C ops k st v ρ H ∧ K ⟨ρ ops.size, H ops.size⟩ := by
        intro vk Hk hst hr
        obtain ⟨v, ρ, H, hT, hK⟩ := aops_trace r (k + 1) _ K hl' (by omega) hr
        refine ⟨fun i => if i = k then vk else v i, fun i => if i = k then st.ρ else ρ i, fun i => if i = k then st.H else H i, ⟨by simp, by simp, fun i h1 h2 => ?_⟩, ?_⟩
        · by_cases e : i = k
          · subst e
            refine ⟨g, by simpa [ho] using hg, fun hgt => ?_, fun hgf => ?_, ?_⟩
            · simp only [if_true, ho, Nat.succ_ne_self, if_false, hT.H0]
              exact hst.1 hgt
            · simp only [if_true, Nat.succ_ne_self, if_false, hT.H0]
              exact hst.2 hgf
            · simp only [if_true, ho, Nat.succ_ne_self, if_false, hT.ρ0]
          · have := hT.step i (by omega) h2
            simp only [e, if_false, show ¬ i + 1 = k by omega]
            exact this
        · have e : ¬ ops.size = k := by omega
          simpa only [e, if_false] using hK
      cases g with
      | true =>
        have h := h.1 rfl
        split at h
        · rename_i ob vk Hk hst
          exact fin vk Hk ⟨fun _ => ⟨ob, hst, h.1⟩, fun h => by cases h⟩ h.2
        · exact h.elim
      | false => exact fin (.tup []) st.H ⟨fun h => (by cases h), fun _ => ⟨rfl, rfl⟩⟩ (h.2 rfl)

theorem getA_putA {ρ : List (Nat × AV)} {dst : Option Nat} {v : AV} {t : Nat} : getA (putA ρ dst v) t = if dst = some t then v else getA ρ t := by
  cases dst with
  | none => simp [putA]
  | some d => simp [putA, getA]

theorem wantG_congr {ops : Array Oper} {ρ ρ' : List (Nat × AV)} {o : Oper} (h : ∀ t ∈ looks ops o, getA ρ t = getA ρ' t) : wantG ops ρ o = wantG ops ρ' o := by
  unfold wantG
  cases hg : o.guard with
  | none => rfl
  | some jw =>
    obtain ⟨j, want⟩ := jw
    simp only
    cases hd : (ops[j]?).bind (·.dst) with
    | none => rfl
    | some d =>
      simp only
      rw [h d (by simp [looks, hg, hd])]

theorem looks_aev {ops : Array Oper} {ρ ρ' : List (Nat × AV)} {o : Oper} (h : ∀ t ∈ looks ops o, getA ρ t = getA ρ' t) : ∀ x ∈ o.op.operands, ∀ t, aev C ρ t x = aev C ρ' t x := by
  intro x hx t
  refine aev_congr fun i hi => h i ?_
  subst hi
  exact List.mem_append.2 (.inl (List.mem_filterMap.2 ⟨.tmp i, Array.mem_toList_iff.2 hx, rfl⟩))

/-- What the check says. -/
structure RegFacts (C : Ctx) (ops : Array Oper) (B : Nat → List Nat) : Prop where
  dir : ∀ i, i < ops.size → ∀ d ∈ directs (opAt ops i), d < i
  lt : ∀ i, i < ops.size → ∀ x ∈ B i, x < i
  clo : ∀ i, i < ops.size → ∀ x ∈ B i, x ∈ directs (opAt ops i) ∨ ∃ d ∈ directs (opAt ops i), x ∈ B d
  con : ∀ i j, i < ops.size → j < ops.size → i ≠ j → conflF C ops (opAt ops i) (opAt ops j) = true → i ∈ B j ∨ j ∈ B i
  dst : ∀ i j, i < ops.size → j < ops.size → i ≠ j → ∀ d, (opAt ops i).dst = some d → (opAt ops j).dst ≠ some d

theorem regOKi_facts {ops : Array Oper} {cf : Oper → Oper → Bool} {B : Nat → List Nat} (h : (List.range ops.size).all (regOKi ops cf B) = true) (hcf : ∀ x y, conflF C ops x y = true → cf x y = true) : RegFacts C ops B ∧ ∀ i j, i < ops.size → j < ops.size → i ≠ j → cf (opAt ops i) (opAt ops j) = true → i ∈ B j ∨ j ∈ B i := by
  have hi : ∀ i, i < ops.size → regOKi ops cf B i = true := fun i hi => List.all_eq_true.1 h i (List.mem_range.2 hi)
  have parts : ∀ i, i < ops.size → ((∀ d ∈ directs (opAt ops i), d < i) ∧ (∀ x ∈ B i, x < i ∧ (x ∈ directs (opAt ops i) ∨ ∃ d ∈ directs (opAt ops i), x ∈ B d))) ∧ ∀ j, j < ops.size → i ≠ j →
      (cf (opAt ops i) (opAt ops j) = true → i ∈ B j ∨ j ∈ B i) ∧ ∀ d, (opAt ops i).dst = some d → (opAt ops j).dst ≠ some d := by
    intro i hlt
    have h1 := hi i hlt
    unfold regOKi at h1
    simp only [Bool.and_eq_true, List.all_eq_true, decide_eq_true_eq, Bool.or_eq_true, List.any_eq_true, List.contains_iff_mem] at h1
    refine ⟨⟨h1.1.1, fun x hx => h1.1.2 x hx⟩, fun j hj hne => ?_⟩
    have h2 := (h1.2 j (List.mem_range.2 hj)).resolve_left (by simpa using hne)
    refine ⟨fun hc => ?_, fun d hd => ?_⟩
    · rcases h2.1 with (h3 | h3) | h3
      · simp [hc] at h3
      · exact .inl h3
      · exact .inr h3
    · have h3 := h2.2
      rw [hd] at h3
      simpa using h3
  exact ⟨⟨fun i hi => (parts i hi).1.1, fun i hi x hx => ((parts i hi).1.2 x hx).1, fun i hi x hx => ((parts i hi).1.2 x hx).2, fun i j hi hj hne hc => ((parts i hi).2 j hj hne).1 (hcf _ _ hc), fun i j hi hj hne => ((parts i hi).2 j hj hne).2⟩, fun i j hi hj hne => ((parts i hi).2 j hj hne).1⟩

theorem conflF_confl {ops : Array Oper} {x y : Oper} (h : conflF C ops x y = true) : confl C ops x y = true := by
  unfold conflF at h
  unfold confl
  rcases Bool.or_eq_true_iff.1 h with h | h
  · rw [h]; rfl
  · simp only [Bool.and_eq_true] at h
    have : isPure C y = false := by
      have h2 := h.2
      unfold isEff at h2
      unfold isPure
      cases hk : kindOf C y <;> simp_all
    simp [h.1, this]
theorem regOK_facts {ops : Array Oper} (h : regOK C ops = true) : ∃ B, RegFacts C ops B ∧ ∀ i j, i < ops.size → j < ops.size → i ≠ j → isEff C (opAt ops i) = true → isPure C (opAt ops j) = false → i ∈ B j ∨ j ∈ B i := by
  obtain ⟨F, h2⟩ := regOKi_facts h fun _ _ => conflF_confl
  exact ⟨_, F, fun i j hi hj hne h3 h4 => h2 i j hi hj hne (by simp [confl, h3, h4])⟩
theorem regOKF_facts {ops : Array Oper} (h : regOKF C ops = true) : RegFacts C ops fun i => (befT ops.toList []).getD i [] := (regOKi_facts h fun _ _ h => h).1

end
end Go.Proofs.YtfoipbjhaiimlaaDoor

/-
  A region that draws its order, second part: the theorem. Own work; no program in sight.
-/
namespace Go.Proofs.YtfoipbjhaiimlaaDoor
open Go.RowKit

section
variable {C : Ctx} {N : Nat} {X : Nat → Prop} {w0 : World} {β0 : List BI} {H0 : List Blk} {ops : Array Oper} {B : Nat → List Nat} {st : ASt} {v : Nat → AV} {ρ : Nat → List (Nat × AV)} {H : Nat → List Blk}

theorem tr_rest (T : Trace C ops 0 st v ρ H) : ∀ i, i ≤ ops.size → ∀ t, (∀ j, j < i → (opAt ops j).dst ≠ some t) → getA (ρ i) t = getA (ρ 0) t
  | 0, _, _, _ => rfl
  | i + 1, hi, t, h => by
    obtain ⟨g, _, _, _, h4⟩ := T.step i (Nat.zero_le _) hi
    rw [h4, getA_putA, if_neg (h i (by omega))]
    exact tr_rest T i (by omega) t fun j hj => h j (by omega)

theorem tr_val (T : Trace C ops 0 st v ρ H) (F : RegFacts C ops B) : ∀ i, i ≤ ops.size → ∀ j d, j < i → (opAt ops j).dst = some d → getA (ρ i) d = v j
  | 0, _, _, _, h, _ => by omega
  | i + 1, hi, j, d, hj, hd => by
    obtain ⟨g, _, _, _, h4⟩ := T.step i (Nat.zero_le _) hi
    rw [h4, getA_putA]
    by_cases e : j = i
    · subst e; rw [if_pos hd]
    · rw [if_neg (fun h => F.dst j i (by omega) (by omega) e d hd h)]
      exact tr_val T F i (by omega) j d (by omega) hd

theorem tr_const1 (T : Trace C ops 0 st v ρ H) {i : Nat} (hi : i < ops.size) (he : isEff C (opAt ops i) = false) : H (i + 1) = H i := by
  obtain ⟨g, _, h2, h3, _⟩ := T.step i (Nat.zero_le _) hi
  cases g with
  | true =>
    obtain ⟨ob, h2, _⟩ := h2 rfl
    cases hk : kindOf C (opAt ops i) with
    | pure => exact (astep_pure hk h2).1
    | read => exact astep_read hk h2
    | eff => simp [isEff, hk] at he
  | false => exact (h3 rfl).2

theorem tr_const (T : Trace C ops 0 st v ρ H) {k : Nat} : ∀ m, k + m ≤ ops.size → (∀ e, k ≤ e → e < k + m → isEff C (opAt ops e) = false) → H k = H (k + m)
  | 0, _, _ => rfl
  | m + 1, hm, he => by
    rw [tr_const T m (by omega) fun e h1 h2 => he e h1 (by omega)]
    exact (tr_const1 T (by omega) (he (k + m) (by omega) (by omega))).symm

theorem tr_sep (T : Trace C ops 0 st v ρ H) {k k' : Nat} (hk : k ≤ ops.size) (hk' : k' ≤ ops.size) (h : ∀ e, e < ops.size → isEff C (opAt ops e) = true → (e < k ↔ e < k')) : H k = H k' := by
  rcases Nat.le_total k k' with h1 | h1
  · have := tr_const T (k := k) (k' - k) (by omega) fun e e1 e2 => by
      cases hh : isEff C (opAt ops e) with
      | false => rfl
      | true => have := (h e (by omega) hh).2 (by omega); omega
    rwa [show k + (k' - k) = k' by omega] at this
  · have := tr_const T (k := k') (k - k') (by omega) fun e e1 e2 => by
      cases hh : isEff C (opAt ops e) with
      | false => rfl
      | true => have := (h e (by omega) hh).1 (by omega); omega
    rw [show k' + (k - k') = k by omega] at this
    exact this.symm

/-- Where a run in some order stands. -/
structure Inv (C : Ctx) (ops : Array Oper) (B : Nat → List Nat) (v : Nat → AV) (ρ : Nat → List (Nat × AV)) (H : Nat → List Blk) (L : Nat → Prop) (ρS : List (Nat × AV)) (HS : List Blk) : Prop where
  clo : ∀ i, i < ops.size → L i → ∀ x ∈ B i, L x
  val : ∀ i, i < ops.size → L i → ∀ d, (opAt ops i).dst = some d → getA ρS d = v i
  rest : ∀ t, (∀ i, i < ops.size → L i → (opAt ops i).dst ≠ some t) → getA ρS t = getA (ρ 0) t
  heap : ∀ k, k ≤ ops.size → (∀ i, i < ops.size → isEff C (opAt ops i) = true → (L i ↔ i < k)) → HS = H k

theorem confl_eff {x y : Oper} (h1 : isEff C x = true) (h2 : isEff C y = true) : conflF C ops x y = true := by simp [conflF, h1, h2]
theorem confl_dst {x y : Oper} {d : Nat} (h1 : x.dst = some d) (h2 : d ∈ looks ops y) : conflF C ops x y = true := by simp [conflF, h1, h2]

/-- All that an operation stands behind has been done, if its direct ones have. -/
theorem behind (F : RegFacts C ops B) {L : Nat → Prop} (hclo : ∀ i, i < ops.size → L i → ∀ x ∈ B i, L x) {i : Nat} (hi : i < ops.size) (hd : ∀ d ∈ directs (opAt ops i), L d) : ∀ x ∈ B i, L x := by
  intro x hx
  rcases F.clo i hi x hx with h | ⟨d, h, h'⟩
  · exact hd x h
  · exact hclo d (by have := F.dir i hi d h; omega) (hd d h) x h'

theorem inv_looks (T : Trace C ops 0 st v ρ H) (F : RegFacts C ops B) {L : Nat → Prop} {ρS : List (Nat × AV)} {HS : List Blk} (I : Inv C ops B v ρ H L ρS HS) {i : Nat} (hi : i < ops.size) (hL : ¬ L i) (hd : ∀ d ∈ directs (opAt ops i), L d) :
    ∀ t ∈ looks ops (opAt ops i), getA ρS t = getA (ρ i) t := by
  have hB := behind F I.clo hi hd
  intro t ht
  by_cases hex : ∃ j, j < ops.size ∧ (opAt ops j).dst = some t
  · obtain ⟨j, hj, hdj⟩ := hex
    by_cases e : j = i
    · subst e
      have h1 : getA ρS t = getA (ρ 0) t := I.rest t fun k hk hLk hdk => by
        by_cases e : k = j
        · subst e; exact hL hLk
        · exact F.dst j k hj hk (fun h => e h.symm) t hdj hdk
      rw [h1, tr_rest T j (by omega) t fun k hk hdk => F.dst j k hj (by omega) (by omega) t hdj hdk]
    · rcases F.con j i hj hi e (confl_dst hdj ht) with h | h
      · rw [I.val j hj (hB j h) t hdj, tr_val T F i (by omega) j t (F.lt i hi j h) hdj]
      · have hij := F.lt j hj i h
        have hnL : ¬ L j := fun h' => hL (I.clo j hj h' i h)
        rw [I.rest t fun k hk hLk hdk => by
          by_cases e' : k = j
          · subst e'; exact hnL hLk
          · exact F.dst j k hj hk (fun h => e' h.symm) t hdj hdk]
        rw [tr_rest T i (by omega) t fun k hk hdk => by
          by_cases e' : k = j
          · omega
          · exact F.dst j k hj (by omega) (fun h => e' h.symm) t hdj hdk]
  · rw [I.rest t fun k hk _ hdk => hex ⟨k, hk, hdk⟩, tr_rest T i (by omega) t fun k hk hdk => hex ⟨k, by omega, hdk⟩]

theorem inv_heap (F : RegFacts C ops B) {L : Nat → Prop} {ρS : List (Nat × AV)} {HS : List Blk} (I : Inv C ops B v ρ H L ρS HS) {i : Nat} (hi : i < ops.size) (hL : ¬ L i) (hd : ∀ d ∈ directs (opAt ops i), L d) (hp : isEff C (opAt ops i) = true) :
    (∀ e, e < ops.size → isEff C (opAt ops e) = true → (L e ↔ e < i)) := by
  have hB := behind F I.clo hi hd
  intro e he hee
  by_cases h : e = i
  · subst h
    exact ⟨fun h => absurd h hL, fun h => by omega⟩
  · rcases F.con e i he hi h (confl_eff hee hp) with h1 | h1
    · exact ⟨fun _ => F.lt i hi e h1, fun _ => hB e h1⟩
    · have := F.lt e he i h1
      exact ⟨fun h2 => absurd (I.clo e he h2 i h1) hL, fun h2 => by omega⟩

theorem inv_next (T : Trace C ops 0 st v ρ H) (F : RegFacts C ops B) {L : Nat → Prop} {ρS : List (Nat × AV)} {HS : List Blk} (I : Inv C ops B v ρ H L ρS HS) {i : Nat} (hi : i < ops.size) (hL : ¬ L i) (hd : ∀ d ∈ directs (opAt ops i), L d)
    {HS' : List Blk} (hH : (isEff C (opAt ops i) = true → HS' = H (i + 1)) ∧ (isEff C (opAt ops i) = false → HS' = HS)) : Inv C ops B v ρ H (fun j => j = i ∨ L j) (putA ρS (opAt ops i).dst (v i)) HS' := by
  have hB := behind F I.clo hi hd
  refine ⟨fun j hj hl x hx => ?_, fun j hj hl d hdj => ?_, fun t ht => ?_, fun k hk hsep => ?_⟩
  · rcases hl with rfl | hl
    · exact .inr (hB x hx)
    · exact .inr (I.clo j hj hl x hx)
  · rw [getA_putA]
    by_cases e : j = i
    · subst e; rw [if_pos hdj]
    · rw [if_neg (fun h => F.dst j i hj hi e d hdj h)]
      exact I.val j hj (hl.resolve_left e) d hdj
  · rw [getA_putA, if_neg (ht i hi (.inl rfl))]
    exact I.rest t fun k hk hlk => ht k hk (.inr hlk)
  · cases he : isEff C (opAt ops i) with
    | true =>
      rw [hH.1 he]
      have h1 := inv_heap F I hi hL hd he
      have hik := (hsep i hi he).1 (.inl rfl)
      refine tr_sep T hi hk fun e he1 he2 => ?_
      by_cases h : e = i
      · subst h; exact ⟨fun _ => hik, fun _ => by omega⟩
      · have h2 := h1 e he1 he2
        have h3 := hsep e he1 he2
        constructor
        · intro h4; exact h3.1 (.inr (h2.2 (by omega)))
        · intro h4
          have := h2.1 ((h3.2 h4).resolve_left h)
          omega
    | false =>
      rw [hH.2 he]
      refine I.heap k hk fun e he1 he2 => ?_
      have h3 := hsep e he1 he2
      have hne : e ≠ i := fun h => by subst h; rw [he] at he2; cases he2
      exact ⟨fun h => h3.1 (.inr h), fun h => (h3.2 h).resolve_left hne⟩

/-- Which effects have been done: those ahead of some place. -/
theorem cut_of (F : RegFacts C ops B) {L : Nat → Prop} (hclo : ∀ i, i < ops.size → L i → ∀ x ∈ B i, L x) : ∀ n, n ≤ ops.size → ∃ k, k ≤ n ∧ ∀ e, e < n → isEff C (opAt ops e) = true → (L e ↔ e < k)
  | 0, _ => ⟨0, Nat.le_refl _, fun e he => by omega⟩
  | n + 1, hn => by
    obtain ⟨k, hk, h⟩ := cut_of F hclo n (by omega)
    by_cases hl : isEff C (opAt ops n) = true ∧ L n
    · refine ⟨n + 1, Nat.le_refl _, fun e he hee => ⟨fun _ => he, fun _ => ?_⟩⟩
      by_cases e1 : e = n
      · subst e1; exact hl.2
      · rcases F.con e n (by omega) (by omega) e1 (confl_eff hee hl.1) with h1 | h1
        · exact hclo n (by omega) hl.2 e h1
        · have := F.lt e (by omega) n h1; omega
    · refine ⟨k, by omega, fun e he hee => ?_⟩
      by_cases e1 : e = n
      · subst e1
        exact ⟨fun h2 => absurd ⟨hee, h2⟩ hl, fun h2 => by omega⟩
      · exact h e (by omega) hee

/-- What a read must give at every heap that may stand when it runs. -/
def Stable (C : Ctx) (ops : Array Oper) (B : Nat → List Nat) (v : Nat → AV) (ρ : Nat → List (Nat × AV)) (H : Nat → List Blk) : Prop :=
  ∀ i k, i < ops.size → k ≤ ops.size → kindOf C (opAt ops i) = .read → wantG ops (ρ i) (opAt ops i) = some true → (∀ e, e < ops.size → isEff C (opAt ops e) = true → e ∈ B i → e < k) → (∀ e, e < ops.size → isEff C (opAt ops e) = true → i ∈ B e → k ≤ e) →
    ∃ ob, astep C ⟨ρ i, H k⟩ (opAt ops i) = some (ob, v i, H k) ∧ ob

theorem stable_of (T : Trace C ops 0 st v ρ H) (F : RegFacts C ops B) (hf : ∀ i j, i < ops.size → j < ops.size → i ≠ j → isEff C (opAt ops i) = true → isPure C (opAt ops j) = false → i ∈ B j ∨ j ∈ B i) : Stable C ops B v ρ H := by
  intro i k hi hk hkd hg h1 h2
  have e : H k = H i := tr_sep T hk (by omega) fun e he hee => by
    have hne : e ≠ i := fun h => by subst h; simp [isEff, hkd] at hee
    rcases hf e i he hi hne hee (by simp [isPure, hkd]) with h | h
    · exact ⟨fun _ => F.lt i hi e h, fun _ => h1 e he hee h⟩
    · have := F.lt e he i h
      have := h2 e he hee h
      exact ⟨fun h => by omega, fun h => by omega⟩
  rw [e]
  obtain ⟨g, hg', hst, _, _⟩ := T.step i (Nat.zero_le _) hi
  rw [hg] at hg'; injection hg' with hg'; subst hg'
  obtain ⟨ob, hst, hob⟩ := hst rfl
  have h1 := astep_read hkd hst
  rw [h1] at hst
  exact ⟨ob, hst, hob⟩

theorem ready_spec {listed : Array Bool} {i : Nat} (h : i ∈ Region.ready .any ops listed) : i < ops.size ∧ listed.getD i true = false ∧ ∀ d ∈ directs (opAt ops i), listed.getD d false = true := by
  unfold Region.ready at h
  rw [List.mem_filter] at h
  obtain ⟨h1, h2⟩ := h
  have hi := List.mem_range.1 h1
  simp only [Bool.and_eq_true, Bool.not_eq_true'] at h2
  refine ⟨hi, h2.1, fun d hd => ?_⟩
  have h3 := h2.2
  rw [Array.getElem?_eq_getElem hi] at h3
  simp only [Option.map_some, Option.getD_some] at h3
  unfold directs opAt at hd
  rw [Array.getD_eq_getD_getElem?, Array.getElem?_eq_getElem hi] at hd
  simp only [Option.getD_some, List.mem_map, List.mem_filter] at hd
  obtain ⟨e, ⟨he1, he2⟩, rfl⟩ := hd
  have h4 := Array.all_eq_true'.1 h3 e (Array.mem_toList_iff.1 he1)
  simp only [he2, Bool.not_true, Bool.false_or] at h4
  exact h4

theorem ready_nil (F : RegFacts C ops B) {listed : Array Bool} (hs : listed.size = ops.size) (h : Region.ready .any ops listed = []) : ∀ i, i < ops.size → listed.getD i false = true := by
  intro i
  induction i using Nat.strongRecOn with
  | _ i ih =>
    intro hi
    cases hl : listed.getD i false with
    | true => rfl
    | false =>
      exfalso
      have : i ∈ Region.ready .any ops listed := by
        unfold Region.ready
        rw [List.mem_filter]
        refine ⟨List.mem_range.2 hi, ?_⟩
        simp only [Bool.and_eq_true, Bool.not_eq_true']
        refine ⟨?_, ?_⟩
        · rw [Array.getD_eq_getD_getElem?, Array.getElem?_eq_getElem (by omega)] at hl ⊢
          exact hl
        · rw [Array.getElem?_eq_getElem hi]
          simp only [Option.map_some, Option.getD_some]
          refine Array.all_eq_true'.2 fun e he => ?_
          cases hb : Region.binds .any e with
          | false => rfl
          | true =>
            have hd : e.on ∈ directs (opAt ops i) := by
              unfold directs opAt
              rw [Array.getD_eq_getD_getElem?, Array.getElem?_eq_getElem hi]
              simp only [Option.getD_some, List.mem_map, List.mem_filter]
              exact ⟨e, ⟨Array.mem_toList_iff.2 he, hb⟩, rfl⟩
            have hlt := F.dir i hi e.on hd
            simp [ih e.on hlt (by omega)]
      rw [h] at this
      cases this

theorem trel_congr {w : World} {Y : Nat → Prop} {β : List BI} {Hh : List Blk} {a : Act} {ρ1 ρ2 : List (Nat × AV)} (h : ∀ t, getA ρ1 t = getA ρ2 t) (T : TRel w Y β Hh a ρ1) : TRel w Y β Hh a ρ2 := fun t => by rw [← h t]; exact T t

theorem wpAny_of_trace (hS : SigOK C) (hd : ∀ i, i < ops.size → ∀ d, (opAt ops i).dst = some d → d < N) (T : Trace C ops 0 st v ρ H) (F : RegFacts C ops B) (hstab : Stable C ops B v ρ H) {Q : Exit → Act → World → Prop}
    (hQ : ∀ a' w', Rel C N X w0 β0 H0 ⟨ρ ops.size, H ops.size⟩ a' w' → Q .normal a' w') : ∀ (fuel : Nat) (listed : Array Bool) (ρS : List (Nat × AV)) (HS : List Blk) (a : Act) (w : World), listed.size = ops.size →
      Inv C ops B v ρ H (fun i => listed.getD i false = true) ρS HS → (List.range ops.size).countP (fun i => !listed.getD i false) ≤ fuel → Rel C N X w0 β0 H0 ⟨ρS, HS⟩ a w → wpAny C.P .any ops Q fuel listed a w := by
  -- where all has been done
  have done : ∀ (listed : Array Bool) (ρS : List (Nat × AV)) (HS : List Blk) (a : Act) (w : World), Inv C ops B v ρ H (fun i => listed.getD i false = true) ρS HS → (∀ i, i < ops.size → listed.getD i false = true) → Rel C N X w0 β0 H0 ⟨ρS, HS⟩ a w → Q .normal a w := by
    intro listed ρS HS a w I hall hr
    obtain ⟨β, R, S0, Tr, G, hN, hdef⟩ := hr
    have hH : HS = H ops.size := I.heap ops.size (Nat.le_refl _) fun i hi _ => ⟨fun _ => hi, fun _ => hall i hi⟩
    subst hH
    refine hQ a w ⟨β, R, S0, trel_congr (fun t => ?_) Tr, G, hN, hdef⟩
    by_cases hex : ∃ j, j < ops.size ∧ (opAt ops j).dst = some t
    · obtain ⟨j, hj, hdj⟩ := hex
      rw [I.val j hj (hall j hj) t hdj, tr_val T F ops.size (Nat.le_refl _) j t hj hdj]
    · rw [I.rest t fun k hk _ hdk => hex ⟨k, hk, hdk⟩, tr_rest T ops.size (Nat.le_refl _) t fun k hk hdk => hex ⟨k, hk, hdk⟩]
  intro fuel
  induction fuel with
  | zero =>
    intro listed ρS HS a w hs I hc hr
    have hall : ∀ i, i < ops.size → listed.getD i false = true := by
      intro i hi
      have h0 : (List.range ops.size).countP (fun i => !listed.getD i false) = 0 := by omega
      rw [List.countP_eq_zero] at h0
      have := h0 i (List.mem_range.2 hi)
      simpa using this
    refine ⟨?_, done listed ρS HS a w I hall hr⟩
    cases hrd : Region.ready .any ops listed with
    | nil => rfl
    | cons i r =>
      obtain ⟨h1, h2, _⟩ := ready_spec (ops := ops) (listed := listed) (i := i) (by rw [hrd]; simp)
      have := hall i h1
      rw [Array.getD_eq_getD_getElem?, Array.getElem?_eq_getElem (by omega), Option.getD_some] at h2 this
      rw [h2] at this
      cases this
  | succ fuel ih =>
    intro listed ρS HS a w hs I hc hr
    refine ⟨fun hnil => done listed ρS HS a w I (ready_nil F hs hnil) hr, fun i hi => ?_⟩
    obtain ⟨hlt, hun, hdir⟩ := ready_spec hi
    have hL : ¬ (listed.getD i false = true) := by
      rw [Array.getD_eq_getD_getElem?, Array.getElem?_eq_getElem (by omega), Option.getD_some] at hun ⊢
      rw [hun]
      simp
    have hlook := inv_looks T F I hlt hL hdir
    obtain ⟨β, R, S0, Tr, G, hN, hdef⟩ := hr
    obtain ⟨g, hg, hst, hsk, _⟩ := T.step i (Nat.zero_le _) hlt
    have hg' : wantG ops ρS (opAt ops i) = some g := by rw [wantG_congr hlook]; exact hg
    have hw := wantG_sound Tr hg'
    have hget : ops[i]? = some (opAt ops i) := by
      unfold opAt
      rw [Array.getD_eq_getD_getElem?, Array.getElem?_eq_getElem hlt]
      rfl
    -- on to the next
    have next : ∀ (HS' : List Blk) (a' : Act) (w' : World), ((isEff C (opAt ops i) = true → HS' = H (i + 1)) ∧ (isEff C (opAt ops i) = false → HS' = HS)) → Rel C N X w0 β0 H0 ⟨putA ρS (opAt ops i).dst (v i), HS'⟩ a' w' →
        wpAny C.P .any ops Q fuel (listed.setIfInBounds i true) a' w' := by
      intro HS' a' w' hH hr'
      have hset : ∀ j, (listed.setIfInBounds i true).getD j false = true ↔ (j = i ∨ listed.getD j false = true) := by
        intro j
        by_cases e : j = i
        · subst e
          simp [Array.getD_eq_getD_getElem?, show j < listed.size by omega]
        · simp [Array.getD_eq_getD_getElem?, Array.getElem?_setIfInBounds_ne (fun h => e h.symm), e]
      refine ih _ _ HS' a' w' (by simpa using hs) ?_ ?_ hr'
      · have := inv_next T F I hlt hL hdir hH
        refine ⟨fun j hj hl x hx => (hset x).2 (this.clo j hj ((hset j).1 hl) x hx), fun j hj hl => this.val j hj ((hset j).1 hl), fun t ht => this.rest t fun j hj hl => ht j hj ((hset j).2 hl), fun k hk hsep => this.heap k hk fun j hj he => ?_⟩
        rw [← hsep j hj he]
        exact (hset j).symm
      · have key : (List.range ops.size).countP (fun j => !(listed.setIfInBounds i true).getD j false) + 1 ≤ (List.range ops.size).countP (fun j => !listed.getD j false) := by
          have h1 : ∀ l : List Nat, i ∈ l → l.countP (fun j => !(listed.setIfInBounds i true).getD j false) + 1 ≤ l.countP (fun j => !listed.getD j false) := by
            have h0 : ∀ l : List Nat, l.countP (fun j => !(listed.setIfInBounds i true).getD j false) ≤ l.countP (fun j => !listed.getD j false) := fun l => List.countP_mono_left fun j _ hj => by
              simp only [Bool.not_eq_true', Bool.eq_false_iff] at hj ⊢
              exact fun h => hj ((hset j).2 (.inr h))
            intro l hl
            induction l with
            | nil => cases hl
            | cons j r ihl =>
              rw [List.countP_cons, List.countP_cons]
              by_cases e : j = i
              · subst e
                have e1 : (!(listed.setIfInBounds j true).getD j false) = false := by rw [(hset j).2 (.inl rfl)]; rfl
                have e2 : (!listed.getD j false) = true := by simpa using hL
                rw [e1, e2]
                have := h0 r
                simp only [if_true, Bool.false_eq_true, if_false]
                omega
              · have := ihl (by simpa [Ne.symm e] using hl)
                have hj : (!(listed.setIfInBounds i true).getD j false) = !listed.getD j false := by
                  have := hset j
                  simp only [e, false_or] at this
                  cases h1 : (listed.setIfInBounds i true).getD j false <;> cases h2 : listed.getD j false <;> simp_all
                rw [hj]
                omega
          exact h1 _ (List.mem_range.2 hlt)
        omega
    unfold wpOp
    rw [hget]
    simp only
    rw [hw]
    cases g with
    | true =>
      rw [if_pos rfl]
      obtain ⟨ob, hst, hob⟩ := hst rfl
      have hcg : astep C ⟨ρS, H i⟩ (opAt ops i) = some (ob, v i, H (i + 1)) := by rw [astep_congr (looks_aev hlook)]; exact hst
      refine .inl ?_
      cases hk : kindOf C (opAt ops i) with
      | pure =>
        obtain ⟨h1, h2⟩ := astep_pure hk hcg
        exact astep_sound hS R Tr G (h2 HS) hob fun u w' β' R' S hr => next HS _ _ ⟨fun h => by simp [isEff, hk] at h, fun _ => rfl⟩ (rel_put S0 Tr G hN hdef R' S hr _ (hd i hlt))
      | read =>
        obtain ⟨k, hkn, hcut⟩ := cut_of F I.clo ops.size (Nat.le_refl _)
        have hH : HS = H k := I.heap k hkn hcut
        have hB := behind F I.clo hlt hdir
        obtain ⟨ob, hst', hob⟩ := hstab i k hlt hkn hk hg (fun e he hee h => (hcut e he hee).1 (hB e h)) (fun e he hee h => by
          rcases Nat.lt_or_ge e k with h1 | h1
          · exact absurd (I.clo e he ((hcut e he hee).2 h1) i h) hL
          · exact h1)
        have hcg : astep C ⟨ρS, HS⟩ (opAt ops i) = some (ob, v i, HS) := by rw [hH, astep_congr (looks_aev hlook)]; exact hst'
        exact astep_sound hS R Tr G hcg hob fun u w' β' R' S hr => next HS _ _ ⟨fun h => by simp [isEff, hk] at h, fun _ => rfl⟩ (rel_put S0 Tr G hN hdef R' S hr _ (hd i hlt))
      | eff =>
        have hH : HS = H i := I.heap i (by omega) (inv_heap F I hlt hL hdir (by simp [isEff, hk]))
        rw [← hH] at hcg
        exact astep_sound hS R Tr G hcg hob fun u w' β' R' S hr => next _ _ _ ⟨fun _ => rfl, fun h => by simp [isEff, hk] at h⟩ (rel_put S0 Tr G hN hdef R' S hr _ (hd i hlt))
    | false =>
      rw [if_neg (by simp)]
      obtain ⟨hv, hHi⟩ := hsk rfl
      refine next HS _ _ ⟨fun h => ?_, fun _ => rfl⟩ ?_
      · rw [hHi]
        exact I.heap i (by omega) (inv_heap F I hlt hL hdir h)
      · rw [hv]
        exact rel_put S0 Tr G hN hdef R (StepR.refl _ _ _ R.len) rep_skip _ (hd i hlt)

end
end Go.Proofs.YtfoipbjhaiimlaaDoor
