/-
  What an operation looks at. Own work; no program in sight.
-/
import Derived.Test.YtankjfiaajpfoaaDoorAm17
import Derived.Orders
namespace Go.Proofs.YtankjfiaajpfoaaDoor
open Go.RowKit

section
variable {C : Ctx} {ρ ρ' : List (Nat × AV)} {H : List Blk}

theorem aev_congr {t : TypeId} {x : Operand} (h : ∀ i, x = .tmp i → getA ρ i = getA ρ' i) : aev C ρ t x = aev C ρ' t x := by
  cases x with
  | tmp i => exact h i rfl
  | _ => rfl

theorem argAVs_congr : ∀ {xs : List Operand} {ts : List TypeId}, (∀ x ∈ xs, ∀ t, aev C ρ t x = aev C ρ' t x) → argAVs C ρ xs ts = argAVs C ρ' xs ts
  | [], ts, _ => by cases ts <;> rfl
  | x :: r, [], h => by simp only [argAVs, h x (by simp) 0, argAVs_congr (xs := r) (ts := []) (fun y hy => h y (List.mem_cons_of_mem _ hy))]
  | x :: r, t :: q, h => by simp only [argAVs, h x (by simp) t, argAVs_congr (xs := r) (ts := q) (fun y hy => h y (List.mem_cons_of_mem _ hy))]

theorem optmap_congr {lo : Option Operand} {t : TypeId} (h : ∀ x, lo = some x → aev C ρ t x = aev C ρ' t x) : lo.map (aev C ρ t) = lo.map (aev C ρ' t) := by
  cases lo with
  | none => rfl
  | some x => simp [h x rfl]

theorem target_congr {c : Call} (h : ∀ x ∈ c.operands, ∀ t, aev C ρ t x = aev C ρ' t x) : target C ρ c = target C ρ' c := by
  have ha : ∀ x ∈ c.args.toList, ∀ t, aev C ρ t x = aev C ρ' t x := fun x hx => h x (by simp only [Call.operands]; exact Array.mem_append.2 (.inr (Array.mem_toList_iff.1 hx)))
  unfold target
  split
  · rename_i f hf
    rw [h f (by simp [Call.operands, hf]) 0, argAVs_congr ha]
  · rfl

theorem parts_congr {parts : List (Nat × Operand)} {ty : Nat → TypeId} (h : ∀ x ∈ parts.map (·.2), ∀ t, aev C ρ t x = aev C ρ' t x) : (parts.map fun p => (p.1, aev C ρ (ty p.1) p.2)) = parts.map fun p => (p.1, aev C ρ' (ty p.1) p.2) :=
  List.map_congr_left fun p hp => by rw [h p.2 (List.mem_map.2 ⟨p, hp, rfl⟩)]

theorem call_args {c : Call} (h : ∀ x ∈ c.operands, ∀ t, aev C ρ t x = aev C ρ' t x) : ∀ x ∈ c.args.toList, ∀ t, aev C ρ t x = aev C ρ' t x := fun x hx => h x (by simp only [Call.operands]; exact Array.mem_append.2 (.inr (Array.mem_toList_iff.1 hx)))

theorem abuild_congr {t : TypeId} {parts : List (Nat × Operand)} (hp : ∀ x ∈ parts.map (·.2), ∀ t, aev C ρ t x = aev C ρ' t x) : abuild C ρ t parts = abuild C ρ' t parts := by
  unfold abuild
  cases zT C.P t with
  | none => rfl
  | some z =>
    simp only
    cases arrT C.P t with
    | none => simp only; rw [parts_congr (ty := fieldTy C t) hp]
    | some ne =>
      obtain ⟨n, e⟩ := ne
      simp only
      rw [parts_congr (ty := fun _ => e) hp]

theorem apure_congr {o : Oper} (h : ∀ x ∈ o.op.operands, ∀ t, aev C ρ t x = aev C ρ' t x) : apure C ρ o = apure C ρ' o := by
  obtain ⟨dst, op, type, pos, after, guard⟩ := o
  simp only at h
  unfold apure
  simp only
  cases op <;> simp only [Op.operands] at h <;> try rfl
  case move x => simp only; rw [h x (by simp)]
  case assign x => simp only; rw [h x (by simp)]
  case pick c a b => simp only; rw [h c (by simp), h a (by simp), h b (by simp)]
  case binOp op t x y ty => simp only; rw [h x (by simp), h y (by simp)]
  case unOp op t x => simp only; rw [h x (by simp)]
  case convert s d x => simp only; rw [h x (by simp)]
  case field t x k => simp only; rw [h x (by simp)]
  case fieldAddr t x k => simp only; rw [h x (by simp)]
  case indexAddr t x ix => simp only; rw [h x (by simp), h ix (by simp)]
  case index t x ix => simp only; rw [h x (by simp), h ix (by simp)]
  case slice t x lo hi mx =>
    simp only
    rw [h x (by simp), optmap_congr (lo := lo) (fun y hy => h y (by subst hy; simp) _), optmap_congr (lo := hi) (fun y hy => h y (by subst hy; simp) _), optmap_congr (lo := mx) (fun y hy => h y (by subst hy; simp) _)]
  case extract x k => simp only; rw [h x (by simp)]
  case makeFunc fn first cap =>
    cases fn with
    | func f =>
      simp only
      have : cap.toList.map (aev C ρ 0) = cap.toList.map (aev C ρ' 0) := List.map_congr_left fun x hx => h x (Array.mem_append.2 (.inr (Array.mem_toList_iff.1 hx))) 0
      rw [this]
    | _ => rfl
  case nilCheck x => simp only; rw [h x (by simp)]
  case build t parts =>
    have hp : ∀ x ∈ parts.toList.map (·.2), ∀ t, aev C ρ t x = aev C ρ' t x := fun x hx => h x (by simpa using hx)
    simp only
    rw [abuild_congr hp]
  case call c =>
    have ha := call_args h
    obtain ⟨callee, args, argTypes⟩ := c
    simp only at ha ⊢
    split
    · split
      · rename_i x t hx ht
        rw [ha x (by rw [hx]; simp)]
      · rfl
    · rw [argAVs_congr ha]
    · rw [argAVs_congr ha]
    · rfl

theorem aread_congr {o : Oper} (h : ∀ x ∈ o.op.operands, ∀ t, aev C ρ t x = aev C ρ' t x) : aread C ρ H o = aread C ρ' H o := by
  obtain ⟨dst, op, type, pos, after, guard⟩ := o
  simp only at h
  unfold aread
  simp only
  cases op <;> simp only [Op.operands] at h <;> try rfl
  case load t p => simp only; rw [h p (by simp)]
  case buildSlice t len parts =>
    have hp : ∀ x ∈ parts.toList.map (·.2), ∀ t, aev C ρ t x = aev C ρ' t x := fun x hx => h x (by simpa using hx)
    have : elParts C ρ t parts.toList = elParts C ρ' t parts.toList := by
      unfold elParts
      split
      · rename_i e _; exact parts_congr (ty := fun _ => e) hp
      · rfl
    simp only
    rw [this]
  case convert s d x => simp only; rw [h x (by simp)]
  case call c => simp only; rw [target_congr h]

theorem aeff_congr {o : Oper} (h : ∀ x ∈ o.op.operands, ∀ t, aev C ρ t x = aev C ρ' t x) : aeff C ρ H o = aeff C ρ' H o := by
  obtain ⟨dst, op, type, pos, after, guard⟩ := o
  simp only at h
  unfold aeff
  simp only
  cases op <;> simp only [Op.operands] at h <;> try rfl
  case box t x => simp only; rw [h x (by simp)]
  case store t p x => simp only; rw [h p (by simp), h x (by simp)]
  case buildSlice t len parts =>
    have hp : ∀ x ∈ parts.toList.map (·.2), ∀ t, aev C ρ t x = aev C ρ' t x := fun x hx => h x (by simpa using hx)
    have : elParts C ρ t parts.toList = elParts C ρ' t parts.toList := by
      unfold elParts
      split
      · rename_i e _; exact parts_congr (ty := fun _ => e) hp
      · rfl
    simp only
    rw [this]
  case makeSlice t l c => simp only; rw [h l (by simp), h c (by simp)]
  case call c =>
    have ha := call_args h
    have ht := target_congr h
    obtain ⟨callee, args, argTypes⟩ := c
    simp only at ha ⊢
    split
    · split
      · rename_i s x t t' hx _
        rw [ha s (by rw [hx]; simp), ha x (by rw [hx]; simp)]
      · rfl
    · rw [ht]

theorem astep_congr {o : Oper} (h : ∀ x ∈ o.op.operands, ∀ t, aev C ρ t x = aev C ρ' t x) : astep C ⟨ρ, H⟩ o = astep C ⟨ρ', H⟩ o := by
  unfold astep
  cases kindOf C o with
  | pure => simp only [apure_congr h]
  | read => simp only [aread_congr h]
  | eff => simp only [aeff_congr h]

theorem astep_pure {o : Oper} (hk : kindOf C o = .pure) {ob : Prop} {v : AV} {H' : List Blk} (h : astep C ⟨ρ, H⟩ o = some (ob, v, H')) : H' = H ∧ ∀ H2, astep C ⟨ρ, H2⟩ o = some (ob, v, H2) := by
  unfold astep at h ⊢
  rw [hk] at h
  simp only at h
  rw [hk]
  split at h
  · rename_i h1
    injection h with h; injection h with e1 e2; injection e2 with e2 e3; subst e1 e2 e3
    refine ⟨rfl, fun H2 => ?_⟩
    simp only [h1]
  · cases h

theorem astep_read {o : Oper} (hk : kindOf C o = .read) {ob : Prop} {v : AV} {H' : List Blk} (h : astep C ⟨ρ, H⟩ o = some (ob, v, H')) : H' = H := by
  unfold astep at h
  rw [hk] at h
  simp only at h
  split at h
  · injection h with h; injection h with e1 e2; injection e2 with e2 e3; exact e3.symm
  · cases h

end
end Go.Proofs.YtankjfiaajpfoaaDoor
