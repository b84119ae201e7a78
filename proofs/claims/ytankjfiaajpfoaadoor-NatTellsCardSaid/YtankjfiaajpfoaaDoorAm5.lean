/-
  Soundness of the operations that look at no block. Own work; no program in sight.
-/
import Derived.Test.YtankjfiaajpfoaaDoorAm4
namespace Go.Proofs.YtankjfiaajpfoaaDoor
open Go.RowKit

section
variable {C : Ctx} {w : World} {X : Nat → Prop} {β : List BI} {H : List Blk}

theorem arith_val (k : IntKind) (n : Int) (h : (arith k n).1) : (arith k n).2 = .int k (k.wrap n) := by
  unfold arith at h ⊢
  split
  · simp only at h
    rw [IntWalk.i64_in n (by unfold I64 at h; exact h)]
  · rfl

theorem str_eq_dec (a b : ByteArray) : (a.toList == b.toList) = decide (a = b) := by
  rw [Bool.eq_iff_iff, beq_iff_eq, decide_eq_true_iff, ByteArray.toList_eq, ByteArray.toList_eq]
  constructor
  · intro h
    apply ByteArray.ext
    exact Array.toList_inj.1 h
  · intro h; rw [h]

theorem abinI_sound {op : BinOp} {k : IntKind} {a b : Int} {ob : Prop} {r : AV} (h : abinI op k a b = some (ob, r)) (hob : ob) (t : TypeId) (ox oy : Operand) (hop : op ≠ .shl ∧ op ≠ .shr) :
    ∃ u, ((do eqGuard op t ox oy (.int k a) (.int k b); binOp op t (.int k a) (.int k b) : Sem Value)).run C.P w = .ok u w ∧ RepD w X u r := by
  cases op <;> simp only [abinI, Option.some.injEq, Prod.mk.injEq, reduceCtorEq] at h <;> first | exact absurd rfl hop.1 | exact absurd rfl hop.2 | skip
  case add =>
    refine ⟨.int k (k.wrap (a + b)), by simp [eqGuard, binOp, Op.intArith], ?_⟩
    rw [show r = (arith k (a + b)).2 by rw [h], arith_val k _ (by rw [h]; exact hob)]; exact .int _ _
  case sub =>
    refine ⟨.int k (k.wrap (a - b)), by simp [eqGuard, binOp, Op.intArith], ?_⟩
    rw [show r = (arith k (a - b)).2 by rw [h], arith_val k _ (by rw [h]; exact hob)]; exact .int _ _
  case mul =>
    refine ⟨.int k (k.wrap (a * b)), by simp [eqGuard, binOp, Op.intArith], ?_⟩
    rw [show r = (arith k (a * b)).2 by rw [h], arith_val k _ (by rw [h]; exact hob)]; exact .int _ _
  case quo =>
    obtain ⟨rfl, rfl⟩ := h
    refine ⟨.int k (k.wrap (a.tdiv b)), by simp [eqGuard, binOp, Op.intDiv, hob.1], ?_⟩
    rw [arith_val k _ hob.2]; exact .int _ _
  case rem =>
    obtain ⟨rfl, rfl⟩ := h
    exact ⟨.int k (a.tmod b), by simp [eqGuard, binOp, Op.intDiv, hob], .int _ _⟩
  case and => obtain ⟨rfl, rfl⟩ := h; refine ⟨_, ?_, .int _ _⟩; simp [eqGuard, binOp, Op.intBits, bits2]
  case or => obtain ⟨rfl, rfl⟩ := h; refine ⟨_, ?_, .int _ _⟩; simp [eqGuard, binOp, Op.intBits, bits2]
  case xor => obtain ⟨rfl, rfl⟩ := h; refine ⟨_, ?_, .int _ _⟩; simp [eqGuard, binOp, Op.intBits, bits2]
  case andNot => obtain ⟨rfl, rfl⟩ := h; refine ⟨_, ?_, .int _ _⟩; simp [eqGuard, binOp, Op.intBits, bits2]
  all_goals
    obtain ⟨rfl, rfl⟩ := h
    refine ⟨_, ?_, .bool _⟩
    simp [eqGuard, binOp, Op.intCmp]

theorem abinS_sound {op : BinOp} {a b : ByteArray} {ob : Prop} {r : AV} (h : abinS op a b = some (ob, r)) (hob : ob) (t : TypeId) (ox oy : Operand) :
    ∃ u, ((do eqGuard op t ox oy (.string a) (.string b); binOp op t (.string a) (.string b) : Sem Value)).run C.P w = .ok u w ∧ RepD w X u r := by
  cases op <;> simp only [abinS, Option.some.injEq, Prod.mk.injEq, reduceCtorEq] at h
  case add =>
    obtain ⟨rfl, rfl⟩ := h
    refine ⟨.string (a ++ b), ?_, .str _⟩
    have : ((a.size : Int) + b.size) ≤ 9223372036854775807 := by omega
    simp [eqGuard, binOp, Op.stringOp]
    omega
  all_goals
    obtain ⟨rfl, rfl⟩ := h
    refine ⟨_, ?_, .bool _⟩
    simp only [eqGuard, binOp, Op.stringOp, str_eq_dec]
    rfl

/-- What a kind of field says of its type. -/
def FK.fits (P : Program) (t : TypeId) : FK → Prop
  | .b => P.underlying t = some .bool
  | .i => ∃ k, P.underlying t = some (.int k)
  | .s => P.underlying t = some .string

theorem eqCell_sound {f : FK} {x y : AV} {e : Bool} (h : eqCell f x y = some e) {vx vy : Value} (hx : Rep w X β H vx x) (hy : Rep w X β H vy y) {P : Program} {t : TypeId} (ht : f.fits P t) (d : Nat) :
    (Op.equalIn (d + 1) t vx vy).run P w = .ok e w := by
  unfold eqCell at h
  split at h
  · injection h with h
    obtain rfl := rep_bool hx
    obtain rfl := rep_bool hy
    rw [run_equalIn_bool' _ _ _ _ _ ht, h]
  · split at h
    · rename_i hkk
      injection h with h
      obtain rfl := rep_int hx
      obtain rfl := rep_int hy
      subst hkk
      obtain ⟨k', h1⟩ := ht
      rw [run_equalIn_int _ _ _ _ _ _ _ h1, h]
    · cases h
  · injection h with h
    obtain rfl := rep_str hx
    obtain rfl := rep_str hy
    rw [run_equalIn_string _ _ _ _ _ ht, str_eq_dec, h]
  · cases h

theorem fk_noAgg {P : Program} {t : TypeId} {f : FK} (ht : f.fits P t) : aggT P t = some false := by
  unfold FK.fits at ht
  unfold aggT
  cases f with
  | b => simp only at ht; rw [ht]
  | i => obtain ⟨k, ht⟩ := ht; rw [ht]
  | s => simp only at ht; rw [ht]

theorem run_part1 {P : Program} {t : TypeId} (ht : aggT P t = some false) {cs : Array Value} {n : Nat} {v : Value} (h : cs[n]? = some v) (w : World) : (part t cs n).run P w = .ok v w := by
  simp [part, run_isAgg ht, h]

theorem eqCells_sound {P : Program} (d : Nat) {cs ds : Array Value} : ∀ (fs : List Field) (fk : List FK) (n : Nat) (as bs : List AV) (e : Bool), flatFields P fs n = some fk → eqCells fk as bs = some e →
    (∀ j x, as[j]? = some x → ∃ u, cs[n + j]? = some u ∧ Rep w X β H u x) → (∀ j x, bs[j]? = some x → ∃ u, ds[n + j]? = some u ∧ Rep w X β H u x) →
    (Op.eqFields (d + 1) cs ds fs).run P w = .ok e w
  | [], fk, n, as, bs, e, hf, he, ha, hb => by
    simp only [flatFields, Option.some.injEq] at hf
    subst hf
    unfold eqCells at he
    split at he
    · injection he with he
      subst he
      rfl
    · rename_i h1; cases h1
    · cases he
  | f :: fs, fk, n, as, bs, e, hf, he, ha, hb => by
    unfold flatFields at hf
    split at hf
    · cases hf
    · rename_i hn
      have hn1 : f.name ≠ "_" := fun h => hn (.inl h)
      have hn2 : f.offset = n := Classical.byContradiction fun h => hn (.inr h)
      have key : ∃ k l, fk = k :: l ∧ k.fits P f.type ∧ flatFields P fs (n + 1) = some l := by
        split at hf <;> first | (injection hf with hf; subst hf; refine ⟨_, _, rfl, ?_, by assumption⟩; first | assumption | exact ⟨_, by assumption⟩) | cases hf
      obtain ⟨k, l, rfl, hk, hl⟩ := key
      unfold eqCells at he
      split at he
      · rename_i h1; cases h1
      · rename_i f' fs' a r b q h1
        injection h1 with h1 h2
        subst h1 h2
        split at he
        · rename_i x y hx hy
          injection he with he
          obtain ⟨u1, hu1, hr1⟩ := ha 0 a rfl
          obtain ⟨u2, hu2, hr2⟩ := hb 0 b rfl
          have ih := eqCells_sound d fs l (n + 1) r q y hl hy (fun j z hz => by have := ha (j + 1) z hz; rwa [show n + (j + 1) = n + 1 + j by omega] at this)
            (fun j z hz => by have := hb (j + 1) z hz; rwa [show n + (j + 1) = n + 1 + j by omega] at this)
          rw [Nat.add_zero] at hu1 hu2
          simp only [Op.eqFields, ne_eq, hn1, not_false_eq_true, if_true, Sem.run_bind, hn2, run_part1 (fk_noAgg hk) hu1, run_part1 (fk_noAgg hk) hu2, Result.andThen_ok, eqCell_sound hx hr1 hr2 hk d]
          cases x
          · simp [← he]
          · simp [← he, ih]
        · cases he
      · cases he

end
end Go.Proofs.YtankjfiaajpfoaaDoor
