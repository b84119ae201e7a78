/-
  layer 18: contracts carried over from walks; the package's variables; small wrappers of arguments.
-/
import Derived.Test.YthcfnaglgoaikaaGreatS1
import Derived.Test.YthcfnaglgoaikaaGreatT
import Derived.Test.YthcfnaglgoaikaaGreatReserved
namespace Go.Proofs.YthcfnaglgoaikaaGreat
open Go.RowKit
set_option linter.unusedSimpArgs false
set_option linter.unusedVariables false

theorem keeps_of_below {w w' : World} {B : Nat} (h : Below B w w') (hB : w.heap.size ≤ B) : Keeps (fun _ => False) w w' :=
  ⟨h.os, h.tape, h.output, h.size, fun b hb _ => h.block b (Nat.lt_of_lt_of_le hb hB)⟩

/-- Contracts of one or two arguments, from the call itself. -/
theorem pure1_calls {P : Program} {G : Nat → AV} {f : FuncId} {α : Type} [Enc α] {pre : α → Prop} {res : α → AV}
    (h : ∀ (w : World) (X : Nat → Prop) (v : Value) (a : α), (∀ b, X b → b < w.heap.size) → (∀ g, RepD w X (.pointer (some ⟨g, 0, none⟩)) (G g)) → pre a → RepD w X v (Enc.enc a) →
      Calls P f #[v] w fun e w' => ∃ u, e = .returned u ∧ Keeps (fun _ => False) w w' ∧ RepD w' X u (res a)) : PureOK P G f (spec1 pre res) := by
  intro w X args avs ob r hX hG hsz harg hp hob
  unfold spec1 at hp
  split at hp
  · rename_i av
    injection hp with hp; injection hp with e1 e2; subst e1 e2
    obtain ⟨v, hv, hr⟩ := harg 0 av rfl
    obtain rfl : args = #[v] := by
      match args, hsz, hv with
      | ⟨[x]⟩, _, hv => simp at hv; subst hv; rfl
    have hr := repD_nrmV hr
    rw [hob.1] at hr
    exact h w X v _ hX hG hob.2 hr
  · cases hp
theorem pure2_calls {P : Program} {G : Nat → AV} {f : FuncId} {α β : Type} [Enc α] [Enc β] {pre : α → β → Prop} {res : α → β → AV}
    (h : ∀ (w : World) (X : Nat → Prop) (v v1 : Value) (a : α) (b : β), (∀ b, X b → b < w.heap.size) → (∀ g, RepD w X (.pointer (some ⟨g, 0, none⟩)) (G g)) → pre a b → RepD w X v (Enc.enc a) → RepD w X v1 (Enc.enc b) →
      Calls P f #[v, v1] w fun e w' => ∃ u, e = .returned u ∧ Keeps (fun _ => False) w w' ∧ RepD w' X u (res a b)) : PureOK P G f (spec2 pre res) := by
  intro w X args avs ob r hX hG hsz harg hp hob
  unfold spec2 at hp
  split at hp
  · rename_i av bv
    injection hp with hp; injection hp with e1 e2; subst e1 e2
    obtain ⟨v, hv, hr⟩ := harg 0 av rfl
    obtain ⟨v1, hv1, hr1⟩ := harg 1 bv rfl
    obtain rfl : args = #[v, v1] := by
      match args, hsz, hv, hv1 with
      | ⟨[x, y]⟩, _, hv, hv1 => simp at hv hv1; subst hv hv1; rfl
    have hr := repD_nrmV hr
    have hr1 := repD_nrmV hr1
    rw [hob.1] at hr
    rw [hob.2.1] at hr1
    exact h w X v v1 _ _ hX hG hob.2.2 hr hr1
  · cases hp
theorem pure0_calls {P : Program} {G : Nat → AV} {f : FuncId} {res : AV}
    (h : ∀ (w : World) (X : Nat → Prop), (∀ b, X b → b < w.heap.size) → (∀ g, RepD w X (.pointer (some ⟨g, 0, none⟩)) (G g)) →
      Calls P f #[] w fun e w' => ∃ u, e = .returned u ∧ Keeps (fun _ => False) w w' ∧ RepD w' X u res) : PureOK P G f (spec0 res) := by
  intro w X args avs ob r hX hG hsz harg hp hob
  unfold spec0 at hp
  split at hp
  · injection hp with hp; injection hp with e1 e2; subst e1 e2
    obtain rfl : args = #[] := by
      match args, hsz with
      | ⟨[]⟩, _ => rfl
    exact h w X hX hG
  · cases hp

/-- The package's variables: the library's limit holds an integer. -/
def G (m : Int) : Nat → AV := fun g => if g = 0 then .iptr [.int .i64 m] else .undef
theorem hasMax_G {m : Int} {w : World} {X : Nat → Prop} (h : ∀ g, RepD w X (.pointer (some ⟨g, 0, none⟩)) (G m g)) : HasMax w := by
  have := h 0
  unfold G at this
  rw [if_pos rfl] at this
  cases this with
  | iptr b off cells val hb hX hm hv =>
    refine ⟨m, ?_⟩
    have h1 := (hm 0 (by simp)).1
    have h2 := hv 0 _ rfl
    rw [Nat.zero_add] at h1
    rw [h1]
    generalize val 0 = u at h2
    cases h2
    rfl
theorem G_hasMax {w : World} (h : HasMax w) : ∃ m, ∀ g, RepD w (fun _ => False) (.pointer (some ⟨g, 0, none⟩)) (G m g) := by
  obtain ⟨m, hm⟩ := h
  refine ⟨m, fun g => ?_⟩
  unfold G
  split
  · rename_i hg
    subst hg
    refine .iptr 0 0 _ (fun _ => .int .i64 m) (World.block_lt_of_cell? w _ hm) id (fun j hj => ?_) (fun j v hv => ?_)
    · have : j = 0 := by simpa using hj
      subst this
      exact ⟨hm, rfl⟩
    · match j, hv with
      | 0, hv => simp at hv; subst hv; exact .int _ _
      | j + 1, hv => simp at hv
  · exact .undef _

theorem repS {w : World} {X : Nat → Prop} {v : Value} {s : ByteArray} (h : RepD w X v (Enc.enc s)) : v = .string s := by cases h; rfl
theorem repI {w : World} {X : Nat → Prop} {v : Value} {n : Int} (h : RepD w X v (Enc.enc n)) : v = .int .i64 n := by cases h; rfl

theorem tup3 {w : World} {X : Nat → Prop} {v0 v1 v2 : Value} {a0 a1 a2 : AV} (h0 : RepD w X v0 a0) (h1 : RepD w X v1 a1) (h2 : RepD w X v2 a2) : RepD w X (.tuple #[v0, v1, v2]) (.tup [a0, a1, a2]) := by
  refine .tup #[v0, v1, v2] [a0, a1, a2] (fun j => (#[v0, v1, v2][j]?).getD undef) rfl (fun j hj => ?_) (fun j u hu => ?_)
  · match j, hj with
    | 0, _ => rfl
    | 1, _ => rfl
    | 2, _ => rfl
  · match j, hu with
    | 0, hu => simp at hu; subst hu; exact h0
    | 1, hu => simp at hu; subst hu; exact h1
    | 2, hu => simp at hu; subst hu; exact h2
    | j + 3, hu => simp at hu


/-- A byte, a rune, a function's value as arguments. -/
structure B8 where
  v : Int
instance : Enc B8 where
  sz := 1
  cells b := [.int .u8 b.v]
  enc b := .int .u8 b.v
  unc l := match l with | [.int _ n] => ⟨n⟩ | _ => ⟨0⟩
  dec v := match v with | .int _ n => ⟨n⟩ | _ => ⟨0⟩
  unc_cells _ := rfl
  dec_enc _ := rfl
@[simp] theorem enc_b8 (b : B8) : Enc.enc b = .int .u8 b.v := rfl
@[simp] theorem dec_b8 (k : IntKind) (n : Int) : (Enc.dec (.int k n) : B8) = ⟨n⟩ := rfl
structure R32 where
  v : Int
instance : Enc R32 where
  sz := 1
  cells b := [.int .i32 b.v]
  enc b := .int .i32 b.v
  unc l := match l with | [.int _ n] => ⟨n⟩ | _ => ⟨0⟩
  dec v := match v with | .int _ n => ⟨n⟩ | _ => ⟨0⟩
  unc_cells _ := rfl
  dec_enc _ := rfl
@[simp] theorem enc_r32 (b : R32) : Enc.enc b = .int .i32 b.v := rfl
@[simp] theorem dec_r32 (k : IntKind) (n : Int) : (Enc.dec (.int k n) : R32) = ⟨n⟩ := rfl
structure FnV (g : Nat) where
instance (g : Nat) : Enc (FnV g) where
  sz := 1
  cells _ := [.fn g []]
  enc _ := .fn g []
  unc _ := ⟨⟩
  dec _ := ⟨⟩
  unc_cells _ := rfl
  dec_enc _ := rfl
@[simp] theorem enc_fnV {g : Nat} (b : FnV g) : Enc.enc b = .fn g [] := rfl

/-- A contract at every measure is a contract. -/
theorem pure1_all {P : Program} {G : Nat → AV} {f : FuncId} {α : Type} [Enc α] {pre : α → Prop} {res : α → AV} (m : α → Nat) (h : ∀ n, PureOK P G f (spec1 (fun a => pre a ∧ m a ≤ n) res)) : PureOK P G f (spec1 pre res) := by
  intro w X args avs ob r hX hG hsz harg hp hob
  match avs, hp with
  | [a], hp =>
    simp only [spec1, Option.some.injEq, Prod.mk.injEq] at hp
    obtain ⟨rfl, rfl⟩ := hp
    exact h (m (Enc.dec a)) w X args [a] _ _ hX hG hsz harg rfl ⟨hob.1, hob.2, Nat.le_refl _⟩
theorem pure2_all {P : Program} {G : Nat → AV} {f : FuncId} {α β : Type} [Enc α] [Enc β] {pre : α → β → Prop} {res : α → β → AV} (m : α → β → Nat) (h : ∀ n, PureOK P G f (spec2 (fun a b => pre a b ∧ m a b ≤ n) res)) : PureOK P G f (spec2 pre res) := by
  intro w X args avs ob r hX hG hsz harg hp hob
  match avs, hp with
  | [a, b], hp =>
    simp only [spec2, Option.some.injEq, Prod.mk.injEq] at hp
    obtain ⟨rfl, rfl⟩ := hp
    exact h (m (Enc.dec a) (Enc.dec b)) w X args [a, b] _ _ hX hG hsz harg rfl ⟨hob.1, hob.2.1, hob.2.2, Nat.le_refl _⟩
end Go.Proofs.YthcfnaglgoaikaaGreat
