/-
  The operations that look at no block: what the model's run of them leaves reads as the abstract reading says. Own work; no program in sight.
-/
import Derived.Test.YtankjfiaajpfoaaDoorAm3
import Derived.Laws.StructEq
namespace Go.Proofs.YtankjfiaajpfoaaDoor
open Go.RowKit

section
variable {w : World} {X : Nat → Prop} {β : List BI} {H : List Blk} {v : Value}

theorem rep_int {k : IntKind} {n : Int} (h : Rep w X β H v (.int k n)) : v = .int k n := by
  cases h with | deep h => cases h; rfl
theorem rep_bool {b : Bool} (h : Rep w X β H v (.bool b)) : v = .bool b := by
  cases h with | deep h => cases h; rfl
theorem rep_str {s : ByteArray} (h : Rep w X β H v (.str s)) : v = .string s := by
  cases h with | deep h => cases h; rfl
theorem rep_slice {sz : Nat} {full : Bool} {rows : List (List AV)} (h : Rep w X β H v (.slice sz full rows)) : RepD w X v (.slice sz full rows) := by
  cases h with | deep h => exact h
theorem rep_iptr {cs : List AV} (h : Rep w X β H v (.iptr cs)) : RepD w X v (.iptr cs) := by
  cases h with | deep h => exact h
theorem rep_nilptr (h : Rep w X β H v .nilptr) : v = .pointer none := by
  cases h with | deep h => cases h; rfl
theorem rep_anyb (h : Rep w X β H v .anyb) : ∃ b, v = .bool b := by
  cases h with | deep h => cases h; exact ⟨_, rfl⟩
theorem rep_agg {cells : List AV} (h : Rep w X β H v (.agg cells)) : ∃ (cs : Array Value) (val : Nat → Value), v = .agg cs ∧ cs.size = cells.length ∧ (∀ j, j < cells.length → cs[j]? = some (val j) ∧ (val j).oneCell' = true) ∧ ∀ j u, cells[j]? = some u → Rep w X β H (val j) u := by
  cases h with
  | deep h => cases h with | agg cs _ val hl hm hv => exact ⟨cs, val, rfl, hl, hm, fun j u hu => .deep (hv j u hu)⟩
  | agg cs _ val hl hm hv => exact ⟨cs, val, rfl, hl, hm, hv⟩
theorem rep_tup {cells : List AV} (h : Rep w X β H v (.tup cells)) : ∃ (cs : Array Value) (val : Nat → Value), v = .tuple cs ∧ cs.size = cells.length ∧ (∀ j, j < cells.length → cs[j]? = some (val j)) ∧ ∀ j u, cells[j]? = some u → Rep w X β H (val j) u := by
  cases h with
  | deep h => cases h with | tup cs _ val hl hm hv => exact ⟨cs, val, rfl, hl, hm, fun j u hu => .deep (hv j u hu)⟩
  | tup cs _ val hl hm hv => exact ⟨cs, val, rfl, hl, hm, hv⟩
theorem rep_fn {f : FuncId} {cells : List AV} (h : Rep w X β H v (.fn f cells)) : ∃ (cs : Array Value) (val : Nat → Value), v = .func (.func f) #[] cs ∧ cs.size = cells.length ∧ (∀ j, j < cells.length → cs[j]? = some (val j)) ∧ ∀ j u, cells[j]? = some u → Rep w X β H (val j) u := by
  cases h with
  | deep h => cases h with | fn _ cs _ val hl hm hv => exact ⟨cs, val, rfl, hl, hm, fun j u hu => .deep (hv j u hu)⟩
  | fn _ cs _ val hl hm hv => exact ⟨cs, val, rfl, hl, hm, hv⟩
theorem rep_own {l n : Nat} (h : Rep w X β H v (.own l n)) : ∃ (a : Option Addr) (cap : Nat) (b : Blk), v = .slice a n cap ∧ H[l]? = some b ∧ n ≤ b.rows.length ∧ (n = 0 ∨ ∃ x, a = some x) ∧ (b.rows.length = n → OwnAt β[l]? a n cap) := by
  cases h with
  | deep h => cases h
  | own l n a cap b hb hn h0 hx => exact ⟨a, cap, b, rfl, hb, hn, h0, hx⟩
theorem rep_ptr {l n sz i f : Nat} (h : Rep w X β H v (.ptr l n sz i f)) : ∃ (a : Addr) (b : Blk), v = .pointer (some a) ∧ H[l]? = some b ∧ n ≤ b.rows.length ∧ (b.rows.length = n → b.sz = sz → i < n → ∃ bk cap, β[l]? = some (BI.lies bk cap) ∧ a = ⟨bk, i * sz + f, none⟩) := by
  cases h with
  | deep h => cases h
  | ptr l n sz i f a b hb hn hx => exact ⟨a, b, rfl, hb, hn, hx⟩

/-- A known value of one cell is a value of one cell. -/
theorem rep_cell {av : AV} (h : Rep w X β H v av) (hc : av.isCell = true) : v.oneCell' = true := by
  cases h with
  | deep h => cases h <;> first | rfl | cases hc
  | own => rfl
  | ptr => rfl
  | agg => cases hc
  | tup => cases hc
  | fn => rfl

theorem rep_undef : Rep w X β H v .undef := .deep (.undef v)
end

/-- The slots read as ρ says. -/
def TRel (w : World) (X : Nat → Prop) (β : List BI) (H : List Blk) (a : Act) (ρ : List (Nat × AV)) : Prop := ∀ t, Rep w X β H (a.tmps.getD t undef) (getA ρ t)
def GRel (C : Ctx) (w : World) (X : Nat → Prop) : Prop := ∀ g, RepD w X (.pointer (some ⟨g, 0, none⟩)) (C.G g)

theorem cav_sound (P : Program) (t : TypeId) (w : World) (X : Nat → Prop) (v : Value) : RepD w X v (cav P t v) := by
  unfold cav
  split
  · exact .bool _
  · exact .int _ _
  · exact .str _
  · split
    · exact .slice _ true [] none 0 0 (fun _ _ => undef) rfl (Nat.le_refl _) (Nat.zero_le _) (fun _ => rfl) (fun r h => by cases h) (fun h => absurd rfl h) (fun i j r v h => by simp at h)
    · exact .undef _
  · exact .nilptr
  · exact .undef _

section
variable {C : Ctx} {w : World} {X : Nat → Prop} {β : List BI} {H : List Blk} {a : Act} {ρ : List (Nat × AV)}

theorem aev_sound (T : TRel w X β H a ρ) (G : GRel C w X) (t : TypeId) (x : Operand) : Rep w X β H (a.eval x) (aev C ρ t x) := by
  cases x with
  | tmp i => exact T i
  | const v => exact .deep (cav_sound _ _ _ _ _)
  | global g => exact .deep (G g)
  | func f => exact .deep (.fn f #[] [] (fun _ => undef) rfl (fun j h => by simp at h) (fun j v h => by simp at h))
end

/-! ### Types in the run -/
theorem run_isAgg {P : Program} {t : TypeId} {b : Bool} (h : aggT P t = some b) (w : World) : (isAgg t).run P w = .ok b w := by
  unfold aggT at h
  split at h
  · rename_i h1; injection h with h; subst h; simp [isAgg, run_underlying h1]
  · rename_i h1; injection h with h; subst h; simp [isAgg, run_underlying h1]
  · rename_i d h1 h2 h3
    injection h with h; subst h
    simp only [isAgg, Sem.run_bind, run_underlying h3, Result.andThen_ok]
    cases d <;> first | rfl | (exact absurd rfl (h1 _)) | (exact absurd rfl (h2 _ _))
  · cases h

theorem run_sizeOf {P : Program} {t : TypeId} (h : 0 < szT P t) (w : World) : (sizeOf t).run P w = .ok (szT P t) w := by
  unfold szT at h ⊢
  cases hi : P.info? t with
  | none => rw [hi] at h; simp at h
  | some i => simp [sizeOf, typeInfo, hi]

theorem elT_eq {P : Program} {t e : TypeId} (h : elT P t = some e) : P.underlying t = some (.slice e) := by
  unfold elT at h
  split at h
  · injection h with h; subst h; assumption
  · cases h
theorem arrT_eq {P : Program} {t : TypeId} {n : Nat} {e : TypeId} (h : arrT P t = some (n, e)) : P.underlying t = some (.array n e) := by
  unfold arrT at h
  split at h
  · injection h with h; injection h with h1 h2; subst h1 h2; assumption
  · cases h
theorem strT_eq {P : Program} {t : TypeId} (h : strT P t = true) : P.underlying t = some .string := by
  unfold strT at h
  split at h
  · assumption
  · cases h
theorem intT_eq {P : Program} {t : TypeId} {k : IntKind} (h : intT P t = some k) : P.underlying t = some (.int k) := by
  unfold intT at h
  split at h
  · injection h with h; subst h; assumption
  · cases h
theorem byteT_eq {P : Program} {t : TypeId} (h : byteT P t = true) : P.underlying t = some (.int .u8) := by
  unfold byteT at h
  split at h
  · assumption
  · cases h
theorem boolT_eq {P : Program} {t : TypeId} (h : boolT P t = true) : P.underlying t = some .bool := by
  unfold boolT at h
  split at h
  · assumption
  · cases h
theorem fldT_eq {P : Program} {t : TypeId} {k off : Nat} {ty : TypeId} (h : fldT P t k = some (off, ty)) : ∃ fs f, P.underlying t = some (.struct fs) ∧ fs[k]? = some f ∧ f.offset = off ∧ f.type = ty := by
  unfold fldT at h
  split at h
  · rename_i fs h1
    cases hf : fs[k]? with
    | none => rw [hf] at h; cases h
    | some f => rw [hf] at h; injection h with h; injection h with h2 h3; exact ⟨fs, f, h1, hf, h2, h3⟩
  · cases h

end Go.Proofs.YtankjfiaajpfoaaDoor
