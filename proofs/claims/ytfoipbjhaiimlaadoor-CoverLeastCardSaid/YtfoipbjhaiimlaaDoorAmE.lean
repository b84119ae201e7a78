import Derived.Test.YtfoipbjhaiimlaaDoorAmD
import Derived.Deep.Slices
import Derived.ChangeSame
import Derived.Below
/-
  From the reading of an argument to a plain value that it reads as; from a contract to a call. Own work; no program in sight.
-/
namespace Go.Proofs.YtfoipbjhaiimlaaDoor
open Go.RowKit Go.WideShapes Go.ChangeShapes

def CellsD (w : World) (cs : List Value) (avs : List AV) : Prop :=
  cs.length = avs.length ∧ ∀ (j : Nat) (v : AV), avs[j]? = some v → ∃ u, cs[j]? = some u ∧ u.oneCell' = true ∧ RepD w (fun _ => False) u v

def ReadsAt (P : Program) (n : Nat) (t : TypeId) (α : Type) [Enc α] (wf : α → Prop) : Prop :=
  ∀ {H : Type} (enc : TypeId × Value → H) (w : World) (held : Bool) (cs : List Value) (x : DataW H × List MemPlace), DataW.trod enc P w 0 (fun _ => true) held n t cs = some x → ∃ a : α, wf a ∧ CellsD w cs (Enc.cells a)

def Reads (P : Program) (t : TypeId) (α : Type) [Enc α] (wf : α → Prop) : Prop := ∀ n, ReadsAt P n t α wf

theorem CellsD.nil (w : World) : CellsD w [] [] := ⟨rfl, fun j v h => by simp at h⟩
theorem CellsD.one {w : World} {u : Value} {v : AV} (h : RepD w (fun _ => False) u v) (h1 : u.oneCell' = true) : CellsD w [u] [v] := ⟨rfl, fun j x hj => by
  match j with
  | 0 => simp at hj; subst hj; exact ⟨u, rfl, h1, h⟩
  | j + 1 => simp at hj⟩
theorem CellsD.append {w : World} {cs ds : List Value} {A B : List AV} (h : CellsD w cs A) (h' : CellsD w ds B) : CellsD w (cs ++ ds) (A ++ B) := by
  refine ⟨by simp [h.1, h'.1], fun j v hj => ?_⟩
  rcases Nat.lt_or_ge j A.length with hlt | hge
  · rw [List.getElem?_append_left hlt] at hj
    rw [List.getElem?_append_left (by rw [h.1]; exact hlt)]
    exact h.2 j v hj
  · rw [List.getElem?_append_right hge] at hj
    rw [List.getElem?_append_right (by rw [h.1]; exact hge), h.1]
    exact h'.2 _ v hj
theorem CellsD.split {w : World} {cs : List Value} {o s : Nat} {A B : List AV} (h : CellsD w ((cs.drop o).take s) A) (h' : CellsD w (cs.drop (o + s)) B) : CellsD w (cs.drop o) (A ++ B) := by
  have := h.append h'
  rwa [← List.drop_drop, List.take_append_drop] at this
theorem CellsD.last {w : World} {cs : List Value} {o : Nat} (h : cs.length ≤ o) : CellsD w (cs.drop o) [] := by rw [List.drop_eq_nil_of_le h]; exact CellsD.nil w

section
variable {P : Program} {n : Nat} {t e : TypeId}

theorem readsAt_int (h : intT P t = some .i64) : ReadsAt P n t Int I64 := by
  intro H enc w held cs x hx
  cases n with
  | zero => simp [DataW.trod] at hx
  | succ n =>
    unfold DataW.trod at hx
    rw [intT_eq h] at hx
    split at hx <;> simp_all
    rename_i k k' z heq
    subst heq
    obtain rfl := hx.1.1
    refine ⟨z, ?_, CellsD.one (.int _ _) rfl⟩
    have := hx.1.2
    simp only [Lit.wf, Bool.and_eq_true, decide_eq_true_eq] at this
    unfold I64
    exact this

theorem readsAt_u8 (h : byteT P t = true) : ReadsAt P n t UInt8 (fun _ => True) := by
  intro H enc w held cs x hx
  cases n with
  | zero => simp [DataW.trod] at hx
  | succ n =>
    unfold DataW.trod at hx
    rw [byteT_eq h] at hx
    split at hx <;> simp_all
    rename_i k k' z heq
    subst heq
    obtain rfl := hx.1.1
    have hw := hx.1.2
    simp only [Lit.wf, Bool.and_eq_true, decide_eq_true_eq] at hw
    have h1 : (0 : Int) ≤ z := hw.1
    have h2 : z ≤ 255 := hw.2
    refine ⟨UInt8.ofNat z.toNat, CellsD.one ?_ rfl⟩
    have : ((UInt8.ofNat z.toNat).toNat : Int) = z := by simp; omega
    rw [this]
    exact .int _ _

theorem readsAt_bool (h : boolT P t = true) : ReadsAt P n t Bool (fun _ => True) := by
  intro H enc w held cs x hx
  cases n with
  | zero => simp [DataW.trod] at hx
  | succ n =>
    unfold DataW.trod at hx
    rw [boolT_eq h] at hx
    have key : ∃ b, cs = [.bool b] := by split at hx <;> simp_all
    obtain ⟨b, rfl⟩ := key
    exact ⟨b, trivial, CellsD.one (.bool _) rfl⟩

theorem readsAt_str (h : strT P t = true) : ReadsAt P n t ByteArray (fun s => s.size ≤ maxLen) := by
  intro H enc w held cs x hx
  cases n with
  | zero => simp [DataW.trod] at hx
  | succ n =>
    unfold DataW.trod at hx
    rw [strT_eq h] at hx
    have key : ∃ s : ByteArray, cs = [.string s] ∧ s.size ≤ maxLen := by split at hx <;> simp_all
    obtain ⟨s, rfl, hs⟩ := key
    exact ⟨s, hs, CellsD.one (.str _) rfl⟩

/-- What a list of such values is like. -/
def WfL {α : Type} (wf : α → Prop) (l : List α) : Prop := l.length ≤ maxLen ∧ ∀ a ∈ l, wf a

theorem addr_plainA {w : World} {a : Addr} {u : Value} (h : w.cell? a = some u) : ∃ b off, a = ⟨b, off, none⟩ := by
  obtain ⟨b, off, spot⟩ := a
  have hspot : spot = none := by simpa using World.cell?_spot h
  subst hspot
  exact ⟨b, off, rfl⟩

theorem readsAt_list {α : Type} [Enc α] [Inhabited α] {wf : α → Prop} (h : elT P t = some e) (hz : szT P e = Enc.sz α) (hp : 0 < szT P e) (he : ReadsAt P n e α wf) : ReadsAt P (n + 1) t (List α) (WfL wf) := by
  intro H enc w held cs x hx
  rcases DataW.trod_slice (elT_eq h) hx with ⟨rfl, _⟩ | ⟨a, len, cap, elems, rest, m, hm, rfl, _, _, hl, hc, hlen, hel, _, _⟩
  · refine ⟨[], ⟨Nat.zero_le _, by simp⟩, CellsD.one ?_ rfl⟩
    exact .slice _ false [] none 0 0 (fun _ _ => undef) rfl (Nat.le_refl _) (Nat.zero_le _) (fun h => by cases h) (fun r h => by cases h) (fun h => absurd rfl h) (fun i j r v h => by simp at h)
  · obtain rfl : n = m := by omega
    obtain ⟨V, hV⟩ := Go.Deep.choose_lt (n := len) (p := fun i (y : α × List Value) => wf y.1 ∧ w.cells? 0 (a.add (i * szT P e)) (szT P e) = some y.2 ∧ CellsD w y.2 (Enc.cells y.1)) (fun i hi => by
      have := hel i hi
      rw [List.getElem?_eq_getElem (by omega)] at this
      obtain ⟨cs', h1, h2⟩ := Option.bind_eq_some_iff.1 this
      obtain ⟨y, hy, hcd⟩ := he enc w held cs' _ h2
      exact ⟨(y, cs'), hy, h1, hcd⟩)
    refine ⟨(List.range len).map fun i => (V i).1, ⟨by simp; omega, fun y hy => ?_⟩, CellsD.one ?_ rfl⟩
    · obtain ⟨i, hi, rfl⟩ := List.mem_map.1 hy
      exact (hV i (List.mem_range.1 hi)).1
    · have hcell : ∀ i j, i < len → j < szT P e → ∃ v, w.cell? (a.add (i * szT P e + j)) = some v ∧ (V i).2[j]? = some v := by
        intro i j hi hj
        obtain ⟨_, h2, _⟩ := hV i hi
        obtain ⟨_, h3, h4⟩ := World.cells?_some h2
        have := h4 j hj
        rw [Go.Deep.add_add] at this
        rw [List.getElem?_eq_getElem (by omega)] at this ⊢
        exact ⟨_, this, rfl⟩
      have hsz : ∀ i, i < len → (Enc.cells (V i).1).length = Enc.sz α := by
        intro i hi
        obtain ⟨_, h2, h3⟩ := hV i hi
        obtain ⟨_, h4, _⟩ := World.cells?_some h2
        rw [← h3.1, h4, hz]
      refine .slice _ false _ (some a) len cap (fun i j => ((V i).2[j]?).getD undef) (by simp) (by simpa using hl) hc (fun h => by cases h) (fun r hr => ?_) (fun h0 => ?_) (fun i j r v hr hv => ?_)
      · simp only [List.map_map, List.mem_map, List.mem_range, Function.comp_apply] at hr
        obtain ⟨i, hi, rfl⟩ := hr
        exact hsz i hi
      · have h0' : 0 < len := by simp at h0; omega
        obtain ⟨v0, hv0, _⟩ := hcell 0 0 h0' (by omega)
        simp only [Nat.zero_mul, Nat.zero_add] at hv0
        obtain ⟨b, off, rfl⟩ := addr_plainA (by simpa [Addr.add] using hv0 : w.cell? a = some v0)
        refine ⟨b, off, rfl, ?_, id, fun i j hi hj => ?_⟩
        · have := World.block_lt_of_cell? w _ hv0
          simpa [Addr.add] using this
        · have hi' : i < len := by simpa using hi
          rw [← hz] at hj
          obtain ⟨v, hv, hv'⟩ := hcell i j hi' hj
          rw [hv', ← hz]
          have e : (⟨b, off, none⟩ : Addr).add (i * szT P e + j) = ⟨b, off + i * szT P e + j, none⟩ := by
            unfold Addr.add
            split
            · rename_i h; rw [Nat.add_assoc, h]; rfl
            · simp [Nat.add_assoc]
          rw [e] at hv
          refine ⟨hv, ?_⟩
          obtain ⟨_, _, h3⟩ := hV i hi'
          obtain ⟨u, hu, h1, _⟩ := h3.2 j _ (List.getElem?_eq_getElem (by rw [hsz i hi', ← hz]; exact hj))
          rw [hv'] at hu
          injection hu with hu
          subst hu
          exact h1
      · simp only [List.map_map, List.getElem?_map, Option.map_eq_some_iff, Function.comp_apply] at hr
        obtain ⟨i', hi', rfl⟩ := hr
        have hlt : i < len := by have := (List.getElem?_eq_some_iff.1 hi').1; simpa using this
        rw [List.getElem?_range hlt] at hi'
        injection hi' with hi'
        subst hi'
        obtain ⟨_, _, h3⟩ := hV i hlt
        obtain ⟨u, hu, _, h4⟩ := h3.2 j v hv
        rw [hu]
        exact h4

theorem struct_cells {H : Type} {enc : TypeId × Value → H} {w : World} {held : Bool} {cs : List Value} {x : DataW H × List MemPlace} (hs : ∃ fs, P.underlying t = some (.struct fs)) (h : DataW.trod enc P w 0 (fun _ => true) held n t cs = some x) :
    ∃ m, n = m + 1 ∧ cs.length = szT P t ∧ ∀ k off ty, fldT P t k = some (off, ty) → ∃ y, DataW.trod enc P w 0 (fun _ => true) held m ty ((cs.drop off).take (szT P ty)) = some y := by
  obtain ⟨fs, ht⟩ := hs
  obtain ⟨xs, m, hm, _, hl, hlen, hf⟩ := DataW.trod_struct ht h
  refine ⟨m, hm, hl, fun k off ty hk => ?_⟩
  obtain ⟨fs', f, h1, h2, rfl, rfl⟩ := fldT_eq hk
  rw [ht] at h1
  injection h1 with h1
  injection h1 with h1
  subst h1
  have := hf k f h2
  have hk : k < xs.length := by have := (Array.getElem?_eq_some_iff.1 h2).1; omega
  rw [List.getElem?_eq_getElem hk] at this
  exact ⟨_, this⟩
end

theorem reads_int {P : Program} {t : TypeId} (h : intT P t = some .i64) : Reads P t Int I64 := fun _ => readsAt_int h
theorem reads_u8 {P : Program} {t : TypeId} (h : byteT P t = true) : Reads P t UInt8 (fun _ => True) := fun _ => readsAt_u8 h
theorem reads_bool {P : Program} {t : TypeId} (h : boolT P t = true) : Reads P t Bool (fun _ => True) := fun _ => readsAt_bool h
theorem reads_str {P : Program} {t : TypeId} (h : strT P t = true) : Reads P t ByteArray (fun s => s.size ≤ maxLen) := fun _ => readsAt_str h
theorem reads_list {P : Program} {t e : TypeId} {α : Type} [Enc α] [Inhabited α] {wf : α → Prop} (h : elT P t = some e) (hz : szT P e = Enc.sz α) (hp : 0 < szT P e) (he : Reads P e α wf) : Reads P t (List α) (WfL wf) := fun n => by
  cases n with
  | zero => intro H enc w held cs x hx; simp [DataW.trod] at hx
  | succ n => exact readsAt_list h hz hp (he n)

/-! ### The argument itself -/
section
variable {P : Program} {t : TypeId} {α : Type} [Enc α] {wf : α → Prop} {H : Type} {enc : TypeId × Value → H} {w : World} {held : Bool} {v : Value} {d : DataW H} {p : List MemPlace}

theorem CellsD.head {w : World} {v : Value} {av : AV} (h : CellsD w [v] [av]) : RepD w (fun _ => False) v av := by
  obtain ⟨u, hu, _, hr⟩ := h.2 0 av rfl
  simp at hu
  subst hu
  exact hr

/-- A value of one cell. -/
theorem Reads.top1 (R : Reads P t α wf) (hE : ∀ a : α, Enc.cells a = [Enc.enc a]) (hv : v.cells = #[v]) (h : DataW.Trod enc P w 0 (fun _ => true) held t v d p) : ∃ a : α, wf a ∧ RepD w (fun _ => False) v (Enc.enc a) := by
  obtain ⟨n, h⟩ := h
  obtain ⟨a, ha, hc⟩ := R n enc w held _ _ h
  rw [hv, hE a] at hc
  exact ⟨a, ha, hc.head⟩

theorem Reads.slice (R : Reads P t α wf) (hE : ∀ a : α, Enc.cells a = [Enc.enc a]) {e : TypeId} {r : Reach} {b0 : Nat} (ht : elT P t = some e) (hv : Value.okWide P w r b0 t v) (h : DataW.Trod enc P w 0 (fun _ => true) held t v d p) : ∃ a : α, wf a ∧ RepD w (fun _ => False) v (Enc.enc a) := by
  obtain ⟨a, l, c, rfl⟩ := okWide_slice (elT_eq ht) hv
  exact R.top1 hE rfl h
theorem Reads.int {k : IntKind} (R : Reads P t α wf) (hE : ∀ a : α, Enc.cells a = [Enc.enc a]) {r : Reach} {b0 : Nat} (ht : intT P t = some k) (hv : Value.okWide P w r b0 t v) (h : DataW.Trod enc P w 0 (fun _ => true) held t v d p) : ∃ a : α, wf a ∧ RepD w (fun _ => False) v (Enc.enc a) := by
  obtain ⟨n, rfl⟩ := okWide_int (intT_eq ht) hv
  exact R.top1 hE rfl h
theorem Reads.str (R : Reads P t α wf) (hE : ∀ a : α, Enc.cells a = [Enc.enc a]) {r : Reach} {b0 : Nat} (ht : strT P t = true) (hv : Value.okWide P w r b0 t v) (h : DataW.Trod enc P w 0 (fun _ => true) held t v d p) : ∃ a : α, wf a ∧ RepD w (fun _ => False) v (Enc.enc a) := by
  obtain ⟨n, rfl⟩ := okWide_string (strT_eq ht) hv
  exact R.top1 hE rfl h
theorem Reads.bool (R : Reads P t α wf) (hE : ∀ a : α, Enc.cells a = [Enc.enc a]) {r : Reach} {b0 : Nat} (ht : boolT P t = true) (hv : Value.okWide P w r b0 t v) (h : DataW.Trod enc P w 0 (fun _ => true) held t v d p) : ∃ a : α, wf a ∧ RepD w (fun _ => False) v (Enc.enc a) := by
  obtain ⟨n, rfl⟩ := okWide_bool (boolT_eq ht) hv
  exact R.top1 hE rfl h
theorem Reads.struct (R : Reads P t α wf) (hE : ∀ a : α, Enc.enc a = .agg (Enc.cells a)) {r : Reach} {b0 : Nat} (ht : ∃ fs, P.underlying t = some (.struct fs)) (hv : Value.okWide P w r b0 t v) (h : DataW.Trod enc P w 0 (fun _ => true) held t v d p) : ∃ a : α, wf a ∧ RepD w (fun _ => False) v (Enc.enc a) := by
  obtain ⟨fs, ht⟩ := ht
  obtain ⟨cs, rfl, _⟩ := okWide_struct ht hv
  obtain ⟨n, h⟩ := h
  obtain ⟨a, ha, hc⟩ := R n enc w held _ _ h
  refine ⟨a, ha, ?_⟩
  rw [hE a]
  obtain ⟨h1, h2⟩ := hc
  simp only [Value.cells] at h1 h2
  refine .agg cs _ (fun j => (cs[j]?).getD undef) (by simpa using h1) (fun j hj => ?_) (fun j u hu => ?_)
  · obtain ⟨u, hu, h3, _⟩ := h2 j _ (List.getElem?_eq_getElem hj)
    have hu : cs[j]? = some u := by simpa using hu
    rw [hu]
    exact ⟨rfl, h3⟩
  · obtain ⟨u', hu', _, h4⟩ := h2 j u hu
    have hu' : cs[j]? = some u' := by simpa using hu'
    rw [hu']
    exact h4
end

/-! ### From a contract to a call -/
theorem below_of_keeps {w w' : World} (h : Keeps (fun _ => False) w w') : Below w.heap.size w w' := ⟨h.os, h.tape, h.output, h.size, fun b hb => h.block b hb id⟩

theorem calls_of_pure {P : Program} {G : Nat → AV} {f : FuncId} {p : List AV → Option (Prop × AV)} (h : PureOK P G f p) {w : World} {args : Array Value} {avs : List AV} {ob : Prop} {b : Bool} (hG : ∀ g, RepD w (fun _ => False) (.pointer (some ⟨g, 0, none⟩)) (G g))
    (harg : ∀ (j : Nat) (u : AV), avs[j]? = some u → ∃ v, args[j]? = some v ∧ RepD w (fun _ => False) v u) (hsz : args.size = avs.length) (hp : p avs = some (ob, .bool b)) (hob : ob) :
    Calls P f args w fun e w' => e = .returned (.bool b) ∧ Below w.heap.size w w' :=
  (h w (fun _ => False) args avs ob (.bool b) (fun _ h => h.elim) (fun g => GV.of_rep (hG g)) hsz harg hp hob).mono fun e w' ⟨v, he, hk, hr⟩ => by
    cases hr
    exact ⟨he, below_of_keeps hk⟩

theorem arg1 {w : World} {v : Value} {a : AV} (h : RepD w (fun _ => False) v a) : ∀ (j : Nat) (u : AV), [a][j]? = some u → ∃ x, #[v][j]? = some x ∧ RepD w (fun _ => False) x u
  | 0, u, hu => by simp at hu; subst hu; exact ⟨v, rfl, h⟩
  | j + 1, u, hu => by simp at hu
theorem arg2 {w : World} {v v1 : Value} {a a1 : AV} (h : RepD w (fun _ => False) v a) (h1 : RepD w (fun _ => False) v1 a1) : ∀ (j : Nat) (u : AV), [a, a1][j]? = some u → ∃ x, #[v, v1][j]? = some x ∧ RepD w (fun _ => False) x u
  | 0, u, hu => by simp at hu; subst hu; exact ⟨v, rfl, h⟩
  | 1, u, hu => by simp at hu; subst hu; exact ⟨v1, rfl, h1⟩
  | j + 2, u, hu => by simp at hu
theorem arg3 {w : World} {v v1 v2 : Value} {a a1 a2 : AV} (h : RepD w (fun _ => False) v a) (h1 : RepD w (fun _ => False) v1 a1) (h2 : RepD w (fun _ => False) v2 a2) : ∀ (j : Nat) (u : AV), [a, a1, a2][j]? = some u → ∃ x, #[v, v1, v2][j]? = some x ∧ RepD w (fun _ => False) x u
  | 0, u, hu => by simp at hu; subst hu; exact ⟨v, rfl, h⟩
  | 1, u, hu => by simp at hu; subst hu; exact ⟨v1, rfl, h1⟩
  | 2, u, hu => by simp at hu; subst hu; exact ⟨v2, rfl, h2⟩
  | j + 3, u, hu => by simp at hu
theorem arg4 {w : World} {v v1 v2 v3 : Value} {a a1 a2 a3 : AV} (h : RepD w (fun _ => False) v a) (h1 : RepD w (fun _ => False) v1 a1) (h2 : RepD w (fun _ => False) v2 a2) (h3 : RepD w (fun _ => False) v3 a3) : ∀ (j : Nat) (u : AV), [a, a1, a2, a3][j]? = some u → ∃ x, #[v, v1, v2, v3][j]? = some x ∧ RepD w (fun _ => False) x u
  | 0, u, hu => by simp at hu; subst hu; exact ⟨v, rfl, h⟩
  | 1, u, hu => by simp at hu; subst hu; exact ⟨v1, rfl, h1⟩
  | 2, u, hu => by simp at hu; subst hu; exact ⟨v2, rfl, h2⟩
  | 3, u, hu => by simp at hu; subst hu; exact ⟨v3, rfl, h3⟩
  | j + 4, u, hu => by simp at hu
end Go.Proofs.YtfoipbjhaiimlaaDoor

/-
  Strings as lists of bytes. Own work; no program in sight.
-/
namespace Go.Proofs.YtfoipbjhaiimlaaDoor
open Go.RowKit

/-- The string of these bytes. -/
def bs (l : List UInt8) : ByteArray := ⟨l.toArray⟩
@[simp] theorem bs_size (l : List UInt8) : (bs l).size = l.length := by simp [bs, ByteArray.size]
theorem bs_toList (s : ByteArray) : bs s.data.toList = s := by simp [bs]
theorem bs_append (l m : List UInt8) : bs l ++ bs m = bs (l ++ m) := ByteArray.ext (by simp [bs])
theorem btA_bs (l : List UInt8) (i : Nat) : btA (bs l) i = (l.getD i 0).toNat := rfl
theorem bs_inj {l m : List UInt8} (h : bs l = bs m) : l = m := by
  have := congrArg (fun s : ByteArray => s.data.toList) h
  simpa [bs] using this
theorem bs_extract (l : List UInt8) (a b : Nat) : (bs l).extract a b = bs ((l.take b).drop a) := ByteArray.ext (Array.ext' (by
  simp only [bs, ByteArray.data_extract, Array.toList_extract, List.extract_eq_take_drop, List.drop_take]))
theorem bs_extract_tail (x : UInt8) (l : List UInt8) : (bs (x :: l)).extract 1 (l.length + 1) = bs l := by
  rw [bs_extract]
  simp
theorem str_ext {s t : ByteArray} (h : s.size = t.size) (hb : ∀ i, i < s.size → btA s i = btA t i) : s = t := by
  refine ByteArray.ext (Array.ext h fun i h1 h2 => ?_)
  have := hb i h1
  simp only [btA, List.getD_eq_getElem?_getD, Array.getElem?_toList, Array.getElem?_eq_getElem h1, Array.getElem?_eq_getElem h2, Option.getD_some] at this
  exact UInt8.toNat_inj.1 this

/-- Slots and blocks that are kept; the blocks behind the first m are forgotten. -/
theorem weak_keep {C : Ctx} {N h0 : Nat} {ρ ρ' : List (Nat × AV)} {H H' : List Blk} (m : Nat) (h : ∀ p ∈ ρ', getA ρ p.1 = p.2) (hm : h0 ≤ m) (hρ : ∀ p ∈ ρ', p.2.clean m = true) (hH : ∀ b ∈ H.take m, b.deep = true ∨ ∀ r ∈ b.rows, ∀ c ∈ r, c.clean m = true) (hE : H.take m = H') : Weak C N h0 ⟨ρ, H⟩ ⟨ρ', H'⟩ := by
  subst hE
  exact (weak_slots h).trans (weak_drop m hm hρ hH)

/-! ### Rows that are written out -/
@[simp] theorem rowAt_head (r : List AV) (rs : List (List AV)) : rowAt (r :: rs) 0 = r := rfl
@[simp] theorem rowAt_tail (r : List AV) (rs : List (List AV)) (i : Nat) : rowAt (r :: rs) (i + 1) = rowAt rs i := rfl
@[simp] theorem dec_cons {α : Type} [Enc α] (sz : Nat) (f : Bool) (r : List AV) (rows : List (List AV)) : (Enc.dec (.slice sz f (r :: rows)) : List α) = Enc.unc r :: Enc.dec (.slice sz f rows) := rfl
@[simp] theorem unc_int (k : IntKind) (n : Int) : (Enc.unc [.int k n] : Int) = n := rfl
@[simp] theorem unc_bool (n : Bool) : (Enc.unc [.bool n] : Bool) = n := rfl
@[simp] theorem unc_str (n : ByteArray) : (Enc.unc [.str n] : ByteArray) = n := rfl
@[simp] theorem unc_list {α : Type} [Enc α] (sz : Nat) (f : Bool) (rows : List (List AV)) : (Enc.unc [.slice sz f rows] : List α) = Enc.dec (.slice sz f rows) := rfl
end Go.Proofs.YtfoipbjhaiimlaaDoor

/-
  From the contract of a law to its call. Own work; no program in sight.
-/
namespace Go.Proofs.YtfoipbjhaiimlaaDoor
open Go.RowKit

section
variable {P : Program} {G : Nat → AV} {f : FuncId} {w : World} (hG : ∀ g, RepD w (fun _ => False) (.pointer (some ⟨g, 0, none⟩)) (G g))
include hG

theorem calls0 {b : Bool} (h : PureOK P G f (spec0 (.bool b))) : Calls P f #[] w fun e w' => e = .returned (.bool b) ∧ Below w.heap.size w w' :=
  calls_of_pure h (avs := []) (ob := True) hG (fun j u hu => by simp at hu) rfl rfl trivial

theorem calls1 {α : Type} [Enc α] {pre : α → Prop} {b : Bool} (h : PureOK P G f (spec1 pre fun _ => .bool b)) {v0 : Value} {a0 : α} (r0 : RepD w (fun _ => False) v0 (Enc.enc a0)) (n0 : nrmV (Enc.enc a0) = Enc.enc a0) (hp : pre a0) :
    Calls P f #[v0] w fun e w' => e = .returned (.bool b) ∧ Below w.heap.size w w' :=
  calls_of_pure h (avs := [Enc.enc a0]) (ob := nrmV (Enc.enc a0) = Enc.enc a0 ∧ pre a0) hG (arg1 r0) rfl (by simp only [spec1, Enc.dec_enc]) ⟨n0, hp⟩

theorem calls2 {α β : Type} [Enc α] [Enc β] {pre : α → β → Prop} {b : Bool} (h : PureOK P G f (spec2 pre fun _ _ => .bool b)) {v0 v1 : Value} {a0 : α} {a1 : β} (r0 : RepD w (fun _ => False) v0 (Enc.enc a0)) (r1 : RepD w (fun _ => False) v1 (Enc.enc a1))
    (n0 : nrmV (Enc.enc a0) = Enc.enc a0) (n1 : nrmV (Enc.enc a1) = Enc.enc a1) (hp : pre a0 a1) : Calls P f #[v0, v1] w fun e w' => e = .returned (.bool b) ∧ Below w.heap.size w w' :=
  calls_of_pure h (avs := [Enc.enc a0, Enc.enc a1]) (ob := nrmV (Enc.enc a0) = Enc.enc a0 ∧ nrmV (Enc.enc a1) = Enc.enc a1 ∧ pre a0 a1) hG (arg2 r0 r1) rfl (by simp only [spec2, Enc.dec_enc]) ⟨n0, n1, hp⟩

theorem calls3 {α β γ : Type} [Enc α] [Enc β] [Enc γ] {pre : α → β → γ → Prop} {b : Bool} (h : PureOK P G f (spec3 pre fun _ _ _ => .bool b)) {v0 v1 v2 : Value} {a0 : α} {a1 : β} {a2 : γ} (r0 : RepD w (fun _ => False) v0 (Enc.enc a0)) (r1 : RepD w (fun _ => False) v1 (Enc.enc a1)) (r2 : RepD w (fun _ => False) v2 (Enc.enc a2))
    (n0 : nrmV (Enc.enc a0) = Enc.enc a0) (n1 : nrmV (Enc.enc a1) = Enc.enc a1) (n2 : nrmV (Enc.enc a2) = Enc.enc a2) (hp : pre a0 a1 a2) : Calls P f #[v0, v1, v2] w fun e w' => e = .returned (.bool b) ∧ Below w.heap.size w w' :=
  calls_of_pure h (avs := [Enc.enc a0, Enc.enc a1, Enc.enc a2]) (ob := nrmV (Enc.enc a0) = Enc.enc a0 ∧ nrmV (Enc.enc a1) = Enc.enc a1 ∧ nrmV (Enc.enc a2) = Enc.enc a2 ∧ pre a0 a1 a2) hG (arg3 r0 r1 r2) rfl (by simp only [spec3, Enc.dec_enc]) ⟨n0, n1, n2, hp⟩

theorem calls4 {α β γ δ : Type} [Enc α] [Enc β] [Enc γ] [Enc δ] {pre : α → β → γ → δ → Prop} {b : Bool} (h : PureOK P G f (spec4 pre fun _ _ _ _ => .bool b)) {v0 v1 v2 v3 : Value} {a0 : α} {a1 : β} {a2 : γ} {a3 : δ} (r0 : RepD w (fun _ => False) v0 (Enc.enc a0)) (r1 : RepD w (fun _ => False) v1 (Enc.enc a1)) (r2 : RepD w (fun _ => False) v2 (Enc.enc a2)) (r3 : RepD w (fun _ => False) v3 (Enc.enc a3))
    (n0 : nrmV (Enc.enc a0) = Enc.enc a0) (n1 : nrmV (Enc.enc a1) = Enc.enc a1) (n2 : nrmV (Enc.enc a2) = Enc.enc a2) (n3 : nrmV (Enc.enc a3) = Enc.enc a3) (hp : pre a0 a1 a2 a3) : Calls P f #[v0, v1, v2, v3] w fun e w' => e = .returned (.bool b) ∧ Below w.heap.size w w' :=
  calls_of_pure h (avs := [Enc.enc a0, Enc.enc a1, Enc.enc a2, Enc.enc a3]) (ob := nrmV (Enc.enc a0) = Enc.enc a0 ∧ nrmV (Enc.enc a1) = Enc.enc a1 ∧ nrmV (Enc.enc a2) = Enc.enc a2 ∧ nrmV (Enc.enc a3) = Enc.enc a3 ∧ pre a0 a1 a2 a3) hG (arg4 r0 r1 r2 r3) rfl (by simp only [spec4, Enc.dec_enc]) ⟨n0, n1, n2, n3, hp⟩
end
end Go.Proofs.YtfoipbjhaiimlaaDoor
