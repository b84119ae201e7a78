/-
  From the reading of an argument to a plain value, with how much it holds ('bulk').
-/
import Derived.Test.YthcfnaglgoaikaaGreatAmE
import Derived.Test.YthcfnaglgoaikaaGreatRows
namespace Go.Proofs.YthcfnaglgoaikaaGreat
open Go.RowKit Go.WideShapes Go.ChangeShapes
set_option linter.unusedSimpArgs false
set_option linter.unusedVariables false

theorem bulk_one {H : Type} (d : DataW H) : 1 ≤ Rows.uptoBulk d := by
  cases d with
  | lit l => cases l <;> simp [Rows.uptoBulk]
  | _ => simp [Rows.uptoBulk]
def ReadsU (P : Program) (n : Nat) (t : TypeId) (α : Type) [Enc α] (wf : α → Prop) (bulk : α → Nat) : Prop :=
  ∀ {H : Type} (enc : TypeId × Value → H) (w : World) (held : Bool) (cs : List Value) (x : DataW H × List MemPlace), DataW.trod enc P w 0 (fun _ => true) held n t cs = some x → ∃ a : α, wf a ∧ CellsD w cs (Enc.cells a) ∧ bulk a ≤ Rows.uptoBulk x.1
theorem ReadsU.reads {P : Program} {n : Nat} {t : TypeId} {α : Type} [Enc α] {wf : α → Prop} {bulk : α → Nat} (h : ReadsU P n t α wf bulk) : ReadsAt P n t α wf := fun enc w held cs x hx => by
  obtain ⟨a, h1, h2, _⟩ := h enc w held cs x hx
  exact ⟨a, h1, h2⟩
theorem readsU_one {P : Program} {n : Nat} {t : TypeId} {α : Type} [Enc α] {wf : α → Prop} (h : ReadsAt P n t α wf) : ReadsU P n t α wf (fun _ => 1) := fun enc w held cs x hx => by
  obtain ⟨a, h1, h2⟩ := h enc w held cs x hx
  exact ⟨a, h1, h2, bulk_one _⟩
def bulkS (s : ByteArray) : Nat := s.size + 1
theorem readsU_str {P : Program} {n : Nat} {t : TypeId} (h : strT P t = true) : ReadsU P n t ByteArray (fun s => s.size ≤ maxLen) bulkS := by
  intro H enc w held cs x hx
  cases n with
  | zero => simp [DataW.trod] at hx
  | succ n =>
    unfold DataW.trod at hx
    rw [strT_eq h] at hx
    have key : ∃ s : ByteArray, cs = [.string s] ∧ s.size ≤ maxLen ∧ x.1 = .lit (.string s.data.toList) := by
      split at hx <;> simp_all
      first | exact hx.2 ▸ rfl | (obtain ⟨_, rfl⟩ := hx; rfl) | (rw [← hx.2]) | (subst_vars; simp)
    obtain ⟨s, rfl, hs, hx1⟩ := key
    refine ⟨s, hs, CellsD.one (.str _) rfl, ?_⟩
    rw [hx1]
    simp [Rows.uptoBulk, bulkS]

theorem bulk_sum {H : Type} : ∀ (l : List (DataW H × List MemPlace)) (f : Nat → Nat), (∀ i (h : i < l.length), f i ≤ Rows.uptoBulk (l[i]).1) → ((List.range l.length).map f).sum ≤ Rows.uptoBulkAll (l.map (·.1))
  | [], f, _ => by simp [Rows.uptoBulkAll]
  | x :: r, f, h => by
    have h1 := bulk_sum r (fun i => f (i + 1)) (fun i hi => by
      have := h (i + 1) (by simp; omega)
      simpa using this)
    have h2 := h 0 (by simp)
    simp only [List.length_cons, List.range_succ_eq_map, List.map_cons, List.sum_cons, List.map_map, Rows.uptoBulkAll]
    simp only [List.getElem_cons_zero] at h2
    have e : (f ∘ Nat.succ) = fun i => f (i + 1) := rfl
    rw [e]
    omega

section
variable {P : Program} {n : Nat} {t e : TypeId}
def bulkL {α : Type} (bulk : α → Nat) (l : List α) : Nat := (l.map bulk).sum + 1
theorem readsU_list {α : Type} [Enc α] [Inhabited α] {wf : α → Prop} {bulk : α → Nat} (h : elT P t = some e) (hz : szT P e = Enc.sz α) (hp : 0 < szT P e) (he : ReadsU P n e α wf bulk) : ReadsU P (n + 1) t (List α) (WfL wf) (bulkL bulk) := by
  intro H enc w held cs x hx
  rcases DataW.trod_slice (elT_eq h) hx with ⟨rfl, rfl⟩ | ⟨a, len, cap, elems, rest, m, hm, rfl, hxe, _, hl, hc, hlen, hel, _, _⟩
  · refine ⟨[], ⟨Nat.zero_le _, by simp⟩, CellsD.one ?_ rfl, by simp [bulkL, Rows.uptoBulk]⟩
    exact .slice _ false [] none 0 0 (fun _ _ => undef) rfl (Nat.le_refl _) (Nat.zero_le _) (fun h => by cases h) (fun r h => by cases h) (fun h => absurd rfl h) (fun i j r v h => by simp at h)
  · obtain rfl : n = m := by omega
    obtain ⟨V, hV⟩ := Go.Deep.choose_lt (n := len) (p := fun i (y : α × List Value) => (wf y.1 ∧ ∀ (hi : i < elems.length), bulk y.1 ≤ Rows.uptoBulk (elems[i]).1) ∧ w.cells? 0 (a.add (i * szT P e)) (szT P e) = some y.2 ∧ CellsD w y.2 (Enc.cells y.1)) (fun i hi => by
      have := hel i hi
      rw [List.getElem?_eq_getElem (by omega)] at this
      obtain ⟨cs', h1, h2⟩ := Option.bind_eq_some_iff.1 this
      obtain ⟨y, hy, hcd, hb⟩ := he enc w held cs' _ h2
      exact ⟨(y, cs'), ⟨hy, fun _ => hb⟩, h1, hcd⟩)
    refine ⟨(List.range len).map fun i => (V i).1, ⟨by simp; omega, fun y hy => ?_⟩, CellsD.one ?_ rfl, ?_⟩
    · obtain ⟨i, hi, rfl⟩ := List.mem_map.1 hy
      exact (hV i (List.mem_range.1 hi)).1.1
    · have hcell : ∀ i j, i < len → j < szT P e → ∃ v, w.cell? (a.add (i * szT P e + j)) = some v ∧ (V i).2[j]? = some v := by
        intro i j hi hj
        obtain ⟨_, h2, _⟩ := hV i hi
        obtain ⟨_, h3, h4⟩ := World.cells?_some h2
        have := h4 j hj
        rw [Go.Deep.add_add] at this
        rw [List.getElem?_eq_getElem (by omega)] at this ⊢
        exact ⟨_, this, rfl⟩
      have hsz : ∀ i, i < len → (Enc.cells (V i).1).length = Enc.sz α := by
        intro i hi
        obtain ⟨_, h2, h3⟩ := hV i hi
        obtain ⟨_, h4, _⟩ := World.cells?_some h2
        rw [← h3.1, h4, hz]
      refine .slice _ false _ (some a) len cap (fun i j => ((V i).2[j]?).getD undef) (by simp) (by simpa using hl) hc (fun h => by cases h) (fun r hr => ?_) (fun h0 => ?_) (fun i j r v hr hv => ?_)
      · simp only [List.map_map, List.mem_map, List.mem_range, Function.comp_apply] at hr
        obtain ⟨i, hi, rfl⟩ := hr
        exact hsz i hi
      · have h0' : 0 < len := by simp at h0; omega
        obtain ⟨v0, hv0, _⟩ := hcell 0 0 h0' (by omega)
        simp only [Nat.zero_mul, Nat.zero_add] at hv0
        obtain ⟨b, off, rfl⟩ := addr_plainA (by simpa [Addr.add] using hv0 : w.cell? a = some v0)
        refine ⟨b, off, rfl, ?_, id, fun i j hi hj => ?_⟩
        · have := World.block_lt_of_cell? w _ hv0
          simpa [Addr.add] using this
        · have hi' : i < len := by simpa using hi
          rw [← hz] at hj
          obtain ⟨v, hv, hv'⟩ := hcell i j hi' hj
          rw [hv', ← hz]
          have e : (⟨b, off, none⟩ : Addr).add (i * szT P e + j) = ⟨b, off + i * szT P e + j, none⟩ := by
            unfold Addr.add
            split
            · rename_i h; rw [Nat.add_assoc, h]; rfl
            · simp [Nat.add_assoc]
          rw [e] at hv
          refine ⟨hv, ?_⟩
          obtain ⟨_, _, h3⟩ := hV i hi'
          obtain ⟨u, hu, h1, _⟩ := h3.2 j _ (List.getElem?_eq_getElem (by rw [hsz i hi', ← hz]; exact hj))
          rw [hv'] at hu
          injection hu with hu
          subst hu
          exact h1
      · simp only [List.map_map, List.getElem?_map, Option.map_eq_some_iff, Function.comp_apply] at hr
        obtain ⟨i', hi', rfl⟩ := hr
        have hlt : i < len := by have := (List.getElem?_eq_some_iff.1 hi').1; simpa using this
        rw [List.getElem?_range hlt] at hi'
        injection hi' with hi'
        subst hi'
        obtain ⟨_, _, h3⟩ := hV i hlt
        obtain ⟨u, hu, _, h4⟩ := h3.2 j v hv
        rw [hu]
        exact h4
    · rw [hxe]
      have := bulk_sum elems (fun i => bulk (V i).1) (fun i hi => (hV i (by omega)).1.2 hi)
      rw [hlen] at this
      simp only [Rows.uptoBulk, bulkL, List.map_map]
      have e : (bulk ∘ fun i => (V i).1) = fun i => bulk (V i).1 := rfl
      rw [e]
      omega

def pick {H : Type} (xs : List (DataW H × List MemPlace)) (k : Nat) : Nat := match xs[k]? with | some y => Rows.uptoBulk y.1 | none => 0
theorem pick_sum {H : Type} : ∀ (n : Nat) (xs : List (DataW H × List MemPlace)), ((List.range n).map (pick xs)).sum ≤ Rows.uptoBulkAll (xs.map (·.1))
  | 0, xs => by simp
  | n + 1, [] => by
    have e : pick ([] : List (DataW H × List MemPlace)) = fun _ => 0 := by funext k; simp [pick]
    rw [e]
    have : ∀ l : List Nat, (l.map fun _ => 0).sum = 0 := fun l => by induction l with
      | nil => rfl
      | cons x r ih => simp [ih]
    rw [this]
    exact Nat.zero_le _
  | n + 1, x :: r => by
    have h := pick_sum n r
    have e : (pick (x :: r) ∘ Nat.succ) = pick r := by funext k; simp [pick]
    have e0 : pick (x :: r) 0 = Rows.uptoBulk x.1 := by simp [pick]
    simp only [List.range_succ_eq_map, List.map_cons, List.sum_cons, List.map_map, e, e0, Rows.uptoBulkAll]
    omega
theorem structU {H : Type} {enc : TypeId × Value → H} {w : World} {held : Bool} {cs : List Value} {x : DataW H × List MemPlace} (hs : ∃ fs, P.underlying t = some (.struct fs)) (h : DataW.trod enc P w 0 (fun _ => true) held n t cs = some x) :
    ∃ (m : Nat) (xs : List (DataW H × List MemPlace)), n = m + 1 ∧ cs.length = szT P t ∧ (∀ k, ((List.range k).map (pick xs)).sum + 1 ≤ Rows.uptoBulk x.1) ∧ ∀ k off ty, fldT P t k = some (off, ty) → ∃ y, pick xs k = Rows.uptoBulk y.1 ∧ DataW.trod enc P w 0 (fun _ => true) held m ty ((cs.drop off).take (szT P ty)) = some y := by
  obtain ⟨fs, ht⟩ := hs
  obtain ⟨xs, m, hm, hx, hl, hlen, hf⟩ := DataW.trod_struct ht h
  refine ⟨m, xs, hm, hl, fun k => ?_, fun k off ty hk => ?_⟩
  · rw [hx]
    have := pick_sum k xs
    simp only [Rows.uptoBulk]
    omega
  · obtain ⟨fs', f, h1, h2, rfl, rfl⟩ := fldT_eq hk
    rw [ht] at h1
    injection h1 with h1
    injection h1 with h1
    subst h1
    have := hf k f h2
    have hk : k < xs.length := by have := (Array.getElem?_eq_some_iff.1 h2).1; omega
    rw [List.getElem?_eq_getElem hk] at this
    exact ⟨_, by simp [pick, hk], this⟩

theorem ReadsU.struct {α : Type} [Enc α] {wf : α → Prop} {bulk : α → Nat} {H : Type} {enc : TypeId × Value → H} {w : World} {held : Bool} {v : Value} {d : DataW H} {p : List MemPlace} (R : ∀ n, ReadsU P n t α wf bulk) (hE : ∀ a : α, Enc.enc a = .agg (Enc.cells a)) {r : Reach} {b0 : Nat} (ht : ∃ fs, P.underlying t = some (.struct fs)) (hv : Value.okWide P w r b0 t v) (h : DataW.Trod enc P w 0 (fun _ => true) held t v d p) : ∃ a : α, wf a ∧ RepD w (fun _ => False) v (Enc.enc a) ∧ bulk a ≤ Rows.uptoBulk d := by
  obtain ⟨fs, ht⟩ := ht
  obtain ⟨cs, rfl, _⟩ := okWide_struct ht hv
  obtain ⟨n, h⟩ := h
  obtain ⟨a, ha, hc, hb⟩ := R n enc w held _ _ h
  refine ⟨a, ha, ?_, hb⟩
  rw [hE a]
  obtain ⟨h1, h2⟩ := hc
  simp only [Value.cells] at h1 h2
  refine .agg cs _ (fun j => (cs[j]?).getD undef) (by simpa using h1) (fun j hj => ?_) (fun j u hu => ?_)
  · obtain ⟨u, hu, h3, _⟩ := h2 j _ (List.getElem?_eq_getElem hj)
    have hu : cs[j]? = some u := by simpa using hu
    rw [hu]
    exact ⟨rfl, h3⟩
  · obtain ⟨u', hu', _, h4⟩ := h2 j u hu
    have hu' : cs[j]? = some u' := by simpa using hu'
    rw [hu']
    exact h4
end
end Go.Proofs.YthcfnaglgoaikaaGreat
