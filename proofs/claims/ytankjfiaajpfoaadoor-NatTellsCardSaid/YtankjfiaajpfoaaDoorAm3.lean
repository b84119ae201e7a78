/-
  What an abstract state says of memory; how it is kept while memory goes on. Own work; no program in sight.
-/
import Derived.Test.YtankjfiaajpfoaaDoorAm2
namespace Go.Proofs.YtankjfiaajpfoaaDoor
open Go.RowKit

/-- Where a block of the call's own lies: nowhere yet (a nil slice), or at block b with room for cap rows. -/
inductive BI where
  | nil
  | lies (b cap : Nat)

/-- v reads as av, in memory outside X. -/
inductive RepD (w : World) (X : Nat → Prop) : Value → AV → Prop
  | undef (v : Value) : RepD w X v .undef
  | bool (b : Bool) : RepD w X (.bool b) (.bool b)
  | int (k : IntKind) (n : Int) : RepD w X (.int k n) (.int k n)
  | str (s : ByteArray) : RepD w X (.string s) (.str s)
  | nilptr : RepD w X (.pointer none) .nilptr
  | anyb (b : Bool) : RepD w X (.bool b) .anyb
  | tab (b : Nat) (k : IntKind) (zs : List Int) (t : TypeId) (fr : Nat × Nat) (hb : w.heap[b]? = some (.cells (zs.map (Value.int k)).toArray t fr)) (hX : ¬ X b) : RepD w X (.pointer (some ⟨b, 0, none⟩)) (.tab k zs)
  | slice (sz : Nat) (full : Bool) (rows : List (List AV)) (a : Option Addr) (n cap : Nat) (val : Nat → Nat → Value) (hn : n = rows.length) (h1 : rows.length ≤ cap) (h2 : cap ≤ maxLen) (h3 : full = true → cap = rows.length)
      (hr : ∀ r ∈ rows, r.length = sz)
      (hm : rows.length ≠ 0 → ∃ b off, a = some ⟨b, off, none⟩ ∧ b < w.heap.size ∧ ¬ X b ∧ ∀ i j, i < rows.length → j < sz → w.cell? ⟨b, off + i * sz + j, none⟩ = some (val i j) ∧ (val i j).oneCell' = true)
      (hv : ∀ i j r v, rows[i]? = some r → r[j]? = some v → RepD w X (val i j) v) : RepD w X (.slice a n cap) (.slice sz full rows)
  | iptr (b off : Nat) (cells : List AV) (val : Nat → Value) (hb : b < w.heap.size) (hX : ¬ X b) (hm : ∀ j, j < cells.length → w.cell? ⟨b, off + j, none⟩ = some (val j) ∧ (val j).oneCell' = true)
      (hv : ∀ j v, cells[j]? = some v → RepD w X (val j) v) : RepD w X (.pointer (some ⟨b, off, none⟩)) (.iptr cells)
  | agg (cs : Array Value) (cells : List AV) (val : Nat → Value) (hl : cs.size = cells.length) (hm : ∀ j, j < cells.length → cs[j]? = some (val j) ∧ (val j).oneCell' = true)
      (hv : ∀ j v, cells[j]? = some v → RepD w X (val j) v) : RepD w X (.agg cs) (.agg cells)
  | tup (cs : Array Value) (cells : List AV) (val : Nat → Value) (hl : cs.size = cells.length) (hm : ∀ j, j < cells.length → cs[j]? = some (val j))
      (hv : ∀ j v, cells[j]? = some v → RepD w X (val j) v) : RepD w X (.tuple cs) (.tup cells)
  | fn (f : FuncId) (cs : Array Value) (cells : List AV) (val : Nat → Value) (hl : cs.size = cells.length) (hm : ∀ j, j < cells.length → cs[j]? = some (val j))
      (hv : ∀ j v, cells[j]? = some v → RepD w X (val j) v) : RepD w X (.func (.func f) #[] cs) (.fn f cells)

theorem RepD.keep {w w' : World} {X X' : Nat → Prop} {v : Value} {av : AV} (h : RepD w X v av) (hk : ∀ b, b < w.heap.size → ¬ X b → w'.heap[b]? = w.heap[b]?) (hs : w.heap.size ≤ w'.heap.size)
    (hX : ∀ b, b < w.heap.size → X' b → X b) : RepD w' X' v av := by
  induction h with
  | undef v => exact .undef v
  | bool b => exact .bool b
  | int k n => exact .int k n
  | str s => exact .str s
  | nilptr => exact .nilptr
  | anyb b => exact .anyb b
  | tab b k zs t fr hb hx =>
    have hlt : b < w.heap.size := by
      rcases Nat.lt_or_ge b w.heap.size with h | h
      · exact h
      · rw [Array.getElem?_eq_none h] at hb; cases hb
    exact .tab b k zs t fr ((hk b hlt hx).trans hb) (fun h => hx (hX b hlt h))
  | slice sz full rows a n cap val hn h1 h2 h3 hr hm hv ih =>
    refine .slice sz full rows a n cap val hn h1 h2 h3 hr (fun h0 => ?_) ih
    obtain ⟨b, off, rfl, hb, hx, hc⟩ := hm h0
    exact ⟨b, off, rfl, by omega, fun h => hx (hX b hb h), fun i j hi hj => ⟨(World.cell?_of_block (hk b hb hx)).trans (hc i j hi hj).1, (hc i j hi hj).2⟩⟩
  | iptr b off cells val hb hx hm hv ih =>
    exact .iptr b off cells val (by omega) (fun h => hx (hX b hb h)) (fun j hj => ⟨(World.cell?_of_block (hk b hb hx)).trans (hm j hj).1, (hm j hj).2⟩) ih
  | agg cs cells val hl hm hv ih => exact .agg cs cells val hl hm ih
  | tup cs cells val hl hm hv ih => exact .tup cs cells val hl hm ih
  | fn f cs cells val hl hm hv ih => exact .fn f cs cells val hl hm ih

theorem RepD.mono {w : World} {X X' : Nat → Prop} {v : Value} {av : AV} (h : RepD w X v av) (hX : ∀ b, b < w.heap.size → X' b → X b) : RepD w X' v av :=
  h.keep (fun _ _ _ => rfl) (Nat.le_refl _) hX

/-- The value of a slice of n rows of block l. -/
def OwnAt : Option BI → Option Addr → Nat → Nat → Prop
  | some .nil, _, n, cap => n = 0 ∧ cap = 0
  | some (.lies b c), a, _, cap => a = some ⟨b, 0, none⟩ ∧ cap = c
  | none, _, _, _ => False

/-- v reads as av, which may speak of the call's own blocks. -/
inductive Rep (w : World) (X : Nat → Prop) (β : List BI) (H : List Blk) : Value → AV → Prop
  | deep {v : Value} {av : AV} (h : RepD w X v av) : Rep w X β H v av
  | own (l n : Nat) (a : Option Addr) (cap : Nat) (b : Blk) (hb : H[l]? = some b) (hn : n ≤ b.rows.length) (h0 : n = 0 ∨ ∃ x, a = some x) (hx : b.rows.length = n → OwnAt β[l]? a n cap) : Rep w X β H (.slice a n cap) (.own l n)
  | ptr (l n sz i f : Nat) (a : Addr) (b : Blk) (hb : H[l]? = some b) (hn : n ≤ b.rows.length) (hx : b.rows.length = n → b.sz = sz → i < n → ∃ bk cap, β[l]? = some (BI.lies bk cap) ∧ a = ⟨bk, i * sz + f, none⟩) : Rep w X β H (.pointer (some a)) (.ptr l n sz i f)
  | agg (cs : Array Value) (cells : List AV) (val : Nat → Value) (hl : cs.size = cells.length) (hm : ∀ j, j < cells.length → cs[j]? = some (val j) ∧ (val j).oneCell' = true)
      (hv : ∀ j v, cells[j]? = some v → Rep w X β H (val j) v) : Rep w X β H (.agg cs) (.agg cells)
  | tup (cs : Array Value) (cells : List AV) (val : Nat → Value) (hl : cs.size = cells.length) (hm : ∀ j, j < cells.length → cs[j]? = some (val j))
      (hv : ∀ j v, cells[j]? = some v → Rep w X β H (val j) v) : Rep w X β H (.tuple cs) (.tup cells)
  | fn (f : FuncId) (cs : Array Value) (cells : List AV) (val : Nat → Value) (hl : cs.size = cells.length) (hm : ∀ j, j < cells.length → cs[j]? = some (val j))
      (hv : ∀ j v, cells[j]? = some v → Rep w X β H (val j) v) : Rep w X β H (.func (.func f) #[] cs) (.fn f cells)

/-- Block b is one that the call may write. -/
def MutB (β : List BI) (H : List Blk) (b : Nat) : Prop := ∃ (l c : Nat) (blk : Blk), β[l]? = some (BI.lies b c) ∧ H[l]? = some blk ∧ blk.mu = true
def Mu (X : Nat → Prop) (β : List BI) (H : List Blk) (b : Nat) : Prop := X b ∨ MutB β H b

def BlkRep (w : World) (X : Nat → Prop) (β : List BI) (H : List Blk) : BI → Blk → Prop
  | .nil, b => b.rows = [] ∧ 0 < b.sz
  | .lies bk cap, b => ∃ cur, w.heap[bk]? = some (.cells cur b.e (0, 0)) ∧ cur.size = cap * b.sz ∧ b.rows.length ≤ cap ∧ cap ≤ maxLen ∧ 0 < b.sz ∧ (∀ r ∈ b.rows, r.length = b.sz) ∧
      ∀ i j r av, b.rows[i]? = some r → r[j]? = some av → ∃ v, cur[i * b.sz + j]? = some v ∧ v.oneCell' = true ∧ Rep w X β H v av ∧ (b.deep = true → RepD w X v av)

structure HRel (w : World) (X : Nat → Prop) (β : List BI) (H : List Blk) : Prop where
  len : β.length = H.length
  blk : ∀ (l : Nat) (bi : BI) (b : Blk), β[l]? = some bi → H[l]? = some b → BlkRep w (Mu X β H) β H bi b
  lt : ∀ (l b c : Nat), β[l]? = some (BI.lies b c) → b < w.heap.size ∧ ¬ X b
  inj : ∀ (l l' b c c' : Nat), β[l]? = some (BI.lies b c) → β[l']? = some (BI.lies b c') → l = l'
  base : ∀ b, X b → b < w.heap.size

/-- Below the blocks M nothing has turned. -/
structure Keeps (M : Nat → Prop) (w w' : World) : Prop where
  os : w'.os = w.os
  tape : w'.tape = w.tape
  output : w'.output = w.output
  size : w.heap.size ≤ w'.heap.size
  block : ∀ b, b < w.heap.size → ¬ M b → w'.heap[b]? = w.heap[b]?

structure Grow (β : List BI) (H : List Blk) (β' : List BI) (H' : List Blk) (s : Nat) : Prop where
  old : ∀ (l : Nat) (b : Blk), H[l]? = some b → ∃ b', H'[l]? = some b' ∧ b'.sz = b.sz ∧ b'.e = b.e ∧ b.rows.length ≤ b'.rows.length ∧ (b'.rows.length = b.rows.length → β'[l]? = β[l]?) ∧ (b'.mu = true → b.mu = true)
  at_ : ∀ (l bk c : Nat), β'[l]? = some (BI.lies bk c) → s ≤ bk ∨ ∃ c', β[l]? = some (BI.lies bk c')

structure StepR (w : World) (β : List BI) (H : List Blk) (w' : World) (β' : List BI) (H' : List Blk) : Prop where
  keeps : Keeps (MutB β H) w w'
  grow : Grow β H β' H' w.heap.size
  len : β.length = H.length

theorem Keeps.refl (M : Nat → Prop) (w : World) : Keeps M w w := ⟨rfl, rfl, rfl, Nat.le_refl _, fun _ _ _ => rfl⟩
theorem Keeps.drew (M : Nat → Prop) (w : World) : Keeps M w w.drew := ⟨rfl, rfl, rfl, Nat.le_refl _, fun _ _ _ => rfl⟩
theorem Keeps.alloc (M : Nat → Prop) (w : World) (o : Obj) : Keeps M w (w.alloc o) := ⟨rfl, rfl, rfl, by simp, fun b hb _ => heap_alloc_old w o hb⟩
theorem Keeps.trans {M M' : Nat → Prop} {a b c : World} (h : Keeps M a b) (h' : Keeps M' b c) (hM : ∀ k, k < a.heap.size → M' k → M k) : Keeps M a c :=
  ⟨h'.os.trans h.os, h'.tape.trans h.tape, h'.output.trans h.output, Nat.le_trans h.size h'.size, fun k hk hn => (h'.block k (Nat.lt_of_lt_of_le hk h.size) (fun hm => hn (hM k hk hm))).trans (h.block k hk hn)⟩
theorem Keeps.weaken {M M' : Nat → Prop} {a b : World} (h : Keeps M a b) (hM : ∀ k, k < a.heap.size → M k → M' k) : Keeps M' a b :=
  ⟨h.os, h.tape, h.output, h.size, fun k hk hn => h.block k hk (fun hm => hn (hM k hk hm))⟩

theorem Grow.refl (β : List BI) (H : List Blk) (s : Nat) : Grow β H β H s := ⟨fun _ b h => ⟨b, h, rfl, rfl, Nat.le_refl _, fun _ => rfl, id⟩, fun _ _ c h => .inr ⟨c, h⟩⟩

theorem StepR.refl (w : World) (β : List BI) (H : List Blk) (h : β.length = H.length) : StepR w β H w β H := ⟨Keeps.refl _ _, Grow.refl _ _ _, h⟩

theorem get_of_len {α γ : Type} {l : List α} {m : List γ} (h : l.length = m.length) {i : Nat} {x : α} (hx : l[i]? = some x) : ∃ y, m[i]? = some y := by
  have := (List.getElem?_eq_some_iff.1 hx).1
  exact ⟨m[i]'(by omega), List.getElem?_eq_getElem _⟩

/-- A block that may be written later and was there before, might be written before. -/
theorem StepR.mut_ {w : World} {β : List BI} {H : List Blk} {w' : World} {β' : List BI} {H' : List Blk} (s : StepR w β H w' β' H') (b : Nat) (hb : b < w.heap.size) (h : MutB β' H' b) : MutB β H b := by
  obtain ⟨l, c, blk, h1, h2, h3⟩ := h
  rcases s.grow.at_ l b c h1 with hlt | ⟨c', h4⟩
  · omega
  · obtain ⟨blk0, h5⟩ := get_of_len s.len h4
    obtain ⟨b', h6, _, _, _, _, h7⟩ := s.grow.old l blk0 h5
    rw [h2] at h6
    injection h6 with h6
    subst h6
    exact ⟨l, c', blk0, h4, h5, h7 h3⟩

theorem StepR.mu {X : Nat → Prop} {w : World} {β : List BI} {H : List Blk} {w' : World} {β' : List BI} {H' : List Blk} (s : StepR w β H w' β' H') (b : Nat) (hb : b < w.heap.size) (h : Mu X β' H' b) : Mu X β H b :=
  h.imp id (s.mut_ b hb)

theorem StepR.trans {w : World} {β : List BI} {H : List Blk} {w1 : World} {β1 : List BI} {H1 : List Blk} {w2 : World} {β2 : List BI} {H2 : List Blk}
    (s : StepR w β H w1 β1 H1) (t : StepR w1 β1 H1 w2 β2 H2) : StepR w β H w2 β2 H2 := by
  refine ⟨s.keeps.trans t.keeps s.mut_, ⟨fun l b hb => ?_, fun l bk c h => ?_⟩, s.len⟩
  · obtain ⟨b1, h1, e1, e2, h2, h3, h4⟩ := s.grow.old l b hb
    obtain ⟨b2, k1, e3, e4, k2, k3, k4⟩ := t.grow.old l b1 h1
    exact ⟨b2, k1, e3.trans e1, e4.trans e2, Nat.le_trans h2 k2, fun e => (k3 (by omega)).trans (h3 (by omega)), fun h => h4 (k4 h)⟩
  · rcases t.grow.at_ l bk c h with h1 | ⟨c', h1⟩
    · exact .inl (Nat.le_trans s.keeps.size h1)
    · exact s.grow.at_ l bk c' h1

theorem Rep.keep {X : Nat → Prop} {w : World} {β : List BI} {H : List Blk} {w' : World} {β' : List BI} {H' : List Blk} (s : StepR w β H w' β' H') {v : Value} {av : AV} (h : Rep w (Mu X β H) β H v av) : Rep w' (Mu X β' H') β' H' v av := by
  induction h with
  | deep h => exact .deep (h.keep (fun b hb hn => s.keeps.block b hb (fun hm => hn (.inr hm))) s.keeps.size (fun b hb => s.mu b hb))
  | own l n a cap b hb hn h0 hx =>
    obtain ⟨b', h1, _, _, h2, h3, _⟩ := s.grow.old l b hb
    refine .own l n a cap b' h1 (Nat.le_trans hn h2) h0 fun e => ?_
    rw [h3 (by omega)]
    exact hx (by omega)
  | ptr l n sz i f a b hb hn hx =>
    obtain ⟨b', h1, e1, _, h2, h3, _⟩ := s.grow.old l b hb
    refine .ptr l n sz i f a b' h1 (Nat.le_trans hn h2) fun e e' hi => ?_
    rw [h3 (by omega)]
    exact hx (by omega) (by omega) hi
  | agg cs cells val hl hm hv ih => exact .agg cs cells val hl hm ih
  | tup cs cells val hl hm hv ih => exact .tup cs cells val hl hm ih
  | fn f cs cells val hl hm hv ih => exact .fn f cs cells val hl hm ih

/-- Nothing that was there has turned; the blocks are the same. -/
theorem StepR.quiet {w w' : World} {β : List BI} {H : List Blk} (k : Keeps (fun _ => False) w w') (h : β.length = H.length) : StepR w β H w' β H :=
  ⟨k.weaken fun _ _ h => h.elim, Grow.refl _ _ _, h⟩

theorem BlkRep.keep {X : Nat → Prop} {w : World} {β : List BI} {H : List Blk} {w' : World} {β' : List BI} {H' : List Blk} (s : StepR w β H w' β' H') {bi : BI} {b : Blk} (h : BlkRep w (Mu X β H) β H bi b)
    (hk : ∀ bk c, bi = .lies bk c → w'.heap[bk]? = w.heap[bk]?) : BlkRep w' (Mu X β' H') β' H' bi b := by
  cases bi with
  | nil => exact h
  | lies bk cap =>
    obtain ⟨cur, h1, h2, h3, h4, h5, h6, h7⟩ := h
    refine ⟨cur, (hk bk cap rfl).trans h1, h2, h3, h4, h5, h6, fun i j r av hr hj => ?_⟩
    obtain ⟨v, k1, k2, k3, k4⟩ := h7 i j r av hr hj
    exact ⟨v, k1, k2, k3.keep s, fun hd => (k4 hd).keep (fun b hb hn => s.keeps.block b hb (fun hm => hn (.inr hm))) s.keeps.size (fun b hb => s.mu b hb)⟩

theorem HRel.quiet {w w' : World} {X : Nat → Prop} {β : List BI} {H : List Blk} (h : HRel w X β H) (k : Keeps (fun _ => False) w w') : HRel w' X β H where
  len := h.len
  blk := fun l bi b h1 h2 => (h.blk l bi b h1 h2).keep (StepR.quiet k h.len) fun bk c e => by subst e; exact k.block bk (h.lt l bk c h1).1 id
  lt := fun l b c h1 => ⟨Nat.lt_of_lt_of_le (h.lt l b c h1).1 k.size, (h.lt l b c h1).2⟩
  inj := h.inj
  base := fun b hb => Nat.lt_of_lt_of_le (h.base b hb) k.size

end Go.Proofs.YtankjfiaajpfoaaDoor
