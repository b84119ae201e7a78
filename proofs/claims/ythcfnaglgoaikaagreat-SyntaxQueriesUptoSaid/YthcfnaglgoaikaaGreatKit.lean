/-
  Words for memory: a slice value that reads as a list of integers ('IntsAt'), and how that reading is kept while the world goes on. Own work, over the guide's 'Below' and 'ownsRow'.
-/
import Derived.WalkKit
import Derived.WalkSpells
import Derived.WalkLawsBesides
import Derived.Lib.Hide
import Derived.Deep.QuietTactic
import Derived.BigQuiet
namespace Go.Proofs.YthcfnaglgoaikaaGreat
open Go.RowKit

/-- The i-th element, or 0: a plain definition, which the walk does not open. -/
def el (zs : List Int) (i : Nat) : Int := zs.getD i 0

theorem el_lt {zs : List Int} {i : Nat} (h : i < zs.length) : el zs i = zs[i] := by simp [el, h]

/-- The slice value v reads as the integers zs in the world w. -/
def IntsAt (w : World) (v : Value) (zs : List Int) : Prop :=
  ∃ (A : Option Addr) (n c : Nat), v = .slice A n c ∧ zs.length = n ∧ n ≤ c ∧ c ≤ maxLen ∧ (0 < n → ∃ b off, A = some ⟨b, off, none⟩ ∧ ∀ j, j < n → w.cell? ⟨b, off + j, none⟩ = some (.int .i64 (el zs j)))

theorem IntsAt.keep {w w' : World} {v : Value} {zs : List Int} (h : IntsAt w v zs) (hk : ∀ p : Addr, p.block < w.heap.size → w'.cell? p = w.cell? p) : IntsAt w' v zs := by
  obtain ⟨A, n, c, rfl, hl, hc, hm, hr⟩ := h
  refine ⟨A, n, c, rfl, hl, hc, hm, fun h0 => ?_⟩
  obtain ⟨b, off, rfl, hx⟩ := hr h0
  exact ⟨b, off, rfl, fun j hj => (hk _ (World.block_lt_of_cell? w _ (hx j hj))).trans (hx j hj)⟩

theorem IntsAt.below {w w' : World} {v : Value} {zs : List Int} {B : Nat} (h : IntsAt w v zs) (hb : Below B w w') (hB : w.heap.size ≤ B) : IntsAt w' v zs :=
  h.keep fun _ hp => hb.cell (Nat.lt_of_lt_of_le hp hB)

theorem IntsAt.drewN {w : World} {v : Value} {zs : List Int} (h : IntsAt w v zs) (n : Nat) : IntsAt (w.drewN n) v zs := h

theorem IntsAt.nil (w : World) : IntsAt w (.slice none 0 0) [] := ⟨none, 0, 0, rfl, rfl, Nat.le_refl _, Nat.zero_le _, fun h => absurd h (by omega)⟩

theorem below_drewN {B : Nat} {a w : World} (h : Below B a w) (n : Nat) : Below B a (w.drewN n) := ⟨h.os, h.tape, h.output, h.size, h.block⟩

/-- The call has but drawn. -/
def Drew (w w' : World) : Prop := ∃ k, w' = w.drewN k
theorem Drew.refl (w : World) : Drew w w := ⟨0, rfl⟩
theorem Drew.drewN (w : World) (k : Nat) : Drew w (w.drewN k) := ⟨k, rfl⟩
theorem Drew.two (w : World) (a b : Nat) : Drew w ((w.drewN a).drewN b) := ⟨_, World.drewN_drewN _ _ _⟩
theorem Drew.below {w w' : World} (h : Drew w w') (B : Nat) : Below B w w' := by
  obtain ⟨k, rfl⟩ := h
  exact below_drewN (Below.refl _ _) _

theorem ret_bool {a b : Bool} (h : a = b) : Ending.returned (.bool a) = .returned (.bool b) := by rw [h]

/-- t is the type of slices of e, and e is a type of 64-bit integers of one cell. -/
structure IntElem (P : Program) (t e : TypeId) : Prop where
  under : P.underlying t = some (.slice e)
  info : ∃ i, P.info? e = some i ∧ i.zero = some (.int .i64 0) ∧ i.size = 1 ∧ i.bytes = 8

theorem IntElem.of {P : Program} {t e : TypeId} (h : P.underlying t = some (.slice e)) (h2 : (P.info? e).map (fun i => (i.zero, i.size, i.bytes)) = some (some (.int .i64 0), 1, 8)) : IntElem P t e := ⟨h, info_parts h2⟩

/-- The slice value v is the call's own: it is nil and empty, or it begins at the head of a block from B on, and its elements are zs. -/
def Own (w : World) (B : Nat) (e : TypeId) (v : Value) (zs : List Int) : Prop := w.ownsRow B e 1 v zs.length (zs.map (Value.int .i64))

theorem Own.nil (w : World) (B : Nat) (e : TypeId) : Own w B e (.slice none 0 0) [] := World.ownsRow_nil _ _ _ _

theorem Own.below {w w' : World} {B : Nat} {e : TypeId} {v : Value} {zs : List Int} {C : Nat} (h : Own w B e v zs) (hb : Below C w w') (hC : w.heap.size ≤ C) : Own w' B e v zs := by
  obtain ⟨h1, h2⟩ := h
  refine ⟨h1, ?_⟩
  rcases h2 with h2 | ⟨g, cap, cur, hv, hg, hh, r⟩
  · exact .inl h2
  · refine .inr ⟨g, cap, cur, hv, hg, (hb.block g ?_).trans hh, r⟩
    have : g < w.heap.size := by
      rcases Nat.lt_or_ge g w.heap.size with h | h
      · exact h
      · rw [Array.getElem?_eq_none h] at hh; cases hh
    omega

theorem Own.alloc {w : World} {B : Nat} {e : TypeId} {v : Value} {zs : List Int} (h : Own w B e v zs) (o : Obj) : Own (w.alloc o) B e v zs :=
  h.below ((Below.refl _ w).alloc (Nat.le_refl _) _) (Nat.le_refl _)

theorem Own.drewN {w : World} {B : Nat} {e : TypeId} {v : Value} {zs : List Int} (h : Own w B e v zs) (n : Nat) : Own (w.drewN n) B e v zs := h

theorem Own.base {w : World} {B B' : Nat} {e : TypeId} {v : Value} {zs : List Int} (h : Own w B e v zs) (hB : B' ≤ B) : Own w B' e v zs := by
  obtain ⟨h1, h2⟩ := h
  refine ⟨h1, ?_⟩
  rcases h2 with h2 | ⟨g, cap, cur, hv, hg, r⟩
  · exact .inl h2
  · exact .inr ⟨g, cap, cur, hv, by omega, r⟩

theorem Own.ints {w : World} {B : Nat} {e : TypeId} {v : Value} {zs : List Int} (h : Own w B e v zs) : IntsAt w v zs := by
  have h0 := h
  obtain ⟨_, h2⟩ := h
  rcases h2 with ⟨rfl, h2⟩ | ⟨g, cap, cur, rfl, _, _, hc, hm, _⟩
  · exact ⟨none, 0, 0, rfl, h2, Nat.le_refl _, Nat.zero_le _, fun h => absurd h (by omega)⟩
  · refine ⟨_, _, cap, rfl, rfl, hc, hm, fun _ => ⟨g, 0, rfl, fun j hj => ?_⟩⟩
    rw [Nat.zero_add, World.ownsRow.cellAt h0 j (by omega)]
    simp [hj, el]

theorem cell_later {B : Nat} {w w' : World} {p : Addr} {u : Value} (hb : Below B w w') (hB : w.heap.size ≤ B) (h : w.cell? p = some u) : w'.cell? p = some u :=
  (hb.cell (Nat.lt_of_lt_of_le (World.block_lt_of_cell? w _ h) hB)).trans h

/-- One integer appended to a slice of the call's own. -/
theorem app_int {P : Program} {t e : TypeId} (E : IntElem P t e) {ops : Array Oper} {rest : List Oper} {o : Oper} {a : Act} {Q : Exit → Act → World → Prop} {W : World} (s x : Operand)
    (hgd : o.guard = none) (ho : o.op = .call { callee := .builtin .append, args := #[s, x], argTypes := #[t, t] })
    (B : Nat) (v : Value) (zs : List Int) (hs : a.eval s = v) (hown : Own W B e v zs) (ad : Addr) (z : Int) (c : Nat) (hx : a.eval x = .slice (some ad) 1 c) (hc : W.cell? ad = some (.int .i64 z))
    (hB : B ≤ W.heap.size) (hn : zs.length < 1000000000000)
    (h : ∀ v' w', Own w' B e v' (zs ++ [z]) → Below B W w' → wpList P ops Q rest (a.put o.dst v') w') : wpList P ops Q (o :: rest) a W := by
  obtain ⟨i, hi, hz, hsz, hby⟩ := E.info
  refine wpList_append_own W hgd s x t ho B e i (.int .i64 0) 1 8 E.under hi hz hsz hby rfl (by decide) v zs.length (zs.map (Value.int .i64)) hs hown ad 1 c [.int .i64 z] hx rfl ?_ ?_ (by unfold maxLen; omega) (by omega) hB ?_
  · intro j u hj
    match j, hj with
    | 0, hj => simp at hj; subst hj; simpa [Addr.add] using hc
  · intro u hu; simp at hu; subst hu; rfl
  · intro v' w' hown' hgrow _
    refine h v' w' (by simpa [Own] using hown') ((Below.refl B W).grown hgrow hB fun k hk => ?_)
    exact (hown.lt k hk).1

/-- W is wr but for the count of draws. -/
def SameMem (wr W : World) : Prop := W.heap = wr.heap ∧ W.os = wr.os ∧ W.tape = wr.tape ∧ W.output = wr.output

theorem SameMem.below {wr W w0 : World} {B : Nat} (h : SameMem wr W) (hb : Below B w0 wr) : Below B w0 W :=
  ⟨h.2.1.trans hb.os, h.2.2.1.trans hb.tape, h.2.2.2.trans hb.output, by rw [h.1]; exact hb.size, fun k hk => by rw [h.1]; exact hb.block k hk⟩

theorem SameMem.own {wr W : World} {B : Nat} {e : TypeId} {v : Value} {zs : List Int} (h : SameMem wr W) (ho : Own wr B e v zs) : Own W B e v zs := by
  unfold Own World.ownsRow at ho ⊢
  rw [h.1]
  exact ho

/-- One integer appended, as 'append(out, x)' is written: x lies in a new block of its own. The world behind it is below w0's blocks as w0 was. -/
theorem app_new {P : Program} {t e : TypeId} (E : IntElem P t e) {ops : Array Oper} {rest : List Oper} {o : Oper} {a : Act} {Q : Exit → Act → World → Prop} {w0 wr W : World} {e' : TypeId} (s x : Operand)
    (hgd : o.guard = none) (ho : o.op = .call { callee := .builtin .append, args := #[s, x], argTypes := #[t, t] })
    {v : Value} {zs : List Int} (hb : Below w0.heap.size w0 wr) (hown : Own wr w0.heap.size e v zs) (hs : a.eval s = v) {z : Int} {m c : Nat} (hx : a.eval x = .slice (some ⟨m, 0, none⟩) 1 c) (hm : m = wr.heap.size)
    (hW : SameMem wr W) (hn : zs.length < 1000000000000)
    (h : ∀ v' w', Own w' w0.heap.size e v' (zs ++ [z]) → Below w0.heap.size w0 w' → wpList P ops Q rest (a.put o.dst v') w') : wpList P ops Q (o :: rest) a (W.alloc (.cells #[.int .i64 z] e')) := by
  have hs0 := hb.size
  have hWs : W.heap.size = wr.heap.size := by rw [hW.1]
  refine app_int E s x hgd ho w0.heap.size v zs hs ((hW.own hown).alloc _) ⟨m, 0, none⟩ z c hx ?_ (by simp; omega) hn fun v' w' h1 h2 => ?_
  · rw [hm, ← hWs]; simp
  · exact h v' w' h1 (((hW.below hb).alloc (by omega) _).trans h2)

/-- 'make([]int, 0, n)'. -/
theorem make_int {P : Program} {t e : TypeId} (E : IntElem P t e) {ops : Array Oper} {rest : List Oper} {o : Oper} {a : Act} {Q : Exit → Act → World → Prop} {W : World} (l c : Operand)
    (hgd : o.guard = none) (ho : o.op = Op.makeSlice t l c) (B : Nat) (kl kc : IntKind) (C : Int) (n : Nat) (hl : a.eval l = .int kl 0) (hc : a.eval c = .int kc C) (hC : C = (n : Int)) (hn : n < 1000000000000) (hB : B ≤ W.heap.size)
    (h : ∀ v' w', Own w' B e v' [] → Below B W w' → wpList P ops Q rest (a.put o.dst v') w') : wpList P ops Q (o :: rest) a W := by
  obtain ⟨i, hi, hz, hsz, hby⟩ := E.info
  refine wpList_make_own W hgd l c t ho B e i (.int .i64 0) 1 E.under hi hz hsz kl kc C n hl hc hC (by rw [hby]; omega) (by unfold maxLen; omega) hB fun w' hown hgrow => ?_
  exact h _ w' hown ((Below.refl B W).grown hgrow hB fun k hk => by cases hk)

/-- The number of elements in a slot: for a loop's measure. -/
def lenOf : Value → Nat | .slice _ n _ => n | _ => 0

/-- A slice with a first element, written out; and what is left when it is cut off. -/
theorem IntsAt.cons_ {w : World} {A : Option Addr} {n c : Nat} {x : Int} {q : List Int} (h : IntsAt w (.slice A n c) (x :: q)) :
    ∃ b off m, A = some ⟨b, off, none⟩ ∧ n = m + 1 ∧ m + 1 ≤ c ∧ c ≤ 9223372036854775807 ∧ q.length = m ∧ w.cell? ⟨b, off, none⟩ = some (.int .i64 x) ∧
      IntsAt w (.slice (if c = 1 then some ⟨b, off, none⟩ else some ⟨b, off + 1, none⟩) m (c - 1)) q := by
  obtain ⟨A', n', c', e, hl, hc, hm, hr⟩ := h
  injection e with e1 e2 e3
  subst e1 e2 e3
  simp only [List.length_cons] at hl
  subst hl
  obtain ⟨b, off, rfl, hx⟩ := hr (by omega)
  have h0 := hx 0 (by omega)
  refine ⟨b, off, q.length, rfl, rfl, hc, by unfold maxLen at hm; omega, rfl, by simpa [el] using h0, _, q.length, c - 1, rfl, rfl, by omega, by omega, fun h => ?_⟩
  rw [if_neg (by omega)]
  refine ⟨b, off + 1, rfl, fun j hj => ?_⟩
  have := hx (j + 1) (by omega)
  simpa [el, Nat.add_assoc, Nat.add_comm 1 j] using this

theorem IntsAt.nil_ {w : World} {A : Option Addr} {n c : Nat} (h : IntsAt w (.slice A n c) []) : n = 0 := by
  obtain ⟨A', n', c', e, hl, _⟩ := h
  injection e with e1 e2 e3
  simpa [e2] using hl.symm

theorem IntsAt.form {w : World} {v : Value} {zs : List Int} (h : IntsAt w v zs) : ∃ A c, v = .slice A zs.length c := by
  obtain ⟨A, n, c, rfl, rfl, _⟩ := h
  exact ⟨A, c, rfl⟩

theorem intsAt_new {W : World} {e : TypeId} {cs : Array Value} {m n c : Nat} (zs : List Int) (hcs : cs = (zs.map (Value.int .i64)).toArray) (hm : m = W.heap.size) (hn : n = zs.length) (hc : c = n) (hs : zs.length < 1000000) :
    IntsAt (W.alloc (.cells cs e)) (.slice (some ⟨m, 0, none⟩) n c) zs := by
  subst hcs hm hn hc
  refine ⟨_, _, _, rfl, rfl, Nat.le_refl _, by unfold maxLen; omega, fun _ => ⟨_, 0, rfl, fun j hj => ?_⟩⟩
  rw [cell_of_row _ W.heap.size (0 + j) _ e (0, 0) (heap_alloc_new W _)]
  simp [el, hj]

theorem IntsAt.alloc {w : World} {v : Value} {zs : List Int} (h : IntsAt w v zs) (o : Obj) : IntsAt (w.alloc o) v zs :=
  h.below ((Below.refl _ w).alloc (Nat.le_refl _) _) (Nat.le_refl _)

theorem Below.step {w a b : World} {B : Nat} (h : Below w.heap.size w a) (k : Below B a b) (hB : a.heap.size ≤ B) : Below w.heap.size w b := h.trans (k.mono (Nat.le_trans h.size hB))

/-- From what the row's frame hands over of a slice of integers. -/
theorem intsAt_of_row {w : World} {a : Option Addr} {len cap : Nat} {zs : List Int} (h : (a = none ∧ len = 0 ∧ cap = 0 ∧ zs = []) ∨
    ∃ x, a = some x ∧ len ≤ cap ∧ cap ≤ maxLen ∧ zs.length = cap ∧ (∀ i, i < zs.length → w.cell? (x.add i) = some (.int .i64 (zs.getD i 0))) ∧ ∀ n ∈ zs, (Lit.int .i64 n).wf = true) : IntsAt w (.slice a len cap) (zs.take len) := by
  rcases h with ⟨rfl, rfl, rfl, rfl⟩ | ⟨x, rfl, hl, hm, hz, hc, _⟩
  · exact IntsAt.nil w
  · refine ⟨_, len, cap, rfl, by simp; omega, hl, hm, fun h0 => ?_⟩
    obtain ⟨b, off, spot⟩ := x
    have h1 := hc 0 (by omega)
    have hspot : spot = none := by simpa [Addr.add] using World.cell?_spot h1
    subst hspot
    refine ⟨b, off, rfl, fun j hj => ?_⟩
    have h2 := hc j (by omega)
    have e : (⟨b, off, none⟩ : Addr).add j = ⟨b, off + j, none⟩ := by
      unfold Addr.add
      split
      · rename_i h; subst h; rfl
      · rfl
    rw [e] at h2
    rw [h2]
    simp [el, hj]

/-- What a call hands back: a Bool; nothing that was there has turned. -/
def RetBool (b : Bool) (w : World) (en : Ending) (w' : World) : Prop := en = .returned (.bool b) ∧ Below w.heap.size w w'

/-- What a call hands back: a slice of its own that reads as zs; nothing that was there has turned. -/
def RetOwn (e : TypeId) (w : World) (zs : List Int) (en : Ending) (w' : World) : Prop := ∃ v, en = .returned v ∧ Own w' w.heap.size e v zs ∧ Below w.heap.size w w'

/-- Where an equation of numbers is all that a returned integer wants. -/
theorem ret_int {k : IntKind} {a b : Int} (h : a = b) : Ending.returned (.int k a) = .returned (.int k b) := by rw [h]

end Go.Proofs.YthcfnaglgoaikaaGreat
