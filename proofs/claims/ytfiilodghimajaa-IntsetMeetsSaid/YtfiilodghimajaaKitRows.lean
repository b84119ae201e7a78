/-
  A slice of slices of integers: how it reads, and how that reading is kept. Own work.
-/
import Derived.Test.YtfiilodghimajaaKit
import Derived.Deep.Matrix
namespace Go.Proofs.Ytfiilodghimajaa
open Go.RowKit

/-- The slice value v reads as the lists zss in the world w. -/
def RowsAt (w : World) (v : Value) (zss : List (List Int)) : Prop :=
  ∃ (A : Option Addr) (n c : Nat), v = .slice A n c ∧ zss.length = n ∧ n ≤ c ∧ c ≤ maxLen ∧ (0 < n → ∃ b off, A = some ⟨b, off, none⟩ ∧ ∀ j, j < n → ∃ u, w.cell? ⟨b, off + j, none⟩ = some u ∧ IntsAt w u (zss.getD j []))

theorem RowsAt.below {w w' : World} {v : Value} {zss : List (List Int)} {B : Nat} (h : RowsAt w v zss) (hb : Below B w w') (hB : w.heap.size ≤ B) : RowsAt w' v zss := by
  obtain ⟨A, n, c, rfl, hl, hc, hm, hr⟩ := h
  refine ⟨A, n, c, rfl, hl, hc, hm, fun h0 => ?_⟩
  obtain ⟨b, off, rfl, hx⟩ := hr h0
  refine ⟨b, off, rfl, fun j hj => ?_⟩
  obtain ⟨u, hu, hi⟩ := hx j hj
  exact ⟨u, Go.Proofs.Ytfiilodghimajaa.cell_later hb hB hu, hi.below hb hB⟩

theorem RowsAt.form {w : World} {v : Value} {zss : List (List Int)} (h : RowsAt w v zss) : ∃ A c, v = .slice A zss.length c := by
  obtain ⟨A, n, c, rfl, rfl, _⟩ := h
  exact ⟨A, c, rfl⟩

theorem addr_add (b off j : Nat) : (⟨b, off, none⟩ : Addr).add j = ⟨b, off + j, none⟩ := by
  unfold Addr.add
  split
  · rename_i h; subst h; rfl
  · rfl

theorem addr_plain {w : World} {a : Addr} {u : Value} (h : w.cell? a = some u) : ∃ b off, a = ⟨b, off, none⟩ := by
  obtain ⟨b, off, spot⟩ := a
  have hspot : spot = none := by simpa using World.cell?_spot h
  subst hspot
  exact ⟨b, off, rfl⟩

theorem addr_plain0 {w : World} {a : Addr} {u : Value} (h : w.cell? (a.add 0) = some u) : ∃ b off, a = ⟨b, off, none⟩ := addr_plain (a := a) (by simpa [Addr.add] using h)

theorem intsAt_of_cells {w : World} {A : Option Addr} {l c : Nat} {Z : List Int} (h1 : l ≤ c) (h2 : c ≤ maxLen) (h3 : Z.length = c) (h4 : A = none → c = 0) (h5 : ∀ a', A = some a' → ∀ j, j < c → w.cell? (a'.add j) = some (.int .i64 (Z.getD j 0))) : IntsAt w (.slice A l c) (Z.take l) := by
  refine ⟨A, l, c, rfl, by simp; omega, h1, h2, fun h0 => ?_⟩
  cases A with
  | none => have := h4 rfl; omega
  | some a =>
    obtain ⟨b, off, rfl⟩ := addr_plain0 (h5 a rfl 0 (by omega))
    refine ⟨b, off, rfl, fun j hj => ?_⟩
    have := h5 _ rfl j (by omega)
    rw [addr_add] at this
    rw [this]
    simp [el, hj]

/-- From the reading of an argument. -/
theorem rowsAt_of_trod {H : Type} {enc : TypeId × Value → H} {P : Program} {w : World} {base : Nat} {held : Bool} {t e q : TypeId} {fuel : Nat} {v : Value} {x : DataW H × List MemPlace}
    (ht : P.underlying t = some (.slice e)) (he : P.underlying e = some (.slice q)) (hq : P.underlying q = some (.int .i64)) (ce : P.cellsOf e = 1) (cq : P.cellsOf q = 1)
    (h : DataW.trod enc P w base (fun _ => true) held fuel t [v] = some x) : ∃ zss, RowsAt w v zss := by
  rcases Go.Deep.open_int_rows ht he hq ce cq h with ⟨h0, _⟩ | ⟨a, len, cap, A, L, C, Z, h0, _, hl, hm, _, hx⟩
  · simp at h0
    subst h0
    exact ⟨[], none, 0, 0, rfl, rfl, Nat.le_refl _, Nat.zero_le _, fun h => absurd h (by omega)⟩
  · simp at h0
    subst h0
    refine ⟨(List.range len).map fun r => (Z r).take (L r), _, len, cap, rfl, by simp, hl, hm, fun h0 => ?_⟩
    obtain ⟨b, off, rfl⟩ := addr_plain0 (hx 0 (by omega)).1
    refine ⟨b, off, rfl, fun j hj => ?_⟩
    obtain ⟨g1, g2, g3, g4, _, g6, g7⟩ := hx j (by omega)
    rw [addr_add] at g1
    refine ⟨_, g1, ?_⟩
    have : ((List.range len).map fun r => (Z r).take (L r)).getD j [] = (Z j).take (L j) := by simp [hj]
    rw [this]
    exact intsAt_of_cells g2 g3 g4 g6 fun a' ha' => (g7 a' ha').2

end Go.Proofs.Ytfiilodghimajaa
