/-
  The reference's side: wrong, and what one of its readers hands back.
-/
import Derived.Test.YtogepfcmmmokdaaTokens
namespace Go.Proofs.Ytogepfcmmmokdaa
open Go.RowKit

def resCells : Res → Array Value
  | .ok t en => #[.int .i64 t.kind, .int .i64 t.at_, .int .i64 t.size, .int .i64 t.n, .string t.s, .int .i64 en, .int .i64 0, .int .i64 0]
  | .err a c => #[.int .i64 0, .int .i64 0, .int .i64 0, .int .i64 0, .string ⟨#[]⟩, .int .i64 0, .int .i64 a, .int .i64 c]

def RetRes (r : Res) (w : World) (e : Ending) (w' : World) : Prop := e = .returned (.agg (resCells r)) ∧ Below w.heap.size w w'

set_option maxHeartbeats 1000000 in
theorem wrong42 (a c : Int) (w : World) : Calls Try.prog 42 #[.int .i64 a, .int .i64 c] w (RetRes (.err a c) w) := by
  go_enter Try.func42, Try.ntmps42
  go_wp2_with fail
  exact bodyPost_ret (v := .agg (resCells (.err a c))) (by simp [results, Try.results42, go_sem, resCells]) rfl ⟨rfl, (Below.refl _ _).alloc (Nat.le_refl _) _⟩

/-- The result's block, as it stands before the answer is written. -/
def zero42 : Obj := .cells #[.int .i64 0, .int .i64 0, .int .i64 0, .int .i64 0, .string ⟨#[]⟩, .int .i64 0, .int .i64 0, .int .i64 0] 42 (0, 0)

/-- The eight cells of the result, written one by one. -/
def set8 (w : World) (X : Nat) (a0 a1 a2 a3 a4 a5 a6 a7 : Value) : World :=
  (((((((w.setCell ⟨X, 0, none⟩ a0).setCell ⟨X, 1, none⟩ a1).setCell ⟨X, 2, none⟩ a2).setCell ⟨X, 3, none⟩ a3).setCell ⟨X, 4, none⟩ a4).setCell ⟨X, 5, none⟩ a5).setCell ⟨X, 6, none⟩ a6).setCell ⟨X, 7, none⟩ a7

theorem set8_row {w : World} {X : Nat} (h : w.heap[X]? = some zero42) (a0 a1 a2 a3 a4 a5 a6 a7 : Value) :
    (set8 w X a0 a1 a2 a3 a4 a5 a6 a7).heap[X]? = some (.cells #[a0, a1, a2, a3, a4, a5, a6, a7] 42 (0, 0)) := by
  have h0 : w.heap[X]? = some (.cells #[.int .i64 0, .int .i64 0, .int .i64 0, .int .i64 0, .string ⟨#[]⟩, .int .i64 0, .int .i64 0, .int .i64 0] 42 (0, 0)) := h
  have h1 := row_set h0 0 a0
  rw [show (#[.int .i64 0, .int .i64 0, .int .i64 0, .int .i64 0, .string ⟨#[]⟩, .int .i64 0, .int .i64 0, .int .i64 0] : Array Value).setIfInBounds 0 a0 = #[a0, .int .i64 0, .int .i64 0, .int .i64 0, .string ⟨#[]⟩, .int .i64 0, .int .i64 0, .int .i64 0] from rfl] at h1
  have h2 := row_set h1 1 a1
  rw [show (#[a0, .int .i64 0, .int .i64 0, .int .i64 0, .string ⟨#[]⟩, .int .i64 0, .int .i64 0, .int .i64 0] : Array Value).setIfInBounds 1 a1 = #[a0, a1, .int .i64 0, .int .i64 0, .string ⟨#[]⟩, .int .i64 0, .int .i64 0, .int .i64 0] from rfl] at h2
  have h3 := row_set h2 2 a2
  rw [show (#[a0, a1, .int .i64 0, .int .i64 0, .string ⟨#[]⟩, .int .i64 0, .int .i64 0, .int .i64 0] : Array Value).setIfInBounds 2 a2 = #[a0, a1, a2, .int .i64 0, .string ⟨#[]⟩, .int .i64 0, .int .i64 0, .int .i64 0] from rfl] at h3
  have h4 := row_set h3 3 a3
  rw [show (#[a0, a1, a2, .int .i64 0, .string ⟨#[]⟩, .int .i64 0, .int .i64 0, .int .i64 0] : Array Value).setIfInBounds 3 a3 = #[a0, a1, a2, a3, .string ⟨#[]⟩, .int .i64 0, .int .i64 0, .int .i64 0] from rfl] at h4
  have h5 := row_set h4 4 a4
  rw [show (#[a0, a1, a2, a3, .string ⟨#[]⟩, .int .i64 0, .int .i64 0, .int .i64 0] : Array Value).setIfInBounds 4 a4 = #[a0, a1, a2, a3, a4, .int .i64 0, .int .i64 0, .int .i64 0] from rfl] at h5
  have h6 := row_set h5 5 a5
  rw [show (#[a0, a1, a2, a3, a4, .int .i64 0, .int .i64 0, .int .i64 0] : Array Value).setIfInBounds 5 a5 = #[a0, a1, a2, a3, a4, a5, .int .i64 0, .int .i64 0] from rfl] at h6
  have h7 := row_set h6 6 a6
  rw [show (#[a0, a1, a2, a3, a4, a5, .int .i64 0, .int .i64 0] : Array Value).setIfInBounds 6 a6 = #[a0, a1, a2, a3, a4, a5, a6, .int .i64 0] from rfl] at h7
  have h8 := row_set h7 7 a7
  rw [show (#[a0, a1, a2, a3, a4, a5, a6, .int .i64 0] : Array Value).setIfInBounds 7 a7 = #[a0, a1, a2, a3, a4, a5, a6, a7] from rfl] at h8
  exact h8

theorem set8_below {B : Nat} {w0 w : World} {X : Nat} (h : Below B w0 w) (hX : B ≤ X) (a0 a1 a2 a3 a4 a5 a6 a7 : Value) : Below B w0 (set8 w X a0 a1 a2 a3 a4 a5 a6 a7) :=
  (((((((h.setCell (p := ⟨X, 0, none⟩) hX a0).setCell (p := ⟨X, 1, none⟩) hX a1).setCell (p := ⟨X, 2, none⟩) hX a2).setCell (p := ⟨X, 3, none⟩) hX a3).setCell (p := ⟨X, 4, none⟩) hX a4).setCell (p := ⟨X, 5, none⟩) hX a5).setCell (p := ⟨X, 6, none⟩) hX a6).setCell (p := ⟨X, 7, none⟩) hX a7

end Go.Proofs.Ytogepfcmmmokdaa
