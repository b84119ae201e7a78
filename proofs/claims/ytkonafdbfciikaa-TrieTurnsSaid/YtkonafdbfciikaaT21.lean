/-
  layer 14: arguments read as tries, cursors, relations.
-/
import Derived.Test.YtkonafdbfciikaaT20
namespace Go.Proofs.Ytkonafdbfciikaa
open Go.RowKit
set_option linter.unusedSimpArgs false
set_option linter.unusedVariables false
set_option maxRecDepth 100000

theorem reads_i : Reads Try.prog 3 Int I64 := reads_int (by kernel_rfl)
theorem reads_ints : Reads Try.prog 35 (List Int) WfI := reads_list (by kernel_rfl) (by kernel_rfl) (of_decide_eq_true (by kernel_rfl)) reads_i
theorem reads_rows : Reads Try.prog 22 (List (List Int)) (WfL WfI) := reads_list (e := 35) (by kernel_rfl) (by kernel_rfl) (of_decide_eq_true (by kernel_rfl)) reads_ints
theorem reads_level : Reads Try.prog 62 Level WfLev := fun n => by
  intro H enc w held cs x hx
  obtain ⟨m, rfl, hl, hf⟩ := struct_cells ⟨_, rfl⟩ hx
  obtain ⟨y0, t0⟩ := hf 0 0 35 (by kernel_rfl)
  obtain ⟨y1, t1⟩ := hf 1 1 35 (by kernel_rfl)
  obtain ⟨a, wa, ca⟩ := reads_ints m enc w held _ _ t0
  obtain ⟨b, wb, cb⟩ := reads_ints m enc w held _ _ t1
  exact ⟨⟨a, b⟩, ⟨wa, wb⟩, CellsD.split (o := 0) (s := 1) ca (CellsD.split (s := 1) cb (CellsD.last (by rw [hl, show szT Try.prog 62 = 2 by kernel_rfl]; exact Nat.le_refl _)))⟩
theorem reads_trie : Reads Try.prog 32 Trie WfTrie := fun n => by
  intro H enc w held cs x hx
  obtain ⟨m, rfl, hl, hf⟩ := struct_cells ⟨_, rfl⟩ hx
  obtain ⟨y0, t0⟩ := hf 0 0 30 (by kernel_rfl)
  obtain ⟨a, wa, ca⟩ := reads_list (e := 62) (by kernel_rfl) (by kernel_rfl) (of_decide_eq_true (by kernel_rfl)) reads_level m enc w held _ _ t0
  exact ⟨⟨a⟩, wa, CellsD.split (o := 0) (s := 1) ca (CellsD.last (by rw [hl, show szT Try.prog 32 = 1 by kernel_rfl]; exact Nat.le_refl _))⟩
theorem reads_cursor : Reads Try.prog 37 Cursor WfCur := fun n => by
  intro H enc w held cs x hx
  obtain ⟨m, rfl, hl, hf⟩ := struct_cells ⟨_, rfl⟩ hx
  obtain ⟨y0, t0⟩ := hf 0 0 35 (by kernel_rfl)
  obtain ⟨y1, t1⟩ := hf 1 1 35 (by kernel_rfl)
  obtain ⟨a, wa, ca⟩ := reads_ints m enc w held _ _ t0
  obtain ⟨b, wb, cb⟩ := reads_ints m enc w held _ _ t1
  exact ⟨⟨a, b⟩, ⟨wa, wb⟩, CellsD.split (o := 0) (s := 1) ca (CellsD.split (s := 1) cb (CellsD.last (by rw [hl, show szT Try.prog 37 = 2 by kernel_rfl]; exact Nat.le_refl _)))⟩
def WfRel (r : Rela) : Prop := I64 r.arity ∧ WfL WfI r.rows
theorem reads_rel : Reads Try.prog 26 Rela WfRel := fun n => by
  intro H enc w held cs x hx
  obtain ⟨m, rfl, hl, hf⟩ := struct_cells ⟨_, rfl⟩ hx
  obtain ⟨y0, t0⟩ := hf 0 0 3 (by kernel_rfl)
  obtain ⟨y1, t1⟩ := hf 1 1 22 (by kernel_rfl)
  obtain ⟨a, wa, ca⟩ := reads_i m enc w held _ _ t0
  obtain ⟨b, wb, cb⟩ := reads_rows m enc w held _ _ t1
  exact ⟨⟨a, b⟩, ⟨wa, wb⟩, CellsD.split (o := 0) (s := 1) ca (CellsD.split (s := 1) cb (CellsD.last (by rw [hl, show szT Try.prog 26 = 2 by kernel_rfl]; exact Nat.le_refl _)))⟩
end Go.Proofs.Ytkonafdbfciikaa
