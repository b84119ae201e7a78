/-
  layer 18: an argument that is an expression reads as a plain expression.
-/
import Derived.Test.YthcfnaglgoaikaaGreatSR
import Derived.Test.YthcfnaglgoaikaaGreatS10
namespace Go.Proofs.YthcfnaglgoaikaaGreat
open Go.RowKit Go.WideShapes Go.ChangeShapes
set_option linter.unusedSimpArgs false
set_option linter.unusedVariables false
set_option maxRecDepth 100000

mutual
def bulkV : Val → Nat
  | .mk _ _ _ s l => bulkVs l + s.size + 6
def bulkVs : List Val → Nat
  | [] => 0
  | v :: r => bulkV v + bulkVs r
end
theorem bulkVs_sum : ∀ l : List Val, bulkVs l = (l.map bulkV).sum
  | [] => rfl
  | v :: r => by rw [bulkVs, bulkVs_sum r]; rfl
mutual
def bulkE : Expr → Nat
  | .mk _ v n _ k => bulkEs k + bulkV v + n.size + 5
def bulkEs : List Expr → Nat
  | [] => 0
  | v :: r => bulkE v + bulkEs r
end
theorem bulkEs_sum : ∀ l : List Expr, bulkEs l = (l.map bulkE).sum
  | [] => rfl
  | v :: r => by rw [bulkEs, bulkEs_sum r]; rfl

section
variable {H : Type} {enc : TypeId × Value → H} {w : World} {held : Bool}
theorem trod_pos {P : Program} {n : Nat} {t : TypeId} {cs : List Value} {x : DataW H × List MemPlace} (h : DataW.trod enc P w 0 (fun _ => true) held n t cs = some x) : ∃ m, n = m + 1 := by
  cases n with
  | zero => simp [DataW.trod] at h
  | succ n => exact ⟨n, rfl⟩
end

theorem readsU_val : ∀ n, ReadsU Tryz.prog n 31 Val WfV bulkV := by
  intro n
  induction n using Nat.strongRecOn with
  | _ n ih =>
    intro H enc w held cs x hx
    obtain ⟨m, xs, rfl, hl, hb, hf⟩ := structU ⟨_, rfl⟩ hx
    obtain ⟨y0, b0, t0⟩ := hf 0 0 3 (by kernel_rfl)
    obtain ⟨y1, b1, t1⟩ := hf 1 1 3 (by kernel_rfl)
    obtain ⟨y2, b2, t2⟩ := hf 2 2 3 (by kernel_rfl)
    obtain ⟨y3, b3, t3⟩ := hf 3 3 9 (by kernel_rfl)
    obtain ⟨y4, b4, t4⟩ := hf 4 4 29 (by kernel_rfl)
    obtain ⟨k, _, c0, u0⟩ := readsU_one (readsAt_int (by kernel_rfl)) enc w held _ _ t0
    obtain ⟨nn, _, c1, u1⟩ := readsU_one (readsAt_int (by kernel_rfl)) enc w held _ _ t1
    obtain ⟨d, _, c2, u2⟩ := readsU_one (readsAt_int (by kernel_rfl)) enc w held _ _ t2
    obtain ⟨s, w3, c3, u3⟩ := readsU_str (by kernel_rfl) enc w held _ _ t3
    obtain ⟨m', rfl⟩ := trod_pos t4
    obtain ⟨l, ⟨w4, w5⟩, c4, u4⟩ := readsU_list (e := 31) (by kernel_rfl) (by kernel_rfl) (of_decide_eq_true (by kernel_rfl)) (ih m' (by omega)) enc w held _ _ t4
    refine ⟨.mk k nn d s l, .mk _ _ _ _ _ w3 w4 w5, ?_, ?_⟩
    · rw [cells_val]
      exact CellsD.split (o := 0) (s := 1) c0 (CellsD.split (s := 1) c1 (CellsD.split (s := 1) c2 (CellsD.split (s := 1) c3 (CellsD.split (s := 1) c4 (CellsD.last (by rw [hl, show szT Tryz.prog 31 = 5 by kernel_rfl]; decide))))))
    · have h5 := hb 5
      have u0 : 1 ≤ Rows.uptoBulk y0.1 := u0
      have u1 : 1 ≤ Rows.uptoBulk y1.1 := u1
      have u2 : 1 ≤ Rows.uptoBulk y2.1 := u2
      simp [List.range_succ, b0, b1, b2, b3, b4] at h5
      simp only [bulkV, bulkVs_sum, bulkS, bulkL] at u3 u4 ⊢
      omega

theorem readsU_expr : ∀ n, ReadsU Tryz.prog n 33 Expr WfE bulkE := by
  intro n
  induction n using Nat.strongRecOn with
  | _ n ih =>
    intro H enc w held cs x hx
    obtain ⟨m, xs, rfl, hl, hb, hf⟩ := structU ⟨_, rfl⟩ hx
    obtain ⟨y0, b0, t0⟩ := hf 0 0 3 (by kernel_rfl)
    obtain ⟨y1, b1, t1⟩ := hf 1 1 31 (by kernel_rfl)
    obtain ⟨y2, b2, t2⟩ := hf 2 6 9 (by kernel_rfl)
    obtain ⟨y3, b3, t3⟩ := hf 3 7 4 (by kernel_rfl)
    obtain ⟨y4, b4, t4⟩ := hf 4 8 28 (by kernel_rfl)
    obtain ⟨o, _, c0, u0⟩ := readsU_one (readsAt_int (by kernel_rfl)) enc w held _ _ t0
    obtain ⟨v, w1, c1, u1⟩ := readsU_val _ enc w held _ _ t1
    obtain ⟨s, w2, c2, u2⟩ := readsU_str (by kernel_rfl) enc w held _ _ t2
    obtain ⟨d, _, c3, u3⟩ := readsU_one (readsAt_bool (by kernel_rfl)) enc w held _ _ t3
    obtain ⟨m', rfl⟩ := trod_pos t4
    obtain ⟨l, ⟨w4, w5⟩, c4, u4⟩ := readsU_list (e := 33) (by kernel_rfl) (by kernel_rfl) (of_decide_eq_true (by kernel_rfl)) (ih m' (by omega)) enc w held _ _ t4
    refine ⟨.mk o v s d l, .mk _ _ _ _ _ w1 w2 w4 w5, ?_, ?_⟩
    · have e : Enc.cells (Expr.mk o v s d l) = Enc.cells o ++ (Enc.cells v ++ (Enc.cells s ++ (Enc.cells d ++ (Enc.cells l ++ [])))) := by
        rw [cells_expr, cells_val]
        rfl
      rw [e]
      exact CellsD.split (o := 0) (s := 1) c0 (CellsD.split (s := 5) c1 (CellsD.split (s := 1) c2 (CellsD.split (s := 1) c3 (CellsD.split (s := 1) c4 (CellsD.last (by rw [hl, show szT Tryz.prog 33 = 9 by kernel_rfl]; decide))))))
    · have h5 := hb 5
      have u0 : 1 ≤ Rows.uptoBulk y0.1 := u0
      have u3 : 1 ≤ Rows.uptoBulk y3.1 := u3
      simp [List.range_succ, b0, b1, b2, b3, b4] at h5
      simp only [bulkE, bulkEs_sum, bulkS, bulkL] at u2 u4 ⊢
      omega
theorem reads_expr : Reads Tryz.prog 33 Expr WfE := fun n => ReadsU.reads (readsU_expr n)
end Go.Proofs.YthcfnaglgoaikaaGreat
