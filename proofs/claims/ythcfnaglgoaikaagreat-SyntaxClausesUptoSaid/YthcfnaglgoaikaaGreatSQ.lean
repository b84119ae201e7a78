/-
  layer 18: arguments that are patterns, clauses and queries read as plain values. Printed by genq.py.
-/
import Derived.Test.YthcfnaglgoaikaaGreatSE
import Derived.Test.YthcfnaglgoaikaaGreatR1
namespace Go.Proofs.YthcfnaglgoaikaaGreat
open Go.RowKit Go.WideShapes Go.ChangeShapes
set_option linter.unusedSimpArgs false
set_option linter.unusedVariables false
set_option maxRecDepth 100000

def Ws (s : ByteArray) : Prop := s.size ≤ maxLen
theorem readsU_list' {P : Program} {n : Nat} {t e : TypeId} {α : Type} [Enc α] [Inhabited α] {wf : α → Prop} {bulk : α → Nat} (h : elT P t = some e) (hz : szT P e = Enc.sz α) (hp : 0 < szT P e) (he : ∀ n, ReadsU P n e α wf bulk) : ReadsU P n t (List α) (WfL wf) (bulkL bulk) := by
  cases n with
  | zero => intro H enc w held cs x hx; simp [DataW.trod] at hx
  | succ n => exact readsU_list h hz hp (he n)
theorem readsU_s : ∀ n, ReadsU Tryz.prog n 9 ByteArray Ws bulkS := fun _ => readsU_str (by kernel_rfl)
def bulkQ (x : PropPat) : Nat := bulkS x.key + bulkE x.e + 1
theorem readsU_PropPat : ∀ n, ReadsU Tryz.prog n 80 PropPat WfQ bulkQ := by
  intro n H enc w held cs x hx
  obtain ⟨m, xs, rfl, hl, hb, hf⟩ := structU ⟨_, rfl⟩ hx
  obtain ⟨y0, b0, t0⟩ := hf 0 0 9 (by kernel_rfl)
  obtain ⟨y1, b1, t1⟩ := hf 1 1 33 (by kernel_rfl)
  obtain ⟨a0, w0, c0, u0⟩ := (readsU_s _) enc w held _ _ t0
  obtain ⟨a1, w1, c1, u1⟩ := (readsU_expr _) enc w held _ _ t1
  refine ⟨⟨a0, a1⟩, ⟨w0, w1⟩, ?_, ?_⟩
  · have e : Enc.cells (⟨a0, a1⟩ : PropPat) = Enc.cells a0 ++ (Enc.cells a1 ++ ([])) := by
      rw [cells_expr a1]
      rfl
    rw [e]
    exact CellsD.split (o := 0) (s := 1) c0 (CellsD.split (s := 9) c1 (CellsD.last (by rw [hl, show szT Tryz.prog 80 = 10 by kernel_rfl]; decide)))
  · have h5 := hb 2
    simp [List.range_succ, b0, b1] at h5
    simp only [bulkQ]
    omega
def W0N (x : NodePat) : Prop := Ws x.var ∧ WfL Ws x.labels ∧ WfL WfQ x.props
def bulkN (x : NodePat) : Nat := bulkS x.var + bulkL bulkS x.labels + bulkL bulkQ x.props + 1
theorem readsU_NodePat : ∀ n, ReadsU Tryz.prog n 58 NodePat W0N bulkN := by
  intro n H enc w held cs x hx
  obtain ⟨m, xs, rfl, hl, hb, hf⟩ := structU ⟨_, rfl⟩ hx
  obtain ⟨y0, b0, t0⟩ := hf 0 0 9 (by kernel_rfl)
  obtain ⟨y1, b1, t1⟩ := hf 1 1 37 (by kernel_rfl)
  obtain ⟨y2, b2, t2⟩ := hf 2 2 54 (by kernel_rfl)
  obtain ⟨a0, w0, c0, u0⟩ := (readsU_s _) enc w held _ _ t0
  obtain ⟨a1, w1, c1, u1⟩ := (readsU_list' (e := 9) (by kernel_rfl) (by kernel_rfl) (of_decide_eq_true (by kernel_rfl)) readsU_s) enc w held _ _ t1
  obtain ⟨a2, w2, c2, u2⟩ := (readsU_list' (e := 80) (by kernel_rfl) (by kernel_rfl) (of_decide_eq_true (by kernel_rfl)) readsU_PropPat) enc w held _ _ t2
  refine ⟨⟨a0, a1, a2⟩, ⟨w0, w1, w2⟩, ?_, ?_⟩
  · have e : Enc.cells (⟨a0, a1, a2⟩ : NodePat) = Enc.cells a0 ++ (Enc.cells a1 ++ (Enc.cells a2 ++ ([]))) := by
      rfl
    rw [e]
    exact CellsD.split (o := 0) (s := 1) c0 (CellsD.split (s := 1) c1 (CellsD.split (s := 1) c2 (CellsD.last (by rw [hl, show szT Tryz.prog 58 = 3 by kernel_rfl]; decide))))
  · have h5 := hb 3
    simp [List.range_succ, b0, b1, b2] at h5
    simp only [bulkN]
    omega
def W0G (x : EdgePat) : Prop := Ws x.var ∧ WfL Ws x.types ∧ WfL WfQ x.props
def bulkG (x : EdgePat) : Nat := bulkS x.var + bulkL bulkS x.types + 1 + 1 + 1 + 1 + bulkL bulkQ x.props + 1
theorem readsU_EdgePat : ∀ n, ReadsU Tryz.prog n 56 EdgePat W0G bulkG := by
  intro n H enc w held cs x hx
  obtain ⟨m, xs, rfl, hl, hb, hf⟩ := structU ⟨_, rfl⟩ hx
  obtain ⟨y0, b0, t0⟩ := hf 0 0 9 (by kernel_rfl)
  obtain ⟨y1, b1, t1⟩ := hf 1 1 37 (by kernel_rfl)
  obtain ⟨y2, b2, t2⟩ := hf 2 2 3 (by kernel_rfl)
  obtain ⟨y3, b3, t3⟩ := hf 3 3 3 (by kernel_rfl)
  obtain ⟨y4, b4, t4⟩ := hf 4 4 3 (by kernel_rfl)
  obtain ⟨y5, b5, t5⟩ := hf 5 5 3 (by kernel_rfl)
  obtain ⟨y6, b6, t6⟩ := hf 6 6 54 (by kernel_rfl)
  obtain ⟨a0, w0, c0, u0⟩ := (readsU_s _) enc w held _ _ t0
  obtain ⟨a1, w1, c1, u1⟩ := (readsU_list' (e := 9) (by kernel_rfl) (by kernel_rfl) (of_decide_eq_true (by kernel_rfl)) readsU_s) enc w held _ _ t1
  obtain ⟨a2, w2, c2, u2⟩ := (readsU_one (readsAt_int (by kernel_rfl))) enc w held _ _ t2
  have u2 : 1 ≤ Rows.uptoBulk y2.1 := u2
  obtain ⟨a3, w3, c3, u3⟩ := (readsU_one (readsAt_int (by kernel_rfl))) enc w held _ _ t3
  have u3 : 1 ≤ Rows.uptoBulk y3.1 := u3
  obtain ⟨a4, w4, c4, u4⟩ := (readsU_one (readsAt_int (by kernel_rfl))) enc w held _ _ t4
  have u4 : 1 ≤ Rows.uptoBulk y4.1 := u4
  obtain ⟨a5, w5, c5, u5⟩ := (readsU_one (readsAt_int (by kernel_rfl))) enc w held _ _ t5
  have u5 : 1 ≤ Rows.uptoBulk y5.1 := u5
  obtain ⟨a6, w6, c6, u6⟩ := (readsU_list' (e := 80) (by kernel_rfl) (by kernel_rfl) (of_decide_eq_true (by kernel_rfl)) readsU_PropPat) enc w held _ _ t6
  refine ⟨⟨a0, a1, a2, a3, a4, a5, a6⟩, ⟨w0, w1, w6⟩, ?_, ?_⟩
  · have e : Enc.cells (⟨a0, a1, a2, a3, a4, a5, a6⟩ : EdgePat) = Enc.cells a0 ++ (Enc.cells a1 ++ (Enc.cells a2 ++ (Enc.cells a3 ++ (Enc.cells a4 ++ (Enc.cells a5 ++ (Enc.cells a6 ++ ([]))))))) := by
      rfl
    rw [e]
    exact CellsD.split (o := 0) (s := 1) c0 (CellsD.split (s := 1) c1 (CellsD.split (s := 1) c2 (CellsD.split (s := 1) c3 (CellsD.split (s := 1) c4 (CellsD.split (s := 1) c5 (CellsD.split (s := 1) c6 (CellsD.last (by rw [hl, show szT Tryz.prog 56 = 7 by kernel_rfl]; decide))))))))
  · have h5 := hb 7
    simp [List.range_succ, b0, b1, b2, b3, b4, b5, b6] at h5
    simp only [bulkG]
    omega
def W0P (x : PathPat) : Prop := Ws x.var ∧ WfL W0N x.nodes ∧ WfL W0G x.edges
def bulkP (x : PathPat) : Nat := bulkS x.var + bulkL bulkN x.nodes + bulkL bulkG x.edges + 1
theorem readsU_PathPat : ∀ n, ReadsU Tryz.prog n 25 PathPat W0P bulkP := by
  intro n H enc w held cs x hx
  obtain ⟨m, xs, rfl, hl, hb, hf⟩ := structU ⟨_, rfl⟩ hx
  obtain ⟨y0, b0, t0⟩ := hf 0 0 9 (by kernel_rfl)
  obtain ⟨y1, b1, t1⟩ := hf 1 1 22 (by kernel_rfl)
  obtain ⟨y2, b2, t2⟩ := hf 2 2 23 (by kernel_rfl)
  obtain ⟨a0, w0, c0, u0⟩ := (readsU_s _) enc w held _ _ t0
  obtain ⟨a1, w1, c1, u1⟩ := (readsU_list' (e := 58) (by kernel_rfl) (by kernel_rfl) (of_decide_eq_true (by kernel_rfl)) readsU_NodePat) enc w held _ _ t1
  obtain ⟨a2, w2, c2, u2⟩ := (readsU_list' (e := 56) (by kernel_rfl) (by kernel_rfl) (of_decide_eq_true (by kernel_rfl)) readsU_EdgePat) enc w held _ _ t2
  refine ⟨⟨a0, a1, a2⟩, ⟨w0, w1, w2⟩, ?_, ?_⟩
  · have e : Enc.cells (⟨a0, a1, a2⟩ : PathPat) = Enc.cells a0 ++ (Enc.cells a1 ++ (Enc.cells a2 ++ ([]))) := by
      rfl
    rw [e]
    exact CellsD.split (o := 0) (s := 1) c0 (CellsD.split (s := 1) c1 (CellsD.split (s := 1) c2 (CellsD.last (by rw [hl, show szT Tryz.prog 25 = 3 by kernel_rfl]; decide))))
  · have h5 := hb 3
    simp [List.range_succ, b0, b1, b2] at h5
    simp only [bulkP]
    omega
def W0I (x : Item) : Prop := WfE x.e ∧ Ws x.as_
def bulkI (x : Item) : Nat := bulkE x.e + bulkS x.as_ + 1
theorem readsU_Item : ∀ n, ReadsU Tryz.prog n 60 Item W0I bulkI := by
  intro n H enc w held cs x hx
  obtain ⟨m, xs, rfl, hl, hb, hf⟩ := structU ⟨_, rfl⟩ hx
  obtain ⟨y0, b0, t0⟩ := hf 0 0 33 (by kernel_rfl)
  obtain ⟨y1, b1, t1⟩ := hf 1 9 9 (by kernel_rfl)
  obtain ⟨a0, w0, c0, u0⟩ := (readsU_expr _) enc w held _ _ t0
  obtain ⟨a1, w1, c1, u1⟩ := (readsU_s _) enc w held _ _ t1
  refine ⟨⟨a0, a1⟩, ⟨w0, w1⟩, ?_, ?_⟩
  · have e : Enc.cells (⟨a0, a1⟩ : Item) = Enc.cells a0 ++ (Enc.cells a1 ++ ([])) := by
      rw [cells_expr a0]
      rfl
    rw [e]
    exact CellsD.split (o := 0) (s := 9) c0 (CellsD.split (s := 1) c1 (CellsD.last (by rw [hl, show szT Tryz.prog 60 = 10 by kernel_rfl]; decide)))
  · have h5 := hb 2
    simp [List.range_succ, b0, b1] at h5
    simp only [bulkI]
    omega
def W0S (x : SortK) : Prop := WfE x.e
def bulkT (x : SortK) : Nat := bulkE x.e + 1 + 1
theorem readsU_SortK : ∀ n, ReadsU Tryz.prog n 62 SortK W0S bulkT := by
  intro n H enc w held cs x hx
  obtain ⟨m, xs, rfl, hl, hb, hf⟩ := structU ⟨_, rfl⟩ hx
  obtain ⟨y0, b0, t0⟩ := hf 0 0 33 (by kernel_rfl)
  obtain ⟨y1, b1, t1⟩ := hf 1 9 4 (by kernel_rfl)
  obtain ⟨a0, w0, c0, u0⟩ := (readsU_expr _) enc w held _ _ t0
  obtain ⟨a1, w1, c1, u1⟩ := (readsU_one (readsAt_bool (by kernel_rfl))) enc w held _ _ t1
  have u1 : 1 ≤ Rows.uptoBulk y1.1 := u1
  refine ⟨⟨a0, a1⟩, w0, ?_, ?_⟩
  · have e : Enc.cells (⟨a0, a1⟩ : SortK) = Enc.cells a0 ++ (Enc.cells a1 ++ ([])) := by
      rw [cells_expr a0]
      rfl
    rw [e]
    exact CellsD.split (o := 0) (s := 9) c0 (CellsD.split (s := 1) c1 (CellsD.last (by rw [hl, show szT Tryz.prog 62 = 10 by kernel_rfl]; decide)))
  · have h5 := hb 2
    simp [List.range_succ, b0, b1] at h5
    simp only [bulkT]
    omega
def W0T (x : SetI) : Prop := Ws x.var ∧ Ws x.key ∧ Ws x.label ∧ WfE x.e
def bulkU (x : SetI) : Nat := bulkS x.var + bulkS x.key + bulkS x.label + 1 + bulkE x.e + 1
theorem readsU_SetI : ∀ n, ReadsU Tryz.prog n 64 SetI W0T bulkU := by
  intro n H enc w held cs x hx
  obtain ⟨m, xs, rfl, hl, hb, hf⟩ := structU ⟨_, rfl⟩ hx
  obtain ⟨y0, b0, t0⟩ := hf 0 0 9 (by kernel_rfl)
  obtain ⟨y1, b1, t1⟩ := hf 1 1 9 (by kernel_rfl)
  obtain ⟨y2, b2, t2⟩ := hf 2 2 9 (by kernel_rfl)
  obtain ⟨y3, b3, t3⟩ := hf 3 3 4 (by kernel_rfl)
  obtain ⟨y4, b4, t4⟩ := hf 4 4 33 (by kernel_rfl)
  obtain ⟨a0, w0, c0, u0⟩ := (readsU_s _) enc w held _ _ t0
  obtain ⟨a1, w1, c1, u1⟩ := (readsU_s _) enc w held _ _ t1
  obtain ⟨a2, w2, c2, u2⟩ := (readsU_s _) enc w held _ _ t2
  obtain ⟨a3, w3, c3, u3⟩ := (readsU_one (readsAt_bool (by kernel_rfl))) enc w held _ _ t3
  have u3 : 1 ≤ Rows.uptoBulk y3.1 := u3
  obtain ⟨a4, w4, c4, u4⟩ := (readsU_expr _) enc w held _ _ t4
  refine ⟨⟨a0, a1, a2, a3, a4⟩, ⟨w0, w1, w2, w4⟩, ?_, ?_⟩
  · have e : Enc.cells (⟨a0, a1, a2, a3, a4⟩ : SetI) = Enc.cells a0 ++ (Enc.cells a1 ++ (Enc.cells a2 ++ (Enc.cells a3 ++ (Enc.cells a4 ++ ([]))))) := by
      rw [cells_expr a4]
      rfl
    rw [e]
    exact CellsD.split (o := 0) (s := 1) c0 (CellsD.split (s := 1) c1 (CellsD.split (s := 1) c2 (CellsD.split (s := 1) c3 (CellsD.split (s := 9) c4 (CellsD.last (by rw [hl, show szT Tryz.prog 64 = 13 by kernel_rfl]; decide))))))
  · have h5 := hb 5
    simp [List.range_succ, b0, b1, b2, b3, b4] at h5
    simp only [bulkU]
    omega
def W0C (x : Clause) : Prop := WfL W0P x.paths ∧ WfL WfE x.wh ∧ WfE x.e ∧ Ws x.name ∧ WfL W0I x.items ∧ WfL W0S x.order ∧ WfL W0T x.sets ∧ WfL Ws x.names
def bulkC (x : Clause) : Nat := 1 + 1 + 1 + bulkL bulkP x.paths + bulkL bulkE x.wh + bulkE x.e + bulkS x.name + bulkL bulkI x.items + bulkL bulkT x.order + 1 + 1 + bulkL bulkU x.sets + bulkL bulkS x.names + 1
theorem readsU_Clause : ∀ n, ReadsU Tryz.prog n 39 Clause W0C bulkC := by
  intro n H enc w held cs x hx
  obtain ⟨m, xs, rfl, hl, hb, hf⟩ := structU ⟨_, rfl⟩ hx
  obtain ⟨y0, b0, t0⟩ := hf 0 0 3 (by kernel_rfl)
  obtain ⟨y1, b1, t1⟩ := hf 1 1 4 (by kernel_rfl)
  obtain ⟨y2, b2, t2⟩ := hf 2 2 4 (by kernel_rfl)
  obtain ⟨y3, b3, t3⟩ := hf 3 3 27 (by kernel_rfl)
  obtain ⟨y4, b4, t4⟩ := hf 4 4 28 (by kernel_rfl)
  obtain ⟨y5, b5, t5⟩ := hf 5 5 33 (by kernel_rfl)
  obtain ⟨y6, b6, t6⟩ := hf 6 14 9 (by kernel_rfl)
  obtain ⟨y7, b7, t7⟩ := hf 7 15 34 (by kernel_rfl)
  obtain ⟨y8, b8, t8⟩ := hf 8 16 35 (by kernel_rfl)
  obtain ⟨y9, b9, t9⟩ := hf 9 17 3 (by kernel_rfl)
  obtain ⟨y10, b10, t10⟩ := hf 10 18 3 (by kernel_rfl)
  obtain ⟨y11, b11, t11⟩ := hf 11 19 36 (by kernel_rfl)
  obtain ⟨y12, b12, t12⟩ := hf 12 20 37 (by kernel_rfl)
  obtain ⟨a0, w0, c0, u0⟩ := (readsU_one (readsAt_int (by kernel_rfl))) enc w held _ _ t0
  have u0 : 1 ≤ Rows.uptoBulk y0.1 := u0
  obtain ⟨a1, w1, c1, u1⟩ := (readsU_one (readsAt_bool (by kernel_rfl))) enc w held _ _ t1
  have u1 : 1 ≤ Rows.uptoBulk y1.1 := u1
  obtain ⟨a2, w2, c2, u2⟩ := (readsU_one (readsAt_bool (by kernel_rfl))) enc w held _ _ t2
  have u2 : 1 ≤ Rows.uptoBulk y2.1 := u2
  obtain ⟨a3, w3, c3, u3⟩ := (readsU_list' (e := 25) (by kernel_rfl) (by kernel_rfl) (of_decide_eq_true (by kernel_rfl)) readsU_PathPat) enc w held _ _ t3
  obtain ⟨a4, w4, c4, u4⟩ := (readsU_list' (e := 33) (by kernel_rfl) (by kernel_rfl) (of_decide_eq_true (by kernel_rfl)) readsU_expr) enc w held _ _ t4
  obtain ⟨a5, w5, c5, u5⟩ := (readsU_expr _) enc w held _ _ t5
  obtain ⟨a6, w6, c6, u6⟩ := (readsU_s _) enc w held _ _ t6
  obtain ⟨a7, w7, c7, u7⟩ := (readsU_list' (e := 60) (by kernel_rfl) (by kernel_rfl) (of_decide_eq_true (by kernel_rfl)) readsU_Item) enc w held _ _ t7
  obtain ⟨a8, w8, c8, u8⟩ := (readsU_list' (e := 62) (by kernel_rfl) (by kernel_rfl) (of_decide_eq_true (by kernel_rfl)) readsU_SortK) enc w held _ _ t8
  obtain ⟨a9, w9, c9, u9⟩ := (readsU_one (readsAt_int (by kernel_rfl))) enc w held _ _ t9
  have u9 : 1 ≤ Rows.uptoBulk y9.1 := u9
  obtain ⟨a10, w10, c10, u10⟩ := (readsU_one (readsAt_int (by kernel_rfl))) enc w held _ _ t10
  have u10 : 1 ≤ Rows.uptoBulk y10.1 := u10
  obtain ⟨a11, w11, c11, u11⟩ := (readsU_list' (e := 64) (by kernel_rfl) (by kernel_rfl) (of_decide_eq_true (by kernel_rfl)) readsU_SetI) enc w held _ _ t11
  obtain ⟨a12, w12, c12, u12⟩ := (readsU_list' (e := 9) (by kernel_rfl) (by kernel_rfl) (of_decide_eq_true (by kernel_rfl)) readsU_s) enc w held _ _ t12
  refine ⟨⟨a0, a1, a2, a3, a4, a5, a6, a7, a8, a9, a10, a11, a12⟩, ⟨w3, w4, w5, w6, w7, w8, w11, w12⟩, ?_, ?_⟩
  · have e : Enc.cells (⟨a0, a1, a2, a3, a4, a5, a6, a7, a8, a9, a10, a11, a12⟩ : Clause) = Enc.cells a0 ++ (Enc.cells a1 ++ (Enc.cells a2 ++ (Enc.cells a3 ++ (Enc.cells a4 ++ (Enc.cells a5 ++ (Enc.cells a6 ++ (Enc.cells a7 ++ (Enc.cells a8 ++ (Enc.cells a9 ++ (Enc.cells a10 ++ (Enc.cells a11 ++ (Enc.cells a12 ++ ([]))))))))))))) := by
      rw [cells_expr a5]
      rfl
    rw [e]
    exact CellsD.split (o := 0) (s := 1) c0 (CellsD.split (s := 1) c1 (CellsD.split (s := 1) c2 (CellsD.split (s := 1) c3 (CellsD.split (s := 1) c4 (CellsD.split (s := 9) c5 (CellsD.split (s := 1) c6 (CellsD.split (s := 1) c7 (CellsD.split (s := 1) c8 (CellsD.split (s := 1) c9 (CellsD.split (s := 1) c10 (CellsD.split (s := 1) c11 (CellsD.split (s := 1) c12 (CellsD.last (by rw [hl, show szT Tryz.prog 39 = 21 by kernel_rfl]; decide))))))))))))))
  · have h5 := hb 13
    simp [List.range_succ, b0, b1, b2, b3, b4, b5, b6, b7, b8, b9, b10, b11, b12] at h5
    simp only [bulkC]
    omega
def W0Y (x : Query) : Prop := WfL W0C x.clauses
def bulkY (x : Query) : Nat := bulkL bulkC x.clauses + 1
theorem readsU_Query : ∀ n, ReadsU Tryz.prog n 48 Query W0Y bulkY := by
  intro n H enc w held cs x hx
  obtain ⟨m, xs, rfl, hl, hb, hf⟩ := structU ⟨_, rfl⟩ hx
  obtain ⟨y0, b0, t0⟩ := hf 0 0 46 (by kernel_rfl)
  obtain ⟨a0, w0, c0, u0⟩ := (readsU_list' (e := 39) (by kernel_rfl) (by kernel_rfl) (of_decide_eq_true (by kernel_rfl)) readsU_Clause) enc w held _ _ t0
  refine ⟨⟨a0⟩, w0, ?_, ?_⟩
  · have e : Enc.cells (⟨a0⟩ : Query) = Enc.cells a0 ++ ([]) := by
      rfl
    rw [e]
    exact CellsD.split (o := 0) (s := 1) c0 (CellsD.last (by rw [hl, show szT Tryz.prog 48 = 1 by kernel_rfl]; decide))
  · have h5 := hb 1
    simp [List.range_succ, b0] at h5
    simp only [bulkY]
    omega

theorem sum_mem {α : Type} {b : α → Nat} {x : α} : ∀ {l : List α}, x ∈ l → b x ≤ (l.map b).sum
  | y :: r, h => by
    simp only [List.map_cons, List.sum_cons]
    rcases List.mem_cons.1 h with rfl | h
    · omega
    · have := sum_mem (b := b) h; omega
theorem sum_ge {α : Type} {b f : α → Nat} (h : ∀ x, f x ≤ b x) : ∀ l : List α, (l.map f).sum ≤ (l.map b).sum
  | [] => Nat.le_refl _
  | y :: r => by
    have := sum_ge h r
    have := h y
    simp only [List.map_cons, List.sum_cons]
    omega
theorem len_sum {α : Type} {b : α → Nat} (h : ∀ x, 1 ≤ b x) : ∀ l : List α, l.length ≤ (l.map b).sum
  | [] => Nat.le_refl _
  | y :: r => by
    have := len_sum h r
    have := h y
    simp only [List.map_cons, List.sum_cons, List.length_cons]
    omega
theorem wfN_of {x : NodePat} (h : W0N x) (hb : bulkN x ≤ 1048576) : WfN x := by
  obtain ⟨h1, ⟨h2, h3⟩, h4, h5⟩ := h
  refine ⟨h1, ⟨h2, h3⟩, ?_, h5⟩
  have := len_sum (b := bulkQ) (fun x => by unfold bulkQ; omega) x.props
  unfold bulkN bulkL at hb
  omega
theorem wfG_of {x : EdgePat} (h : W0G x) (hb : bulkG x ≤ 1048576) : WfG x := by
  obtain ⟨h1, ⟨h2, h3⟩, h4, h5⟩ := h
  refine ⟨h1, ⟨h2, h3⟩, ?_, h5⟩
  have := len_sum (b := bulkQ) (fun x => by unfold bulkQ; omega) x.props
  unfold bulkG bulkL at hb
  show x.props.length ≤ 1048576
  omega
theorem wfPS_of {p : PathPat} (h : W0P p) (hb : bulkP p ≤ 1048576) : WfPS p := by
  obtain ⟨h1, ⟨h2, h3⟩, h4, h5⟩ := h
  have n1 := len_sum (b := bulkN) (fun x => by unfold bulkN; omega) p.nodes
  have n2 : nsum p.nodes ≤ (p.nodes.map bulkN).sum := sum_ge (fun x => by
    have := len_sum (b := bulkQ) (fun x => by unfold bulkQ; omega) x.props
    unfold bulkN bulkL
    omega) _
  have n3 : esum p.edges ≤ (p.edges.map bulkG).sum := sum_ge (fun x => by
    have := len_sum (b := bulkQ) (fun x => by unfold bulkQ; omega) x.props
    unfold bulkG bulkL
    omega) _
  unfold bulkP bulkL at hb
  refine ⟨⟨h1, ⟨by omega, fun n hn => wfN_of (h3 n hn) ?_⟩, h4, fun e he => wfG_of (h5 e he) ?_⟩, by omega⟩
  · have := sum_mem (b := bulkN) hn; omega
  · have := sum_mem (b := bulkG) he; omega
theorem wfCS_of {c : Clause} (h : W0C c) (hb : bulkC c ≤ 1048576) : WfCS c := by
  obtain ⟨⟨h1, h2⟩, ⟨h3, h4⟩, h5, h6, ⟨h7, h8⟩, ⟨h9, h10⟩, ⟨h11, h12⟩, h13, h14⟩ := h
  have hp : ∀ p ∈ c.paths, WfPS p := fun p hp => wfPS_of (h2 p hp) (by
    have := sum_mem (b := bulkP) hp
    unfold bulkC bulkL at hb
    omega)
  exact ⟨⟨⟨h1, fun p h => (hp p h).1⟩, ⟨h3, h4⟩, h5, ⟨h7, fun i hi => (h8 i hi).1⟩, ⟨h9, fun i hi => h10 i hi⟩, ⟨h11, fun i hi => (h12 i hi).2.2.2⟩, h13⟩, hp⟩
theorem wfQS_of {q : Query} (h : W0Y q) (hb : bulkY q ≤ 1048576) : WfQS q ∧ q.clauses.length ≤ 1048576 := by
  obtain ⟨h1, h2⟩ := h
  have n1 := len_sum (b := bulkC) (fun x => by unfold bulkC; omega) q.clauses
  unfold bulkY bulkL at hb
  refine ⟨⟨h1, fun c hc => wfCS_of (h2 c hc) ?_⟩, by omega⟩
  have := sum_mem (b := bulkC) hc
  omega
end Go.Proofs.YthcfnaglgoaikaaGreat
