/-
  layer 18: the chapter's examples hold. Printed by gen18.py.
-/
import Derived.Test.YthcfnaglgoaikaaGreatS17
namespace Go.Proofs.YthcfnaglgoaikaaGreat
open Go.RowKit
set_option linter.unusedSimpArgs false
set_option linter.unusedVariables false
set_option linter.unnecessarySimpa false
set_option maxRecDepth 100000

section
variable {C : Ctx}
theorem pure0W {f : FuncId} {fn : Func} {body : Code} {rs : List ResultVar} {n : Nat} (hf : C.P.funcs[f]? = some fn) (hb : fn.body = some body) (hrs : fn.results.toList = rs) (hn : fn.ntmps = n) {res : AV} (h : AW C n 0 body ⟨[], []⟩ (postP C rs res)) : PureOK C.P C.G f (spec0 res) :=
  pure_of_AW hf hb hrs hn fun avs ob r' hp hob => by
    unfold spec0 at hp
    split at hp
    · injection hp with hp; injection hp with e1 e2; subst e1 e2
      exact ⟨Nat.zero_le _, h⟩
    · cases hp
end
/-- Lists within lists, without their marks. -/
def nrm1 : AV → AV
  | .slice sz f rows => .slice sz f (rows.map fun r => r.map nrmC)
  | v => v
def nrm2 : AV → AV
  | .agg cs => .agg (cs.map nrm1)
  | v => v
theorem repD_nrm1 {w : World} {X : Nat → Prop} {v : Value} {av : AV} (h : RepD w X v av) : RepD w X v (nrm1 av) := by
  unfold nrm1
  split
  · cases h with
    | slice _ _ _ a n cap val hn h1 h2 h3 hr hm hv =>
      refine .slice _ _ _ a n cap val (by simpa using hn) (by simpa using h1) h2 (by simpa using h3) (fun r hr' => ?_) (by simpa using hm) (fun i j r c hi hj => ?_)
      · obtain ⟨r0, h0, rfl⟩ := List.mem_map.1 hr'
        simpa using hr r0 h0
      · rw [List.getElem?_map, Option.map_eq_some_iff] at hi
        obtain ⟨r0, h0, rfl⟩ := hi
        rw [List.getElem?_map, Option.map_eq_some_iff] at hj
        obtain ⟨c0, h1, rfl⟩ := hj
        exact repD_nrmC (hv i j r0 c0 h0 h1)
  · exact h
theorem repD_nrm2 {w : World} {X : Nat → Prop} {v : Value} {av : AV} (h : RepD w X v av) : RepD w X v (nrm2 av) := by
  unfold nrm2
  split
  · cases h with
    | agg vs cells val hl hm hv =>
      refine .agg _ _ val (by simpa using hl) (by simpa using hm) (fun j c hc => ?_)
      rw [List.getElem?_map, Option.map_eq_some_iff] at hc
      obtain ⟨c0, h0, rfl⟩ := hc
      exact repD_nrm1 (hv j c0 h0)
  · exact h
theorem pure_nrm2 {P : Program} {G : Nat → AV} {f : FuncId} {p : List AV → Option (Prop × AV)} (h : PureOK P G f p) : PureOK P G f (fun avs => p (avs.map nrm2)) := by
  intro w X args avs ob r hX hG hsz harg hp hob
  refine h w X args (avs.map nrm2) ob r hX hG (by simpa using hsz) (fun j u hu => ?_) hp hob
  rw [List.getElem?_map, Option.map_eq_some_iff] at hu
  obtain ⟨u0, h0, rfl⟩ := hu
  obtain ⟨v, h1, h2⟩ := harg j u0 h0
  exact ⟨v, h1, repD_nrm2 h2⟩
def sPathN : List AV → Option (Prop × AV) := fun avs => sPathC (avs.map nrm2)
theorem dec_lit {α : Type} [Enc α] (s : Nat) (f : Bool) (rows : List (List AV)) : (Enc.dec (.slice s f rows) : List α) = rows.map Enc.unc := rfl

def K1 : List AV := [.int .i64 2, .int .i64 0, .int .i64 0, .int .i64 0, .str ByteArray.empty, .slice 5 true [], .str ⟨#[120]⟩, .bool false, .slice 9 true []]
def K2 : List AV := [.int .i64 24, .int .i64 0, .int .i64 0, .int .i64 0, .str ByteArray.empty, .slice 5 true [], .str ⟨#[99, 111, 117, 110, 116]⟩, .bool false, .slice 9 true []]
def K3 : List AV := [.int .i64 24, .int .i64 0, .int .i64 0, .int .i64 0, .str ByteArray.empty, .slice 5 true [], .str ⟨#[115, 117, 109]⟩, .bool false, .slice 9 true [[.int .i64 24, .int .i64 0, .int .i64 0, .int .i64 0, .str ByteArray.empty, .slice 5 false [], .str ⟨#[99, 111, 117, 110, 116]⟩, .bool false, .slice 9 false [[.int .i64 2, .int .i64 0, .int .i64 0, .int .i64 0, .str ByteArray.empty, .slice 5 false [], .str ⟨#[120]⟩, .bool false, .slice 9 false []]]]]]
def K4 : List AV := [.str ByteArray.empty, .slice 1 true [], .int .i64 1, .int .i64 1, .int .i64 0, .int .i64 6, .slice 10 true []]
theorem mx2 : 2 ≤ maxLen := by unfold maxLen; omega
def K6 : List AV := [.int .i64 1, .bool false, .bool false, .slice 3 true [[.str ByteArray.empty, .slice 3 false [[.str ⟨#[120]⟩, .slice 1 false [], .slice 10 false []]], .slice 7 false []]], .slice 9 true [], .int .i64 0, .int .i64 0, .int .i64 0, .int .i64 0, .str ByteArray.empty, .slice 5 true [], .str ByteArray.empty, .bool false, .slice 9 true [], .str ByteArray.empty, .slice 10 true [], .slice 10 true [], .int .i64 (-1), .int .i64 0, .slice 13 true [], .slice 1 true []]
def K7 : List AV := [.int .i64 4, .bool false, .bool false, .slice 3 true [], .slice 9 true [], .int .i64 0, .int .i64 0, .int .i64 0, .int .i64 0, .str ByteArray.empty, .slice 5 true [], .str ByteArray.empty, .bool false, .slice 9 true [], .str ByteArray.empty, .slice 10 true [[.int .i64 24, .int .i64 0, .int .i64 0, .int .i64 0, .str ByteArray.empty, .slice 5 false [], .str ⟨#[99, 111, 117, 110, 116]⟩, .bool false, .slice 9 false [], .str ⟨#[110]⟩]], .slice 10 true [], .int .i64 (-1), .int .i64 5, .slice 13 true [], .slice 1 true []]
theorem small0 : (0 : Nat) ≤ maxLen := Nat.zero_le _
theorem wfV0 : WfV (.mk 0 0 0 ByteArray.empty []) := .mk _ _ _ _ _ (Nat.zero_le _) (Nat.zero_le _) (by simp)
theorem wfE0 (o : Int) (n : ByteArray) (d : Bool) (hn : n.size ≤ 20) : WfE (.mk o (.mk 0 0 0 ByteArray.empty []) n d []) := .mk _ _ _ _ _ wfV0 (by unfold maxLen; omega) (Nat.zero_le _) (by simp)
theorem wfE1 (o : Int) (n : ByteArray) (d : Bool) (k : Expr) (hn : n.size ≤ 20) (hk : WfE k) : WfE (.mk o (.mk 0 0 0 ByteArray.empty []) n d [k]) := .mk _ _ _ _ _ wfV0 (by unfold maxLen; omega) (by simp [maxLen]) (by simpa using hk)
theorem x1 : checkE (Expr.mk 24 (Val.mk 0 0 0 ByteArray.empty []) ⟨#[99, 111, 117, 110, 116]⟩ false []) = 0 := by kernel_rfl
theorem x2 : checkE (Expr.mk 24 (Val.mk 0 0 0 ByteArray.empty []) ⟨#[99, 111, 117, 110, 116]⟩ true []) = 1 := by kernel_rfl
theorem x3 : checkE (Expr.mk 24 (Val.mk 0 0 0 ByteArray.empty []) ⟨#[115, 117, 109]⟩ false [(Expr.mk 24 (Val.mk 0 0 0 ByteArray.empty []) ⟨#[99, 111, 117, 110, 116]⟩ false [(Expr.mk 2 (Val.mk 0 0 0 ByteArray.empty []) ⟨#[120]⟩ false [])])]) = 9 := by kernel_rfl
theorem x4 : checkE (Expr.mk 23 (Val.mk 0 0 0 ByteArray.empty []) ⟨#[102, 111, 111]⟩ false []) = 6 := by kernel_rfl
theorem x5 : checkE (Expr.mk 23 (Val.mk 0 0 0 ByteArray.empty []) ⟨#[105, 100]⟩ false []) = 1 := by kernel_rfl
theorem x6 : checkE (Expr.mk 2 (Val.mk 0 0 0 ByteArray.empty []) ⟨#[109, 97, 116, 99, 104]⟩ false []) = 6 := by kernel_rfl
theorem x7 : pathE (PathPat.mk ByteArray.empty [(NodePat.mk ByteArray.empty [] []), (NodePat.mk ByteArray.empty [] []), (NodePat.mk ByteArray.empty [] []), (NodePat.mk ByteArray.empty [] [])] [(EdgePat.mk ByteArray.empty [] 1 1 0 6 []), (EdgePat.mk ByteArray.empty [] 1 1 0 6 []), (EdgePat.mk ByteArray.empty [] 1 0 0 0 [])]) false = 4 := by kernel_rfl
theorem x8 : pathE (PathPat.mk ByteArray.empty [(NodePat.mk ByteArray.empty [] []), (NodePat.mk ByteArray.empty [] [])] [(EdgePat.mk ByteArray.empty [] 1 0 0 0 [])]) true = 1 := by kernel_rfl
theorem x9 : queryE (Query.mk [(Clause.mk 1 false false [PathPat.mk ByteArray.empty [NodePat.mk ⟨#[120]⟩ [] []] []] [] (Expr.mk 0 (Val.mk 0 0 0 ByteArray.empty []) ByteArray.empty false []) ByteArray.empty [] [] (-1) 0 [] [])]) = (0, 26) := by kernel_rfl
theorem x10 : queryE (Query.mk [(Clause.mk 1 false false [PathPat.mk ByteArray.empty [NodePat.mk ⟨#[120]⟩ [] []] []] [] (Expr.mk 0 (Val.mk 0 0 0 ByteArray.empty []) ByteArray.empty false []) ByteArray.empty [] [] (-1) 0 [] []), (Clause.mk 4 false false [] [] (Expr.mk 0 (Val.mk 0 0 0 ByteArray.empty []) ByteArray.empty false []) ByteArray.empty [Item.mk (Expr.mk 24 (Val.mk 0 0 0 ByteArray.empty []) ⟨#[99, 111, 117, 110, 116]⟩ false []) ⟨#[110]⟩] [] (-1) 5 [] [])]) = (0, 0) := by kernel_rfl
theorem x11 : arLo coal = 2 := by kernel_rfl
theorem x12 : arHi coal = 4 := by kernel_rfl
theorem x13 : decide (Agg ⟨#[97, 118, 103]⟩) = true := by kernel_rfl
theorem x14 : decide (Agg ⟨#[105, 100]⟩) = false := by kernel_rfl
theorem x15 : aggE (Expr.mk 24 (Val.mk 0 0 0 ByteArray.empty []) ⟨#[115, 117, 109]⟩ false [(Expr.mk 24 (Val.mk 0 0 0 ByteArray.empty []) ⟨#[99, 111, 117, 110, 116]⟩ false [(Expr.mk 2 (Val.mk 0 0 0 ByteArray.empty []) ⟨#[120]⟩ false [])])]) = true := by kernel_rfl
theorem x16 : aggE (Expr.mk 2 (Val.mk 0 0 0 ByteArray.empty []) ⟨#[120]⟩ false []) = false := by kernel_rfl
theorem x17 : sizeE (Expr.mk 24 (Val.mk 0 0 0 ByteArray.empty []) ⟨#[115, 117, 109]⟩ false [(Expr.mk 24 (Val.mk 0 0 0 ByteArray.empty []) ⟨#[99, 111, 117, 110, 116]⟩ false [(Expr.mk 2 (Val.mk 0 0 0 ByteArray.empty []) ⟨#[120]⟩ false [])])]) = 3 := by kernel_rfl
theorem x18 : updB (Clause.mk 1 false false [PathPat.mk ByteArray.empty [NodePat.mk ⟨#[120]⟩ [] []] []] [] (Expr.mk 0 (Val.mk 0 0 0 ByteArray.empty []) ByteArray.empty false []) ByteArray.empty [] [] (-1) 0 [] []) = false := by kernel_rfl
theorem x20 : updB (Clause.mk 4 false false [] [] (Expr.mk 0 (Val.mk 0 0 0 ByteArray.empty []) ByteArray.empty false []) ByteArray.empty [Item.mk (Expr.mk 24 (Val.mk 0 0 0 ByteArray.empty []) ⟨#[99, 111, 117, 110, 116]⟩ false []) ⟨#[110]⟩] [] (-1) 5 [] []) = false := by kernel_rfl
theorem x19 : clauseE (Clause.mk 4 false false [] [] (Expr.mk 0 (Val.mk 0 0 0 ByteArray.empty []) ByteArray.empty false []) ByteArray.empty [Item.mk (Expr.mk 24 (Val.mk 0 0 0 ByteArray.empty []) ⟨#[99, 111, 117, 110, 116]⟩ false []) ⟨#[110]⟩] [] (-1) 5 [] []) = 0 := by kernel_rfl
theorem w0 : WfE (Expr.mk 24 (Val.mk 0 0 0 ByteArray.empty []) ⟨#[99, 111, 117, 110, 116]⟩ false []) := wfE0 _ _ _ (by decide)
theorem w1 : WfE (Expr.mk 24 (Val.mk 0 0 0 ByteArray.empty []) ⟨#[99, 111, 117, 110, 116]⟩ true []) := wfE0 _ _ _ (by decide)
theorem w2 : WfE (Expr.mk 24 (Val.mk 0 0 0 ByteArray.empty []) ⟨#[115, 117, 109]⟩ false [(Expr.mk 24 (Val.mk 0 0 0 ByteArray.empty []) ⟨#[99, 111, 117, 110, 116]⟩ false [(Expr.mk 2 (Val.mk 0 0 0 ByteArray.empty []) ⟨#[120]⟩ false [])])]) := wfE1 _ _ _ _ (by decide) (wfE1 _ _ _ _ (by decide) (wfE0 _ _ _ (by decide)))
theorem w3 : WfE (Expr.mk 2 (Val.mk 0 0 0 ByteArray.empty []) ⟨#[120]⟩ false []) := wfE0 _ _ _ (by decide)
theorem w4 : WfE (Expr.mk 23 (Val.mk 0 0 0 ByteArray.empty []) ⟨#[102, 111, 111]⟩ false []) := wfE0 _ _ _ (by decide)
theorem w5 : WfE (Expr.mk 23 (Val.mk 0 0 0 ByteArray.empty []) ⟨#[105, 100]⟩ false []) := wfE0 _ _ _ (by decide)
theorem w6 : WfE (Expr.mk 2 (Val.mk 0 0 0 ByteArray.empty []) ⟨#[109, 97, 116, 99, 104]⟩ false []) := wfE0 _ _ _ (by decide)
theorem w7 : WfP (PathPat.mk ByteArray.empty [(NodePat.mk ByteArray.empty [] []), (NodePat.mk ByteArray.empty [] []), (NodePat.mk ByteArray.empty [] []), (NodePat.mk ByteArray.empty [] [])] [(EdgePat.mk ByteArray.empty [] 1 1 0 6 []), (EdgePat.mk ByteArray.empty [] 1 1 0 6 []), (EdgePat.mk ByteArray.empty [] 1 0 0 0 [])]) := by
  have m0 : ∀ n, n ≤ 1000 → n ≤ maxLen := fun n h => by unfold maxLen; omega
  have m1 : (⟨#[120]⟩ : ByteArray).size ≤ maxLen := m0 _ (by decide)
  have m2 : WfE (Expr.mk 0 (Val.mk 0 0 0 ByteArray.empty []) ByteArray.empty false []) := wfE0 _ _ _ (by decide)
  simp [WfQy, WfC, WfP, WfN, WfG, WfQ, edgeN, m0, m1, m2, w0]
theorem w8 : WfP (PathPat.mk ByteArray.empty [(NodePat.mk ByteArray.empty [] []), (NodePat.mk ByteArray.empty [] [])] [(EdgePat.mk ByteArray.empty [] 1 0 0 0 [])]) := by
  have m0 : ∀ n, n ≤ 1000 → n ≤ maxLen := fun n h => by unfold maxLen; omega
  have m1 : (⟨#[120]⟩ : ByteArray).size ≤ maxLen := m0 _ (by decide)
  have m2 : WfE (Expr.mk 0 (Val.mk 0 0 0 ByteArray.empty []) ByteArray.empty false []) := wfE0 _ _ _ (by decide)
  simp [WfQy, WfC, WfP, WfN, WfG, WfQ, edgeN, m0, m1, m2, w0]
theorem w9 : WfQy (Query.mk [(Clause.mk 1 false false [PathPat.mk ByteArray.empty [NodePat.mk ⟨#[120]⟩ [] []] []] [] (Expr.mk 0 (Val.mk 0 0 0 ByteArray.empty []) ByteArray.empty false []) ByteArray.empty [] [] (-1) 0 [] [])]) := by
  have m0 : ∀ n, n ≤ 1000 → n ≤ maxLen := fun n h => by unfold maxLen; omega
  have m1 : (⟨#[120]⟩ : ByteArray).size ≤ maxLen := m0 _ (by decide)
  have m2 : WfE (Expr.mk 0 (Val.mk 0 0 0 ByteArray.empty []) ByteArray.empty false []) := wfE0 _ _ _ (by decide)
  simp [WfQy, WfC, WfP, WfN, WfG, WfQ, edgeN, m0, m1, m2, w0]
theorem w10 : WfQy (Query.mk [(Clause.mk 1 false false [PathPat.mk ByteArray.empty [NodePat.mk ⟨#[120]⟩ [] []] []] [] (Expr.mk 0 (Val.mk 0 0 0 ByteArray.empty []) ByteArray.empty false []) ByteArray.empty [] [] (-1) 0 [] []), (Clause.mk 4 false false [] [] (Expr.mk 0 (Val.mk 0 0 0 ByteArray.empty []) ByteArray.empty false []) ByteArray.empty [Item.mk (Expr.mk 24 (Val.mk 0 0 0 ByteArray.empty []) ⟨#[99, 111, 117, 110, 116]⟩ false []) ⟨#[110]⟩] [] (-1) 5 [] [])]) := by
  have m0 : ∀ n, n ≤ 1000 → n ≤ maxLen := fun n h => by unfold maxLen; omega
  have m1 : (⟨#[120]⟩ : ByteArray).size ≤ maxLen := m0 _ (by decide)
  have m2 : WfE (Expr.mk 0 (Val.mk 0 0 0 ByteArray.empty []) ByteArray.empty false []) := wfE0 _ _ _ (by decide)
  simp [WfQy, WfC, WfP, WfN, WfG, WfQ, edgeN, m0, m1, m2, w0]
theorem w11 : WfC (Clause.mk 4 false false [] [] (Expr.mk 0 (Val.mk 0 0 0 ByteArray.empty []) ByteArray.empty false []) ByteArray.empty [Item.mk (Expr.mk 24 (Val.mk 0 0 0 ByteArray.empty []) ⟨#[99, 111, 117, 110, 116]⟩ false []) ⟨#[110]⟩] [] (-1) 5 [] []) := by
  have m0 : ∀ n, n ≤ 1000 → n ≤ maxLen := fun n h => by unfold maxLen; omega
  have m1 : (⟨#[120]⟩ : ByteArray).size ≤ maxLen := m0 _ (by decide)
  have m2 : WfE (Expr.mk 0 (Val.mk 0 0 0 ByteArray.empty []) ByteArray.empty false []) := wfE0 _ _ _ (by decide)
  simp [WfQy, WfC, WfP, WfN, WfG, WfQ, edgeN, m0, m1, m2, w0]

def KE : List AV := [.str ByteArray.empty, .slice 1 true [], .int .i64 1, .int .i64 0, .int .i64 0, .int .i64 0, .slice 10 true []]
def KS : AV := .slice 7 true [[.str ByteArray.empty, .slice 1 false [], .int .i64 1, .int .i64 1, .int .i64 0, .int .i64 6, .slice 10 false []], [.str ByteArray.empty, .slice 1 false [], .int .i64 1, .int .i64 1, .int .i64 0, .int .i64 6, .slice 10 false []], [.str ByteArray.empty, .slice 1 false [], .int .i64 1, .int .i64 0, .int .i64 0, .int .i64 0, .slice 10 false []]]
def K5 : List AV := [.str ByteArray.empty, .slice 3 false [[.str ByteArray.empty, .slice 1 true [], .slice 10 true []], [.str ByteArray.empty, .slice 1 true [], .slice 10 true []], [.str ByteArray.empty, .slice 1 true [], .slice 10 true []], [.str ByteArray.empty, .slice 1 true [], .slice 10 true []]], KS]
def MB : Blk := ⟨58, 3, [[.str ByteArray.empty, .slice 1 true [], .slice 10 true []], [.str ByteArray.empty, .slice 1 true [], .slice 10 true []], [.str ByteArray.empty, .slice 1 true [], .slice 10 true []], [.str ByteArray.empty, .slice 1 true [], .slice 10 true []]], true, true⟩
def ZP : Blk := ⟨25, 3, [[.str ByteArray.empty, .slice 3 true [], .slice 7 true []]], true, true⟩
def PF (k : Nat) : Blk := ⟨25, 3, [[.str ByteArray.empty, .own k 4, KS]], true, false⟩
def heap5 (o l0 l6 l7 : Bool) : List Blk := if l7 then (if o then [MB, PF 0] else [PF 1, MB]) else if l0 && l6 then (if o then [MB, ZP] else [ZP, MB]) else if l0 then [MB] else if l6 then [ZP] else []
/-- What stands while the long pattern is put together, in whatever order. -/
structure I5 (o : Bool) (L : Nat → Bool) (st : ASt) : Prop where
  s1 : getA st.ρ 1 = .iptr K1
  s2 : getA st.ρ 2 = .iptr K2
  s3 : getA st.ρ 3 = .iptr K3
  s4 : getA st.ρ 4 = .iptr K4
  v0 : L 0 = true → getA st.ρ 23 = .own (if o then 0 else 1) 4
  v1 : L 1 = true → getA st.ρ 24 = .agg K4
  v2 : L 2 = true → getA st.ρ 25 = .agg K4
  v3 : L 3 = true → getA st.ρ 26 = .agg KE
  v4 : L 4 = true → getA st.ρ 27 = KS
  v5 : L 5 = true → getA st.ρ 28 = .agg [.str ByteArray.empty, .own (if o then 0 else 1) 4, KS]
  v6 : L 6 = true → getA st.ρ 5 = .ptr (if o then 1 else 0) 1 3 0 0
  c0 : L 0 = true → L 6 = false → o = true
  c5 : L 5 = true → L 0 = true
  c6 : L 6 = true → L 0 = false → o = false
  c7 : L 7 = true → L 0 = true ∧ L 6 = true
  hp : st.H = heap5 o (L 0) (L 6) (L 7)
def J5 (L : Nat → Bool) (st : ASt) : Prop := ∃ o, I5 o L st

section
variable {m : Int}
noncomputable def CLv (m : Int) : Ctx := mkC Tryz.prog (G m) [(20, .pure sChk), (8, .pure sPathN), (10, .pure sClause), (13, .pure sQuery), (19, .pure sAr), (21, .pure sAgg), (22, .pure sHasA), (23, .pure sSzA), (15, .pure sUpg)]
@[simp] theorem CLv_P (m : Int) : (CLv m).P = Tryz.prog := rfl
@[simp] theorem CLv_1 (m : Int) : (CLv m).S 20 = .pure sChk := rfl
@[simp] theorem CLv_2 (m : Int) : (CLv m).S 8 = .pure sPathN := rfl
@[simp] theorem CLv_3 (m : Int) : (CLv m).S 10 = .pure sClause := rfl
@[simp] theorem CLv_4 (m : Int) : (CLv m).S 13 = .pure sQuery := rfl
@[simp] theorem CLv_5 (m : Int) : (CLv m).S 19 = .pure sAr := rfl
@[simp] theorem CLv_6 (m : Int) : (CLv m).S 21 = .pure sAgg := rfl
@[simp] theorem CLv_7 (m : Int) : (CLv m).S 22 = .pure sHasA := rfl
@[simp] theorem CLv_8 (m : Int) : (CLv m).S 23 = .pure sSzA := rfl
@[simp] theorem CLv_9 (m : Int) : (CLv m).S 15 = .pure sUpg := rfl
theorem mixCLv (m : Int) : (CLv m).P.follows .mixedOrders = true := mixed
theorem sigCLv (m : Int) : SigOK (CLv m) := sigOK_cons (entryPure checkP Tryz.func20 rfl (by decide)) (sigOK_cons (entryPure (pure_nrm2 checkPathP) Tryz.func8 rfl (by decide)) (sigOK_cons (entryPure clauseP Tryz.func10 rfl (by decide)) (sigOK_cons (entryPure queryP Tryz.func13 rfl (by decide)) (sigOK_cons (entryPure arityP Tryz.func19 rfl (by decide)) (sigOK_cons (entryPure aggP Tryz.func21 rfl (by decide)) (sigOK_cons (entryPure hasP Tryz.func22 rfl (by decide)) (sigOK_cons (entryPure sizeP_ Tryz.func23 rfl (by decide)) (sigOK_cons (entryPure updatingP Tryz.func15 rfl (by decide)) (sigOK_nil _ _)))))))))

set_option maxHeartbeats 16000000 in
theorem step5 : ∀ (i : Nat) (o : Oper), (match Tryz.f7.body with | some (.seq _ (.seq _ (.seq _ (.seq _ (.seq _ (.seq (.region _ ops _) _)))))) => ops.toList[i]? | _ => none) = some o → ∀ L st', J5 L st' → L i = false → (∀ d ∈ ([[], [], [], [], [1, 2, 3], [0, 4], [], [6, 5, 0, 1, 2, 3, 4, 5, 6]] : List (List Nat)).getD i [], L d = true) → aops (CLv m) (match Tryz.f7.body with | some (.seq _ (.seq _ (.seq _ (.seq _ (.seq _ (.seq (.region _ ops _) _)))))) => ops | _ => #[]) [o] st' (J5 (fun j => decide (j = i) || L j)) := by
  intro k o ho L st' ⟨o', hI⟩ hLi hd
  obtain ⟨ρ, H⟩ := st'
  match k, ho with
    | 0, ho =>
      have ho := Option.some.inj ho
      subst ho
      have n7 : L 7 = false := by cases h : L 7 <;> simp_all [hI.c7]
      have n5 : L 5 = false := by cases h : L 5 <;> simp_all [hI.c5]
      cases l6 : L 6
      · have hH : H = [] := by simpa [heap5, hLi, l6, n7] using hI.hp
        subst hH
        simp [aev, cav, look, acallPure, abin, abinN, abinP, abinI, abinS, aun, aconv, afield, afieldAddr, aindexAddr, aindex, aslice, alow, ahigh, abuild, abuildGo, cellsOf, splice, fieldTy, alen, apick, amax, amin, aload, headV, aparts, abuildSlice, elParts, abytesStr, astore, amake, aappend, anew, arith, aresults, aresList, ares, spec0, spec1, spec2, spec3, spec4, eqCells, eqCell, MB, ZP]
        exact ⟨true, ⟨(by first | (simpa using hI.s1) | (simp [l6, n7, n5, hLi, MB, ZP]; done) | (simp_all; done)), (by first | (simpa using hI.s2) | (simp [l6, n7, n5, hLi, MB, ZP]; done) | (simp_all; done)), (by first | (simpa using hI.s3) | (simp [l6, n7, n5, hLi, MB, ZP]; done) | (simp_all; done)), (by first | (simpa using hI.s4) | (simp [l6, n7, n5, hLi, MB, ZP]; done) | (simp_all; done)), (by first | (simpa using hI.v0) | (simp [l6, n7, n5, hLi, MB, ZP]; done) | (simp_all; done)), (by first | (simpa using hI.v1) | (simp [l6, n7, n5, hLi, MB, ZP]; done) | (simp_all; done)), (by first | (simpa using hI.v2) | (simp [l6, n7, n5, hLi, MB, ZP]; done) | (simp_all; done)), (by first | (simpa using hI.v3) | (simp [l6, n7, n5, hLi, MB, ZP]; done) | (simp_all; done)), (by first | (simpa using hI.v4) | (simp [l6, n7, n5, hLi, MB, ZP]; done) | (simp_all; done)), (by first | (simpa using hI.v5) | (simp [l6, n7, n5, hLi, MB, ZP]; done) | (simp_all; done)), (by first | (simpa using hI.v6) | (simp [l6, n7, n5, hLi, MB, ZP]; done) | (simp_all; done)), (by first | (simpa using hI.c0) | (simp [l6, n7, n5, hLi, MB, ZP]; done) | (simp_all; done)), (by first | (simpa using hI.c5) | (simp [l6, n7, n5, hLi, MB, ZP]; done) | (simp_all; done)), (by first | (simpa using hI.c6) | (simp [l6, n7, n5, hLi, MB, ZP]; done) | (simp_all; done)), (by first | (simpa using hI.c7) | (simp [l6, n7, n5, hLi, MB, ZP]; done) | (simp_all; done)), (by first | (simpa using hI.hp) | (simp [heap5, l6, n7, n5, hLi, MB, ZP]; done) | (simp_all [heap5]; done))⟩⟩
      · have e : o' = false := hI.c6 l6 hLi
        subst e
        have hH : H = [ZP] := by simpa [heap5, hLi, l6, n7] using hI.hp
        subst hH
        simp [aev, cav, look, acallPure, abin, abinN, abinP, abinI, abinS, aun, aconv, afield, afieldAddr, aindexAddr, aindex, aslice, alow, ahigh, abuild, abuildGo, cellsOf, splice, fieldTy, alen, apick, amax, amin, aload, headV, aparts, abuildSlice, elParts, abytesStr, astore, amake, aappend, anew, arith, aresults, aresList, ares, spec0, spec1, spec2, spec3, spec4, eqCells, eqCell, MB, ZP]
        exact ⟨false, ⟨(by first | (simpa using hI.s1) | (simp [l6, n7, n5, hLi, MB, ZP]; done) | (simp_all; done)), (by first | (simpa using hI.s2) | (simp [l6, n7, n5, hLi, MB, ZP]; done) | (simp_all; done)), (by first | (simpa using hI.s3) | (simp [l6, n7, n5, hLi, MB, ZP]; done) | (simp_all; done)), (by first | (simpa using hI.s4) | (simp [l6, n7, n5, hLi, MB, ZP]; done) | (simp_all; done)), (by first | (simpa using hI.v0) | (simp [l6, n7, n5, hLi, MB, ZP]; done) | (simp_all; done)), (by first | (simpa using hI.v1) | (simp [l6, n7, n5, hLi, MB, ZP]; done) | (simp_all; done)), (by first | (simpa using hI.v2) | (simp [l6, n7, n5, hLi, MB, ZP]; done) | (simp_all; done)), (by first | (simpa using hI.v3) | (simp [l6, n7, n5, hLi, MB, ZP]; done) | (simp_all; done)), (by first | (simpa using hI.v4) | (simp [l6, n7, n5, hLi, MB, ZP]; done) | (simp_all; done)), (by first | (simpa using hI.v5) | (simp [l6, n7, n5, hLi, MB, ZP]; done) | (simp_all; done)), (by first | (simpa using hI.v6) | (simp [l6, n7, n5, hLi, MB, ZP]; done) | (simp_all; done)), (by first | (simpa using hI.c0) | (simp [l6, n7, n5, hLi, MB, ZP]; done) | (simp_all; done)), (by first | (simpa using hI.c5) | (simp [l6, n7, n5, hLi, MB, ZP]; done) | (simp_all; done)), (by first | (simpa using hI.c6) | (simp [l6, n7, n5, hLi, MB, ZP]; done) | (simp_all; done)), (by first | (simpa using hI.c7) | (simp [l6, n7, n5, hLi, MB, ZP]; done) | (simp_all; done)), (by first | (simpa using hI.hp) | (simp [heap5, l6, n7, n5, hLi, MB, ZP]; done) | (simp_all [heap5]; done))⟩⟩
    | 1, ho =>
      have ho := Option.some.inj ho
      subst ho
      simp [aev, cav, look, acallPure, abin, abinN, abinP, abinI, abinS, aun, aconv, afield, afieldAddr, aindexAddr, aindex, aslice, alow, ahigh, abuild, abuildGo, cellsOf, splice, fieldTy, alen, apick, amax, amin, aload, headV, aparts, abuildSlice, elParts, abytesStr, astore, amake, aappend, anew, arith, aresults, aresList, ares, spec0, spec1, spec2, spec3, spec4, eqCells, eqCell, hI.s4, K4]
      exact ⟨o', ⟨(by first | (simpa using hI.s1) | (simp [K4]; done) | (simp_all; done)), (by first | (simpa using hI.s2) | (simp [K4]; done) | (simp_all; done)), (by first | (simpa using hI.s3) | (simp [K4]; done) | (simp_all; done)), (by first | (simpa using hI.s4) | (simp [K4]; done) | (simp_all; done)), (by first | (simpa using hI.v0) | (simp [K4]; done) | (simp_all; done)), (by first | (simpa using hI.v1) | (simp [K4]; done) | (simp_all; done)), (by first | (simpa using hI.v2) | (simp [K4]; done) | (simp_all; done)), (by first | (simpa using hI.v3) | (simp [K4]; done) | (simp_all; done)), (by first | (simpa using hI.v4) | (simp [K4]; done) | (simp_all; done)), (by first | (simpa using hI.v5) | (simp [K4]; done) | (simp_all; done)), (by first | (simpa using hI.v6) | (simp [K4]; done) | (simp_all; done)), (by first | (simpa using hI.c0) | (simp [K4]; done) | (simp_all; done)), (by first | (simpa using hI.c5) | (simp [K4]; done) | (simp_all; done)), (by first | (simpa using hI.c6) | (simp [K4]; done) | (simp_all; done)), (by first | (simpa using hI.c7) | (simp [K4]; done) | (simp_all; done)), (by first | (simpa using hI.hp) | (simp [heap5, K4]; done) | (simp_all [heap5]; done))⟩⟩
    | 2, ho =>
      have ho := Option.some.inj ho
      subst ho
      simp [aev, cav, look, acallPure, abin, abinN, abinP, abinI, abinS, aun, aconv, afield, afieldAddr, aindexAddr, aindex, aslice, alow, ahigh, abuild, abuildGo, cellsOf, splice, fieldTy, alen, apick, amax, amin, aload, headV, aparts, abuildSlice, elParts, abytesStr, astore, amake, aappend, anew, arith, aresults, aresList, ares, spec0, spec1, spec2, spec3, spec4, eqCells, eqCell, hI.s4, K4]
      exact ⟨o', ⟨(by first | (simpa using hI.s1) | (simp [K4]; done) | (simp_all; done)), (by first | (simpa using hI.s2) | (simp [K4]; done) | (simp_all; done)), (by first | (simpa using hI.s3) | (simp [K4]; done) | (simp_all; done)), (by first | (simpa using hI.s4) | (simp [K4]; done) | (simp_all; done)), (by first | (simpa using hI.v0) | (simp [K4]; done) | (simp_all; done)), (by first | (simpa using hI.v1) | (simp [K4]; done) | (simp_all; done)), (by first | (simpa using hI.v2) | (simp [K4]; done) | (simp_all; done)), (by first | (simpa using hI.v3) | (simp [K4]; done) | (simp_all; done)), (by first | (simpa using hI.v4) | (simp [K4]; done) | (simp_all; done)), (by first | (simpa using hI.v5) | (simp [K4]; done) | (simp_all; done)), (by first | (simpa using hI.v6) | (simp [K4]; done) | (simp_all; done)), (by first | (simpa using hI.c0) | (simp [K4]; done) | (simp_all; done)), (by first | (simpa using hI.c5) | (simp [K4]; done) | (simp_all; done)), (by first | (simpa using hI.c6) | (simp [K4]; done) | (simp_all; done)), (by first | (simpa using hI.c7) | (simp [K4]; done) | (simp_all; done)), (by first | (simpa using hI.hp) | (simp [heap5, K4]; done) | (simp_all [heap5]; done))⟩⟩
    | 3, ho =>
      have ho := Option.some.inj ho
      subst ho
      simp [aev, cav, look, acallPure, abin, abinN, abinP, abinI, abinS, aun, aconv, afield, afieldAddr, aindexAddr, aindex, aslice, alow, ahigh, abuild, abuildGo, cellsOf, splice, fieldTy, alen, apick, amax, amin, aload, headV, aparts, abuildSlice, elParts, abytesStr, astore, amake, aappend, anew, arith, aresults, aresList, ares, spec0, spec1, spec2, spec3, spec4, eqCells, eqCell]
      exact ⟨o', ⟨(by first | (simpa using hI.s1) | (simp [KE]; done) | (simp_all; done)), (by first | (simpa using hI.s2) | (simp [KE]; done) | (simp_all; done)), (by first | (simpa using hI.s3) | (simp [KE]; done) | (simp_all; done)), (by first | (simpa using hI.s4) | (simp [KE]; done) | (simp_all; done)), (by first | (simpa using hI.v0) | (simp [KE]; done) | (simp_all; done)), (by first | (simpa using hI.v1) | (simp [KE]; done) | (simp_all; done)), (by first | (simpa using hI.v2) | (simp [KE]; done) | (simp_all; done)), (by first | (simpa using hI.v3) | (simp [KE]; done) | (simp_all; done)), (by first | (simpa using hI.v4) | (simp [KE]; done) | (simp_all; done)), (by first | (simpa using hI.v5) | (simp [KE]; done) | (simp_all; done)), (by first | (simpa using hI.v6) | (simp [KE]; done) | (simp_all; done)), (by first | (simpa using hI.c0) | (simp [KE]; done) | (simp_all; done)), (by first | (simpa using hI.c5) | (simp [KE]; done) | (simp_all; done)), (by first | (simpa using hI.c6) | (simp [KE]; done) | (simp_all; done)), (by first | (simpa using hI.c7) | (simp [KE]; done) | (simp_all; done)), (by first | (simpa using hI.hp) | (simp [heap5, KE]; done) | (simp_all [heap5]; done))⟩⟩
    | 4, ho =>
      have ho := Option.some.inj ho
      subst ho
      simp [aev, cav, look, acallPure, abin, abinN, abinP, abinI, abinS, aun, aconv, afield, afieldAddr, aindexAddr, aindex, aslice, alow, ahigh, abuild, abuildGo, cellsOf, splice, fieldTy, alen, apick, amax, amin, aload, headV, aparts, abuildSlice, elParts, abytesStr, astore, amake, aappend, anew, arith, aresults, aresList, ares, spec0, spec1, spec2, spec3, spec4, eqCells, eqCell, hI.v1 (hd 1 (by simp)), hI.v2 (hd 2 (by simp)), hI.v3 (hd 3 (by simp)), K4, KE]
      exact ⟨o', ⟨(by first | (simpa using hI.s1) | (simp [KS]; done) | (simp_all; done)), (by first | (simpa using hI.s2) | (simp [KS]; done) | (simp_all; done)), (by first | (simpa using hI.s3) | (simp [KS]; done) | (simp_all; done)), (by first | (simpa using hI.s4) | (simp [KS]; done) | (simp_all; done)), (by first | (simpa using hI.v0) | (simp [KS]; done) | (simp_all; done)), (by first | (simpa using hI.v1) | (simp [KS]; done) | (simp_all; done)), (by first | (simpa using hI.v2) | (simp [KS]; done) | (simp_all; done)), (by first | (simpa using hI.v3) | (simp [KS]; done) | (simp_all; done)), (by first | (simpa using hI.v4) | (simp [KS]; done) | (simp_all; done)), (by first | (simpa using hI.v5) | (simp [KS]; done) | (simp_all; done)), (by first | (simpa using hI.v6) | (simp [KS]; done) | (simp_all; done)), (by first | (simpa using hI.c0) | (simp [KS]; done) | (simp_all; done)), (by first | (simpa using hI.c5) | (simp [KS]; done) | (simp_all; done)), (by first | (simpa using hI.c6) | (simp [KS]; done) | (simp_all; done)), (by first | (simpa using hI.c7) | (simp [KS]; done) | (simp_all; done)), (by first | (simpa using hI.hp) | (simp [heap5, KS]; done) | (simp_all [heap5]; done))⟩⟩
    | 5, ho =>
      have ho := Option.some.inj ho
      subst ho
      simp [aev, cav, look, acallPure, abin, abinN, abinP, abinI, abinS, aun, aconv, afield, afieldAddr, aindexAddr, aindex, aslice, alow, ahigh, abuild, abuildGo, cellsOf, splice, fieldTy, alen, apick, amax, amin, aload, headV, aparts, abuildSlice, elParts, abytesStr, astore, amake, aappend, anew, arith, aresults, aresList, ares, spec0, spec1, spec2, spec3, spec4, eqCells, eqCell, hI.v0 (hd 0 (by simp)), hI.v4 (hd 4 (by simp)), KS]
      exact ⟨o', ⟨(by first | (simpa using hI.s1) | (simp [KS]; done) | (simp_all; done)), (by first | (simpa using hI.s2) | (simp [KS]; done) | (simp_all; done)), (by first | (simpa using hI.s3) | (simp [KS]; done) | (simp_all; done)), (by first | (simpa using hI.s4) | (simp [KS]; done) | (simp_all; done)), (by first | (simpa using hI.v0) | (simp [KS]; done) | (simp_all; done)), (by first | (simpa using hI.v1) | (simp [KS]; done) | (simp_all; done)), (by first | (simpa using hI.v2) | (simp [KS]; done) | (simp_all; done)), (by first | (simpa using hI.v3) | (simp [KS]; done) | (simp_all; done)), (by first | (simpa using hI.v4) | (simp [KS]; done) | (simp_all; done)), (by first | (simpa using hI.v5) | (simp [KS]; done) | (simp_all; done)), (by first | (simpa using hI.v6) | (simp [KS]; done) | (simp_all; done)), (by first | (simpa using hI.c0) | (simp [KS]; done) | (simp_all; done)), (by first | (simpa using hI.c5) | (simp [KS]; done) | (simp_all; done)), (by first | (simpa using hI.c6) | (simp [KS]; done) | (simp_all; done)), (by first | (simpa using hI.c7) | (simp [KS]; done) | (simp_all; done)), (by first | (simpa using hI.hp) | (simp [heap5, KS]; done) | (simp_all [heap5]; done))⟩⟩
    | 6, ho =>
      have ho := Option.some.inj ho
      subst ho
      have n7 : L 7 = false := by cases h : L 7 <;> simp_all [hI.c7]
      cases l0 : L 0
      · have hH : H = [] := by simpa [heap5, hLi, l0, n7] using hI.hp
        have n5 : L 5 = false := by cases h : L 5 <;> simp_all [hI.c5]
        subst hH
        simp [aev, cav, look, acallPure, abin, abinN, abinP, abinI, abinS, aun, aconv, afield, afieldAddr, aindexAddr, aindex, aslice, alow, ahigh, abuild, abuildGo, cellsOf, splice, fieldTy, alen, apick, amax, amin, aload, headV, aparts, abuildSlice, elParts, abytesStr, astore, amake, aappend, anew, arith, aresults, aresList, ares, spec0, spec1, spec2, spec3, spec4, eqCells, eqCell, MB, ZP]
        exact ⟨false, ⟨(by first | (simpa using hI.s1) | (simp [l0, n7, hLi, MB, ZP, n5]; done) | (simp_all; done)), (by first | (simpa using hI.s2) | (simp [l0, n7, hLi, MB, ZP, n5]; done) | (simp_all; done)), (by first | (simpa using hI.s3) | (simp [l0, n7, hLi, MB, ZP, n5]; done) | (simp_all; done)), (by first | (simpa using hI.s4) | (simp [l0, n7, hLi, MB, ZP, n5]; done) | (simp_all; done)), (by first | (simpa using hI.v0) | (simp [l0, n7, hLi, MB, ZP, n5]; done) | (simp_all; done)), (by first | (simpa using hI.v1) | (simp [l0, n7, hLi, MB, ZP, n5]; done) | (simp_all; done)), (by first | (simpa using hI.v2) | (simp [l0, n7, hLi, MB, ZP, n5]; done) | (simp_all; done)), (by first | (simpa using hI.v3) | (simp [l0, n7, hLi, MB, ZP, n5]; done) | (simp_all; done)), (by first | (simpa using hI.v4) | (simp [l0, n7, hLi, MB, ZP, n5]; done) | (simp_all; done)), (by first | (simpa using hI.v5) | (simp [l0, n7, hLi, MB, ZP, n5]; done) | (simp_all; done)), (by first | (simpa using hI.v6) | (simp [l0, n7, hLi, MB, ZP, n5]; done) | (simp_all; done)), (by first | (simpa using hI.c0) | (simp [l0, n7, hLi, MB, ZP, n5]; done) | (simp_all; done)), (by first | (simpa using hI.c5) | (simp [l0, n7, hLi, MB, ZP, n5]; done) | (simp_all; done)), (by first | (simpa using hI.c6) | (simp [l0, n7, hLi, MB, ZP, n5]; done) | (simp_all; done)), (by first | (simpa using hI.c7) | (simp [l0, n7, hLi, MB, ZP, n5]; done) | (simp_all; done)), (by first | (simpa using hI.hp) | (simp [heap5, l0, n7, hLi, MB, ZP, n5]; done) | (simp_all [heap5]; done))⟩⟩
      · have e : o' = true := hI.c0 l0 hLi
        subst e
        have hH : H = [MB] := by simpa [heap5, hLi, l0, n7] using hI.hp
        subst hH
        simp [aev, cav, look, acallPure, abin, abinN, abinP, abinI, abinS, aun, aconv, afield, afieldAddr, aindexAddr, aindex, aslice, alow, ahigh, abuild, abuildGo, cellsOf, splice, fieldTy, alen, apick, amax, amin, aload, headV, aparts, abuildSlice, elParts, abytesStr, astore, amake, aappend, anew, arith, aresults, aresList, ares, spec0, spec1, spec2, spec3, spec4, eqCells, eqCell, MB, ZP]
        exact ⟨true, ⟨(by first | (simpa using hI.s1) | (simp [l0, n7, hLi, MB, ZP]; done) | (simp_all; done)), (by first | (simpa using hI.s2) | (simp [l0, n7, hLi, MB, ZP]; done) | (simp_all; done)), (by first | (simpa using hI.s3) | (simp [l0, n7, hLi, MB, ZP]; done) | (simp_all; done)), (by first | (simpa using hI.s4) | (simp [l0, n7, hLi, MB, ZP]; done) | (simp_all; done)), (by first | (simpa using hI.v0) | (simp [l0, n7, hLi, MB, ZP]; done) | (simp_all; done)), (by first | (simpa using hI.v1) | (simp [l0, n7, hLi, MB, ZP]; done) | (simp_all; done)), (by first | (simpa using hI.v2) | (simp [l0, n7, hLi, MB, ZP]; done) | (simp_all; done)), (by first | (simpa using hI.v3) | (simp [l0, n7, hLi, MB, ZP]; done) | (simp_all; done)), (by first | (simpa using hI.v4) | (simp [l0, n7, hLi, MB, ZP]; done) | (simp_all; done)), (by first | (simpa using hI.v5) | (simp [l0, n7, hLi, MB, ZP]; done) | (simp_all; done)), (by first | (simpa using hI.v6) | (simp [l0, n7, hLi, MB, ZP]; done) | (simp_all; done)), (by first | (simpa using hI.c0) | (simp [l0, n7, hLi, MB, ZP]; done) | (simp_all; done)), (by first | (simpa using hI.c5) | (simp [l0, n7, hLi, MB, ZP]; done) | (simp_all; done)), (by first | (simpa using hI.c6) | (simp [l0, n7, hLi, MB, ZP]; done) | (simp_all; done)), (by first | (simpa using hI.c7) | (simp [l0, n7, hLi, MB, ZP]; done) | (simp_all; done)), (by first | (simpa using hI.hp) | (simp [heap5, l0, n7, hLi, MB, ZP]; done) | (simp_all [heap5]; done))⟩⟩
    | 7, ho =>
      have ho := Option.some.inj ho
      subst ho
      have l0 : L 0 = true := hd 0 (by simp)
      have l6 : L 6 = true := hd 6 (by simp)
      cases o'
      · have hH : H = [ZP, MB] := by simpa [heap5, hLi, l0, l6] using hI.hp
        subst hH
        simp [aev, cav, look, acallPure, abin, abinN, abinP, abinI, abinS, aun, aconv, afield, afieldAddr, aindexAddr, aindex, aslice, alow, ahigh, abuild, abuildGo, cellsOf, splice, fieldTy, alen, apick, amax, amin, aload, headV, aparts, abuildSlice, elParts, abytesStr, astore, amake, aappend, anew, arith, aresults, aresList, ares, spec0, spec1, spec2, spec3, spec4, eqCells, eqCell, hI.v6 l6, hI.v5 (hd 5 (by simp)), MB, ZP, KS]
        exact ⟨false, ⟨(by first | (simpa using hI.s1) | (simp [l0, l6, MB, PF, KS]; done) | (simp_all; done)), (by first | (simpa using hI.s2) | (simp [l0, l6, MB, PF, KS]; done) | (simp_all; done)), (by first | (simpa using hI.s3) | (simp [l0, l6, MB, PF, KS]; done) | (simp_all; done)), (by first | (simpa using hI.s4) | (simp [l0, l6, MB, PF, KS]; done) | (simp_all; done)), (by first | (simpa using hI.v0) | (simp [l0, l6, MB, PF, KS]; done) | (simp_all; done)), (by first | (simpa using hI.v1) | (simp [l0, l6, MB, PF, KS]; done) | (simp_all; done)), (by first | (simpa using hI.v2) | (simp [l0, l6, MB, PF, KS]; done) | (simp_all; done)), (by first | (simpa using hI.v3) | (simp [l0, l6, MB, PF, KS]; done) | (simp_all; done)), (by first | (simpa using hI.v4) | (simp [l0, l6, MB, PF, KS]; done) | (simp_all; done)), (by first | (simpa using hI.v5) | (simp [l0, l6, MB, PF, KS]; done) | (simp_all; done)), (by first | (simpa using hI.v6) | (simp [l0, l6, MB, PF, KS]; done) | (simp_all; done)), (by first | (simpa using hI.c0) | (simp [l0, l6, MB, PF, KS]; done) | (simp_all; done)), (by first | (simpa using hI.c5) | (simp [l0, l6, MB, PF, KS]; done) | (simp_all; done)), (by first | (simpa using hI.c6) | (simp [l0, l6, MB, PF, KS]; done) | (simp_all; done)), (by first | (simpa using hI.c7) | (simp [l0, l6, MB, PF, KS]; done) | (simp_all; done)), (by first | (simpa using hI.hp) | (simp [heap5, l0, l6, MB, PF, KS]; done) | (simp_all [heap5]; done))⟩⟩
      · have hH : H = [MB, ZP] := by simpa [heap5, hLi, l0, l6] using hI.hp
        subst hH
        simp [aev, cav, look, acallPure, abin, abinN, abinP, abinI, abinS, aun, aconv, afield, afieldAddr, aindexAddr, aindex, aslice, alow, ahigh, abuild, abuildGo, cellsOf, splice, fieldTy, alen, apick, amax, amin, aload, headV, aparts, abuildSlice, elParts, abytesStr, astore, amake, aappend, anew, arith, aresults, aresList, ares, spec0, spec1, spec2, spec3, spec4, eqCells, eqCell, hI.v6 l6, hI.v5 (hd 5 (by simp)), MB, ZP, KS]
        exact ⟨true, ⟨(by first | (simpa using hI.s1) | (simp [l0, l6, MB, PF, KS]; done) | (simp_all; done)), (by first | (simpa using hI.s2) | (simp [l0, l6, MB, PF, KS]; done) | (simp_all; done)), (by first | (simpa using hI.s3) | (simp [l0, l6, MB, PF, KS]; done) | (simp_all; done)), (by first | (simpa using hI.s4) | (simp [l0, l6, MB, PF, KS]; done) | (simp_all; done)), (by first | (simpa using hI.v0) | (simp [l0, l6, MB, PF, KS]; done) | (simp_all; done)), (by first | (simpa using hI.v1) | (simp [l0, l6, MB, PF, KS]; done) | (simp_all; done)), (by first | (simpa using hI.v2) | (simp [l0, l6, MB, PF, KS]; done) | (simp_all; done)), (by first | (simpa using hI.v3) | (simp [l0, l6, MB, PF, KS]; done) | (simp_all; done)), (by first | (simpa using hI.v4) | (simp [l0, l6, MB, PF, KS]; done) | (simp_all; done)), (by first | (simpa using hI.v5) | (simp [l0, l6, MB, PF, KS]; done) | (simp_all; done)), (by first | (simpa using hI.v6) | (simp [l0, l6, MB, PF, KS]; done) | (simp_all; done)), (by first | (simpa using hI.c0) | (simp [l0, l6, MB, PF, KS]; done) | (simp_all; done)), (by first | (simpa using hI.c5) | (simp [l0, l6, MB, PF, KS]; done) | (simp_all; done)), (by first | (simpa using hI.c6) | (simp [l0, l6, MB, PF, KS]; done) | (simp_all; done)), (by first | (simpa using hI.c7) | (simp [l0, l6, MB, PF, KS]; done) | (simp_all; done)), (by first | (simpa using hI.hp) | (simp [heap5, l0, l6, MB, PF, KS]; done) | (simp_all [heap5]; done))⟩⟩
    | k + 8, ho => exact absurd ho (by simp [Tryz.f7])

theorem wk0 {N h0 : Nat} {C : Ctx} {ρ ρ' : List (Nat × AV)} {H : List Blk} (h : ∀ p ∈ ρ', getA ρ p.1 = p.2) (hm : h0 = 0) (hρ : ∀ p ∈ ρ', p.2.clean 0 = true) : Weak C N h0 ⟨ρ, H⟩ ⟨ρ', []⟩ := by
  subst hm
  exact weak_keep 0 h (by simp) hρ (by simp) (by simp)
set_option maxHeartbeats 16000000 in
theorem livesP : PureOK Tryz.prog (G m) 7 (spec0 (.bool true)) := by
  refine pure0W (C := CLv m) Tryz.func7 rfl rfl rfl ?_
  refine AW_seq (avc_sound (sigCLv m) (mixCLv m) _ (by kernel_rfl) ?_)
  simp [aev, cav, look, acallPure, abin, abinN, abinP, abinI, abinS, aun, aconv, afield, afieldAddr, aindexAddr, aindex, aslice, alow, ahigh, abuild, abuildGo, cellsOf, splice, fieldTy, alen, apick, amax, amin, aload, headV, aparts, abuildSlice, elParts, abytesStr, astore, amake, aappend, anew, arith, aresults, aresList, ares, spec0, spec1, spec2, spec3, spec4, eqCells, eqCell]
  refine AW_seq (avc_sound (sigCLv m) (mixCLv m) _ (by kernel_rfl) ?_)
  simp [aev, cav, look, acallPure, abin, abinN, abinP, abinI, abinS, aun, aconv, afield, afieldAddr, aindexAddr, aindex, aslice, alow, ahigh, abuild, abuildGo, cellsOf, splice, fieldTy, alen, apick, amax, amin, aload, headV, aparts, abuildSlice, elParts, abytesStr, astore, amake, aappend, anew, arith, aresults, aresList, ares, spec0, spec1, spec2, spec3, spec4, eqCells, eqCell]
  refine AW.weak ((weak_view 1).trans (wk0 (ρ' := [(1, .iptr K1)]) (by simp [K1]) rfl (by simp [K1, AV.clean, AV.clean1]))) ?_
  refine AW_seq (avc_sound (sigCLv m) (mixCLv m) _ (by kernel_rfl) ?_)
  simp [aev, cav, look, acallPure, abin, abinN, abinP, abinI, abinS, aun, aconv, afield, afieldAddr, aindexAddr, aindex, aslice, alow, ahigh, abuild, abuildGo, cellsOf, splice, fieldTy, alen, apick, amax, amin, aload, headV, aparts, abuildSlice, elParts, abytesStr, astore, amake, aappend, anew, arith, aresults, aresList, ares, spec0, spec1, spec2, spec3, spec4, eqCells, eqCell]
  refine AW.weak ((weak_view 2).trans (wk0 (ρ' := [(1, .iptr K1), (2, .iptr K2)]) (by simp [K2]) rfl (by simp [K1, K2, AV.clean, AV.clean1]))) ?_
  refine AW_seq (avc_sound (sigCLv m) (mixCLv m) _ (by kernel_rfl) ?_)
  simp [aev, cav, look, acallPure, abin, abinN, abinP, abinI, abinS, aun, aconv, afield, afieldAddr, aindexAddr, aindex, aslice, alow, ahigh, abuild, abuildGo, cellsOf, splice, fieldTy, alen, apick, amax, amin, aload, headV, aparts, abuildSlice, elParts, abytesStr, astore, amake, aappend, anew, arith, aresults, aresList, ares, spec0, spec1, spec2, spec3, spec4, eqCells, eqCell, K1]
  refine AW.weak ((weak_view 3).trans (wk0 (ρ' := [(1, .iptr K1), (2, .iptr K2), (3, .iptr K3)]) (by simp [K1, K3]) rfl (by simp [K1, K2, K3, AV.clean, AV.clean1]))) ?_
  refine AW_seq (avc_sound (sigCLv m) (mixCLv m) _ (by kernel_rfl) ?_)
  simp [aev, cav, look, acallPure, abin, abinN, abinP, abinI, abinS, aun, aconv, afield, afieldAddr, aindexAddr, aindex, aslice, alow, ahigh, abuild, abuildGo, cellsOf, splice, fieldTy, alen, apick, amax, amin, aload, headV, aparts, abuildSlice, elParts, abytesStr, astore, amake, aappend, anew, arith, aresults, aresList, ares, spec0, spec1, spec2, spec3, spec4, eqCells, eqCell]
  refine AW.weak ((weak_view 4).trans (wk0 (ρ' := [(1, .iptr K1), (2, .iptr K2), (3, .iptr K3), (4, .iptr K4)]) (by simp [K4]) rfl (by simp [K1, K2, K3, K4, AV.clean, AV.clean1]))) ?_
  refine AW_cut ⟨[(1, .iptr K1), (2, .iptr K2), (3, .iptr K3), (5, .iptr K5)], []⟩ (AW_region (sigCLv m) (mixCLv m) [[], [], [], [], [1, 2, 3], [0, 4], [], [6, 5, 0, 1, 2, 3, 4, 5, 6]] (by kernel_rfl) (by kernel_rfl) J5 ?_ step5 ?_ ?_) ?_
  · exact ⟨true, by constructor <;> simp [heap5]⟩
  · intro L st' ⟨o, hI⟩ hall
    refine ⟨rfl, ?_⟩
    obtain ⟨ρ, H⟩ := st'
    have hp := hI.hp
    simp only [heap5, hall 7 (by decide), if_true] at hp
    have e5 := hI.v6 (hall 6 (by decide))
    subst hp
    cases o
    · refine (weak_view 5).trans (wk0 (by simp [e5, hI.s1, hI.s2, hI.s3, PF, MB, KS, K5]) rfl (by simp [K1, K2, K3, K5, KS, AV.clean, AV.clean1]))
    · refine (weak_view 5).trans (wk0 (by simp [e5, hI.s1, hI.s2, hI.s3, PF, MB, KS, K5]) rfl (by simp [K1, K2, K3, K5, KS, AV.clean, AV.clean1]))
  · intro L L' st' h hI
    have : L = L' := funext h
    subst this
    exact hI
  refine AW_seq (avc_sound (sigCLv m) (mixCLv m) _ (by kernel_rfl) ?_)
  simp [aev, cav, look, acallPure, abin, abinN, abinP, abinI, abinS, aun, aconv, afield, afieldAddr, aindexAddr, aindex, aslice, alow, ahigh, abuild, abuildGo, cellsOf, splice, fieldTy, alen, apick, amax, amin, aload, headV, aparts, abuildSlice, elParts, abytesStr, astore, amake, aappend, anew, arith, aresults, aresList, ares, spec0, spec1, spec2, spec3, spec4, eqCells, eqCell]
  refine AW.weak ((weak_view 6).trans (wk0 (ρ' := [(1, .iptr K1), (2, .iptr K2), (3, .iptr K3), (5, .iptr K5), (6, .iptr K6)]) (by simp [K6]) rfl (by simp [K1, K2, K3, K5, K6, KS, AV.clean, AV.clean1]))) ?_
  refine AW_seq (avc_sound (sigCLv m) (mixCLv m) _ (by kernel_rfl) ?_)
  simp [aev, cav, look, acallPure, abin, abinN, abinP, abinI, abinS, aun, aconv, afield, afieldAddr, aindexAddr, aindex, aslice, alow, ahigh, abuild, abuildGo, cellsOf, splice, fieldTy, alen, apick, amax, amin, aload, headV, aparts, abuildSlice, elParts, abytesStr, astore, amake, aappend, anew, arith, aresults, aresList, ares, spec0, spec1, spec2, spec3, spec4, eqCells, eqCell, K2]
  refine AW.weak ((weak_view 7).trans (wk0 (ρ' := [(1, .iptr K1), (2, .iptr K2), (3, .iptr K3), (5, .iptr K5), (6, .iptr K6), (7, .iptr K7)]) (by simp [K2, K7]) rfl (by simp [K1, K2, K3, K5, K6, K7, KS, AV.clean, AV.clean1]))) ?_
  refine AW_seq (avc_sound (sigCLv m) (mixCLv m) _ (by kernel_rfl) ?_)
  simp [aev, cav, look, acallPure, abin, abinN, abinP, abinI, abinS, aun, aconv, afield, afieldAddr, aindexAddr, aindex, aslice, alow, ahigh, abuild, abuildGo, cellsOf, splice, fieldTy, alen, apick, amax, amin, aload, headV, aparts, abuildSlice, elParts, abytesStr, astore, amake, aappend, anew, arith, aresults, aresList, ares, spec0, spec1, spec2, spec3, spec4, eqCells, eqCell, K6, sQuery, dec_lit, x1, x2, x3, x4, x5, x6, x7, x8, x9, x10, x11, x12, x13, x14, x15, x16, x17, x18, x20, x19, w0, w1, w2, w3, w4, w5, w6, w7, w8, w9, w10, w11]
  refine AW.weak (wk0 (ρ' := [(1, .iptr K1), (2, .iptr K2), (3, .iptr K3), (5, .iptr K5), (6, .iptr K6), (7, .iptr K7), (8, .int .i64 0), (9, .int .i64 26)]) (by simp [K6]) rfl (by simp [K1, K2, K3, K5, K6, K7, KS, AV.clean, AV.clean1])) ?_
  refine AW_seq (avc_sound (sigCLv m) (mixCLv m) _ (by kernel_rfl) ?_)
  simp [aev, cav, look, acallPure, abin, abinN, abinP, abinI, abinS, aun, aconv, afield, afieldAddr, aindexAddr, aindex, aslice, alow, ahigh, abuild, abuildGo, cellsOf, splice, fieldTy, alen, apick, amax, amin, aload, headV, aparts, abuildSlice, elParts, abytesStr, astore, amake, aappend, anew, arith, aresults, aresList, ares, spec0, spec1, spec2, spec3, spec4, eqCells, eqCell, K6, K7, sQuery, dec_lit, x1, x2, x3, x4, x5, x6, x7, x8, x9, x10, x11, x12, x13, x14, x15, x16, x17, x18, x20, x19, w0, w1, w2, w3, w4, w5, w6, w7, w8, w9, w10, w11]
  refine AW.weak (wk0 (ρ' := [(1, .iptr K1), (2, .iptr K2), (3, .iptr K3), (5, .iptr K5), (6, .iptr K6), (7, .iptr K7), (8, .int .i64 0), (9, .int .i64 26), (10, .int .i64 0), (11, .int .i64 0)]) (by simp [K6, K7]) rfl (by simp [K1, K2, K3, K5, K6, K7, KS, AV.clean, AV.clean1])) ?_
  refine AW_seq (avc_sound (sigCLv m) (mixCLv m) _ (by kernel_rfl) ?_)
  simp [aev, cav, look, acallPure, abin, abinN, abinP, abinI, abinS, aun, aconv, afield, afieldAddr, aindexAddr, aindex, aslice, alow, ahigh, abuild, abuildGo, cellsOf, splice, fieldTy, alen, apick, amax, amin, aload, headV, aparts, abuildSlice, elParts, abytesStr, astore, amake, aappend, anew, arith, aresults, aresList, ares, spec0, spec1, spec2, spec3, spec4, eqCells, eqCell, sAr, dec_lit, show arLo ⟨#[99, 111, 97, 108, 101, 115, 99, 101]⟩ = 2 from x11, show arHi ⟨#[99, 111, 97, 108, 101, 115, 99, 101]⟩ = 4 from x12]
  refine AW.weak (wk0 (ρ' := [(1, .iptr K1), (2, .iptr K2), (3, .iptr K3), (5, .iptr K5), (6, .iptr K6), (7, .iptr K7), (8, .int .i64 0), (9, .int .i64 26), (10, .int .i64 0), (11, .int .i64 0), (12, .int .i64 2), (13, .int .i64 4)]) (by simp [K6, K7]) rfl (by simp [K1, K2, K3, K5, K6, K7, KS, AV.clean, AV.clean1])) ?_
  refine AW_seq (avc_sound (sigCLv m) (mixCLv m) _ (by kernel_rfl) ?_)
  simp [aev, cav, look, acallPure, abin, abinN, abinP, abinI, abinS, aun, aconv, afield, afieldAddr, aindexAddr, aindex, aslice, alow, ahigh, abuild, abuildGo, cellsOf, splice, fieldTy, alen, apick, amax, amin, aload, headV, aparts, abuildSlice, elParts, abytesStr, astore, amake, aappend, anew, arith, aresults, aresList, ares, spec0, spec1, spec2, spec3, spec4, eqCells, eqCell, K2]
  refine AW_seq (avc_sound (sigCLv m) (mixCLv m) _ (by kernel_rfl) ?_)
  simp [aev, cav, look, acallPure, abin, abinN, abinP, abinI, abinS, aun, aconv, afield, afieldAddr, aindexAddr, aindex, aslice, alow, ahigh, abuild, abuildGo, cellsOf, splice, fieldTy, alen, apick, amax, amin, aload, headV, aparts, abuildSlice, elParts, abytesStr, astore, amake, aappend, anew, arith, aresults, aresList, ares, spec0, spec1, spec2, spec3, spec4, eqCells, eqCell, K2]
  refine avc_sound (sigCLv m) (mixCLv m) _ (by kernel_rfl) ?_
  simp [aev, cav, look, acallPure, abin, abinN, abinP, abinI, abinS, aun, aconv, afield, afieldAddr, aindexAddr, aindex, aslice, alow, ahigh, abuild, abuildGo, cellsOf, splice, fieldTy, alen, apick, amax, amin, aload, headV, aparts, abuildSlice, elParts, abytesStr, astore, amake, aappend, anew, arith, aresults, aresList, ares, spec0, spec1, spec2, spec3, spec4, eqCells, eqCell, K1, K2, K3, K5, K6, K7, KS, dec_lit, sChk, sPathN, sPathC, nrm1, nrm2, sClause, sAgg, sHasA, sSzA, sUpg, x1, x2, x3, x4, x5, x6, x7, x8, x9, x10, x11, x12, x13, x14, x15, x16, x17, x18, x20, x19, w0, w1, w2, w3, w4, w5, w6, w7, w8, w9, w10, w11, mx2]
end
end Go.Proofs.YthcfnaglgoaikaaGreat
