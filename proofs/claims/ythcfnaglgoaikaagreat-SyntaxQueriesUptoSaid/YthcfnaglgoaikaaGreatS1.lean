/-
  layer 18: the data of queries as plain values, and what they are as cells.
-/
import Derived.Test.YthcfnaglgoaikaaGreatAmE
namespace Go.Proofs.YthcfnaglgoaikaaGreat
open Go.RowKit
set_option linter.unusedSimpArgs false
set_option linter.unusedVariables false

inductive Val where
  | mk (kind n d : Int) (s : ByteArray) (l : List Val)
namespace Val
def kind : Val → Int | mk k _ _ _ _ => k
def n : Val → Int | mk _ n _ _ _ => n
def d : Val → Int | mk _ _ d _ _ => d
def s : Val → ByteArray | mk _ _ _ s _ => s
def l : Val → List Val | mk _ _ _ _ l => l
@[simp] theorem eta (v : Val) : Val.mk v.kind v.n v.d v.s v.l = v := by cases v; rfl
@[simp] theorem kind_mk (k n d : Int) (s : ByteArray) (l : List Val) : (mk k n d s l).kind = k := rfl
@[simp] theorem n_mk (k n d : Int) (s : ByteArray) (l : List Val) : (mk k n d s l).n = n := rfl
@[simp] theorem d_mk (k n d : Int) (s : ByteArray) (l : List Val) : (mk k n d s l).d = d := rfl
@[simp] theorem s_mk (k n d : Int) (s : ByteArray) (l : List Val) : (mk k n d s l).s = s := rfl
@[simp] theorem l_mk (k n d : Int) (s : ByteArray) (l : List Val) : (mk k n d s l).l = l := rfl
mutual
def cellsV : Val → List AV
  | mk k n d s l => [.int .i64 k, .int .i64 n, .int .i64 d, .str s, .slice 5 false (cellsL l)]
def cellsL : List Val → List (List AV)
  | [] => []
  | v :: r => cellsV v :: cellsL r
end
theorem cellsL_map : ∀ l, cellsL l = l.map cellsV
  | [] => rfl
  | v :: r => by rw [cellsL, cellsL_map r]; rfl
def unc (c : List AV) : Val :=
  match c with
  | [.int _ k, .int _ n, .int _ d, .str s, .slice _ _ rows] => mk k n d s (rows.attach.map fun r => unc r.1)
  | _ => mk 0 0 0 ByteArray.empty []
termination_by SizeOf.sizeOf c
decreasing_by
  have := List.sizeOf_lt_of_mem r.2
  simp
  omega
theorem unc_mk (a b c e : IntKind) (k n d : Int) (s : ByteArray) (sz : Nat) (f : Bool) (rows : List (List AV)) : unc [.int a k, .int b n, .int c d, .str s, .slice sz f rows] = mk k n d s (rows.map unc) := by
  rw [unc]
  simp
mutual
theorem unc_cells : ∀ v : Val, unc (cellsV v) = v
  | mk k n d s l => by rw [cellsV, unc_mk .i64 .i64 .i64 .i64, unc_cellsL l]
theorem unc_cellsL : ∀ l : List Val, (cellsL l).map unc = l
  | [] => rfl
  | v :: r => by rw [cellsL, List.map_cons, unc_cells v, unc_cellsL r]
end
end Val
instance : Inhabited Val := ⟨.mk 0 0 0 ByteArray.empty []⟩
instance : Enc Val where
  sz := 5
  cells := Val.cellsV
  enc v := .agg (Val.cellsV v)
  unc := Val.unc
  dec v := match v with | .agg c => Val.unc c | _ => default
  unc_cells := Val.unc_cells
  dec_enc v := Val.unc_cells v
@[simp] theorem sz_val : Enc.sz Val = 5 := rfl
@[simp] theorem cells_val (v : Val) : Enc.cells v = [.int .i64 v.kind, .int .i64 v.n, .int .i64 v.d, .str v.s, .slice 5 false (encRows v.l)] := by
  cases v
  show Val.cellsV _ = _
  rw [Val.cellsV, Val.cellsL_map]
  rfl
@[simp] theorem enc_val (v : Val) : Enc.enc v = .agg [.int .i64 v.kind, .int .i64 v.n, .int .i64 v.d, .str v.s, .slice 5 false (encRows v.l)] := by rw [← cells_val]; rfl
@[simp] theorem unc_val (a b c : IntKind) (k n d : Int) (s : ByteArray) (sz : Nat) (f : Bool) (rows : List (List AV)) : (Enc.unc [.int a k, .int b n, .int c d, .str s, .slice sz f rows] : Val) = .mk k n d s (Enc.dec (.slice sz f rows)) := Val.unc_mk a b c .i64 k n d s sz f rows
@[simp] theorem dec_val (l : List AV) : (Enc.dec (.agg l) : Val) = Enc.unc l := rfl

inductive Expr where
  | mk (op : Int) (v : Val) (name : ByteArray) (dist : Bool) (kids : List Expr)
namespace Expr
def op : Expr → Int | mk o _ _ _ _ => o
def v : Expr → Val | mk _ v _ _ _ => v
def name : Expr → ByteArray | mk _ _ n _ _ => n
def dist : Expr → Bool | mk _ _ _ d _ => d
def kids : Expr → List Expr | mk _ _ _ _ k => k
@[simp] theorem op_mk (o : Int) (v : Val) (n : ByteArray) (d : Bool) (k : List Expr) : (mk o v n d k).op = o := rfl
@[simp] theorem v_mk (o : Int) (v : Val) (n : ByteArray) (d : Bool) (k : List Expr) : (mk o v n d k).v = v := rfl
@[simp] theorem name_mk (o : Int) (v : Val) (n : ByteArray) (d : Bool) (k : List Expr) : (mk o v n d k).name = n := rfl
@[simp] theorem dist_mk (o : Int) (v : Val) (n : ByteArray) (d : Bool) (k : List Expr) : (mk o v n d k).dist = d := rfl
@[simp] theorem kids_mk (o : Int) (v : Val) (n : ByteArray) (d : Bool) (k : List Expr) : (mk o v n d k).kids = k := rfl
@[simp] theorem eta (e : Expr) : Expr.mk e.op e.v e.name e.dist e.kids = e := by cases e; rfl
mutual
def cellsE : Expr → List AV
  | mk o v n d k => .int .i64 o :: (Val.cellsV v ++ [.str n, .bool d, .slice 9 false (cellsL k)])
def cellsL : List Expr → List (List AV)
  | [] => []
  | e :: r => cellsE e :: cellsL r
end
theorem cellsL_map : ∀ l, cellsL l = l.map cellsE
  | [] => rfl
  | v :: r => by rw [cellsL, cellsL_map r]; rfl
def unc (c : List AV) : Expr :=
  match c with
  | [.int _ o, a, b, c, d, e, .str n, .bool x, .slice _ _ rows] => mk o (Val.unc [a, b, c, d, e]) n x (rows.attach.map fun r => unc r.1)
  | _ => mk 0 default ByteArray.empty false []
termination_by SizeOf.sizeOf c
decreasing_by
  have := List.sizeOf_lt_of_mem r.2
  simp
  omega
theorem unc_mk (i : IntKind) (o : Int) (a b c d e : AV) (n : ByteArray) (x : Bool) (sz : Nat) (f : Bool) (rows : List (List AV)) : unc [.int i o, a, b, c, d, e, .str n, .bool x, .slice sz f rows] = mk o (Val.unc [a, b, c, d, e]) n x (rows.map unc) := by
  rw [unc]
  simp
mutual
theorem unc_cells : ∀ e : Expr, unc (cellsE e) = e
  | mk o v n d k => by
    have h := Val.unc_cells v
    cases v
    rw [Val.cellsV] at h
    rw [cellsE, Val.cellsV]
    simp only [List.cons_append, List.nil_append]
    rw [unc_mk, unc_cellsL k, h]
theorem unc_cellsL : ∀ l : List Expr, (cellsL l).map unc = l
  | [] => rfl
  | v :: r => by rw [cellsL, List.map_cons, unc_cells v, unc_cellsL r]
end
end Expr
instance : Inhabited Expr := ⟨.mk 0 default ByteArray.empty false []⟩
instance : Enc Expr where
  sz := 9
  cells := Expr.cellsE
  enc v := .agg (Expr.cellsE v)
  unc := Expr.unc
  dec v := match v with | .agg c => Expr.unc c | _ => default
  unc_cells := Expr.unc_cells
  dec_enc v := Expr.unc_cells v
@[simp] theorem sz_expr : Enc.sz Expr = 9 := rfl
@[simp] theorem cells_expr (e : Expr) : Enc.cells e = [.int .i64 e.op, .int .i64 e.v.kind, .int .i64 e.v.n, .int .i64 e.v.d, .str e.v.s, .slice 5 false (encRows e.v.l), .str e.name, .bool e.dist, .slice 9 false (encRows e.kids)] := by
  cases e with
  | mk o v n d k =>
    show Expr.cellsE _ = _
    rw [Expr.cellsE, Expr.cellsL_map, show Val.cellsV v = Enc.cells v from rfl, cells_val]
    rfl
@[simp] theorem enc_expr (e : Expr) : Enc.enc e = .agg [.int .i64 e.op, .int .i64 e.v.kind, .int .i64 e.v.n, .int .i64 e.v.d, .str e.v.s, .slice 5 false (encRows e.v.l), .str e.name, .bool e.dist, .slice 9 false (encRows e.kids)] := by rw [← cells_expr]; rfl
@[simp] theorem unc_expr (i : IntKind) (o : Int) (a b c d e : AV) (n : ByteArray) (x : Bool) (sz : Nat) (f : Bool) (rows : List (List AV)) : (Enc.unc [.int i o, a, b, c, d, e, .str n, .bool x, .slice sz f rows] : Expr) = .mk o (Enc.unc [a, b, c, d, e]) n x (Enc.dec (.slice sz f rows)) := Expr.unc_mk i o a b c d e n x sz f rows
@[simp] theorem dec_expr (l : List AV) : (Enc.dec (.agg l) : Expr) = Enc.unc l := rfl
end Go.Proofs.YthcfnaglgoaikaaGreat
