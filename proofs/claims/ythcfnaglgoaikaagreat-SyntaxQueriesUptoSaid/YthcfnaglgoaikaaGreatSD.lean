/-
  layer 18: patterns, clauses and queries as plain values. Printed by gend.py.
-/
import Derived.Test.YthcfnaglgoaikaaGreatS1
namespace Go.Proofs.YthcfnaglgoaikaaGreat
open Go.RowKit
set_option linter.unusedSimpArgs false
set_option linter.unusedVariables false

theorem map_unc {α : Type} [Enc α] (l : List α) : (encRows l).map Enc.unc = l := by unfold encRows; simp only [List.map_map, Function.comp_def, Enc.unc_cells, List.map_id']
theorem expr_unc (e : Expr) : Enc.unc [.int .i64 e.op, .int .i64 e.v.kind, .int .i64 e.v.n, .int .i64 e.v.d, .str e.v.s, .slice 5 false (encRows e.v.l), .str e.name, .bool e.dist, .slice 9 false (encRows e.kids)] = e := by
  rw [← cells_expr]
  exact Enc.unc_cells e
structure PropPat where
  key : ByteArray
  e : Expr
instance : Inhabited PropPat := ⟨⟨ByteArray.empty, default⟩⟩
@[simp] theorem PropPat.eta (x : PropPat) : PropPat.mk x.key x.e = x := rfl
def PropPat.cells (x : PropPat) : List AV := [.str x.key, .int .i64 x.e.op, .int .i64 x.e.v.kind, .int .i64 x.e.v.n, .int .i64 x.e.v.d, .str x.e.v.s, .slice 5 false (encRows x.e.v.l), .str x.e.name, .bool x.e.dist, .slice 9 false (encRows x.e.kids)]
def PropPat.unc (c : List AV) : PropPat :=
  match c with
  | [.str a0, a1, a2, a3, a4, a5, a6, a7, a8, a9] => ⟨a0, (Enc.unc [a1, a2, a3, a4, a5, a6, a7, a8, a9])⟩
  | _ => default
theorem PropPat.unc_cells (x : PropPat) : PropPat.unc x.cells = x := by
  cases x
  simp only [PropPat.cells, PropPat.unc, map_unc, expr_unc]
instance : Enc PropPat where
  sz := 10
  cells := PropPat.cells
  enc x := .agg x.cells
  unc := PropPat.unc
  dec v := match v with | .agg c => PropPat.unc c | _ => default
  unc_cells := PropPat.unc_cells
  dec_enc x := PropPat.unc_cells x
@[simp] theorem sz_PropPat : Enc.sz PropPat = 10 := rfl
@[simp] theorem cells_PropPat (x : PropPat) : Enc.cells x = [.str x.key, .int .i64 x.e.op, .int .i64 x.e.v.kind, .int .i64 x.e.v.n, .int .i64 x.e.v.d, .str x.e.v.s, .slice 5 false (encRows x.e.v.l), .str x.e.name, .bool x.e.dist, .slice 9 false (encRows x.e.kids)] := rfl
@[simp] theorem enc_PropPat (x : PropPat) : Enc.enc x = .agg [.str x.key, .int .i64 x.e.op, .int .i64 x.e.v.kind, .int .i64 x.e.v.n, .int .i64 x.e.v.d, .str x.e.v.s, .slice 5 false (encRows x.e.v.l), .str x.e.name, .bool x.e.dist, .slice 9 false (encRows x.e.kids)] := rfl
@[simp] theorem unc_PropPat (a0 : ByteArray) (a1 a2 a3 a4 a5 a6 a7 a8 a9 : AV) : (Enc.unc [.str a0, a1, a2, a3, a4, a5, a6, a7, a8, a9] : PropPat) = ⟨a0, (Enc.unc [a1, a2, a3, a4, a5, a6, a7, a8, a9])⟩ := rfl
@[simp] theorem dec_PropPat (l : List AV) : (Enc.dec (.agg l) : PropPat) = Enc.unc l := rfl

structure NodePat where
  var : ByteArray
  labels : List ByteArray
  props : List PropPat
instance : Inhabited NodePat := ⟨⟨ByteArray.empty, [], []⟩⟩
@[simp] theorem NodePat.eta (x : NodePat) : NodePat.mk x.var x.labels x.props = x := rfl
def NodePat.cells (x : NodePat) : List AV := [.str x.var, .slice 1 false (encRows x.labels), .slice 10 false (encRows x.props)]
def NodePat.unc (c : List AV) : NodePat :=
  match c with
  | [.str a0, .slice _ _ a1, .slice _ _ a2] => ⟨a0, (a1.map Enc.unc), (a2.map Enc.unc)⟩
  | _ => default
theorem NodePat.unc_cells (x : NodePat) : NodePat.unc x.cells = x := by
  cases x
  simp only [NodePat.cells, NodePat.unc, map_unc, expr_unc]
instance : Enc NodePat where
  sz := 3
  cells := NodePat.cells
  enc x := .agg x.cells
  unc := NodePat.unc
  dec v := match v with | .agg c => NodePat.unc c | _ => default
  unc_cells := NodePat.unc_cells
  dec_enc x := NodePat.unc_cells x
@[simp] theorem sz_NodePat : Enc.sz NodePat = 3 := rfl
@[simp] theorem cells_NodePat (x : NodePat) : Enc.cells x = [.str x.var, .slice 1 false (encRows x.labels), .slice 10 false (encRows x.props)] := rfl
@[simp] theorem enc_NodePat (x : NodePat) : Enc.enc x = .agg [.str x.var, .slice 1 false (encRows x.labels), .slice 10 false (encRows x.props)] := rfl
@[simp] theorem unc_NodePat (a0 : ByteArray) (s1 : Nat) (f1 : Bool) (a1 : List (List AV)) (s2 : Nat) (f2 : Bool) (a2 : List (List AV)) : (Enc.unc [.str a0, .slice s1 f1 a1, .slice s2 f2 a2] : NodePat) = ⟨a0, (Enc.dec (.slice s1 f1 a1)), (Enc.dec (.slice s2 f2 a2))⟩ := rfl
@[simp] theorem dec_NodePat (l : List AV) : (Enc.dec (.agg l) : NodePat) = Enc.unc l := rfl

structure EdgePat where
  var : ByteArray
  types : List ByteArray
  dir : Int
  mode : Int
  lo : Int
  hi : Int
  props : List PropPat
instance : Inhabited EdgePat := ⟨⟨ByteArray.empty, [], 0, 0, 0, 0, []⟩⟩
@[simp] theorem EdgePat.eta (x : EdgePat) : EdgePat.mk x.var x.types x.dir x.mode x.lo x.hi x.props = x := rfl
def EdgePat.cells (x : EdgePat) : List AV := [.str x.var, .slice 1 false (encRows x.types), .int .i64 x.dir, .int .i64 x.mode, .int .i64 x.lo, .int .i64 x.hi, .slice 10 false (encRows x.props)]
def EdgePat.unc (c : List AV) : EdgePat :=
  match c with
  | [.str a0, .slice _ _ a1, .int _ a2, .int _ a3, .int _ a4, .int _ a5, .slice _ _ a6] => ⟨a0, (a1.map Enc.unc), a2, a3, a4, a5, (a6.map Enc.unc)⟩
  | _ => default
theorem EdgePat.unc_cells (x : EdgePat) : EdgePat.unc x.cells = x := by
  cases x
  simp only [EdgePat.cells, EdgePat.unc, map_unc, expr_unc]
instance : Enc EdgePat where
  sz := 7
  cells := EdgePat.cells
  enc x := .agg x.cells
  unc := EdgePat.unc
  dec v := match v with | .agg c => EdgePat.unc c | _ => default
  unc_cells := EdgePat.unc_cells
  dec_enc x := EdgePat.unc_cells x
@[simp] theorem sz_EdgePat : Enc.sz EdgePat = 7 := rfl
@[simp] theorem cells_EdgePat (x : EdgePat) : Enc.cells x = [.str x.var, .slice 1 false (encRows x.types), .int .i64 x.dir, .int .i64 x.mode, .int .i64 x.lo, .int .i64 x.hi, .slice 10 false (encRows x.props)] := rfl
@[simp] theorem enc_EdgePat (x : EdgePat) : Enc.enc x = .agg [.str x.var, .slice 1 false (encRows x.types), .int .i64 x.dir, .int .i64 x.mode, .int .i64 x.lo, .int .i64 x.hi, .slice 10 false (encRows x.props)] := rfl
@[simp] theorem unc_EdgePat (a0 : ByteArray) (s1 : Nat) (f1 : Bool) (a1 : List (List AV)) (k2 : IntKind) (a2 : Int) (k3 : IntKind) (a3 : Int) (k4 : IntKind) (a4 : Int) (k5 : IntKind) (a5 : Int) (s6 : Nat) (f6 : Bool) (a6 : List (List AV)) : (Enc.unc [.str a0, .slice s1 f1 a1, .int k2 a2, .int k3 a3, .int k4 a4, .int k5 a5, .slice s6 f6 a6] : EdgePat) = ⟨a0, (Enc.dec (.slice s1 f1 a1)), a2, a3, a4, a5, (Enc.dec (.slice s6 f6 a6))⟩ := rfl
@[simp] theorem dec_EdgePat (l : List AV) : (Enc.dec (.agg l) : EdgePat) = Enc.unc l := rfl

structure PathPat where
  var : ByteArray
  nodes : List NodePat
  edges : List EdgePat
instance : Inhabited PathPat := ⟨⟨ByteArray.empty, [], []⟩⟩
@[simp] theorem PathPat.eta (x : PathPat) : PathPat.mk x.var x.nodes x.edges = x := rfl
def PathPat.cells (x : PathPat) : List AV := [.str x.var, .slice 3 false (encRows x.nodes), .slice 7 false (encRows x.edges)]
def PathPat.unc (c : List AV) : PathPat :=
  match c with
  | [.str a0, .slice _ _ a1, .slice _ _ a2] => ⟨a0, (a1.map Enc.unc), (a2.map Enc.unc)⟩
  | _ => default
theorem PathPat.unc_cells (x : PathPat) : PathPat.unc x.cells = x := by
  cases x
  simp only [PathPat.cells, PathPat.unc, map_unc, expr_unc]
instance : Enc PathPat where
  sz := 3
  cells := PathPat.cells
  enc x := .agg x.cells
  unc := PathPat.unc
  dec v := match v with | .agg c => PathPat.unc c | _ => default
  unc_cells := PathPat.unc_cells
  dec_enc x := PathPat.unc_cells x
@[simp] theorem sz_PathPat : Enc.sz PathPat = 3 := rfl
@[simp] theorem cells_PathPat (x : PathPat) : Enc.cells x = [.str x.var, .slice 3 false (encRows x.nodes), .slice 7 false (encRows x.edges)] := rfl
@[simp] theorem enc_PathPat (x : PathPat) : Enc.enc x = .agg [.str x.var, .slice 3 false (encRows x.nodes), .slice 7 false (encRows x.edges)] := rfl
@[simp] theorem unc_PathPat (a0 : ByteArray) (s1 : Nat) (f1 : Bool) (a1 : List (List AV)) (s2 : Nat) (f2 : Bool) (a2 : List (List AV)) : (Enc.unc [.str a0, .slice s1 f1 a1, .slice s2 f2 a2] : PathPat) = ⟨a0, (Enc.dec (.slice s1 f1 a1)), (Enc.dec (.slice s2 f2 a2))⟩ := rfl
@[simp] theorem dec_PathPat (l : List AV) : (Enc.dec (.agg l) : PathPat) = Enc.unc l := rfl

structure Item where
  e : Expr
  as_ : ByteArray
instance : Inhabited Item := ⟨⟨default, ByteArray.empty⟩⟩
@[simp] theorem Item.eta (x : Item) : Item.mk x.e x.as_ = x := rfl
def Item.cells (x : Item) : List AV := [.int .i64 x.e.op, .int .i64 x.e.v.kind, .int .i64 x.e.v.n, .int .i64 x.e.v.d, .str x.e.v.s, .slice 5 false (encRows x.e.v.l), .str x.e.name, .bool x.e.dist, .slice 9 false (encRows x.e.kids), .str x.as_]
def Item.unc (c : List AV) : Item :=
  match c with
  | [a0, a1, a2, a3, a4, a5, a6, a7, a8, .str a9] => ⟨(Enc.unc [a0, a1, a2, a3, a4, a5, a6, a7, a8]), a9⟩
  | _ => default
theorem Item.unc_cells (x : Item) : Item.unc x.cells = x := by
  cases x
  simp only [Item.cells, Item.unc, map_unc, expr_unc]
instance : Enc Item where
  sz := 10
  cells := Item.cells
  enc x := .agg x.cells
  unc := Item.unc
  dec v := match v with | .agg c => Item.unc c | _ => default
  unc_cells := Item.unc_cells
  dec_enc x := Item.unc_cells x
@[simp] theorem sz_Item : Enc.sz Item = 10 := rfl
@[simp] theorem cells_Item (x : Item) : Enc.cells x = [.int .i64 x.e.op, .int .i64 x.e.v.kind, .int .i64 x.e.v.n, .int .i64 x.e.v.d, .str x.e.v.s, .slice 5 false (encRows x.e.v.l), .str x.e.name, .bool x.e.dist, .slice 9 false (encRows x.e.kids), .str x.as_] := rfl
@[simp] theorem enc_Item (x : Item) : Enc.enc x = .agg [.int .i64 x.e.op, .int .i64 x.e.v.kind, .int .i64 x.e.v.n, .int .i64 x.e.v.d, .str x.e.v.s, .slice 5 false (encRows x.e.v.l), .str x.e.name, .bool x.e.dist, .slice 9 false (encRows x.e.kids), .str x.as_] := rfl
@[simp] theorem unc_Item (a0 a1 a2 a3 a4 a5 a6 a7 a8 : AV) (a9 : ByteArray) : (Enc.unc [a0, a1, a2, a3, a4, a5, a6, a7, a8, .str a9] : Item) = ⟨(Enc.unc [a0, a1, a2, a3, a4, a5, a6, a7, a8]), a9⟩ := rfl
@[simp] theorem dec_Item (l : List AV) : (Enc.dec (.agg l) : Item) = Enc.unc l := rfl

structure SortK where
  e : Expr
  desc : Bool
instance : Inhabited SortK := ⟨⟨default, false⟩⟩
@[simp] theorem SortK.eta (x : SortK) : SortK.mk x.e x.desc = x := rfl
def SortK.cells (x : SortK) : List AV := [.int .i64 x.e.op, .int .i64 x.e.v.kind, .int .i64 x.e.v.n, .int .i64 x.e.v.d, .str x.e.v.s, .slice 5 false (encRows x.e.v.l), .str x.e.name, .bool x.e.dist, .slice 9 false (encRows x.e.kids), .bool x.desc]
def SortK.unc (c : List AV) : SortK :=
  match c with
  | [a0, a1, a2, a3, a4, a5, a6, a7, a8, .bool a9] => ⟨(Enc.unc [a0, a1, a2, a3, a4, a5, a6, a7, a8]), a9⟩
  | _ => default
theorem SortK.unc_cells (x : SortK) : SortK.unc x.cells = x := by
  cases x
  simp only [SortK.cells, SortK.unc, map_unc, expr_unc]
instance : Enc SortK where
  sz := 10
  cells := SortK.cells
  enc x := .agg x.cells
  unc := SortK.unc
  dec v := match v with | .agg c => SortK.unc c | _ => default
  unc_cells := SortK.unc_cells
  dec_enc x := SortK.unc_cells x
@[simp] theorem sz_SortK : Enc.sz SortK = 10 := rfl
@[simp] theorem cells_SortK (x : SortK) : Enc.cells x = [.int .i64 x.e.op, .int .i64 x.e.v.kind, .int .i64 x.e.v.n, .int .i64 x.e.v.d, .str x.e.v.s, .slice 5 false (encRows x.e.v.l), .str x.e.name, .bool x.e.dist, .slice 9 false (encRows x.e.kids), .bool x.desc] := rfl
@[simp] theorem enc_SortK (x : SortK) : Enc.enc x = .agg [.int .i64 x.e.op, .int .i64 x.e.v.kind, .int .i64 x.e.v.n, .int .i64 x.e.v.d, .str x.e.v.s, .slice 5 false (encRows x.e.v.l), .str x.e.name, .bool x.e.dist, .slice 9 false (encRows x.e.kids), .bool x.desc] := rfl
@[simp] theorem unc_SortK (a0 a1 a2 a3 a4 a5 a6 a7 a8 : AV) (a9 : Bool) : (Enc.unc [a0, a1, a2, a3, a4, a5, a6, a7, a8, .bool a9] : SortK) = ⟨(Enc.unc [a0, a1, a2, a3, a4, a5, a6, a7, a8]), a9⟩ := rfl
@[simp] theorem dec_SortK (l : List AV) : (Enc.dec (.agg l) : SortK) = Enc.unc l := rfl

structure SetI where
  var : ByteArray
  key : ByteArray
  label : ByteArray
  off : Bool
  e : Expr
instance : Inhabited SetI := ⟨⟨ByteArray.empty, ByteArray.empty, ByteArray.empty, false, default⟩⟩
@[simp] theorem SetI.eta (x : SetI) : SetI.mk x.var x.key x.label x.off x.e = x := rfl
def SetI.cells (x : SetI) : List AV := [.str x.var, .str x.key, .str x.label, .bool x.off, .int .i64 x.e.op, .int .i64 x.e.v.kind, .int .i64 x.e.v.n, .int .i64 x.e.v.d, .str x.e.v.s, .slice 5 false (encRows x.e.v.l), .str x.e.name, .bool x.e.dist, .slice 9 false (encRows x.e.kids)]
def SetI.unc (c : List AV) : SetI :=
  match c with
  | [.str a0, .str a1, .str a2, .bool a3, a4, a5, a6, a7, a8, a9, a10, a11, a12] => ⟨a0, a1, a2, a3, (Enc.unc [a4, a5, a6, a7, a8, a9, a10, a11, a12])⟩
  | _ => default
theorem SetI.unc_cells (x : SetI) : SetI.unc x.cells = x := by
  cases x
  simp only [SetI.cells, SetI.unc, map_unc, expr_unc]
instance : Enc SetI where
  sz := 13
  cells := SetI.cells
  enc x := .agg x.cells
  unc := SetI.unc
  dec v := match v with | .agg c => SetI.unc c | _ => default
  unc_cells := SetI.unc_cells
  dec_enc x := SetI.unc_cells x
@[simp] theorem sz_SetI : Enc.sz SetI = 13 := rfl
@[simp] theorem cells_SetI (x : SetI) : Enc.cells x = [.str x.var, .str x.key, .str x.label, .bool x.off, .int .i64 x.e.op, .int .i64 x.e.v.kind, .int .i64 x.e.v.n, .int .i64 x.e.v.d, .str x.e.v.s, .slice 5 false (encRows x.e.v.l), .str x.e.name, .bool x.e.dist, .slice 9 false (encRows x.e.kids)] := rfl
@[simp] theorem enc_SetI (x : SetI) : Enc.enc x = .agg [.str x.var, .str x.key, .str x.label, .bool x.off, .int .i64 x.e.op, .int .i64 x.e.v.kind, .int .i64 x.e.v.n, .int .i64 x.e.v.d, .str x.e.v.s, .slice 5 false (encRows x.e.v.l), .str x.e.name, .bool x.e.dist, .slice 9 false (encRows x.e.kids)] := rfl
@[simp] theorem unc_SetI (a0 : ByteArray) (a1 : ByteArray) (a2 : ByteArray) (a3 : Bool) (a4 a5 a6 a7 a8 a9 a10 a11 a12 : AV) : (Enc.unc [.str a0, .str a1, .str a2, .bool a3, a4, a5, a6, a7, a8, a9, a10, a11, a12] : SetI) = ⟨a0, a1, a2, a3, (Enc.unc [a4, a5, a6, a7, a8, a9, a10, a11, a12])⟩ := rfl
@[simp] theorem dec_SetI (l : List AV) : (Enc.dec (.agg l) : SetI) = Enc.unc l := rfl

structure Clause where
  kind : Int
  opt : Bool
  dist : Bool
  paths : List PathPat
  wh : List Expr
  e : Expr
  name : ByteArray
  items : List Item
  order : List SortK
  skip : Int
  limit : Int
  sets : List SetI
  names : List ByteArray
instance : Inhabited Clause := ⟨⟨0, false, false, [], [], default, ByteArray.empty, [], [], 0, 0, [], []⟩⟩
@[simp] theorem Clause.eta (x : Clause) : Clause.mk x.kind x.opt x.dist x.paths x.wh x.e x.name x.items x.order x.skip x.limit x.sets x.names = x := rfl
def Clause.cells (x : Clause) : List AV := [.int .i64 x.kind, .bool x.opt, .bool x.dist, .slice 3 false (encRows x.paths), .slice 9 false (encRows x.wh), .int .i64 x.e.op, .int .i64 x.e.v.kind, .int .i64 x.e.v.n, .int .i64 x.e.v.d, .str x.e.v.s, .slice 5 false (encRows x.e.v.l), .str x.e.name, .bool x.e.dist, .slice 9 false (encRows x.e.kids), .str x.name, .slice 10 false (encRows x.items), .slice 10 false (encRows x.order), .int .i64 x.skip, .int .i64 x.limit, .slice 13 false (encRows x.sets), .slice 1 false (encRows x.names)]
def Clause.unc (c : List AV) : Clause :=
  match c with
  | [.int _ a0, .bool a1, .bool a2, .slice _ _ a3, .slice _ _ a4, a5, a6, a7, a8, a9, a10, a11, a12, a13, .str a14, .slice _ _ a15, .slice _ _ a16, .int _ a17, .int _ a18, .slice _ _ a19, .slice _ _ a20] => ⟨a0, a1, a2, (a3.map Enc.unc), (a4.map Enc.unc), (Enc.unc [a5, a6, a7, a8, a9, a10, a11, a12, a13]), a14, (a15.map Enc.unc), (a16.map Enc.unc), a17, a18, (a19.map Enc.unc), (a20.map Enc.unc)⟩
  | _ => default
theorem Clause.unc_cells (x : Clause) : Clause.unc x.cells = x := by
  cases x
  simp only [Clause.cells, Clause.unc, map_unc, expr_unc]
instance : Enc Clause where
  sz := 21
  cells := Clause.cells
  enc x := .agg x.cells
  unc := Clause.unc
  dec v := match v with | .agg c => Clause.unc c | _ => default
  unc_cells := Clause.unc_cells
  dec_enc x := Clause.unc_cells x
@[simp] theorem sz_Clause : Enc.sz Clause = 21 := rfl
@[simp] theorem cells_Clause (x : Clause) : Enc.cells x = [.int .i64 x.kind, .bool x.opt, .bool x.dist, .slice 3 false (encRows x.paths), .slice 9 false (encRows x.wh), .int .i64 x.e.op, .int .i64 x.e.v.kind, .int .i64 x.e.v.n, .int .i64 x.e.v.d, .str x.e.v.s, .slice 5 false (encRows x.e.v.l), .str x.e.name, .bool x.e.dist, .slice 9 false (encRows x.e.kids), .str x.name, .slice 10 false (encRows x.items), .slice 10 false (encRows x.order), .int .i64 x.skip, .int .i64 x.limit, .slice 13 false (encRows x.sets), .slice 1 false (encRows x.names)] := rfl
@[simp] theorem enc_Clause (x : Clause) : Enc.enc x = .agg [.int .i64 x.kind, .bool x.opt, .bool x.dist, .slice 3 false (encRows x.paths), .slice 9 false (encRows x.wh), .int .i64 x.e.op, .int .i64 x.e.v.kind, .int .i64 x.e.v.n, .int .i64 x.e.v.d, .str x.e.v.s, .slice 5 false (encRows x.e.v.l), .str x.e.name, .bool x.e.dist, .slice 9 false (encRows x.e.kids), .str x.name, .slice 10 false (encRows x.items), .slice 10 false (encRows x.order), .int .i64 x.skip, .int .i64 x.limit, .slice 13 false (encRows x.sets), .slice 1 false (encRows x.names)] := rfl
@[simp] theorem unc_Clause (k0 : IntKind) (a0 : Int) (a1 : Bool) (a2 : Bool) (s3 : Nat) (f3 : Bool) (a3 : List (List AV)) (s4 : Nat) (f4 : Bool) (a4 : List (List AV)) (a5 a6 a7 a8 a9 a10 a11 a12 a13 : AV) (a14 : ByteArray) (s15 : Nat) (f15 : Bool) (a15 : List (List AV)) (s16 : Nat) (f16 : Bool) (a16 : List (List AV)) (k17 : IntKind) (a17 : Int) (k18 : IntKind) (a18 : Int) (s19 : Nat) (f19 : Bool) (a19 : List (List AV)) (s20 : Nat) (f20 : Bool) (a20 : List (List AV)) : (Enc.unc [.int k0 a0, .bool a1, .bool a2, .slice s3 f3 a3, .slice s4 f4 a4, a5, a6, a7, a8, a9, a10, a11, a12, a13, .str a14, .slice s15 f15 a15, .slice s16 f16 a16, .int k17 a17, .int k18 a18, .slice s19 f19 a19, .slice s20 f20 a20] : Clause) = ⟨a0, a1, a2, (Enc.dec (.slice s3 f3 a3)), (Enc.dec (.slice s4 f4 a4)), (Enc.unc [a5, a6, a7, a8, a9, a10, a11, a12, a13]), a14, (Enc.dec (.slice s15 f15 a15)), (Enc.dec (.slice s16 f16 a16)), a17, a18, (Enc.dec (.slice s19 f19 a19)), (Enc.dec (.slice s20 f20 a20))⟩ := rfl
@[simp] theorem dec_Clause (l : List AV) : (Enc.dec (.agg l) : Clause) = Enc.unc l := rfl

structure Query where
  clauses : List Clause
instance : Inhabited Query := ⟨⟨[]⟩⟩
@[simp] theorem Query.eta (x : Query) : Query.mk x.clauses = x := rfl
def Query.cells (x : Query) : List AV := [.slice 21 false (encRows x.clauses)]
def Query.unc (c : List AV) : Query :=
  match c with
  | [.slice _ _ a0] => ⟨(a0.map Enc.unc)⟩
  | _ => default
theorem Query.unc_cells (x : Query) : Query.unc x.cells = x := by
  cases x
  simp only [Query.cells, Query.unc, map_unc, expr_unc]
instance : Enc Query where
  sz := 1
  cells := Query.cells
  enc x := .agg x.cells
  unc := Query.unc
  dec v := match v with | .agg c => Query.unc c | _ => default
  unc_cells := Query.unc_cells
  dec_enc x := Query.unc_cells x
@[simp] theorem sz_Query : Enc.sz Query = 1 := rfl
@[simp] theorem cells_Query (x : Query) : Enc.cells x = [.slice 21 false (encRows x.clauses)] := rfl
@[simp] theorem enc_Query (x : Query) : Enc.enc x = .agg [.slice 21 false (encRows x.clauses)] := rfl
@[simp] theorem unc_Query (s0 : Nat) (f0 : Bool) (a0 : List (List AV)) : (Enc.unc [.slice s0 f0 a0] : Query) = ⟨(Enc.dec (.slice s0 f0 a0))⟩ := rfl
@[simp] theorem dec_Query (l : List AV) : (Enc.dec (.agg l) : Query) = Enc.unc l := rfl

end Go.Proofs.YthcfnaglgoaikaaGreat
