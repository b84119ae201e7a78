/-
  trie: tries, cursors and relations as plain values. Printed by gent.py.
-/
import Derived.Test.YtkonafdbfciikaaAmE
namespace Go.Proofs.Ytkonafdbfciikaa
open Go.RowKit
set_option linter.unusedSimpArgs false
set_option linter.unusedVariables false

theorem map_unc {α : Type} [Enc α] (l : List α) : (encRows l).map Enc.unc = l := by unfold encRows; simp only [List.map_map, Function.comp_def, Enc.unc_cells, List.map_id']
structure Level where
  keys : List (Int)
  first : List (Int)
instance : Inhabited Level := ⟨⟨[], []⟩⟩
@[simp] theorem Level.eta (x : Level) : Level.mk x.keys x.first = x := rfl
def Level.cells (x : Level) : List AV := [.slice 1 false (encRows x.keys), .slice 1 false (encRows x.first)]
def Level.unc (c : List AV) : Level :=
  match c with
  | [.slice _ _ a0, .slice _ _ a1] => ⟨(a0.map Enc.unc), (a1.map Enc.unc)⟩
  | _ => default
theorem Level.unc_cells (x : Level) : Level.unc x.cells = x := by
  cases x
  simp only [Level.cells, Level.unc, map_unc]
instance : Enc Level where
  sz := 2
  cells := Level.cells
  enc x := .agg x.cells
  unc := Level.unc
  dec v := match v with | .agg c => Level.unc c | _ => default
  unc_cells := Level.unc_cells
  dec_enc x := Level.unc_cells x
@[simp] theorem sz_Level : Enc.sz Level = 2 := rfl
@[simp] theorem cells_Level (x : Level) : Enc.cells x = [.slice 1 false (encRows x.keys), .slice 1 false (encRows x.first)] := rfl
@[simp] theorem enc_Level (x : Level) : Enc.enc x = .agg [.slice 1 false (encRows x.keys), .slice 1 false (encRows x.first)] := rfl
@[simp] theorem unc_Level (s0 : Nat) (f0 : Bool) (a0 : List (List AV)) (s1 : Nat) (f1 : Bool) (a1 : List (List AV)) : (Enc.unc [.slice s0 f0 a0, .slice s1 f1 a1] : Level) = ⟨(Enc.dec (.slice s0 f0 a0)), (Enc.dec (.slice s1 f1 a1))⟩ := rfl
@[simp] theorem dec_Level (l : List AV) : (Enc.dec (.agg l) : Level) = Enc.unc l := rfl

structure Trie where
  levels : List (Level)
instance : Inhabited Trie := ⟨⟨[]⟩⟩
@[simp] theorem Trie.eta (x : Trie) : Trie.mk x.levels = x := rfl
def Trie.cells (x : Trie) : List AV := [.slice 2 false (encRows x.levels)]
def Trie.unc (c : List AV) : Trie :=
  match c with
  | [.slice _ _ a0] => ⟨(a0.map Enc.unc)⟩
  | _ => default
theorem Trie.unc_cells (x : Trie) : Trie.unc x.cells = x := by
  cases x
  simp only [Trie.cells, Trie.unc, map_unc]
instance : Enc Trie where
  sz := 1
  cells := Trie.cells
  enc x := .agg x.cells
  unc := Trie.unc
  dec v := match v with | .agg c => Trie.unc c | _ => default
  unc_cells := Trie.unc_cells
  dec_enc x := Trie.unc_cells x
@[simp] theorem sz_Trie : Enc.sz Trie = 1 := rfl
@[simp] theorem cells_Trie (x : Trie) : Enc.cells x = [.slice 2 false (encRows x.levels)] := rfl
@[simp] theorem enc_Trie (x : Trie) : Enc.enc x = .agg [.slice 2 false (encRows x.levels)] := rfl
@[simp] theorem unc_Trie (s0 : Nat) (f0 : Bool) (a0 : List (List AV)) : (Enc.unc [.slice s0 f0 a0] : Trie) = ⟨(Enc.dec (.slice s0 f0 a0))⟩ := rfl
@[simp] theorem dec_Trie (l : List AV) : (Enc.dec (.agg l) : Trie) = Enc.unc l := rfl

structure Cursor where
  at_ : List (Int)
  end_ : List (Int)
instance : Inhabited Cursor := ⟨⟨[], []⟩⟩
@[simp] theorem Cursor.eta (x : Cursor) : Cursor.mk x.at_ x.end_ = x := rfl
def Cursor.cells (x : Cursor) : List AV := [.slice 1 false (encRows x.at_), .slice 1 false (encRows x.end_)]
def Cursor.unc (c : List AV) : Cursor :=
  match c with
  | [.slice _ _ a0, .slice _ _ a1] => ⟨(a0.map Enc.unc), (a1.map Enc.unc)⟩
  | _ => default
theorem Cursor.unc_cells (x : Cursor) : Cursor.unc x.cells = x := by
  cases x
  simp only [Cursor.cells, Cursor.unc, map_unc]
instance : Enc Cursor where
  sz := 2
  cells := Cursor.cells
  enc x := .agg x.cells
  unc := Cursor.unc
  dec v := match v with | .agg c => Cursor.unc c | _ => default
  unc_cells := Cursor.unc_cells
  dec_enc x := Cursor.unc_cells x
@[simp] theorem sz_Cursor : Enc.sz Cursor = 2 := rfl
@[simp] theorem cells_Cursor (x : Cursor) : Enc.cells x = [.slice 1 false (encRows x.at_), .slice 1 false (encRows x.end_)] := rfl
@[simp] theorem enc_Cursor (x : Cursor) : Enc.enc x = .agg [.slice 1 false (encRows x.at_), .slice 1 false (encRows x.end_)] := rfl
@[simp] theorem unc_Cursor (s0 : Nat) (f0 : Bool) (a0 : List (List AV)) (s1 : Nat) (f1 : Bool) (a1 : List (List AV)) : (Enc.unc [.slice s0 f0 a0, .slice s1 f1 a1] : Cursor) = ⟨(Enc.dec (.slice s0 f0 a0)), (Enc.dec (.slice s1 f1 a1))⟩ := rfl
@[simp] theorem dec_Cursor (l : List AV) : (Enc.dec (.agg l) : Cursor) = Enc.unc l := rfl

structure Rela where
  arity : Int
  rows : List (List Int)
instance : Inhabited Rela := ⟨⟨0, []⟩⟩
@[simp] theorem Rela.eta (x : Rela) : Rela.mk x.arity x.rows = x := rfl
def Rela.cells (x : Rela) : List AV := [.int .i64 x.arity, .slice 1 false (encRows x.rows)]
def Rela.unc (c : List AV) : Rela :=
  match c with
  | [.int _ a0, .slice _ _ a1] => ⟨a0, (a1.map Enc.unc)⟩
  | _ => default
theorem Rela.unc_cells (x : Rela) : Rela.unc x.cells = x := by
  cases x
  simp only [Rela.cells, Rela.unc, map_unc]
instance : Enc Rela where
  sz := 2
  cells := Rela.cells
  enc x := .agg x.cells
  unc := Rela.unc
  dec v := match v with | .agg c => Rela.unc c | _ => default
  unc_cells := Rela.unc_cells
  dec_enc x := Rela.unc_cells x
@[simp] theorem sz_Rela : Enc.sz Rela = 2 := rfl
@[simp] theorem cells_Rela (x : Rela) : Enc.cells x = [.int .i64 x.arity, .slice 1 false (encRows x.rows)] := rfl
@[simp] theorem enc_Rela (x : Rela) : Enc.enc x = .agg [.int .i64 x.arity, .slice 1 false (encRows x.rows)] := rfl
@[simp] theorem unc_Rela (k0 : IntKind) (a0 : Int) (s1 : Nat) (f1 : Bool) (a1 : List (List AV)) : (Enc.unc [.int k0 a0, .slice s1 f1 a1] : Rela) = ⟨a0, (Enc.dec (.slice s1 f1 a1))⟩ := rfl
@[simp] theorem dec_Rela (l : List AV) : (Enc.dec (.agg l) : Rela) = Enc.unc l := rfl

end Go.Proofs.Ytkonafdbfciikaa
