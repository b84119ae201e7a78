/-
  An abstract reading of the model's operations: values with their contents (no addresses), the blocks that a call owns, and what each operation does to them. Own work; no program in sight.
-/
import Derived.WalkKit
import Derived.Lib.Hide
import Derived.Maps.AppendAt
import Derived.Laws.IdiomStrings
namespace Go.Proofs.YtankjfiaajpfoaaDoor
open Go.RowKit

/-- A value with its contents. 'slice sz full rows': memory that nobody writes any more, rows of sz cells; 'own l n': the slice of all n rows of the call's own block l; 'ptr l n sz i f': into row i, cell f, of block l as it was with n rows; 'iptr cells': to cells that nobody writes; 'anyb': a Boolean, whichever; 'tab': to a whole block of these integers. -/
inductive AV where
  | undef
  | bool (b : Bool)
  | int (k : IntKind) (n : Int)
  | str (s : ByteArray)
  | slice (sz : Nat) (full : Bool) (rows : List (List AV))
  | own (l n : Nat)
  | ptr (l n sz i f : Nat)
  | iptr (cells : List AV)
  | nilptr
  | anyb
  | tab (k : IntKind) (zs : List Int)
  | agg (cells : List AV)
  | tup (vs : List AV)
  | fn (f : FuncId) (cap : List AV)

instance : Inhabited AV := ⟨.undef⟩

/-- A block of the call's own. -/
structure Blk where
  e : TypeId
  sz : Nat
  rows : List (List AV)
  mu : Bool
  deep : Bool

structure ASt where
  ρ : List (Nat × AV)
  H : List Blk

def getA : List (Nat × AV) → Nat → AV
  | [], _ => .undef
  | (k, v) :: r, i => if k = i then v else getA r i

def putA (ρ : List (Nat × AV)) : Option Nat → AV → List (Nat × AV)
  | some d, v => (d, v) :: ρ
  | none, _ => ρ

def I64 (n : Int) : Prop := -9223372036854775808 ≤ n ∧ n ≤ 9223372036854775807

/-! ### Types -/
def szT (P : Program) (t : TypeId) : Nat := ((P.info? t).map (·.size)).getD 0
def byT (P : Program) (t : TypeId) : Nat := ((P.info? t).map (·.bytes)).getD 0
def aggT (P : Program) (t : TypeId) : Option Bool :=
  match P.underlying t with
  | some (.struct _) => some true
  | some (.array _ _) => some true
  | some _ => some false
  | none => none
def elT (P : Program) (t : TypeId) : Option TypeId :=
  match P.underlying t with
  | some (.slice e) => some e
  | _ => none
def arrT (P : Program) (t : TypeId) : Option (Nat × TypeId) :=
  match P.underlying t with
  | some (.array n e) => some (n, e)
  | _ => none
def fldT (P : Program) (t : TypeId) (k : Nat) : Option (Nat × TypeId) :=
  match P.underlying t with
  | some (.struct fs) => (fs[k]?).map fun f => (f.offset, f.type)
  | _ => none
def strT (P : Program) (t : TypeId) : Bool :=
  match P.underlying t with
  | some .string => true
  | _ => false
def intT (P : Program) (t : TypeId) : Option IntKind :=
  match P.underlying t with
  | some (.int k) => some k
  | _ => none
def byteT (P : Program) (t : TypeId) : Bool :=
  match P.underlying t with
  | some (.int .u8) => true
  | _ => false
def boolT (P : Program) (t : TypeId) : Bool :=
  match P.underlying t with
  | some .bool => true
  | _ => false

def ptrT (P : Program) (t : TypeId) : Bool :=
  match P.underlying t with
  | some (.pointer _) => true
  | _ => false

/-- Are the sizes of all fields known? -/
def infoAll (P : Program) (t : TypeId) : Bool :=
  match P.underlying t with
  | some (.struct fs) => fs.toList.all fun f => (P.info? f.type).isSome
  | _ => false

/-- A constant. -/
def cav (P : Program) (t : TypeId) : Value → AV
  | .bool b => .bool b
  | .int k n => .int k n
  | .string s => .str s
  | .slice none 0 0 => match elT P t with | some e => .slice (szT P e) true [] | none => .undef
  | .pointer none => .nilptr
  | _ => .undef

/-- The cells of a zero value, as they read; 'none' where they do not fit the table. -/
def zfit : Value → AV → Bool
  | .bool a, .bool b => a == b
  | .int k a, .int k' b => k == k' && a == b
  | .string a, .str b => a.size == 0 && b.size == 0
  | .slice none 0 0, .slice _ _ rows => rows.isEmpty
  | .pointer none, .nilptr => true
  | _, _ => false
def zfits : List Value → List AV → Bool
  | [], [] => true
  | v :: r, a :: q => zfit v a && zfits r q
  | _, _ => false
def zcells (P : Program) : Nat → TypeId → List AV
  | 0, _ => []
  | d + 1, t =>
    match P.underlying t with
    | some .bool => [.bool false]
    | some (.int k) => [.int k 0]
    | some .string => [.str ByteArray.empty]
    | some (.slice e) => [.slice (szT P e) true []]
    | some (.pointer _) => [.nilptr]
    | some (.struct fs) => fs.toList.flatMap fun f => zcells P d f.type
    | some (.array n e) => (List.replicate n (zcells P d e)).flatten
    | _ => []
def zT (P : Program) (t : TypeId) : Option (List AV) :=
  match P.info? t with
  | some i => match i.zero with
    | some z => if zfits z.cells.toList (zcells P 12 t) && i.size == z.cells.size && decide (0 < i.size) then some (zcells P 12 t) else none
    | none => none
  | none => none

/-- What the program runs in: its own contracts by number, what is known of the package's variables. -/
inductive Entry where
  | no
  | pure (p : List AV → Option (Prop × AV))
  | frz (p : List AV → Option (Prop × AV))
  | gen (g : List AV → List Blk → Option (Prop × AV × List Blk))

structure Ctx where
  P : Program
  S : FuncId → Entry
  G : Nat → AV

def aev (C : Ctx) (ρ : List (Nat × AV)) (t : TypeId) : Operand → AV
  | .tmp i => getA ρ i
  | .const v => cav C.P t v
  | .global g => C.G g
  | .func f => .fn f []

/-- Is it the value of one cell, and known? -/
def AV.isCell : AV → Bool
  | .undef | .agg _ | .tup _ => false
  | _ => true
/-- Does it speak of no block of the call's own? -/
def AV.isDeep : AV → Bool
  | .own _ _ | .ptr .. | .agg _ | .tup _ | .fn _ _ => false
  | _ => true

/-- The cells of a value of type t. -/
def cellsOf (C : Ctx) (t : TypeId) (v : AV) : Option (List AV) :=
  match aggT C.P t with
  | some true => match v with
    | .agg cs => if cs.length = szT C.P t then some cs else none
    | _ => none
  | some false => if v.isCell && szT C.P t == 1 then some [v] else none
  | none => none

def rowAt (rows : List (List AV)) (i : Nat) : List AV := rows.getD i []
def splice (row : List AV) (f : Nat) (cs : List AV) : List AV := row.take f ++ cs ++ row.drop (f + cs.length)

/-- The value of type t at the head of some cells. -/
def headV (C : Ctx) (t : TypeId) (cells : List AV) : Option (Prop × AV) :=
  match aggT C.P t with
  | some true => if szT C.P t = 0 then none else some (szT C.P t ≤ cells.length, .agg (cells.take (szT C.P t)))
  | some false => some (0 < cells.length, cells.getD 0 .undef)
  | none => none

/-! ### Operations that look at no block -/
def arith (k : IntKind) (n : Int) : Prop × AV :=
  match k with
  | .i64 => (I64 n, .int .i64 n)
  | k => (True, .int k (k.wrap n))

def bits2 (op : BinOp) (k : IntKind) (a b : Int) : Int :=
  match op with
  | .and => k.wrap (BitVec.ofInt k.bits a &&& BitVec.ofInt k.bits b).toNat
  | .or => k.wrap (BitVec.ofInt k.bits a ||| BitVec.ofInt k.bits b).toNat
  | .xor => k.wrap (BitVec.ofInt k.bits a ^^^ BitVec.ofInt k.bits b).toNat
  | _ => k.wrap (BitVec.ofInt k.bits a &&& ~~~BitVec.ofInt k.bits b).toNat

def abinI (op : BinOp) (k : IntKind) (a b : Int) : Option (Prop × AV) :=
  match op with
  | .add => some (arith k (a + b))
  | .sub => some (arith k (a - b))
  | .mul => some (arith k (a * b))
  | .quo => some (b ≠ 0 ∧ (arith k (a.tdiv b)).1, (arith k (a.tdiv b)).2)
  | .rem => some (b ≠ 0, .int k (a.tmod b))
  | .eql => some (True, .bool (a == b))
  | .neq => some (True, .bool (a != b))
  | .lss => some (True, .bool (decide (a < b)))
  | .leq => some (True, .bool (decide (a ≤ b)))
  | .gtr => some (True, .bool (decide (b < a)))
  | .geq => some (True, .bool (decide (b ≤ a)))
  | .and => some (True, .int k (bits2 .and k a b))
  | .or => some (True, .int k (bits2 .or k a b))
  | .xor => some (True, .int k (bits2 .xor k a b))
  | .andNot => some (True, .int k (bits2 .andNot k a b))
  | _ => none

def abinS (op : BinOp) (a b : ByteArray) : Option (Prop × AV) :=
  match op with
  | .add => some (a.size + b.size < 1000000000000, .str (a ++ b))
  | .eql => some (True, .bool (decide (a = b)))
  | .neq => some (True, .bool (!decide (a = b)))
  | .lss => some (True, .bool (Op.bytesLess a.toList b.toList))
  | .leq => some (True, .bool (Op.bytesLess a.toList b.toList || decide (a = b)))
  | .gtr => some (True, .bool (!(Op.bytesLess a.toList b.toList || decide (a = b))))
  | .geq => some (True, .bool (!Op.bytesLess a.toList b.toList))
  | _ => none

/-- Fields that are integers, strings, Booleans, one cell each, in their order. -/
inductive FK where
  | b | i | s
def eqCell : FK → AV → AV → Option Bool
  | .b, .bool a, .bool b => some (a == b)
  | .i, .int k a, .int k' b => if k = k' then some (a == b) else none
  | .s, .str a, .str b => some (decide (a = b))
  | _, _, _ => none
def eqCells : List FK → List AV → List AV → Option Bool
  | [], [], [] => some true
  | f :: fs, a :: r, b :: q => match eqCell f a b, eqCells fs r q with
    | some x, some y => some (x && y)
    | _, _ => none
  | _, _, _ => none
def flatFields (P : Program) : List Field → Nat → Option (List FK)
  | [], _ => some []
  | f :: r, n =>
    if f.name = "_" ∨ f.offset ≠ n then none else
    match P.underlying f.type, flatFields P r (n + 1) with
    | some .bool, some l => some (.b :: l)
    | some (.int _), some l => some (.i :: l)
    | some .string, some l => some (.s :: l)
    | _, _ => none
def flatT (P : Program) (t : TypeId) : Option (List FK) :=
  match P.underlying t with
  | some (.struct fs) => if P.stoodInHeld t || P.eqGuardType P.depth t then none else flatFields P fs.toList 0
  | _ => none

def abinP (op : BinOp) (e : Bool) : Option (Prop × AV) :=
  match op with
  | .eql => some (True, .bool e)
  | .neq => some (True, .bool (!e))
  | _ => none

/-- A slice against nil. -/
def isNilC : Operand → Bool
  | .const (.slice none 0 0) => true
  | _ => false
def abinN (C : Ctx) (op : BinOp) (t : TypeId) (x : AV) : Option (Prop × AV) :=
  match elT C.P t with
  | some _ => match op, x with
    | .eql, .slice _ _ rows => some (True, if rows.length = 0 then .anyb else .bool false)
    | .neq, .slice _ _ rows => some (True, if rows.length = 0 then .anyb else .bool true)
    | .eql, .own _ n => some (True, if n = 0 then .anyb else .bool false)
    | .neq, .own _ n => some (True, if n = 0 then .anyb else .bool true)
    | _, _ => none
  | none => none

def abin (C : Ctx) (op : BinOp) (t : TypeId) (x y : AV) : Option (Prop × AV) :=
  match x, y with
  | .int k a, .int k' b =>
    match op with
    | .shl => some (0 ≤ b, .int k (k.wrap (a * 2 ^ (min b.toNat k.bits))))
    | .shr => some (0 ≤ b, .int k (a.fdiv (2 ^ (min b.toNat k.bits))))
    | op => if k = k' then abinI op k a b else none
  | .str a, .str b => abinS op a b
  | .bool a, .bool b => if boolT C.P t then (match op with
    | .eql => some (True, .bool (a == b))
    | .neq => some (True, .bool (!(a == b)))
    | _ => none) else none
  | .agg as, .agg bs => match flatT C.P t with
    | some fk => (match op, eqCells fk as bs with
      | .eql, some e => some (True, .bool e)
      | .neq, some e => some (True, .bool (!e))
      | _, _ => none)
    | none => none
  | .nilptr, .nilptr => if ptrT C.P t then abinP op true else none
  | .nilptr, .ptr _ _ _ _ _ => if ptrT C.P t then abinP op false else none
  | .ptr _ _ _ _ _, .nilptr => if ptrT C.P t then abinP op false else none
  | .nilptr, .iptr _ => if ptrT C.P t then abinP op false else none
  | .iptr _, .nilptr => if ptrT C.P t then abinP op false else none
  | _, _ => none

def aun (op : UnOp) (x : AV) : Option (Prop × AV) :=
  match op, x with
  | .neg, .int k n => some (True, .int k (k.wrap (0 - n)))
  | .not, .bool b => some (True, .bool (!b))
  | .not, .anyb => some (True, .anyb)
  | _, _ => none

def bytesRows (s : ByteArray) : List (List AV) := s.data.toList.map fun c => [.int .u8 (c.toNat : Int)]

def aconv (C : Ctx) (src dst : TypeId) (x : AV) : Option (Prop × AV) :=
  match x with
  | .int _ n => match intT C.P dst, intT C.P src with
    | some k, some _ => some (True, .int k (k.wrap n))
    | _, _ => none
  | .str s =>
    if strT C.P dst && strT C.P src then some (True, .str s) else
    match elT C.P dst with
    | some e => if strT C.P src && byteT C.P e then some (s.size < 1000000000000, .slice 1 false (bytesRows s)) else none
    | none => none
  | _ => none

def afield (C : Ctx) (t : TypeId) (x : AV) (k : Nat) : Option (Prop × AV) :=
  match x, fldT C.P t k with
  | .agg cs, some (off, ty) => headV C ty (cs.drop off)
  | _, _ => none

def afieldAddr (C : Ctx) (t : TypeId) (x : AV) (k : Nat) : Option (Prop × AV) :=
  match fldT C.P t k with
  | some (off, ty) =>
    if szT C.P ty = 0 then none else
    match x with
    | .ptr l n sz i f => some (True, .ptr l n sz i (f + off))
    | .iptr cs => some (True, .iptr (cs.drop off))
    | _ => none
  | none => none

def aindexAddr (C : Ctx) (t : TypeId) (x ix : AV) : Option (Prop × AV) :=
  match ix with
  | .int _ i =>
    match elT C.P t, arrT C.P t with
    | some e, _ =>
      if szT C.P e = 0 then none else
      match x with
      | .slice sz _ rows => if sz = szT C.P e then some (0 ≤ i ∧ i < rows.length, .iptr (rowAt rows i.toNat)) else none
      | .own l n => some (0 ≤ i ∧ i < n, .ptr l n (szT C.P e) i.toNat 0)
      | _ => none
    | none, some (m, e) =>
      if szT C.P e = 0 then none else
      match x with
      | .ptr l n sz r f => some (0 ≤ i ∧ i < m, .ptr l n sz r (f + i.toNat * szT C.P e))
      | .iptr cs => some (0 ≤ i ∧ i < m, .iptr (cs.drop (i.toNat * szT C.P e)))
      | _ => none
    | none, none => none
  | _ => none

/-- The byte at place j, or 0. -/
def btA (s : ByteArray) (j : Nat) : Nat := (s.data.toList.getD j 0).toNat

def aindex (C : Ctx) (t : TypeId) (x ix : AV) : Option (Prop × AV) :=
  match x, ix with
  | .str s, .int _ i => if strT C.P t then some (0 ≤ i ∧ i < s.size, .int .u8 (btA s i.toNat)) else none
  | .agg cs, .int _ i => match arrT C.P t with
    | some (n, e) => if szT C.P e = 0 then none else match headV C e (cs.drop (i.toNat * szT C.P e)) with
      | some (ob, v) => some ((0 ≤ i ∧ i < n) ∧ ob, v)
      | none => none
    | none => none
  | _, _ => none

/-- The bounds of a slice expression: low, high (absent: 0, the length). -/
def alow : Option AV → Option Int
  | none => some 0
  | some (.int _ i) => some i
  | _ => none
def ahigh (len : Nat) : Option AV → Option Int
  | none => some len
  | some (.int _ i) => some i
  | _ => none

def aslice (C : Ctx) (t : TypeId) (x : AV) (lo hi mx : Option AV) : Option (Prop × AV) :=
  match x with
  | .str s =>
    if strT C.P t then
      match mx, alow lo, ahigh s.size hi with
      | none, some l, some h => some (0 ≤ l ∧ l ≤ h ∧ h ≤ s.size, .str (s.extract l.toNat h.toNat))
      | _, _, _ => none
    else none
  | .slice sz full rows =>
    match elT C.P t with
    | some e =>
      if sz = szT C.P e ∧ 0 < sz then
        match mx, alow lo, ahigh rows.length hi with
        | none, some l, some h => some (0 ≤ l ∧ l ≤ h ∧ h ≤ rows.length, .slice sz (full && hi.isNone) ((rows.take h.toNat).drop l.toNat))
        | some (.int _ m), some l, some h => some (0 ≤ l ∧ l ≤ h ∧ h ≤ rows.length ∧ m = h ∧ hi.isSome = true, .slice sz true ((rows.take h.toNat).drop l.toNat))
        | _, _, _ => none
      else none
    | none => none
  | _ => none

/-- Where a part goes. -/
def abuildGo (C : Ctx) (place : Nat → Option (Nat × TypeId)) : List AV → List (Nat × AV) → Option (List AV)
  | cells, [] => some cells
  | cells, (k, v) :: r =>
    match place k with
    | some (off, ty) => match cellsOf C ty v with
      | some cs => if off + cs.length ≤ cells.length then abuildGo C place (splice cells off cs) r else none
      | none => none
    | none => none

def fieldTy (C : Ctx) (t : TypeId) (k : Nat) : TypeId := match fldT C.P t k with | some (_, ty) => ty | none => 0

def abuild (C : Ctx) (ρ : List (Nat × AV)) (t : TypeId) (parts : List (Nat × Operand)) : Option (Prop × AV) :=
  match zT C.P t with
  | some z =>
    match arrT C.P t with
    | none => match abuildGo C (fldT C.P t) z (parts.map fun p => (p.1, aev C ρ (fieldTy C t p.1) p.2)) with
      | some cs => if infoAll C.P t then some (True, .agg cs) else none
      | none => none
    | some (_, e) => if szT C.P e = 0 then none else match abuildGo C (fun k => some (k * szT C.P e, e)) z (parts.map fun p => (p.1, aev C ρ e p.2)) with
      | some cs => some (True, .agg cs)
      | none => none
  | none => none

def alen (C : Ctx) (t : TypeId) (x : AV) : Option (Prop × AV) :=
  match x with
  | .str s => if strT C.P t then some (True, .int .i64 s.size) else none
  | .slice _ _ rows => match elT C.P t with | some _ => some (True, .int .i64 rows.length) | none => none
  | .own _ n => match elT C.P t with | some _ => some (True, .int .i64 n) | none => none
  | _ => match arrT C.P t with | some (n, _) => some (True, .int .i64 n) | none => none

def apick (c a b : AV) : Option (Prop × AV) :=
  match c with
  | .bool x => match a, b with
    | .bool y, .bool z => some (True, .bool (if x then y else z))
    | a, b => some (True, if x then a else b)
  | _ => none

def amax : List AV → Option AV
  | [.int k a, .int k' b] => if k = k' then some (.int k (if b > a then b else a)) else none
  | _ => none
def amin : List AV → Option AV
  | [.int k a, .int k' b] => if k = k' then some (.int k (if b < a then b else a)) else none
  | _ => none

end Go.Proofs.YtankjfiaajpfoaaDoor
