/-
  Texts joined.
-/
import Derived.WalkKit
import Derived.Lib.Hide
import Derived.Maps.AppendAt
import Derived.Laws.IdiomStrings
import Derived.Maps.OwnSet
import Derived.StringKeys
import Derived.Laws.StructEq
import Derived.Laws.Cover3
namespace Go.Proofs.YtfoipbjhaiimlaaGreatDoor
open Nat (add_mul add_zero le_refl le_trans pos_of_ne_zero)
open List (getElem?_drop getElem?_eq_getElem getElem?_map getElem?_take length_drop length_take)
open Int (eq_ofNat_of_zero_le not_lt toNat_natCast)
open Option (map_some)
noncomputable section
set_option maxHeartbeats 16000000
open Go.RowKit
inductive AV where
 | undef
 | bool (b : Bool)
 | int (k : IntKind) (n : Int)
 | str (s : ByteArray)
 | slice (sz : Nat) (full : Bool) (rows : List (List AV))
 | own (l n : Nat)
 | osl (l n sz off len : Nat)
 | ptr (l n sz i f : Nat)
 | iptr (cells : List AV)
 | nilptr
 | anyb
 | tab (k : IntKind) (zs : List Int)
 | agg (cells : List AV)
 | tup (vs : List AV)
 | fn (f : FuncId) (cap : List AV)
 | mapp (b : Nat)
 | mapof (k e : TypeId) (L : List (Lit × Lit))
instance : Inhabited AV := ⟨.undef⟩
@[reducible] def PSp := List AV -> Option (Prop × AV)
structure Blk where
 e : TypeId
 sz : Nat
 rows : List (List AV)
 mu : Bool
 deep : Bool
structure ASt where
 ρ : List (Nat × AV)
 H : List Blk
def aZ : List (Nat × AV) -> Nat -> AV
 | [], _ => .undef
 | (k, v) :: r, i => if k = i then v else aZ r i
def b7 (ρ : List (Nat × AV)) : Option Nat -> AV -> List (Nat × AV)
 | some d, v => (d, v) :: ρ
 | none, _ => ρ
def I64 (n : Int) : Prop := -9223372036854775808 <= n /\ n <= 9223372036854775807
def szT (P : Program) (t : TypeId) : Nat := ((P.info? t).map (·.size)).getD 0
def byT (P : Program) (t : TypeId) : Nat := ((P.info? t).map (·.bytes)).getD 0
def df (P : Program) (t : TypeId) : Option Bool :=
 match P.underlying t with
 | some (.struct _) => some true
 | some (.array _ _) => some true
 | some _ => some false
 | none => none
def elT (P : Program) (t : TypeId) : Option TypeId :=
 match P.underlying t with
 | some (.slice e) => some e
 | _ => none
def eB (P : Program) (t : TypeId) : Option (Nat × TypeId) :=
 match P.underlying t with
 | some (.array n e) => some (n, e)
 | _ => none
def bT (P : Program) (t : TypeId) (k : Nat) : Option (Nat × TypeId) :=
 match P.underlying t with
 | some (.struct fs) => (fs[k]?).map λ f => (f.offset, f.type)
 | _ => none
def n7 (P : Program) (t : TypeId) : Bool :=
 match P.underlying t with
 | some .string => true
 | _ => false
def qF (P : Program) (t : TypeId) : Option IntKind :=
 match P.underlying t with
 | some (.int k) => some k
 | _ => none
def Fe (P : Program) (t : TypeId) : Bool :=
 match P.underlying t with
 | some (.int .u8) => true
 | _ => false
def uF (P : Program) (t : TypeId) : Bool :=
 match P.underlying t with
 | some .bool => true
 | _ => false
def Bf (P : Program) (t : TypeId) : Bool :=
 match P.underlying t with
 | some (.pointer _) => true
 | _ => false
def BK (P : Program) (t : TypeId) : Option (TypeId × TypeId) :=
 match P.underlying t with
 | some (.map k e) => some (k, e)
 | _ => none
def u6 (L : List (Lit × Lit)) (k z : Lit) : Lit :=
 match L with
 | [] => z
 | (a, x) :: r => if a.sameKey k then x else u6 r k z
def DB (L : List (Lit × Lit)) (k : Lit) : Bool :=
 match L with
 | [] => false
 | (a, _) :: r => a.sameKey k || DB r k
def An : List (Lit × Lit) -> Nat
 | [] => 0
 | (a, _) :: r => if DB r a then An r else An r + 1
def Et : Lit -> AV
 | .bool b => .bool b
 | .int k n => .int k n
 | .string l => .str ⟨l.toArray⟩
 | _ => .undef
def rx (P : Program) (t : TypeId) : AV -> Option (Prop × Lit)
 | .bool b => if uF P t then some (True, .bool b) else none
 | .int .i64 n => match qF P t with | some .i64 => some (I64 n, .int .i64 n) | _ => none
 | .str s => if n7 P t then some (s.size <= maxLen, .string s.data.toList) else none
 | _ => none
def EP (P : Program) (t : TypeId) : Option Lit :=
 match (P.info? t).bind (·.zero) with
 | some (.bool false) => if uF P t then some (.bool false) else none
 | some (.int k n) => if n = 0 /\ qF P t = some k then some (.int k 0) else none
 | some (.string s) => if s.size = 0 /\ n7 P t = true then some (.string []) else none
 | _ => none
def gF (P : Program) (t : TypeId) : Bool :=
 match P.underlying t with
 | some (.struct fs) => fs.toList.all λ f => (P.info? f.type).isSome
 | _ => false
def cav (P : Program) (t : TypeId) : Value -> AV
 | .bool b => .bool b
 | .int k n => .int k n
 | .string s => .str s
 | .slice none 0 0 => match elT P t with | some e => .slice (szT P e) true [] | none => .undef
 | .pointer none => .nilptr
 | _ => .undef
def PG : Value -> AV -> Bool
 | .bool a, .bool b => a == b
 | .int k a, .int k' b => k == k' && a == b
 | .string a, .str b => a.size == 0 && b.size == 0
 | .slice none 0 0, .slice _ _ rows => rows.isEmpty
 | .pointer none, .nilptr => true
 | _, _ => false
def vS : List Value -> List AV -> Bool
 | [], [] => true
 | v :: r, a :: q => PG v a && vS r q
 | _, _ => false
def xd (P : Program) : Nat -> TypeId -> List AV
 | 0, _ => []
 | d + 1, t =>
  match P.underlying t with
  | some .bool => [.bool false]
  | some (.int k) => [.int k 0]
  | some .string => [.str ByteArray.empty]
  | some (.slice e) => [.slice (szT P e) true []]
  | some (.pointer _) => [.nilptr]
  | some (.struct fs) => fs.toList.flatMap λ f => xd P d f.type
  | some (.array n e) => (List.replicate n (xd P d e)).flatten
  | _ => []
def zT (P : Program) (t : TypeId) : Option (List AV) :=
 match P.info? t with
 | some i => match i.zero with
  | some z => if vS z.cells.toList (xd P 12 t) && i.size == z.cells.size && decide (0 < i.size) then some (xd P 12 t) else none
  | none => none
 | none => none
inductive Entry where
 | no
 | pure (p : List AV -> Option (Prop × AV))
 | frz (p : List AV -> Option (Prop × AV))
 | gen (g : List AV -> List Blk -> Option (Prop × AV × List Blk))
structure Ctx where
 P : Program
 S : FuncId -> Entry
 G : Nat -> AV
def gav : AV -> AV
 | .mapof _ _ _ => .undef
 | v => v
def aev (C : Ctx) (ρ : List (Nat × AV)) (t : TypeId) : Operand -> AV
 | .tmp i => aZ ρ i
 | .const v => cav C.P t v
 | .global g => gav (C.G g)
 | .func f => .fn f []
def AV.isCell : AV -> Bool
 | .undef | .agg _ | .tup _ => false
 | _ => true
def AV.isDeep : AV -> Bool
 | .own _ _ | .osl .. | .ptr .. | .agg _ | .tup _ | .fn _ _ => false
 | _ => true
def ic (C : Ctx) (t : TypeId) (v : AV) : Option (List AV) :=
 match df C.P t with
 | some true => match v with
  | .agg cs => if cs.length = szT C.P t then some cs else none
  | _ => none
 | some false => if v.isCell && szT C.P t == 1 then some [v] else none
 | none => none
def kw (rows : List (List AV)) (i : Nat) : List AV := rows.getD i []
def splice (row : List AV) (f : Nat) (cs : List AV) : List AV := row.take f ++ cs ++ row.drop (f + cs.length)
def pi (C : Ctx) (t : TypeId) (cells : List AV) : Option (Prop × AV) :=
 match df C.P t with
 | some true => if szT C.P t = 0 then none else some (szT C.P t <= cells.length, .agg (cells.take (szT C.P t)))
 | some false => some (0 < cells.length, cells.getD 0 .undef)
 | none => none
def w64 (n : Int) : Int := IntKind.wrap .i64 n
theorem aT {n : Int} (h : I64 n) : w64 n = n := IntWalk.i64_in n (by unfold I64 at h; exact h)
attribute [simp] aT
def lz (k : IntKind) (n : Int) : Prop × AV :=
 match k with
 | .i64 => (True, .int .i64 (w64 n))
 | k => (True, .int k (k.wrap n))
def iQ (op : BinOp) (k : IntKind) (a b : Int) : Int :=
 match op with
 | .and => k.wrap (BitVec.ofInt k.bits a &&& BitVec.ofInt k.bits b).toNat
 | .or => k.wrap (BitVec.ofInt k.bits a ||| BitVec.ofInt k.bits b).toNat
 | .xor => k.wrap (BitVec.ofInt k.bits a ^^^ BitVec.ofInt k.bits b).toNat
 | _ => k.wrap (BitVec.ofInt k.bits a &&& ~~~BitVec.ofInt k.bits b).toNat
def Fy (op : BinOp) (k : IntKind) (a b : Int) : Option (Prop × AV) :=
 match op with
 | .add => some (lz k (a + b))
 | .sub => some (lz k (a - b))
 | .mul => some (lz k (a * b))
 | .quo => some (b ≠ 0 /\ (lz k (a.tdiv b)).1, (lz k (a.tdiv b)).2)
 | .rem => some (b ≠ 0, .int k (a.tmod b))
 | .eql => some (True, .bool (a == b))
 | .neq => some (True, .bool (a != b))
 | .lss => some (True, .bool (decide (a < b)))
 | .leq => some (True, .bool (decide (a <= b)))
 | .gtr => some (True, .bool (decide (b < a)))
 | .geq => some (True, .bool (decide (b <= a)))
 | .and => some (True, .int k (iQ .and k a b))
 | .or => some (True, .int k (iQ .or k a b))
 | .xor => some (True, .int k (iQ .xor k a b))
 | .andNot => some (True, .int k (iQ .andNot k a b))
 | _ => none
def DS (op : BinOp) (a b : ByteArray) : Option (Prop × AV) :=
 match op with
 | .add => some (a.size + b.size < 1000000000000, .str (a ++ b))
 | .eql => some (True, .bool (decide (a = b)))
 | .neq => some (True, .bool (!decide (a = b)))
 | .lss => some (True, .bool (Op.bytesLess a.toList b.toList))
 | .leq => some (True, .bool (Op.bytesLess a.toList b.toList || decide (a = b)))
 | .gtr => some (True, .bool (!(Op.bytesLess a.toList b.toList || decide (a = b))))
 | .geq => some (True, .bool (!Op.bytesLess a.toList b.toList))
 | _ => none
inductive FK where
 | b | i | s
def xG : FK -> AV -> AV -> Option Bool
 | .b, .bool a, .bool b => some (a == b)
 | .i, .int k a, .int k' b => if k = k' then some (a == b) else none
 | .s, .str a, .str b => some (decide (a = b))
 | _, _, _ => none
def lb : List FK -> List AV -> List AV -> Option Bool
 | [], [], [] => some true
 | f :: fs, a :: r, b :: q => match xG f a b, lb fs r q with
  | some x, some y => some (x && y)
  | _, _ => none
 | _, _, _ => none
def fZ (P : Program) : List Field -> Nat -> Option (List FK)
 | [], _ => some []
 | f :: r, n =>
  if f.name = "_" ∨ f.offset ≠ n then none else
  match P.underlying f.type, fZ P r (n + 1) with
  | some .bool, some l => some (.b :: l)
  | some (.int _), some l => some (.i :: l)
  | some .string, some l => some (.s :: l)
  | _, _ => none
def IM (P : Program) (t : TypeId) : Option (List FK) :=
 match P.underlying t with
 | some (.struct fs) => if P.stoodInHeld t || P.eqGuardType P.depth t then none else fZ P fs.toList 0
 | _ => none
def rH (op : BinOp) (e : Bool) : Option (Prop × AV) :=
 match op with
 | .eql => some (True, .bool e)
 | .neq => some (True, .bool (!e))
 | _ => none
def oz : Operand -> Bool
 | .const (.slice none 0 0) => true
 | _ => false
def Ax (C : Ctx) (op : BinOp) (t : TypeId) (x : AV) : Option (Prop × AV) :=
 match elT C.P t with
 | some _ => match op, x with
  | .eql, .slice _ _ rows => some (True, if rows.length = 0 then .anyb else .bool false)
  | .neq, .slice _ _ rows => some (True, if rows.length = 0 then .anyb else .bool true)
  | .eql, .own _ n => some (True, if n = 0 then .anyb else .bool false)
  | .neq, .own _ n => some (True, if n = 0 then .anyb else .bool true)
  | .eql, .osl _ _ _ _ n => some (True, if n = 0 then .anyb else .bool false)
  | .neq, .osl _ _ _ _ n => some (True, if n = 0 then .anyb else .bool true)
  | _, _ => none
 | none => none
def KD (C : Ctx) (op : BinOp) (t : TypeId) (x y : AV) : Option (Prop × AV) :=
 match x, y with
 | .int k a, .int k' b =>
  match op with
  | .shl => some (0 <= b, .int k (k.wrap (a * 2 ^ (min b.toNat k.bits))))
  | .shr => some (0 <= b, .int k (a.fdiv (2 ^ (min b.toNat k.bits))))
  | op => if k = k' then Fy op k a b else none
 | .str a, .str b => DS op a b
 | .bool a, .bool b => if uF C.P t then (match op with
  | .eql => some (True, .bool (a == b))
  | .neq => some (True, .bool (!(a == b)))
  | _ => none) else none
 | .agg asq, .agg bs => match IM C.P t with
  | some fk => (match op, lb fk asq bs with
   | .eql, some e => some (True, .bool e)
   | .neq, some e => some (True, .bool (!e))
   | _, _ => none)
  | none => none
 | .nilptr, .nilptr => if Bf C.P t then rH op true else none
 | .nilptr, .ptr _ _ _ _ _ => if Bf C.P t then rH op false else none
 | .ptr _ _ _ _ _, .nilptr => if Bf C.P t then rH op false else none
 | .nilptr, .iptr _ => if Bf C.P t then rH op false else none
 | .iptr _, .nilptr => if Bf C.P t then rH op false else none
 | _, _ => none
def aun (op : UnOp) (x : AV) : Option (Prop × AV) :=
 match op, x with
 | .neg, .int k n => some (True, .int k (k.wrap (0 - n)))
 | .not, .bool b => some (True, .bool (!b))
 | .not, .anyb => some (True, .anyb)
 | _, _ => none
def dI (s : ByteArray) : List (List AV) := s.data.toList.map λ c => [.int .u8 (c.toNat : Int)]
def AL (C : Ctx) (src dst : TypeId) (x : AV) : Option (Prop × AV) :=
 match x with
 | .int _ n => match qF C.P dst, qF C.P src with
  | some k, some _ => some (True, .int k (k.wrap n))
  | _, _ => none
 | .str s =>
  if n7 C.P dst && n7 C.P src then some (True, .str s) else
  match elT C.P dst with
  | some e => if n7 C.P src && Fe C.P e then some (s.size < 1000000000000, .slice 1 false (dI s)) else none
  | none => none
 | _ => none
def ut (C : Ctx) (t : TypeId) (x : AV) (k : Nat) : Option (Prop × AV) :=
 match x, bT C.P t k with
 | .agg cs, some (off, ty) => pi C ty (cs.drop off)
 | _, _ => none
def je (C : Ctx) (t : TypeId) (x : AV) (k : Nat) : Option (Prop × AV) :=
 match bT C.P t k with
 | some (off, ty) =>
  if szT C.P ty = 0 then none else
  match x with
  | .ptr l n sz i f => some (True, .ptr l n sz i (f + off))
  | .iptr cs => some (True, .iptr (cs.drop off))
  | _ => none
 | none => none
def jr (C : Ctx) (t : TypeId) (x ix : AV) : Option (Prop × AV) :=
 match ix with
 | .int _ i =>
  match elT C.P t, eB C.P t with
  | some e, _ =>
   if szT C.P e = 0 then none else
   match x with
   | .slice sz _ rows => if sz = szT C.P e then some (0 <= i /\ i < rows.length, .iptr (kw rows i.toNat)) else none
   | .own l n => some (0 <= i /\ i < n, .ptr l n (szT C.P e) i.toNat 0)
   | .osl l n sz off len => if sz = szT C.P e then some (0 <= i /\ i < len, .ptr l n (szT C.P e) (off + i.toNat) 0) else none
   | _ => none
  | none, some (m, e) =>
   if szT C.P e = 0 then none else
   match x with
   | .ptr l n sz r f => some (0 <= i /\ i < m, .ptr l n sz r (f + i.toNat * szT C.P e))
   | .iptr cs => some (0 <= i /\ i < m, .iptr (cs.drop (i.toNat * szT C.P e)))
   | _ => none
  | none, none => none
 | _ => none
def btA (s : ByteArray) (j : Nat) : Nat := (s.data.toList.getD j 0).toNat
def tJ (C : Ctx) (t : TypeId) (x ix : AV) : Option (Prop × AV) :=
 match x, ix with
 | .str s, .int _ i => if n7 C.P t then some (0 <= i /\ i < s.size, .int .u8 (btA s i.toNat)) else none
 | .agg cs, .int _ i => match eB C.P t with
  | some (n, e) => if szT C.P e = 0 then none else match pi C e (cs.drop (i.toNat * szT C.P e)) with
   | some (ob, v) => some ((0 <= i /\ i < n) /\ ob, v)
   | none => none
  | none => none
 | _, _ => none
def CR : Option AV -> Option Int
 | none => some 0
 | some (.int _ i) => some i
 | _ => none
def uO (len : Nat) : Option AV -> Option Int
 | none => some len
 | some (.int _ i) => some i
 | _ => none
def t5 (C : Ctx) (t : TypeId) (x : AV) (lo hi mx : Option AV) : Option (Prop × AV) :=
 match x with
 | .str s =>
  if n7 C.P t then
   match mx, CR lo, uO s.size hi with
   | none, some l, some h => some (0 <= l /\ l <= h /\ h <= s.size, .str (s.extract l.toNat h.toNat))
   | _, _, _ => none
  else none
 | .slice sz full rows =>
  match elT C.P t with
  | some e =>
   if sz = szT C.P e /\ 0 < sz then
    match mx, CR lo, uO rows.length hi with
    | none, some l, some h => some (0 <= l /\ l <= h /\ h <= rows.length, .slice sz (full && hi.isNone) ((rows.take h.toNat).drop l.toNat))
    | some (.int _ m), some l, some h => some (0 <= l /\ l <= h /\ h <= rows.length /\ m = h /\ hi.isSome = true, .slice sz true ((rows.take h.toNat).drop l.toNat))
    | _, _, _ => none
   else none
  | none => none
 | .own b n =>
  match elT C.P t with
  | some e =>
   if 0 < szT C.P e then
    match mx, CR lo, uO n hi with
    | none, some l, some h => some (0 <= l /\ l <= h /\ h <= n, .osl b n (szT C.P e) l.toNat (h.toNat - l.toNat))
    | some (.int _ m), some l, some h => some (0 <= l /\ l <= h /\ h <= m /\ m <= n /\ hi.isSome = true, .undef)
    | _, _, _ => none
   else none
  | none => none
 | .osl b n sz off len =>
  match elT C.P t with
  | some e =>
   if sz = szT C.P e /\ 0 < sz then
    match mx, CR lo, uO len hi with
    | none, some l, some h => some (0 <= l /\ l <= h /\ (h <= len ∨ (off : Int) + h <= n), .osl b n sz (off + l.toNat) (h.toNat - l.toNat))
    | _, _, _ => none
   else none
  | none => none
 | _ => none
def i7 (C : Ctx) (place : Nat -> Option (Nat × TypeId)) : List AV -> List (Nat × AV) -> Option (List AV)
 | cells, [] => some cells
 | cells, (k, v) :: r =>
  match place k with
  | some (off, ty) => match ic C ty v with
   | some cs => if off + cs.length <= cells.length then i7 C place (splice cells off cs) r else none
   | none => none
  | none => none
def yM (C : Ctx) (t : TypeId) (k : Nat) : TypeId := match bT C.P t k with | some (_, ty) => ty | none => 0
def mf (C : Ctx) (ρ : List (Nat × AV)) (t : TypeId) (parts : List (Nat × Operand)) : Option (Prop × AV) :=
 match zT C.P t with
 | some z =>
  match eB C.P t with
  | none => match i7 C (bT C.P t) z (parts.map λ p => (p.1, aev C ρ (yM C t p.1) p.2)) with
   | some cs => if gF C.P t then some (True, .agg cs) else none
   | none => none
  | some (_, e) => if szT C.P e = 0 then none else match i7 C (λ k => some (k * szT C.P e, e)) z (parts.map λ p => (p.1, aev C ρ e p.2)) with
   | some cs => some (True, .agg cs)
   | none => none
 | none => none
def HY (C : Ctx) (t : TypeId) (x : AV) : Option (Prop × AV) :=
 match x with
 | .mapp b => match C.G b with
  | .mapof k e L => if BK C.P t = some (k, e) then some (True, .int .i64 (An L)) else none
  | _ => none
 | .str s => if n7 C.P t then some (True, .int .i64 s.size) else none
 | .slice _ _ rows => match elT C.P t with | some _ => some (True, .int .i64 rows.length) | none => none
 | .own _ n => match elT C.P t with | some _ => some (True, .int .i64 n) | none => none
 | .osl _ _ _ _ n => match elT C.P t with | some _ => some (True, .int .i64 n) | none => none
 | _ => match eB C.P t with | some (n, _) => some (True, .int .i64 n) | none => none
def zh (C : Ctx) (t : TypeId) (m x : AV) (ok : Bool) : Option (Prop × AV) :=
 match m with
 | .mapp b => match C.G b with
  | .mapof k e L =>
   if BK C.P t = some (k, e) then
    match rx C.P k x, EP C.P e with
    | some (ob, kl), some z => some (ob, if ok then .tup [Et (u6 L kl z), .bool (DB L kl)] else Et (u6 L kl z))
    | _, _ => none
   else none
  | _ => none
 | _ => none
def zS (c a b : AV) : Option (Prop × AV) :=
 match c with
 | .bool x => match a, b with
  | .bool y, .bool z => some (True, .bool (if x then y else z))
  | a, b => some (True, if x then a else b)
 | _ => none
def uY : List AV -> Option AV
 | [.int k a, .int k' b] => if k = k' then some (.int k (if b > a then b else a)) else none
 | [.int k a, .int k' b, .int k'' c] => if k = k' /\ k = k'' then some (.int k (if c > (if b > a then b else a) then c else (if b > a then b else a))) else none
 | _ => none
def M3 : List AV -> Option AV
 | [.int k a, .int k' b] => if k = k' then some (.int k (if b < a then b else a)) else none
 | _ => none
def bL (H : List Blk) : Nat -> AV -> AV
 | 0, v => if v.isDeep then v else .undef
 | d + 1, v =>
  match v with
  | .own l n => match H[l]? with
   | some b => if b.rows.length = n then .slice b.sz false (if b.deep then b.rows else b.rows.map λ r => r.map (bL H d)) else .undef
   | none => .undef
  | .osl l n sz off len => match H[l]? with
   | some b => if b.rows.length = n /\ b.sz = sz then .slice b.sz false (if b.deep then (b.rows.drop off).take len else ((b.rows.drop off).take len).map λ r => r.map (bL H d)) else .undef
   | none => .undef
  | .ptr l n sz i f => match H[l]? with
   | some b => if b.rows.length = n /\ b.sz = sz /\ i < n then .iptr (if b.deep then (kw b.rows i).drop f else ((kw b.rows i).drop f).map (bL H d)) else .undef
   | none => .undef
  | .agg cs => .agg (cs.map (bL H d))
  | .tup cs => .tup (cs.map (bL H d))
  | .fn f cs => .fn f (cs.map (bL H d))
  | v => v
def bI (H : List Blk) : Nat -> AV -> List Nat
 | 0, _ => []
 | d + 1, v =>
  match v with
  | .own l _ => l :: (match H[l]? with
   | some b => if b.deep then [] else b.rows.flatMap λ r => r.flatMap (bI H d)
   | none => [])
  | .osl l _ _ _ _ => l :: (match H[l]? with
   | some b => if b.deep then [] else b.rows.flatMap λ r => r.flatMap (bI H d)
   | none => [])
  | .ptr l _ _ _ _ => l :: (match H[l]? with
   | some b => if b.deep then [] else b.rows.flatMap λ r => r.flatMap (bI H d)
   | none => [])
  | .agg cs => cs.flatMap (bI H d)
  | .tup cs => cs.flatMap (bI H d)
  | .fn _ cs => cs.flatMap (bI H d)
  | _ => []
def jY (ls : List Nat) : Nat -> List Blk -> List Blk
 | _, [] => []
 | i, b :: r => (if ls.contains i then { b with mu := false } else b) :: jY ls (i + 1) r
def unB (rows : List (List AV)) : ByteArray := ⟨(rows.map λ r => match r with | [.int _ n] => UInt8.ofNat n.toNat | _ => 0).toArray⟩
def n8 : AV -> AV
 | .slice sz _ r => .slice sz false r
 | v => v
def vu (C : Ctx) (H : List Blk) (t : TypeId) (p : AV) : Option (Prop × AV) :=
 match p with
 | .iptr cs => pi C t cs
 | .ptr l n sz i f => match H[l]? with
  | some b => match pi C t ((kw b.rows i).drop f) with
   | some (ob, v) => some ((b.rows.length = n /\ b.sz = sz /\ i < n) /\ ob, v)
   | none => none
  | none => none
 | _ => none
def AV.scal : AV -> Bool
 | .bool _ | .int _ _ | .str _ => true
 | _ => false
def AV.deepArg : AV -> Bool
 | .agg cs => cs.all AV.isDeep
 | .fn _ cs => cs.all AV.isDeep
 | v => v.isDeep
def kU (C : Ctx) (e : TypeId) : Nat -> List (Nat × AV) -> Option (List (List AV))
 | _, [] => some []
 | i, (k, v) :: r =>
  if k = i then
   match ic C e v, kU C e (i + 1) r with
   | some cs, some rest => some (cs.map n8 :: rest)
   | _, _ => none
  else none
def bO (C : Ctx) (t : TypeId) (len : Nat) (parts : List (Nat × AV)) : Option (Prop × AV) :=
 match elT C.P t with
 | some e =>
  if szT C.P e = 0 ∨ (zT C.P e).isNone ∨ parts.length ≠ len ∨ 1000000 < len * szT C.P e then none else
  match kU C e 0 parts with
  | some rows => some (True, .slice (szT C.P e) true rows)
  | none => none
 | none => none
def aW (C : Ctx) (ρ : List (Nat × AV)) (t : TypeId) (parts : List (Nat × Operand)) : List (Nat × AV) :=
 match elT C.P t with
 | some e => parts.map λ p => (p.1, aev C ρ e p.2)
 | none => []
def ke (C : Ctx) (H : List Blk) (src dst : TypeId) (x : AV) : Option (Prop × AV) :=
 match elT C.P src with
 | some e =>
  if n7 C.P dst && Fe C.P e && szT C.P e == 1 then
   match bL H 6 x with
   | .slice 1 _ rows => some (rows = dI (unB rows), .str (unB rows))
   | _ => none
  else none
 | none => none
def AV.flat1 : AV -> Bool
 | .bool _ | .int _ _ | .str _ | .nilptr => true
 | _ => false
def AV.isFlat : AV -> Bool
 | .tup vs => vs.all λ x => match x with | .agg cs => cs.all AV.flat1 | x => x.flat1
 | .agg cs => cs.all AV.flat1
 | v => v.flat1
def cg (C : Ctx) (ρ : List (Nat × AV)) : List Operand -> List TypeId -> List AV
 | [], _ => []
 | x :: r, t :: q => aev C ρ t x :: cg C ρ r q
 | x :: r, [] => aev C ρ 0 x :: cg C ρ r []
def eX (H : List Blk) (p : List AV -> Option (Prop × AV)) (args : List AV) : Option (Prop × AV) :=
 match p (args.map (bL H 6)) with
 | some (ob, r) => if r.isFlat || args.all AV.deepArg then some (ob, r) else none
 | none => none
def target (C : Ctx) (ρ : List (Nat × AV)) (c : Call) : Option (FuncId × List AV) :=
 match c.callee with
 | .value f => match aev C ρ 0 f with
  | .fn g cap => some (g, cg C ρ c.args.toList c.argTypes.toList ++ cap)
  | _ => none
 | _ => none
def tk (C : Ctx) (H : List Blk) (t : TypeId) (p x : AV) : Option (Prop × AV × List Blk) :=
 match p with
 | .ptr l n sz i f => match H[l]? with
  | some b =>
   if b.mu = true /\ szT C.P t ≠ 0 then
    match ic C t x with
    | some cs => some (b.rows.length = n /\ b.sz = sz /\ i < n /\ f + cs.length <= sz, .tup [],
      H.set l { b with rows := b.rows.set i (splice (kw b.rows i) f cs), deep := b.deep && cs.all AV.isDeep })
    | none => none
   else none
  | none => none
 | _ => none
def ze (C : Ctx) (H : List Blk) (t : TypeId) (l c : AV) : Option (Prop × AV × List Blk) :=
 match elT C.P t, l, c with
 | some e, .int _ l, .int _ c => match zT C.P e with
  | some z => some (0 <= l /\ l <= c /\ c.toNat * byT C.P e <= 140737488355328 /\ c < 1000000000000, .own H.length l.toNat, H ++ [⟨e, szT C.P e, List.replicate l.toNat z, true, z.all AV.isDeep⟩])
  | none => none
 | _, _, _ => none
def k8 (C : Ctx) (H : List Blk) (t : TypeId) (s x : AV) : Option (Prop × AV × List Blk) :=
 match elT C.P t with
 | some e =>
  if (zT C.P e).isNone then none else
  match (match x with
   | .slice sx _ ys => if sx = szT C.P e then some (True, ys, true) else none
   | .own l' n' => match H[l']? with
    | some b' => if b'.sz = szT C.P e then some (b'.rows.length = n', b'.rows, b'.deep) else none
    | none => none
   | .osl l' n' sz' off len => match H[l']? with
    | some b' => if b'.sz = szT C.P e /\ sz' = szT C.P e then some (b'.rows.length = n', (b'.rows.drop off).take len, b'.deep) else none
    | none => none
   | _ => none : Option (Prop × List (List AV) × Bool)) with
  | some (ob, ys, dp) =>
   match s with
   | .slice sz true rows =>
    if sz = szT C.P e then
     some (ob /\ (rows = [] ∨ ys ≠ []) /\ (rows ++ ys).length * byT C.P e <= 140737488355328 /\ (rows ++ ys).length < 1000000000000, .own H.length (rows ++ ys).length, H ++ [⟨e, sz, rows ++ ys, true, dp⟩])
    else none
   | .own l n => match H[l]? with
    | some b =>
     if b.mu = true /\ b.e = e /\ b.sz = szT C.P e then
      some (ob /\ (dp = true ∨ ys ≠ []) /\ b.rows.length = n /\ (b.rows ++ ys).length * byT C.P e <= 140737488355328 /\ (b.rows ++ ys).length < 1000000000000, .own l (b.rows ++ ys).length, H.set l { b with rows := b.rows ++ ys, deep := b.deep && dp })
     else none
    | none => none
   | _ => none
  | none => none
 | none => none
def vz (C : Ctx) (H : List Blk) (t : TypeId) (s x : AV) : Option (Prop × AV × List Blk) :=
 match s with
 | .osl l n sz off len =>
  if off ≠ 0 then none else
  if len = n then
   match k8 C H t (.own l n) x, H[l]? with
   | some (ob, r, H'), some b => some (ob /\ 0 < n /\ b.rows.length = n /\ b.sz = sz, r, H')
   | _, _ => none
  else
   match elT C.P t, H[l]?, x with
   | some e, some b, .slice sx _ ys =>
    if (zT C.P e).isNone then none else
    if sx = szT C.P e /\ b.mu = true /\ b.e = e /\ b.sz = szT C.P e /\ sz = szT C.P e then
     some (b.rows.length = n /\ ys ≠ [] /\ len + ys.length <= n, (if len + ys.length = n then .own l n else .osl l n sz 0 (len + ys.length)), H.set l { b with rows := b.rows.take len ++ ys ++ b.rows.drop (len + ys.length) })
    else none
   | some e, some b, .osl l' n' sz' off' len' =>
    if (zT C.P e).isNone then none else
    if l' = l /\ n' = n /\ sz' = szT C.P e /\ b.mu = true /\ b.e = e /\ b.sz = szT C.P e /\ sz = szT C.P e then
     some (b.rows.length = n /\ len + len' <= n, .osl l n sz 0 (len + len'), H.set l { b with rows := b.rows.take len ++ (b.rows.drop off').take len' ++ b.rows.drop (len + len') })
    else none
   | _, _, _ => none
 | s => k8 C H t s x
def Sv (C : Ctx) (H : List Blk) (e : TypeId) (x : AV) : Option (Prop × List (List AV) × Bool) :=
 match x with
 | .slice sx _ ys => if sx = szT C.P e then some (True, ys, true) else none
 | .own l' n' => match H[l']? with
  | some b' => if b'.sz = szT C.P e then some (b'.rows.length = n', b'.rows, b'.deep) else none
  | none => none
 | .osl l' n' sz' off len => match H[l']? with
  | some b' => if b'.sz = szT C.P e /\ sz' = szT C.P e then some (b'.rows.length = n', (b'.rows.drop off).take len, b'.deep) else none
  | none => none
 | _ => none
def L5 (C : Ctx) (e : TypeId) (s : AV) : Option (Nat × Nat × Nat × Nat) :=
 match s with
 | .own l n => some (l, n, 0, n)
 | .osl l n sz off len => if sz = szT C.P e then some (l, n, off, len) else none
 | _ => none
def y6 (C : Ctx) (H : List Blk) (t : TypeId) (s x : AV) : Option (Prop × AV × List Blk) :=
 match elT C.P t with
 | some e => if szT C.P e = 0 then none else
  match Sv C H e x, L5 C e s with
  | some (ob, ys, dp), some (l, n, off, len) => match H[l]? with
   | some b => if b.mu = true /\ b.sz = szT C.P e then
     some (ob /\ b.rows.length = n, .int .i64 (min ys.length len : Nat), H.set l { b with rows := b.rows.take off ++ ys.take len ++ b.rows.drop (off + min ys.length len), deep := b.deep && dp })
    else none
   | none => none
  | _, _ => none
 | none => none
def ye (C : Ctx) (H : List Blk) (t : TypeId) (s : AV) : Option (Prop × AV × List Blk) :=
 match elT C.P t, s with
 | some e, .osl l n sz off len =>
  match zT C.P e, H[l]? with
  | some z, some b =>
   if b.mu = true /\ sz = szT C.P e then
    some (b.rows.length = n /\ b.sz = sz, .tup [], H.set l { b with rows := b.rows.take off ++ List.replicate len z ++ b.rows.drop (off + len), deep := b.deep && z.all AV.isDeep })
   else none
  | _, _ => none
 | _, _ => none
def Bb : AV -> Bool
 | .ptr _ _ _ _ _ => true
 | _ => false
def j4 (C : Ctx) (H : List Blk) (t : TypeId) (len : Nat) (parts : List (Nat × AV)) : Option (Prop × AV × List Blk) :=
 match elT C.P t, parts with
 | some e, [(0, .ptr l n sz i f)] =>
  if szT C.P e = 1 /\ (zT C.P e).isSome /\ len = 1 then some (True, .own H.length 1, H ++ [⟨e, 1, [[.ptr l n sz i f]], true, false⟩]) else none
 | _, _ => none
def w8 (C : Ctx) (H : List Blk) (t : TypeId) (cs : Option (List AV)) : Option (Prop × AV × List Blk) :=
 match cs with
 | some cs => if szT C.P t = cs.length /\ 0 < cs.length then some (True, .ptr H.length 1 (szT C.P t) 0 0, H ++ [⟨t, szT C.P t, [cs], true, cs.all AV.isDeep⟩]) else none
 | none => none
inductive Kd where
 | pure | read | eff
def kdE : Entry -> Kd
 | .pure _ => .read
 | _ => .eff
def bu (C : Ctx) (o : Oper) : Kd :=
 match o.op with
 | .load _ _ => .read
 | .buildSlice t _ _ => match elT C.P t with
  | some e => (match zT C.P e with | some z => if z.all AV.scal then .read else .eff | none => .eff)
  | none => .eff
 | .alloc _ => .eff
 | .box _ _ => .eff
 | .store _ _ _ => .eff
 | .makeSlice _ _ _ => .eff
 | .convert src _ _ => match elT C.P src with | some _ => .read | none => .pure
 | .call c => match c.callee with
  | .builtin .append => .eff
  | .builtin .clear => .eff
  | .builtin .copy => .eff
  | .builtin _ => .pure
  | .value (.func f) => kdE (C.S f)
  | _ => .eff
 | _ => .pure
def pA (C : Ctx) (ρ : List (Nat × AV)) (o : Oper) : Option (Prop × AV) :=
 match o.op with
 | .move x => some (True, aev C ρ o.type x)
 | .assign x => some (True, aev C ρ o.type x)
 | .pick c a b => zS (aev C ρ 0 c) (aev C ρ o.type a) (aev C ρ o.type b)
 | .binOp op t x y ty => if oz y then Ax C op t (aev C ρ t x) else KD C op t (aev C ρ t x) (aev C ρ ty y)
 | .unOp op _ x => aun op (aev C ρ o.type x)
 | .convert src dst x => AL C src dst (aev C ρ src x)
 | .field t x k => ut C t (aev C ρ t x) k
 | .fieldAddr t x k => je C t (aev C ρ 0 x) k
 | .indexAddr t x ix => jr C t (aev C ρ t x) (aev C ρ 0 ix)
 | .index t x ix => tJ C t (aev C ρ t x) (aev C ρ 0 ix)
 | .slice t x lo hi mx => t5 C t (aev C ρ t x) (lo.map (aev C ρ 0)) (hi.map (aev C ρ 0)) (mx.map (aev C ρ 0))
 | .extract x k => match aev C ρ 0 x with
  | .tup vs => match vs[k]? with | some v => some (True, v) | none => none
  | _ => none
 | .makeFunc (.func f) first cap => if first.size = 0 then some (True, .fn f (cap.toList.map (aev C ρ 0))) else none
 | .nilCheck x => match aev C ρ 0 x with
  | .ptr l n sz i f => some (True, .ptr l n sz i f)
  | .iptr cs => some (True, .iptr cs)
  | .fn f cap => some (True, .fn f cap)
  | _ => none
 | .build t parts => mf C ρ t parts.toList
 | .lookup t m x ok => zh C t (aev C ρ t m) (aev C ρ 0 x) ok
 | .call c => match c.callee with
  | .builtin .len => match c.args.toList, c.argTypes.toList with
   | [x], [t] => HY C t (aev C ρ t x)
   | _, _ => none
  | .builtin .max => match uY (cg C ρ c.args.toList c.argTypes.toList) with | some v => some (True, v) | none => none
  | .builtin .min => match M3 (cg C ρ c.args.toList c.argTypes.toList) with | some v => some (True, v) | none => none
  | _ => none
 | _ => none
def ua (C : Ctx) (ρ : List (Nat × AV)) (H : List Blk) (o : Oper) : Option (Prop × AV) :=
 match o.op with
 | .load t p => vu C H t (aev C ρ 0 p)
 | .buildSlice t len parts => if (aW C ρ t parts.toList).all (λ p => p.2.deepArg) then bO C t len (aW C ρ t parts.toList) else none
 | .convert src dst x => ke C H src dst (aev C ρ src x)
 | .call c => match target C ρ c with
  | some (f, args) => match C.S f with
   | .pure p => eX H p args
   | _ => none
  | none => none
 | _ => none
def yQ (C : Ctx) (ρ : List (Nat × AV)) (H : List Blk) (o : Oper) : Option (Prop × AV × List Blk) :=
 match o.op with
 | .alloc t => w8 C H t (zT C.P t)
 | .box t x => w8 C H t (ic C t (aev C ρ t x))
 | .store t p x => tk C H t (aev C ρ 0 p) (aev C ρ t x)
 | .buildSlice t len parts => if (aW C ρ t parts.toList).any (λ p => Bb p.2) then j4 C H t len (aW C ρ t parts.toList) else match bO C t len ((aW C ρ t parts.toList).map λ p => (p.1, bL H 6 p.2)) with
  | some (ob, v) => some (ob, v, jY ((aW C ρ t parts.toList).flatMap λ p => bI H 6 p.2) 0 H)
  | none => none
 | .makeSlice t l c => ze C H t (aev C ρ 0 l) (aev C ρ 0 c)
 | .call c => match c.callee with
  | .builtin .append => match c.args.toList, c.argTypes.toList with
   | [s, x], [t, t'] => if t = t' then vz C H t (aev C ρ t s) (aev C ρ t' x) else none
   | _, _ => none
  | .builtin .clear => match c.args.toList, c.argTypes.toList with
   | [s], [t] => ye C H t (aev C ρ t s)
   | _, _ => none
  | .builtin .copy => match c.args.toList, c.argTypes.toList with
   | [s, x], [t, t'] => if t = t' then y6 C H t (aev C ρ t s) (aev C ρ t' x) else none
   | _, _ => none
  | _ => match target C ρ c with
   | some (f, args) => match C.S f with
    | .pure p => match eX H p args with | some (ob, r) => some (ob, r, H) | none => none
    | .frz p => match p (args.map (bL H 6)) with | some (ob, r) => some (ob, r, jY (args.flatMap (bI H 6)) 0 H) | none => none
    | .gen g => g args H
    | .no => none
   | none => none
 | _ => none
def aI (C : Ctx) (st : ASt) (o : Oper) : Option (Prop × AV × List Blk) :=
 match bu C o with
 | .pure => match pA C st.ρ o with | some (ob, v) => some (ob, v, st.H) | none => none
 | .read => match ua C st.ρ st.H o with | some (ob, v) => some (ob, v, st.H) | none => none
 | .eff => yQ C st.ρ st.H o
def bg (ops : Array Oper) (ρ : List (Nat × AV)) (o : Oper) : Option Bool :=
 match o.guard with
 | none => some true
 | some (j, want) => match (ops[j]?).bind (·.dst) with
  | some d => match aZ ρ d with
   | .bool b => some (b == want)
   | .tup [] => some false
   | _ => none
  | none => none
def gQ (C : Ctx) (ops : Array Oper) : List Oper -> ASt -> (ASt -> Prop) -> Prop
 | [], st, K => K st
 | o :: r, st, K =>
  match bg ops st.ρ o with
  | none => False
  | some g =>
   (g = true -> match aI C st o with
    | some (ob, v, H') => ob /\ gQ C ops r ⟨b7 st.ρ o.dst v, H'⟩ K
    | none => False) /\
   (g = false -> gQ C ops r ⟨b7 st.ρ o.dst (.tup []), st.H⟩ K)
inductive BI where
 | nil
 | lies (b cap : Nat)
inductive RepD (w : World) (X : Nat -> Prop) : Value -> AV -> Prop
 | undef (v : Value) : RepD w X v .undef
 | bool (b : Bool) : RepD w X (.bool b) (.bool b)
 | int (k : IntKind) (n : Int) : RepD w X (.int k n) (.int k n)
 | str (s : ByteArray) : RepD w X (.string s) (.str s)
 | nilptr : RepD w X (.pointer none) .nilptr
 | anyb (b : Bool) : RepD w X (.bool b) .anyb
 | mapp (b : Nat) : RepD w X (.map (some b)) (.mapp b)
 | tab (b : Nat) (k : IntKind) (zs : List Int) (t : TypeId) (fr : Nat × Nat) (hb : w.heap[b]? = some (.cells (zs.map (Value.int k)).toArray t fr)) (hX : ¬ X b) : RepD w X (.pointer (some ⟨b, 0, none⟩)) (.tab k zs)
 | slice (sz : Nat) (full : Bool) (rows : List (List AV)) (a : Option Addr) (n cap : Nat) (val : Nat -> Nat -> Value) (hn : n = rows.length) (h1 : rows.length <= cap) (h2 : cap <= maxLen) (h3 : full = true -> cap = rows.length)
   (hr : ∀ r ∈ rows, r.length = sz)
   (hm : rows.length ≠ 0 -> ∃ b off, a = some ⟨b, off, none⟩ /\ b < w.heap.size /\ ¬ X b /\ ∀ i j, i < rows.length -> j < sz -> w.cell? ⟨b, off + i * sz + j, none⟩ = some (val i j) /\ (val i j).oneCell' = true)
   (hv : ∀ i j r v, rows[i]? = some r -> r[j]? = some v -> RepD w X (val i j) v) : RepD w X (.slice a n cap) (.slice sz full rows)
 | iptr (b off : Nat) (cells : List AV) (val : Nat -> Value) (hb : b < w.heap.size) (hX : ¬ X b) (hm : ∀ j, j < cells.length -> w.cell? ⟨b, off + j, none⟩ = some (val j) /\ (val j).oneCell' = true)
   (hv : ∀ j v, cells[j]? = some v -> RepD w X (val j) v) : RepD w X (.pointer (some ⟨b, off, none⟩)) (.iptr cells)
 | agg (cs : Array Value) (cells : List AV) (val : Nat -> Value) (hl : cs.size = cells.length) (hm : ∀ j, j < cells.length -> cs[j]? = some (val j) /\ (val j).oneCell' = true)
   (hv : ∀ j v, cells[j]? = some v -> RepD w X (val j) v) : RepD w X (.agg cs) (.agg cells)
 | tup (cs : Array Value) (cells : List AV) (val : Nat -> Value) (hl : cs.size = cells.length) (hm : ∀ j, j < cells.length -> cs[j]? = some (val j))
   (hv : ∀ j v, cells[j]? = some v -> RepD w X (val j) v) : RepD w X (.tuple cs) (.tup cells)
 | fn (f : FuncId) (cs : Array Value) (cells : List AV) (val : Nat -> Value) (hl : cs.size = cells.length) (hm : ∀ j, j < cells.length -> cs[j]? = some (val j))
   (hv : ∀ j v, cells[j]? = some v -> RepD w X (val j) v) : RepD w X (.func (.func f) #[] cs) (.fn f cells)
theorem RepD.keep {w w' : World} {X X' : Nat -> Prop} {v : Value} {av : AV} (h : RepD w X v av) (hk : ∀ b, b < w.heap.size -> ¬ X b -> w'.heap[b]? = w.heap[b]?) (hs : w.heap.size <= w'.heap.size)
  (hX : ∀ b, b < w.heap.size -> X' b -> X b) : RepD w' X' v av := by
 induction h with
 | undef v => exact .undef v
 | bool b => exact .bool b
 | int k n => exact .int k n
 | str s => exact .str s
 | nilptr => exact .nilptr
 | anyb b => exact .anyb b
 | mapp b => exact .mapp b
 | tab b k zs t fr hb hx =>
  have hlt : b < w.heap.size := by
   rcases Nat.lt_or_ge b w.heap.size with h | h
   ·exact h
   ·rw [Array.getElem?_eq_none h] at hb; cases hb
  exact .tab b k zs t fr ((hk b hlt hx).trans hb) (λ h => hx (hX b hlt h))
 | slice sz full rows a n cap val hn h1 h2 h3 hr hm hv ih =>
  refine .slice sz full rows a n cap val hn h1 h2 h3 hr (λ h0 => ?_) ih
  obtain ⟨b, off, rfl, hb, hx, hc⟩ := hm h0
  exact ⟨b, off, rfl, by omega, λ h => hx (hX b hb h), λ i j hi hj => ⟨(World.cell?_of_block (hk b hb hx)).trans (hc i j hi hj).1, (hc i j hi hj).2⟩⟩
 | iptr b off cells val hb hx hm hv ih =>
  exact .iptr b off cells val (by omega) (λ h => hx (hX b hb h)) (λ j hj => ⟨(World.cell?_of_block (hk b hb hx)).trans (hm j hj).1, (hm j hj).2⟩) ih
 | agg cs cells val hl hm hv ih => exact .agg cs cells val hl hm ih
 | tup cs cells val hl hm hv ih => exact .tup cs cells val hl hm ih
 | fn f cs cells val hl hm hv ih => exact .fn f cs cells val hl hm ih
theorem RepD.mono {w : World} {X X' : Nat -> Prop} {v : Value} {av : AV} (h : RepD w X v av) (hX : ∀ b, b < w.heap.size -> X' b -> X b) : RepD w X' v av :=
 h.keep (λ _ _ _ => rfl) (le_refl _) hX
def Jw : Option BI -> Option Addr -> Nat -> Nat -> Prop
 | some .nil, _, n, cap => n = 0 /\ cap = 0
 | some (.lies b c), a, _, cap => a = some ⟨b, 0, none⟩ /\ cap = c
 | none, _, _, _ => False
def N7 : Option BI -> Option Addr -> Nat -> Nat -> Nat -> Nat -> Prop
 | some .nil, _, _, off, len, cap => off = 0 /\ len = 0 /\ cap = 0
 | some (.lies b c), a, sz, off, len, cap => off + len <= c /\ cap = c - off /\ (off < c -> a = some ⟨b, off * sz, none⟩)
 | none, _, _, _, _, _ => False
inductive Rep (w : World) (X : Nat -> Prop) (β : List BI) (H : List Blk) : Value -> AV -> Prop
 | deep {v : Value} {av : AV} (h : RepD w X v av) : Rep w X β H v av
 | own (l n : Nat) (a : Option Addr) (cap : Nat) (b : Blk) (hb : H[l]? = some b) (hn : n <= b.rows.length) (h0 : n = 0 ∨ ∃ x, a = some x) (hc : n <= cap) (hx : b.rows.length = n -> Jw β[l]? a n cap) : Rep w X β H (.slice a n cap) (.own l n)
 | osl (l n sz off len : Nat) (a : Option Addr) (cap : Nat) (b : Blk) (hb : H[l]? = some b) (hn : n <= b.rows.length) (hle : off + len <= n) (h0 : off = n ∨ ∃ x, a = some x) (hc : n <= off + cap) (hx : b.rows.length = n -> b.sz = sz -> N7 β[l]? a sz off len cap) : Rep w X β H (.slice a len cap) (.osl l n sz off len)
 | ptr (l n sz i f : Nat) (a : Addr) (b : Blk) (hb : H[l]? = some b) (hn : n <= b.rows.length) (hx : b.rows.length = n -> b.sz = sz -> i < n -> ∃ bk cap, β[l]? = some (BI.lies bk cap) /\ a = ⟨bk, i * sz + f, none⟩) : Rep w X β H (.pointer (some a)) (.ptr l n sz i f)
 | agg (cs : Array Value) (cells : List AV) (val : Nat -> Value) (hl : cs.size = cells.length) (hm : ∀ j, j < cells.length -> cs[j]? = some (val j) /\ (val j).oneCell' = true)
   (hv : ∀ j v, cells[j]? = some v -> Rep w X β H (val j) v) : Rep w X β H (.agg cs) (.agg cells)
 | tup (cs : Array Value) (cells : List AV) (val : Nat -> Value) (hl : cs.size = cells.length) (hm : ∀ j, j < cells.length -> cs[j]? = some (val j))
   (hv : ∀ j v, cells[j]? = some v -> Rep w X β H (val j) v) : Rep w X β H (.tuple cs) (.tup cells)
 | fn (f : FuncId) (cs : Array Value) (cells : List AV) (val : Nat -> Value) (hl : cs.size = cells.length) (hm : ∀ j, j < cells.length -> cs[j]? = some (val j))
   (hv : ∀ j v, cells[j]? = some v -> Rep w X β H (val j) v) : Rep w X β H (.func (.func f) #[] cs) (.fn f cells)
def MutB (β : List BI) (H : List Blk) (b : Nat) : Prop := ∃ (l c : Nat) (blk : Blk), β[l]? = some (BI.lies b c) /\ H[l]? = some blk /\ blk.mu = true
def Mu (X : Nat -> Prop) (β : List BI) (H : List Blk) (b : Nat) : Prop := X b ∨ MutB β H b
def BlkRep (w : World) (X : Nat -> Prop) (β : List BI) (H : List Blk) : BI -> Blk -> Prop
 | .nil, b => b.rows = [] /\ 0 < b.sz
 | .lies bk cap, b => ∃ cur, w.heap[bk]? = some (.cells cur b.e (0, 0)) /\ cur.size = cap * b.sz /\ b.rows.length <= cap /\ cap <= maxLen /\ 0 < b.sz /\ (∀ r ∈ b.rows, r.length = b.sz) /\
   ∀ i j r av, b.rows[i]? = some r -> r[j]? = some av -> ∃ v, cur[i * b.sz + j]? = some v /\ v.oneCell' = true /\ Rep w X β H v av /\ (b.deep = true -> RepD w X v av)
structure HRel (w : World) (X : Nat -> Prop) (β : List BI) (H : List Blk) : Prop where
 len : β.length = H.length
 blk : ∀ (l : Nat) (bi : BI) (b : Blk), β[l]? = some bi -> H[l]? = some b -> BlkRep w (Mu X β H) β H bi b
 lt : ∀ (l b c : Nat), β[l]? = some (BI.lies b c) -> b < w.heap.size /\ ¬ X b
 inj : ∀ (l l' b c c' : Nat), β[l]? = some (BI.lies b c) -> β[l']? = some (BI.lies b c') -> l = l'
 base : ∀ b, X b -> b < w.heap.size
set_option linter.unusedVariables false in
def Drawn (w w' : World) : Prop := w.drawn <= w'.drawn
set_option linter.unusedVariables false in
theorem Drawn.of_le {w w' : World} (h : w.drawn <= w'.drawn) : Drawn w w' := by first | exact h | trivial
theorem Drawn.refl (w : World) : Drawn w w := Drawn.of_le (le_refl _)
set_option linter.unusedVariables false in
theorem Drawn.trans {a b c : World} (h : Drawn a b) (h' : Drawn b c) : Drawn a c := by first | exact le_trans h h' | trivial
structure Keeps (M : Nat -> Prop) (w w' : World) : Prop where
 os : w'.os = w.os
 tape : w'.tape = w.tape
 output : w'.output = w.output
 size : w.heap.size <= w'.heap.size
 block : ∀ b, b < w.heap.size -> ¬ M b -> w'.heap[b]? = w.heap[b]?
 drawn : Drawn w w'
structure Grow (β : List BI) (H : List Blk) (β' : List BI) (H' : List Blk) (s : Nat) : Prop where
 old : ∀ (l : Nat) (b : Blk), H[l]? = some b -> ∃ b', H'[l]? = some b' /\ b'.sz = b.sz /\ b'.e = b.e /\ b.rows.length <= b'.rows.length /\ (b'.rows.length = b.rows.length -> β'[l]? = β[l]?) /\ (b'.mu = true -> b.mu = true)
 at_ : ∀ (l bk c : Nat), β'[l]? = some (BI.lies bk c) -> s <= bk ∨ ∃ c', β[l]? = some (BI.lies bk c')
structure StepR (w : World) (β : List BI) (H : List Blk) (w' : World) (β' : List BI) (H' : List Blk) : Prop where
 keeps : Keeps (MutB β H) w w'
 grow : Grow β H β' H' w.heap.size
 len : β.length = H.length
theorem Keeps.refl (M : Nat -> Prop) (w : World) : Keeps M w w := ⟨rfl, rfl, rfl, le_refl _, λ _ _ _ => rfl, Drawn.refl _⟩
theorem Keeps.drew (M : Nat -> Prop) (w : World) : Keeps M w w.drew := ⟨rfl, rfl, rfl, le_refl _, λ _ _ _ => rfl, Drawn.of_le (Nat.le_succ _)⟩
theorem Keeps.alloc (M : Nat -> Prop) (w : World) (o : Obj) : Keeps M w (w.alloc o) := ⟨rfl, rfl, rfl, by simp, λ b hb _ => heap_alloc_old w o hb, Drawn.of_le (le_refl _)⟩
theorem Keeps.trans {M M' : Nat -> Prop} {a b c : World} (h : Keeps M a b) (h' : Keeps M' b c) (hM : ∀ k, k < a.heap.size -> M' k -> M k) : Keeps M a c :=
 ⟨h'.os.trans h.os, h'.tape.trans h.tape, h'.output.trans h.output, le_trans h.size h'.size, λ k hk hn => (h'.block k (Nat.lt_of_lt_of_le hk h.size) (λ hm => hn (hM k hk hm))).trans (h.block k hk hn), h.drawn.trans h'.drawn⟩
theorem Keeps.weaken {M M' : Nat -> Prop} {a b : World} (h : Keeps M a b) (hM : ∀ k, k < a.heap.size -> M k -> M' k) : Keeps M' a b :=
 ⟨h.os, h.tape, h.output, h.size, λ k hk hn => h.block k hk (λ hm => hn (hM k hk hm)), h.drawn⟩
theorem Grow.refl (β : List BI) (H : List Blk) (s : Nat) : Grow β H β H s := ⟨λ _ b h => ⟨b, h, rfl, rfl, le_refl _, λ _ => rfl, id⟩, λ _ _ c h => .inr ⟨c, h⟩⟩
theorem StepR.refl (w : World) (β : List BI) (H : List Blk) (h : β.length = H.length) : StepR w β H w β H := ⟨Keeps.refl _ _, Grow.refl _ _ _, h⟩
theorem B5 {α γ : Type} {l : List α} {m : List γ} (h : l.length = m.length) {i : Nat} {x : α} (hx : l[i]? = some x) : ∃ y, m[i]? = some y := by
 have := (List.getElem?_eq_some_iff.1 hx).1
 exact ⟨m[i]'(by omega), getElem?_eq_getElem _⟩
theorem StepR.mut_ {w : World} {β : List BI} {H : List Blk} {w' : World} {β' : List BI} {H' : List Blk} (s : StepR w β H w' β' H') (b : Nat) (hb : b < w.heap.size) (h : MutB β' H' b) : MutB β H b := by
 obtain ⟨l, c, blk, h1, h2, h3⟩ := h
 rcases s.grow.at_ l b c h1 with hlt | ⟨c', h4⟩
 ·omega
 ·obtain ⟨blk0, h5⟩ := B5 s.len h4
  obtain ⟨b', h6, _, _, _, _, h7⟩ := s.grow.old l blk0 h5
  rw [h2] at h6
  injection h6 with h6
  subst h6
  exact ⟨l, c', blk0, h4, h5, h7 h3⟩
theorem StepR.mu {X : Nat -> Prop} {w : World} {β : List BI} {H : List Blk} {w' : World} {β' : List BI} {H' : List Blk} (s : StepR w β H w' β' H') (b : Nat) (hb : b < w.heap.size) (h : Mu X β' H' b) : Mu X β H b :=
 h.imp id (s.mut_ b hb)
theorem StepR.trans {w : World} {β : List BI} {H : List Blk} {w1 : World} {β1 : List BI} {H1 : List Blk} {w2 : World} {β2 : List BI} {H2 : List Blk}
  (s : StepR w β H w1 β1 H1) (t : StepR w1 β1 H1 w2 β2 H2) : StepR w β H w2 β2 H2 := by
 refine ⟨s.keeps.trans t.keeps s.mut_, ⟨λ l b hb => ?_, λ l bk c h => ?_⟩, s.len⟩
 ·obtain ⟨b1, h1, e1, e2, h2, h3, h4⟩ := s.grow.old l b hb
  obtain ⟨b2, k1, e3, e4, k2, k3, k4⟩ := t.grow.old l b1 h1
  exact ⟨b2, k1, e3.trans e1, e4.trans e2, le_trans h2 k2, λ e => (k3 (by omega)).trans (h3 (by omega)), λ h => h4 (k4 h)⟩
 ·rcases t.grow.at_ l bk c h with h1 | ⟨c', h1⟩
  ·exact .inl (le_trans s.keeps.size h1)
  ·exact s.grow.at_ l bk c' h1
theorem Rep.keep {X : Nat -> Prop} {w : World} {β : List BI} {H : List Blk} {w' : World} {β' : List BI} {H' : List Blk} (s : StepR w β H w' β' H') {v : Value} {av : AV} (h : Rep w (Mu X β H) β H v av) : Rep w' (Mu X β' H') β' H' v av := by
 induction h with
 | deep h => exact .deep (h.keep (λ b hb hn => s.keeps.block b hb (λ hm => hn (.inr hm))) s.keeps.size (λ b hb => s.mu b hb))
 | own l n a cap b hb hn h0 hc hx =>
  obtain ⟨b', h1, _, _, h2, h3, _⟩ := s.grow.old l b hb
  refine .own l n a cap b' h1 (le_trans hn h2) h0 hc λ e => ?_
  rw [h3 (by omega)]
  exact hx (by omega)
 | osl l n sz off len a cap b hb hn hle h0 hc hx =>
  obtain ⟨b', h1, e1, _, h2, h3, _⟩ := s.grow.old l b hb
  refine .osl l n sz off len a cap b' h1 (le_trans hn h2) hle h0 hc λ e e' => ?_
  rw [h3 (by omega)]
  exact hx (by omega) (by omega)
 | ptr l n sz i f a b hb hn hx =>
  obtain ⟨b', h1, e1, _, h2, h3, _⟩ := s.grow.old l b hb
  refine .ptr l n sz i f a b' h1 (le_trans hn h2) λ e e' hi => ?_
  rw [h3 (by omega)]
  exact hx (by omega) (by omega) hi
 | agg cs cells val hl hm hv ih => exact .agg cs cells val hl hm ih
 | tup cs cells val hl hm hv ih => exact .tup cs cells val hl hm ih
 | fn f cs cells val hl hm hv ih => exact .fn f cs cells val hl hm ih
theorem StepR.quiet {w w' : World} {β : List BI} {H : List Blk} (k : Keeps (λ _ => False) w w') (h : β.length = H.length) : StepR w β H w' β H :=
 ⟨k.weaken λ _ _ h => h.elim, Grow.refl _ _ _, h⟩
theorem BlkRep.keep {X : Nat -> Prop} {w : World} {β : List BI} {H : List Blk} {w' : World} {β' : List BI} {H' : List Blk} (s : StepR w β H w' β' H') {bi : BI} {b : Blk} (h : BlkRep w (Mu X β H) β H bi b)
  (hk : ∀ bk c, bi = .lies bk c -> w'.heap[bk]? = w.heap[bk]?) : BlkRep w' (Mu X β' H') β' H' bi b := by
 cases bi with
 | nil => exact h
 | lies bk cap =>
  obtain ⟨cur, h1, h2, h3, h4, h5, h6, h7⟩ := h
  refine ⟨cur, (hk bk cap rfl).trans h1, h2, h3, h4, h5, h6, λ i j r av hr hj => ?_⟩
  obtain ⟨v, k1, k2, k3, k4⟩ := h7 i j r av hr hj
  exact ⟨v, k1, k2, k3.keep s, λ hd => (k4 hd).keep (λ b hb hn => s.keeps.block b hb (λ hm => hn (.inr hm))) s.keeps.size (λ b hb => s.mu b hb)⟩
theorem HRel.quiet {w w' : World} {X : Nat -> Prop} {β : List BI} {H : List Blk} (h : HRel w X β H) (k : Keeps (λ _ => False) w w') : HRel w' X β H where
 len := h.len
 blk := λ l bi b h1 h2 => (h.blk l bi b h1 h2).keep (StepR.quiet k h.len) λ bk c e => by subst e; exact k.block bk (h.lt l bk c h1).1 id
 lt := λ l b c h1 => ⟨Nat.lt_of_lt_of_le (h.lt l b c h1).1 k.size, (h.lt l b c h1).2⟩
 inj := h.inj
 base := λ b hb => Nat.lt_of_lt_of_le (h.base b hb) k.size
section
variable {w : World} {X : Nat -> Prop} {β : List BI} {H : List Blk} {v : Value}
theorem bB {k : IntKind} {n : Int} (h : Rep w X β H v (.int k n)) : v = .int k n := by
 cases h with | deep h => cases h; rfl
theorem ct {b : Bool} (h : Rep w X β H v (.bool b)) : v = .bool b := by
 cases h with | deep h => cases h; rfl
theorem gD {s : ByteArray} (h : Rep w X β H v (.str s)) : v = .string s := by
 cases h with | deep h => cases h; rfl
theorem di {sz : Nat} {full : Bool} {rows : List (List AV)} (h : Rep w X β H v (.slice sz full rows)) : RepD w X v (.slice sz full rows) := by
 cases h with | deep h => exact h
theorem jl {cs : List AV} (h : Rep w X β H v (.iptr cs)) : RepD w X v (.iptr cs) := by
 cases h with | deep h => exact h
theorem gn (h : Rep w X β H v .nilptr) : v = .pointer none := by
 cases h with | deep h => cases h; rfl
theorem tQ {b : Nat} (h : Rep w X β H v (.mapp b)) : v = .map (some b) := by
 cases h with | deep h => cases h; rfl
theorem mz (h : Rep w X β H v .anyb) : ∃ b, v = .bool b := by
 cases h with | deep h => cases h; exact ⟨_, rfl⟩
theorem ir {cells : List AV} (h : Rep w X β H v (.agg cells)) : ∃ (cs : Array Value) (val : Nat -> Value), v = .agg cs /\ cs.size = cells.length /\ (∀ j, j < cells.length -> cs[j]? = some (val j) /\ (val j).oneCell' = true) /\ ∀ j u, cells[j]? = some u -> Rep w X β H (val j) u := by
 cases h with
 | deep h => cases h with | agg cs _ val hl hm hv => exact ⟨cs, val, rfl, hl, hm, λ j u hu => .deep (hv j u hu)⟩
 | agg cs _ val hl hm hv => exact ⟨cs, val, rfl, hl, hm, hv⟩
theorem oP {cells : List AV} (h : Rep w X β H v (.tup cells)) : ∃ (cs : Array Value) (val : Nat -> Value), v = .tuple cs /\ cs.size = cells.length /\ (∀ j, j < cells.length -> cs[j]? = some (val j)) /\ ∀ j u, cells[j]? = some u -> Rep w X β H (val j) u := by
 cases h with
 | deep h => cases h with | tup cs _ val hl hm hv => exact ⟨cs, val, rfl, hl, hm, λ j u hu => .deep (hv j u hu)⟩
 | tup cs _ val hl hm hv => exact ⟨cs, val, rfl, hl, hm, hv⟩
theorem tI {f : FuncId} {cells : List AV} (h : Rep w X β H v (.fn f cells)) : ∃ (cs : Array Value) (val : Nat -> Value), v = .func (.func f) #[] cs /\ cs.size = cells.length /\ (∀ j, j < cells.length -> cs[j]? = some (val j)) /\ ∀ j u, cells[j]? = some u -> Rep w X β H (val j) u := by
 cases h with
 | deep h => cases h with | fn _ cs _ val hl hm hv => exact ⟨cs, val, rfl, hl, hm, λ j u hu => .deep (hv j u hu)⟩
 | fn _ cs _ val hl hm hv => exact ⟨cs, val, rfl, hl, hm, hv⟩
theorem gC {l n : Nat} (h : Rep w X β H v (.own l n)) : ∃ (a : Option Addr) (cap : Nat) (b : Blk), v = .slice a n cap /\ H[l]? = some b /\ n <= b.rows.length /\ (n = 0 ∨ ∃ x, a = some x) /\ (b.rows.length = n -> Jw β[l]? a n cap) := by
 cases h with
 | deep h => cases h
 | own l n a cap b hb hn h0 hc hx => exact ⟨a, cap, b, rfl, hb, hn, h0, hx⟩
theorem BE {l n : Nat} {a : Option Addr} {cap : Nat} (h : Rep w X β H (.slice a n cap) (.own l n)) : n <= cap := by
 cases h with
 | deep h => cases h
 | own l n a cap b hb hn h0 hc hx => exact hc
theorem dU {l n sz off len : Nat} (h : Rep w X β H v (.osl l n sz off len)) : ∃ (a : Option Addr) (cap : Nat) (b : Blk), v = .slice a len cap /\ H[l]? = some b /\ n <= b.rows.length /\ off + len <= n /\ (off = n ∨ ∃ x, a = some x) /\ n <= off + cap /\ (b.rows.length = n -> b.sz = sz -> N7 β[l]? a sz off len cap) := by
 cases h with
 | deep h => cases h
 | osl l n sz off len a cap b hb hn hle h0 hc hx => exact ⟨a, cap, b, rfl, hb, hn, hle, h0, hc, hx⟩
theorem gB {l n sz i f : Nat} (h : Rep w X β H v (.ptr l n sz i f)) : ∃ (a : Addr) (b : Blk), v = .pointer (some a) /\ H[l]? = some b /\ n <= b.rows.length /\ (b.rows.length = n -> b.sz = sz -> i < n -> ∃ bk cap, β[l]? = some (BI.lies bk cap) /\ a = ⟨bk, i * sz + f, none⟩) := by
 cases h with
 | deep h => cases h
 | ptr l n sz i f a b hb hn hx => exact ⟨a, b, rfl, hb, hn, hx⟩
theorem zB {av : AV} (h : Rep w X β H v av) (hc : av.isCell = true) : v.oneCell' = true := by
 cases h with
 | deep h => cases h <;> first | rfl | cases hc
 | own => rfl
 | osl => rfl
 | ptr => rfl
 | agg => cases hc
 | tup => cases hc
 | fn => rfl
theorem mR : Rep w X β H v .undef := .deep (.undef v)
end
def ju (w : World) (X : Nat -> Prop) (β : List BI) (H : List Blk) (a : Act) (ρ : List (Nat × AV)) : Prop := ∀ t, Rep w X β H (a.tmps.getD t undef) (aZ ρ t)
def MapRel (P : Program) (w : World) (b : Nat) (k e : TypeId) (L : List (Lit × Lit)) : Prop :=
 ∃ D : DataW Unit, w.ownsMap P k (plainElem P e) b L.length D /\ Maps.Tidy D /\ (∀ kl z, D.atKey kl (.lit z) = .lit (u6 L kl z)) /\ (∀ kl, Maps.has D kl = DB L kl) /\ Maps.size D = An L
theorem MapRel.lt {P : Program} {w : World} {b : Nat} {k e : TypeId} {L : List (Lit × Lit)} (h : MapRel P w b k e L) : b < w.heap.size := by
 obtain ⟨D, h1, _⟩ := h
 exact h1.lt
theorem MapRel.same {P : Program} {w w' : World} {b : Nat} {k e : TypeId} {L : List (Lit × Lit)} (h : MapRel P w b k e L) (hb : w'.heap[b]? = w.heap[b]?) : MapRel P w' b k e L := by
 obtain ⟨D, ⟨es, clock, h1, h2⟩, h3⟩ := h
 exact ⟨D, ⟨es, clock, hb.trans h1, h2⟩, h3⟩
def GV (P : Program) (w : World) (X : Nat -> Prop) (g : Nat) : AV -> Prop
 | .mapof k e L => MapRel P w g k e L /\ ¬ X g
 | av => RepD w X (.pointer (some ⟨g, 0, none⟩)) av
theorem GV.of_rep {P : Program} {w : World} {X : Nat -> Prop} {g : Nat} {av : AV} (h : RepD w X (.pointer (some ⟨g, 0, none⟩)) av) : GV P w X g av := by
 cases av <;> first | exact h | cases h
theorem GV.rep {P : Program} {w : World} {X : Nat -> Prop} {g : Nat} {av : AV} (h : GV P w X g av) : RepD w X (.pointer (some ⟨g, 0, none⟩)) (gav av) := by
 cases av <;> first | exact h | exact .undef _
theorem GV.keep {P : Program} {w w' : World} {X X' : Nat -> Prop} {g : Nat} {av : AV} (h : GV P w X g av) (hk : ∀ b, b < w.heap.size -> ¬ X b -> w'.heap[b]? = w.heap[b]?) (hs : w.heap.size <= w'.heap.size)
  (hX : ∀ b, b < w.heap.size -> X' b -> X b) : GV P w' X' g av := by
 cases av
 case mapof k e L =>
  obtain ⟨h1, h2⟩ := h
  exact ⟨h1.same (hk g h1.lt h2), λ hx => h2 (hX g h1.lt hx)⟩
 all_goals exact RepD.keep (show RepD w X _ _ from h) hk hs hX
theorem GV.mono {P : Program} {w : World} {X X' : Nat -> Prop} {g : Nat} {av : AV} (h : GV P w X g av) (hX : ∀ b, b < w.heap.size -> X' b -> X b) : GV P w X' g av :=
 h.keep (λ _ _ _ => rfl) (le_refl _) hX
def nQ (C : Ctx) (w : World) (X : Nat -> Prop) : Prop := ∀ g, GV C.P w X g (C.G g)
theorem Gc (P : Program) (t : TypeId) (w : World) (X : Nat -> Prop) (v : Value) : RepD w X v (cav P t v) := by
 unfold cav
 split
 ·exact .bool _
 ·exact .int _ _
 ·exact .str _
 ·split
  ·exact .slice _ true [] none 0 0 (λ _ _ => undef) rfl (le_refl _) (Nat.zero_le _) (λ _ => rfl) (λ r h => by cases h) (λ h => absurd rfl h) (λ i j r v h => by simp at h)
  ·exact .undef _
 ·exact .nilptr
 ·exact .undef _
section
variable {C : Ctx} {w : World} {X : Nat -> Prop} {β : List BI} {H : List Blk} {a : Act} {ρ : List (Nat × AV)}
theorem bq (T : ju w X β H a ρ) (G : nQ C w X) (t : TypeId) (x : Operand) : Rep w X β H (a.eval x) (aev C ρ t x) := by
 cases x with
 | tmp i => exact T i
 | const v => exact .deep (Gc _ _ _ _ _)
 | global g => exact .deep (G g).rep
 | func f => exact .deep (.fn f #[] [] (λ _ => undef) rfl (λ j h => by simp at h) (λ j v h => by simp at h))
end
theorem mU {P : Program} {t : TypeId} {b : Bool} (h : df P t = some b) (w : World) : (isAgg t).run P w = .ok b w := by
 unfold df at h
 split at h
 ·rename_i h1; injection h with h; subst h; simp [isAgg, run_underlying h1]
 ·rename_i h1; injection h with h; subst h; simp [isAgg, run_underlying h1]
 ·rename_i d h1 h2 h3
  injection h with h; subst h
  simp only [isAgg, Sem.run_bind, run_underlying h3, Result.andThen_ok]
  cases d <;> first | rfl | (exact absurd rfl (h1 _)) | (exact absurd rfl (h2 _ _))
 ·cases h
theorem aS {P : Program} {t : TypeId} (h : 0 < szT P t) (w : World) : (sizeOf t).run P w = .ok (szT P t) w := by
 unfold szT at h ⊢
 cases hi : P.info? t with
 | none => rw [hi] at h; simp at h
 | some i => simp [sizeOf, typeInfo, hi]
theorem bC {P : Program} {t e : TypeId} (h : elT P t = some e) : P.underlying t = some (.slice e) := by
 unfold elT at h
 split at h
 ·injection h with h; subst h; assumption
 ·cases h
theorem sH {P : Program} {t : TypeId} {n : Nat} {e : TypeId} (h : eB P t = some (n, e)) : P.underlying t = some (.array n e) := by
 unfold eB at h
 split at h
 ·injection h with h; injection h with h1 h2; subst h1 h2; assumption
 ·cases h
theorem sG {P : Program} {t k e : TypeId} (h : BK P t = some (k, e)) : P.underlying t = some (.map k e) := by
 unfold BK at h
 split at h
 ·injection h with h; injection h with h1 h2; subst h1 h2; assumption
 ·cases h
theorem dd {P : Program} {t : TypeId} (h : n7 P t = true) : P.underlying t = some .string := by
 unfold n7 at h
 split at h
 ·assumption
 ·cases h
theorem jH {P : Program} {t : TypeId} {k : IntKind} (h : qF P t = some k) : P.underlying t = some (.int k) := by
 unfold qF at h
 split at h
 ·injection h with h; subst h; assumption
 ·cases h
theorem oO {P : Program} {t : TypeId} (h : Fe P t = true) : P.underlying t = some (.int .u8) := by
 unfold Fe at h
 split at h
 ·assumption
 ·cases h
theorem j7 {P : Program} {t : TypeId} (h : uF P t = true) : P.underlying t = some .bool := by
 unfold uF at h
 split at h
 ·assumption
 ·cases h
theorem ss {P : Program} {t : TypeId} {k off : Nat} {ty : TypeId} (h : bT P t k = some (off, ty)) : ∃ fs f, P.underlying t = some (.struct fs) /\ fs[k]? = some f /\ f.offset = off /\ f.type = ty := by
 unfold bT at h
 split at h
 ·rename_i fs h1
  cases hf : fs[k]? with
  | none => rw [hf] at h; cases h
  | some f => rw [hf] at h; injection h with h; injection h with h2 h3; exact ⟨fs, f, h1, hf, h2, h3⟩
 ·cases h
section
variable {C : Ctx} {w : World} {X : Nat -> Prop} {β : List BI} {H : List Blk}
theorem mI (k : IntKind) (n : Int) (h : (lz k n).1) : (lz k n).2 = .int k (k.wrap n) := by
 unfold lz at h ⊢
 split
 ·rfl
 ·rfl
theorem th (a b : ByteArray) : (a.toList == b.toList) = decide (a = b) := by
 rw [Bool.eq_iff_iff, beq_iff_eq, decide_eq_true_iff, ByteArray.toList_eq, ByteArray.toList_eq]
 constructor
 ·intro h
  apply ByteArray.ext
  exact Array.toList_inj.1 h
 ·intro h; rw [h]
theorem zR {op : BinOp} {k : IntKind} {a b : Int} {ob : Prop} {r : AV} (h : Fy op k a b = some (ob, r)) (hob : ob) (t : TypeId) (ox oy : Operand) (hop : op ≠ .shl /\ op ≠ .shr) :
  ∃ u, ((do eqGuard op t ox oy (.int k a) (.int k b); binOp op t (.int k a) (.int k b) : Sem Value)).run C.P w = .ok u w /\ RepD w X u r := by
 cases op <;> simp only [Fy, Option.some.injEq, Prod.mk.injEq, reduceCtorEq] at h <;> first | exact absurd rfl hop.1 | exact absurd rfl hop.2 | skip
 case add =>
  refine ⟨.int k (k.wrap (a + b)), by simp [eqGuard, binOp, Op.intArith], ?_⟩
  rw [show r = (lz k (a + b)).2 by rw [h], mI k _ (by rw [h]; exact hob)]; exact .int _ _
 case sub =>
  refine ⟨.int k (k.wrap (a - b)), by simp [eqGuard, binOp, Op.intArith], ?_⟩
  rw [show r = (lz k (a - b)).2 by rw [h], mI k _ (by rw [h]; exact hob)]; exact .int _ _
 case mul =>
  refine ⟨.int k (k.wrap (a * b)), by simp [eqGuard, binOp, Op.intArith], ?_⟩
  rw [show r = (lz k (a * b)).2 by rw [h], mI k _ (by rw [h]; exact hob)]; exact .int _ _
 case quo =>
  obtain ⟨rfl, rfl⟩ := h
  refine ⟨.int k (k.wrap (a.tdiv b)), by simp [eqGuard, binOp, Op.intDiv, hob.1], ?_⟩
  rw [mI k _ hob.2]; exact .int _ _
 case rem =>
  obtain ⟨rfl, rfl⟩ := h
  exact ⟨.int k (a.tmod b), by simp [eqGuard, binOp, Op.intDiv, hob], .int _ _⟩
 case and => obtain ⟨rfl, rfl⟩ := h; refine ⟨_, ?_, .int _ _⟩; simp [eqGuard, binOp, Op.intBits, iQ]
 case or => obtain ⟨rfl, rfl⟩ := h; refine ⟨_, ?_, .int _ _⟩; simp [eqGuard, binOp, Op.intBits, iQ]
 case xor => obtain ⟨rfl, rfl⟩ := h; refine ⟨_, ?_, .int _ _⟩; simp [eqGuard, binOp, Op.intBits, iQ]
 case andNot => obtain ⟨rfl, rfl⟩ := h; refine ⟨_, ?_, .int _ _⟩; simp [eqGuard, binOp, Op.intBits, iQ]
 all_goals
  obtain ⟨rfl, rfl⟩ := h
  refine ⟨_, ?_, .bool _⟩
  simp [eqGuard, binOp, Op.intCmp]
theorem AZ {op : BinOp} {a b : ByteArray} {ob : Prop} {r : AV} (h : DS op a b = some (ob, r)) (hob : ob) (t : TypeId) (ox oy : Operand) :
  ∃ u, ((do eqGuard op t ox oy (.string a) (.string b); binOp op t (.string a) (.string b) : Sem Value)).run C.P w = .ok u w /\ RepD w X u r := by
 cases op <;> simp only [DS, Option.some.injEq, Prod.mk.injEq, reduceCtorEq] at h
 case add =>
  obtain ⟨rfl, rfl⟩ := h
  refine ⟨.string (a ++ b), ?_, .str _⟩
  have : ((a.size : Int) + b.size) <= 9223372036854775807 := by omega
  simp [eqGuard, binOp, Op.stringOp]
  omega
 all_goals
  obtain ⟨rfl, rfl⟩ := h
  refine ⟨_, ?_, .bool _⟩
  simp only [eqGuard, binOp, Op.stringOp, th]
  rfl
def FK.fits (P : Program) (t : TypeId) : FK -> Prop
 | .b => P.underlying t = some .bool
 | .i => ∃ k, P.underlying t = some (.int k)
 | .s => P.underlying t = some .string
theorem yL {f : FK} {x y : AV} {e : Bool} (h : xG f x y = some e) {vx vy : Value} (hx : Rep w X β H vx x) (hy : Rep w X β H vy y) {P : Program} {t : TypeId} (ht : f.fits P t) (d : Nat) :
  (Op.equalIn (d + 1) t vx vy).run P w = .ok e w := by
 unfold xG at h
 split at h
 ·injection h with h
  obtain rfl := ct hx
  obtain rfl := ct hy
  rw [run_equalIn_bool' _ _ _ _ _ ht, h]
 ·split at h
  ·rename_i hkk
   injection h with h
   obtain rfl := bB hx
   obtain rfl := bB hy
   subst hkk
   obtain ⟨k', h1⟩ := ht
   rw [run_equalIn_int _ _ _ _ _ _ _ h1, h]
  ·cases h
 ·injection h with h
  obtain rfl := gD hx
  obtain rfl := gD hy
  rw [run_equalIn_string _ _ _ _ _ ht, th, h]
 ·cases h
theorem Aj {P : Program} {t : TypeId} {f : FK} (ht : f.fits P t) : df P t = some false := by
 unfold FK.fits at ht
 unfold df
 cases f with
 | b => simp only at ht; rw [ht]
 | i => obtain ⟨k, ht⟩ := ht; rw [ht]
 | s => simp only at ht; rw [ht]
theorem qP {P : Program} {t : TypeId} (ht : df P t = some false) {cs : Array Value} {n : Nat} {v : Value} (h : cs[n]? = some v) (w : World) : (part t cs n).run P w = .ok v w := by
 simp [part, mU ht, h]
theorem nI {P : Program} (d : Nat) {cs ds : Array Value} : ∀ (fs : List Field) (fk : List FK) (n : Nat) (asq bs : List AV) (e : Bool), fZ P fs n = some fk -> lb fk asq bs = some e ->
  (∀ j x, asq[j]? = some x -> ∃ u, cs[n + j]? = some u /\ Rep w X β H u x) -> (∀ j x, bs[j]? = some x -> ∃ u, ds[n + j]? = some u /\ Rep w X β H u x) ->
  (Op.eqFields (d + 1) cs ds fs).run P w = .ok e w
 | [], fk, n, asq, bs, e, hf, he, ha, hb => by
  simp only [fZ, Option.some.injEq] at hf
  subst hf
  unfold lb at he
  split at he
  ·injection he with he
   subst he
   rfl
  ·rename_i h1; cases h1
  ·cases he
 | f :: fs, fk, n, asq, bs, e, hf, he, ha, hb => by
  unfold fZ at hf
  split at hf
  ·cases hf
  ·rename_i hn
   have hn1 : f.name ≠ "_" := λ h => hn (.inl h)
   have hn2 : f.offset = n := Classical.byContradiction λ h => hn (.inr h)
   have key : ∃ k l, fk = k :: l /\ k.fits P f.type /\ fZ P fs (n + 1) = some l := by
    split at hf <;> first | (injection hf with hf; subst hf; refine ⟨_, _, rfl, ?_, by assumption⟩; first | assumption | exact ⟨_, by assumption⟩) | cases hf
   obtain ⟨k, l, rfl, hk, hl⟩ := key
   unfold lb at he
   split at he
   ·rename_i h1; cases h1
   ·rename_i f' fs' a r b q h1
    injection h1 with h1 h2
    subst h1 h2
    split at he
    ·rename_i x y hx hy
     injection he with he
     obtain ⟨u1, hu1, hr1⟩ := ha 0 a rfl
     obtain ⟨u2, hu2, hr2⟩ := hb 0 b rfl
     have ih := nI d fs l (n + 1) r q y hl hy (λ j z hz => by have := ha (j + 1) z hz; rwa [show n + (j + 1) = n + 1 + j by omega] at this)
      (λ j z hz => by have := hb (j + 1) z hz; rwa [show n + (j + 1) = n + 1 + j by omega] at this)
     rw [add_zero] at hu1 hu2
     simp only [Op.eqFields, ne_eq, hn1, not_false_eq_true, if_true, Sem.run_bind, hn2, qP (Aj hk) hu1, qP (Aj hk) hu2, Result.andThen_ok, yL hx hr1 hr2 hk d]
     cases x
     ·simp [<- he]
     ·simp [<- he, ih]
    ·cases he
   ·cases he
end
section
variable {C : Ctx} {w : World} {X : Nat -> Prop} {β : List BI} {H : List Blk}
theorem L6 {P : Program} {t : TypeId} (h : Bf P t = true) : ∃ e, P.underlying t = some (.pointer e) := by
 unfold Bf at h
 split at h
 ·rename_i e he; exact ⟨e, he⟩
 ·cases h
theorem qt {P : Program} (w : World) (d : Nat) (t e : TypeId) (a : Option Addr) (h : P.underlying t = some (.pointer e)) : (Op.equalIn (d + 1) t (.pointer none) (.pointer a)).run P w = .ok a.isNone w := by
 cases a <;> simp [Op.equalIn, run_underlying h]
theorem qK {P : Program} (w : World) (d : Nat) (t e : TypeId) (a : Option Addr) (h : P.underlying t = some (.pointer e)) : (Op.equalIn (d + 1) t (.pointer a) (.pointer none)).run P w = .ok a.isNone w := by
 cases a <;> simp [Op.equalIn, run_underlying h]
theorem jd {P : Program} (w : World) (t e : TypeId) (a : Option Addr) (h : P.underlying t = some (.pointer e)) : (Op.equal t (.pointer none) (.pointer a)).run P w = .ok a.isNone w := qt w 9999 t e a h
theorem ml {P : Program} (w : World) (t e : TypeId) (a : Option Addr) (h : P.underlying t = some (.pointer e)) : (Op.equal t (.pointer a) (.pointer none)).run P w = .ok a.isNone w := qK w 9999 t e a h
theorem fh {op : BinOp} {t : TypeId} {a a' : Option Addr} {b : Bool} {ob : Prop} {r : AV} (hp : Bf C.P t = true) (h : rH op b = some (ob, r)) {ox oy : Operand}
  (he : ∀ e, C.P.underlying t = some (.pointer e) -> (Op.equal t (.pointer a) (.pointer a')).run C.P w = .ok b w) :
  ∃ u, ((do eqGuard op t ox oy (.pointer a) (.pointer a'); binOp op t (.pointer a) (.pointer a') : Sem Value)).run C.P w = .ok u w /\ Rep w X β H u r := by
 obtain ⟨e, hu⟩ := L6 hp
 have he := he e hu
 unfold rH at h
 split at h
 ·injection h with h; injection h with h1 h2; subst h1 h2
  refine ⟨_, ?_, .deep (.bool _)⟩
  simp [eqGuard, binOp, he]
 ·injection h with h; injection h with h1 h2; subst h1 h2
  refine ⟨_, ?_, .deep (.bool _)⟩
  simp [eqGuard, binOp, he]
 ·cases h
theorem Dt {op : BinOp} {t : TypeId} {x y : AV} {ob : Prop} {r : AV} (h : KD C op t x y = some (ob, r)) (hob : ob) {vx vy : Value} (hx : Rep w X β H vx x) (hy : Rep w X β H vy y) (ox oy : Operand) :
  ∃ u, ((do eqGuard op t ox oy vx vy; binOp op t vx vy : Sem Value)).run C.P w = .ok u w /\ Rep w X β H u r := by
 unfold KD at h
 split at h
 ·obtain rfl := bB hx
  obtain rfl := bB hy
  split at h
  ·injection h with h
   injection h with h1 h2
   subst h1 h2
   refine ⟨_, ?_, .deep (.int _ _)⟩
   simp [eqGuard, binOp, Op.shift, not_lt.2 hob]
  ·injection h with h
   injection h with h1 h2
   subst h1 h2
   refine ⟨_, ?_, .deep (.int _ _)⟩
   simp [eqGuard, binOp, Op.shift, not_lt.2 hob]
  ·rename_i n1 n2
   split at h
   ·rename_i hk
    subst hk
    obtain ⟨u, h1, h2⟩ := zR h hob t ox oy ⟨n1, n2⟩ (C := C) (w := w) (X := X)
    exact ⟨u, h1, .deep h2⟩
   ·cases h
 ·obtain rfl := gD hx
  obtain rfl := gD hy
  obtain ⟨u, h1, h2⟩ := AZ h hob t ox oy (C := C) (w := w) (X := X)
  exact ⟨u, h1, .deep h2⟩
 ·obtain rfl := ct hx
  obtain rfl := ct hy
  split at h
  ·rename_i hb
   have hb := j7 hb
   split at h
   ·injection h with h; injection h with h1 h2; subst h1 h2
    refine ⟨_, ?_, .deep (.bool _)⟩
    simp [eqGuard, binOp, Op.equal, Op.maxDepth, run_equalIn_bool' _ _ _ _ _ hb]
   ·injection h with h; injection h with h1 h2; subst h1 h2
    refine ⟨_, ?_, .deep (.bool _)⟩
    simp [eqGuard, binOp, Op.equal, Op.maxDepth, run_equalIn_bool' _ _ _ _ _ hb]
   ·cases h
  ·cases h
 ·rename_i asq bs
  obtain ⟨cs, val, rfl, hl, hm, hv⟩ := ir hx
  obtain ⟨ds, val', rfl, hl', hm', hv'⟩ := ir hy
  split at h
  ·rename_i fk hfk
   unfold IM at hfk
   split at hfk
   ·rename_i fs hfs
    split at hfk
    ·cases hfk
    ·rename_i hh
     have hh1 : C.P.stoodInHeld t = false := by cases h1 : C.P.stoodInHeld t <;> simp_all
     have hh2 : C.P.eqGuardType C.P.depth t = false := by cases h1 : C.P.eqGuardType C.P.depth t <;> simp_all
     have hfo : C.P.fieldsOf t = fs := by unfold Program.fieldsOf; rw [hfs]
     have key : ∀ e, lb fk asq bs = some e -> (Op.equalIn 10000 t (.agg cs) (.agg ds)).run C.P w = .ok e w := by
      intro e he
      rw [run_equalIn_struct w 9999 t cs ds (by rw [hfo]; exact hfs) hh1, hfo]
      refine nI (X := X) (β := β) (H := H) 9998 fs.toList fk 0 asq bs e hfk he (λ j x hj => ?_) (λ j x hj => ?_)
      ·rw [Nat.zero_add]; exact ⟨_, (hm j (List.getElem?_eq_some_iff.1 hj).1).1, hv j x hj⟩
      ·rw [Nat.zero_add]; exact ⟨_, (hm' j (List.getElem?_eq_some_iff.1 hj).1).1, hv' j x hj⟩
     split at h
     ·rename_i e he
      injection h with h; injection h with h1 h2; subst h1 h2
      refine ⟨.bool e, ?_, .deep (.bool _)⟩
      rw [Sem.run_bind, run_eqGuard_agg w _ t ox oy cs ds hh2, Result.andThen_ok, run_eql_struct, key e he]
      rfl
     ·rename_i e he
      injection h with h; injection h with h1 h2; subst h1 h2
      refine ⟨.bool (!e), ?_, .deep (.bool _)⟩
      rw [Sem.run_bind, run_eqGuard_agg w _ t ox oy cs ds hh2, Result.andThen_ok, run_neq_struct, key e he]
      rfl
     ·cases h
   ·cases hfk
  ·cases h
 ·obtain rfl := gn hx
  obtain rfl := gn hy
  split at h
  ·rename_i hp
   exact fh hp h (b := true) (λ _ h1 => jd _ _ _ none h1)
  ·cases h
 ·obtain rfl := gn hx
  obtain ⟨a, _, rfl, _⟩ := gB hy
  split at h
  ·rename_i hp
   exact fh hp h (b := false) (λ _ h1 => jd _ _ _ _ h1)
  ·cases h
 ·obtain rfl := gn hy
  obtain ⟨a, _, rfl, _⟩ := gB hx
  split at h
  ·rename_i hp
   exact fh hp h (b := false) (λ _ h1 => ml _ _ _ _ h1)
  ·cases h
 ·obtain rfl := gn hx
  have hy := jl hy
  cases hy
  split at h
  ·rename_i hp
   exact fh hp h (b := false) (λ _ h1 => jd _ _ _ _ h1)
  ·cases h
 ·obtain rfl := gn hy
  have hx := jl hx
  cases hx
  split at h
  ·rename_i hp
   exact fh hp h (b := false) (λ _ h1 => ml _ _ _ _ h1)
  ·cases h
 ·cases h
theorem zH {op : BinOp} {t : TypeId} {x : AV} {ob : Prop} {r : AV} (h : Ax C op t x = some (ob, r)) {vx : Value} (hx : Rep w X β H vx x) (ox oy : Operand) :
  ∃ u, ((do eqGuard op t ox oy vx (.slice none 0 0); binOp op t vx (.slice none 0 0) : Sem Value)).run C.P w = .ok u w /\ Rep w X β H u r := by
 unfold Ax at h
 split at h
 ·rename_i e he
  have he := bC he
  have hs : ∀ a l c (b : Bool), vx = .slice a l c -> (op = .eql /\ b = false ∨ op = .neq /\ b = true) -> (l ≠ 0 -> ∃ x, a = some x) -> r = (if l = 0 then .anyb else .bool b) -> ∃ u, ((do eqGuard op t ox oy vx (.slice none 0 0); binOp op t vx (.slice none 0 0) : Sem Value)).run C.P w = .ok u w /\ Rep w X β H u r := by
   rintro a l c b rfl ho ha rfl
   rcases ho with ⟨rfl, rfl⟩ | ⟨rfl, rfl⟩
   ·refine ⟨.bool a.isNone, by simp [eqGuard, binOp, run_equal_slice_nil w t e a l c he], ?_⟩
    split
    ·exact .deep (.anyb _)
    ·rename_i h0
     obtain ⟨x, rfl⟩ := ha h0
     exact .deep (.bool _)
   ·refine ⟨.bool (!a.isNone), by simp [eqGuard, binOp, run_equal_slice_nil w t e a l c he], ?_⟩
    split
    ·exact .deep (.anyb _)
    ·rename_i h0
     obtain ⟨x, rfl⟩ := ha h0
     exact .deep (.bool _)
  have hd : ∀ {sz : Nat} {full : Bool} {rows : List (List AV)}, RepD w X vx (.slice sz full rows) -> ∃ a c, vx = .slice a rows.length c /\ (rows.length ≠ 0 -> ∃ x, a = some x) := by
   intro sz full rows h
   cases h with
   | slice _ _ _ a n cap val hn h1 h2 h3 hr hm hv =>
    subst hn
    exact ⟨a, cap, rfl, λ h0 => let ⟨b, off, h, _⟩ := hm h0; ⟨_, h⟩⟩
  split at h
  ·injection h with h; injection h with h1 h2; subst h1 h2
   obtain ⟨a, c, h1, h2⟩ := hd (di hx)
   exact hs _ _ _ false h1 (.inl ⟨rfl, rfl⟩) h2 rfl
  ·injection h with h; injection h with h1 h2; subst h1 h2
   obtain ⟨a, c, h1, h2⟩ := hd (di hx)
   exact hs _ _ _ true h1 (.inr ⟨rfl, rfl⟩) h2 rfl
  ·injection h with h; injection h with h1 h2; subst h1 h2
   obtain ⟨a, c, _, h1, _, _, h2, _⟩ := gC hx
   exact hs _ _ _ false h1 (.inl ⟨rfl, rfl⟩) (λ h0 => h2.resolve_left h0) rfl
  ·injection h with h; injection h with h1 h2; subst h1 h2
   obtain ⟨a, c, _, h1, _, _, h2, _⟩ := gC hx
   exact hs _ _ _ true h1 (.inr ⟨rfl, rfl⟩) (λ h0 => h2.resolve_left h0) rfl
  ·injection h with h; injection h with h1 h2; subst h1 h2
   obtain ⟨a, c, _, h1, _, _, hle, h2, _⟩ := dU hx
   exact hs _ _ _ false h1 (.inl ⟨rfl, rfl⟩) (λ h0 => h2.resolve_left (by omega)) rfl
  ·injection h with h; injection h with h1 h2; subst h1 h2
   obtain ⟨a, c, _, h1, _, _, hle, h2, _⟩ := dU hx
   exact hs _ _ _ true h1 (.inr ⟨rfl, rfl⟩) (λ h0 => h2.resolve_left (by omega)) rfl
  ·cases h
 ·cases h
theorem GG {op : UnOp} {x : AV} {ob : Prop} {r : AV} (h : aun op x = some (ob, r)) {vx : Value} (hx : Rep w X β H vx x) : ∃ u, (Op.unary op vx).run C.P w = .ok u w /\ Rep w X β H u r := by
 unfold aun at h
 split at h
 ·injection h with h; injection h with h1 h2; subst h1 h2
  obtain rfl := bB hx
  refine ⟨_, ?_, .deep (.int _ _)⟩
  simp [Op.unary, Op.intArith]
 ·injection h with h; injection h with h1 h2; subst h1 h2
  obtain rfl := ct hx
  refine ⟨_, ?_, .deep (.bool _)⟩
  simp [Op.unary]
 ·injection h with h; injection h with h1 h2; subst h1 h2
  obtain ⟨b, rfl⟩ := mz hx
  refine ⟨.bool (!b), ?_, .deep (.anyb _)⟩
  simp [Op.unary]
 ·cases h
theorem tb {ty : TypeId} {off : Nat} {cells : List AV} {ob : Prop} {r : AV} (h : pi C ty (cells.drop off) = some (ob, r)) (hob : ob) {cs : Array Value} {val : Nat -> Value} (hl : cs.size = cells.length)
  (hm : ∀ j, j < cells.length -> cs[j]? = some (val j) /\ (val j).oneCell' = true) (hv : ∀ j u, cells[j]? = some u -> Rep w X β H (val j) u) : ∃ u, (part ty cs off).run C.P w = .ok u w /\ Rep w X β H u r := by
 unfold pi at h
 split at h
 ·rename_i ht
  split at h
  ·cases h
  ·rename_i hz
   injection h with h; injection h with h1 h2; subst h1 h2
   rw [length_drop] at hob
   refine ⟨.agg (cs.extract off (off + szT C.P ty)), ?_, .agg _ _ (λ j => val (off + j)) ?_ (λ j hj => ?_) (λ j u hu => ?_)⟩
   ·simp [part, mU ht, aS (pos_of_ne_zero hz)]
   ·simp; omega
   ·simp only [length_take, length_drop] at hj
    have := hm (off + j) (by omega)
    refine ⟨?_, this.2⟩
    rw [Array.getElem?_extract]
    rw [if_pos (by omega)]
    exact this.1
   ·rw [getElem?_take] at hu
    split at hu
    ·rw [getElem?_drop] at hu
     exact hv _ _ hu
    ·cases hu
 ·rename_i ht
  injection h with h; injection h with h1 h2; subst h1 h2
  rw [length_drop] at hob
  have h1 := hm off (by omega)
  refine ⟨val off, qP ht h1.1 w, ?_⟩
  have h2 : cells[off]? = some (cells[off]'(by omega)) := getElem?_eq_getElem _
  have h3 : (cells.drop off).getD 0 .undef = cells[off]'(by omega) := by
   rw [List.getD_eq_getElem?_getD, getElem?_drop, add_zero, h2]
   rfl
  rw [h3]
  exact hv _ _ h2
 ·cases h
theorem yP {t : TypeId} {x : AV} {k : Nat} {ob : Prop} {r : AV} (h : ut C t x k = some (ob, r)) (hob : ob) {vx : Value} (hx : Rep w X β H vx x) : ∃ u, (Instr.field t vx k).run C.P w = .ok u w /\ Rep w X β H u r := by
 unfold ut at h
 split at h
 ·rename_i cells off ty hf
  obtain ⟨cs, val, rfl, hl, hm, hv⟩ := ir hx
  obtain ⟨fs, f, h1, h2, rfl, rfl⟩ := ss hf
  obtain ⟨u, h3, h4⟩ := tb h hob hl hm hv
  refine ⟨u, ?_, h4⟩
  simp [Instr.field, run_underlying h1, h2, asAgg, h3]
 ·cases h
theorem gW (b off n : Nat) : (⟨b, off, none⟩ : Addr).add n = ⟨b, off + n, none⟩ := Addr.add_lit b off n
theorem wT {b off n : Nat} {cells : List AV} (h : RepD w X (.pointer (some ⟨b, off, none⟩)) (.iptr cells)) : RepD w X (.pointer (some ⟨b, off + n, none⟩)) (.iptr (cells.drop n)) := by
 cases h with
 | iptr _ _ _ val hb hX hm hv =>
  refine .iptr b (off + n) _ (λ j => val (n + j)) hb hX (λ j hj => ?_) (λ j v hj => ?_)
  ·rw [length_drop] at hj
   have := hm (n + j) (by omega)
   rwa [<- Nat.add_assoc] at this
  ·rw [getElem?_drop] at hj
   exact hv _ _ hj
theorem mP {v : Value} {cells : List AV} (h : RepD w X v (.iptr cells)) : ∃ b off, v = .pointer (some ⟨b, off, none⟩) := by
 cases h with
 | iptr b off _ val hb hX hm hv => exact ⟨b, off, rfl⟩
theorem DR {l n sz i f k : Nat} {ad : Addr} (h : Rep w X β H (.pointer (some ad)) (.ptr l n sz i f)) : Rep w X β H (.pointer (some (ad.add k))) (.ptr l n sz i (f + k)) := by
 obtain ⟨a, b, e, hb, hn, hx⟩ := gB h
 injection e with e; injection e with e; subst e
 refine .ptr l n sz i (f + k) _ b hb hn λ e1 e2 hi => ?_
 obtain ⟨bk, cap, h1, rfl⟩ := hx e1 e2 hi
 exact ⟨bk, cap, h1, by rw [gW]; congr 1; omega⟩
theorem qf {t : TypeId} {x : AV} {k : Nat} {ob : Prop} {r : AV} (h : je C t x k = some (ob, r)) {vx : Value} (hx : Rep w X β H vx x) : ∃ u, (Instr.fieldAt t vx k).run C.P w = .ok u w /\ Rep w X β H u r := by
 unfold je at h
 split at h
 ·rename_i off ty hf
  split at h
  ·cases h
  ·rename_i hz
   obtain ⟨fs, f, h1, h2, rfl, rfl⟩ := ss hf
   have hrun : ∀ a : Addr, (Instr.fieldAt t (.pointer (some a)) k).run C.P w = .ok (.pointer (some (a.add f.offset))) w := by
    intro a
    simp [Instr.fieldAt, run_underlying h1, h2, Instr.sureAddr, fieldPlace, aS (pos_of_ne_zero hz), hz]
   split at h
   ·injection h with h; injection h with h1 h2; subst h1 h2
    obtain ⟨a, b, rfl, _⟩ := gB hx
    exact ⟨_, hrun a, DR hx⟩
   ·injection h with h; injection h with h1 h2; subst h1 h2
    have hd := jl hx
    obtain ⟨b, o, rfl⟩ := mP hd
    refine ⟨_, hrun _, .deep ?_⟩
    rw [gW]
    exact wT hd
   ·cases h
 ·cases h
end
section
variable {C : Ctx} {w : World} {X : Nat -> Prop} {β : List BI} {H : List Blk}
theorem gt {rows : List (List AV)} {i : Nat} (h : i < rows.length) : kw rows i = rows[i] := by
 unfold kw
 rw [List.getD_eq_getElem?_getD, getElem?_eq_getElem h]
 rfl
theorem dc {v : Value} {sz : Nat} {full : Bool} {rows : List (List AV)} (h : RepD w X v (.slice sz full rows)) : ∃ (a : Option Addr) (cap : Nat) (val : Nat -> Nat -> Value), v = .slice a rows.length cap /\ rows.length <= cap /\ cap <= maxLen /\ (full = true -> cap = rows.length) /\
  (∀ r ∈ rows, r.length = sz) /\ (rows.length ≠ 0 -> ∃ b off, a = some ⟨b, off, none⟩ /\ b < w.heap.size /\ ¬ X b /\ ∀ i j, i < rows.length -> j < sz -> w.cell? ⟨b, off + i * sz + j, none⟩ = some (val i j) /\ (val i j).oneCell' = true) /\
  (∀ i j r v, rows[i]? = some r -> r[j]? = some v -> RepD w X (val i j) v) := by
 cases h with
 | slice _ _ _ a n cap val hn h1 h2 h3 hr hm hv => subst hn; exact ⟨a, cap, val, rfl, h1, h2, h3, hr, hm, hv⟩
theorem rb {t : TypeId} {x ix : AV} {ob : Prop} {r : AV} (h : jr C t x ix = some (ob, r)) (hob : ob) {vx vi : Value} (hx : Rep w X β H vx x) (hi : Rep w X β H vi ix) :
  ∃ u, (Instr.indexAt t vx vi).run C.P w = .ok u w /\ Rep w X β H u r := by
 unfold jr at h
 split at h
 ·rename_i k i
  obtain rfl := bB hi
  split at h
  ·rename_i e he
   have hu := bC he
   split at h
   ·cases h
   ·rename_i hz
    have hz := pos_of_ne_zero hz
    split at h
    ·rename_i sz full rows
     split at h
     ·rename_i hsz
      injection h with h; injection h with h1 h2; subst h1 h2
      obtain ⟨a, cap, val, rfl, h1, h2, h3, hr, hm, hv⟩ := dc (di hx)
      obtain ⟨n, rfl⟩ := eq_ofNat_of_zero_le hob.1
      have hn : n < rows.length := by omega
      obtain ⟨b, off, rfl, hb, hX, hc⟩ := hm (by omega)
      rw [gt (by simpa using hn)]
      refine ⟨.pointer (some ⟨b, off + n * sz, none⟩), ?_, .deep (.iptr b _ _ (λ j => val n j) hb hX (λ j hj => ?_) (λ j v hj => ?_))⟩
      ·simp [Instr.indexAt, asIntOf, run_underlying hu, aS hz, hn, gW, hsz]
      ·simp only [toNat_natCast] at hj
       rw [hr _ (List.getElem_mem hn)] at hj
       exact hc n j hn hj
      ·simp only [toNat_natCast] at hj
       exact hv n j _ v (getElem?_eq_getElem hn) hj
     ·cases h
    ·rename_i l n
     injection h with h; injection h with h1 h2; subst h1 h2
     obtain ⟨a, cap, b, rfl, hb, hn, h0, hx⟩ := gC hx
     obtain ⟨i, rfl⟩ := eq_ofNat_of_zero_le hob.1
     have hi : i < n := by omega
     obtain ⟨ad, rfl⟩ := h0.resolve_left (by omega)
     refine ⟨.pointer (some (ad.add (i * szT C.P e))), ?_, ?_⟩
     ·simp [Instr.indexAt, asIntOf, run_underlying hu, aS hz, hi]
     ·rw [toNat_natCast]
      refine .ptr l n _ i 0 _ b hb hn λ e1 e2 _ => ?_
      have h := hx e1
      cases hβ : β[l]? with
      | none => rw [hβ] at h; exact h.elim
      | some bi =>
       rw [hβ] at h
       cases bi with
       | nil => have := h.1; omega
       | lies bk c =>
        obtain ⟨h1, rfl⟩ := h
        injection h1 with h1
        subst h1
        exact ⟨bk, cap, rfl, by rw [gW]; simp⟩
    ·rename_i l n sz off len
     split at h
     ·rename_i hsz
      injection h with h; injection h with h1 h2; subst h1 h2
      obtain ⟨a, cap, b, rfl, hb, hn, hle, h0, hc, hx⟩ := dU hx
      obtain ⟨i, rfl⟩ := eq_ofNat_of_zero_le hob.1
      have hi : i < len := by omega
      obtain ⟨ad, rfl⟩ := h0.resolve_left (by omega)
      refine ⟨.pointer (some (ad.add (i * szT C.P e))), ?_, ?_⟩
      ·simp [Instr.indexAt, asIntOf, run_underlying hu, aS hz, hi]
      ·rw [toNat_natCast]
       refine .ptr l n _ (off + i) 0 _ b hb hn λ e1 e2 _ => ?_
       have h := hx e1 (by omega)
       cases hβ : β[l]? with
       | none => rw [hβ] at h; exact h.elim
       | some bi =>
        rw [hβ] at h
        cases bi with
        | nil => have := h.2.1; omega
        | lies bk c =>
         obtain ⟨h1, _, h3⟩ := h
         have h3 := h3 (by omega)
         injection h3 with h3
         subst h3
         exact ⟨bk, c, rfl, by rw [gW, hsz, add_mul]; simp⟩
     ·cases h
    ·cases h
  ·rename_i m e he1 he2
   have hu := sH he2
   split at h
   ·cases h
   ·rename_i hz
    have hz := pos_of_ne_zero hz
    split at h
    ·injection h with h; injection h with h1 h2; subst h1 h2
     obtain ⟨a, b, rfl, _⟩ := gB hx
     obtain ⟨i, rfl⟩ := eq_ofNat_of_zero_le hob.1
     have hi : i < m := by omega
     refine ⟨.pointer (some (a.add (i * szT C.P e))), ?_, ?_⟩
     ·simp [Instr.indexAt, asIntOf, run_underlying hu, aS hz, hi, Instr.sureAddr]
     ·rw [toNat_natCast]; exact DR hx
    ·injection h with h; injection h with h1 h2; subst h1 h2
     have hd := jl hx
     obtain ⟨b, o, rfl⟩ := mP hd
     obtain ⟨i, rfl⟩ := eq_ofNat_of_zero_le hob.1
     have hi : i < m := by omega
     refine ⟨.pointer (some ⟨b, o + i * szT C.P e, none⟩), ?_, ?_⟩
     ·simp [Instr.indexAt, asIntOf, run_underlying hu, aS hz, hi, Instr.sureAddr, gW]
     ·rw [toNat_natCast]; exact .deep (wT hd)
    ·cases h
  ·cases h
 ·cases h
theorem IH {s : ByteArray} {j : Nat} (h : j < s.size) : s[j]? = some (s[j]'h) /\ (s[j]'h).toNat = btA s j := by
 refine ⟨by simp [h], ?_⟩
 have h' : j < s.data.toList.length := by simpa using h
 unfold btA
 rw [List.getD_eq_getElem?_getD, getElem?_eq_getElem h']
 rfl
theorem wX {t : TypeId} {x ix : AV} {ob : Prop} {r : AV} (h : tJ C t x ix = some (ob, r)) (hob : ob) {vx vi : Value} (hx : Rep w X β H vx x) (hi : Rep w X β H vi ix) :
  ∃ u, (Instr.index t vx vi).run C.P w = .ok u w /\ Rep w X β H u r := by
 unfold tJ at h
 split at h
 ·rename_i s k i
  obtain rfl := bB hi
  obtain rfl := gD hx
  split at h
  ·rename_i ht
   injection h with h; injection h with h1 h2; subst h1 h2
   obtain ⟨n, rfl⟩ := eq_ofNat_of_zero_le hob.1
   have hn : n < s.size := by omega
   refine ⟨.int .u8 (btA s n), ?_, .deep (.int _ _)⟩
   have := IH hn
   simp [Instr.index, asIntOf, run_underlying (dd ht), this.1, this.2]
  ·cases h
 ·rename_i cells k i
  obtain rfl := bB hi
  obtain ⟨cs, val, rfl, hl, hm, hv⟩ := ir hx
  split at h
  ·rename_i n e he
   split at h
   ·cases h
   ·rename_i hz
    split at h
    ·rename_i ob' v hh
     injection h with h; injection h with h1 h2; subst h1 h2
     obtain ⟨m, rfl⟩ := eq_ofNat_of_zero_le hob.1.1
     have hn : m < n := by have := hob.1.2; omega
     obtain ⟨u, h3, h4⟩ := tb hh hob.2 hl hm hv
     rw [toNat_natCast] at h3
     exact ⟨u, by simp [Instr.index, asIntOf, run_underlying (sH he), hn, aS (pos_of_ne_zero hz), h3], h4⟩
    ·cases h
  ·cases h
 ·cases h
theorem Dg {t : TypeId} {x : AV} {ob : Prop} {r : AV} (G : nQ C w X) (h : HY C t x = some (ob, r)) {vx : Value} (hx : Rep w X β H vx x) (ty : TypeId) : ∃ u, (Builtin.len_ #[t] ty #[vx]).run C.P w = .ok u w /\ Rep w X β H u r := by
 unfold HY at h
 split at h
 ·rename_i b
  obtain rfl := tQ hx
  split at h
  ·rename_i k e L hg
   split at h
   ·rename_i ht
    injection h with h; injection h with h1 h2; subst h1 h2
    have hG := G b
    rw [hg] at hG
    obtain ⟨⟨D, o1, o2, o3, o4, o5⟩, _⟩ := hG
    have := o1.len (sG ht) ty
    rw [o5] at this
    exact ⟨_, this, .deep (.int _ _)⟩
   ·cases h
  ·cases h
 ·obtain rfl := gD hx
  split at h
  ·rename_i ht
   injection h with h; injection h with h1 h2; subst h1 h2
   refine ⟨_, ?_, .deep (.int _ _)⟩
   simp [Builtin.len_, run_underlying (dd ht), goInt]
  ·cases h
 ·obtain ⟨a, cap, val, rfl, _⟩ := dc (di hx)
  split at h
  ·rename_i e ht
   injection h with h; injection h with h1 h2; subst h1 h2
   refine ⟨_, ?_, .deep (.int _ _)⟩
   simp [Builtin.len_, run_underlying (bC ht), goInt]
  ·cases h
 ·obtain ⟨a, cap, b, rfl, _⟩ := gC hx
  split at h
  ·rename_i e ht
   injection h with h; injection h with h1 h2; subst h1 h2
   refine ⟨_, ?_, .deep (.int _ _)⟩
   simp [Builtin.len_, run_underlying (bC ht), goInt]
  ·cases h
 ·obtain ⟨a, cap, b, rfl, _⟩ := dU hx
  split at h
  ·rename_i e ht
   injection h with h; injection h with h1 h2; subst h1 h2
   refine ⟨_, ?_, .deep (.int _ _)⟩
   simp [Builtin.len_, run_underlying (bC ht), goInt]
  ·cases h
 ·split at h
  ·rename_i n e ht
   injection h with h; injection h with h1 h2; subst h1 h2
   refine ⟨_, ?_, .deep (.int _ _)⟩
   simp [Builtin.len_, run_underlying (sH ht), goInt]
  ·cases h
theorem BA {c a b : AV} {ob : Prop} {r : AV} (h : zS c a b = some (ob, r)) {vc va vb : Value} (hc : Rep w X β H vc c) (ha : Rep w X β H va a) (hb : Rep w X β H vb b) :
  ∃ x : Bool, vc = .bool x /\ Rep w X β H (if x then va else vb) r := by
 unfold zS at h
 split at h
 ·rename_i x
  obtain rfl := ct hc
  refine ⟨x, rfl, ?_⟩
  split at h
  ·injection h with h; injection h with h1 h2; subst h1 h2
   obtain rfl := ct ha
   obtain rfl := ct hb
   cases x <;> exact .deep (.bool _)
  ·injection h with h; injection h with h1 h2; subst h1 h2
   cases x <;> simpa
 ·cases h
theorem Ck {asq : List AV} {r : AV} (h : uY asq = some r) {vs : List Value} (hl : vs.length = asq.length) (hv : ∀ (j : Nat) (u : AV) (v : Value), asq[j]? = some u -> vs[j]? = some v -> Rep w X β H v u) (ts : Array TypeId) (ty : TypeId) :
  ∃ u, (Builtin.max_ ts ty vs.toArray).run C.P w = .ok u w /\ Rep w X β H u r := by
 unfold uY at h
 split at h
 ·rename_i k a k' b
  match vs, hl with
  | [v1, v2], _ =>
   obtain rfl := bB (hv 0 _ _ rfl rfl)
   obtain rfl := bB (hv 1 _ _ rfl rfl)
   split at h
   ·injection h with h; subst h
    refine ⟨_, ?_, .deep (.int _ _)⟩
    simp [Builtin.max_, Builtin.max2]
   ·cases h
 ·rename_i k a k' b k'' c
  match vs, hl with
  | [v1, v2, v3], _ =>
   obtain rfl := bB (hv 0 _ _ rfl rfl)
   obtain rfl := bB (hv 1 _ _ rfl rfl)
   obtain rfl := bB (hv 2 _ _ rfl rfl)
   split at h
   ·rename_i hk
    obtain ⟨rfl, rfl⟩ := hk
    injection h with h; subst h
    refine ⟨_, ?_, .deep (.int _ _)⟩
    simp [Builtin.max_, Builtin.max2]
   ·cases h
 ·cases h
theorem DF {asq : List AV} {r : AV} (h : M3 asq = some r) {vs : List Value} (hl : vs.length = asq.length) (hv : ∀ (j : Nat) (u : AV) (v : Value), asq[j]? = some u -> vs[j]? = some v -> Rep w X β H v u) (ts : Array TypeId) (ty : TypeId) :
  ∃ u, (Builtin.min_ ts ty vs.toArray).run C.P w = .ok u w /\ Rep w X β H u r := by
 unfold M3 at h
 split at h
 ·rename_i k a k' b
  match vs, hl with
  | [v1, v2], _ =>
   obtain rfl := bB (hv 0 _ _ rfl rfl)
   obtain rfl := bB (hv 1 _ _ rfl rfl)
   split at h
   ·injection h with h; subst h
    refine ⟨_, ?_, .deep (.int _ _)⟩
    simp [Builtin.min_, Builtin.min2]
   ·cases h
 ·cases h
end
def CRep (w : World) (X : Nat -> Prop) (β : List BI) (H : List Blk) (cs : Array Value) (cells : List AV) : Prop :=
 cs.size = cells.length /\ ∀ (j : Nat) (av : AV), cells[j]? = some av -> ∃ v, cs[j]? = some v /\ v.oneCell' = true /\ Rep w X β H v av
section
variable {C : Ctx} {w : World} {X : Nat -> Prop} {β : List BI} {H : List Blk}
theorem CRep.agg {cs : Array Value} {cells : List AV} (h : CRep w X β H cs cells) : Rep w X β H (.agg cs) (.agg cells) := by
 refine .agg cs cells (λ j => cs.getD j undef) h.1 (λ j hj => ?_) (λ j u hu => ?_)
 ·obtain ⟨v, h1, h2, _⟩ := h.2 j _ (getElem?_eq_getElem hj)
  have : cs.getD j undef = v := by simp [Array.getD_eq_getD_getElem?, h1]
  rw [this]
  exact ⟨h1, h2⟩
 ·obtain ⟨v, h1, _, h3⟩ := h.2 j _ hu
  have : cs.getD j undef = v := by simp [Array.getD_eq_getD_getElem?, h1]
  rw [this]
  exact h3
theorem zf {cells : List AV} {v : Value} (h : Rep w X β H v (.agg cells)) : ∃ cs, v = .agg cs /\ CRep w X β H cs cells := by
 obtain ⟨cs, val, rfl, hl, hm, hv⟩ := ir h
 exact ⟨cs, rfl, hl, λ j av hj => ⟨_, (hm j (List.getElem?_eq_some_iff.1 hj).1).1, (hm j (List.getElem?_eq_some_iff.1 hj).1).2, hv j av hj⟩⟩
theorem gz {t : TypeId} {v : AV} {cs : List AV} (h : ic C t v = some cs) {u : Value} (hu : Rep w X β H u v) : CRep w X β H u.cells cs /\ cs.length = szT C.P t := by
 unfold ic at h
 split at h
 ·split at h
  ·split at h
   ·rename_i hl
    injection h with h; subst h
    obtain ⟨a, rfl, h1⟩ := zf hu
    exact ⟨h1, hl⟩
   ·cases h
  ·cases h
 ·split at h
  ·rename_i hc
   injection h with h; subst h
   simp only [Bool.and_eq_true, beq_iff_eq] at hc
   have h1 := zB hu hc.1
   have h2 : u.cells = #[u] := by cases u <;> first | rfl | cases h1
   rw [h2]
   refine ⟨⟨rfl, λ j av hj => ?_⟩, hc.2.symm⟩
   match j with
   | 0 => simp at hj; subst hj; exact ⟨u, rfl, h1, hu⟩
   | j + 1 => simp at hj
  ·cases h
 ·cases h
theorem qC (off : Nat) : ∀ (vs : List Value) (k0 : Nat) (cells : Array Value),
  ((vs.zipIdx k0).foldl (λ cs x => cs.setIfInBounds (off + x.2) x.1) cells).size = cells.size /\
  ∀ k : Nat, ((vs.zipIdx k0).foldl (λ cs x => cs.setIfInBounds (off + x.2) x.1) cells)[k]? = if off + k0 <= k /\ k < off + k0 + vs.length /\ k < cells.size then vs[k - (off + k0)]? else cells[k]?
 | [], k0, cells => by
  refine ⟨rfl, λ k => ?_⟩
  rw [if_neg (by simp; omega)]
  rfl
 | v :: vs, k0, cells => by
  obtain ⟨h1, h2⟩ := qC off vs (k0 + 1) (cells.setIfInBounds (off + k0) v)
  simp only [List.zipIdx_cons, List.foldl_cons, List.length_cons]
  refine ⟨by rw [h1]; simp, λ k => ?_⟩
  rw [h2 k]
  simp only [Array.size_setIfInBounds]
  by_cases hk : off + k0 = k
  ·subst hk
   rw [if_neg (by omega)]
   by_cases hs : off + k0 < cells.size
   ·rw [if_pos ⟨le_refl _, by omega, hs⟩]
    simp [hs]
   ·rw [if_neg (by omega)]
    simp [hs]
  ·by_cases hc : off + (k0 + 1) <= k /\ k < off + (k0 + 1) + vs.length /\ k < cells.size
   ·rw [if_pos hc, if_pos ⟨by omega, by omega, hc.2.2⟩]
    have : k - (off + k0) = (k - (off + (k0 + 1))) + 1 := by omega
    rw [this]
    rfl
   ·rw [if_neg hc, if_neg (by omega)]
    rw [Array.getElem?_setIfInBounds_ne hk]
theorem tO (row cs : List AV) (f k : Nat) (h : f + cs.length <= row.length) : (splice row f cs)[k]? = if f <= k /\ k < f + cs.length then cs[k - f]? else row[k]? := by
 unfold splice
 by_cases h1 : k < f
 ·rw [if_neg (by omega), List.append_assoc, List.getElem?_append_left (by simp; omega), getElem?_take, if_pos h1]
 ·by_cases h2 : k < f + cs.length
  ·rw [if_pos ⟨by omega, h2⟩, List.getElem?_append_left (by simp; omega), List.getElem?_append_right (by simp; omega)]
   simp only [length_take, Nat.min_eq_left (show f <= row.length by omega)]
  ·rw [if_neg (by omega), List.getElem?_append_right (by simp; omega), getElem?_drop]
   simp only [List.length_append, length_take, Nat.min_eq_left (show f <= row.length by omega)]
   congr 1
   omega
theorem jX (row cs : List AV) (f : Nat) (h : f + cs.length <= row.length) : (splice row f cs).length = row.length := by
 unfold splice
 simp
 omega
theorem CRep.splice {cs vc : Array Value} {row cells : List AV} {off : Nat} (h : CRep w X β H cs row) (hv : CRep w X β H vc cells) (hf : off + cells.length <= row.length) :
  CRep w X β H (vc.zipIdx.foldl (λ (cs : Array Value) (x : Value × Nat) => cs.setIfInBounds (off + x.2) x.1) cs) (splice row off cells) := by
 have e : vc.zipIdx.foldl (λ (cs : Array Value) (x : Value × Nat) => cs.setIfInBounds (off + x.2) x.1) cs = (vc.toList.zipIdx 0).foldl (λ cs x => cs.setIfInBounds (off + x.2) x.1) cs := by
  rw [<- Array.foldl_toList]
  simp
 rw [e]
 obtain ⟨h1, h2⟩ := qC off vc.toList 0 cs
 have hl : vc.toList.length = cells.length := by simpa using hv.1
 refine ⟨by rw [h1, jX _ _ _ hf, h.1], λ j av hj => ?_⟩
 rw [h2 j, add_zero, hl]
 have hj' := (List.getElem?_eq_some_iff.1 hj).1
 rw [jX _ _ _ hf] at hj'
 rw [tO _ _ _ _ hf] at hj
 by_cases hc : off <= j /\ j < off + cells.length
 ·rw [if_pos hc] at hj
  rw [if_pos ⟨hc.1, hc.2, by rw [h.1]; exact hj'⟩]
  obtain ⟨v, k1, k2, k3⟩ := hv.2 _ _ hj
  exact ⟨v, by simpa using k1, k2, k3⟩
 ·rw [if_neg hc] at hj
  rw [if_neg (λ hh => hc ⟨hh.1, hh.2.1⟩)]
  exact h.2 j av hj
theorem Dz {v : Value} {a : AV} (h : PG v a = true) : v.oneCell' = true /\ RepD w X v a := by
 unfold PG at h
 split at h
 ·simp at h; subst h; exact ⟨rfl, .bool _⟩
 ·simp at h; obtain ⟨rfl, rfl⟩ := h; exact ⟨rfl, .int _ _⟩
 ·rename_i a b
  simp at h
  have : a = b := by rw [h.1, h.2]
  subst this
  exact ⟨rfl, .str _⟩
 ·rename_i rows
  simp at h; subst h
  exact ⟨rfl, .slice _ _ [] none 0 0 (λ _ _ => Go.undef) rfl (le_refl _) (Nat.zero_le _) (λ _ => rfl) (λ r h => by cases h) (λ h => absurd rfl h) (λ i j r v h => by simp at h)⟩
 ·exact ⟨rfl, .nilptr⟩
 ·cases h
theorem rq : ∀ {vs : List Value} {asq : List AV}, vS vs asq = true -> vs.length = asq.length /\ ∀ (j : Nat) (av : AV), asq[j]? = some av -> ∃ v, vs[j]? = some v /\ v.oneCell' = true /\ RepD w X v av
 | [], [], _ => ⟨rfl, λ j av h => by simp at h⟩
 | v :: r, a :: q, h => by
  simp only [vS, Bool.and_eq_true] at h
  obtain ⟨h1, h2⟩ := rq h.2
  obtain ⟨k1, k2⟩ := Dz (w := w) (X := X) h.1
  refine ⟨by simp [h1], λ j av hj => ?_⟩
  match j with
  | 0 => simp at hj; subst hj; exact ⟨v, rfl, k1, k2⟩
  | j + 1 => exact h2 j av (by simpa using hj)
 | [], _ :: _, h => by simp [vS] at h
 | _ :: _, [], h => by simp [vS] at h
theorem cG {P : Program} {t : TypeId} {z : List AV} (h : zT P t = some z) : ∃ i zv, P.info? t = some i /\ i.zero = some zv /\ i.size = z.length /\ 0 < i.size /\ szT P t = z.length /\ zv.cells.size = z.length /\
  ∀ (w : World) (X : Nat -> Prop) (j : Nat) (av : AV), z[j]? = some av -> ∃ v, zv.cells[j]? = some v /\ v.oneCell' = true /\ RepD w X v av := by
 unfold zT at h
 split at h
 ·rename_i i hi
  split at h
  ·rename_i zv hz
   split at h
   ·rename_i hc
    injection h with h
    simp only [Bool.and_eq_true, beq_iff_eq, decide_eq_true_eq] at hc
    have h1 := λ (w : World) (X : Nat -> Prop) => rq hc.1.1 (w := w) (X := X)
    rw [h] at h1
    have hl : zv.cells.size = z.length := by simpa using (h1 default (λ _ => False)).1
    refine ⟨i, zv, hi, hz, by rw [hc.1.2, hl], hc.2, ?_, hl, λ w X j av hj => ?_⟩
    ·simp [szT, hi, hc.1.2, hl]
    ·obtain ⟨v, k1, k2, k3⟩ := (h1 w X).2 j av hj
     exact ⟨v, by simpa using k1, k2, k3⟩
   ·cases h
  ·cases h
 ·cases h
theorem yz {z : List AV} {zv : Value} (hl : zv.cells.size = z.length) (h : ∀ (w : World) (X : Nat -> Prop) (j : Nat) (av : AV), z[j]? = some av -> ∃ v, zv.cells[j]? = some v /\ v.oneCell' = true /\ RepD w X v av) : CRep w X β H zv.cells z :=
 ⟨hl, λ j av hj => let ⟨v, h1, h2, h3⟩ := h w X j av hj; ⟨v, h1, h2, .deep h3⟩⟩
theorem jo (place : Nat -> Option (Nat × TypeId)) (pl : Nat -> Option (Nat × Nat)) (hp : ∀ k off ty, place k = some (off, ty) -> pl k = some (off, szT C.P ty)) :
  ∀ (parts : List (Nat × AV)) (vparts : List (Nat × Value)) (cells r : List AV) (cs : Array Value), i7 C place cells parts = some r -> CRep w X β H cs cells ->
   vparts.length = parts.length -> (∀ (j k : Nat) (u : AV), parts[j]? = some (k, u) -> ∃ v, vparts[j]? = some (k, v) /\ Rep w X β H v u) -> ∃ cs', Instr.fill pl cs vparts = some cs' /\ CRep w X β H cs' r
 | [], vparts, cells, r, cs, h, hc, hl, hv => by
  simp only [i7, Option.some.injEq] at h
  subst h
  obtain rfl := List.length_eq_zero_iff.1 hl
  exact ⟨cs, rfl, hc⟩
 | (k, u) :: parts, vparts, cells, r, cs, h, hc, hl, hv => by
  obtain ⟨v, h1, h2⟩ := hv 0 k u rfl
  match vparts, hl, hv, h1 with
  | x :: vp, hl, hv, h1 =>
   simp at h1
   subst h1
   simp only [i7] at h
   split at h
   ·rename_i off ty hpl
    split at h
    ·rename_i cu hcu
     split at h
     ·rename_i hle
      obtain ⟨k1, k2⟩ := gz hcu h2
      have hsz : v.cells.size = szT C.P ty := by rw [k1.1, k2]
      obtain ⟨cs', k3, k4⟩ := jo place pl hp parts vp _ r _ h (hc.splice k1 hle) (by simpa using hl) (λ j k u hj => by have := hv (j + 1) k u (by simpa using hj); simpa using this)
      refine ⟨cs', ?_, k4⟩
      unfold Instr.fill
      rw [hp k off ty hpl]
      simp only
      rw [if_neg, k3]
      simp only [hsz, ne_eq, not_true_eq_false, Bool.false_or, decide_false]
      have := hc.1
      simp
      omega
     ·cases h
    ·cases h
   ·cases h
end
section
variable {C : Ctx} {w : World} {X : Nat -> Prop} {β : List BI} {H : List Blk}
theorem wK {P : Program} : ∀ (fs : List Field), (∀ f ∈ fs, (P.info? f.type).isSome = true) -> ∀ w : World,
  ((fs.mapM λ f => do pure (f.offset, <- sizeOf f.type) : Sem (List (Nat × Nat)))).run P w = .ok (fs.map λ f => (f.offset, szT P f.type)) w
 | [], _, w => by simp [List.mapM_nil]
 | f :: fs, h, w => by
  have ih := wK fs (λ g hg => h g (List.mem_cons_of_mem _ hg)) w
  have h1 := h f (by simp)
  cases hi : P.info? f.type with
  | none => rw [hi] at h1; cases h1
  | some i =>
   have h2 : (sizeOf f.type).run P w = .ok (szT P f.type) w := by simp [sizeOf, typeInfo, hi, szT]
   simp only [List.mapM_cons, Sem.run_bind, h2, Result.andThen_ok, Sem.run_pure, ih, List.map_cons]
theorem yG {a : Act} {ρ : List (Nat × AV)} (T : ju w X β H a ρ) (G : nQ C w X) {t : TypeId} {parts : Array (Nat × Operand)} {ob : Prop} {r : AV} (h : mf C ρ t parts.toList = some (ob, r)) :
  ∃ u, (Instr.build t (parts.map λ (i, x) => (i, a.eval x))).run C.P w = .ok u w /\ Rep w X β H u r := by
 unfold mf at h
 split at h
 ·rename_i z hz
  obtain ⟨i, zv, h1, h2, h3, h4, h5, h6, h7⟩ := cG hz
  have hzr : (zeroValue t).run C.P w = .ok zv w := by simp [zeroValue, typeInfo, h1, h2]
  split at h
  ·rename_i hna
   split at h
   ·rename_i cs hcs
    split at h
    ·rename_i hinfo
     injection h with h; injection h with e1 e2; subst e1 e2
     unfold gF at hinfo
     split at hinfo
     ·rename_i fs hfs
      have hpl : ∀ k off ty, bT C.P t k = some (off, ty) -> ((fs.toList.map λ f => (f.offset, szT C.P f.type)).toArray)[k]? = some (off, szT C.P ty) := by
       intro k off ty hk
       obtain ⟨fs', f, e1, e2, rfl, rfl⟩ := ss hk
       rw [hfs] at e1
       injection e1 with e1; injection e1 with e1
       subst e1
       simp [e2]
      obtain ⟨cs', k1, k2⟩ := jo (C := C) (w := w) (X := X) (β := β) (H := H) _ _ hpl _ ((parts.map λ (i, x) => (i, a.eval x)).toList) _ _ zv.cells hcs (yz h6 h7) (by simp) (λ j k u hj => by
       simp only [getElem?_map, Option.map_eq_some_iff] at hj
       obtain ⟨⟨k', x⟩, hj1, hj2⟩ := hj
       injection hj2 with hj2 hj3
       simp only at hj2 hj3
       subst hj2 hj3
       refine ⟨a.eval x, ?_, bq T G _ x⟩
       simp only [Array.toList_map, getElem?_map, hj1, map_some])
      refine ⟨.agg cs', ?_, k2.agg⟩
      have hs := wK (P := C.P) fs.toList (λ f hf => List.all_eq_true.1 hinfo f hf) w
      simp only [Instr.build, Sem.run_bind, hzr, Result.andThen_ok, run_underlying hfs, Array.mapM_eq_mapM_toList, map_eq_pure_bind, bind_assoc, pure_bind, hs]
      simp only [k1, Sem.run_pure]
     ·cases hinfo
    ·cases h
   ·cases h
  ·rename_i n e hna
   split at h
   ·cases h
   ·rename_i hsz
    split at h
    ·rename_i cs hcs
     injection h with h; injection h with e1 e2; subst e1 e2
     obtain ⟨cs', k1, k2⟩ := jo (C := C) (w := w) (X := X) (β := β) (H := H) (λ k => some (k * szT C.P e, e)) (λ k => some (k * szT C.P e, szT C.P e)) (λ k off ty hk => by
      injection hk with hk; injection hk with hk1 hk2; subst hk1 hk2; rfl) _ ((parts.map λ (i, x) => (i, a.eval x)).toList) _ _ zv.cells hcs (yz h6 h7) (by simp) (λ j k u hj => by
       simp only [getElem?_map, Option.map_eq_some_iff] at hj
       obtain ⟨⟨k', x⟩, hj1, hj2⟩ := hj
       injection hj2 with hj2 hj3
       simp only at hj2 hj3
       subst hj2 hj3
       refine ⟨a.eval x, ?_, bq T G _ x⟩
       simp only [Array.toList_map, getElem?_map, hj1, map_some])
     refine ⟨.agg cs', ?_, k2.agg⟩
     simp only [Instr.build, Sem.run_bind, hzr, Result.andThen_ok, run_underlying (sH hna), aS (pos_of_ne_zero hsz)]
     simp only [k1, Sem.run_pure]
    ·cases h
 ·cases h
theorem da {lo : Option AV} {l : Int} (h : CR lo = some l) {vl : Option Value} (hn : lo = none -> vl = none) (hs : ∀ u, lo = some u -> ∃ v, vl = some v /\ Rep w X β H v u) :
  (vl = none /\ l = 0) ∨ ∃ k, vl = some (.int k l) := by
 unfold CR at h
 split at h
 ·injection h with h; subst h; exact .inl ⟨hn rfl, rfl⟩
 ·injection h with h; subst h
  obtain ⟨v, rfl, hv⟩ := hs _ rfl
  obtain rfl := bB hv
  exact .inr ⟨_, rfl⟩
 ·cases h
theorem eY {hi : Option AV} {len : Nat} {l : Int} (h : uO len hi = some l) {vl : Option Value} (hn : hi = none -> vl = none) (hs : ∀ u, hi = some u -> ∃ v, vl = some v /\ Rep w X β H v u) :
  (vl = none /\ hi = none /\ l = len) ∨ ∃ k, vl = some (.int k l) /\ hi.isSome = true := by
 unfold uO at h
 split at h
 ·injection h with h; subst h; exact .inl ⟨hn rfl, rfl, rfl⟩
 ·injection h with h; subst h
  obtain ⟨v, rfl, hv⟩ := hs _ rfl
  obtain rfl := bB hv
  exact .inr ⟨_, rfl, rfl⟩
 ·cases h
theorem aF {P : Program} {k : IntKind} {i : Int} {y : Nat} (h0 : 0 <= i) (h1 : i <= y) (code : BoundsCode) (w : World) : (Instr.sliceBound (.int k i) y code).run P w = .ok i.toNat w := by
 simp [Instr.sliceBound, asIntOf, h0, h1]
theorem zJ {a : Option Addr} {n cap sz : Nat} {full full' : Bool} {rows : List (List AV)} (h : RepD w X (.slice a n cap) (.slice sz full rows)) {l h' m : Nat} (h1 : l <= h') (h2 : h' <= rows.length) (h3 : h' <= m) (h4 : m <= cap)
  (hf : full' = true -> m = h') : RepD w X (.slice (if m = l then a else a.map (·.add (l * sz))) (h' - l) (m - l)) (.slice sz full' ((rows.take h').drop l)) := by
 cases h with
 | slice _ _ _ _ _ _ val hn k1 k2 k3 hr hm hv =>
  have hlen : ((rows.take h').drop l).length = h' - l := by simp; omega
  have hget : ∀ i : Nat, ((rows.take h').drop l)[i]? = if l + i < h' then rows[l + i]? else none := by
   intro i
   rw [getElem?_drop, getElem?_take]
  refine .slice sz full' _ _ _ _ (λ i j => val (l + i) j) hlen.symm (by rw [hlen]; omega) (by omega) (λ hh => by rw [hlen, hf hh]) (λ r hr' => hr r (List.mem_of_mem_take (List.mem_of_mem_drop hr'))) (λ h0 => ?_) (λ i j r v hi hj => ?_)
  ·rw [hlen] at h0
   obtain ⟨b, off, rfl, hb, hX, hc⟩ := hm (by omega)
   refine ⟨b, off + l * sz, ?_, hb, hX, λ i j hi hj => ?_⟩
   ·rw [if_neg (by omega)]
    simp [gW]
   ·rw [hlen] at hi
    have := hc (l + i) j (by omega) hj
    rw [add_mul, <- Nat.add_assoc] at this
    exact this
  ·rw [hget] at hi
   split at hi
   ·exact hv _ _ _ _ hi hj
   ·cases hi
theorem yI {t : TypeId} {x : AV} {lo hi mx : Option AV} {ob : Prop} {r : AV} (h : t5 C t x lo hi mx = some (ob, r)) (hob : ob) {vx : Value} (hx : Rep w X β H vx x) {vlo vhi vmx : Option Value}
  (hlo : lo = none -> vlo = none) (hlo' : ∀ u, lo = some u -> ∃ v, vlo = some v /\ Rep w X β H v u) (hhi : hi = none -> vhi = none) (hhi' : ∀ u, hi = some u -> ∃ v, vhi = some v /\ Rep w X β H v u)
  (hmx : mx = none -> vmx = none) (hmx' : ∀ u, mx = some u -> ∃ v, vmx = some v /\ Rep w X β H v u) : ∃ u, (Instr.sliceAt t vx vlo vhi vmx).run C.P w = .ok u w /\ Rep w X β H u r := by
 unfold t5 at h
 split at h
 ·rename_i s
  obtain rfl := gD hx
  split at h
  ·rename_i ht
   have ht := dd ht
   split at h
   ·rename_i l h' hl hh
    injection h with h; injection h with e1 e2; subst e1 e2
    obtain ⟨o1, o2, o3⟩ := hob
    obtain rfl := hmx rfl
    refine ⟨.string (s.extract l.toNat h'.toNat), ?_, .deep (.str _)⟩
    rcases eY hh hhi hhi' with ⟨rfl, _, rfl⟩ | ⟨k1, rfl, _⟩ <;> rcases da hl hlo hlo' with ⟨rfl, rfl⟩ | ⟨k2, rfl⟩
    ·simp [Instr.sliceAt, run_underlying ht, Instr.slice, Instr.sliceBounds]
    ·have := aF (P := C.P) (k := k2) o1 o2 .sliceB w
     simp [Instr.sliceAt, run_underlying ht, Instr.slice, Instr.sliceBounds, this]
    ·have := aF (P := C.P) (k := k1) (show 0 <= h' by omega) o3 .sliceAlen w
     simp [Instr.sliceAt, run_underlying ht, Instr.slice, Instr.sliceBounds, this]
    ·have h1 := aF (P := C.P) (k := k1) (show 0 <= h' by omega) o3 .sliceAlen w
     have h2 := aF (P := C.P) (k := k2) (y := h'.toNat) o1 (by omega) .sliceB w
     simp [Instr.sliceAt, run_underlying ht, Instr.slice, Instr.sliceBounds, h1, h2]
   ·cases h
  ·cases h
 ·rename_i sz full rows
  split at h
  ·rename_i e he
   have hu := bC he
   split at h
   ·rename_i hsz
    obtain ⟨hsz, hz⟩ := hsz
    have hso := aS (P := C.P) (t := e) (by omega) w
    rw [<- hsz] at hso
    have hd := di hx
    obtain ⟨a, cap, val, rfl, k1, k2, k3, hr, hm, hv⟩ := dc hd
    split at h
    ·rename_i l h' hl hh
     injection h with h; injection h with e1 e2; subst e1 e2
     obtain ⟨o1, o2, o3⟩ := hob
     obtain rfl := hmx rfl
     have main := λ hf => zJ (full' := full && hi.isNone) hd (l := l.toNat) (h' := h'.toNat) (m := cap) (by omega) (by omega) (by omega) (le_refl _) hf
     rcases eY hh hhi hhi' with ⟨rfl, rfl, rfl⟩ | ⟨k1, rfl, hs⟩
     ·have main := main (λ hf => by simp at hf; rw [k3 hf]; simp)
      rcases da hl hlo hlo' with ⟨rfl, rfl⟩ | ⟨k2, rfl⟩
      ·refine ⟨_, ?_, .deep main⟩
       simp [Instr.sliceAt, run_underlying hu, Instr.slice, Instr.sliceBounds, hso]
      ·refine ⟨_, ?_, .deep main⟩
       have := aF (P := C.P) (k := k2) o1 o2 .sliceB w
       simp [Instr.sliceAt, run_underlying hu, Instr.slice, Instr.sliceBounds, hso, this]
     ·have main := main (λ hf => by cases hi <;> simp_all)
      have hb := aF (P := C.P) (k := k1) (y := cap) (show 0 <= h' by omega) (by omega) .sliceAcap w
      rcases da hl hlo hlo' with ⟨rfl, rfl⟩ | ⟨k2, rfl⟩
      ·refine ⟨_, ?_, .deep main⟩
       simp [Instr.sliceAt, run_underlying hu, Instr.slice, Instr.sliceBounds, hso, hb]
      ·refine ⟨_, ?_, .deep main⟩
       have := aF (P := C.P) (k := k2) (y := h'.toNat) o1 (by omega) .sliceB w
       simp [Instr.sliceAt, run_underlying hu, Instr.slice, Instr.sliceBounds, hso, hb, this]
    ·rename_i km m l h' hl hh
     injection h with h; injection h with e1 e2; subst e1 e2
     obtain ⟨o1, o2, o3, rfl, o5⟩ := hob
     obtain ⟨vm, rfl, hvm⟩ := hmx' _ rfl
     obtain rfl := bB hvm
     have main := zJ (full' := true) hd (l := l.toNat) (h' := m.toNat) (m := m.toNat) (by omega) (by omega) (le_refl _) (by omega) (λ _ => rfl)
     have hb1 := aF (P := C.P) (k := km) (y := cap) (show 0 <= m by omega) (by omega) .slice3Acap w
     rcases eY hh hhi hhi' with ⟨_, rfl, _⟩ | ⟨k1, rfl, hs⟩
     ·cases o5
     ·have hb := aF (P := C.P) (k := k1) (y := m.toNat) (show 0 <= m by omega) (by omega) .slice3B w
      rcases da hl hlo hlo' with ⟨rfl, rfl⟩ | ⟨k2, rfl⟩
      ·refine ⟨_, ?_, .deep main⟩
       simp [Instr.sliceAt, run_underlying hu, Instr.slice, Instr.sliceBounds, hso, hb, hb1]
      ·refine ⟨_, ?_, .deep main⟩
       have := aF (P := C.P) (k := k2) (y := m.toNat) o1 (by omega) .slice3C w
       simp [Instr.sliceAt, run_underlying hu, Instr.slice, Instr.sliceBounds, hso, hb, hb1, this]
    ·cases h
   ·cases h
  ·cases h
 ·rename_i bl n
  split at h
  ·rename_i e he
   have hu := bC he
   split at h
   ·rename_i hz
    have hso := aS (P := C.P) (t := e) hz w
    obtain ⟨a, cap, b, rfl, hb, hn, h0, hx'⟩ := gC hx
    have hc := BE hx
    split at h
    ·rename_i l h' hl hh
     injection h with h; injection h with e1 e2; subst e1 e2
     obtain ⟨o1, o2, o3⟩ := hob
     obtain rfl := hmx rfl
     have main : Rep w X β H (.slice (if cap = l.toNat then a else a.map (·.add (l.toNat * szT C.P e))) (h'.toNat - l.toNat) (cap - l.toNat)) (.osl bl n (szT C.P e) l.toNat (h'.toNat - l.toNat)) := by
      refine .osl bl n _ _ _ _ _ b hb hn (by omega) ?_ (by omega) λ e1 e2 => ?_
      ·by_cases hz0 : l.toNat = n
       ·exact .inl hz0
       ·right
        obtain ⟨x, rfl⟩ := h0.resolve_left (by omega)
        split
        ·exact ⟨x, rfl⟩
        ·exact ⟨_, rfl⟩
      ·have h := hx' e1
       cases hβ : β[bl]? with
       | none => rw [hβ] at h; exact h.elim
       | some bi =>
        rw [hβ] at h
        cases bi with
        | nil => obtain ⟨rfl, rfl⟩ := h; exact ⟨by omega, by omega, by omega⟩
        | lies bk c =>
         obtain ⟨rfl, rfl⟩ := h
         refine ⟨by omega, rfl, λ hlt => ?_⟩
         rw [if_neg (by omega)]
         simp [gW]
     rcases eY hh hhi hhi' with ⟨rfl, rfl, rfl⟩ | ⟨k1, rfl, hs⟩
     ·rcases da hl hlo hlo' with ⟨rfl, rfl⟩ | ⟨k2, rfl⟩
      ·refine ⟨_, ?_, main⟩
       simp [Instr.sliceAt, run_underlying hu, Instr.slice, Instr.sliceBounds, hso]
      ·refine ⟨_, ?_, main⟩
       have := aF (P := C.P) (k := k2) o1 o2 .sliceB w
       simp [Instr.sliceAt, run_underlying hu, Instr.slice, Instr.sliceBounds, hso, this]
     ·have hb := aF (P := C.P) (k := k1) (y := cap) (show 0 <= h' by omega) (by omega) .sliceAcap w
      rcases da hl hlo hlo' with ⟨rfl, rfl⟩ | ⟨k2, rfl⟩
      ·refine ⟨_, ?_, main⟩
       simp [Instr.sliceAt, run_underlying hu, Instr.slice, Instr.sliceBounds, hso, hb]
      ·refine ⟨_, ?_, main⟩
       have := aF (P := C.P) (k := k2) (y := h'.toNat) o1 (by omega) .sliceB w
       simp [Instr.sliceAt, run_underlying hu, Instr.slice, Instr.sliceBounds, hso, hb, this]
    ·rename_i km m l h' hl hh
     injection h with h; injection h with e1 e2; subst e1 e2
     obtain ⟨o1, o2, o3, o4, o5⟩ := hob
     obtain ⟨vm, rfl, hvm⟩ := hmx' _ rfl
     obtain rfl := bB hvm
     have hb1 := aF (P := C.P) (k := km) (y := cap) (show 0 <= m by omega) (by omega) .slice3Acap w
     rcases eY hh hhi hhi' with ⟨_, rfl, _⟩ | ⟨k1, rfl, hs⟩
     ·cases o5
     ·have hb := aF (P := C.P) (k := k1) (y := m.toNat) (show 0 <= h' by omega) (by omega) .slice3B w
      rcases da hl hlo hlo' with ⟨rfl, rfl⟩ | ⟨k2, rfl⟩
      ·refine ⟨.slice (if m.toNat = 0 then a else a.map (·.add (0 * szT C.P e))) (h'.toNat - 0) (m.toNat - 0), ?_, .deep (.undef _)⟩
       simp [Instr.sliceAt, run_underlying hu, Instr.slice, Instr.sliceBounds, hso, hb, hb1]
      ·refine ⟨.slice (if m.toNat = l.toNat then a else a.map (·.add (l.toNat * szT C.P e))) (h'.toNat - l.toNat) (m.toNat - l.toNat), ?_, .deep (.undef _)⟩
       have := aF (P := C.P) (k := k2) (y := h'.toNat) o1 (by omega) .slice3C w
       simp [Instr.sliceAt, run_underlying hu, Instr.slice, Instr.sliceBounds, hso, hb, hb1, this]
    ·cases h
   ·cases h
  ·cases h
 ·rename_i bl n sz off len
  split at h
  ·rename_i e he
   have hu := bC he
   split at h
   ·rename_i hz
    obtain ⟨hsz, hz⟩ := hz
    have hso := aS (P := C.P) (t := e) (by omega) w
    rw [<- hsz] at hso
    obtain ⟨a, cap, b, rfl, hb, hn, hle, h0, hc, hx'⟩ := dU hx
    split at h
    ·rename_i l h' hl hh
     injection h with h; injection h with e1 e2; subst e1 e2
     obtain ⟨o1, o2, o3⟩ := hob
     obtain rfl := hmx rfl
     have main : Rep w X β H (.slice (if cap = l.toNat then a else a.map (·.add (l.toNat * sz))) (h'.toNat - l.toNat) (cap - l.toNat)) (.osl bl n sz (off + l.toNat) (h'.toNat - l.toNat)) := by
      refine .osl bl n _ _ _ _ _ b hb hn (by omega) ?_ (by omega) λ e1 e2 => ?_
      ·by_cases hz0 : off + l.toNat = n
       ·exact .inl hz0
       ·right
        obtain ⟨x, rfl⟩ := h0.resolve_left (by omega)
        split
        ·exact ⟨x, rfl⟩
        ·exact ⟨_, rfl⟩
      ·have h := hx' e1 e2
       cases hβ : β[bl]? with
       | none => rw [hβ] at h; exact h.elim
       | some bi =>
        rw [hβ] at h
        cases bi with
        | nil => obtain ⟨rfl, rfl, rfl⟩ := h; exact ⟨by omega, by omega, by omega⟩
        | lies bk c =>
         obtain ⟨h1, rfl, h3⟩ := h
         refine ⟨by omega, by omega, λ hlt => ?_⟩
         rw [if_neg (by omega), h3 (by omega)]
         simp [gW, add_mul]
     rcases eY hh hhi hhi' with ⟨rfl, rfl, rfl⟩ | ⟨k1, rfl, hs⟩
     ·rcases da hl hlo hlo' with ⟨rfl, rfl⟩ | ⟨k2, rfl⟩
      ·refine ⟨_, ?_, main⟩
       simp [Instr.sliceAt, run_underlying hu, Instr.slice, Instr.sliceBounds, hso]
      ·refine ⟨_, ?_, main⟩
       have := aF (P := C.P) (k := k2) o1 o2 .sliceB w
       simp [Instr.sliceAt, run_underlying hu, Instr.slice, Instr.sliceBounds, hso, this]
     ·have hb := aF (P := C.P) (k := k1) (y := cap) (show 0 <= h' by omega) (by omega) .sliceAcap w
      rcases da hl hlo hlo' with ⟨rfl, rfl⟩ | ⟨k2, rfl⟩
      ·refine ⟨_, ?_, main⟩
       simp [Instr.sliceAt, run_underlying hu, Instr.slice, Instr.sliceBounds, hso, hb]
      ·refine ⟨_, ?_, main⟩
       have := aF (P := C.P) (k := k2) (y := h'.toNat) o1 (by omega) .sliceB w
       simp [Instr.sliceAt, run_underlying hu, Instr.slice, Instr.sliceBounds, hso, hb, this]
    ·cases h
   ·cases h
  ·cases h
 ·cases h
end
end
end Go.Proofs.YtfoipbjhaiimlaaGreatDoor