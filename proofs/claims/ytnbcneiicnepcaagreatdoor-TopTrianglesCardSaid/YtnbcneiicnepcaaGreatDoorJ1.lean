/-
  Texts joined.
-/
import Derived.WalkKit
import Derived.Lib.Hide
import Derived.Maps.AppendAt
import Derived.Laws.IdiomStrings
import Derived.Maps.OwnSet
import Derived.StringKeys
import Derived.Laws.StructEq
import Derived.Laws.Cover3
import Derived.Laws.OwnMore
namespace Go.Proofs.YtnbcneiicnepcaaGreatDoor
open Nat (add_assoc add_comm add_mul add_zero le_refl le_trans lt_of_lt_of_le lt_or_ge min_eq_left mod_lt mul_le_mul_right pos_of_ne_zero zero_add zero_le)
open List (all_eq_true getElem?_append_left getElem?_drop getElem?_eq_getElem getElem?_map getElem?_set_ne getElem?_set_self getElem?_take getElem_mem length_drop length_eq_zero_iff length_map length_take map_cons map_nil mem_cons_of_mem mem_flatMap mem_map mem_of_getElem?)
open Int (eq_ofNat_of_zero_le toNat_natCast)
open Option (getD_some map_eq_some_iff map_some)
noncomputable section
set_option maxHeartbeats 16000000
open Go.RowKit
inductive AV where
 | undef
 | bool (b : Bool)
 | int (k : IntKind) (n : Int)
 | str (s : ByteArray)
 | slice (sz : Nat) (full : Bool) (rows : List (List AV))
 | own (l n : Nat)
 | osl (l n sz off len : Nat)
 | ptr (l n sz i f : Nat)
 | iptr (cells : List AV)
 | nilptr
 | anyb
 | tab (k : IntKind) (zs : List Int)
 | agg (cells : List AV)
 | tup (vs : List AV)
 | fn (f : FuncId) (cap : List AV)
 | mapp (b : Nat)
 | mapof (k e : TypeId) (L : List (Lit × Lit))
 | mapo (l : Nat)
 | mapd (kb : Bool) (ents : List AV)
 | itp (r : Nat)
instance : Inhabited AV := ⟨.undef⟩
@[reducible] def PSp := List AV -> Option (Prop × AV)
structure Blk where
 e : TypeId
 sz : Nat
 rows : List (List AV)
 mu : Bool
 deep : Bool
structure ASt where
 ρ : List (Nat × AV)
 H : List Blk
def aQ : List (Nat × AV) -> Nat -> AV
 | [], _ => .undef
 | (k, v) :: r, i => if k = i then v else aQ r i
def dP (ρ : List (Nat × AV)) : Option Nat -> AV -> List (Nat × AV)
 | some d, v => (d, v) :: ρ
 | none, _ => ρ
def I64 (n : Int) : Prop := -9223372036854775808 <= n /\ n <= 9223372036854775807
def szT (P : Program) (t : TypeId) : Nat := ((P.info? t).map (·.size)).getD 0
def byT (P : Program) (t : TypeId) : Nat := ((P.info? t).map (·.bytes)).getD 0
def cj (P : Program) (t : TypeId) : Option Bool :=
 match P.underlying t with
 | some (.struct _) => some true
 | some (.array _ _) => some true
 | some _ => some false
 | none => none
def elT (P : Program) (t : TypeId) : Option TypeId :=
 match P.underlying t with
 | some (.slice e) => some e
 | _ => none
def cZ (P : Program) (t : TypeId) : Option (Nat × TypeId) :=
 match P.underlying t with
 | some (.array n e) => some (n, e)
 | _ => none
def bz (P : Program) (t : TypeId) (k : Nat) : Option (Nat × TypeId) :=
 match P.underlying t with
 | some (.struct fs) => (fs[k]?).map λ f => (f.offset, f.type)
 | _ => none
def lI (P : Program) (t : TypeId) : Bool :=
 match P.underlying t with
 | some .string => true
 | _ => false
def mU (P : Program) (t : TypeId) : Option IntKind :=
 match P.underlying t with
 | some (.int k) => some k
 | _ => none
def zp (P : Program) (t : TypeId) : Bool :=
 match P.underlying t with
 | some (.int .u8) => true
 | _ => false
def pt (P : Program) (t : TypeId) : Bool :=
 match P.underlying t with
 | some .bool => true
 | _ => false
def wH (P : Program) (t : TypeId) : Bool :=
 match P.underlying t with
 | some (.pointer _) => true
 | _ => false
def tO (P : Program) (t : TypeId) : Option (TypeId × TypeId) :=
 match P.underlying t with
 | some (.map k e) => some (k, e)
 | _ => none
def DB (L : List (Lit × Lit)) (k z : Lit) : Lit :=
 match L with
 | [] => z
 | (a, x) :: r => if a.sameKey k then x else DB r k z
def DC (L : List (Lit × Lit)) (k : Lit) : Bool :=
 match L with
 | [] => false
 | (a, _) :: r => a.sameKey k || DC r k
def zU : List (Lit × Lit) -> Nat
 | [] => 0
 | (a, _) :: r => if DC r a then zU r else zU r + 1
def zN : Lit -> AV
 | .bool b => .bool b
 | .int k n => .int k n
 | .string l => .str ⟨l.toArray⟩
 | _ => .undef
def rX (P : Program) (t : TypeId) : AV -> Option (Prop × Lit)
 | .bool b => if pt P t then some (True, .bool b) else none
 | .int .i64 n => match mU P t with | some .i64 => some (I64 n, .int .i64 n) | _ => none
 | .str s => if lI P t then some (s.size <= maxLen, .string s.data.toList) else none
 | _ => none
def Fw (P : Program) (t : TypeId) : Option Lit :=
 match (P.info? t).bind (·.zero) with
 | some (.bool false) => if pt P t then some (.bool false) else none
 | some (.int k n) => if n = 0 /\ mU P t = some k then some (.int k 0) else none
 | some (.string s) => if s.size = 0 /\ lI P t = true then some (.string []) else none
 | _ => none
def dA (P : Program) (t : TypeId) : Bool :=
 match P.underlying t with
 | some (.struct fs) => fs.toList.all λ f => (P.info? f.type).isSome
 | _ => false
def cav (P : Program) (t : TypeId) : Value -> AV
 | .bool b => .bool b
 | .int k n => .int k n
 | .string s => .str s
 | .slice none 0 0 => match elT P t with | some e => .slice (szT P e) true [] | none => .undef
 | .pointer none => .nilptr
 | _ => .undef
def Md : Value -> AV -> Bool
 | .bool a, .bool b => a == b
 | .int k a, .int k' b => k == k' && a == b
 | .string a, .str b => a.size == 0 && b.size == 0
 | .slice none 0 0, .slice _ _ rows => rows.isEmpty
 | .pointer none, .nilptr => true
 | .map none, .undef => true
 | .nilFunc, .undef => true
 | .nilIface, .undef => true
 | _, _ => false
def sK : List Value -> List AV -> Bool
 | [], [] => true
 | v :: r, a :: q => Md v a && sK r q
 | _, _ => false
def uJ (P : Program) : Nat -> TypeId -> List AV
 | 0, _ => []
 | d + 1, t =>
  match P.underlying t with
  | some .bool => [.bool false]
  | some (.int k) => [.int k 0]
  | some .string => [.str ByteArray.empty]
  | some (.slice e) => [.slice (szT P e) true []]
  | some (.pointer _) => [.nilptr]
  | some (.map _ _) => [.undef]
  | some (.func _ _ _) => [.undef]
  | some (.interface _) => [.undef]
  | some (.struct fs) => fs.toList.flatMap λ f => uJ P d f.type
  | some (.array n e) => (List.replicate n (uJ P d e)).flatten
  | _ => []
def zT (P : Program) (t : TypeId) : Option (List AV) :=
 match P.info? t with
 | some i => match i.zero with
  | some z => if sK z.cells.toList (uJ P 12 t) && i.size == z.cells.size && decide (0 < i.size) then some (uJ P 12 t) else none
  | none => none
 | none => none
inductive Entry where
 | no
 | pure (p : List AV -> Option (Prop × AV))
 | frz (p : List AV -> Option (Prop × AV))
 | gen (g : List AV -> List Blk -> Option (Prop × AV × List Blk))
structure Ctx where
 P : Program
 S : FuncId -> Entry
 G : Nat -> AV
def gav : AV -> AV
 | .mapof _ _ _ => .undef
 | .own _ _ => .undef
 | v => v
def aev (C : Ctx) (ρ : List (Nat × AV)) (t : TypeId) : Operand -> AV
 | .tmp i => aQ ρ i
 | .const v => cav C.P t v
 | .global g => gav (C.G g)
 | .func f => .fn f []
def AV.isCell : AV -> Bool
 | .undef | .agg _ | .tup _ => false
 | _ => true
def AV.isDeep : AV -> Bool
 | .own _ _ | .osl .. | .ptr .. | .agg _ | .tup _ | .fn _ _ | .mapo _ => false
 | _ => true
def fP (C : Ctx) (t : TypeId) (v : AV) : Option (List AV) :=
 match cj C.P t with
 | some true => match v with
  | .agg cs => if cs.length = szT C.P t then some cs else none
  | _ => none
 | some false => if v.isCell && szT C.P t == 1 then some [v] else none
 | none => none
def dq (rows : List (List AV)) (i : Nat) : List AV := rows.getD i []
def splice (row : List AV) (f : Nat) (cs : List AV) : List AV := row.take f ++ cs ++ row.drop (f + cs.length)
def j7 (C : Ctx) (t : TypeId) (cells : List AV) : Option (Prop × AV) :=
 match cj C.P t with
 | some true => if szT C.P t = 0 then none else some (szT C.P t <= cells.length, .agg (cells.take (szT C.P t)))
 | some false => some (0 < cells.length, cells.getD 0 .undef)
 | none => none
def w64 (n : Int) : Int := IntKind.wrap .i64 n
theorem dd {n : Int} (h : I64 n) : w64 n = n := IntWalk.i64_in n (by unfold I64 at h; exact h)
attribute [simp] dd
def fU (k : IntKind) (n : Int) : Prop × AV :=
 match k with
 | .i64 => (True, .int .i64 (w64 n))
 | k => (True, .int k (k.wrap n))
def ie (op : BinOp) (k : IntKind) (a b : Int) : Int :=
 match op with
 | .and => k.wrap (BitVec.ofInt k.bits a &&& BitVec.ofInt k.bits b).toNat
 | .or => k.wrap (BitVec.ofInt k.bits a ||| BitVec.ofInt k.bits b).toNat
 | .xor => k.wrap (BitVec.ofInt k.bits a ^^^ BitVec.ofInt k.bits b).toNat
 | _ => k.wrap (BitVec.ofInt k.bits a &&& ~~~BitVec.ofInt k.bits b).toNat
def rt (op : BinOp) (k : IntKind) (a b : Int) : Option (Prop × AV) :=
 match op with
 | .add => some (fU k (a + b))
 | .sub => some (fU k (a - b))
 | .mul => some (fU k (a * b))
 | .quo => some (b ≠ 0 /\ (fU k (a.tdiv b)).1, (fU k (a.tdiv b)).2)
 | .rem => some (b ≠ 0, .int k (a.tmod b))
 | .eql => some (True, .bool (a == b))
 | .neq => some (True, .bool (a != b))
 | .lss => some (True, .bool (decide (a < b)))
 | .leq => some (True, .bool (decide (a <= b)))
 | .gtr => some (True, .bool (decide (b < a)))
 | .geq => some (True, .bool (decide (b <= a)))
 | .and => some (True, .int k (ie .and k a b))
 | .or => some (True, .int k (ie .or k a b))
 | .xor => some (True, .int k (ie .xor k a b))
 | .andNot => some (True, .int k (ie .andNot k a b))
 | _ => none
def ru (op : BinOp) (a b : ByteArray) : Option (Prop × AV) :=
 match op with
 | .add => some (a.size + b.size < 1000000000000, .str (a ++ b))
 | .eql => some (True, .bool (decide (a = b)))
 | .neq => some (True, .bool (!decide (a = b)))
 | .lss => some (True, .bool (Op.bytesLess a.toList b.toList))
 | .leq => some (True, .bool (Op.bytesLess a.toList b.toList || decide (a = b)))
 | .gtr => some (True, .bool (!(Op.bytesLess a.toList b.toList || decide (a = b))))
 | .geq => some (True, .bool (!Op.bytesLess a.toList b.toList))
 | _ => none
inductive FK where
 | b | i | s
def tw : FK -> AV -> AV -> Option Bool
 | .b, .bool a, .bool b => some (a == b)
 | .i, .int k a, .int k' b => if k = k' then some (a == b) else none
 | .s, .str a, .str b => some (decide (a = b))
 | _, _, _ => none
def jg : List FK -> List AV -> List AV -> Option Bool
 | [], [], [] => some true
 | f :: fs, a :: r, b :: q => match tw f a b, jg fs r q with
  | some x, some y => some (x && y)
  | _, _ => none
 | _, _, _ => none
def fF (P : Program) : List Field -> Nat -> Option (List FK)
 | [], _ => some []
 | f :: r, n =>
  if f.name = "_" ∨ f.offset ≠ n then none else
  match P.underlying f.type, fF P r (n + 1) with
  | some .bool, some l => some (.b :: l)
  | some (.int _), some l => some (.i :: l)
  | some .string, some l => some (.s :: l)
  | _, _ => none
def Df (P : Program) (t : TypeId) : Option (List FK) :=
 match P.underlying t with
 | some (.struct fs) => if P.stoodInHeld t || P.eqGuardType P.depth t then none else fF P fs.toList 0
 | _ => none
def lO (op : BinOp) (e : Bool) : Option (Prop × AV) :=
 match op with
 | .eql => some (True, .bool e)
 | .neq => some (True, .bool (!e))
 | _ => none
def ke : Operand -> Bool
 | .const (.slice none 0 0) => true
 | _ => false
def oV (C : Ctx) (op : BinOp) (t : TypeId) (x : AV) : Option (Prop × AV) :=
 match elT C.P t with
 | some _ => match op, x with
  | .eql, .slice _ _ rows => some (True, if rows.length = 0 then .anyb else .bool false)
  | .neq, .slice _ _ rows => some (True, if rows.length = 0 then .anyb else .bool true)
  | .eql, .own _ n => some (True, if n = 0 then .anyb else .bool false)
  | .neq, .own _ n => some (True, if n = 0 then .anyb else .bool true)
  | .eql, .osl _ _ _ _ n => some (True, if n = 0 then .anyb else .bool false)
  | .neq, .osl _ _ _ _ n => some (True, if n = 0 then .anyb else .bool true)
  | _, _ => none
 | none => none
def xG (C : Ctx) (op : BinOp) (t : TypeId) (x y : AV) : Option (Prop × AV) :=
 match x, y with
 | .int k a, .int k' b =>
  match op with
  | .shl => some (0 <= b, .int k (k.wrap (a * 2 ^ (min b.toNat k.bits))))
  | .shr => some (0 <= b, .int k (a.fdiv (2 ^ (min b.toNat k.bits))))
  | op => if k = k' then rt op k a b else none
 | .str a, .str b => ru op a b
 | .bool a, .bool b => if pt C.P t then (match op with
  | .eql => some (True, .bool (a == b))
  | .neq => some (True, .bool (!(a == b)))
  | _ => none) else none
 | .agg asq, .agg bs => match Df C.P t with
  | some fk => (match op, jg fk asq bs with
   | .eql, some e => some (True, .bool e)
   | .neq, some e => some (True, .bool (!e))
   | _, _ => none)
  | none => none
 | .nilptr, .nilptr => if wH C.P t then lO op true else none
 | .nilptr, .ptr _ _ _ _ _ => if wH C.P t then lO op false else none
 | .ptr _ _ _ _ _, .nilptr => if wH C.P t then lO op false else none
 | .nilptr, .iptr _ => if wH C.P t then lO op false else none
 | .iptr _, .nilptr => if wH C.P t then lO op false else none
 | _, _ => none
def aun (op : UnOp) (x : AV) : Option (Prop × AV) :=
 match op, x with
 | .neg, .int k n => some (True, .int k (k.wrap (0 - n)))
 | .not, .bool b => some (True, .bool (!b))
 | .not, .anyb => some (True, .anyb)
 | _, _ => none
def dK (s : ByteArray) : List (List AV) := s.data.toList.map λ c => [.int .u8 (c.toNat : Int)]
def oZ (C : Ctx) (src dst : TypeId) (x : AV) : Option (Prop × AV) :=
 match x with
 | .int _ n => match mU C.P dst, mU C.P src with
  | some k, some _ => some (True, .int k (k.wrap n))
  | _, _ => none
 | .str s =>
  if lI C.P dst && lI C.P src then some (True, .str s) else
  match elT C.P dst with
  | some e => if lI C.P src && zp C.P e then some (s.size < 1000000000000, .slice 1 false (dK s)) else none
  | none => none
 | _ => none
def lj (C : Ctx) (t : TypeId) (x : AV) (k : Nat) : Option (Prop × AV) :=
 match x, bz C.P t k with
 | .agg cs, some (off, ty) => j7 C ty (cs.drop off)
 | _, _ => none
def eD (C : Ctx) (t : TypeId) (x : AV) (k : Nat) : Option (Prop × AV) :=
 match bz C.P t k with
 | some (off, ty) =>
  if szT C.P ty = 0 then none else
  match x with
  | .ptr l n sz i f => some (True, .ptr l n sz i (f + off))
  | .iptr cs => some (True, .iptr (cs.drop off))
  | _ => none
 | none => none
def eE (C : Ctx) (t : TypeId) (x ix : AV) : Option (Prop × AV) :=
 match ix with
 | .int _ i =>
  match elT C.P t, cZ C.P t with
  | some e, _ =>
   if szT C.P e = 0 then none else
   match x with
   | .slice sz _ rows => if sz = szT C.P e then some (0 <= i /\ i < rows.length, .iptr (dq rows i.toNat)) else none
   | .own l n => some (0 <= i /\ i < n, .ptr l n (szT C.P e) i.toNat 0)
   | .osl l n sz off len => if sz = szT C.P e then some (0 <= i /\ i < len, .ptr l n (szT C.P e) (off + i.toNat) 0) else none
   | _ => none
  | none, some (m, e) =>
   if szT C.P e = 0 then none else
   match x with
   | .ptr l n sz r f => some (0 <= i /\ i < m, .ptr l n sz r (f + i.toNat * szT C.P e))
   | .iptr cs => some (0 <= i /\ i < m, .iptr (cs.drop (i.toNat * szT C.P e)))
   | _ => none
  | none, none => none
 | _ => none
def btA (s : ByteArray) (j : Nat) : Nat := (s.data.toList.getD j 0).toNat
def lk (C : Ctx) (t : TypeId) (x ix : AV) : Option (Prop × AV) :=
 match x, ix with
 | .str s, .int _ i => if lI C.P t then some (0 <= i /\ i < s.size, .int .u8 (btA s i.toNat)) else none
 | .agg cs, .int _ i => match cZ C.P t with
  | some (n, e) => if szT C.P e = 0 then none else match j7 C e (cs.drop (i.toNat * szT C.P e)) with
   | some (ob, v) => some ((0 <= i /\ i < n) /\ ob, v)
   | none => none
  | none => none
 | _, _ => none
def pc : Option AV -> Option Int
 | none => some 0
 | some (.int _ i) => some i
 | _ => none
def jI (len : Nat) : Option AV -> Option Int
 | none => some len
 | some (.int _ i) => some i
 | _ => none
def lq (C : Ctx) (t : TypeId) (x : AV) (lo hi mx : Option AV) : Option (Prop × AV) :=
 match x with
 | .str s =>
  if lI C.P t then
   match mx, pc lo, jI s.size hi with
   | none, some l, some h => some (0 <= l /\ l <= h /\ h <= s.size, .str (s.extract l.toNat h.toNat))
   | _, _, _ => none
  else none
 | .slice sz full rows =>
  match elT C.P t with
  | some e =>
   if sz = szT C.P e /\ 0 < sz then
    match mx, pc lo, jI rows.length hi with
    | none, some l, some h => some (0 <= l /\ l <= h /\ h <= rows.length, .slice sz (full && hi.isNone) ((rows.take h.toNat).drop l.toNat))
    | some (.int _ m), some l, some h => some (0 <= l /\ l <= h /\ h <= rows.length /\ m = h /\ hi.isSome = true, .slice sz true ((rows.take h.toNat).drop l.toNat))
    | _, _, _ => none
   else none
  | none => none
 | .own b n =>
  match elT C.P t with
  | some e =>
   if 0 < szT C.P e then
    match mx, pc lo, jI n hi with
    | none, some l, some h => some (0 <= l /\ l <= h /\ h <= n, .osl b n (szT C.P e) l.toNat (h.toNat - l.toNat))
    | some (.int _ m), some l, some h => some (0 <= l /\ l <= h /\ h <= m /\ m <= n /\ hi.isSome = true, .undef)
    | _, _, _ => none
   else none
  | none => none
 | .osl b n sz off len =>
  match elT C.P t with
  | some e =>
   if sz = szT C.P e /\ 0 < sz then
    match mx, pc lo, jI len hi with
    | none, some l, some h => some (0 <= l /\ l <= h /\ (h <= len ∨ (off : Int) + h <= n), .osl b n sz (off + l.toNat) (h.toNat - l.toNat))
    | _, _, _ => none
   else none
  | none => none
 | _ => none
def gX (C : Ctx) (place : Nat -> Option (Nat × TypeId)) : List AV -> List (Nat × AV) -> Option (List AV)
 | cells, [] => some cells
 | cells, (k, v) :: r =>
  match place k with
  | some (off, ty) => match fP C ty v with
   | some cs => if off + cs.length <= cells.length then gX C place (splice cells off cs) r else none
   | none => none
  | none => none
def tA (C : Ctx) (t : TypeId) (k : Nat) : TypeId := match bz C.P t k with | some (_, ty) => ty | none => 0
def iy (C : Ctx) (ρ : List (Nat × AV)) (t : TypeId) (parts : List (Nat × Operand)) : Option (Prop × AV) :=
 match zT C.P t with
 | some z =>
  match cZ C.P t with
  | none => match gX C (bz C.P t) z (parts.map λ p => (p.1, aev C ρ (tA C t p.1) p.2)) with
   | some cs => if dA C.P t then some (True, .agg cs) else none
   | none => none
  | some (_, e) => if szT C.P e = 0 then none else match gX C (λ k => some (k * szT C.P e, e)) z (parts.map λ p => (p.1, aev C ρ e p.2)) with
   | some cs => some (True, .agg cs)
   | none => none
 | none => none
def xJ (C : Ctx) (t : TypeId) (x : AV) : Option (Prop × AV) :=
 match x with
 | .mapp b => match C.G b with
  | .mapof k e L => if tO C.P t = some (k, e) then some (True, .int .i64 (zU L)) else none
  | _ => none
 | .str s => if lI C.P t then some (True, .int .i64 s.size) else none
 | .slice _ _ rows => match elT C.P t with | some _ => some (True, .int .i64 rows.length) | none => none
 | .own _ n => match elT C.P t with | some _ => some (True, .int .i64 n) | none => none
 | .osl _ _ _ _ n => match elT C.P t with | some _ => some (True, .int .i64 n) | none => none
 | _ => match cZ C.P t with | some (n, _) => some (True, .int .i64 n) | none => none
def ry (C : Ctx) (t : TypeId) (m x : AV) (ok : Bool) : Option (Prop × AV) :=
 match m with
 | .mapp b => match C.G b with
  | .mapof k e L =>
   if tO C.P t = some (k, e) then
    match rX C.P k x, Fw C.P e with
    | some (ob, kl), some z => some (ob, if ok then .tup [zN (DB L kl z), .bool (DC L kl)] else zN (DB L kl z))
    | _, _ => none
   else none
  | _ => none
 | _ => none
def pm (c a b : AV) : Option (Prop × AV) :=
 match c with
 | .bool x => match a, b with
  | .bool y, .bool z => some (True, .bool (if x then y else z))
  | a, b => some (True, if x then a else b)
 | _ => none
def AT : List AV -> Option AV
 | [.int k a, .int k' b] => if k = k' then some (.int k (if b > a then b else a)) else none
 | [.int k a, .int k' b, .int k'' c] => if k = k' /\ k = k'' then some (.int k (if c > (if b > a then b else a) then c else (if b > a then b else a))) else none
 | _ => none
def AU : List AV -> Option AV
 | [.int k a, .int k' b] => if k = k' then some (.int k (if b < a then b else a)) else none
 | _ => none
def aX (H : List Blk) : Nat -> AV -> AV
 | 0, v => if v.isDeep then v else .undef
 | d + 1, v =>
  match v with
  | .own l n => match H[l]? with
   | some b => if b.rows.length = n then .slice b.sz false (if b.deep then b.rows else b.rows.map λ r => r.map (aX H d)) else .undef
   | none => .undef
  | .osl l n sz off len => match H[l]? with
   | some b => if b.rows.length = n /\ b.sz = sz then .slice b.sz false (if b.deep then (b.rows.drop off).take len else ((b.rows.drop off).take len).map λ r => r.map (aX H d)) else .undef
   | none => .undef
  | .ptr l n sz i f => match H[l]? with
   | some b => if b.rows.length = n /\ b.sz = sz /\ i < n then .iptr (if b.deep then (dq b.rows i).drop f else ((dq b.rows i).drop f).map (aX H d)) else .undef
   | none => .undef
  | .agg cs => .agg (cs.map (aX H d))
  | .tup cs => .tup (cs.map (aX H d))
  | .fn f cs => .fn f (cs.map (aX H d))
  | .mapo l => match H[l]? with
   | some b => (match b.rows with
    | [ents] => if b.sz = 0 then .mapd (decide (b.e = 1)) (ents.map λ e => match e with | .tup [k, v] => .tup [k, aX H d v] | _ => .undef) else .undef
    | _ => .undef)
   | none => .undef
  | v => v
def bo (H : List Blk) : Nat -> AV -> List Nat
 | 0, _ => []
 | d + 1, v =>
  match v with
  | .own l _ => l :: (match H[l]? with
   | some b => if b.deep then [] else b.rows.flatMap λ r => r.flatMap (bo H d)
   | none => [])
  | .osl l _ _ _ _ => l :: (match H[l]? with
   | some b => if b.deep then [] else b.rows.flatMap λ r => r.flatMap (bo H d)
   | none => [])
  | .ptr l _ _ _ _ => l :: (match H[l]? with
   | some b => if b.deep then [] else b.rows.flatMap λ r => r.flatMap (bo H d)
   | none => [])
  | .agg cs => cs.flatMap (bo H d)
  | .tup cs => cs.flatMap (bo H d)
  | .fn _ cs => cs.flatMap (bo H d)
  | .mapo l => l :: (match H[l]? with
   | some b => b.rows.flatMap λ r => r.flatMap λ e => match e with | .tup [_, v] => bo H d v | _ => []
   | none => [])
  | _ => []
def df (ls : List Nat) : Nat -> List Blk -> List Blk
 | _, [] => []
 | i, b :: r => (if ls.contains i then { b with mu := false } else b) :: df ls (i + 1) r
def unB (rows : List (List AV)) : ByteArray := ⟨(rows.map λ r => match r with | [.int _ n] => UInt8.ofNat n.toNat | _ => 0).toArray⟩
def gi : AV -> AV
 | .slice sz _ r => .slice sz false r
 | v => v
def nr (C : Ctx) (H : List Blk) (t : TypeId) (p : AV) : Option (Prop × AV) :=
 match p with
 | .iptr cs => j7 C t cs
 | .ptr l n sz i f => match H[l]? with
  | some b => match j7 C t ((dq b.rows i).drop f) with
   | some (ob, v) => some ((b.rows.length = n /\ b.sz = sz /\ i < n) /\ ob, v)
   | none => none
  | none => none
 | _ => none
def AV.scal : AV -> Bool
 | .bool _ | .int _ _ | .str _ => true
 | _ => false
def AV.deepArg : AV -> Bool
 | .agg cs => cs.all AV.isDeep
 | .fn _ cs => cs.all AV.isDeep
 | v => v.isDeep
def ja (C : Ctx) (e : TypeId) : Nat -> List (Nat × AV) -> Option (List (List AV))
 | _, [] => some []
 | i, (k, v) :: r =>
  if k = i then
   match fP C e v, ja C e (i + 1) r with
   | some cs, some rest => some (cs.map gi :: rest)
   | _, _ => none
  else none
def ce (C : Ctx) (t : TypeId) (len : Nat) (parts : List (Nat × AV)) : Option (Prop × AV) :=
 match elT C.P t with
 | some e =>
  if szT C.P e = 0 ∨ (zT C.P e).isNone ∨ parts.length ≠ len ∨ 1000000 < len * szT C.P e then none else
  match ja C e 0 parts with
  | some rows => some (True, .slice (szT C.P e) true rows)
  | none => none
 | none => none
def bD (C : Ctx) (ρ : List (Nat × AV)) (t : TypeId) (parts : List (Nat × Operand)) : List (Nat × AV) :=
 match elT C.P t with
 | some e => parts.map λ p => (p.1, aev C ρ e p.2)
 | none => []
def fC (C : Ctx) (H : List Blk) (src dst : TypeId) (x : AV) : Option (Prop × AV) :=
 match elT C.P src with
 | some e =>
  if lI C.P dst && zp C.P e && szT C.P e == 1 then
   match aX H 6 x with
   | .slice 1 _ rows => some (rows = dK (unB rows), .str (unB rows))
   | _ => none
  else none
 | none => none
def AV.flat1 : AV -> Bool
 | .bool _ | .int _ _ | .str _ | .nilptr => true
 | _ => false
def AV.isFlat : AV -> Bool
 | .tup vs => vs.all λ x => match x with | .agg cs => cs.all AV.flat1 | x => x.flat1
 | .agg cs => cs.all AV.flat1
 | v => v.flat1
def cy (C : Ctx) (ρ : List (Nat × AV)) : List Operand -> List TypeId -> List AV
 | [], _ => []
 | x :: r, t :: q => aev C ρ t x :: cy C ρ r q
 | x :: r, [] => aev C ρ 0 x :: cy C ρ r []
def dI (H : List Blk) (p : List AV -> Option (Prop × AV)) (args : List AV) : Option (Prop × AV) :=
 match p (args.map (aX H 6)) with
 | some (ob, r) => if r.isFlat || args.all AV.deepArg then some (ob, r) else none
 | none => none
def target (C : Ctx) (ρ : List (Nat × AV)) (c : Call) : Option (FuncId × List AV) :=
 match c.callee with
 | .value f => match aev C ρ 0 f with
  | .fn g cap => if g < 1000000 ∨ cap.length = 0 then some (g, cy C ρ c.args.toList c.argTypes.toList ++ cap) else some (g - 1000000, cap ++ cy C ρ c.args.toList c.argTypes.toList)
  | _ => none
 | _ => none
def lu (C : Ctx) (H : List Blk) (t : TypeId) (p x : AV) : Option (Prop × AV × List Blk) :=
 match p with
 | .ptr l n sz i f => match H[l]? with
  | some b =>
   if b.mu = true /\ szT C.P t ≠ 0 then
    match fP C t x with
    | some cs => some (b.rows.length = n /\ b.sz = sz /\ i < n /\ f + cs.length <= sz, .tup [],
      H.set l { b with rows := b.rows.set i (splice (dq b.rows i) f cs), deep := b.deep && cs.all AV.isDeep })
    | none => none
   else none
  | none => none
 | _ => none
def pf (C : Ctx) (H : List Blk) (t : TypeId) (l c : AV) : Option (Prop × AV × List Blk) :=
 match elT C.P t, l, c with
 | some e, .int _ l, .int _ c => match zT C.P e with
  | some z => some (0 <= l /\ l <= c /\ c.toNat * byT C.P e <= 140737488355328 /\ c < 1000000000000, .own H.length l.toNat, H ++ [⟨e, szT C.P e, List.replicate l.toNat z, true, z.all AV.isDeep⟩])
  | none => none
 | _, _, _ => none
def gw (C : Ctx) (H : List Blk) (t : TypeId) (s x : AV) : Option (Prop × AV × List Blk) :=
 match elT C.P t with
 | some e =>
  if (zT C.P e).isNone then none else
  match (match x with
   | .slice sx _ ys => if sx = szT C.P e then some (True, ys, true) else none
   | .own l' n' => match H[l']? with
    | some b' => if b'.sz = szT C.P e then some (b'.rows.length = n', b'.rows, b'.deep) else none
    | none => none
   | .osl l' n' sz' off len => match H[l']? with
    | some b' => if b'.sz = szT C.P e /\ sz' = szT C.P e then some (b'.rows.length = n', (b'.rows.drop off).take len, b'.deep) else none
    | none => none
   | _ => none : Option (Prop × List (List AV) × Bool)) with
  | some (ob, ys, dp) =>
   match s with
   | .slice sz true rows =>
    if sz = szT C.P e then
     some (ob /\ (rows = [] ∨ ys ≠ []) /\ (rows ++ ys).length * byT C.P e <= 140737488355328 /\ (rows ++ ys).length < 1000000000000, .own H.length (rows ++ ys).length, H ++ [⟨e, sz, rows ++ ys, true, dp⟩])
    else none
   | .own l n => match H[l]? with
    | some b =>
     if b.mu = true /\ b.e = e /\ b.sz = szT C.P e then
      some (ob /\ (dp = true ∨ ys ≠ []) /\ b.rows.length = n /\ (b.rows ++ ys).length * byT C.P e <= 140737488355328 /\ (b.rows ++ ys).length < 1000000000000, .own l (b.rows ++ ys).length, H.set l { b with rows := b.rows ++ ys, deep := b.deep && dp })
     else none
    | none => none
   | _ => none
  | none => none
 | none => none
def nq (C : Ctx) (H : List Blk) (t : TypeId) (s x : AV) : Option (Prop × AV × List Blk) :=
 match s with
 | .osl l n sz off len =>
  if off ≠ 0 then none else
  if len = n then
   match gw C H t (.own l n) x, H[l]? with
   | some (ob, r, H'), some b => some (ob /\ 0 < n /\ b.rows.length = n /\ b.sz = sz, r, H')
   | _, _ => none
  else
   match elT C.P t, H[l]?, x with
   | some e, some b, .slice sx _ ys =>
    if (zT C.P e).isNone then none else
    if sx = szT C.P e /\ b.mu = true /\ b.e = e /\ b.sz = szT C.P e /\ sz = szT C.P e then
     some (b.rows.length = n /\ ys ≠ [] /\ len + ys.length <= n, (if len + ys.length = n then .own l n else .osl l n sz 0 (len + ys.length)), H.set l { b with rows := b.rows.take len ++ ys ++ b.rows.drop (len + ys.length) })
    else none
   | some e, some b, .osl l' n' sz' off' len' =>
    if (zT C.P e).isNone then none else
    if l' = l /\ n' = n /\ sz' = szT C.P e /\ b.mu = true /\ b.e = e /\ b.sz = szT C.P e /\ sz = szT C.P e then
     some (b.rows.length = n /\ len + len' <= n, .osl l n sz 0 (len + len'), H.set l { b with rows := b.rows.take len ++ (b.rows.drop off').take len' ++ b.rows.drop (len + len') })
    else none
   | _, _, _ => none
 | s => gw C H t s x
def Ng (C : Ctx) (H : List Blk) (e : TypeId) (x : AV) : Option (Prop × List (List AV) × Bool) :=
 match x with
 | .slice sx _ ys => if sx = szT C.P e then some (True, ys, true) else none
 | .own l' n' => match H[l']? with
  | some b' => if b'.sz = szT C.P e then some (b'.rows.length = n', b'.rows, b'.deep) else none
  | none => none
 | .osl l' n' sz' off len => match H[l']? with
  | some b' => if b'.sz = szT C.P e /\ sz' = szT C.P e then some (b'.rows.length = n', (b'.rows.drop off).take len, b'.deep) else none
  | none => none
 | _ => none
def FP (C : Ctx) (e : TypeId) (s : AV) : Option (Nat × Nat × Nat × Nat) :=
 match s with
 | .own l n => some (l, n, 0, n)
 | .osl l n sz off len => if sz = szT C.P e then some (l, n, off, len) else none
 | _ => none
def uT (C : Ctx) (H : List Blk) (t : TypeId) (s x : AV) : Option (Prop × AV × List Blk) :=
 match elT C.P t with
 | some e => if szT C.P e = 0 then none else
  match Ng C H e x, FP C e s with
  | some (ob, ys, dp), some (l, n, off, len) => match H[l]? with
   | some b => if b.mu = true /\ b.sz = szT C.P e then
     some (ob /\ b.rows.length = n, .int .i64 (min ys.length len : Nat), H.set l { b with rows := b.rows.take off ++ ys.take len ++ b.rows.drop (off + min ys.length len), deep := b.deep && dp })
    else none
   | none => none
  | _, _ => none
 | none => none
def oY (C : Ctx) (H : List Blk) (t : TypeId) (s : AV) : Option (Prop × AV × List Blk) :=
 match elT C.P t, s with
 | some e, .osl l n sz off len =>
  match zT C.P e, H[l]? with
  | some z, some b =>
   if b.mu = true /\ sz = szT C.P e then
    some (b.rows.length = n /\ b.sz = sz, .tup [], H.set l { b with rows := b.rows.take off ++ List.replicate len z ++ b.rows.drop (off + len), deep := b.deep && z.all AV.isDeep })
   else none
  | _, _ => none
 | _, _ => none
def yp : AV -> Bool
 | .ptr _ _ _ _ _ => true
 | _ => false
def gM (C : Ctx) (H : List Blk) (t : TypeId) (len : Nat) (parts : List (Nat × AV)) : Option (Prop × AV × List Blk) :=
 match elT C.P t, parts with
 | some e, [(0, .ptr l n sz i f)] =>
  if szT C.P e = 1 /\ (zT C.P e).isSome /\ len = 1 then some (True, .own H.length 1, H ++ [⟨e, 1, [[.ptr l n sz i f]], true, false⟩]) else none
 | _, _ => none
def pi (C : Ctx) (H : List Blk) (t : TypeId) (cs : Option (List AV)) : Option (Prop × AV × List Blk) :=
 match cs with
 | some cs => if szT C.P t = cs.length /\ 0 < cs.length then some (True, .ptr H.length 1 (szT C.P t) 0 0, H ++ [⟨t, szT C.P t, [cs], true, cs.all AV.isDeep⟩]) else none
 | none => none
def Dr (P : Program) (t : TypeId) : Option Bool :=
 match P.underlying t with
 | some (.int .i64) => some true
 | some .string => some false
 | _ => none
def au (C : Ctx) (t : TypeId) : Option (Bool × TypeId) :=
 match tO C.P t with
 | some (k, e) => match Dr C.P k with
  | some b => some (b, e)
  | none => none
 | none => none
def ao : Bool -> AV -> Bool
 | true, .int .i64 _ => true
 | false, .str _ => true
 | _, _ => false
def ak : AV -> AV -> Bool
 | .int _ a, .int _ b => a == b
 | .str a, .str b => decide (a = b)
 | _, _ => false
def ah (x : AV) : List AV -> Option AV
 | [] => none
 | .tup [k, v] :: r => if ak k x then some v else ah x r
 | _ :: r => ah x r
def ai (x v : AV) : List AV -> List AV
 | [] => [.tup [x, v]]
 | .tup [k, u] :: r => if ak k x then .tup [k, v] :: r else .tup [k, u] :: ai x v r
 | e :: r => e :: ai x v r
def aj (x : AV) : List AV -> List AV
 | [] => []
 | .tup [k, u] :: r => if ak k x then r else .tup [k, u] :: aj x r
 | e :: r => e :: aj x r
def zV (P : Program) (t : TypeId) : Option AV :=
 match zT P t, (P.info? t).bind (·.zero) with
 | some z, some (.agg _) => some (.agg z)
 | some [a], some _ => some a
 | _, _ => none
def ab (H : List Blk) (l : Nat) (kb : Bool) : Option (Blk × List AV) :=
 match H[l]? with
 | some b => match b.rows with
  | [ents] => if b.sz = 0 /\ decide (b.e = 1) = kb /\ b.mu = true then some (b, ents) else none
  | _ => none
 | none => none
def aa (C : Ctx) (H : List Blk) (t : TypeId) : Option (Prop × AV × List Blk) :=
 match au C t with
 | some (kb, _) => some (True, .mapo H.length, H ++ [⟨if kb then 1 else 0, 0, [[]], true, false⟩])
 | none => none
def am (C : Ctx) (H : List Blk) (t : TypeId) (m x v : AV) : Option (Prop × AV × List Blk) :=
 match m, au C t with
 | .mapo l, some (kb, _) => match ab H l kb with
  | some (b, ents) => if ao kb x then some (ents.length < 1000000000000, .tup [], H.set l { b with rows := [ai x v ents] }) else none
  | none => none
 | _, _ => none
def ap (C : Ctx) (H : List Blk) (t : TypeId) (m x : AV) : Option (Prop × AV × List Blk) :=
 match m, au C t with
 | .mapo l, some (kb, _) => match ab H l kb with
  | some (b, ents) => if ao kb x then some (True, .tup [], H.set l { b with rows := [aj x ents] }) else none
  | none => none
 | _, _ => none
def ag (C : Ctx) (H : List Blk) (t : TypeId) (l : Nat) (x : AV) (ok : Bool) : Option (Prop × AV) :=
 match au C t with
 | some (kb, e) => match ab H l kb, zV C.P e with
  | some (_, ents), some z => if ao kb x then some (True, if ok then .tup [(ah x ents).getD z, .bool (ah x ents).isSome] else (ah x ents).getD z) else none
  | _, _ => none
 | none => none
def ae (C : Ctx) (t : TypeId) (kb : Bool) (ents : List AV) (x : AV) (ok : Bool) : Option (Prop × AV) :=
 match au C t with
 | some (kb', e) => match zV C.P e with
  | some z => if kb' = kb /\ ao kb x = true then some (True, if ok then .tup [(ah x ents).getD z, .bool (ah x ents).isSome] else (ah x ents).getD z) else none
  | none => none
 | none => none
def ac (C : Ctx) (H : List Blk) (t : TypeId) (m x : AV) (ok : Bool) : Option (Prop × AV) :=
 match m with
 | .mapo l => ag C H t l x ok
 | .mapd kb ents => ae C t kb ents x ok
 | m => ry C t m x ok
inductive Kd where
 | pure | read | eff
def kdE : Entry -> Kd
 | .pure _ => .read
 | _ => .eff
def bT (C : Ctx) (o : Oper) : Kd :=
 match o.op with
 | .load _ _ => .read
 | .buildSlice t _ _ => match elT C.P t with
  | some e => (match zT C.P e with | some z => if z.all AV.scal then .read else .eff | none => .eff)
  | none => .eff
 | .alloc _ => .eff
 | .box _ _ => .eff
 | .store _ _ _ => .eff
 | .makeSlice _ _ _ => .eff
 | .makeMap _ _ => .eff
 | .mapUpdate _ _ _ _ => .eff
 | .lookup _ _ _ _ => .read
 | .convert src _ _ => match elT C.P src with | some _ => .read | none => .pure
 | .call c => match c.callee with
  | .builtin .append => .eff
  | .builtin .clear => .eff
  | .builtin .copy => .eff
  | .builtin .delete => .eff
  | .builtin _ => .pure
  | .value (.func f) => kdE (C.S f)
  | _ => .eff
 | _ => .pure
def k8 (C : Ctx) (ρ : List (Nat × AV)) (o : Oper) : Option (Prop × AV) :=
 match o.op with
 | .move x => some (True, aev C ρ o.type x)
 | .assign x => some (True, aev C ρ o.type x)
 | .pick c a b => pm (aev C ρ 0 c) (aev C ρ o.type a) (aev C ρ o.type b)
 | .binOp op t x y ty => if ke y then oV C op t (aev C ρ t x) else xG C op t (aev C ρ t x) (aev C ρ ty y)
 | .unOp op _ x => aun op (aev C ρ o.type x)
 | .convert src dst x => oZ C src dst (aev C ρ src x)
 | .field t x k => lj C t (aev C ρ t x) k
 | .fieldAddr t x k => eD C t (aev C ρ 0 x) k
 | .indexAddr t x ix => eE C t (aev C ρ t x) (aev C ρ 0 ix)
 | .index t x ix => lk C t (aev C ρ t x) (aev C ρ 0 ix)
 | .slice t x lo hi mx => lq C t (aev C ρ t x) (lo.map (aev C ρ 0)) (hi.map (aev C ρ 0)) (mx.map (aev C ρ 0))
 | .extract x k => match aev C ρ 0 x with
  | .tup vs => match vs[k]? with | some v => some (True, v) | none => none
  | _ => none
 | .makeFunc (.func f) first cap => if f < 1000000 then (if first.size = 0 then some (True, .fn f (cap.toList.map (aev C ρ 0))) else if cap.size = 0 then some (True, .fn (f + 1000000) (first.toList.map (aev C ρ 0))) else none) else none
 | .nilCheck x => match aev C ρ 0 x with
  | .ptr l n sz i f => some (True, .ptr l n sz i f)
  | .iptr cs => some (True, .iptr cs)
  | .fn f cap => some (True, .fn f cap)
  | _ => none
 | .build t parts => iy C ρ t parts.toList
 | .call c => match c.callee with
  | .builtin .len => match c.args.toList, c.argTypes.toList with
   | [x], [t] => xJ C t (aev C ρ t x)
   | _, _ => none
  | .builtin .max => match AT (cy C ρ c.args.toList c.argTypes.toList) with | some v => some (True, v) | none => none
  | .builtin .min => match AU (cy C ρ c.args.toList c.argTypes.toList) with | some v => some (True, v) | none => none
  | _ => none
 | _ => none
def nv (C : Ctx) (ρ : List (Nat × AV)) (H : List Blk) (o : Oper) : Option (Prop × AV) :=
 match o.op with
 | .load t p => nr C H t (aev C ρ 0 p)
 | .buildSlice t len parts => if (bD C ρ t parts.toList).all (λ p => p.2.deepArg) then ce C t len (bD C ρ t parts.toList) else none
 | .convert src dst x => fC C H src dst (aev C ρ src x)
 | .lookup t m x ok => ac C H t (aev C ρ t m) (aev C ρ 0 x) ok
 | .call c => match target C ρ c with
  | some (f, args) => match C.S f with
   | .pure p => dI H p args
   | _ => none
  | none => none
 | _ => none
def o9 (C : Ctx) (ρ : List (Nat × AV)) (H : List Blk) (o : Oper) : Option (Prop × AV × List Blk) :=
 match o.op with
 | .alloc t => pi C H t (zT C.P t)
 | .box t x => pi C H t (fP C t (aev C ρ t x))
 | .store t p x => lu C H t (aev C ρ 0 p) (aev C ρ t x)
 | .buildSlice t len parts => if (bD C ρ t parts.toList).any (λ p => yp p.2) then gM C H t len (bD C ρ t parts.toList) else match ce C t len ((bD C ρ t parts.toList).map λ p => (p.1, aX H 6 p.2)) with
  | some (ob, v) => some (ob, v, df ((bD C ρ t parts.toList).flatMap λ p => bo H 6 p.2) 0 H)
  | none => none
 | .makeSlice t l c => pf C H t (aev C ρ 0 l) (aev C ρ 0 c)
 | .makeMap t none => aa C H t
 | .mapUpdate t m x v => am C H t (aev C ρ 0 m) (aev C ρ 0 x) (aev C ρ 0 v)
 | .call c => match c.callee with
  | .builtin .append => match c.args.toList, c.argTypes.toList with
   | [s, x], [t, t'] => if t = t' then nq C H t (aev C ρ t s) (aev C ρ t' x) else none
   | _, _ => none
  | .builtin .clear => match c.args.toList, c.argTypes.toList with
   | [s], [t] => oY C H t (aev C ρ t s)
   | _, _ => none
  | .builtin .copy => match c.args.toList, c.argTypes.toList with
   | [s, x], [t, t'] => if t = t' then uT C H t (aev C ρ t s) (aev C ρ t' x) else none
   | _, _ => none
  | .builtin .delete => match c.args.toList, c.argTypes.toList with
   | m :: x :: _, t :: _ => ap C H t (aev C ρ 0 m) (aev C ρ 0 x)
   | _, _ => none
  | _ => match target C ρ c with
   | some (f, args) => match C.S f with
    | .pure p => match dI H p args with | some (ob, r) => some (ob, r, H) | none => none
    | .frz p => match p (args.map (aX H 6)) with | some (ob, r) => some (ob, r, df (args.flatMap (bo H 6)) 0 H) | none => none
    | .gen g => g args H
    | .no => none
   | none => none
 | _ => none
def aL (C : Ctx) (st : ASt) (o : Oper) : Option (Prop × AV × List Blk) :=
 match bT C o with
 | .pure => match k8 C st.ρ o with | some (ob, v) => some (ob, v, st.H) | none => none
 | .read => match nv C st.ρ st.H o with | some (ob, v) => some (ob, v, st.H) | none => none
 | .eff => o9 C st.ρ st.H o
def b9 (ops : Array Oper) (ρ : List (Nat × AV)) (o : Oper) : Option Bool :=
 match o.guard with
 | none => some true
 | some (j, want) => match (ops[j]?).bind (·.dst) with
  | some d => match aQ ρ d with
   | .bool b => some (b == want)
   | .tup [] => some false
   | _ => none
  | none => none
def eF (C : Ctx) (ops : Array Oper) : List Oper -> ASt -> (ASt -> Prop) -> Prop
 | [], st, K => K st
 | o :: r, st, K =>
  match b9 ops st.ρ o with
  | none => False
  | some g =>
   (g = true -> match aL C st o with
    | some (ob, v, H') => ob /\ eF C ops r ⟨dP st.ρ o.dst v, H'⟩ K
    | none => False) /\
   (g = false -> eF C ops r ⟨dP st.ρ o.dst (.tup []), st.H⟩ K)
inductive BI where
 | nil
 | lies (b cap : Nat)
def KeyRep (kb : Bool) (v : Value) (a : AV) : Prop := (kb = true /\ ∃ n : Int, v = .int .i64 n /\ a = .int .i64 n) ∨ (kb = false /\ ∃ s, v = .string s /\ a = .str s)
def C5 (ents : List AV) (i : Nat) : AV := match ents[i]? with | some (.tup [k, _]) => k | _ => .undef
def C6 (ents : List AV) (i : Nat) : AV := match ents[i]? with | some (.tup [_, v]) => v | _ => .undef
def rc (f : FuncId) (cs : Array Value) : Bool := decide (f < 1000000 ∨ cs.size = 0)
def fnI (f : FuncId) (cs : Array Value) : FuncId := if rc f cs then f else f - 1000000
def fnR (f : FuncId) (cs : Array Value) : Array Value := if rc f cs then #[] else cs
def fnC (f : FuncId) (cs : Array Value) : Array Value := if rc f cs then cs else #[]
theorem zI (f : FuncId) : fnI f #[] = f := by simp [fnI, rc]
theorem zJ (f : FuncId) : fnR f #[] = #[] := by simp [fnR]
theorem zH (f : FuncId) : fnC f #[] = #[] := by simp [fnC]
inductive RepD (w : World) (X : Nat -> Prop) : Value -> AV -> Prop
 | undef (v : Value) : RepD w X v .undef
 | bool (b : Bool) : RepD w X (.bool b) (.bool b)
 | int (k : IntKind) (n : Int) : RepD w X (.int k n) (.int k n)
 | str (s : ByteArray) : RepD w X (.string s) (.str s)
 | nilptr : RepD w X (.pointer none) .nilptr
 | anyb (b : Bool) : RepD w X (.bool b) .anyb
 | mapp (b : Nat) : RepD w X (.map (some b)) (.mapp b)
 | itp (r : Nat) : RepD w X (.pointer (some ⟨r, 0, none⟩)) (.itp r)
 | mapd (bk : Nat) (es : Array MapEntry) (clock : Nat) (kb : Bool) (ents : List AV) (hlt : bk < w.heap.size) (hX : ¬ X bk) (hm : w.heap[bk]? = some (.map es clock)) (hst : MapKept.Stamped es clock) (hl : es.size = ents.length) (hmax : es.size <= maxLen)
   (he : ∀ i, i < ents.length -> ents[i]? = some (.tup [C5 ents i, C6 ents i])) (hk : ∀ (i : Nat) (e : MapEntry), es[i]? = some e -> KeyRep kb e.key (C5 ents i)) (hv : ∀ (i : Nat) (e : MapEntry), es[i]? = some e -> RepD w X e.val (C6 ents i)) : RepD w X (.map (some bk)) (.mapd kb ents)
 | tab (b : Nat) (k : IntKind) (zs : List Int) (t : TypeId) (fr : Nat × Nat) (hb : w.heap[b]? = some (.cells (zs.map (Value.int k)).toArray t fr)) (hX : ¬ X b) : RepD w X (.pointer (some ⟨b, 0, none⟩)) (.tab k zs)
 | slice (sz : Nat) (full : Bool) (rows : List (List AV)) (a : Option Addr) (n cap : Nat) (val : Nat -> Nat -> Value) (hn : n = rows.length) (h1 : rows.length <= cap) (h2 : cap <= maxLen) (h3 : full = true -> cap = rows.length)
   (hr : ∀ r ∈ rows, r.length = sz)
   (hm : rows.length ≠ 0 -> ∃ b off, a = some ⟨b, off, none⟩ /\ b < w.heap.size /\ ¬ X b /\ ∀ i j, i < rows.length -> j < sz -> w.cell? ⟨b, off + i * sz + j, none⟩ = some (val i j) /\ (val i j).oneCell' = true)
   (hv : ∀ i j r v, rows[i]? = some r -> r[j]? = some v -> RepD w X (val i j) v) : RepD w X (.slice a n cap) (.slice sz full rows)
 | iptr (b off : Nat) (cells : List AV) (val : Nat -> Value) (hb : b < w.heap.size) (hX : ¬ X b) (hm : ∀ j, j < cells.length -> w.cell? ⟨b, off + j, none⟩ = some (val j) /\ (val j).oneCell' = true)
   (hv : ∀ j v, cells[j]? = some v -> RepD w X (val j) v) : RepD w X (.pointer (some ⟨b, off, none⟩)) (.iptr cells)
 | agg (cs : Array Value) (cells : List AV) (val : Nat -> Value) (hl : cs.size = cells.length) (hm : ∀ j, j < cells.length -> cs[j]? = some (val j) /\ (val j).oneCell' = true)
   (hv : ∀ j v, cells[j]? = some v -> RepD w X (val j) v) : RepD w X (.agg cs) (.agg cells)
 | tup (cs : Array Value) (cells : List AV) (val : Nat -> Value) (hl : cs.size = cells.length) (hm : ∀ j, j < cells.length -> cs[j]? = some (val j))
   (hv : ∀ j v, cells[j]? = some v -> RepD w X (val j) v) : RepD w X (.tuple cs) (.tup cells)
 | fn (f : FuncId) (cs : Array Value) (cells : List AV) (val : Nat -> Value) (hl : cs.size = cells.length) (hm : ∀ j, j < cells.length -> cs[j]? = some (val j))
   (hv : ∀ j v, cells[j]? = some v -> RepD w X (val j) v) : RepD w X (.func (.func (fnI f cs)) (fnR f cs) (fnC f cs)) (.fn f cells)
theorem RepD.keep {w w' : World} {X X' : Nat -> Prop} {v : Value} {av : AV} (h : RepD w X v av) (hk : ∀ b, b < w.heap.size -> ¬ X b -> w'.heap[b]? = w.heap[b]?) (hs : w.heap.size <= w'.heap.size)
  (hX : ∀ b, b < w.heap.size -> X' b -> X b) : RepD w' X' v av := by
 induction h with
 | undef v => exact .undef v
 | bool b => exact .bool b
 | int k n => exact .int k n
 | str s => exact .str s
 | nilptr => exact .nilptr
 | anyb b => exact .anyb b
 | mapp b => exact .mapp b
 | itp r => exact .itp r
 | mapd bk es clock kb ents hlt hx hm hst hl hmax he hk' hv ih => exact .mapd bk es clock kb ents (by omega) (λ h => hx (hX bk hlt h)) ((hk bk hlt hx).trans hm) hst hl hmax he hk' ih
 | tab b k zs t fr hb hx =>
  have hlt : b < w.heap.size := by
   rcases lt_or_ge b w.heap.size with h | h
   ·exact h
   ·rw [Array.getElem?_eq_none h] at hb; cases hb
  exact .tab b k zs t fr ((hk b hlt hx).trans hb) (λ h => hx (hX b hlt h))
 | slice sz full rows a n cap val hn h1 h2 h3 hr hm hv ih =>
  refine .slice sz full rows a n cap val hn h1 h2 h3 hr (λ h0 => ?_) ih
  obtain ⟨b, off, rfl, hb, hx, hc⟩ := hm h0
  exact ⟨b, off, rfl, by omega, λ h => hx (hX b hb h), λ i j hi hj => ⟨(World.cell?_of_block (hk b hb hx)).trans (hc i j hi hj).1, (hc i j hi hj).2⟩⟩
 | iptr b off cells val hb hx hm hv ih =>
  exact .iptr b off cells val (by omega) (λ h => hx (hX b hb h)) (λ j hj => ⟨(World.cell?_of_block (hk b hb hx)).trans (hm j hj).1, (hm j hj).2⟩) ih
 | agg cs cells val hl hm hv ih => exact .agg cs cells val hl hm ih
 | tup cs cells val hl hm hv ih => exact .tup cs cells val hl hm ih
 | fn f cs cells val hl hm hv ih => exact .fn f cs cells val hl hm ih
theorem RepD.mono {w : World} {X X' : Nat -> Prop} {v : Value} {av : AV} (h : RepD w X v av) (hX : ∀ b, b < w.heap.size -> X' b -> X b) : RepD w X' v av :=
 h.keep (λ _ _ _ => rfl) (le_refl _) hX
def zf : Option BI -> Option Addr -> Nat -> Nat -> Prop
 | some .nil, _, n, cap => n = 0 /\ cap = 0
 | some (.lies b c), a, _, cap => a = some ⟨b, 0, none⟩ /\ cap = c
 | none, _, _, _ => False
def H5 : Option BI -> Option Addr -> Nat -> Nat -> Nat -> Nat -> Prop
 | some .nil, _, _, off, len, cap => off = 0 /\ len = 0 /\ cap = 0
 | some (.lies b c), a, sz, off, len, cap => off + len <= c /\ cap = c - off /\ (off < c -> a = some ⟨b, off * sz, none⟩)
 | none, _, _, _, _, _ => False
inductive Rep (w : World) (X : Nat -> Prop) (β : List BI) (H : List Blk) : Value -> AV -> Prop
 | deep {v : Value} {av : AV} (h : RepD w X v av) : Rep w X β H v av
 | own (l n : Nat) (a : Option Addr) (cap : Nat) (b : Blk) (hb : H[l]? = some b) (hn : 0 < b.sz /\ n <= b.rows.length) (h0 : n = 0 ∨ ∃ x, a = some x) (hc : n <= cap) (hx : b.rows.length = n -> zf β[l]? a n cap) : Rep w X β H (.slice a n cap) (.own l n)
 | osl (l n sz off len : Nat) (a : Option Addr) (cap : Nat) (b : Blk) (hb : H[l]? = some b) (hn : 0 < b.sz /\ n <= b.rows.length) (hle : off + len <= n) (h0 : off = n ∨ ∃ x, a = some x) (hc : n <= off + cap) (hx : b.rows.length = n -> b.sz = sz -> H5 β[l]? a sz off len cap) : Rep w X β H (.slice a len cap) (.osl l n sz off len)
 | ptr (l n sz i f : Nat) (a : Addr) (b : Blk) (hb : H[l]? = some b) (hn : 0 < b.sz /\ n <= b.rows.length) (hx : b.rows.length = n -> b.sz = sz -> i < n -> ∃ bk cap, β[l]? = some (BI.lies bk cap) /\ a = ⟨bk, i * sz + f, none⟩) : Rep w X β H (.pointer (some a)) (.ptr l n sz i f)
 | mapo (l bk cap : Nat) (b : Blk) (hb : H[l]? = some b) (hn : b.sz = 0 /\ 1 <= b.rows.length) (hx : b.rows.length = 1 -> β[l]? = some (BI.lies bk cap)) : Rep w X β H (.map (some bk)) (.mapo l)
 | agg (cs : Array Value) (cells : List AV) (val : Nat -> Value) (hl : cs.size = cells.length) (hm : ∀ j, j < cells.length -> cs[j]? = some (val j) /\ (val j).oneCell' = true)
   (hv : ∀ j v, cells[j]? = some v -> Rep w X β H (val j) v) : Rep w X β H (.agg cs) (.agg cells)
 | tup (cs : Array Value) (cells : List AV) (val : Nat -> Value) (hl : cs.size = cells.length) (hm : ∀ j, j < cells.length -> cs[j]? = some (val j))
   (hv : ∀ j v, cells[j]? = some v -> Rep w X β H (val j) v) : Rep w X β H (.tuple cs) (.tup cells)
 | fn (f : FuncId) (cs : Array Value) (cells : List AV) (val : Nat -> Value) (hl : cs.size = cells.length) (hm : ∀ j, j < cells.length -> cs[j]? = some (val j))
   (hv : ∀ j v, cells[j]? = some v -> Rep w X β H (val j) v) : Rep w X β H (.func (.func (fnI f cs)) (fnR f cs) (fnC f cs)) (.fn f cells)
def MutB (β : List BI) (H : List Blk) (b : Nat) : Prop := ∃ (l c : Nat) (blk : Blk), β[l]? = some (BI.lies b c) /\ H[l]? = some blk /\ blk.mu = true
def Mu (X : Nat -> Prop) (β : List BI) (H : List Blk) (b : Nat) : Prop := X b ∨ MutB β H b
structure EntsRep (w : World) (X : Nat -> Prop) (β : List BI) (H : List Blk) (kb : Bool) (es : Array MapEntry) (clock : Nat) (ents : List AV) : Prop where
 len : es.size = ents.length
 max : es.size <= maxLen
 st : MapKept.Stamped es clock
 ent : ∀ (i : Nat) (e : MapEntry), es[i]? = some e -> ∃ k v : AV, ents[i]? = some (.tup [k, v]) /\ KeyRep kb e.key k /\ Rep w X β H e.val v
def ze (w : World) (X : Nat -> Prop) (β : List BI) (H : List Blk) (bk cap : Nat) (b : Blk) : Prop :=
 ∃ cur, w.heap[bk]? = some (.cells cur b.e (0, 0)) /\ cur.size = cap * b.sz /\ b.rows.length <= cap /\ cap <= maxLen /\ 0 < b.sz /\ (∀ r ∈ b.rows, r.length = b.sz) /\
   ∀ i j r av, b.rows[i]? = some r -> r[j]? = some av -> ∃ v, cur[i * b.sz + j]? = some v /\ v.oneCell' = true /\ Rep w X β H v av /\ (b.deep = true -> RepD w X v av)
def Co (w : World) (X : Nat -> Prop) (β : List BI) (H : List Blk) (bk : Nat) (b : Blk) : Prop :=
 b.sz = 0 /\ b.deep = false /\ ∃ es clock ents, w.heap[bk]? = some (.map es clock) /\ b.rows = [ents] /\ EntsRep w X β H (decide (b.e = 1)) es clock ents
def BlkRep (w : World) (X : Nat -> Prop) (β : List BI) (H : List Blk) : BI -> Blk -> Prop
 | .nil, b => b.rows = [] /\ 0 < b.sz
 | .lies bk cap, b => ze w X β H bk cap b ∨ Co w X β H bk b
theorem BlkRep.cells {w : World} {X : Nat -> Prop} {β : List BI} {H : List Blk} {bk cap : Nat} {b : Blk} (h : BlkRep w X β H (.lies bk cap) b) (hz : 0 < b.sz) : ze w X β H bk cap b :=
 h.resolve_right λ h => by have := h.1; omega
theorem BlkRep.map {w : World} {X : Nat -> Prop} {β : List BI} {H : List Blk} {bk cap : Nat} {b : Blk} (h : BlkRep w X β H (.lies bk cap) b) (hz : b.sz = 0) : Co w X β H bk b :=
 h.resolve_left λ ⟨_, _, _, _, _, h, _⟩ => by omega
structure HRel (w : World) (X : Nat -> Prop) (β : List BI) (H : List Blk) : Prop where
 len : β.length = H.length
 blk : ∀ (l : Nat) (bi : BI) (b : Blk), β[l]? = some bi -> H[l]? = some b -> BlkRep w (Mu X β H) β H bi b
 lt : ∀ (l b c : Nat), β[l]? = some (BI.lies b c) -> b < w.heap.size /\ ¬ X b
 inj : ∀ (l l' b c c' : Nat), β[l]? = some (BI.lies b c) -> β[l']? = some (BI.lies b c') -> l = l'
 base : ∀ b, X b -> b < w.heap.size
set_option linter.unusedVariables false in
def Drawn (w w' : World) : Prop := True
set_option linter.unusedVariables false in
theorem Drawn.of_le {w w' : World} (h : w.drawn <= w'.drawn) : Drawn w w' := by first | exact h | trivial
theorem Drawn.refl (w : World) : Drawn w w := Drawn.of_le (le_refl _)
set_option linter.unusedVariables false in
theorem Drawn.trans {a b c : World} (h : Drawn a b) (h' : Drawn b c) : Drawn a c := by first | exact le_trans h h' | trivial
structure Keeps (M : Nat -> Prop) (w w' : World) : Prop where
 os : w'.os = w.os
 tape : w'.tape = w.tape
 output : w'.output = w.output
 size : w.heap.size <= w'.heap.size
 block : ∀ b, b < w.heap.size -> ¬ M b -> w'.heap[b]? = w.heap[b]?
 drawn : Drawn w w'
structure Grow (β : List BI) (H : List Blk) (β' : List BI) (H' : List Blk) (s : Nat) : Prop where
 old : ∀ (l : Nat) (b : Blk), H[l]? = some b -> ∃ b', H'[l]? = some b' /\ b'.sz = b.sz /\ b'.e = b.e /\ b.rows.length <= b'.rows.length /\ (b'.rows.length = b.rows.length -> β'[l]? = β[l]?) /\ (b'.mu = true -> b.mu = true)
 at_ : ∀ (l bk c : Nat), β'[l]? = some (BI.lies bk c) -> s <= bk ∨ ∃ c', β[l]? = some (BI.lies bk c')
structure StepR (w : World) (β : List BI) (H : List Blk) (w' : World) (β' : List BI) (H' : List Blk) : Prop where
 keeps : Keeps (MutB β H) w w'
 grow : Grow β H β' H' w.heap.size
 len : β.length = H.length
theorem Keeps.refl (M : Nat -> Prop) (w : World) : Keeps M w w := ⟨rfl, rfl, rfl, le_refl _, λ _ _ _ => rfl, Drawn.refl _⟩
theorem Keeps.drew (M : Nat -> Prop) (w : World) : Keeps M w w.drew := ⟨rfl, rfl, rfl, le_refl _, λ _ _ _ => rfl, Drawn.of_le (Nat.le_succ _)⟩
theorem Keeps.alloc (M : Nat -> Prop) (w : World) (o : Obj) : Keeps M w (w.alloc o) := ⟨rfl, rfl, rfl, by simp, λ b hb _ => heap_alloc_old w o hb, Drawn.of_le (le_refl _)⟩
theorem Keeps.trans {M M' : Nat -> Prop} {a b c : World} (h : Keeps M a b) (h' : Keeps M' b c) (hM : ∀ k, k < a.heap.size -> M' k -> M k) : Keeps M a c :=
 ⟨h'.os.trans h.os, h'.tape.trans h.tape, h'.output.trans h.output, le_trans h.size h'.size, λ k hk hn => (h'.block k (lt_of_lt_of_le hk h.size) (λ hm => hn (hM k hk hm))).trans (h.block k hk hn), h.drawn.trans h'.drawn⟩
theorem Keeps.weaken {M M' : Nat -> Prop} {a b : World} (h : Keeps M a b) (hM : ∀ k, k < a.heap.size -> M k -> M' k) : Keeps M' a b :=
 ⟨h.os, h.tape, h.output, h.size, λ k hk hn => h.block k hk (λ hm => hn (hM k hk hm)), h.drawn⟩
theorem Grow.refl (β : List BI) (H : List Blk) (s : Nat) : Grow β H β H s := ⟨λ _ b h => ⟨b, h, rfl, rfl, le_refl _, λ _ => rfl, id⟩, λ _ _ c h => .inr ⟨c, h⟩⟩
theorem StepR.refl (w : World) (β : List BI) (H : List Blk) (h : β.length = H.length) : StepR w β H w β H := ⟨Keeps.refl _ _, Grow.refl _ _ _, h⟩
theorem x7 {α γ : Type} {l : List α} {m : List γ} (h : l.length = m.length) {i : Nat} {x : α} (hx : l[i]? = some x) : ∃ y, m[i]? = some y := by
 have := (List.getElem?_eq_some_iff.1 hx).1
 exact ⟨m[i]'(by omega), getElem?_eq_getElem _⟩
theorem StepR.mut_ {w : World} {β : List BI} {H : List Blk} {w' : World} {β' : List BI} {H' : List Blk} (s : StepR w β H w' β' H') (b : Nat) (hb : b < w.heap.size) (h : MutB β' H' b) : MutB β H b := by
 obtain ⟨l, c, blk, h1, h2, h3⟩ := h
 rcases s.grow.at_ l b c h1 with hlt | ⟨c', h4⟩
 ·omega
 ·obtain ⟨blk0, h5⟩ := x7 s.len h4
  obtain ⟨b', h6, h8, _, _, _, h7⟩ := s.grow.old l blk0 h5
  rw [h2] at h6
  injection h6 with h6
  subst h6
  exact ⟨l, c', blk0, h4, h5, h7 h3⟩
theorem StepR.mu {X : Nat -> Prop} {w : World} {β : List BI} {H : List Blk} {w' : World} {β' : List BI} {H' : List Blk} (s : StepR w β H w' β' H') (b : Nat) (hb : b < w.heap.size) (h : Mu X β' H' b) : Mu X β H b :=
 h.imp id (s.mut_ b hb)
theorem StepR.trans {w : World} {β : List BI} {H : List Blk} {w1 : World} {β1 : List BI} {H1 : List Blk} {w2 : World} {β2 : List BI} {H2 : List Blk}
  (s : StepR w β H w1 β1 H1) (t : StepR w1 β1 H1 w2 β2 H2) : StepR w β H w2 β2 H2 := by
 refine ⟨s.keeps.trans t.keeps s.mut_, ⟨λ l b hb => ?_, λ l bk c h => ?_⟩, s.len⟩
 ·obtain ⟨b1, h1, e1, e2, h2, h3, h4⟩ := s.grow.old l b hb
  obtain ⟨b2, k1, e3, e4, k2, k3, k4⟩ := t.grow.old l b1 h1
  exact ⟨b2, k1, e3.trans e1, e4.trans e2, le_trans h2 k2, λ e => (k3 (by omega)).trans (h3 (by omega)), λ h => h4 (k4 h)⟩
 ·rcases t.grow.at_ l bk c h with h1 | ⟨c', h1⟩
  ·exact .inl (le_trans s.keeps.size h1)
  ·exact s.grow.at_ l bk c' h1
theorem Rep.keep {X : Nat -> Prop} {w : World} {β : List BI} {H : List Blk} {w' : World} {β' : List BI} {H' : List Blk} (s : StepR w β H w' β' H') {v : Value} {av : AV} (h : Rep w (Mu X β H) β H v av) : Rep w' (Mu X β' H') β' H' v av := by
 induction h with
 | deep h => exact .deep (h.keep (λ b hb hn => s.keeps.block b hb (λ hm => hn (.inr hm))) s.keeps.size (λ b hb => s.mu b hb))
 | own l n a cap b hb hn h0 hc hx =>
  obtain ⟨b', h1, e1, _, h2, h3, _⟩ := s.grow.old l b hb
  refine .own l n a cap b' h1 ⟨by have := hn.1; omega, le_trans hn.2 h2⟩ h0 hc λ e => ?_
  rw [h3 (by omega)]
  exact hx (by omega)
 | osl l n sz off len a cap b hb hn hle h0 hc hx =>
  obtain ⟨b', h1, e1, _, h2, h3, _⟩ := s.grow.old l b hb
  refine .osl l n sz off len a cap b' h1 ⟨by have := hn.1; omega, le_trans hn.2 h2⟩ hle h0 hc λ e e' => ?_
  rw [h3 (by omega)]
  exact hx (by omega) (by omega)
 | ptr l n sz i f a b hb hn hx =>
  obtain ⟨b', h1, e1, _, h2, h3, _⟩ := s.grow.old l b hb
  refine .ptr l n sz i f a b' h1 ⟨by have := hn.1; omega, le_trans hn.2 h2⟩ λ e e' hi => ?_
  rw [h3 (by omega)]
  exact hx (by omega) (by omega) hi
 | mapo l bk cap b hb hn hx =>
  obtain ⟨b', h1, e1, _, h2, h3, _⟩ := s.grow.old l b hb
  refine .mapo l bk cap b' h1 ⟨by have := hn.1; omega, by have := hn.2; omega⟩ λ e => ?_
  have := hn.2
  rw [h3 (by omega)]
  exact hx (by omega)
 | agg cs cells val hl hm hv ih => exact .agg cs cells val hl hm ih
 | tup cs cells val hl hm hv ih => exact .tup cs cells val hl hm ih
 | fn f cs cells val hl hm hv ih => exact .fn f cs cells val hl hm ih
theorem StepR.quiet {w w' : World} {β : List BI} {H : List Blk} (k : Keeps (λ _ => False) w w') (h : β.length = H.length) : StepR w β H w' β H :=
 ⟨k.weaken λ _ _ h => h.elim, Grow.refl _ _ _, h⟩
theorem BlkRep.keep {X : Nat -> Prop} {w : World} {β : List BI} {H : List Blk} {w' : World} {β' : List BI} {H' : List Blk} (s : StepR w β H w' β' H') {bi : BI} {b : Blk} (h : BlkRep w (Mu X β H) β H bi b)
  (hk : ∀ bk c, bi = .lies bk c -> w'.heap[bk]? = w.heap[bk]?) : BlkRep w' (Mu X β' H') β' H' bi b := by
 cases bi with
 | nil => exact h
 | lies bk cap =>
  rcases h with ⟨cur, h1, h2, h3, h4, h5, h6, h7⟩ | ⟨hz, hd, es, clock, ents, h1, h2, h3⟩
  ·refine .inl ⟨cur, (hk bk cap rfl).trans h1, h2, h3, h4, h5, h6, λ i j r av hr hj => ?_⟩
   obtain ⟨v, k1, k2, k3, k4⟩ := h7 i j r av hr hj
   exact ⟨v, k1, k2, k3.keep s, λ hd => (k4 hd).keep (λ b hb hn => s.keeps.block b hb (λ hm => hn (.inr hm))) s.keeps.size (λ b hb => s.mu b hb)⟩
  ·refine .inr ⟨hz, hd, es, clock, ents, (hk bk cap rfl).trans h1, h2, ⟨h3.len, h3.max, h3.st, λ i e he => ?_⟩⟩
   obtain ⟨k, v, q1, q2, q3⟩ := h3.ent i e he
   exact ⟨k, v, q1, q2, q3.keep s⟩
theorem HRel.quiet {w w' : World} {X : Nat -> Prop} {β : List BI} {H : List Blk} (h : HRel w X β H) (k : Keeps (λ _ => False) w w') : HRel w' X β H where
 len := h.len
 blk := λ l bi b h1 h2 => (h.blk l bi b h1 h2).keep (StepR.quiet k h.len) λ bk c e => by subst e; exact k.block bk (h.lt l bk c h1).1 id
 lt := λ l b c h1 => ⟨lt_of_lt_of_le (h.lt l b c h1).1 k.size, (h.lt l b c h1).2⟩
 inj := h.inj
 base := λ b hb => lt_of_lt_of_le (h.base b hb) k.size
section
variable {w : World} {X : Nat -> Prop} {β : List BI} {H : List Blk} {v : Value}
theorem bW {k : IntKind} {n : Int} (h : Rep w X β H v (.int k n)) : v = .int k n := by
 cases h with | deep h => cases h; rfl
theorem cR {b : Bool} (h : Rep w X β H v (.bool b)) : v = .bool b := by
 cases h with | deep h => cases h; rfl
theorem fS {s : ByteArray} (h : Rep w X β H v (.str s)) : v = .string s := by
 cases h with | deep h => cases h; rfl
theorem dO {sz : Nat} {full : Bool} {rows : List (List AV)} (h : Rep w X β H v (.slice sz full rows)) : RepD w X v (.slice sz full rows) := by
 cases h with | deep h => exact h
theorem iS {cs : List AV} (h : Rep w X β H v (.iptr cs)) : RepD w X v (.iptr cs) := by
 cases h with | deep h => exact h
theorem fM (h : Rep w X β H v .nilptr) : v = .pointer none := by
 cases h with | deep h => cases h; rfl
theorem Aj {r : Nat} (h : Rep w X β H v (.itp r)) : v = .pointer (some ⟨r, 0, none⟩) := by
 cases h with | deep h => cases h; rfl
theorem wT {b : Nat} (h : Rep w X β H v (.mapp b)) : v = .map (some b) := by
 cases h with | deep h => cases h; rfl
theorem mf (h : Rep w X β H v .anyb) : ∃ b, v = .bool b := by
 cases h with | deep h => cases h; exact ⟨_, rfl⟩
theorem eB {cells : List AV} (h : Rep w X β H v (.agg cells)) : ∃ (cs : Array Value) (val : Nat -> Value), v = .agg cs /\ cs.size = cells.length /\ (∀ j, j < cells.length -> cs[j]? = some (val j) /\ (val j).oneCell' = true) /\ ∀ j u, cells[j]? = some u -> Rep w X β H (val j) u := by
 cases h with
 | deep h => cases h with | agg cs _ val hl hm hv => exact ⟨cs, val, rfl, hl, hm, λ j u hu => .deep (hv j u hu)⟩
 | agg cs _ val hl hm hv => exact ⟨cs, val, rfl, hl, hm, hv⟩
theorem fT {cells : List AV} (h : Rep w X β H v (.tup cells)) : ∃ (cs : Array Value) (val : Nat -> Value), v = .tuple cs /\ cs.size = cells.length /\ (∀ j, j < cells.length -> cs[j]? = some (val j)) /\ ∀ j u, cells[j]? = some u -> Rep w X β H (val j) u := by
 cases h with
 | deep h => cases h with | tup cs _ val hl hm hv => exact ⟨cs, val, rfl, hl, hm, λ j u hu => .deep (hv j u hu)⟩
 | tup cs _ val hl hm hv => exact ⟨cs, val, rfl, hl, hm, hv⟩
theorem lE {f : FuncId} {cells : List AV} (h : Rep w X β H v (.fn f cells)) : ∃ (cs : Array Value) (val : Nat -> Value), v = .func (.func (fnI f cs)) (fnR f cs) (fnC f cs) /\ cs.size = cells.length /\ (∀ j, j < cells.length -> cs[j]? = some (val j)) /\ ∀ j u, cells[j]? = some u -> Rep w X β H (val j) u := by
 cases h with
 | deep h => cases h with | fn _ cs _ val hl hm hv => exact ⟨cs, val, rfl, hl, hm, λ j u hu => .deep (hv j u hu)⟩
 | fn _ cs _ val hl hm hv => exact ⟨cs, val, rfl, hl, hm, hv⟩
theorem fj {l n : Nat} (h : Rep w X β H v (.own l n)) : ∃ (a : Option Addr) (cap : Nat) (b : Blk), v = .slice a n cap /\ H[l]? = some b /\ (0 < b.sz /\ n <= b.rows.length) /\ (n = 0 ∨ ∃ x, a = some x) /\ (b.rows.length = n -> zf β[l]? a n cap) := by
 cases h with
 | deep h => cases h
 | own l n a cap b hb hn h0 hc hx => exact ⟨a, cap, b, rfl, hb, hn, h0, hx⟩
theorem nJ {l n : Nat} {a : Option Addr} {cap : Nat} (h : Rep w X β H (.slice a n cap) (.own l n)) : n <= cap := by
 cases h with
 | deep h => cases h
 | own l n a cap b hb hn h0 hc hx => exact hc
theorem dR {l n sz off len : Nat} (h : Rep w X β H v (.osl l n sz off len)) : ∃ (a : Option Addr) (cap : Nat) (b : Blk), v = .slice a len cap /\ H[l]? = some b /\ (0 < b.sz /\ n <= b.rows.length) /\ off + len <= n /\ (off = n ∨ ∃ x, a = some x) /\ n <= off + cap /\ (b.rows.length = n -> b.sz = sz -> H5 β[l]? a sz off len cap) := by
 cases h with
 | deep h => cases h
 | osl l n sz off len a cap b hb hn hle h0 hc hx => exact ⟨a, cap, b, rfl, hb, hn, hle, h0, hc, hx⟩
theorem dS {l n sz i f : Nat} (h : Rep w X β H v (.ptr l n sz i f)) : ∃ (a : Addr) (b : Blk), v = .pointer (some a) /\ H[l]? = some b /\ (0 < b.sz /\ n <= b.rows.length) /\ (b.rows.length = n -> b.sz = sz -> i < n -> ∃ bk cap, β[l]? = some (BI.lies bk cap) /\ a = ⟨bk, i * sz + f, none⟩) := by
 cases h with
 | deep h => cases h
 | ptr l n sz i f a b hb hn hx => exact ⟨a, b, rfl, hb, hn, hx⟩
theorem mh {l : Nat} (h : Rep w X β H v (.mapo l)) : ∃ (bk cap : Nat) (b : Blk), v = .map (some bk) /\ H[l]? = some b /\ (b.sz = 0 /\ 1 <= b.rows.length) /\ (b.rows.length = 1 -> β[l]? = some (BI.lies bk cap)) := by
 cases h with
 | deep h => cases h
 | mapo l bk cap b hb hn hx => exact ⟨bk, cap, b, rfl, hb, hn, hx⟩
theorem DU {av : AV} (h : Rep w X β H v av) (hc : av.isCell = true) : v.oneCell' = true := by
 cases h with
 | deep h => cases h <;> first | rfl | cases hc
 | own => rfl
 | osl => rfl
 | ptr => rfl
 | mapo => rfl
 | agg => cases hc
 | tup => cases hc
 | fn => rfl
theorem kM : Rep w X β H v .undef := .deep (.undef v)
end
def i8 (w : World) (X : Nat -> Prop) (β : List BI) (H : List Blk) (a : Act) (ρ : List (Nat × AV)) : Prop := ∀ t, Rep w X β H (a.tmps.getD t undef) (aQ ρ t)
def MapRel (P : Program) (w : World) (b : Nat) (k e : TypeId) (L : List (Lit × Lit)) : Prop :=
 ∃ D : DataW Unit, w.ownsMap P k (plainElem P e) b L.length D /\ Maps.Tidy D /\ (∀ kl z, D.atKey kl (.lit z) = .lit (DB L kl z)) /\ (∀ kl, Maps.has D kl = DC L kl) /\ Maps.size D = zU L
theorem MapRel.lt {P : Program} {w : World} {b : Nat} {k e : TypeId} {L : List (Lit × Lit)} (h : MapRel P w b k e L) : b < w.heap.size := by
 obtain ⟨D, h1, _⟩ := h
 exact h1.lt
theorem MapRel.same {P : Program} {w w' : World} {b : Nat} {k e : TypeId} {L : List (Lit × Lit)} (h : MapRel P w b k e L) (hb : w'.heap[b]? = w.heap[b]?) : MapRel P w' b k e L := by
 obtain ⟨D, ⟨es, clock, h1, h2⟩, h3⟩ := h
 exact ⟨D, ⟨es, clock, hb.trans h1, h2⟩, h3⟩
def GV (P : Program) (w : World) (X : Nat -> Prop) (g : Nat) : AV -> Prop
 | .mapof k e L => MapRel P w g k e L /\ ¬ X g
 | .own _ _ => (∃ m, w.cell? ⟨g, 0, none⟩ = some (.int .i64 m)) /\ ¬ X g
 | av => RepD w X (.pointer (some ⟨g, 0, none⟩)) av
theorem GV.of_rep {P : Program} {w : World} {X : Nat -> Prop} {g : Nat} {av : AV} (h : RepD w X (.pointer (some ⟨g, 0, none⟩)) av) : GV P w X g av := by
 cases av <;> first | exact h | cases h
theorem GV.rep {P : Program} {w : World} {X : Nat -> Prop} {g : Nat} {av : AV} (h : GV P w X g av) : RepD w X (.pointer (some ⟨g, 0, none⟩)) (gav av) := by
 cases av <;> first | exact h | exact .undef _
theorem GV.keep {P : Program} {w w' : World} {X X' : Nat -> Prop} {g : Nat} {av : AV} (h : GV P w X g av) (hk : ∀ b, b < w.heap.size -> ¬ X b -> w'.heap[b]? = w.heap[b]?) (hs : w.heap.size <= w'.heap.size)
  (hX : ∀ b, b < w.heap.size -> X' b -> X b) : GV P w' X' g av := by
 cases av
 case mapof k e L =>
  obtain ⟨h1, h2⟩ := h
  exact ⟨h1.same (hk g h1.lt h2), λ hx => h2 (hX g h1.lt hx)⟩
 case own l n =>
  obtain ⟨⟨m, h1⟩, h2⟩ := h
  have hlt : g < w.heap.size := World.block_lt_of_cell? w _ h1
  exact ⟨⟨m, (World.cell?_of_block (hk g hlt h2)).trans h1⟩, λ hx => h2 (hX g hlt hx)⟩
 all_goals exact RepD.keep (show RepD w X _ _ from h) hk hs hX
theorem GV.mono {P : Program} {w : World} {X X' : Nat -> Prop} {g : Nat} {av : AV} (h : GV P w X g av) (hX : ∀ b, b < w.heap.size -> X' b -> X b) : GV P w X' g av :=
 h.keep (λ _ _ _ => rfl) (le_refl _) hX
def lL (C : Ctx) (w : World) (X : Nat -> Prop) : Prop := ∀ g, GV C.P w X g (C.G g)
theorem A5 (P : Program) (t : TypeId) (w : World) (X : Nat -> Prop) (v : Value) : RepD w X v (cav P t v) := by
 unfold cav
 split
 ·exact .bool _
 ·exact .int _ _
 ·exact .str _
 ·split
  ·exact .slice _ true [] none 0 0 (λ _ _ => undef) rfl (le_refl _) (zero_le _) (λ _ => rfl) (λ r h => by cases h) (λ h => absurd rfl h) (λ i j r v h => by simp at h)
  ·exact .undef _
 ·exact .nilptr
 ·exact .undef _
section
variable {C : Ctx} {w : World} {X : Nat -> Prop} {β : List BI} {H : List Blk} {a : Act} {ρ : List (Nat × AV)}
theorem cY (T : i8 w X β H a ρ) (G : lL C w X) (t : TypeId) (x : Operand) : Rep w X β H (a.eval x) (aev C ρ t x) := by
 cases x with
 | tmp i => exact T i
 | const v => exact .deep (A5 _ _ _ _ _)
 | global g => exact .deep (G g).rep
 | func f => exact .deep (by rw [show a.eval (.func f) = .func (.func (fnI f #[])) (fnR f #[]) (fnC f #[]) by rw [zI, zJ, zH]; rfl]; exact .fn f #[] [] (λ _ => undef) rfl (λ j h => by simp at h) (λ j v h => by simp at h))
end
theorem kN {P : Program} {t : TypeId} {b : Bool} (h : cj P t = some b) (w : World) : (isAgg t).run P w = .ok b w := by
 unfold cj at h
 split at h
 ·rename_i h1; injection h with h; subst h; simp [isAgg, run_underlying h1]
 ·rename_i h1; injection h with h; subst h; simp [isAgg, run_underlying h1]
 ·rename_i d h1 h2 h3
  injection h with h; subst h
  simp only [isAgg, Sem.run_bind, run_underlying h3, Result.andThen_ok]
  cases d <;> first | rfl | (exact absurd rfl (h1 _)) | (exact absurd rfl (h2 _ _))
 ·cases h
theorem bC {P : Program} {t : TypeId} (h : 0 < szT P t) (w : World) : (sizeOf t).run P w = .ok (szT P t) w := by
 unfold szT at h ⊢
 cases hi : P.info? t with
 | none => rw [hi] at h; simp at h
 | some i => simp [sizeOf, typeInfo, hi]
theorem cm {P : Program} {t e : TypeId} (h : elT P t = some e) : P.underlying t = some (.slice e) := by
 unfold elT at h
 split at h
 ·injection h with h; subst h; assumption
 ·cases h
theorem oe {P : Program} {t : TypeId} {n : Nat} {e : TypeId} (h : cZ P t = some (n, e)) : P.underlying t = some (.array n e) := by
 unfold cZ at h
 split at h
 ·injection h with h; injection h with h1 h2; subst h1 h2; assumption
 ·cases h
theorem tP {P : Program} {t k e : TypeId} (h : tO P t = some (k, e)) : P.underlying t = some (.map k e) := by
 unfold tO at h
 split at h
 ·injection h with h; injection h with h1 h2; subst h1 h2; assumption
 ·cases h
theorem dU {P : Program} {t : TypeId} (h : lI P t = true) : P.underlying t = some .string := by
 unfold lI at h
 split at h
 ·assumption
 ·cases h
theorem jk {P : Program} {t : TypeId} {k : IntKind} (h : mU P t = some k) : P.underlying t = some (.int k) := by
 unfold mU at h
 split at h
 ·injection h with h; subst h; assumption
 ·cases h
theorem lR {P : Program} {t : TypeId} (h : zp P t = true) : P.underlying t = some (.int .u8) := by
 unfold zp at h
 split at h
 ·assumption
 ·cases h
theorem jP {P : Program} {t : TypeId} (h : pt P t = true) : P.underlying t = some .bool := by
 unfold pt at h
 split at h
 ·assumption
 ·cases h
theorem oj {P : Program} {t : TypeId} {k off : Nat} {ty : TypeId} (h : bz P t k = some (off, ty)) : ∃ fs f, P.underlying t = some (.struct fs) /\ fs[k]? = some f /\ f.offset = off /\ f.type = ty := by
 unfold bz at h
 split at h
 ·rename_i fs h1
  cases hf : fs[k]? with
  | none => rw [hf] at h; cases h
  | some f => rw [hf] at h; injection h with h; injection h with h2 h3; exact ⟨fs, f, h1, hf, h2, h3⟩
 ·cases h
section
variable {C : Ctx} {w : World} {X : Nat -> Prop} {β : List BI} {H : List Blk}
theorem kH (k : IntKind) (n : Int) (h : (fU k n).1) : (fU k n).2 = .int k (k.wrap n) := by
 unfold fU at h ⊢
 split
 ·rfl
 ·rfl
theorem qx (a b : ByteArray) : (a.toList == b.toList) = decide (a = b) := by
 rw [Bool.eq_iff_iff, beq_iff_eq, decide_eq_true_iff, ByteArray.toList_eq, ByteArray.toList_eq]
 constructor
 ·intro h
  apply ByteArray.ext
  exact Array.toList_inj.1 h
 ·intro h; rw [h]
theorem uP {op : BinOp} {k : IntKind} {a b : Int} {ob : Prop} {r : AV} (h : rt op k a b = some (ob, r)) (hob : ob) (t : TypeId) (ox oy : Operand) (hop : op ≠ .shl /\ op ≠ .shr) :
  ∃ u, ((do eqGuard op t ox oy (.int k a) (.int k b); binOp op t (.int k a) (.int k b) : Sem Value)).run C.P w = .ok u w /\ RepD w X u r := by
 cases op <;> simp only [rt, Option.some.injEq, Prod.mk.injEq, reduceCtorEq] at h <;> first | exact absurd rfl hop.1 | exact absurd rfl hop.2 | skip
 case add =>
  refine ⟨.int k (k.wrap (a + b)), by simp [eqGuard, binOp, Op.intArith], ?_⟩
  rw [show r = (fU k (a + b)).2 by rw [h], kH k _ (by rw [h]; exact hob)]; exact .int _ _
 case sub =>
  refine ⟨.int k (k.wrap (a - b)), by simp [eqGuard, binOp, Op.intArith], ?_⟩
  rw [show r = (fU k (a - b)).2 by rw [h], kH k _ (by rw [h]; exact hob)]; exact .int _ _
 case mul =>
  refine ⟨.int k (k.wrap (a * b)), by simp [eqGuard, binOp, Op.intArith], ?_⟩
  rw [show r = (fU k (a * b)).2 by rw [h], kH k _ (by rw [h]; exact hob)]; exact .int _ _
 case quo =>
  obtain ⟨rfl, rfl⟩ := h
  refine ⟨.int k (k.wrap (a.tdiv b)), by simp [eqGuard, binOp, Op.intDiv, hob.1], ?_⟩
  rw [kH k _ hob.2]; exact .int _ _
 case rem =>
  obtain ⟨rfl, rfl⟩ := h
  exact ⟨.int k (a.tmod b), by simp [eqGuard, binOp, Op.intDiv, hob], .int _ _⟩
 case and => obtain ⟨rfl, rfl⟩ := h; refine ⟨_, ?_, .int _ _⟩; simp [eqGuard, binOp, Op.intBits, ie]
 case or => obtain ⟨rfl, rfl⟩ := h; refine ⟨_, ?_, .int _ _⟩; simp [eqGuard, binOp, Op.intBits, ie]
 case xor => obtain ⟨rfl, rfl⟩ := h; refine ⟨_, ?_, .int _ _⟩; simp [eqGuard, binOp, Op.intBits, ie]
 case andNot => obtain ⟨rfl, rfl⟩ := h; refine ⟨_, ?_, .int _ _⟩; simp [eqGuard, binOp, Op.intBits, ie]
 all_goals
  obtain ⟨rfl, rfl⟩ := h
  refine ⟨_, ?_, .bool _⟩
  simp [eqGuard, binOp, Op.intCmp]
theorem uR {op : BinOp} {a b : ByteArray} {ob : Prop} {r : AV} (h : ru op a b = some (ob, r)) (hob : ob) (t : TypeId) (ox oy : Operand) :
  ∃ u, ((do eqGuard op t ox oy (.string a) (.string b); binOp op t (.string a) (.string b) : Sem Value)).run C.P w = .ok u w /\ RepD w X u r := by
 cases op <;> simp only [ru, Option.some.injEq, Prod.mk.injEq, reduceCtorEq] at h
 case add =>
  obtain ⟨rfl, rfl⟩ := h
  refine ⟨.string (a ++ b), ?_, .str _⟩
  have : ((a.size : Int) + b.size) <= 9223372036854775807 := by omega
  simp [eqGuard, binOp, Op.stringOp]
  omega
 all_goals
  obtain ⟨rfl, rfl⟩ := h
  refine ⟨_, ?_, .bool _⟩
  simp only [eqGuard, binOp, Op.stringOp, qx]
  rfl
def FK.fits (P : Program) (t : TypeId) : FK -> Prop
 | .b => P.underlying t = some .bool
 | .i => ∃ k, P.underlying t = some (.int k)
 | .s => P.underlying t = some .string
theorem tz {f : FK} {x y : AV} {e : Bool} (h : tw f x y = some e) {vx vy : Value} (hx : Rep w X β H vx x) (hy : Rep w X β H vy y) {P : Program} {t : TypeId} (ht : f.fits P t) (d : Nat) :
  (Op.equalIn (d + 1) t vx vy).run P w = .ok e w := by
 unfold tw at h
 split at h
 ·injection h with h
  obtain rfl := cR hx
  obtain rfl := cR hy
  rw [run_equalIn_bool' _ _ _ _ _ ht, h]
 ·split at h
  ·rename_i hkk
   injection h with h
   obtain rfl := bW hx
   obtain rfl := bW hy
   subst hkk
   obtain ⟨k', h1⟩ := ht
   rw [run_equalIn_int _ _ _ _ _ _ _ h1, h]
  ·cases h
 ·injection h with h
  obtain rfl := fS hx
  obtain rfl := fS hy
  rw [run_equalIn_string _ _ _ _ _ ht, qx, h]
 ·cases h
theorem vQ {P : Program} {t : TypeId} {f : FK} (ht : f.fits P t) : cj P t = some false := by
 unfold FK.fits at ht
 unfold cj
 cases f with
 | b => simp only at ht; rw [ht]
 | i => obtain ⟨k, ht⟩ := ht; rw [ht]
 | s => simp only at ht; rw [ht]
theorem na {P : Program} {t : TypeId} (ht : cj P t = some false) {cs : Array Value} {n : Nat} {v : Value} (h : cs[n]? = some v) (w : World) : (part t cs n).run P w = .ok v w := by
 simp [part, kN ht, h]
theorem lc {P : Program} (d : Nat) {cs ds : Array Value} : ∀ (fs : List Field) (fk : List FK) (n : Nat) (asq bs : List AV) (e : Bool), fF P fs n = some fk -> jg fk asq bs = some e ->
  (∀ j x, asq[j]? = some x -> ∃ u, cs[n + j]? = some u /\ Rep w X β H u x) -> (∀ j x, bs[j]? = some x -> ∃ u, ds[n + j]? = some u /\ Rep w X β H u x) ->
  (Op.eqFields (d + 1) cs ds fs).run P w = .ok e w
 | [], fk, n, asq, bs, e, hf, he, ha, hb => by
  simp only [fF, Option.some.injEq] at hf
  subst hf
  unfold jg at he
  split at he
  ·injection he with he
   subst he
   rfl
  ·rename_i h1; cases h1
  ·cases he
 | f :: fs, fk, n, asq, bs, e, hf, he, ha, hb => by
  unfold fF at hf
  split at hf
  ·cases hf
  ·rename_i hn
   have hn1 : f.name ≠ "_" := λ h => hn (.inl h)
   have hn2 : f.offset = n := Classical.byContradiction λ h => hn (.inr h)
   have key : ∃ k l, fk = k :: l /\ k.fits P f.type /\ fF P fs (n + 1) = some l := by
    split at hf <;> first | (injection hf with hf; subst hf; refine ⟨_, _, rfl, ?_, by assumption⟩; first | assumption | exact ⟨_, by assumption⟩) | cases hf
   obtain ⟨k, l, rfl, hk, hl⟩ := key
   unfold jg at he
   split at he
   ·rename_i h1; cases h1
   ·rename_i f' fs' a r b q h1
    injection h1 with h1 h2
    subst h1 h2
    split at he
    ·rename_i x y hx hy
     injection he with he
     obtain ⟨u1, hu1, hr1⟩ := ha 0 a rfl
     obtain ⟨u2, hu2, hr2⟩ := hb 0 b rfl
     have ih := lc d fs l (n + 1) r q y hl hy (λ j z hz => by have := ha (j + 1) z hz; rwa [show n + (j + 1) = n + 1 + j by omega] at this)
      (λ j z hz => by have := hb (j + 1) z hz; rwa [show n + (j + 1) = n + 1 + j by omega] at this)
     rw [add_zero] at hu1 hu2
     simp only [Op.eqFields, ne_eq, hn1, not_false_eq_true, if_true, Sem.run_bind, hn2, na (vQ hk) hu1, na (vQ hk) hu2, Result.andThen_ok, tz hx hr1 hr2 hk d]
     cases x
     ·simp [<- he]
     ·simp [<- he, ih]
    ·cases he
   ·cases he
end
section
variable {C : Ctx} {w : World} {X : Nat -> Prop} {β : List BI} {H : List Blk}
theorem GT {P : Program} {t : TypeId} (h : wH P t = true) : ∃ e, P.underlying t = some (.pointer e) := by
 unfold wH at h
 split at h
 ·rename_i e he; exact ⟨e, he⟩
 ·cases h
theorem m8 {P : Program} (w : World) (d : Nat) (t e : TypeId) (a : Option Addr) (h : P.underlying t = some (.pointer e)) : (Op.equalIn (d + 1) t (.pointer none) (.pointer a)).run P w = .ok a.isNone w := by
 cases a <;> simp [Op.equalIn, run_underlying h]
theorem m9 {P : Program} (w : World) (d : Nat) (t e : TypeId) (a : Option Addr) (h : P.underlying t = some (.pointer e)) : (Op.equalIn (d + 1) t (.pointer a) (.pointer none)).run P w = .ok a.isNone w := by
 cases a <;> simp [Op.equalIn, run_underlying h]
theorem h9 {P : Program} (w : World) (t e : TypeId) (a : Option Addr) (h : P.underlying t = some (.pointer e)) : (Op.equal t (.pointer none) (.pointer a)).run P w = .ok a.isNone w := m8 w 9999 t e a h
theorem kn {P : Program} (w : World) (t e : TypeId) (a : Option Addr) (h : P.underlying t = some (.pointer e)) : (Op.equal t (.pointer a) (.pointer none)).run P w = .ok a.isNone w := m9 w 9999 t e a h
theorem fi {op : BinOp} {t : TypeId} {a a' : Option Addr} {b : Bool} {ob : Prop} {r : AV} (hp : wH C.P t = true) (h : lO op b = some (ob, r)) {ox oy : Operand}
  (he : ∀ e, C.P.underlying t = some (.pointer e) -> (Op.equal t (.pointer a) (.pointer a')).run C.P w = .ok b w) :
  ∃ u, ((do eqGuard op t ox oy (.pointer a) (.pointer a'); binOp op t (.pointer a) (.pointer a') : Sem Value)).run C.P w = .ok u w /\ Rep w X β H u r := by
 obtain ⟨e, hu⟩ := GT hp
 have he := he e hu
 unfold lO at h
 split at h
 ·injection h with h; injection h with h1 h2; subst h1 h2
  refine ⟨_, ?_, .deep (.bool _)⟩
  simp [eqGuard, binOp, he]
 ·injection h with h; injection h with h1 h2; subst h1 h2
  refine ⟨_, ?_, .deep (.bool _)⟩
  simp [eqGuard, binOp, he]
 ·cases h
theorem xH {op : BinOp} {t : TypeId} {x y : AV} {ob : Prop} {r : AV} (h : xG C op t x y = some (ob, r)) (hob : ob) {vx vy : Value} (hx : Rep w X β H vx x) (hy : Rep w X β H vy y) (ox oy : Operand) :
  ∃ u, ((do eqGuard op t ox oy vx vy; binOp op t vx vy : Sem Value)).run C.P w = .ok u w /\ Rep w X β H u r := by
 unfold xG at h
 split at h
 ·obtain rfl := bW hx
  obtain rfl := bW hy
  split at h
  ·injection h with h
   injection h with h1 h2
   subst h1 h2
   refine ⟨_, ?_, .deep (.int _ _)⟩
   simp [eqGuard, binOp, Op.shift, Int.not_lt.2 hob]
  ·injection h with h
   injection h with h1 h2
   subst h1 h2
   refine ⟨_, ?_, .deep (.int _ _)⟩
   simp [eqGuard, binOp, Op.shift, Int.not_lt.2 hob]
  ·rename_i n1 n2
   split at h
   ·rename_i hk
    subst hk
    obtain ⟨u, h1, h2⟩ := uP h hob t ox oy ⟨n1, n2⟩ (C := C) (w := w) (X := X)
    exact ⟨u, h1, .deep h2⟩
   ·cases h
 ·obtain rfl := fS hx
  obtain rfl := fS hy
  obtain ⟨u, h1, h2⟩ := uR h hob t ox oy (C := C) (w := w) (X := X)
  exact ⟨u, h1, .deep h2⟩
 ·obtain rfl := cR hx
  obtain rfl := cR hy
  split at h
  ·rename_i hb
   have hb := jP hb
   split at h
   ·injection h with h; injection h with h1 h2; subst h1 h2
    refine ⟨_, ?_, .deep (.bool _)⟩
    simp [eqGuard, binOp, Op.equal, Op.maxDepth, run_equalIn_bool' _ _ _ _ _ hb]
   ·injection h with h; injection h with h1 h2; subst h1 h2
    refine ⟨_, ?_, .deep (.bool _)⟩
    simp [eqGuard, binOp, Op.equal, Op.maxDepth, run_equalIn_bool' _ _ _ _ _ hb]
   ·cases h
  ·cases h
 ·rename_i asq bs
  obtain ⟨cs, val, rfl, hl, hm, hv⟩ := eB hx
  obtain ⟨ds, val', rfl, hl', hm', hv'⟩ := eB hy
  split at h
  ·rename_i fk hfk
   unfold Df at hfk
   split at hfk
   ·rename_i fs hfs
    split at hfk
    ·cases hfk
    ·rename_i hh
     have hh1 : C.P.stoodInHeld t = false := by cases h1 : C.P.stoodInHeld t <;> simp_all
     have hh2 : C.P.eqGuardType C.P.depth t = false := by cases h1 : C.P.eqGuardType C.P.depth t <;> simp_all
     have hfo : C.P.fieldsOf t = fs := by unfold Program.fieldsOf; rw [hfs]
     have key : ∀ e, jg fk asq bs = some e -> (Op.equalIn 10000 t (.agg cs) (.agg ds)).run C.P w = .ok e w := by
      intro e he
      rw [run_equalIn_struct w 9999 t cs ds (by rw [hfo]; exact hfs) hh1, hfo]
      refine lc (X := X) (β := β) (H := H) 9998 fs.toList fk 0 asq bs e hfk he (λ j x hj => ?_) (λ j x hj => ?_)
      ·rw [zero_add]; exact ⟨_, (hm j (List.getElem?_eq_some_iff.1 hj).1).1, hv j x hj⟩
      ·rw [zero_add]; exact ⟨_, (hm' j (List.getElem?_eq_some_iff.1 hj).1).1, hv' j x hj⟩
     split at h
     ·rename_i e he
      injection h with h; injection h with h1 h2; subst h1 h2
      refine ⟨.bool e, ?_, .deep (.bool _)⟩
      rw [Sem.run_bind, run_eqGuard_agg w _ t ox oy cs ds hh2, Result.andThen_ok, run_eql_struct, key e he]
      rfl
     ·rename_i e he
      injection h with h; injection h with h1 h2; subst h1 h2
      refine ⟨.bool (!e), ?_, .deep (.bool _)⟩
      rw [Sem.run_bind, run_eqGuard_agg w _ t ox oy cs ds hh2, Result.andThen_ok, run_neq_struct, key e he]
      rfl
     ·cases h
   ·cases hfk
  ·cases h
 ·obtain rfl := fM hx
  obtain rfl := fM hy
  split at h
  ·rename_i hp
   exact fi hp h (b := true) (λ _ h1 => h9 _ _ _ none h1)
  ·cases h
 ·obtain rfl := fM hx
  obtain ⟨a, _, rfl, _⟩ := dS hy
  split at h
  ·rename_i hp
   exact fi hp h (b := false) (λ _ h1 => h9 _ _ _ _ h1)
  ·cases h
 ·obtain rfl := fM hy
  obtain ⟨a, _, rfl, _⟩ := dS hx
  split at h
  ·rename_i hp
   exact fi hp h (b := false) (λ _ h1 => kn _ _ _ _ h1)
  ·cases h
 ·obtain rfl := fM hx
  have hy := iS hy
  cases hy
  split at h
  ·rename_i hp
   exact fi hp h (b := false) (λ _ h1 => h9 _ _ _ _ h1)
  ·cases h
 ·obtain rfl := fM hy
  have hx := iS hx
  cases hx
  split at h
  ·rename_i hp
   exact fi hp h (b := false) (λ _ h1 => kn _ _ _ _ h1)
  ·cases h
 ·cases h
theorem uQ {op : BinOp} {t : TypeId} {x : AV} {ob : Prop} {r : AV} (h : oV C op t x = some (ob, r)) {vx : Value} (hx : Rep w X β H vx x) (ox oy : Operand) :
  ∃ u, ((do eqGuard op t ox oy vx (.slice none 0 0); binOp op t vx (.slice none 0 0) : Sem Value)).run C.P w = .ok u w /\ Rep w X β H u r := by
 unfold oV at h
 split at h
 ·rename_i e he
  have he := cm he
  have hs : ∀ a l c (b : Bool), vx = .slice a l c -> (op = .eql /\ b = false ∨ op = .neq /\ b = true) -> (l ≠ 0 -> ∃ x, a = some x) -> r = (if l = 0 then .anyb else .bool b) -> ∃ u, ((do eqGuard op t ox oy vx (.slice none 0 0); binOp op t vx (.slice none 0 0) : Sem Value)).run C.P w = .ok u w /\ Rep w X β H u r := by
   rintro a l c b rfl ho ha rfl
   rcases ho with ⟨rfl, rfl⟩ | ⟨rfl, rfl⟩
   ·refine ⟨.bool a.isNone, by simp [eqGuard, binOp, run_equal_slice_nil w t e a l c he], ?_⟩
    split
    ·exact .deep (.anyb _)
    ·rename_i h0
     obtain ⟨x, rfl⟩ := ha h0
     exact .deep (.bool _)
   ·refine ⟨.bool (!a.isNone), by simp [eqGuard, binOp, run_equal_slice_nil w t e a l c he], ?_⟩
    split
    ·exact .deep (.anyb _)
    ·rename_i h0
     obtain ⟨x, rfl⟩ := ha h0
     exact .deep (.bool _)
  have hd : ∀ {sz : Nat} {full : Bool} {rows : List (List AV)}, RepD w X vx (.slice sz full rows) -> ∃ a c, vx = .slice a rows.length c /\ (rows.length ≠ 0 -> ∃ x, a = some x) := by
   intro sz full rows h
   cases h with
   | slice _ _ _ a n cap val hn h1 h2 h3 hr hm hv =>
    subst hn
    exact ⟨a, cap, rfl, λ h0 => let ⟨b, off, h, _⟩ := hm h0; ⟨_, h⟩⟩
  split at h
  ·injection h with h; injection h with h1 h2; subst h1 h2
   obtain ⟨a, c, h1, h2⟩ := hd (dO hx)
   exact hs _ _ _ false h1 (.inl ⟨rfl, rfl⟩) h2 rfl
  ·injection h with h; injection h with h1 h2; subst h1 h2
   obtain ⟨a, c, h1, h2⟩ := hd (dO hx)
   exact hs _ _ _ true h1 (.inr ⟨rfl, rfl⟩) h2 rfl
  ·injection h with h; injection h with h1 h2; subst h1 h2
   obtain ⟨a, c, _, h1, _, _, h2, _⟩ := fj hx
   exact hs _ _ _ false h1 (.inl ⟨rfl, rfl⟩) (λ h0 => h2.resolve_left h0) rfl
  ·injection h with h; injection h with h1 h2; subst h1 h2
   obtain ⟨a, c, _, h1, _, _, h2, _⟩ := fj hx
   exact hs _ _ _ true h1 (.inr ⟨rfl, rfl⟩) (λ h0 => h2.resolve_left h0) rfl
  ·injection h with h; injection h with h1 h2; subst h1 h2
   obtain ⟨a, c, _, h1, _, _, hle, h2, _⟩ := dR hx
   exact hs _ _ _ false h1 (.inl ⟨rfl, rfl⟩) (λ h0 => h2.resolve_left (by omega)) rfl
  ·injection h with h; injection h with h1 h2; subst h1 h2
   obtain ⟨a, c, _, h1, _, _, hle, h2, _⟩ := dR hx
   exact hs _ _ _ true h1 (.inr ⟨rfl, rfl⟩) (λ h0 => h2.resolve_left (by omega)) rfl
  ·cases h
 ·cases h
theorem A0 {op : UnOp} {x : AV} {ob : Prop} {r : AV} (h : aun op x = some (ob, r)) {vx : Value} (hx : Rep w X β H vx x) : ∃ u, (Op.unary op vx).run C.P w = .ok u w /\ Rep w X β H u r := by
 unfold aun at h
 split at h
 ·injection h with h; injection h with h1 h2; subst h1 h2
  obtain rfl := bW hx
  refine ⟨_, ?_, .deep (.int _ _)⟩
  simp [Op.unary, Op.intArith]
 ·injection h with h; injection h with h1 h2; subst h1 h2
  obtain rfl := cR hx
  refine ⟨_, ?_, .deep (.bool _)⟩
  simp [Op.unary]
 ·injection h with h; injection h with h1 h2; subst h1 h2
  obtain ⟨b, rfl⟩ := mf hx
  refine ⟨.bool (!b), ?_, .deep (.anyb _)⟩
  simp [Op.unary]
 ·cases h
theorem pK {ty : TypeId} {off : Nat} {cells : List AV} {ob : Prop} {r : AV} (h : j7 C ty (cells.drop off) = some (ob, r)) (hob : ob) {cs : Array Value} {val : Nat -> Value} (hl : cs.size = cells.length)
  (hm : ∀ j, j < cells.length -> cs[j]? = some (val j) /\ (val j).oneCell' = true) (hv : ∀ j u, cells[j]? = some u -> Rep w X β H (val j) u) : ∃ u, (part ty cs off).run C.P w = .ok u w /\ Rep w X β H u r := by
 unfold j7 at h
 split at h
 ·rename_i ht
  split at h
  ·cases h
  ·rename_i hz
   injection h with h; injection h with h1 h2; subst h1 h2
   rw [length_drop] at hob
   refine ⟨.agg (cs.extract off (off + szT C.P ty)), ?_, .agg _ _ (λ j => val (off + j)) ?_ (λ j hj => ?_) (λ j u hu => ?_)⟩
   ·simp [part, kN ht, bC (pos_of_ne_zero hz)]
   ·simp; omega
   ·simp only [length_take, length_drop] at hj
    have := hm (off + j) (by omega)
    refine ⟨?_, this.2⟩
    rw [Array.getElem?_extract]
    rw [if_pos (by omega)]
    exact this.1
   ·rw [getElem?_take] at hu
    split at hu
    ·rw [getElem?_drop] at hu
     exact hv _ _ hu
    ·cases hu
 ·rename_i ht
  injection h with h; injection h with h1 h2; subst h1 h2
  rw [length_drop] at hob
  have h1 := hm off (by omega)
  refine ⟨val off, na ht h1.1 w, ?_⟩
  have h2 : cells[off]? = some (cells[off]'(by omega)) := getElem?_eq_getElem _
  have h3 : (cells.drop off).getD 0 .undef = cells[off]'(by omega) := by
   rw [List.getD_eq_getElem?_getD, getElem?_drop, add_zero, h2]
   rfl
  rw [h3]
  exact hv _ _ h2
 ·cases h
theorem sX {t : TypeId} {x : AV} {k : Nat} {ob : Prop} {r : AV} (h : lj C t x k = some (ob, r)) (hob : ob) {vx : Value} (hx : Rep w X β H vx x) : ∃ u, (Instr.field t vx k).run C.P w = .ok u w /\ Rep w X β H u r := by
 unfold lj at h
 split at h
 ·rename_i cells off ty hf
  obtain ⟨cs, val, rfl, hl, hm, hv⟩ := eB hx
  obtain ⟨fs, f, h1, h2, rfl, rfl⟩ := oj hf
  obtain ⟨u, h3, h4⟩ := pK h hob hl hm hv
  refine ⟨u, ?_, h4⟩
  simp [Instr.field, run_underlying h1, h2, asAgg, h3]
 ·cases h
theorem gd (b off n : Nat) : (⟨b, off, none⟩ : Addr).add n = ⟨b, off + n, none⟩ := Addr.add_lit b off n
theorem rS {b off n : Nat} {cells : List AV} (h : RepD w X (.pointer (some ⟨b, off, none⟩)) (.iptr cells)) : RepD w X (.pointer (some ⟨b, off + n, none⟩)) (.iptr (cells.drop n)) := by
 cases h with
 | iptr _ _ _ val hb hX hm hv =>
  refine .iptr b (off + n) _ (λ j => val (n + j)) hb hX (λ j hj => ?_) (λ j v hj => ?_)
  ·rw [length_drop] at hj
   have := hm (n + j) (by omega)
   rwa [<- add_assoc] at this
  ·rw [getElem?_drop] at hj
   exact hv _ _ hj
theorem kK {v : Value} {cells : List AV} (h : RepD w X v (.iptr cells)) : ∃ b off, v = .pointer (some ⟨b, off, none⟩) := by
 cases h with
 | iptr b off _ val hb hX hm hv => exact ⟨b, off, rfl⟩
theorem Ai {l n sz i f k : Nat} {ad : Addr} (h : Rep w X β H (.pointer (some ad)) (.ptr l n sz i f)) : Rep w X β H (.pointer (some (ad.add k))) (.ptr l n sz i (f + k)) := by
 obtain ⟨a, b, e, hb, hn, hx⟩ := dS h
 injection e with e; injection e with e; subst e
 refine .ptr l n sz i (f + k) _ b hb hn λ e1 e2 hi => ?_
 obtain ⟨bk, cap, h1, rfl⟩ := hx e1 e2 hi
 exact ⟨bk, cap, h1, by rw [gd]; congr 1; omega⟩
theorem mH {t : TypeId} {x : AV} {k : Nat} {ob : Prop} {r : AV} (h : eD C t x k = some (ob, r)) {vx : Value} (hx : Rep w X β H vx x) : ∃ u, (Instr.fieldAt t vx k).run C.P w = .ok u w /\ Rep w X β H u r := by
 unfold eD at h
 split at h
 ·rename_i off ty hf
  split at h
  ·cases h
  ·rename_i hz
   obtain ⟨fs, f, h1, h2, rfl, rfl⟩ := oj hf
   have hrun : ∀ a : Addr, (Instr.fieldAt t (.pointer (some a)) k).run C.P w = .ok (.pointer (some (a.add f.offset))) w := by
    intro a
    simp [Instr.fieldAt, run_underlying h1, h2, Instr.sureAddr, fieldPlace, bC (pos_of_ne_zero hz), hz]
   split at h
   ·injection h with h; injection h with h1 h2; subst h1 h2
    obtain ⟨a, b, rfl, _⟩ := dS hx
    exact ⟨_, hrun a, Ai hx⟩
   ·injection h with h; injection h with h1 h2; subst h1 h2
    have hd := iS hx
    obtain ⟨b, o, rfl⟩ := kK hd
    refine ⟨_, hrun _, .deep ?_⟩
    rw [gd]
    exact rS hd
   ·cases h
 ·cases h
end
section
variable {C : Ctx} {w : World} {X : Nat -> Prop} {β : List BI} {H : List Blk}
theorem gQ {rows : List (List AV)} {i : Nat} (h : i < rows.length) : dq rows i = rows[i] := by
 unfold dq
 rw [List.getD_eq_getElem?_getD, getElem?_eq_getElem h]
 rfl
theorem dC {v : Value} {sz : Nat} {full : Bool} {rows : List (List AV)} (h : RepD w X v (.slice sz full rows)) : ∃ (a : Option Addr) (cap : Nat) (val : Nat -> Nat -> Value), v = .slice a rows.length cap /\ rows.length <= cap /\ cap <= maxLen /\ (full = true -> cap = rows.length) /\
  (∀ r ∈ rows, r.length = sz) /\ (rows.length ≠ 0 -> ∃ b off, a = some ⟨b, off, none⟩ /\ b < w.heap.size /\ ¬ X b /\ ∀ i j, i < rows.length -> j < sz -> w.cell? ⟨b, off + i * sz + j, none⟩ = some (val i j) /\ (val i j).oneCell' = true) /\
  (∀ i j r v, rows[i]? = some r -> r[j]? = some v -> RepD w X (val i j) v) := by
 cases h with
 | slice _ _ _ a n cap val hn h1 h2 h3 hr hm hv => subst hn; exact ⟨a, cap, val, rfl, h1, h2, h3, hr, hm, hv⟩
theorem mI {t : TypeId} {x ix : AV} {ob : Prop} {r : AV} (h : eE C t x ix = some (ob, r)) (hob : ob) {vx vi : Value} (hx : Rep w X β H vx x) (hi : Rep w X β H vi ix) :
  ∃ u, (Instr.indexAt t vx vi).run C.P w = .ok u w /\ Rep w X β H u r := by
 unfold eE at h
 split at h
 ·rename_i k i
  obtain rfl := bW hi
  split at h
  ·rename_i e he
   have hu := cm he
   split at h
   ·cases h
   ·rename_i hz
    have hz := pos_of_ne_zero hz
    split at h
    ·rename_i sz full rows
     split at h
     ·rename_i hsz
      injection h with h; injection h with h1 h2; subst h1 h2
      obtain ⟨a, cap, val, rfl, h1, h2, h3, hr, hm, hv⟩ := dC (dO hx)
      obtain ⟨n, rfl⟩ := eq_ofNat_of_zero_le hob.1
      have hn : n < rows.length := by omega
      obtain ⟨b, off, rfl, hb, hX, hc⟩ := hm (by omega)
      rw [gQ (by simpa using hn)]
      refine ⟨.pointer (some ⟨b, off + n * sz, none⟩), ?_, .deep (.iptr b _ _ (λ j => val n j) hb hX (λ j hj => ?_) (λ j v hj => ?_))⟩
      ·simp [Instr.indexAt, asIntOf, run_underlying hu, bC hz, hn, gd, hsz]
      ·simp only [toNat_natCast] at hj
       rw [hr _ (getElem_mem hn)] at hj
       exact hc n j hn hj
      ·simp only [toNat_natCast] at hj
       exact hv n j _ v (getElem?_eq_getElem hn) hj
     ·cases h
    ·rename_i l n
     injection h with h; injection h with h1 h2; subst h1 h2
     obtain ⟨a, cap, b, rfl, hb, hn, h0, hx⟩ := fj hx
     obtain ⟨i, rfl⟩ := eq_ofNat_of_zero_le hob.1
     have hi : i < n := by omega
     obtain ⟨ad, rfl⟩ := h0.resolve_left (by omega)
     refine ⟨.pointer (some (ad.add (i * szT C.P e))), ?_, ?_⟩
     ·simp [Instr.indexAt, asIntOf, run_underlying hu, bC hz, hi]
     ·rw [toNat_natCast]
      refine .ptr l n _ i 0 _ b hb hn λ e1 e2 _ => ?_
      have h := hx e1
      cases hβ : β[l]? with
      | none => rw [hβ] at h; exact h.elim
      | some bi =>
       rw [hβ] at h
       cases bi with
       | nil => have := h.1; omega
       | lies bk c =>
        obtain ⟨h1, rfl⟩ := h
        injection h1 with h1
        subst h1
        exact ⟨bk, cap, rfl, by rw [gd]; simp⟩
    ·rename_i l n sz off len
     split at h
     ·rename_i hsz
      injection h with h; injection h with h1 h2; subst h1 h2
      obtain ⟨a, cap, b, rfl, hb, hn, hle, h0, hc, hx⟩ := dR hx
      obtain ⟨i, rfl⟩ := eq_ofNat_of_zero_le hob.1
      have hi : i < len := by omega
      obtain ⟨ad, rfl⟩ := h0.resolve_left (by omega)
      refine ⟨.pointer (some (ad.add (i * szT C.P e))), ?_, ?_⟩
      ·simp [Instr.indexAt, asIntOf, run_underlying hu, bC hz, hi]
      ·rw [toNat_natCast]
       refine .ptr l n _ (off + i) 0 _ b hb hn λ e1 e2 _ => ?_
       have h := hx e1 (by omega)
       cases hβ : β[l]? with
       | none => rw [hβ] at h; exact h.elim
       | some bi =>
        rw [hβ] at h
        cases bi with
        | nil => have := h.2.1; omega
        | lies bk c =>
         obtain ⟨h1, _, h3⟩ := h
         have h3 := h3 (by omega)
         injection h3 with h3
         subst h3
         exact ⟨bk, c, rfl, by rw [gd, hsz, add_mul]; simp⟩
     ·cases h
    ·cases h
  ·rename_i m e he1 he2
   have hu := oe he2
   split at h
   ·cases h
   ·rename_i hz
    have hz := pos_of_ne_zero hz
    split at h
    ·injection h with h; injection h with h1 h2; subst h1 h2
     obtain ⟨a, b, rfl, _⟩ := dS hx
     obtain ⟨i, rfl⟩ := eq_ofNat_of_zero_le hob.1
     have hi : i < m := by omega
     refine ⟨.pointer (some (a.add (i * szT C.P e))), ?_, ?_⟩
     ·simp [Instr.indexAt, asIntOf, run_underlying hu, bC hz, hi, Instr.sureAddr]
     ·rw [toNat_natCast]; exact Ai hx
    ·injection h with h; injection h with h1 h2; subst h1 h2
     have hd := iS hx
     obtain ⟨b, o, rfl⟩ := kK hd
     obtain ⟨i, rfl⟩ := eq_ofNat_of_zero_le hob.1
     have hi : i < m := by omega
     refine ⟨.pointer (some ⟨b, o + i * szT C.P e, none⟩), ?_, ?_⟩
     ·simp [Instr.indexAt, asIntOf, run_underlying hu, bC hz, hi, Instr.sureAddr, gd]
     ·rw [toNat_natCast]; exact .deep (rS hd)
    ·cases h
  ·cases h
 ·cases h
theorem CH {s : ByteArray} {j : Nat} (h : j < s.size) : s[j]? = some (s[j]'h) /\ (s[j]'h).toNat = btA s j := by
 refine ⟨by simp [h], ?_⟩
 have h' : j < s.data.toList.length := by simpa using h
 unfold btA
 rw [List.getD_eq_getElem?_getD, getElem?_eq_getElem h']
 rfl
theorem sZ {t : TypeId} {x ix : AV} {ob : Prop} {r : AV} (h : lk C t x ix = some (ob, r)) (hob : ob) {vx vi : Value} (hx : Rep w X β H vx x) (hi : Rep w X β H vi ix) :
  ∃ u, (Instr.index t vx vi).run C.P w = .ok u w /\ Rep w X β H u r := by
 unfold lk at h
 split at h
 ·rename_i s k i
  obtain rfl := bW hi
  obtain rfl := fS hx
  split at h
  ·rename_i ht
   injection h with h; injection h with h1 h2; subst h1 h2
   obtain ⟨n, rfl⟩ := eq_ofNat_of_zero_le hob.1
   have hn : n < s.size := by omega
   refine ⟨.int .u8 (btA s n), ?_, .deep (.int _ _)⟩
   have := CH hn
   simp [Instr.index, asIntOf, run_underlying (dU ht), this.1, this.2]
  ·cases h
 ·rename_i cells k i
  obtain rfl := bW hi
  obtain ⟨cs, val, rfl, hl, hm, hv⟩ := eB hx
  split at h
  ·rename_i n e he
   split at h
   ·cases h
   ·rename_i hz
    split at h
    ·rename_i ob' v hh
     injection h with h; injection h with h1 h2; subst h1 h2
     obtain ⟨m, rfl⟩ := eq_ofNat_of_zero_le hob.1.1
     have hn : m < n := by have := hob.1.2; omega
     obtain ⟨u, h3, h4⟩ := pK hh hob.2 hl hm hv
     rw [toNat_natCast] at h3
     exact ⟨u, by simp [Instr.index, asIntOf, run_underlying (oe he), hn, bC (pos_of_ne_zero hz), h3], h4⟩
    ·cases h
  ·cases h
 ·cases h
theorem xK {t : TypeId} {x : AV} {ob : Prop} {r : AV} (G : lL C w X) (h : xJ C t x = some (ob, r)) {vx : Value} (hx : Rep w X β H vx x) (ty : TypeId) : ∃ u, (Builtin.len_ #[t] ty #[vx]).run C.P w = .ok u w /\ Rep w X β H u r := by
 unfold xJ at h
 split at h
 ·rename_i b
  obtain rfl := wT hx
  split at h
  ·rename_i k e L hg
   split at h
   ·rename_i ht
    injection h with h; injection h with h1 h2; subst h1 h2
    have hG := G b
    rw [hg] at hG
    obtain ⟨⟨D, o1, o2, o3, o4, o5⟩, _⟩ := hG
    have := o1.len (tP ht) ty
    rw [o5] at this
    exact ⟨_, this, .deep (.int _ _)⟩
   ·cases h
  ·cases h
 ·obtain rfl := fS hx
  split at h
  ·rename_i ht
   injection h with h; injection h with h1 h2; subst h1 h2
   refine ⟨_, ?_, .deep (.int _ _)⟩
   simp [Builtin.len_, run_underlying (dU ht), goInt]
  ·cases h
 ·obtain ⟨a, cap, val, rfl, _⟩ := dC (dO hx)
  split at h
  ·rename_i e ht
   injection h with h; injection h with h1 h2; subst h1 h2
   refine ⟨_, ?_, .deep (.int _ _)⟩
   simp [Builtin.len_, run_underlying (cm ht), goInt]
  ·cases h
 ·obtain ⟨a, cap, b, rfl, _⟩ := fj hx
  split at h
  ·rename_i e ht
   injection h with h; injection h with h1 h2; subst h1 h2
   refine ⟨_, ?_, .deep (.int _ _)⟩
   simp [Builtin.len_, run_underlying (cm ht), goInt]
  ·cases h
 ·obtain ⟨a, cap, b, rfl, _⟩ := dR hx
  split at h
  ·rename_i e ht
   injection h with h; injection h with h1 h2; subst h1 h2
   refine ⟨_, ?_, .deep (.int _ _)⟩
   simp [Builtin.len_, run_underlying (cm ht), goInt]
  ·cases h
 ·split at h
  ·rename_i n e ht
   injection h with h; injection h with h1 h2; subst h1 h2
   refine ⟨_, ?_, .deep (.int _ _)⟩
   simp [Builtin.len_, run_underlying (oe ht), goInt]
  ·cases h
theorem u6 {c a b : AV} {ob : Prop} {r : AV} (h : pm c a b = some (ob, r)) {vc va vb : Value} (hc : Rep w X β H vc c) (ha : Rep w X β H va a) (hb : Rep w X β H vb b) :
  ∃ x : Bool, vc = .bool x /\ Rep w X β H (if x then va else vb) r := by
 unfold pm at h
 split at h
 ·rename_i x
  obtain rfl := cR hc
  refine ⟨x, rfl, ?_⟩
  split at h
  ·injection h with h; injection h with h1 h2; subst h1 h2
   obtain rfl := cR ha
   obtain rfl := cR hb
   cases x <;> exact .deep (.bool _)
  ·injection h with h; injection h with h1 h2; subst h1 h2
   cases x <;> simpa
 ·cases h
theorem xM {asq : List AV} {r : AV} (h : AT asq = some r) {vs : List Value} (hl : vs.length = asq.length) (hv : ∀ (j : Nat) (u : AV) (v : Value), asq[j]? = some u -> vs[j]? = some v -> Rep w X β H v u) (ts : Array TypeId) (ty : TypeId) :
  ∃ u, (Builtin.max_ ts ty vs.toArray).run C.P w = .ok u w /\ Rep w X β H u r := by
 unfold AT at h
 split at h
 ·rename_i k a k' b
  match vs, hl with
  | [v1, v2], _ =>
   obtain rfl := bW (hv 0 _ _ rfl rfl)
   obtain rfl := bW (hv 1 _ _ rfl rfl)
   split at h
   ·injection h with h; subst h
    refine ⟨_, ?_, .deep (.int _ _)⟩
    simp [Builtin.max_, Builtin.max2]
   ·cases h
 ·rename_i k a k' b k'' c
  match vs, hl with
  | [v1, v2, v3], _ =>
   obtain rfl := bW (hv 0 _ _ rfl rfl)
   obtain rfl := bW (hv 1 _ _ rfl rfl)
   obtain rfl := bW (hv 2 _ _ rfl rfl)
   split at h
   ·rename_i hk
    obtain ⟨rfl, rfl⟩ := hk
    injection h with h; subst h
    refine ⟨_, ?_, .deep (.int _ _)⟩
    simp [Builtin.max_, Builtin.max2]
   ·cases h
 ·cases h
theorem xN {asq : List AV} {r : AV} (h : AU asq = some r) {vs : List Value} (hl : vs.length = asq.length) (hv : ∀ (j : Nat) (u : AV) (v : Value), asq[j]? = some u -> vs[j]? = some v -> Rep w X β H v u) (ts : Array TypeId) (ty : TypeId) :
  ∃ u, (Builtin.min_ ts ty vs.toArray).run C.P w = .ok u w /\ Rep w X β H u r := by
 unfold AU at h
 split at h
 ·rename_i k a k' b
  match vs, hl with
  | [v1, v2], _ =>
   obtain rfl := bW (hv 0 _ _ rfl rfl)
   obtain rfl := bW (hv 1 _ _ rfl rfl)
   split at h
   ·injection h with h; subst h
    refine ⟨_, ?_, .deep (.int _ _)⟩
    simp [Builtin.min_, Builtin.min2]
   ·cases h
 ·cases h
end
def CRep (w : World) (X : Nat -> Prop) (β : List BI) (H : List Blk) (cs : Array Value) (cells : List AV) : Prop :=
 cs.size = cells.length /\ ∀ (j : Nat) (av : AV), cells[j]? = some av -> ∃ v, cs[j]? = some v /\ v.oneCell' = true /\ Rep w X β H v av
section
variable {C : Ctx} {w : World} {X : Nat -> Prop} {β : List BI} {H : List Blk}
theorem CRep.agg {cs : Array Value} {cells : List AV} (h : CRep w X β H cs cells) : Rep w X β H (.agg cs) (.agg cells) := by
 refine .agg cs cells (λ j => cs.getD j undef) h.1 (λ j hj => ?_) (λ j u hu => ?_)
 ·obtain ⟨v, h1, h2, _⟩ := h.2 j _ (getElem?_eq_getElem hj)
  have : cs.getD j undef = v := by simp [Array.getD_eq_getD_getElem?, h1]
  rw [this]
  exact ⟨h1, h2⟩
 ·obtain ⟨v, h1, _, h3⟩ := h.2 j _ hu
  have : cs.getD j undef = v := by simp [Array.getD_eq_getD_getElem?, h1]
  rw [this]
  exact h3
theorem vw {cells : List AV} {v : Value} (h : Rep w X β H v (.agg cells)) : ∃ cs, v = .agg cs /\ CRep w X β H cs cells := by
 obtain ⟨cs, val, rfl, hl, hm, hv⟩ := eB h
 exact ⟨cs, rfl, hl, λ j av hj => ⟨_, (hm j (List.getElem?_eq_some_iff.1 hj).1).1, (hm j (List.getElem?_eq_some_iff.1 hj).1).2, hv j av hj⟩⟩
theorem fQ {t : TypeId} {v : AV} {cs : List AV} (h : fP C t v = some cs) {u : Value} (hu : Rep w X β H u v) : CRep w X β H u.cells cs /\ cs.length = szT C.P t := by
 unfold fP at h
 split at h
 ·split at h
  ·split at h
   ·rename_i hl
    injection h with h; subst h
    obtain ⟨a, rfl, h1⟩ := vw hu
    exact ⟨h1, hl⟩
   ·cases h
  ·cases h
 ·split at h
  ·rename_i hc
   injection h with h; subst h
   simp only [Bool.and_eq_true, beq_iff_eq] at hc
   have h1 := DU hu hc.1
   have h2 : u.cells = #[u] := by cases u <;> first | rfl | cases h1
   rw [h2]
   refine ⟨⟨rfl, λ j av hj => ?_⟩, hc.2.symm⟩
   match j with
   | 0 => simp at hj; subst hj; exact ⟨u, rfl, h1, hu⟩
   | j + 1 => simp at hj
  ·cases h
 ·cases h
theorem mR (off : Nat) : ∀ (vs : List Value) (k0 : Nat) (cells : Array Value),
  ((vs.zipIdx k0).foldl (λ cs x => cs.setIfInBounds (off + x.2) x.1) cells).size = cells.size /\
  ∀ k : Nat, ((vs.zipIdx k0).foldl (λ cs x => cs.setIfInBounds (off + x.2) x.1) cells)[k]? = if off + k0 <= k /\ k < off + k0 + vs.length /\ k < cells.size then vs[k - (off + k0)]? else cells[k]?
 | [], k0, cells => by
  refine ⟨rfl, λ k => ?_⟩
  rw [if_neg (by simp; omega)]
  rfl
 | v :: vs, k0, cells => by
  obtain ⟨h1, h2⟩ := mR off vs (k0 + 1) (cells.setIfInBounds (off + k0) v)
  simp only [List.zipIdx_cons, List.foldl_cons, List.length_cons]
  refine ⟨by rw [h1]; simp, λ k => ?_⟩
  rw [h2 k]
  simp only [Array.size_setIfInBounds]
  by_cases hk : off + k0 = k
  ·subst hk
   rw [if_neg (by omega)]
   by_cases hs : off + k0 < cells.size
   ·rw [if_pos ⟨le_refl _, by omega, hs⟩]
    simp [hs]
   ·rw [if_neg (by omega)]
    simp [hs]
  ·by_cases hc : off + (k0 + 1) <= k /\ k < off + (k0 + 1) + vs.length /\ k < cells.size
   ·rw [if_pos hc, if_pos ⟨by omega, by omega, hc.2.2⟩]
    have : k - (off + k0) = (k - (off + (k0 + 1))) + 1 := by omega
    rw [this]
    rfl
   ·rw [if_neg hc, if_neg (by omega)]
    rw [Array.getElem?_setIfInBounds_ne hk]
theorem qv (row cs : List AV) (f k : Nat) (h : f + cs.length <= row.length) : (splice row f cs)[k]? = if f <= k /\ k < f + cs.length then cs[k - f]? else row[k]? := by
 unfold splice
 by_cases h1 : k < f
 ·rw [if_neg (by omega), List.append_assoc, getElem?_append_left (by simp; omega), getElem?_take, if_pos h1]
 ·by_cases h2 : k < f + cs.length
  ·rw [if_pos ⟨by omega, h2⟩, getElem?_append_left (by simp; omega), List.getElem?_append_right (by simp; omega)]
   simp only [length_take, min_eq_left (show f <= row.length by omega)]
  ·rw [if_neg (by omega), List.getElem?_append_right (by simp; omega), getElem?_drop]
   simp only [List.length_append, length_take, min_eq_left (show f <= row.length by omega)]
   congr 1
   omega
theorem iH (row cs : List AV) (f : Nat) (h : f + cs.length <= row.length) : (splice row f cs).length = row.length := by
 unfold splice
 simp
 omega
theorem CRep.splice {cs vc : Array Value} {row cells : List AV} {off : Nat} (h : CRep w X β H cs row) (hv : CRep w X β H vc cells) (hf : off + cells.length <= row.length) :
  CRep w X β H (vc.zipIdx.foldl (λ (cs : Array Value) (x : Value × Nat) => cs.setIfInBounds (off + x.2) x.1) cs) (splice row off cells) := by
 have e : vc.zipIdx.foldl (λ (cs : Array Value) (x : Value × Nat) => cs.setIfInBounds (off + x.2) x.1) cs = (vc.toList.zipIdx 0).foldl (λ cs x => cs.setIfInBounds (off + x.2) x.1) cs := by
  rw [<- Array.foldl_toList]
  simp
 rw [e]
 obtain ⟨h1, h2⟩ := mR off vc.toList 0 cs
 have hl : vc.toList.length = cells.length := by simpa using hv.1
 refine ⟨by rw [h1, iH _ _ _ hf, h.1], λ j av hj => ?_⟩
 rw [h2 j, add_zero, hl]
 have hj' := (List.getElem?_eq_some_iff.1 hj).1
 rw [iH _ _ _ hf] at hj'
 rw [qv _ _ _ _ hf] at hj
 by_cases hc : off <= j /\ j < off + cells.length
 ·rw [if_pos hc] at hj
  rw [if_pos ⟨hc.1, hc.2, by rw [h.1]; exact hj'⟩]
  obtain ⟨v, k1, k2, k3⟩ := hv.2 _ _ hj
  exact ⟨v, by simpa using k1, k2, k3⟩
 ·rw [if_neg hc] at hj
  rw [if_neg (λ hh => hc ⟨hh.1, hh.2.1⟩)]
  exact h.2 j av hj
theorem zd {v : Value} {a : AV} (h : Md v a = true) : v.oneCell' = true /\ RepD w X v a := by
 unfold Md at h
 split at h
 ·simp at h; subst h; exact ⟨rfl, .bool _⟩
 ·simp at h; obtain ⟨rfl, rfl⟩ := h; exact ⟨rfl, .int _ _⟩
 ·rename_i a b
  simp at h
  have : a = b := by rw [h.1, h.2]
  subst this
  exact ⟨rfl, .str _⟩
 ·rename_i rows
  simp at h; subst h
  exact ⟨rfl, .slice _ _ [] none 0 0 (λ _ _ => Go.undef) rfl (le_refl _) (zero_le _) (λ _ => rfl) (λ r h => by cases h) (λ h => absurd rfl h) (λ i j r v h => by simp at h)⟩
 ·exact ⟨rfl, .nilptr⟩
 ·exact ⟨rfl, .undef _⟩
 ·exact ⟨rfl, .undef _⟩
 ·exact ⟨rfl, .undef _⟩
 ·cases h
theorem nP : ∀ {vs : List Value} {asq : List AV}, sK vs asq = true -> vs.length = asq.length /\ ∀ (j : Nat) (av : AV), asq[j]? = some av -> ∃ v, vs[j]? = some v /\ v.oneCell' = true /\ RepD w X v av
 | [], [], _ => ⟨rfl, λ j av h => by simp at h⟩
 | v :: r, a :: q, h => by
  simp only [sK, Bool.and_eq_true] at h
  obtain ⟨h1, h2⟩ := nP h.2
  obtain ⟨k1, k2⟩ := zd (w := w) (X := X) h.1
  refine ⟨by simp [h1], λ j av hj => ?_⟩
  match j with
  | 0 => simp at hj; subst hj; exact ⟨v, rfl, k1, k2⟩
  | j + 1 => exact h2 j av (by simpa using hj)
 | [], _ :: _, h => by simp [sK] at h
 | _ :: _, [], h => by simp [sK] at h
theorem cN {P : Program} {t : TypeId} {z : List AV} (h : zT P t = some z) : ∃ i zv, P.info? t = some i /\ i.zero = some zv /\ i.size = z.length /\ 0 < i.size /\ szT P t = z.length /\ zv.cells.size = z.length /\
  ∀ (w : World) (X : Nat -> Prop) (j : Nat) (av : AV), z[j]? = some av -> ∃ v, zv.cells[j]? = some v /\ v.oneCell' = true /\ RepD w X v av := by
 unfold zT at h
 split at h
 ·rename_i i hi
  split at h
  ·rename_i zv hz
   split at h
   ·rename_i hc
    injection h with h
    simp only [Bool.and_eq_true, beq_iff_eq, decide_eq_true_eq] at hc
    have h1 := λ (w : World) (X : Nat -> Prop) => nP hc.1.1 (w := w) (X := X)
    rw [h] at h1
    have hl : zv.cells.size = z.length := by simpa using (h1 default (λ _ => False)).1
    refine ⟨i, zv, hi, hz, by rw [hc.1.2, hl], hc.2, ?_, hl, λ w X j av hj => ?_⟩
    ·simp [szT, hi, hc.1.2, hl]
    ·obtain ⟨v, k1, k2, k3⟩ := (h1 w X).2 j av hj
     exact ⟨v, by simpa using k1, k2, k3⟩
   ·cases h
  ·cases h
 ·cases h
theorem uI {z : List AV} {zv : Value} (hl : zv.cells.size = z.length) (h : ∀ (w : World) (X : Nat -> Prop) (j : Nat) (av : AV), z[j]? = some av -> ∃ v, zv.cells[j]? = some v /\ v.oneCell' = true /\ RepD w X v av) : CRep w X β H zv.cells z :=
 ⟨hl, λ j av hj => let ⟨v, h1, h2, h3⟩ := h w X j av hj; ⟨v, h1, h2, .deep h3⟩⟩
theorem gY (place : Nat -> Option (Nat × TypeId)) (pl : Nat -> Option (Nat × Nat)) (hp : ∀ k off ty, place k = some (off, ty) -> pl k = some (off, szT C.P ty)) :
  ∀ (parts : List (Nat × AV)) (vparts : List (Nat × Value)) (cells r : List AV) (cs : Array Value), gX C place cells parts = some r -> CRep w X β H cs cells ->
   vparts.length = parts.length -> (∀ (j k : Nat) (u : AV), parts[j]? = some (k, u) -> ∃ v, vparts[j]? = some (k, v) /\ Rep w X β H v u) -> ∃ cs', Instr.fill pl cs vparts = some cs' /\ CRep w X β H cs' r
 | [], vparts, cells, r, cs, h, hc, hl, hv => by
  simp only [gX, Option.some.injEq] at h
  subst h
  obtain rfl := length_eq_zero_iff.1 hl
  exact ⟨cs, rfl, hc⟩
 | (k, u) :: parts, vparts, cells, r, cs, h, hc, hl, hv => by
  obtain ⟨v, h1, h2⟩ := hv 0 k u rfl
  match vparts, hl, hv, h1 with
  | x :: vp, hl, hv, h1 =>
   simp at h1
   subst h1
   simp only [gX] at h
   split at h
   ·rename_i off ty hpl
    split at h
    ·rename_i cu hcu
     split at h
     ·rename_i hle
      obtain ⟨k1, k2⟩ := fQ hcu h2
      have hsz : v.cells.size = szT C.P ty := by rw [k1.1, k2]
      obtain ⟨cs', k3, k4⟩ := gY place pl hp parts vp _ r _ h (hc.splice k1 hle) (by simpa using hl) (λ j k u hj => by have := hv (j + 1) k u (by simpa using hj); simpa using this)
      refine ⟨cs', ?_, k4⟩
      unfold Instr.fill
      rw [hp k off ty hpl]
      simp only
      rw [if_neg, k3]
      simp only [hsz, ne_eq, not_true_eq_false, Bool.false_or, decide_false]
      have := hc.1
      simp
      omega
     ·cases h
    ·cases h
   ·cases h
end
section
variable {C : Ctx} {w : World} {X : Nat -> Prop} {β : List BI} {H : List Blk}
theorem sD {P : Program} : ∀ (fs : List Field), (∀ f ∈ fs, (P.info? f.type).isSome = true) -> ∀ w : World,
  ((fs.mapM λ f => do pure (f.offset, <- sizeOf f.type) : Sem (List (Nat × Nat)))).run P w = .ok (fs.map λ f => (f.offset, szT P f.type)) w
 | [], _, w => by simp [List.mapM_nil]
 | f :: fs, h, w => by
  have ih := sD fs (λ g hg => h g (mem_cons_of_mem _ hg)) w
  have h1 := h f (by simp)
  cases hi : P.info? f.type with
  | none => rw [hi] at h1; cases h1
  | some i =>
   have h2 : (sizeOf f.type).run P w = .ok (szT P f.type) w := by simp [sizeOf, typeInfo, hi, szT]
   simp only [List.mapM_cons, Sem.run_bind, h2, Result.andThen_ok, Sem.run_pure, ih, map_cons]
theorem sO {a : Act} {ρ : List (Nat × AV)} (T : i8 w X β H a ρ) (G : lL C w X) {t : TypeId} {parts : Array (Nat × Operand)} {ob : Prop} {r : AV} (h : iy C ρ t parts.toList = some (ob, r)) :
  ∃ u, (Instr.build t (parts.map λ (i, x) => (i, a.eval x))).run C.P w = .ok u w /\ Rep w X β H u r := by
 unfold iy at h
 split at h
 ·rename_i z hz
  obtain ⟨i, zv, h1, h2, h3, h4, h5, h6, h7⟩ := cN hz
  have hzr : (zeroValue t).run C.P w = .ok zv w := by simp [zeroValue, typeInfo, h1, h2]
  split at h
  ·rename_i hna
   split at h
   ·rename_i cs hcs
    split at h
    ·rename_i hinfo
     injection h with h; injection h with e1 e2; subst e1 e2
     unfold dA at hinfo
     split at hinfo
     ·rename_i fs hfs
      have hpl : ∀ k off ty, bz C.P t k = some (off, ty) -> ((fs.toList.map λ f => (f.offset, szT C.P f.type)).toArray)[k]? = some (off, szT C.P ty) := by
       intro k off ty hk
       obtain ⟨fs', f, e1, e2, rfl, rfl⟩ := oj hk
       rw [hfs] at e1
       injection e1 with e1; injection e1 with e1
       subst e1
       simp [e2]
      obtain ⟨cs', k1, k2⟩ := gY (C := C) (w := w) (X := X) (β := β) (H := H) _ _ hpl _ ((parts.map λ (i, x) => (i, a.eval x)).toList) _ _ zv.cells hcs (uI h6 h7) (by simp) (λ j k u hj => by
       simp only [getElem?_map, map_eq_some_iff] at hj
       obtain ⟨⟨k', x⟩, hj1, hj2⟩ := hj
       injection hj2 with hj2 hj3
       simp only at hj2 hj3
       subst hj2 hj3
       refine ⟨a.eval x, ?_, cY T G _ x⟩
       simp only [Array.toList_map, getElem?_map, hj1, map_some])
      refine ⟨.agg cs', ?_, k2.agg⟩
      have hs := sD (P := C.P) fs.toList (λ f hf => all_eq_true.1 hinfo f hf) w
      simp only [Instr.build, Sem.run_bind, hzr, Result.andThen_ok, run_underlying hfs, Array.mapM_eq_mapM_toList, map_eq_pure_bind, bind_assoc, pure_bind, hs]
      simp only [k1, Sem.run_pure]
     ·cases hinfo
    ·cases h
   ·cases h
  ·rename_i n e hna
   split at h
   ·cases h
   ·rename_i hsz
    split at h
    ·rename_i cs hcs
     injection h with h; injection h with e1 e2; subst e1 e2
     obtain ⟨cs', k1, k2⟩ := gY (C := C) (w := w) (X := X) (β := β) (H := H) (λ k => some (k * szT C.P e, e)) (λ k => some (k * szT C.P e, szT C.P e)) (λ k off ty hk => by
      injection hk with hk; injection hk with hk1 hk2; subst hk1 hk2; rfl) _ ((parts.map λ (i, x) => (i, a.eval x)).toList) _ _ zv.cells hcs (uI h6 h7) (by simp) (λ j k u hj => by
       simp only [getElem?_map, map_eq_some_iff] at hj
       obtain ⟨⟨k', x⟩, hj1, hj2⟩ := hj
       injection hj2 with hj2 hj3
       simp only at hj2 hj3
       subst hj2 hj3
       refine ⟨a.eval x, ?_, cY T G _ x⟩
       simp only [Array.toList_map, getElem?_map, hj1, map_some])
     refine ⟨.agg cs', ?_, k2.agg⟩
     simp only [Instr.build, Sem.run_bind, hzr, Result.andThen_ok, run_underlying (oe hna), bC (pos_of_ne_zero hsz)]
     simp only [k1, Sem.run_pure]
    ·cases h
 ·cases h
theorem dw {lo : Option AV} {l : Int} (h : pc lo = some l) {vl : Option Value} (hn : lo = none -> vl = none) (hs : ∀ u, lo = some u -> ∃ v, vl = some v /\ Rep w X β H v u) :
  (vl = none /\ l = 0) ∨ ∃ k, vl = some (.int k l) := by
 unfold pc at h
 split at h
 ·injection h with h; subst h; exact .inl ⟨hn rfl, rfl⟩
 ·injection h with h; subst h
  obtain ⟨v, rfl, hv⟩ := hs _ rfl
  obtain rfl := bW hv
  exact .inr ⟨_, rfl⟩
 ·cases h
theorem eP {hi : Option AV} {len : Nat} {l : Int} (h : jI len hi = some l) {vl : Option Value} (hn : hi = none -> vl = none) (hs : ∀ u, hi = some u -> ∃ v, vl = some v /\ Rep w X β H v u) :
  (vl = none /\ hi = none /\ l = len) ∨ ∃ k, vl = some (.int k l) /\ hi.isSome = true := by
 unfold jI at h
 split at h
 ·injection h with h; subst h; exact .inl ⟨hn rfl, rfl, rfl⟩
 ·injection h with h; subst h
  obtain ⟨v, rfl, hv⟩ := hs _ rfl
  obtain rfl := bW hv
  exact .inr ⟨_, rfl, rfl⟩
 ·cases h
theorem aM {P : Program} {k : IntKind} {i : Int} {y : Nat} (h0 : 0 <= i) (h1 : i <= y) (code : BoundsCode) (w : World) : (Instr.sliceBound (.int k i) y code).run P w = .ok i.toNat w := by
 simp [Instr.sliceBound, asIntOf, h0, h1]
theorem wS {a : Option Addr} {n cap sz : Nat} {full full' : Bool} {rows : List (List AV)} (h : RepD w X (.slice a n cap) (.slice sz full rows)) {l h' m : Nat} (h1 : l <= h') (h2 : h' <= rows.length) (h3 : h' <= m) (h4 : m <= cap)
  (hf : full' = true -> m = h') : RepD w X (.slice (if m = l then a else a.map (·.add (l * sz))) (h' - l) (m - l)) (.slice sz full' ((rows.take h').drop l)) := by
 cases h with
 | slice _ _ _ _ _ _ val hn k1 k2 k3 hr hm hv =>
  have hlen : ((rows.take h').drop l).length = h' - l := by simp; omega
  have hget : ∀ i : Nat, ((rows.take h').drop l)[i]? = if l + i < h' then rows[l + i]? else none := by
   intro i
   rw [getElem?_drop, getElem?_take]
  refine .slice sz full' _ _ _ _ (λ i j => val (l + i) j) hlen.symm (by rw [hlen]; omega) (by omega) (λ hh => by rw [hlen, hf hh]) (λ r hr' => hr r (List.mem_of_mem_take (List.mem_of_mem_drop hr'))) (λ h0 => ?_) (λ i j r v hi hj => ?_)
  ·rw [hlen] at h0
   obtain ⟨b, off, rfl, hb, hX, hc⟩ := hm (by omega)
   refine ⟨b, off + l * sz, ?_, hb, hX, λ i j hi hj => ?_⟩
   ·rw [if_neg (by omega)]
    simp [gd]
   ·rw [hlen] at hi
    have := hc (l + i) j (by omega) hj
    rw [add_mul, <- add_assoc] at this
    exact this
  ·rw [hget] at hi
   split at hi
   ·exact hv _ _ _ _ hi hj
   ·cases hi
theorem te {t : TypeId} {x : AV} {lo hi mx : Option AV} {ob : Prop} {r : AV} (h : lq C t x lo hi mx = some (ob, r)) (hob : ob) {vx : Value} (hx : Rep w X β H vx x) {vlo vhi vmx : Option Value}
  (hlo : lo = none -> vlo = none) (hlo' : ∀ u, lo = some u -> ∃ v, vlo = some v /\ Rep w X β H v u) (hhi : hi = none -> vhi = none) (hhi' : ∀ u, hi = some u -> ∃ v, vhi = some v /\ Rep w X β H v u)
  (hmx : mx = none -> vmx = none) (hmx' : ∀ u, mx = some u -> ∃ v, vmx = some v /\ Rep w X β H v u) : ∃ u, (Instr.sliceAt t vx vlo vhi vmx).run C.P w = .ok u w /\ Rep w X β H u r := by
 unfold lq at h
 split at h
 ·rename_i s
  obtain rfl := fS hx
  split at h
  ·rename_i ht
   have ht := dU ht
   split at h
   ·rename_i l h' hl hh
    injection h with h; injection h with e1 e2; subst e1 e2
    obtain ⟨o1, o2, o3⟩ := hob
    obtain rfl := hmx rfl
    refine ⟨.string (s.extract l.toNat h'.toNat), ?_, .deep (.str _)⟩
    rcases eP hh hhi hhi' with ⟨rfl, _, rfl⟩ | ⟨k1, rfl, _⟩ <;> rcases dw hl hlo hlo' with ⟨rfl, rfl⟩ | ⟨k2, rfl⟩
    ·simp [Instr.sliceAt, run_underlying ht, Instr.slice, Instr.sliceBounds]
    ·have := aM (P := C.P) (k := k2) o1 o2 .sliceB w
     simp [Instr.sliceAt, run_underlying ht, Instr.slice, Instr.sliceBounds, this]
    ·have := aM (P := C.P) (k := k1) (show 0 <= h' by omega) o3 .sliceAlen w
     simp [Instr.sliceAt, run_underlying ht, Instr.slice, Instr.sliceBounds, this]
    ·have h1 := aM (P := C.P) (k := k1) (show 0 <= h' by omega) o3 .sliceAlen w
     have h2 := aM (P := C.P) (k := k2) (y := h'.toNat) o1 (by omega) .sliceB w
     simp [Instr.sliceAt, run_underlying ht, Instr.slice, Instr.sliceBounds, h1, h2]
   ·cases h
  ·cases h
 ·rename_i sz full rows
  split at h
  ·rename_i e he
   have hu := cm he
   split at h
   ·rename_i hsz
    obtain ⟨hsz, hz⟩ := hsz
    have hso := bC (P := C.P) (t := e) (by omega) w
    rw [<- hsz] at hso
    have hd := dO hx
    obtain ⟨a, cap, val, rfl, k1, k2, k3, hr, hm, hv⟩ := dC hd
    split at h
    ·rename_i l h' hl hh
     injection h with h; injection h with e1 e2; subst e1 e2
     obtain ⟨o1, o2, o3⟩ := hob
     obtain rfl := hmx rfl
     have main := λ hf => wS (full' := full && hi.isNone) hd (l := l.toNat) (h' := h'.toNat) (m := cap) (by omega) (by omega) (by omega) (le_refl _) hf
     rcases eP hh hhi hhi' with ⟨rfl, rfl, rfl⟩ | ⟨k1, rfl, hs⟩
     ·have main := main (λ hf => by simp at hf; rw [k3 hf]; simp)
      rcases dw hl hlo hlo' with ⟨rfl, rfl⟩ | ⟨k2, rfl⟩
      ·refine ⟨_, ?_, .deep main⟩
       simp [Instr.sliceAt, run_underlying hu, Instr.slice, Instr.sliceBounds, hso]
      ·refine ⟨_, ?_, .deep main⟩
       have := aM (P := C.P) (k := k2) o1 o2 .sliceB w
       simp [Instr.sliceAt, run_underlying hu, Instr.slice, Instr.sliceBounds, hso, this]
     ·have main := main (λ hf => by cases hi <;> simp_all)
      have hb := aM (P := C.P) (k := k1) (y := cap) (show 0 <= h' by omega) (by omega) .sliceAcap w
      rcases dw hl hlo hlo' with ⟨rfl, rfl⟩ | ⟨k2, rfl⟩
      ·refine ⟨_, ?_, .deep main⟩
       simp [Instr.sliceAt, run_underlying hu, Instr.slice, Instr.sliceBounds, hso, hb]
      ·refine ⟨_, ?_, .deep main⟩
       have := aM (P := C.P) (k := k2) (y := h'.toNat) o1 (by omega) .sliceB w
       simp [Instr.sliceAt, run_underlying hu, Instr.slice, Instr.sliceBounds, hso, hb, this]
    ·rename_i km m l h' hl hh
     injection h with h; injection h with e1 e2; subst e1 e2
     obtain ⟨o1, o2, o3, rfl, o5⟩ := hob
     obtain ⟨vm, rfl, hvm⟩ := hmx' _ rfl
     obtain rfl := bW hvm
     have main := wS (full' := true) hd (l := l.toNat) (h' := m.toNat) (m := m.toNat) (by omega) (by omega) (le_refl _) (by omega) (λ _ => rfl)
     have hb1 := aM (P := C.P) (k := km) (y := cap) (show 0 <= m by omega) (by omega) .slice3Acap w
     rcases eP hh hhi hhi' with ⟨_, rfl, _⟩ | ⟨k1, rfl, hs⟩
     ·cases o5
     ·have hb := aM (P := C.P) (k := k1) (y := m.toNat) (show 0 <= m by omega) (by omega) .slice3B w
      rcases dw hl hlo hlo' with ⟨rfl, rfl⟩ | ⟨k2, rfl⟩
      ·refine ⟨_, ?_, .deep main⟩
       simp [Instr.sliceAt, run_underlying hu, Instr.slice, Instr.sliceBounds, hso, hb, hb1]
      ·refine ⟨_, ?_, .deep main⟩
       have := aM (P := C.P) (k := k2) (y := m.toNat) o1 (by omega) .slice3C w
       simp [Instr.sliceAt, run_underlying hu, Instr.slice, Instr.sliceBounds, hso, hb, hb1, this]
    ·cases h
   ·cases h
  ·cases h
 ·rename_i bl n
  split at h
  ·rename_i e he
   have hu := cm he
   split at h
   ·rename_i hz
    have hso := bC (P := C.P) (t := e) hz w
    obtain ⟨a, cap, b, rfl, hb, hn, h0, hx'⟩ := fj hx
    have hc := nJ hx
    split at h
    ·rename_i l h' hl hh
     injection h with h; injection h with e1 e2; subst e1 e2
     obtain ⟨o1, o2, o3⟩ := hob
     obtain rfl := hmx rfl
     have main : Rep w X β H (.slice (if cap = l.toNat then a else a.map (·.add (l.toNat * szT C.P e))) (h'.toNat - l.toNat) (cap - l.toNat)) (.osl bl n (szT C.P e) l.toNat (h'.toNat - l.toNat)) := by
      refine .osl bl n _ _ _ _ _ b hb hn (by omega) ?_ (by omega) λ e1 e2 => ?_
      ·by_cases hz0 : l.toNat = n
       ·exact .inl hz0
       ·right
        obtain ⟨x, rfl⟩ := h0.resolve_left (by omega)
        split
        ·exact ⟨x, rfl⟩
        ·exact ⟨_, rfl⟩
      ·have h := hx' e1
       cases hβ : β[bl]? with
       | none => rw [hβ] at h; exact h.elim
       | some bi =>
        rw [hβ] at h
        cases bi with
        | nil => obtain ⟨rfl, rfl⟩ := h; exact ⟨by omega, by omega, by omega⟩
        | lies bk c =>
         obtain ⟨rfl, rfl⟩ := h
         refine ⟨by omega, rfl, λ hlt => ?_⟩
         rw [if_neg (by omega)]
         simp [gd]
     rcases eP hh hhi hhi' with ⟨rfl, rfl, rfl⟩ | ⟨k1, rfl, hs⟩
     ·rcases dw hl hlo hlo' with ⟨rfl, rfl⟩ | ⟨k2, rfl⟩
      ·refine ⟨_, ?_, main⟩
       simp [Instr.sliceAt, run_underlying hu, Instr.slice, Instr.sliceBounds, hso]
      ·refine ⟨_, ?_, main⟩
       have := aM (P := C.P) (k := k2) o1 o2 .sliceB w
       simp [Instr.sliceAt, run_underlying hu, Instr.slice, Instr.sliceBounds, hso, this]
     ·have hb := aM (P := C.P) (k := k1) (y := cap) (show 0 <= h' by omega) (by omega) .sliceAcap w
      rcases dw hl hlo hlo' with ⟨rfl, rfl⟩ | ⟨k2, rfl⟩
      ·refine ⟨_, ?_, main⟩
       simp [Instr.sliceAt, run_underlying hu, Instr.slice, Instr.sliceBounds, hso, hb]
      ·refine ⟨_, ?_, main⟩
       have := aM (P := C.P) (k := k2) (y := h'.toNat) o1 (by omega) .sliceB w
       simp [Instr.sliceAt, run_underlying hu, Instr.slice, Instr.sliceBounds, hso, hb, this]
    ·rename_i km m l h' hl hh
     injection h with h; injection h with e1 e2; subst e1 e2
     obtain ⟨o1, o2, o3, o4, o5⟩ := hob
     obtain ⟨vm, rfl, hvm⟩ := hmx' _ rfl
     obtain rfl := bW hvm
     have hb1 := aM (P := C.P) (k := km) (y := cap) (show 0 <= m by omega) (by omega) .slice3Acap w
     rcases eP hh hhi hhi' with ⟨_, rfl, _⟩ | ⟨k1, rfl, hs⟩
     ·cases o5
     ·have hb := aM (P := C.P) (k := k1) (y := m.toNat) (show 0 <= h' by omega) (by omega) .slice3B w
      rcases dw hl hlo hlo' with ⟨rfl, rfl⟩ | ⟨k2, rfl⟩
      ·refine ⟨.slice (if m.toNat = 0 then a else a.map (·.add (0 * szT C.P e))) (h'.toNat - 0) (m.toNat - 0), ?_, .deep (.undef _)⟩
       simp [Instr.sliceAt, run_underlying hu, Instr.slice, Instr.sliceBounds, hso, hb, hb1]
      ·refine ⟨.slice (if m.toNat = l.toNat then a else a.map (·.add (l.toNat * szT C.P e))) (h'.toNat - l.toNat) (m.toNat - l.toNat), ?_, .deep (.undef _)⟩
       have := aM (P := C.P) (k := k2) (y := h'.toNat) o1 (by omega) .slice3C w
       simp [Instr.sliceAt, run_underlying hu, Instr.slice, Instr.sliceBounds, hso, hb, hb1, this]
    ·cases h
   ·cases h
  ·cases h
 ·rename_i bl n sz off len
  split at h
  ·rename_i e he
   have hu := cm he
   split at h
   ·rename_i hz
    obtain ⟨hsz, hz⟩ := hz
    have hso := bC (P := C.P) (t := e) (by omega) w
    rw [<- hsz] at hso
    obtain ⟨a, cap, b, rfl, hb, hn, hle, h0, hc, hx'⟩ := dR hx
    split at h
    ·rename_i l h' hl hh
     injection h with h; injection h with e1 e2; subst e1 e2
     obtain ⟨o1, o2, o3⟩ := hob
     obtain rfl := hmx rfl
     have main : Rep w X β H (.slice (if cap = l.toNat then a else a.map (·.add (l.toNat * sz))) (h'.toNat - l.toNat) (cap - l.toNat)) (.osl bl n sz (off + l.toNat) (h'.toNat - l.toNat)) := by
      refine .osl bl n _ _ _ _ _ b hb hn (by omega) ?_ (by omega) λ e1 e2 => ?_
      ·by_cases hz0 : off + l.toNat = n
       ·exact .inl hz0
       ·right
        obtain ⟨x, rfl⟩ := h0.resolve_left (by omega)
        split
        ·exact ⟨x, rfl⟩
        ·exact ⟨_, rfl⟩
      ·have h := hx' e1 e2
       cases hβ : β[bl]? with
       | none => rw [hβ] at h; exact h.elim
       | some bi =>
        rw [hβ] at h
        cases bi with
        | nil => obtain ⟨rfl, rfl, rfl⟩ := h; exact ⟨by omega, by omega, by omega⟩
        | lies bk c =>
         obtain ⟨h1, rfl, h3⟩ := h
         refine ⟨by omega, by omega, λ hlt => ?_⟩
         rw [if_neg (by omega), h3 (by omega)]
         simp [gd, add_mul]
     rcases eP hh hhi hhi' with ⟨rfl, rfl, rfl⟩ | ⟨k1, rfl, hs⟩
     ·rcases dw hl hlo hlo' with ⟨rfl, rfl⟩ | ⟨k2, rfl⟩
      ·refine ⟨_, ?_, main⟩
       simp [Instr.sliceAt, run_underlying hu, Instr.slice, Instr.sliceBounds, hso]
      ·refine ⟨_, ?_, main⟩
       have := aM (P := C.P) (k := k2) o1 o2 .sliceB w
       simp [Instr.sliceAt, run_underlying hu, Instr.slice, Instr.sliceBounds, hso, this]
     ·have hb := aM (P := C.P) (k := k1) (y := cap) (show 0 <= h' by omega) (by omega) .sliceAcap w
      rcases dw hl hlo hlo' with ⟨rfl, rfl⟩ | ⟨k2, rfl⟩
      ·refine ⟨_, ?_, main⟩
       simp [Instr.sliceAt, run_underlying hu, Instr.slice, Instr.sliceBounds, hso, hb]
      ·refine ⟨_, ?_, main⟩
       have := aM (P := C.P) (k := k2) (y := h'.toNat) o1 (by omega) .sliceB w
       simp [Instr.sliceAt, run_underlying hu, Instr.slice, Instr.sliceBounds, hso, hb, this]
    ·cases h
   ·cases h
  ·cases h
 ·cases h
end
section
variable {C : Ctx} {w : World} {X : Nat -> Prop} {β : List BI} {H : List Blk}
theorem k9 {s : ByteArray} {i : Nat} {r : List AV} (h : (dK s)[i]? = some r) : ∃ hi : i < s.data.size, r = [.int .u8 ((s.data[i]'hi).toNat : Int)] := by
 unfold dK at h
 rw [getElem?_map] at h
 simp only [Array.getElem?_toList, map_eq_some_iff] at h
 obtain ⟨c, hc, rfl⟩ := h
 obtain ⟨hi, rfl⟩ := Array.getElem?_eq_some_iff.1 hc
 exact ⟨hi, rfl⟩
theorem d7 (s : ByteArray) : (dK s).length = s.size := by
 unfold dK
 simp
theorem uS (hX : ∀ b, X b -> b < w.heap.size) {src dst : TypeId} {x : AV} {ob : Prop} {r : AV} (h : oZ C src dst x = some (ob, r)) (hob : ob) {vx : Value} (hx : Rep w X β H vx x) :
  ∃ u w', (convert src dst vx).run C.P w = .ok u w' /\ Keeps (λ _ => False) w w' /\ Rep w' X β H u r := by
 unfold oZ at h
 split at h
 ·obtain rfl := bW hx
  split at h
  ·rename_i k k' h1 h2
   injection h with h; injection h with e1 e2; subst e1 e2
   refine ⟨_, w, ?_, Keeps.refl _ _, .deep (.int _ _)⟩
   simp [convert, run_underlying (jk h1), run_underlying (jk h2), Conv.intToInt]
  ·cases h
 ·rename_i s
  obtain rfl := fS hx
  split at h
  ·rename_i hs
   simp only [Bool.and_eq_true] at hs
   injection h with h; injection h with e1 e2; subst e1 e2
   refine ⟨_, w, ?_, Keeps.refl _ _, .deep (.str _)⟩
   simp [convert, run_underlying (dU hs.1), run_underlying (dU hs.2)]
  ·split at h
   ·rename_i e he
    split at h
    ·rename_i hs
     simp only [Bool.and_eq_true] at hs
     injection h with h; injection h with e1 e2; subst e1 e2
     have h8 := lR hs.2
     have hr := run_bytes_of_string (P := C.P) w src dst e s (dU hs.1) (cm he) h8
     have hge := grownCap_ge w s.size 0 e
     have hle := grownCap_le_maxLen w s.size 0 e (by unfold maxLen; omega)
     generalize grownCap w s.size 0 e = cap at *
     refine ⟨_, _, hr, (Keeps.drew _ w).trans (Keeps.alloc (λ _ => False) w.drew _) (λ _ _ h => h), .deep ?_⟩
     have hsz : w.drew.heap.size = w.heap.size := rfl
     refine .slice 1 false _ _ _ _ (λ i _ => .int .u8 (btA s i)) (d7 s).symm (by rw [d7]; exact hge) hle (λ h => by cases h) (λ r hr => ?_) (λ _ => ?_) (λ i j r v hi hj => ?_)
     ·unfold dK at hr
      obtain ⟨c, _, rfl⟩ := mem_map.1 hr
      rfl
     ·refine ⟨w.heap.size, 0, rfl, by simp, λ hx => Nat.lt_irrefl _ (hX _ hx), λ i j hi hj => ⟨?_, rfl⟩⟩
      rw [d7] at hi
      have hi' : i < s.data.size := hi
      have hh : (w.drew.alloc (.cells (bytesRow s cap) e ((bytesRow s cap).size, (bytesRow s cap).size + 1))).heap[w.heap.size]? = some (.cells (bytesRow s cap) e ((bytesRow s cap).size, (bytesRow s cap).size + 1)) := by
       show (w.heap.push _)[w.heap.size]? = _
       simp
      rw [show 0 + i * 1 + j = i by omega, cell_of_row _ _ _ _ _ _ hh, bytesRow_at s cap i hi']
      rw [<- (CH hi).2]
      rfl
     ·obtain ⟨hi', rfl⟩ := k9 hi
      match j with
      | 0 =>
       simp at hj
       subst hj
       have := (CH (s := s) (j := i) hi').2
       have e : ((s.data[i]'hi').toNat : Int) = btA s i := by rw [<- this]; rfl
       rw [e]
       exact .int _ _
      | j + 1 => simp at hj
    ·cases h
   ·cases h
 ·cases h
theorem cx (ρ : List (Nat × AV)) : ∀ (xs : List Operand) (ts : List TypeId), (cy C ρ xs ts).length = xs.length
 | [], _ => rfl
 | x :: r, t :: q => by simp [cy, cx ρ r q]
 | x :: r, [] => by simp [cy, cx ρ r []]
theorem d6 {a : Act} {ρ : List (Nat × AV)} (T : i8 w X β H a ρ) (G : lL C w X) : ∀ (xs : List Operand) (ts : List TypeId) (j : Nat) (u : AV), (cy C ρ xs ts)[j]? = some u -> ∃ x, xs[j]? = some x /\ Rep w X β H (a.eval x) u
 | [], ts, j, u, h => by cases ts <;> simp [cy] at h
 | x :: r, [], j, u, h => by
  match j with
  | 0 => simp [cy] at h; subst h; exact ⟨x, rfl, cY T G _ x⟩
  | j + 1 => simp [cy] at h; exact d6 T G r [] j u h
 | x :: r, t :: q, j, u, h => by
  match j with
  | 0 => simp [cy] at h; subst h; exact ⟨x, rfl, cY T G _ x⟩
  | j + 1 => simp [cy] at h; exact d6 T G r q j u h
theorem pX {a : Act} {ρ : List (Nat × AV)} {t : TypeId} {lo : Option Operand} (h : lo.map (aev C ρ t) = none) : lo.map a.eval = none := by
 cases lo with
 | none => rfl
 | some x => cases h
theorem pY {a : Act} {ρ : List (Nat × AV)} (T : i8 w X β H a ρ) (G : lL C w X) {t : TypeId} {lo : Option Operand} (u : AV) (h : lo.map (aev C ρ t) = some u) : ∃ v, lo.map a.eval = some v /\ Rep w X β H v u := by
 cases lo with
 | none => cases h
 | some x => injection h with h; subst h; exact ⟨_, rfl, cY T G _ x⟩
theorem Kr {n : Int} (h : I64 n) : (Lit.int .i64 n).wf = true := by
 unfold I64 at h
 simp only [Lit.wf, Bool.and_eq_true, decide_eq_true_eq]
 exact ⟨h.1, h.2⟩
theorem Gu {P : Program} {k : TypeId} (hk : P.underlying k = some .string) {s : ByteArray} (hs : s.size <= maxLen) : keyOf P k (.string s) = some (.string s.data.toList) :=
 Go.WideMaps.keyOf_string_mk hk hs
theorem Bq {P : Program} {k : TypeId} {x : AV} {ob : Prop} {kl : Lit} (h : rX P k x = some (ob, kl)) (hob : ob) {v : Value} (hv : Rep w X β H v x) : Maps.Keyed P k /\ keyOf P k v = some kl /\ WideAt.IsKeyLit kl := by
 unfold rX at h
 split at h
 ·obtain rfl := cR hv
  split at h
  ·rename_i ht
   injection h with h; injection h with e1 e2; subst e1 e2
   exact ⟨Maps.bool_keyed (jP ht), Maps.keyOf_bool_mk (jP ht) _, trivial⟩
  ·cases h
 ·obtain rfl := bW hv
  split at h
  ·rename_i ht
   injection h with h; injection h with e1 e2; subst e1 e2
   exact ⟨Maps.int_keyed (jk ht), Maps.keyOf_int_mk (jk ht) (Kr hob), trivial⟩
  ·cases h
 ·obtain rfl := fS hv
  split at h
  ·rename_i ht
   injection h with h; injection h with e1 e2; subst e1 e2
   exact ⟨Maps.string_keyed (dU ht), Gu (dU ht) hob, trivial⟩
  ·cases h
 ·cases h
theorem ld {P : Program} {e : TypeId} {v : Value} {l : Lit} {ps : List MemPlace} (h : plainElem (H := Unit) P e v = some (.lit l, ps)) : Rep w X β H v (zN l) := by
 unfold plainElem at h
 split at h
 ·injection h with h; injection h with h _; injection h with h; subst h; exact .deep (.bool _)
 ·split at h
  ·rename_i hq
   injection h with h; injection h with h _; injection h with h; subst h
   rw [hq.1]
   exact .deep (.int _ _)
  ·cases h
 ·split at h
  ·injection h with h; injection h with h _; injection h with h; subst h
   exact .deep (.str _)
  ·cases h
 ·cases h
theorem Ca {P : Program} {e : TypeId} {z : Lit} (h : Fw P e = some z) : ∃ zv, (zeroValue e).run P w = .ok zv w /\ plainElem (H := Unit) P e zv = some (.lit z, []) := by
 unfold Fw at h
 cases hi : P.info? e with
 | none => rw [hi] at h; cases h
 | some i =>
  rw [hi] at h
  simp only [Option.bind_some] at h
  split at h
  ·rename_i hz
   split at h
   ·rename_i ht
    injection h with h; subst h
    exact ⟨_, by simp [zeroValue, typeInfo, hi, hz], plainElem_bool (jP ht) _⟩
   ·cases h
  ·rename_i k n hz
   split at h
   ·rename_i ht
    obtain ⟨rfl, ht⟩ := ht
    injection h with h; subst h
    exact ⟨_, by simp [zeroValue, typeInfo, hi, hz], plainElem_int (jk ht) (by cases k <;> decide)⟩
   ·cases h
  ·rename_i s hz
   split at h
   ·rename_i ht
    obtain ⟨hs, ht⟩ := ht
    injection h with h; subst h
    refine ⟨.string s, by simp [zeroValue, typeInfo, hi, hz], ?_⟩
    rw [plainElem_string (dU ht) (hs ▸ zero_le _)]
    have : s.data.toList = [] := length_eq_zero_iff.1 (by rw [Array.length_toList]; exact hs)
    rw [this]
   ·cases h
  ·cases h
theorem u4 (G : lL C w X) {t : TypeId} {m x : AV} {ok : Bool} {ob : Prop} {r : AV} (h : ry C t m x ok = some (ob, r)) (hob : ob) {vm vx : Value} (hm : Rep w X β H vm m) (hx : Rep w X β H vx x) :
  ∃ u, (Instr.lookup t vm vx ok).run C.P w = .ok u w /\ Rep w X β H u r := by
 unfold ry at h
 split at h
 ·rename_i b
  obtain rfl := wT hm
  split at h
  ·rename_i k e L hg
   split at h
   ·rename_i ht
    split at h
    ·rename_i ob' kl z hl hz
     injection h with h; injection h with e1 e2; subst e1 e2
     have hG := G b
     rw [hg] at hG
     obtain ⟨⟨D, o1, o2, o3, o4, o5⟩, _⟩ := hG
     obtain ⟨K, hk, _⟩ := Bq hl hob hx
     obtain ⟨zv, hz1, hz2⟩ := Ca (w := w) hz
     cases ok with
     | false =>
      obtain ⟨v, ps, h1, h2⟩ := o1.lookup K (tP ht) hz1 hz2 hk
      rw [o3] at h2
      exact ⟨v, h1, ld h2⟩
     | true =>
      obtain ⟨v, ps, h1, h2⟩ := o1.look_ok K (tP ht) hz1 hz2 hk
      rw [o3] at h2
      refine ⟨_, h1, .tup _ _ (λ j => if j = 0 then v else .bool (Maps.has D kl)) rfl (λ j hj => ?_) (λ j u hu => ?_)⟩
      ·rcases j with _ | _ | j
       ·rfl
       ·rfl
       ·simp at hj; omega
      ·rcases j with _ | _ | j
       ·simp at hu; subst hu; exact ld h2
       ·simp at hu; subst hu; rw [<- o4]; exact .deep (.bool _)
       ·simp at hu
    ·cases h
   ·cases h
  ·cases h
 ·cases h
theorem u9 {a : Act} {ρ : List (Nat × AV)} (T : i8 w X β H a ρ) (G : lL C w X) (hX : ∀ b, X b -> b < w.heap.size) {o : Oper} {ob : Prop} {r : AV} (h : k8 C ρ o = some (ob, r)) (hob : ob) :
  ∃ u w', (execOp a.eval o).run C.P w = .ok (.value u) w' /\ Keeps (λ _ => False) w w' /\ Rep w' X β H u r := by
 have E := λ t x => cY (C := C) T G t x
 obtain ⟨dst, op, type, pos, after, guard⟩ := o
 unfold k8 at h
 simp only at h
 split at h
 ·injection h with h; injection h with e1 e2; subst e1 e2
  exact ⟨_, w, rfl, Keeps.refl _ _, E _ _⟩
 ·injection h with h; injection h with e1 e2; subst e1 e2
  exact ⟨_, w, rfl, Keeps.refl _ _, E _ _⟩
 ·rename_i c x y
  obtain ⟨b, hb, hr⟩ := u6 h (E _ c) (E _ x) (E _ y)
  refine ⟨_, w, ?_, Keeps.refl _ _, hr⟩
  simp only [execOp, hb, asBool, Sem.run_bind, Sem.run_pure, Result.andThen_ok]
 ·rename_i op t x y ty
  split at h
  ·rename_i hn
   have hy : y = .const (.slice none 0 0) := by unfold ke at hn; split at hn <;> first | rfl | cases hn
   subst hy
   obtain ⟨u, h1, h2⟩ := uQ h (E _ x) x (.const (.slice none 0 0))
   refine ⟨u, w, ?_, Keeps.refl _ _, h2⟩
   simp only [execOp, Sem.run_bind] at h1 ⊢
   rw [show a.eval (.const (.slice none 0 0)) = .slice none 0 0 from rfl, h1]
   rfl
  ·obtain ⟨u, h1, h2⟩ := xH h hob (E _ x) (E _ y) x y
   refine ⟨u, w, ?_, Keeps.refl _ _, h2⟩
   simp only [execOp, Sem.run_bind] at h1 ⊢
   rw [h1]
   rfl
 ·rename_i op t x
  obtain ⟨u, h1, h2⟩ := A0 (C := C) h (E _ x)
  refine ⟨u, w, ?_, Keeps.refl _ _, h2⟩
  simp only [execOp, Sem.run_bind, h1, Result.andThen_ok, Sem.run_pure]
 ·rename_i src dst x
  obtain ⟨u, w', h1, h2, h3⟩ := uS hX h hob (E _ x)
  refine ⟨u, w', ?_, h2, h3⟩
  simp only [execOp, Sem.run_bind, h1, Result.andThen_ok, Sem.run_pure]
 ·rename_i t x k
  obtain ⟨u, h1, h2⟩ := sX h hob (E _ x)
  refine ⟨u, w, ?_, Keeps.refl _ _, h2⟩
  simp only [execOp, Sem.run_bind, h1, Result.andThen_ok, Sem.run_pure]
 ·rename_i t x k
  obtain ⟨u, h1, h2⟩ := mH h (E _ x)
  refine ⟨u, w, ?_, Keeps.refl _ _, h2⟩
  simp only [execOp, Sem.run_bind, h1, Result.andThen_ok, Sem.run_pure]
 ·rename_i t x ix
  obtain ⟨u, h1, h2⟩ := mI h hob (E _ x) (E _ ix)
  refine ⟨u, w, ?_, Keeps.refl _ _, h2⟩
  simp only [execOp, Sem.run_bind, h1, Result.andThen_ok, Sem.run_pure]
 ·rename_i t x ix
  obtain ⟨u, h1, h2⟩ := sZ h hob (E _ x) (E _ ix)
  refine ⟨u, w, ?_, Keeps.refl _ _, h2⟩
  simp only [execOp, Sem.run_bind, h1, Result.andThen_ok, Sem.run_pure]
 ·rename_i t x lo hi mx
  obtain ⟨u, h1, h2⟩ := te h hob (E _ x) (vlo := lo.map a.eval) (vhi := hi.map a.eval) (vmx := mx.map a.eval) pX (pY T G) pX (pY T G) pX (pY T G)
  refine ⟨u, w, ?_, Keeps.refl _ _, h2⟩
  simp only [execOp, Sem.run_bind, h1, Result.andThen_ok, Sem.run_pure]
 ·rename_i x k
  split at h
  ·rename_i vs hvs
   split at h
   ·rename_i v hv
    injection h with h; injection h with e1 e2; subst e1 e2
    have hx := E 0 x
    rw [hvs] at hx
    obtain ⟨cs, val, h1, hl, hm, hr⟩ := fT hx
    refine ⟨val k, w, ?_, Keeps.refl _ _, hr k _ hv⟩
    simp only [execOp, h1, Instr.extract, hm k (List.getElem?_eq_some_iff.1 hv).1, Sem.run_bind, Result.andThen_ok, Sem.run_pure]
   ·cases h
  ·cases h
 ·rename_i f first cap
  split at h
  case isFalse => cases h
  rename_i hf0
  split at h
  ·rename_i h0
   injection h with h; injection h with e1 e2; subst e1 e2
   have hf : first = #[] := Array.eq_empty_of_size_eq_zero h0
   subst hf
   have hbd : rc f (cap.map a.eval) = true := decide_eq_true (.inl hf0)
   refine ⟨.func (.func f) #[] (cap.map a.eval), w, ?_, Keeps.refl _ _, ?_⟩
   ·simp [execOp, Instr.makeFunc]
   ·rw [show (Value.func (.func f) #[] (cap.map a.eval)) = .func (.func (fnI f (cap.map a.eval))) (fnR f (cap.map a.eval)) (fnC f (cap.map a.eval)) by simp only [fnI, fnR, fnC, hbd, if_true]]
    refine .fn f _ _ (λ j => (cap.map a.eval).getD j undef) (by simp) (λ j hj => ?_) (λ j v hj => ?_)
    ·simp at hj
     simp [Array.getD_eq_getD_getElem?, hj]
    ·rw [getElem?_map] at hj
     simp only [Array.getElem?_toList, map_eq_some_iff] at hj
     obtain ⟨x, hx, rfl⟩ := hj
     simp only [Array.getD_eq_getD_getElem?, Array.getElem?_map, hx, map_some, getD_some]
     exact E 0 x
  ·split at h
   case isFalse => cases h
   rename_i h1 h0
   injection h with h; injection h with e1 e2; subst e1 e2
   have hf : cap = #[] := Array.eq_empty_of_size_eq_zero h0
   subst hf
   have hbd : rc (f + 1000000) (first.map a.eval) = false := decide_eq_false (by
    rintro (e | e)
    ·exact absurd e (Nat.not_lt.2 (Nat.le_add_left 1000000 f))
    ·exact h1 (by rw [Array.size_map] at e; exact e))
   refine ⟨.func (.func f) (first.map a.eval) #[], w, ?_, Keeps.refl _ _, ?_⟩
   ·simp [execOp, Instr.makeFunc]
   ·rw [show (Value.func (.func f) (first.map a.eval) #[]) = .func (.func (fnI (f + 1000000) (first.map a.eval))) (fnR (f + 1000000) (first.map a.eval)) (fnC (f + 1000000) (first.map a.eval)) by simp only [fnI, fnR, fnC, hbd, Bool.false_eq_true, if_false, Nat.add_sub_cancel]]
    refine .fn (f + 1000000) _ _ (λ j => (first.map a.eval).getD j undef) (by simp) (λ j hj => ?_) (λ j v hj => ?_)
    ·simp at hj
     simp [Array.getD_eq_getD_getElem?, hj]
    ·rw [getElem?_map] at hj
     simp only [Array.getElem?_toList, map_eq_some_iff] at hj
     obtain ⟨x, hx, rfl⟩ := hj
     simp only [Array.getD_eq_getD_getElem?, Array.getElem?_map, hx, map_some, getD_some]
     exact E 0 x
 ·rename_i x
  have hx := E 0 x
  split at h
  ·rename_i hv
   injection h with h; injection h with e1 e2; subst e1 e2
   rw [hv] at hx
   have hx' := hx
   obtain ⟨ad, b, h1, _⟩ := dS hx'
   refine ⟨_, w, ?_, Keeps.refl _ _, hx⟩
   simp only [execOp, h1, Sem.run_pure]
  ·rename_i cs hv
   injection h with h; injection h with e1 e2; subst e1 e2
   rw [hv] at hx
   obtain ⟨b, o, h1⟩ := kK (iS hx)
   refine ⟨_, w, ?_, Keeps.refl _ _, hx⟩
   simp only [execOp, h1, Sem.run_pure]
  ·rename_i f cap hv
   injection h with h; injection h with e1 e2; subst e1 e2
   rw [hv] at hx
   have hx' := hx
   obtain ⟨cs, val, h1, _⟩ := lE hx'
   refine ⟨_, w, ?_, Keeps.refl _ _, hx⟩
   simp only [execOp, h1, Sem.run_pure]
  ·cases h
 ·rename_i t parts
  obtain ⟨u, h1, h2⟩ := sO T G h
  refine ⟨u, w, ?_, Keeps.refl _ _, h2⟩
  simp only [execOp, Sem.run_bind, h1, Result.andThen_ok, Sem.run_pure]
 ·rename_i c
  obtain ⟨callee, args, argTypes⟩ := c
  simp only at h
  split at h
  ·split at h
   ·rename_i x t hx ht
    obtain rfl : args = #[x] := by rw [<- Array.toList_inj, hx]
    obtain rfl : argTypes = #[t] := by rw [<- Array.toList_inj, ht]
    obtain ⟨u, h1, h2⟩ := xK G h (E t x) type
    refine ⟨u, w, ?_, Keeps.refl _ _, h2⟩
    simp only [execOp, resolve, invoke, builtin, Sem.run_bind, Sem.run_pure, Result.andThen_ok, List.map_toArray, map_cons, map_nil, h1]
   ·cases h
  ·split at h
   ·rename_i v hv
    injection h with h; injection h with e1 e2; subst e1 e2
    obtain ⟨u, h1, h2⟩ := xM (C := C) hv (vs := args.toList.map a.eval) (by simp [cx]) (λ j u v hu hv => by
     obtain ⟨x, hx, hr⟩ := d6 T G _ _ j u hu
     rw [getElem?_map, hx] at hv
     injection hv with hv; subst hv
     exact hr) argTypes type
    refine ⟨u, w, ?_, Keeps.refl _ _, h2⟩
    have e : args.map a.eval = (args.toList.map a.eval).toArray := by rw [<- Array.toList_inj]; simp
    simp only [execOp, resolve, invoke, builtin, Sem.run_bind, Sem.run_pure, Result.andThen_ok, e, h1]
   ·cases h
  ·split at h
   ·rename_i v hv
    injection h with h; injection h with e1 e2; subst e1 e2
    obtain ⟨u, h1, h2⟩ := xN (C := C) hv (vs := args.toList.map a.eval) (by simp [cx]) (λ j u v hu hv => by
     obtain ⟨x, hx, hr⟩ := d6 T G _ _ j u hu
     rw [getElem?_map, hx] at hv
     injection hv with hv; subst hv
     exact hr) argTypes type
    refine ⟨u, w, ?_, Keeps.refl _ _, h2⟩
    have e : args.map a.eval = (args.toList.map a.eval).toArray := by rw [<- Array.toList_inj]; simp
    simp only [execOp, resolve, invoke, builtin, Sem.run_bind, Sem.run_pure, Result.andThen_ok, e, h1]
   ·cases h
  ·cases h
 ·cases h
end
def XL (X : Nat -> Prop) (β : List BI) (H : List Blk) (L : Nat -> Prop) (b : Nat) : Prop := X b ∨ ∃ (l c : Nat) (blk : Blk), β[l]? = some (BI.lies b c) /\ H[l]? = some blk /\ (blk.mu = true /\ ¬ L l)
section
variable {C : Ctx} {w : World} {X : Nat -> Prop} {β : List BI} {H : List Blk}
theorem np {L : Nat -> Prop} {b : Nat} (h : XL X β H L b) : Mu X β H b := by
 rcases h with h | ⟨l, c, blk, h1, h2, h3⟩
 ·exact .inl h
 ·exact .inr ⟨l, c, blk, h1, h2, h3.1⟩
theorem sL (R : HRel w X β H) {L : Nat -> Prop} {l b c : Nat} {k : Blk} (hb : β[l]? = some (BI.lies b c)) (hk : H[l]? = some k) (hl : L l) : ¬ XL X β H L b := by
 rintro (h | ⟨l', c', blk, h1, h2, h4⟩)
 ·exact (R.lt l b c hb).2 h
 ·obtain rfl := R.inj l' l b c' c h1 hb
  rw [hk] at h2
  injection h2 with h2
  subst h2
  exact h4.2 hl
theorem cL {v : Value} {av : AV} (hd : av.isDeep = true) (h : Rep w X β H v av) : RepD w X v av := by
 cases h with
 | deep h => exact h
 | own => cases hd
 | osl => cases hd
 | ptr => cases hd
 | mapo => cases hd
 | agg => cases hd
 | tup => cases hd
 | fn => cases hd
theorem HRel.mu_lt (R : HRel w X β H) (b : Nat) (h : Mu X β H b) : b < w.heap.size := by
 rcases h with h | ⟨l, c, blk, h1, _, _⟩
 ·exact R.base b h
 ·exact (R.lt l b c h1).1
theorem iJ {bk cap : Nat} {b : Blk} (h : BlkRep w (Mu X β H) β H (.lies bk cap) b) (hz : 0 < b.sz) {i : Nat} (hi : i < b.rows.length) (f : Nat) {av : AV} {j : Nat} (hj : (b.rows[i].drop f)[j]? = some av) :
  ∃ v, w.cell? ⟨bk, i * b.sz + f + j, none⟩ = some v /\ v.oneCell' = true /\ Rep w (Mu X β H) β H v av /\ (b.deep = true -> RepD w (Mu X β H) v av) := by
 obtain ⟨cur, h1, h2, h3, h4, h5, h6, h7⟩ := h.cells hz
 rw [getElem?_drop] at hj
 obtain ⟨v, k1, k2, k3, k4⟩ := h7 i (f + j) _ av (getElem?_eq_getElem hi) hj
 refine ⟨v, ?_, k2, k3, k4⟩
 rw [cell_of_row w bk _ cur b.e (0, 0) h1, add_assoc]
 exact k1
theorem cw (R : HRel w X β H) (L : Nat -> Prop) : ∀ (d : Nat) {v : Value} {av : AV}, Rep w (Mu X β H) β H v av -> (∀ l ∈ bo H d av, L l) -> RepD w (XL X β H L) v (aX H d av)
 | 0, v, av, h, _ => by
  unfold aX
  split
  ·rename_i hd
   exact (cL hd h).mono λ b _ hb => np hb
  ·exact .undef _
 | d + 1, v, av, h, hL => by
  have ih := λ {v : Value} {av : AV} (h : Rep w (Mu X β H) β H v av) (hL : ∀ l ∈ bo H d av, L l) => cw R L d h hL
  unfold aX
  cases av with
  | own l n =>
   simp only
   obtain ⟨a, cap, b, rfl, hb, hn, h0, hx⟩ := fj h
   have hl : L l := hL l (by simp [bo])
   rw [hb]
   simp only
   split
   ·rename_i hlen
    have hx := hx hlen
    cases hβ : β[l]? with
    | none => rw [hβ] at hx; exact hx.elim
    | some bi =>
     rw [hβ] at hx
     have hB := R.blk l bi b hβ hb
     cases bi with
     | nil =>
      obtain ⟨rfl, rfl⟩ := hx
      have hrows : b.rows = [] := hB.1
      rw [hrows]
      simp only [map_nil, ite_self]
      exact .slice _ false [] _ _ _ (λ _ _ => undef) rfl (le_refl _) (zero_le _) (λ h => by cases h) (λ r h => by cases h) (λ h => absurd rfl h) (λ i j r v h => by simp at h)
     | lies bk c =>
      obtain ⟨rfl, rfl⟩ := hx
      have hB' := hB
      obtain ⟨cur, h1, h2, h3, h4, h5, h6, h7⟩ := hB.cells hn.1
      have hrl : (if b.deep = true then b.rows else b.rows.map λ r => r.map (aX H d)).length = n := by split <;> simp [hlen]
      refine .slice b.sz false _ _ _ _ (λ i j => cur.getD (i * b.sz + j) undef) hrl.symm (by rw [hrl]; omega) h4 (λ h => by cases h) (λ r hr => ?_) (λ _ => ⟨bk, 0, rfl, (R.lt l bk cap hβ).1, sL R hβ hb hl, λ i j hi hj => ?_⟩) (λ i j r u hi hj => ?_)
      ·split at hr
       ·exact h6 r hr
       ·obtain ⟨r', hr', rfl⟩ := mem_map.1 hr
        rw [length_map]
        exact h6 r' hr'
      ·rw [hrl] at hi
       have hi' : i < b.rows.length := by omega
       have hrow : (b.rows[i]).length = b.sz := h6 _ (getElem_mem hi')
       obtain ⟨v, k1, k2, _⟩ := h7 i j _ _ (getElem?_eq_getElem hi') (getElem?_eq_getElem (show j < b.rows[i].length by omega))
       rw [show 0 + i * b.sz + j = i * b.sz + j by omega, cell_of_row w bk _ cur b.e (0, 0) h1, k1]
       have : cur.getD (i * b.sz + j) undef = v := by simp [Array.getD_eq_getD_getElem?, k1]
       rw [this]
       exact ⟨rfl, k2⟩
      ·split at hi
       ·rename_i hd
        obtain ⟨v, k1, k2, k3, k4⟩ := h7 i j r u hi hj
        have : cur.getD (i * b.sz + j) undef = v := by simp [Array.getD_eq_getD_getElem?, k1]
        rw [this]
        exact (k4 hd).mono λ b _ hb => np hb
       ·rename_i hd
        rw [getElem?_map] at hi
        simp only [map_eq_some_iff] at hi
        obtain ⟨r', hr', rfl⟩ := hi
        rw [getElem?_map] at hj
        simp only [map_eq_some_iff] at hj
        obtain ⟨av', hav, rfl⟩ := hj
        obtain ⟨v, k1, k2, k3, k4⟩ := h7 i j r' av' hr' hav
        have : cur.getD (i * b.sz + j) undef = v := by simp [Array.getD_eq_getD_getElem?, k1]
        rw [this]
        refine ih k3 λ l' hl' => hL l' ?_
        simp only [bo, hb, hd]
        exact mem_cons_of_mem _ (mem_flatMap.2 ⟨r', mem_of_getElem? hr', mem_flatMap.2 ⟨av', mem_of_getElem? hav, hl'⟩⟩)
   ·exact .undef _
  | mapo l =>
   simp only
   obtain ⟨bk, cap, b, rfl, hb, hn, hx⟩ := mh h
   have hl : L l := hL l (by simp [bo])
   rw [hb]
   simp only
   split
   ·rename_i ents hr
    split
    ·rename_i hz
     have hβ := hx (by rw [hr]; rfl)
     obtain ⟨_, _, es, clock, ents', h1, h2, E⟩ := (R.blk l _ b hβ hb).map hz
     rw [hr] at h2
     injection h2 with h2
     subst h2
     have ent : ∀ (i : Nat) (e : MapEntry), es[i]? = some e -> ∃ k v : AV, ents[i]? = some (.tup [k, v]) /\ KeyRep (decide (b.e = 1)) e.key k /\ Rep w (Mu X β H) β H e.val v := E.ent
     have hlen := E.len
     refine .mapd bk es clock _ _ (R.lt l bk cap hβ).1 (sL R hβ hb hl) h1 E.st (by rw [length_map]; exact hlen) E.max (λ i hi => ?_) (λ i e he => ?_) λ i e he => ?_
     ·rw [length_map] at hi
      obtain ⟨k, u, q1, q2, q3⟩ := ent i es[i] (Array.getElem?_eq_getElem (by omega))
      simp only [C5, C6, getElem?_map, q1, map_some]
     ·obtain ⟨k, u, q1, q2, q3⟩ := ent i e he
      simp only [C5, getElem?_map, q1, map_some]
      exact q2
     ·obtain ⟨k, u, q1, q2, q3⟩ := ent i e he
      simp only [C6, getElem?_map, q1, map_some]
      refine ih q3 λ l' hl' => hL l' ?_
      simp only [bo, hb, hr]
      refine mem_cons_of_mem _ (mem_flatMap.2 ⟨ents, List.mem_singleton.2 rfl, mem_flatMap.2 ⟨.tup [k, u], mem_of_getElem? q1, hl'⟩⟩)
    ·exact .undef _
   ·exact .undef _
  | osl l n sz off len =>
   simp only
   obtain ⟨a, cap, b, rfl, hb, hn, hle, h0, hc, hx⟩ := dR h
   have hl : L l := hL l (by simp [bo])
   rw [hb]
   simp only
   split
   ·rename_i hlen
    have hx := hx hlen.1 hlen.2
    have hrl0 : ((b.rows.drop off).take len).length = len := by simp; omega
    have hsub : ∀ (i : Nat) (r : List AV), ((b.rows.drop off).take len)[i]? = some r -> i < len /\ b.rows[off + i]? = some r := λ i r h => by
     rw [getElem?_take] at h
     split at h
     ·rw [getElem?_drop] at h; exact ⟨by assumption, h⟩
     ·cases h
    have hrl : (if b.deep = true then (b.rows.drop off).take len else ((b.rows.drop off).take len).map λ r => r.map (aX H d)).length = len := by split <;> simp [hrl0] <;> omega
    cases hβ : β[l]? with
    | none => rw [hβ] at hx; exact hx.elim
    | some bi =>
     rw [hβ] at hx
     have hB := R.blk l bi b hβ hb
     cases bi with
     | nil =>
      obtain ⟨rfl, rfl, rfl⟩ := hx
      have hnil : (if b.deep = true then (b.rows.drop 0).take 0 else ((b.rows.drop 0).take 0).map λ r => r.map (aX H d)) = [] := length_eq_zero_iff.1 hrl
      rw [hnil]
      exact .slice _ false [] _ _ _ (λ _ _ => undef) rfl (le_refl _) (zero_le _) (λ h => by cases h) (λ r h => by cases h) (λ h => absurd rfl h) (λ i j r v h => by simp at h)
     | lies bk c =>
      obtain ⟨hoc, rfl, hadr⟩ := hx
      obtain ⟨cur, h1, h2, h3, h4, h5, h6, h7⟩ := hB.cells hn.1
      refine .slice b.sz false _ _ _ _ (λ i j => cur.getD ((off + i) * b.sz + j) undef) hrl.symm (by rw [hrl]; omega) (by omega) (λ h => by cases h) (λ r hr => ?_) (λ hne => ?_) (λ i j r u hi hj => ?_)
      ·split at hr
       ·exact h6 r (List.mem_of_mem_drop (List.mem_of_mem_take hr))
       ·obtain ⟨r', hr', rfl⟩ := mem_map.1 hr
        rw [length_map]
        exact h6 r' (List.mem_of_mem_drop (List.mem_of_mem_take hr'))
      ·rw [hrl] at hne
       refine ⟨bk, off * b.sz, by rw [hadr (by omega), hlen.2], (R.lt l bk c hβ).1, sL R hβ hb hl, λ i j hi hj => ?_⟩
       rw [hrl] at hi
       have hi' : off + i < b.rows.length := by omega
       have hrow : (b.rows[off + i]).length = b.sz := h6 _ (getElem_mem hi')
       obtain ⟨v, k1, k2, _⟩ := h7 (off + i) j _ _ (getElem?_eq_getElem hi') (getElem?_eq_getElem (show j < b.rows[off + i].length by omega))
       rw [show off * b.sz + i * b.sz + j = (off + i) * b.sz + j by rw [add_mul], cell_of_row w bk _ cur b.e (0, 0) h1, k1]
       have : cur.getD ((off + i) * b.sz + j) undef = v := by simp [Array.getD_eq_getD_getElem?, k1]
       rw [this]
       exact ⟨rfl, k2⟩
      ·split at hi
       ·rename_i hd
        obtain ⟨_, hi⟩ := hsub i r hi
        obtain ⟨v, k1, k2, k3, k4⟩ := h7 (off + i) j r u hi hj
        have : cur.getD ((off + i) * b.sz + j) undef = v := by simp [Array.getD_eq_getD_getElem?, k1]
        rw [this]
        exact (k4 hd).mono λ b _ hb => np hb
       ·rename_i hd
        rw [getElem?_map] at hi
        simp only [map_eq_some_iff] at hi
        obtain ⟨r', hr', rfl⟩ := hi
        obtain ⟨_, hr'⟩ := hsub i r' hr'
        rw [getElem?_map] at hj
        simp only [map_eq_some_iff] at hj
        obtain ⟨av', hav, rfl⟩ := hj
        obtain ⟨v, k1, k2, k3, k4⟩ := h7 (off + i) j r' av' hr' hav
        have : cur.getD ((off + i) * b.sz + j) undef = v := by simp [Array.getD_eq_getD_getElem?, k1]
        rw [this]
        refine ih k3 λ l' hl' => hL l' ?_
        simp only [bo, hb, hd]
        exact mem_cons_of_mem _ (mem_flatMap.2 ⟨r', mem_of_getElem? hr', mem_flatMap.2 ⟨av', mem_of_getElem? hav, hl'⟩⟩)
   ·exact .undef _
  | ptr l n sz i f =>
   simp only
   obtain ⟨ad, b, rfl, hb, hn, hx⟩ := dS h
   have hl : L l := hL l (by simp [bo])
   rw [hb]
   simp only
   split
   ·rename_i hc
    obtain ⟨bk, cap, hβ, rfl⟩ := hx hc.1 hc.2.1 hc.2.2
    have hB := R.blk l _ b hβ hb
    have hi' : i < b.rows.length := by omega
    rw [gQ hi', <- hc.2.1]
    refine .iptr bk _ _ (λ j => (w.cell? ⟨bk, i * b.sz + f + j, none⟩).getD undef) (R.lt l bk cap hβ).1 (sL R hβ hb hl) (λ j hj => ?_) (λ j u hj => ?_)
    ·have hj' : j < (b.rows[i].drop f).length := by split at hj <;> simpa using hj
     obtain ⟨v, k1, k2, _⟩ := iJ hB hn.1 hi' f (getElem?_eq_getElem hj')
     rw [k1]
     exact ⟨rfl, k2⟩
    ·split at hj
     ·rename_i hd
      obtain ⟨v, k1, k2, k3, k4⟩ := iJ hB hn.1 hi' f hj
      rw [k1]
      exact (k4 hd).mono λ b _ hb => np hb
     ·rename_i hd
      rw [getElem?_map] at hj
      simp only [map_eq_some_iff] at hj
      obtain ⟨av', hav, rfl⟩ := hj
      obtain ⟨v, k1, k2, k3, k4⟩ := iJ hB hn.1 hi' f hav
      rw [k1]
      refine ih k3 λ l' hl' => hL l' ?_
      simp only [bo, hb, hd]
      rw [getElem?_drop] at hav
      exact mem_cons_of_mem _ (mem_flatMap.2 ⟨_, getElem_mem hi', mem_flatMap.2 ⟨av', mem_of_getElem? hav, hl'⟩⟩)
   ·exact .undef _
  | agg cells =>
   simp only
   obtain ⟨cs, val, rfl, hl, hm, hv⟩ := eB h
   refine .agg cs _ val (by simp [hl]) (λ j hj => hm j (by simpa using hj)) (λ j u hj => ?_)
   rw [getElem?_map] at hj
   simp only [map_eq_some_iff] at hj
   obtain ⟨av', hav, rfl⟩ := hj
   exact ih (hv j av' hav) λ l hl => hL l (by simp only [bo]; exact mem_flatMap.2 ⟨av', mem_of_getElem? hav, hl⟩)
  | tup cells =>
   simp only
   obtain ⟨cs, val, rfl, hl, hm, hv⟩ := fT h
   refine .tup cs _ val (by simp [hl]) (λ j hj => hm j (by simpa using hj)) (λ j u hj => ?_)
   rw [getElem?_map] at hj
   simp only [map_eq_some_iff] at hj
   obtain ⟨av', hav, rfl⟩ := hj
   exact ih (hv j av' hav) λ l hl => hL l (by simp only [bo]; exact mem_flatMap.2 ⟨av', mem_of_getElem? hav, hl⟩)
  | fn f cells =>
   simp only
   obtain ⟨cs, val, rfl, hl, hm, hv⟩ := lE h
   refine .fn f cs _ val (by simp [hl]) (λ j hj => hm j (by simpa using hj)) (λ j u hj => ?_)
   rw [getElem?_map] at hj
   simp only [map_eq_some_iff] at hj
   obtain ⟨av', hav, rfl⟩ := hj
   exact ih (hv j av' hav) λ l hl => hL l (by simp only [bo]; exact mem_flatMap.2 ⟨av', mem_of_getElem? hav, hl⟩)
  | _ => exact (cL rfl h).mono λ b _ hb => np hb
def QY (w : World) (X : Nat -> Prop) (β : List BI) (H : List Blk) (b off : Nat) (cells : List AV) : Prop :=
 ∀ (j : Nat) (av : AV), cells[j]? = some av -> ∃ v, w.cell? ⟨b, off + j, none⟩ = some v /\ v.oneCell' = true /\ Rep w X β H v av
theorem pJ {t : TypeId} {cells : List AV} {ob : Prop} {r : AV} (h : j7 C t cells = some (ob, r)) (hob : ob) {b off : Nat} (hm : QY w X β H b off cells) :
  ∃ u, (loadVar t ⟨b, off, none⟩).run C.P w = .ok u w /\ Rep w X β H u r := by
 unfold j7 at h
 split at h
 ·rename_i ht
  split at h
  ·cases h
  ·rename_i hz
   injection h with h; injection h with h1 h2; subst h1 h2
   have key : ∀ j (hj : j < cells.length), ∃ v, w.cell? ⟨b, off + j, none⟩ = some v /\ v.oneCell' = true /\ Rep w X β H v cells[j] := λ j hj => hm j _ (getElem?_eq_getElem hj)
   let f : Nat -> Value := λ j => (w.cell? ⟨b, off + j, none⟩).getD undef
   have hr := run_loadCells (P := C.P) w ⟨b, off, none⟩ (szT C.P t) f (λ j hj => by
    obtain ⟨v, h1, _⟩ := key j (by omega)
    rw [gd, show f j = v by simp [f, h1], h1])
   refine ⟨_, ?_, .agg ((List.range (szT C.P t)).map f).toArray _ f ?_ (λ j hj => ?_) (λ j u hu => ?_)⟩
   ·simp [loadVar, kN ht, bC (pos_of_ne_zero hz), hr]
   ·simp; omega
   ·simp only [length_take] at hj
    obtain ⟨v, h1, h2, _⟩ := key j (by omega)
    have hj' : j < szT C.P t := by omega
    refine ⟨by simp [hj'], ?_⟩
    rw [show f j = v by simp [f, h1]]
    exact h2
   ·rw [getElem?_take] at hu
    split at hu
    ·obtain ⟨v, h1, _, h3⟩ := hm j u hu
     rw [show f j = v by simp [f, h1]]
     exact h3
    ·cases hu
 ·rename_i ht
  injection h with h; injection h with h1 h2; subst h1 h2
  obtain ⟨v, h1, _, h3⟩ := hm 0 _ (getElem?_eq_getElem hob)
  refine ⟨v, ?_, ?_⟩
  ·rw [add_zero] at h1
   simp [loadVar, kN ht, run_load, h1]
  ·rw [List.getD_eq_getElem?_getD, getElem?_eq_getElem hob]
   exact h3
 ·cases h
theorem nt (R : HRel w X β H) {t : TypeId} {p : AV} {ob : Prop} {r : AV} (h : nr C H t p = some (ob, r)) (hob : ob) {vp : Value} (hp : Rep w (Mu X β H) β H vp p) :
  ∃ u, (Instr.loadAt t vp).run C.P w = .ok u w /\ Rep w (Mu X β H) β H u r := by
 unfold nr at h
 split at h
 ·rename_i cs
  have hd := iS hp
  obtain ⟨b, o, rfl⟩ := kK hd
  cases hd with
  | iptr _ _ _ val hb hX hm hv =>
   obtain ⟨u, h1, h2⟩ := pJ (w := w) (X := Mu X β H) (β := β) (H := H) h hob (b := b) (off := o) (λ j av hj => ⟨val j, (hm j (List.getElem?_eq_some_iff.1 hj).1).1, (hm j (List.getElem?_eq_some_iff.1 hj).1).2, .deep (hv j av hj)⟩)
   exact ⟨u, by simp [Instr.loadAt, Instr.sureAddr, h1], h2⟩
 ·rename_i l n sz i f
  split at h
  ·rename_i b hb
   split at h
   ·rename_i ob' v hh
    injection h with h; injection h with e1 e2; subst e1 e2
    obtain ⟨⟨o1, o2, o3⟩, o4⟩ := hob
    obtain ⟨ad, b', rfl, hb', hn, hx⟩ := dS hp
    rw [hb] at hb'
    injection hb' with hb'
    subst hb'
    obtain ⟨bk, cap, hβ, rfl⟩ := hx o1 o2 o3
    have hi : i < b.rows.length := by omega
    rw [gQ hi] at hh
    obtain ⟨u, h1, h2⟩ := pJ hh o4 (b := bk) (off := i * sz + f) (λ j av hj => by
     obtain ⟨v, k1, k2, k3, _⟩ := iJ (R.blk l _ b hβ hb) hn.1 hi f hj
     rw [<- o2]
     exact ⟨v, k1, k2, k3⟩)
    exact ⟨u, by simp [Instr.loadAt, Instr.sureAddr, h1], h2⟩
   ·cases h
  ·cases h
 ·cases h
end
theorem GW {w : World} {X : Nat -> Prop} {β : List BI} {v : Value} {av : AV} (h : Rep w X β [] v av) : RepD w X v av := by
 induction h with
 | deep h => exact h
 | own l n a cap b hb => simp at hb
 | osl l n sz off len a cap b hb => simp at hb
 | ptr l n sz i f a b hb => simp at hb
 | mapo l bk cap b hb => simp at hb
 | agg cs cells val hl hm hv ih => exact .agg cs cells val hl hm ih
 | tup cs cells val hl hm hv ih => exact .tup cs cells val hl hm ih
 | fn f cs cells val hl hm hv ih => exact .fn f cs cells val hl hm ih
theorem iR {w : World} {X : Nat -> Prop} {v : Value} {av : AV} (h : RepD w X v av) : RepD w X v (gi av) := by
 unfold gi
 split
 ·cases h with
  | slice _ _ _ a n cap val hn h1 h2 h3 hr hm hv => exact .slice _ false _ a n cap val hn h1 h2 (λ h => by cases h) hr hm hv
 ·exact h
section
variable {C : Ctx} {w : World} {X Y : Nat -> Prop} {β : List BI} {H : List Blk}
theorem kZ {e : TypeId} : ∀ {i : Nat} {parts : List (Nat × AV)} {rows : List (List AV)}, ja C e i parts = some rows -> rows.length = parts.length
 | _, [], rows, h => by simp only [ja, Option.some.injEq] at h; subst h; rfl
 | i, (k, v) :: r, rows, h => by
  unfold ja at h
  split at h
  ·split at h
   ·rename_i cs rest h1 h2
    injection h with h; subst h
    simp [kZ h2]
   ·cases h
  ·cases h
theorem pF {e : TypeId} (sz : Nat) (hsz : sz = szT C.P e) : ∀ (parts : List (Nat × AV)) (vparts : List (Nat × Value)) (i : Nat) (rows : List (List AV)) (cs : Array Value), ja C e i parts = some rows ->
  vparts.length = parts.length -> (∀ (j k : Nat) (u : AV), parts[j]? = some (k, u) -> ∃ v, vparts[j]? = some (k, v) /\ RepD w Y v u) -> cs.size = (i + parts.length) * sz ->
  ∃ cs', Instr.fill (λ k => some (k * sz, sz)) cs vparts = some cs' /\ cs'.size = cs.size /\ (∀ k, k < i * sz -> cs'[k]? = cs[k]?) /\ (∀ r ∈ rows, r.length = sz) /\
   ∀ (m j : Nat) (r : List AV) (av : AV), rows[m]? = some r -> r[j]? = some av -> ∃ v, cs'[(i + m) * sz + j]? = some v /\ v.oneCell' = true /\ RepD w Y v av
 | [], vparts, i, rows, cs, h, hl, hv, hs => by
  simp only [ja, Option.some.injEq] at h
  subst h
  obtain rfl := length_eq_zero_iff.1 hl
  exact ⟨cs, rfl, rfl, λ _ _ => rfl, λ r hr => (by cases hr), λ m j r av hm => (by simp at hm)⟩
 | (k, u) :: parts, vparts, i, rows, cs, h, hl, hv, hs => by
  obtain ⟨v, h1, h2⟩ := hv 0 k u rfl
  match vparts, hl, hv, h1 with
  | x :: vp, hl, hv, h1 =>
   simp at h1
   subst h1
   unfold ja at h
   split at h
   ·rename_i hki
    subst hki
    split at h
    ·rename_i cu rest hcu hrest
     injection h with h
     subst h
     obtain ⟨k1, k2⟩ := fQ (w := w) (X := Y) (β := []) (H := []) hcu (.deep h2)
     have hvs : v.cells.size = sz := by rw [k1.1, k2, hsz]
     have hcl : cu.length = sz := by rw [k2, hsz]
     simp only [List.length_cons] at hs
     have hmul : (k + (parts.length + 1)) * sz = k * sz + sz + parts.length * sz := by rw [add_mul, add_mul]; omega
     have eq1 : v.cells.zipIdx.foldl (λ (cs : Array Value) (x : Value × Nat) => cs.setIfInBounds (k * sz + x.2) x.1) cs = (v.cells.toList.zipIdx 0).foldl (λ cs x => cs.setIfInBounds (k * sz + x.2) x.1) cs := by
      rw [<- Array.foldl_toList]
      simp
     obtain ⟨f1, f2⟩ := mR (k * sz) v.cells.toList 0 cs
     obtain ⟨cs', g1, g2, g3, g4, g5⟩ := pF sz hsz parts vp (k + 1) rest _ hrest (by simpa using hl) (λ j k u hj => by have := hv (j + 1) k u (by simpa using hj); simpa using this)
      (show ((v.cells.toList.zipIdx 0).foldl (λ cs x => cs.setIfInBounds (k * sz + x.2) x.1) cs).size = (k + 1 + parts.length) * sz by rw [f1, hs]; congr 1; omega)
     refine ⟨cs', ?_, by rw [g2, f1], λ m hm => ?_, λ r hr => ?_, λ m j r av hm hj => ?_⟩
     ·unfold Instr.fill
      simp only [hvs, ne_eq, not_true_eq_false, Bool.false_or, decide_false]
      rw [if_neg (by simp; omega), eq1, g1]
     ·have hlt : m < (k + 1) * sz := by rw [add_mul]; omega
      rw [g3 m hlt, f2 m, if_neg (by omega)]
     ·rcases List.mem_cons.1 hr with rfl | hr
      ·simp [hcl]
      ·exact g4 r hr
     ·match m with
      | 0 =>
       simp at hm
       subst hm
       rw [getElem?_map] at hj
       simp only [map_eq_some_iff] at hj
       obtain ⟨av', hav, rfl⟩ := hj
       have hjl := (List.getElem?_eq_some_iff.1 hav).1
       obtain ⟨v', q1, q2, q3⟩ := k1.2 j av' hav
       refine ⟨v', ?_, q2, iR (GW q3)⟩
       rw [add_zero, g3 _ (by rw [add_mul]; omega), f2, if_pos ⟨by omega, by simp; omega, by omega⟩]
       simpa using q1
      | m + 1 =>
       have := g5 m j r av (by simpa using hm) hj
       rwa [show k + 1 + m = k + (m + 1) by omega] at this
    ·cases h
   ·cases h
theorem ic {t : TypeId} {len : Nat} {parts : List (Nat × AV)} {ob : Prop} {r : AV} (h : ce C t len parts = some (ob, r)) {vparts : Array (Nat × Value)} (hl : vparts.size = parts.length)
  (hv : ∀ (j k : Nat) (u : AV), parts[j]? = some (k, u) -> ∃ v, vparts[j]? = some (k, v) /\ RepD w Y v u) (hY : ∀ b, Y b -> b < w.heap.size) :
  ∃ u w', (Instr.buildSlice t len vparts).run C.P w = .ok u w' /\ Keeps (λ _ => False) w w' /\ RepD w' Y u r := by
 unfold ce at h
 split at h
 ·rename_i e he
  split at h
  ·cases h
  ·rename_i hc
   have hc1 : ¬ szT C.P e = 0 := λ h => hc (.inl h)
   have hc2 : ¬ (zT C.P e).isNone = true := λ h => hc (.inr (.inl h))
   have hc3 : parts.length = len := Classical.byContradiction λ h => hc (.inr (.inr (.inl h)))
   have hc4 : len * szT C.P e <= 1000000 := Nat.le_of_not_lt λ h => hc (.inr (.inr (.inr h)))
   split at h
   ·rename_i rows hrows
    injection h with h; injection h with e1 e2; subst e1 e2
    obtain ⟨z, hz⟩ : ∃ z, zT C.P e = some z := by cases hz : zT C.P e <;> simp_all
    obtain ⟨i, zv, z1, z2, z3, z4, z5, z6, z7⟩ := cN hz
    have hzr : (zeroValue e).run C.P w = .ok zv w := by simp [zeroValue, typeInfo, z1, z2]
    have hrl := kZ hrows
    have hsize := bC (P := C.P) (pos_of_ne_zero hc1) w
    have mk : ∀ (cs : Array Value), cs.size = len * szT C.P e -> ∃ cs', Instr.fill (λ k => some (k * szT C.P e, szT C.P e)) cs vparts.toList = some cs' /\ cs'.size = cs.size /\ (∀ r ∈ rows, r.length = szT C.P e) /\
      ∀ (m j : Nat) (r : List AV) (av : AV), rows[m]? = some r -> r[j]? = some av -> ∃ v, cs'[m * szT C.P e + j]? = some v /\ v.oneCell' = true /\ RepD w Y v av := by
     intro cs hcs
     obtain ⟨cs', g1, g2, _, g4, g5⟩ := pF (w := w) (Y := Y) (szT C.P e) rfl parts vparts.toList 0 rows cs hrows (by simpa using hl) (λ j k u hj => by simpa using hv j k u hj) (by rw [hcs, zero_add, hc3])
     exact ⟨cs', g1, g2, g4, λ m j r av hm hj => by simpa using g5 m j r av hm hj⟩
    have fin : ∀ cs', cs'.size = len * szT C.P e -> (∀ r ∈ rows, r.length = szT C.P e) -> (∀ (m j : Nat) (r : List AV) (av : AV), rows[m]? = some r -> r[j]? = some av -> ∃ v, cs'[m * szT C.P e + j]? = some v /\ v.oneCell' = true /\ RepD w Y v av) ->
      RepD (w.alloc (.cells cs' e)) Y (.slice (some ⟨w.heap.size, 0, none⟩) len len) (.slice (szT C.P e) true rows) := by
     intro cs' hs hr hcell
     have hK := Keeps.alloc (λ _ => False) w (.cells cs' e)
     refine .slice _ true rows _ _ _ (λ m j => cs'.getD (m * szT C.P e + j) undef) (by omega) (by omega) (by unfold maxLen; have : len <= len * szT C.P e := Nat.le_mul_of_pos_right _ (pos_of_ne_zero hc1); omega) (λ _ => by omega) hr (λ _ => ⟨w.heap.size, 0, rfl, by simp, λ h => Nat.lt_irrefl _ (hY _ h), λ m j hm hj => ?_⟩) (λ m j r av hm hj => ?_)
     ·have hrow : rows[m].length = szT C.P e := hr _ (getElem_mem hm)
      obtain ⟨v, q1, q2, q3⟩ := hcell m j _ _ (getElem?_eq_getElem hm) (getElem?_eq_getElem (show j < rows[m].length by omega))
      rw [cell_of_row _ _ _ _ _ _ (heap_alloc_new w _), show 0 + m * szT C.P e + j = m * szT C.P e + j by omega, q1]
      have : cs'.getD (m * szT C.P e + j) undef = v := by simp [Array.getD_eq_getD_getElem?, q1]
      rw [this]
      exact ⟨rfl, q2⟩
     ·obtain ⟨v, q1, q2, q3⟩ := hcell m j r av hm hj
      have : cs'.getD (m * szT C.P e + j) undef = v := by simp [Array.getD_eq_getD_getElem?, q1]
      rw [this]
      exact q3.keep (λ b hb _ => hK.block b hb id) hK.size (λ b _ h => h)
    by_cases h0 : len * szT C.P e = 0
    ·have hlen : len = 0 := (Nat.mul_eq_zero.1 h0).resolve_right hc1
     obtain ⟨cs', g1, g2, g4, g5⟩ := mk #[] (by rw [h0]; rfl)
     refine ⟨.slice (some ⟨w.heap.size, 0, none⟩) len len, w.alloc (.cells cs' e), ?_, Keeps.alloc _ _ _, fin cs' (by rw [g2, h0]; rfl) g4 g5⟩
     subst hlen
     have hvl : vparts.toList.length = 0 := by rw [Array.length_toList, hl, hc3]
     obtain rfl : vparts = #[] := by rw [<- Array.toList_inj]; exact length_eq_zero_iff.1 hvl
     simp only [Instr.fill, Option.some.injEq] at g1
     subst g1
     simp [Instr.buildSlice, run_underlying (cm he), hsize, Instr.fill, newRow]
     rw [Array.eq_empty_of_size_eq_zero (xs := Array.map (λ _ => default) (Array.range 0)) (by simp)]
    ·obtain ⟨cs', g1, g2, g4, g5⟩ := mk ((Array.range (len * szT C.P e)).map λ x => zv.cells[x % zv.cells.size]!) (by simp)
     refine ⟨.slice (some ⟨w.heap.size, 0, none⟩) len len, w.alloc (.cells cs' e), ?_, Keeps.alloc _ _ _, fin cs' (by rw [g2]; simp) g4 g5⟩
     have hno : ¬ len * szT C.P e > 2 ^ 24 := by omega
     simp only [Instr.buildSlice, Sem.run_bind, run_underlying (cm he), Result.andThen_ok, hsize, hno, if_false, h0, hzr, Sem.run_pure, g1, newRow, run_newObj]
     rfl
   ·cases h
 ·cases h
theorem mz {rows : List (List AV)} (h : rows = dK (unB rows)) {i : Nat} (hi : i < rows.length) : ∃ hi' : i < (unB rows).data.size, rows[i]? = some [.int .u8 (((unB rows).data[i]'hi').toNat : Int)] := by
 have h1 : (dK (unB rows))[i]? = some (rows[i]) := by rw [<- h]; exact getElem?_eq_getElem hi
 obtain ⟨hi', h2⟩ := k9 h1
 exact ⟨hi', by rw [getElem?_eq_getElem hi, h2]⟩
theorem nR (R : HRel w X β H) {src dst : TypeId} {x : AV} {ob : Prop} {r : AV} (h : fC C H src dst x = some (ob, r)) (hob : ob) {vx : Value} (hx : Rep w (Mu X β H) β H vx x) :
  ∃ u, (convert src dst vx).run C.P w = .ok u w /\ Rep w (Mu X β H) β H u r := by
 unfold fC at h
 split at h
 ·rename_i e he
  split at h
  ·rename_i hc
   simp only [Bool.and_eq_true, beq_iff_eq] at hc
   split at h
   ·rename_i full rows hv
    injection h with h; injection h with e1 e2; subst e1 e2
    have hd := cw R (λ _ => True) 6 hx (λ _ _ => trivial)
    rw [hv] at hd
    obtain ⟨a, cap, val, rfl, h1, h2, h3, hr, hm, hvv⟩ := dC hd
    refine ⟨.string (unB rows), ?_, .deep (.str _)⟩
    have hsz : rows.length = (unB rows).data.toList.length := by
     have := congrArg List.length hob
     rw [d7] at this
     simpa using this
    by_cases h0 : rows.length = 0
    ·have hrows : rows = [] := length_eq_zero_iff.1 h0
     subst hrows
     have he0 : unB [] = ByteArray.empty := rfl
     rw [he0]
     cases a with
     | none => simp [convert, run_underlying (cm he), run_underlying (dU hc.1.1), run_underlying (lR hc.1.2), Conv.bytesToString]
     | some ad =>
      have := run_convert_bytes_back (P := C.P) w src dst e ad cap [] (cm he) (lR hc.1.2) (dU hc.1.1) (λ j hj => by simp at hj)
      exact this
    ·obtain ⟨b, off, rfl, hb, hX, hcell⟩ := hm h0
     have := run_convert_bytes_back (P := C.P) w src dst e ⟨b, off, none⟩ cap (unB rows).data.toList (cm he) (lR hc.1.2) (dU hc.1.1) (λ j hj => by
      obtain ⟨hj', h5⟩ := mz hob (i := j) (by omega)
      have h6 := hcell j 0 (by omega) (by omega)
      rw [gd, show off + j = off + j * 1 + 0 by omega, h6.1]
      have h7 := hvv j 0 _ _ h5 rfl
      congr 1
      have h8 := bW (β := []) (H := []) (Rep.deep h7)
      rw [h8]
      simp)
     rw [<- hsz] at this
     simpa using this
   ·cases h
  ·cases h
 ·cases h
end
def PureOK (P : Program) (G : Nat -> AV) (f : FuncId) (p : List AV -> Option (Prop × AV)) : Prop :=
 ∀ (w : World) (X : Nat -> Prop) (args : Array Value) (avs : List AV) (ob : Prop) (r : AV), (∀ b, X b -> b < w.heap.size) -> (∀ g, GV P w X g (G g)) -> args.size = avs.length ->
  (∀ (j : Nat) (u : AV), avs[j]? = some u -> ∃ v, args[j]? = some v /\ RepD w X v u) -> p avs = some (ob, r) -> ob ->
  Calls P f args w λ e w' => ∃ v, e = .returned v /\ Keeps (λ _ => False) w w' /\ RepD w' X v r
def bg (P : Program) (G : Nat -> AV) (f : FuncId) (g : List AV -> List Blk -> Option (Prop × AV × List Blk)) : Prop :=
 ∀ (w : World) (X : Nat -> Prop) (β : List BI) (H : List Blk) (args : Array Value) (avs : List AV) (ob : Prop) (r : AV) (H' : List Blk), HRel w X β H -> (∀ k, GV P w (Mu X β H) k (G k)) -> args.size = avs.length ->
  (∀ (j : Nat) (u : AV), avs[j]? = some u -> ∃ v, args[j]? = some v /\ Rep w (Mu X β H) β H v u) -> g avs H = some (ob, r, H') -> ob ->
  Calls P f args w λ e w' => ∃ v β', e = .returned v /\ HRel w' X β' H' /\ StepR w β H w' β' H' /\ Rep w' (Mu X β' H') β' H' v r
def uN (P : Program) (f : FuncId) (p : List AV -> Option (Prop × AV)) : Prop :=
 ∀ (w : World) (X : Nat -> Prop) (args : Array Value) (avs : List AV) (ob : Prop) (r : AV), args.size = avs.length ->
  (∀ (j : Nat) (u : AV), avs[j]? = some u -> ∃ v, args[j]? = some v /\ RepD w X v u) -> p avs = some (ob, r) -> ob ->
  ∃ v, (callFunc f args).run P w = .ok (.value v) w /\ RepD w X v r
def dv (P : Program) (G : Nat -> AV) (f : FuncId) : Entry -> Prop
 | .no => True
 | .pure p => (PureOK P G f p /\ ∃ fn, P.funcs[f]? = some fn /\ fn.name ≠ "runtime.NumGoroutine" /\ fn.body.isSome = true) ∨ uN P f p
 | .frz p => PureOK P G f p /\ ∃ fn, P.funcs[f]? = some fn /\ fn.name ≠ "runtime.NumGoroutine" /\ fn.body.isSome = true
 | .gen g => bg P G f g /\ ∃ fn, P.funcs[f]? = some fn /\ fn.name ≠ "runtime.NumGoroutine" /\ fn.body.isSome = true
def aB (C : Ctx) : Prop := ∀ f, dv C.P C.G f (C.S f)
section
variable {C : Ctx} {w w' : World} {X : Nat -> Prop} {β : List BI} {H : List Blk}
theorem fc {α : Type} {l : List α} {x : α} {i : Nat} (h : i < l.length) : (l ++ [x])[i]? = l[i]? := getElem?_append_left h
theorem bn {α : Type} (l : List α) (x : α) : (l ++ [x])[l.length]? = some x := by simp
theorem fO {α : Type} {l : List α} {x y : α} {i : Nat} (h : (l ++ [x])[i]? = some y) : (i < l.length /\ l[i]? = some y) ∨ (i = l.length /\ y = x) := by
 rcases lt_or_ge i l.length with h1 | h1
 ·rw [fc h1] at h
  exact .inl ⟨h1, h⟩
 ·have h2 := (List.getElem?_eq_some_iff.1 h).1
  simp at h2
  have h3 : i = l.length := by omega
  subst h3
  rw [bn] at h
  injection h with h
  exact .inr ⟨rfl, h.symm⟩
theorem dL (R : HRel w X β H) (hk : Keeps (λ _ => False) w w') (bi : BI) (b : Blk) (h6 : ∀ bk c, bi = .lies bk c -> w.heap.size <= bk) : StepR w β H w' (β ++ [bi]) (H ++ [b]) := by
 refine ⟨hk.weaken λ _ _ h => h.elim, ⟨λ l b0 h => ?_, λ l bk c h => ?_⟩, R.len⟩
 ·have hl := (List.getElem?_eq_some_iff.1 h).1
  refine ⟨b0, by rw [fc hl]; exact h, rfl, rfl, le_refl _, λ _ => ?_, id⟩
  rw [fc (by rw [R.len]; exact hl)]
 ·rcases fO h with ⟨_, h1⟩ | ⟨_, h1⟩
  ·exact .inr ⟨c, h1⟩
  ·exact .inl (h6 bk c h1.symm)
theorem d9 (R : HRel w X β H) (hk : Keeps (λ _ => False) w w') (bi : BI) (b : Blk) (h6 : ∀ bk c, bi = .lies bk c -> w.heap.size <= bk) (h7 : ∀ bk c, bi = .lies bk c -> bk < w'.heap.size)
  (hB : BlkRep w' (Mu X (β ++ [bi]) (H ++ [b])) (β ++ [bi]) (H ++ [b]) bi b) : HRel w' X (β ++ [bi]) (H ++ [b]) := by
 have S := dL R hk bi b h6
 have hs := hk.size
 refine ⟨by simp [R.len], λ l bi' b' h1 h2 => ?_, λ l b' c h => ?_, λ l l' b' c c' h h' => ?_, λ b hb => lt_of_lt_of_le (R.base b hb) hs⟩
 ·rcases fO h1 with ⟨k1, k2⟩ | ⟨k1, k2⟩ <;> rcases fO h2 with ⟨k3, k4⟩ | ⟨k3, k4⟩
  ·exact (R.blk l bi' b' k2 k4).keep S λ bk c e => by subst e; exact hk.block bk (R.lt l bk c k2).1 id
  ·have := R.len; omega
  ·have := R.len; omega
  ·subst k2 k4; exact hB
 ·rcases fO h with ⟨_, h1⟩ | ⟨_, h1⟩
  ·exact ⟨lt_of_lt_of_le (R.lt l b' c h1).1 hs, (R.lt l b' c h1).2⟩
  ·exact ⟨h7 b' c h1.symm, λ hx => by have := R.base b' hx; have := h6 b' c h1.symm; omega⟩
 ·rcases fO h with ⟨_, h1⟩ | ⟨e1, h1⟩ <;> rcases fO h' with ⟨_, h2⟩ | ⟨e2, h2⟩
  ·exact R.inj l l' b' c c' h1 h2
  ·have := (R.lt l b' c h1).1; have := h6 b' c' h2.symm; omega
  ·have := (R.lt l' b' c' h2).1; have := h6 b' c h1.symm; omega
  ·omega
theorem d4 (R : HRel w X β H) {l : Nat} {b : Blk} {bi : BI} (hb : H[l]? = some b) (hbi : β[l]? = some bi) (bi' : BI) (b' : Blk) (h1 : b'.sz = b.sz) (h2 : b'.e = b.e) (h3 : b.rows.length <= b'.rows.length) (h4 : b'.rows.length = b.rows.length -> bi' = bi)
  (h5 : b'.mu = true -> b.mu = true) (h6 : ∀ bk c, bi' = .lies bk c -> w.heap.size <= bk ∨ ∃ c', bi = .lies bk c') (hk : Keeps (MutB β H) w w') : StepR w β H w' (β.set l bi') (H.set l b') := by
 refine ⟨hk, ⟨λ k b0 h => ?_, λ k bk c h => ?_⟩, R.len⟩
 ·by_cases e : l = k
  ·subst e
   rw [hb] at h
   injection h with h
   subst h
   refine ⟨b', by rw [getElem?_set_self (List.getElem?_eq_some_iff.1 hb).1], h1, h2, h3, λ e => ?_, h5⟩
   rw [getElem?_set_self (List.getElem?_eq_some_iff.1 hbi).1, hbi, h4 e]
  ·refine ⟨b0, by rw [getElem?_set_ne e]; exact h, rfl, rfl, le_refl _, λ _ => ?_, id⟩
   rw [getElem?_set_ne e]
 ·by_cases e : l = k
  ·subst e
   rw [getElem?_set_self (List.getElem?_eq_some_iff.1 hbi).1] at h
   injection h with h
   rcases h6 bk c h with h | ⟨c', h⟩
   ·exact .inl h
   ·exact .inr ⟨c', by rw [hbi, h]⟩
  ·rw [getElem?_set_ne e] at h
   exact .inr ⟨c, h⟩
theorem d3 (R : HRel w X β H) {l : Nat} {b : Blk} {bi : BI} (hb : H[l]? = some b) (hbi : β[l]? = some bi) (bi' : BI) (b' : Blk) (S : StepR w β H w' (β.set l bi') (H.set l b'))
  (hoth : ∀ (l' bk c : Nat), l' ≠ l -> β[l']? = some (BI.lies bk c) -> w'.heap[bk]? = w.heap[bk]?) (hB : BlkRep w' (Mu X (β.set l bi') (H.set l b')) (β.set l bi') (H.set l b') bi' b')
  (hlt : ∀ bk c, bi' = .lies bk c -> bk < w'.heap.size /\ ¬ X bk) (hinj : ∀ (bk c l' c' : Nat), bi' = .lies bk c -> l' ≠ l -> β[l']? ≠ some (BI.lies bk c')) : HRel w' X (β.set l bi') (H.set l b') := by
 have hs := S.keeps.size
 refine ⟨by simp [R.len], λ k bi0 b0 h1 h2 => ?_, λ k b0 c h => ?_, λ k k' b0 c c' h h' => ?_, λ b hb => lt_of_lt_of_le (R.base b hb) hs⟩
 ·by_cases e : l = k
  ·subst e
   rw [getElem?_set_self (List.getElem?_eq_some_iff.1 hbi).1] at h1
   rw [getElem?_set_self (List.getElem?_eq_some_iff.1 hb).1] at h2
   injection h1 with h1; injection h2 with h2
   subst h1 h2
   exact hB
  ·rw [getElem?_set_ne e] at h1 h2
   exact (R.blk k bi0 b0 h1 h2).keep S λ bk c e' => by subst e'; exact hoth k bk c (λ h => e h.symm) h1
 ·by_cases e : l = k
  ·subst e
   rw [getElem?_set_self (List.getElem?_eq_some_iff.1 hbi).1] at h
   injection h with h
   exact hlt b0 c h
  ·rw [getElem?_set_ne e] at h
   exact ⟨lt_of_lt_of_le (R.lt k b0 c h).1 hs, (R.lt k b0 c h).2⟩
 ·by_cases e : l = k <;> by_cases e' : l = k'
  ·omega
  ·subst e
   rw [getElem?_set_self (List.getElem?_eq_some_iff.1 hbi).1] at h
   injection h with h
   rw [getElem?_set_ne e'] at h'
   exact absurd h' (hinj b0 c k' c' h (λ h => e' h.symm))
  ·subst e'
   rw [getElem?_set_self (List.getElem?_eq_some_iff.1 hbi).1] at h'
   injection h' with h'
   rw [getElem?_set_ne e] at h
   exact absurd h (hinj b0 c' k c h' (λ h => e h.symm))
  ·rw [getElem?_set_ne e] at h
   rw [getElem?_set_ne e'] at h'
   exact R.inj k k' b0 c c' h h'
theorem iM (ls : List Nat) : ∀ (H : List Blk) (i k : Nat), (df ls i H)[k]? = (H[k]?).map λ b => if ls.contains (i + k) then { b with mu := false } else b
 | [], i, k => by simp [df]
 | b :: r, i, k => by
  match k with
  | 0 => simp [df]
  | k + 1 =>
   simp only [df, List.getElem?_cons_succ, iM ls r (i + 1) k]
   rw [show i + 1 + k = i + (k + 1) by omega]
theorem lW (R : HRel w X β H) (ls : List Nat) : StepR w β H w β (df ls 0 H) := by
 refine ⟨Keeps.refl _ _, ⟨λ l b h => ?_, λ l bk c h => .inr ⟨c, h⟩⟩, R.len⟩
 refine ⟨_, by rw [iM, h]; rfl, ?_, ?_, ?_, λ _ => rfl, ?_⟩ <;> split <;> simp
theorem ii (ls : List Nat) : ∀ (H : List Blk) (i : Nat), (df ls i H).length = H.length
 | [], _ => rfl
 | b :: r, i => by simp [df, ii ls r (i + 1)]
theorem pH (R : HRel w X β H) (ls : List Nat) : HRel w X β (df ls 0 H) := by
 have S := lW R ls
 refine ⟨by rw [R.len, ii], λ l bi b h1 h2 => ?_, R.lt, R.inj, R.base⟩
 rw [iM] at h2
 simp only [map_eq_some_iff] at h2
 obtain ⟨b0, h3, h4⟩ := h2
 have hB := (R.blk l bi b0 h1 h3).keep S λ _ _ _ => rfl
 subst h4
 split
 ·cases bi with
  | nil => exact hB
  | lies bk c => exact hB
 ·exact hB
theorem xE {ls : List Nat} {b : Nat} (h : Mu X β (df ls 0 H) b) : XL X β H (λ l => l ∈ ls) b := by
 rcases h with h | ⟨l, c, blk, h1, h2, h3⟩
 ·exact .inl h
 ·rw [iM] at h2
  simp only [map_eq_some_iff] at h2
  obtain ⟨b0, h4, h5⟩ := h2
  subst h5
  split at h3
  ·cases h3
  ·rename_i hc
   exact .inr ⟨l, c, b0, h1, h4, ⟨h3, by simpa using hc⟩⟩
theorem pj (R : HRel w X β H) {t : TypeId} {cs : List AV} {ob : Prop} {r : AV} {H' : List Blk} (h : pi C H t (some cs) = some (ob, r, H')) {cur : Array Value} (hc : CRep w (Mu X β H) β H cur cs) :
  ∃ β', HRel (w.alloc (.cells cur t)) X β' H' /\ StepR w β H (w.alloc (.cells cur t)) β' H' /\ Rep (w.alloc (.cells cur t)) (Mu X β' H') β' H' (.pointer (some ⟨w.heap.size, 0, none⟩)) r := by
 unfold pi at h
 simp only at h
 split at h
 ·rename_i hs
  injection h with h; injection h with e1 e2; injection e2 with e2 e3; subst e1 e2 e3
  have hk := Keeps.alloc (λ _ => False) w (.cells cur t)
  have S := dL R hk (.lies w.heap.size 1) ⟨t, szT C.P t, [cs], true, cs.all AV.isDeep⟩ (λ bk c e => by injection e with e _; omega)
  refine ⟨β ++ [.lies w.heap.size 1], d9 R hk _ _ (λ bk c e => by injection e with e _; omega) (λ bk c e => by injection e with e _; subst e; simp) ?_, S, ?_⟩
  ·refine .inl ⟨cur, heap_alloc_new w _, by rw [hc.1, hs.1]; simp, le_refl _, by unfold maxLen; omega, by rw [hs.1]; exact hs.2, λ r hr => ?_, λ i j r av hi hj => ?_⟩
   ·simp at hr; subst hr; exact hs.1.symm
   ·match i with
    | 0 =>
     simp at hi
     subst hi
     obtain ⟨v, k1, k2, k3⟩ := hc.2 j av hj
     refine ⟨v, by simpa using k1, k2, k3.keep S, λ hd => ?_⟩
     have hd' : av.isDeep = true := all_eq_true.1 hd av (mem_of_getElem? hj)
     exact cL hd' (k3.keep S)
    | i + 1 => simp at hi
  ·refine .ptr H.length 1 _ 0 0 _ ⟨t, szT C.P t, [cs], true, cs.all AV.isDeep⟩ (by simp) ⟨by show 0 < szT C.P t; omega, le_refl _⟩ λ _ _ _ => ⟨w.heap.size, 1, ?_, by simp⟩
   rw [<- R.len]
   simp
 ·cases h
theorem rh (z : Array Value) (n k : Nat) (hk : k < n) (hz : 0 < z.size) : (madeCells z n)[k]? = z[k % z.size]? := by
 unfold madeCells
 have : k % z.size < z.size := mod_lt _ hz
 simp [hk, this]
theorem u5 (R : HRel w X β H) {t : TypeId} {l c : AV} {ob : Prop} {r : AV} {H' : List Blk} (h : pf C H t l c = some (ob, r, H')) (hob : ob) {vl vc : Value} (hl : Rep w (Mu X β H) β H vl l) (hc : Rep w (Mu X β H) β H vc c) :
  ∃ u w' β', (Instr.makeSlice t vl vc).run C.P w = .ok u w' /\ HRel w' X β' H' /\ StepR w β H w' β' H' /\ Rep w' (Mu X β' H') β' H' u r := by
 unfold pf at h
 split at h
 ·rename_i e kl l kc c he
  obtain rfl := bW hl
  obtain rfl := bW hc
  split at h
  ·rename_i z hz
   injection h with h; injection h with e1 e2; injection e2 with e2 e3; subst e1 e2 e3
   obtain ⟨o1, o2, o3, o4⟩ := hob
   obtain ⟨i, zv, z1, z2, z3, z4, z5, z6, z7⟩ := cN hz
   have hby : byT C.P e = i.bytes := by simp [byT, z1]
   rw [hby] at o3
   have hrun := run_make (P := C.P) w t e i zv (cm he) z1 z2 kl kc l c o1 o2 (by
    have : ((c.toNat * i.bytes : Nat) : Int) <= 140737488355328 := by omega
    rw [Int.natCast_mul, Int.toNat_of_nonneg (by omega)] at this
    rw [Int.mul_comm]
    omega) (by omega)
   rw [z3] at hrun
   have hk := Keeps.alloc (λ _ => False) w (.cells (madeCells zv.cells (c.toNat * z.length)) e)
   have hz0 : 0 < z.length := by omega
   have S := dL R hk (.lies w.heap.size c.toNat) ⟨e, szT C.P e, List.replicate l.toNat z, true, z.all AV.isDeep⟩ (λ bk c e => by injection e with e _; omega)
   refine ⟨_, _, β ++ [.lies w.heap.size c.toNat], hrun, d9 R hk _ _ (λ bk c e => by injection e with e _; omega) (λ bk c e => by injection e with e _; subst e; simp) ?_, S, ?_⟩
   ·refine .inl ⟨_, heap_alloc_new w _, by rw [size_madeCells, z5], by simp; omega, by unfold maxLen; omega, by rw [z5]; exact hz0, λ r hr => ?_, λ i j r av hi hj => ?_⟩
    ·rw [List.eq_of_mem_replicate hr, z5]
    ·have hi' := (List.getElem?_eq_some_iff.1 hi).1
     simp at hi'
     have hr : r = z := List.eq_of_mem_replicate (mem_of_getElem? hi)
     subst hr
     have hj' := (List.getElem?_eq_some_iff.1 hj).1
     obtain ⟨v, k1, k2, k3⟩ := z7 (w.alloc (.cells (madeCells zv.cells (c.toNat * r.length)) e)) (Mu X (β ++ [.lies w.heap.size c.toNat]) (H ++ [⟨e, szT C.P e, List.replicate l.toNat r, true, r.all AV.isDeep⟩])) j av hj
     refine ⟨v, ?_, k2, .deep k3, λ _ => k3⟩
     simp only [z5]
     have hm : (i * r.length + j) % r.length = j := by rw [add_comm, Nat.add_mul_mod_self_right, Nat.mod_eq_of_lt hj']
     rw [rh _ _ _ ?_ (by rw [z6]; exact hz0), z6, hm]
     ·exact k1
     ·have h1 : i + 1 <= c.toNat := by omega
      have h2 := mul_le_mul_right r.length h1
      rw [add_mul] at h2
      omega
   ·refine .own H.length l.toNat _ _ ⟨e, szT C.P e, List.replicate l.toNat z, true, z.all AV.isDeep⟩ (by simp) ⟨by show 0 < szT C.P e; omega, by simp⟩ (.inr ⟨_, rfl⟩) (by omega) λ _ => ?_
    rw [<- R.len]
    simp [zf]
  ·cases h
 ·cases h
end
section
variable {C : Ctx} {w w' : World} {X : Nat -> Prop} {β : List BI} {H : List Blk}
theorem l4 (cur : Array Value) (vs : List Value) (o k : Nat) (h : o + vs.length <= cur.size) : ((cur.toList.take o ++ vs ++ cur.toList.drop (o + vs.length)).toArray)[k]? = if o <= k /\ k < o + vs.length then vs[k - o]? else cur[k]? := by
 rw [List.getElem?_toArray]
 have hl : cur.toList.length = cur.size := by simp
 by_cases h1 : k < o
 ·rw [if_neg (by omega), List.append_assoc, getElem?_append_left (by simp; omega), getElem?_take, if_pos h1]
  simp
 ·by_cases h2 : k < o + vs.length
  ·rw [if_pos ⟨by omega, h2⟩, getElem?_append_left (by simp; omega), List.getElem?_append_right (by simp; omega)]
   simp only [length_take, min_eq_left (show o <= cur.toList.length by omega)]
  ·rw [if_neg (by omega), List.getElem?_append_right (by simp; omega), getElem?_drop]
   simp only [List.length_append, length_take, min_eq_left (show o <= cur.toList.length by omega)]
   rw [show o + vs.length + (k - (o + vs.length)) = k by omega]
   simp
theorem kh (cur : Array Value) (vs : List Value) (o : Nat) (h : o + vs.length <= cur.size) : ((cur.toList.take o ++ vs ++ cur.toList.drop (o + vs.length)).toArray).size = cur.size := by
 simp
 omega
theorem fe (w : World) {M : Nat -> Prop} {g : Nat} (hM : M g) (cs : Array Value) : Keeps M w (w.setRow g cs) :=
 ⟨rfl, rfl, rfl, by simp [World.setRow], λ b _ hn => setRow_other w g b cs (λ e => hn (e ▸ hM)), Drawn.of_le (le_refl _)⟩
theorem GE {i i' j sz : Nat} (hj : j < sz) (h : i ≠ i') : i' * sz + j < i * sz ∨ i * sz + sz <= i' * sz + j := by
 rcases lt_or_ge i' i with h1 | h1
 ·left
  have := mul_le_mul_right sz (show i' + 1 <= i from h1)
  rw [add_mul] at this
  omega
 ·right
  have := mul_le_mul_right sz (show i + 1 <= i' by omega)
  rw [add_mul] at this
  omega
theorem th (R : HRel w X β H) {t : TypeId} {p x : AV} {ob : Prop} {r : AV} {H' : List Blk} (h : lu C H t p x = some (ob, r, H')) (hob : ob) {vp vx : Value} (hp : Rep w (Mu X β H) β H vp p) (hx : Rep w (Mu X β H) β H vx x) :
  ∃ w' β', (Instr.storeAt t vp vx).run C.P w = .ok () w' /\ HRel w' X β' H' /\ StepR w β H w' β' H' /\ r = .tup [] := by
 unfold lu at h
 split at h
 ·rename_i l n sz i f
  split at h
  ·rename_i b hb
   split at h
   ·rename_i hmu
    obtain ⟨hmu, hz⟩ := hmu
    split at h
    ·rename_i cs hcs
     injection h with h; injection h with e1 e2; injection e2 with e2 e3; subst e1 e2 e3
     obtain ⟨o1, o2, o3, o4⟩ := hob
     subst o2
     obtain ⟨ad, b', rfl, hb', hn, hq⟩ := dS hp
     rw [hb] at hb'; injection hb' with hb'; subst hb'
     obtain ⟨bk, cap, hβ, rfl⟩ := hq o1 rfl o3
     have hB := R.blk l _ b hβ hb
     obtain ⟨cur, h1, h2, h3, h4, h5, h6, h7⟩ := hB.cells hn.1
     obtain ⟨c1, c2⟩ := fQ hcs hx
     have hi : i < b.rows.length := by omega
     have hvl : vx.cells.toList.length = cs.length := by simpa using c1.1
     have hrow : b.rows[i].length = b.sz := h6 _ (getElem_mem hi)
     have hfit : i * b.sz + f + 0 + vx.cells.toList.length <= cur.size := by
      rw [h2, hvl]
      have := mul_le_mul_right b.sz (show i + 1 <= cap by omega)
      rw [add_mul] at this
      omega
     have hone : ∀ v ∈ vx.cells.toList, v.oneCell' = true := by
      intro v hv
      obtain ⟨j, hj, rfl⟩ := List.getElem_of_mem hv
      obtain ⟨v', q1, q2, _⟩ := c1.2 j _ (getElem?_eq_getElem (by omega))
      have : vx.cells[j]? = some (vx.cells.toList[j]) := by simp at hj ⊢
      rw [this] at q1
      injection q1 with q1
      rw [q1]; exact q2
     have hst := run_storeCells_at C.P bk (i * b.sz + f) b.e vx.cells.toList 0 cur w h1 hfit hone
     simp only [add_zero] at hst hfit
     obtain ⟨cur', hcur', hget, hsize⟩ : ∃ cur', cur' = (cur.toList.take (i * b.sz + f) ++ vx.cells.toList ++ cur.toList.drop (i * b.sz + f + vx.cells.toList.length)).toArray /\
       (∀ k : Nat, cur'[k]? = if i * b.sz + f <= k /\ k < i * b.sz + f + cs.length then vx.cells.toList[k - (i * b.sz + f)]? else cur[k]?) /\ cur'.size = cur.size :=
      ⟨_, rfl, λ k => by rw [l4 _ _ _ _ hfit, hvl], kh _ _ _ hfit⟩
     rw [<- hcur'] at hst
     clear hcur'
     have hM : MutB β H bk := ⟨l, cap, b, hβ, hb, hmu⟩
     have S := d4 (w := w) R hb hβ (.lies bk cap) { b with rows := b.rows.set i (splice (dq b.rows i) f cs), deep := b.deep && cs.all AV.isDeep } rfl rfl (by simp) (λ _ => rfl) (λ h => h)
      (λ bk' c e => .inr ⟨c, e⟩) (fe w hM cur')
     refine ⟨_, β.set l (.lies bk cap), ?_, d3 R hb hβ _ _ S (λ l' bk' c hl hb' => setRow_other w bk bk' _ (λ e => hl (R.inj l' l bk' c cap hb' (e ▸ hβ)))) ?_ (λ bk' c e => ?_) (λ bk' c l' c' e hl hb' => ?_), S, rfl⟩
     ·have hsz : vx.cells.size = szT C.P t := by rw [c1.1, c2]
      simp [Instr.storeAt, Instr.sureAddr, storeVar, bC (pos_of_ne_zero hz), hsz, hst]
     ·refine .inl ⟨_, setRow_heap w bk cur _ b.e (0, 0) h1, by rw [hsize, h2], by simp; omega, h4, h5, λ r hr => ?_, λ i' j r av hr hj => ?_⟩
      ·rcases List.mem_or_eq_of_mem_set hr with hr | rfl
       ·exact h6 r hr
       ·rw [gQ hi, iH _ _ _ (by omega), hrow]
      ·simp only [hget]
       by_cases e : i = i'
       ·subst e
        rw [getElem?_set_self hi] at hr
        injection hr with hr
        subst hr
        rw [gQ hi, qv _ _ _ _ (by omega)] at hj
        by_cases hc : f <= j /\ j < f + cs.length
        ·rw [if_pos hc] at hj
         rw [if_pos (by omega), show i * b.sz + j - (i * b.sz + f) = j - f by omega]
         obtain ⟨v, q1, q2, q3⟩ := c1.2 _ av hj
         refine ⟨v, by simpa using q1, q2, q3.keep S, λ hd => ?_⟩
         simp only [Bool.and_eq_true] at hd
         exact cL (all_eq_true.1 hd.2 av (mem_of_getElem? hj)) (q3.keep S)
        ·rw [if_neg hc] at hj
         rw [if_neg (by omega)]
         obtain ⟨v, q1, q2, q3, q4⟩ := h7 i j _ av (getElem?_eq_getElem hi) hj
         refine ⟨v, q1, q2, q3.keep S, λ hd => ?_⟩
         simp only [Bool.and_eq_true] at hd
         exact (q4 hd.1).keep (λ b hb hn => S.keeps.block b hb (λ hm => hn (.inr hm))) S.keeps.size (λ b hb => S.mu b hb)
       ·rw [getElem?_set_ne e] at hr
        have hi' := (List.getElem?_eq_some_iff.1 hr).1
        have hjl : j < b.sz := by
         have := (List.getElem?_eq_some_iff.1 hj).1
         rw [h6 r (mem_of_getElem? hr)] at this
         exact this
        have := GE (i := i) (i' := i') hjl e
        rw [if_neg (by omega)]
        obtain ⟨v, q1, q2, q3, q4⟩ := h7 i' j r av hr hj
        refine ⟨v, q1, q2, q3.keep S, λ hd => ?_⟩
        simp only [Bool.and_eq_true] at hd
        exact (q4 hd.1).keep (λ b hb hn => S.keeps.block b hb (λ hm => hn (.inr hm))) S.keeps.size (λ b hb => S.mu b hb)
     ·injection e with e1 e2
      subst e1
      exact ⟨lt_of_lt_of_le (R.lt l bk cap hβ).1 S.keeps.size, (R.lt l bk cap hβ).2⟩
     ·injection e with e1 e2
      subst e1
      exact hl (R.inj l' l bk c' cap hb' hβ)
    ·cases h
   ·cases h
  ·cases h
 ·cases h
def xC (w : World) (a : Option Addr) (n sz : Nat) (val : Nat -> Nat -> Value) : Prop :=
 n ≠ 0 -> ∃ b off, a = some ⟨b, off, none⟩ /\ ∀ i j, i < n -> j < sz -> w.cell? ⟨b, off + i * sz + j, none⟩ = some (val i j) /\ (val i j).oneCell' = true
def cI (val : Nat -> Nat -> Value) (n sz : Nat) : List Value := (List.range (n * sz)).map λ k => val (k / sz) (k % sz)
theorem aU (val : Nat -> Nat -> Value) (n sz : Nat) : (cI val n sz).length = n * sz := by simp [cI]
theorem fG (val : Nat -> Nat -> Value) (n sz i j : Nat) (hi : i < n) (hj : j < sz) : (cI val n sz)[i * sz + j]? = some (val i j) := by
 have hlt : i * sz + j < n * sz := by
  have := mul_le_mul_right sz (show i + 1 <= n from hi)
  rw [add_mul] at this
  omega
 have h1 : (i * sz + j) / sz = i := by
  rw [add_comm, Nat.add_mul_div_right _ _ (by omega), Nat.div_eq_of_lt hj, zero_add]
 have h2 : (i * sz + j) % sz = j := by rw [add_comm, Nat.add_mul_mod_self_right, Nat.mod_eq_of_lt hj]
 simp [cI, hlt, h1, h2]
theorem dm {w : World} {n sz : Nat} {val : Nat -> Nat -> Value} {b off : Nat} (h : ∀ i j, i < n -> j < sz -> w.cell? ⟨b, off + i * sz + j, none⟩ = some (val i j) /\ (val i j).oneCell' = true) {j : Nat} {v : Value} (hj : (cI val n sz)[j]? = some v) :
  w.cell? ((⟨b, off, none⟩ : Addr).add j) = some v /\ v.oneCell' = true := by
 have hlt := (List.getElem?_eq_some_iff.1 hj).1
 rw [aU] at hlt
 have hsz : 0 < sz := by
  rcases Nat.eq_zero_or_pos sz with h | h
  ·rw [h] at hlt; simp at hlt
  ·exact h
 have hdiv : j / sz < n := Nat.div_lt_of_lt_mul (by rw [Nat.mul_comm]; exact hlt)
 have hmod := mod_lt j hsz
 have e : j = j / sz * sz + j % sz := by rw [Nat.mul_comm]; exact (Nat.div_add_mod j sz).symm
 have h1 := fG val n sz (j / sz) (j % sz) hdiv hmod
 rw [<- e, hj] at h1
 injection h1 with h1
 subst h1
 have h2 := h (j / sz) (j % sz) hdiv hmod
 rw [gd]
 rw [show off + j / sz * sz + j % sz = off + j by omega] at h2
 exact h2
theorem jK {P : Program} {t ty e : TypeId} (he : elT P t = some e) {z : List AV} (hz : zT P e = some z) {n cap m c : Nat} {a xa : Option Addr} (val xval : Nat -> Nat -> Value) (ha : xC w a n (szT P e) val) (hx : xC w xa m (szT P e) xval)
  (hm : m ≠ 0) (hcap : cap < n + m) (hb : (n + m) * byT P e <= 140737488355328) (hlen : n + m < 1000000000000) (hnone : a = none -> n = 0 /\ cap = 0) :
  ∃ cap' cur, (Builtin.append_ #[t, t] ty #[.slice a n cap, .slice xa m c]).run P w = .ok (.slice (some ⟨w.heap.size, 0, none⟩) (n + m) cap') (w.drew.alloc (.cells cur e)) /\ cur.size = cap' * szT P e /\ n + m <= cap' /\ cap' <= maxLen /\
   ∀ i j, i < n + m -> j < szT P e -> cur[i * szT P e + j]? = some (if i < n then val i j else xval (i - n) j) := by
 obtain ⟨i, zv, z1, z2, z3, z4, z5, z6, z7⟩ := cN hz
 have hby : byT P e = i.bytes := by simp [byT, z1]
 rw [hby] at hb
 have hsz : i.size = szT P e := by rw [z3, z5]
 obtain ⟨xb, xoff, rfl, hxc⟩ := hx hm
 have hml : n + m <= maxLen := by unfold maxLen; omega
 have get : ∀ (cs : Array Value) (cap' : Nat) (rest : Array Value), cs = (cI val n (szT P e)).toArray ++ (cI xval m (szT P e)).toArray ++ rest -> ∀ i j, i < n + m -> j < szT P e -> cs[i * szT P e + j]? = some (if i < n then val i j else xval (i - n) j) := by
  intro cs cap' rest hcs i j hi hj
  subst hcs
  have hlt : i * szT P e + j < (n + m) * szT P e := by
   have := mul_le_mul_right (szT P e) (show i + 1 <= n + m from hi)
   rw [add_mul] at this
   omega
  rw [Array.getElem?_append_left (by simp [aU, <- add_mul]; exact hlt)]
  by_cases hin : i < n
  ·have hlt2 : i * szT P e + j < n * szT P e := by
    have := mul_le_mul_right (szT P e) (show i + 1 <= n from hin)
    rw [add_mul] at this
    omega
   rw [Array.getElem?_append_left (by simp [aU]; exact hlt2), List.getElem?_toArray, fG _ _ _ _ _ hin hj, if_pos hin]
  ·have hge : n * szT P e <= i * szT P e := mul_le_mul_right _ (by omega)
   rw [Array.getElem?_append_right (by simp [aU]; omega), List.getElem?_toArray, if_neg hin]
   simp only [List.size_toArray, aU]
   rw [show i * szT P e + j - n * szT P e = (i - n) * szT P e + j by rw [Nat.sub_mul]; omega]
   exact fG _ _ _ _ _ (by omega) hj
 have hge := grownCap_ge w (n + m) cap e
 have hle := grownCap_le_maxLen w (n + m) cap e hml
 cases a with
 | none =>
  obtain ⟨rfl, rfl⟩ := hnone rfl
  have hr := run_append_nil (P := P) w t ty e i zv (cm he) z1 z2 ⟨xb, xoff, none⟩ m c (cI xval m (szT P e)) (by rw [aU, hsz]) (λ j v hj => (dm hxc hj).1) (by omega) (by omega) (by rw [zero_add] at hb; omega)
  simp only [zero_add] at hge hle ⊢
  refine ⟨_, _, hr, ?_, hge, hle, ?_⟩
  ·simp [size_zeroCells, aU, z6, <- z5, <- add_mul]
   congr 1
   omega
  ·intro i j hi hj
   have h0 : cI val 0 (szT P e) = [] := by simp [cI]
   have := get ((cI val 0 (szT P e)).toArray ++ (cI xval m (szT P e)).toArray ++ Builtin.zeroCells zv.cells (grownCap w m 0 e - m)) 0 _ rfl i j (by omega) hj
   rw [h0] at this
   simpa using this
 | some ad =>
  have holds : ∀ (j : Nat) (v : Value), (cI val n (szT P e))[j]? = some v -> w.cell? (ad.add j) = some v := by
   intro j v hj
   by_cases hn : n = 0
   ·subst hn; simp [cI] at hj
   ·obtain ⟨b, off, e1, hc⟩ := ha hn
    injection e1 with e1
    subst e1
    exact (dm hc hj).1
  have hr := run_append_grow (P := P) w t ty e i zv (cm he) z1 z2 ad n cap (cI val n (szT P e)) (by rw [aU, hsz]) holds ⟨xb, xoff, none⟩ m c (cI xval m (szT P e)) (by rw [aU, hsz]) (λ j v hj => (dm hxc hj).1) hcap (by omega) (growslice_fits hcap hb)
  refine ⟨_, _, hr, ?_, hge, hle, λ i j hi hj => get _ 0 _ rfl i j hi hj⟩
  simp [size_zeroCells, aU, z6, <- z5, <- add_mul]
  congr 1
  omega
theorem jL {P : Program} {t ty e : TypeId} (he : elT P t = some e) (hz : 0 < szT P e) {n cap c : Nat} {a xa : Option Addr} (hn : n <= cap) : (Builtin.append_ #[t, t] ty #[.slice a n cap, .slice xa 0 c]).run P w = .ok (.slice a n cap) w := by
 have h1 : (Builtin.firstCells (szT P e) 0 (.slice xa 0 c)).run P w = .ok #[] w := by
  cases xa with
  | none => simp [Builtin.firstCells]
  | some x => simp [Builtin.firstCells, loadCells, loadCellsFrom]
 cases a with
 | none => simp [Builtin.append_, run_underlying (cm he), bC hz, Builtin.lenOf, hn, h1]
 | some ad => simp [Builtin.append_, run_underlying (cm he), bC hz, Builtin.lenOf, hn, h1, storeCells]
end
end
end Go.Proofs.YtnbcneiicnepcaaGreatDoor