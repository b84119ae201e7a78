/-
  The abstract reading, second part: operations that look at blocks or change them, one step, a region, and a body's condition. Own work; no program in sight.
-/
import Derived.Test.YtankjfiaajpfoaaDoorAm1
namespace Go.Proofs.YtankjfiaajpfoaaDoor
open Go.RowKit

/-- A value as it reads when every block is looked through. -/
def view (H : List Blk) : Nat → AV → AV
  | 0, v => if v.isDeep then v else .undef
  | d + 1, v =>
    match v with
    | .own l n => match H[l]? with
      | some b => if b.rows.length = n then .slice b.sz false (if b.deep then b.rows else b.rows.map fun r => r.map (view H d)) else .undef
      | none => .undef
    | .ptr l n sz i f => match H[l]? with
      | some b => if b.rows.length = n ∧ b.sz = sz ∧ i < n then .iptr (if b.deep then (rowAt b.rows i).drop f else ((rowAt b.rows i).drop f).map (view H d)) else .undef
      | none => .undef
    | .agg cs => .agg (cs.map (view H d))
    | .tup cs => .tup (cs.map (view H d))
    | .fn f cs => .fn f (cs.map (view H d))
    | v => v

/-- The blocks that are looked through. -/
def reach (H : List Blk) : Nat → AV → List Nat
  | 0, _ => []
  | d + 1, v =>
    match v with
    | .own l _ => l :: (match H[l]? with
      | some b => if b.deep then [] else b.rows.flatMap fun r => r.flatMap (reach H d)
      | none => [])
    | .ptr l _ _ _ _ => l :: (match H[l]? with
      | some b => if b.deep then [] else b.rows.flatMap fun r => r.flatMap (reach H d)
      | none => [])
    | .agg cs => cs.flatMap (reach H d)
    | .tup cs => cs.flatMap (reach H d)
    | .fn _ cs => cs.flatMap (reach H d)
    | _ => []

/-- Nobody writes these blocks any more. -/
def frzL (ls : List Nat) : Nat → List Blk → List Blk
  | _, [] => []
  | i, b :: r => (if ls.contains i then { b with mu := false } else b) :: frzL ls (i + 1) r

def unB (rows : List (List AV)) : ByteArray := ⟨(rows.map fun r => match r with | [.int _ n] => UInt8.ofNat n.toNat | _ => 0).toArray⟩

def nrmC : AV → AV
  | .slice sz _ r => .slice sz false r
  | v => v

/-! ### Operations that read blocks -/
def aload (C : Ctx) (H : List Blk) (t : TypeId) (p : AV) : Option (Prop × AV) :=
  match p with
  | .iptr cs => headV C t cs
  | .ptr l n sz i f => match H[l]? with
    | some b => match headV C t ((rowAt b.rows i).drop f) with
      | some (ob, v) => some ((b.rows.length = n ∧ b.sz = sz ∧ i < n) ∧ ob, v)
      | none => none
    | none => none
  | _ => none

def AV.scal : AV → Bool
  | .bool _ | .int _ _ | .str _ => true
  | _ => false
def AV.deepArg : AV → Bool
  | .agg cs => cs.all AV.isDeep
  | .fn _ cs => cs.all AV.isDeep
  | v => v.isDeep

def aparts (C : Ctx) (e : TypeId) : Nat → List (Nat × AV) → Option (List (List AV))
  | _, [] => some []
  | i, (k, v) :: r =>
    if k = i then
      match cellsOf C e v, aparts C e (i + 1) r with
      | some cs, some rest => some (cs.map nrmC :: rest)
      | _, _ => none
    else none

def abuildSlice (C : Ctx) (t : TypeId) (len : Nat) (parts : List (Nat × AV)) : Option (Prop × AV) :=
  match elT C.P t with
  | some e =>
    if szT C.P e = 0 ∨ (zT C.P e).isNone ∨ parts.length ≠ len ∨ 1000000 < len * szT C.P e then none else
    match aparts C e 0 parts with
    | some rows => some (True, .slice (szT C.P e) true rows)
    | none => none
  | none => none

def elParts (C : Ctx) (ρ : List (Nat × AV)) (t : TypeId) (parts : List (Nat × Operand)) : List (Nat × AV) :=
  match elT C.P t with
  | some e => parts.map fun p => (p.1, aev C ρ e p.2)
  | none => []

def abytesStr (C : Ctx) (H : List Blk) (src dst : TypeId) (x : AV) : Option (Prop × AV) :=
  match elT C.P src with
  | some e =>
    if strT C.P dst && byteT C.P e && szT C.P e == 1 then
      match view H 6 x with
      | .slice 1 _ rows => some (rows = bytesRows (unB rows), .str (unB rows))
      | _ => none
    else none
  | none => none

def AV.flat1 : AV → Bool
  | .bool _ | .int _ _ | .str _ | .nilptr => true
  | _ => false
def AV.isFlat : AV → Bool
  | .tup vs => vs.all fun x => match x with | .agg cs => cs.all AV.flat1 | x => x.flat1
  | .agg cs => cs.all AV.flat1
  | v => v.flat1
def argAVs (C : Ctx) (ρ : List (Nat × AV)) : List Operand → List TypeId → List AV
  | [], _ => []
  | x :: r, t :: q => aev C ρ t x :: argAVs C ρ r q
  | x :: r, [] => aev C ρ 0 x :: argAVs C ρ r []

def acallPure (H : List Blk) (p : List AV → Option (Prop × AV)) (args : List AV) : Option (Prop × AV) :=
  match p (args.map (view H 6)) with
  | some (ob, r) => if r.isFlat || args.all AV.deepArg then some (ob, r) else none
  | none => none

/-- Who is called, with what. -/
def target (C : Ctx) (ρ : List (Nat × AV)) (c : Call) : Option (FuncId × List AV) :=
  match c.callee with
  | .value f => match aev C ρ 0 f with
    | .fn g cap => some (g, argAVs C ρ c.args.toList c.argTypes.toList ++ cap)
    | _ => none
  | _ => none

/-! ### Operations that change blocks -/
def astore (C : Ctx) (H : List Blk) (t : TypeId) (p x : AV) : Option (Prop × AV × List Blk) :=
  match p with
  | .ptr l n sz i f => match H[l]? with
    | some b =>
      if b.mu = true ∧ szT C.P t ≠ 0 then
        match cellsOf C t x with
        | some cs => some (b.rows.length = n ∧ b.sz = sz ∧ i < n ∧ f + cs.length ≤ sz, .tup [],
            H.set l { b with rows := b.rows.set i (splice (rowAt b.rows i) f cs), deep := b.deep && cs.all AV.isDeep })
        | none => none
      else none
    | none => none
  | _ => none

def amake (C : Ctx) (H : List Blk) (t : TypeId) (l c : AV) : Option (Prop × AV × List Blk) :=
  match elT C.P t, l, c with
  | some e, .int _ l, .int _ c => match zT C.P e with
    | some z => some (0 ≤ l ∧ l ≤ c ∧ c.toNat * byT C.P e ≤ 140737488355328 ∧ c < 1000000000000, .own H.length l.toNat, H ++ [⟨e, szT C.P e, List.replicate l.toNat z, true, z.all AV.isDeep⟩])
    | none => none
  | _, _, _ => none

def aappend (C : Ctx) (H : List Blk) (t : TypeId) (s x : AV) : Option (Prop × AV × List Blk) :=
  match elT C.P t with
  | some e =>
    if (zT C.P e).isNone then none else
    match (match x with
      | .slice sx _ ys => if sx = szT C.P e then some (True, ys) else none
      | .own l' n' => match H[l']? with
        | some b' => if b'.deep = true ∧ b'.sz = szT C.P e then some (b'.rows.length = n', b'.rows) else none
        | none => none
      | _ => none : Option (Prop × List (List AV))) with
    | some (ob, ys) =>
      match s with
      | .slice sz true rows =>
        if sz = szT C.P e then
          some (ob ∧ (rows = [] ∨ ys ≠ []) ∧ (rows ++ ys).length * byT C.P e ≤ 140737488355328 ∧ (rows ++ ys).length < 1000000000000, .own H.length (rows ++ ys).length, H ++ [⟨e, sz, rows ++ ys, true, true⟩])
        else none
      | .own l n => match H[l]? with
        | some b =>
          if b.mu = true ∧ b.e = e ∧ b.sz = szT C.P e then
            some (ob ∧ b.rows.length = n ∧ (b.rows ++ ys).length * byT C.P e ≤ 140737488355328 ∧ (b.rows ++ ys).length < 1000000000000, .own l (b.rows ++ ys).length, H.set l { b with rows := b.rows ++ ys })
          else none
        | none => none
      | _ => none
    | none => none
  | none => none

def anew (C : Ctx) (H : List Blk) (t : TypeId) (cs : Option (List AV)) : Option (Prop × AV × List Blk) :=
  match cs with
  | some cs => if szT C.P t = cs.length ∧ 0 < cs.length then some (True, .ptr H.length 1 (szT C.P t) 0 0, H ++ [⟨t, szT C.P t, [cs], true, cs.all AV.isDeep⟩]) else none
  | none => none

inductive Kd where
  | pure | read | eff

def kdE : Entry → Kd
  | .pure _ => .read
  | _ => .eff

def kindOf (C : Ctx) (o : Oper) : Kd :=
  match o.op with
  | .load _ _ => .read
  | .buildSlice t _ _ => match elT C.P t with
    | some e => (match zT C.P e with | some z => if z.all AV.scal then .read else .eff | none => .eff)
    | none => .eff
  | .alloc _ => .eff
  | .box _ _ => .eff
  | .store _ _ _ => .eff
  | .makeSlice _ _ _ => .eff
  | .convert src _ _ => match elT C.P src with | some _ => .read | none => .pure
  | .call c => match c.callee with
    | .builtin .append => .eff
    | .builtin _ => .pure
    | .value (.func f) => kdE (C.S f)
    | _ => .eff
  | _ => .pure

def apure (C : Ctx) (ρ : List (Nat × AV)) (o : Oper) : Option (Prop × AV) :=
  match o.op with
  | .move x => some (True, aev C ρ o.type x)
  | .assign x => some (True, aev C ρ o.type x)
  | .pick c a b => apick (aev C ρ 0 c) (aev C ρ o.type a) (aev C ρ o.type b)
  | .binOp op t x y ty => if isNilC y then abinN C op t (aev C ρ t x) else abin C op t (aev C ρ t x) (aev C ρ ty y)
  | .unOp op _ x => aun op (aev C ρ o.type x)
  | .convert src dst x => aconv C src dst (aev C ρ src x)
  | .field t x k => afield C t (aev C ρ t x) k
  | .fieldAddr t x k => afieldAddr C t (aev C ρ 0 x) k
  | .indexAddr t x ix => aindexAddr C t (aev C ρ t x) (aev C ρ 0 ix)
  | .index t x ix => aindex C t (aev C ρ t x) (aev C ρ 0 ix)
  | .slice t x lo hi mx => aslice C t (aev C ρ t x) (lo.map (aev C ρ 0)) (hi.map (aev C ρ 0)) (mx.map (aev C ρ 0))
  | .extract x k => match aev C ρ 0 x with
    | .tup vs => match vs[k]? with | some v => some (True, v) | none => none
    | _ => none
  | .makeFunc (.func f) first cap => if first.size = 0 then some (True, .fn f (cap.toList.map (aev C ρ 0))) else none
  | .nilCheck x => match aev C ρ 0 x with
    | .ptr l n sz i f => some (True, .ptr l n sz i f)
    | .iptr cs => some (True, .iptr cs)
    | .fn f cap => some (True, .fn f cap)
    | _ => none
  | .build t parts => abuild C ρ t parts.toList
  | .call c => match c.callee with
    | .builtin .len => match c.args.toList, c.argTypes.toList with
      | [x], [t] => alen C t (aev C ρ t x)
      | _, _ => none
    | .builtin .max => match amax (argAVs C ρ c.args.toList c.argTypes.toList) with | some v => some (True, v) | none => none
    | .builtin .min => match amin (argAVs C ρ c.args.toList c.argTypes.toList) with | some v => some (True, v) | none => none
    | _ => none
  | _ => none

def aread (C : Ctx) (ρ : List (Nat × AV)) (H : List Blk) (o : Oper) : Option (Prop × AV) :=
  match o.op with
  | .load t p => aload C H t (aev C ρ 0 p)
  | .buildSlice t len parts => if (elParts C ρ t parts.toList).all (fun p => p.2.deepArg) then abuildSlice C t len (elParts C ρ t parts.toList) else none
  | .convert src dst x => abytesStr C H src dst (aev C ρ src x)
  | .call c => match target C ρ c with
    | some (f, args) => match C.S f with
      | .pure p => acallPure H p args
      | _ => none
    | none => none
  | _ => none

def aeff (C : Ctx) (ρ : List (Nat × AV)) (H : List Blk) (o : Oper) : Option (Prop × AV × List Blk) :=
  match o.op with
  | .alloc t => anew C H t (zT C.P t)
  | .box t x => anew C H t (cellsOf C t (aev C ρ t x))
  | .store t p x => astore C H t (aev C ρ 0 p) (aev C ρ t x)
  | .buildSlice t len parts => match abuildSlice C t len ((elParts C ρ t parts.toList).map fun p => (p.1, view H 6 p.2)) with
    | some (ob, v) => some (ob, v, frzL ((elParts C ρ t parts.toList).flatMap fun p => reach H 6 p.2) 0 H)
    | none => none
  | .makeSlice t l c => amake C H t (aev C ρ 0 l) (aev C ρ 0 c)
  | .call c => match c.callee with
    | .builtin .append => match c.args.toList, c.argTypes.toList with
      | [s, x], [t, t'] => if t = t' then aappend C H t (aev C ρ t s) (aev C ρ t' x) else none
      | _, _ => none
    | _ => match target C ρ c with
      | some (f, args) => match C.S f with
        | .pure p => match acallPure H p args with | some (ob, r) => some (ob, r, H) | none => none
        | .frz p => match p (args.map (view H 6)) with | some (ob, r) => some (ob, r, frzL (args.flatMap (reach H 6)) 0 H) | none => none
        | .gen g => g args H
        | .no => none
      | none => none
  | _ => none

def astep (C : Ctx) (st : ASt) (o : Oper) : Option (Prop × AV × List Blk) :=
  match kindOf C o with
  | .pure => match apure C st.ρ o with | some (ob, v) => some (ob, v, st.H) | none => none
  | .read => match aread C st.ρ st.H o with | some (ob, v) => some (ob, v, st.H) | none => none
  | .eff => aeff C st.ρ st.H o

/-- Is the operation wanted? -/
def wantG (ops : Array Oper) (ρ : List (Nat × AV)) (o : Oper) : Option Bool :=
  match o.guard with
  | none => some true
  | some (j, want) => match (ops[j]?).bind (·.dst) with
    | some d => match getA ρ d with
      | .bool b => some (b == want)
      | .tup [] => some false
      | _ => none
    | none => none

/-- The operations of a region in their order. -/
def aops (C : Ctx) (ops : Array Oper) : List Oper → ASt → (ASt → Prop) → Prop
  | [], st, K => K st
  | o :: r, st, K =>
    match wantG ops st.ρ o with
    | none => False
    | some g =>
      (g = true → match astep C st o with
        | some (ob, v, H') => ob ∧ aops C ops r ⟨putA st.ρ o.dst v, H'⟩ K
        | none => False) ∧
      (g = false → aops C ops r ⟨putA st.ρ o.dst (.tup []), st.H⟩ K)

end Go.Proofs.YtankjfiaajpfoaaDoor
