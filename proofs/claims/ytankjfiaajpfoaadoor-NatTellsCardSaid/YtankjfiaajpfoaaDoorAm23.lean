/-
  The rules by which simp reckons a body's condition, step by step, from the front. Own work; no program in sight.
-/
import Derived.Test.YtankjfiaajpfoaaDoorAm22
namespace Go.Proofs.YtankjfiaajpfoaaDoor
open Go.RowKit

/-! ### Nothing is looked at before its turn (the mark: a congruence that changed nothing would be passed over) -/
def mark {α : Sort _} (x : α) : α := x
@[simp] theorem mark_eq {α : Sort _} (x : α) : mark x = x := by rw [mark]
@[congr] theorem avc_congr {C : Ctx} {N h0 : Nat} {code : Code} {st st' : ASt} {Q : Exit → ASt → Prop} (h : mark st = st') : avc C N h0 code st Q = avc C N h0 code st' Q := by rw [mark_eq] at h; rw [h]
@[congr] theorem aops_congr {C : Ctx} {ops : Array Oper} {l : List Oper} {st st' : ASt} {K : ASt → Prop} (h : mark st = st') : aops C ops l st K = aops C ops l st' K := by rw [mark_eq] at h; rw [h]
@[congr] theorem AW_congr {C : Ctx} {N h0 : Nat} {code : Code} {st st' : ASt} {Q : Exit → ASt → Prop} (h : mark st = st') : AW C N h0 code st Q = AW C N h0 code st' Q := by rw [mark_eq] at h; rw [h]

@[congr] theorem lazy_astep {C : Ctx} {st st' : ASt} {o : Oper} (h : mark st = st') : astep C st o = astep C st' o := by rw [mark_eq] at h; rw [h]
@[congr] theorem lazy_wantG {ops : Array Oper} {ρ ρ' : List (Nat × AV)} {o : Oper} (h : mark ρ = ρ') : wantG ops ρ o = wantG ops ρ' o := by rw [mark_eq] at h; rw [h]
/-- Where the j-th operation puts its value. -/
def dstAt : List Oper → Nat → Option Tmp
  | [], _ => none
  | o :: _, 0 => o.dst
  | _ :: r, j + 1 => dstAt r j
@[congr] theorem dstAt_congr {l : List Oper} {j j' : Nat} (h : mark j = j') : dstAt l j = dstAt l j' := by rw [mark_eq] at h; rw [h]
@[simp] theorem dstAt_zero (d : Option Tmp) (op : Op) (ty : TypeId) (p : String) (af : Array Edge) (g : Option (Nat × Bool)) (r : List Oper) : dstAt (⟨d, op, ty, p, af, g⟩ :: r) 0 = d := rfl
@[simp] theorem dstAt_succ (o : Oper) (r : List Oper) (j : Nat) : dstAt (o :: r) (j + 1) = dstAt r j := rfl
theorem dstAt_eq : ∀ (l : List Oper) (j : Nat), dstAt l j = (l[j]?).bind (·.dst)
  | [], _ => rfl
  | _ :: _, 0 => rfl
  | _ :: r, j + 1 => by rw [dstAt, dstAt_eq r j, List.getElem?_cons_succ]

def thenD (o : Option (Prop × AV × List Blk)) (K : Prop → AV → List Blk → Prop) : Prop :=
  match o with
  | some (ob, v, H) => K ob v H
  | none => False
@[congr] theorem thenD_congr {o o' : Option (Prop × AV × List Blk)} {K : Prop → AV → List Blk → Prop} (h : mark o = o') : thenD o K = thenD o' K := by rw [mark_eq] at h; rw [h]
@[simp] theorem thenD_some (ob : Prop) (v : AV) (H : List Blk) (K : Prop → AV → List Blk → Prop) : thenD (some (ob, v, H)) K = K ob v H := rfl
@[simp] theorem thenD_none (K : Prop → AV → List Blk → Prop) : thenD none K = False := rfl

def thenG (o : Option Bool) (K : Bool → Prop) : Prop :=
  match o with
  | some g => K g
  | none => False
@[congr] theorem thenG_congr {o o' : Option Bool} {K : Bool → Prop} (h : mark o = o') : thenG o K = thenG o' K := by rw [mark_eq] at h; rw [h]
@[simp] theorem thenG_some (g : Bool) (K : Bool → Prop) : thenG (some g) K = K g := rfl
@[simp] theorem thenG_none (K : Bool → Prop) : thenG none K = False := rfl

def both (g : Bool) (A B : Prop) : Prop := (g = true → A) ∧ (g = false → B)
@[congr] theorem both_congr {g g' : Bool} {A B : Prop} (h : mark g = g') : both g A B = both g' A B := by rw [mark_eq] at h; rw [h]
theorem both_intro {g : Bool} {A B : Prop} (h : g = true → A) (h' : g = false → B) : both g A B := ⟨h, h'⟩
@[simp] theorem both_true (A B : Prop) : both true A B = A := by simp [both]
@[simp] theorem both_false (A B : Prop) : both false A B = B := by simp [both]

def onBool (v : AV) (K : Bool → Prop) : Prop :=
  match v with
  | .bool x => K x
  | .anyb => K true ∧ K false
  | _ => False
@[congr] theorem onBool_congr {v v' : AV} {K : Bool → Prop} (h : mark v = v') : onBool v K = onBool v' K := by rw [mark_eq] at h; rw [h]
@[simp] theorem onBool_bool (x : Bool) (K : Bool → Prop) : onBool (.bool x) K = K x := rfl
@[simp] theorem onBool_anyb (K : Bool → Prop) : onBool .anyb K = (K true ∧ K false) := rfl

section
variable {C : Ctx} {N h0 : Nat}

@[simp] theorem aops_nil (ops : Array Oper) (st : ASt) (K : ASt → Prop) : aops C ops [] st K = K st := rfl
@[simp] theorem aops_cons (ops : Array Oper) (o : Oper) (r : List Oper) (st : ASt) (K : ASt → Prop) : aops C ops (o :: r) st K =
    thenG (wantG ops st.ρ o) fun g => both g (thenD (astep C st o) fun ob v H' => ob ∧ aops C ops r ⟨putA st.ρ o.dst v, H'⟩ K) (aops C ops r ⟨putA st.ρ o.dst (.tup []), st.H⟩ K) := by
  rw [aops]
  cases wantG ops st.ρ o with
  | none => rfl
  | some g =>
    simp only [thenG_some, both]
    cases astep C st o with
    | none => rfl
    | some x => rfl

def goOn (K : ASt → Prop) (Q : Exit → ASt → Prop) (ex : Exit) (st : ASt) : Prop := match ex with | .normal => K st | e => Q e st
@[congr] theorem lazy_goOn {K : ASt → Prop} {Q : Exit → ASt → Prop} {ex ex' : Exit} {st st' : ASt} (h : mark ex = ex') (h' : st = st') : goOn K Q ex st = goOn K Q ex' st' := by rw [mark_eq] at h; rw [h, h']
@[simp] theorem goOn_normal (K : ASt → Prop) (Q : Exit → ASt → Prop) (st : ASt) : goOn K Q .normal st = K st := rfl
@[simp] theorem goOn_ret (K : ASt → Prop) (Q : Exit → ASt → Prop) (st : ASt) : goOn K Q .ret st = Q .ret st := rfl
@[simp] theorem goOn_exit (K : ASt → Prop) (Q : Exit → ASt → Prop) (st : ASt) (i : Nat) : goOn K Q (.exit i) st = Q (.exit i) st := rfl
def outOf (id : Nat) (Q : Exit → ASt → Prop) (ex : Exit) (st : ASt) : Prop := match ex with | .exit j => if j = id then Q .normal st else Q (.exit j) st | e => Q e st
@[congr] theorem lazy_outOf {id : Nat} {Q : Exit → ASt → Prop} {ex ex' : Exit} {st st' : ASt} (h : mark ex = ex') (h' : st = st') : outOf id Q ex st = outOf id Q ex' st' := by rw [mark_eq] at h; rw [h, h']
@[simp] theorem outOf_normal (id : Nat) (Q : Exit → ASt → Prop) (st : ASt) : outOf id Q .normal st = Q .normal st := rfl
@[simp] theorem outOf_ret (id : Nat) (Q : Exit → ASt → Prop) (st : ASt) : outOf id Q .ret st = Q .ret st := rfl
@[simp] theorem outOf_exit (id : Nat) (Q : Exit → ASt → Prop) (st : ASt) (i : Nat) : outOf id Q (.exit i) st = if i = id then Q .normal st else Q (.exit i) st := rfl
def inScope (Q : Exit → ASt → Prop) (ex : Exit) (st : ASt) : Prop := match ex with | .goto _ => False | e => Q e st
@[congr] theorem lazy_inScope {Q : Exit → ASt → Prop} {ex ex' : Exit} {st st' : ASt} (h : mark ex = ex') (h' : st = st') : inScope Q ex st = inScope Q ex' st' := by rw [mark_eq] at h; rw [h, h']
@[simp] theorem inScope_normal (Q : Exit → ASt → Prop) (st : ASt) : inScope Q .normal st = Q .normal st := rfl
@[simp] theorem inScope_ret (Q : Exit → ASt → Prop) (st : ASt) : inScope Q .ret st = Q .ret st := rfl
@[simp] theorem inScope_exit (Q : Exit → ASt → Prop) (st : ASt) (i : Nat) : inScope Q (.exit i) st = Q (.exit i) st := rfl

@[simp] theorem avc_skip (st : ASt) (Q : Exit → ASt → Prop) : avc C N h0 .skip st Q = Q .normal st := rfl
@[simp] theorem avc_region (id : Nat) (l : List Oper) (d : Bool) (st : ASt) (Q : Exit → ASt → Prop) : avc C N h0 (.region id l.toArray d) st Q = aops C l.toArray l st (Q .normal) := rfl
@[simp] theorem avc_seq (a b : Code) (st : ASt) (Q : Exit → ASt → Prop) : avc C N h0 (.seq a b) st Q = avc C N h0 a st (goOn (fun st' => avc C N h0 b st' Q) Q) := rfl
@[simp] theorem avc_cond (c : Operand) (a b : Code) (st : ASt) (Q : Exit → ASt → Prop) : avc C N h0 (.cond c a b) st Q = onBool (aev C st.ρ 0 c) fun x => both x (avc C N h0 a st Q) (avc C N h0 b st Q) := by
  show (match aev C st.ρ 0 c with | .bool x => (x = true → avc C N h0 a st Q) ∧ (x = false → avc C N h0 b st Q) | .anyb => avc C N h0 a st Q ∧ avc C N h0 b st Q | _ => False) = _
  cases aev C st.ρ 0 c <;> first | rfl | simp [onBool]
@[simp] theorem avc_block (id : Nat) (b : Code) (st : ASt) (Q : Exit → ASt → Prop) : avc C N h0 (.block id b) st Q = avc C N h0 b st (outOf id Q) := rfl
@[simp] theorem avc_exit (id : Nat) (st : ASt) (Q : Exit → ASt → Prop) : avc C N h0 (.exit id) st Q = Q (.exit id) st := rfl
@[simp] theorem avc_ret (st : ASt) (Q : Exit → ASt → Prop) : avc C N h0 .ret st Q = Q .ret st := rfl
@[simp] theorem avc_label (l : Nat) (st : ASt) (Q : Exit → ASt → Prop) : avc C N h0 (.label l) st Q = Q .normal st := rfl
@[simp] theorem avc_scope (b : Code) (st : ASt) (Q : Exit → ASt → Prop) : avc C N h0 (.scope b) st Q = avc C N h0 b st (inScope Q) := rfl
@[simp] theorem avc_loop (b : Code) (st : ASt) (Q : Exit → ASt → Prop) : avc C N h0 (.loop b) st Q = AW C N h0 (.loop b) st Q := rfl

@[congr] theorem lazy_postP {rs : List ResultVar} {r : AV} {ex ex' : Exit} {st st' : ASt} (h : mark ex = ex') (h' : st = st') : postP C rs r ex st = postP C rs r ex' st' := by rw [mark_eq] at h; rw [h, h']
@[simp] theorem postP_normal (rs : List ResultVar) (r : AV) (st : ASt) : postP C rs r .normal st = finP C rs r st := rfl
@[simp] theorem postP_ret (rs : List ResultVar) (r : AV) (st : ASt) : postP C rs r .ret st = finP C rs r st := rfl

/-- What a loop hands on. -/
def round {α : Type} (Sf : α → ASt) (pre : α → Prop) (lt : α → Prop) (N h0 : Nat) (C : Ctx) (Q : Exit → ASt → Prop) (ex : Exit) (st' : ASt) : Prop :=
  match ex with | .normal => ∃ x', pre x' ∧ lt x' ∧ Weak C N h0 st' (Sf x') | e => Q e st'
@[congr] theorem lazy_round {α : Type} {Sf : α → ASt} {pre lt : α → Prop} {Q : Exit → ASt → Prop} {ex ex' : Exit} {st st' : ASt} (h : mark ex = ex') (h' : st = st') : round Sf pre lt N h0 C Q ex st = round Sf pre lt N h0 C Q ex' st' := by rw [mark_eq] at h; rw [h, h']
@[simp] theorem round_normal {α : Type} (Sf : α → ASt) (pre : α → Prop) (lt : α → Prop) (Q : Exit → ASt → Prop) (st' : ASt) : round Sf pre lt N h0 C Q .normal st' = ∃ x', pre x' ∧ lt x' ∧ Weak C N h0 st' (Sf x') := rfl
@[simp] theorem round_ret {α : Type} (Sf : α → ASt) (pre : α → Prop) (lt : α → Prop) (Q : Exit → ASt → Prop) (st' : ASt) : round Sf pre lt N h0 C Q .ret st' = Q .ret st' := rfl
@[simp] theorem round_exit {α : Type} (Sf : α → ASt) (pre : α → Prop) (lt : α → Prop) (Q : Exit → ASt → Prop) (st' : ASt) (i : Nat) : round Sf pre lt N h0 C Q (.exit i) st' = Q (.exit i) st' := rfl

theorem loop_rule {α : Type} (hS : SigOK C) (hM : C.P.follows .mixedOrders = true) {body : Code} {st : ASt} {Q : Exit → ASt → Prop} (Sf : α → ASt) (pre : α → Prop) (m : α → Nat) (hok : codeOK C N body = true)
    (start : ∃ x, pre x ∧ Weak C N h0 st (Sf x)) (step : ∀ x, pre x → avc C N h0 body (Sf x) (round Sf pre (fun x' => m x' < m x) N h0 C Q)) : AW C N h0 (.loop body) st Q :=
  AW_loop hS hM hok Sf pre m start fun x hx => avc_mono body (step x hx) fun ex st' h => by cases ex <;> exact h

/-! ### Slots -/
@[simp] theorem getA_cons (k : Nat) (v : AV) (r : List (Nat × AV)) (i : Nat) : getA ((k, v) :: r) i = if k = i then v else getA r i := rfl
@[simp] theorem getA_nil (i : Nat) : getA [] i = .undef := rfl
@[simp] theorem putA_some (ρ : List (Nat × AV)) (d : Nat) (v : AV) : putA ρ (some d) v = (d, v) :: ρ := rfl
@[simp] theorem putA_none (ρ : List (Nat × AV)) (v : AV) : putA ρ none v = ρ := rfl
@[simp] theorem aev_tmp (ρ : List (Nat × AV)) (t i : Nat) : aev C ρ t (.tmp i) = getA ρ i := rfl
@[simp] theorem aev_func (ρ : List (Nat × AV)) (t f : Nat) : aev C ρ t (.func f) = .fn f [] := rfl
@[simp] theorem aev_global (ρ : List (Nat × AV)) (t g : Nat) : aev C ρ t (.global g) = C.G g := rfl
@[simp] theorem aev_bool (ρ : List (Nat × AV)) (t : Nat) (b : Bool) : aev C ρ t (.const (.bool b)) = .bool b := rfl
@[simp] theorem aev_int (ρ : List (Nat × AV)) (t : Nat) (k : IntKind) (n : Int) : aev C ρ t (.const (.int k n)) = .int k n := rfl
@[simp] theorem aev_str (ρ : List (Nat × AV)) (t : Nat) (s : ByteArray) : aev C ρ t (.const (.string s)) = .str s := rfl
@[simp] theorem aev_nilslice (ρ : List (Nat × AV)) (t : Nat) : aev C ρ t (.const (.slice none 0 0)) = match elT C.P t with | some e => .slice (szT C.P e) true [] | none => .undef := rfl
@[simp] theorem aev_nilptr (ρ : List (Nat × AV)) (t : Nat) : aev C ρ t (.const (.pointer none)) = .nilptr := rfl
@[simp] theorem wantG_none (ops : Array Oper) (ρ : List (Nat × AV)) (dst : Option Tmp) (op : Op) (ty : TypeId) (pos : String) (after : Array Edge) : wantG ops ρ ⟨dst, op, ty, pos, after, none⟩ = some true := rfl
def guardV (v : AV) (want : Bool) : Option Bool := match v with | .bool b => some (b == want) | .tup [] => some false | _ => none
@[simp] theorem guardV_bool (b want : Bool) : guardV (.bool b) want = some (b == want) := rfl
@[simp] theorem guardV_skip (want : Bool) : guardV (.tup []) want = some false := rfl
def guardD (ρ : List (Nat × AV)) (o : Option Tmp) (want : Bool) : Option Bool := match o with | some d => guardV (getA ρ d) want | none => none
@[simp] theorem guardD_some (ρ : List (Nat × AV)) (d : Tmp) (want : Bool) : guardD ρ (some d) want = guardV (getA ρ d) want := rfl
@[simp] theorem wantG_some (l : List Oper) (ρ : List (Nat × AV)) (dst : Option Tmp) (op : Op) (ty : TypeId) (pos : String) (after : Array Edge) (j : Nat) (want : Bool) : wantG l.toArray ρ ⟨dst, op, ty, pos, after, some (j, want)⟩ = guardD ρ (dstAt l j) want := by
  unfold wantG guardD
  simp only [List.getElem?_toArray, dstAt_eq]
  cases (l[j]?).bind (·.dst) with
  | none => rfl
  | some d =>
    simp only
    cases getA ρ d with
    | tup vs => cases vs <;> rfl
    | _ => rfl

/-! ### Operations -/
def lift (H : List Blk) (o : Option (Prop × AV)) : Option (Prop × AV × List Blk) := match o with | some (ob, v) => some (ob, v, H) | none => none
@[simp] theorem lift_some (H : List Blk) (ob : Prop) (v : AV) : lift H (some (ob, v)) = some (ob, v, H) := rfl
@[simp] theorem lift_none (H : List Blk) : lift H none = none := rfl

variable (ρ : List (Nat × AV)) (H : List Blk) (d : Option Tmp) (ty : TypeId) (p : String) (af : Array Edge) (g : Option (Nat × Bool))

@[simp] theorem astep_move (x : Operand) : astep C ⟨ρ, H⟩ ⟨d, .move x, ty, p, af, g⟩ = some (True, aev C ρ ty x, H) := rfl
@[simp] theorem astep_assign (x : Operand) : astep C ⟨ρ, H⟩ ⟨d, .assign x, ty, p, af, g⟩ = some (True, aev C ρ ty x, H) := rfl
@[simp] theorem astep_pick (c a b : Operand) : astep C ⟨ρ, H⟩ ⟨d, .pick c a b, ty, p, af, g⟩ = lift H (apick (aev C ρ 0 c) (aev C ρ ty a) (aev C ρ ty b)) := rfl
@[simp] theorem isNilC_tmp (i : Nat) : isNilC (.tmp i) = false := rfl
@[simp] theorem isNilC_global (i : Nat) : isNilC (.global i) = false := rfl
@[simp] theorem isNilC_func (i : Nat) : isNilC (.func i) = false := rfl
@[simp] theorem isNilC_bool (b : Bool) : isNilC (.const (.bool b)) = false := rfl
@[simp] theorem isNilC_int (k : IntKind) (n : Int) : isNilC (.const (.int k n)) = false := rfl
@[simp] theorem isNilC_str (s : ByteArray) : isNilC (.const (.string s)) = false := rfl
@[simp] theorem isNilC_ptr : isNilC (.const (.pointer none)) = false := rfl
@[simp] theorem isNilC_nil : isNilC (.const (.slice none 0 0)) = true := rfl
@[simp] theorem astep_binOp (op : BinOp) (t : TypeId) (x y : Operand) (t' : TypeId) : astep C ⟨ρ, H⟩ ⟨d, .binOp op t x y t', ty, p, af, g⟩ = lift H (if isNilC y then abinN C op t (aev C ρ t x) else abin C op t (aev C ρ t x) (aev C ρ t' y)) := rfl
@[simp] theorem astep_unOp (op : UnOp) (t : TypeId) (x : Operand) : astep C ⟨ρ, H⟩ ⟨d, .unOp op t x, ty, p, af, g⟩ = lift H (aun op (aev C ρ ty x)) := rfl
@[simp] theorem astep_convert (s t : TypeId) (x : Operand) : astep C ⟨ρ, H⟩ ⟨d, .convert s t x, ty, p, af, g⟩ = match elT C.P s with | some _ => lift H (abytesStr C H s t (aev C ρ s x)) | none => lift H (aconv C s t (aev C ρ s x)) := by
  unfold astep kindOf
  simp only
  cases elT C.P s <;> rfl
@[simp] theorem astep_field (t : TypeId) (x : Operand) (k : Nat) : astep C ⟨ρ, H⟩ ⟨d, .field t x k, ty, p, af, g⟩ = lift H (afield C t (aev C ρ t x) k) := rfl
@[simp] theorem astep_fieldAddr (t : TypeId) (x : Operand) (k : Nat) : astep C ⟨ρ, H⟩ ⟨d, .fieldAddr t x k, ty, p, af, g⟩ = lift H (afieldAddr C t (aev C ρ 0 x) k) := rfl
@[simp] theorem astep_indexAddr (t : TypeId) (x i : Operand) : astep C ⟨ρ, H⟩ ⟨d, .indexAddr t x i, ty, p, af, g⟩ = lift H (aindexAddr C t (aev C ρ t x) (aev C ρ 0 i)) := rfl
@[simp] theorem astep_index (t : TypeId) (x i : Operand) : astep C ⟨ρ, H⟩ ⟨d, .index t x i, ty, p, af, g⟩ = lift H (aindex C t (aev C ρ t x) (aev C ρ 0 i)) := rfl
@[simp] theorem astep_slice (t : TypeId) (x : Operand) (l h m : Option Operand) : astep C ⟨ρ, H⟩ ⟨d, .slice t x l h m, ty, p, af, g⟩ = lift H (aslice C t (aev C ρ t x) (l.map (aev C ρ 0)) (h.map (aev C ρ 0)) (m.map (aev C ρ 0))) := rfl
def aextract (v : AV) (k : Nat) : Option (Prop × AV) := match v with | .tup vs => (match vs[k]? with | some v => some (True, v) | none => none) | _ => none
@[simp] theorem aextract_tup (vs : List AV) (k : Nat) : aextract (.tup vs) k = match vs[k]? with | some v => some (True, v) | none => none := rfl
@[simp] theorem astep_extract (x : Operand) (k : Nat) : astep C ⟨ρ, H⟩ ⟨d, .extract x k, ty, p, af, g⟩ = lift H (aextract (aev C ρ 0 x) k) := rfl
@[simp] theorem astep_makeFunc (f : FuncId) (cap : Array Operand) : astep C ⟨ρ, H⟩ ⟨d, .makeFunc (.func f) #[] cap, ty, p, af, g⟩ = some (True, .fn f (cap.toList.map (aev C ρ 0)), H) := rfl
def anil (v : AV) : Option (Prop × AV) := match v with | .ptr l n sz i f => some (True, .ptr l n sz i f) | .iptr cs => some (True, .iptr cs) | .fn f cap => some (True, .fn f cap) | _ => none
@[simp] theorem anil_ptr (l n sz i f : Nat) : anil (.ptr l n sz i f) = some (True, .ptr l n sz i f) := rfl
@[simp] theorem anil_iptr (cs : List AV) : anil (.iptr cs) = some (True, .iptr cs) := rfl
@[simp] theorem anil_fn (f : FuncId) (cs : List AV) : anil (.fn f cs) = some (True, .fn f cs) := rfl
@[simp] theorem astep_nilCheck (x : Operand) : astep C ⟨ρ, H⟩ ⟨d, .nilCheck x, ty, p, af, g⟩ = lift H (anil (aev C ρ 0 x)) := by
  unfold astep kindOf apure anil
  simp only
  cases aev C ρ 0 x <;> rfl
@[simp] theorem astep_build (t : TypeId) (ps : Array (Nat × Operand)) : astep C ⟨ρ, H⟩ ⟨d, .build t ps, ty, p, af, g⟩ = lift H (abuild C ρ t ps.toList) := rfl
@[simp] theorem astep_load (t : TypeId) (x : Operand) : astep C ⟨ρ, H⟩ ⟨d, .load t x, ty, p, af, g⟩ = lift H (aload C H t (aev C ρ 0 x)) := rfl
@[simp] theorem astep_alloc (t : TypeId) : astep C ⟨ρ, H⟩ ⟨d, .alloc t, ty, p, af, g⟩ = anew C H t (zT C.P t) := rfl
@[simp] theorem astep_box (t : TypeId) (x : Operand) : astep C ⟨ρ, H⟩ ⟨d, .box t x, ty, p, af, g⟩ = anew C H t (cellsOf C t (aev C ρ t x)) := rfl
@[simp] theorem astep_store (t : TypeId) (x y : Operand) : astep C ⟨ρ, H⟩ ⟨d, .store t x y, ty, p, af, g⟩ = astore C H t (aev C ρ 0 x) (aev C ρ t y) := rfl
@[simp] theorem astep_makeSlice (t : TypeId) (x y : Operand) : astep C ⟨ρ, H⟩ ⟨d, .makeSlice t x y, ty, p, af, g⟩ = amake C H t (aev C ρ 0 x) (aev C ρ 0 y) := rfl
@[simp] theorem astep_len (x : Operand) (t : TypeId) : astep C ⟨ρ, H⟩ ⟨d, .call ⟨.builtin .len, #[x], #[t]⟩, ty, p, af, g⟩ = lift H (alen C t (aev C ρ t x)) := rfl
def lift1 (H : List Blk) (o : Option AV) : Option (Prop × AV × List Blk) := match o with | some v => some (True, v, H) | none => none
@[simp] theorem lift1_some (v : AV) : lift1 H (some v) = some (True, v, H) := rfl
@[simp] theorem astep_max (x y : Operand) (t t' : TypeId) : astep C ⟨ρ, H⟩ ⟨d, .call ⟨.builtin .max, #[x, y], #[t, t']⟩, ty, p, af, g⟩ = lift1 H (amax [aev C ρ t x, aev C ρ t' y]) := by
  unfold astep kindOf apure lift1
  simp only [argAVs]
  cases amax [aev C ρ t x, aev C ρ t' y] <;> rfl
@[simp] theorem astep_min (x y : Operand) (t t' : TypeId) : astep C ⟨ρ, H⟩ ⟨d, .call ⟨.builtin .min, #[x, y], #[t, t']⟩, ty, p, af, g⟩ = lift1 H (amin [aev C ρ t x, aev C ρ t' y]) := by
  unfold astep kindOf apure lift1
  simp only [argAVs]
  cases amin [aev C ρ t x, aev C ρ t' y] <;> rfl
@[simp] theorem astep_append (x y : Operand) (t t' : TypeId) : astep C ⟨ρ, H⟩ ⟨d, .call ⟨.builtin .append, #[x, y], #[t, t']⟩, ty, p, af, g⟩ = if t = t' then aappend C H t (aev C ρ t x) (aev C ρ t' y) else none := rfl
/-- A slice written out: as it stands, or closing what it speaks of. -/
def isScalT (C : Ctx) (t : TypeId) : Bool := match elT C.P t with
    | some e => (match zT C.P e with | some z => z.all AV.scal | none => false)
    | none => false
@[simp] theorem astep_buildSlice (t : TypeId) (n : Nat) (ps : Array (Nat × Operand)) : astep C ⟨ρ, H⟩ ⟨d, .buildSlice t n ps, ty, p, af, g⟩ =
    if isScalT C t = true then (if (elParts C ρ t ps.toList).all (fun p => p.2.deepArg) then lift H (abuildSlice C t n (elParts C ρ t ps.toList)) else none)
    else lift (frzL ((elParts C ρ t ps.toList).flatMap fun p => reach H 6 p.2) 0 H) (abuildSlice C t n ((elParts C ρ t ps.toList).map fun p => (p.1, view H 6 p.2))) := by
  have hk : kindOf C ⟨d, .buildSlice t n ps, ty, p, af, g⟩ = if isScalT C t = true then .read else .eff := by
    unfold kindOf isScalT
    simp only
    split
    · rename_i e he
      split
      · rename_i z hz; simp [he, hz]
      · rename_i hz; simp [he, hz]
    · rename_i hn
      simp [hn]
  unfold astep
  rw [hk]
  rcases isScalT C t
  case' true => simp only [if_true, aread]
  case' false => simp only [Bool.false_eq_true, if_false, aeff]
  rotate_left
  · cases ((elParts C ρ t ps.toList).all fun p => p.snd.deepArg) with
    | true => simp only [if_true]; cases abuildSlice C t n (elParts C ρ t ps.toList) <;> rfl
    | false => rfl
  · cases abuildSlice C t n ((elParts C ρ t ps.toList).map fun p => (p.1, view H 6 p.2)) <;> rfl

/-- A call of a function by its contract. -/
def acallE (e : Entry) (H : List Blk) (args : List AV) : Option (Prop × AV × List Blk) :=
  match e with
  | .pure q => lift H (acallPure H q args)
  | .frz q => lift (frzL (args.flatMap (reach H 6)) 0 H) (q (args.map (view H 6)))
  | .gen q => q args H
  | .no => none
@[simp] theorem acallE_pure (q : List AV → Option (Prop × AV)) (args : List AV) : acallE (.pure q) H args = lift H (acallPure H q args) := rfl
@[simp] theorem acallE_frz (q : List AV → Option (Prop × AV)) (args : List AV) : acallE (.frz q) H args = lift (frzL (args.flatMap (reach H 6)) 0 H) (q (args.map (view H 6))) := rfl
@[simp] theorem acallE_gen (q : List AV → List Blk → Option (Prop × AV × List Blk)) (args : List AV) : acallE (.gen q) H args = q args H := rfl
@[simp] theorem astep_call (f : FuncId) (xs : Array Operand) (ts : Array TypeId) : astep C ⟨ρ, H⟩ ⟨d, .call ⟨.value (.func f), xs, ts⟩, ty, p, af, g⟩ = acallE (C.S f) H (argAVs C ρ xs.toList ts.toList) := by
  unfold astep kindOf
  simp only
  cases h : C.S f with
  | no => simp only [kdE, aeff, target, aev_func, h, acallE, List.append_nil]
  | pure q => simp only [kdE, aread, target, aev_func, h, acallE, List.append_nil]; cases acallPure H q _ <;> rfl
  | frz q => simp only [kdE, aeff, target, aev_func, h, acallE, List.append_nil]; cases q _ <;> rfl
  | gen q => simp only [kdE, aeff, target, aev_func, h, acallE, List.append_nil]
/-- A call of a function value. -/
def acallV (C : Ctx) (v : AV) (H : List Blk) (args : List AV) : Option (Prop × AV × List Blk) :=
  match v with
  | .fn f cap => acallE (C.S f) H (args ++ cap)
  | _ => none
@[simp] theorem acallV_fn (f : FuncId) (cap args : List AV) : acallV C (.fn f cap) H args = acallE (C.S f) H (args ++ cap) := rfl
@[simp] theorem astep_callV (t : Tmp) (xs : Array Operand) (ts : Array TypeId) : astep C ⟨ρ, H⟩ ⟨d, .call ⟨.value (.tmp t), xs, ts⟩, ty, p, af, g⟩ = acallV C (getA ρ t) H (argAVs C ρ xs.toList ts.toList) := by
  unfold astep kindOf
  simp only [aeff, target, aev_tmp]
  cases getA ρ t <;> try rfl

@[simp] theorem argAVs_nil (ts : List TypeId) : argAVs C ρ [] ts = [] := by cases ts <;> rfl
@[simp] theorem argAVs_cons (x : Operand) (r : List Operand) (t : TypeId) (q : List TypeId) : argAVs C ρ (x :: r) (t :: q) = aev C ρ t x :: argAVs C ρ r q := rfl
end

attribute [simp] encRows_take encRows_drop
@[simp] theorem rows_snoc_int (l : List Int) (x : Int) : encRows l ++ [[.int .i64 x]] = encRows (l ++ [x]) := by rw [encRows_append]; rfl
@[simp] theorem rows_snoc_str (l : List ByteArray) (x : ByteArray) : encRows l ++ [[.str x]] = encRows (l ++ [x]) := by rw [encRows_append]; rfl
@[simp] theorem rows_snoc_bool (l : List Bool) (x : Bool) : encRows l ++ [[.bool x]] = encRows (l ++ [x]) := by rw [encRows_append]; rfl
@[simp] theorem rows_snoc_list {α : Type} [Enc α] (l : List (List α)) (x : List α) : encRows l ++ [[.slice (Enc.sz α) false (encRows x)]] = encRows (l ++ [x]) := by rw [encRows_append]; rfl
@[simp] theorem rows_app {α : Type} [Enc α] (l m : List α) : encRows l ++ encRows m = encRows (l ++ m) := (encRows_append l m).symm
@[simp] theorem rows_set_int (l : List Int) (i : Nat) (x : Int) : (encRows l).set i [.int .i64 x] = encRows (l.set i x) := encRows_set l i x
@[simp] theorem rows_set_str (l : List ByteArray) (i : Nat) (x : ByteArray) : (encRows l).set i [.str x] = encRows (l.set i x) := encRows_set l i x
@[simp] theorem rows_set_bool (l : List Bool) (i : Nat) (x : Bool) : (encRows l).set i [.bool x] = encRows (l.set i x) := encRows_set l i x
@[simp] theorem rows_rep_int (n : Nat) (x : Int) : List.replicate n [AV.int .i64 x] = encRows (List.replicate n x) := by simp [encRows]
@[simp] theorem rows_rep_bool (n : Nat) (x : Bool) : List.replicate n [AV.bool x] = encRows (List.replicate n x) := by simp [encRows]
@[simp] theorem rows_rep_str (n : Nat) (x : ByteArray) : List.replicate n [AV.str x] = encRows (List.replicate n x) := by simp [encRows]
@[simp] theorem dec_beq (a b : Int) : (a == b) = decide (a = b) := by by_cases h : a = b <;> simp [h]
@[simp] theorem dec_bne (a b : Int) : (a != b) = !decide (a = b) := by by_cases h : a = b <;> simp [h]
/-! ### Values, one by one (printed) -/
@[simp] theorem isDeep_undef  : AV.isDeep (AV.undef) = true := rfl
@[simp] theorem isCell_undef  : AV.isCell (AV.undef) = false := rfl
@[simp] theorem scal_undef  : AV.scal (AV.undef) = false := rfl
@[simp] theorem flat1_undef  : AV.flat1 (AV.undef) = false := rfl
@[simp] theorem deepArg_undef  : AV.deepArg (AV.undef) = true := rfl
@[simp] theorem isFlat_undef  : AV.isFlat (AV.undef) = false := rfl
@[simp] theorem nrmC_undef  : nrmC (AV.undef) = (AV.undef) := rfl
@[simp] theorem nrmV_undef  : nrmV (AV.undef) = (AV.undef) := rfl
@[simp] theorem view_undef (H : List Blk) (d : Nat)  : view H d (AV.undef) = (AV.undef) := by cases d <;> rfl
@[simp] theorem reach_undef (H : List Blk) (d : Nat)  : reach H d (AV.undef) = [] := by cases d <;> rfl
@[simp] theorem isDeep_bool (b : Bool) : AV.isDeep (.bool b : AV) = true := rfl
@[simp] theorem isCell_bool (b : Bool) : AV.isCell (.bool b : AV) = true := rfl
@[simp] theorem scal_bool (b : Bool) : AV.scal (.bool b : AV) = true := rfl
@[simp] theorem flat1_bool (b : Bool) : AV.flat1 (.bool b : AV) = true := rfl
@[simp] theorem deepArg_bool (b : Bool) : AV.deepArg (.bool b : AV) = true := rfl
@[simp] theorem isFlat_bool (b : Bool) : AV.isFlat (.bool b : AV) = true := rfl
@[simp] theorem nrmC_bool (b : Bool) : nrmC (.bool b : AV) = (.bool b : AV) := rfl
@[simp] theorem nrmV_bool (b : Bool) : nrmV (.bool b : AV) = (.bool b : AV) := rfl
@[simp] theorem view_bool (H : List Blk) (d : Nat) (b : Bool) : view H d (.bool b : AV) = (.bool b : AV) := by cases d <;> rfl
@[simp] theorem reach_bool (H : List Blk) (d : Nat) (b : Bool) : reach H d (.bool b : AV) = [] := by cases d <;> rfl
@[simp] theorem isDeep_int (k : IntKind) (n : Int) : AV.isDeep (.int k n : AV) = true := rfl
@[simp] theorem isCell_int (k : IntKind) (n : Int) : AV.isCell (.int k n : AV) = true := rfl
@[simp] theorem scal_int (k : IntKind) (n : Int) : AV.scal (.int k n : AV) = true := rfl
@[simp] theorem flat1_int (k : IntKind) (n : Int) : AV.flat1 (.int k n : AV) = true := rfl
@[simp] theorem deepArg_int (k : IntKind) (n : Int) : AV.deepArg (.int k n : AV) = true := rfl
@[simp] theorem isFlat_int (k : IntKind) (n : Int) : AV.isFlat (.int k n : AV) = true := rfl
@[simp] theorem nrmC_int (k : IntKind) (n : Int) : nrmC (.int k n : AV) = (.int k n : AV) := rfl
@[simp] theorem nrmV_int (k : IntKind) (n : Int) : nrmV (.int k n : AV) = (.int k n : AV) := rfl
@[simp] theorem view_int (H : List Blk) (d : Nat) (k : IntKind) (n : Int) : view H d (.int k n : AV) = (.int k n : AV) := by cases d <;> rfl
@[simp] theorem reach_int (H : List Blk) (d : Nat) (k : IntKind) (n : Int) : reach H d (.int k n : AV) = [] := by cases d <;> rfl
@[simp] theorem isDeep_str (s : ByteArray) : AV.isDeep (.str s : AV) = true := rfl
@[simp] theorem isCell_str (s : ByteArray) : AV.isCell (.str s : AV) = true := rfl
@[simp] theorem scal_str (s : ByteArray) : AV.scal (.str s : AV) = true := rfl
@[simp] theorem flat1_str (s : ByteArray) : AV.flat1 (.str s : AV) = true := rfl
@[simp] theorem deepArg_str (s : ByteArray) : AV.deepArg (.str s : AV) = true := rfl
@[simp] theorem isFlat_str (s : ByteArray) : AV.isFlat (.str s : AV) = true := rfl
@[simp] theorem nrmC_str (s : ByteArray) : nrmC (.str s : AV) = (.str s : AV) := rfl
@[simp] theorem nrmV_str (s : ByteArray) : nrmV (.str s : AV) = (.str s : AV) := rfl
@[simp] theorem view_str (H : List Blk) (d : Nat) (s : ByteArray) : view H d (.str s : AV) = (.str s : AV) := by cases d <;> rfl
@[simp] theorem reach_str (H : List Blk) (d : Nat) (s : ByteArray) : reach H d (.str s : AV) = [] := by cases d <;> rfl
@[simp] theorem isDeep_slice (sz : Nat) (full : Bool) (rows : List (List AV)) : AV.isDeep (.slice sz full rows : AV) = true := rfl
@[simp] theorem isCell_slice (sz : Nat) (full : Bool) (rows : List (List AV)) : AV.isCell (.slice sz full rows : AV) = true := rfl
@[simp] theorem scal_slice (sz : Nat) (full : Bool) (rows : List (List AV)) : AV.scal (.slice sz full rows : AV) = false := rfl
@[simp] theorem flat1_slice (sz : Nat) (full : Bool) (rows : List (List AV)) : AV.flat1 (.slice sz full rows : AV) = false := rfl
@[simp] theorem deepArg_slice (sz : Nat) (full : Bool) (rows : List (List AV)) : AV.deepArg (.slice sz full rows : AV) = true := rfl
@[simp] theorem isFlat_slice (sz : Nat) (full : Bool) (rows : List (List AV)) : AV.isFlat (.slice sz full rows : AV) = false := rfl
@[simp] theorem nrmC_slice (sz : Nat) (full : Bool) (rows : List (List AV)) : nrmC (.slice sz full rows : AV) = (.slice sz false rows : AV) := rfl
@[simp] theorem nrmV_slice (sz : Nat) (full : Bool) (rows : List (List AV)) : nrmV (.slice sz full rows : AV) = (.slice sz false rows : AV) := rfl
@[simp] theorem view_slice (H : List Blk) (d : Nat) (sz : Nat) (full : Bool) (rows : List (List AV)) : view H d (.slice sz full rows : AV) = (.slice sz full rows : AV) := by cases d <;> rfl
@[simp] theorem reach_slice (H : List Blk) (d : Nat) (sz : Nat) (full : Bool) (rows : List (List AV)) : reach H d (.slice sz full rows : AV) = [] := by cases d <;> rfl
@[simp] theorem isDeep_own (l n : Nat) : AV.isDeep (.own l n : AV) = false := rfl
@[simp] theorem isCell_own (l n : Nat) : AV.isCell (.own l n : AV) = true := rfl
@[simp] theorem scal_own (l n : Nat) : AV.scal (.own l n : AV) = false := rfl
@[simp] theorem flat1_own (l n : Nat) : AV.flat1 (.own l n : AV) = false := rfl
@[simp] theorem deepArg_own (l n : Nat) : AV.deepArg (.own l n : AV) = false := rfl
@[simp] theorem isFlat_own (l n : Nat) : AV.isFlat (.own l n : AV) = false := rfl
@[simp] theorem nrmC_own (l n : Nat) : nrmC (.own l n : AV) = (.own l n : AV) := rfl
@[simp] theorem nrmV_own (l n : Nat) : nrmV (.own l n : AV) = (.own l n : AV) := rfl
@[simp] theorem isDeep_ptr (l n sz i f : Nat) : AV.isDeep (.ptr l n sz i f : AV) = false := rfl
@[simp] theorem isCell_ptr (l n sz i f : Nat) : AV.isCell (.ptr l n sz i f : AV) = true := rfl
@[simp] theorem scal_ptr (l n sz i f : Nat) : AV.scal (.ptr l n sz i f : AV) = false := rfl
@[simp] theorem flat1_ptr (l n sz i f : Nat) : AV.flat1 (.ptr l n sz i f : AV) = false := rfl
@[simp] theorem deepArg_ptr (l n sz i f : Nat) : AV.deepArg (.ptr l n sz i f : AV) = false := rfl
@[simp] theorem isFlat_ptr (l n sz i f : Nat) : AV.isFlat (.ptr l n sz i f : AV) = false := rfl
@[simp] theorem nrmC_ptr (l n sz i f : Nat) : nrmC (.ptr l n sz i f : AV) = (.ptr l n sz i f : AV) := rfl
@[simp] theorem nrmV_ptr (l n sz i f : Nat) : nrmV (.ptr l n sz i f : AV) = (.ptr l n sz i f : AV) := rfl
@[simp] theorem isDeep_iptr (cs : List AV) : AV.isDeep (.iptr cs : AV) = true := rfl
@[simp] theorem isCell_iptr (cs : List AV) : AV.isCell (.iptr cs : AV) = true := rfl
@[simp] theorem scal_iptr (cs : List AV) : AV.scal (.iptr cs : AV) = false := rfl
@[simp] theorem flat1_iptr (cs : List AV) : AV.flat1 (.iptr cs : AV) = false := rfl
@[simp] theorem deepArg_iptr (cs : List AV) : AV.deepArg (.iptr cs : AV) = true := rfl
@[simp] theorem isFlat_iptr (cs : List AV) : AV.isFlat (.iptr cs : AV) = false := rfl
@[simp] theorem nrmC_iptr (cs : List AV) : nrmC (.iptr cs : AV) = (.iptr cs : AV) := rfl
@[simp] theorem nrmV_iptr (cs : List AV) : nrmV (.iptr cs : AV) = (.iptr cs : AV) := rfl
@[simp] theorem view_iptr (H : List Blk) (d : Nat) (cs : List AV) : view H d (.iptr cs : AV) = (.iptr cs : AV) := by cases d <;> rfl
@[simp] theorem reach_iptr (H : List Blk) (d : Nat) (cs : List AV) : reach H d (.iptr cs : AV) = [] := by cases d <;> rfl
@[simp] theorem isDeep_nilptr  : AV.isDeep (AV.nilptr) = true := rfl
@[simp] theorem isCell_nilptr  : AV.isCell (AV.nilptr) = true := rfl
@[simp] theorem scal_nilptr  : AV.scal (AV.nilptr) = false := rfl
@[simp] theorem flat1_nilptr  : AV.flat1 (AV.nilptr) = true := rfl
@[simp] theorem deepArg_nilptr  : AV.deepArg (AV.nilptr) = true := rfl
@[simp] theorem isFlat_nilptr  : AV.isFlat (AV.nilptr) = true := rfl
@[simp] theorem nrmC_nilptr  : nrmC (AV.nilptr) = (AV.nilptr) := rfl
@[simp] theorem nrmV_nilptr  : nrmV (AV.nilptr) = (AV.nilptr) := rfl
@[simp] theorem view_nilptr (H : List Blk) (d : Nat)  : view H d (AV.nilptr) = (AV.nilptr) := by cases d <;> rfl
@[simp] theorem reach_nilptr (H : List Blk) (d : Nat)  : reach H d (AV.nilptr) = [] := by cases d <;> rfl
@[simp] theorem isDeep_anyb  : AV.isDeep (AV.anyb) = true := rfl
@[simp] theorem isCell_anyb  : AV.isCell (AV.anyb) = true := rfl
@[simp] theorem scal_anyb  : AV.scal (AV.anyb) = false := rfl
@[simp] theorem flat1_anyb  : AV.flat1 (AV.anyb) = false := rfl
@[simp] theorem deepArg_anyb  : AV.deepArg (AV.anyb) = true := rfl
@[simp] theorem isFlat_anyb  : AV.isFlat (AV.anyb) = false := rfl
@[simp] theorem nrmC_anyb  : nrmC (AV.anyb) = (AV.anyb) := rfl
@[simp] theorem nrmV_anyb  : nrmV (AV.anyb) = (AV.anyb) := rfl
@[simp] theorem view_anyb (H : List Blk) (d : Nat)  : view H d (AV.anyb) = (AV.anyb) := by cases d <;> rfl
@[simp] theorem reach_anyb (H : List Blk) (d : Nat)  : reach H d (AV.anyb) = [] := by cases d <;> rfl
@[simp] theorem isDeep_agg (cs : List AV) : AV.isDeep (.agg cs : AV) = false := rfl
@[simp] theorem isCell_agg (cs : List AV) : AV.isCell (.agg cs : AV) = false := rfl
@[simp] theorem scal_agg (cs : List AV) : AV.scal (.agg cs : AV) = false := rfl
@[simp] theorem flat1_agg (cs : List AV) : AV.flat1 (.agg cs : AV) = false := rfl
@[simp] theorem deepArg_agg (cs : List AV) : AV.deepArg (.agg cs : AV) = cs.all AV.isDeep := rfl
@[simp] theorem isFlat_agg (cs : List AV) : AV.isFlat (.agg cs : AV) = cs.all AV.flat1 := rfl
@[simp] theorem nrmC_agg (cs : List AV) : nrmC (.agg cs : AV) = (.agg cs : AV) := rfl
@[simp] theorem nrmV_agg (cs : List AV) : nrmV (.agg cs : AV) = (.agg (cs.map nrmC) : AV) := rfl
@[simp] theorem isDeep_tup (cs : List AV) : AV.isDeep (.tup cs : AV) = false := rfl
@[simp] theorem isCell_tup (cs : List AV) : AV.isCell (.tup cs : AV) = false := rfl
@[simp] theorem scal_tup (cs : List AV) : AV.scal (.tup cs : AV) = false := rfl
@[simp] theorem flat1_tup (cs : List AV) : AV.flat1 (.tup cs : AV) = false := rfl
@[simp] theorem deepArg_tup (cs : List AV) : AV.deepArg (.tup cs : AV) = false := rfl
@[simp] theorem nrmC_tup (cs : List AV) : nrmC (.tup cs : AV) = (.tup cs : AV) := rfl
@[simp] theorem nrmV_tup (cs : List AV) : nrmV (.tup cs : AV) = (.tup (cs.map fun c => match c with | .agg ds => .agg (ds.map nrmC) | c => nrmC c) : AV) := rfl
@[simp] theorem isDeep_fn (f : FuncId) (cs : List AV) : AV.isDeep (.fn f cs : AV) = false := rfl
@[simp] theorem isCell_fn (f : FuncId) (cs : List AV) : AV.isCell (.fn f cs : AV) = true := rfl
@[simp] theorem scal_fn (f : FuncId) (cs : List AV) : AV.scal (.fn f cs : AV) = false := rfl
@[simp] theorem flat1_fn (f : FuncId) (cs : List AV) : AV.flat1 (.fn f cs : AV) = false := rfl
@[simp] theorem deepArg_fn (f : FuncId) (cs : List AV) : AV.deepArg (.fn f cs : AV) = cs.all AV.isDeep := rfl
@[simp] theorem isFlat_fn (f : FuncId) (cs : List AV) : AV.isFlat (.fn f cs : AV) = false := rfl
@[simp] theorem nrmC_fn (f : FuncId) (cs : List AV) : nrmC (.fn f cs : AV) = (.fn f cs : AV) := rfl
@[simp] theorem nrmV_fn (f : FuncId) (cs : List AV) : nrmV (.fn f cs : AV) = (.fn f cs : AV) := rfl
@[simp] theorem isFlat_tup (cs : List AV) : AV.isFlat (.tup cs) = cs.all fun x => match x with | .agg cs => cs.all AV.flat1 | x => x.flat1 := rfl
@[simp] theorem view_agg (H : List Blk) (d : Nat) (cs : List AV) : view H (d + 1) (.agg cs) = .agg (cs.map (view H d)) := rfl
@[simp] theorem view_tup (H : List Blk) (d : Nat) (cs : List AV) : view H (d + 1) (.tup cs) = .tup (cs.map (view H d)) := rfl
@[simp] theorem view_fn (H : List Blk) (d : Nat) (f : FuncId) (cs : List AV) : view H (d + 1) (.fn f cs) = .fn f (cs.map (view H d)) := rfl
def viewR (H : List Blk) (d : Nat) (deep : Bool) (rows : List (List AV)) : List (List AV) := if deep then rows else rows.map fun r => r.map (view H d)
@[simp] theorem viewR_true (H : List Blk) (d : Nat) (rows : List (List AV)) : viewR H d true rows = rows := rfl
def viewO (H : List Blk) (d n : Nat) (b : Option Blk) : AV := match b with | some b => if b.rows.length = n then .slice b.sz false (viewR H d b.deep b.rows) else .undef | none => .undef
@[simp] theorem viewO_some (H : List Blk) (d n : Nat) (b : Blk) : viewO H d n (some b) = if b.rows.length = n then .slice b.sz false (viewR H d b.deep b.rows) else .undef := rfl
@[simp] theorem view_own (H : List Blk) (d l n : Nat) : view H (d + 1) (.own l n) = viewO H d n H[l]? := rfl
def viewC (H : List Blk) (d : Nat) (deep : Bool) (cs : List AV) : List AV := if deep then cs else cs.map (view H d)
@[simp] theorem viewC_true (H : List Blk) (d : Nat) (cs : List AV) : viewC H d true cs = cs := rfl
@[simp] theorem viewC_false (H : List Blk) (d : Nat) (cs : List AV) : viewC H d false cs = cs.map (view H d) := rfl
def viewP (H : List Blk) (d n sz i f : Nat) (b : Option Blk) : AV := match b with | some b => if b.rows.length = n ∧ b.sz = sz ∧ i < n then .iptr (viewC H d b.deep ((rowAt b.rows i).drop f)) else .undef | none => .undef
@[simp] theorem viewP_some (H : List Blk) (d n sz i f : Nat) (b : Blk) : viewP H d n sz i f (some b) = if b.rows.length = n ∧ b.sz = sz ∧ i < n then .iptr (viewC H d b.deep ((rowAt b.rows i).drop f)) else .undef := rfl
@[simp] theorem view_ptr (H : List Blk) (d l n sz i f : Nat) : view H (d + 1) (.ptr l n sz i f) = viewP H d n sz i f H[l]? := rfl
def reachR (H : List Blk) (d : Nat) (b : Option Blk) : List Nat := match b with | some b => if b.deep then [] else b.rows.flatMap fun r => r.flatMap (reach H d) | none => []
@[simp] theorem reachR_some (H : List Blk) (d : Nat) (b : Blk) : reachR H d (some b) = if b.deep then [] else b.rows.flatMap fun r => r.flatMap (reach H d) := rfl
@[simp] theorem reach_own (H : List Blk) (d l n : Nat) : reach H (d + 1) (.own l n) = l :: reachR H d H[l]? := rfl
@[simp] theorem reach_ptr (H : List Blk) (d l n sz i f : Nat) : reach H (d + 1) (.ptr l n sz i f) = l :: reachR H d H[l]? := rfl
@[simp] theorem reach_agg (H : List Blk) (d : Nat) (cs : List AV) : reach H (d + 1) (.agg cs) = cs.flatMap (reach H d) := rfl
@[simp] theorem reach_tup (H : List Blk) (d : Nat) (cs : List AV) : reach H (d + 1) (.tup cs) = cs.flatMap (reach H d) := rfl
@[simp] theorem reach_fn (H : List Blk) (d : Nat) (f : FuncId) (cs : List AV) : reach H (d + 1) (.fn f cs) = cs.flatMap (reach H d) := rfl
@[simp] theorem frzL_nil (ls : List Nat) (i : Nat) : frzL ls i [] = [] := rfl
@[simp] theorem frzL_cons (ls : List Nat) (i : Nat) (e : TypeId) (sz : Nat) (rows : List (List AV)) (mu deep : Bool) (r : List Blk) : frzL ls i (⟨e, sz, rows, mu, deep⟩ :: r) = ⟨e, sz, rows, mu && !ls.contains i, deep⟩ :: frzL ls (i + 1) r := by
  rw [frzL]
  cases ls.contains i <;> simp
@[simp] theorem frzL_no (i : Nat) : ∀ H : List Blk, frzL [] i H = H := by
  intro H
  induction H generalizing i with
  | nil => rfl
  | cons b r ih => rw [frzL, ih]; rfl
/-- What a result comes to. -/
def finK (H : List Blk) (r : AV) (o : Option (Prop × AV)) : Prop := match o with | some (ob, r') => ob ∧ nrmV (view H 6 r') = r | none => False
@[simp] theorem finK_some (H : List Blk) (r r' : AV) (ob : Prop) : finK H r (some (ob, r')) = (ob ∧ nrmV (view H 6 r') = r) := rfl
@[simp] theorem finP_eq (C : Ctx) (rs : List ResultVar) (r : AV) (ρ : List (Nat × AV)) (H : List Blk) : finP C rs r ⟨ρ, H⟩ = finK H r (aresults C ⟨ρ, H⟩ rs) := rfl
end Go.Proofs.YtankjfiaajpfoaaDoor
