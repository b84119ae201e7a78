/-
  Typed contracts: what a plain value of Lean's reads as; contexts as lists. Own work; no program in sight.
-/
import Derived.Test.YtankjfiaajpfoaaDoorAm21
namespace Go.Proofs.YtankjfiaajpfoaaDoor
open Go.RowKit

/-- A type of plain values and how they read. -/
class Enc (α : Type) where
  sz : Nat
  cells : α → List AV
  enc : α → AV
  unc : List AV → α
  dec : AV → α
  unc_cells : ∀ x, unc (cells x) = x
  dec_enc : ∀ x, dec (enc x) = x

instance : Enc Int where
  sz := 1
  cells n := [.int .i64 n]
  enc n := .int .i64 n
  unc l := match l with | [.int _ n] => n | _ => 0
  dec v := match v with | .int _ n => n | _ => 0
  unc_cells _ := rfl
  dec_enc _ := rfl

instance : Enc Bool where
  sz := 1
  cells n := [.bool n]
  enc n := .bool n
  unc l := match l with | [.bool n] => n | _ => false
  dec v := match v with | .bool n => n | _ => false
  unc_cells _ := rfl
  dec_enc _ := rfl

instance : Enc ByteArray where
  sz := 1
  cells n := [.str n]
  enc n := .str n
  unc l := match l with | [.str n] => n | _ => ByteArray.empty
  dec v := match v with | .str n => n | _ => ByteArray.empty
  unc_cells _ := rfl
  dec_enc _ := rfl

/-- A byte. -/
instance : Enc UInt8 where
  sz := 1
  cells n := [.int .u8 n.toNat]
  enc n := .int .u8 n.toNat
  unc l := match l with | [.int _ n] => UInt8.ofNat n.toNat | _ => 0
  dec v := match v with | .int _ n => UInt8.ofNat n.toNat | _ => 0
  unc_cells n := by simp
  dec_enc n := by simp

def encRows {α : Type} [Enc α] (l : List α) : List (List AV) := l.map Enc.cells

instance {α : Type} [Enc α] : Enc (List α) where
  sz := 1
  cells l := [.slice (Enc.sz α) false (l.map Enc.cells)]
  enc l := .slice (Enc.sz α) false (l.map Enc.cells)
  unc c := match c with | [.slice _ _ rows] => rows.map Enc.unc | _ => []
  dec v := match v with | .slice _ _ rows => rows.map Enc.unc | _ => []
  unc_cells l := by simp [Function.comp_def, Enc.unc_cells]
  dec_enc l := by simp [Function.comp_def, Enc.unc_cells]

/-- The i-th element, or some element. -/
def ix {α : Type} [Inhabited α] (l : List α) (i : Nat) : α := l.getD i default
theorem ix_lt {α : Type} [Inhabited α] {l : List α} {i : Nat} (h : i < l.length) : ix l i = l[i] := by simp [ix, h]
theorem ix_mem {α : Type} [Inhabited α] {l : List α} {i : Nat} (h : i < l.length) : ix l i ∈ l := by rw [ix_lt h]; exact List.getElem_mem h

section
variable {α : Type} [Enc α]
@[simp] theorem sz_int : Enc.sz Int = 1 := rfl
@[simp] theorem sz_bool : Enc.sz Bool = 1 := rfl
@[simp] theorem sz_str : Enc.sz ByteArray = 1 := rfl
@[simp] theorem sz_u8 : Enc.sz UInt8 = 1 := rfl
@[simp] theorem sz_list : Enc.sz (List α) = 1 := rfl
@[simp] theorem cells_int (n : Int) : Enc.cells n = [.int .i64 n] := rfl
@[simp] theorem cells_bool (n : Bool) : Enc.cells n = [.bool n] := rfl
@[simp] theorem cells_str (n : ByteArray) : Enc.cells n = [.str n] := rfl
@[simp] theorem cells_list (l : List α) : Enc.cells l = [.slice (Enc.sz α) false (encRows l)] := rfl
@[simp] theorem enc_int (n : Int) : Enc.enc n = .int .i64 n := rfl
@[simp] theorem enc_bool (n : Bool) : Enc.enc n = .bool n := rfl
@[simp] theorem enc_str (n : ByteArray) : Enc.enc n = .str n := rfl
@[simp] theorem enc_list (l : List α) : Enc.enc l = .slice (Enc.sz α) false (encRows l) := rfl
@[simp] theorem encRows_length (l : List α) : (encRows l).length = l.length := by simp [encRows]
@[simp] theorem encRows_nil : encRows ([] : List α) = [] := rfl
theorem encRows_append (l m : List α) : encRows (l ++ m) = encRows l ++ encRows m := by simp [encRows]
@[simp] theorem encRows_cons (x : α) (l : List α) : encRows (x :: l) = Enc.cells x :: encRows l := rfl
theorem encRows_set (l : List α) (i : Nat) (x : α) : (encRows l).set i (Enc.cells x) = encRows (l.set i x) := by simp [encRows, List.map_set]
theorem rowAt_enc [Inhabited α] {l : List α} {i : Nat} (h : i < l.length) : rowAt (encRows l) i = Enc.cells (ix l i) := by
  rw [rowAt_get (by simpa using h)]
  simp [encRows, ix, h]
theorem encRows_take (l : List α) (i : Nat) : (encRows l).take i = encRows (l.take i) := by simp [encRows, List.map_take]
theorem encRows_drop (l : List α) (i : Nat) : (encRows l).drop i = encRows (l.drop i) := by simp [encRows, List.map_drop]
@[simp] theorem dec_list (sz : Nat) (f : Bool) (l : List α) : (Enc.dec (.slice sz f (encRows l)) : List α) = l := by
  show (encRows l).map Enc.unc = l
  simp [encRows, Function.comp_def, Enc.unc_cells]
@[simp] theorem dec_int (k : IntKind) (n : Int) : (Enc.dec (.int k n) : Int) = n := rfl
@[simp] theorem dec_bool (n : Bool) : (Enc.dec (.bool n) : Bool) = n := rfl
@[simp] theorem dec_str (n : ByteArray) : (Enc.dec (.str n) : ByteArray) = n := rfl
@[simp] theorem dec_nil (sz : Nat) (f : Bool) : (Enc.dec (.slice sz f []) : List α) = [] := rfl
end

/-! ### Contexts -/
def look : List (Nat × Entry) → Nat → Entry
  | [], _ => .no
  | (k, e) :: r, f => if k = f then e else look r f

def mkC (P : Program) (G : Nat → AV) (l : List (Nat × Entry)) : Ctx := ⟨P, look l, G⟩
@[simp] theorem mkC_P (P : Program) (G : Nat → AV) (l : List (Nat × Entry)) : (mkC P G l).P = P := rfl
@[simp] theorem mkC_S (P : Program) (G : Nat → AV) (l : List (Nat × Entry)) : (mkC P G l).S = look l := rfl
@[simp] theorem mkC_G (P : Program) (G : Nat → AV) (l : List (Nat × Entry)) : (mkC P G l).G = G := rfl

theorem sigOK_nil (P : Program) (G : Nat → AV) : SigOK (mkC P G []) := fun _ => trivial
theorem sigOK_cons {P : Program} {G : Nat → AV} {l : List (Nat × Entry)} {k : Nat} {e : Entry} (h : EntryOK P G k e) (hl : SigOK (mkC P G l)) : SigOK (mkC P G ((k, e) :: l)) := by
  intro f
  show EntryOK P G f (look ((k, e) :: l) f)
  unfold look
  split
  · rename_i h'; subst h'; exact h
  · exact hl f

theorem entryPure {P : Program} {G : Nat → AV} {f : FuncId} {fn : Func} {p : List AV → Option (Prop × AV)} (h : PureOK P G f p) (hf : P.funcs[f]? = some fn) (hb : fn.body.isSome = true) (hn : fn.name ≠ "runtime.NumGoroutine") : EntryOK P G f (.pure p) := ⟨h, fn, hf, hn, hb⟩
theorem entryFrz {P : Program} {G : Nat → AV} {f : FuncId} {p : List AV → Option (Prop × AV)} (h : EntryOK P G f (.pure p)) : EntryOK P G f (.frz p) := h

/-! ### What a body must come to -/
def finP (C : Ctx) (rs : List ResultVar) (r : AV) (st : ASt) : Prop :=
  match aresults C st rs with
  | some (ob, r') => ob ∧ nrmV (view st.H 6 r') = r
  | none => False
def postP (C : Ctx) (rs : List ResultVar) (r : AV) : Exit → ASt → Prop
  | .normal, st => finP C rs r st
  | .ret, st => finP C rs r st
  | _, _ => False

/-- As pure_of_avc, the arguments without their marks. -/
theorem pure_of {C : Ctx} (hS : SigOK C) (hM : C.P.follows .mixedOrders = true) {f : FuncId} {fn : Func} {body : Code} {rs : List ResultVar} {n : Nat} (hf : C.P.funcs[f]? = some fn) (hb : fn.body = some body) (hrs : fn.results.toList = rs) (hn : fn.ntmps = n) (hok : codeOK C n body = true) {p : List AV → Option (Prop × AV)}
    (h : ∀ avs ob r, p avs = some (ob, r) → ob → avs.length ≤ n ∧ avc C n 0 body ⟨argsρ 0 (avs.map nrmV), []⟩ (postP C rs r)) : PureOK C.P C.G f p := by
  subst hrs hn
  intro w X args avs ob r hX hG hsz harg hp hob
  obtain ⟨hlen, hav⟩ := h avs ob r hp hob
  have := pure_of_avc (p := fun avs' => some (avs' = avs.map nrmV, r)) hS hM hf hb hok (fun avs' ob' r' hp' hob' => by
    injection hp' with hp'; injection hp' with e1 e2; subst e1 e2
    subst hob'
    refine ⟨by simpa using hlen, avc_mono body hav fun ex st' hq => ?_⟩
    have fin : finP C fn.results.toList r st' → ∃ ob' r', aresults C st' fn.results.toList = some (ob', r') ∧ ob' ∧ nrmV (view st'.H 6 r') = r := by
      unfold finP
      split
      · rename_i ob' r' hr; intro h; exact ⟨ob', r', hr, h.1, h.2⟩
      · intro h; exact h.elim
    cases ex with
    | normal => exact ⟨.inl rfl, fin hq⟩
    | ret => exact ⟨.inr rfl, fin hq⟩
    | _ => exact hq.elim)
  refine this w X args (avs.map nrmV) _ r hX hG (by simpa using hsz) (fun j u hu => ?_) rfl rfl
  rw [List.getElem?_map] at hu
  simp only [Option.map_eq_some_iff] at hu
  obtain ⟨av, hav, rfl⟩ := hu
  obtain ⟨v, h1, h2⟩ := harg j av hav
  exact ⟨v, h1, repD_nrmV h2⟩

/-! ### Contracts of typed functions -/
def spec0 (r : AV) : List AV → Option (Prop × AV)
  | [] => some (True, r)
  | _ => none
def spec1 {α : Type} [Enc α] (pre : α → Prop) (res : α → AV) : List AV → Option (Prop × AV)
  | [a] => some (nrmV a = Enc.enc (Enc.dec a : α) ∧ pre (Enc.dec a), res (Enc.dec a))
  | _ => none
def spec2 {α β : Type} [Enc α] [Enc β] (pre : α → β → Prop) (res : α → β → AV) : List AV → Option (Prop × AV)
  | [a, b] => some (nrmV a = Enc.enc (Enc.dec a : α) ∧ nrmV b = Enc.enc (Enc.dec b : β) ∧ pre (Enc.dec a) (Enc.dec b), res (Enc.dec a) (Enc.dec b))
  | _ => none
def spec3 {α β γ : Type} [Enc α] [Enc β] [Enc γ] (pre : α → β → γ → Prop) (res : α → β → γ → AV) : List AV → Option (Prop × AV)
  | [a, b, c] => some (nrmV a = Enc.enc (Enc.dec a : α) ∧ nrmV b = Enc.enc (Enc.dec b : β) ∧ nrmV c = Enc.enc (Enc.dec c : γ) ∧ pre (Enc.dec a) (Enc.dec b) (Enc.dec c), res (Enc.dec a) (Enc.dec b) (Enc.dec c))
  | _ => none
def spec4 {α β γ δ : Type} [Enc α] [Enc β] [Enc γ] [Enc δ] (pre : α → β → γ → δ → Prop) (res : α → β → γ → δ → AV) : List AV → Option (Prop × AV)
  | [a, b, c, d] => some (nrmV a = Enc.enc (Enc.dec a : α) ∧ nrmV b = Enc.enc (Enc.dec b : β) ∧ nrmV c = Enc.enc (Enc.dec c : γ) ∧ nrmV d = Enc.enc (Enc.dec d : δ) ∧ pre (Enc.dec a) (Enc.dec b) (Enc.dec c) (Enc.dec d), res (Enc.dec a) (Enc.dec b) (Enc.dec c) (Enc.dec d))
  | _ => none

section
variable {C : Ctx} (hS : SigOK C) (hM : C.P.follows .mixedOrders = true) {f : FuncId} {fn : Func} {body : Code} {rs : List ResultVar} {n : Nat} (hf : C.P.funcs[f]? = some fn) (hb : fn.body = some body) (hrs : fn.results.toList = rs) (hn : fn.ntmps = n)
include hS hM hf hb hrs hn

theorem pure0 (hok : codeOK C n body = true) {r : AV} (h : avc C n 0 body ⟨[], []⟩ (postP C rs r)) : PureOK C.P C.G f (spec0 r) :=
  pure_of hS hM hf hb hrs hn hok fun avs ob r' hp hob => by
    unfold spec0 at hp
    split at hp
    · injection hp with hp; injection hp with e1 e2; subst e1 e2
      exact ⟨Nat.zero_le _, h⟩
    · cases hp

theorem pure1 {α : Type} [Enc α] (hok : codeOK C n body = true) (hnn : 1 ≤ n) {pre : α → Prop} {res : α → AV} (h : ∀ a, pre a → avc C n 0 body ⟨[(0, Enc.enc a)], []⟩ (postP C rs (res a))) : PureOK C.P C.G f (spec1 pre res) :=
  pure_of hS hM hf hb hrs hn hok fun avs ob r' hp hob => by
    unfold spec1 at hp
    split at hp
    · injection hp with hp; injection hp with e1 e2; subst e1 e2
      refine ⟨hnn, ?_⟩
      have := h _ hob.2
      rw [← hob.1] at this
      exact this
    · cases hp

theorem pure2 {α β : Type} [Enc α] [Enc β] (hok : codeOK C n body = true) (hnn : 2 ≤ n) {pre : α → β → Prop} {res : α → β → AV} (h : ∀ a b, pre a b → avc C n 0 body ⟨[(0, Enc.enc a), (1, Enc.enc b)], []⟩ (postP C rs (res a b))) : PureOK C.P C.G f (spec2 pre res) :=
  pure_of hS hM hf hb hrs hn hok fun avs ob r' hp hob => by
    unfold spec2 at hp
    split at hp
    · injection hp with hp; injection hp with e1 e2; subst e1 e2
      refine ⟨hnn, ?_⟩
      have := h _ _ hob.2.2
      rw [← hob.1, ← hob.2.1] at this
      exact this
    · cases hp

theorem pure3 {α β γ : Type} [Enc α] [Enc β] [Enc γ] (hok : codeOK C n body = true) (hnn : 3 ≤ n) {pre : α → β → γ → Prop} {res : α → β → γ → AV} (h : ∀ a b c, pre a b c → avc C n 0 body ⟨[(0, Enc.enc a), (1, Enc.enc b), (2, Enc.enc c)], []⟩ (postP C rs (res a b c))) : PureOK C.P C.G f (spec3 pre res) :=
  pure_of hS hM hf hb hrs hn hok fun avs ob r' hp hob => by
    unfold spec3 at hp
    split at hp
    · injection hp with hp; injection hp with e1 e2; subst e1 e2
      refine ⟨hnn, ?_⟩
      have := h _ _ _ hob.2.2.2
      rw [← hob.1, ← hob.2.1, ← hob.2.2.1] at this
      exact this
    · cases hp

theorem pure4 {α β γ δ : Type} [Enc α] [Enc β] [Enc γ] [Enc δ] (hok : codeOK C n body = true) (hnn : 4 ≤ n) {pre : α → β → γ → δ → Prop} {res : α → β → γ → δ → AV} (h : ∀ a b c d, pre a b c d → avc C n 0 body ⟨[(0, Enc.enc a), (1, Enc.enc b), (2, Enc.enc c), (3, Enc.enc d)], []⟩ (postP C rs (res a b c d))) : PureOK C.P C.G f (spec4 pre res) :=
  pure_of hS hM hf hb hrs hn hok fun avs ob r' hp hob => by
    unfold spec4 at hp
    split at hp
    · injection hp with hp; injection hp with e1 e2; subst e1 e2
      refine ⟨hnn, ?_⟩
      have := h _ _ _ _ hob.2.2.2.2
      rw [← hob.1, ← hob.2.1, ← hob.2.2.1, ← hob.2.2.2.1] at this
      exact this
    · cases hp

end
end Go.Proofs.YtankjfiaajpfoaaDoor
