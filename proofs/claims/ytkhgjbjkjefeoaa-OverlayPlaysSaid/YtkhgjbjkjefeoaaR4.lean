/-
  Texts joined: AmO AmS AmN AmH AmP AmQ AmR OD T O1 O2.
-/
import Derived.Test.YtkhgjbjkjefeoaaR3
import Derived.RangeFuncLeaves
import Derived.RangeFuncRecord
import Derived.TacticsIn
import Derived.Shelf.SlSortCmp.NoneTotal
import Derived.Shelf.Spec.SlicesInsertGrow
import Derived.Test.YtkhgjbjkjefeoaaChecked
/-
  A piece of code in a round of a range over a function, and behind such a range (the activation then holds a mark among its deferred calls). Own work; no program in sight.
-/
namespace Go.Proofs.Ytkhgjbjkjefeoaa
open Go.RowKit
set_option linter.unusedVariables false

def withD (a : Act) (ds : List Deferred) : Act := { a with defers := a.defers ++ ds }
theorem withD_put (a : Act) (ds : List Deferred) (d : Option Tmp) (v : Value) : withD (a.put d v) ds = (withD a ds).put d v := by
  cases d <;> rfl
theorem withD_eval (a : Act) (ds : List Deferred) : (withD a ds).eval = a.eval := rfl
def PR (ds : List Deferred) (Q : Exit → Act → World → Prop) (ex : Exit) (a' : Act) (w' : World) : Prop := ∃ a'', Q ex a'' w' ∧ a' = withD a'' ds
def wideAt (ro : Option Nat) : Fence := { Fence.wide with round := ro }

theorem callsAt {ro : Option Nat} {n : Nat} {P : Program} {f : FuncId} {args : Array Value} {w : World} {R : Ending → World → Prop} (h : Calls P f args w R) : CallsIn (wideAt ro) n P f args w R := by
  have h := (callsIn_wide (n := n)).2 h
  cases ro with
  | none => exact h
  | some l => exact h
theorem rowsAt {ro : Option Nat} {n : Nat} {P : Program} {row : String} {args : Array Value} {w : World} {R : Value → World → Prop} (h : Rows P row args w R) : RowsIn (wideAt ro) n P row args w R := by
  intro c cs _
  obtain ⟨v, w', r, s⟩ := h c cs
  refine ⟨v, w', r, ?_⟩
  have : ∀ m m', Steps P m m' → StepsIn (Machine.fenced P Fence.wide) P m m' := fun m m' h => stepsIn_wide.2 h
  exact this _ _ s

theorem bridge {P : Program} {ro : Option Nat} {n : Nat} {ops : Array Oper} {Q : Exit → Act → World → Prop} (hQ : ∀ a w, ¬ Q .outgrown a w) (ds : List Deferred) : ∀ (l : List Oper), (∀ o ∈ l, ∀ c, o.op ≠ .defer c) → ∀ {a : Act} {w : World}, wpList P ops Q l a w →
    wpListIn (wideAt ro) n P ops (PR ds Q) l (withD a ds) w
  | [], _, a, w, h => ⟨a, h, rfl⟩
  | o :: r, hd, a, w, h => by
    have ih := fun {a : Act} {w : World} => bridge (P := P) (ro := ro) (n := n) (ops := ops) hQ ds r (fun o ho => hd o (List.mem_cons_of_mem _ ho)) (a := a) (w := w)
    unfold wpList at h
    unfold wpListIn
    have hw : Region.wanted o (yielded ops (withD a ds).tmps) = Region.wanted o (yielded ops a.tmps) := rfl
    rw [hw]
    split
    · rename_i hw1
      rw [if_pos hw1] at h
      rcases h with h | ⟨_, a0, w0, h⟩
      · refine ⟨fun _ _ => trivial, ?_⟩
        rw [withD_eval, Oper.semAt_eq _ _ _ (hd o (List.mem_cons_self ..))]
        unfold Oper.wp at h
        generalize (execOp a.eval o).run P w = res at h
        unfold Oper.upon at h
        unfold Oper.uponIn
        split at h
        · rename_i v w'
          show wpListIn (wideAt ro) n P ops (PR ds Q) r ((withD a ds).put o.dst v) w'
          rw [← withD_put]; exact ih h
        · rename_i w'
          show wpListIn (wideAt ro) n P ops (PR ds Q) r ((withD a ds).put o.dst undef) w'
          rw [← withD_put]; exact ih h
        · rename_i d w'
          have := ih h
          rw [withD_put] at this
          exact this
        · refine ⟨fun hd => (by cases hd), (callsAt h).mono ?_⟩
          intro e w' he
          cases e with
          | returned v =>
            show wpListIn (wideAt ro) n P ops (PR ds Q) r ((withD a ds).put o.dst v) w'
            rw [← withD_put]; exact ih he
          | panicked ch => exact ⟨a, he, rfl⟩
          | outgrown => obtain ⟨a0, w0, h0⟩ := he; exact absurd h0 (hQ _ _)
        · refine ⟨fun hd => (by cases hd), (rowsAt h).mono ?_⟩
          intro v w' he
          show wpListIn (wideAt ro) n P ops (PR ds Q) r ((withD a ds).put o.dst v) w'
          rw [← withD_put]; exact ih he
        · exact ⟨a, h, rfl⟩
        · exact h.elim
      · exact absurd h (hQ _ _)
    · rename_i hw1
      rw [if_neg hw1] at h
      refine ⟨fun _ _ => trivial, ?_⟩
      rw [← withD_put]
      exact ih h

def noDefer : Oper → Bool
  | ⟨_, .defer _, _, _, _, _⟩ => false
  | _ => true
theorem noDefer_ne {o : Oper} (h : noDefer o = true) (c : Call) : o.op ≠ .defer c := by
  rintro e
  obtain ⟨d, op, t, p, af, g⟩ := o
  simp only at e
  subst e
  cases h
/-- Code that may stand in a round. -/
def codeR (N : Nat) : Code → Bool
  | .skip => true
  | .region _ ops draw => !draw && (ops.toList.all fun o => match o.dst with | some d => decide (d < N) | none => true) && ops.toList.all noDefer
  | .seq a b => codeR N a && codeR N b
  | .cond _ a b => codeR N a && codeR N b
  | .block _ b => codeR N b
  | .ret => true
  | .exit _ => true
  | _ => false

section
variable {C : Ctx} {N h0 : Nat}
theorem inR_sound (hS : SigOK C) {ro : Option Nat} {n : Nat} {ds : List Deferred} {X : Nat → Prop} {w0 : World} {β0 : List BI} {H0 : List Blk} : ∀ (code : Code) {st : ASt} {Q : Exit → ASt → Prop}, codeR N code = true → avcH C [] N h0 code st Q → ∀ {a : Act} {w : World}, Rel C N X w0 β0 H0 st a w →
    code.wpIn (wideAt ro) n C.P (PR ds fun ex a' w' => ∃ st', Q ex st' ∧ Rel C N X w0 β0 H0 st' a' w') (withD a ds) w
  | .skip, st, Q, _, h, a, w, hr => wpIn_skip ⟨a, ⟨st, h, hr⟩, rfl⟩
  | .ret, st, Q, _, h, a, w, hr => wpIn_ret ⟨a, ⟨st, h, hr⟩, rfl⟩
  | .exit id, st, Q, _, h, a, w, hr => wpIn_exit ⟨a, ⟨st, h, hr⟩, rfl⟩
  | .region id ops draw, st, Q, hok, h, a, w, hr => by
    simp only [codeR, Bool.and_eq_true, Bool.not_eq_true'] at hok
    obtain ⟨⟨hdr, hd⟩, hnd⟩ := hok
    subst hdr
    have h : aops C ops ops.toList st (Q .normal) := h
    have hw := wpList_of_aops (Q := fun ex a' w' => ex = .normal ∧ ∃ st', Q .normal st' ∧ Rel C N X w0 β0 H0 st' a' w') hS (ops := ops) ops.toList (fun o ho d hd' => by
      have := List.all_eq_true.1 hd o ho
      rw [hd'] at this
      simpa using this) h hr fun st' a' w' hr' hk => ⟨rfl, st', hk, hr'⟩
    refine wpIn_mono (wpIn_region_list (bridge (ro := ro) (n := n) (fun a w h => by cases h.1) ds ops.toList (fun o ho c => noDefer_ne (List.all_eq_true.1 hnd o ho) c) hw)) ?_
    rintro e a' w' ⟨a'', ⟨rfl, h1⟩, h2⟩
    exact ⟨a'', h1, h2⟩
  | .seq x y, st, Q, hok, h, a, w, hr => by
    simp only [codeR, Bool.and_eq_true] at hok
    have h : avcH C [] N h0 x st (goOn (fun st' => avcH C [] N h0 y st' Q) Q) := h
    refine wpIn_seq (wpIn_mono (inR_sound hS x hok.1 h hr) ?_)
    rintro e a' w' ⟨a'', ⟨st', hq, hr'⟩, rfl⟩
    cases e with
    | normal => exact inR_sound hS y hok.2 hq hr'
    | _ => exact ⟨a'', ⟨st', hq, hr'⟩, rfl⟩
  | .block id x, st, Q, hok, h, a, w, hr => by
    simp only [codeR] at hok
    have h : avcH C [] N h0 x st (outOf id Q) := h
    refine wpIn_block (wpIn_mono (inR_sound hS x hok h hr) ?_)
    rintro e a' w' ⟨a'', ⟨st', hq, hr'⟩, rfl⟩
    cases e with
    | exit j =>
      simp only [Exit.inBlock, outOf] at hq ⊢
      split
      · rename_i e; rw [if_pos e] at hq; exact ⟨a'', ⟨st', hq, hr'⟩, rfl⟩
      · rename_i e; rw [if_neg e] at hq; exact ⟨a'', ⟨st', hq, hr'⟩, rfl⟩
    | _ => exact ⟨a'', ⟨st', hq, hr'⟩, rfl⟩
  | .cond c x y, st, Q, hok, h, a, w, hr => by
    simp only [codeR, Bool.and_eq_true] at hok
    have h : onBool (aev C st.ρ 0 c) fun b => both b (avcH C [] N h0 x st Q) (avcH C [] N h0 y st Q) := h
    have hr0 := hr
    obtain ⟨β, R, S0, Tr, G, hN, hdef⟩ := hr0
    have hE := aev_sound Tr G 0 c
    unfold onBool at h
    split at h
    · rename_i b hb
      rw [hb] at hE
      have hc : (withD a ds).eval c = .bool b := rep_bool hE
      refine wpIn_cond hc ?_
      cases b
      · exact inR_sound hS y hok.2 (h.2 rfl) hr
      · exact inR_sound hS x hok.1 (h.1 rfl) hr
    · rename_i hb
      rw [hb] at hE
      obtain ⟨b, hb'⟩ := rep_anyb hE
      have hc : (withD a ds).eval c = .bool b := hb'
      refine wpIn_cond hc ?_
      cases b
      · exact inR_sound hS y hok.2 (h.2.2 rfl) hr
      · exact inR_sound hS x hok.1 (h.1.1 rfl) hr
    · exact h.elim
end

/-! ### A block that holds no data (a loop's record, the block of its deferred calls) is laid and written -/
def isOdd : Obj → Bool
  | .loop _ => true
  | .deferred _ => true
  | _ => false
theorem cell_odd {w : World} {b c off : Nat} {v : Value} {o0 : Obj} (hb : w.heap[b]? = some o0) (ho : isOdd o0 = true) (hc : w.cell? ⟨c, off, none⟩ = some v) : c ≠ b := by
  rintro rfl
  unfold World.cell? at hc
  simp only at hc
  split at hc
  · rename_i h
    rw [hb] at h
    cases h
    cases ho
  · cases hc
theorem RepD.odd {w : World} {b : Nat} {o0 o : Obj} (hb : w.heap[b]? = some o0) (ho : isOdd o0 = true) {X : Nat → Prop} {v : Value} {av : AV} (h : RepD w X v av) : RepD (w.putObj b o) X v av := by
  have hcell : ∀ {c off : Nat} {u : Value}, w.cell? ⟨c, off, none⟩ = some u → (w.putObj b o).cell? ⟨c, off, none⟩ = some u := fun {c off u} hc => by
    have hne := cell_odd hb ho hc
    rw [← hc]
    exact World.cell?_of_block (World.putObj_heap_other hne)
  induction h with
  | undef v => exact .undef v
  | bool b => exact .bool b
  | int k n => exact .int k n
  | str s => exact .str s
  | nilptr => exact .nilptr
  | anyb b => exact .anyb b
  | mapp b => exact .mapp b
  | tab c k zs t fr hc hx =>
    have hne : c ≠ b := by rintro rfl; rw [hb] at hc; cases hc; cases ho
    exact .tab c k zs t fr ((World.putObj_heap_other hne).trans hc) hx
  | slice sz full rows a n cap val hn h1 h2 h3 hr hm hv ih =>
    refine .slice sz full rows a n cap val hn h1 h2 h3 hr (fun h0 => ?_) ih
    obtain ⟨c, off, rfl, hlt, hx, hc⟩ := hm h0
    exact ⟨c, off, rfl, by rw [World.putObj_size]; exact hlt, hx, fun i j hi hj => ⟨hcell (hc i j hi hj).1, (hc i j hi hj).2⟩⟩
  | iptr c off cells val hlt hx hm hv ih => exact .iptr c off cells val (by rw [World.putObj_size]; exact hlt) hx (fun j hj => ⟨hcell (hm j hj).1, (hm j hj).2⟩) ih
  | agg cs cells val hl hm hv ih => exact .agg cs cells val hl hm ih
  | tup cs cells val hl hm hv ih => exact .tup cs cells val hl hm ih
  | fn f cs cells val hl hm hv ih => exact .fn f cs cells val hl hm ih
theorem Rep.odd {w : World} {b : Nat} {o0 o : Obj} (hb : w.heap[b]? = some o0) (ho : isOdd o0 = true) {X : Nat → Prop} {β : List BI} {H : List Blk} {v : Value} {av : AV} (h : Rep w X β H v av) : Rep (w.putObj b o) X β H v av := by
  induction h with
  | deep h => exact .deep (h.odd hb ho)
  | own l n a cap b' hb' hn h0 hc hx => exact .own l n a cap b' hb' hn h0 hc hx
  | osl l n sz off len a cap b' hb' hn hle h0 hc hx => exact .osl l n sz off len a cap b' hb' hn hle h0 hc hx
  | ptr l n sz i f a b' hb' hn hx => exact .ptr l n sz i f a b' hb' hn hx
  | agg cs cells val hl hm hv ih => exact .agg cs cells val hl hm ih
  | tup cs cells val hl hm hv ih => exact .tup cs cells val hl hm ih
  | fn f cs cells val hl hm hv ih => exact .fn f cs cells val hl hm ih
theorem HRel.odd {w : World} {b : Nat} {o0 o : Obj} (hb : w.heap[b]? = some o0) (ho : isOdd o0 = true) {X : Nat → Prop} {β : List BI} {H : List Blk} (h : HRel w X β H) : HRel (w.putObj b o) X β H := by
  refine ⟨h.len, fun l bi bk h1 h2 => ?_, fun l c cap h1 => by rw [World.putObj_size]; exact h.lt l c cap h1, h.inj, fun c hc => by rw [World.putObj_size]; exact h.base c hc⟩
  have := h.blk l bi bk h1 h2
  cases bi with
  | nil => exact this
  | lies c cap =>
    obtain ⟨cur, k1, k2, k3, k4, k5, k6, k7⟩ := this
    have hne : c ≠ b := by rintro rfl; rw [hb] at k1; cases k1; cases ho
    refine ⟨cur, (World.putObj_heap_other hne).trans k1, k2, k3, k4, k5, k6, fun i j r av hr hj => ?_⟩
    obtain ⟨v, q1, q2, q3, q4⟩ := k7 i j r av hr hj
    exact ⟨v, q1, q2, q3.odd hb ho, fun hd => (q4 hd).odd hb ho⟩
theorem GV.odd {P : Program} {w : World} {b : Nat} {o0 o : Obj} (hb : w.heap[b]? = some o0) (ho : isOdd o0 = true) {X : Nat → Prop} {g : Nat} {av : AV} (h : GV P w X g av) : GV P (w.putObj b o) X g av := by
  cases av
  case mapof k e L =>
    obtain ⟨h1, h2⟩ := h
    refine ⟨h1.same (World.putObj_heap_other ?_), h2⟩
    rintro rfl
    obtain ⟨D, ⟨es, clock, q1, q2⟩, q3⟩ := h1
    rw [hb] at q1
    cases q1
    cases ho
  all_goals exact RepD.odd hb ho (show RepD w X _ _ from h)
section
variable {C : Ctx} {N : Nat} {X : Nat → Prop} {w0 : World} {β0 : List BI} {H0 : List Blk} {st : ASt} {a : Act} {w : World}
theorem Rel.odd {b : Nat} {o0 o : Obj} (hb : w.heap[b]? = some o0) (ho : isOdd o0 = true) (hlo : w0.heap.size ≤ b) (h : Rel C N X w0 β0 H0 st a w) : Rel C N X w0 β0 H0 st a (w.putObj b o) := by
  obtain ⟨β, R, S, T, G, hN, hd⟩ := h
  refine ⟨β, R.odd hb ho, ⟨⟨S.keeps.os, S.keeps.tape, S.keeps.output, by rw [World.putObj_size]; exact S.keeps.size, fun c hc hn => (World.putObj_heap_other (by omega)).trans (S.keeps.block c hc hn), S.keeps.drawn⟩, S.grow, S.len⟩, fun t => (T t).odd hb ho, fun g => (G g).odd hb ho, hN, hd⟩
theorem Rel.alloc (o : Obj) (h : Rel C N X w0 β0 H0 st a w) : Rel C N X w0 β0 H0 st a (w.alloc o) := by
  obtain ⟨β, R, S, T, G, hN, hd⟩ := h
  have hk : Keeps (fun _ => False) w (w.alloc o) := Keeps.alloc _ _ _
  exact ⟨β, R.quiet hk, S.trans (StepR.quiet hk R.len), fun t => (T t).keep (StepR.quiet hk R.len), fun g => (G g).keep (fun b hb hn => hk.block b hb (fun h => h)) hk.size (fun b _ h => h), hN, hd⟩
/-- The same state, told from here. -/
theorem Rel.here (h : Rel C N X w0 β0 H0 st a w) : ∃ β, Rel C N X w β st.H st a w ∧ StepR w0 β0 H0 w β st.H := by
  obtain ⟨β, R, S, T, G, hN, hd⟩ := h
  exact ⟨β, ⟨β, R, StepR.refl _ _ _ R.len, T, G, hN, hd⟩, S⟩
theorem Rel.there {β1 : List BI} {w1 : World} {H1 : List Blk} (S0 : StepR w0 β0 H0 w1 β1 H1) (h : Rel C N X w1 β1 H1 st a w) : Rel C N X w0 β0 H0 st a w := by
  obtain ⟨β, R, S, T, G, hN, hd⟩ := h
  exact ⟨β, R, S0.trans S, T, G, hN, hd⟩
end
end Go.Proofs.Ytkhgjbjkjefeoaa

/-
  A function with a range over a function in it: the pieces ahead of it by their conditions. Own work; no program in sight.
-/
namespace Go.Proofs.Ytkhgjbjkjefeoaa
open Go.RowKit
set_option linter.unusedVariables false

def RX (C : Ctx) (fn : Func) (r : AV) (X : Nat → Prop) (w0 : World) : Exit → Act → World → Prop :=
  bodyPostM Fence.wide 9 C.P fn fun e w' => ∃ v, e = .returned v ∧ Keeps (fun _ => False) w0 w' ∧ RepD w' X v r
def AWX (C : Ctx) (N : Nat) (fn : Func) (r : AV) (code : Code) (st : ASt) : Prop :=
  ∀ (X : Nat → Prop) (w0 : World) (a : Act) (w : World), Rel C N X w0 [] [] st a w → code.wpIn Fence.wide 9 C.P (RX C fn r X w0) a w
@[congr] theorem AWX_congr {C : Ctx} {N : Nat} {fn : Func} {r : AV} {code : Code} {st st' : ASt} (h : mark st = st') : AWX C N fn r code st = AWX C N fn r code st' := by rw [mark_eq] at h; rw [h]

section
variable {C : Ctx} {N : Nat} {fn : Func} {r : AV}
theorem leaves_fin {X : Nat → Prop} {w0 : World} {st : ASt} {a : Act} {w : World} (h : finP C fn.results.toList r st) (hr : Rel C N X w0 [] [] st a w) : LeavesIn Fence.wide 9 C.P fn a.tmps (fun e w' => ∃ v, e = .returned v ∧ Keeps (fun _ => False) w0 w' ∧ RepD w' X v r) [] .returning w := by
  unfold finP at h
  split at h
  · rename_i ob' r' hres
    obtain ⟨hob', hview⟩ := h
    obtain ⟨β', R', S', T', G', hN', hdef'⟩ := hr
    obtain ⟨u, hu, hrep⟩ := aresults_sound R' T' hres hob'
    have hv := (view_sound R' (fun _ => True) 6 hrep (fun _ _ => trivial)).mono (X' := X) fun b _ hb => .inl hb
    have hv := repD_nrmV hv
    rw [hview] at hv
    exact ⟨u, hu, u, rfl, S'.keeps.weaken (fun b _ h => by obtain ⟨l, c, blk, h1, _, _⟩ := h; simp at h1), hv⟩
  · exact h.elim
theorem rx_fin {X : Nat → Prop} {w0 : World} {st : ASt} {a : Act} {w : World} {ex : Exit} (h : postP C fn.results.toList r ex st) (hr : Rel C N X w0 [] [] st a w) : RX C fn r X w0 ex a w := by
  have hd : a.defers = [] := by obtain ⟨_, _, _, _, _, _, h⟩ := hr; exact h
  cases ex with
  | normal => show LeavesInM _ _ _ _ _ _ a.defers _ _; rw [hd]; exact leaves_fin h hr
  | ret => show LeavesInM _ _ _ _ _ _ a.defers _ _; rw [hd]; exact leaves_fin h hr
  | _ => exact h.elim
theorem rx_mark {X : Nat → Prop} {w0 : World} {st : ASt} {a : Act} {w : World} {ex : Exit} {D : Nat} (hD : w.heap[D]? = some (.deferred (some []))) (hlo : w0.heap.size ≤ D) (h : postP C fn.results.toList r ex st) (hr : Rel C N X w0 [] [] st a w) :
    RX C fn r X w0 ex (withD a [{ target := .collected D, args := #[] }]) w := by
  have hd : a.defers = [] := by obtain ⟨_, _, _, _, _, _, h⟩ := hr; exact h
  have key : finP C fn.results.toList r st → LeavesInM Fence.wide 9 C.P fn a.tmps (fun e w' => ∃ v, e = .returned v ∧ Keeps (fun _ => False) w0 w' ∧ RepD w' X v r) [{ target := .collected D, args := #[] }] .returning w := fun h =>
    ⟨by simp, .inl ⟨D, _, rfl, run_takeDeferred hD, leaves_fin h (hr.odd hD rfl hlo)⟩⟩
  cases ex with
  | normal => show LeavesInM _ _ _ _ _ _ (a.defers ++ _) _ _; rw [hd]; exact key h
  | ret => show LeavesInM _ _ _ _ _ _ (a.defers ++ _) _ _; rw [hd]; exact key h
  | _ => exact h.elim
theorem AWX_seq (hS : SigOK C) (hM : C.P.follows .mixedOrders = true) (hd : List Nat) {a b : Code} {st : ASt} (hok : codeOKH C hd N a = true) (h : avcH C hd N 0 a st (goOn (AWX C N fn r b) (postP C fn.results.toList r))) : AWX C N fn r (.seq a b) st := fun X w0 x w hr => by
  refine wpIn_seq (wpIn_mono (wpIn_wide.2 (avcH_sound hS hM a hok h X w0 [] [] x w rfl hr)) ?_)
  rintro e a' w' ⟨st', hq, hr'⟩
  cases e with
  | normal => exact hq X w0 a' w' hr'
  | _ => exact rx_fin hq hr'
theorem AWX.weak {code : Code} {st st' : ASt} (hw : Weak C N 0 st st') (h : AWX C N fn r code st') : AWX C N fn r code st := fun X w0 a w hr => h X w0 a w (hw X w0 [] [] a w rfl hr)
/-- b, then c, in a function's body. -/
def AWXb (C : Ctx) (N : Nat) (fn : Func) (r : AV) (b c : Code) (st : ASt) : Prop :=
  ∀ (X : Nat → Prop) (w0 : World) (a : Act) (w : World), Rel C N X w0 [] [] st a w → b.wpIn Fence.wide 9 C.P (Exit.then (c.wpIn Fence.wide 9 C.P (RX C fn r X w0)) (RX C fn r X w0)) a w
@[congr] theorem AWXb_congr {C : Ctx} {N : Nat} {fn : Func} {r : AV} {b c : Code} {st st' : ASt} (h : mark st = st') : AWXb C N fn r b c st = AWXb C N fn r b c st' := by rw [mark_eq] at h; rw [h]
theorem AWXb.weak {b c : Code} {st st' : ASt} (hw : Weak C N 0 st st') (h : AWXb C N fn r b c st') : AWXb C N fn r b c st := fun X w0 a w hr => h X w0 a w (hw X w0 [] [] a w rfl hr)
theorem AWX_seq2 (hS : SigOK C) (hM : C.P.follows .mixedOrders = true) (hd : List Nat) {a b c : Code} {st : ASt} (hok : codeOKH C hd N a = true) (h : avcH C hd N 0 a st (goOn (AWXb C N fn r b c) (postP C fn.results.toList r))) : AWX C N fn r (.seq (.seq a b) c) st := fun X w0 x w hr => by
  refine wpIn_seq (wpIn_seq (wpIn_mono (wpIn_wide.2 (avcH_sound hS hM a hok h X w0 [] [] x w rfl hr)) ?_))
  rintro e a' w' ⟨st', hq, hr'⟩
  cases e with
  | normal => exact hq X w0 a' w' hr'
  | exit id => exact hq.elim
  | goto id => exact hq.elim
  | panic id => exact hq.elim
  | outgrown => exact hq.elim
  | ret =>
    have hq : postP C fn.results.toList r .ret st' := hq
    exact (rx_fin hq hr' : RX C fn r X w0 .ret a' w')
theorem pure2X {α β : Type} [Enc α] [Enc β] {f : FuncId} {body : Code} {n : Nat} (hf : C.P.funcs[f]? = some fn) (hb : fn.body = some body) (hn : fn.ntmps = n) (hnn : 2 ≤ n) {pre : α → β → Prop} {res : α → β → AV}
    (h : ∀ a b, pre a b → AWX C n fn (res a b) body ⟨[(0, Enc.enc a), (1, Enc.enc b)], []⟩) : PureOK C.P C.G f (spec2 pre res) := by
  subst hn
  intro w X args avs0 ob r' hX hG hsz0 harg0 hp hob
  obtain ⟨r0, hlen0, hav0⟩ : ∃ _ : r' = r', avs0.length ≤ fn.ntmps ∧ AWX C fn.ntmps fn r' body ⟨argsρ 0 (avs0.map nrmV), []⟩ := by
    unfold spec2 at hp
    split at hp
    · injection hp with hp; injection hp with e1 e2; subst e1 e2
      refine ⟨rfl, hnn, ?_⟩
      have := h _ _ hob.2.2
      rw [← hob.1, ← hob.2.1] at this
      exact this
    · cases hp
  generalize havs : avs0.map nrmV = avs at hav0
  have hlen : avs.length ≤ fn.ntmps := by rw [← havs]; simpa using hlen0
  have hsz : args.size = avs.length := by rw [← havs]; simpa using hsz0
  have harg : ∀ (j : Nat) (u : AV), avs[j]? = some u → ∃ v, args[j]? = some v ∧ RepD w X v u := fun j u hu => by
    rw [← havs, List.getElem?_map] at hu
    simp only [Option.map_eq_some_iff] at hu
    obtain ⟨av, hav, rfl⟩ := hu
    obtain ⟨v, h1, h2⟩ := harg0 j av hav
    exact ⟨v, h1, repD_nrmV h2⟩
  refine callsIn_wide.1 (callsIn_of_wp_marks (n := 9) hf hb trivial ?_)
  have hMu : ∀ b, Mu X [] [] b → X b := by
    rintro b (h | ⟨l, c, blk, h1, _, _⟩)
    · exact h
    · simp at h1
  have R : HRel w X [] [] := ⟨rfl, fun l bi b h1 _ => by simp at h1, fun l b c h1 => by simp at h1, fun l l' b c c' h1 => by simp at h1, hX⟩
  have hr : Rel C fn.ntmps X w [] [] ⟨argsρ 0 avs, []⟩ { tmps := args ++ Array.replicate (fn.ntmps - args.size) undef, defers := [] } w :=
    ⟨[], R, StepR.refl _ _ _ rfl, trel_args hsz (fun j u hj => let ⟨v, h1, h2⟩ := harg j u hj; ⟨v, h1, .deep (h2.mono fun b _ hb => hMu b hb)⟩), fun g => (hG g).mono fun b _ hb => hMu b hb, by simp; omega, rfl⟩
  exact hav0 X w _ w hr
end
end Go.Proofs.Ytkhgjbjkjefeoaa

/-
  A function that lays new blocks, with a range over a function in it. Own work; no program in sight.
-/
namespace Go.Proofs.Ytkhgjbjkjefeoaa
open Go.RowKit
set_option linter.unusedVariables false

/-- What stands at the end suffices. -/
def FinOK (C : Ctx) (N : Nat) (fn : Func) (X : Nat → Prop) (w0 : World) (Fin : ASt → Prop) (Post : Ending → World → Prop) : Prop :=
  ∀ (st : ASt) (a : Act) (w : World), Rel C N X w0 [] [] st a w → Fin st → ∃ v, (results fn a.tmps).run C.P w = .ok v w ∧ Post (.returned v) w
def PG (C : Ctx) (fn : Func) (Post : Ending → World → Prop) : Exit → Act → World → Prop := bodyPostM Fence.wide 9 C.P fn Post
def finG (Fin : ASt → Prop) : Exit → ASt → Prop
  | .normal, st => Fin st
  | .ret, st => Fin st
  | _, _ => False
def AWG (C : Ctx) (N : Nat) (fn : Func) (X : Nat → Prop) (w0 : World) (Post : Ending → World → Prop) (code : Code) (st : ASt) : Prop :=
  ∀ (a : Act) (w : World), Rel C N X w0 [] [] st a w → code.wpIn Fence.wide 9 C.P (PG C fn Post) a w
@[congr] theorem AWG_congr {C : Ctx} {N : Nat} {fn : Func} {X : Nat → Prop} {w0 : World} {Post : Ending → World → Prop} {code : Code} {st st' : ASt} (h : mark st = st') : AWG C N fn X w0 Post code st = AWG C N fn X w0 Post code st' := by rw [mark_eq] at h; rw [h]
/-- b, then c, in a function's body. -/
def AWGb (C : Ctx) (N : Nat) (fn : Func) (X : Nat → Prop) (w0 : World) (Post : Ending → World → Prop) (b c : Code) (st : ASt) : Prop :=
  ∀ (a : Act) (w : World), Rel C N X w0 [] [] st a w → b.wpIn Fence.wide 9 C.P (Exit.then (c.wpIn Fence.wide 9 C.P (PG C fn Post)) (PG C fn Post)) a w
@[congr] theorem AWGb_congr {C : Ctx} {N : Nat} {fn : Func} {X : Nat → Prop} {w0 : World} {Post : Ending → World → Prop} {b c : Code} {st st' : ASt} (h : mark st = st') : AWGb C N fn X w0 Post b c st = AWGb C N fn X w0 Post b c st' := by rw [mark_eq] at h; rw [h]

section
variable {C : Ctx} {N : Nat} {fn : Func} {X : Nat → Prop} {w0 : World} {Fin : ASt → Prop} {Post : Ending → World → Prop}
theorem pg_fin (hF : FinOK C N fn X w0 Fin Post) {st : ASt} {a : Act} {w : World} {ex : Exit} (h : finG Fin ex st) (hr : Rel C N X w0 [] [] st a w) : PG C fn Post ex a w := by
  have hd : a.defers = [] := by obtain ⟨_, _, _, _, _, _, h⟩ := hr; exact h
  cases ex with
  | normal => show LeavesInM _ _ _ _ _ _ a.defers _ _; rw [hd]; exact hF st a w hr h
  | ret => show LeavesInM _ _ _ _ _ _ a.defers _ _; rw [hd]; exact hF st a w hr h
  | _ => exact h.elim
theorem pg_mark (hF : FinOK C N fn X w0 Fin Post) {st : ASt} {a : Act} {w : World} {ex : Exit} {D : Nat} (hD : w.heap[D]? = some (.deferred (some []))) (hlo : w0.heap.size ≤ D) (h : finG Fin ex st) (hr : Rel C N X w0 [] [] st a w) :
    PG C fn Post ex (withD a [{ target := .collected D, args := #[] }]) w := by
  have hd : a.defers = [] := by obtain ⟨_, _, _, _, _, _, h⟩ := hr; exact h
  have key : Fin st → LeavesInM Fence.wide 9 C.P fn a.tmps Post [{ target := .collected D, args := #[] }] .returning w := fun h =>
    ⟨by simp, .inl ⟨D, _, rfl, run_takeDeferred hD, hF st a _ (hr.odd hD rfl hlo) h⟩⟩
  cases ex with
  | normal => show LeavesInM _ _ _ _ _ _ (a.defers ++ _) _ _; rw [hd]; exact key h
  | ret => show LeavesInM _ _ _ _ _ _ (a.defers ++ _) _ _; rw [hd]; exact key h
  | _ => exact h.elim
theorem AWG_seq (hF : FinOK C N fn X w0 Fin Post) (hS : SigOK C) (hM : C.P.follows .mixedOrders = true) (hd : List Nat) {a b : Code} {st : ASt} (hok : codeOKH C hd N a = true) (h : avcH C hd N 0 a st (goOn (AWG C N fn X w0 Post b) (finG Fin))) : AWG C N fn X w0 Post (.seq a b) st := fun x w hr => by
  refine wpIn_seq (wpIn_mono (wpIn_wide.2 (avcH_sound hS hM a hok h X w0 [] [] x w rfl hr)) ?_)
  rintro e a' w' ⟨st', hq, hr'⟩
  cases e with
  | normal => exact hq a' w' hr'
  | _ => exact pg_fin hF hq hr'
theorem AWG_seq2 (hF : FinOK C N fn X w0 Fin Post) (hS : SigOK C) (hM : C.P.follows .mixedOrders = true) (hd : List Nat) {a b c : Code} {st : ASt} (hok : codeOKH C hd N a = true) (h : avcH C hd N 0 a st (goOn (AWGb C N fn X w0 Post b c) (finG Fin))) : AWG C N fn X w0 Post (.seq (.seq a b) c) st := fun x w hr => by
  refine wpIn_seq (wpIn_seq (wpIn_mono (wpIn_wide.2 (avcH_sound hS hM a hok h X w0 [] [] x w rfl hr)) ?_))
  rintro e a' w' ⟨st', hq, hr'⟩
  cases e with
  | normal => exact hq a' w' hr'
  | exit id => exact hq.elim
  | goto id => exact hq.elim
  | panic id => exact hq.elim
  | outgrown => exact hq.elim
  | ret =>
    have hq : finG Fin .ret st' := hq
    exact (pg_fin hF hq hr' : PG C fn Post .ret a' w')
theorem AWGb.weak {b c : Code} {st st' : ASt} (hw : Weak C N 0 st st') (h : AWGb C N fn X w0 Post b c st') : AWGb C N fn X w0 Post b c st := fun a w hr => h a w (hw X w0 [] [] a w rfl hr)

theorem newX_of {f : FuncId} {body : Code} {rs : List ResultVar} {n : Nat} (hf : C.P.funcs[f]? = some fn) (hb : fn.body = some body) (hrs : fn.results.toList = rs) (hn : fn.ntmps = n) {p : List AV → Option (Prop × AV × List Blk)}
    (h : ∀ avs ob r Nn, p avs = some (ob, r, Nn) → ob → avs.length ≤ n ∧ okR Nn.length r = true ∧ (Nn.all (okB Nn.length)) = true ∧ ∃ s : List Nat, s.Nodup ∧ ∀ X w0 Post, FinOK C n fn X w0 (finN C rs s r Nn) Post → AWG C n fn X w0 Post body ⟨argsρ 0 avs, []⟩) : GenOK C.P C.G f (genNew p) := by
  subst hrs hn
  intro w X β H args avs0 ob r0 H' R hG hsz0 harg0 hp hob
  unfold genNew at hp
  split at hp
  · rename_i ob' r N hp'
    split at hp
    · rename_i hdeep
      injection hp with hp; injection hp with e1 e2; injection e2 with e2 e3; subst e1 e2 e3
      obtain ⟨hlen0, hokr, hokb, s, hnd, hav0⟩ := h avs0 ob' r N hp' hob
      have harg : ∀ (j : Nat) (u : AV), avs0[j]? = some u → ∃ v, args[j]? = some v ∧ RepD w (Mu X β H) v u := fun j u hu => by
        obtain ⟨v, h1, h2⟩ := harg0 j u hu
        exact ⟨v, h1, rep_deepArg (List.all_eq_true.1 hdeep u (List.mem_of_getElem? hu)) h2⟩
      refine callsIn_wide.1 (callsIn_of_wp_marks (n := 9) hf hb trivial ?_)
      have hMu : ∀ b, Mu (Mu X β H) [] [] b → Mu X β H b := by
        rintro b (h | ⟨l, c, blk, h1, _, _⟩)
        · exact h
        · simp at h1
      have R0 : HRel w (Mu X β H) [] [] := ⟨rfl, fun l bi b h1 _ => by simp at h1, fun l b c h1 => by simp at h1, fun l l' b c c' h1 => by simp at h1, R.mu_lt⟩
      have hr : Rel C fn.ntmps (Mu X β H) w [] [] ⟨argsρ 0 avs0, []⟩ { tmps := args ++ Array.replicate (fn.ntmps - args.size) undef, defers := [] } w :=
        ⟨[], R0, StepR.refl _ _ _ rfl, trel_args hsz0 (fun j u hj => let ⟨v, h1, h2⟩ := harg j u hj; ⟨v, h1, .deep (h2.mono fun b _ hb => hMu b hb)⟩), fun g => (hG g).mono fun b _ hb => hMu b hb, by simp; omega, rfl⟩
      refine hav0 (Mu X β H) w _ (fun st' a' w' hr' hfin => ?_) _ w hr
      unfold finN at hfin
      split at hfin
      · rename_i ob1 r1 hres
        obtain ⟨hob1, hr1, hH⟩ := hfin
        obtain ⟨β1, R', S', T', G', hN', hdef'⟩ := hr'
        obtain ⟨u, hu, hrep⟩ := aresults_sound R' T' hres hob1
        have hsl : s.length = N.length := by have := congrArg List.length hH; simpa using this
        have hgd : ∀ l (hl : l < s.length), s.getD l 0 = s[l] := fun l hl => by simp [List.getD_eq_getElem?_getD, hl]
        have hget : ∀ l b, N[l]? = some b → st'.H[s.getD l 0]? = some (renB (fun l => s.getD l 0) b) := by
          intro l b hb
          have hl : l < s.length := by rw [hsl]; exact (List.getElem?_eq_some_iff.1 hb).1
          have := congrArg (fun x => x[l]?) hH
          simp only [List.getElem?_map, hb, List.getElem?_eq_getElem hl, Option.map_some, Option.some.injEq] at this
          rw [hgd l hl]
          exact this
        have hβ : ∀ l, l < N.length → ∃ bi, β1[s.getD l 0]? = some bi := fun l hl => by
          have := (List.getElem?_eq_some_iff.1 (hget l N[l] (List.getElem?_eq_getElem hl))).1
          exact ⟨β1[s.getD l 0]'(by rw [R'.len]; exact this), List.getElem?_eq_getElem _⟩
        have SS : Sel (fun l => s.getD l 0) β1 st'.H ((List.range N.length).map fun l => (β1[s.getD l 0]?).getD .nil) N := by
          refine ⟨by simp, fun l hl => ?_, fun l b hb => ?_, fun l l' hl hl' e => ?_, fun b hb => List.all_eq_true.1 hokb b hb⟩
          · obtain ⟨bi, hbi⟩ := hβ l hl
            rw [List.getElem?_map, List.getElem?_range hl, Option.map_some, hbi]
            rfl
          · exact hget l b hb
          · simp only [hgd l (by omega), hgd l' (by omega)] at e
            exact (List.getElem_inj hnd).1 e
        generalize ((List.range N.length).map fun l => (β1[s.getD l 0]?).getD .nil) = β2 at SS
        have R2 := SS.hrel R'
        have hS2 : StepR w [] [] w' β2 N := by
          refine ⟨S'.keeps, ⟨fun l b h => by simp at h, fun l bk c h => ?_⟩, rfl⟩
          have hl : l < N.length := by rw [← SS.len]; exact (List.getElem?_eq_some_iff.1 h).1
          rw [SS.b l hl] at h
          rcases S'.grow.at_ _ bk c h with h | ⟨c', h⟩
          · exact .inl h
          · simp at h
        subst hr1
        have hrep2 := SS.repR hokr hrep
        exact ⟨u, hu, u, β ++ β2, rfl, up_hrel R R2 hS2 (fun b hb => List.all_eq_true.1 hokb b hb), up_step R hS2, up_repR R.len (fun b hb => (mu_app R.len).1 hb) hokr hrep2⟩
      · exact hfin.elim
    · cases hp
  · cases hp
end
end Go.Proofs.Ytkhgjbjkjefeoaa

/-
  Maps that the call itself writes: what is known of them stands among the context's variables, by the number of their block; a code that changes it. Own work; no program in sight.
-/
namespace Go.Proofs.Ytkhgjbjkjefeoaa
open Go.RowKit Go.ChangeMaps Go.MapKept
set_option linter.unusedVariables false

def upd (G : Nat → AV) (b : Nat) (v : AV) : Nat → AV := fun g => if g = b then v else G g
@[simp] theorem upd_same (G : Nat → AV) (b : Nat) (v : AV) : upd G b v b = v := if_pos rfl
theorem upd_ne (G : Nat → AV) {b g : Nat} (v : AV) (h : g ≠ b) : upd G b v g = G g := if_neg h
@[simp] theorem upd_upd (G : Nat → AV) (b : Nat) (v v' : AV) : upd (upd G b v) b v' = upd G b v' := by
  funext g
  unfold upd
  split <;> rfl
def CG (C : Ctx) (G : Nat → AV) : Ctx := { C with G := G }
@[simp] theorem CG_P (C : Ctx) (G : Nat → AV) : (CG C G).P = C.P := rfl
@[simp] theorem CG_S (C : Ctx) (G : Nat → AV) : (CG C G).S = C.S := rfl
@[simp] theorem CG_G (C : Ctx) (G : Nat → AV) : (CG C G).G = G := rfl
/-- G knows what C knows, and of blocks of which C knows nothing. -/
def Over (C : Ctx) (G : Nat → AV) : Prop := (∀ g, G g = C.G g ∨ C.G g = .undef) ∧ ∀ g k e L, C.G g ≠ .mapof k e L
theorem Over.refl {C : Ctx} (h : ∀ g k e L, C.G g ≠ .mapof k e L) : Over C C.G := ⟨fun _ => .inl rfl, h⟩
theorem GV.over {C : Ctx} {G : Nat → AV} (h : Over C G) {w : World} {X : Nat → Prop} (hG : ∀ g, GV C.P w X g (G g)) (g : Nat) : GV C.P w X g (C.G g) := by
  rcases h.1 g with e | e
  · rw [← e]; exact hG g
  · rw [e]; exact RepD.undef _
theorem sigOver {C : Ctx} (hS : SigOK C) {G : Nat → AV} (h : Over C G) : SigOK (CG C G) := by
  intro f
  have hf := hS f
  show EntryOK C.P G f (C.S f)
  cases hE : C.S f with
  | no => trivial
  | pure p =>
    rw [hE] at hf
    exact hf.imp (fun ⟨h1, h2⟩ => ⟨fun w X args avs ob r hX hG => h1 w X args avs ob r hX (GV.over h hG), h2⟩) id
  | frz p =>
    rw [hE] at hf
    exact ⟨fun w X args avs ob r hX hG => hf.1 w X args avs ob r hX (GV.over h hG), hf.2⟩
  | gen g =>
    rw [hE] at hf
    exact ⟨fun w X β H args avs ob r H' hR hG => hf.1 w X β H args avs ob r H' hR (GV.over h hG), hf.2⟩

/-- But for the blocks M the two worlds are the same. -/
structure Off (M : Nat → Prop) (w w' : World) : Prop where
  os : w'.os = w.os
  tape : w'.tape = w.tape
  output : w'.output = w.output
  drawn : w'.drawn = w.drawn
  size : w'.heap.size = w.heap.size
  block : ∀ b, ¬ M b → w'.heap[b]? = w.heap[b]?
theorem Off.refl (M : Nat → Prop) (w : World) : Off M w w := ⟨rfl, rfl, rfl, rfl, rfl, fun _ _ => rfl⟩

/-- The state, what is known of the maps, and the real one; M: the maps that came in and may be written. -/
def RelM (C : Ctx) (N : Nat) (X : Nat → Prop) (w0 : World) (β0 : List BI) (H0 : List Blk) (M : Nat → Prop) (st : ASt) (G : Nat → AV) (a : Act) (w : World) : Prop :=
  ∃ w0', Off M w0 w0' ∧ Over C G ∧ (∀ b k e L, G b = .mapof k e L → M b ∨ w0.heap.size ≤ b) ∧ Rel (CG C G) N X w0' β0 H0 st a w

def AWm (C : Ctx) (N h0 : Nat) (M : Nat → Prop) (code : Code) (st : ASt) (G : Nat → AV) (Q : Exit → ASt → (Nat → AV) → Prop) : Prop :=
  ∀ (X : Nat → Prop) (w0 : World) (β0 : List BI) (H0 : List Blk) (a : Act) (w : World), H0.length = h0 → RelM C N X w0 β0 H0 M st G a w → code.wp C.P (fun ex a' w' => ∃ st' G', Q ex st' G' ∧ RelM C N X w0 β0 H0 M st' G' a' w') a w

section
variable {C : Ctx} {N h0 : Nat} {M : Nat → Prop}

theorem AWm.mono {code : Code} {st : ASt} {G : Nat → AV} {Q Q' : Exit → ASt → (Nat → AV) → Prop} (h : AWm C N h0 M code st G Q) (hq : ∀ ex st' G', Q ex st' G' → Q' ex st' G') : AWm C N h0 M code st G Q' :=
  fun X w0 β0 H0 a w hl hr => Code.wp_mono (fun _ _ _ ⟨st', G', hq', hr'⟩ => ⟨st', G', hq _ _ _ hq', hr'⟩) (h X w0 β0 H0 a w hl hr)
/-- A code that writes no map. -/
theorem AWm.of {code : Code} {st : ASt} {G : Nat → AV} {Q : Exit → ASt → (Nat → AV) → Prop} (h : Over C G → AW (CG C G) N h0 code st fun ex st' => Q ex st' G) : AWm C N h0 M code st G Q := fun X w0 β0 H0 a w hl ⟨w0', h1, h2, h3, hr⟩ =>
  Code.wp_mono (fun _ _ _ ⟨st', hq', hr'⟩ => ⟨st', G, hq', w0', h1, h2, h3, hr'⟩) (h h2 X w0' β0 H0 a w hl hr)
theorem AWm.weak {code : Code} {st st' : ASt} {G : Nat → AV} {Q : Exit → ASt → (Nat → AV) → Prop} (hw : Weak (CG C G) N h0 st st') (h : AWm C N h0 M code st' G Q) : AWm C N h0 M code st G Q :=
  fun X w0 β0 H0 a w hl ⟨w0', h1, h2, h3, hr⟩ => h X w0 β0 H0 a w hl ⟨w0', h1, h2, h3, hw X w0' β0 H0 a w hl hr⟩

def goOnM (K : ASt → (Nat → AV) → Prop) (Q : Exit → ASt → (Nat → AV) → Prop) (ex : Exit) (st : ASt) (G : Nat → AV) : Prop := match ex with | .normal => K st G | e => Q e st G
def outOfM (id : Nat) (Q : Exit → ASt → (Nat → AV) → Prop) (ex : Exit) (st : ASt) (G : Nat → AV) : Prop := match ex with | .exit j => if j = id then Q .normal st G else Q (.exit j) st G | e => Q e st G
def inScopeM (Q : Exit → ASt → (Nat → AV) → Prop) (ex : Exit) (st : ASt) (G : Nat → AV) : Prop := match ex with | .goto _ => False | e => Q e st G
def roundM {α : Type} (Sf : α → ASt) (Gf : α → Nat → AV) (pre : α → Prop) (lt : α → Prop) (N h0 : Nat) (C : Ctx) (Q : Exit → ASt → (Nat → AV) → Prop) (ex : Exit) (st' : ASt) (G' : Nat → AV) : Prop :=
  match ex with | .normal => ∃ x', pre x' ∧ lt x' ∧ G' = Gf x' ∧ Weak (CG C G') N h0 st' (Sf x') | e => Q e st' G'

theorem AWm_seq {a b : Code} {st : ASt} {G : Nat → AV} {Q : Exit → ASt → (Nat → AV) → Prop} (h : AWm C N h0 M a st G (goOnM (fun st' G' => AWm C N h0 M b st' G' Q) Q)) : AWm C N h0 M (.seq a b) st G Q := fun X w0 β0 H0 x w hl hr => by
  refine wp_seq (Code.wp_mono (fun ex a' w' ⟨st', G', hq, hr'⟩ => ?_) (h X w0 β0 H0 x w hl hr))
  cases ex with
  | normal => exact hq X w0 β0 H0 a' w' hl hr'
  | _ => exact ⟨st', G', hq, hr'⟩
theorem AWm_block {id : Nat} {b : Code} {st : ASt} {G : Nat → AV} {Q : Exit → ASt → (Nat → AV) → Prop} (h : AWm C N h0 M b st G (outOfM id Q)) : AWm C N h0 M (.block id b) st G Q := fun X w0 β0 H0 x w hl hr => by
  refine wp_block (Code.wp_mono (fun ex a' w' ⟨st', G', hq, hr'⟩ => ?_) (h X w0 β0 H0 x w hl hr))
  cases ex with
  | exit j =>
    simp only [Exit.inBlock, outOfM] at hq ⊢
    split
    · rename_i e; rw [if_pos e] at hq; exact ⟨st', G', hq, hr'⟩
    · rename_i e; rw [if_neg e] at hq; exact ⟨st', G', hq, hr'⟩
  | _ => exact ⟨st', G', hq, hr'⟩
theorem AWm_scope {b : Code} {st : ASt} {G : Nat → AV} {Q : Exit → ASt → (Nat → AV) → Prop} (h : AWm C N h0 M b st G (inScopeM Q)) : AWm C N h0 M (.scope b) st G Q := fun X w0 β0 H0 a w hl hr => by
  refine wp_scope_straight (Code.wp_mono (fun ex a' w' ⟨st', G', hq, hr'⟩ => ?_) (h X w0 β0 H0 a w hl hr))
  cases ex with
  | goto l => exact hq
  | _ => exact ⟨st', G', hq, hr'⟩
theorem AWm_cond {c : Operand} {x y : Code} {st : ASt} {G : Nat → AV} {Q : Exit → ASt → (Nat → AV) → Prop} (h : onBool (aev (CG C G) st.ρ 0 c) fun b => both b (AWm C N h0 M x st G Q) (AWm C N h0 M y st G Q)) : AWm C N h0 M (.cond c x y) st G Q := fun X w0 β0 H0 a w hl hr => by
  have hr0 := hr
  obtain ⟨w0', _, _, _, β, R, S0, Tr, Gr, hN, hdef⟩ := hr0
  have hE := aev_sound Tr Gr 0 c
  unfold onBool at h
  split at h
  · rename_i b hb
    rw [hb] at hE
    exact wp_cond_split (rep_bool hE) (fun ht => h.1 ht X w0 β0 H0 a w hl hr) (fun hf => h.2 hf X w0 β0 H0 a w hl hr)
  · rename_i hb
    rw [hb] at hE
    obtain ⟨b, hb'⟩ := rep_anyb hE
    exact wp_cond_split hb' (fun _ => h.1.1 rfl X w0 β0 H0 a w hl hr) (fun _ => h.2.2 rfl X w0 β0 H0 a w hl hr)
  · exact h.elim
theorem AWm_loop {α : Type} {body : Code} {st : ASt} {G : Nat → AV} {Q : Exit → ASt → (Nat → AV) → Prop} (Sf : α → ASt) (Gf : α → Nat → AV) (pre : α → Prop) (m : α → Nat)
    (start : ∃ x, pre x ∧ G = Gf x ∧ Weak (CG C G) N h0 st (Sf x)) (step : ∀ x, pre x → AWm C N h0 M body (Sf x) (Gf x) (roundM Sf Gf pre (fun x' => m x' < m x) N h0 C Q)) : AWm C N h0 M (.loop body) st G Q := by
  intro X w0 β0 H0 a w hl hr
  obtain ⟨x0, hx0, rfl, hw0⟩ := start
  obtain ⟨w0', h1, h2, h3, hr⟩ := hr
  refine wp_loop_ghost (fun n a w => ∃ x, m x = n ∧ pre x ∧ RelM C N X w0 β0 H0 M (Sf x) (Gf x) a w) (m x0) ⟨x0, rfl, hx0, w0', h1, h2, h3, hw0 X w0' β0 H0 a w hl hr⟩ ?_
  rintro n a w ⟨x, rfl, hx, hr⟩
  refine Code.wp_mono (fun ex a' w' ⟨st', G', hq, hr'⟩ => ?_) (step x hx X w0 β0 H0 a w hl hr)
  cases ex with
  | normal =>
    obtain ⟨x', hx', hlt, rfl, hw⟩ := hq
    obtain ⟨w0'', k1, k2, k3, hr'⟩ := hr'
    exact ⟨m x', hlt, x', rfl, hx', w0'', k1, k2, k3, hw X w0'' β0 H0 a' w' hl hr'⟩
  | _ => exact ⟨st', G', hq, hr'⟩
end

/-! ### A block that is a map is written: what is said of the others stands -/
theorem cell_notmap {w : World} {b c off : Nat} {v : Value} {es : Array MapEntry} {clock : Nat} (hb : w.heap[b]? = some (.map es clock)) (hc : w.cell? ⟨c, off, none⟩ = some v) : c ≠ b := by
  rintro rfl
  unfold World.cell? at hc
  simp [hb] at hc
theorem RepD.off {w : World} {b : Nat} {es : Array MapEntry} {clock : Nat} {o : Obj} (hb : w.heap[b]? = some (.map es clock)) {X : Nat → Prop} {v : Value} {av : AV} (h : RepD w X v av) : RepD (setBlock w b o) X v av := by
  have hsz : (setBlock w b o).heap.size = w.heap.size := by simp [setBlock]
  have hcell : ∀ {c off : Nat} {u : Value}, w.cell? ⟨c, off, none⟩ = some u → (setBlock w b o).cell? ⟨c, off, none⟩ = some u := fun {c off u} hc => by
    have hne := cell_notmap hb hc
    rw [← hc]
    exact World.cell?_of_block (heap_setBlock_other hb _ hne)
  induction h with
  | undef v => exact .undef v
  | bool b => exact .bool b
  | int k n => exact .int k n
  | str s => exact .str s
  | nilptr => exact .nilptr
  | anyb b => exact .anyb b
  | mapp b => exact .mapp b
  | tab c k zs t fr hc hx =>
    have hne : c ≠ b := by rintro rfl; rw [hb] at hc; cases hc
    exact .tab c k zs t fr ((heap_setBlock_other hb _ hne).trans hc) hx
  | slice sz full rows a n cap val hn h1 h2 h3 hr hm hv ih =>
    refine .slice sz full rows a n cap val hn h1 h2 h3 hr (fun h0 => ?_) ih
    obtain ⟨c, off, rfl, hlt, hx, hc⟩ := hm h0
    exact ⟨c, off, rfl, by rw [hsz]; exact hlt, hx, fun i j hi hj => ⟨hcell (hc i j hi hj).1, (hc i j hi hj).2⟩⟩
  | iptr c off cells val hlt hx hm hv ih => exact .iptr c off cells val (by rw [hsz]; exact hlt) hx (fun j hj => ⟨hcell (hm j hj).1, (hm j hj).2⟩) ih
  | agg cs cells val hl hm hv ih => exact .agg cs cells val hl hm ih
  | tup cs cells val hl hm hv ih => exact .tup cs cells val hl hm ih
  | fn f cs cells val hl hm hv ih => exact .fn f cs cells val hl hm ih
theorem Rep.off {w : World} {b : Nat} {es : Array MapEntry} {clock : Nat} {o : Obj} (hb : w.heap[b]? = some (.map es clock)) {X : Nat → Prop} {β : List BI} {H : List Blk} {v : Value} {av : AV} (h : Rep w X β H v av) : Rep (setBlock w b o) X β H v av := by
  induction h with
  | deep h => exact .deep (h.off hb)
  | own l n a cap b' hb' hn h0 hc hx => exact .own l n a cap b' hb' hn h0 hc hx
  | osl l n sz off len a cap b' hb' hn hle h0 hc hx => exact .osl l n sz off len a cap b' hb' hn hle h0 hc hx
  | ptr l n sz i f a b' hb' hn hx => exact .ptr l n sz i f a b' hb' hn hx
  | agg cs cells val hl hm hv ih => exact .agg cs cells val hl hm ih
  | tup cs cells val hl hm hv ih => exact .tup cs cells val hl hm ih
  | fn f cs cells val hl hm hv ih => exact .fn f cs cells val hl hm ih
theorem HRel.off {w : World} {b : Nat} {es : Array MapEntry} {clock : Nat} {o : Obj} (hb : w.heap[b]? = some (.map es clock)) {X : Nat → Prop} {β : List BI} {H : List Blk} (h : HRel w X β H) : HRel (setBlock w b o) X β H := by
  have hsz : (setBlock w b o).heap.size = w.heap.size := by simp [setBlock]
  refine ⟨h.len, fun l bi bk h1 h2 => ?_, fun l c cap h1 => by rw [hsz]; exact h.lt l c cap h1, h.inj, fun c hc => by rw [hsz]; exact h.base c hc⟩
  have := h.blk l bi bk h1 h2
  cases bi with
  | nil => exact this
  | lies c cap =>
    obtain ⟨cur, k1, k2, k3, k4, k5, k6, k7⟩ := this
    have hne : c ≠ b := by rintro rfl; rw [hb] at k1; cases k1
    refine ⟨cur, (heap_setBlock_other hb _ hne).trans k1, k2, k3, k4, k5, k6, fun i j r av hr hj => ?_⟩
    obtain ⟨v, q1, q2, q3, q4⟩ := k7 i j r av hr hj
    exact ⟨v, q1, q2, q3.off hb, fun hd => (q4 hd).off hb⟩

/-! ### A region some operations of which write maps -/
inductive MK where
  | mk (t : TypeId)
  | up (t : TypeId) (m x v : Operand)
  | no
def kindM : Op → MK
  | .makeMap t none => .mk t
  | .mapUpdate t m x v => .up t m x v
  | _ => .no
/-- m[x] = v. -/
def aupd (C : Ctx) (G : Nat → AV) (t : TypeId) (m x v : AV) : Option (Prop × (Nat → AV)) :=
  match m with
  | .mapp b => match G b with
    | .mapof k e L =>
      if mapT C.P t = some (k, e) then
        match litOf C.P k x, litOf C.P e v with
        | some (ob, kl), some (ob', vl) => some (ob ∧ ob' ∧ L.length < 1000000000000, upd G b (.mapof k e ((kl, vl) :: L)))
        | _, _ => none
      else none
    | _ => none
  | _ => none
attribute [simp] kindM aupd
def thenU (o : Option (Prop × (Nat → AV))) (K : Prop → (Nat → AV) → Prop) : Prop :=
  match o with
  | some (ob, G) => K ob G
  | none => False
@[simp] theorem thenU_some (ob : Prop) (G : Nat → AV) (K : Prop → (Nat → AV) → Prop) : thenU (some (ob, G)) K = K ob G := rfl
@[simp] theorem thenU_none (K : Prop → (Nat → AV) → Prop) : thenU none K = False := rfl
@[congr] theorem thenU_congr {o o' : Option (Prop × (Nat → AV))} {K : Prop → (Nat → AV) → Prop} (h : mark o = o') : thenU o K = thenU o' K := by rw [mark_eq] at h; rw [h]
def aopsM (C : Ctx) (ops : Array Oper) : List Oper → ASt → (Nat → AV) → (ASt → (Nat → AV) → Prop) → Prop
  | [], st, G, K => K st G
  | o :: r, st, G, K =>
    match kindM o.op with
    | .mk t => thenG (wantG ops st.ρ o) fun g => g = true ∧ match mapT C.P t with
      | some (k, e) => ∀ b, G b = .undef → aopsM C ops r ⟨putA st.ρ o.dst (.mapp b), st.H⟩ (upd G b (.mapof k e [])) K
      | none => False
    | .up t m x v => thenG (wantG ops st.ρ o) fun g => both g (thenU (aupd C G t (aev (CG C G) st.ρ 0 m) (aev (CG C G) st.ρ 0 x) (aev (CG C G) st.ρ 0 v)) fun ob G' => ob ∧ aopsM C ops r ⟨putA st.ρ o.dst .undef, st.H⟩ G' K)
        (aopsM C ops r ⟨putA st.ρ o.dst (.tup []), st.H⟩ G K)
    | .no => thenG (wantG ops st.ρ o) fun g => both g (thenD (astep (CG C G) st o) fun ob v H' => ob ∧ aopsM C ops r ⟨putA st.ρ o.dst v, H'⟩ G K) (aopsM C ops r ⟨putA st.ρ o.dst (.tup []), st.H⟩ G K)
@[congr] theorem aopsM_congr {C : Ctx} {ops : Array Oper} {l : List Oper} {st st' : ASt} {G : Nat → AV} {K : ASt → (Nat → AV) → Prop} (h : mark st = st') : aopsM C ops l st G K = aopsM C ops l st' G K := by rw [mark_eq] at h; rw [h]
section
variable {C : Ctx}
@[simp] theorem aopsM_nil (ops : Array Oper) (st : ASt) (G : Nat → AV) (K : ASt → (Nat → AV) → Prop) : aopsM C ops [] st G K = K st G := rfl
@[simp] theorem aopsM_cons (ops : Array Oper) (o : Oper) (r : List Oper) (st : ASt) (G : Nat → AV) (K : ASt → (Nat → AV) → Prop) : aopsM C ops (o :: r) st G K =
    match kindM o.op with
    | .mk t => thenG (wantG ops st.ρ o) fun g => g = true ∧ match mapT C.P t with
      | some (k, e) => ∀ b, G b = .undef → aopsM C ops r ⟨putA st.ρ o.dst (.mapp b), st.H⟩ (upd G b (.mapof k e [])) K
      | none => False
    | .up t m x v => thenG (wantG ops st.ρ o) fun g => both g (thenU (aupd C G t (aev (CG C G) st.ρ 0 m) (aev (CG C G) st.ρ 0 x) (aev (CG C G) st.ρ 0 v)) fun ob G' => ob ∧ aopsM C ops r ⟨putA st.ρ o.dst .undef, st.H⟩ G' K)
        (aopsM C ops r ⟨putA st.ρ o.dst (.tup []), st.H⟩ G K)
    | .no => thenG (wantG ops st.ρ o) fun g => both g (thenD (astep (CG C G) st o) fun ob v H' => ob ∧ aopsM C ops r ⟨putA st.ρ o.dst v, H'⟩ G K) (aopsM C ops r ⟨putA st.ρ o.dst (.tup []), st.H⟩ G K) := by
  rw [aopsM]
end
end Go.Proofs.Ytkhgjbjkjefeoaa

/-
  Maps that the call itself writes, second part: soundness; a body's condition; from a condition to a contract. Own work; no program in sight.
-/
namespace Go.Proofs.Ytkhgjbjkjefeoaa
open Go.RowKit Go.ChangeMaps Go.MapKept
set_option linter.unusedVariables false

section
variable {C : Ctx} {N h0 : Nat} {M : Nat → Prop} {X : Nat → Prop} {w0 : World} {β0 : List BI} {H0 : List Blk}

theorem GV.cases_ptr {P : Program} {w : World} {X : Nat → Prop} {g : Nat} {av : AV} (h : GV P w X g av) : av = .undef ∨ g < w.heap.size := by
  cases av with
  | mapof k e L => exact .inr h.1.lt
  | _ =>
    have h : RepD w X (.pointer (some ⟨g, 0, none⟩)) _ := h
    first
      | exact .inl rfl
      | (cases h
         all_goals first
           | exact .inr ‹_›
           | (right
              rename_i hx hb
              rcases Nat.lt_or_ge g w.heap.size with h | h
              · exact h
              · rw [Array.getElem?_eq_none h] at hb; cases hb))
theorem mget_cons (a x : Lit) (r : List (Lit × Lit)) (k z : Lit) : mget ((a, x) :: r) k z = if a.sameKey k then x else mget r k z := rfl
theorem mapRel_put {P : Program} {w' : World} {b : Nat} {k e : TypeId} {L : List (Lit × Lit)} {kl vl : Lit} (hk : WideAt.IsKeyLit kl) {D : DataW Unit} (h2 : Maps.Tidy D) (h3 : ∀ kl z, D.atKey kl (.lit z) = .lit (mget L kl z)) (h4 : ∀ kl, Maps.has D kl = mhas L kl) (h5 : Maps.size D = msize L)
    (ho : w'.ownsMap P k (plainElem P e) b (L.length + 1) (D.put kl (.lit vl))) : MapRel P w' b k e ((kl, vl) :: L) := by
  refine ⟨_, ho, h2.put hk _, fun q z => ?_, fun q => ?_, ?_⟩
  · rw [mget_cons]
    by_cases hq : q = kl
    · subst hq
      rw [Maps.atKey_put_same h2.isMap hk, if_pos (WideAt.sameKey_self hk)]
    · rw [Maps.atKey_put_other hq, h3, if_neg (by rw [Maps.sameKey_ne (fun e => hq e.symm)]; decide)]
  · show _ = (kl.sameKey q || mhas L q)
    by_cases hq : q = kl
    · subst hq
      rw [Maps.has_put_same h2.isMap hk, WideAt.sameKey_self hk]; rfl
    · rw [Maps.has_put_other hq, h4, Maps.sameKey_ne (fun e => hq e.symm)]; rfl
  · rw [Maps.size_put h2, h4, h5]
    rfl

theorem aupd_sound {st : ASt} {G : Nat → AV} {a : Act} {w : World} (hr : RelM C N X w0 β0 H0 M st G a w) {t : TypeId} {m x v : AV} {ob : Prop} {G' : Nat → AV} (h : aupd C G t m x v = some (ob, G')) (hob : ob) {vm vx vv : Value}
    (hE : ∀ β, HRel w X β st.H → TRel w (Mu X β st.H) β st.H a st.ρ → GRel (CG C G) w (Mu X β st.H) → Rep w (Mu X β st.H) β st.H vm m ∧ Rep w (Mu X β st.H) β st.H vx x ∧ Rep w (Mu X β st.H) β st.H vv v) (dst : Option Tmp) (hd : ∀ d, dst = some d → d < N) :
    ∃ w', (Instr.mapUpdate t vm vx vv).run C.P w = .ok () w' ∧ RelM C N X w0 β0 H0 M ⟨putA st.ρ dst .undef, st.H⟩ G' (a.put dst undef) w' := by
  obtain ⟨w0', o1, o2, o3, β, R, S0, T, Gr, hN, hdef⟩ := hr
  obtain ⟨e1, e2, e3⟩ := hE β R T Gr
  unfold aupd at h
  split at h
  · rename_i b
    obtain rfl := rep_mapp e1
    split at h
    · rename_i k e L hg
      split at h
      · rename_i ht
        split at h
        · rename_i ob1 kl ob2 vl hl1 hl2
          injection h with h; injection h with f1 f2; subst f1 f2
          have hG := Gr b
          rw [show (CG C G).G b = .mapof k e L from hg] at hG
          obtain ⟨⟨D, d1, d2, d3, d4, d5⟩, hXb⟩ := hG
          obtain ⟨K, hk, hkl⟩ := litOf_key hl1 hob.1 e2
          have hv := litOf_elem hl2 hob.2.1 e3
          obtain ⟨w', hrun, hown, es, clock, es', clock', hb, rfl⟩ := d1.store K (mapT_eq ht) (show L.length < maxLen by have := hob.2.2; show _ < 9223372036854775807; omega) hk hv
          have hsz : (setBlock w b (.map es' clock')).heap.size = w.heap.size := by simp [setBlock]
          have hlt : b < w.heap.size := (Array.getElem?_eq_some_iff.1 hb).1
          refine ⟨_, hrun, setBlock w0' b (.map es' clock'), ⟨o1.os, o1.tape, o1.output, o1.drawn, by simp [setBlock]; exact o1.size, fun c hc => ?_⟩, ⟨fun g => ?_, o2.2⟩, fun c k' e' L' hc => ?_, β, R.off hb, ⟨⟨S0.keeps.os, S0.keeps.tape, S0.keeps.output, by simp only [setBlock, Array.size_setIfInBounds]; exact S0.keeps.size, fun c hc hn => ?_, S0.keeps.drawn⟩, ⟨S0.grow.old, fun l bk c hc => by simp only [setBlock, Array.size_setIfInBounds]; exact S0.grow.at_ l bk c hc⟩, S0.len⟩, ?_, fun g => ?_, ?_, ?_⟩
          · by_cases hcb : c = b
            · subst hcb
              have h1 : w0.heap.size ≤ c := (o3 c k e L hg).resolve_left hc
              simp only [setBlock]
              rw [Array.getElem?_eq_none (by rw [Array.size_setIfInBounds, o1.size]; exact h1), Array.getElem?_eq_none h1]
            · simp only [setBlock]
              rw [Array.getElem?_setIfInBounds_ne (fun e => hcb e.symm)]
              exact o1.block c hc
          · by_cases hgb : g = b
            · subst hgb
              right
              exact (o2.1 g).resolve_left fun q => o2.2 g _ _ _ (q.symm.trans hg)
            · rw [upd_ne _ _ hgb]; exact o2.1 g
          · by_cases hcb : c = b
            · subst hcb; exact o3 c k e L hg
            · rw [upd_ne _ _ hcb] at hc; exact o3 c _ _ _ hc
          · by_cases hcb : c = b
            · subst hcb
              rw [heap_setBlock_same hb]
              have : c < w0'.heap.size := by simpa [setBlock] using hc
              simp only [setBlock]
              rw [Array.getElem?_setIfInBounds_self_of_lt this]
            · rw [heap_setBlock_other hb _ hcb]
              simp only [setBlock]
              rw [Array.getElem?_setIfInBounds_ne (fun e => hcb e.symm)]
              exact S0.keeps.block c (by simpa [setBlock] using hc) hn
          · have T' : TRel (setBlock w b (.map es' clock')) (Mu X β st.H) β st.H a st.ρ := fun t => (T t).off hb
            exact trel_put T' (StepR.refl _ _ _ R.len) rep_undef dst (fun d h => by rw [hN]; exact hd d h)
          · by_cases hgb : g = b
            · subst hgb
              show GV C.P _ _ _ (upd G g _ g)
              rw [upd_same]
              exact ⟨mapRel_put hkl d2 d3 d4 d5 hown, hXb⟩
            · have := Gr g
              show GV C.P _ _ _ (upd G b _ g)
              rw [upd_ne _ _ hgb]
              have this : GV C.P w (Mu X β st.H) g (G g) := this
              generalize G g = av at this ⊢
              cases av with
              | mapof k' e' L' => exact ⟨this.1.same (heap_setBlock_other hb _ hgb), this.2⟩
              | _ => exact RepD.off hb (show RepD w _ _ _ from this)
          · cases dst with
            | none => exact hN
            | some d => simp [Act.put, hN]
          · cases dst with
            | none => exact hdef
            | some d => exact hdef
        · cases h
      · cases h
    · cases h
  · cases h

theorem wpList_of_aopsM (hS : SigOK C) {ops : Array Oper} {Q : Exit → Act → World → Prop} : ∀ (l : List Oper), (∀ o ∈ l, ∀ d, o.dst = some d → d < N) → ∀ {st : ASt} {G : Nat → AV} {K : ASt → (Nat → AV) → Prop} {a : Act} {w : World}, aopsM C ops l st G K → RelM C N X w0 β0 H0 M st G a w →
    (∀ st' G' a' w', RelM C N X w0 β0 H0 M st' G' a' w' → K st' G' → Q .normal a' w') → wpList C.P ops Q l a w
  | [], _, st, G, K, a, w, h, hr, hQ => hQ st G a w hr h
  | o :: r, hd, st, G, K, a, w, h, hr, hQ => by
    have hr0 := hr
    obtain ⟨w0', o1, o2, o3, β, R, S0, T, Gr, hN, hdef⟩ := hr
    have ih := fun {st : ASt} {G : Nat → AV} {a : Act} {w : World} => wpList_of_aopsM hS r (fun o ho => hd o (List.mem_cons_of_mem _ ho)) (st := st) (G := G) (K := K) (a := a) (w := w) (ops := ops) (Q := Q)
    have hdo := hd o (by simp)
    rw [aopsM_cons] at h
    unfold thenG at h
    unfold wpList
    split at h
    · rename_i t hk
      split at h
      · rename_i g hg
        rw [wantG_sound T hg]
        obtain ⟨rfl, h⟩ := h
        rw [if_pos rfl]
        split at h
        · rename_i k e ht
          left
          obtain ⟨dst, op, type, pos, after, guard⟩ := o
          simp only at hk h hdo
          have hop : op = .makeMap t none := by
            unfold kindM at hk
            split at hk
            · injection hk with hk; subst hk; rfl
            · cases hk
            · cases hk
          subst hop
          have hb : G w.heap.size = .undef := by
            rcases GV.cases_ptr (Gr w.heap.size) with h1 | h1
            · exact h1
            · exact absurd h1 (Nat.lt_irrefl _)
          refine wp_value (u := .map (some w.heap.size)) (w' := w.alloc (.map #[] 0)) (by simp only [execOp, Option.map_none, run_makeMap, Sem.run_bind, Result.andThen_ok, Sem.run_pure]) ?_
          refine ih (h _ hb) ?_ hQ
          have hkp : Keeps (fun _ => False) w (w.alloc (.map #[] 0)) := Keeps.alloc _ w _
          have hq : StepR w β st.H (w.alloc (.map #[] 0)) β st.H := StepR.quiet hkp R.len
          refine ⟨w0', o1, ⟨fun g => ?_, o2.2⟩, fun b k' e' L' hL => ?_, β, R.quiet hkp, S0.trans hq, trel_put T hq (u := .map (some w.heap.size)) (r := .mapp w.heap.size) (.deep (.mapp _)) dst (fun d h => by rw [hN]; exact hdo d h), fun g => ?_, ?_, ?_⟩
          · by_cases hgb : g = w.heap.size
            · subst hgb
              exact .inr ((o2.1 _).elim (fun q => q.symm.trans hb) id)
            · rw [upd_ne _ _ hgb]; exact o2.1 g
          · by_cases hgb : b = w.heap.size
            · subst hgb; exact .inr (by have := S0.keeps.size; rw [o1.size] at this; exact this)
            · rw [upd_ne _ _ hgb] at hL; exact o3 b _ _ _ hL
          · by_cases hgb : g = w.heap.size
            · subst hgb
              show GV C.P _ _ _ (upd G w.heap.size _ w.heap.size)
              rw [upd_same]
              refine ⟨⟨.map [], World.ownsMap_made w C.P k _, Maps.tidy_empty, fun kl z => rfl, fun kl => rfl, rfl⟩, fun hx => ?_⟩
              rcases hx with hx | ⟨l, c, blk, h1, _, _⟩
              · exact absurd (R.base _ hx) (Nat.lt_irrefl _)
              · exact absurd (R.lt l _ c h1).1 (Nat.lt_irrefl _)
            · have := GV.keep (Gr g) (fun b hb hn => hkp.block b hb (fun h => h)) hkp.size (fun b _ h => h)
              show GV C.P _ _ _ (upd G w.heap.size _ g)
              rw [upd_ne _ _ hgb]
              exact this
          · cases dst with
            | none => exact hN
            | some d => simp [Act.put, hN]
          · cases dst with
            | none => exact hdef
            | some d => exact hdef
        · exact h.elim
      · exact h.elim
    · rename_i t m x v hk
      split at h
      · rename_i g hg
        rw [wantG_sound T hg]
        cases g with
        | true =>
          simp only [both_true] at h
          unfold thenU at h
          split at h
          · rename_i ob G' hu
            rw [if_pos rfl]
            left
            obtain ⟨dst, op, type, pos, after, guard⟩ := o
            simp only at hk h hdo
            have hop : op = .mapUpdate t m x v := by
              unfold kindM at hk
              split at hk
              · cases hk
              · injection hk with h1 h2 h3 h4; subst h1 h2 h3 h4; rfl
              · cases hk
            subst hop
            obtain ⟨w', hrun, hr'⟩ := aupd_sound hr0 hu h.1 (vm := a.eval m) (vx := a.eval x) (vv := a.eval v) (fun β R T Gr => ⟨aev_sound T Gr 0 m, aev_sound T Gr 0 x, aev_sound T Gr 0 v⟩) dst hdo
            unfold Oper.wp
            simp only [execOp, hrun, Sem.run_bind, Result.andThen_ok, Sem.run_pure, Oper.upon_skip]
            exact ih h.2 hr' hQ
          · exact h.elim
        | false =>
          simp only [both_false] at h
          rw [if_neg (by simp)]
          exact ih h ⟨w0', o1, o2, o3, rel_put S0 T Gr hN hdef R (StepR.refl _ _ _ R.len) rep_skip o.dst hdo⟩ hQ
      · exact h.elim
    · split at h
      · rename_i g hg
        rw [wantG_sound T hg]
        cases g with
        | true =>
          simp only [both_true] at h
          unfold thenD at h
          split at h
          · rename_i ob v H' hst
            rw [if_pos rfl]
            refine .inl (astep_sound (sigOver hS o2) R T Gr hst h.1 fun u w' β' R' S hr => ih h.2 ⟨w0', o1, o2, o3, rel_put S0 T Gr hN hdef R' S hr o.dst hdo⟩ hQ)
          · exact h.elim
        | false =>
          simp only [both_false] at h
          rw [if_neg (by simp)]
          exact ih h ⟨w0', o1, o2, o3, rel_put S0 T Gr hN hdef R (StepR.refl _ _ _ R.len) rep_skip o.dst hdo⟩ hQ
      · exact h.elim
end
end Go.Proofs.Ytkhgjbjkjefeoaa

/-
  Maps that the call itself writes, third part: a body's condition; from a condition to a contract. Own work; no program in sight.
-/
namespace Go.Proofs.Ytkhgjbjkjefeoaa
open Go.RowKit Go.ChangeMaps Go.MapKept
set_option linter.unusedVariables false

/-- hm: the regions that write maps; hd: those left to be shown by hand. -/
def codeOKM (C : Ctx) (hm hd : List Nat) (N : Nat) : Code → Bool
  | .region id ops draw => if isIn hm id = true then (ops.toList.all fun o => match o.dst with | some d => decide (d < N) | none => true) && !draw else isIn hd id || ((ops.toList.all fun o => match o.dst with | some d => decide (d < N) | none => true) && (!draw || regOK C ops))
  | .seq a b => codeOKM C hm hd N a && codeOKM C hm hd N b
  | .cond _ a b => codeOKM C hm hd N a && codeOKM C hm hd N b
  | .block _ b => codeOKM C hm hd N b
  | .scope b => codeOKM C hm hd N b
  | _ => true
def avcM (C : Ctx) (hm hd : List Nat) (N h0 : Nat) (M : Nat → Prop) : Code → ASt → (Nat → AV) → (Exit → ASt → (Nat → AV) → Prop) → Prop
  | .skip, st, G, Q => Q .normal st G
  | .region id ops d, st, G, Q => if isIn hm id = true then aopsM C ops ops.toList st G (Q .normal) else if isIn hd id = true then AWm C N h0 M (.region id ops d) st G Q else aops (CG C G) ops ops.toList st fun st' => Q .normal st' G
  | .seq a b, st, G, Q => avcM C hm hd N h0 M a st G (goOnM (fun st' G' => avcM C hm hd N h0 M b st' G' Q) Q)
  | .cond c a b, st, G, Q => onBool (aev (CG C G) st.ρ 0 c) fun x => both x (avcM C hm hd N h0 M a st G Q) (avcM C hm hd N h0 M b st G Q)
  | .block id b, st, G, Q => avcM C hm hd N h0 M b st G (outOfM id Q)
  | .exit id, st, G, Q => Q (.exit id) st G
  | .ret, st, G, Q => Q .ret st G
  | .label _, st, G, Q => Q .normal st G
  | .scope b, st, G, Q => avcM C hm hd N h0 M b st G (inScopeM Q)
  | .loop b, st, G, Q => AWm C N h0 M (.loop b) st G Q
  | _, _, _, _ => False

section
variable {C : Ctx} {hm hd : List Nat} {N h0 : Nat} {M : Nat → Prop}
@[congr] theorem AWm_congr {code : Code} {st st' : ASt} {G : Nat → AV} {Q : Exit → ASt → (Nat → AV) → Prop} (h : mark st = st') : AWm C N h0 M code st G Q = AWm C N h0 M code st' G Q := by rw [mark_eq] at h; rw [h]
@[congr] theorem avcM_congr {code : Code} {st st' : ASt} {G : Nat → AV} {Q : Exit → ASt → (Nat → AV) → Prop} (h : mark st = st') : avcM C hm hd N h0 M code st G Q = avcM C hm hd N h0 M code st' G Q := by rw [mark_eq] at h; rw [h]
@[simp] theorem avcM_skip (st : ASt) (G : Nat → AV) (Q : Exit → ASt → (Nat → AV) → Prop) : avcM C hm hd N h0 M .skip st G Q = Q .normal st G := rfl
@[simp] theorem avcM_region (id : Nat) (l : List Oper) (d : Bool) (st : ASt) (G : Nat → AV) (Q : Exit → ASt → (Nat → AV) → Prop) : avcM C hm hd N h0 M (.region id l.toArray d) st G Q =
    if isIn hm id = true then aopsM C l.toArray l st G (Q .normal) else if isIn hd id = true then AWm C N h0 M (.region id l.toArray d) st G Q else aops (CG C G) l.toArray l st fun st' => Q .normal st' G := rfl
@[simp] theorem avcM_seq (a b : Code) (st : ASt) (G : Nat → AV) (Q : Exit → ASt → (Nat → AV) → Prop) : avcM C hm hd N h0 M (.seq a b) st G Q = avcM C hm hd N h0 M a st G (goOnM (fun st' G' => avcM C hm hd N h0 M b st' G' Q) Q) := rfl
@[simp] theorem avcM_cond (c : Operand) (a b : Code) (st : ASt) (G : Nat → AV) (Q : Exit → ASt → (Nat → AV) → Prop) : avcM C hm hd N h0 M (.cond c a b) st G Q = onBool (aev (CG C G) st.ρ 0 c) fun x => both x (avcM C hm hd N h0 M a st G Q) (avcM C hm hd N h0 M b st G Q) := rfl
@[simp] theorem avcM_block (id : Nat) (b : Code) (st : ASt) (G : Nat → AV) (Q : Exit → ASt → (Nat → AV) → Prop) : avcM C hm hd N h0 M (.block id b) st G Q = avcM C hm hd N h0 M b st G (outOfM id Q) := rfl
@[simp] theorem avcM_exit (id : Nat) (st : ASt) (G : Nat → AV) (Q : Exit → ASt → (Nat → AV) → Prop) : avcM C hm hd N h0 M (.exit id) st G Q = Q (.exit id) st G := rfl
@[simp] theorem avcM_ret (st : ASt) (G : Nat → AV) (Q : Exit → ASt → (Nat → AV) → Prop) : avcM C hm hd N h0 M .ret st G Q = Q .ret st G := rfl
@[simp] theorem avcM_label (l : Nat) (st : ASt) (G : Nat → AV) (Q : Exit → ASt → (Nat → AV) → Prop) : avcM C hm hd N h0 M (.label l) st G Q = Q .normal st G := rfl
@[simp] theorem avcM_scope (b : Code) (st : ASt) (G : Nat → AV) (Q : Exit → ASt → (Nat → AV) → Prop) : avcM C hm hd N h0 M (.scope b) st G Q = avcM C hm hd N h0 M b st G (inScopeM Q) := rfl
@[simp] theorem avcM_loop (b : Code) (st : ASt) (G : Nat → AV) (Q : Exit → ASt → (Nat → AV) → Prop) : avcM C hm hd N h0 M (.loop b) st G Q = AWm C N h0 M (.loop b) st G Q := rfl
@[congr] theorem lazy_goOnM {K : ASt → (Nat → AV) → Prop} {Q : Exit → ASt → (Nat → AV) → Prop} {ex ex' : Exit} {st st' : ASt} {G : Nat → AV} (h : mark ex = ex') (h' : st = st') : goOnM K Q ex st G = goOnM K Q ex' st' G := by rw [mark_eq] at h; rw [h, h']
@[simp] theorem goOnM_normal (K : ASt → (Nat → AV) → Prop) (Q : Exit → ASt → (Nat → AV) → Prop) (st : ASt) (G : Nat → AV) : goOnM K Q .normal st G = K st G := rfl
@[simp] theorem goOnM_ret (K : ASt → (Nat → AV) → Prop) (Q : Exit → ASt → (Nat → AV) → Prop) (st : ASt) (G : Nat → AV) : goOnM K Q .ret st G = Q .ret st G := rfl
@[simp] theorem goOnM_exit (K : ASt → (Nat → AV) → Prop) (Q : Exit → ASt → (Nat → AV) → Prop) (st : ASt) (G : Nat → AV) (i : Nat) : goOnM K Q (.exit i) st G = Q (.exit i) st G := rfl
@[congr] theorem lazy_outOfM {id : Nat} {Q : Exit → ASt → (Nat → AV) → Prop} {ex ex' : Exit} {st st' : ASt} {G : Nat → AV} (h : mark ex = ex') (h' : st = st') : outOfM id Q ex st G = outOfM id Q ex' st' G := by rw [mark_eq] at h; rw [h, h']
@[simp] theorem outOfM_normal (id : Nat) (Q : Exit → ASt → (Nat → AV) → Prop) (st : ASt) (G : Nat → AV) : outOfM id Q .normal st G = Q .normal st G := rfl
@[simp] theorem outOfM_ret (id : Nat) (Q : Exit → ASt → (Nat → AV) → Prop) (st : ASt) (G : Nat → AV) : outOfM id Q .ret st G = Q .ret st G := rfl
@[simp] theorem outOfM_exit (id : Nat) (Q : Exit → ASt → (Nat → AV) → Prop) (st : ASt) (G : Nat → AV) (i : Nat) : outOfM id Q (.exit i) st G = if i = id then Q .normal st G else Q (.exit i) st G := rfl
@[congr] theorem lazy_inScopeM {Q : Exit → ASt → (Nat → AV) → Prop} {ex ex' : Exit} {st st' : ASt} {G : Nat → AV} (h : mark ex = ex') (h' : st = st') : inScopeM Q ex st G = inScopeM Q ex' st' G := by rw [mark_eq] at h; rw [h, h']
@[simp] theorem inScopeM_normal (Q : Exit → ASt → (Nat → AV) → Prop) (st : ASt) (G : Nat → AV) : inScopeM Q .normal st G = Q .normal st G := rfl
@[simp] theorem inScopeM_ret (Q : Exit → ASt → (Nat → AV) → Prop) (st : ASt) (G : Nat → AV) : inScopeM Q .ret st G = Q .ret st G := rfl
@[simp] theorem inScopeM_exit (Q : Exit → ASt → (Nat → AV) → Prop) (st : ASt) (G : Nat → AV) (i : Nat) : inScopeM Q (.exit i) st G = Q (.exit i) st G := rfl
@[congr] theorem lazy_roundM {α : Type} {Sf : α → ASt} {Gf : α → Nat → AV} {pre lt : α → Prop} {Q : Exit → ASt → (Nat → AV) → Prop} {ex ex' : Exit} {st st' : ASt} {G : Nat → AV} (h : mark ex = ex') (h' : st = st') : roundM Sf Gf pre lt N h0 C Q ex st G = roundM Sf Gf pre lt N h0 C Q ex' st' G := by rw [mark_eq] at h; rw [h, h']
@[simp] theorem roundM_normal {α : Type} (Sf : α → ASt) (Gf : α → Nat → AV) (pre : α → Prop) (lt : α → Prop) (Q : Exit → ASt → (Nat → AV) → Prop) (st' : ASt) (G' : Nat → AV) : roundM Sf Gf pre lt N h0 C Q .normal st' G' = ∃ x', pre x' ∧ lt x' ∧ G' = Gf x' ∧ Weak (CG C G') N h0 st' (Sf x') := rfl
@[simp] theorem roundM_ret {α : Type} (Sf : α → ASt) (Gf : α → Nat → AV) (pre : α → Prop) (lt : α → Prop) (Q : Exit → ASt → (Nat → AV) → Prop) (st' : ASt) (G' : Nat → AV) : roundM Sf Gf pre lt N h0 C Q .ret st' G' = Q .ret st' G' := rfl
@[simp] theorem roundM_exit {α : Type} (Sf : α → ASt) (Gf : α → Nat → AV) (pre : α → Prop) (lt : α → Prop) (Q : Exit → ASt → (Nat → AV) → Prop) (st' : ASt) (G' : Nat → AV) (i : Nat) : roundM Sf Gf pre lt N h0 C Q (.exit i) st' G' = Q (.exit i) st' G' := rfl

theorem kindOf_CG (G : Nat → AV) (o : Oper) : kindOf (CG C G) o = kindOf C o := rfl
theorem AWm_regionM (hS : SigOK C) {id : Nat} {ops : Array Oper} {st : ASt} {G : Nat → AV} {Q : Exit → ASt → (Nat → AV) → Prop} (hok : (ops.toList.all fun o => match o.dst with | some d => decide (d < N) | none => true) = true) (h : aopsM C ops ops.toList st G (Q .normal)) : AWm C N h0 M (.region id ops false) st G Q := fun X w0 β0 H0 a w hl hr => by
  have hd : ∀ o ∈ ops.toList, ∀ d, o.dst = some d → d < N := by
    intro o ho d hd
    have := List.all_eq_true.1 hok o ho
    rw [hd] at this
    simpa using this
  exact wp_region_list (wpList_of_aopsM hS ops.toList hd h hr fun st' G' a' w' hr' hk => ⟨st', G', hk, hr'⟩)
theorem AWm_exitc {id : Nat} {st : ASt} {G : Nat → AV} {Q : Exit → ASt → (Nat → AV) → Prop} (h : Q (.exit id) st G) : AWm C N h0 M (.exit id) st G Q := fun X w0 β0 H0 a w hl hr => wp_exit ⟨st, G, h, hr⟩
theorem avcM_sound (hS : SigOK C) (hM : C.P.follows .mixedOrders = true) : ∀ (code : Code) {st : ASt} {G : Nat → AV} {Q : Exit → ASt → (Nat → AV) → Prop}, codeOKM C hm hd N code = true → avcM C hm hd N h0 M code st G Q → AWm C N h0 M code st G Q
  | .skip, st, G, Q, _, h => fun X w0 β0 H0 a w hl hr => wp_skip ⟨st, G, h, hr⟩
  | .region id ops draw, st, G, Q, hok, h => by
    unfold avcM at h
    unfold codeOKM at hok
    split at h
    · rename_i hi
      rw [if_pos hi] at hok
      simp only [Bool.and_eq_true, Bool.not_eq_true'] at hok
      obtain ⟨h1, rfl⟩ := hok
      exact AWm_regionM hS h1 h
    · rename_i hi
      rw [if_neg hi, Bool.or_eq_true] at hok
      split at h
      · exact h
      · rename_i hi2
        exact AWm.of fun hO => avc_sound (sigOver hS hO) hM (.region id ops draw) (hok.resolve_left hi2) h
  | .seq x y, st, G, Q, hok, h => by
    simp only [codeOKM, Bool.and_eq_true] at hok
    refine AWm_seq (AWm.mono (avcM_sound hS hM x hok.1 h) fun ex st' G' hq => ?_)
    cases ex with
    | normal => exact avcM_sound hS hM y hok.2 hq
    | _ => exact hq
  | .cond c x y, st, G, Q, hok, h => by
    simp only [codeOKM, Bool.and_eq_true] at hok
    rw [avcM_cond] at h
    refine AWm_cond ?_
    have key : ∀ v : AV, (onBool v fun b => both b (avcM C hm hd N h0 M x st G Q) (avcM C hm hd N h0 M y st G Q)) → onBool v fun b => both b (AWm C N h0 M x st G Q) (AWm C N h0 M y st G Q) := by
      intro v hv
      unfold onBool at hv ⊢
      split at hv
      · exact ⟨fun hb => avcM_sound hS hM x hok.1 (hv.1 hb), fun hb => avcM_sound hS hM y hok.2 (hv.2 hb)⟩
      · exact ⟨⟨fun hb => avcM_sound hS hM x hok.1 (hv.1.1 hb), fun hb => (by cases hb)⟩, ⟨fun hb => (by cases hb), fun hb => avcM_sound hS hM y hok.2 (hv.2.2 hb)⟩⟩
      · exact hv
    exact key _ h
  | .block id b, st, G, Q, hok, h => AWm_block (avcM_sound hS hM b (by simpa only [codeOKM] using hok) h)
  | .exit id, st, G, Q, _, h => fun X w0 β0 H0 a w hl hr => wp_exit ⟨st, G, h, hr⟩
  | .ret, st, G, Q, _, h => fun X w0 β0 H0 a w hl hr => wp_ret ⟨st, G, h, hr⟩
  | .label l, st, G, Q, _, h => fun X w0 β0 H0 a w hl hr => wp_label ⟨st, G, h, hr⟩
  | .scope b, st, G, Q, hok, h => AWm_scope (avcM_sound hS hM b (by simpa only [codeOKM] using hok) h)
  | .loop b, st, G, Q, _, h => h
  | .goto _, _, _, _, _, h => h.elim
  | .rangeFunc .., _, _, _, _, h => h.elim
  | .refuse _, _, _, _, _, h => h.elim
theorem loop_ruleM {α : Type} (hS : SigOK C) (hM : C.P.follows .mixedOrders = true) (hm hd : List Nat) {body : Code} {st : ASt} {G : Nat → AV} {Q : Exit → ASt → (Nat → AV) → Prop} (Sf : α → ASt) (Gf : α → Nat → AV) (pre : α → Prop) (m : α → Nat) (hok : codeOKM C hm hd N body = true)
    (start : ∃ x, pre x ∧ G = Gf x ∧ Weak (CG C G) N h0 st (Sf x)) (step : ∀ x, pre x → avcM C hm hd N h0 M body (Sf x) (Gf x) (roundM Sf Gf pre (fun x' => m x' < m x) N h0 C Q)) : AWm C N h0 M (.loop body) st G Q :=
  AWm_loop Sf Gf pre m start fun x hx => avcM_sound hS hM body hok (step x hx)
end
end Go.Proofs.Ytkhgjbjkjefeoaa

/-
  Maps that the call itself writes, fourth part: contracts. Own work; no program in sight.
-/
namespace Go.Proofs.Ytkhgjbjkjefeoaa
open Go.RowKit Go.ChangeMaps Go.MapKept
set_option linter.unusedVariables false

def postM (C : Ctx) (rs : List ResultVar) (r : AV) (ex : Exit) (st : ASt) (G : Nat → AV) : Prop := postP (CG C G) rs r ex st
@[congr] theorem lazy_postM {C : Ctx} {rs : List ResultVar} {r : AV} {ex ex' : Exit} {st st' : ASt} {G : Nat → AV} (h : mark ex = ex') (h' : st = st') : postM C rs r ex st G = postM C rs r ex' st' G := by rw [mark_eq] at h; rw [h, h']
@[simp] theorem postM_normal (C : Ctx) (rs : List ResultVar) (r : AV) (st : ASt) (G : Nat → AV) : postM C rs r .normal st G = finP (CG C G) rs r st := rfl
@[simp] theorem postM_ret (C : Ctx) (rs : List ResultVar) (r : AV) (st : ASt) (G : Nat → AV) : postM C rs r .ret st G = finP (CG C G) rs r st := rfl

theorem Off.keeps {w0 w0' w : World} (h : Off (fun _ => False) w0 w0') {M : Nat → Prop} (k : Keeps M w0' w) : Keeps M w0 w :=
  ⟨k.os.trans h.os, k.tape.trans h.tape, k.output.trans h.output, by rw [← h.size]; exact k.size, fun b hb hn => (k.block b (by rw [h.size]; exact hb) hn).trans (h.block b id), by rw [← h.drawn]; exact k.drawn⟩

section
variable {C : Ctx}
theorem pure_of_AWm {f : FuncId} {fn : Func} {body : Code} {rs : List ResultVar} {n : Nat} (hnm : ∀ g k e L, C.G g ≠ .mapof k e L) (hf : C.P.funcs[f]? = some fn) (hb : fn.body = some body) (hrs : fn.results.toList = rs) (hn : fn.ntmps = n) {p : List AV → Option (Prop × AV)}
    (h : ∀ avs ob r, p avs = some (ob, r) → ob → avs.length ≤ n ∧ AWm C n 0 (fun _ => False) body ⟨argsρ 0 (avs.map nrmV), []⟩ C.G (postM C rs r)) : PureOK C.P C.G f p := by
  subst hrs hn
  intro w X args avs0 ob r hX hG hsz0 harg0 hp hob
  obtain ⟨hlen0, hav0⟩ := h avs0 ob r hp hob
  generalize havs : avs0.map nrmV = avs at hav0
  have hlen : avs.length ≤ fn.ntmps := by rw [← havs]; simpa using hlen0
  have hsz : args.size = avs.length := by rw [← havs]; simpa using hsz0
  have harg : ∀ (j : Nat) (u : AV), avs[j]? = some u → ∃ v, args[j]? = some v ∧ RepD w X v u := fun j u hu => by
    rw [← havs, List.getElem?_map] at hu
    simp only [Option.map_eq_some_iff] at hu
    obtain ⟨av, hav, rfl⟩ := hu
    obtain ⟨v, h1, h2⟩ := harg0 j av hav
    exact ⟨v, h1, repD_nrmV h2⟩
  refine calls_of_wp hf hb ?_
  have hMu : ∀ b, Mu X [] [] b → X b := by
    rintro b (h | ⟨l, c, blk, h1, _, _⟩)
    · exact h
    · simp at h1
  have R : HRel w X [] [] := ⟨rfl, fun l bi b h1 _ => by simp at h1, fun l b c h1 => by simp at h1, fun l l' b c c' h1 => by simp at h1, hX⟩
  have hr : RelM C fn.ntmps X w [] [] (fun _ => False) ⟨argsρ 0 avs, []⟩ C.G { tmps := args ++ Array.replicate (fn.ntmps - args.size) undef, defers := [] } w :=
    ⟨w, Off.refl _ _, Over.refl hnm, fun b k e L hL => absurd hL (hnm b k e L), [], R, StepR.refl _ _ _ rfl, trel_args hsz (fun j u hj => let ⟨v, h1, h2⟩ := harg j u hj; ⟨v, h1, .deep (h2.mono fun b _ hb => hMu b hb)⟩), fun g => (hG g).mono fun b _ hb => hMu b hb, by simp; omega, rfl⟩
  refine Code.wp_mono (fun ex a' w' ⟨st', G', hq, hr'⟩ => ?_) (hav0 X w [] [] _ w rfl hr)
  have fin : finP (CG C G') fn.results.toList r st' → bodyPost C.P fn (fun e w' => ∃ v, e = .returned v ∧ Keeps (fun _ => False) w w' ∧ RepD w' X v r) .normal a' w' := by
    unfold finP
    split
    · rename_i ob' r' hres
      rintro ⟨hob', hview⟩
      obtain ⟨w0', o1, _, _, β', R', S', T', G', hN', hdef'⟩ := hr'
      obtain ⟨u, hu, hrep⟩ := aresults_sound R' T' hres hob'
      have hv := (view_sound R' (fun _ => True) 6 hrep (fun _ _ => trivial)).mono (X' := X) fun b _ hb => .inl hb
      have hv := repD_nrmV hv
      rw [hview] at hv
      exact ⟨hdef', u, hu, u, rfl, o1.keeps (S'.keeps.weaken (fun b _ h => by obtain ⟨l, c, blk, h1, _, _⟩ := h; simp at h1)), hv⟩
    · intro h; exact h.elim
  cases ex with
  | normal => exact fin hq
  | ret => exact fin hq
  | _ => exact hq.elim
end

section
variable {C : Ctx} (hS : SigOK C) (hM : C.P.follows .mixedOrders = true) (hnm : ∀ g k e L, C.G g ≠ .mapof k e L) {f : FuncId} {fn : Func} {body : Code} {rs : List ResultVar} {n : Nat} (hf : C.P.funcs[f]? = some fn) (hb : fn.body = some body) (hrs : fn.results.toList = rs) (hn : fn.ntmps = n) (hm hd : List Nat)
include hS hM hnm hf hb hrs hn
theorem pureM1 {α : Type} [Enc α] (hok : codeOKM C hm hd n body = true) (hnn : 1 ≤ n) {pre : α → Prop} {res : α → AV} (h : ∀ a, pre a → avcM C hm hd n 0 (fun _ => False) body ⟨[(0, Enc.enc a)], []⟩ C.G (postM C rs (res a))) : PureOK C.P C.G f (spec1 pre res) :=
  pure_of_AWm hnm hf hb hrs hn fun avs ob r' hp hob => by
    unfold spec1 at hp
    split at hp
    · injection hp with hp; injection hp with e1 e2; subst e1 e2
      have := h _ hob.2
      rw [← hob.1] at this
      exact ⟨hnn, avcM_sound hS hM body hok this⟩
    · cases hp
theorem pureM2 {α β : Type} [Enc α] [Enc β] (hok : codeOKM C hm hd n body = true) (hnn : 2 ≤ n) {pre : α → β → Prop} {res : α → β → AV} (h : ∀ a b, pre a b → avcM C hm hd n 0 (fun _ => False) body ⟨[(0, Enc.enc a), (1, Enc.enc b)], []⟩ C.G (postM C rs (res a b))) : PureOK C.P C.G f (spec2 pre res) :=
  pure_of_AWm hnm hf hb hrs hn fun avs ob r' hp hob => by
    unfold spec2 at hp
    split at hp
    · injection hp with hp; injection hp with e1 e2; subst e1 e2
      have := h _ _ hob.2.2
      rw [← hob.1, ← hob.2.1] at this
      exact ⟨hnn, avcM_sound hS hM body hok this⟩
    · cases hp
end
/-- A region that draws its order and writes no map. -/
theorem AWm_regionF {C : Ctx} {N h0 : Nat} {M : Nat → Prop} (hS : SigOK C) (hM : C.P.follows .mixedOrders = true) {id : Nat} {l : List Oper} {st : ASt} {G : Nat → AV} {Q : Exit → ASt → (Nat → AV) → Prop} (ks : List Kd) (ds : List (List Nat)) (hks : kinds C l.toArray = ks) (hds : befT l [] = ds) (hok : regOKF C l.toArray = true) (hdd : (l.all fun o => match o.dst with | some d => decide (d < N) | none => true) = true)
    (h : aopsF (CG C G) l.toArray 0 l ks ds [] [] st fun st' => Q .normal st' G) : AWm C N h0 M (.region id l.toArray true) st G Q :=
  AWm.of fun hO => AW_regionF (Q := fun ex st' => Q ex st' G) (sigOver hS hO) hM ks ds hks hds hok hdd h
end Go.Proofs.Ytkhgjbjkjefeoaa

/-
  The library's SortFunc at elements of one cell, on a block of the call's own. Own work; no program in sight.
-/
namespace Go.Proofs.Ytkhgjbjkjefeoaa
open Go.RowKit Go.Shelf Go.Sort
set_option linter.unusedVariables false

theorem keeps_grow {w w' : World} (h : Keeps (fun _ => False) w w') : ∃ q os, w' = Go.Sort.grow (w.drewN q) os := by
  refine ⟨w'.drawn - w.drawn, w'.heap.extract w.heap.size w'.heap.size, ?_⟩
  have e : w.heap ++ w'.heap.extract w.heap.size w'.heap.size = w'.heap := by
    apply Array.ext_getElem?
    intro i
    rw [Array.getElem?_append]
    split
    · rename_i hi
      exact (h.block i hi id).symm
    · rename_i hi
      rw [Array.getElem?_extract]
      split
      · congr 1
        omega
      · rename_i h2
        rw [Array.getElem?_eq_none]
        simp only [Nat.min_self] at h2
        omega
  have h1 := h.os
  have h2 := h.tape
  have h3 := h.output
  have h4 := h.drawn
  obtain ⟨heap', tape', drawn', os', out'⟩ := w'
  obtain ⟨heap, tape, drawn, os, out⟩ := w
  simp only at h1 h2 h3 h4 e
  subst h1 h2 h3
  simp only [Go.Sort.grow, World.drewN, World.mk.injEq, and_true, true_and]
  exact ⟨e.symm, by omega⟩

def decRows {α : Type} [Enc α] (rows : List (List AV)) : List α := rows.map Enc.unc
@[simp] theorem decRows_enc {α : Type} [Enc α] (l : List α) : (decRows (encRows l) : List α) = l := by
  unfold decRows encRows
  simp only [List.map_map, Function.comp_def, Enc.unc_cells, List.map_id']

/-- Sorted by cf: where cf parts whatever two are not one, there is one such list. -/
def sortBy {α : Type} (cf : α → α → Int) (l : List α) : List α := l.mergeSort fun x y => !(ltOf cf y x)

def sortG {α : Type} [Enc α] (cmp : FuncId) (good : α → Prop) (cf : α → α → Int) : List AV → List Blk → Option (Prop × AV × List Blk)
  | [.own l n, .fn g []], H =>
    if g = cmp then
      match H[l]? with
      | some b => if b.mu = true ∧ b.deep = true ∧ b.sz = 1 then
          some (b.rows.length = n ∧ b.rows = encRows (decRows b.rows : List α) ∧ (∀ x ∈ (decRows b.rows : List α), good x) ∧ n < 4611686018427387904, .tup [], H.set l { b with rows := encRows (sortBy cf (decRows b.rows : List α)) })
        else none
      | none => none
    else none
  | _, _ => none

theorem rep_unit {w : World} {X : Nat → Prop} {β : List BI} {H : List Blk} : Rep w X β H (.tuple #[]) (.tup []) :=
  .tup #[] [] (fun _ => undef) rfl (fun j hj => absurd hj (Nat.not_lt_zero j)) (fun j v hj => by simp at hj)

theorem sorted_eq {α γ : Type} (cf : α → α → Int) (hO : SWO (ltOf cf)) (hT : ∀ x y, ltOf cf x y = false → ltOf cf y x = false → x = y) [Inhabited γ] (p : γ → α) (d d' : Array γ) (hp : PermIn 0 d.size d d') (hs : SortedIn (ltOf fun x y => cf (p x) (p y)) 0 d.size d') :
    d'.toList.map p = sortBy cf (d.toList.map p) := by
  obtain ⟨hsz, _, hperm⟩ := hp
  have e1 : d'.extract 0 d.size = d' := by rw [← hsz]; exact Array.extract_size
  rw [e1, Array.extract_size] at hperm
  unfold sortBy
  refine List.Perm.eq_of_pairwise (le := fun x y => (!ltOf cf y x) = true) ?_ ?_ ?_ ((hperm.map p).trans (List.mergeSort_perm _ _).symm)
  · intro a b _ _ h1 h2
    simp only [Bool.not_eq_true'] at h1 h2
    exact hT a b h2 h1
  · rw [List.pairwise_map, List.pairwise_iff_getElem]
    intro i j hi hj hij
    have hi' : i < d'.size := by simpa using hi
    have hj' : j < d'.size := by simpa using hj
    have := hs i j (Nat.zero_le _) hij (by omega)
    rw [getElem!_pos d' j hj', getElem!_pos d' i hi'] at this
    simpa [ltOf] using this
  · refine List.pairwise_mergeSort ?_ ?_ _
    · intro a b c h1 h2
      simp only [Bool.not_eq_true'] at h1 h2 ⊢
      exact hO.ntrans c b a h2 h1
    · intro a b
      cases h : ltOf cf b a with
      | false => simp
      | true => simp [hO.asymmA h]

theorem gen_sort1 {P : Program} {G : Nat → AV} {ρ : Ren} (L : SlLaysF.n6 P ρ) {f cmp : FuncId} (hf : ρ.f 6 = f) {α : Type} [Enc α] (hE : ∀ a : α, Enc.cells a = [Enc.enc a]) (hI : ∀ a : α, nrmV (Enc.enc a) = Enc.enc a) (good : α → Prop) (cf : α → α → Int)
    (hc : PureOK P G cmp (spec2 (fun a b => good a ∧ good b) fun a b => .int .i64 (cf a b))) (eg : ∀ args w, (callFunc cmp args).run P w = .ok (.enter cmp args) w) (hO : SWO (ltOf cf)) (hT : ∀ x y, ltOf cf x y = false → ltOf cf y x = false → x = y) : GenOK P G f (sortG cmp good cf) := by
  subst hf
  intro w X β H args avs ob r H' R hG hsz harg hg hob
  unfold sortG at hg
  split at hg
  case h_2 => cases hg
  rename_i l n g
  split at hg
  case isFalse => cases hg
  rename_i hgc
  subst hgc
  split at hg
  case h_2 => cases hg
  rename_i b hb
  split at hg
  case isFalse => cases hg
  rename_i hbb
  obtain ⟨hmu, hdeep, hz⟩ := hbb
  injection hg with hg; injection hg with e1 e2; injection e2 with e2 e3; subst e1 e2 e3
  obtain ⟨hn, hrows, hgood, hbig⟩ := hob
  obtain ⟨v0, ha0, h0⟩ := harg 0 (.own l n) rfl
  obtain ⟨v1, ha1, h1⟩ := harg 1 (.fn g []) rfl
  obtain ⟨a, cap, b', rfl, hb', hn', h00, hx⟩ := rep_own h0
  rw [hb] at hb'
  injection hb' with hb'
  subst hb'
  obtain ⟨vs, val, rfl, hl1, hm1, hv1⟩ := rep_fn h1
  have hvs : vs = #[] := Array.eq_empty_of_size_eq_zero (by simpa using hl1)
  subst hvs
  have hargs : args = #[.slice a n cap, .func (.func g) #[] #[]] := by
    apply Array.ext_getElem?
    intro i
    match i with
    | 0 => rw [ha0]; rfl
    | 1 => rw [ha1]; rfl
    | i + 2 =>
      rw [Array.getElem?_eq_none, Array.getElem?_eq_none]
      · simp
      · rw [hsz]; simp
  subst hargs
  generalize hxs : (decRows b.rows : List α) = xs at hrows hgood ⊢
  have hxl : xs.length = n := by rw [← hn, hrows]; simp
  rcases Nat.eq_zero_or_pos n with rfl | hpos
  · have hnil : xs = [] := List.length_eq_zero_iff.1 hxl
    refine (AnyF.slices_SortFunc_none { L with } a cap _ w).mono ?_
    rintro e w' ⟨rfl, rfl⟩
    have hse : H.set l { b with rows := encRows (sortBy cf xs) } = H := by
      have : ({ b with rows := encRows (sortBy cf xs) } : Blk) = b := by
        have h3 : b.rows = [] := by rw [hrows, hnil]; rfl
        rw [hnil]
        unfold sortBy
        rw [List.mergeSort_nil]
        cases b
        simp only at h3
        subst h3
        rfl
      rw [this]
      exact set_self hb
    rw [hse]
    exact ⟨_, β, rfl, R, StepR.refl _ _ _ R.len, rep_unit⟩
  have hx := hx hn
  cases hβ : β[l]? with
  | none => rw [hβ] at hx; exact hx.elim
  | some bi =>
    rw [hβ] at hx
    cases bi with
    | nil => exact absurd hx.1 (by omega)
    | lies bk c =>
      obtain ⟨rfl, rfl⟩ := hx
      obtain ⟨cur, k1, k2, k3, k4, k5, k6, k7⟩ := R.blk l _ b hβ hb
      rw [hz] at k2 k5 k6
      have hbkM : Mu X β H bk := .inr ⟨l, _, b, hβ, hb, hmu⟩
      have hbklt : bk < w.heap.size := (R.lt l bk _ hβ).1
      have hcell : ∀ i, i < n → ∃ p : { p : Value × α // p.1.oneCell' = true ∧ good p.2 ∧ RepD w (Mu X β H) p.1 (Enc.enc p.2) }, cur[i]? = some p.1.1 ∧ xs[i]? = some p.1.2 := by
        intro i hi
        have hxi : xs[i]? = some (xs[i]'(by omega)) := List.getElem?_eq_getElem _
        have hri : b.rows[i]? = some [Enc.enc (xs[i]'(by omega))] := by
          rw [hrows]
          unfold encRows
          rw [List.getElem?_map, hxi, Option.map_some, hE]
        obtain ⟨v, q1, q2, q3, q4⟩ := k7 i 0 _ _ hri rfl
        rw [hz, Nat.mul_one, Nat.add_zero] at q1
        exact ⟨⟨(v, xs[i]'(by omega)), q2, hgood _ (List.getElem_mem _), q4 hdeep⟩, q1, hxi⟩
      obtain ⟨p0, _⟩ := hcell 0 hpos
      letI : Inhabited { p : Value × α // p.1.oneCell' = true ∧ good p.2 ∧ RepD w (Mu X β H) p.1 (Enc.enc p.2) } := ⟨p0⟩
      obtain ⟨d, hd, hdd⟩ : ∃ d : Array { p : Value × α // p.1.oneCell' = true ∧ good p.2 ∧ RepD w (Mu X β H) p.1 (Enc.enc p.2) }, d.size = n ∧ ∀ i (hi : i < d.size), cur[i]? = some (d[i]).1.1 ∧ xs[i]? = some (d[i]).1.2 := by
        refine ⟨Array.ofFn fun i : Fin n => Classical.choose (hcell i.1 i.2), by simp, fun i hi => ?_⟩
        have hi' : i < n := by simpa using hi
        have := Classical.choose_spec (hcell i hi')
        simpa using this
      have hxsd : d.toList.map (fun p => p.1.2) = xs := by
        apply List.ext_getElem?
        intro i
        rw [List.getElem?_map, Array.getElem?_toList]
        rcases Nat.lt_or_ge i d.size with hi | hi
        · rw [Array.getElem?_eq_getElem hi, (hdd i hi).2]
          rfl
        · rw [Array.getElem?_eq_none hi, List.getElem?_eq_none (by omega)]
          rfl
      have hH : Holds (fun p : { p : Value × α // p.1.oneCell' = true ∧ good p.2 ∧ RepD w (Mu X β H) p.1 (Enc.enc p.2) } => p.1.1) w bk 0 d := by
        intro j hj
        rw [Nat.zero_add, cell_of_row w bk j cur b.e (0, 0) k1, (hdd j hj).1, getElem!_pos d j hj]
        refine ⟨rfl, ?_⟩
        unfold World.frozen?
        rw [k1]
        simp
      have hW : ∀ (m : Nat) (dk : Array { p : Value × α // p.1.oneCell' = true ∧ good p.2 ∧ RepD w (Mu X β H) p.1 (Enc.enc p.2) }) (os : Array Obj), (∀ k, k < w.heap.size → k ≠ bk → (sortWorld (fun p : { p : Value × α // p.1.oneCell' = true ∧ good p.2 ∧ RepD w (Mu X β H) p.1 (Enc.enc p.2) } => p.1.1) w bk 0 m dk os).heap[k]? = w.heap[k]?) ∧ w.heap.size ≤ (sortWorld (fun p : { p : Value × α // p.1.oneCell' = true ∧ good p.2 ∧ RepD w (Mu X β H) p.1 (Enc.enc p.2) } => p.1.1) w bk 0 m dk os).heap.size := by
        intro m dk os
        refine ⟨fun k hk hne => ?_, ?_⟩
        · show ((w.heap.modify bk _) ++ os)[k]? = _
          rw [Array.getElem?_append_left (by simpa using hk), Array.getElem?_modify, if_neg (fun h => hne h.symm)]
        · show _ ≤ ((w.heap.modify bk _) ++ os).size
          simp
      have hcmp : CmpLays1 P g #[] (fun p : { p : Value × α // p.1.oneCell' = true ∧ good p.2 ∧ RepD w (Mu X β H) p.1 (Enc.enc p.2) } => p.1.1) (fun x y => cf x.1.2 y.1.2) bk 0 d.size w := by
        intro m os dk hdk x y
        obtain ⟨hW1, hW2⟩ := hW m dk os
        have hkp : ∀ k, k < w.heap.size → ¬ Mu X β H k → (sortWorld (fun p : { p : Value × α // p.1.oneCell' = true ∧ good p.2 ∧ RepD w (Mu X β H) p.1 (Enc.enc p.2) } => p.1.1) w bk 0 m dk os).heap[k]? = w.heap[k]? := fun k hk hnm => hW1 k hk fun e => hnm (e ▸ hbkM)
        have hsp : spec2 (fun a b : α => good a ∧ good b) (fun a b => .int .i64 (cf a b)) [Enc.enc x.1.2, Enc.enc y.1.2] = some (nrmV (Enc.enc x.1.2) = Enc.enc x.1.2 ∧ nrmV (Enc.enc y.1.2) = Enc.enc y.1.2 ∧ good x.1.2 ∧ good y.1.2, .int .i64 (cf x.1.2 y.1.2)) := by simp only [spec2, Enc.dec_enc]
        refine (hc _ (Mu X β H) (#[x.1.1, y.1.1] ++ #[]) [Enc.enc x.1.2, Enc.enc y.1.2] _ _ (fun k hk => Nat.lt_of_lt_of_le (R.mu_lt k hk) hW2) (fun k => (hG k).keep hkp hW2 (fun _ _ h => h)) rfl (fun j u hj => ?_) hsp ⟨hI _, hI _, x.2.2.1, y.2.2.1⟩).mono ?_
        · match j with
          | 0 => simp at hj; subst hj; exact ⟨x.1.1, rfl, x.2.2.2.keep hkp hW2 (fun _ _ h => h)⟩
          | 1 => simp at hj; subst hj; exact ⟨y.1.1, rfl, y.2.2.2.keep hkp hW2 (fun _ _ h => h)⟩
          | j + 2 => simp at hj
        · rintro e w' ⟨v, he, hk, hr⟩
          cases hr
          exact ⟨he, keeps_grow hk⟩
      subst hd
      refine (Any.slices_SortFunc L (fun p : { p : Value × α // p.1.oneCell' = true ∧ good p.2 ∧ RepD w (Mu X β H) p.1 (Enc.enc p.2) } => p.1.1) (fun p => p.2.1) (fun x y => cf x.1.2 y.1.2) ⟨fun x => hO.irrefl x.1.2, fun x y z => hO.trans x.1.2 y.1.2 z.1.2, fun x y z => hO.ntrans x.1.2 y.1.2 z.1.2⟩ g #[] bk 0 cap d w eg hcmp hH hbklt (by omega)).mono ?_
      rintro e w' ⟨rfl, d', nn, os, hp, hs, rfl⟩
      obtain ⟨hW1, hW2⟩ := hW nn d' os
      have hsz' : d'.size = d.size := hp.1
      have hys := sorted_eq cf hO hT (fun p : { p : Value × α // p.1.oneCell' = true ∧ good p.2 ∧ RepD w (Mu X β H) p.1 (Enc.enc p.2) } => p.1.2) d d' hp hs
      rw [hxsd] at hys
      have hbi : β[l]? = some (BI.lies bk cap) := hβ
      have hlen2 : (encRows (sortBy cf xs)).length = d.size := by unfold sortBy; rw [encRows_length, List.length_mergeSort]; exact hxl
      have hK : Keeps (MutB β H) w (sortWorld (fun p : { p : Value × α // p.1.oneCell' = true ∧ good p.2 ∧ RepD w (Mu X β H) p.1 (Enc.enc p.2) } => p.1.1) w bk 0 nn d' os) :=
        ⟨rfl, rfl, rfl, hW2, fun k hk hnm => hW1 k hk fun e => hnm (e ▸ ⟨l, cap, b, hβ, hb, hmu⟩), Nat.le_add_right _ _⟩
      have S := set_step R hb hbi (.lies bk cap) { b with rows := encRows (sortBy cf xs) } rfl rfl (by rw [hlen2, hn]; exact Nat.le_refl _) (fun _ => rfl) id (fun bk' c' e => .inr ⟨c', e⟩) hK
      have hkp : ∀ k, k < w.heap.size → ¬ Mu X β H k → (sortWorld (fun p : { p : Value × α // p.1.oneCell' = true ∧ good p.2 ∧ RepD w (Mu X β H) p.1 (Enc.enc p.2) } => p.1.1) w bk 0 nn d' os).heap[k]? = w.heap[k]? := fun k hk hnm => hW1 k hk fun e => hnm (e ▸ hbkM)
      have R' := set_hrel R hb hbi (.lies bk cap) { b with rows := encRows (sortBy cf xs) } S (fun l' bk' c' hne h => hW1 bk' (R.lt l' bk' c' h).1 fun e => hne (R.inj l' l bk' c' cap h (e ▸ hβ))) (by
        refine ⟨putCells (fun p : { p : Value × α // p.1.oneCell' = true ∧ good p.2 ∧ RepD w (Mu X β H) p.1 (Enc.enc p.2) } => p.1.1) 0 d' cur, ?_, ?_, by rw [hlen2]; omega, k4, by rw [hz]; exact Nat.one_pos, fun r hr => ?_, fun i j r av hr hj => ?_⟩
        · show ((w.heap.modify bk _) ++ os)[bk]? = _
          rw [Array.getElem?_append_left (by simpa using hbklt), Array.getElem?_modify, if_pos rfl, k1]
          rfl
        · simp only [putCells, Array.size_mapIdx]
          rw [k2, hz]
        · unfold encRows at hr
          obtain ⟨x, _, rfl⟩ := List.mem_map.1 hr
          rw [hE, hz]
          rfl
        · unfold encRows at hr
          rw [List.getElem?_map, Option.map_eq_some_iff] at hr
          obtain ⟨x, hx', rfl⟩ := hr
          rw [hE] at hj
          have hi : i < d.size := by have := (List.getElem?_eq_some_iff.1 hx').1; unfold sortBy at this; rw [List.length_mergeSort] at this; omega
          match j with
          | j + 1 => simp at hj
          | 0 =>
            simp only [List.getElem?_cons_zero, Option.some.injEq] at hj
            subst hj
            rw [← hys, List.getElem?_map, Array.getElem?_toList, Array.getElem?_eq_getElem (by omega), Option.map_some] at hx'
            injection hx' with hx'
            subst hx'
            have hrep : RepD (sortWorld (fun p : { p : Value × α // p.1.oneCell' = true ∧ good p.2 ∧ RepD w (Mu X β H) p.1 (Enc.enc p.2) } => p.1.1) w bk 0 nn d' os) (Mu X (β.set l (.lies bk cap)) (H.set l { b with rows := encRows (sortBy cf xs) })) (d'[i]'(by omega)).1.1 (Enc.enc (d'[i]'(by omega)).1.2) :=
              (d'[i]'(by omega)).2.2.2.keep hkp hW2 (fun k hk h => S.mu k hk h)
            refine ⟨(d'[i]'(by omega)).1.1, ?_, (d'[i]'(by omega)).2.1, .deep hrep, fun _ => hrep⟩
            rw [hz, Nat.mul_one, Nat.add_zero]
            have hci : i < cur.size := by omega
            simp only [putCells, Array.getElem?_mapIdx, Array.getElem?_eq_getElem hci, Option.map_some, Nat.zero_le, true_and, Nat.zero_add, Nat.sub_zero]
            rw [if_pos (by omega), getElem!_pos d' i (by omega)])
        (fun bk' c' e => by injection e with e1 e2; subst e1; exact ⟨Nat.lt_of_lt_of_le hbklt hW2, (R.lt l bk _ hβ).2⟩) (fun bk' c' l' c'' e hne h => by injection e with e1 e2; subst e1; exact hne (R.inj l' l bk c'' cap h hβ))
      exact ⟨_, _, rfl, R', S, rep_unit⟩
end Go.Proofs.Ytkhgjbjkjefeoaa

/-
  The library's SortFunc at elements of some plain cells, on a block of the call's own. Own work; no program in sight.
-/
namespace Go.Proofs.Ytkhgjbjkjefeoaa
open Go.RowKit Go.Shelf Go.Sort
set_option linter.unusedVariables false

/-- Elements whose cells hold what they read asq. -/
structure FlatE (α : Type) [Enc α] (k : Nat) (encV : α → List Value) : Prop where
  pos : 0 < k
  len : ∀ a, (encV a).length = k
  clen : ∀ a : α, (Enc.cells a).length = k
  one : ∀ a, ∀ v ∈ encV a, v.oneCell' = true
  rep : ∀ (a : α) (j : Nat) (av : AV), (Enc.cells a)[j]? = some av → ∀ (w : World) (X : Nat → Prop) (β : List BI) (H : List Blk) (v : Value), Rep w X β H v av → (encV a)[j]? = some v
  val : ∀ (a : α) (j : Nat) (v : Value), (encV a)[j]? = some v → ∃ av, (Enc.cells a)[j]? = some av ∧ ∀ (w : World) (X : Nat → Prop), RepD w X v av
  enc : ∀ a : α, Enc.enc a = .agg (Enc.cells a)
  nrm : ∀ a : α, nrmV (Enc.enc a) = Enc.enc a
theorem FlatE.agg {α : Type} [Enc α] {k : Nat} {encV : α → List Value} (F : FlatE α k encV) (w : World) (X : Nat → Prop) (a : α) : RepD w X (.agg (encV a).toArray) (Enc.enc a) := by
  rw [F.enc]
  have hl := F.len a
  have hc := F.clen a
  refine .agg _ _ (fun j => (encV a).getD j undef) (by rw [List.size_toArray, hl, hc]) (fun j hj => ?_) (fun j av hj => ?_)
  · have h1 : j < (encV a).length := by omega
    have e : (encV a).getD j undef = (encV a)[j] := by simp [h1]
    rw [e]
    exact ⟨by simp [h1], F.one a _ (List.getElem_mem h1)⟩
  · have h1 : j < (encV a).length := by have := (List.getElem?_eq_some_iff.1 hj).1; omega
    obtain ⟨av', h2, h3⟩ := F.val a j _ (List.getElem?_eq_getElem h1)
    rw [hj] at h2
    injection h2 with h2
    subst h2
    have e : (encV a).getD j undef = (encV a)[j] := by simp [h1]
    rw [e]
    exact h3 w X
def sortGK {α : Type} [Enc α] (k : Nat) (cmp : FuncId) (cf : α → α → Int) : List AV → List Blk → Option (Prop × AV × List Blk)
  | [.own l n, .fn g []], H =>
    if g = cmp then
      match H[l]? with
      | some b => if b.mu = true ∧ b.deep = true ∧ b.sz = k then
          some (b.rows.length = n ∧ b.rows = encRows (decRows b.rows : List α) ∧ n < 4611686018427387904, .tup [], H.set l { b with rows := encRows (sortBy cf (decRows b.rows : List α)) })
        else none
      | none => none
    else none
  | _, _ => none

theorem flat_at {α : Type} [Inhabited α] {encV : α → List Value} {k : Nat} (hk : ∀ x, (encV x).length = k) (d : Array α) {i j : Nat} (hi : i < d.size) (hj : j < k) : i * k + j < (flatK encV k d).size ∧ (flatK encV k d)[i * k + j]! = (encV d[i]!)[j]! := by
  have lt : i * k + j < d.size * k := by
    have := Nat.mul_le_mul_right k (show i + 1 ≤ d.size from hi); rw [Nat.add_mul, Nat.one_mul] at this; omega
  have e1 : (i * k + j) / k = i := (blk_iff k i _ (by omega)).1 ⟨by omega, by omega⟩
  have e2 : (i * k + j) % k = j := by rw [Nat.mod_eq_sub_div_mul, e1]; omega
  refine ⟨by rw [size_flatK]; exact lt, ?_⟩
  rw [get_flatK _ _ _ _ lt, e1, e2]
set_option maxHeartbeats 4000000 in
theorem gen_sortK {P : Program} {G : Nat → AV} {ρ : Ren} (L : SlLaysF0.n6 P ρ) {f cmp : FuncId} (hf : ρ.f 6 = f) {α : Type} [Inhabited α] [Enc α] {k : Nat} {encV : α → List Value} (F : FlatE α k encV) (aE : ∀ w, (isAgg (ρ.t 24)).run P w = .ok true w) (zE : ∀ w, (Go.sizeOf (ρ.t 24)).run P w = .ok k w) (cf : α → α → Int)
    (hc : PureOK P G cmp (spec2 (fun (_ _ : α) => True) fun a b => .int .i64 (cf a b))) (eg : ∀ args w, (callFunc cmp args).run P w = .ok (.enter cmp args) w) (hO : SWO (ltOf cf)) (hT : ∀ x y, ltOf cf x y = false → ltOf cf y x = false → x = y) : GenOK P G f (sortGK k cmp cf) := by
  subst hf
  intro w X β H args avs ob r H' R hG hsz harg hg hob
  unfold sortGK at hg
  split at hg
  case h_2 => cases hg
  rename_i l n g
  split at hg
  case isFalse => cases hg
  rename_i hgc
  subst hgc
  split at hg
  case h_2 => cases hg
  rename_i b hb
  split at hg
  case isFalse => cases hg
  rename_i hbb
  obtain ⟨hmu, hdeep, hz⟩ := hbb
  injection hg with hg; injection hg with e1 e2; injection e2 with e2 e3; subst e1 e2 e3
  obtain ⟨hn, hrows, hbig⟩ := hob
  obtain ⟨v0, ha0, h0⟩ := harg 0 (.own l n) rfl
  obtain ⟨v1, ha1, h1⟩ := harg 1 (.fn g []) rfl
  obtain ⟨a, cap, b', rfl, hb', hn', h00, hx⟩ := rep_own h0
  rw [hb] at hb'
  injection hb' with hb'
  subst hb'
  obtain ⟨vs, val, rfl, hl1, hm1, hv1⟩ := rep_fn h1
  have hvs : vs = #[] := Array.eq_empty_of_size_eq_zero (by simpa using hl1)
  subst hvs
  have hargs : args = #[.slice a n cap, .func (.func g) #[] #[]] := by
    apply Array.ext_getElem?
    intro i
    match i with
    | 0 => rw [ha0]; rfl
    | 1 => rw [ha1]; rfl
    | i + 2 =>
      rw [Array.getElem?_eq_none, Array.getElem?_eq_none]
      · simp
      · rw [hsz]; simp
  subst hargs
  generalize hxs : (decRows b.rows : List α) = xs at hrows ⊢
  have hxl : xs.length = n := by rw [← hn, hrows]; simp
  rcases Nat.eq_zero_or_pos n with rfl | hpos
  · have hnil : xs = [] := List.length_eq_zero_iff.1 hxl
    refine (AnyF.slices_SortFunc_none L a cap _ w).mono ?_
    rintro e w' ⟨rfl, rfl⟩
    have hse : H.set l { b with rows := encRows (sortBy cf xs) } = H := by
      have : ({ b with rows := encRows (sortBy cf xs) } : Blk) = b := by
        have h3 : b.rows = [] := by rw [hrows, hnil]; rfl
        rw [hnil]
        unfold sortBy
        rw [List.mergeSort_nil]
        cases b
        simp only at h3
        subst h3
        rfl
      rw [this]
      exact set_self hb
    rw [hse]
    exact ⟨_, β, rfl, R, StepR.refl _ _ _ R.len, rep_unit⟩
  have hx := hx hn
  cases hβ : β[l]? with
  | none => rw [hβ] at hx; exact hx.elim
  | some bi =>
    rw [hβ] at hx
    cases bi with
    | nil => exact absurd hx.1 (by omega)
    | lies bk c =>
      obtain ⟨rfl, rfl⟩ := hx
      obtain ⟨cur, k1, k2, k3, k4, k5, k6, k7⟩ := R.blk l _ b hβ hb
      rw [hz] at k2 k5 k6
      have hbkM : Mu X β H bk := .inr ⟨l, _, b, hβ, hb, hmu⟩
      have hbklt : bk < w.heap.size := (R.lt l bk _ hβ).1
      obtain ⟨d, hd⟩ : ∃ d : Array α, d = xs.toArray := ⟨_, rfl⟩
      have hds : d.size = n := by rw [hd, List.size_toArray, hxl]
      have hcell : ∀ i j, i < n → j < k → ∃ v, cur[i * k + j]? = some v ∧ (encV d[i]!)[j]? = some v := by
        intro i j hi hj
        have hxi : xs[i]? = some (xs[i]'(by omega)) := List.getElem?_eq_getElem _
        have hdi : d[i]! = xs[i]'(by omega) := by rw [getElem!_pos d i (by omega)]; simp [hd]
        have hri : b.rows[i]? = some (Enc.cells (xs[i]'(by omega))) := by
          rw [hrows]
          unfold encRows
          rw [List.getElem?_map, hxi, Option.map_some]
        have hcl := F.clen (xs[i]'(by omega))
        obtain ⟨v, q1, q2, q3, q4⟩ := k7 i j _ _ hri (List.getElem?_eq_getElem (show j < _ by omega))
        rw [hz] at q1
        refine ⟨v, q1, ?_⟩
        rw [hdi]
        exact F.rep _ j _ (List.getElem?_eq_getElem _) _ _ _ _ v q3
      have hfl : ∀ t, t < (flatK encV k d).size → cur[t]? = some (flatK encV k d)[t]! := by
        intro t ht
        rw [size_flatK] at ht
        have hi : t / k < n := by rw [← hds]; exact Nat.div_lt_of_lt_mul (by rwa [Nat.mul_comm])
        have hj : t % k < k := Nat.mod_lt _ F.pos
        obtain ⟨v, q1, q2⟩ := hcell _ _ hi hj
        rw [get_flatK _ _ _ _ ht]
        have e : t / k * k + t % k = t := by rw [Nat.mul_comm]; exact Nat.div_add_mod t k
        rw [e] at q1
        rw [q1]
        rw [List.getElem!_of_getElem? q2]
      have hH : HoldsK encV k w bk 0 d := by
        intro j hj
        rw [Nat.zero_add, cell_of_row w bk j cur b.e (0, 0) k1, hfl j hj]
        refine ⟨rfl, ?_⟩
        unfold World.frozen?
        rw [k1]
        simp
      have hW : ∀ (m : Nat) (dk : Array α) (os : Array Obj), (∀ q, q < w.heap.size → q ≠ bk → (sortWorldK encV k w bk 0 m dk os).heap[q]? = w.heap[q]?) ∧ w.heap.size ≤ (sortWorldK encV k w bk 0 m dk os).heap.size := by
        intro m dk os
        refine ⟨fun q hq hne => ?_, ?_⟩
        · show ((w.heap.modify bk _) ++ os)[q]? = _
          rw [Array.getElem?_append_left (by simpa using hq), Array.getElem?_modify, if_neg (fun h => hne h.symm)]
        · show _ ≤ ((w.heap.modify bk _) ++ os).size
          simp
      have hcmp : CmpLays P g #[] encV k cf bk 0 d.size w := by
        intro m os dk hdk x y
        obtain ⟨hW1, hW2⟩ := hW m dk os
        have hkp : ∀ q, q < w.heap.size → ¬ Mu X β H q → (sortWorldK encV k w bk 0 m dk os).heap[q]? = w.heap[q]? := fun q hq hnm => hW1 q hq fun e => hnm (e ▸ hbkM)
        have hsp : spec2 (fun (_ _ : α) => True) (fun a b => .int .i64 (cf a b)) [Enc.enc x, Enc.enc y] = some (nrmV (Enc.enc x) = Enc.enc x ∧ nrmV (Enc.enc y) = Enc.enc y ∧ True, .int .i64 (cf x y)) := by simp only [spec2, Enc.dec_enc]
        refine (hc _ (Mu X β H) (#[.agg (encV x).toArray, .agg (encV y).toArray] ++ #[]) [Enc.enc x, Enc.enc y] _ _ (fun q hq => Nat.lt_of_lt_of_le (R.mu_lt q hq) hW2) (fun q => (hG q).keep hkp hW2 (fun _ _ h => h)) rfl (fun j u hj => ?_) hsp ⟨F.nrm _, F.nrm _, trivial⟩).mono ?_
        · match j with
          | 0 => simp at hj; subst hj; exact ⟨_, rfl, F.agg _ _ x⟩
          | 1 => simp at hj; subst hj; exact ⟨_, rfl, F.agg _ _ y⟩
          | j + 2 => simp at hj
        · rintro e w' ⟨v, he, hk, hr⟩
          cases hr
          exact ⟨he, keeps_grow hk⟩
      subst hds
      refine (AnyQ.slices_SortFunc_total L k aE zE encV F.len F.one cf hO g #[] bk 0 cap d w eg hcmp hH hbklt (by omega) hT).mono ?_
      rintro e w' ⟨rfl, nn, os, rfl⟩
      obtain ⟨ys, hys⟩ : ∃ ys : List α, ys = sortBy cf xs := ⟨_, rfl⟩
      have hyl : ys.length = d.size := by rw [hys]; unfold sortBy; rw [List.length_mergeSort]; exact hxl
      have hdy : (d.toList.mergeSort fun x y => !ltOf cf y x).toArray = ys.toArray := by rw [hys, hd]; rfl
      rw [hdy, ← hys]
      obtain ⟨hW1, hW2⟩ := hW nn ys.toArray os
      have hbi : β[l]? = some (BI.lies bk cap) := hβ
      have hlen2 : (encRows ys).length = d.size := by rw [encRows_length]; exact hyl
      have hK : Keeps (MutB β H) w (sortWorldK encV k w bk 0 nn ys.toArray os) :=
        ⟨rfl, rfl, rfl, hW2, fun q hq hnm => hW1 q hq fun e => hnm (e ▸ ⟨l, cap, b, hβ, hb, hmu⟩), Nat.le_add_right _ _⟩
      have S := set_step R hb hbi (.lies bk cap) { b with rows := encRows ys } rfl rfl (by rw [hlen2, hn]; exact Nat.le_refl _) (fun _ => rfl) id (fun bk' c' e => .inr ⟨c', e⟩) hK
      have hkp : ∀ q, q < w.heap.size → ¬ Mu X β H q → (sortWorldK encV k w bk 0 nn ys.toArray os).heap[q]? = w.heap[q]? := fun q hq hnm => hW1 q hq fun e => hnm (e ▸ hbkM)
      have R' := set_hrel R hb hbi (.lies bk cap) { b with rows := encRows ys } S (fun l' bk' c' hne h => hW1 bk' (R.lt l' bk' c' h).1 fun e => hne (R.inj l' l bk' c' cap h (e ▸ hβ))) (by
        refine ⟨putCells id 0 (flatK encV k ys.toArray) cur, ?_, ?_, by rw [hlen2]; omega, k4, by rw [hz]; exact F.pos, fun r hr => ?_, fun i j r av hr hj => ?_⟩
        · show ((w.heap.modify bk _) ++ os)[bk]? = _
          rw [Array.getElem?_append_left (by simpa using hbklt), Array.getElem?_modify, if_pos rfl, k1]
          rfl
        · simp only [putCells, Array.size_mapIdx]
          rw [k2, hz]
        · unfold encRows at hr
          obtain ⟨x, _, rfl⟩ := List.mem_map.1 hr
          rw [hz]
          exact F.clen x
        · unfold encRows at hr
          rw [List.getElem?_map, Option.map_eq_some_iff] at hr
          obtain ⟨x, hx', rfl⟩ := hr
          have hi : i < ys.length := (List.getElem?_eq_some_iff.1 hx').1
          have hj' : j < k := by have := (List.getElem?_eq_some_iff.1 hj).1; rwa [F.clen] at this
          have hjv : j < (encV x).length := by rw [F.len]; exact hj'
          obtain ⟨av', q1, q2⟩ := F.val x j _ (List.getElem?_eq_getElem hjv)
          rw [hj] at q1
          injection q1 with q1
          subst q1
          refine ⟨(encV x)[j], ?_, F.one x _ (List.getElem_mem hjv), .deep (q2 _ _), fun _ => q2 _ _⟩
          obtain ⟨f1, f2⟩ := flat_at F.len ys.toArray (i := i) (j := j) (by rw [List.size_toArray]; exact hi) hj'
          have hyx : ys.toArray[i]! = x := by
            rw [getElem!_pos _ _ (by rw [List.size_toArray]; exact hi)]
            have := (List.getElem?_eq_some_iff.1 hx').2
            simpa using this
          rw [hyx, List.getElem!_of_getElem? (List.getElem?_eq_getElem hjv)] at f2
          have hci : i * k + j < cur.size := by
            rw [k2]
            rw [size_flatK, List.size_toArray, hyl] at f1
            exact Nat.lt_of_lt_of_le f1 (Nat.mul_le_mul_right k (by omega))
          simp only [hz, putCells, Array.getElem?_mapIdx, Array.getElem?_eq_getElem hci, Option.map_some, Nat.zero_le, true_and, Nat.zero_add, Nat.sub_zero]
          rw [if_pos f1, f2]
          rfl)
        (fun bk' c' e => by injection e with e1 e2; subst e1; exact ⟨Nat.lt_of_lt_of_le hbklt hW2, (R.lt l bk _ hβ).2⟩) (fun bk' c' l' c'' e hne h => by injection e with e1 e2; subst e1; exact hne (R.inj l' l bk c'' cap h hβ))
      exact ⟨_, _, rfl, R', S, rep_unit⟩
end Go.Proofs.Ytkhgjbjkjefeoaa

/-
  A region that draws its order, its state weakened behind each operation. Own work; no program in sight.
-/
namespace Go.Proofs.Ytkhgjbjkjefeoaa
open Go.RowKit

section
variable {C : Ctx} {N h0 : Nat}

/-- A region that draws its order: what stands when some of its operations have run, the state weakened behind each. -/
theorem AW_regionW (hS : SigOK C) (hM : C.P.follows .mixedOrders = true) {id : Nat} {ops : Array Oper} {st : ASt} {Q : Exit → ASt → Prop} (tbl : List (List Nat)) (htbl : (List.range ops.size).all (fun i => decide (directs (opAt ops i) = tbl.getD i [])) = true)
    (hd : (List.range ops.size).all (fun i => (match (opAt ops i).dst with | some d => decide (d < N) | none => true) && (directs (opAt ops i)).all fun d => decide (d < i)) = true)
    (I : (Nat → Bool) → ASt → Prop) (start : I (fun _ => false) st)
    (step : ∀ i o, ops.toList[i]? = some o → ∀ L st', I L st' → L i = false → (∀ d ∈ tbl.getD i [], L d = true) → aops C ops [o] st' (fun s2 => ∃ s3, Weak C N h0 s2 s3 ∧ I (fun j => decide (j = i) || L j) s3))
    (fin : ∀ L st', I L st' → (∀ i, i < ops.size → L i = true) → Q .normal st') (ext : ∀ L L' st', (∀ j, L j = L' j) → I L st' → I L' st') : AW C N h0 (.region id ops true) st Q := fun X w0 β0 H0 a w hl hr => by
  have hd' : ∀ i, i < ops.size → (∀ d, (opAt ops i).dst = some d → d < N) ∧ ∀ d ∈ directs (opAt ops i), d < i := fun i hi => by
    have := List.all_eq_true.1 hd i (List.mem_range.2 hi)
    simp only [Bool.and_eq_true, List.all_eq_true, decide_eq_true_eq] at this
    refine ⟨fun d hdd => ?_, this.2⟩
    have h1 := this.1
    rw [hdd] at h1
    simpa using h1
  refine wp_region_any hM ?_
  have hr' : Rel C N X w0 β0 H0 st a { w with drawn := w.drawn + 1 } := by
    obtain ⟨β, R, S0, Tr, G, hN, hdef⟩ := hr
    have hk : Keeps (fun _ => False) w { w with drawn := w.drawn + 1 } := Keeps.drew _ w
    exact ⟨β, R.quiet hk, S0.trans (StepR.quiet hk R.len), fun t => (Tr t).keep (StepR.quiet hk R.len), fun g => (G g).keep (fun b hb hn => hk.block b hb (fun h => h)) hk.size (fun b _ h => h), hN, hdef⟩
  have ready0 : ∀ listed : Array Bool, listed.size = ops.size → Region.ready .any ops listed = [] → ∀ i, i < ops.size → listed.getD i false = true := by
    intro listed hs h i
    induction i using Nat.strongRecOn with
    | _ i ih =>
      intro hi
      cases hl : listed.getD i false with
      | true => rfl
      | false =>
        exfalso
        have : i ∈ Region.ready .any ops listed := by
          unfold Region.ready
          rw [List.mem_filter]
          refine ⟨List.mem_range.2 hi, ?_⟩
          simp only [Bool.and_eq_true, Bool.not_eq_true']
          refine ⟨?_, ?_⟩
          · rw [Array.getD_eq_getD_getElem?, Array.getElem?_eq_getElem (by omega)] at hl ⊢
            exact hl
          · rw [Array.getElem?_eq_getElem hi]
            simp only [Option.map_some, Option.getD_some]
            refine Array.all_eq_true'.2 fun e he => ?_
            cases hb : Region.binds .any e with
            | false => rfl
            | true =>
              have hdd : e.on ∈ directs (opAt ops i) := by
                unfold directs opAt
                rw [Array.getD_eq_getD_getElem?, Array.getElem?_eq_getElem hi]
                simp only [Option.getD_some, List.mem_map, List.mem_filter]
                exact ⟨e, ⟨Array.mem_toList_iff.2 he, hb⟩, rfl⟩
              have hlt := (hd' i hi).2 e.on hdd
              simp [ih e.on hlt (by omega)]
        rw [h] at this
        cases this
  have main : ∀ (fuel : Nat) (listed : Array Bool) (st : ASt) (a : Act) (w : World), listed.size = ops.size → I (fun i => listed.getD i false) st → (List.range ops.size).countP (fun i => !listed.getD i false) ≤ fuel → Rel C N X w0 β0 H0 st a w →
      wpAny C.P .any ops (fun ex a' w' => ∃ st', Q ex st' ∧ Rel C N X w0 β0 H0 st' a' w') fuel listed a w := by
    intro fuel
    induction fuel with
    | zero =>
      intro listed st a w hs hI hc hr
      have hall : ∀ i, i < ops.size → listed.getD i false = true := by
        intro i hi
        have h0 : (List.range ops.size).countP (fun i => !listed.getD i false) = 0 := by omega
        rw [List.countP_eq_zero] at h0
        have := h0 i (List.mem_range.2 hi)
        simpa using this
      refine ⟨?_, st, fin _ st hI hall, hr⟩
      cases hrd : Region.ready .any ops listed with
      | nil => rfl
      | cons i r =>
        obtain ⟨h1, h2, _⟩ := ready_spec (ops := ops) (listed := listed) (i := i) (by rw [hrd]; simp)
        have := hall i h1
        rw [Array.getD_eq_getD_getElem?, Array.getElem?_eq_getElem (by omega), Option.getD_some] at h2 this
        rw [h2] at this
        cases this
    | succ fuel ih =>
      intro listed st a w hs hI hc hr
      refine ⟨fun hnil => ⟨st, fin _ st hI (ready0 listed hs hnil), hr⟩, fun i hi => ?_⟩
      obtain ⟨hlt, hun, hdir⟩ := ready_spec hi
      have hL : listed.getD i false = false := by
        rw [Array.getD_eq_getD_getElem?, Array.getElem?_eq_getElem (by omega), Option.getD_some] at hun ⊢
        exact hun
      have htb : directs (opAt ops i) = tbl.getD i [] := by simpa using List.all_eq_true.1 htbl i (List.mem_range.2 hlt)
      have hst := step i (opAt ops i) (by unfold opAt; rw [Array.getD_eq_getD_getElem?, Array.getElem?_eq_getElem hlt]; simp [hlt]) _ st hI hL (by rw [← htb]; exact hdir)
      simp only [aops] at hst
      have hget : ops[i]? = some (opAt ops i) := by
        unfold opAt
        rw [Array.getD_eq_getD_getElem?, Array.getElem?_eq_getElem hlt]
        rfl
      have next : ∀ (st' : ASt) (a' : Act) (w' : World), (∃ s3, Weak C N h0 st' s3 ∧ I (fun j => decide (j = i) || listed.getD j false) s3) → Rel C N X w0 β0 H0 st' a' w' →
          wpAny C.P .any ops (fun ex a' w' => ∃ st', Q ex st' ∧ Rel C N X w0 β0 H0 st' a' w') fuel (listed.setIfInBounds i true) a' w' := by
        rintro st' a' w' ⟨s3, hw3, hI'⟩ hr'
        have hset : ∀ j, (listed.setIfInBounds i true).getD j false = (decide (j = i) || listed.getD j false) := by
          intro j
          by_cases e : j = i
          · subst e
            simp [Array.getD_eq_getD_getElem?, show j < listed.size by omega]
          · simp [Array.getD_eq_getD_getElem?, Array.getElem?_setIfInBounds_ne (fun h => e h.symm), e]
        refine ih _ s3 a' w' (by simpa using hs) (ext _ _ _ (fun j => (hset j).symm) hI') ?_ (hw3 X w0 β0 H0 a' w' hl hr')
        have key : ∀ l : List Nat, i ∈ l → l.countP (fun j => !(listed.setIfInBounds i true).getD j false) + 1 ≤ l.countP (fun j => !listed.getD j false) := by
          have h0 : ∀ l : List Nat, l.countP (fun j => !(listed.setIfInBounds i true).getD j false) ≤ l.countP (fun j => !listed.getD j false) := fun l => List.countP_mono_left fun j _ hj => by
            rw [hset j] at hj
            simp only [Bool.not_eq_true', Bool.or_eq_false_iff] at hj ⊢
            exact hj.2
          intro l hl
          induction l with
          | nil => cases hl
          | cons j r ihl =>
            rw [List.countP_cons, List.countP_cons]
            by_cases e : j = i
            · subst e
              have e1 : (!(listed.setIfInBounds j true).getD j false) = false := by rw [hset j]; simp
              have e2 : (!listed.getD j false) = true := by simpa using hL
              rw [e1, e2]
              have := h0 r
              simp only [if_true, Bool.false_eq_true, if_false]
              omega
            · have := ihl (by simpa [Ne.symm e] using hl)
              have hj : (!(listed.setIfInBounds i true).getD j false) = !listed.getD j false := by rw [hset j]; simp [e]
              rw [hj]
              omega
        have := key _ (List.mem_range.2 hlt)
        omega
      obtain ⟨β, R, S0, Tr, G, hN, hdef⟩ := hr
      unfold wpOp
      rw [hget]
      simp only
      split at hst
      · exact hst.elim
      · rename_i g hg
        have hw := wantG_sound Tr hg
        rw [hw]
        cases g with
        | true =>
          rw [if_pos rfl]
          have hst := hst.1 rfl
          split at hst
          · rename_i ob v H' hcg
            refine .inl ?_
            exact astep_sound hS R Tr G hcg hst.1 fun u w' β' R' S hr => next _ _ _ hst.2 (rel_put S0 Tr G hN hdef R' S hr _ ((hd' i hlt).1))
          · exact hst.elim
        | false =>
          rw [if_neg (by simp)]
          exact next _ _ _ (hst.2 rfl) (rel_put S0 Tr G hN hdef R (StepR.refl _ _ _ R.len) rep_skip _ ((hd' i hlt).1))
  exact main ops.size (Array.replicate ops.size false) st a _ (by simp) (ext _ _ _ (fun j => by
    rw [Array.getD_eq_getD_getElem?]
    rcases Nat.lt_or_ge j ops.size with h | h
    · simp [h]
    · simp [Array.getElem?_eq_none (show (Array.replicate ops.size false).size ≤ j by simpa using h)]) start) (Nat.le_trans List.countP_le_length (by simp)) hr'
theorem weak_look {ρ ρ' : List (Nat × AV)} {H : List Blk} (h : ∀ t, getA ρ' t = .undef ∨ getA ρ' t = getA ρ t) : Weak C N h0 ⟨ρ, H⟩ ⟨ρ', H⟩ := by
  intro X w0 β0 H0 a w hl hr
  obtain ⟨β, R, S0, Tr, G, hN, hdef⟩ := hr
  refine ⟨β, R, S0, fun t => ?_, G, hN, hdef⟩
  simp only
  rcases h t with e | e
  · rw [e]; exact rep_undef
  · rw [e]; exact Tr t
theorem clean1_mono {m n : Nat} (h : m ≤ n) : ∀ {v : AV}, v.clean1 m = true → v.clean1 n = true
  | .own _ _, h1 => by simp only [AV.clean1, decide_eq_true_eq] at *; omega
  | .osl _ _ _ _ _, h1 => by simp only [AV.clean1, decide_eq_true_eq] at *; omega
  | .ptr _ _ _ _ _, h1 => by simp only [AV.clean1, decide_eq_true_eq] at *; omega
  | .agg _, h1 => by simp [AV.clean1] at h1
  | .tup _, h1 => by simp [AV.clean1] at h1
  | .fn _ _, h1 => h1
  | v, h1 => by cases v <;> first | exact h1 | (simp only [AV.clean1, decide_eq_true_eq] at *; omega) | (simp [AV.clean1] at h1)
theorem clean_mono {m n : Nat} (h : m ≤ n) {v : AV} (hv : v.clean m = true) : v.clean n = true := by
  cases v with
  | agg cs => simp only [AV.clean, List.all_eq_true] at *; exact fun c hc => clean1_mono h (hv c hc)
  | tup cs => simp only [AV.clean, List.all_eq_true] at *; exact fun c hc => clean1_mono h (hv c hc)
  | _ => simp only [AV.clean] at *; exact clean1_mono h hv
/-- What append has made is taken asq it reads, and its block is let go. -/
theorem weak_appended {ρ : List (Nat × AV)} {H : List Blk} (t n sz : Nat) (e : TypeId) (rows : List (List AV)) (hn : rows.length = n) (h0l : h0 ≤ H.length) (hρ : ∀ p ∈ ρ, p.2.clean H.length = true) (hH : ∀ b ∈ H, b.deep = true ∨ ∀ r ∈ b.rows, ∀ c ∈ r, c.clean H.length = true) :
    Weak C N h0 ⟨(t, .own H.length n) :: ρ, H ++ [⟨e, sz, rows, true, true⟩]⟩ ⟨(t, .slice sz false rows) :: ρ, H⟩ := by
  have hv : view (H ++ [(⟨e, sz, rows, true, true⟩ : Blk)]) 6 (.own H.length n) = .slice sz false rows := by
    simp [view, hn]
  have hr : reach (H ++ [(⟨e, sz, rows, true, true⟩ : Blk)]) 6 (.own H.length n) = [H.length] := by
    simp [reach]
  have hf : ∀ (H : List Blk) (i k : Nat) (b : Blk), k = i + H.length → frzL [k] i (H ++ [b]) = H ++ [{ b with mu := false }] := by
    intro H
    induction H with
    | nil => intro i k b hk; simp [frzL, hk]
    | cons x r ih =>
      intro i k b hk
      have : ¬ i = k := by simp at hk; omega
      simp only [List.cons_append, frzL, List.contains_cons, List.contains_nil, Bool.or_false, beq_iff_eq, this, if_false]
      rw [ih (i + 1) k b (by simp at hk; omega)]
  have w1 := weak_view (C := C) (N := N) (h0 := h0) (ρ := (t, .own H.length n) :: ρ) (H := H ++ [⟨e, sz, rows, true, true⟩]) t
  have hg : getA ((t, .own H.length n) :: ρ) t = .own H.length n := by simp [getA]
  rw [hg, hv, hr, hf H 0 H.length _ (by omega)] at w1
  have w2 : Weak C N h0 ⟨(t, .slice sz false rows) :: (t, .own H.length n) :: ρ, H ++ [{ (⟨e, sz, rows, true, true⟩ : Blk) with mu := false }]⟩ ⟨(t, .slice sz false rows) :: ρ, H ++ [{ (⟨e, sz, rows, true, true⟩ : Blk) with mu := false }]⟩ :=
    weak_look fun k => .inr (by simp only [getA]; split <;> rfl)
  have w3 := weak_drop (C := C) (N := N) (h0 := h0) (ρ := (t, .slice sz false rows) :: ρ) (H := H ++ [{ (⟨e, sz, rows, true, true⟩ : Blk) with mu := false }]) H.length h0l (by
    intro p hp
    rcases List.mem_cons.1 hp with rfl | hp
    · rfl
    · exact hρ p hp) (by rw [List.take_left']; exact hH; rfl)
  rw [List.take_left' rfl] at w3
  exact (w1.trans w2).trans w3
end
end Go.Proofs.Ytkhgjbjkjefeoaa

/-
  A row put into a block of the call's own, whichever way it is done. Own work; no program in sight.
-/
namespace Go.Proofs.Ytkhgjbjkjefeoaa
open Go.RowKit

section
variable {w w' : World} {X : Nat → Prop} {β : List BI} {H : List Blk}

theorem ins_rows {rows : List (List AV)} {row : List AV} {i k : Nat} {r : List AV} (hi : i ≤ rows.length) (h : (rows.take i ++ [row] ++ rows.drop i)[k]? = some r) : (k < i ∧ rows[k]? = some r) ∨ (k = i ∧ r = row) ∨ (i < k ∧ rows[k - 1]? = some r) := by
  have ht : (rows.take i).length = i := by rw [List.length_take]; omega
  rcases Nat.lt_or_ge k i with h1 | h1
  · rw [List.append_assoc, List.getElem?_append_left (by omega), List.getElem?_take, if_pos h1] at h
    exact .inl ⟨h1, h⟩
  · by_cases h2 : k = i
    · subst h2
      rw [List.append_assoc, List.getElem?_append_right (by omega), ht, Nat.sub_self] at h
      simp at h
      exact .inr (.inl ⟨rfl, h.symm⟩)
    · rw [List.getElem?_append_right (by rw [List.length_append, ht]; simp; omega), List.length_append, ht, List.getElem?_drop] at h
      have e : i + (k - (i + [row].length)) = k - 1 := by simp; omega
      rw [e] at h
      exact .inr (.inr ⟨by omega, h⟩)

theorem ins_hrel (R : HRel w X β H) {l n i bk cap : Nat} {b : Blk} {cur : Array Value} (hb : H[l]? = some b) (hβ : β[l]? = some (.lies bk cap)) (hn : b.rows.length = n) (hi : i ≤ n)
    {row : List AV} (xv : Nat → Value) (hrl : row.length = b.sz) (hx : ∀ (j : Nat) (av : AV), row[j]? = some av → (xv j).oneCell' = true ∧ RepD w (Mu X β H) (xv j) av)
    (h1 : w.heap[bk]? = some (.cells cur b.e (0, 0)))
    {bk' cap' : Nat} {cur' : Array Value} (hw : w'.heap[bk']? = some (.cells cur' b.e (0, 0))) (hsz' : cur'.size = cap' * b.sz) (hle : n + 1 ≤ cap') (hmx : cap' ≤ maxLen)
    (hK : Keeps (MutB β H) w w') (hnew : bk' = bk ∨ w.heap.size ≤ bk')
    (hoth : ∀ q, q < w.heap.size → q ≠ bk → w'.heap[q]? = w.heap[q]?)
    (hget : ∀ r j, r < n + 1 → j < b.sz → cur'[r * b.sz + j]? = if r < i then cur[r * b.sz + j]? else if r = i then some (xv j) else cur[(r - 1) * b.sz + j]?) :
    HRel w' X (β.set l (.lies bk' cap')) (H.set l { b with rows := b.rows.take i ++ [row] ++ b.rows.drop i }) ∧ StepR w β H w' (β.set l (.lies bk' cap')) (H.set l { b with rows := b.rows.take i ++ [row] ++ b.rows.drop i }) ∧
      Rep w' (Mu X (β.set l (.lies bk' cap')) (H.set l { b with rows := b.rows.take i ++ [row] ++ b.rows.drop i })) (β.set l (.lies bk' cap')) (H.set l { b with rows := b.rows.take i ++ [row] ++ b.rows.drop i }) (.slice (some ⟨bk', 0, none⟩) (n + 1) cap') (.own l (n + 1)) := by
  obtain ⟨cur0, k1, k2, k3, k4, k5, k6, k7⟩ := R.blk l _ b hβ hb
  obtain rfl : cur = cur0 := by
    rw [h1] at k1
    injection k1 with k1
    injection k1
  have hlen : (b.rows.take i ++ [row] ++ b.rows.drop i).length = n + 1 := by simp; omega
  have hne : (b.rows.take i ++ [row] ++ b.rows.drop i).length ≠ b.rows.length := by omega
  have hlt' : bk' < w'.heap.size := by
    rcases Nat.lt_or_ge bk' w'.heap.size with h | h
    · exact h
    · rw [Array.getElem?_eq_none h] at hw; cases hw
  have S := set_step (w := w) R hb hβ (.lies bk' cap') { b with rows := b.rows.take i ++ [row] ++ b.rows.drop i } rfl rfl (by show _ ≤ (b.rows.take i ++ [row] ++ b.rows.drop i).length; omega) (fun h => absurd h hne) (fun h => h) (fun q c e => by
    injection e with e _
    subst e
    rcases hnew with h | h
    · exact .inr ⟨cap, by rw [h]⟩
    · exact .inl h) hK
  refine ⟨set_hrel R hb hβ _ _ S (fun l' q c hl hb' => hoth q (R.lt l' q c hb').1 (fun e => hl (R.inj l' l q c cap hb' (e ▸ hβ)))) ?_ (fun q c e => ?_) (fun q c l' c' e hl hb' => ?_), S, ?_⟩
  · refine blk_new S hw hsz' (by show (b.rows.take i ++ [row] ++ b.rows.drop i).length ≤ _; omega) hmx k5 (fun r hr => ?_) (fun k j r av hk hj => ?_)
    · rcases List.mem_append.1 hr with h | h
      · rcases List.mem_append.1 h with h | h
        · exact k6 r (List.mem_of_mem_take h)
        · rw [List.mem_singleton.1 h]; exact hrl
      · exact k6 r (List.mem_of_mem_drop h)
    · have hkl : k < n + 1 := by
        have := (List.getElem?_eq_some_iff.1 hk).1
        rw [← hlen]
        exact this
      have hjl := (List.getElem?_eq_some_iff.1 hj).1
      rcases ins_rows (by omega) hk with ⟨a1, a2⟩ | ⟨a1, a2⟩ | ⟨a1, a2⟩
      · have hjs : j < b.sz := by rw [← k6 r (List.mem_of_getElem? a2)]; exact hjl
        show ∃ v, cur'[k * b.sz + j]? = some v ∧ _
        rw [hget k j hkl hjs, if_pos a1]
        exact k7 k j r av a2 hj
      · subst a1 a2
        have hjs : j < b.sz := by rw [← hrl]; exact hjl
        show ∃ v, cur'[k * b.sz + j]? = some v ∧ _
        rw [hget k j hkl hjs, if_neg (by omega), if_pos rfl]
        obtain ⟨p, q⟩ := hx j av hj
        exact ⟨_, rfl, p, .deep q, fun _ => q⟩
      · have hjs : j < b.sz := by rw [← k6 r (List.mem_of_getElem? a2)]; exact hjl
        show ∃ v, cur'[k * b.sz + j]? = some v ∧ _
        rw [hget k j hkl hjs, if_neg (by omega), if_neg (by omega)]
        exact k7 (k - 1) j r av a2 hj
  · injection e with e1 e2
    subst e1
    refine ⟨hlt', fun h => ?_⟩
    rcases hnew with h' | h'
    · rw [h'] at h; exact (R.lt l bk cap hβ).2 h
    · exact absurd (R.base _ h) (by omega)
  · injection e with e1 e2
    subst e1
    rcases hnew with h' | h'
    · rw [h'] at hb'; exact hl (R.inj l' l bk c' cap hb' hβ)
    · exact absurd (R.lt l' bk' c' hb').1 (by omega)
  · refine .own l _ _ cap' { b with rows := b.rows.take i ++ [row] ++ b.rows.drop i } (List.getElem?_set_self (List.getElem?_eq_some_iff.1 hb).1) (by show _ ≤ (b.rows.take i ++ [row] ++ b.rows.drop i).length; omega) (.inr ⟨_, rfl⟩) hle fun _ => ?_
    rw [List.getElem?_set_self (List.getElem?_eq_some_iff.1 hβ).1]
    exact ⟨rfl, rfl⟩

def midA (cur : Array Value) (o : Nat) (vs : List Value) : Array Value := (cur.toList.take o ++ vs ++ cur.toList.drop (o + vs.length)).toArray

/-- A copy into a row. -/
theorem copy_row {P : Program} (W : World) (t ty e : TypeId) {bk o dLen dCap sLen sCap : Nat} {a : Addr} {cur : Array Value} (cs : List Value) (he : elT P t = some e) (hz : 0 < szT P e) (hrow : W.heap[bk]? = some (.cells cur e (0, 0))) (hn : cs.length = Nat.min sLen dLen * szT P e)
    (hsrc : ∀ j v, cs[j]? = some v → W.cell? (a.add j) = some v) (hfit : o + cs.length ≤ cur.size) (hone : ∀ v ∈ cs, v.oneCell' = true) :
    (Builtin.copy_ #[t, t] ty #[.slice (some ⟨bk, o, none⟩) dLen dCap, .slice (some a) sLen sCap]).run P W = .ok (goInt (Nat.min sLen dLen)) (W.setRow bk (midA cur o cs)) := by
  have hst := run_storeCells_at P bk o e cs 0 cur W hrow (by omega) hone
  simp only [Nat.add_zero] at hst
  exact run_copy_gen (P := P) W t t ty e ⟨bk, o, none⟩ dLen dCap a sLen sCap cs (elT_eq he) hz hn hsrc hst

/-- Two slices in two blocks do not overlap, where the second is plain memory. -/
theorem overlaps_apart {P : Program} (w : World) (tS tR e : TypeId) (ht : P.underlying tS = some (.slice e)) (size : Nat) (hz : ∀ w, (Go.sizeOf e).run P w = .ok size w)
    (a b : Addr) (la ca lb cb : Nat) (hne : a.block ≠ b.block) {va : Value} (hca : w.cell? a = some va) {cur : Array Value} {eb : TypeId} (hb : w.heap[b.block]? = some (.cells cur eb (0, 0))) :
    (Extern.SlicesOverlaps.overlaps #[tS, tS] #[tR] #[.slice (some a) la ca, .slice (some b) lb cb]).run P w = .ok (.bool false) w := by
  have hnb : (a.block != b.block) = true := by simpa using hne
  have hnb' : (a.block == b.block) = false := by simpa using hne
  have hsa : ∃ tA kA, w.shape? a.block = some (tA, kA + 1) := by
    unfold World.cell? at hca
    unfold World.shape?
    split at hca
    · rename_i c t f hc
      split at hca
      · cases hca
      · have := (Array.getElem?_eq_some_iff.1 hca).1
        exact ⟨t, c.size - 1, by simp; omega⟩
    · cases hca
  obtain ⟨tA, kA, hsa⟩ := hsa
  have hsb : w.shape? b.block = some (eb, cur.size) := by unfold World.shape?; rw [hb]
  have hfb : w.frozen? b = false := by unfold World.frozen?; rw [hb]; simp
  have hfe : w.frozen? { block := b.block, off := cur.size } = false := by unfold World.frozen?; simp only [hb]; simp
  refine (congrArg (fun s => Sem.run P s w) (?_ : Extern.SlicesOverlaps.overlaps #[tS, tS] #[tR] #[.slice (some a) la ca, .slice (some b) lb cb] = (underlying tS >>= ?_))).trans ?_
  rotate_left
  · exact rfl
  by_cases h0 : la = 0 ∨ lb = 0 ∨ size = 0
  · simp [run_underlying ht, hz, h0]
  · by_cases hfa : w.frozen? a = true
    · simp [run_underlying ht, hz, h0, hnb, hnb', frozen, noView, viewAt, mayBeOne, stringish, shape, Sem.run, hsa, hsb, hfa, hfb, hfe]
    · have hfa : w.frozen? a = false := by simpa using hfa
      by_cases hg : w.frozen? { block := a.block, off := kA + 1 } = true
      · simp [run_underlying ht, hz, h0, hnb, hnb', frozen, noView, viewAt, mayBeOne, stringish, shape, Sem.run, hsa, hsb, hfa, hfb, hfe, hg]
      · have hg : w.frozen? { block := a.block, off := kA + 1 } = false := by simpa using hg
        simp [run_underlying ht, hz, h0, hnb, hnb', frozen, noView, viewAt, mayBeOne, stringish, shape, Sem.run, hsa, hsb, hfa, hfb, hfe, hg]
end
end Go.Proofs.Ytkhgjbjkjefeoaa

/-
  slices.Insert of one element, upon a block of the call's own: from its walks to a contract. Own work; no program in sight.
-/
namespace Go.Proofs.Ytkhgjbjkjefeoaa
open Go.RowKit

set_option linter.unusedVariables false
def unRows {α : Type} [Enc α] (rows : List (List AV)) : List α := rows.map Enc.unc
@[simp] theorem unRows_enc {α : Type} [Enc α] (l : List α) : (unRows (encRows l) : List α) = l := by
  unfold unRows encRows
  simp only [List.map_map, Function.comp_def, Enc.unc_cells, List.map_id']
def insL {α : Type} (l : List α) (i : Nat) (x : α) : List α := l.take i ++ [x] ++ l.drop i
theorem insL_length {α : Type} {l : List α} {i : Nat} {x : α} : (insL l i x).length = l.length + 1 := by unfold insL; simp; omega
theorem encRows_insL {α : Type} [Enc α] (l : List α) (i : Nat) (x : α) : (encRows l).take i ++ [Enc.cells x] ++ (encRows l).drop i = encRows (insL l i x) := by
  unfold insL encRows
  simp
/-- One element put at a place of a block of the call's own. -/
def gIns (α : Type) [Enc α] (e : TypeId) : List AV → List Blk → Option (Prop × AV × List Blk)
  | [.own l n, .int .i64 i, .slice sx _ [row]], H => match H[l]? with
    | some b => if b.mu = true ∧ b.e = e ∧ b.sz = Enc.sz α ∧ sx = Enc.sz α then
        some (b.rows = encRows (unRows b.rows : List α) ∧ b.rows.length = n ∧ row = Enc.cells (Enc.unc row : α) ∧ 0 ≤ i ∧ i ≤ n ∧ n < 1000000, .own l (n + 1), H.set l { b with rows := encRows (insL (unRows b.rows : List α) i.toNat (Enc.unc row)) })
      else none
    | none => none
  | _, _ => none
/-- At the end. -/
def gInsEnd (e : TypeId) (k : Nat) : List AV → List Blk → Option (Prop × AV × List Blk)
  | [.own l n, .int .i64 i, .slice sx _ [row]], H => match H[l]? with
    | some b => if b.mu = true ∧ b.e = e ∧ b.sz = k ∧ sx = k then
        some (b.rows.length = n ∧ i = n ∧ n < 1000000, .own l (n + 1), H.set l { b with rows := b.rows ++ [row] })
      else none
    | none => none
  | _, _ => none

theorem midA_get (cur : Array Value) (vs : List Value) (o k : Nat) (h : o + vs.length ≤ cur.size) : (midA cur o vs)[k]? = if o ≤ k ∧ k < o + vs.length then vs[k - o]? else cur[k]? := mid_get cur vs o k h
theorem midA_size (cur : Array Value) (vs : List Value) (o : Nat) (h : o + vs.length ≤ cur.size) : (midA cur o vs).size = cur.size := mid_size cur vs o h
theorem mul_lt_of {i n j k : Nat} (hi : i < n) (hj : j < k) : i * k + j < n * k := by
  have := Nat.mul_le_mul_right k (show i + 1 ≤ n from hi)
  rw [Nat.add_mul] at this
  omega
/-- Cells of rows i to n. -/
def cellsL (cur : Array Value) (k i n : Nat) : List Value := (cur.toList.take (n * k)).drop (i * k)
theorem cellsL_length {cur : Array Value} {k i n : Nat} (h : n * k ≤ cur.size) : (cellsL cur k i n).length = (n - i) * k := by
  unfold cellsL
  rw [List.length_drop, List.length_take, Array.length_toList, Nat.min_eq_left h, Nat.sub_mul]
theorem cellsL_get {cur : Array Value} {k i n x : Nat} (h : n * k ≤ cur.size) (hx : x < (n - i) * k) : (cellsL cur k i n)[x]? = cur[i * k + x]? := by
  unfold cellsL
  rw [Nat.sub_mul] at hx
  rw [List.getElem?_drop, List.getElem?_take, if_pos (by omega)]
  simp
theorem row_div {x k r i : Nat} (hk : r < k) : (x * k + r < i * k ↔ x < i) := by
  constructor
  · intro h
    rcases Nat.lt_or_ge x i with h1 | h1
    · exact h1
    · have := Nat.mul_le_mul_right k h1
      omega
  · intro h
    exact mul_lt_of h hk
theorem get_of_eq {a b : Nat} (l : List Value) (h : a = b) : l[a]? = l[b]? := by rw [h]
/-- First the new row, then the rows behind it. -/
theorem put_grow {cur base : Array Value} {vs : List Value} {k i n : Nat} (hi : i ≤ n) (hvs : vs.length = k) (hb : (n + 1) * k ≤ base.size) (hc : n * k ≤ cur.size) (hlow : ∀ x, x < i * k → base[x]? = cur[x]?) (r j : Nat) (hr : r < n + 1) (hj : j < k) :
    (midA (midA base (i * k) vs) ((i + 1) * k) (cellsL cur k i n))[r * k + j]? = if r < i then cur[r * k + j]? else if r = i then vs[j]? else cur[(r - 1) * k + j]? := by
  have e1 : (i + 1) * k = i * k + k := by rw [Nat.add_mul, Nat.one_mul]
  have e2 : (n + 1) * k = n * k + k := by rw [Nat.add_mul, Nat.one_mul]
  have e3 : i * k ≤ n * k := Nat.mul_le_mul_right k hi
  have e4 := cellsL_length (i := i) hc
  have e5 : (n - i) * k = n * k - i * k := Nat.sub_mul _ _ _
  have s1 := midA_size base vs (i * k) (by omega)
  rw [midA_get _ _ _ _ (by rw [s1, e4]; omega), midA_get _ _ _ _ (by omega), e4, hvs]
  have d0 := row_div (x := r) (i := i) hj
  have d1 := row_div (x := r) (i := i + 1) hj
  have d2 := row_div (x := r) (i := n + 1) hj
  have hlt := d2.2 hr
  rcases Nat.lt_trichotomy r i with h | h | h
  · rw [if_neg (by omega), if_neg (by omega), if_pos h, hlow _ (d0.2 h)]
  · subst h
    rw [if_neg (by omega), if_pos (by omega), if_neg (by omega), if_pos rfl]
    exact get_of_eq vs (by omega)
  · have h2 : ¬ r * k + j < (i + 1) * k := fun h' => by have := d1.1 h'; omega
    rw [if_pos (by omega), if_neg (by omega), if_neg (by omega), cellsL_get hc (by omega)]
    have : (r - 1) * k = r * k - k := by rw [Nat.sub_mul, Nat.one_mul]
    have hk : k ≤ r * k := Nat.le_mul_of_pos_left k (by omega)
    congr 1
    omega
/-- First the rows behind, then the new row. -/
theorem put_room {cur : Array Value} {vs : List Value} {k i n : Nat} (hi : i ≤ n) (hvs : vs.length = k) (hc : (n + 1) * k ≤ cur.size) (r j : Nat) (hr : r < n + 1) (hj : j < k) :
    (midA (midA cur ((i + 1) * k) (cellsL cur k i n)) (i * k) vs)[r * k + j]? = if r < i then cur[r * k + j]? else if r = i then vs[j]? else cur[(r - 1) * k + j]? := by
  have e1 : (i + 1) * k = i * k + k := by rw [Nat.add_mul, Nat.one_mul]
  have e2 : (n + 1) * k = n * k + k := by rw [Nat.add_mul, Nat.one_mul]
  have e3 : i * k ≤ n * k := Nat.mul_le_mul_right k hi
  have e4 := cellsL_length (cur := cur) (k := k) (i := i) (n := n) (by omega)
  have e5 : (n - i) * k = n * k - i * k := Nat.sub_mul _ _ _
  have s1 := midA_size cur (cellsL cur k i n) ((i + 1) * k) (by omega)
  rw [midA_get _ _ _ _ (by rw [s1]; omega), midA_get _ _ _ _ (by omega), e4, hvs]
  have d0 := row_div (x := r) (i := i) hj
  have d1 := row_div (x := r) (i := i + 1) hj
  have d2 := row_div (x := r) (i := n + 1) hj
  have hlt := d2.2 hr
  rcases Nat.lt_trichotomy r i with h | h | h
  · have := d0.2 h
    rw [if_neg (by omega), if_neg (by omega), if_pos h]
  · subst h
    rw [if_pos (by omega), if_neg (by omega), if_pos rfl]
    exact get_of_eq vs (by omega)
  · have h2 : ¬ r * k + j < (i + 1) * k := fun h' => by have := d1.1 h'; omega
    rw [if_neg (by omega), if_pos (by omega), if_neg (by omega), if_neg (by omega), cellsL_get (by omega) (by omega)]
    have : (r - 1) * k = r * k - k := by rw [Nat.sub_mul, Nat.one_mul]
    have hk : k ≤ r * k := Nat.le_mul_of_pos_left k (by omega)
    congr 1
    omega

set_option maxHeartbeats 1000000 in
theorem ins_gen {P : Program} {G : Nat → AV} {α : Type} [Enc α] {e t tn : TypeId} {f fo : FuncId} {z : List AV} (he : elT P t = some e) (htn : P.underlying tn = some (.int .i64)) (hz : zT P e = some z) (hk : szT P e = Enc.sz α) (hby : byT P e ≤ 1000)
    (hend : GenOK P G f (gInsEnd e (Enc.sz α)))
    (hfo : ∀ (w : World) (vb voff vc bk o lb cb : Nat) (va : Value) (cur : Array Value) (eb : TypeId), vb ≠ bk → w.cell? ⟨vb, voff, none⟩ = some va → w.heap[bk]? = some (.cells cur eb (0, 0)) → (callFunc fo #[.slice (some ⟨vb, voff, none⟩) 1 vc, .slice (some ⟨bk, o, none⟩) lb cb]).run P w = .ok (.value (.bool false)) w)
    (hroom : ∀ (bk n c i vb voff vc : Nat) (w W1 W2 : World), i < n → n + 1 ≤ c → c ≤ 9223372036854775807 →
      (∀ lb cb, (callFunc fo #[.slice (some ⟨vb, voff, none⟩) 1 vc, .slice (some ⟨bk, (i + 1) * Enc.sz α, none⟩) lb cb]).run P w = .ok (.value (.bool false)) w) →
      (∀ ty dc sc, (Builtin.copy_ #[t, t] ty #[.slice (some ⟨bk, (i + 1) * Enc.sz α, none⟩) (n - i) dc, .slice (some ⟨bk, i * Enc.sz α, none⟩) (n + 1 - i) sc]).run P w.drew = .ok (goInt (n - i)) W1) →
      (∀ ty dc, (Builtin.copy_ #[t, t] ty #[.slice (some ⟨bk, i * Enc.sz α, none⟩) (n + 1 - i) dc, .slice (some ⟨vb, voff, none⟩) 1 vc]).run P W1 = .ok (goInt 1) W2) →
      Calls P f #[.slice (some ⟨bk, 0, none⟩) n c, .int .i64 i, .slice (some ⟨vb, voff, none⟩) 1 vc] w fun e w' => e = .returned (.slice (some ⟨bk, 0, none⟩) (n + 1) c) ∧ w' = W2)
    (hgrow : ∀ (bk n c i vb voff vc nb Gc : Nat) (w W1 W2 W3 : World), i < n → n ≤ c → c < n + 1 → c ≤ 4611686018427387903 → n + 1 ≤ Gc → Gc ≤ 9223372036854775807 →
      (∀ ty, (Builtin.append_ #[t, tn] ty #[.slice (some ⟨bk, 0, none⟩) i c, .int .i64 ((n : Int) + 1 - (i : Int))]).run P w = .ok (.slice (some ⟨nb, 0, none⟩) (n + 1) Gc) W1) →
      (∀ ty dc, (Builtin.copy_ #[t, t] ty #[.slice (some ⟨nb, i * Enc.sz α, none⟩) (n + 1 - i) dc, .slice (some ⟨vb, voff, none⟩) 1 vc]).run P W1 = .ok (goInt 1) W2) →
      (∀ ty dc sc, (Builtin.copy_ #[t, t] ty #[.slice (some ⟨nb, (i + 1) * Enc.sz α, none⟩) (n - i) dc, .slice (some ⟨bk, i * Enc.sz α, none⟩) (n - i) sc]).run P W2.drew = .ok (goInt (n - i)) W3) →
      Calls P f #[.slice (some ⟨bk, 0, none⟩) n c, .int .i64 i, .slice (some ⟨vb, voff, none⟩) 1 vc] w fun e w' => e = .returned (.slice (some ⟨nb, 0, none⟩) (n + 1) Gc) ∧ w' = W3) :
    GenOK P G f (gIns α e) := by
  intro w X β H args avs ob r H' R hG hsz harg hg hob
  unfold gIns at hg
  split at hg
  case h_2 => cases hg
  rename_i l n i sx fx row
  split at hg
  case h_2 => cases hg
  rename_i b hb
  split at hg
  case isFalse => cases hg
  rename_i hc
  obtain ⟨hmu, hbe, hbz, hsx⟩ := hc
  injection hg with hg; injection hg with e1 e2; injection e2 with e2 e3; subst e1 e2 e3
  obtain ⟨o1, o2, o3, o4, o5, o6⟩ := hob
  obtain ⟨i, rfl⟩ := Int.eq_ofNat_of_zero_le o4
  have hrow : encRows (insL (unRows b.rows : List α) i (Enc.unc row)) = b.rows.take i ++ [row] ++ b.rows.drop i := by
    rw [← encRows_insL, ← o1, ← o3]
  rw [Int.toNat_natCast, hrow]
  have hin : i ≤ n := by omega
  rcases Nat.lt_or_eq_of_le hin with hlt | heq
  case inr =>
    subst heq
    have hte : b.rows.take i ++ [row] ++ b.rows.drop i = b.rows ++ [row] := by
      rw [← o2, List.take_length, List.drop_length, List.append_nil]
    rw [hte]
    refine hend w X β H args _ (b.rows.length = i ∧ (i : Int) = i ∧ i < 1000000) _ _ R hG hsz harg ?_ ⟨o2, rfl, o6⟩
    simp only [gInsEnd, hb, hmu, hbe, hbz, hsx, and_self, if_true]
  obtain ⟨v0, ha0, q0⟩ := harg 0 (.own l n) rfl
  obtain ⟨v1, ha1, q1⟩ := harg 1 (.int .i64 i) rfl
  obtain ⟨v2, ha2, q2⟩ := harg 2 (.slice sx fx [row]) rfl
  obtain ⟨a, cap, b', rfl, hb', hn', h00, hx⟩ := rep_own q0
  rw [hb] at hb'
  injection hb' with hb'
  subst hb'
  obtain rfl := rep_int q1
  obtain ⟨xa, vc, val, rfl, _, _, _, hxr, hxm, hxv⟩ := repD_slice (rep_slice q2)
  obtain ⟨vb, voff, rfl, hvb, hvX, hvc⟩ := hxm (by simp)
  have hargs : args = #[.slice a n cap, .int .i64 i, .slice (some ⟨vb, voff, none⟩) 1 vc] := by
    apply Array.ext_getElem?
    intro j
    match j with
    | 0 => rw [ha0]; rfl
    | 1 => rw [ha1]; rfl
    | 2 => rw [ha2]; rfl
    | j + 3 =>
      rw [Array.getElem?_eq_none, Array.getElem?_eq_none]
      · simp
      · rw [hsz]; simp
  subst hargs
  have hx := hx o2
  cases hβ : β[l]? with
  | none => rw [hβ] at hx; exact hx.elim
  | some bi =>
    rw [hβ] at hx
    cases bi with
    | nil => have := hx.1; omega
    | lies bk c =>
      obtain ⟨rfl, rfl⟩ := hx
      obtain ⟨cur, k1, k2, k3, k4, k5, k6, k7⟩ := R.blk l _ b hβ hb
      rw [hbe] at k1
      have hM : MutB β H bk := ⟨l, cap, b, hβ, hb, hmu⟩
      have hne : vb ≠ bk := fun h => hvX (h ▸ .inr hM)
      have hbklt : bk < w.heap.size := (R.lt l bk _ hβ).1
      have hcm : cap ≤ 9223372036854775807 := by
        have := k4
        unfold maxLen at this
        omega
      have hkp : 0 < Enc.sz α := by rw [← hbz]; exact k5
      obtain ⟨vs, hvs⟩ : ∃ vs, vs = flatV val 1 (Enc.sz α) := ⟨_, rfl⟩
      have hvl : vs.length = Enc.sz α := by rw [hvs, flatV_length, Nat.one_mul]
      have hvg : ∀ j, j < Enc.sz α → vs[j]? = some (val 0 j) := fun j hj => by
        have := flatV_get val 1 (Enc.sz α) 0 j (by omega) hj
        rw [Nat.zero_mul, Nat.zero_add] at this
        rw [hvs]; exact this
      rw [hsx] at hvc
      have hvm : ∀ j v, vs[j]? = some v → w.cell? ((⟨vb, voff, none⟩ : Addr).add j) = some v ∧ v.oneCell' = true := fun j v hj => by
        rw [hvs] at hj
        exact flatV_mem (fun i' j' hi' hj' => hvc i' j' (by simpa using hi') hj') hj
      have hv1 : ∀ v ∈ vs, v.oneCell' = true := fun v hv => by
        obtain ⟨j, hj⟩ := List.getElem?_of_mem hv
        exact (hvm j v hj).2
      have hrl : row.length = b.sz := by rw [hxr row (by simp), hbz, hsx]
      have hxrow : ∀ (j : Nat) (av : AV), row[j]? = some av → (val 0 j).oneCell' = true ∧ RepD w (Mu X β H) (val 0 j) av := fun j av hj => by
        have hjl : j < Enc.sz α := by rw [← hbz, ← hrl]; exact (List.getElem?_eq_some_iff.1 hj).1
        exact ⟨(hvc 0 j (by simp) hjl).2, hxv 0 j row av (by simp) hj⟩
      have hcs : n * Enc.sz α ≤ cur.size := by rw [k2, hbz]; exact Nat.mul_le_mul_right _ (by omega)
      have hcl := cellsL_length (cur := cur) (k := Enc.sz α) (i := i) hcs
      have hcone : ∀ x, x < n * Enc.sz α → ∃ v, cur[x]? = some v ∧ v.oneCell' = true := fun x hx => by
        have hr : x / Enc.sz α < n := Nat.div_lt_of_lt_mul (by rwa [Nat.mul_comm])
        have hj : x % Enc.sz α < Enc.sz α := Nat.mod_lt _ hkp
        have hrl' : b.rows[x / Enc.sz α].length = b.sz := k6 _ (List.getElem_mem (by omega))
        obtain ⟨v, p1, p2, _⟩ := k7 (x / Enc.sz α) (x % Enc.sz α) _ _ (List.getElem?_eq_getElem (by omega)) (List.getElem?_eq_getElem (by omega))
        rw [hbz, show x / Enc.sz α * Enc.sz α + x % Enc.sz α = x by rw [Nat.mul_comm]; exact Nat.div_add_mod x _] at p1
        exact ⟨v, p1, p2⟩
      have hc1 : ∀ v ∈ cellsL cur (Enc.sz α) i n, v.oneCell' = true := fun v hv => by
        obtain ⟨x, hx⟩ := List.getElem?_of_mem hv
        have hxl := (List.getElem?_eq_some_iff.1 hx).1
        rw [hcl] at hxl
        rw [cellsL_get hcs hxl] at hx
        rw [Nat.sub_mul] at hxl
        obtain ⟨v', p1, p2⟩ := hcone (i * Enc.sz α + x) (by omega)
        rw [hx] at p1
        injection p1 with p1
        rw [p1]; exact p2
      have hcsrc : ∀ (W : World), W.heap[bk]? = some (.cells cur e (0, 0)) → ∀ x v, (cellsL cur (Enc.sz α) i n)[x]? = some v → W.cell? ((⟨bk, i * Enc.sz α, none⟩ : Addr).add x) = some v := fun W hW x v hx => by
        have hxl := (List.getElem?_eq_some_iff.1 hx).1
        rw [hcl] at hxl
        rw [cellsL_get hcs hxl] at hx
        rw [add_eq, cell_of_row W bk _ cur e (0, 0) hW]
        exact hx
      have hzp : 0 < szT P e := by rw [hk]; exact hkp
      have e1 : (i + 1) * Enc.sz α = i * Enc.sz α + Enc.sz α := by rw [Nat.add_mul, Nat.one_mul]
      have e2 : (n + 1) * Enc.sz α = n * Enc.sz α + Enc.sz α := by rw [Nat.add_mul, Nat.one_mul]
      have e5 : (n - i) * Enc.sz α = n * Enc.sz α - i * Enc.sz α := Nat.sub_mul _ _ _
      have e6 : i * Enc.sz α ≤ n * Enc.sz α := Nat.mul_le_mul_right _ hin
      have g1 : ∀ m : Nat, m = n - i → goInt m = goInt ((n : Int) - (i : Int)) := fun m h => by congr 1; omega
      have hn1 : Nat.min 1 (n + 1 - i) = 1 := by show min 1 (n + 1 - i) = 1; omega
      by_cases hrm : n + 1 ≤ cap
      · -- in place
        have hfit : (n + 1) * Enc.sz α ≤ cur.size := by rw [k2, hbz]; exact Nat.mul_le_mul_right _ hrm
        obtain ⟨cur1, hcur1⟩ : ∃ c1, c1 = midA cur ((i + 1) * Enc.sz α) (cellsL cur (Enc.sz α) i n) := ⟨_, rfl⟩
        have hs1 : cur1.size = cur.size := by rw [hcur1]; exact midA_size _ _ _ (by omega)
        obtain ⟨cur2, hcur2⟩ : ∃ c2, c2 = midA cur1 (i * Enc.sz α) vs := ⟨_, rfl⟩
        have hs2 : cur2.size = cur.size := by rw [hcur2, midA_size _ _ _ (by omega), hs1]
        have hh1 : (w.drew.setRow bk cur1).heap[bk]? = some (.cells cur1 e (0, 0)) := setRow_heap w.drew bk cur cur1 e (0, 0) k1
        have hm2 : Nat.min (n + 1 - i) (n - i) = n - i := by show min (n + 1 - i) (n - i) = n - i; omega
        refine (hroom bk n cap i vb voff vc w (w.drew.setRow bk cur1) ((w.drew.setRow bk cur1).setRow bk cur2) hlt hrm (by omega) (fun lb cb => ?_) (fun ty dc sc => ?_) (fun ty dc => ?_)).mono ?_
        · exact hfo w vb voff vc bk _ lb cb (val 0 0) cur e hne (by have := (hvc 0 0 (by simp) hkp).1; simpa using this) k1
        · have := copy_row (P := P) w.drew t ty e (bk := bk) (o := (i + 1) * Enc.sz α) (dLen := n - i) (dCap := dc) (sLen := n + 1 - i) (sCap := sc) (a := ⟨bk, i * Enc.sz α, none⟩) (cur := cur) (cellsL cur (Enc.sz α) i n) he hzp k1 (by rw [hm2, hcl, hk]) (hcsrc w.drew k1) (by omega) hc1
          rw [hm2, ← hcur1, g1 _ rfl] at this
          exact this
        · have := copy_row (P := P) (w.drew.setRow bk cur1) t ty e (bk := bk) (o := i * Enc.sz α) (dLen := n + 1 - i) (dCap := dc) (sLen := 1) (sCap := vc) (a := ⟨vb, voff, none⟩) (cur := cur1) vs he hzp hh1 (by rw [hn1, hvl, hk, Nat.one_mul]) (fun j v hj => by
            rw [World.cell?_of_block (show (w.drew.setRow bk cur1).heap[_]? = w.heap[_]? from setRow_other w.drew bk _ cur1 (by rw [add_eq]; exact hne))]
            exact (hvm j v hj).1) (by omega) hv1
          rw [hn1, ← hcur2] at this
          exact this
        · rintro e' w' ⟨rfl, rfl⟩
          have hh2 : ((w.drew.setRow bk cur1).setRow bk cur2).heap[bk]? = some (.cells cur2 b.e (0, 0)) := by rw [hbe]; exact setRow_heap _ bk cur1 cur2 e (0, 0) hh1
          obtain ⟨R', S', T'⟩ := ins_hrel R hb hβ o2 hin (row := row) (val 0) hrl hxrow (by rw [hbe]; exact k1) hh2 (cap' := cap) (by rw [hs2, k2]) hrm k4
            (((Keeps.drew (MutB β H) w).trans (keeps_setRow w.drew hM cur1) (fun _ _ h => h)).trans (keeps_setRow _ hM cur2) (fun _ _ h => h)) (.inl rfl)
            (fun q _ hq => (setRow_other _ bk q cur2 hq).trans (setRow_other w.drew bk q cur1 hq)) (fun r j hr hj => by
              rw [hbz] at hj ⊢
              rw [hcur2, hcur1, put_room hin hvl hfit r j hr hj, hvg j hj])
          exact ⟨_, _, rfl, R', S', T'⟩
      · -- a new row
        obtain ⟨i0, zv, z1, z2, z3, z4, z5, z6, z7⟩ := zT_sound hz
        have hisz : i0.size = Enc.sz α := by rw [z3, ← z5, hk]
        have hbye : byT P e = i0.bytes := by simp [byT, z1]
        rw [hbye] at hby
        have hzs : zv.cells.size = Enc.sz α := by rw [z6, ← z5, hk]
        obtain ⟨Gc, hGc⟩ : ∃ g, g = grownCap w (n + 1) cap e := ⟨_, rfl⟩
        have hG1 : n + 1 ≤ Gc := by rw [hGc]; exact grownCap_ge w _ _ _
        have hG2 : Gc ≤ maxLen := by rw [hGc]; exact grownCap_le_maxLen w _ _ _ (by unfold maxLen; omega)
        have hG3 : Gc ≤ 9223372036854775807 := by unfold maxLen at hG2; omega
        obtain ⟨olds, holds⟩ : ∃ o, o = cellsL cur (Enc.sz α) 0 i := ⟨_, rfl⟩
        have hol : olds.length = i * Enc.sz α := by rw [holds, cellsL_length (by omega), Nat.sub_zero]
        have hold : (Builtin.firstCells i0.size i (.slice (some ⟨bk, 0, none⟩) i cap)).run P w.drew = .ok olds.toArray w.drew := by
          rw [hisz]
          refine run_firstCells_some w.drew (Enc.sz α) i ⟨bk, 0, none⟩ i cap olds hol fun x v hx => ?_
          have hxl := (List.getElem?_eq_some_iff.1 hx).1
          rw [hol] at hxl
          rw [holds, cellsL_get (by omega) (by rw [Nat.sub_zero]; exact hxl), Nat.zero_mul] at hx
          rw [add_eq, cell_of_row w.drew bk _ cur e (0, 0) k1]
          exact hx
        have hbb : (n + 1) * i0.bytes ≤ 140737488355328 := by
          have : (n + 1) * i0.bytes ≤ 1000000 * 1000 := Nat.mul_le_mul (by omega) hby
          omega
        have hrz := fun ty => Lib.run_append_grow_zeros (P := P) w t tn ty e i0 zv .i64 .i64 (elT_eq he) htn z1 z2 (some ⟨bk, 0, none⟩) i cap olds hold (n + 1 - i) (by omega) (by rw [hisz]; exact hkp) (by omega) (by omega) (by
          have : (n + 1 - i) * i0.bytes ≤ (n + 1) * i0.bytes := Nat.mul_le_mul_right _ (by omega)
          omega) (by rw [show i + (n + 1 - i) = n + 1 by omega]; exact growslice_fits (by omega) hbb)
        rw [show i + (n + 1 - i) = n + 1 by omega, ← hGc] at hrz
        obtain ⟨ROW, hROW⟩ : ∃ R0, R0 = olds.toArray ++ Builtin.zeroCells zv.cells (n + 1 - i) ++ Builtin.zeroCells zv.cells (Gc - (n + 1)) := ⟨_, rfl⟩
        rw [← hROW] at hrz
        have hRs : ROW.size = Gc * Enc.sz α := by
          rw [hROW]
          simp only [Array.size_append, List.size_toArray, size_zeroCells, hol, hzs]
          rw [← Nat.add_mul, ← Nat.add_mul]
          congr 1
          omega
        have hRfit : (n + 1) * Enc.sz α ≤ ROW.size := by rw [hRs]; exact Nat.mul_le_mul_right _ hG1
        have hRlow : ∀ x, x < i * Enc.sz α → ROW[x]? = cur[x]? := fun x hx => by
          rw [hROW, Array.append_assoc, Array.getElem?_append_left (by simp [hol]; exact hx), List.getElem?_toArray, holds, cellsL_get (by omega) (by rw [Nat.sub_zero]; exact hx)]
          rw [Nat.zero_mul, Nat.zero_add]
        have hRlow : ∀ x, x < i * Enc.sz α → ROW[x]? = cur[x]? := hRlow
        have hni : ((n : Int) + 1 - (i : Int)) = ((n + 1 - i : Nat) : Int) := by omega
        obtain ⟨W1, hW1⟩ : ∃ W1, W1 = w.drew.alloc (.cells ROW e) := ⟨_, rfl⟩
        rw [← hW1] at hrz
        have w1s : W1.heap.size = w.heap.size + 1 := by rw [hW1]; simp
        have w1n : W1.heap[w.heap.size]? = some (.cells ROW e (0, 0)) := by rw [hW1]; exact heap_alloc_new w.drew _
        have w1o : ∀ q, q < w.heap.size → W1.heap[q]? = w.heap[q]? := fun q hq => by rw [hW1]; exact (keeps_drew_alloc w (.cells ROW e)).block q hq id
        obtain ⟨curA, hcurA⟩ : ∃ c1, c1 = midA ROW (i * Enc.sz α) vs := ⟨_, rfl⟩
        have hsA : curA.size = ROW.size := by rw [hcurA]; exact midA_size _ _ _ (by omega)
        obtain ⟨curB, hcurB⟩ : ∃ c2, c2 = midA curA ((i + 1) * Enc.sz α) (cellsL cur (Enc.sz α) i n) := ⟨_, rfl⟩
        have hsB : curB.size = ROW.size := by rw [hcurB, midA_size _ _ _ (by omega), hsA]
        have w2n : (W1.setRow w.heap.size curA).drew.heap[w.heap.size]? = some (.cells curA e (0, 0)) := setRow_heap W1 w.heap.size ROW curA e (0, 0) w1n
        have w2o : ∀ q, q < w.heap.size → (W1.setRow w.heap.size curA).drew.heap[q]? = w.heap[q]? := fun q hq => (setRow_other W1 w.heap.size q curA (by omega)).trans (w1o q hq)
        have hm3 : Nat.min (n - i) (n - i) = n - i := Nat.min_self _
        refine (hgrow bk n cap i vb voff vc w.heap.size Gc w W1 (W1.setRow w.heap.size curA) ((W1.setRow w.heap.size curA).drew.setRow w.heap.size curB) hlt (by omega) (by omega) (by omega) hG1 hG3 (fun ty => ?_) (fun ty dc => ?_) (fun ty dc sc => ?_)).mono ?_
        · rw [hni]; exact hrz ty
        · have := copy_row (P := P) W1 t ty e (bk := w.heap.size) (o := i * Enc.sz α) (dLen := n + 1 - i) (dCap := dc) (sLen := 1) (sCap := vc) (a := ⟨vb, voff, none⟩) (cur := ROW) vs he hzp w1n (by rw [hn1, hvl, hk, Nat.one_mul]) (fun j v hj => by
            rw [World.cell?_of_block (show W1.heap[_]? = w.heap[_]? from w1o _ (by rw [add_eq]; exact hvb))]
            exact (hvm j v hj).1) (by omega) hv1
          rw [hn1, ← hcurA] at this
          exact this
        · have := copy_row (P := P) (W1.setRow w.heap.size curA).drew t ty e (bk := w.heap.size) (o := (i + 1) * Enc.sz α) (dLen := n - i) (dCap := dc) (sLen := n - i) (sCap := sc) (a := ⟨bk, i * Enc.sz α, none⟩) (cur := curA) (cellsL cur (Enc.sz α) i n) he hzp w2n (by rw [hm3, hcl, hk]) (hcsrc _ ((w2o bk hbklt).trans k1)) (by omega) hc1
          rw [hm3, ← hcurB, g1 _ rfl] at this
          exact this
        · rintro e' w' ⟨rfl, rfl⟩
          have w3n : ((W1.setRow w.heap.size curA).drew.setRow w.heap.size curB).heap[w.heap.size]? = some (.cells curB b.e (0, 0)) := by rw [hbe]; exact setRow_heap _ w.heap.size curA curB e (0, 0) w2n
          have w3o : ∀ q, q < w.heap.size → ((W1.setRow w.heap.size curA).drew.setRow w.heap.size curB).heap[q]? = w.heap[q]? := fun q hq => (setRow_other _ w.heap.size q curB (by omega)).trans (w2o q hq)
          obtain ⟨R', S', T'⟩ := ins_hrel R hb hβ o2 hin (row := row) (val 0) hrl hxrow (by rw [hbe]; exact k1) w3n (cap' := Gc) (by rw [hsB, hRs, hbz]) hG1 hG2
            ⟨by rw [hW1]; rfl, by rw [hW1]; rfl, by rw [hW1]; rfl, by simp [World.setRow, hW1], fun q hq _ => w3o q hq, by rw [hW1]; show w.drawn ≤ w.drawn + 1 + 1; omega⟩ (.inr (Nat.le_refl _))
            (fun q hq _ => w3o q hq) (fun r j hr hj => by
              rw [hbz] at hj ⊢
              rw [hcurB, hcurA, put_grow hin hvl hRfit hcs hRlow r j hr hj, hvg j hj])
          exact ⟨_, _, rfl, R', S', T'⟩
end Go.Proofs.Ytkhgjbjkjefeoaa

/-
  overlay: columns and overlays as plain values. Printed by wip/enc.py.
-/
namespace Go.Proofs.Ytkhgjbjkjefeoaa
open Go.RowKit
set_option linter.unusedSimpArgs false
set_option linter.unusedVariables false

theorem map_unc {α : Type} [Enc α] (l : List α) : (encRows l).map Enc.unc = l := by unfold encRows; simp only [List.map_map, Function.comp_def, Enc.unc_cells, List.map_id']
structure Adj where
  From : Int
  To : Int
  Edge : Int
instance : Inhabited Adj := ⟨⟨0, 0, 0⟩⟩
@[simp] theorem Adj.eta (x : Adj) : Adj.mk x.From x.To x.Edge = x := rfl
def Adj.cells (x : Adj) : List AV := [.int .i64 x.From, .int .i64 x.To, .int .i64 x.Edge]
def Adj.unc (c : List AV) : Adj :=
  match c with
  | [.int _ a0, .int _ a1, .int _ a2] => ⟨a0, a1, a2⟩
  | _ => default
theorem Adj.unc_cells (x : Adj) : Adj.unc x.cells = x := by
  cases x
  simp only [Adj.cells, Adj.unc, map_unc]
instance : Enc Adj where
  sz := 3
  cells := Adj.cells
  enc x := .agg x.cells
  unc := Adj.unc
  dec v := match v with | .agg c => Adj.unc c | _ => default
  unc_cells := Adj.unc_cells
  dec_enc x := Adj.unc_cells x
@[simp] theorem sz_Adj : Enc.sz Adj = 3 := rfl
@[simp] theorem cells_Adj (x : Adj) : Enc.cells x = [.int .i64 x.From, .int .i64 x.To, .int .i64 x.Edge] := rfl
@[simp] theorem enc_Adj (x : Adj) : Enc.enc x = .agg [.int .i64 x.From, .int .i64 x.To, .int .i64 x.Edge] := rfl
@[simp] theorem unc_Adj (k0 : IntKind) (a0 : Int) (k1 : IntKind) (a1 : Int) (k2 : IntKind) (a2 : Int) : (Enc.unc [.int k0 a0, .int k1 a1, .int k2 a2] : Adj) = ⟨a0, a1, a2⟩ := rfl
@[simp] theorem dec_Adj (l : List AV) : (Enc.dec (.agg l) : Adj) = Enc.unc l := rfl

structure Col where
  Nodes : List (Int)
  First : List (Int)
  To : List (Int)
  Edge : List (Int)
instance : Inhabited Col := ⟨⟨[], [], [], []⟩⟩
@[simp] theorem Col.eta (x : Col) : Col.mk x.Nodes x.First x.To x.Edge = x := rfl
def Col.cells (x : Col) : List AV := [.slice 1 false (encRows x.Nodes), .slice 1 false (encRows x.First), .slice 1 false (encRows x.To), .slice 1 false (encRows x.Edge)]
def Col.unc (c : List AV) : Col :=
  match c with
  | [.slice _ _ a0, .slice _ _ a1, .slice _ _ a2, .slice _ _ a3] => ⟨(a0.map Enc.unc), (a1.map Enc.unc), (a2.map Enc.unc), (a3.map Enc.unc)⟩
  | _ => default
theorem Col.unc_cells (x : Col) : Col.unc x.cells = x := by
  cases x
  simp only [Col.cells, Col.unc, map_unc]
instance : Enc Col where
  sz := 4
  cells := Col.cells
  enc x := .agg x.cells
  unc := Col.unc
  dec v := match v with | .agg c => Col.unc c | _ => default
  unc_cells := Col.unc_cells
  dec_enc x := Col.unc_cells x
@[simp] theorem sz_Col : Enc.sz Col = 4 := rfl
@[simp] theorem cells_Col (x : Col) : Enc.cells x = [.slice 1 false (encRows x.Nodes), .slice 1 false (encRows x.First), .slice 1 false (encRows x.To), .slice 1 false (encRows x.Edge)] := rfl
@[simp] theorem enc_Col (x : Col) : Enc.enc x = .agg [.slice 1 false (encRows x.Nodes), .slice 1 false (encRows x.First), .slice 1 false (encRows x.To), .slice 1 false (encRows x.Edge)] := rfl
@[simp] theorem unc_Col (s0 : Nat) (f0 : Bool) (a0 : List (List AV)) (s1 : Nat) (f1 : Bool) (a1 : List (List AV)) (s2 : Nat) (f2 : Bool) (a2 : List (List AV)) (s3 : Nat) (f3 : Bool) (a3 : List (List AV)) : (Enc.unc [.slice s0 f0 a0, .slice s1 f1 a1, .slice s2 f2 a2, .slice s3 f3 a3] : Col) = ⟨(Enc.dec (.slice s0 f0 a0)), (Enc.dec (.slice s1 f1 a1)), (Enc.dec (.slice s2 f2 a2)), (Enc.dec (.slice s3 f3 a3))⟩ := rfl
@[simp] theorem dec_Col (l : List AV) : (Enc.dec (.agg l) : Col) = Enc.unc l := rfl

structure Ov where
  Base : Col
  Adds : List (Adj)
  Dels : List (Int)
instance : Inhabited Ov := ⟨⟨default, [], []⟩⟩
@[simp] theorem Ov.eta (x : Ov) : Ov.mk x.Base x.Adds x.Dels = x := rfl
def Ov.cells (x : Ov) : List AV := [.slice 1 false (encRows x.Base.Nodes), .slice 1 false (encRows x.Base.First), .slice 1 false (encRows x.Base.To), .slice 1 false (encRows x.Base.Edge), .slice 3 false (encRows x.Adds), .slice 1 false (encRows x.Dels)]
def Ov.unc (c : List AV) : Ov :=
  match c with
  | [.slice _ _ a0, .slice _ _ a1, .slice _ _ a2, .slice _ _ a3, .slice _ _ a4, .slice _ _ a5] => ⟨⟨(a0.map Enc.unc), (a1.map Enc.unc), (a2.map Enc.unc), (a3.map Enc.unc)⟩, (a4.map Enc.unc), (a5.map Enc.unc)⟩
  | _ => default
theorem Ov.unc_cells (x : Ov) : Ov.unc x.cells = x := by
  cases x
  simp only [Ov.cells, Ov.unc, map_unc]
instance : Enc Ov where
  sz := 6
  cells := Ov.cells
  enc x := .agg x.cells
  unc := Ov.unc
  dec v := match v with | .agg c => Ov.unc c | _ => default
  unc_cells := Ov.unc_cells
  dec_enc x := Ov.unc_cells x
@[simp] theorem sz_Ov : Enc.sz Ov = 6 := rfl
@[simp] theorem cells_Ov (x : Ov) : Enc.cells x = [.slice 1 false (encRows x.Base.Nodes), .slice 1 false (encRows x.Base.First), .slice 1 false (encRows x.Base.To), .slice 1 false (encRows x.Base.Edge), .slice 3 false (encRows x.Adds), .slice 1 false (encRows x.Dels)] := rfl
@[simp] theorem enc_Ov (x : Ov) : Enc.enc x = .agg [.slice 1 false (encRows x.Base.Nodes), .slice 1 false (encRows x.Base.First), .slice 1 false (encRows x.Base.To), .slice 1 false (encRows x.Base.Edge), .slice 3 false (encRows x.Adds), .slice 1 false (encRows x.Dels)] := rfl
@[simp] theorem unc_Ov (s0 : Nat) (f0 : Bool) (a0 : List (List AV)) (s1 : Nat) (f1 : Bool) (a1 : List (List AV)) (s2 : Nat) (f2 : Bool) (a2 : List (List AV)) (s3 : Nat) (f3 : Bool) (a3 : List (List AV)) (s4 : Nat) (f4 : Bool) (a4 : List (List AV)) (s5 : Nat) (f5 : Bool) (a5 : List (List AV)) : (Enc.unc [.slice s0 f0 a0, .slice s1 f1 a1, .slice s2 f2 a2, .slice s3 f3 a3, .slice s4 f4 a4, .slice s5 f5 a5] : Ov) = ⟨⟨(Enc.dec (.slice s0 f0 a0)), (Enc.dec (.slice s1 f1 a1)), (Enc.dec (.slice s2 f2 a2)), (Enc.dec (.slice s3 f3 a3))⟩, (Enc.dec (.slice s4 f4 a4)), (Enc.dec (.slice s5 f5 a5))⟩ := rfl
@[simp] theorem dec_Ov (l : List AV) : (Enc.dec (.agg l) : Ov) = Enc.unc l := rfl

structure Act where
  Off : Bool
  A : Adj
instance : Inhabited Act := ⟨⟨false, default⟩⟩
@[simp] theorem Act.eta (x : Act) : Act.mk x.Off x.A = x := rfl
def Act.cells (x : Act) : List AV := [.bool x.Off, .int .i64 x.A.From, .int .i64 x.A.To, .int .i64 x.A.Edge]
def Act.unc (c : List AV) : Act :=
  match c with
  | [.bool a0, .int _ a1, .int _ a2, .int _ a3] => ⟨a0, ⟨a1, a2, a3⟩⟩
  | _ => default
theorem Act.unc_cells (x : Act) : Act.unc x.cells = x := by
  cases x
  simp only [Act.cells, Act.unc, map_unc]
instance : Enc Act where
  sz := 4
  cells := Act.cells
  enc x := .agg x.cells
  unc := Act.unc
  dec v := match v with | .agg c => Act.unc c | _ => default
  unc_cells := Act.unc_cells
  dec_enc x := Act.unc_cells x
@[simp] theorem sz_Act : Enc.sz Act = 4 := rfl
@[simp] theorem cells_Act (x : Act) : Enc.cells x = [.bool x.Off, .int .i64 x.A.From, .int .i64 x.A.To, .int .i64 x.A.Edge] := rfl
@[simp] theorem enc_Act (x : Act) : Enc.enc x = .agg [.bool x.Off, .int .i64 x.A.From, .int .i64 x.A.To, .int .i64 x.A.Edge] := rfl
@[simp] theorem unc_Act (a0 : Bool) (k1 : IntKind) (a1 : Int) (k2 : IntKind) (a2 : Int) (k3 : IntKind) (a3 : Int) : (Enc.unc [.bool a0, .int k1 a1, .int k2 a2, .int k3 a3] : Act) = ⟨a0, ⟨a1, a2, a3⟩⟩ := rfl
@[simp] theorem dec_Act (l : List AV) : (Enc.dec (.agg l) : Act) = Enc.unc l := rfl

end Go.Proofs.Ytkhgjbjkjefeoaa

/-
  What the operations ask of the types of this program. Printed by wip/types.py.
-/
namespace Go.Proofs.Ytkhgjbjkjefeoaa
open Go.RowKit
set_option maxRecDepth 100000

@[simp] theorem T_sz1 : szT Try.prog 1 = 1 := by kernel_rfl
@[simp] theorem T_ag1 : aggT Try.prog 1 = some false := by kernel_rfl
@[simp] theorem T_sz2 : szT Try.prog 2 = 1 := by kernel_rfl
@[simp] theorem T_ag2 : aggT Try.prog 2 = some false := by kernel_rfl
@[simp] theorem T_el2 : elT Try.prog 2 = none := by kernel_rfl
@[simp] theorem T_ar2 : arrT Try.prog 2 = none := by kernel_rfl
@[simp] theorem T_in2 : intT Try.prog 2 = some .i64 := by kernel_rfl
@[simp] theorem T_bo2 : boolT Try.prog 2 = false := by kernel_rfl
@[simp] theorem T_bt2 : byteT Try.prog 2 = false := by kernel_rfl
@[simp] theorem T_by2 : byT Try.prog 2 = 8 := by kernel_rfl
@[simp] theorem T_z2 : zT Try.prog 2 = some [.int .i64 0] := by kernel_rfl
@[simp] theorem T_zl3 : zeroL Try.prog 3 = some (.int .i64 0) := by kernel_rfl
@[simp] theorem T_sz3 : szT Try.prog 3 = 1 := by kernel_rfl
@[simp] theorem T_ag3 : aggT Try.prog 3 = some false := by kernel_rfl
@[simp] theorem T_el3 : elT Try.prog 3 = none := by kernel_rfl
@[simp] theorem T_ar3 : arrT Try.prog 3 = none := by kernel_rfl
@[simp] theorem T_st3 : strT Try.prog 3 = false := by kernel_rfl
@[simp] theorem T_in3 : intT Try.prog 3 = some .i64 := by kernel_rfl
@[simp] theorem T_bo3 : boolT Try.prog 3 = false := by kernel_rfl
@[simp] theorem T_bt3 : byteT Try.prog 3 = false := by kernel_rfl
@[simp] theorem T_by3 : byT Try.prog 3 = 8 := by kernel_rfl
@[simp] theorem T_z3 : zT Try.prog 3 = some [.int .i64 0] := by kernel_rfl
@[simp] theorem T_zl4 : zeroL Try.prog 4 = some (.bool false) := by kernel_rfl
@[simp] theorem T_sz4 : szT Try.prog 4 = 1 := by kernel_rfl
@[simp] theorem T_ag4 : aggT Try.prog 4 = some false := by kernel_rfl
@[simp] theorem T_st4 : strT Try.prog 4 = false := by kernel_rfl
@[simp] theorem T_in4 : intT Try.prog 4 = none := by kernel_rfl
@[simp] theorem T_bo4 : boolT Try.prog 4 = true := by kernel_rfl
@[simp] theorem T_bt4 : byteT Try.prog 4 = false := by kernel_rfl
@[simp] theorem T_by4 : byT Try.prog 4 = 1 := by kernel_rfl
@[simp] theorem T_z4 : zT Try.prog 4 = some [.bool false] := by kernel_rfl
@[simp] theorem T_sz5 : szT Try.prog 5 = 1 := by kernel_rfl
@[simp] theorem T_ag5 : aggT Try.prog 5 = some false := by kernel_rfl
@[simp] theorem T_el5 : elT Try.prog 5 = none := by kernel_rfl
@[simp] theorem T_ar5 : arrT Try.prog 5 = none := by kernel_rfl
@[simp] theorem T_in5 : intT Try.prog 5 = some .u8 := by kernel_rfl
@[simp] theorem T_bo5 : boolT Try.prog 5 = false := by kernel_rfl
@[simp] theorem T_bt5 : byteT Try.prog 5 = true := by kernel_rfl
@[simp] theorem T_by5 : byT Try.prog 5 = 1 := by kernel_rfl
@[simp] theorem T_z5 : zT Try.prog 5 = some [.int .u8 0] := by kernel_rfl
@[simp] theorem T_sz6 : szT Try.prog 6 = 1 := by kernel_rfl
@[simp] theorem T_ag6 : aggT Try.prog 6 = some false := by kernel_rfl
@[simp] theorem T_el6 : elT Try.prog 6 = none := by kernel_rfl
@[simp] theorem T_ar6 : arrT Try.prog 6 = none := by kernel_rfl
@[simp] theorem T_in6 : intT Try.prog 6 = some .u8 := by kernel_rfl
@[simp] theorem T_bo6 : boolT Try.prog 6 = false := by kernel_rfl
@[simp] theorem T_bt6 : byteT Try.prog 6 = true := by kernel_rfl
@[simp] theorem T_by6 : byT Try.prog 6 = 1 := by kernel_rfl
@[simp] theorem T_z6 : zT Try.prog 6 = some [.int .u8 0] := by kernel_rfl
@[simp] theorem T_sz7 : szT Try.prog 7 = 4 := by kernel_rfl
@[simp] theorem T_ag7 : aggT Try.prog 7 = some true := by kernel_rfl
@[simp] theorem T_el7 : elT Try.prog 7 = none := by kernel_rfl
@[simp] theorem T_ar7 : arrT Try.prog 7 = none := by kernel_rfl
@[simp] theorem T_by7 : byT Try.prog 7 = 24 := by kernel_rfl
@[simp] theorem T_f7_0 : fldT Try.prog 7 0 = some (0, 2) := by kernel_rfl
@[simp] theorem T_f7_1 : fldT Try.prog 7 1 = some (1, 3) := by kernel_rfl
@[simp] theorem T_f7_2 : fldT Try.prog 7 2 = some (2, 4) := by kernel_rfl
@[simp] theorem T_f7_3 : fldT Try.prog 7 3 = some (3, 6) := by kernel_rfl
@[simp] theorem T_if7 : infoAll Try.prog 7 = true := by kernel_rfl
@[simp] theorem T_z7 : zT Try.prog 7 = some [.int .i64 0, .int .i64 0, .bool false, .int .u8 0] := by kernel_rfl
@[simp] theorem T_sz8 : szT Try.prog 8 = 4 := by kernel_rfl
@[simp] theorem T_ag8 : aggT Try.prog 8 = some true := by kernel_rfl
@[simp] theorem T_el8 : elT Try.prog 8 = none := by kernel_rfl
@[simp] theorem T_ar8 : arrT Try.prog 8 = none := by kernel_rfl
@[simp] theorem T_by8 : byT Try.prog 8 = 24 := by kernel_rfl
@[simp] theorem T_f8_0 : fldT Try.prog 8 0 = some (0, 2) := by kernel_rfl
@[simp] theorem T_f8_1 : fldT Try.prog 8 1 = some (1, 3) := by kernel_rfl
@[simp] theorem T_f8_2 : fldT Try.prog 8 2 = some (2, 4) := by kernel_rfl
@[simp] theorem T_f8_3 : fldT Try.prog 8 3 = some (3, 6) := by kernel_rfl
@[simp] theorem T_if8 : infoAll Try.prog 8 = true := by kernel_rfl
@[simp] theorem T_z8 : zT Try.prog 8 = some [.int .i64 0, .int .i64 0, .bool false, .int .u8 0] := by kernel_rfl
@[simp] theorem T_sz9 : szT Try.prog 9 = 1 := by kernel_rfl
@[simp] theorem T_ag9 : aggT Try.prog 9 = some false := by kernel_rfl
@[simp] theorem T_el9 : elT Try.prog 9 = none := by kernel_rfl
@[simp] theorem T_ar9 : arrT Try.prog 9 = none := by kernel_rfl
@[simp] theorem T_st9 : strT Try.prog 9 = true := by kernel_rfl
@[simp] theorem T_in9 : intT Try.prog 9 = none := by kernel_rfl
@[simp] theorem T_bo9 : boolT Try.prog 9 = false := by kernel_rfl
@[simp] theorem T_bt9 : byteT Try.prog 9 = false := by kernel_rfl
@[simp] theorem T_by9 : byT Try.prog 9 = 16 := by kernel_rfl
@[simp] theorem T_z9 : zT Try.prog 9 = some [.str ByteArray.empty] := by kernel_rfl
@[simp] theorem T_sz10 : szT Try.prog 10 = 1 := by kernel_rfl
@[simp] theorem T_ag10 : aggT Try.prog 10 = some false := by kernel_rfl
@[simp] theorem T_el10 : elT Try.prog 10 = none := by kernel_rfl
@[simp] theorem T_ar10 : arrT Try.prog 10 = none := by kernel_rfl
@[simp] theorem T_st10 : strT Try.prog 10 = true := by kernel_rfl
@[simp] theorem T_in10 : intT Try.prog 10 = none := by kernel_rfl
@[simp] theorem T_bo10 : boolT Try.prog 10 = false := by kernel_rfl
@[simp] theorem T_bt10 : byteT Try.prog 10 = false := by kernel_rfl
@[simp] theorem T_by10 : byT Try.prog 10 = 16 := by kernel_rfl
@[simp] theorem T_z10 : zT Try.prog 10 = some [.str ByteArray.empty] := by kernel_rfl
@[simp] theorem T_sz11 : szT Try.prog 11 = 1 := by kernel_rfl
@[simp] theorem T_ag11 : aggT Try.prog 11 = some false := by kernel_rfl
@[simp] theorem T_el11 : elT Try.prog 11 = none := by kernel_rfl
@[simp] theorem T_ar11 : arrT Try.prog 11 = none := by kernel_rfl
@[simp] theorem T_st11 : strT Try.prog 11 = true := by kernel_rfl
@[simp] theorem T_in11 : intT Try.prog 11 = none := by kernel_rfl
@[simp] theorem T_bo11 : boolT Try.prog 11 = false := by kernel_rfl
@[simp] theorem T_bt11 : byteT Try.prog 11 = false := by kernel_rfl
@[simp] theorem T_by11 : byT Try.prog 11 = 16 := by kernel_rfl
@[simp] theorem T_z11 : zT Try.prog 11 = some [.str ByteArray.empty] := by kernel_rfl
@[simp] theorem T_sz12 : szT Try.prog 12 = 1 := by kernel_rfl
@[simp] theorem T_ag12 : aggT Try.prog 12 = some false := by kernel_rfl
@[simp] theorem T_el12 : elT Try.prog 12 = none := by kernel_rfl
@[simp] theorem T_ar12 : arrT Try.prog 12 = none := by kernel_rfl
@[simp] theorem T_in12 : intT Try.prog 12 = some .u64 := by kernel_rfl
@[simp] theorem T_bo12 : boolT Try.prog 12 = false := by kernel_rfl
@[simp] theorem T_bt12 : byteT Try.prog 12 = false := by kernel_rfl
@[simp] theorem T_by12 : byT Try.prog 12 = 8 := by kernel_rfl
@[simp] theorem T_z12 : zT Try.prog 12 = some [.int .u64 0] := by kernel_rfl
@[simp] theorem T_sz13 : szT Try.prog 13 = 2 := by kernel_rfl
@[simp] theorem T_ag13 : aggT Try.prog 13 = some true := by kernel_rfl
@[simp] theorem T_el13 : elT Try.prog 13 = none := by kernel_rfl
@[simp] theorem T_ar13 : arrT Try.prog 13 = none := by kernel_rfl
@[simp] theorem T_by13 : byT Try.prog 13 = 24 := by kernel_rfl
@[simp] theorem T_f13_0 : fldT Try.prog 13 0 = some (0, 9) := by kernel_rfl
@[simp] theorem T_f13_1 : fldT Try.prog 13 1 = some (1, 12) := by kernel_rfl
@[simp] theorem T_if13 : infoAll Try.prog 13 = true := by kernel_rfl
@[simp] theorem T_z13 : zT Try.prog 13 = some [.str ByteArray.empty, .int .u64 0] := by kernel_rfl
@[simp] theorem T_sz14 : szT Try.prog 14 = 2 := by kernel_rfl
@[simp] theorem T_ag14 : aggT Try.prog 14 = some true := by kernel_rfl
@[simp] theorem T_el14 : elT Try.prog 14 = none := by kernel_rfl
@[simp] theorem T_ar14 : arrT Try.prog 14 = none := by kernel_rfl
@[simp] theorem T_by14 : byT Try.prog 14 = 24 := by kernel_rfl
@[simp] theorem T_f14_0 : fldT Try.prog 14 0 = some (0, 9) := by kernel_rfl
@[simp] theorem T_f14_1 : fldT Try.prog 14 1 = some (1, 12) := by kernel_rfl
@[simp] theorem T_if14 : infoAll Try.prog 14 = true := by kernel_rfl
@[simp] theorem T_z14 : zT Try.prog 14 = some [.str ByteArray.empty, .int .u64 0] := by kernel_rfl
@[simp] theorem T_sz15 : szT Try.prog 15 = 1 := by kernel_rfl
@[simp] theorem T_ag15 : aggT Try.prog 15 = some false := by kernel_rfl
@[simp] theorem T_el15 : elT Try.prog 15 = none := by kernel_rfl
@[simp] theorem T_ar15 : arrT Try.prog 15 = none := by kernel_rfl
@[simp] theorem T_st15 : strT Try.prog 15 = false := by kernel_rfl
@[simp] theorem T_pt15 : ptrT Try.prog 15 = true := by kernel_rfl
@[simp] theorem T_by15 : byT Try.prog 15 = 8 := by kernel_rfl
@[simp] theorem T_z15 : zT Try.prog 15 = some [.nilptr] := by kernel_rfl
@[simp] theorem T_sz16 : szT Try.prog 16 = 1 := by kernel_rfl
@[simp] theorem T_ag16 : aggT Try.prog 16 = some false := by kernel_rfl
@[simp] theorem T_el16 : elT Try.prog 16 = none := by kernel_rfl
@[simp] theorem T_ar16 : arrT Try.prog 16 = none := by kernel_rfl
@[simp] theorem T_st16 : strT Try.prog 16 = false := by kernel_rfl
@[simp] theorem T_pt16 : ptrT Try.prog 16 = true := by kernel_rfl
@[simp] theorem T_by16 : byT Try.prog 16 = 8 := by kernel_rfl
@[simp] theorem T_z16 : zT Try.prog 16 = some [.nilptr] := by kernel_rfl
@[simp] theorem T_sz17 : szT Try.prog 17 = 1 := by kernel_rfl
@[simp] theorem T_ag17 : aggT Try.prog 17 = some false := by kernel_rfl
@[simp] theorem T_el17 : elT Try.prog 17 = none := by kernel_rfl
@[simp] theorem T_ar17 : arrT Try.prog 17 = none := by kernel_rfl
@[simp] theorem T_st17 : strT Try.prog 17 = false := by kernel_rfl
@[simp] theorem T_pt17 : ptrT Try.prog 17 = true := by kernel_rfl
@[simp] theorem T_by17 : byT Try.prog 17 = 8 := by kernel_rfl
@[simp] theorem T_z17 : zT Try.prog 17 = some [.nilptr] := by kernel_rfl
@[simp] theorem T_sz18 : szT Try.prog 18 = 1 := by kernel_rfl
@[simp] theorem T_ag18 : aggT Try.prog 18 = some true := by kernel_rfl
@[simp] theorem T_el18 : elT Try.prog 18 = none := by kernel_rfl
@[simp] theorem T_ar18 : arrT Try.prog 18 = none := by kernel_rfl
@[simp] theorem T_by18 : byT Try.prog 18 = 8 := by kernel_rfl
@[simp] theorem T_f18_0 : fldT Try.prog 18 0 = some (0, 17) := by kernel_rfl
@[simp] theorem T_if18 : infoAll Try.prog 18 = true := by kernel_rfl
@[simp] theorem T_z18 : zT Try.prog 18 = some [.nilptr] := by kernel_rfl
@[simp] theorem T_sz19 : szT Try.prog 19 = 1 := by kernel_rfl
@[simp] theorem T_ag19 : aggT Try.prog 19 = some true := by kernel_rfl
@[simp] theorem T_el19 : elT Try.prog 19 = none := by kernel_rfl
@[simp] theorem T_ar19 : arrT Try.prog 19 = none := by kernel_rfl
@[simp] theorem T_by19 : byT Try.prog 19 = 8 := by kernel_rfl
@[simp] theorem T_f19_0 : fldT Try.prog 19 0 = some (0, 17) := by kernel_rfl
@[simp] theorem T_if19 : infoAll Try.prog 19 = true := by kernel_rfl
@[simp] theorem T_z19 : zT Try.prog 19 = some [.nilptr] := by kernel_rfl
@[simp] theorem T_sz21 : szT Try.prog 21 = 1 := by kernel_rfl
@[simp] theorem T_ag21 : aggT Try.prog 21 = some false := by kernel_rfl
@[simp] theorem T_el21 : elT Try.prog 21 = none := by kernel_rfl
@[simp] theorem T_ar21 : arrT Try.prog 21 = none := by kernel_rfl
@[simp] theorem T_in21 : intT Try.prog 21 = some .i32 := by kernel_rfl
@[simp] theorem T_bo21 : boolT Try.prog 21 = false := by kernel_rfl
@[simp] theorem T_bt21 : byteT Try.prog 21 = false := by kernel_rfl
@[simp] theorem T_by21 : byT Try.prog 21 = 4 := by kernel_rfl
@[simp] theorem T_z21 : zT Try.prog 21 = some [.int .i32 0] := by kernel_rfl
@[simp] theorem T_sz22 : szT Try.prog 22 = 1 := by kernel_rfl
@[simp] theorem T_ag22 : aggT Try.prog 22 = some false := by kernel_rfl
@[simp] theorem T_el22 : elT Try.prog 22 = some 3 := by kernel_rfl
@[simp] theorem T_ar22 : arrT Try.prog 22 = none := by kernel_rfl
@[simp] theorem T_st22 : strT Try.prog 22 = false := by kernel_rfl
@[simp] theorem T_by22 : byT Try.prog 22 = 24 := by kernel_rfl
@[simp] theorem T_z22 : zT Try.prog 22 = some [.slice 1 true []] := by kernel_rfl
@[simp] theorem T_sz23 : szT Try.prog 23 = 4 := by kernel_rfl
@[simp] theorem T_ag23 : aggT Try.prog 23 = some true := by kernel_rfl
@[simp] theorem T_el23 : elT Try.prog 23 = none := by kernel_rfl
@[simp] theorem T_ar23 : arrT Try.prog 23 = none := by kernel_rfl
@[simp] theorem T_by23 : byT Try.prog 23 = 96 := by kernel_rfl
@[simp] theorem T_f23_0 : fldT Try.prog 23 0 = some (0, 22) := by kernel_rfl
@[simp] theorem T_f23_1 : fldT Try.prog 23 1 = some (1, 22) := by kernel_rfl
@[simp] theorem T_f23_2 : fldT Try.prog 23 2 = some (2, 22) := by kernel_rfl
@[simp] theorem T_f23_3 : fldT Try.prog 23 3 = some (3, 22) := by kernel_rfl
@[simp] theorem T_if23 : infoAll Try.prog 23 = true := by kernel_rfl
@[simp] theorem T_z23 : zT Try.prog 23 = some [.slice 1 true [], .slice 1 true [], .slice 1 true [], .slice 1 true []] := by kernel_rfl
@[simp] theorem T_sz24 : szT Try.prog 24 = 4 := by kernel_rfl
@[simp] theorem T_ag24 : aggT Try.prog 24 = some true := by kernel_rfl
@[simp] theorem T_el24 : elT Try.prog 24 = none := by kernel_rfl
@[simp] theorem T_ar24 : arrT Try.prog 24 = none := by kernel_rfl
@[simp] theorem T_by24 : byT Try.prog 24 = 96 := by kernel_rfl
@[simp] theorem T_f24_0 : fldT Try.prog 24 0 = some (0, 22) := by kernel_rfl
@[simp] theorem T_f24_1 : fldT Try.prog 24 1 = some (1, 22) := by kernel_rfl
@[simp] theorem T_f24_2 : fldT Try.prog 24 2 = some (2, 22) := by kernel_rfl
@[simp] theorem T_f24_3 : fldT Try.prog 24 3 = some (3, 22) := by kernel_rfl
@[simp] theorem T_if24 : infoAll Try.prog 24 = true := by kernel_rfl
@[simp] theorem T_z24 : zT Try.prog 24 = some [.slice 1 true [], .slice 1 true [], .slice 1 true [], .slice 1 true []] := by kernel_rfl
@[simp] theorem T_sz25 : szT Try.prog 25 = 1 := by kernel_rfl
@[simp] theorem T_ag25 : aggT Try.prog 25 = some false := by kernel_rfl
@[simp] theorem T_el25 : elT Try.prog 25 = some 29 := by kernel_rfl
@[simp] theorem T_ar25 : arrT Try.prog 25 = none := by kernel_rfl
@[simp] theorem T_st25 : strT Try.prog 25 = false := by kernel_rfl
@[simp] theorem T_by25 : byT Try.prog 25 = 24 := by kernel_rfl
@[simp] theorem T_z25 : zT Try.prog 25 = some [.slice 3 true []] := by kernel_rfl
@[simp] theorem T_sz26 : szT Try.prog 26 = 6 := by kernel_rfl
@[simp] theorem T_ag26 : aggT Try.prog 26 = some true := by kernel_rfl
@[simp] theorem T_el26 : elT Try.prog 26 = none := by kernel_rfl
@[simp] theorem T_ar26 : arrT Try.prog 26 = none := by kernel_rfl
@[simp] theorem T_by26 : byT Try.prog 26 = 144 := by kernel_rfl
@[simp] theorem T_f26_0 : fldT Try.prog 26 0 = some (0, 24) := by kernel_rfl
@[simp] theorem T_f26_1 : fldT Try.prog 26 1 = some (4, 25) := by kernel_rfl
@[simp] theorem T_f26_2 : fldT Try.prog 26 2 = some (5, 22) := by kernel_rfl
@[simp] theorem T_if26 : infoAll Try.prog 26 = true := by kernel_rfl
@[simp] theorem T_z26 : zT Try.prog 26 = some [.slice 1 true [], .slice 1 true [], .slice 1 true [], .slice 1 true [], .slice 3 true [], .slice 1 true []] := by kernel_rfl
@[simp] theorem T_sz27 : szT Try.prog 27 = 6 := by kernel_rfl
@[simp] theorem T_ag27 : aggT Try.prog 27 = some true := by kernel_rfl
@[simp] theorem T_el27 : elT Try.prog 27 = none := by kernel_rfl
@[simp] theorem T_ar27 : arrT Try.prog 27 = none := by kernel_rfl
@[simp] theorem T_by27 : byT Try.prog 27 = 144 := by kernel_rfl
@[simp] theorem T_f27_0 : fldT Try.prog 27 0 = some (0, 24) := by kernel_rfl
@[simp] theorem T_f27_1 : fldT Try.prog 27 1 = some (4, 25) := by kernel_rfl
@[simp] theorem T_f27_2 : fldT Try.prog 27 2 = some (5, 22) := by kernel_rfl
@[simp] theorem T_if27 : infoAll Try.prog 27 = true := by kernel_rfl
@[simp] theorem T_z27 : zT Try.prog 27 = some [.slice 1 true [], .slice 1 true [], .slice 1 true [], .slice 1 true [], .slice 3 true [], .slice 1 true []] := by kernel_rfl
@[simp] theorem T_sz28 : szT Try.prog 28 = 3 := by kernel_rfl
@[simp] theorem T_ag28 : aggT Try.prog 28 = some true := by kernel_rfl
@[simp] theorem T_el28 : elT Try.prog 28 = none := by kernel_rfl
@[simp] theorem T_ar28 : arrT Try.prog 28 = none := by kernel_rfl
@[simp] theorem T_by28 : byT Try.prog 28 = 24 := by kernel_rfl
@[simp] theorem T_f28_0 : fldT Try.prog 28 0 = some (0, 3) := by kernel_rfl
@[simp] theorem T_f28_1 : fldT Try.prog 28 1 = some (1, 3) := by kernel_rfl
@[simp] theorem T_f28_2 : fldT Try.prog 28 2 = some (2, 3) := by kernel_rfl
@[simp] theorem T_if28 : infoAll Try.prog 28 = true := by kernel_rfl
@[simp] theorem T_z28 : zT Try.prog 28 = some [.int .i64 0, .int .i64 0, .int .i64 0] := by kernel_rfl
@[simp] theorem T_sz29 : szT Try.prog 29 = 3 := by kernel_rfl
@[simp] theorem T_ag29 : aggT Try.prog 29 = some true := by kernel_rfl
@[simp] theorem T_el29 : elT Try.prog 29 = none := by kernel_rfl
@[simp] theorem T_ar29 : arrT Try.prog 29 = none := by kernel_rfl
@[simp] theorem T_by29 : byT Try.prog 29 = 24 := by kernel_rfl
@[simp] theorem T_f29_0 : fldT Try.prog 29 0 = some (0, 3) := by kernel_rfl
@[simp] theorem T_f29_1 : fldT Try.prog 29 1 = some (1, 3) := by kernel_rfl
@[simp] theorem T_f29_2 : fldT Try.prog 29 2 = some (2, 3) := by kernel_rfl
@[simp] theorem T_fl29 : flatT Try.prog 29 = some [.i, .i, .i] := by kernel_rfl
@[simp] theorem T_if29 : infoAll Try.prog 29 = true := by kernel_rfl
@[simp] theorem T_z29 : zT Try.prog 29 = some [.int .i64 0, .int .i64 0, .int .i64 0] := by kernel_rfl
@[simp] theorem T_sz30 : szT Try.prog 30 = 1 := by kernel_rfl
@[simp] theorem T_ag30 : aggT Try.prog 30 = some false := by kernel_rfl
@[simp] theorem T_sz31 : szT Try.prog 31 = 1 := by kernel_rfl
@[simp] theorem T_ag31 : aggT Try.prog 31 = some false := by kernel_rfl
@[simp] theorem T_sz32 : szT Try.prog 32 = 1 := by kernel_rfl
@[simp] theorem T_ag32 : aggT Try.prog 32 = some false := by kernel_rfl
@[simp] theorem T_el32 : elT Try.prog 32 = none := by kernel_rfl
@[simp] theorem T_ar32 : arrT Try.prog 32 = none := by kernel_rfl
@[simp] theorem T_in32 : intT Try.prog 32 = some .i64 := by kernel_rfl
@[simp] theorem T_bo32 : boolT Try.prog 32 = false := by kernel_rfl
@[simp] theorem T_bt32 : byteT Try.prog 32 = false := by kernel_rfl
@[simp] theorem T_by32 : byT Try.prog 32 = 8 := by kernel_rfl
@[simp] theorem T_z32 : zT Try.prog 32 = some [.int .i64 0] := by kernel_rfl
@[simp] theorem T_sz34 : szT Try.prog 34 = 1 := by kernel_rfl
@[simp] theorem T_ag34 : aggT Try.prog 34 = some false := by kernel_rfl
@[simp] theorem T_sz35 : szT Try.prog 35 = 1 := by kernel_rfl
@[simp] theorem T_ag35 : aggT Try.prog 35 = some false := by kernel_rfl
@[simp] theorem T_sz36 : szT Try.prog 36 = 1 := by kernel_rfl
@[simp] theorem T_ag36 : aggT Try.prog 36 = some false := by kernel_rfl
@[simp] theorem T_sz37 : szT Try.prog 37 = 1 := by kernel_rfl
@[simp] theorem T_ag37 : aggT Try.prog 37 = some false := by kernel_rfl
@[simp] theorem T_sz38 : szT Try.prog 38 = 1 := by kernel_rfl
@[simp] theorem T_ag38 : aggT Try.prog 38 = some false := by kernel_rfl
@[simp] theorem T_sz39 : szT Try.prog 39 = 1 := by kernel_rfl
@[simp] theorem T_ag39 : aggT Try.prog 39 = some false := by kernel_rfl
@[simp] theorem T_sz40 : szT Try.prog 40 = 1 := by kernel_rfl
@[simp] theorem T_ag40 : aggT Try.prog 40 = some false := by kernel_rfl
@[simp] theorem T_sz41 : szT Try.prog 41 = 1 := by kernel_rfl
@[simp] theorem T_ag41 : aggT Try.prog 41 = some false := by kernel_rfl
@[simp] theorem T_sz42 : szT Try.prog 42 = 1 := by kernel_rfl
@[simp] theorem T_ag42 : aggT Try.prog 42 = some false := by kernel_rfl
@[simp] theorem T_el42 : elT Try.prog 42 = some 45 := by kernel_rfl
@[simp] theorem T_ar42 : arrT Try.prog 42 = none := by kernel_rfl
@[simp] theorem T_st42 : strT Try.prog 42 = false := by kernel_rfl
@[simp] theorem T_by42 : byT Try.prog 42 = 24 := by kernel_rfl
@[simp] theorem T_z42 : zT Try.prog 42 = some [.slice 4 true []] := by kernel_rfl
@[simp] theorem T_sz43 : szT Try.prog 43 = 1 := by kernel_rfl
@[simp] theorem T_ag43 : aggT Try.prog 43 = some false := by kernel_rfl
@[simp] theorem T_sz44 : szT Try.prog 44 = 4 := by kernel_rfl
@[simp] theorem T_ag44 : aggT Try.prog 44 = some true := by kernel_rfl
@[simp] theorem T_el44 : elT Try.prog 44 = none := by kernel_rfl
@[simp] theorem T_ar44 : arrT Try.prog 44 = none := by kernel_rfl
@[simp] theorem T_by44 : byT Try.prog 44 = 32 := by kernel_rfl
@[simp] theorem T_f44_0 : fldT Try.prog 44 0 = some (0, 4) := by kernel_rfl
@[simp] theorem T_f44_1 : fldT Try.prog 44 1 = some (1, 29) := by kernel_rfl
@[simp] theorem T_if44 : infoAll Try.prog 44 = true := by kernel_rfl
@[simp] theorem T_z44 : zT Try.prog 44 = some [.bool false, .int .i64 0, .int .i64 0, .int .i64 0] := by kernel_rfl
@[simp] theorem T_sz45 : szT Try.prog 45 = 4 := by kernel_rfl
@[simp] theorem T_ag45 : aggT Try.prog 45 = some true := by kernel_rfl
@[simp] theorem T_el45 : elT Try.prog 45 = none := by kernel_rfl
@[simp] theorem T_ar45 : arrT Try.prog 45 = none := by kernel_rfl
@[simp] theorem T_by45 : byT Try.prog 45 = 32 := by kernel_rfl
@[simp] theorem T_f45_0 : fldT Try.prog 45 0 = some (0, 4) := by kernel_rfl
@[simp] theorem T_f45_1 : fldT Try.prog 45 1 = some (1, 29) := by kernel_rfl
@[simp] theorem T_if45 : infoAll Try.prog 45 = true := by kernel_rfl
@[simp] theorem T_z45 : zT Try.prog 45 = some [.bool false, .int .i64 0, .int .i64 0, .int .i64 0] := by kernel_rfl
@[simp] theorem T_sz47 : szT Try.prog 47 = 1 := by kernel_rfl
@[simp] theorem T_ag47 : aggT Try.prog 47 = some false := by kernel_rfl
@[simp] theorem T_sz48 : szT Try.prog 48 = 1 := by kernel_rfl
@[simp] theorem T_ag48 : aggT Try.prog 48 = some false := by kernel_rfl
@[simp] theorem T_sz49 : szT Try.prog 49 = 1 := by kernel_rfl
@[simp] theorem T_ag49 : aggT Try.prog 49 = some false := by kernel_rfl
@[simp] theorem T_sz50 : szT Try.prog 50 = 1 := by kernel_rfl
@[simp] theorem T_ag50 : aggT Try.prog 50 = some false := by kernel_rfl
@[simp] theorem T_sz51 : szT Try.prog 51 = 1 := by kernel_rfl
@[simp] theorem T_ag51 : aggT Try.prog 51 = some false := by kernel_rfl
@[simp] theorem T_sz52 : szT Try.prog 52 = 1 := by kernel_rfl
@[simp] theorem T_ag52 : aggT Try.prog 52 = some false := by kernel_rfl
@[simp] theorem T_sz53 : szT Try.prog 53 = 1 := by kernel_rfl
@[simp] theorem T_ag53 : aggT Try.prog 53 = some false := by kernel_rfl
@[simp] theorem T_sz54 : szT Try.prog 54 = 1 := by kernel_rfl
@[simp] theorem T_ag54 : aggT Try.prog 54 = some false := by kernel_rfl
@[simp] theorem T_sz55 : szT Try.prog 55 = 1 := by kernel_rfl
@[simp] theorem T_ag55 : aggT Try.prog 55 = some false := by kernel_rfl
@[simp] theorem T_sz56 : szT Try.prog 56 = 1 := by kernel_rfl
@[simp] theorem T_ag56 : aggT Try.prog 56 = some false := by kernel_rfl
@[simp] theorem T_sz57 : szT Try.prog 57 = 1 := by kernel_rfl
@[simp] theorem T_ag57 : aggT Try.prog 57 = some false := by kernel_rfl
@[simp] theorem T_sz58 : szT Try.prog 58 = 1 := by kernel_rfl
@[simp] theorem T_ag58 : aggT Try.prog 58 = some false := by kernel_rfl
@[simp] theorem T_sz59 : szT Try.prog 59 = 1 := by kernel_rfl
@[simp] theorem T_ag59 : aggT Try.prog 59 = some false := by kernel_rfl
@[simp] theorem T_sz61 : szT Try.prog 61 = 1 := by kernel_rfl
@[simp] theorem T_ag61 : aggT Try.prog 61 = some false := by kernel_rfl
@[simp] theorem T_sz62 : szT Try.prog 62 = 1 := by kernel_rfl
@[simp] theorem T_ag62 : aggT Try.prog 62 = some false := by kernel_rfl
@[simp] theorem T_sz63 : szT Try.prog 63 = 1 := by kernel_rfl
@[simp] theorem T_ag63 : aggT Try.prog 63 = some false := by kernel_rfl
@[simp] theorem T_sz64 : szT Try.prog 64 = 1 := by kernel_rfl
@[simp] theorem T_ag64 : aggT Try.prog 64 = some false := by kernel_rfl
@[simp] theorem T_sz65 : szT Try.prog 65 = 1 := by kernel_rfl
@[simp] theorem T_ag65 : aggT Try.prog 65 = some false := by kernel_rfl
@[simp] theorem T_sz66 : szT Try.prog 66 = 1 := by kernel_rfl
@[simp] theorem T_ag66 : aggT Try.prog 66 = some false := by kernel_rfl
@[simp] theorem T_sz67 : szT Try.prog 67 = 1 := by kernel_rfl
@[simp] theorem T_ag67 : aggT Try.prog 67 = some false := by kernel_rfl
@[simp] theorem T_sz68 : szT Try.prog 68 = 1 := by kernel_rfl
@[simp] theorem T_ag68 : aggT Try.prog 68 = some false := by kernel_rfl
@[simp] theorem T_sz69 : szT Try.prog 69 = 1 := by kernel_rfl
@[simp] theorem T_ag69 : aggT Try.prog 69 = some false := by kernel_rfl
@[simp] theorem T_sz70 : szT Try.prog 70 = 1 := by kernel_rfl
@[simp] theorem T_ag70 : aggT Try.prog 70 = some false := by kernel_rfl
@[simp] theorem T_sz71 : szT Try.prog 71 = 1 := by kernel_rfl
@[simp] theorem T_ag71 : aggT Try.prog 71 = some false := by kernel_rfl
@[simp] theorem T_sz72 : szT Try.prog 72 = 1 := by kernel_rfl
@[simp] theorem T_ag72 : aggT Try.prog 72 = some false := by kernel_rfl
@[simp] theorem T_mp73 : mapT Try.prog 73 = some (3, 3) := by kernel_rfl
@[simp] theorem T_sz73 : szT Try.prog 73 = 1 := by kernel_rfl
@[simp] theorem T_ag73 : aggT Try.prog 73 = some false := by kernel_rfl
@[simp] theorem T_sz74 : szT Try.prog 74 = 1 := by kernel_rfl
@[simp] theorem T_ag74 : aggT Try.prog 74 = some false := by kernel_rfl
@[simp] theorem T_sz75 : szT Try.prog 75 = 1 := by kernel_rfl
@[simp] theorem T_ag75 : aggT Try.prog 75 = some false := by kernel_rfl
@[simp] theorem T_sz76 : szT Try.prog 76 = 1 := by kernel_rfl
@[simp] theorem T_ag76 : aggT Try.prog 76 = some false := by kernel_rfl
@[simp] theorem T_sz77 : szT Try.prog 77 = 1 := by kernel_rfl
@[simp] theorem T_ag77 : aggT Try.prog 77 = some false := by kernel_rfl
@[simp] theorem T_sz78 : szT Try.prog 78 = 1 := by kernel_rfl
@[simp] theorem T_ag78 : aggT Try.prog 78 = some false := by kernel_rfl
@[simp] theorem T_sz79 : szT Try.prog 79 = 1 := by kernel_rfl
@[simp] theorem T_ag79 : aggT Try.prog 79 = some false := by kernel_rfl
@[simp] theorem T_sz80 : szT Try.prog 80 = 1 := by kernel_rfl
@[simp] theorem T_ag80 : aggT Try.prog 80 = some false := by kernel_rfl
@[simp] theorem T_sz81 : szT Try.prog 81 = 1 := by kernel_rfl
@[simp] theorem T_ag81 : aggT Try.prog 81 = some false := by kernel_rfl
@[simp] theorem T_sz82 : szT Try.prog 82 = 1 := by kernel_rfl
@[simp] theorem T_ag82 : aggT Try.prog 82 = some false := by kernel_rfl
@[simp] theorem T_el82 : elT Try.prog 82 = none := by kernel_rfl
@[simp] theorem T_ar82 : arrT Try.prog 82 = none := by kernel_rfl
@[simp] theorem T_in82 : intT Try.prog 82 = some .u64 := by kernel_rfl
@[simp] theorem T_bo82 : boolT Try.prog 82 = false := by kernel_rfl
@[simp] theorem T_bt82 : byteT Try.prog 82 = false := by kernel_rfl
@[simp] theorem T_by82 : byT Try.prog 82 = 8 := by kernel_rfl
@[simp] theorem T_z82 : zT Try.prog 82 = some [.int .u64 0] := by kernel_rfl
@[simp] theorem T_sz83 : szT Try.prog 83 = 1 := by kernel_rfl
@[simp] theorem T_ag83 : aggT Try.prog 83 = some false := by kernel_rfl
@[simp] theorem T_sz84 : szT Try.prog 84 = 1 := by kernel_rfl
@[simp] theorem T_ag84 : aggT Try.prog 84 = some false := by kernel_rfl
@[simp] theorem T_sz85 : szT Try.prog 85 = 1 := by kernel_rfl
@[simp] theorem T_ag85 : aggT Try.prog 85 = some false := by kernel_rfl
@[simp] theorem T_sz86 : szT Try.prog 86 = 1 := by kernel_rfl
@[simp] theorem T_ag86 : aggT Try.prog 86 = some false := by kernel_rfl
@[simp] theorem T_sz87 : szT Try.prog 87 = 1 := by kernel_rfl
@[simp] theorem T_ag87 : aggT Try.prog 87 = some false := by kernel_rfl
@[simp] theorem T_mp88 : mapT Try.prog 88 = some (3, 4) := by kernel_rfl
@[simp] theorem T_sz88 : szT Try.prog 88 = 1 := by kernel_rfl
@[simp] theorem T_ag88 : aggT Try.prog 88 = some false := by kernel_rfl
@[simp] theorem T_sz89 : szT Try.prog 89 = 1 := by kernel_rfl
@[simp] theorem T_ag89 : aggT Try.prog 89 = some false := by kernel_rfl
@[simp] theorem T_sz90 : szT Try.prog 90 = 1 := by kernel_rfl
@[simp] theorem T_ag90 : aggT Try.prog 90 = some false := by kernel_rfl
@[simp] theorem T_sz91 : szT Try.prog 91 = 1 := by kernel_rfl
@[simp] theorem T_ag91 : aggT Try.prog 91 = some false := by kernel_rfl
@[simp] theorem T_sz92 : szT Try.prog 92 = 1 := by kernel_rfl
@[simp] theorem T_ag92 : aggT Try.prog 92 = some false := by kernel_rfl
@[simp] theorem T_sz93 : szT Try.prog 93 = 1 := by kernel_rfl
@[simp] theorem T_ag93 : aggT Try.prog 93 = some false := by kernel_rfl
@[simp] theorem T_sz94 : szT Try.prog 94 = 1 := by kernel_rfl
@[simp] theorem T_ag94 : aggT Try.prog 94 = some false := by kernel_rfl
@[simp] theorem T_sz95 : szT Try.prog 95 = 1 := by kernel_rfl
@[simp] theorem T_ag95 : aggT Try.prog 95 = some false := by kernel_rfl
@[simp] theorem T_sz96 : szT Try.prog 96 = 1 := by kernel_rfl
@[simp] theorem T_ag96 : aggT Try.prog 96 = some false := by kernel_rfl
@[simp] theorem T_sz97 : szT Try.prog 97 = 1 := by kernel_rfl
@[simp] theorem T_ag97 : aggT Try.prog 97 = some false := by kernel_rfl
@[simp] theorem T_sz98 : szT Try.prog 98 = 1 := by kernel_rfl
@[simp] theorem T_ag98 : aggT Try.prog 98 = some false := by kernel_rfl
@[simp] theorem T_el98 : elT Try.prog 98 = none := by kernel_rfl
@[simp] theorem T_ar98 : arrT Try.prog 98 = none := by kernel_rfl
@[simp] theorem T_in98 : intT Try.prog 98 = some .i64 := by kernel_rfl
@[simp] theorem T_bo98 : boolT Try.prog 98 = false := by kernel_rfl
@[simp] theorem T_bt98 : byteT Try.prog 98 = false := by kernel_rfl
@[simp] theorem T_by98 : byT Try.prog 98 = 8 := by kernel_rfl
@[simp] theorem T_z98 : zT Try.prog 98 = some [.int .i64 0] := by kernel_rfl
@[simp] theorem T_sz100 : szT Try.prog 100 = 1 := by kernel_rfl
@[simp] theorem T_ag100 : aggT Try.prog 100 = some false := by kernel_rfl
@[simp] theorem T_sz101 : szT Try.prog 101 = 1 := by kernel_rfl
@[simp] theorem T_ag101 : aggT Try.prog 101 = some false := by kernel_rfl
@[simp] theorem T_sz102 : szT Try.prog 102 = 1 := by kernel_rfl
@[simp] theorem T_ag102 : aggT Try.prog 102 = some false := by kernel_rfl
@[simp] theorem T_sz103 : szT Try.prog 103 = 1 := by kernel_rfl
@[simp] theorem T_ag103 : aggT Try.prog 103 = some false := by kernel_rfl
@[simp] theorem T_sz104 : szT Try.prog 104 = 1 := by kernel_rfl
@[simp] theorem T_ag104 : aggT Try.prog 104 = some false := by kernel_rfl
@[simp] theorem T_sz105 : szT Try.prog 105 = 1 := by kernel_rfl
@[simp] theorem T_ag105 : aggT Try.prog 105 = some false := by kernel_rfl
@[simp] theorem T_el105 : elT Try.prog 105 = none := by kernel_rfl
@[simp] theorem T_ar105 : arrT Try.prog 105 = none := by kernel_rfl
@[simp] theorem T_in105 : intT Try.prog 105 = some .u32 := by kernel_rfl
@[simp] theorem T_bo105 : boolT Try.prog 105 = false := by kernel_rfl
@[simp] theorem T_bt105 : byteT Try.prog 105 = false := by kernel_rfl
@[simp] theorem T_by105 : byT Try.prog 105 = 4 := by kernel_rfl
@[simp] theorem T_z105 : zT Try.prog 105 = some [.int .u32 0] := by kernel_rfl
@[simp] theorem T_sz106 : szT Try.prog 106 = 1 := by kernel_rfl
@[simp] theorem T_ag106 : aggT Try.prog 106 = some false := by kernel_rfl
@[simp] theorem T_sz107 : szT Try.prog 107 = 1 := by kernel_rfl
@[simp] theorem T_ag107 : aggT Try.prog 107 = some false := by kernel_rfl
@[simp] theorem T_el107 : elT Try.prog 107 = none := by kernel_rfl
@[simp] theorem T_ar107 : arrT Try.prog 107 = none := by kernel_rfl
@[simp] theorem T_in107 : intT Try.prog 107 = some .u64 := by kernel_rfl
@[simp] theorem T_bo107 : boolT Try.prog 107 = false := by kernel_rfl
@[simp] theorem T_bt107 : byteT Try.prog 107 = false := by kernel_rfl
@[simp] theorem T_by107 : byT Try.prog 107 = 8 := by kernel_rfl
@[simp] theorem T_z107 : zT Try.prog 107 = some [.int .u64 0] := by kernel_rfl
@[simp] theorem T_sz108 : szT Try.prog 108 = 1 := by kernel_rfl
@[simp] theorem T_ag108 : aggT Try.prog 108 = some false := by kernel_rfl
@[simp] theorem T_sz109 : szT Try.prog 109 = 1 := by kernel_rfl
@[simp] theorem T_ag109 : aggT Try.prog 109 = some false := by kernel_rfl
@[simp] theorem T_sz110 : szT Try.prog 110 = 1 := by kernel_rfl
@[simp] theorem T_ag110 : aggT Try.prog 110 = some false := by kernel_rfl
@[simp] theorem T_sz111 : szT Try.prog 111 = 1 := by kernel_rfl
@[simp] theorem T_ag111 : aggT Try.prog 111 = some false := by kernel_rfl
@[simp] theorem T_el111 : elT Try.prog 111 = none := by kernel_rfl
@[simp] theorem T_ar111 : arrT Try.prog 111 = none := by kernel_rfl
@[simp] theorem T_in111 : intT Try.prog 111 = some .u64 := by kernel_rfl
@[simp] theorem T_bo111 : boolT Try.prog 111 = false := by kernel_rfl
@[simp] theorem T_bt111 : byteT Try.prog 111 = false := by kernel_rfl
@[simp] theorem T_by111 : byT Try.prog 111 = 8 := by kernel_rfl
@[simp] theorem T_z111 : zT Try.prog 111 = some [.int .u64 0] := by kernel_rfl
@[simp] theorem T_sz112 : szT Try.prog 112 = 1 := by kernel_rfl
@[simp] theorem T_ag112 : aggT Try.prog 112 = some false := by kernel_rfl
@[simp] theorem T_sz113 : szT Try.prog 113 = 1 := by kernel_rfl
@[simp] theorem T_ag113 : aggT Try.prog 113 = some false := by kernel_rfl
@[simp] theorem T_sz114 : szT Try.prog 114 = 1 := by kernel_rfl
@[simp] theorem T_ag114 : aggT Try.prog 114 = some false := by kernel_rfl
@[simp] theorem T_sz115 : szT Try.prog 115 = 1 := by kernel_rfl
@[simp] theorem T_ag115 : aggT Try.prog 115 = some false := by kernel_rfl
@[simp] theorem T_el115 : elT Try.prog 115 = none := by kernel_rfl
@[simp] theorem T_ar115 : arrT Try.prog 115 = none := by kernel_rfl
@[simp] theorem T_st115 : strT Try.prog 115 = false := by kernel_rfl
@[simp] theorem T_pt115 : ptrT Try.prog 115 = true := by kernel_rfl
@[simp] theorem T_by115 : byT Try.prog 115 = 8 := by kernel_rfl
@[simp] theorem T_z115 : zT Try.prog 115 = some [.nilptr] := by kernel_rfl
@[simp] theorem T_sz116 : szT Try.prog 116 = 1 := by kernel_rfl
@[simp] theorem T_ag116 : aggT Try.prog 116 = some false := by kernel_rfl
@[simp] theorem T_sz117 : szT Try.prog 117 = 1 := by kernel_rfl
@[simp] theorem T_ag117 : aggT Try.prog 117 = some false := by kernel_rfl
@[simp] theorem T_el117 : elT Try.prog 117 = none := by kernel_rfl
@[simp] theorem T_ar117 : arrT Try.prog 117 = none := by kernel_rfl
@[simp] theorem T_st117 : strT Try.prog 117 = false := by kernel_rfl
@[simp] theorem T_pt117 : ptrT Try.prog 117 = true := by kernel_rfl
@[simp] theorem T_by117 : byT Try.prog 117 = 8 := by kernel_rfl
@[simp] theorem T_z117 : zT Try.prog 117 = some [.nilptr] := by kernel_rfl
@[simp] theorem T_sz119 : szT Try.prog 119 = 1 := by kernel_rfl
@[simp] theorem T_ag119 : aggT Try.prog 119 = some false := by kernel_rfl
@[simp] theorem T_sz120 : szT Try.prog 120 = 1 := by kernel_rfl
@[simp] theorem T_ag120 : aggT Try.prog 120 = some false := by kernel_rfl
@[simp] theorem T_sz121 : szT Try.prog 121 = 4 := by kernel_rfl
@[simp] theorem T_ag121 : aggT Try.prog 121 = some true := by kernel_rfl
@[simp] theorem T_el121 : elT Try.prog 121 = none := by kernel_rfl
@[simp] theorem T_ar121 : arrT Try.prog 121 = none := by kernel_rfl
@[simp] theorem T_by121 : byT Try.prog 121 = 40 := by kernel_rfl
@[simp] theorem T_f121_0 : fldT Try.prog 121 0 = some (0, 17) := by kernel_rfl
@[simp] theorem T_f121_1 : fldT Try.prog 121 1 = some (1, 17) := by kernel_rfl
@[simp] theorem T_f121_2 : fldT Try.prog 121 2 = some (2, 17) := by kernel_rfl
@[simp] theorem T_f121_3 : fldT Try.prog 121 3 = some (3, 9) := by kernel_rfl
@[simp] theorem T_if121 : infoAll Try.prog 121 = true := by kernel_rfl
@[simp] theorem T_z121 : zT Try.prog 121 = some [.nilptr, .nilptr, .nilptr, .str ByteArray.empty] := by kernel_rfl
@[simp] theorem T_sz122 : szT Try.prog 122 = 4 := by kernel_rfl
@[simp] theorem T_ag122 : aggT Try.prog 122 = some true := by kernel_rfl
@[simp] theorem T_el122 : elT Try.prog 122 = none := by kernel_rfl
@[simp] theorem T_ar122 : arrT Try.prog 122 = none := by kernel_rfl
@[simp] theorem T_by122 : byT Try.prog 122 = 40 := by kernel_rfl
@[simp] theorem T_f122_0 : fldT Try.prog 122 0 = some (0, 17) := by kernel_rfl
@[simp] theorem T_f122_1 : fldT Try.prog 122 1 = some (1, 17) := by kernel_rfl
@[simp] theorem T_f122_2 : fldT Try.prog 122 2 = some (2, 17) := by kernel_rfl
@[simp] theorem T_f122_3 : fldT Try.prog 122 3 = some (3, 9) := by kernel_rfl
@[simp] theorem T_if122 : infoAll Try.prog 122 = true := by kernel_rfl
@[simp] theorem T_z122 : zT Try.prog 122 = some [.nilptr, .nilptr, .nilptr, .str ByteArray.empty] := by kernel_rfl
@[simp] theorem T_sz123 : szT Try.prog 123 = 0 := by kernel_rfl
@[simp] theorem T_ag123 : aggT Try.prog 123 = some true := by kernel_rfl
@[simp] theorem T_el123 : elT Try.prog 123 = none := by kernel_rfl
@[simp] theorem T_ar123 : arrT Try.prog 123 = some (0, 16) := by kernel_rfl
@[simp] theorem T_st123 : strT Try.prog 123 = false := by kernel_rfl
@[simp] theorem T_by123 : byT Try.prog 123 = 0 := by kernel_rfl
@[simp] theorem T_sz124 : szT Try.prog 124 = 0 := by kernel_rfl
@[simp] theorem T_ag124 : aggT Try.prog 124 = some true := by kernel_rfl
@[simp] theorem T_el124 : elT Try.prog 124 = none := by kernel_rfl
@[simp] theorem T_ar124 : arrT Try.prog 124 = none := by kernel_rfl
@[simp] theorem T_by124 : byT Try.prog 124 = 0 := by kernel_rfl
@[simp] theorem T_f124_0 : fldT Try.prog 124 0 = some (0, 123) := by kernel_rfl
@[simp] theorem T_if124 : infoAll Try.prog 124 = true := by kernel_rfl
@[simp] theorem T_sz125 : szT Try.prog 125 = 0 := by kernel_rfl
@[simp] theorem T_ag125 : aggT Try.prog 125 = some true := by kernel_rfl
@[simp] theorem T_el125 : elT Try.prog 125 = none := by kernel_rfl
@[simp] theorem T_ar125 : arrT Try.prog 125 = none := by kernel_rfl
@[simp] theorem T_by125 : byT Try.prog 125 = 0 := by kernel_rfl
@[simp] theorem T_f125_0 : fldT Try.prog 125 0 = some (0, 123) := by kernel_rfl
@[simp] theorem T_if125 : infoAll Try.prog 125 = true := by kernel_rfl
@[simp] theorem T_sz126 : szT Try.prog 126 = 1 := by kernel_rfl
@[simp] theorem T_ag126 : aggT Try.prog 126 = some false := by kernel_rfl
@[simp] theorem T_sz127 : szT Try.prog 127 = 1 := by kernel_rfl
@[simp] theorem T_ag127 : aggT Try.prog 127 = some false := by kernel_rfl
@[simp] theorem T_el127 : elT Try.prog 127 = none := by kernel_rfl
@[simp] theorem T_ar127 : arrT Try.prog 127 = none := by kernel_rfl
@[simp] theorem T_in127 : intT Try.prog 127 = some .u8 := by kernel_rfl
@[simp] theorem T_bo127 : boolT Try.prog 127 = false := by kernel_rfl
@[simp] theorem T_bt127 : byteT Try.prog 127 = true := by kernel_rfl
@[simp] theorem T_by127 : byT Try.prog 127 = 1 := by kernel_rfl
@[simp] theorem T_z127 : zT Try.prog 127 = some [.int .u8 0] := by kernel_rfl
@[simp] theorem T_sz128 : szT Try.prog 128 = 1 := by kernel_rfl
@[simp] theorem T_ag128 : aggT Try.prog 128 = some false := by kernel_rfl
@[simp] theorem T_el128 : elT Try.prog 128 = none := by kernel_rfl
@[simp] theorem T_ar128 : arrT Try.prog 128 = none := by kernel_rfl
@[simp] theorem T_in128 : intT Try.prog 128 = some .u8 := by kernel_rfl
@[simp] theorem T_bo128 : boolT Try.prog 128 = false := by kernel_rfl
@[simp] theorem T_bt128 : byteT Try.prog 128 = true := by kernel_rfl
@[simp] theorem T_by128 : byT Try.prog 128 = 1 := by kernel_rfl
@[simp] theorem T_z128 : zT Try.prog 128 = some [.int .u8 0] := by kernel_rfl
@[simp] theorem T_sz129 : szT Try.prog 129 = 1 := by kernel_rfl
@[simp] theorem T_ag129 : aggT Try.prog 129 = some false := by kernel_rfl
@[simp] theorem T_sz130 : szT Try.prog 130 = 1 := by kernel_rfl
@[simp] theorem T_ag130 : aggT Try.prog 130 = some false := by kernel_rfl
@[simp] theorem T_el130 : elT Try.prog 130 = none := by kernel_rfl
@[simp] theorem T_ar130 : arrT Try.prog 130 = none := by kernel_rfl
@[simp] theorem T_st130 : strT Try.prog 130 = false := by kernel_rfl
@[simp] theorem T_pt130 : ptrT Try.prog 130 = true := by kernel_rfl
@[simp] theorem T_by130 : byT Try.prog 130 = 8 := by kernel_rfl
@[simp] theorem T_z130 : zT Try.prog 130 = some [.nilptr] := by kernel_rfl
@[simp] theorem T_sz131 : szT Try.prog 131 = 1 := by kernel_rfl
@[simp] theorem T_ag131 : aggT Try.prog 131 = some false := by kernel_rfl
@[simp] theorem T_el131 : elT Try.prog 131 = none := by kernel_rfl
@[simp] theorem T_ar131 : arrT Try.prog 131 = none := by kernel_rfl
@[simp] theorem T_in131 : intT Try.prog 131 = some .i32 := by kernel_rfl
@[simp] theorem T_bo131 : boolT Try.prog 131 = false := by kernel_rfl
@[simp] theorem T_bt131 : byteT Try.prog 131 = false := by kernel_rfl
@[simp] theorem T_by131 : byT Try.prog 131 = 4 := by kernel_rfl
@[simp] theorem T_z131 : zT Try.prog 131 = some [.int .i32 0] := by kernel_rfl
@[simp] theorem T_sz132 : szT Try.prog 132 = 1 := by kernel_rfl
@[simp] theorem T_ag132 : aggT Try.prog 132 = some false := by kernel_rfl
@[simp] theorem T_el132 : elT Try.prog 132 = none := by kernel_rfl
@[simp] theorem T_ar132 : arrT Try.prog 132 = none := by kernel_rfl
@[simp] theorem T_in132 : intT Try.prog 132 = some .i32 := by kernel_rfl
@[simp] theorem T_bo132 : boolT Try.prog 132 = false := by kernel_rfl
@[simp] theorem T_bt132 : byteT Try.prog 132 = false := by kernel_rfl
@[simp] theorem T_by132 : byT Try.prog 132 = 4 := by kernel_rfl
@[simp] theorem T_z132 : zT Try.prog 132 = some [.int .i32 0] := by kernel_rfl
@[simp] theorem T_sz133 : szT Try.prog 133 = 11 := by kernel_rfl
@[simp] theorem T_ag133 : aggT Try.prog 133 = some true := by kernel_rfl
@[simp] theorem T_el133 : elT Try.prog 133 = none := by kernel_rfl
@[simp] theorem T_ar133 : arrT Try.prog 133 = none := by kernel_rfl
@[simp] theorem T_by133 : byT Try.prog 133 = 48 := by kernel_rfl
@[simp] theorem T_f133_0 : fldT Try.prog 133 0 = some (0, 12) := by kernel_rfl
@[simp] theorem T_f133_1 : fldT Try.prog 133 1 = some (1, 12) := by kernel_rfl
@[simp] theorem T_f133_2 : fldT Try.prog 133 2 = some (2, 105) := by kernel_rfl
@[simp] theorem T_f133_3 : fldT Try.prog 133 3 = some (3, 127) := by kernel_rfl
@[simp] theorem T_f133_4 : fldT Try.prog 133 4 = some (4, 5) := by kernel_rfl
@[simp] theorem T_f133_5 : fldT Try.prog 133 5 = some (5, 5) := by kernel_rfl
@[simp] theorem T_f133_6 : fldT Try.prog 133 6 = some (6, 128) := by kernel_rfl
@[simp] theorem T_f133_7 : fldT Try.prog 133 7 = some (7, 129) := by kernel_rfl
@[simp] theorem T_f133_8 : fldT Try.prog 133 8 = some (8, 130) := by kernel_rfl
@[simp] theorem T_f133_9 : fldT Try.prog 133 9 = some (9, 131) := by kernel_rfl
@[simp] theorem T_f133_10 : fldT Try.prog 133 10 = some (10, 132) := by kernel_rfl
@[simp] theorem T_if133 : infoAll Try.prog 133 = true := by kernel_rfl
@[simp] theorem T_sz134 : szT Try.prog 134 = 11 := by kernel_rfl
@[simp] theorem T_ag134 : aggT Try.prog 134 = some true := by kernel_rfl
@[simp] theorem T_el134 : elT Try.prog 134 = none := by kernel_rfl
@[simp] theorem T_ar134 : arrT Try.prog 134 = none := by kernel_rfl
@[simp] theorem T_by134 : byT Try.prog 134 = 48 := by kernel_rfl
@[simp] theorem T_f134_0 : fldT Try.prog 134 0 = some (0, 12) := by kernel_rfl
@[simp] theorem T_f134_1 : fldT Try.prog 134 1 = some (1, 12) := by kernel_rfl
@[simp] theorem T_f134_2 : fldT Try.prog 134 2 = some (2, 105) := by kernel_rfl
@[simp] theorem T_f134_3 : fldT Try.prog 134 3 = some (3, 127) := by kernel_rfl
@[simp] theorem T_f134_4 : fldT Try.prog 134 4 = some (4, 5) := by kernel_rfl
@[simp] theorem T_f134_5 : fldT Try.prog 134 5 = some (5, 5) := by kernel_rfl
@[simp] theorem T_f134_6 : fldT Try.prog 134 6 = some (6, 128) := by kernel_rfl
@[simp] theorem T_f134_7 : fldT Try.prog 134 7 = some (7, 129) := by kernel_rfl
@[simp] theorem T_f134_8 : fldT Try.prog 134 8 = some (8, 130) := by kernel_rfl
@[simp] theorem T_f134_9 : fldT Try.prog 134 9 = some (9, 131) := by kernel_rfl
@[simp] theorem T_f134_10 : fldT Try.prog 134 10 = some (10, 132) := by kernel_rfl
@[simp] theorem T_if134 : infoAll Try.prog 134 = true := by kernel_rfl

theorem mixed : Try.prog.follows .mixedOrders = true := by kernel_rfl

end Go.Proofs.Ytkhgjbjkjefeoaa


/-
  overlay: ids, orders, equal lists.
-/
namespace Go.Proofs.Ytkhgjbjkjefeoaa
open Go.RowKit
set_option linter.unusedSimpArgs false
set_option linter.unusedVariables false
set_option maxRecDepth 100000

theorem em2 (p : Prop) : (p = True) ∨ (p = False) := by
  by_cases h : p
  · exact .inl (eq_true h)
  · exact .inr (eq_false h)
def G0 : Nat → AV := fun _ => .undef
noncomputable def CE : Ctx := mkC Try.prog G0 []
@[simp] theorem CE_P : CE.P = Try.prog := rfl
theorem sigCE : SigOK CE := sigOK_nil _ _
theorem mixCE : CE.P.follows .mixedOrders = true := mixed
def IdOK (n : Int) : Prop := 1 ≤ n ∧ n ≤ 1000000
instance (n : Int) : Decidable (IdOK n) := inferInstanceAs (Decidable (_ ∧ _))
def sId : List AV → Option (Prop × AV) := spec1 (fun (_ : Int) => True) (fun n => .bool (decide (IdOK n)))
theorem idC : PureOK Try.prog G0 76 sId := by
  refine pure1 (C := CE) sigCE mixCE Try.func76 rfl rfl rfl (by kernel_rfl) (by decide) (fun n _ => ?_)
  by_cases h1 : 1 ≤ n
  · by_cases h2 : n ≤ 1000000
    · have h : IdOK n := ⟨h1, h2⟩
      simp [aev, gav, alook, litOf, litAV, mget, mhas, acopy, asrc, adst, cav, look, acallPure, abin, abinN, abinP, abinI, abinS, aun, aconv, afield, afieldAddr, aindexAddr, aindex, aslice, alow, ahigh, abuild, abuildGo, cellsOf, splice, fieldTy, alen, apick, amax, amin, aload, headV, aparts, abuildSlice, elParts, abytesStr, astore, amake, aappend, aclear, anew, arith, aresults, aresList, ares, spec0, spec1, spec2, spec3, spec4, eqCells, eqCell, h1, h2, h]
    · have h : ¬ IdOK n := fun h => h2 h.2
      simp [aev, gav, alook, litOf, litAV, mget, mhas, acopy, asrc, adst, cav, look, acallPure, abin, abinN, abinP, abinI, abinS, aun, aconv, afield, afieldAddr, aindexAddr, aindex, aslice, alow, ahigh, abuild, abuildGo, cellsOf, splice, fieldTy, alen, apick, amax, amin, aload, headV, aparts, abuildSlice, elParts, abytesStr, astore, amake, aappend, aclear, anew, arith, aresults, aresList, ares, spec0, spec1, spec2, spec3, spec4, eqCells, eqCell, h1, h2, h]
  · have h : ¬ IdOK n := fun h => h1 h.1
    simp [aev, gav, alook, litOf, litAV, mget, mhas, acopy, asrc, adst, cav, look, acallPure, abin, abinN, abinP, abinI, abinS, aun, aconv, afield, afieldAddr, aindexAddr, aindex, aslice, alow, ahigh, abuild, abuildGo, cellsOf, splice, fieldTy, alen, apick, amax, amin, aload, headV, aparts, abuildSlice, elParts, abytesStr, astore, amake, aappend, aclear, anew, arith, aresults, aresList, ares, spec0, spec1, spec2, spec3, spec4, eqCells, eqCell, h1, h]
theorem idO : PureOK Try.prog G0 57 sId := by
  refine pure1 (C := CE) sigCE mixCE Try.func57 rfl rfl rfl (by kernel_rfl) (by decide) (fun n _ => ?_)
  by_cases h1 : 1 ≤ n
  · by_cases h2 : n ≤ 1000000
    · have h : IdOK n := ⟨h1, h2⟩
      simp [aev, gav, alook, litOf, litAV, mget, mhas, acopy, asrc, adst, cav, look, acallPure, abin, abinN, abinP, abinI, abinS, aun, aconv, afield, afieldAddr, aindexAddr, aindex, aslice, alow, ahigh, abuild, abuildGo, cellsOf, splice, fieldTy, alen, apick, amax, amin, aload, headV, aparts, abuildSlice, elParts, abytesStr, astore, amake, aappend, aclear, anew, arith, aresults, aresList, ares, spec0, spec1, spec2, spec3, spec4, eqCells, eqCell, h1, h2, h]
    · have h : ¬ IdOK n := fun h => h2 h.2
      simp [aev, gav, alook, litOf, litAV, mget, mhas, acopy, asrc, adst, cav, look, acallPure, abin, abinN, abinP, abinI, abinS, aun, aconv, afield, afieldAddr, aindexAddr, aindex, aslice, alow, ahigh, abuild, abuildGo, cellsOf, splice, fieldTy, alen, apick, amax, amin, aload, headV, aparts, abuildSlice, elParts, abytesStr, astore, amake, aappend, aclear, anew, arith, aresults, aresList, ares, spec0, spec1, spec2, spec3, spec4, eqCells, eqCell, h1, h2, h]
  · have h : ¬ IdOK n := fun h => h1 h.1
    simp [aev, gav, alook, litOf, litAV, mget, mhas, acopy, asrc, adst, cav, look, acallPure, abin, abinN, abinP, abinI, abinS, aun, aconv, afield, afieldAddr, aindexAddr, aindex, aslice, alow, ahigh, abuild, abuildGo, cellsOf, splice, fieldTy, alen, apick, amax, amin, aload, headV, aparts, abuildSlice, elParts, abytesStr, astore, amake, aappend, aclear, anew, arith, aresults, aresList, ares, spec0, spec1, spec2, spec3, spec4, eqCells, eqCell, h1, h]
theorem idR : PureOK Try.prog G0 79 sId := by
  refine pure1 (C := CE) sigCE mixCE Try.func79 rfl rfl rfl (by kernel_rfl) (by decide) (fun n _ => ?_)
  by_cases h1 : 1 ≤ n
  · by_cases h2 : n ≤ 1000000
    · have h : IdOK n := ⟨h1, h2⟩
      simp [aev, gav, alook, litOf, litAV, mget, mhas, acopy, asrc, adst, cav, look, acallPure, abin, abinN, abinP, abinI, abinS, aun, aconv, afield, afieldAddr, aindexAddr, aindex, aslice, alow, ahigh, abuild, abuildGo, cellsOf, splice, fieldTy, alen, apick, amax, amin, aload, headV, aparts, abuildSlice, elParts, abytesStr, astore, amake, aappend, aclear, anew, arith, aresults, aresList, ares, spec0, spec1, spec2, spec3, spec4, eqCells, eqCell, h1, h2, h]
    · have h : ¬ IdOK n := fun h => h2 h.2
      simp [aev, gav, alook, litOf, litAV, mget, mhas, acopy, asrc, adst, cav, look, acallPure, abin, abinN, abinP, abinI, abinS, aun, aconv, afield, afieldAddr, aindexAddr, aindex, aslice, alow, ahigh, abuild, abuildGo, cellsOf, splice, fieldTy, alen, apick, amax, amin, aload, headV, aparts, abuildSlice, elParts, abytesStr, astore, amake, aappend, aclear, anew, arith, aresults, aresList, ares, spec0, spec1, spec2, spec3, spec4, eqCells, eqCell, h1, h2, h]
  · have h : ¬ IdOK n := fun h => h1 h.1
    simp [aev, gav, alook, litOf, litAV, mget, mhas, acopy, asrc, adst, cav, look, acallPure, abin, abinN, abinP, abinI, abinS, aun, aconv, afield, afieldAddr, aindexAddr, aindex, aslice, alow, ahigh, abuild, abuildGo, cellsOf, splice, fieldTy, alen, apick, amax, amin, aload, headV, aparts, abuildSlice, elParts, abytesStr, astore, amake, aappend, aclear, anew, arith, aresults, aresList, ares, spec0, spec1, spec2, spec3, spec4, eqCells, eqCell, h1, h]
theorem idS : PureOK Try.prog G0 41 sId := by
  refine pure1 (C := CE) sigCE mixCE Try.func41 rfl rfl rfl (by kernel_rfl) (by decide) (fun n _ => ?_)
  by_cases h1 : 1 ≤ n
  · by_cases h2 : n ≤ 1000000
    · have h : IdOK n := ⟨h1, h2⟩
      simp [aev, gav, alook, litOf, litAV, mget, mhas, acopy, asrc, adst, cav, look, acallPure, abin, abinN, abinP, abinI, abinS, aun, aconv, afield, afieldAddr, aindexAddr, aindex, aslice, alow, ahigh, abuild, abuildGo, cellsOf, splice, fieldTy, alen, apick, amax, amin, aload, headV, aparts, abuildSlice, elParts, abytesStr, astore, amake, aappend, aclear, anew, arith, aresults, aresList, ares, spec0, spec1, spec2, spec3, spec4, eqCells, eqCell, h1, h2, h]
    · have h : ¬ IdOK n := fun h => h2 h.2
      simp [aev, gav, alook, litOf, litAV, mget, mhas, acopy, asrc, adst, cav, look, acallPure, abin, abinN, abinP, abinI, abinS, aun, aconv, afield, afieldAddr, aindexAddr, aindex, aslice, alow, ahigh, abuild, abuildGo, cellsOf, splice, fieldTy, alen, apick, amax, amin, aload, headV, aparts, abuildSlice, elParts, abytesStr, astore, amake, aappend, aclear, anew, arith, aresults, aresList, ares, spec0, spec1, spec2, spec3, spec4, eqCells, eqCell, h1, h2, h]
  · have h : ¬ IdOK n := fun h => h1 h.1
    simp [aev, gav, alook, litOf, litAV, mget, mhas, acopy, asrc, adst, cav, look, acallPure, abin, abinN, abinP, abinI, abinS, aun, aconv, afield, afieldAddr, aindexAddr, aindex, aslice, alow, ahigh, abuild, abuildGo, cellsOf, splice, fieldTy, alen, apick, amax, amin, aload, headV, aparts, abuildSlice, elParts, abytesStr, astore, amake, aappend, aclear, anew, arith, aresults, aresList, ares, spec0, spec1, spec2, spec3, spec4, eqCells, eqCell, h1, h]
theorem nanC : PureOK Try.prog G0 87 (spec1 (fun _ : Int => True) (fun _ => .bool false)) := by
  refine pure1 (C := CE) sigCE mixCE Try.func87 rfl rfl rfl (by kernel_rfl) (by decide) (fun a _ => ?_)
  simp [aev, gav, alook, litOf, litAV, mget, mhas, acopy, asrc, adst, cav, look, acallPure, abin, abinN, abinP, abinI, abinS, aun, aconv, afield, afieldAddr, aindexAddr, aindex, aslice, alow, ahigh, abuild, abuildGo, cellsOf, splice, fieldTy, alen, apick, amax, amin, aload, headV, aparts, abuildSlice, elParts, abytesStr, astore, amake, aappend, aclear, anew, arith, aresults, aresList, ares, spec0, spec1, spec2, spec3, spec4, eqCells, eqCell]
theorem nanS : PureOK Try.prog G0 72 (spec1 (fun _ : Int => True) (fun _ => .bool false)) := by
  refine pure1 (C := CE) sigCE mixCE Try.func72 rfl rfl rfl (by kernel_rfl) (by decide) (fun a _ => ?_)
  simp [aev, gav, alook, litOf, litAV, mget, mhas, acopy, asrc, adst, cav, look, acallPure, abin, abinN, abinP, abinI, abinS, aun, aconv, afield, afieldAddr, aindexAddr, aindex, aslice, alow, ahigh, abuild, abuildGo, cellsOf, splice, fieldTy, alen, apick, amax, amin, aload, headV, aparts, abuildSlice, elParts, abytesStr, astore, amake, aappend, aclear, anew, arith, aresults, aresList, ares, spec0, spec1, spec2, spec3, spec4, eqCells, eqCell]
def sNan : List AV → Option (Prop × AV) := spec1 (fun _ : Int => True) (fun _ => .bool false)
def cmpI (x y : Int) : Int := if x < y then -1 else if x > y then 1 else 0
def sCmpI : List AV → Option (Prop × AV) := spec2 (fun (_ _ : Int) => True) (fun x y => .int .i64 (cmpI x y))
noncomputable def CNa : Ctx := mkC Try.prog G0 [(87, .pure sNan)]
@[simp] theorem CNa_P : CNa.P = Try.prog := rfl
@[simp] theorem CNa_G : CNa.G = G0 := rfl
@[simp] theorem CNa_1 : CNa.S 87 = .pure sNan := rfl
theorem mixCNa : CNa.P.follows .mixedOrders = true := mixed
theorem sigCNa : SigOK CNa := sigOK_cons (entryPure (nanC) Try.func87 rfl (by decide)) (sigOK_nil _ _)
theorem cmpP : PureOK Try.prog G0 67 sCmpI := by
  refine pure2 (C := CNa) sigCNa mixCNa Try.func67 rfl rfl rfl (by kernel_rfl) (by decide) (fun x y _ => ?_)
  by_cases h1 : x < y
  · simp [aev, gav, alook, litOf, litAV, mget, mhas, acopy, asrc, adst, cav, look, acallPure, abin, abinN, abinP, abinI, abinS, aun, aconv, afield, afieldAddr, aindexAddr, aindex, aslice, alow, ahigh, abuild, abuildGo, cellsOf, splice, fieldTy, alen, apick, amax, amin, aload, headV, aparts, abuildSlice, elParts, abytesStr, astore, amake, aappend, aclear, anew, arith, aresults, aresList, ares, spec0, spec1, spec2, spec3, spec4, eqCells, eqCell, sNan, cmpI, h1]
  · by_cases h2 : y < x
    · simp [aev, gav, alook, litOf, litAV, mget, mhas, acopy, asrc, adst, cav, look, acallPure, abin, abinN, abinP, abinI, abinS, aun, aconv, afield, afieldAddr, aindexAddr, aindex, aslice, alow, ahigh, abuild, abuildGo, cellsOf, splice, fieldTy, alen, apick, amax, amin, aload, headV, aparts, abuildSlice, elParts, abytesStr, astore, amake, aappend, aclear, anew, arith, aresults, aresList, ares, spec0, spec1, spec2, spec3, spec4, eqCells, eqCell, sNan, cmpI, h1, h2]
    · simp [aev, gav, alook, litOf, litAV, mget, mhas, acopy, asrc, adst, cav, look, acallPure, abin, abinN, abinP, abinI, abinS, aun, aconv, afield, afieldAddr, aindexAddr, aindex, aslice, alow, ahigh, abuild, abuildGo, cellsOf, splice, fieldTy, alen, apick, amax, amin, aload, headV, aparts, abuildSlice, elParts, abytesStr, astore, amake, aappend, aclear, anew, arith, aresults, aresList, ares, spec0, spec1, spec2, spec3, spec4, eqCells, eqCell, sNan, cmpI, h1, h2]
theorem lessP : PureOK Try.prog G0 71 (spec2 (fun (_ _ : Int) => True) (fun x y => .bool (decide (x < y)))) := by
  refine pure2 (C := CNa) sigCNa mixCNa Try.func71 rfl rfl rfl (by kernel_rfl) (by decide) (fun x y _ => ?_)
  simp [aev, gav, alook, litOf, litAV, mget, mhas, acopy, asrc, adst, cav, look, acallPure, abin, abinN, abinP, abinI, abinS, aun, aconv, afield, afieldAddr, aindexAddr, aindex, aslice, alow, ahigh, abuild, abuildGo, cellsOf, splice, fieldTy, alen, apick, amax, amin, aload, headV, aparts, abuildSlice, elParts, abytesStr, astore, amake, aappend, aclear, anew, arith, aresults, aresList, ares, spec0, spec1, spec2, spec3, spec4, eqCells, eqCell, sNan]
def sLess : List AV → Option (Prop × AV) := spec2 (fun (_ _ : Int) => True) (fun x y => .bool (decide (x < y)))
def or3 (x y z : Int) : Int := if x ≠ 0 then x else if y ≠ 0 then y else z
/-- cmp.Or of three. -/
def sOr : List AV → Option (Prop × AV) := spec1 (fun (l : List Int) => l.length = 3) (fun l => .int .i64 (or3 (ix l 0) (ix l 1) (ix l 2)))
set_option maxHeartbeats 4000000 in
theorem orP : PureOK Try.prog G0 66 sOr := by
  refine pure1 (C := CE) sigCE mixCE Try.func66 rfl rfl rfl (by kernel_rfl) (by decide) (fun l hl => ?_)
  obtain ⟨r, hr⟩ : ∃ r, or3 (ix l 0) (ix l 1) (ix l 2) = r := ⟨_, rfl⟩
  rw [hr]
  simp [aev, gav, alook, litOf, litAV, mget, mhas, acopy, asrc, adst, cav, look, acallPure, abin, abinN, abinP, abinI, abinS, aun, aconv, afield, afieldAddr, aindexAddr, aindex, aslice, alow, ahigh, abuild, abuildGo, cellsOf, splice, fieldTy, alen, apick, amax, amin, aload, headV, aparts, abuildSlice, elParts, abytesStr, astore, amake, aappend, aclear, anew, arith, aresults, aresList, ares, spec0, spec1, spec2, spec3, spec4, eqCells, eqCell, hl]
  refine loop_rule (C := CE) sigCE mixCE (fun q : Nat => ⟨[(3, .int .i64 0), (6, Enc.enc l), (7, .int .i64 3), (8, .int .i64 q)], []⟩) (fun q => q ≤ 3 ∧ (0 < q → ix l 0 = 0) ∧ (1 < q → ix l 1 = 0) ∧ (2 < q → ix l 2 = 0)) (fun q => 3 - q) (by kernel_rfl) ⟨0, by simp, weak_eq (by simp) rfl⟩ (fun k ⟨hk, h0, h1, h2⟩ => ?_)
  have hr' : r = if ix l 0 ≠ 0 then ix l 0 else if ix l 1 ≠ 0 then ix l 1 else ix l 2 := hr.symm
  match k, hk with
  | 0, _ =>
    have hlt : 0 < l.length := by omega
    have i1 : I64 1 := by unfold I64; omega
    by_cases h : ix l 0 = 0
    · simp [aev, gav, alook, litOf, litAV, mget, mhas, acopy, asrc, adst, cav, look, acallPure, abin, abinN, abinP, abinI, abinS, aun, aconv, afield, afieldAddr, aindexAddr, aindex, aslice, alow, ahigh, abuild, abuildGo, cellsOf, splice, fieldTy, alen, apick, amax, amin, aload, headV, aparts, abuildSlice, elParts, abytesStr, astore, amake, aappend, aclear, anew, arith, aresults, aresList, ares, spec0, spec1, spec2, spec3, spec4, eqCells, eqCell, rowAt_enc hlt, h, i1, hl]
      exact ⟨1, by simp [h], by omega, weak_eq (by simp) rfl⟩
    · rw [if_pos h] at hr'
      simp [aev, gav, alook, litOf, litAV, mget, mhas, acopy, asrc, adst, cav, look, acallPure, abin, abinN, abinP, abinI, abinS, aun, aconv, afield, afieldAddr, aindexAddr, aindex, aslice, alow, ahigh, abuild, abuildGo, cellsOf, splice, fieldTy, alen, apick, amax, amin, aload, headV, aparts, abuildSlice, elParts, abytesStr, astore, amake, aappend, aclear, anew, arith, aresults, aresList, ares, spec0, spec1, spec2, spec3, spec4, eqCells, eqCell, rowAt_enc hlt, h, hr', hl]
  | 1, _ =>
    have hlt : 1 < l.length := by omega
    have h0 := h0 (by omega)
    have i1 : I64 2 := by unfold I64; omega
    by_cases h : ix l 1 = 0
    · simp [aev, gav, alook, litOf, litAV, mget, mhas, acopy, asrc, adst, cav, look, acallPure, abin, abinN, abinP, abinI, abinS, aun, aconv, afield, afieldAddr, aindexAddr, aindex, aslice, alow, ahigh, abuild, abuildGo, cellsOf, splice, fieldTy, alen, apick, amax, amin, aload, headV, aparts, abuildSlice, elParts, abytesStr, astore, amake, aappend, aclear, anew, arith, aresults, aresList, ares, spec0, spec1, spec2, spec3, spec4, eqCells, eqCell, rowAt_enc hlt, h, i1, hl]
      exact ⟨2, by simp [h, h0], by omega, weak_eq (by simp) rfl⟩
    · rw [if_neg (by simp [h0]), if_pos h] at hr'
      simp [aev, gav, alook, litOf, litAV, mget, mhas, acopy, asrc, adst, cav, look, acallPure, abin, abinN, abinP, abinI, abinS, aun, aconv, afield, afieldAddr, aindexAddr, aindex, aslice, alow, ahigh, abuild, abuildGo, cellsOf, splice, fieldTy, alen, apick, amax, amin, aload, headV, aparts, abuildSlice, elParts, abytesStr, astore, amake, aappend, aclear, anew, arith, aresults, aresList, ares, spec0, spec1, spec2, spec3, spec4, eqCells, eqCell, rowAt_enc hlt, h, hr', hl]
  | 2, _ =>
    have hlt : 2 < l.length := by omega
    have h0 := h0 (by omega)
    have h1 := h1 (by omega)
    have i1 : I64 3 := by unfold I64; omega
    by_cases h : ix l 2 = 0
    · simp [aev, gav, alook, litOf, litAV, mget, mhas, acopy, asrc, adst, cav, look, acallPure, abin, abinN, abinP, abinI, abinS, aun, aconv, afield, afieldAddr, aindexAddr, aindex, aslice, alow, ahigh, abuild, abuildGo, cellsOf, splice, fieldTy, alen, apick, amax, amin, aload, headV, aparts, abuildSlice, elParts, abytesStr, astore, amake, aappend, aclear, anew, arith, aresults, aresList, ares, spec0, spec1, spec2, spec3, spec4, eqCells, eqCell, rowAt_enc hlt, h, i1, hl]
      exact ⟨3, by simp [h, h0, h1], by omega, weak_eq (by simp) rfl⟩
    · rw [if_neg (by simp [h0]), if_neg (by simp [h1])] at hr'
      simp [aev, gav, alook, litOf, litAV, mget, mhas, acopy, asrc, adst, cav, look, acallPure, abin, abinN, abinP, abinI, abinS, aun, aconv, afield, afieldAddr, aindexAddr, aindex, aslice, alow, ahigh, abuild, abuildGo, cellsOf, splice, fieldTy, alen, apick, amax, amin, aload, headV, aparts, abuildSlice, elParts, abytesStr, astore, amake, aappend, aclear, anew, arith, aresults, aresList, ares, spec0, spec1, spec2, spec3, spec4, eqCells, eqCell, rowAt_enc hlt, h, hr', hl]
  | 3, _ =>
    have h0 := h0 (by omega)
    have h1 := h1 (by omega)
    have h2 := h2 (by omega)
    rw [if_neg (by simp [h0]), if_neg (by simp [h1])] at hr'
    simp [aev, gav, alook, litOf, litAV, mget, mhas, acopy, asrc, adst, cav, look, acallPure, abin, abinN, abinP, abinI, abinS, aun, aconv, afield, afieldAddr, aindexAddr, aindex, aslice, alow, ahigh, abuild, abuildGo, cellsOf, splice, fieldTy, alen, apick, amax, amin, aload, headV, aparts, abuildSlice, elParts, abytesStr, astore, amake, aappend, aclear, anew, arith, aresults, aresList, ares, spec0, spec1, spec2, spec3, spec4, eqCells, eqCell, hr', h2]
def cmpA (a b : Adj) : Int := or3 (cmpI a.From b.From) (cmpI a.To b.To) (cmpI a.Edge b.Edge)
def sOrder : List AV → Option (Prop × AV) := spec2 (fun (_ _ : Adj) => True) (fun a b => .int .i64 (cmpA a b))
noncomputable def COr : Ctx := mkC Try.prog G0 [(67, .pure sCmpI), (66, .pure sOr)]
@[simp] theorem COr_P : COr.P = Try.prog := rfl
@[simp] theorem COr_G : COr.G = G0 := rfl
@[simp] theorem COr_1 : COr.S 67 = .pure sCmpI := rfl
@[simp] theorem COr_2 : COr.S 66 = .pure sOr := rfl
theorem mixCOr : COr.P.follows .mixedOrders = true := mixed
theorem sigCOr : SigOK COr := sigOK_cons (entryPure (cmpP) Try.func67 rfl (by decide)) (sigOK_cons (entryPure (orP) Try.func66 rfl (by decide)) (sigOK_nil _ _))
set_option maxHeartbeats 4000000 in
theorem orderC : PureOK Try.prog G0 77 sOrder := by
  refine pureH2 (C := COr) sigCOr mixCOr Try.func77 rfl rfl rfl [1] (by kernel_rfl) (by decide) (fun a b _ => ?_)
  have e : ∀ x y z : Int, (Enc.dec (.slice 1 true [[.int .i64 x], [.int .i64 y], [.int .i64 z]]) : List Int) = [x, y, z] := fun _ _ _ => rfl
  simp [aev, gav, alook, litOf, litAV, mget, mhas, acopy, asrc, adst, cav, look, acallPure, abin, abinN, abinP, abinI, abinS, aun, aconv, afield, afieldAddr, aindexAddr, aindex, aslice, alow, ahigh, abuild, abuildGo, cellsOf, splice, fieldTy, alen, apick, amax, amin, aload, headV, aparts, abuildSlice, elParts, abytesStr, astore, amake, aappend, aclear, anew, arith, aresults, aresList, ares, spec0, spec1, spec2, spec3, spec4, eqCells, eqCell]
  refine AW_regionF sigCOr mixCOr [.pure, .read, .pure, .read, .read, .pure, .read, .pure, .read, .read, .pure, .read, .pure, .read, .read, .read, .read, .pure] [[],[0],[],[2],[2,3,0,1],[],[5],[],[7],[1,0,3,2,4,7,8,5,6],[],[10],[],[12],[6,5,8,7,4,2,3,0,1,9,12,13,10,11],[11,10,13,12,14,6,5,8,7,9,1,0,3,2,4],[4,2,3,0,1,9,7,8,5,6,14,12,13,10,11,15],[15,11,10,13,12,14,6,5,8,7,9,1,0,3,2,4,16]] (by kernel_rfl) (by kernel_rfl) (by kernel_rfl) (by kernel_rfl) ?_
  simp [aev, gav, alook, litOf, litAV, mget, mhas, acopy, asrc, adst, cav, look, acallPure, abin, abinN, abinP, abinI, abinS, aun, aconv, afield, afieldAddr, aindexAddr, aindex, aslice, alow, ahigh, abuild, abuildGo, cellsOf, splice, fieldTy, alen, apick, amax, amin, aload, headV, aparts, abuildSlice, elParts, abytesStr, astore, amake, aappend, aclear, anew, arith, aresults, aresList, ares, spec0, spec1, spec2, spec3, spec4, eqCells, eqCell, sCmpI, sOr, e]
  rfl
set_option maxHeartbeats 4000000 in
theorem orderO : PureOK Try.prog G0 39 sOrder := by
  refine pureH2 (C := COr) sigCOr mixCOr Try.func39 rfl rfl rfl [1] (by kernel_rfl) (by decide) (fun a b _ => ?_)
  have e : ∀ x y z : Int, (Enc.dec (.slice 1 true [[.int .i64 x], [.int .i64 y], [.int .i64 z]]) : List Int) = [x, y, z] := fun _ _ _ => rfl
  simp [aev, gav, alook, litOf, litAV, mget, mhas, acopy, asrc, adst, cav, look, acallPure, abin, abinN, abinP, abinI, abinS, aun, aconv, afield, afieldAddr, aindexAddr, aindex, aslice, alow, ahigh, abuild, abuildGo, cellsOf, splice, fieldTy, alen, apick, amax, amin, aload, headV, aparts, abuildSlice, elParts, abytesStr, astore, amake, aappend, aclear, anew, arith, aresults, aresList, ares, spec0, spec1, spec2, spec3, spec4, eqCells, eqCell]
  refine AW_regionF sigCOr mixCOr [.pure, .read, .pure, .read, .read, .pure, .read, .pure, .read, .read, .pure, .read, .pure, .read, .read, .read, .read, .pure] [[],[0],[],[2],[2,3,0,1],[],[5],[],[7],[1,0,3,2,4,7,8,5,6],[],[10],[],[12],[6,5,8,7,4,2,3,0,1,9,12,13,10,11],[11,10,13,12,14,6,5,8,7,9,1,0,3,2,4],[4,2,3,0,1,9,7,8,5,6,14,12,13,10,11,15],[15,11,10,13,12,14,6,5,8,7,9,1,0,3,2,4,16]] (by kernel_rfl) (by kernel_rfl) (by kernel_rfl) (by kernel_rfl) ?_
  simp [aev, gav, alook, litOf, litAV, mget, mhas, acopy, asrc, adst, cav, look, acallPure, abin, abinN, abinP, abinI, abinS, aun, aconv, afield, afieldAddr, aindexAddr, aindex, aslice, alow, ahigh, abuild, abuildGo, cellsOf, splice, fieldTy, alen, apick, amax, amin, aload, headV, aparts, abuildSlice, elParts, abytesStr, astore, amake, aappend, aclear, anew, arith, aresults, aresList, ares, spec0, spec1, spec2, spec3, spec4, eqCells, eqCell, sCmpI, sOr, e]
  rfl
end Go.Proofs.Ytkhgjbjkjefeoaa


/-
  overlay: equal lists, searches, closures.
-/
namespace Go.Proofs.Ytkhgjbjkjefeoaa
open Go.RowKit
set_option linter.unusedSimpArgs false
set_option linter.unusedVariables false
set_option maxRecDepth 100000

theorem adj_eq {a b : Adj} : a = b ↔ a.From = b.From ∧ a.To = b.To ∧ a.Edge = b.Edge := by
  constructor
  · rintro rfl; exact ⟨rfl, rfl, rfl⟩
  · obtain ⟨a1, a2, a3⟩ := a
    obtain ⟨b1, b2, b3⟩ := b
    rintro ⟨h1, h2, h3⟩
    simp only at h1 h2 h3
    subst h1 h2 h3; rfl
instance : DecidableEq Adj := fun a b => decidable_of_iff _ adj_eq.symm
theorem adj_beq (a b : Adj) : (decide (a.From = b.From) && (decide (a.To = b.To) && decide (a.Edge = b.Edge))) = decide (a = b) := by
  rw [Bool.eq_iff_iff]
  simp [adj_eq]
theorem mem_ix {α : Type} [Inhabited α] {l : List α} {x : α} (h : x ∈ l) : ∃ j, j < l.length ∧ ix l j = x := by
  obtain ⟨j, hj, rfl⟩ := List.getElem_of_mem h
  exact ⟨j, hj, ix_lt hj⟩
theorem list_eq_upto {α : Type} [Inhabited α] {a b : List α} (hl : a.length = b.length) {k : Nat} (h : ∀ j, j < k → ix a j = ix b j) (hk : a.length ≤ k) : a = b := by
  refine List.ext_getElem hl fun j h1 h2 => ?_
  have := h j (by omega)
  rwa [ix_lt h1, ix_lt h2] at this
/-- The first place where p holds, or -1. -/
def idxL {α : Type} (p : α → Bool) (l : List α) : Int := match l.findIdx? p with | some i => i | none => -1
theorem idx_at {α : Type} [Inhabited α] {p : α → Bool} {l : List α} {k : Nat} (hk : k < l.length) (hn : ∀ j, j < k → p (ix l j) = false) (hp : p (ix l k) = true) : idxL p l = k := by
  have : l.findIdx? p = some k := by
    rw [List.findIdx?_eq_some_iff_getElem]
    rw [ix_lt hk] at hp
    refine ⟨hk, hp, fun j hj => ?_⟩
    have := hn j hj
    rw [ix_lt (show j < l.length by omega)] at this
    simp [this]
  unfold idxL; rw [this]
theorem idx_none {α : Type} [Inhabited α] {p : α → Bool} {l : List α} (hn : ∀ j, j < l.length → p (ix l j) = false) : idxL p l = -1 := by
  have : l.findIdx? p = none := by
    rw [List.findIdx?_eq_none_iff]
    intro x hx
    obtain ⟨j, hj, rfl⟩ := mem_ix hx
    exact hn j hj
  unfold idxL; rw [this]
theorem idx_pos {α : Type} {p : α → Bool} {l : List α} : 0 ≤ idxL p l ↔ ∃ x ∈ l, p x = true := by
  unfold idxL
  cases h : l.findIdx? p with
  | none =>
    rw [List.findIdx?_eq_none_iff] at h
    simp only
    constructor
    · intro h; omega
    · rintro ⟨x, hx, hp⟩; rw [h x hx] at hp; cases hp
  | some i =>
    rw [List.findIdx?_eq_some_iff_getElem] at h
    obtain ⟨h1, h2, _⟩ := h
    simp only
    exact ⟨fun _ => ⟨_, List.getElem_mem h1, h2⟩, fun _ => by omega⟩
theorem idx_spec {α : Type} [Inhabited α] {p : α → Bool} {l : List α} (h : 0 ≤ idxL p l) : ∃ k : Nat, idxL p l = k ∧ k < l.length ∧ p (ix l k) = true ∧ ∀ j, j < k → p (ix l j) = false := by
  unfold idxL at h ⊢
  cases h1 : l.findIdx? p with
  | none => rw [h1] at h; simp at h
  | some i =>
    rw [List.findIdx?_eq_some_iff_getElem] at h1
    obtain ⟨h1, h2, h3⟩ := h1
    refine ⟨i, rfl, h1, by rw [ix_lt h1]; exact h2, fun j hj => ?_⟩
    have := h3 j hj
    rw [ix_lt (show j < l.length by omega)]
    simpa using this

def Len {α : Type} (l : List α) : Prop := l.length ≤ 1000000000
theorem len_i {α : Type} {l : List α} (h : Len l) {k : Nat} (hk : k ≤ l.length) : I64 ((k : Int) + 1) ∧ I64 (k : Int) := by unfold Len at h; constructor <;> (unfold I64; omega)
def sIdxI : List AV → Option (Prop × AV) := spec2 (fun (l : List Int) (_ : Int) => Len l) (fun l v => .int .i64 (idxL (fun x => decide (x = v)) l))
set_option maxHeartbeats 4000000 in
theorem idxI : PureOK Try.prog G0 34 sIdxI := by
  refine pureH2 (C := CE) sigCE mixCE Try.func34 rfl rfl rfl [] (by kernel_rfl) (by decide) (fun l v hl => ?_)
  obtain ⟨r, hr⟩ : ∃ r, idxL (fun x => decide (x = v)) l = r := ⟨_, rfl⟩
  rw [hr]
  simp [aev, gav, alook, litOf, litAV, mget, mhas, acopy, asrc, adst, cav, look, acallPure, abin, abinN, abinP, abinI, abinS, aun, aconv, afield, afieldAddr, aindexAddr, aindex, aslice, alow, ahigh, abuild, abuildGo, cellsOf, splice, fieldTy, alen, apick, amax, amin, aload, headV, aparts, abuildSlice, elParts, abytesStr, astore, amake, aappend, aclear, anew, arith, aresults, aresList, ares, spec0, spec1, spec2, spec3, spec4, eqCells, eqCell]
  refine loop_ruleH (C := CE) sigCE mixCE [] (fun q : Nat => ⟨[(0, Enc.enc l), (1, .int .i64 v), (7, .int .i64 l.length), (8, .int .i64 q)], []⟩) (fun q => q ≤ l.length ∧ ∀ j, j < q → decide (ix l j = v) = false) (fun q => l.length - q) (by kernel_rfl) ⟨0, ⟨by simp, fun j hj => by simp at hj⟩, weak_eq (by simp) rfl⟩ (fun k ⟨hk, hn⟩ => ?_)
  by_cases hlt : k < l.length
  · have i1 := (len_i hl hk).1
    by_cases h : v = ix l k
    · have := idx_at (p := fun x => decide (x = v)) hlt hn (by simp [h])
      have hrk : r = k := by rw [← hr, this]
      simp [aev, gav, alook, litOf, litAV, mget, mhas, acopy, asrc, adst, cav, look, acallPure, abin, abinN, abinP, abinI, abinS, aun, aconv, afield, afieldAddr, aindexAddr, aindex, aslice, alow, ahigh, abuild, abuildGo, cellsOf, splice, fieldTy, alen, apick, amax, amin, aload, headV, aparts, abuildSlice, elParts, abytesStr, astore, amake, aappend, aclear, anew, arith, aresults, aresList, ares, spec0, spec1, spec2, spec3, spec4, eqCells, eqCell, hlt, rowAt_enc hlt, h, hrk]
    · have h' : ¬ ix l k = v := fun e => h e.symm
      simp [aev, gav, alook, litOf, litAV, mget, mhas, acopy, asrc, adst, cav, look, acallPure, abin, abinN, abinP, abinI, abinS, aun, aconv, afield, afieldAddr, aindexAddr, aindex, aslice, alow, ahigh, abuild, abuildGo, cellsOf, splice, fieldTy, alen, apick, amax, amin, aload, headV, aparts, abuildSlice, elParts, abytesStr, astore, amake, aappend, aclear, anew, arith, aresults, aresList, ares, spec0, spec1, spec2, spec3, spec4, eqCells, eqCell, hlt, rowAt_enc hlt, h, i1]
      exact ⟨k + 1, ⟨by omega, fun j hj => by
        rcases Nat.lt_or_eq_of_le (Nat.le_of_lt_succ hj) with h1 | rfl
        · have := hn j h1; simpa using this
        · exact h'⟩, by omega, weak_eq (by simp) rfl⟩
  · have hrk : r = -1 := by rw [← hr]; exact idx_none fun j hj => hn j (by omega)
    simp [aev, gav, alook, litOf, litAV, mget, mhas, acopy, asrc, adst, cav, look, acallPure, abin, abinN, abinP, abinI, abinS, aun, aconv, afield, afieldAddr, aindexAddr, aindex, aslice, alow, ahigh, abuild, abuildGo, cellsOf, splice, fieldTy, alen, apick, amax, amin, aload, headV, aparts, abuildSlice, elParts, abytesStr, astore, amake, aappend, aclear, anew, arith, aresults, aresList, ares, spec0, spec1, spec2, spec3, spec4, eqCells, eqCell, hlt, hrk]
def sIdxA : List AV → Option (Prop × AV) := spec2 (fun (l : List Adj) (_ : Adj) => Len l) (fun l v => .int .i64 (idxL (fun x => decide (x = v)) l))
def AB (a : Adj) : Blk := ⟨29, 3, [[.int .i64 a.From, .int .i64 a.To, .int .i64 a.Edge]], true, true⟩
set_option maxHeartbeats 4000000 in
theorem idxA : PureOK Try.prog G0 64 sIdxA := by
  refine pureH2 (C := CE) sigCE mixCE Try.func64 rfl rfl rfl [4] (by kernel_rfl) (by decide) (fun l v hl => ?_)
  obtain ⟨r, hr⟩ : ∃ r, idxL (fun x => decide (x = v)) l = r := ⟨_, rfl⟩
  rw [hr]
  simp [aev, gav, alook, litOf, litAV, mget, mhas, acopy, asrc, adst, cav, look, acallPure, abin, abinN, abinP, abinI, abinS, aun, aconv, afield, afieldAddr, aindexAddr, aindex, aslice, alow, ahigh, abuild, abuildGo, cellsOf, splice, fieldTy, alen, apick, amax, amin, aload, headV, aparts, abuildSlice, elParts, abytesStr, astore, amake, aappend, aclear, anew, arith, aresults, aresList, ares, spec0, spec1, spec2, spec3, spec4, eqCells, eqCell]
  refine loop_ruleH (C := CE) sigCE mixCE [4] (fun q : Nat => ⟨[(0, Enc.enc l), (3, .ptr 0 1 3 0 0), (7, .int .i64 l.length), (8, .int .i64 q)], [AB v]⟩) (fun q => q ≤ l.length ∧ ∀ j, j < q → decide (ix l j = v) = false) (fun q => l.length - q) (by kernel_rfl) ⟨0, ⟨by simp, fun j hj => by simp at hj⟩, weak_eq (by simp) (by simp [AB])⟩ (fun k ⟨hk, hn⟩ => ?_)
  by_cases hlt : k < l.length
  · have i1 := (len_i hl hk).1
    simp [aev, gav, alook, litOf, litAV, mget, mhas, acopy, asrc, adst, cav, look, acallPure, abin, abinN, abinP, abinI, abinS, aun, aconv, afield, afieldAddr, aindexAddr, aindex, aslice, alow, ahigh, abuild, abuildGo, cellsOf, splice, fieldTy, alen, apick, amax, amin, aload, headV, aparts, abuildSlice, elParts, abytesStr, astore, amake, aappend, aclear, anew, arith, aresults, aresList, ares, spec0, spec1, spec2, spec3, spec4, eqCells, eqCell, AB, hlt]
    refine AW_regionF sigCE mixCE [.read, .pure, .pure, .pure, .read, .pure] [[],[],[],[2,1],[1,2,3],[3,2,1,4,0]] (by kernel_rfl) (by kernel_rfl) (by kernel_rfl) (by kernel_rfl) ?_
    by_cases h : v = ix l k
    · have := idx_at (p := fun x => decide (x = v)) hlt hn (by simp [h])
      have hrk : r = k := by rw [← hr, this]
      have h1 := adj_eq.1 h
      simp [aev, gav, alook, litOf, litAV, mget, mhas, acopy, asrc, adst, cav, look, acallPure, abin, abinN, abinP, abinI, abinS, aun, aconv, afield, afieldAddr, aindexAddr, aindex, aslice, alow, ahigh, abuild, abuildGo, cellsOf, splice, fieldTy, alen, apick, amax, amin, aload, headV, aparts, abuildSlice, elParts, abytesStr, astore, amake, aappend, aclear, anew, arith, aresults, aresList, ares, spec0, spec1, spec2, spec3, spec4, eqCells, eqCell, hlt, rowAt_enc hlt, h1.1, h1.2.1, h1.2.2, hrk]
    · have h' : ¬ ix l k = v := fun e => h e.symm
      have hf := adj_beq v (ix l k)
      rw [decide_eq_false h] at hf
      simp [aev, gav, alook, litOf, litAV, mget, mhas, acopy, asrc, adst, cav, look, acallPure, abin, abinN, abinP, abinI, abinS, aun, aconv, afield, afieldAddr, aindexAddr, aindex, aslice, alow, ahigh, abuild, abuildGo, cellsOf, splice, fieldTy, alen, apick, amax, amin, aload, headV, aparts, abuildSlice, elParts, abytesStr, astore, amake, aappend, aclear, anew, arith, aresults, aresList, ares, spec0, spec1, spec2, spec3, spec4, eqCells, eqCell, hlt, rowAt_enc hlt, i1, hf]
      exact ⟨k + 1, ⟨by omega, fun j hj => by
        rcases Nat.lt_or_eq_of_le (Nat.le_of_lt_succ hj) with h1 | rfl
        · have := hn j h1; simpa using this
        · exact h'⟩, by omega, weak_eq (by simp) (by simp [AB])⟩
  · have hrk : r = -1 := by rw [← hr]; exact idx_none fun j hj => hn j (by omega)
    simp [aev, gav, alook, litOf, litAV, mget, mhas, acopy, asrc, adst, cav, look, acallPure, abin, abinN, abinP, abinI, abinS, aun, aconv, afield, afieldAddr, aindexAddr, aindex, aslice, alow, ahigh, abuild, abuildGo, cellsOf, splice, fieldTy, alen, apick, amax, amin, aload, headV, aparts, abuildSlice, elParts, abytesStr, astore, amake, aappend, aclear, anew, arith, aresults, aresList, ares, spec0, spec1, spec2, spec3, spec4, eqCells, eqCell, hlt, hrk]
noncomputable def CCo : Ctx := mkC Try.prog G0 [(34, .pure sIdxI), (64, .pure sIdxA)]
@[simp] theorem CCo_P : CCo.P = Try.prog := rfl
@[simp] theorem CCo_G : CCo.G = G0 := rfl
@[simp] theorem CCo_1 : CCo.S 34 = .pure sIdxI := rfl
@[simp] theorem CCo_2 : CCo.S 64 = .pure sIdxA := rfl
theorem mixCCo : CCo.P.follows .mixedOrders = true := mixed
theorem sigCCo : SigOK CCo := sigOK_cons (entryPure (idxI) Try.func34 rfl (by decide)) (sigOK_cons (entryPure (idxA) Try.func64 rfl (by decide)) (sigOK_nil _ _))
def sHasI : List AV → Option (Prop × AV) := spec2 (fun (l : List Int) (_ : Int) => Len l) (fun l v => .bool (decide (v ∈ l)))
def sHasA : List AV → Option (Prop × AV) := spec2 (fun (l : List Adj) (_ : Adj) => Len l) (fun l v => .bool (decide (v ∈ l)))
theorem idx_mem {α : Type} [DecidableEq α] (l : List α) (v : α) : decide (0 ≤ idxL (fun x => decide (x = v)) l) = decide (v ∈ l) := by
  rw [decide_eq_decide, idx_pos]
  constructor
  · rintro ⟨x, hx, h⟩; rw [decide_eq_true_iff] at h; subst h; exact hx
  · intro h; exact ⟨v, h, by simp⟩
theorem conI : PureOK Try.prog G0 60 sHasI := by
  refine pure2 (C := CCo) sigCCo mixCCo Try.func60 rfl rfl rfl (by kernel_rfl) (by decide) (fun l v hl => ?_)
  simp [aev, gav, alook, litOf, litAV, mget, mhas, acopy, asrc, adst, cav, look, acallPure, abin, abinN, abinP, abinI, abinS, aun, aconv, afield, afieldAddr, aindexAddr, aindex, aslice, alow, ahigh, abuild, abuildGo, cellsOf, splice, fieldTy, alen, apick, amax, amin, aload, headV, aparts, abuildSlice, elParts, abytesStr, astore, amake, aappend, aclear, anew, arith, aresults, aresList, ares, spec0, spec1, spec2, spec3, spec4, eqCells, eqCell, sIdxI, hl, idx_mem]
theorem conA : PureOK Try.prog G0 35 sHasA := by
  refine pure2 (C := CCo) sigCCo mixCCo Try.func35 rfl rfl rfl (by kernel_rfl) (by decide) (fun l v hl => ?_)
  simp [aev, gav, alook, litOf, litAV, mget, mhas, acopy, asrc, adst, cav, look, acallPure, abin, abinN, abinP, abinI, abinS, aun, aconv, afield, afieldAddr, aindexAddr, aindex, aslice, alow, ahigh, abuild, abuildGo, cellsOf, splice, fieldTy, alen, apick, amax, amin, aload, headV, aparts, abuildSlice, elParts, abytesStr, astore, amake, aappend, aclear, anew, arith, aresults, aresList, ares, spec0, spec1, spec2, spec3, spec4, eqCells, eqCell, sIdxA, hl]
  exact decide_eq_decide.1 (idx_mem l v)
set_option maxHeartbeats 4000000 in
theorem hasR : PureOK Try.prog G0 70 sHasI := by
  refine pureH2 (C := CE) sigCE mixCE Try.func70 rfl rfl rfl [] (by kernel_rfl) (by decide) (fun l v hl => ?_)
  obtain ⟨r, hr⟩ : ∃ r, decide (v ∈ l) = r := ⟨_, rfl⟩
  rw [hr]
  simp [aev, gav, alook, litOf, litAV, mget, mhas, acopy, asrc, adst, cav, look, acallPure, abin, abinN, abinP, abinI, abinS, aun, aconv, afield, afieldAddr, aindexAddr, aindex, aslice, alow, ahigh, abuild, abuildGo, cellsOf, splice, fieldTy, alen, apick, amax, amin, aload, headV, aparts, abuildSlice, elParts, abytesStr, astore, amake, aappend, aclear, anew, arith, aresults, aresList, ares, spec0, spec1, spec2, spec3, spec4, eqCells, eqCell]
  refine loop_ruleH (C := CE) sigCE mixCE [] (fun q : Nat => ⟨[(0, Enc.enc l), (1, .int .i64 v), (5, .int .i64 q)], []⟩) (fun q => q ≤ l.length ∧ ∀ j, j < q → ¬ ix l j = v) (fun q => l.length - q) (by kernel_rfl) ⟨0, ⟨by simp, fun j hj => by simp at hj⟩, weak_eq (by simp) rfl⟩ (fun k ⟨hk, hn⟩ => ?_)
  by_cases hlt : k < l.length
  · have i1 := (len_i hl hk).1
    by_cases h : ix l k = v
    · have hr1 : r = true := by rw [← hr]; exact decide_eq_true (h ▸ ix_mem hlt)
      simp [aev, gav, alook, litOf, litAV, mget, mhas, acopy, asrc, adst, cav, look, acallPure, abin, abinN, abinP, abinI, abinS, aun, aconv, afield, afieldAddr, aindexAddr, aindex, aslice, alow, ahigh, abuild, abuildGo, cellsOf, splice, fieldTy, alen, apick, amax, amin, aload, headV, aparts, abuildSlice, elParts, abytesStr, astore, amake, aappend, aclear, anew, arith, aresults, aresList, ares, spec0, spec1, spec2, spec3, spec4, eqCells, eqCell, hlt, rowAt_enc hlt, h, hr1]
    · simp [aev, gav, alook, litOf, litAV, mget, mhas, acopy, asrc, adst, cav, look, acallPure, abin, abinN, abinP, abinI, abinS, aun, aconv, afield, afieldAddr, aindexAddr, aindex, aslice, alow, ahigh, abuild, abuildGo, cellsOf, splice, fieldTy, alen, apick, amax, amin, aload, headV, aparts, abuildSlice, elParts, abytesStr, astore, amake, aappend, aclear, anew, arith, aresults, aresList, ares, spec0, spec1, spec2, spec3, spec4, eqCells, eqCell, hlt, rowAt_enc hlt, h, i1]
      exact ⟨k + 1, ⟨by omega, fun j hj => by
        rcases Nat.lt_or_eq_of_le (Nat.le_of_lt_succ hj) with h1 | rfl
        · exact hn j h1
        · exact h⟩, by omega, weak_eq (by simp) rfl⟩
  · have hr1 : r = false := by
      rw [← hr]
      refine decide_eq_false fun h => ?_
      obtain ⟨j, hj, e⟩ := mem_ix h
      exact hn j (by omega) e
    simp [aev, gav, alook, litOf, litAV, mget, mhas, acopy, asrc, adst, cav, look, acallPure, abin, abinN, abinP, abinI, abinS, aun, aconv, afield, afieldAddr, aindexAddr, aindex, aslice, alow, ahigh, abuild, abuildGo, cellsOf, splice, fieldTy, alen, apick, amax, amin, aload, headV, aparts, abuildSlice, elParts, abytesStr, astore, amake, aappend, aclear, anew, arith, aresults, aresList, ares, spec0, spec1, spec2, spec3, spec4, eqCells, eqCell, hlt, hr1]
def HasE (l : List Adj) (v : Int) : Prop := ∃ x ∈ l, x.Edge = v
instance (l : List Adj) (v : Int) : Decidable (HasE l v) := by unfold HasE; infer_instance
def sEdge : List AV → Option (Prop × AV) := spec2 (fun (l : List Adj) (_ : Int) => Len l) (fun l v => .bool (decide (HasE l v)))
set_option maxHeartbeats 4000000 in
theorem edgeR : PureOK Try.prog G0 42 sEdge := by
  refine pureH2 (C := CE) sigCE mixCE Try.func42 rfl rfl rfl [] (by kernel_rfl) (by decide) (fun l v hl => ?_)
  obtain ⟨r, hr⟩ : ∃ r, decide (HasE l v) = r := ⟨_, rfl⟩
  rw [hr]
  simp [aev, gav, alook, litOf, litAV, mget, mhas, acopy, asrc, adst, cav, look, acallPure, abin, abinN, abinP, abinI, abinS, aun, aconv, afield, afieldAddr, aindexAddr, aindex, aslice, alow, ahigh, abuild, abuildGo, cellsOf, splice, fieldTy, alen, apick, amax, amin, aload, headV, aparts, abuildSlice, elParts, abytesStr, astore, amake, aappend, aclear, anew, arith, aresults, aresList, ares, spec0, spec1, spec2, spec3, spec4, eqCells, eqCell]
  refine loop_ruleH (C := CE) sigCE mixCE [] (fun q : Nat => ⟨[(0, Enc.enc l), (1, .int .i64 v), (5, .int .i64 q)], []⟩) (fun q => q ≤ l.length ∧ ∀ j, j < q → ¬ (ix l j).Edge = v) (fun q => l.length - q) (by kernel_rfl) ⟨0, ⟨by simp, fun j hj => by simp at hj⟩, weak_eq (by simp) rfl⟩ (fun k ⟨hk, hn⟩ => ?_)
  by_cases hlt : k < l.length
  · have i1 := (len_i hl hk).1
    by_cases h : (ix l k).Edge = v
    · have hr1 : r = true := by rw [← hr]; exact decide_eq_true ⟨_, ix_mem hlt, h⟩
      simp [aev, gav, alook, litOf, litAV, mget, mhas, acopy, asrc, adst, cav, look, acallPure, abin, abinN, abinP, abinI, abinS, aun, aconv, afield, afieldAddr, aindexAddr, aindex, aslice, alow, ahigh, abuild, abuildGo, cellsOf, splice, fieldTy, alen, apick, amax, amin, aload, headV, aparts, abuildSlice, elParts, abytesStr, astore, amake, aappend, aclear, anew, arith, aresults, aresList, ares, spec0, spec1, spec2, spec3, spec4, eqCells, eqCell, hlt, rowAt_enc hlt, h, hr1]
    · simp [aev, gav, alook, litOf, litAV, mget, mhas, acopy, asrc, adst, cav, look, acallPure, abin, abinN, abinP, abinI, abinS, aun, aconv, afield, afieldAddr, aindexAddr, aindex, aslice, alow, ahigh, abuild, abuildGo, cellsOf, splice, fieldTy, alen, apick, amax, amin, aload, headV, aparts, abuildSlice, elParts, abytesStr, astore, amake, aappend, aclear, anew, arith, aresults, aresList, ares, spec0, spec1, spec2, spec3, spec4, eqCells, eqCell, hlt, rowAt_enc hlt, h, i1]
      exact ⟨k + 1, ⟨by omega, fun j hj => by
        rcases Nat.lt_or_eq_of_le (Nat.le_of_lt_succ hj) with h1 | rfl
        · exact hn j h1
        · exact h⟩, by omega, weak_eq (by simp) rfl⟩
  · have hr1 : r = false := by
      rw [← hr]
      refine decide_eq_false fun ⟨x, hx, h⟩ => ?_
      obtain ⟨j, hj, e⟩ := mem_ix hx
      exact hn j (by omega) (by rw [e]; exact h)
    simp [aev, gav, alook, litOf, litAV, mget, mhas, acopy, asrc, adst, cav, look, acallPure, abin, abinN, abinP, abinI, abinS, aun, aconv, afield, afieldAddr, aindexAddr, aindex, aslice, alow, ahigh, abuild, abuildGo, cellsOf, splice, fieldTy, alen, apick, amax, amin, aload, headV, aparts, abuildSlice, elParts, abytesStr, astore, amake, aappend, aclear, anew, arith, aresults, aresList, ares, spec0, spec1, spec2, spec3, spec4, eqCells, eqCell, hlt, hr1]
end Go.Proofs.Ytkhgjbjkjefeoaa
