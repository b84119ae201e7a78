import Derived.Test.YtfoipbjhaiimlaaDoorAmK
import Derived.RangeFuncLeaves
import Derived.RangeFuncRecord
import Derived.TacticsIn
/-
  A piece of code in a round of a range over a function, and behind such a range (the activation then holds a mark among its deferred calls). Own work; no program in sight.
-/
namespace Go.Proofs.YtfoipbjhaiimlaaDoor
open Go.RowKit
set_option linter.unusedVariables false

def withD (a : Act) (ds : List Deferred) : Act := { a with defers := a.defers ++ ds }
theorem withD_put (a : Act) (ds : List Deferred) (d : Option Tmp) (v : Value) : withD (a.put d v) ds = (withD a ds).put d v := by
  cases d <;> rfl
theorem withD_eval (a : Act) (ds : List Deferred) : (withD a ds).eval = a.eval := rfl
def PR (ds : List Deferred) (Q : Exit → Act → World → Prop) (ex : Exit) (a' : Act) (w' : World) : Prop := ∃ a'', Q ex a'' w' ∧ a' = withD a'' ds
def wideAt (ro : Option Nat) : Fence := { Fence.wide with round := ro }

theorem callsAt {ro : Option Nat} {n : Nat} {P : Program} {f : FuncId} {args : Array Value} {w : World} {R : Ending → World → Prop} (h : Calls P f args w R) : CallsIn (wideAt ro) n P f args w R := by
  have h := (callsIn_wide (n := n)).2 h
  cases ro with
  | none => exact h
  | some l => exact h
theorem rowsAt {ro : Option Nat} {n : Nat} {P : Program} {row : String} {args : Array Value} {w : World} {R : Value → World → Prop} (h : Rows P row args w R) : RowsIn (wideAt ro) n P row args w R := by
  intro c cs _
  obtain ⟨v, w', r, s⟩ := h c cs
  refine ⟨v, w', r, ?_⟩
  have : ∀ m m', Steps P m m' → StepsIn (Machine.fenced P Fence.wide) P m m' := fun m m' h => stepsIn_wide.2 h
  exact this _ _ s

theorem bridge {P : Program} {ro : Option Nat} {n : Nat} {ops : Array Oper} {Q : Exit → Act → World → Prop} (hQ : ∀ a w, ¬ Q .outgrown a w) (ds : List Deferred) : ∀ (l : List Oper), (∀ o ∈ l, ∀ c, o.op ≠ .defer c) → ∀ {a : Act} {w : World}, wpList P ops Q l a w →
    wpListIn (wideAt ro) n P ops (PR ds Q) l (withD a ds) w
  | [], _, a, w, h => ⟨a, h, rfl⟩
  | o :: r, hd, a, w, h => by
    have ih := fun {a : Act} {w : World} => bridge (P := P) (ro := ro) (n := n) (ops := ops) hQ ds r (fun o ho => hd o (List.mem_cons_of_mem _ ho)) (a := a) (w := w)
    unfold wpList at h
    unfold wpListIn
    have hw : Region.wanted o (yielded ops (withD a ds).tmps) = Region.wanted o (yielded ops a.tmps) := rfl
    rw [hw]
    split
    · rename_i hw1
      rw [if_pos hw1] at h
      rcases h with h | ⟨_, a0, w0, h⟩
      · refine ⟨fun _ _ => trivial, ?_⟩
        rw [withD_eval, Oper.semAt_eq _ _ _ (hd o (List.mem_cons_self ..))]
        unfold Oper.wp at h
        generalize (execOp a.eval o).run P w = res at h
        unfold Oper.upon at h
        unfold Oper.uponIn
        split at h
        · rename_i v w'
          show wpListIn (wideAt ro) n P ops (PR ds Q) r ((withD a ds).put o.dst v) w'
          rw [← withD_put]; exact ih h
        · rename_i w'
          show wpListIn (wideAt ro) n P ops (PR ds Q) r ((withD a ds).put o.dst undef) w'
          rw [← withD_put]; exact ih h
        · rename_i d w'
          have := ih h
          rw [withD_put] at this
          exact this
        · refine ⟨fun hd => (by cases hd), (callsAt h).mono ?_⟩
          intro e w' he
          cases e with
          | returned v =>
            show wpListIn (wideAt ro) n P ops (PR ds Q) r ((withD a ds).put o.dst v) w'
            rw [← withD_put]; exact ih he
          | panicked ch => exact ⟨a, he, rfl⟩
          | outgrown => obtain ⟨a0, w0, h0⟩ := he; exact absurd h0 (hQ _ _)
        · refine ⟨fun hd => (by cases hd), (rowsAt h).mono ?_⟩
          intro v w' he
          show wpListIn (wideAt ro) n P ops (PR ds Q) r ((withD a ds).put o.dst v) w'
          rw [← withD_put]; exact ih he
        · exact ⟨a, h, rfl⟩
        · exact h.elim
      · exact absurd h (hQ _ _)
    · rename_i hw1
      rw [if_neg hw1] at h
      refine ⟨fun _ _ => trivial, ?_⟩
      rw [← withD_put]
      exact ih h

def noDefer : Oper → Bool
  | ⟨_, .defer _, _, _, _, _⟩ => false
  | _ => true
theorem noDefer_ne {o : Oper} (h : noDefer o = true) (c : Call) : o.op ≠ .defer c := by
  rintro e
  obtain ⟨d, op, t, p, af, g⟩ := o
  simp only at e
  subst e
  cases h
/-- Code that may stand in a round. -/
def codeR (N : Nat) : Code → Bool
  | .skip => true
  | .region _ ops draw => !draw && (ops.toList.all fun o => match o.dst with | some d => decide (d < N) | none => true) && ops.toList.all noDefer
  | .seq a b => codeR N a && codeR N b
  | .cond _ a b => codeR N a && codeR N b
  | .block _ b => codeR N b
  | .ret => true
  | .exit _ => true
  | _ => false

section
variable {C : Ctx} {N h0 : Nat}
theorem inR_sound (hS : SigOK C) {ro : Option Nat} {n : Nat} {ds : List Deferred} {X : Nat → Prop} {w0 : World} {β0 : List BI} {H0 : List Blk} : ∀ (code : Code) {st : ASt} {Q : Exit → ASt → Prop}, codeR N code = true → avcH C [] N h0 code st Q → ∀ {a : Act} {w : World}, Rel C N X w0 β0 H0 st a w →
    code.wpIn (wideAt ro) n C.P (PR ds fun ex a' w' => ∃ st', Q ex st' ∧ Rel C N X w0 β0 H0 st' a' w') (withD a ds) w
  | .skip, st, Q, _, h, a, w, hr => wpIn_skip ⟨a, ⟨st, h, hr⟩, rfl⟩
  | .ret, st, Q, _, h, a, w, hr => wpIn_ret ⟨a, ⟨st, h, hr⟩, rfl⟩
  | .exit id, st, Q, _, h, a, w, hr => wpIn_exit ⟨a, ⟨st, h, hr⟩, rfl⟩
  | .region id ops draw, st, Q, hok, h, a, w, hr => by
    simp only [codeR, Bool.and_eq_true, Bool.not_eq_true'] at hok
    obtain ⟨⟨hdr, hd⟩, hnd⟩ := hok
    subst hdr
    have h : aops C ops ops.toList st (Q .normal) := h
    have hw := wpList_of_aops (Q := fun ex a' w' => ex = .normal ∧ ∃ st', Q .normal st' ∧ Rel C N X w0 β0 H0 st' a' w') hS (ops := ops) ops.toList (fun o ho d hd' => by
      have := List.all_eq_true.1 hd o ho
      rw [hd'] at this
      simpa using this) h hr fun st' a' w' hr' hk => ⟨rfl, st', hk, hr'⟩
    refine wpIn_mono (wpIn_region_list (bridge (ro := ro) (n := n) (fun a w h => by cases h.1) ds ops.toList (fun o ho c => noDefer_ne (List.all_eq_true.1 hnd o ho) c) hw)) ?_
    rintro e a' w' ⟨a'', ⟨rfl, h1⟩, h2⟩
    exact ⟨a'', h1, h2⟩
  | .seq x y, st, Q, hok, h, a, w, hr => by
    simp only [codeR, Bool.and_eq_true] at hok
    have h : avcH C [] N h0 x st (goOn (fun st' => avcH C [] N h0 y st' Q) Q) := h
    refine wpIn_seq (wpIn_mono (inR_sound hS x hok.1 h hr) ?_)
    rintro e a' w' ⟨a'', ⟨st', hq, hr'⟩, rfl⟩
    cases e with
    | normal => exact inR_sound hS y hok.2 hq hr'
    | _ => exact ⟨a'', ⟨st', hq, hr'⟩, rfl⟩
  | .block id x, st, Q, hok, h, a, w, hr => by
    simp only [codeR] at hok
    have h : avcH C [] N h0 x st (outOf id Q) := h
    refine wpIn_block (wpIn_mono (inR_sound hS x hok h hr) ?_)
    rintro e a' w' ⟨a'', ⟨st', hq, hr'⟩, rfl⟩
    cases e with
    | exit j =>
      simp only [Exit.inBlock, outOf] at hq ⊢
      split
      · rename_i e; rw [if_pos e] at hq; exact ⟨a'', ⟨st', hq, hr'⟩, rfl⟩
      · rename_i e; rw [if_neg e] at hq; exact ⟨a'', ⟨st', hq, hr'⟩, rfl⟩
    | _ => exact ⟨a'', ⟨st', hq, hr'⟩, rfl⟩
  | .cond c x y, st, Q, hok, h, a, w, hr => by
    simp only [codeR, Bool.and_eq_true] at hok
    have h : onBool (aev C st.ρ 0 c) fun b => both b (avcH C [] N h0 x st Q) (avcH C [] N h0 y st Q) := h
    have hr0 := hr
    obtain ⟨β, R, S0, Tr, G, hN, hdef⟩ := hr0
    have hE := aev_sound Tr G 0 c
    unfold onBool at h
    split at h
    · rename_i b hb
      rw [hb] at hE
      have hc : (withD a ds).eval c = .bool b := rep_bool hE
      refine wpIn_cond hc ?_
      cases b
      · exact inR_sound hS y hok.2 (h.2 rfl) hr
      · exact inR_sound hS x hok.1 (h.1 rfl) hr
    · rename_i hb
      rw [hb] at hE
      obtain ⟨b, hb'⟩ := rep_anyb hE
      have hc : (withD a ds).eval c = .bool b := hb'
      refine wpIn_cond hc ?_
      cases b
      · exact inR_sound hS y hok.2 (h.2.2 rfl) hr
      · exact inR_sound hS x hok.1 (h.1.1 rfl) hr
    · exact h.elim
end

/-! ### A block that holds no data (a loop's record, the block of its deferred calls) is laid and written -/
def isOdd : Obj → Bool
  | .loop _ => true
  | .deferred _ => true
  | _ => false
theorem cell_odd {w : World} {b c off : Nat} {v : Value} {o0 : Obj} (hb : w.heap[b]? = some o0) (ho : isOdd o0 = true) (hc : w.cell? ⟨c, off, none⟩ = some v) : c ≠ b := by
  rintro rfl
  unfold World.cell? at hc
  simp only at hc
  split at hc
  · rename_i h
    rw [hb] at h
    cases h
    cases ho
  · cases hc
theorem RepD.odd {w : World} {b : Nat} {o0 o : Obj} (hb : w.heap[b]? = some o0) (ho : isOdd o0 = true) {X : Nat → Prop} {v : Value} {av : AV} (h : RepD w X v av) : RepD (w.putObj b o) X v av := by
  have hcell : ∀ {c off : Nat} {u : Value}, w.cell? ⟨c, off, none⟩ = some u → (w.putObj b o).cell? ⟨c, off, none⟩ = some u := fun {c off u} hc => by
    have hne := cell_odd hb ho hc
    rw [← hc]
    exact World.cell?_of_block (World.putObj_heap_other hne)
  induction h with
  | undef v => exact .undef v
  | bool b => exact .bool b
  | int k n => exact .int k n
  | str s => exact .str s
  | nilptr => exact .nilptr
  | anyb b => exact .anyb b
  | mapp b => exact .mapp b
  | tab c k zs t fr hc hx =>
    have hne : c ≠ b := by rintro rfl; rw [hb] at hc; cases hc; cases ho
    exact .tab c k zs t fr ((World.putObj_heap_other hne).trans hc) hx
  | slice sz full rows a n cap val hn h1 h2 h3 hr hm hv ih =>
    refine .slice sz full rows a n cap val hn h1 h2 h3 hr (fun h0 => ?_) ih
    obtain ⟨c, off, rfl, hlt, hx, hc⟩ := hm h0
    exact ⟨c, off, rfl, by rw [World.putObj_size]; exact hlt, hx, fun i j hi hj => ⟨hcell (hc i j hi hj).1, (hc i j hi hj).2⟩⟩
  | iptr c off cells val hlt hx hm hv ih => exact .iptr c off cells val (by rw [World.putObj_size]; exact hlt) hx (fun j hj => ⟨hcell (hm j hj).1, (hm j hj).2⟩) ih
  | agg cs cells val hl hm hv ih => exact .agg cs cells val hl hm ih
  | tup cs cells val hl hm hv ih => exact .tup cs cells val hl hm ih
  | fn f cs cells val hl hm hv ih => exact .fn f cs cells val hl hm ih
theorem Rep.odd {w : World} {b : Nat} {o0 o : Obj} (hb : w.heap[b]? = some o0) (ho : isOdd o0 = true) {X : Nat → Prop} {β : List BI} {H : List Blk} {v : Value} {av : AV} (h : Rep w X β H v av) : Rep (w.putObj b o) X β H v av := by
  induction h with
  | deep h => exact .deep (h.odd hb ho)
  | own l n a cap b' hb' hn h0 hc hx => exact .own l n a cap b' hb' hn h0 hc hx
  | osl l n sz off len a cap b' hb' hn hle h0 hc hx => exact .osl l n sz off len a cap b' hb' hn hle h0 hc hx
  | ptr l n sz i f a b' hb' hn hx => exact .ptr l n sz i f a b' hb' hn hx
  | agg cs cells val hl hm hv ih => exact .agg cs cells val hl hm ih
  | tup cs cells val hl hm hv ih => exact .tup cs cells val hl hm ih
  | fn f cs cells val hl hm hv ih => exact .fn f cs cells val hl hm ih
theorem HRel.odd {w : World} {b : Nat} {o0 o : Obj} (hb : w.heap[b]? = some o0) (ho : isOdd o0 = true) {X : Nat → Prop} {β : List BI} {H : List Blk} (h : HRel w X β H) : HRel (w.putObj b o) X β H := by
  refine ⟨h.len, fun l bi bk h1 h2 => ?_, fun l c cap h1 => by rw [World.putObj_size]; exact h.lt l c cap h1, h.inj, fun c hc => by rw [World.putObj_size]; exact h.base c hc⟩
  have := h.blk l bi bk h1 h2
  cases bi with
  | nil => exact this
  | lies c cap =>
    obtain ⟨cur, k1, k2, k3, k4, k5, k6, k7⟩ := this
    have hne : c ≠ b := by rintro rfl; rw [hb] at k1; cases k1; cases ho
    refine ⟨cur, (World.putObj_heap_other hne).trans k1, k2, k3, k4, k5, k6, fun i j r av hr hj => ?_⟩
    obtain ⟨v, q1, q2, q3, q4⟩ := k7 i j r av hr hj
    exact ⟨v, q1, q2, q3.odd hb ho, fun hd => (q4 hd).odd hb ho⟩
theorem GV.odd {P : Program} {w : World} {b : Nat} {o0 o : Obj} (hb : w.heap[b]? = some o0) (ho : isOdd o0 = true) {X : Nat → Prop} {g : Nat} {av : AV} (h : GV P w X g av) : GV P (w.putObj b o) X g av := by
  cases av
  case mapof k e L =>
    obtain ⟨h1, h2⟩ := h
    refine ⟨h1.same (World.putObj_heap_other ?_), h2⟩
    rintro rfl
    obtain ⟨D, ⟨es, clock, q1, q2⟩, q3⟩ := h1
    rw [hb] at q1
    cases q1
    cases ho
  all_goals exact RepD.odd hb ho (show RepD w X _ _ from h)
section
variable {C : Ctx} {N : Nat} {X : Nat → Prop} {w0 : World} {β0 : List BI} {H0 : List Blk} {st : ASt} {a : Act} {w : World}
theorem Rel.odd {b : Nat} {o0 o : Obj} (hb : w.heap[b]? = some o0) (ho : isOdd o0 = true) (hlo : w0.heap.size ≤ b) (h : Rel C N X w0 β0 H0 st a w) : Rel C N X w0 β0 H0 st a (w.putObj b o) := by
  obtain ⟨β, R, S, T, G, hN, hd⟩ := h
  refine ⟨β, R.odd hb ho, ⟨⟨S.keeps.os, S.keeps.tape, S.keeps.output, by rw [World.putObj_size]; exact S.keeps.size, fun c hc hn => (World.putObj_heap_other (by omega)).trans (S.keeps.block c hc hn), S.keeps.drawn⟩, S.grow, S.len⟩, fun t => (T t).odd hb ho, fun g => (G g).odd hb ho, hN, hd⟩
theorem Rel.alloc (o : Obj) (h : Rel C N X w0 β0 H0 st a w) : Rel C N X w0 β0 H0 st a (w.alloc o) := by
  obtain ⟨β, R, S, T, G, hN, hd⟩ := h
  have hk : Keeps (fun _ => False) w (w.alloc o) := Keeps.alloc _ _ _
  exact ⟨β, R.quiet hk, S.trans (StepR.quiet hk R.len), fun t => (T t).keep (StepR.quiet hk R.len), fun g => (G g).keep (fun b hb hn => hk.block b hb (fun h => h)) hk.size (fun b _ h => h), hN, hd⟩
/-- The same state, told from here. -/
theorem Rel.here (h : Rel C N X w0 β0 H0 st a w) : ∃ β, Rel C N X w β st.H st a w ∧ StepR w0 β0 H0 w β st.H := by
  obtain ⟨β, R, S, T, G, hN, hd⟩ := h
  exact ⟨β, ⟨β, R, StepR.refl _ _ _ R.len, T, G, hN, hd⟩, S⟩
theorem Rel.there {β1 : List BI} {w1 : World} {H1 : List Blk} (S0 : StepR w0 β0 H0 w1 β1 H1) (h : Rel C N X w1 β1 H1 st a w) : Rel C N X w0 β0 H0 st a w := by
  obtain ⟨β, R, S, T, G, hN, hd⟩ := h
  exact ⟨β, R, S0.trans S, T, G, hN, hd⟩
end
end Go.Proofs.YtfoipbjhaiimlaaDoor

/-
  A function with a range over a function in it: the pieces ahead of it by their conditions. Own work; no program in sight.
-/
namespace Go.Proofs.YtfoipbjhaiimlaaDoor
open Go.RowKit
set_option linter.unusedVariables false

def RX (C : Ctx) (fn : Func) (r : AV) (X : Nat → Prop) (w0 : World) : Exit → Act → World → Prop :=
  bodyPostM Fence.wide 9 C.P fn fun e w' => ∃ v, e = .returned v ∧ Keeps (fun _ => False) w0 w' ∧ RepD w' X v r
def AWX (C : Ctx) (N : Nat) (fn : Func) (r : AV) (code : Code) (st : ASt) : Prop :=
  ∀ (X : Nat → Prop) (w0 : World) (a : Act) (w : World), Rel C N X w0 [] [] st a w → code.wpIn Fence.wide 9 C.P (RX C fn r X w0) a w
@[congr] theorem AWX_congr {C : Ctx} {N : Nat} {fn : Func} {r : AV} {code : Code} {st st' : ASt} (h : mark st = st') : AWX C N fn r code st = AWX C N fn r code st' := by rw [mark_eq] at h; rw [h]

section
variable {C : Ctx} {N : Nat} {fn : Func} {r : AV}
theorem leaves_fin {X : Nat → Prop} {w0 : World} {st : ASt} {a : Act} {w : World} (h : finP C fn.results.toList r st) (hr : Rel C N X w0 [] [] st a w) : LeavesIn Fence.wide 9 C.P fn a.tmps (fun e w' => ∃ v, e = .returned v ∧ Keeps (fun _ => False) w0 w' ∧ RepD w' X v r) [] .returning w := by
  unfold finP at h
  split at h
  · rename_i ob' r' hres
    obtain ⟨hob', hview⟩ := h
    obtain ⟨β', R', S', T', G', hN', hdef'⟩ := hr
    obtain ⟨u, hu, hrep⟩ := aresults_sound R' T' hres hob'
    have hv := (view_sound R' (fun _ => True) 6 hrep (fun _ _ => trivial)).mono (X' := X) fun b _ hb => .inl hb
    have hv := repD_nrmV hv
    rw [hview] at hv
    exact ⟨u, hu, u, rfl, S'.keeps.weaken (fun b _ h => by obtain ⟨l, c, blk, h1, _, _⟩ := h; simp at h1), hv⟩
  · exact h.elim
theorem rx_fin {X : Nat → Prop} {w0 : World} {st : ASt} {a : Act} {w : World} {ex : Exit} (h : postP C fn.results.toList r ex st) (hr : Rel C N X w0 [] [] st a w) : RX C fn r X w0 ex a w := by
  have hd : a.defers = [] := by obtain ⟨_, _, _, _, _, _, h⟩ := hr; exact h
  cases ex with
  | normal => show LeavesInM _ _ _ _ _ _ a.defers _ _; rw [hd]; exact leaves_fin h hr
  | ret => show LeavesInM _ _ _ _ _ _ a.defers _ _; rw [hd]; exact leaves_fin h hr
  | _ => exact h.elim
theorem rx_mark {X : Nat → Prop} {w0 : World} {st : ASt} {a : Act} {w : World} {ex : Exit} {D : Nat} (hD : w.heap[D]? = some (.deferred (some []))) (hlo : w0.heap.size ≤ D) (h : postP C fn.results.toList r ex st) (hr : Rel C N X w0 [] [] st a w) :
    RX C fn r X w0 ex (withD a [{ target := .collected D, args := #[] }]) w := by
  have hd : a.defers = [] := by obtain ⟨_, _, _, _, _, _, h⟩ := hr; exact h
  have key : finP C fn.results.toList r st → LeavesInM Fence.wide 9 C.P fn a.tmps (fun e w' => ∃ v, e = .returned v ∧ Keeps (fun _ => False) w0 w' ∧ RepD w' X v r) [{ target := .collected D, args := #[] }] .returning w := fun h =>
    ⟨by simp, .inl ⟨D, _, rfl, run_takeDeferred hD, leaves_fin h (hr.odd hD rfl hlo)⟩⟩
  cases ex with
  | normal => show LeavesInM _ _ _ _ _ _ (a.defers ++ _) _ _; rw [hd]; exact key h
  | ret => show LeavesInM _ _ _ _ _ _ (a.defers ++ _) _ _; rw [hd]; exact key h
  | _ => exact h.elim
theorem AWX_seq (hS : SigOK C) (hM : C.P.follows .mixedOrders = true) (hd : List Nat) {a b : Code} {st : ASt} (hok : codeOKH C hd N a = true) (h : avcH C hd N 0 a st (goOn (AWX C N fn r b) (postP C fn.results.toList r))) : AWX C N fn r (.seq a b) st := fun X w0 x w hr => by
  refine wpIn_seq (wpIn_mono (wpIn_wide.2 (avcH_sound hS hM a hok h X w0 [] [] x w rfl hr)) ?_)
  rintro e a' w' ⟨st', hq, hr'⟩
  cases e with
  | normal => exact hq X w0 a' w' hr'
  | _ => exact rx_fin hq hr'
theorem AWX.weak {code : Code} {st st' : ASt} (hw : Weak C N 0 st st') (h : AWX C N fn r code st') : AWX C N fn r code st := fun X w0 a w hr => h X w0 a w (hw X w0 [] [] a w rfl hr)
/-- b, then c, in a function's body. -/
def AWXb (C : Ctx) (N : Nat) (fn : Func) (r : AV) (b c : Code) (st : ASt) : Prop :=
  ∀ (X : Nat → Prop) (w0 : World) (a : Act) (w : World), Rel C N X w0 [] [] st a w → b.wpIn Fence.wide 9 C.P (Exit.then (c.wpIn Fence.wide 9 C.P (RX C fn r X w0)) (RX C fn r X w0)) a w
@[congr] theorem AWXb_congr {C : Ctx} {N : Nat} {fn : Func} {r : AV} {b c : Code} {st st' : ASt} (h : mark st = st') : AWXb C N fn r b c st = AWXb C N fn r b c st' := by rw [mark_eq] at h; rw [h]
theorem AWXb.weak {b c : Code} {st st' : ASt} (hw : Weak C N 0 st st') (h : AWXb C N fn r b c st') : AWXb C N fn r b c st := fun X w0 a w hr => h X w0 a w (hw X w0 [] [] a w rfl hr)
theorem AWX_seq2 (hS : SigOK C) (hM : C.P.follows .mixedOrders = true) (hd : List Nat) {a b c : Code} {st : ASt} (hok : codeOKH C hd N a = true) (h : avcH C hd N 0 a st (goOn (AWXb C N fn r b c) (postP C fn.results.toList r))) : AWX C N fn r (.seq (.seq a b) c) st := fun X w0 x w hr => by
  refine wpIn_seq (wpIn_seq (wpIn_mono (wpIn_wide.2 (avcH_sound hS hM a hok h X w0 [] [] x w rfl hr)) ?_))
  rintro e a' w' ⟨st', hq, hr'⟩
  cases e with
  | normal => exact hq X w0 a' w' hr'
  | exit id => exact hq.elim
  | goto id => exact hq.elim
  | panic id => exact hq.elim
  | outgrown => exact hq.elim
  | ret =>
    have hq : postP C fn.results.toList r .ret st' := hq
    exact (rx_fin hq hr' : RX C fn r X w0 .ret a' w')
theorem pure2X {α β : Type} [Enc α] [Enc β] {f : FuncId} {body : Code} {n : Nat} (hf : C.P.funcs[f]? = some fn) (hb : fn.body = some body) (hn : fn.ntmps = n) (hnn : 2 ≤ n) {pre : α → β → Prop} {res : α → β → AV}
    (h : ∀ a b, pre a b → AWX C n fn (res a b) body ⟨[(0, Enc.enc a), (1, Enc.enc b)], []⟩) : PureOK C.P C.G f (spec2 pre res) := by
  subst hn
  intro w X args avs0 ob r' hX hG hsz0 harg0 hp hob
  obtain ⟨r0, hlen0, hav0⟩ : ∃ _ : r' = r', avs0.length ≤ fn.ntmps ∧ AWX C fn.ntmps fn r' body ⟨argsρ 0 (avs0.map nrmV), []⟩ := by
    unfold spec2 at hp
    split at hp
    · injection hp with hp; injection hp with e1 e2; subst e1 e2
      refine ⟨rfl, hnn, ?_⟩
      have := h _ _ hob.2.2
      rw [← hob.1, ← hob.2.1] at this
      exact this
    · cases hp
  generalize havs : avs0.map nrmV = avs at hav0
  have hlen : avs.length ≤ fn.ntmps := by rw [← havs]; simpa using hlen0
  have hsz : args.size = avs.length := by rw [← havs]; simpa using hsz0
  have harg : ∀ (j : Nat) (u : AV), avs[j]? = some u → ∃ v, args[j]? = some v ∧ RepD w X v u := fun j u hu => by
    rw [← havs, List.getElem?_map] at hu
    simp only [Option.map_eq_some_iff] at hu
    obtain ⟨av, hav, rfl⟩ := hu
    obtain ⟨v, h1, h2⟩ := harg0 j av hav
    exact ⟨v, h1, repD_nrmV h2⟩
  refine callsIn_wide.1 (callsIn_of_wp_marks (n := 9) hf hb trivial ?_)
  have hMu : ∀ b, Mu X [] [] b → X b := by
    rintro b (h | ⟨l, c, blk, h1, _, _⟩)
    · exact h
    · simp at h1
  have R : HRel w X [] [] := ⟨rfl, fun l bi b h1 _ => by simp at h1, fun l b c h1 => by simp at h1, fun l l' b c c' h1 => by simp at h1, hX⟩
  have hr : Rel C fn.ntmps X w [] [] ⟨argsρ 0 avs, []⟩ { tmps := args ++ Array.replicate (fn.ntmps - args.size) undef, defers := [] } w :=
    ⟨[], R, StepR.refl _ _ _ rfl, trel_args hsz (fun j u hj => let ⟨v, h1, h2⟩ := harg j u hj; ⟨v, h1, .deep (h2.mono fun b _ hb => hMu b hb)⟩), fun g => (hG g).mono fun b _ hb => hMu b hb, by simp; omega, rfl⟩
  exact hav0 X w _ w hr
end
end Go.Proofs.YtfoipbjhaiimlaaDoor
