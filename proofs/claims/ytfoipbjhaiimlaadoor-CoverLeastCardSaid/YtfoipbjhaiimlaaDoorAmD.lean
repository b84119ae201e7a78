import Derived.Test.YtfoipbjhaiimlaaDoorAmC
import Derived.Scope
import Derived.Deep.LoopGhost
/-
  The condition of a body; loops; from a condition to a contract. Own work; no program in sight.
-/
namespace Go.Proofs.YtfoipbjhaiimlaaDoor
open Go.RowKit

def codeOK (C : Ctx) (N : Nat) : Code → Bool
  | .region _ ops draw => (ops.toList.all fun o => match o.dst with | some d => decide (d < N) | none => true) && (!draw || regOK C ops)
  | .seq a b => codeOK C N a && codeOK C N b
  | .cond _ a b => codeOK C N a && codeOK C N b
  | .block _ b => codeOK C N b
  | .loop b => codeOK C N b
  | .scope b => codeOK C N b
  | _ => true

/-- From st the code comes to what Q says. -/
def AW (C : Ctx) (N h0 : Nat) (code : Code) (st : ASt) (Q : Exit → ASt → Prop) : Prop :=
  ∀ (X : Nat → Prop) (w0 : World) (β0 : List BI) (H0 : List Blk) (a : Act) (w : World), H0.length = h0 → Rel C N X w0 β0 H0 st a w → code.wp C.P (fun ex a' w' => ∃ st', Q ex st' ∧ Rel C N X w0 β0 H0 st' a' w') a w

def Weak (C : Ctx) (N h0 : Nat) (st st' : ASt) : Prop :=
  ∀ (X : Nat → Prop) (w0 : World) (β0 : List BI) (H0 : List Blk) (a : Act) (w : World), H0.length = h0 → Rel C N X w0 β0 H0 st a w → Rel C N X w0 β0 H0 st' a w

/-- The condition under which a body comes to what Q says; at a loop: the loop's own. -/
def avc (C : Ctx) (N h0 : Nat) : Code → ASt → (Exit → ASt → Prop) → Prop
  | .skip, st, Q => Q .normal st
  | .region _ ops _, st, Q => aops C ops ops.toList st (Q .normal)
  | .seq a b, st, Q => avc C N h0 a st fun ex st' => match ex with | .normal => avc C N h0 b st' Q | e => Q e st'
  | .cond c a b, st, Q => match aev C st.ρ 0 c with | .bool x => (x = true → avc C N h0 a st Q) ∧ (x = false → avc C N h0 b st Q) | .anyb => avc C N h0 a st Q ∧ avc C N h0 b st Q | _ => False
  | .block id b, st, Q => avc C N h0 b st fun ex st' => match ex with | .exit j => if j = id then Q .normal st' else Q (.exit j) st' | e => Q e st'
  | .exit id, st, Q => Q (.exit id) st
  | .ret, st, Q => Q .ret st
  | .label _, st, Q => Q .normal st
  | .scope b, st, Q => avc C N h0 b st fun ex st' => match ex with | .goto _ => False | e => Q e st'
  | .loop b, st, Q => AW C N h0 (.loop b) st Q
  | _, _, _ => False

section
variable {C : Ctx} {N h0 : Nat}

theorem AW.mono {code : Code} {st : ASt} {Q Q' : Exit → ASt → Prop} (h : AW C N h0 code st Q) (hq : ∀ ex st', Q ex st' → Q' ex st') : AW C N h0 code st Q' :=
  fun X w0 β0 H0 a w hl hr => Code.wp_mono (fun _ _ _ ⟨st', hq', hr'⟩ => ⟨st', hq _ _ hq', hr'⟩) (h X w0 β0 H0 a w hl hr)

theorem Weak.refl (st : ASt) : Weak C N h0 st st := fun _ _ _ _ _ _ _ h => h
theorem Weak.trans {a b c : ASt} (h : Weak C N h0 a b) (h' : Weak C N h0 b c) : Weak C N h0 a c := fun X w0 β0 H0 x w hl hr => h' X w0 β0 H0 x w hl (h X w0 β0 H0 x w hl hr)
theorem AW.weak {code : Code} {st st' : ASt} {Q : Exit → ASt → Prop} (hw : Weak C N h0 st st') (h : AW C N h0 code st' Q) : AW C N h0 code st Q :=
  fun X w0 β0 H0 a w hl hr => h X w0 β0 H0 a w hl (hw X w0 β0 H0 a w hl hr)

theorem avc_mono : ∀ (code : Code) {st : ASt} {Q Q' : Exit → ASt → Prop}, avc C N h0 code st Q → (∀ ex st', Q ex st' → Q' ex st') → avc C N h0 code st Q'
  | .skip, st, Q, Q', h, hq => hq _ _ h
  | .region _ ops _, st, Q, Q', h, hq => by
    simp only [avc] at h ⊢
    have key : ∀ (l : List Oper) (st : ASt) (K K' : ASt → Prop), (∀ s, K s → K' s) → aops C ops l st K → aops C ops l st K' := by
      intro l
      induction l with
      | nil => intro st K K' hk h; exact hk st h
      | cons o r ih =>
        intro st K K' hk h
        unfold aops at h ⊢
        split at h
        · exact h
        · refine ⟨fun hg => ?_, fun hg => ih _ K K' hk (h.2 hg)⟩
          have h := h.1 hg
          split at h
          · exact ⟨h.1, ih _ K K' hk h.2⟩
          · exact h
    exact key _ _ _ _ (fun s => hq .normal s) h
  | .seq a b, st, Q, Q', h, hq => by
    simp only [avc] at h ⊢
    refine avc_mono a h fun ex st' h => ?_
    cases ex <;> first | exact avc_mono b h hq | exact hq _ _ h
  | .cond c a b, st, Q, Q', h, hq => by
    simp only [avc] at h ⊢
    split at h
    · exact ⟨fun hx => avc_mono a (h.1 hx) hq, fun hx => avc_mono b (h.2 hx) hq⟩
    · exact ⟨avc_mono a h.1 hq, avc_mono b h.2 hq⟩
    · exact h
  | .block id b, st, Q, Q', h, hq => by
    simp only [avc] at h ⊢
    refine avc_mono b h fun ex st' h => ?_
    cases ex with
    | exit j =>
      simp only at h ⊢
      split
      · rename_i e; rw [if_pos e] at h; exact hq _ _ h
      · rename_i e; rw [if_neg e] at h; exact hq _ _ h
    | _ => exact hq _ _ h
  | .exit id, st, Q, Q', h, hq => hq _ _ h
  | .ret, st, Q, Q', h, hq => hq _ _ h
  | .label _, st, Q, Q', h, hq => hq _ _ h
  | .scope b, st, Q, Q', h, hq => by
    simp only [avc] at h ⊢
    refine avc_mono b h fun ex st' h => ?_
    cases ex <;> first | exact hq _ _ h | exact h
  | .loop b, st, Q, Q', h, hq => AW.mono h hq
  | .goto _, _, _, _, h, _ => h
  | .rangeFunc .., _, _, _, h, _ => h
  | .refuse _, _, _, _, h, _ => h

theorem avc_sound (hS : SigOK C) (hM : C.P.follows .mixedOrders = true) : ∀ (code : Code) {st : ASt} {Q : Exit → ASt → Prop}, codeOK C N code = true → avc C N h0 code st Q → AW C N h0 code st Q
  | .skip, st, Q, _, h => fun X w0 β0 H0 a w hl hr => wp_skip ⟨st, h, hr⟩
  | .region id ops draw, st, Q, hok, h => fun X w0 β0 H0 a w hl hr => by
    simp only [codeOK, Bool.and_eq_true, Bool.or_eq_true, Bool.not_eq_true'] at hok
    have hd : ∀ o ∈ ops.toList, ∀ d, o.dst = some d → d < N := by
      intro o ho d hd
      have := List.all_eq_true.1 hok.1 o ho
      rw [hd] at this
      simpa using this
    simp only [avc] at h
    cases draw with
    | false => exact wp_region_list (wpList_of_aops hS ops.toList hd h hr fun st' a' w' hr' hk => ⟨st', hk, hr'⟩)
    | true =>
      have hok2 := hok.2.resolve_left (by simp)
      obtain ⟨B, F, hfull⟩ := regOK_facts hok2
      obtain ⟨v, ρ, H, T, hK⟩ := aops_trace ops.toList 0 st (Q .normal) (fun j => by simp) (Nat.zero_le _) h
      refine wp_region_any hM ?_
      obtain ⟨β, R, S0, Tr, G, hN, hdef⟩ := hr
      have hk : Keeps (fun _ => False) w { w with drawn := w.drawn + 1 } := Keeps.drew _ w
      have hr' : Rel C N X w0 β0 H0 ⟨st.ρ, st.H⟩ a { w with drawn := w.drawn + 1 } :=
        ⟨β, R.quiet hk, S0.trans (StepR.quiet hk R.len), fun t => (Tr t).keep (StepR.quiet hk R.len), fun g => (G g).keep (fun b hb hn => hk.block b hb (fun h => h)) hk.size (fun b _ h => h), hN, hdef⟩
      refine wpAny_of_trace hS (fun i hi d hd' => ?_) T F (stable_of T F hfull) (fun a' w' hr => ⟨_, hK, hr⟩) ops.size (Array.replicate ops.size false) st.ρ st.H a _ (by simp) ?_ (Nat.le_trans List.countP_le_length (by simp)) hr'
      · refine hd (opAt ops i) ?_ d hd'
        unfold opAt
        rw [Array.getD_eq_getD_getElem?, Array.getElem?_eq_getElem hi]
        exact Array.mem_toList_iff.2 (Array.getElem_mem hi)
      · have hno : ∀ i, ¬ ((Array.replicate ops.size false).getD i false = true) := by
          intro i
          rw [Array.getD_eq_getD_getElem?]
          rcases Nat.lt_or_ge i ops.size with h | h
          · simp [h]
          · simp [Array.getElem?_eq_none (show (Array.replicate ops.size false).size ≤ i by simpa using h)]
        refine ⟨fun i _ h => absurd h (hno i), fun i _ h => absurd h (hno i), fun t _ => by rw [T.ρ0], fun k hk hsep => ?_⟩
        rw [← T.H0]
        refine tr_sep T (Nat.zero_le _) hk fun e he1 he2 => ⟨fun h => by omega, fun h => absurd ((hsep e he1 he2).2 h) (hno e)⟩
  | .seq x y, st, Q, hok, h => fun X w0 β0 H0 a w hl hr => by
    simp only [codeOK, Bool.and_eq_true] at hok
    simp only [avc] at h
    refine wp_seq (Code.wp_mono (fun ex a' w' ⟨st', hq, hr'⟩ => ?_) (avc_sound hS hM x hok.1 h X w0 β0 H0 a w hl hr))
    cases ex with
    | normal => exact avc_sound hS hM y hok.2 hq X w0 β0 H0 a' w' hl hr'
    | _ => exact ⟨st', hq, hr'⟩
  | .cond c x y, st, Q, hok, h => fun X w0 β0 H0 a w hl hr => by
    simp only [codeOK, Bool.and_eq_true] at hok
    simp only [avc] at h
    split at h
    · rename_i b hb
      have hr0 := hr
      obtain ⟨β, R, S0, Tr, G, hN, hdef⟩ := hr0
      have hE := aev_sound Tr G 0 c
      rw [hb] at hE
      exact wp_cond_split (rep_bool hE) (fun ht => avc_sound hS hM x hok.1 (h.1 ht) X w0 β0 H0 a w hl hr) (fun hf => avc_sound hS hM y hok.2 (h.2 hf) X w0 β0 H0 a w hl hr)
    · rename_i hb
      have hr0 := hr
      obtain ⟨β, R, S0, Tr, G, hN, hdef⟩ := hr0
      have hE := aev_sound Tr G 0 c
      rw [hb] at hE
      obtain ⟨b, hb'⟩ := rep_anyb hE
      exact wp_cond_split hb' (fun _ => avc_sound hS hM x hok.1 h.1 X w0 β0 H0 a w hl hr) (fun _ => avc_sound hS hM y hok.2 h.2 X w0 β0 H0 a w hl hr)
    · exact h.elim
  | .block id b, st, Q, hok, h => fun X w0 β0 H0 a w hl hr => by
    simp only [codeOK] at hok
    simp only [avc] at h
    refine wp_block (Code.wp_mono (fun ex a' w' ⟨st', hq, hr'⟩ => ?_) (avc_sound hS hM b hok h X w0 β0 H0 a w hl hr))
    cases ex with
    | exit j =>
      simp only [Exit.inBlock] at hq ⊢
      split
      · rename_i e; rw [if_pos e] at hq; exact ⟨st', hq, hr'⟩
      · rename_i e; rw [if_neg e] at hq; exact ⟨st', hq, hr'⟩
    | _ => exact ⟨st', hq, hr'⟩
  | .exit id, st, Q, _, h => fun X w0 β0 H0 a w hl hr => wp_exit ⟨st, h, hr⟩
  | .ret, st, Q, _, h => fun X w0 β0 H0 a w hl hr => wp_ret ⟨st, h, hr⟩
  | .label _, st, Q, _, h => fun X w0 β0 H0 a w hl hr => wp_label ⟨st, h, hr⟩
  | .scope b, st, Q, hok, h => fun X w0 β0 H0 a w hl hr => by
    simp only [codeOK] at hok
    simp only [avc] at h
    refine wp_scope_straight (Code.wp_mono (fun ex a' w' ⟨st', hq, hr'⟩ => ?_) (avc_sound hS hM b hok h X w0 β0 H0 a w hl hr))
    cases ex with
    | goto l => exact hq
    | _ => exact ⟨st', hq, hr'⟩
  | .loop b, st, Q, _, h => h
  | .goto _, _, _, _, h => h.elim
  | .rangeFunc .., _, _, _, h => h.elim
  | .refuse _, _, _, _, h => h.elim

/-- A loop: what stands at its head, by a parameter; a measure. -/
theorem AW_loop {α : Type} (hS : SigOK C) (hM : C.P.follows .mixedOrders = true) {body : Code} (hok : codeOK C N body = true) {st : ASt} {Q : Exit → ASt → Prop} (Sf : α → ASt) (pre : α → Prop) (m : α → Nat)
    (start : ∃ x, pre x ∧ Weak C N h0 st (Sf x))
    (step : ∀ x, pre x → avc C N h0 body (Sf x) fun ex st' => match ex with | .normal => ∃ x', pre x' ∧ m x' < m x ∧ Weak C N h0 st' (Sf x') | e => Q e st') : AW C N h0 (.loop body) st Q := by
  intro X w0 β0 H0 a w hl hr
  obtain ⟨x0, hx0, hw0⟩ := start
  refine wp_loop_ghost (fun n a w => ∃ x, m x = n ∧ pre x ∧ Rel C N X w0 β0 H0 (Sf x) a w) (m x0) ⟨x0, rfl, hx0, hw0 X w0 β0 H0 a w hl hr⟩ ?_
  rintro n a w ⟨x, rfl, hx, hr⟩
  refine Code.wp_mono (fun ex a' w' ⟨st', hq, hr'⟩ => ?_) (avc_sound hS hM body hok (step x hx) X w0 β0 H0 a w hl hr)
  cases ex with
  | normal =>
    obtain ⟨x', hx', hlt, hw⟩ := hq
    exact ⟨m x', hlt, x', rfl, hx', hw X w0 β0 H0 a' w' hl hr'⟩
  | _ => exact ⟨st', hq, hr'⟩

/-! ### What may be forgotten or said otherwise -/
theorem weak_slots {ρ ρ' : List (Nat × AV)} {H : List Blk} (h : ∀ p ∈ ρ', getA ρ p.1 = p.2) : Weak C N h0 ⟨ρ, H⟩ ⟨ρ', H⟩ := by
  intro X w0 β0 H0 a w hl hr
  obtain ⟨β, R, S0, Tr, G, hN, hdef⟩ := hr
  refine ⟨β, R, S0, fun t => ?_, G, hN, hdef⟩
  have key : ∀ l : List (Nat × AV), (∀ p ∈ l, getA ρ p.1 = p.2) → getA l t = .undef ∨ getA l t = getA ρ t := by
    intro l
    induction l with
    | nil => intro _; exact .inl rfl
    | cons p r ih =>
      intro hp
      obtain ⟨k, v⟩ := p
      simp only [getA]
      split
      · rename_i e
        subst e
        exact .inr (hp (k, v) (by simp)).symm
      · exact ih fun q hq => hp q (List.mem_cons_of_mem _ hq)
  simp only
  rcases key ρ' h with e | e
  · rw [e]; exact rep_undef
  · rw [e]; exact Tr t

/-- All blocks that it speaks of are among the first m. -/
def AV.clean1 (m : Nat) : AV → Bool
  | .own l _ => decide (l < m)
  | .osl l _ _ _ _ => decide (l < m)
  | .ptr l _ _ _ _ => decide (l < m)
  | .agg _ => false
  | .tup _ => false
  | .fn _ cs => cs.all AV.isDeep
  | _ => true
def AV.clean (m : Nat) : AV → Bool
  | .agg cs => cs.all (AV.clean1 m)
  | .tup cs => cs.all (AV.clean1 m)
  | v => v.clean1 m

theorem MutB.take {β : List BI} {H : List Blk} {m b : Nat} (h : MutB (β.take m) (H.take m) b) : MutB β H b := by
  obtain ⟨l, c, blk, h1, h2, h3⟩ := h
  rw [List.getElem?_take] at h1 h2
  split at h1
  · rename_i hl
    rw [if_pos hl] at h2
    exact ⟨l, c, blk, h1, h2, h3⟩
  · cases h1

theorem Mu.take {X : Nat → Prop} {β : List BI} {H : List Blk} {m b : Nat} (h : Mu X (β.take m) (H.take m) b) : Mu X β H b := h.imp id MutB.take

theorem rep_clean1 {w : World} {X : Nat → Prop} {β : List BI} {H : List Blk} {m : Nat} {v : Value} {av : AV} (hc : av.clean1 m = true) (h : Rep w (Mu X β H) β H v av) : Rep w (Mu X (β.take m) (H.take m)) (β.take m) (H.take m) v av := by
  have hD : ∀ {v : Value} {av : AV}, RepD w (Mu X β H) v av → RepD w (Mu X (β.take m) (H.take m)) v av := fun h => h.mono fun b _ hb => hb.take
  cases h with
  | deep h => exact .deep (hD h)
  | own l n a cap b hb hn h0 hc' hx =>
    have hl : l < m := by simpa [AV.clean1] using hc
    refine .own l n a cap b (by rw [List.getElem?_take, if_pos hl]; exact hb) hn h0 hc' fun e => ?_
    rw [List.getElem?_take, if_pos hl]
    exact hx e
  | osl l n sz off len a cap b hb hn hle h0 hc' hx =>
    have hl : l < m := by simpa [AV.clean1] using hc
    refine .osl l n sz off len a cap b (by rw [List.getElem?_take, if_pos hl]; exact hb) hn hle h0 hc' fun e e2 => ?_
    rw [List.getElem?_take, if_pos hl]
    exact hx e e2
  | ptr l n sz i f a b hb hn hx =>
    have hl : l < m := by simpa [AV.clean1] using hc
    refine .ptr l n sz i f a b (by rw [List.getElem?_take, if_pos hl]; exact hb) hn fun e1 e2 e3 => ?_
    rw [List.getElem?_take, if_pos hl]
    exact hx e1 e2 e3
  | agg cs cells val hl hm hv => cases hc
  | tup cs cells val hl hm hv => cases hc
  | fn f cs cells val hl hm hv => exact .fn f cs cells val hl hm fun j u hj => .deep (hD (rep_deep (List.all_eq_true.1 hc u (List.mem_of_getElem? hj)) (hv j u hj)))

theorem rep_clean {w : World} {X : Nat → Prop} {β : List BI} {H : List Blk} {m : Nat} {v : Value} {av : AV} (hc : av.clean m = true) (h : Rep w (Mu X β H) β H v av) : Rep w (Mu X (β.take m) (H.take m)) (β.take m) (H.take m) v av := by
  cases av with
  | agg cells =>
    obtain ⟨cs, val, rfl, hl, hm, hv⟩ := rep_agg h
    exact .agg cs cells val hl hm fun j u hj => rep_clean1 (List.all_eq_true.1 hc u (List.mem_of_getElem? hj)) (hv j u hj)
  | tup cells =>
    obtain ⟨cs, val, rfl, hl, hm, hv⟩ := rep_tup h
    exact .tup cs cells val hl hm fun j u hj => rep_clean1 (List.all_eq_true.1 hc u (List.mem_of_getElem? hj)) (hv j u hj)
  | _ => exact rep_clean1 hc h

/-- The blocks behind the first m are forgotten. -/
theorem weak_drop {ρ : List (Nat × AV)} {H : List Blk} (m : Nat) (hm : h0 ≤ m) (hρ : ∀ p ∈ ρ, p.2.clean m = true) (hH : ∀ b ∈ H.take m, b.deep = true ∨ ∀ r ∈ b.rows, ∀ c ∈ r, c.clean m = true) : Weak C N h0 ⟨ρ, H⟩ ⟨ρ, H.take m⟩ := by
  intro X w0 β0 H0 a w hl hr
  obtain ⟨β, R, S0, Tr, G, hN, hdef⟩ := hr
  have hcl : ∀ t, (getA ρ t).clean m = true := by
    intro t
    have key : ∀ l : List (Nat × AV), (∀ p ∈ l, p.2.clean m = true) → (getA l t).clean m = true := by
      intro l
      induction l with
      | nil => intro _; rfl
      | cons p r ih =>
        intro hp
        obtain ⟨k, v⟩ := p
        simp only [getA]
        split
        · exact hp (k, v) (by simp)
        · exact ih fun q hq => hp q (List.mem_cons_of_mem _ hq)
    exact key ρ hρ
  refine ⟨β.take m, ⟨by simp [R.len], fun l bi b h1 h2 => ?_, fun l b c h1 => ?_, fun l l' b c c' h1 h2 => ?_, R.base⟩, ⟨S0.keeps, ⟨fun l b h => ?_, fun l bk c h => ?_⟩, S0.len⟩, fun t => rep_clean (hcl t) (Tr t), fun g => (G g).mono fun b _ hb => hb.take, hN, hdef⟩
  · rw [List.getElem?_take] at h1 h2
    split at h1
    · rename_i hlm
      rw [if_pos hlm] at h2
      have hB := R.blk l bi b h1 h2
      cases bi with
      | nil => exact hB
      | lies bk cap =>
        obtain ⟨cur, k1, k2, k3, k4, k5, k6, k7⟩ := hB
        refine ⟨cur, k1, k2, k3, k4, k5, k6, fun i j r av hr hj => ?_⟩
        obtain ⟨v, q1, q2, q3, q4⟩ := k7 i j r av hr hj
        have q4' : b.deep = true → RepD w (Mu X (β.take m) (H.take m)) v av := fun hd => (q4 hd).mono fun b _ hb => hb.take
        refine ⟨v, q1, q2, ?_, q4'⟩
        have hmem : b ∈ H.take m := List.mem_of_getElem? (by rw [List.getElem?_take, if_pos hlm]; exact h2)
        rcases hH b hmem with h | h
        · exact .deep (q4' h)
        · exact rep_clean (h r (List.mem_of_getElem? hr) av (List.mem_of_getElem? hj)) q3
    · cases h1
  · rw [List.getElem?_take] at h1
    split at h1
    · exact R.lt l b c h1
    · cases h1
  · rw [List.getElem?_take] at h1 h2
    split at h1
    · split at h2
      · exact R.inj l l' b c c' h1 h2
      · cases h2
    · cases h1
  · obtain ⟨b', e1, e2, e3, e4, e5, e6⟩ := S0.grow.old l b h
    have hlm : l < m := by have := (List.getElem?_eq_some_iff.1 h).1; omega
    refine ⟨b', by simp only [List.getElem?_take, if_pos hlm]; exact e1, e2, e3, e4, fun e => ?_, e6⟩
    rw [List.getElem?_take, if_pos hlm]
    exact e5 e
  · rw [List.getElem?_take] at h
    split at h
    · exact S0.grow.at_ l bk c h
    · cases h

/-- An empty slice without room begins to be the call's own. -/
theorem weak_nil {ρ : List (Nat × AV)} {H : List Blk} (t sz : Nat) (e : TypeId) (ht : getA ρ t = .slice sz true []) (hz : 0 < sz) : Weak C N h0 ⟨ρ, H⟩ ⟨(t, .own H.length 0) :: ρ, H ++ [⟨e, sz, [], true, true⟩]⟩ := by
  intro X w0 β0 H0 a w hl hr
  obtain ⟨β, R, S0, Tr, G, hN, hdef⟩ := hr
  have hk := Keeps.refl (fun _ => False) w
  have S := push_step (w' := w) R hk .nil ⟨e, sz, [], true, true⟩ (fun bk c e => by cases e)
  have R' := push_hrel R hk .nil ⟨e, sz, [], true, true⟩ (fun bk c e => by cases e) (fun bk c e => by cases e) ⟨rfl, hz⟩
  refine ⟨β ++ [.nil], R', S0.trans S, fun k => ?_, fun g => (G g).keep (fun b hb hn => S.keeps.block b hb (fun hm => hn (.inr hm))) S.keeps.size (fun b hb => S.mu b hb), hN, hdef⟩
  simp only [getA]
  split
  · rename_i e0
    subst e0
    have h1 := Tr t
    simp only at h1
    rw [ht] at h1
    obtain ⟨a0, cap, val, h2, h3, h4, h5, _⟩ := repD_slice (rep_slice h1)
    rw [h2]
    have hcap := h5 rfl
    simp only [List.length_nil] at hcap
    refine .own H.length 0 a0 cap ⟨e, sz, [], true, true⟩ (getElem?_snoc_new H _) (Nat.le_refl _) (.inl rfl) (Nat.zero_le _) fun _ => ?_
    rw [← R.len, getElem?_snoc_new]
    exact ⟨rfl, hcap⟩
  · exact (Tr k).keep S

/-- A block is closed, and a slot that holds its slice reads its contents. -/
theorem weak_view {ρ : List (Nat × AV)} {H : List Blk} (t : Nat) : Weak C N h0 ⟨ρ, H⟩ ⟨(t, view H 6 (getA ρ t)) :: ρ, frzL (reach H 6 (getA ρ t)) 0 H⟩ := by
  intro X w0 β0 H0 a w hl hr
  obtain ⟨β, R, S0, Tr, G, hN, hdef⟩ := hr
  have S := frz_step R (reach H 6 (getA ρ t))
  refine ⟨β, frz_hrel R _, S0.trans S, fun k => ?_, fun g => (G g).keep (fun b hb hn => S.keeps.block b hb (fun hm => hn (.inr hm))) S.keeps.size (fun b hb => S.mu b hb), hN, hdef⟩
  simp only [getA]
  split
  · rename_i e
    subst e
    exact .deep ((view_sound R (fun l => l ∈ reach H 6 (getA ρ t)) 6 (Tr t) (fun l hl => hl)).mono fun b _ hb => XL_frz hb)
  · exact (Tr k).keep S

/-! ### Contracts out of conditions -/
def nrmV : AV → AV
  | .agg cs => .agg (cs.map nrmC)
  | .tup cs => .tup (cs.map fun c => match c with | .agg ds => .agg (ds.map nrmC) | c => nrmC c)
  | v => nrmC v

theorem repD_aggN {w : World} {X : Nat → Prop} {v : Value} {cs : List AV} (h : RepD w X v (.agg cs)) : RepD w X v (.agg (cs.map nrmC)) := by
  cases h with
  | agg as _ val hl hm hv =>
    refine .agg as _ val (by simp [hl]) (fun j hj => hm j (by simpa using hj)) fun j u hj => ?_
    rw [List.getElem?_map] at hj
    simp only [Option.map_eq_some_iff] at hj
    obtain ⟨c, hc, rfl⟩ := hj
    exact repD_nrmC (hv j c hc)

theorem repD_nrmV {w : World} {X : Nat → Prop} {v : Value} {av : AV} (h : RepD w X v av) : RepD w X v (nrmV av) := by
  cases av with
  | agg cs => exact repD_aggN h
  | tup cs =>
    cases h with
    | tup as _ val hl hm hv =>
      refine .tup as _ val (by simp [hl]) (fun j hj => hm j (by simpa using hj)) fun j u hj => ?_
      rw [List.getElem?_map] at hj
      simp only [Option.map_eq_some_iff] at hj
      obtain ⟨c, hc, rfl⟩ := hj
      have hr := hv j c hc
      cases c with
      | agg ds => exact repD_aggN hr
      | _ => exact repD_nrmC hr
  | _ => exact repD_nrmC h

def ares (C : Ctx) (st : ASt) : ResultVar → Option (Prop × AV)
  | .tmp t => some (True, getA st.ρ t)
  | .cell a t => aload C st.H t (getA st.ρ a)

def aresList (C : Ctx) (st : ASt) : List ResultVar → Option (Prop × List AV)
  | [] => some (True, [])
  | r :: q => match ares C st r, aresList C st q with
    | some (ob, v), some (ob', vs) => some (ob ∧ ob', v :: vs)
    | _, _ => none

def aresults (C : Ctx) (st : ASt) (rs : List ResultVar) : Option (Prop × AV) :=
  match aresList C st rs with
  | some (ob, [v]) => some (ob, v)
  | some (ob, vs) => some (ob, .tup vs)
  | none => none

theorem loadAt_as {P : Program} {t : TypeId} {v u : Value} {w : World} (h : (Instr.loadAt t v).run P w = .ok u w) : (do loadVar t (← asAddr v) : Sem Value).run P w = .ok u w := by
  cases v with
  | pointer a =>
    cases a with
    | none => simp [Instr.loadAt, Instr.sureAddr] at h
    | some ad => simpa [Instr.loadAt, Instr.sureAddr, asAddr] using h
  | _ => simp [Instr.loadAt, Instr.sureAddr] at h

def resOf (tmps : Array Value) : ResultVar → Sem Value
  | .tmp t => pure (tmps.getD t undef)
  | .cell x t => do loadVar t (← asAddr (tmps.getD x undef))

theorem results_eq (fn : Func) (tmps : Array Value) : results fn tmps = (do let vs ← fn.results.mapM (resOf tmps); pure (if h : vs.size = 1 then vs[0] else .tuple vs)) := by
  unfold results
  congr 1

theorem ares_sound {w : World} {X : Nat → Prop} {β : List BI} {st : ASt} {a : Act} (R : HRel w X β st.H) (T : TRel w (Mu X β st.H) β st.H a st.ρ) {rv : ResultVar} {ob : Prop} {r : AV} (h : ares C st rv = some (ob, r)) (hob : ob) :
    ∃ u, (resOf a.tmps rv).run C.P w = .ok u w ∧ Rep w (Mu X β st.H) β st.H u r := by
  cases rv with
  | tmp t =>
    injection h with h; injection h with e1 e2; subst e1 e2
    exact ⟨_, rfl, T t⟩
  | cell x t =>
    obtain ⟨u, h1, h2⟩ := aload_sound R h hob (T x)
    exact ⟨u, loadAt_as h1, h2⟩

theorem aresList_sound {w : World} {X : Nat → Prop} {β : List BI} {st : ASt} {a : Act} (R : HRel w X β st.H) (T : TRel w (Mu X β st.H) β st.H a st.ρ) : ∀ (rs : List ResultVar) {ob : Prop} {vs : List AV}, aresList C st rs = some (ob, vs) → ob →
    ∃ us : List Value, (rs.mapM (resOf a.tmps)).run C.P w = .ok us w ∧ us.length = vs.length ∧ ∀ (j : Nat) (u : AV), vs[j]? = some u → ∃ v, us[j]? = some v ∧ Rep w (Mu X β st.H) β st.H v u
  | [], ob, vs, h, _ => by
    injection h with h; injection h with e1 e2; subst e1 e2
    exact ⟨[], by simp [List.mapM_nil], rfl, fun j u hj => by simp at hj⟩
  | r :: q, ob, vs, h, hob => by
    unfold aresList at h
    split at h
    · rename_i ob1 v ob2 vs' h1 h2
      injection h with h; injection h with e1 e2; subst e1 e2
      obtain ⟨u, k1, k2⟩ := ares_sound R T h1 hob.1
      obtain ⟨us, k3, k4, k5⟩ := aresList_sound R T q h2 hob.2
      refine ⟨u :: us, ?_, by simp [k4], fun j x hj => ?_⟩
      · rw [List.mapM_cons, Sem.run_bind]
        rw [k1]
        simp only [Result.andThen_ok, Sem.run_bind]
        rw [k3]
        rfl
      · match j with
        | 0 => simp at hj; subst hj; exact ⟨u, rfl, k2⟩
        | j + 1 => exact k5 j x (by simpa using hj)
    · cases h

theorem aresults_sound {w : World} {X : Nat → Prop} {β : List BI} {st : ASt} {a : Act} (R : HRel w X β st.H) (T : TRel w (Mu X β st.H) β st.H a st.ρ) {fn : Func} {ob : Prop} {r : AV} (h : aresults C st fn.results.toList = some (ob, r)) (hob : ob) :
    ∃ u, (results fn a.tmps).run C.P w = .ok u w ∧ Rep w (Mu X β st.H) β st.H u r := by
  unfold aresults at h
  have key : ∀ ob vs, aresList C st fn.results.toList = some (ob, vs) → ob → ∃ us : List Value, (results fn a.tmps).run C.P w = .ok (if h : us.toArray.size = 1 then us.toArray[0] else .tuple us.toArray) w ∧ us.length = vs.length ∧ ∀ (j : Nat) (u : AV), vs[j]? = some u → ∃ v, us[j]? = some v ∧ Rep w (Mu X β st.H) β st.H v u := by
    intro ob vs hl hob
    obtain ⟨us, h1, h2, h3⟩ := aresList_sound R T fn.results.toList hl hob
    refine ⟨us, ?_, h2, h3⟩
    rw [results_eq, Array.mapM_eq_mapM_toList, map_eq_pure_bind, bind_assoc, Sem.run_bind]
    simp only [pure_bind]
    rw [h1]
    rfl
  split at h
  · rename_i ob' v hl
    injection h with h; injection h with e1 e2; subst e1 e2
    obtain ⟨us, h1, h2, h3⟩ := key _ _ hl hob
    obtain ⟨u, hu, hr⟩ := h3 0 v rfl
    match us, h2, hu with
    | [x], _, hu =>
      simp at hu
      subst hu
      exact ⟨x, h1, hr⟩
  · rename_i ob' vs hne hl
    injection h with h; injection h with e1 e2; subst e1 e2
    obtain ⟨us, h1, h2, h3⟩ := key _ _ hl hob
    have hn : us.toArray.size ≠ 1 := by
      intro e
      simp at e
      rw [e] at h2
      obtain ⟨y, rfl⟩ := List.length_eq_one_iff.1 h2.symm
      exact hne y rfl
    rw [dif_neg hn] at h1
    refine ⟨_, h1, .tup us.toArray vs (fun j => us.getD j undef) (by simpa using h2) (fun j hj => ?_) (fun j u hj => ?_)⟩
    · obtain ⟨v, hv, _⟩ := h3 j _ (List.getElem?_eq_getElem hj)
      simp [List.getD_eq_getElem?_getD, hv]
    · obtain ⟨v, hv, hr⟩ := h3 j u hj
      rw [List.getD_eq_getElem?_getD, hv]
      exact hr
  · cases h

def argsρ : Nat → List AV → List (Nat × AV)
  | _, [] => []
  | i, v :: r => (i, v) :: argsρ (i + 1) r

theorem argsρ_get : ∀ (vs : List AV) (i t : Nat), getA (argsρ i vs) t = if i ≤ t ∧ t < i + vs.length then vs.getD (t - i) .undef else .undef
  | [], i, t => by simp [argsρ, getA]
  | v :: r, i, t => by
    simp only [argsρ, getA, argsρ_get r (i + 1) t, List.length_cons]
    by_cases e : i = t
    · subst e
      rw [if_pos rfl, if_pos (by omega)]
      simp
    · rw [if_neg e]
      by_cases h : i + 1 ≤ t ∧ t < i + 1 + r.length
      · rw [if_pos h, if_pos (by omega), show t - i = (t - (i + 1)) + 1 by omega]
        rfl
      · rw [if_neg h, if_neg (by omega)]

theorem trel_args {w : World} {Y : Nat → Prop} {β : List BI} {H : List Blk} {args : Array Value} {avs : List AV} {n : Nat} (hsz : args.size = avs.length) (h : ∀ (j : Nat) (u : AV), avs[j]? = some u → ∃ v, args[j]? = some v ∧ Rep w Y β H v u) :
    TRel w Y β H { tmps := args ++ Array.replicate (n - args.size) undef, defers := [] } (argsρ 0 avs) := by
  intro t
  rw [argsρ_get]
  split
  · rename_i ht
    have ht' : t < avs.length := by omega
    obtain ⟨v, hv, hr⟩ := h t _ (List.getElem?_eq_getElem ht')
    simp only [Nat.sub_zero]
    rw [List.getD_eq_getElem?_getD, List.getElem?_eq_getElem ht', Array.getD_eq_getD_getElem?, Array.getElem?_append_left (by omega), hv]
    exact hr
  · exact rep_undef

/-- A function that leaves all as it is but for what it makes: its contract out of its body's condition. -/
theorem pure_of_avc (hS : SigOK C) (hM : C.P.follows .mixedOrders = true) {f : FuncId} {fn : Func} {body : Code} (hf : C.P.funcs[f]? = some fn) (hb : fn.body = some body) (hok : codeOK C fn.ntmps body = true) {p : List AV → Option (Prop × AV)}
    (h : ∀ avs ob r, p avs = some (ob, r) → ob → avs.length ≤ fn.ntmps ∧ avc C fn.ntmps 0 body ⟨argsρ 0 avs, []⟩ fun ex st' => (ex = .normal ∨ ex = .ret) ∧ ∃ ob' r', aresults C st' fn.results.toList = some (ob', r') ∧ ob' ∧ nrmV (view st'.H 6 r') = r) : PureOK C.P C.G f p := by
  intro w X args avs ob r hX hG hsz harg hp hob
  obtain ⟨hlen, hav⟩ := h avs ob r hp hob
  refine calls_of_wp hf hb ?_
  have hMu : ∀ b, Mu X [] [] b → X b := by
    rintro b (h | ⟨l, c, blk, h1, _, _⟩)
    · exact h
    · simp at h1
  have R : HRel w X [] [] := ⟨rfl, fun l bi b h1 _ => by simp at h1, fun l b c h1 => by simp at h1, fun l l' b c c' h1 => by simp at h1, hX⟩
  have hr : Rel C fn.ntmps X w [] [] ⟨argsρ 0 avs, []⟩ { tmps := args ++ Array.replicate (fn.ntmps - args.size) undef, defers := [] } w :=
    ⟨[], R, StepR.refl _ _ _ rfl, trel_args hsz (fun j u hj => let ⟨v, h1, h2⟩ := harg j u hj; ⟨v, h1, .deep (h2.mono fun b _ hb => hMu b hb)⟩), fun g => (hG g).mono fun b _ hb => hMu b hb, by simp; omega, rfl⟩
  refine Code.wp_mono (fun ex a' w' ⟨st', hq, hr'⟩ => ?_) (avc_sound hS hM body hok hav X w [] [] _ w rfl hr)
  obtain ⟨hex, ob', r', hres, hob', hview⟩ := hq
  obtain ⟨β', R', S', T', G', hN', hdef'⟩ := hr'
  obtain ⟨u, hu, hrep⟩ := aresults_sound R' T' hres hob'
  have hv := (view_sound R' (fun _ => True) 6 hrep (fun _ _ => trivial)).mono (X' := X) fun b _ hb => .inl hb
  have hv := repD_nrmV hv
  rw [hview] at hv
  have hpost : bodyPost C.P fn (fun e w' => ∃ v, e = .returned v ∧ Keeps (fun _ => False) w w' ∧ RepD w' X v r) .normal a' w' :=
    ⟨hdef', u, hu, u, rfl, S'.keeps.weaken (fun b _ h => by obtain ⟨l, c, blk, h1, _, _⟩ := h; simp at h1), hv⟩
  rcases hex with rfl | rfl
  · exact hpost
  · exact hpost

/-- A function that may change the caller's blocks. -/
theorem gen_of_avc (hS : SigOK C) (hM : C.P.follows .mixedOrders = true) {f : FuncId} {fn : Func} {body : Code} (hf : C.P.funcs[f]? = some fn) (hb : fn.body = some body) (hok : codeOK C fn.ntmps body = true) {g : List AV → List Blk → Option (Prop × AV × List Blk)}
    (h : ∀ avs H ob r H', g avs H = some (ob, r, H') → ob → avs.length ≤ fn.ntmps ∧ avc C fn.ntmps H.length body ⟨argsρ 0 avs, H⟩ fun ex st' => (ex = .normal ∨ ex = .ret) ∧ ∃ ob' , aresults C st' fn.results.toList = some (ob', r) ∧ ob' ∧ st'.H = H') : GenOK C.P C.G f g := by
  intro w X β H args avs ob r H' R hG hsz harg hp hob
  obtain ⟨hlen, hav⟩ := h avs H ob r H' hp hob
  refine calls_of_wp hf hb ?_
  have hr : Rel C fn.ntmps X w β H ⟨argsρ 0 avs, H⟩ { tmps := args ++ Array.replicate (fn.ntmps - args.size) undef, defers := [] } w :=
    ⟨β, R, StepR.refl _ _ _ R.len, trel_args hsz harg, hG, by simp; omega, rfl⟩
  refine Code.wp_mono (fun ex a' w' ⟨st', hq, hr'⟩ => ?_) (avc_sound hS hM body hok hav X w β H _ w rfl hr)
  obtain ⟨hex, ob', hres, hob', hH⟩ := hq
  obtain ⟨β', R', S', T', G', hN', hdef'⟩ := hr'
  obtain ⟨u, hu, hrep⟩ := aresults_sound R' T' hres hob'
  subst hH
  have hpost : bodyPost C.P fn (fun e w' => ∃ v β', e = .returned v ∧ HRel w' X β' st'.H ∧ StepR w β H w' β' st'.H ∧ Rep w' (Mu X β' st'.H) β' st'.H v r) .normal a' w' :=
    ⟨hdef', u, hu, u, β', rfl, R', S', hrep⟩
  rcases hex with rfl | rfl
  · exact hpost
  · exact hpost

end
end Go.Proofs.YtfoipbjhaiimlaaDoor

/-
  Typed contracts: what a plain value of Lean's reads as; contexts as lists. Own work; no program in sight.
-/
namespace Go.Proofs.YtfoipbjhaiimlaaDoor
open Go.RowKit

/-- A type of plain values and how they read. -/
class Enc (α : Type) where
  sz : Nat
  cells : α → List AV
  enc : α → AV
  unc : List AV → α
  dec : AV → α
  unc_cells : ∀ x, unc (cells x) = x
  dec_enc : ∀ x, dec (enc x) = x

instance : Enc Int where
  sz := 1
  cells n := [.int .i64 n]
  enc n := .int .i64 n
  unc l := match l with | [.int _ n] => n | _ => 0
  dec v := match v with | .int _ n => n | _ => 0
  unc_cells _ := rfl
  dec_enc _ := rfl

instance : Enc Bool where
  sz := 1
  cells n := [.bool n]
  enc n := .bool n
  unc l := match l with | [.bool n] => n | _ => false
  dec v := match v with | .bool n => n | _ => false
  unc_cells _ := rfl
  dec_enc _ := rfl

instance : Enc ByteArray where
  sz := 1
  cells n := [.str n]
  enc n := .str n
  unc l := match l with | [.str n] => n | _ => ByteArray.empty
  dec v := match v with | .str n => n | _ => ByteArray.empty
  unc_cells _ := rfl
  dec_enc _ := rfl

/-- A byte. -/
instance : Enc UInt8 where
  sz := 1
  cells n := [.int .u8 n.toNat]
  enc n := .int .u8 n.toNat
  unc l := match l with | [.int _ n] => UInt8.ofNat n.toNat | _ => 0
  dec v := match v with | .int _ n => UInt8.ofNat n.toNat | _ => 0
  unc_cells n := by simp
  dec_enc n := by simp

def encRows {α : Type} [Enc α] (l : List α) : List (List AV) := l.map Enc.cells

instance {α : Type} [Enc α] : Enc (List α) where
  sz := 1
  cells l := [.slice (Enc.sz α) false (l.map Enc.cells)]
  enc l := .slice (Enc.sz α) false (l.map Enc.cells)
  unc c := match c with | [.slice _ _ rows] => rows.map Enc.unc | _ => []
  dec v := match v with | .slice _ _ rows => rows.map Enc.unc | _ => []
  unc_cells l := by simp [Function.comp_def, Enc.unc_cells]
  dec_enc l := by simp [Function.comp_def, Enc.unc_cells]

/-- The i-th element, or some element. -/
def ix {α : Type} [Inhabited α] (l : List α) (i : Nat) : α := l.getD i default
theorem ix_lt {α : Type} [Inhabited α] {l : List α} {i : Nat} (h : i < l.length) : ix l i = l[i] := by simp [ix, h]
theorem ix_mem {α : Type} [Inhabited α] {l : List α} {i : Nat} (h : i < l.length) : ix l i ∈ l := by rw [ix_lt h]; exact List.getElem_mem h

section
variable {α : Type} [Enc α]
@[simp] theorem sz_int : Enc.sz Int = 1 := rfl
@[simp] theorem sz_bool : Enc.sz Bool = 1 := rfl
@[simp] theorem sz_str : Enc.sz ByteArray = 1 := rfl
@[simp] theorem sz_u8 : Enc.sz UInt8 = 1 := rfl
@[simp] theorem sz_list : Enc.sz (List α) = 1 := rfl
@[simp] theorem cells_int (n : Int) : Enc.cells n = [.int .i64 n] := rfl
@[simp] theorem cells_bool (n : Bool) : Enc.cells n = [.bool n] := rfl
@[simp] theorem cells_str (n : ByteArray) : Enc.cells n = [.str n] := rfl
@[simp] theorem cells_list (l : List α) : Enc.cells l = [.slice (Enc.sz α) false (encRows l)] := rfl
@[simp] theorem enc_int (n : Int) : Enc.enc n = .int .i64 n := rfl
@[simp] theorem enc_bool (n : Bool) : Enc.enc n = .bool n := rfl
@[simp] theorem enc_str (n : ByteArray) : Enc.enc n = .str n := rfl
@[simp] theorem enc_list (l : List α) : Enc.enc l = .slice (Enc.sz α) false (encRows l) := rfl
@[simp] theorem encRows_length (l : List α) : (encRows l).length = l.length := by simp [encRows]
@[simp] theorem encRows_nil : encRows ([] : List α) = [] := rfl
theorem encRows_append (l m : List α) : encRows (l ++ m) = encRows l ++ encRows m := by simp [encRows]
@[simp] theorem encRows_cons (x : α) (l : List α) : encRows (x :: l) = Enc.cells x :: encRows l := rfl
theorem encRows_set (l : List α) (i : Nat) (x : α) : (encRows l).set i (Enc.cells x) = encRows (l.set i x) := by simp [encRows, List.map_set]
theorem rowAt_enc [Inhabited α] {l : List α} {i : Nat} (h : i < l.length) : rowAt (encRows l) i = Enc.cells (ix l i) := by
  rw [rowAt_get (by simpa using h)]
  simp [encRows, ix, h]
theorem encRows_take (l : List α) (i : Nat) : (encRows l).take i = encRows (l.take i) := by simp [encRows, List.map_take]
theorem encRows_drop (l : List α) (i : Nat) : (encRows l).drop i = encRows (l.drop i) := by simp [encRows, List.map_drop]
@[simp] theorem dec_list (sz : Nat) (f : Bool) (l : List α) : (Enc.dec (.slice sz f (encRows l)) : List α) = l := by
  show (encRows l).map Enc.unc = l
  simp [encRows, Function.comp_def, Enc.unc_cells]
@[simp] theorem dec_int (k : IntKind) (n : Int) : (Enc.dec (.int k n) : Int) = n := rfl
@[simp] theorem dec_bool (n : Bool) : (Enc.dec (.bool n) : Bool) = n := rfl
@[simp] theorem dec_str (n : ByteArray) : (Enc.dec (.str n) : ByteArray) = n := rfl
@[simp] theorem dec_nil (sz : Nat) (f : Bool) : (Enc.dec (.slice sz f []) : List α) = [] := rfl
end

/-! ### Contexts -/
def look : List (Nat × Entry) → Nat → Entry
  | [], _ => .no
  | (k, e) :: r, f => if k = f then e else look r f

def mkC (P : Program) (G : Nat → AV) (l : List (Nat × Entry)) : Ctx := ⟨P, look l, G⟩
@[simp] theorem mkC_P (P : Program) (G : Nat → AV) (l : List (Nat × Entry)) : (mkC P G l).P = P := rfl
@[simp] theorem mkC_S (P : Program) (G : Nat → AV) (l : List (Nat × Entry)) : (mkC P G l).S = look l := rfl
@[simp] theorem mkC_G (P : Program) (G : Nat → AV) (l : List (Nat × Entry)) : (mkC P G l).G = G := rfl

theorem sigOK_nil (P : Program) (G : Nat → AV) : SigOK (mkC P G []) := fun _ => trivial
theorem sigOK_cons {P : Program} {G : Nat → AV} {l : List (Nat × Entry)} {k : Nat} {e : Entry} (h : EntryOK P G k e) (hl : SigOK (mkC P G l)) : SigOK (mkC P G ((k, e) :: l)) := by
  intro f
  show EntryOK P G f (look ((k, e) :: l) f)
  unfold look
  split
  · rename_i h'; subst h'; exact h
  · exact hl f

theorem entryPure {P : Program} {G : Nat → AV} {f : FuncId} {fn : Func} {p : List AV → Option (Prop × AV)} (h : PureOK P G f p) (hf : P.funcs[f]? = some fn) (hb : fn.body.isSome = true) (hn : fn.name ≠ "runtime.NumGoroutine") : EntryOK P G f (.pure p) := .inl ⟨h, fn, hf, hn, hb⟩
theorem entryExt {P : Program} {G : Nat → AV} {f : FuncId} {p : List AV → Option (Prop × AV)} (h : ExtOK P f p) : EntryOK P G f (.pure p) := .inr h
theorem entryFrz {P : Program} {G : Nat → AV} {f : FuncId} {fn : Func} {p : List AV → Option (Prop × AV)} (h : PureOK P G f p) (hf : P.funcs[f]? = some fn) (hb : fn.body.isSome = true) (hn : fn.name ≠ "runtime.NumGoroutine") : EntryOK P G f (.frz p) := ⟨h, fn, hf, hn, hb⟩

/-! ### What a body must come to -/
def finP (C : Ctx) (rs : List ResultVar) (r : AV) (st : ASt) : Prop :=
  match aresults C st rs with
  | some (ob, r') => ob ∧ nrmV (view st.H 6 r') = r
  | none => False
def postP (C : Ctx) (rs : List ResultVar) (r : AV) : Exit → ASt → Prop
  | .normal, st => finP C rs r st
  | .ret, st => finP C rs r st
  | _, _ => False

/-- As pure_of_avc, the arguments without their marks. -/
theorem pure_of {C : Ctx} (hS : SigOK C) (hM : C.P.follows .mixedOrders = true) {f : FuncId} {fn : Func} {body : Code} {rs : List ResultVar} {n : Nat} (hf : C.P.funcs[f]? = some fn) (hb : fn.body = some body) (hrs : fn.results.toList = rs) (hn : fn.ntmps = n) (hok : codeOK C n body = true) {p : List AV → Option (Prop × AV)}
    (h : ∀ avs ob r, p avs = some (ob, r) → ob → avs.length ≤ n ∧ avc C n 0 body ⟨argsρ 0 (avs.map nrmV), []⟩ (postP C rs r)) : PureOK C.P C.G f p := by
  subst hrs hn
  intro w X args avs ob r hX hG hsz harg hp hob
  obtain ⟨hlen, hav⟩ := h avs ob r hp hob
  have := pure_of_avc (p := fun avs' => some (avs' = avs.map nrmV, r)) hS hM hf hb hok (fun avs' ob' r' hp' hob' => by
    injection hp' with hp'; injection hp' with e1 e2; subst e1 e2
    subst hob'
    refine ⟨by simpa using hlen, avc_mono body hav fun ex st' hq => ?_⟩
    have fin : finP C fn.results.toList r st' → ∃ ob' r', aresults C st' fn.results.toList = some (ob', r') ∧ ob' ∧ nrmV (view st'.H 6 r') = r := by
      unfold finP
      split
      · rename_i ob' r' hr; intro h; exact ⟨ob', r', hr, h.1, h.2⟩
      · intro h; exact h.elim
    cases ex with
    | normal => exact ⟨.inl rfl, fin hq⟩
    | ret => exact ⟨.inr rfl, fin hq⟩
    | _ => exact hq.elim)
  refine this w X args (avs.map nrmV) _ r hX hG (by simpa using hsz) (fun j u hu => ?_) rfl rfl
  rw [List.getElem?_map] at hu
  simp only [Option.map_eq_some_iff] at hu
  obtain ⟨av, hav, rfl⟩ := hu
  obtain ⟨v, h1, h2⟩ := harg j av hav
  exact ⟨v, h1, repD_nrmV h2⟩

/-! ### Contracts of typed functions -/
def spec0 (r : AV) : List AV → Option (Prop × AV)
  | [] => some (True, r)
  | _ => none
def spec1 {α : Type} [Enc α] (pre : α → Prop) (res : α → AV) : List AV → Option (Prop × AV)
  | [a] => some (nrmV a = Enc.enc (Enc.dec a : α) ∧ pre (Enc.dec a), res (Enc.dec a))
  | _ => none
def spec2 {α β : Type} [Enc α] [Enc β] (pre : α → β → Prop) (res : α → β → AV) : List AV → Option (Prop × AV)
  | [a, b] => some (nrmV a = Enc.enc (Enc.dec a : α) ∧ nrmV b = Enc.enc (Enc.dec b : β) ∧ pre (Enc.dec a) (Enc.dec b), res (Enc.dec a) (Enc.dec b))
  | _ => none
def spec3 {α β γ : Type} [Enc α] [Enc β] [Enc γ] (pre : α → β → γ → Prop) (res : α → β → γ → AV) : List AV → Option (Prop × AV)
  | [a, b, c] => some (nrmV a = Enc.enc (Enc.dec a : α) ∧ nrmV b = Enc.enc (Enc.dec b : β) ∧ nrmV c = Enc.enc (Enc.dec c : γ) ∧ pre (Enc.dec a) (Enc.dec b) (Enc.dec c), res (Enc.dec a) (Enc.dec b) (Enc.dec c))
  | _ => none
def spec4 {α β γ δ : Type} [Enc α] [Enc β] [Enc γ] [Enc δ] (pre : α → β → γ → δ → Prop) (res : α → β → γ → δ → AV) : List AV → Option (Prop × AV)
  | [a, b, c, d] => some (nrmV a = Enc.enc (Enc.dec a : α) ∧ nrmV b = Enc.enc (Enc.dec b : β) ∧ nrmV c = Enc.enc (Enc.dec c : γ) ∧ nrmV d = Enc.enc (Enc.dec d : δ) ∧ pre (Enc.dec a) (Enc.dec b) (Enc.dec c) (Enc.dec d), res (Enc.dec a) (Enc.dec b) (Enc.dec c) (Enc.dec d))
  | _ => none

section
variable {C : Ctx} (hS : SigOK C) (hM : C.P.follows .mixedOrders = true) {f : FuncId} {fn : Func} {body : Code} {rs : List ResultVar} {n : Nat} (hf : C.P.funcs[f]? = some fn) (hb : fn.body = some body) (hrs : fn.results.toList = rs) (hn : fn.ntmps = n)
include hS hM hf hb hrs hn

theorem pure0 (hok : codeOK C n body = true) {r : AV} (h : avc C n 0 body ⟨[], []⟩ (postP C rs r)) : PureOK C.P C.G f (spec0 r) :=
  pure_of hS hM hf hb hrs hn hok fun avs ob r' hp hob => by
    unfold spec0 at hp
    split at hp
    · injection hp with hp; injection hp with e1 e2; subst e1 e2
      exact ⟨Nat.zero_le _, h⟩
    · cases hp

theorem pure1 {α : Type} [Enc α] (hok : codeOK C n body = true) (hnn : 1 ≤ n) {pre : α → Prop} {res : α → AV} (h : ∀ a, pre a → avc C n 0 body ⟨[(0, Enc.enc a)], []⟩ (postP C rs (res a))) : PureOK C.P C.G f (spec1 pre res) :=
  pure_of hS hM hf hb hrs hn hok fun avs ob r' hp hob => by
    unfold spec1 at hp
    split at hp
    · injection hp with hp; injection hp with e1 e2; subst e1 e2
      refine ⟨hnn, ?_⟩
      have := h _ hob.2
      rw [← hob.1] at this
      exact this
    · cases hp

theorem pure2 {α β : Type} [Enc α] [Enc β] (hok : codeOK C n body = true) (hnn : 2 ≤ n) {pre : α → β → Prop} {res : α → β → AV} (h : ∀ a b, pre a b → avc C n 0 body ⟨[(0, Enc.enc a), (1, Enc.enc b)], []⟩ (postP C rs (res a b))) : PureOK C.P C.G f (spec2 pre res) :=
  pure_of hS hM hf hb hrs hn hok fun avs ob r' hp hob => by
    unfold spec2 at hp
    split at hp
    · injection hp with hp; injection hp with e1 e2; subst e1 e2
      refine ⟨hnn, ?_⟩
      have := h _ _ hob.2.2
      rw [← hob.1, ← hob.2.1] at this
      exact this
    · cases hp

theorem pure3 {α β γ : Type} [Enc α] [Enc β] [Enc γ] (hok : codeOK C n body = true) (hnn : 3 ≤ n) {pre : α → β → γ → Prop} {res : α → β → γ → AV} (h : ∀ a b c, pre a b c → avc C n 0 body ⟨[(0, Enc.enc a), (1, Enc.enc b), (2, Enc.enc c)], []⟩ (postP C rs (res a b c))) : PureOK C.P C.G f (spec3 pre res) :=
  pure_of hS hM hf hb hrs hn hok fun avs ob r' hp hob => by
    unfold spec3 at hp
    split at hp
    · injection hp with hp; injection hp with e1 e2; subst e1 e2
      refine ⟨hnn, ?_⟩
      have := h _ _ _ hob.2.2.2
      rw [← hob.1, ← hob.2.1, ← hob.2.2.1] at this
      exact this
    · cases hp

theorem pure4 {α β γ δ : Type} [Enc α] [Enc β] [Enc γ] [Enc δ] (hok : codeOK C n body = true) (hnn : 4 ≤ n) {pre : α → β → γ → δ → Prop} {res : α → β → γ → δ → AV} (h : ∀ a b c d, pre a b c d → avc C n 0 body ⟨[(0, Enc.enc a), (1, Enc.enc b), (2, Enc.enc c), (3, Enc.enc d)], []⟩ (postP C rs (res a b c d))) : PureOK C.P C.G f (spec4 pre res) :=
  pure_of hS hM hf hb hrs hn hok fun avs ob r' hp hob => by
    unfold spec4 at hp
    split at hp
    · injection hp with hp; injection hp with e1 e2; subst e1 e2
      refine ⟨hnn, ?_⟩
      have := h _ _ _ _ hob.2.2.2.2
      rw [← hob.1, ← hob.2.1, ← hob.2.2.1, ← hob.2.2.2.1] at this
      exact this
    · cases hp

end
end Go.Proofs.YtfoipbjhaiimlaaDoor

/-
  The rules by which simp reckons a body's condition, step by step, from the front. Own work; no program in sight.
-/
namespace Go.Proofs.YtfoipbjhaiimlaaDoor
open Go.RowKit

/-! ### Nothing is looked at before its turn (the mark: a congruence that changed nothing would be passed over) -/
def mark {α : Sort _} (x : α) : α := x
@[simp] theorem mark_eq {α : Sort _} (x : α) : mark x = x := by rw [mark]
@[congr] theorem avc_congr {C : Ctx} {N h0 : Nat} {code : Code} {st st' : ASt} {Q : Exit → ASt → Prop} (h : mark st = st') : avc C N h0 code st Q = avc C N h0 code st' Q := by rw [mark_eq] at h; rw [h]
@[congr] theorem aops_congr {C : Ctx} {ops : Array Oper} {l : List Oper} {st st' : ASt} {K : ASt → Prop} (h : mark st = st') : aops C ops l st K = aops C ops l st' K := by rw [mark_eq] at h; rw [h]
@[congr] theorem AW_congr {C : Ctx} {N h0 : Nat} {code : Code} {st st' : ASt} {Q : Exit → ASt → Prop} (h : mark st = st') : AW C N h0 code st Q = AW C N h0 code st' Q := by rw [mark_eq] at h; rw [h]

@[congr] theorem lazy_astep {C : Ctx} {st st' : ASt} {o : Oper} (h : mark st = st') : astep C st o = astep C st' o := by rw [mark_eq] at h; rw [h]
@[congr] theorem lazy_wantG {ops : Array Oper} {ρ ρ' : List (Nat × AV)} {o : Oper} (h : mark ρ = ρ') : wantG ops ρ o = wantG ops ρ' o := by rw [mark_eq] at h; rw [h]
/-- Where the j-th operation puts its value. -/
def dstAt : List Oper → Nat → Option Tmp
  | [], _ => none
  | o :: _, 0 => o.dst
  | _ :: r, j + 1 => dstAt r j
@[congr] theorem dstAt_congr {l : List Oper} {j j' : Nat} (h : mark j = j') : dstAt l j = dstAt l j' := by rw [mark_eq] at h; rw [h]
@[simp] theorem dstAt_zero (d : Option Tmp) (op : Op) (ty : TypeId) (p : String) (af : Array Edge) (g : Option (Nat × Bool)) (r : List Oper) : dstAt (⟨d, op, ty, p, af, g⟩ :: r) 0 = d := rfl
@[simp] theorem dstAt_succ (o : Oper) (r : List Oper) (j : Nat) : dstAt (o :: r) (j + 1) = dstAt r j := rfl
theorem dstAt_eq : ∀ (l : List Oper) (j : Nat), dstAt l j = (l[j]?).bind (·.dst)
  | [], _ => rfl
  | _ :: _, 0 => rfl
  | _ :: r, j + 1 => by rw [dstAt, dstAt_eq r j, List.getElem?_cons_succ]

def thenD (o : Option (Prop × AV × List Blk)) (K : Prop → AV → List Blk → Prop) : Prop :=
  match o with
  | some (ob, v, H) => K ob v H
  | none => False
@[congr] theorem thenD_congr {o o' : Option (Prop × AV × List Blk)} {K : Prop → AV → List Blk → Prop} (h : mark o = o') : thenD o K = thenD o' K := by rw [mark_eq] at h; rw [h]
@[simp] theorem thenD_some (ob : Prop) (v : AV) (H : List Blk) (K : Prop → AV → List Blk → Prop) : thenD (some (ob, v, H)) K = K ob v H := rfl
@[simp] theorem thenD_none (K : Prop → AV → List Blk → Prop) : thenD none K = False := rfl

def thenG (o : Option Bool) (K : Bool → Prop) : Prop :=
  match o with
  | some g => K g
  | none => False
@[congr] theorem thenG_congr {o o' : Option Bool} {K : Bool → Prop} (h : mark o = o') : thenG o K = thenG o' K := by rw [mark_eq] at h; rw [h]
@[simp] theorem thenG_some (g : Bool) (K : Bool → Prop) : thenG (some g) K = K g := rfl
@[simp] theorem thenG_none (K : Bool → Prop) : thenG none K = False := rfl

def both (g : Bool) (A B : Prop) : Prop := (g = true → A) ∧ (g = false → B)
@[congr] theorem both_congr {g g' : Bool} {A B : Prop} (h : mark g = g') : both g A B = both g' A B := by rw [mark_eq] at h; rw [h]
theorem both_intro {g : Bool} {A B : Prop} (h : g = true → A) (h' : g = false → B) : both g A B := ⟨h, h'⟩
@[simp] theorem both_true (A B : Prop) : both true A B = A := by simp [both]
@[simp] theorem both_false (A B : Prop) : both false A B = B := by simp [both]

def onBool (v : AV) (K : Bool → Prop) : Prop :=
  match v with
  | .bool x => K x
  | .anyb => K true ∧ K false
  | _ => False
@[congr] theorem onBool_congr {v v' : AV} {K : Bool → Prop} (h : mark v = v') : onBool v K = onBool v' K := by rw [mark_eq] at h; rw [h]
@[simp] theorem onBool_bool (x : Bool) (K : Bool → Prop) : onBool (.bool x) K = K x := rfl
@[simp] theorem onBool_anyb (K : Bool → Prop) : onBool .anyb K = (K true ∧ K false) := rfl

section
variable {C : Ctx} {N h0 : Nat}

@[simp] theorem aops_nil (ops : Array Oper) (st : ASt) (K : ASt → Prop) : aops C ops [] st K = K st := rfl
@[simp] theorem aops_cons (ops : Array Oper) (o : Oper) (r : List Oper) (st : ASt) (K : ASt → Prop) : aops C ops (o :: r) st K =
    thenG (wantG ops st.ρ o) fun g => both g (thenD (astep C st o) fun ob v H' => ob ∧ aops C ops r ⟨putA st.ρ o.dst v, H'⟩ K) (aops C ops r ⟨putA st.ρ o.dst (.tup []), st.H⟩ K) := by
  rw [aops]
  cases wantG ops st.ρ o with
  | none => rfl
  | some g =>
    simp only [thenG_some, both]
    cases astep C st o with
    | none => rfl
    | some x => rfl

def goOn (K : ASt → Prop) (Q : Exit → ASt → Prop) (ex : Exit) (st : ASt) : Prop := match ex with | .normal => K st | e => Q e st
@[congr] theorem lazy_goOn {K : ASt → Prop} {Q : Exit → ASt → Prop} {ex ex' : Exit} {st st' : ASt} (h : mark ex = ex') (h' : st = st') : goOn K Q ex st = goOn K Q ex' st' := by rw [mark_eq] at h; rw [h, h']
@[simp] theorem goOn_normal (K : ASt → Prop) (Q : Exit → ASt → Prop) (st : ASt) : goOn K Q .normal st = K st := rfl
@[simp] theorem goOn_ret (K : ASt → Prop) (Q : Exit → ASt → Prop) (st : ASt) : goOn K Q .ret st = Q .ret st := rfl
@[simp] theorem goOn_exit (K : ASt → Prop) (Q : Exit → ASt → Prop) (st : ASt) (i : Nat) : goOn K Q (.exit i) st = Q (.exit i) st := rfl
def outOf (id : Nat) (Q : Exit → ASt → Prop) (ex : Exit) (st : ASt) : Prop := match ex with | .exit j => if j = id then Q .normal st else Q (.exit j) st | e => Q e st
@[congr] theorem lazy_outOf {id : Nat} {Q : Exit → ASt → Prop} {ex ex' : Exit} {st st' : ASt} (h : mark ex = ex') (h' : st = st') : outOf id Q ex st = outOf id Q ex' st' := by rw [mark_eq] at h; rw [h, h']
@[simp] theorem outOf_normal (id : Nat) (Q : Exit → ASt → Prop) (st : ASt) : outOf id Q .normal st = Q .normal st := rfl
@[simp] theorem outOf_ret (id : Nat) (Q : Exit → ASt → Prop) (st : ASt) : outOf id Q .ret st = Q .ret st := rfl
@[simp] theorem outOf_exit (id : Nat) (Q : Exit → ASt → Prop) (st : ASt) (i : Nat) : outOf id Q (.exit i) st = if i = id then Q .normal st else Q (.exit i) st := rfl
def inScope (Q : Exit → ASt → Prop) (ex : Exit) (st : ASt) : Prop := match ex with | .goto _ => False | e => Q e st
@[congr] theorem lazy_inScope {Q : Exit → ASt → Prop} {ex ex' : Exit} {st st' : ASt} (h : mark ex = ex') (h' : st = st') : inScope Q ex st = inScope Q ex' st' := by rw [mark_eq] at h; rw [h, h']
@[simp] theorem inScope_normal (Q : Exit → ASt → Prop) (st : ASt) : inScope Q .normal st = Q .normal st := rfl
@[simp] theorem inScope_ret (Q : Exit → ASt → Prop) (st : ASt) : inScope Q .ret st = Q .ret st := rfl
@[simp] theorem inScope_exit (Q : Exit → ASt → Prop) (st : ASt) (i : Nat) : inScope Q (.exit i) st = Q (.exit i) st := rfl

@[simp] theorem avc_skip (st : ASt) (Q : Exit → ASt → Prop) : avc C N h0 .skip st Q = Q .normal st := rfl
@[simp] theorem avc_region (id : Nat) (l : List Oper) (d : Bool) (st : ASt) (Q : Exit → ASt → Prop) : avc C N h0 (.region id l.toArray d) st Q = aops C l.toArray l st (Q .normal) := rfl
@[simp] theorem avc_seq (a b : Code) (st : ASt) (Q : Exit → ASt → Prop) : avc C N h0 (.seq a b) st Q = avc C N h0 a st (goOn (fun st' => avc C N h0 b st' Q) Q) := rfl
@[simp] theorem avc_cond (c : Operand) (a b : Code) (st : ASt) (Q : Exit → ASt → Prop) : avc C N h0 (.cond c a b) st Q = onBool (aev C st.ρ 0 c) fun x => both x (avc C N h0 a st Q) (avc C N h0 b st Q) := by
  show (match aev C st.ρ 0 c with | .bool x => (x = true → avc C N h0 a st Q) ∧ (x = false → avc C N h0 b st Q) | .anyb => avc C N h0 a st Q ∧ avc C N h0 b st Q | _ => False) = _
  cases aev C st.ρ 0 c <;> first | rfl | simp [onBool]
@[simp] theorem avc_block (id : Nat) (b : Code) (st : ASt) (Q : Exit → ASt → Prop) : avc C N h0 (.block id b) st Q = avc C N h0 b st (outOf id Q) := rfl
@[simp] theorem avc_exit (id : Nat) (st : ASt) (Q : Exit → ASt → Prop) : avc C N h0 (.exit id) st Q = Q (.exit id) st := rfl
@[simp] theorem avc_ret (st : ASt) (Q : Exit → ASt → Prop) : avc C N h0 .ret st Q = Q .ret st := rfl
@[simp] theorem avc_label (l : Nat) (st : ASt) (Q : Exit → ASt → Prop) : avc C N h0 (.label l) st Q = Q .normal st := rfl
@[simp] theorem avc_scope (b : Code) (st : ASt) (Q : Exit → ASt → Prop) : avc C N h0 (.scope b) st Q = avc C N h0 b st (inScope Q) := rfl
@[simp] theorem avc_loop (b : Code) (st : ASt) (Q : Exit → ASt → Prop) : avc C N h0 (.loop b) st Q = AW C N h0 (.loop b) st Q := rfl

@[congr] theorem lazy_postP {rs : List ResultVar} {r : AV} {ex ex' : Exit} {st st' : ASt} (h : mark ex = ex') (h' : st = st') : postP C rs r ex st = postP C rs r ex' st' := by rw [mark_eq] at h; rw [h, h']
@[simp] theorem postP_normal (rs : List ResultVar) (r : AV) (st : ASt) : postP C rs r .normal st = finP C rs r st := rfl
@[simp] theorem postP_ret (rs : List ResultVar) (r : AV) (st : ASt) : postP C rs r .ret st = finP C rs r st := rfl

/-- What a loop hands on. -/
def round {α : Type} (Sf : α → ASt) (pre : α → Prop) (lt : α → Prop) (N h0 : Nat) (C : Ctx) (Q : Exit → ASt → Prop) (ex : Exit) (st' : ASt) : Prop :=
  match ex with | .normal => ∃ x', pre x' ∧ lt x' ∧ Weak C N h0 st' (Sf x') | e => Q e st'
@[congr] theorem lazy_round {α : Type} {Sf : α → ASt} {pre lt : α → Prop} {Q : Exit → ASt → Prop} {ex ex' : Exit} {st st' : ASt} (h : mark ex = ex') (h' : st = st') : round Sf pre lt N h0 C Q ex st = round Sf pre lt N h0 C Q ex' st' := by rw [mark_eq] at h; rw [h, h']
@[simp] theorem round_normal {α : Type} (Sf : α → ASt) (pre : α → Prop) (lt : α → Prop) (Q : Exit → ASt → Prop) (st' : ASt) : round Sf pre lt N h0 C Q .normal st' = ∃ x', pre x' ∧ lt x' ∧ Weak C N h0 st' (Sf x') := rfl
@[simp] theorem round_ret {α : Type} (Sf : α → ASt) (pre : α → Prop) (lt : α → Prop) (Q : Exit → ASt → Prop) (st' : ASt) : round Sf pre lt N h0 C Q .ret st' = Q .ret st' := rfl
@[simp] theorem round_exit {α : Type} (Sf : α → ASt) (pre : α → Prop) (lt : α → Prop) (Q : Exit → ASt → Prop) (st' : ASt) (i : Nat) : round Sf pre lt N h0 C Q (.exit i) st' = Q (.exit i) st' := rfl

theorem loop_rule {α : Type} (hS : SigOK C) (hM : C.P.follows .mixedOrders = true) {body : Code} {st : ASt} {Q : Exit → ASt → Prop} (Sf : α → ASt) (pre : α → Prop) (m : α → Nat) (hok : codeOK C N body = true)
    (start : ∃ x, pre x ∧ Weak C N h0 st (Sf x)) (step : ∀ x, pre x → avc C N h0 body (Sf x) (round Sf pre (fun x' => m x' < m x) N h0 C Q)) : AW C N h0 (.loop body) st Q :=
  AW_loop hS hM hok Sf pre m start fun x hx => avc_mono body (step x hx) fun ex st' h => by cases ex <;> exact h

/-! ### Slots -/
@[simp] theorem getA_cons (k : Nat) (v : AV) (r : List (Nat × AV)) (i : Nat) : getA ((k, v) :: r) i = if k = i then v else getA r i := rfl
@[simp] theorem getA_nil (i : Nat) : getA [] i = .undef := rfl
@[simp] theorem putA_some (ρ : List (Nat × AV)) (d : Nat) (v : AV) : putA ρ (some d) v = (d, v) :: ρ := rfl
@[simp] theorem putA_none (ρ : List (Nat × AV)) (v : AV) : putA ρ none v = ρ := rfl
@[simp] theorem aev_tmp (ρ : List (Nat × AV)) (t i : Nat) : aev C ρ t (.tmp i) = getA ρ i := rfl
@[simp] theorem aev_func (ρ : List (Nat × AV)) (t f : Nat) : aev C ρ t (.func f) = .fn f [] := rfl
@[simp] theorem aev_global (ρ : List (Nat × AV)) (t g : Nat) : aev C ρ t (.global g) = gav (C.G g) := rfl
@[simp] theorem aev_bool (ρ : List (Nat × AV)) (t : Nat) (b : Bool) : aev C ρ t (.const (.bool b)) = .bool b := rfl
@[simp] theorem aev_int (ρ : List (Nat × AV)) (t : Nat) (k : IntKind) (n : Int) : aev C ρ t (.const (.int k n)) = .int k n := rfl
@[simp] theorem aev_str (ρ : List (Nat × AV)) (t : Nat) (s : ByteArray) : aev C ρ t (.const (.string s)) = .str s := rfl
@[simp] theorem aev_nilslice (ρ : List (Nat × AV)) (t : Nat) : aev C ρ t (.const (.slice none 0 0)) = match elT C.P t with | some e => .slice (szT C.P e) true [] | none => .undef := rfl
@[simp] theorem aev_nilptr (ρ : List (Nat × AV)) (t : Nat) : aev C ρ t (.const (.pointer none)) = .nilptr := rfl
@[simp] theorem wantG_none (ops : Array Oper) (ρ : List (Nat × AV)) (dst : Option Tmp) (op : Op) (ty : TypeId) (pos : String) (after : Array Edge) : wantG ops ρ ⟨dst, op, ty, pos, after, none⟩ = some true := rfl
def guardV (v : AV) (want : Bool) : Option Bool := match v with | .bool b => some (b == want) | .tup [] => some false | _ => none
@[simp] theorem guardV_bool (b want : Bool) : guardV (.bool b) want = some (b == want) := rfl
@[simp] theorem guardV_skip (want : Bool) : guardV (.tup []) want = some false := rfl
def guardD (ρ : List (Nat × AV)) (o : Option Tmp) (want : Bool) : Option Bool := match o with | some d => guardV (getA ρ d) want | none => none
@[simp] theorem guardD_some (ρ : List (Nat × AV)) (d : Tmp) (want : Bool) : guardD ρ (some d) want = guardV (getA ρ d) want := rfl
@[simp] theorem wantG_some (l : List Oper) (ρ : List (Nat × AV)) (dst : Option Tmp) (op : Op) (ty : TypeId) (pos : String) (after : Array Edge) (j : Nat) (want : Bool) : wantG l.toArray ρ ⟨dst, op, ty, pos, after, some (j, want)⟩ = guardD ρ (dstAt l j) want := by
  unfold wantG guardD
  simp only [List.getElem?_toArray, dstAt_eq]
  cases (l[j]?).bind (·.dst) with
  | none => rfl
  | some d =>
    simp only
    cases getA ρ d with
    | tup vs => cases vs <;> rfl
    | _ => rfl

/-! ### Operations -/
def lift (H : List Blk) (o : Option (Prop × AV)) : Option (Prop × AV × List Blk) := match o with | some (ob, v) => some (ob, v, H) | none => none
@[simp] theorem lift_some (H : List Blk) (ob : Prop) (v : AV) : lift H (some (ob, v)) = some (ob, v, H) := rfl
@[simp] theorem lift_none (H : List Blk) : lift H none = none := rfl

variable (ρ : List (Nat × AV)) (H : List Blk) (d : Option Tmp) (ty : TypeId) (p : String) (af : Array Edge) (g : Option (Nat × Bool))

@[simp] theorem astep_move (x : Operand) : astep C ⟨ρ, H⟩ ⟨d, .move x, ty, p, af, g⟩ = some (True, aev C ρ ty x, H) := rfl
@[simp] theorem astep_assign (x : Operand) : astep C ⟨ρ, H⟩ ⟨d, .assign x, ty, p, af, g⟩ = some (True, aev C ρ ty x, H) := rfl
@[simp] theorem astep_pick (c a b : Operand) : astep C ⟨ρ, H⟩ ⟨d, .pick c a b, ty, p, af, g⟩ = lift H (apick (aev C ρ 0 c) (aev C ρ ty a) (aev C ρ ty b)) := rfl
@[simp] theorem isNilC_tmp (i : Nat) : isNilC (.tmp i) = false := rfl
@[simp] theorem isNilC_global (i : Nat) : isNilC (.global i) = false := rfl
@[simp] theorem isNilC_func (i : Nat) : isNilC (.func i) = false := rfl
@[simp] theorem isNilC_bool (b : Bool) : isNilC (.const (.bool b)) = false := rfl
@[simp] theorem isNilC_int (k : IntKind) (n : Int) : isNilC (.const (.int k n)) = false := rfl
@[simp] theorem isNilC_str (s : ByteArray) : isNilC (.const (.string s)) = false := rfl
@[simp] theorem isNilC_ptr : isNilC (.const (.pointer none)) = false := rfl
@[simp] theorem isNilC_nil : isNilC (.const (.slice none 0 0)) = true := rfl
@[simp] theorem astep_binOp (op : BinOp) (t : TypeId) (x y : Operand) (t' : TypeId) : astep C ⟨ρ, H⟩ ⟨d, .binOp op t x y t', ty, p, af, g⟩ = lift H (if isNilC y then abinN C op t (aev C ρ t x) else abin C op t (aev C ρ t x) (aev C ρ t' y)) := rfl
@[simp] theorem astep_unOp (op : UnOp) (t : TypeId) (x : Operand) : astep C ⟨ρ, H⟩ ⟨d, .unOp op t x, ty, p, af, g⟩ = lift H (aun op (aev C ρ ty x)) := rfl
@[simp] theorem astep_convert (s t : TypeId) (x : Operand) : astep C ⟨ρ, H⟩ ⟨d, .convert s t x, ty, p, af, g⟩ = match elT C.P s with | some _ => lift H (abytesStr C H s t (aev C ρ s x)) | none => lift H (aconv C s t (aev C ρ s x)) := by
  unfold astep kindOf
  simp only
  cases elT C.P s <;> rfl
@[simp] theorem astep_field (t : TypeId) (x : Operand) (k : Nat) : astep C ⟨ρ, H⟩ ⟨d, .field t x k, ty, p, af, g⟩ = lift H (afield C t (aev C ρ t x) k) := rfl
@[simp] theorem astep_fieldAddr (t : TypeId) (x : Operand) (k : Nat) : astep C ⟨ρ, H⟩ ⟨d, .fieldAddr t x k, ty, p, af, g⟩ = lift H (afieldAddr C t (aev C ρ 0 x) k) := rfl
@[simp] theorem astep_indexAddr (t : TypeId) (x i : Operand) : astep C ⟨ρ, H⟩ ⟨d, .indexAddr t x i, ty, p, af, g⟩ = lift H (aindexAddr C t (aev C ρ t x) (aev C ρ 0 i)) := rfl
@[simp] theorem astep_index (t : TypeId) (x i : Operand) : astep C ⟨ρ, H⟩ ⟨d, .index t x i, ty, p, af, g⟩ = lift H (aindex C t (aev C ρ t x) (aev C ρ 0 i)) := rfl
@[simp] theorem astep_slice (t : TypeId) (x : Operand) (l h m : Option Operand) : astep C ⟨ρ, H⟩ ⟨d, .slice t x l h m, ty, p, af, g⟩ = lift H (aslice C t (aev C ρ t x) (l.map (aev C ρ 0)) (h.map (aev C ρ 0)) (m.map (aev C ρ 0))) := rfl
def aextract (v : AV) (k : Nat) : Option (Prop × AV) := match v with | .tup vs => (match vs[k]? with | some v => some (True, v) | none => none) | _ => none
@[simp] theorem aextract_tup (vs : List AV) (k : Nat) : aextract (.tup vs) k = match vs[k]? with | some v => some (True, v) | none => none := rfl
@[simp] theorem astep_extract (x : Operand) (k : Nat) : astep C ⟨ρ, H⟩ ⟨d, .extract x k, ty, p, af, g⟩ = lift H (aextract (aev C ρ 0 x) k) := rfl
@[simp] theorem astep_makeFunc (f : FuncId) (cap : Array Operand) : astep C ⟨ρ, H⟩ ⟨d, .makeFunc (.func f) #[] cap, ty, p, af, g⟩ = some (True, .fn f (cap.toList.map (aev C ρ 0)), H) := rfl
def anil (v : AV) : Option (Prop × AV) := match v with | .ptr l n sz i f => some (True, .ptr l n sz i f) | .iptr cs => some (True, .iptr cs) | .fn f cap => some (True, .fn f cap) | _ => none
@[simp] theorem anil_ptr (l n sz i f : Nat) : anil (.ptr l n sz i f) = some (True, .ptr l n sz i f) := rfl
@[simp] theorem anil_iptr (cs : List AV) : anil (.iptr cs) = some (True, .iptr cs) := rfl
@[simp] theorem anil_fn (f : FuncId) (cs : List AV) : anil (.fn f cs) = some (True, .fn f cs) := rfl
@[simp] theorem astep_nilCheck (x : Operand) : astep C ⟨ρ, H⟩ ⟨d, .nilCheck x, ty, p, af, g⟩ = lift H (anil (aev C ρ 0 x)) := by
  unfold astep kindOf apure anil
  simp only
  cases aev C ρ 0 x <;> rfl
@[simp] theorem astep_lookup (t : TypeId) (m x : Operand) (ok : Bool) : astep C ⟨ρ, H⟩ ⟨d, .lookup t m x ok, ty, p, af, g⟩ = lift H (alook C t (aev C ρ t m) (aev C ρ 0 x) ok) := rfl
@[simp] theorem astep_build (t : TypeId) (ps : Array (Nat × Operand)) : astep C ⟨ρ, H⟩ ⟨d, .build t ps, ty, p, af, g⟩ = lift H (abuild C ρ t ps.toList) := rfl
@[simp] theorem astep_load (t : TypeId) (x : Operand) : astep C ⟨ρ, H⟩ ⟨d, .load t x, ty, p, af, g⟩ = lift H (aload C H t (aev C ρ 0 x)) := rfl
@[simp] theorem astep_alloc (t : TypeId) : astep C ⟨ρ, H⟩ ⟨d, .alloc t, ty, p, af, g⟩ = anew C H t (zT C.P t) := rfl
@[simp] theorem astep_box (t : TypeId) (x : Operand) : astep C ⟨ρ, H⟩ ⟨d, .box t x, ty, p, af, g⟩ = anew C H t (cellsOf C t (aev C ρ t x)) := rfl
@[simp] theorem astep_store (t : TypeId) (x y : Operand) : astep C ⟨ρ, H⟩ ⟨d, .store t x y, ty, p, af, g⟩ = astore C H t (aev C ρ 0 x) (aev C ρ t y) := rfl
@[simp] theorem astep_makeSlice (t : TypeId) (x y : Operand) : astep C ⟨ρ, H⟩ ⟨d, .makeSlice t x y, ty, p, af, g⟩ = amake C H t (aev C ρ 0 x) (aev C ρ 0 y) := rfl
@[simp] theorem astep_len (x : Operand) (t : TypeId) : astep C ⟨ρ, H⟩ ⟨d, .call ⟨.builtin .len, #[x], #[t]⟩, ty, p, af, g⟩ = lift H (alen C t (aev C ρ t x)) := rfl
def lift1 (H : List Blk) (o : Option AV) : Option (Prop × AV × List Blk) := match o with | some v => some (True, v, H) | none => none
@[simp] theorem lift1_some (v : AV) : lift1 H (some v) = some (True, v, H) := rfl
@[simp] theorem astep_max (x y : Operand) (t t' : TypeId) : astep C ⟨ρ, H⟩ ⟨d, .call ⟨.builtin .max, #[x, y], #[t, t']⟩, ty, p, af, g⟩ = lift1 H (amax [aev C ρ t x, aev C ρ t' y]) := by
  unfold astep kindOf apure lift1
  simp only [argAVs]
  cases amax [aev C ρ t x, aev C ρ t' y] <;> rfl
@[simp] theorem astep_min (x y : Operand) (t t' : TypeId) : astep C ⟨ρ, H⟩ ⟨d, .call ⟨.builtin .min, #[x, y], #[t, t']⟩, ty, p, af, g⟩ = lift1 H (amin [aev C ρ t x, aev C ρ t' y]) := by
  unfold astep kindOf apure lift1
  simp only [argAVs]
  cases amin [aev C ρ t x, aev C ρ t' y] <;> rfl
@[simp] theorem aappO_slice (t : TypeId) (sz : Nat) (f : Bool) (rows : List (List AV)) (x : AV) : aappO C H t (.slice sz f rows) x = aappend C H t (.slice sz f rows) x := rfl
@[simp] theorem aappO_own (t : TypeId) (l n : Nat) (x : AV) : aappO C H t (.own l n) x = aappend C H t (.own l n) x := rfl
@[simp] theorem astep_append (x y : Operand) (t t' : TypeId) : astep C ⟨ρ, H⟩ ⟨d, .call ⟨.builtin .append, #[x, y], #[t, t']⟩, ty, p, af, g⟩ = if t = t' then aappO C H t (aev C ρ t x) (aev C ρ t' y) else none := rfl
@[simp] theorem astep_clear (x : Operand) (t : TypeId) : astep C ⟨ρ, H⟩ ⟨d, .call ⟨.builtin .clear, #[x], #[t]⟩, ty, p, af, g⟩ = aclear C H t (aev C ρ t x) := rfl
@[simp] theorem astep_copy (x y : Operand) (t t' : TypeId) : astep C ⟨ρ, H⟩ ⟨d, .call ⟨.builtin .copy, #[x, y], #[t, t']⟩, ty, p, af, g⟩ = if t = t' then acopy C H t (aev C ρ t x) (aev C ρ t' y) else none := rfl
/-- A slice written out: as it stands, or closing what it speaks of. -/
def isScalT (C : Ctx) (t : TypeId) : Bool := match elT C.P t with
    | some e => (match zT C.P e with | some z => z.all AV.scal | none => false)
    | none => false
@[simp] theorem astep_buildSlice (t : TypeId) (n : Nat) (ps : Array (Nat × Operand)) : astep C ⟨ρ, H⟩ ⟨d, .buildSlice t n ps, ty, p, af, g⟩ =
    if isScalT C t = true then (if (elParts C ρ t ps.toList).all (fun p => p.2.deepArg) then lift H (abuildSlice C t n (elParts C ρ t ps.toList)) else none)
    else if (elParts C ρ t ps.toList).any (fun p => ptr1 p.2) = true then aptrSlice C H t n (elParts C ρ t ps.toList)
    else lift (frzL ((elParts C ρ t ps.toList).flatMap fun p => reach H 6 p.2) 0 H) (abuildSlice C t n ((elParts C ρ t ps.toList).map fun p => (p.1, view H 6 p.2))) := by
  have hk : kindOf C ⟨d, .buildSlice t n ps, ty, p, af, g⟩ = if isScalT C t = true then .read else .eff := by
    unfold kindOf isScalT
    simp only
    split
    · rename_i e he
      split
      · rename_i z hz; simp [he, hz]
      · rename_i hz; simp [he, hz]
    · rename_i hn
      simp [hn]
  unfold astep
  rw [hk]
  rcases isScalT C t
  case' true => simp only [if_true, aread]
  case' false => simp only [Bool.false_eq_true, if_false, aeff]
  rotate_left
  · cases ((elParts C ρ t ps.toList).all fun p => p.snd.deepArg) with
    | true => simp only [if_true]; cases abuildSlice C t n (elParts C ρ t ps.toList) <;> rfl
    | false => rfl
  · cases ((elParts C ρ t ps.toList).any fun p => ptr1 p.snd) with
    | true => rfl
    | false => simp only [Bool.false_eq_true, if_false]; cases abuildSlice C t n ((elParts C ρ t ps.toList).map fun p => (p.1, view H 6 p.2)) <;> rfl
@[simp] theorem ptr1_ptr (l n sz i f : Nat) : ptr1 (.ptr l n sz i f) = true := rfl
@[simp] theorem ptr1_own (l n : Nat) : ptr1 (.own l n) = false := rfl
@[simp] theorem ptr1_osl (l n sz i f : Nat) : ptr1 (.osl l n sz i f) = false := rfl
@[simp] theorem ptr1_iptr (c : List AV) : ptr1 (.iptr c) = false := rfl
@[simp] theorem ptr1_slice (sz : Nat) (f : Bool) (r : List (List AV)) : ptr1 (.slice sz f r) = false := rfl
@[simp] theorem ptr1_agg (c : List AV) : ptr1 (.agg c) = false := rfl
@[simp] theorem ptr1_tup (c : List AV) : ptr1 (.tup c) = false := rfl
@[simp] theorem ptr1_fn (f : FuncId) (c : List AV) : ptr1 (.fn f c) = false := rfl
@[simp] theorem ptr1_int (k : IntKind) (n : Int) : ptr1 (.int k n) = false := rfl
@[simp] theorem ptr1_bool (b : Bool) : ptr1 (.bool b) = false := rfl
@[simp] theorem ptr1_str (s : ByteArray) : ptr1 (.str s) = false := rfl
@[simp] theorem ptr1_nilptr : ptr1 .nilptr = false := rfl
@[simp] theorem ptr1_undef : ptr1 .undef = false := rfl

/-- A call of a function by its contract. -/
def acallE (e : Entry) (H : List Blk) (args : List AV) : Option (Prop × AV × List Blk) :=
  match e with
  | .pure q => lift H (acallPure H q args)
  | .frz q => lift (frzL (args.flatMap (reach H 6)) 0 H) (q (args.map (view H 6)))
  | .gen q => q args H
  | .no => none
@[simp] theorem acallE_pure (q : List AV → Option (Prop × AV)) (args : List AV) : acallE (.pure q) H args = lift H (acallPure H q args) := rfl
@[simp] theorem acallE_frz (q : List AV → Option (Prop × AV)) (args : List AV) : acallE (.frz q) H args = lift (frzL (args.flatMap (reach H 6)) 0 H) (q (args.map (view H 6))) := rfl
@[simp] theorem acallE_gen (q : List AV → List Blk → Option (Prop × AV × List Blk)) (args : List AV) : acallE (.gen q) H args = q args H := rfl
@[simp] theorem astep_call (f : FuncId) (xs : Array Operand) (ts : Array TypeId) : astep C ⟨ρ, H⟩ ⟨d, .call ⟨.value (.func f), xs, ts⟩, ty, p, af, g⟩ = acallE (C.S f) H (argAVs C ρ xs.toList ts.toList) := by
  unfold astep kindOf
  simp only
  cases h : C.S f with
  | no => simp only [kdE, aeff, target, aev_func, h, acallE, List.append_nil]
  | pure q => simp only [kdE, aread, target, aev_func, h, acallE, List.append_nil]; cases acallPure H q _ <;> rfl
  | frz q => simp only [kdE, aeff, target, aev_func, h, acallE, List.append_nil]; cases q _ <;> rfl
  | gen q => simp only [kdE, aeff, target, aev_func, h, acallE, List.append_nil]
/-- A call of a function value. -/
def acallV (C : Ctx) (v : AV) (H : List Blk) (args : List AV) : Option (Prop × AV × List Blk) :=
  match v with
  | .fn f cap => acallE (C.S f) H (args ++ cap)
  | _ => none
@[simp] theorem acallV_fn (f : FuncId) (cap args : List AV) : acallV C (.fn f cap) H args = acallE (C.S f) H (args ++ cap) := rfl
@[simp] theorem astep_callV (t : Tmp) (xs : Array Operand) (ts : Array TypeId) : astep C ⟨ρ, H⟩ ⟨d, .call ⟨.value (.tmp t), xs, ts⟩, ty, p, af, g⟩ = acallV C (getA ρ t) H (argAVs C ρ xs.toList ts.toList) := by
  unfold astep kindOf
  simp only [aeff, target, aev_tmp]
  cases getA ρ t <;> try rfl

@[simp] theorem argAVs_nil (ts : List TypeId) : argAVs C ρ [] ts = [] := by cases ts <;> rfl
@[simp] theorem argAVs_cons (x : Operand) (r : List Operand) (t : TypeId) (q : List TypeId) : argAVs C ρ (x :: r) (t :: q) = aev C ρ t x :: argAVs C ρ r q := rfl
end

attribute [simp] encRows_take encRows_drop
@[simp] theorem rows_snoc_int (l : List Int) (x : Int) : encRows l ++ [[.int .i64 x]] = encRows (l ++ [x]) := by rw [encRows_append]; rfl
@[simp] theorem rows_snoc_str (l : List ByteArray) (x : ByteArray) : encRows l ++ [[.str x]] = encRows (l ++ [x]) := by rw [encRows_append]; rfl
@[simp] theorem rows_snoc_bool (l : List Bool) (x : Bool) : encRows l ++ [[.bool x]] = encRows (l ++ [x]) := by rw [encRows_append]; rfl
@[simp] theorem rows_snoc_list {α : Type} [Enc α] (l : List (List α)) (x : List α) : encRows l ++ [[.slice (Enc.sz α) false (encRows x)]] = encRows (l ++ [x]) := by rw [encRows_append]; rfl
@[simp] theorem rows_app {α : Type} [Enc α] (l m : List α) : encRows l ++ encRows m = encRows (l ++ m) := (encRows_append l m).symm
@[simp] theorem rows_set_int (l : List Int) (i : Nat) (x : Int) : (encRows l).set i [.int .i64 x] = encRows (l.set i x) := encRows_set l i x
@[simp] theorem rows_set_str (l : List ByteArray) (i : Nat) (x : ByteArray) : (encRows l).set i [.str x] = encRows (l.set i x) := encRows_set l i x
@[simp] theorem rows_set_bool (l : List Bool) (i : Nat) (x : Bool) : (encRows l).set i [.bool x] = encRows (l.set i x) := encRows_set l i x
@[simp] theorem rows_rep_int (n : Nat) (x : Int) : List.replicate n [AV.int .i64 x] = encRows (List.replicate n x) := by simp [encRows]
@[simp] theorem rows_rep_bool (n : Nat) (x : Bool) : List.replicate n [AV.bool x] = encRows (List.replicate n x) := by simp [encRows]
@[simp] theorem rows_rep_str (n : Nat) (x : ByteArray) : List.replicate n [AV.str x] = encRows (List.replicate n x) := by simp [encRows]
@[simp] theorem dec_beq (a b : Int) : (a == b) = decide (a = b) := by by_cases h : a = b <;> simp [h]
@[simp] theorem dec_bne (a b : Int) : (a != b) = !decide (a = b) := by by_cases h : a = b <;> simp [h]
/-! ### Values, one by one (printed) -/
@[simp] theorem isDeep_undef  : AV.isDeep (AV.undef) = true := rfl
@[simp] theorem isCell_undef  : AV.isCell (AV.undef) = false := rfl
@[simp] theorem scal_undef  : AV.scal (AV.undef) = false := rfl
@[simp] theorem flat1_undef  : AV.flat1 (AV.undef) = false := rfl
@[simp] theorem deepArg_undef  : AV.deepArg (AV.undef) = true := rfl
@[simp] theorem isFlat_undef  : AV.isFlat (AV.undef) = false := rfl
@[simp] theorem nrmC_undef  : nrmC (AV.undef) = (AV.undef) := rfl
@[simp] theorem nrmV_undef  : nrmV (AV.undef) = (AV.undef) := rfl
@[simp] theorem view_undef (H : List Blk) (d : Nat)  : view H d (AV.undef) = (AV.undef) := by cases d <;> rfl
@[simp] theorem reach_undef (H : List Blk) (d : Nat)  : reach H d (AV.undef) = [] := by cases d <;> rfl
@[simp] theorem isDeep_bool (b : Bool) : AV.isDeep (.bool b : AV) = true := rfl
@[simp] theorem isCell_bool (b : Bool) : AV.isCell (.bool b : AV) = true := rfl
@[simp] theorem scal_bool (b : Bool) : AV.scal (.bool b : AV) = true := rfl
@[simp] theorem flat1_bool (b : Bool) : AV.flat1 (.bool b : AV) = true := rfl
@[simp] theorem deepArg_bool (b : Bool) : AV.deepArg (.bool b : AV) = true := rfl
@[simp] theorem isFlat_bool (b : Bool) : AV.isFlat (.bool b : AV) = true := rfl
@[simp] theorem nrmC_bool (b : Bool) : nrmC (.bool b : AV) = (.bool b : AV) := rfl
@[simp] theorem nrmV_bool (b : Bool) : nrmV (.bool b : AV) = (.bool b : AV) := rfl
@[simp] theorem view_bool (H : List Blk) (d : Nat) (b : Bool) : view H d (.bool b : AV) = (.bool b : AV) := by cases d <;> rfl
@[simp] theorem reach_bool (H : List Blk) (d : Nat) (b : Bool) : reach H d (.bool b : AV) = [] := by cases d <;> rfl
@[simp] theorem isDeep_int (k : IntKind) (n : Int) : AV.isDeep (.int k n : AV) = true := rfl
@[simp] theorem isCell_int (k : IntKind) (n : Int) : AV.isCell (.int k n : AV) = true := rfl
@[simp] theorem scal_int (k : IntKind) (n : Int) : AV.scal (.int k n : AV) = true := rfl
@[simp] theorem flat1_int (k : IntKind) (n : Int) : AV.flat1 (.int k n : AV) = true := rfl
@[simp] theorem deepArg_int (k : IntKind) (n : Int) : AV.deepArg (.int k n : AV) = true := rfl
@[simp] theorem isFlat_int (k : IntKind) (n : Int) : AV.isFlat (.int k n : AV) = true := rfl
@[simp] theorem nrmC_int (k : IntKind) (n : Int) : nrmC (.int k n : AV) = (.int k n : AV) := rfl
@[simp] theorem nrmV_int (k : IntKind) (n : Int) : nrmV (.int k n : AV) = (.int k n : AV) := rfl
@[simp] theorem view_int (H : List Blk) (d : Nat) (k : IntKind) (n : Int) : view H d (.int k n : AV) = (.int k n : AV) := by cases d <;> rfl
@[simp] theorem reach_int (H : List Blk) (d : Nat) (k : IntKind) (n : Int) : reach H d (.int k n : AV) = [] := by cases d <;> rfl
@[simp] theorem isDeep_str (s : ByteArray) : AV.isDeep (.str s : AV) = true := rfl
@[simp] theorem isCell_str (s : ByteArray) : AV.isCell (.str s : AV) = true := rfl
@[simp] theorem scal_str (s : ByteArray) : AV.scal (.str s : AV) = true := rfl
@[simp] theorem flat1_str (s : ByteArray) : AV.flat1 (.str s : AV) = true := rfl
@[simp] theorem deepArg_str (s : ByteArray) : AV.deepArg (.str s : AV) = true := rfl
@[simp] theorem isFlat_str (s : ByteArray) : AV.isFlat (.str s : AV) = true := rfl
@[simp] theorem nrmC_str (s : ByteArray) : nrmC (.str s : AV) = (.str s : AV) := rfl
@[simp] theorem nrmV_str (s : ByteArray) : nrmV (.str s : AV) = (.str s : AV) := rfl
@[simp] theorem view_str (H : List Blk) (d : Nat) (s : ByteArray) : view H d (.str s : AV) = (.str s : AV) := by cases d <;> rfl
@[simp] theorem reach_str (H : List Blk) (d : Nat) (s : ByteArray) : reach H d (.str s : AV) = [] := by cases d <;> rfl
@[simp] theorem isDeep_slice (sz : Nat) (full : Bool) (rows : List (List AV)) : AV.isDeep (.slice sz full rows : AV) = true := rfl
@[simp] theorem isCell_slice (sz : Nat) (full : Bool) (rows : List (List AV)) : AV.isCell (.slice sz full rows : AV) = true := rfl
@[simp] theorem scal_slice (sz : Nat) (full : Bool) (rows : List (List AV)) : AV.scal (.slice sz full rows : AV) = false := rfl
@[simp] theorem flat1_slice (sz : Nat) (full : Bool) (rows : List (List AV)) : AV.flat1 (.slice sz full rows : AV) = false := rfl
@[simp] theorem deepArg_slice (sz : Nat) (full : Bool) (rows : List (List AV)) : AV.deepArg (.slice sz full rows : AV) = true := rfl
@[simp] theorem isFlat_slice (sz : Nat) (full : Bool) (rows : List (List AV)) : AV.isFlat (.slice sz full rows : AV) = false := rfl
@[simp] theorem nrmC_slice (sz : Nat) (full : Bool) (rows : List (List AV)) : nrmC (.slice sz full rows : AV) = (.slice sz false rows : AV) := rfl
@[simp] theorem nrmV_slice (sz : Nat) (full : Bool) (rows : List (List AV)) : nrmV (.slice sz full rows : AV) = (.slice sz false rows : AV) := rfl
@[simp] theorem view_slice (H : List Blk) (d : Nat) (sz : Nat) (full : Bool) (rows : List (List AV)) : view H d (.slice sz full rows : AV) = (.slice sz full rows : AV) := by cases d <;> rfl
@[simp] theorem reach_slice (H : List Blk) (d : Nat) (sz : Nat) (full : Bool) (rows : List (List AV)) : reach H d (.slice sz full rows : AV) = [] := by cases d <;> rfl
@[simp] theorem isDeep_own (l n : Nat) : AV.isDeep (.own l n : AV) = false := rfl
@[simp] theorem isCell_own (l n : Nat) : AV.isCell (.own l n : AV) = true := rfl
@[simp] theorem scal_own (l n : Nat) : AV.scal (.own l n : AV) = false := rfl
@[simp] theorem flat1_own (l n : Nat) : AV.flat1 (.own l n : AV) = false := rfl
@[simp] theorem deepArg_own (l n : Nat) : AV.deepArg (.own l n : AV) = false := rfl
@[simp] theorem isFlat_own (l n : Nat) : AV.isFlat (.own l n : AV) = false := rfl
@[simp] theorem nrmC_own (l n : Nat) : nrmC (.own l n : AV) = (.own l n : AV) := rfl
@[simp] theorem nrmV_own (l n : Nat) : nrmV (.own l n : AV) = (.own l n : AV) := rfl
@[simp] theorem isDeep_osl (l n s o k : Nat) : AV.isDeep (.osl l n s o k : AV) = false := rfl
@[simp] theorem isCell_osl (l n s o k : Nat) : AV.isCell (.osl l n s o k : AV) = true := rfl
@[simp] theorem scal_osl (l n s o k : Nat) : AV.scal (.osl l n s o k : AV) = false := rfl
@[simp] theorem flat1_osl (l n s o k : Nat) : AV.flat1 (.osl l n s o k : AV) = false := rfl
@[simp] theorem deepArg_osl (l n s o k : Nat) : AV.deepArg (.osl l n s o k : AV) = false := rfl
@[simp] theorem isFlat_osl (l n s o k : Nat) : AV.isFlat (.osl l n s o k : AV) = false := rfl
@[simp] theorem nrmC_osl (l n s o k : Nat) : nrmC (.osl l n s o k : AV) = (.osl l n s o k : AV) := rfl
@[simp] theorem nrmV_osl (l n s o k : Nat) : nrmV (.osl l n s o k : AV) = (.osl l n s o k : AV) := rfl
@[simp] theorem isDeep_ptr (l n sz i f : Nat) : AV.isDeep (.ptr l n sz i f : AV) = false := rfl
@[simp] theorem isCell_ptr (l n sz i f : Nat) : AV.isCell (.ptr l n sz i f : AV) = true := rfl
@[simp] theorem scal_ptr (l n sz i f : Nat) : AV.scal (.ptr l n sz i f : AV) = false := rfl
@[simp] theorem flat1_ptr (l n sz i f : Nat) : AV.flat1 (.ptr l n sz i f : AV) = false := rfl
@[simp] theorem deepArg_ptr (l n sz i f : Nat) : AV.deepArg (.ptr l n sz i f : AV) = false := rfl
@[simp] theorem isFlat_ptr (l n sz i f : Nat) : AV.isFlat (.ptr l n sz i f : AV) = false := rfl
@[simp] theorem nrmC_ptr (l n sz i f : Nat) : nrmC (.ptr l n sz i f : AV) = (.ptr l n sz i f : AV) := rfl
@[simp] theorem nrmV_ptr (l n sz i f : Nat) : nrmV (.ptr l n sz i f : AV) = (.ptr l n sz i f : AV) := rfl
@[simp] theorem isDeep_iptr (cs : List AV) : AV.isDeep (.iptr cs : AV) = true := rfl
@[simp] theorem isCell_iptr (cs : List AV) : AV.isCell (.iptr cs : AV) = true := rfl
@[simp] theorem scal_iptr (cs : List AV) : AV.scal (.iptr cs : AV) = false := rfl
@[simp] theorem flat1_iptr (cs : List AV) : AV.flat1 (.iptr cs : AV) = false := rfl
@[simp] theorem deepArg_iptr (cs : List AV) : AV.deepArg (.iptr cs : AV) = true := rfl
@[simp] theorem isFlat_iptr (cs : List AV) : AV.isFlat (.iptr cs : AV) = false := rfl
@[simp] theorem nrmC_iptr (cs : List AV) : nrmC (.iptr cs : AV) = (.iptr cs : AV) := rfl
@[simp] theorem nrmV_iptr (cs : List AV) : nrmV (.iptr cs : AV) = (.iptr cs : AV) := rfl
@[simp] theorem view_iptr (H : List Blk) (d : Nat) (cs : List AV) : view H d (.iptr cs : AV) = (.iptr cs : AV) := by cases d <;> rfl
@[simp] theorem reach_iptr (H : List Blk) (d : Nat) (cs : List AV) : reach H d (.iptr cs : AV) = [] := by cases d <;> rfl
@[simp] theorem isDeep_mapp (b : Nat) : AV.isDeep (AV.mapp b) = true := rfl
@[simp] theorem isCell_mapp (b : Nat) : AV.isCell (AV.mapp b) = true := rfl
@[simp] theorem deepArg_mapp (b : Nat) : AV.deepArg (AV.mapp b) = true := rfl
@[simp] theorem isFlat_mapp (b : Nat) : AV.isFlat (AV.mapp b) = false := rfl
@[simp] theorem nrmC_mapp (b : Nat) : nrmC (AV.mapp b) = (AV.mapp b) := rfl
@[simp] theorem nrmV_mapp (b : Nat) : nrmV (AV.mapp b) = (AV.mapp b) := rfl
@[simp] theorem view_mapp (H : List Blk) (d : Nat) (b : Nat) : view H d (AV.mapp b) = (AV.mapp b) := by cases d <;> rfl
@[simp] theorem reach_mapp (H : List Blk) (d : Nat) (b : Nat) : reach H d (AV.mapp b) = [] := by cases d <;> rfl
@[simp] theorem ptr1_mapp (b : Nat) : ptr1 (AV.mapp b) = false := rfl
@[simp] theorem isDeep_nilptr  : AV.isDeep (AV.nilptr) = true := rfl
@[simp] theorem isCell_nilptr  : AV.isCell (AV.nilptr) = true := rfl
@[simp] theorem scal_nilptr  : AV.scal (AV.nilptr) = false := rfl
@[simp] theorem flat1_nilptr  : AV.flat1 (AV.nilptr) = true := rfl
@[simp] theorem deepArg_nilptr  : AV.deepArg (AV.nilptr) = true := rfl
@[simp] theorem isFlat_nilptr  : AV.isFlat (AV.nilptr) = true := rfl
@[simp] theorem nrmC_nilptr  : nrmC (AV.nilptr) = (AV.nilptr) := rfl
@[simp] theorem nrmV_nilptr  : nrmV (AV.nilptr) = (AV.nilptr) := rfl
@[simp] theorem view_nilptr (H : List Blk) (d : Nat)  : view H d (AV.nilptr) = (AV.nilptr) := by cases d <;> rfl
@[simp] theorem reach_nilptr (H : List Blk) (d : Nat)  : reach H d (AV.nilptr) = [] := by cases d <;> rfl
@[simp] theorem isDeep_anyb  : AV.isDeep (AV.anyb) = true := rfl
@[simp] theorem isCell_anyb  : AV.isCell (AV.anyb) = true := rfl
@[simp] theorem scal_anyb  : AV.scal (AV.anyb) = false := rfl
@[simp] theorem flat1_anyb  : AV.flat1 (AV.anyb) = false := rfl
@[simp] theorem deepArg_anyb  : AV.deepArg (AV.anyb) = true := rfl
@[simp] theorem isFlat_anyb  : AV.isFlat (AV.anyb) = false := rfl
@[simp] theorem nrmC_anyb  : nrmC (AV.anyb) = (AV.anyb) := rfl
@[simp] theorem nrmV_anyb  : nrmV (AV.anyb) = (AV.anyb) := rfl
@[simp] theorem view_anyb (H : List Blk) (d : Nat)  : view H d (AV.anyb) = (AV.anyb) := by cases d <;> rfl
@[simp] theorem reach_anyb (H : List Blk) (d : Nat)  : reach H d (AV.anyb) = [] := by cases d <;> rfl
@[simp] theorem isDeep_agg (cs : List AV) : AV.isDeep (.agg cs : AV) = false := rfl
@[simp] theorem isCell_agg (cs : List AV) : AV.isCell (.agg cs : AV) = false := rfl
@[simp] theorem scal_agg (cs : List AV) : AV.scal (.agg cs : AV) = false := rfl
@[simp] theorem flat1_agg (cs : List AV) : AV.flat1 (.agg cs : AV) = false := rfl
@[simp] theorem deepArg_agg (cs : List AV) : AV.deepArg (.agg cs : AV) = cs.all AV.isDeep := rfl
@[simp] theorem isFlat_agg (cs : List AV) : AV.isFlat (.agg cs : AV) = cs.all AV.flat1 := rfl
@[simp] theorem nrmC_agg (cs : List AV) : nrmC (.agg cs : AV) = (.agg cs : AV) := rfl
@[simp] theorem nrmV_agg (cs : List AV) : nrmV (.agg cs : AV) = (.agg (cs.map nrmC) : AV) := rfl
@[simp] theorem isDeep_tup (cs : List AV) : AV.isDeep (.tup cs : AV) = false := rfl
@[simp] theorem isCell_tup (cs : List AV) : AV.isCell (.tup cs : AV) = false := rfl
@[simp] theorem scal_tup (cs : List AV) : AV.scal (.tup cs : AV) = false := rfl
@[simp] theorem flat1_tup (cs : List AV) : AV.flat1 (.tup cs : AV) = false := rfl
@[simp] theorem deepArg_tup (cs : List AV) : AV.deepArg (.tup cs : AV) = false := rfl
@[simp] theorem nrmC_tup (cs : List AV) : nrmC (.tup cs : AV) = (.tup cs : AV) := rfl
@[simp] theorem nrmV_tup (cs : List AV) : nrmV (.tup cs : AV) = (.tup (cs.map fun c => match c with | .agg ds => .agg (ds.map nrmC) | c => nrmC c) : AV) := rfl
@[simp] theorem isDeep_fn (f : FuncId) (cs : List AV) : AV.isDeep (.fn f cs : AV) = false := rfl
@[simp] theorem isCell_fn (f : FuncId) (cs : List AV) : AV.isCell (.fn f cs : AV) = true := rfl
@[simp] theorem scal_fn (f : FuncId) (cs : List AV) : AV.scal (.fn f cs : AV) = false := rfl
@[simp] theorem flat1_fn (f : FuncId) (cs : List AV) : AV.flat1 (.fn f cs : AV) = false := rfl
@[simp] theorem deepArg_fn (f : FuncId) (cs : List AV) : AV.deepArg (.fn f cs : AV) = cs.all AV.isDeep := rfl
@[simp] theorem isFlat_fn (f : FuncId) (cs : List AV) : AV.isFlat (.fn f cs : AV) = false := rfl
@[simp] theorem nrmC_fn (f : FuncId) (cs : List AV) : nrmC (.fn f cs : AV) = (.fn f cs : AV) := rfl
@[simp] theorem nrmV_fn (f : FuncId) (cs : List AV) : nrmV (.fn f cs : AV) = (.fn f cs : AV) := rfl
@[simp] theorem isFlat_tup (cs : List AV) : AV.isFlat (.tup cs) = cs.all fun x => match x with | .agg cs => cs.all AV.flat1 | x => x.flat1 := rfl
@[simp] theorem view_agg (H : List Blk) (d : Nat) (cs : List AV) : view H (d + 1) (.agg cs) = .agg (cs.map (view H d)) := rfl
@[simp] theorem view_tup (H : List Blk) (d : Nat) (cs : List AV) : view H (d + 1) (.tup cs) = .tup (cs.map (view H d)) := rfl
@[simp] theorem view_fn (H : List Blk) (d : Nat) (f : FuncId) (cs : List AV) : view H (d + 1) (.fn f cs) = .fn f (cs.map (view H d)) := rfl
def viewR (H : List Blk) (d : Nat) (deep : Bool) (rows : List (List AV)) : List (List AV) := if deep then rows else rows.map fun r => r.map (view H d)
@[simp] theorem viewR_true (H : List Blk) (d : Nat) (rows : List (List AV)) : viewR H d true rows = rows := rfl
def viewO (H : List Blk) (d n : Nat) (b : Option Blk) : AV := match b with | some b => if b.rows.length = n then .slice b.sz false (viewR H d b.deep b.rows) else .undef | none => .undef
@[simp] theorem viewO_some (H : List Blk) (d n : Nat) (b : Blk) : viewO H d n (some b) = if b.rows.length = n then .slice b.sz false (viewR H d b.deep b.rows) else .undef := rfl
@[simp] theorem view_own (H : List Blk) (d l n : Nat) : view H (d + 1) (.own l n) = viewO H d n H[l]? := rfl
def viewS (H : List Blk) (d n sz off len : Nat) (b : Option Blk) : AV := match b with | some b => if b.rows.length = n ∧ b.sz = sz then .slice b.sz false (viewR H d b.deep ((b.rows.drop off).take len)) else .undef | none => .undef
@[simp] theorem viewS_some (H : List Blk) (d n sz off len : Nat) (b : Blk) : viewS H d n sz off len (some b) = if b.rows.length = n ∧ b.sz = sz then .slice b.sz false (viewR H d b.deep ((b.rows.drop off).take len)) else .undef := rfl
@[simp] theorem view_osl (H : List Blk) (d l n sz off len : Nat) : view H (d + 1) (.osl l n sz off len) = viewS H d n sz off len H[l]? := rfl
def viewC (H : List Blk) (d : Nat) (deep : Bool) (cs : List AV) : List AV := if deep then cs else cs.map (view H d)
@[simp] theorem viewC_true (H : List Blk) (d : Nat) (cs : List AV) : viewC H d true cs = cs := rfl
@[simp] theorem viewC_false (H : List Blk) (d : Nat) (cs : List AV) : viewC H d false cs = cs.map (view H d) := rfl
def viewP (H : List Blk) (d n sz i f : Nat) (b : Option Blk) : AV := match b with | some b => if b.rows.length = n ∧ b.sz = sz ∧ i < n then .iptr (viewC H d b.deep ((rowAt b.rows i).drop f)) else .undef | none => .undef
@[simp] theorem viewP_some (H : List Blk) (d n sz i f : Nat) (b : Blk) : viewP H d n sz i f (some b) = if b.rows.length = n ∧ b.sz = sz ∧ i < n then .iptr (viewC H d b.deep ((rowAt b.rows i).drop f)) else .undef := rfl
@[simp] theorem view_ptr (H : List Blk) (d l n sz i f : Nat) : view H (d + 1) (.ptr l n sz i f) = viewP H d n sz i f H[l]? := rfl
def reachR (H : List Blk) (d : Nat) (b : Option Blk) : List Nat := match b with | some b => if b.deep then [] else b.rows.flatMap fun r => r.flatMap (reach H d) | none => []
@[simp] theorem reachR_some (H : List Blk) (d : Nat) (b : Blk) : reachR H d (some b) = if b.deep then [] else b.rows.flatMap fun r => r.flatMap (reach H d) := rfl
@[simp] theorem reach_own (H : List Blk) (d l n : Nat) : reach H (d + 1) (.own l n) = l :: reachR H d H[l]? := rfl
@[simp] theorem reach_osl (H : List Blk) (d l n sz off len : Nat) : reach H (d + 1) (.osl l n sz off len) = l :: reachR H d H[l]? := rfl
@[simp] theorem reach_ptr (H : List Blk) (d l n sz i f : Nat) : reach H (d + 1) (.ptr l n sz i f) = l :: reachR H d H[l]? := rfl
@[simp] theorem reach_agg (H : List Blk) (d : Nat) (cs : List AV) : reach H (d + 1) (.agg cs) = cs.flatMap (reach H d) := rfl
@[simp] theorem reach_tup (H : List Blk) (d : Nat) (cs : List AV) : reach H (d + 1) (.tup cs) = cs.flatMap (reach H d) := rfl
@[simp] theorem reach_fn (H : List Blk) (d : Nat) (f : FuncId) (cs : List AV) : reach H (d + 1) (.fn f cs) = cs.flatMap (reach H d) := rfl
@[simp] theorem frzL_nil (ls : List Nat) (i : Nat) : frzL ls i [] = [] := rfl
@[simp] theorem frzL_cons (ls : List Nat) (i : Nat) (e : TypeId) (sz : Nat) (rows : List (List AV)) (mu deep : Bool) (r : List Blk) : frzL ls i (⟨e, sz, rows, mu, deep⟩ :: r) = ⟨e, sz, rows, mu && !ls.contains i, deep⟩ :: frzL ls (i + 1) r := by
  rw [frzL]
  cases ls.contains i <;> simp
@[simp] theorem frzL_no (i : Nat) : ∀ H : List Blk, frzL [] i H = H := by
  intro H
  induction H generalizing i with
  | nil => rfl
  | cons b r ih => rw [frzL, ih]; rfl
/-- What a result comes to. -/
def finK (H : List Blk) (r : AV) (o : Option (Prop × AV)) : Prop := match o with | some (ob, r') => ob ∧ nrmV (view H 6 r') = r | none => False
@[simp] theorem finK_some (H : List Blk) (r r' : AV) (ob : Prop) : finK H r (some (ob, r')) = (ob ∧ nrmV (view H 6 r') = r) := rfl
@[simp] theorem finP_eq (C : Ctx) (rs : List ResultVar) (r : AV) (ρ : List (Nat × AV)) (H : List Blk) : finP C rs r ⟨ρ, H⟩ = finK H r (aresults C ⟨ρ, H⟩ rs) := rfl
end Go.Proofs.YtfoipbjhaiimlaaDoor
