/-
  The condition of a body; loops; from a condition to a contract. Own work; no program in sight.
-/
import Derived.Test.YtankjfiaajpfoaaDoorAm20
import Derived.Scope
import Derived.Deep.LoopGhost
namespace Go.Proofs.YtankjfiaajpfoaaDoor
open Go.RowKit

def codeOK (C : Ctx) (N : Nat) : Code → Bool
  | .region _ ops draw => (ops.toList.all fun o => match o.dst with | some d => decide (d < N) | none => true) && (!draw || regOK C ops)
  | .seq a b => codeOK C N a && codeOK C N b
  | .cond _ a b => codeOK C N a && codeOK C N b
  | .block _ b => codeOK C N b
  | .loop b => codeOK C N b
  | .scope b => codeOK C N b
  | _ => true

/-- From st the code comes to what Q says. -/
def AW (C : Ctx) (N h0 : Nat) (code : Code) (st : ASt) (Q : Exit → ASt → Prop) : Prop :=
  ∀ (X : Nat → Prop) (w0 : World) (β0 : List BI) (H0 : List Blk) (a : Act) (w : World), H0.length = h0 → Rel C N X w0 β0 H0 st a w → code.wp C.P (fun ex a' w' => ∃ st', Q ex st' ∧ Rel C N X w0 β0 H0 st' a' w') a w

def Weak (C : Ctx) (N h0 : Nat) (st st' : ASt) : Prop :=
  ∀ (X : Nat → Prop) (w0 : World) (β0 : List BI) (H0 : List Blk) (a : Act) (w : World), H0.length = h0 → Rel C N X w0 β0 H0 st a w → Rel C N X w0 β0 H0 st' a w

/-- The condition under which a body comes to what Q says; at a loop: the loop's own. -/
def avc (C : Ctx) (N h0 : Nat) : Code → ASt → (Exit → ASt → Prop) → Prop
  | .skip, st, Q => Q .normal st
  | .region _ ops _, st, Q => aops C ops ops.toList st (Q .normal)
  | .seq a b, st, Q => avc C N h0 a st fun ex st' => match ex with | .normal => avc C N h0 b st' Q | e => Q e st'
  | .cond c a b, st, Q => match aev C st.ρ 0 c with | .bool x => (x = true → avc C N h0 a st Q) ∧ (x = false → avc C N h0 b st Q) | .anyb => avc C N h0 a st Q ∧ avc C N h0 b st Q | _ => False
  | .block id b, st, Q => avc C N h0 b st fun ex st' => match ex with | .exit j => if j = id then Q .normal st' else Q (.exit j) st' | e => Q e st'
  | .exit id, st, Q => Q (.exit id) st
  | .ret, st, Q => Q .ret st
  | .label _, st, Q => Q .normal st
  | .scope b, st, Q => avc C N h0 b st fun ex st' => match ex with | .goto _ => False | e => Q e st'
  | .loop b, st, Q => AW C N h0 (.loop b) st Q
  | _, _, _ => False

section
variable {C : Ctx} {N h0 : Nat}

theorem AW.mono {code : Code} {st : ASt} {Q Q' : Exit → ASt → Prop} (h : AW C N h0 code st Q) (hq : ∀ ex st', Q ex st' → Q' ex st') : AW C N h0 code st Q' :=
  fun X w0 β0 H0 a w hl hr => Code.wp_mono (fun _ _ _ ⟨st', hq', hr'⟩ => ⟨st', hq _ _ hq', hr'⟩) (h X w0 β0 H0 a w hl hr)

theorem Weak.refl (st : ASt) : Weak C N h0 st st := fun _ _ _ _ _ _ _ h => h
theorem Weak.trans {a b c : ASt} (h : Weak C N h0 a b) (h' : Weak C N h0 b c) : Weak C N h0 a c := fun X w0 β0 H0 x w hl hr => h' X w0 β0 H0 x w hl (h X w0 β0 H0 x w hl hr)
theorem AW.weak {code : Code} {st st' : ASt} {Q : Exit → ASt → Prop} (hw : Weak C N h0 st st') (h : AW C N h0 code st' Q) : AW C N h0 code st Q :=
  fun X w0 β0 H0 a w hl hr => h X w0 β0 H0 a w hl (hw X w0 β0 H0 a w hl hr)

theorem avc_mono : ∀ (code : Code) {st : ASt} {Q Q' : Exit → ASt → Prop}, avc C N h0 code st Q → (∀ ex st', Q ex st' → Q' ex st') → avc C N h0 code st Q'
  | .skip, st, Q, Q', h, hq => hq _ _ h
  | .region _ ops _, st, Q, Q', h, hq => by
    simp only [avc] at h ⊢
    have key : ∀ (l : List Oper) (st : ASt) (K K' : ASt → Prop), (∀ s, K s → K' s) → aops C ops l st K → aops C ops l st K' := by
      intro l
      induction l with
      | nil => intro st K K' hk h; exact hk st h
      | cons o r ih =>
        intro st K K' hk h
        unfold aops at h ⊢
        split at h
        · exact h
        · refine ⟨fun hg => ?_, fun hg => ih _ K K' hk (h.2 hg)⟩
          have h := h.1 hg
          split at h
          · exact ⟨h.1, ih _ K K' hk h.2⟩
          · exact h
    exact key _ _ _ _ (fun s => hq .normal s) h
  | .seq a b, st, Q, Q', h, hq => by
    simp only [avc] at h ⊢
    refine avc_mono a h fun ex st' h => ?_
    cases ex <;> first | exact avc_mono b h hq | exact hq _ _ h
  | .cond c a b, st, Q, Q', h, hq => by
    simp only [avc] at h ⊢
    split at h
    · exact ⟨fun hx => avc_mono a (h.1 hx) hq, fun hx => avc_mono b (h.2 hx) hq⟩
    · exact ⟨avc_mono a h.1 hq, avc_mono b h.2 hq⟩
    · exact h
  | .block id b, st, Q, Q', h, hq => by
    simp only [avc] at h ⊢
    refine avc_mono b h fun ex st' h => ?_
    cases ex with
    | exit j =>
      simp only at h ⊢
      split
      · rename_i e; rw [if_pos e] at h; exact hq _ _ h
      · rename_i e; rw [if_neg e] at h; exact hq _ _ h
    | _ => exact hq _ _ h
  | .exit id, st, Q, Q', h, hq => hq _ _ h
  | .ret, st, Q, Q', h, hq => hq _ _ h
  | .label _, st, Q, Q', h, hq => hq _ _ h
  | .scope b, st, Q, Q', h, hq => by
    simp only [avc] at h ⊢
    refine avc_mono b h fun ex st' h => ?_
    cases ex <;> first | exact hq _ _ h | exact h
  | .loop b, st, Q, Q', h, hq => AW.mono h hq
  | .goto _, _, _, _, h, _ => h
  | .rangeFunc .., _, _, _, h, _ => h
  | .refuse _, _, _, _, h, _ => h

theorem avc_sound (hS : SigOK C) (hM : C.P.follows .mixedOrders = true) : ∀ (code : Code) {st : ASt} {Q : Exit → ASt → Prop}, codeOK C N code = true → avc C N h0 code st Q → AW C N h0 code st Q
  | .skip, st, Q, _, h => fun X w0 β0 H0 a w hl hr => wp_skip ⟨st, h, hr⟩
  | .region id ops draw, st, Q, hok, h => fun X w0 β0 H0 a w hl hr => by
    simp only [codeOK, Bool.and_eq_true, Bool.or_eq_true, Bool.not_eq_true'] at hok
    have hd : ∀ o ∈ ops.toList, ∀ d, o.dst = some d → d < N := by
      intro o ho d hd
      have := List.all_eq_true.1 hok.1 o ho
      rw [hd] at this
      simpa using this
    simp only [avc] at h
    cases draw with
    | false => exact wp_region_list (wpList_of_aops hS ops.toList hd h hr fun st' a' w' hr' hk => ⟨st', hk, hr'⟩)
    | true =>
      have hok2 := hok.2.resolve_left (by simp)
      obtain ⟨B, F⟩ := regOK_facts hok2
      obtain ⟨v, ρ, H, T, hK⟩ := aops_trace ops.toList 0 st (Q .normal) (fun j => by simp) (Nat.zero_le _) h
      refine wp_region_any hM ?_
      obtain ⟨β, R, S0, Tr, G, hN, hdef⟩ := hr
      have hk : Keeps (fun _ => False) w { w with drawn := w.drawn + 1 } := Keeps.drew _ w
      have hr' : Rel C N X w0 β0 H0 ⟨st.ρ, st.H⟩ a { w with drawn := w.drawn + 1 } :=
        ⟨β, R.quiet hk, S0.trans (StepR.quiet hk R.len), fun t => (Tr t).keep (StepR.quiet hk R.len), fun g => (G g).keep (fun b hb hn => hk.block b hb (fun h => h)) hk.size (fun b _ h => h), hN, hdef⟩
      refine wpAny_of_trace hS (fun i hi d hd' => ?_) T F (fun a' w' hr => ⟨_, hK, hr⟩) ops.size (Array.replicate ops.size false) st.ρ st.H a _ (by simp) ?_ (Nat.le_trans List.countP_le_length (by simp)) hr'
      · refine hd (opAt ops i) ?_ d hd'
        unfold opAt
        rw [Array.getD_eq_getD_getElem?, Array.getElem?_eq_getElem hi]
        exact Array.mem_toList_iff.2 (Array.getElem_mem hi)
      · have hno : ∀ i, ¬ ((Array.replicate ops.size false).getD i false = true) := by
          intro i
          rw [Array.getD_eq_getD_getElem?]
          rcases Nat.lt_or_ge i ops.size with h | h
          · simp [h]
          · simp [Array.getElem?_eq_none (show (Array.replicate ops.size false).size ≤ i by simpa using h)]
        refine ⟨fun i _ h => absurd h (hno i), fun i _ h => absurd h (hno i), fun t _ => by rw [T.ρ0], fun k hk hsep => ?_⟩
        rw [← T.H0]
        refine tr_sep T (Nat.zero_le _) hk fun e he1 he2 => ⟨fun h => by omega, fun h => absurd ((hsep e he1 he2).2 h) (hno e)⟩
  | .seq x y, st, Q, hok, h => fun X w0 β0 H0 a w hl hr => by
    simp only [codeOK, Bool.and_eq_true] at hok
    simp only [avc] at h
    refine wp_seq (Code.wp_mono (fun ex a' w' ⟨st', hq, hr'⟩ => ?_) (avc_sound hS hM x hok.1 h X w0 β0 H0 a w hl hr))
    cases ex with
    | normal => exact avc_sound hS hM y hok.2 hq X w0 β0 H0 a' w' hl hr'
    | _ => exact ⟨st', hq, hr'⟩
  | .cond c x y, st, Q, hok, h => fun X w0 β0 H0 a w hl hr => by
    simp only [codeOK, Bool.and_eq_true] at hok
    simp only [avc] at h
    split at h
    · rename_i b hb
      have hr0 := hr
      obtain ⟨β, R, S0, Tr, G, hN, hdef⟩ := hr0
      have hE := aev_sound Tr G 0 c
      rw [hb] at hE
      exact wp_cond_split (rep_bool hE) (fun ht => avc_sound hS hM x hok.1 (h.1 ht) X w0 β0 H0 a w hl hr) (fun hf => avc_sound hS hM y hok.2 (h.2 hf) X w0 β0 H0 a w hl hr)
    · rename_i hb
      have hr0 := hr
      obtain ⟨β, R, S0, Tr, G, hN, hdef⟩ := hr0
      have hE := aev_sound Tr G 0 c
      rw [hb] at hE
      obtain ⟨b, hb'⟩ := rep_anyb hE
      exact wp_cond_split hb' (fun _ => avc_sound hS hM x hok.1 h.1 X w0 β0 H0 a w hl hr) (fun _ => avc_sound hS hM y hok.2 h.2 X w0 β0 H0 a w hl hr)
    · exact h.elim
  | .block id b, st, Q, hok, h => fun X w0 β0 H0 a w hl hr => by
    simp only [codeOK] at hok
    simp only [avc] at h
    refine wp_block (Code.wp_mono (fun ex a' w' ⟨st', hq, hr'⟩ => ?_) (avc_sound hS hM b hok h X w0 β0 H0 a w hl hr))
    cases ex with
    | exit j =>
      simp only [Exit.inBlock] at hq ⊢
      split
      · rename_i e; rw [if_pos e] at hq; exact ⟨st', hq, hr'⟩
      · rename_i e; rw [if_neg e] at hq; exact ⟨st', hq, hr'⟩
    | _ => exact ⟨st', hq, hr'⟩
  | .exit id, st, Q, _, h => fun X w0 β0 H0 a w hl hr => wp_exit ⟨st, h, hr⟩
  | .ret, st, Q, _, h => fun X w0 β0 H0 a w hl hr => wp_ret ⟨st, h, hr⟩
  | .label _, st, Q, _, h => fun X w0 β0 H0 a w hl hr => wp_label ⟨st, h, hr⟩
  | .scope b, st, Q, hok, h => fun X w0 β0 H0 a w hl hr => by
    simp only [codeOK] at hok
    simp only [avc] at h
    refine wp_scope_straight (Code.wp_mono (fun ex a' w' ⟨st', hq, hr'⟩ => ?_) (avc_sound hS hM b hok h X w0 β0 H0 a w hl hr))
    cases ex with
    | goto l => exact hq
    | _ => exact ⟨st', hq, hr'⟩
  | .loop b, st, Q, _, h => h
  | .goto _, _, _, _, h => h.elim
  | .rangeFunc .., _, _, _, h => h.elim
  | .refuse _, _, _, _, h => h.elim

/-- A loop: what stands at its head, by a parameter; a measure. -/
theorem AW_loop {α : Type} (hS : SigOK C) (hM : C.P.follows .mixedOrders = true) {body : Code} (hok : codeOK C N body = true) {st : ASt} {Q : Exit → ASt → Prop} (Sf : α → ASt) (pre : α → Prop) (m : α → Nat)
    (start : ∃ x, pre x ∧ Weak C N h0 st (Sf x))
    (step : ∀ x, pre x → avc C N h0 body (Sf x) fun ex st' => match ex with | .normal => ∃ x', pre x' ∧ m x' < m x ∧ Weak C N h0 st' (Sf x') | e => Q e st') : AW C N h0 (.loop body) st Q := by
  intro X w0 β0 H0 a w hl hr
  obtain ⟨x0, hx0, hw0⟩ := start
  refine wp_loop_ghost (fun n a w => ∃ x, m x = n ∧ pre x ∧ Rel C N X w0 β0 H0 (Sf x) a w) (m x0) ⟨x0, rfl, hx0, hw0 X w0 β0 H0 a w hl hr⟩ ?_
  rintro n a w ⟨x, rfl, hx, hr⟩
  refine Code.wp_mono (fun ex a' w' ⟨st', hq, hr'⟩ => ?_) (avc_sound hS hM body hok (step x hx) X w0 β0 H0 a w hl hr)
  cases ex with
  | normal =>
    obtain ⟨x', hx', hlt, hw⟩ := hq
    exact ⟨m x', hlt, x', rfl, hx', hw X w0 β0 H0 a' w' hl hr'⟩
  | _ => exact ⟨st', hq, hr'⟩

/-! ### What may be forgotten or said otherwise -/
theorem weak_slots {ρ ρ' : List (Nat × AV)} {H : List Blk} (h : ∀ p ∈ ρ', getA ρ p.1 = p.2) : Weak C N h0 ⟨ρ, H⟩ ⟨ρ', H⟩ := by
  intro X w0 β0 H0 a w hl hr
  obtain ⟨β, R, S0, Tr, G, hN, hdef⟩ := hr
  refine ⟨β, R, S0, fun t => ?_, G, hN, hdef⟩
  have key : ∀ l : List (Nat × AV), (∀ p ∈ l, getA ρ p.1 = p.2) → getA l t = .undef ∨ getA l t = getA ρ t := by
    intro l
    induction l with
    | nil => intro _; exact .inl rfl
    | cons p r ih =>
      intro hp
      obtain ⟨k, v⟩ := p
      simp only [getA]
      split
      · rename_i e
        subst e
        exact .inr (hp (k, v) (by simp)).symm
      · exact ih fun q hq => hp q (List.mem_cons_of_mem _ hq)
  simp only
  rcases key ρ' h with e | e
  · rw [e]; exact rep_undef
  · rw [e]; exact Tr t

/-- All blocks that it speaks of are among the first m. -/
def AV.clean1 (m : Nat) : AV → Bool
  | .own l _ => decide (l < m)
  | .ptr l _ _ _ _ => decide (l < m)
  | .agg _ => false
  | .tup _ => false
  | .fn _ cs => cs.all AV.isDeep
  | _ => true
def AV.clean (m : Nat) : AV → Bool
  | .agg cs => cs.all (AV.clean1 m)
  | .tup cs => cs.all (AV.clean1 m)
  | v => v.clean1 m

theorem MutB.take {β : List BI} {H : List Blk} {m b : Nat} (h : MutB (β.take m) (H.take m) b) : MutB β H b := by
  obtain ⟨l, c, blk, h1, h2, h3⟩ := h
  rw [List.getElem?_take] at h1 h2
  split at h1
  · rename_i hl
    rw [if_pos hl] at h2
    exact ⟨l, c, blk, h1, h2, h3⟩
  · cases h1

theorem Mu.take {X : Nat → Prop} {β : List BI} {H : List Blk} {m b : Nat} (h : Mu X (β.take m) (H.take m) b) : Mu X β H b := h.imp id MutB.take

theorem rep_clean1 {w : World} {X : Nat → Prop} {β : List BI} {H : List Blk} {m : Nat} {v : Value} {av : AV} (hc : av.clean1 m = true) (h : Rep w (Mu X β H) β H v av) : Rep w (Mu X (β.take m) (H.take m)) (β.take m) (H.take m) v av := by
  have hD : ∀ {v : Value} {av : AV}, RepD w (Mu X β H) v av → RepD w (Mu X (β.take m) (H.take m)) v av := fun h => h.mono fun b _ hb => hb.take
  cases h with
  | deep h => exact .deep (hD h)
  | own l n a cap b hb hn h0 hx =>
    have hl : l < m := by simpa [AV.clean1] using hc
    refine .own l n a cap b (by rw [List.getElem?_take, if_pos hl]; exact hb) hn h0 fun e => ?_
    rw [List.getElem?_take, if_pos hl]
    exact hx e
  | ptr l n sz i f a b hb hn hx =>
    have hl : l < m := by simpa [AV.clean1] using hc
    refine .ptr l n sz i f a b (by rw [List.getElem?_take, if_pos hl]; exact hb) hn fun e1 e2 e3 => ?_
    rw [List.getElem?_take, if_pos hl]
    exact hx e1 e2 e3
  | agg cs cells val hl hm hv => cases hc
  | tup cs cells val hl hm hv => cases hc
  | fn f cs cells val hl hm hv => exact .fn f cs cells val hl hm fun j u hj => .deep (hD (rep_deep (List.all_eq_true.1 hc u (List.mem_of_getElem? hj)) (hv j u hj)))

theorem rep_clean {w : World} {X : Nat → Prop} {β : List BI} {H : List Blk} {m : Nat} {v : Value} {av : AV} (hc : av.clean m = true) (h : Rep w (Mu X β H) β H v av) : Rep w (Mu X (β.take m) (H.take m)) (β.take m) (H.take m) v av := by
  cases av with
  | agg cells =>
    obtain ⟨cs, val, rfl, hl, hm, hv⟩ := rep_agg h
    exact .agg cs cells val hl hm fun j u hj => rep_clean1 (List.all_eq_true.1 hc u (List.mem_of_getElem? hj)) (hv j u hj)
  | tup cells =>
    obtain ⟨cs, val, rfl, hl, hm, hv⟩ := rep_tup h
    exact .tup cs cells val hl hm fun j u hj => rep_clean1 (List.all_eq_true.1 hc u (List.mem_of_getElem? hj)) (hv j u hj)
  | _ => exact rep_clean1 hc h

/-- The blocks behind the first m are forgotten. -/
theorem weak_drop {ρ : List (Nat × AV)} {H : List Blk} (m : Nat) (hm : h0 ≤ m) (hρ : ∀ p ∈ ρ, p.2.clean m = true) (hH : ∀ b ∈ H.take m, b.deep = true ∨ ∀ r ∈ b.rows, ∀ c ∈ r, c.clean m = true) : Weak C N h0 ⟨ρ, H⟩ ⟨ρ, H.take m⟩ := by
  intro X w0 β0 H0 a w hl hr
  obtain ⟨β, R, S0, Tr, G, hN, hdef⟩ := hr
  have hcl : ∀ t, (getA ρ t).clean m = true := by
    intro t
    have key : ∀ l : List (Nat × AV), (∀ p ∈ l, p.2.clean m = true) → (getA l t).clean m = true := by
      intro l
      induction l with
      | nil => intro _; rfl
      | cons p r ih =>
        intro hp
        obtain ⟨k, v⟩ := p
        simp only [getA]
        split
        · exact hp (k, v) (by simp)
        · exact ih fun q hq => hp q (List.mem_cons_of_mem _ hq)
    exact key ρ hρ
  refine ⟨β.take m, ⟨by simp [R.len], fun l bi b h1 h2 => ?_, fun l b c h1 => ?_, fun l l' b c c' h1 h2 => ?_, R.base⟩, ⟨S0.keeps, ⟨fun l b h => ?_, fun l bk c h => ?_⟩, S0.len⟩, fun t => rep_clean (hcl t) (Tr t), fun g => (G g).mono fun b _ hb => hb.take, hN, hdef⟩
  · rw [List.getElem?_take] at h1 h2
    split at h1
    · rename_i hlm
      rw [if_pos hlm] at h2
      have hB := R.blk l bi b h1 h2
      cases bi with
      | nil => exact hB
      | lies bk cap =>
        obtain ⟨cur, k1, k2, k3, k4, k5, k6, k7⟩ := hB
        refine ⟨cur, k1, k2, k3, k4, k5, k6, fun i j r av hr hj => ?_⟩
        obtain ⟨v, q1, q2, q3, q4⟩ := k7 i j r av hr hj
        have q4' : b.deep = true → RepD w (Mu X (β.take m) (H.take m)) v av := fun hd => (q4 hd).mono fun b _ hb => hb.take
        refine ⟨v, q1, q2, ?_, q4'⟩
        have hmem : b ∈ H.take m := List.mem_of_getElem? (by rw [List.getElem?_take, if_pos hlm]; exact h2)
        rcases hH b hmem with h | h
        · exact .deep (q4' h)
        · exact rep_clean (h r (List.mem_of_getElem? hr) av (List.mem_of_getElem? hj)) q3
    · cases h1
  · rw [List.getElem?_take] at h1
    split at h1
    · exact R.lt l b c h1
    · cases h1
  · rw [List.getElem?_take] at h1 h2
    split at h1
    · split at h2
      · exact R.inj l l' b c c' h1 h2
      · cases h2
    · cases h1
  · obtain ⟨b', e1, e2, e3, e4, e5, e6⟩ := S0.grow.old l b h
    have hlm : l < m := by have := (List.getElem?_eq_some_iff.1 h).1; omega
    refine ⟨b', by simp only [List.getElem?_take, if_pos hlm]; exact e1, e2, e3, e4, fun e => ?_, e6⟩
    rw [List.getElem?_take, if_pos hlm]
    exact e5 e
  · rw [List.getElem?_take] at h
    split at h
    · exact S0.grow.at_ l bk c h
    · cases h

/-- An empty slice without room begins to be the call's own. -/
theorem weak_nil {ρ : List (Nat × AV)} {H : List Blk} (t sz : Nat) (e : TypeId) (ht : getA ρ t = .slice sz true []) (hz : 0 < sz) : Weak C N h0 ⟨ρ, H⟩ ⟨(t, .own H.length 0) :: ρ, H ++ [⟨e, sz, [], true, true⟩]⟩ := by
  intro X w0 β0 H0 a w hl hr
  obtain ⟨β, R, S0, Tr, G, hN, hdef⟩ := hr
  have hk := Keeps.refl (fun _ => False) w
  have S := push_step (w' := w) R hk .nil ⟨e, sz, [], true, true⟩ (fun bk c e => by cases e)
  have R' := push_hrel R hk .nil ⟨e, sz, [], true, true⟩ (fun bk c e => by cases e) (fun bk c e => by cases e) ⟨rfl, hz⟩
  refine ⟨β ++ [.nil], R', S0.trans S, fun k => ?_, fun g => (G g).keep (fun b hb hn => S.keeps.block b hb (fun hm => hn (.inr hm))) S.keeps.size (fun b hb => S.mu b hb), hN, hdef⟩
  simp only [getA]
  split
  · rename_i e0
    subst e0
    have h1 := Tr t
    simp only at h1
    rw [ht] at h1
    obtain ⟨a0, cap, val, h2, h3, h4, h5, _⟩ := repD_slice (rep_slice h1)
    rw [h2]
    have hcap := h5 rfl
    simp only [List.length_nil] at hcap
    refine .own H.length 0 a0 cap ⟨e, sz, [], true, true⟩ (getElem?_snoc_new H _) (Nat.le_refl _) (.inl rfl) fun _ => ?_
    rw [← R.len, getElem?_snoc_new]
    exact ⟨rfl, hcap⟩
  · exact (Tr k).keep S

/-- A block is closed, and a slot that holds its slice reads its contents. -/
theorem weak_view {ρ : List (Nat × AV)} {H : List Blk} (t : Nat) : Weak C N h0 ⟨ρ, H⟩ ⟨(t, view H 6 (getA ρ t)) :: ρ, frzL (reach H 6 (getA ρ t)) 0 H⟩ := by
  intro X w0 β0 H0 a w hl hr
  obtain ⟨β, R, S0, Tr, G, hN, hdef⟩ := hr
  have S := frz_step R (reach H 6 (getA ρ t))
  refine ⟨β, frz_hrel R _, S0.trans S, fun k => ?_, fun g => (G g).keep (fun b hb hn => S.keeps.block b hb (fun hm => hn (.inr hm))) S.keeps.size (fun b hb => S.mu b hb), hN, hdef⟩
  simp only [getA]
  split
  · rename_i e
    subst e
    exact .deep ((view_sound R (fun l => l ∈ reach H 6 (getA ρ t)) 6 (Tr t) (fun l hl => hl)).mono fun b _ hb => XL_frz hb)
  · exact (Tr k).keep S

/-! ### Contracts out of conditions -/
def nrmV : AV → AV
  | .agg cs => .agg (cs.map nrmC)
  | .tup cs => .tup (cs.map fun c => match c with | .agg ds => .agg (ds.map nrmC) | c => nrmC c)
  | v => nrmC v

theorem repD_aggN {w : World} {X : Nat → Prop} {v : Value} {cs : List AV} (h : RepD w X v (.agg cs)) : RepD w X v (.agg (cs.map nrmC)) := by
  cases h with
  | agg as _ val hl hm hv =>
    refine .agg as _ val (by simp [hl]) (fun j hj => hm j (by simpa using hj)) fun j u hj => ?_
    rw [List.getElem?_map] at hj
    simp only [Option.map_eq_some_iff] at hj
    obtain ⟨c, hc, rfl⟩ := hj
    exact repD_nrmC (hv j c hc)

theorem repD_nrmV {w : World} {X : Nat → Prop} {v : Value} {av : AV} (h : RepD w X v av) : RepD w X v (nrmV av) := by
  cases av with
  | agg cs => exact repD_aggN h
  | tup cs =>
    cases h with
    | tup as _ val hl hm hv =>
      refine .tup as _ val (by simp [hl]) (fun j hj => hm j (by simpa using hj)) fun j u hj => ?_
      rw [List.getElem?_map] at hj
      simp only [Option.map_eq_some_iff] at hj
      obtain ⟨c, hc, rfl⟩ := hj
      have hr := hv j c hc
      cases c with
      | agg ds => exact repD_aggN hr
      | _ => exact repD_nrmC hr
  | _ => exact repD_nrmC h

def ares (C : Ctx) (st : ASt) : ResultVar → Option (Prop × AV)
  | .tmp t => some (True, getA st.ρ t)
  | .cell a t => aload C st.H t (getA st.ρ a)

def aresList (C : Ctx) (st : ASt) : List ResultVar → Option (Prop × List AV)
  | [] => some (True, [])
  | r :: q => match ares C st r, aresList C st q with
    | some (ob, v), some (ob', vs) => some (ob ∧ ob', v :: vs)
    | _, _ => none

def aresults (C : Ctx) (st : ASt) (rs : List ResultVar) : Option (Prop × AV) :=
  match aresList C st rs with
  | some (ob, [v]) => some (ob, v)
  | some (ob, vs) => some (ob, .tup vs)
  | none => none

theorem loadAt_as {P : Program} {t : TypeId} {v u : Value} {w : World} (h : (Instr.loadAt t v).run P w = .ok u w) : (do loadVar t (← asAddr v) : Sem Value).run P w = .ok u w := by
  cases v with
  | pointer a =>
    cases a with
    | none => simp [Instr.loadAt, Instr.sureAddr] at h
    | some ad => simpa [Instr.loadAt, Instr.sureAddr, asAddr] using h
  | _ => simp [Instr.loadAt, Instr.sureAddr] at h

def resOf (tmps : Array Value) : ResultVar → Sem Value
  | .tmp t => pure (tmps.getD t undef)
  | .cell x t => do loadVar t (← asAddr (tmps.getD x undef))

theorem results_eq (fn : Func) (tmps : Array Value) : results fn tmps = (do let vs ← fn.results.mapM (resOf tmps); pure (if h : vs.size = 1 then vs[0] else .tuple vs)) := by
  unfold results
  congr 1

theorem ares_sound {w : World} {X : Nat → Prop} {β : List BI} {st : ASt} {a : Act} (R : HRel w X β st.H) (T : TRel w (Mu X β st.H) β st.H a st.ρ) {rv : ResultVar} {ob : Prop} {r : AV} (h : ares C st rv = some (ob, r)) (hob : ob) :
    ∃ u, (resOf a.tmps rv).run C.P w = .ok u w ∧ Rep w (Mu X β st.H) β st.H u r := by
  cases rv with
  | tmp t =>
    injection h with h; injection h with e1 e2; subst e1 e2
    exact ⟨_, rfl, T t⟩
  | cell x t =>
    obtain ⟨u, h1, h2⟩ := aload_sound R h hob (T x)
    exact ⟨u, loadAt_as h1, h2⟩

theorem aresList_sound {w : World} {X : Nat → Prop} {β : List BI} {st : ASt} {a : Act} (R : HRel w X β st.H) (T : TRel w (Mu X β st.H) β st.H a st.ρ) : ∀ (rs : List ResultVar) {ob : Prop} {vs : List AV}, aresList C st rs = some (ob, vs) → ob →
    ∃ us : List Value, (rs.mapM (resOf a.tmps)).run C.P w = .ok us w ∧ us.length = vs.length ∧ ∀ (j : Nat) (u : AV), vs[j]? = some u → ∃ v, us[j]? = some v ∧ Rep w (Mu X β st.H) β st.H v u
  | [], ob, vs, h, _ => by
    injection h with h; injection h with e1 e2; subst e1 e2
    exact ⟨[], by simp [List.mapM_nil], rfl, fun j u hj => by simp at hj⟩
  | r :: q, ob, vs, h, hob => by
    unfold aresList at h
    split at h
    · rename_i ob1 v ob2 vs' h1 h2
      injection h with h; injection h with e1 e2; subst e1 e2
      obtain ⟨u, k1, k2⟩ := ares_sound R T h1 hob.1
      obtain ⟨us, k3, k4, k5⟩ := aresList_sound R T q h2 hob.2
      refine ⟨u :: us, ?_, by simp [k4], fun j x hj => ?_⟩
      · rw [List.mapM_cons, Sem.run_bind]
        rw [k1]
        simp only [Result.andThen_ok, Sem.run_bind]
        rw [k3]
        rfl
      · match j with
        | 0 => simp at hj; subst hj; exact ⟨u, rfl, k2⟩
        | j + 1 => exact k5 j x (by simpa using hj)
    · cases h

theorem aresults_sound {w : World} {X : Nat → Prop} {β : List BI} {st : ASt} {a : Act} (R : HRel w X β st.H) (T : TRel w (Mu X β st.H) β st.H a st.ρ) {fn : Func} {ob : Prop} {r : AV} (h : aresults C st fn.results.toList = some (ob, r)) (hob : ob) :
    ∃ u, (results fn a.tmps).run C.P w = .ok u w ∧ Rep w (Mu X β st.H) β st.H u r := by
  unfold aresults at h
  have key : ∀ ob vs, aresList C st fn.results.toList = some (ob, vs) → ob → ∃ us : List Value, (results fn a.tmps).run C.P w = .ok (if h : us.toArray.size = 1 then us.toArray[0] else .tuple us.toArray) w ∧ us.length = vs.length ∧ ∀ (j : Nat) (u : AV), vs[j]? = some u → ∃ v, us[j]? = some v ∧ Rep w (Mu X β st.H) β st.H v u := by
    intro ob vs hl hob
    obtain ⟨us, h1, h2, h3⟩ := aresList_sound R T fn.results.toList hl hob
    refine ⟨us, ?_, h2, h3⟩
    rw [results_eq, Array.mapM_eq_mapM_toList, map_eq_pure_bind, bind_assoc, Sem.run_bind]
    simp only [pure_bind]
    rw [h1]
    rfl
  split at h
  · rename_i ob' v hl
    injection h with h; injection h with e1 e2; subst e1 e2
    obtain ⟨us, h1, h2, h3⟩ := key _ _ hl hob
    obtain ⟨u, hu, hr⟩ := h3 0 v rfl
    match us, h2, hu with
    | [x], _, hu =>
      simp at hu
      subst hu
      exact ⟨x, h1, hr⟩
  · rename_i ob' vs hne hl
    injection h with h; injection h with e1 e2; subst e1 e2
    obtain ⟨us, h1, h2, h3⟩ := key _ _ hl hob
    have hn : us.toArray.size ≠ 1 := by
      intro e
      simp at e
      rw [e] at h2
      obtain ⟨y, rfl⟩ := List.length_eq_one_iff.1 h2.symm
      exact hne y rfl
    rw [dif_neg hn] at h1
    refine ⟨_, h1, .tup us.toArray vs (fun j => us.getD j undef) (by simpa using h2) (fun j hj => ?_) (fun j u hj => ?_)⟩
    · obtain ⟨v, hv, _⟩ := h3 j _ (List.getElem?_eq_getElem hj)
      simp [List.getD_eq_getElem?_getD, hv]
    · obtain ⟨v, hv, hr⟩ := h3 j u hj
      rw [List.getD_eq_getElem?_getD, hv]
      exact hr
  · cases h

def argsρ : Nat → List AV → List (Nat × AV)
  | _, [] => []
  | i, v :: r => (i, v) :: argsρ (i + 1) r

theorem argsρ_get : ∀ (vs : List AV) (i t : Nat), getA (argsρ i vs) t = if i ≤ t ∧ t < i + vs.length then vs.getD (t - i) .undef else .undef
  | [], i, t => by simp [argsρ, getA]
  | v :: r, i, t => by
    simp only [argsρ, getA, argsρ_get r (i + 1) t, List.length_cons]
    by_cases e : i = t
    · subst e
      rw [if_pos rfl, if_pos (by omega)]
      simp
    · rw [if_neg e]
      by_cases h : i + 1 ≤ t ∧ t < i + 1 + r.length
      · rw [if_pos h, if_pos (by omega), show t - i = (t - (i + 1)) + 1 by omega]
        rfl
      · rw [if_neg h, if_neg (by omega)]

theorem trel_args {w : World} {Y : Nat → Prop} {β : List BI} {H : List Blk} {args : Array Value} {avs : List AV} {n : Nat} (hsz : args.size = avs.length) (h : ∀ (j : Nat) (u : AV), avs[j]? = some u → ∃ v, args[j]? = some v ∧ Rep w Y β H v u) :
    TRel w Y β H { tmps := args ++ Array.replicate (n - args.size) undef, defers := [] } (argsρ 0 avs) := by
  intro t
  rw [argsρ_get]
  split
  · rename_i ht
    have ht' : t < avs.length := by omega
    obtain ⟨v, hv, hr⟩ := h t _ (List.getElem?_eq_getElem ht')
    simp only [Nat.sub_zero]
    rw [List.getD_eq_getElem?_getD, List.getElem?_eq_getElem ht', Array.getD_eq_getD_getElem?, Array.getElem?_append_left (by omega), hv]
    exact hr
  · exact rep_undef

/-- A function that leaves all as it is but for what it makes: its contract out of its body's condition. -/
theorem pure_of_avc (hS : SigOK C) (hM : C.P.follows .mixedOrders = true) {f : FuncId} {fn : Func} {body : Code} (hf : C.P.funcs[f]? = some fn) (hb : fn.body = some body) (hok : codeOK C fn.ntmps body = true) {p : List AV → Option (Prop × AV)}
    (h : ∀ avs ob r, p avs = some (ob, r) → ob → avs.length ≤ fn.ntmps ∧ avc C fn.ntmps 0 body ⟨argsρ 0 avs, []⟩ fun ex st' => (ex = .normal ∨ ex = .ret) ∧ ∃ ob' r', aresults C st' fn.results.toList = some (ob', r') ∧ ob' ∧ nrmV (view st'.H 6 r') = r) : PureOK C.P C.G f p := by
  intro w X args avs ob r hX hG hsz harg hp hob
  obtain ⟨hlen, hav⟩ := h avs ob r hp hob
  refine calls_of_wp hf hb ?_
  have hMu : ∀ b, Mu X [] [] b → X b := by
    rintro b (h | ⟨l, c, blk, h1, _, _⟩)
    · exact h
    · simp at h1
  have R : HRel w X [] [] := ⟨rfl, fun l bi b h1 _ => by simp at h1, fun l b c h1 => by simp at h1, fun l l' b c c' h1 => by simp at h1, hX⟩
  have hr : Rel C fn.ntmps X w [] [] ⟨argsρ 0 avs, []⟩ { tmps := args ++ Array.replicate (fn.ntmps - args.size) undef, defers := [] } w :=
    ⟨[], R, StepR.refl _ _ _ rfl, trel_args hsz (fun j u hj => let ⟨v, h1, h2⟩ := harg j u hj; ⟨v, h1, .deep (h2.mono fun b _ hb => hMu b hb)⟩), fun g => (hG g).mono fun b _ hb => hMu b hb, by simp; omega, rfl⟩
  refine Code.wp_mono (fun ex a' w' ⟨st', hq, hr'⟩ => ?_) (avc_sound hS hM body hok hav X w [] [] _ w rfl hr)
  obtain ⟨hex, ob', r', hres, hob', hview⟩ := hq
  obtain ⟨β', R', S', T', G', hN', hdef'⟩ := hr'
  obtain ⟨u, hu, hrep⟩ := aresults_sound R' T' hres hob'
  have hv := (view_sound R' (fun _ => True) 6 hrep (fun _ _ => trivial)).mono (X' := X) fun b _ hb => .inl hb
  have hv := repD_nrmV hv
  rw [hview] at hv
  have hpost : bodyPost C.P fn (fun e w' => ∃ v, e = .returned v ∧ Keeps (fun _ => False) w w' ∧ RepD w' X v r) .normal a' w' :=
    ⟨hdef', u, hu, u, rfl, S'.keeps.weaken (fun b _ h => by obtain ⟨l, c, blk, h1, _, _⟩ := h; simp at h1), hv⟩
  rcases hex with rfl | rfl
  · exact hpost
  · exact hpost

/-- A function that may change the caller's blocks. -/
theorem gen_of_avc (hS : SigOK C) (hM : C.P.follows .mixedOrders = true) {f : FuncId} {fn : Func} {body : Code} (hf : C.P.funcs[f]? = some fn) (hb : fn.body = some body) (hok : codeOK C fn.ntmps body = true) {g : List AV → List Blk → Option (Prop × AV × List Blk)}
    (h : ∀ avs H ob r H', g avs H = some (ob, r, H') → ob → avs.length ≤ fn.ntmps ∧ avc C fn.ntmps H.length body ⟨argsρ 0 avs, H⟩ fun ex st' => (ex = .normal ∨ ex = .ret) ∧ ∃ ob' , aresults C st' fn.results.toList = some (ob', r) ∧ ob' ∧ st'.H = H') : GenOK C.P C.G f g := by
  intro w X β H args avs ob r H' R hG hsz harg hp hob
  obtain ⟨hlen, hav⟩ := h avs H ob r H' hp hob
  refine calls_of_wp hf hb ?_
  have hr : Rel C fn.ntmps X w β H ⟨argsρ 0 avs, H⟩ { tmps := args ++ Array.replicate (fn.ntmps - args.size) undef, defers := [] } w :=
    ⟨β, R, StepR.refl _ _ _ R.len, trel_args hsz harg, hG, by simp; omega, rfl⟩
  refine Code.wp_mono (fun ex a' w' ⟨st', hq, hr'⟩ => ?_) (avc_sound hS hM body hok hav X w β H _ w rfl hr)
  obtain ⟨hex, ob', hres, hob', hH⟩ := hq
  obtain ⟨β', R', S', T', G', hN', hdef'⟩ := hr'
  obtain ⟨u, hu, hrep⟩ := aresults_sound R' T' hres hob'
  subst hH
  have hpost : bodyPost C.P fn (fun e w' => ∃ v β', e = .returned v ∧ HRel w' X β' st'.H ∧ StepR w β H w' β' st'.H ∧ Rep w' (Mu X β' st'.H) β' st'.H v r) .normal a' w' :=
    ⟨hdef', u, hu, u, β', rfl, R', S', hrep⟩
  rcases hex with rfl | rfl
  · exact hpost
  · exact hpost

end
end Go.Proofs.YtankjfiaajpfoaaDoor
