/-
  Texts joined: AmD AmE AmF AmG AmI AmK AmN AmT AmV AmW AmU AmX.
-/
import Derived.Test.YtgjljfbohpnfcaaGreatX2
import Derived.Scope
import Derived.Deep.LoopGhost
import Derived.Deep.Slices
import Derived.ChangeSame
import Derived.Below
import Derived.Orders

namespace Go.Proofs.YtgjljfbohpnfcaaGreat
open Go.RowKit
def codeOK (C : Ctx) (N : Nat) : Code → Bool
  | .region _ ops draw => (ops.toList.all fun o => match o.dst with | some d => decide (d < N) | none => true) && (!draw || regOK C ops)
  | .seq a b => codeOK C N a && codeOK C N b
  | .cond _ a b => codeOK C N a && codeOK C N b
  | .block _ b => codeOK C N b
  | .loop b => codeOK C N b
  | .scope b => codeOK C N b
  | _ => true
def AW (C : Ctx) (N h0 : Nat) (code : Code) (st : ASt) (Q : Exit → ASt → Prop) : Prop :=
  ∀ (X : Nat → Prop) (w0 : World) (β0 : List BI) (H0 : List Blk) (a : Act) (w : World), H0.length = h0 → Rel C N X w0 β0 H0 st a w → code.wp C.P (fun ex a' w' => ∃ st', Q ex st' ∧ Rel C N X w0 β0 H0 st' a' w') a w
def Weak (C : Ctx) (N h0 : Nat) (st st' : ASt) : Prop :=
  ∀ (X : Nat → Prop) (w0 : World) (β0 : List BI) (H0 : List Blk) (a : Act) (w : World), H0.length = h0 → Rel C N X w0 β0 H0 st a w → Rel C N X w0 β0 H0 st' a w
def avc (C : Ctx) (N h0 : Nat) : Code → ASt → (Exit → ASt → Prop) → Prop
  | .skip, st, Q => Q .normal st
  | .region _ ops _, st, Q => aops C ops ops.toList st (Q .normal)
  | .seq a b, st, Q => avc C N h0 a st fun ex st' => match ex with | .normal => avc C N h0 b st' Q | e => Q e st'
  | .cond c a b, st, Q => match aev C st.ρ 0 c with | .bool x => (x = true → avc C N h0 a st Q) ∧ (x = false → avc C N h0 b st Q) | .anyb => avc C N h0 a st Q ∧ avc C N h0 b st Q | _ => False
  | .block id b, st, Q => avc C N h0 b st fun ex st' => match ex with | .exit j => if j = id then Q .normal st' else Q (.exit j) st' | e => Q e st'
  | .exit id, st, Q => Q (.exit id) st
  | .ret, st, Q => Q .ret st
  | .label _, st, Q => Q .normal st
  | .scope b, st, Q => avc C N h0 b st fun ex st' => match ex with | .goto _ => False | e => Q e st'
  | .loop b, st, Q => AW C N h0 (.loop b) st Q
  | _, _, _ => False
section
variable {C : Ctx} {N h0 : Nat}
theorem AW.mono {code : Code} {st : ASt} {Q Q' : Exit → ASt → Prop} (h : AW C N h0 code st Q) (hq : ∀ ex st', Q ex st' → Q' ex st') : AW C N h0 code st Q' :=
  fun X w0 β0 H0 a w hl hr => Code.wp_mono (fun _ _ _ ⟨st', hq', hr'⟩ => ⟨st', hq _ _ hq', hr'⟩) (h X w0 β0 H0 a w hl hr)
theorem Weak.refl (st : ASt) : Weak C N h0 st st := fun _ _ _ _ _ _ _ h => h
theorem Weak.trans {a b c : ASt} (h : Weak C N h0 a b) (h' : Weak C N h0 b c) : Weak C N h0 a c := fun X w0 β0 H0 x w hl hr => h' X w0 β0 H0 x w hl (h X w0 β0 H0 x w hl hr)
theorem AW.weak {code : Code} {st st' : ASt} {Q : Exit → ASt → Prop} (hw : Weak C N h0 st st') (h : AW C N h0 code st' Q) : AW C N h0 code st Q :=
  fun X w0 β0 H0 a w hl hr => h X w0 β0 H0 a w hl (hw X w0 β0 H0 a w hl hr)
theorem avc_mono : ∀ (code : Code) {st : ASt} {Q Q' : Exit → ASt → Prop}, avc C N h0 code st Q → (∀ ex st', Q ex st' → Q' ex st') → avc C N h0 code st Q'
  | .skip, st, Q, Q', h, hq => hq _ _ h
  | .region _ ops _, st, Q, Q', h, hq => by
    simp only [avc] at h ⊢
    have key : ∀ (l : List Oper) (st : ASt) (K K' : ASt → Prop), (∀ s, K s → K' s) → aops C ops l st K → aops C ops l st K' := by
      intro l
      induction l with
      | nil => intro st K K' hk h; exact hk st h
      | cons o r ih =>
        intro st K K' hk h
        unfold aops at h ⊢
        split at h
        · exact h
        · refine ⟨fun hg => ?_, fun hg => ih _ K K' hk (h.2 hg)⟩
          have h := h.1 hg
          split at h
          · exact ⟨h.1, ih _ K K' hk h.2⟩
          · exact h
    exact key _ _ _ _ (fun s => hq .normal s) h
  | .seq a b, st, Q, Q', h, hq => by
    simp only [avc] at h ⊢
    refine avc_mono a h fun ex st' h => ?_
    cases ex <;> first | exact avc_mono b h hq | exact hq _ _ h
  | .cond c a b, st, Q, Q', h, hq => by
    simp only [avc] at h ⊢
    split at h
    · exact ⟨fun hx => avc_mono a (h.1 hx) hq, fun hx => avc_mono b (h.2 hx) hq⟩
    · exact ⟨avc_mono a h.1 hq, avc_mono b h.2 hq⟩
    · exact h
  | .block id b, st, Q, Q', h, hq => by
    simp only [avc] at h ⊢
    refine avc_mono b h fun ex st' h => ?_
    cases ex with
    | exit j =>
      simp only at h ⊢
      split
      · rename_i e; rw [if_pos e] at h; exact hq _ _ h
      · rename_i e; rw [if_neg e] at h; exact hq _ _ h
    | _ => exact hq _ _ h
  | .exit id, st, Q, Q', h, hq => hq _ _ h
  | .ret, st, Q, Q', h, hq => hq _ _ h
  | .label _, st, Q, Q', h, hq => hq _ _ h
  | .scope b, st, Q, Q', h, hq => by
    simp only [avc] at h ⊢
    refine avc_mono b h fun ex st' h => ?_
    cases ex <;> first | exact hq _ _ h | exact h
  | .loop b, st, Q, Q', h, hq => AW.mono h hq
  | .goto _, _, _, _, h, _ => h
  | .rangeFunc .., _, _, _, h, _ => h
  | .refuse _, _, _, _, h, _ => h
theorem avc_sound (hS : SigOK C) (hM : C.P.follows .mixedOrders = true) : ∀ (code : Code) {st : ASt} {Q : Exit → ASt → Prop}, codeOK C N code = true → avc C N h0 code st Q → AW C N h0 code st Q
  | .skip, st, Q, _, h => fun X w0 β0 H0 a w hl hr => wp_skip ⟨st, h, hr⟩
  | .region id ops draw, st, Q, hok, h => fun X w0 β0 H0 a w hl hr => by
    simp only [codeOK, Bool.and_eq_true, Bool.or_eq_true, Bool.not_eq_true'] at hok
    have hd : ∀ o ∈ ops.toList, ∀ d, o.dst = some d → d < N := by
      intro o ho d hd
      have := List.all_eq_true.1 hok.1 o ho
      rw [hd] at this
      simpa using this
    simp only [avc] at h
    cases draw with
    | false => exact wp_region_list (wpList_of_aops hS ops.toList hd h hr fun st' a' w' hr' hk => ⟨st', hk, hr'⟩)
    | true =>
      have hok2 := hok.2.resolve_left (by simp)
      obtain ⟨B, F, hfull⟩ := regOK_facts hok2
      obtain ⟨v, ρ, H, T, hK⟩ := aops_trace ops.toList 0 st (Q .normal) (fun j => by simp) (Nat.zero_le _) h
      refine wp_region_any hM ?_
      obtain ⟨β, R, S0, Tr, G, hN, hdef⟩ := hr
      have hk : Keeps (fun _ => False) w { w with drawn := w.drawn + 1 } := Keeps.drew _ w
      have hr' : Rel C N X w0 β0 H0 ⟨st.ρ, st.H⟩ a { w with drawn := w.drawn + 1 } :=
        ⟨β, R.quiet hk, S0.trans (StepR.quiet hk R.len), fun t => (Tr t).keep (StepR.quiet hk R.len), fun g => (G g).keep (fun b hb hn => hk.block b hb (fun h => h)) hk.size (fun b _ h => h), hN, hdef⟩
      refine wpAny_of_trace hS (fun i hi d hd' => ?_) T F (stable_of T F hfull) (fun a' w' hr => ⟨_, hK, hr⟩) ops.size (Array.replicate ops.size false) st.ρ st.H a _ (by simp) ?_ (Nat.le_trans List.countP_le_length (by simp)) hr'
      · refine hd (opAt ops i) ?_ d hd'
        unfold opAt
        rw [Array.getD_eq_getD_getElem?, Array.getElem?_eq_getElem hi]
        exact Array.mem_toList_iff.2 (Array.getElem_mem hi)
      · have hno : ∀ i, ¬ ((Array.replicate ops.size false).getD i false = true) := by
          intro i
          rw [Array.getD_eq_getD_getElem?]
          rcases Nat.lt_or_ge i ops.size with h | h
          · simp [h]
          · simp [Array.getElem?_eq_none (show (Array.replicate ops.size false).size ≤ i by simpa using h)]
        refine ⟨fun i _ h => absurd h (hno i), fun i _ h => absurd h (hno i), fun t _ => by rw [T.ρ0], fun k hk hsep => ?_⟩
        rw [← T.H0]
        refine tr_sep T (Nat.zero_le _) hk fun e he1 he2 => ⟨fun h => by omega, fun h => absurd ((hsep e he1 he2).2 h) (hno e)⟩
  | .seq x y, st, Q, hok, h => fun X w0 β0 H0 a w hl hr => by
    simp only [codeOK, Bool.and_eq_true] at hok
    simp only [avc] at h
    refine wp_seq (Code.wp_mono (fun ex a' w' ⟨st', hq, hr'⟩ => ?_) (avc_sound hS hM x hok.1 h X w0 β0 H0 a w hl hr))
    cases ex with
    | normal => exact avc_sound hS hM y hok.2 hq X w0 β0 H0 a' w' hl hr'
    | _ => exact ⟨st', hq, hr'⟩
  | .cond c x y, st, Q, hok, h => fun X w0 β0 H0 a w hl hr => by
    simp only [codeOK, Bool.and_eq_true] at hok
    simp only [avc] at h
    split at h
    · rename_i b hb
      have hr0 := hr
      obtain ⟨β, R, S0, Tr, G, hN, hdef⟩ := hr0
      have hE := aev_sound Tr G 0 c
      rw [hb] at hE
      exact wp_cond_split (rep_bool hE) (fun ht => avc_sound hS hM x hok.1 (h.1 ht) X w0 β0 H0 a w hl hr) (fun hf => avc_sound hS hM y hok.2 (h.2 hf) X w0 β0 H0 a w hl hr)
    · rename_i hb
      have hr0 := hr
      obtain ⟨β, R, S0, Tr, G, hN, hdef⟩ := hr0
      have hE := aev_sound Tr G 0 c
      rw [hb] at hE
      obtain ⟨b, hb'⟩ := rep_anyb hE
      exact wp_cond_split hb' (fun _ => avc_sound hS hM x hok.1 h.1 X w0 β0 H0 a w hl hr) (fun _ => avc_sound hS hM y hok.2 h.2 X w0 β0 H0 a w hl hr)
    · exact h.elim
  | .block id b, st, Q, hok, h => fun X w0 β0 H0 a w hl hr => by
    simp only [codeOK] at hok
    simp only [avc] at h
    refine wp_block (Code.wp_mono (fun ex a' w' ⟨st', hq, hr'⟩ => ?_) (avc_sound hS hM b hok h X w0 β0 H0 a w hl hr))
    cases ex with
    | exit j =>
      simp only [Exit.inBlock] at hq ⊢
      split
      · rename_i e; rw [if_pos e] at hq; exact ⟨st', hq, hr'⟩
      · rename_i e; rw [if_neg e] at hq; exact ⟨st', hq, hr'⟩
    | _ => exact ⟨st', hq, hr'⟩
  | .exit id, st, Q, _, h => fun X w0 β0 H0 a w hl hr => wp_exit ⟨st, h, hr⟩
  | .ret, st, Q, _, h => fun X w0 β0 H0 a w hl hr => wp_ret ⟨st, h, hr⟩
  | .label _, st, Q, _, h => fun X w0 β0 H0 a w hl hr => wp_label ⟨st, h, hr⟩
  | .scope b, st, Q, hok, h => fun X w0 β0 H0 a w hl hr => by
    simp only [codeOK] at hok
    simp only [avc] at h
    refine wp_scope_straight (Code.wp_mono (fun ex a' w' ⟨st', hq, hr'⟩ => ?_) (avc_sound hS hM b hok h X w0 β0 H0 a w hl hr))
    cases ex with
    | goto l => exact hq
    | _ => exact ⟨st', hq, hr'⟩
  | .loop b, st, Q, _, h => h
  | .goto _, _, _, _, h => h.elim
  | .rangeFunc .., _, _, _, h => h.elim
  | .refuse _, _, _, _, h => h.elim
theorem AW_loop {α : Type} (hS : SigOK C) (hM : C.P.follows .mixedOrders = true) {body : Code} (hok : codeOK C N body = true) {st : ASt} {Q : Exit → ASt → Prop} (Sf : α → ASt) (pre : α → Prop) (m : α → Nat)
    (start : ∃ x, pre x ∧ Weak C N h0 st (Sf x))
    (step : ∀ x, pre x → avc C N h0 body (Sf x) fun ex st' => match ex with | .normal => ∃ x', pre x' ∧ m x' < m x ∧ Weak C N h0 st' (Sf x') | e => Q e st') : AW C N h0 (.loop body) st Q := by
  intro X w0 β0 H0 a w hl hr
  obtain ⟨x0, hx0, hw0⟩ := start
  refine wp_loop_ghost (fun n a w => ∃ x, m x = n ∧ pre x ∧ Rel C N X w0 β0 H0 (Sf x) a w) (m x0) ⟨x0, rfl, hx0, hw0 X w0 β0 H0 a w hl hr⟩ ?_
  rintro n a w ⟨x, rfl, hx, hr⟩
  refine Code.wp_mono (fun ex a' w' ⟨st', hq, hr'⟩ => ?_) (avc_sound hS hM body hok (step x hx) X w0 β0 H0 a w hl hr)
  cases ex with
  | normal =>
    obtain ⟨x', hx', hlt, hw⟩ := hq
    exact ⟨m x', hlt, x', rfl, hx', hw X w0 β0 H0 a' w' hl hr'⟩
  | _ => exact ⟨st', hq, hr'⟩
theorem weak_slots {ρ ρ' : List (Nat × AV)} {H : List Blk} (h : ∀ p ∈ ρ', getA ρ p.1 = p.2) : Weak C N h0 ⟨ρ, H⟩ ⟨ρ', H⟩ := by
  intro X w0 β0 H0 a w hl hr
  obtain ⟨β, R, S0, Tr, G, hN, hdef⟩ := hr
  refine ⟨β, R, S0, fun t => ?_, G, hN, hdef⟩
  have key : ∀ l : List (Nat × AV), (∀ p ∈ l, getA ρ p.1 = p.2) → getA l t = .undef ∨ getA l t = getA ρ t := by
    intro l
    induction l with
    | nil => intro _; exact .inl rfl
    | cons p r ih =>
      intro hp
      obtain ⟨k, v⟩ := p
      simp only [getA]
      split
      · rename_i e
        subst e
        exact .inr (hp (k, v) (by simp)).symm
      · exact ih fun q hq => hp q (List.mem_cons_of_mem _ hq)
  simp only
  rcases key ρ' h with e | e
  · rw [e]; exact rep_undef
  · rw [e]; exact Tr t
def AV.clean1 (m : Nat) : AV → Bool
  | .own l _ => decide (l < m)
  | .osl l _ _ _ _ => decide (l < m)
  | .ptr l _ _ _ _ => decide (l < m)
  | .agg _ => false
  | .tup _ => false
  | .fn _ cs => cs.all AV.isDeep
  | _ => true
def AV.clean (m : Nat) : AV → Bool
  | .agg cs => cs.all (AV.clean1 m)
  | .tup cs => cs.all (AV.clean1 m)
  | v => v.clean1 m
theorem MutB.take {β : List BI} {H : List Blk} {m b : Nat} (h : MutB (β.take m) (H.take m) b) : MutB β H b := by
  obtain ⟨l, c, blk, h1, h2, h3⟩ := h
  rw [List.getElem?_take] at h1 h2
  split at h1
  · rename_i hl
    rw [if_pos hl] at h2
    exact ⟨l, c, blk, h1, h2, h3⟩
  · cases h1
theorem Mu.take {X : Nat → Prop} {β : List BI} {H : List Blk} {m b : Nat} (h : Mu X (β.take m) (H.take m) b) : Mu X β H b := h.imp id MutB.take
theorem rep_clean1 {w : World} {X : Nat → Prop} {β : List BI} {H : List Blk} {m : Nat} {v : Value} {av : AV} (hc : av.clean1 m = true) (h : Rep w (Mu X β H) β H v av) : Rep w (Mu X (β.take m) (H.take m)) (β.take m) (H.take m) v av := by
  have hD : ∀ {v : Value} {av : AV}, RepD w (Mu X β H) v av → RepD w (Mu X (β.take m) (H.take m)) v av := fun h => h.mono fun b _ hb => hb.take
  cases h with
  | deep h => exact .deep (hD h)
  | own l n a cap b hb hn h0 hc' hx =>
    have hl : l < m := by simpa [AV.clean1] using hc
    refine .own l n a cap b (by rw [List.getElem?_take, if_pos hl]; exact hb) hn h0 hc' fun e => ?_
    rw [List.getElem?_take, if_pos hl]
    exact hx e
  | osl l n sz off len a cap b hb hn hle h0 hc' hx =>
    have hl : l < m := by simpa [AV.clean1] using hc
    refine .osl l n sz off len a cap b (by rw [List.getElem?_take, if_pos hl]; exact hb) hn hle h0 hc' fun e e2 => ?_
    rw [List.getElem?_take, if_pos hl]
    exact hx e e2
  | ptr l n sz i f a b hb hn hx =>
    have hl : l < m := by simpa [AV.clean1] using hc
    refine .ptr l n sz i f a b (by rw [List.getElem?_take, if_pos hl]; exact hb) hn fun e1 e2 e3 => ?_
    rw [List.getElem?_take, if_pos hl]
    exact hx e1 e2 e3
  | agg cs cells val hl hm hv => cases hc
  | tup cs cells val hl hm hv => cases hc
  | fn f cs cells val hl hm hv => exact .fn f cs cells val hl hm fun j u hj => .deep (hD (rep_deep (List.all_eq_true.1 hc u (List.mem_of_getElem? hj)) (hv j u hj)))
theorem rep_clean {w : World} {X : Nat → Prop} {β : List BI} {H : List Blk} {m : Nat} {v : Value} {av : AV} (hc : av.clean m = true) (h : Rep w (Mu X β H) β H v av) : Rep w (Mu X (β.take m) (H.take m)) (β.take m) (H.take m) v av := by
  cases av with
  | agg cells =>
    obtain ⟨cs, val, rfl, hl, hm, hv⟩ := rep_agg h
    exact .agg cs cells val hl hm fun j u hj => rep_clean1 (List.all_eq_true.1 hc u (List.mem_of_getElem? hj)) (hv j u hj)
  | tup cells =>
    obtain ⟨cs, val, rfl, hl, hm, hv⟩ := rep_tup h
    exact .tup cs cells val hl hm fun j u hj => rep_clean1 (List.all_eq_true.1 hc u (List.mem_of_getElem? hj)) (hv j u hj)
  | _ => exact rep_clean1 hc h
theorem weak_drop {ρ : List (Nat × AV)} {H : List Blk} (m : Nat) (hm : h0 ≤ m) (hρ : ∀ p ∈ ρ, p.2.clean m = true) (hH : ∀ b ∈ H.take m, b.deep = true ∨ ∀ r ∈ b.rows, ∀ c ∈ r, c.clean m = true) : Weak C N h0 ⟨ρ, H⟩ ⟨ρ, H.take m⟩ := by
  intro X w0 β0 H0 a w hl hr
  obtain ⟨β, R, S0, Tr, G, hN, hdef⟩ := hr
  have hcl : ∀ t, (getA ρ t).clean m = true := by
    intro t
    have key : ∀ l : List (Nat × AV), (∀ p ∈ l, p.2.clean m = true) → (getA l t).clean m = true := by
      intro l
      induction l with
      | nil => intro _; rfl
      | cons p r ih =>
        intro hp
        obtain ⟨k, v⟩ := p
        simp only [getA]
        split
        · exact hp (k, v) (by simp)
        · exact ih fun q hq => hp q (List.mem_cons_of_mem _ hq)
    exact key ρ hρ
  refine ⟨β.take m, ⟨by simp [R.len], fun l bi b h1 h2 => ?_, fun l b c h1 => ?_, fun l l' b c c' h1 h2 => ?_, R.base⟩, ⟨S0.keeps, ⟨fun l b h => ?_, fun l bk c h => ?_⟩, S0.len⟩, fun t => rep_clean (hcl t) (Tr t), fun g => (G g).mono fun b _ hb => hb.take, hN, hdef⟩
  · rw [List.getElem?_take] at h1 h2
    split at h1
    · rename_i hlm
      rw [if_pos hlm] at h2
      have hB := R.blk l bi b h1 h2
      cases bi with
      | nil => exact hB
      | lies bk cap =>
        obtain ⟨cur, k1, k2, k3, k4, k5, k6, k7⟩ := hB
        refine ⟨cur, k1, k2, k3, k4, k5, k6, fun i j r av hr hj => ?_⟩
        obtain ⟨v, q1, q2, q3, q4⟩ := k7 i j r av hr hj
        have q4' : b.deep = true → RepD w (Mu X (β.take m) (H.take m)) v av := fun hd => (q4 hd).mono fun b _ hb => hb.take
        refine ⟨v, q1, q2, ?_, q4'⟩
        have hmem : b ∈ H.take m := List.mem_of_getElem? (by rw [List.getElem?_take, if_pos hlm]; exact h2)
        rcases hH b hmem with h | h
        · exact .deep (q4' h)
        · exact rep_clean (h r (List.mem_of_getElem? hr) av (List.mem_of_getElem? hj)) q3
    · cases h1
  · rw [List.getElem?_take] at h1
    split at h1
    · exact R.lt l b c h1
    · cases h1
  · rw [List.getElem?_take] at h1 h2
    split at h1
    · split at h2
      · exact R.inj l l' b c c' h1 h2
      · cases h2
    · cases h1
  · obtain ⟨b', e1, e2, e3, e4, e5, e6⟩ := S0.grow.old l b h
    have hlm : l < m := by have := (List.getElem?_eq_some_iff.1 h).1; omega
    refine ⟨b', by simp only [List.getElem?_take, if_pos hlm]; exact e1, e2, e3, e4, fun e => ?_, e6⟩
    rw [List.getElem?_take, if_pos hlm]
    exact e5 e
  · rw [List.getElem?_take] at h
    split at h
    · exact S0.grow.at_ l bk c h
    · cases h
theorem weak_nil {ρ : List (Nat × AV)} {H : List Blk} (t sz : Nat) (e : TypeId) (ht : getA ρ t = .slice sz true []) (hz : 0 < sz) : Weak C N h0 ⟨ρ, H⟩ ⟨(t, .own H.length 0) :: ρ, H ++ [⟨e, sz, [], true, true⟩]⟩ := by
  intro X w0 β0 H0 a w hl hr
  obtain ⟨β, R, S0, Tr, G, hN, hdef⟩ := hr
  have hk := Keeps.refl (fun _ => False) w
  have S := push_step (w' := w) R hk .nil ⟨e, sz, [], true, true⟩ (fun bk c e => by cases e)
  have R' := push_hrel R hk .nil ⟨e, sz, [], true, true⟩ (fun bk c e => by cases e) (fun bk c e => by cases e) ⟨rfl, hz⟩
  refine ⟨β ++ [.nil], R', S0.trans S, fun k => ?_, fun g => (G g).keep (fun b hb hn => S.keeps.block b hb (fun hm => hn (.inr hm))) S.keeps.size (fun b hb => S.mu b hb), hN, hdef⟩
  simp only [getA]
  split
  · rename_i e0
    subst e0
    have h1 := Tr t
    simp only at h1
    rw [ht] at h1
    obtain ⟨a0, cap, val, h2, h3, h4, h5, _⟩ := repD_slice (rep_slice h1)
    rw [h2]
    have hcap := h5 rfl
    simp only [List.length_nil] at hcap
    refine .own H.length 0 a0 cap ⟨e, sz, [], true, true⟩ (getElem?_snoc_new H _) (Nat.le_refl _) (.inl rfl) (Nat.zero_le _) fun _ => ?_
    rw [← R.len, getElem?_snoc_new]
    exact ⟨rfl, hcap⟩
  · exact (Tr k).keep S
theorem weak_view {ρ : List (Nat × AV)} {H : List Blk} (t : Nat) : Weak C N h0 ⟨ρ, H⟩ ⟨(t, view H 6 (getA ρ t)) :: ρ, frzL (reach H 6 (getA ρ t)) 0 H⟩ := by
  intro X w0 β0 H0 a w hl hr
  obtain ⟨β, R, S0, Tr, G, hN, hdef⟩ := hr
  have S := frz_step R (reach H 6 (getA ρ t))
  refine ⟨β, frz_hrel R _, S0.trans S, fun k => ?_, fun g => (G g).keep (fun b hb hn => S.keeps.block b hb (fun hm => hn (.inr hm))) S.keeps.size (fun b hb => S.mu b hb), hN, hdef⟩
  simp only [getA]
  split
  · rename_i e
    subst e
    exact .deep ((view_sound R (fun l => l ∈ reach H 6 (getA ρ t)) 6 (Tr t) (fun l hl => hl)).mono fun b _ hb => XL_frz hb)
  · exact (Tr k).keep S
def nrmV : AV → AV
  | .agg cs => .agg (cs.map nrmC)
  | .tup cs => .tup (cs.map fun c => match c with | .agg ds => .agg (ds.map nrmC) | c => nrmC c)
  | v => nrmC v
theorem repD_aggN {w : World} {X : Nat → Prop} {v : Value} {cs : List AV} (h : RepD w X v (.agg cs)) : RepD w X v (.agg (cs.map nrmC)) := by
  cases h with
  | agg asq _ val hl hm hv =>
    refine .agg asq _ val (by simp [hl]) (fun j hj => hm j (by simpa using hj)) fun j u hj => ?_
    rw [List.getElem?_map] at hj
    simp only [Option.map_eq_some_iff] at hj
    obtain ⟨c, hc, rfl⟩ := hj
    exact repD_nrmC (hv j c hc)
theorem repD_nrmV {w : World} {X : Nat → Prop} {v : Value} {av : AV} (h : RepD w X v av) : RepD w X v (nrmV av) := by
  cases av with
  | agg cs => exact repD_aggN h
  | tup cs =>
    cases h with
    | tup asq _ val hl hm hv =>
      refine .tup asq _ val (by simp [hl]) (fun j hj => hm j (by simpa using hj)) fun j u hj => ?_
      rw [List.getElem?_map] at hj
      simp only [Option.map_eq_some_iff] at hj
      obtain ⟨c, hc, rfl⟩ := hj
      have hr := hv j c hc
      cases c with
      | agg ds => exact repD_aggN hr
      | _ => exact repD_nrmC hr
  | _ => exact repD_nrmC h
def ares (C : Ctx) (st : ASt) : ResultVar → Option (Prop × AV)
  | .tmp t => some (True, getA st.ρ t)
  | .cell a t => aload C st.H t (getA st.ρ a)
def aresList (C : Ctx) (st : ASt) : List ResultVar → Option (Prop × List AV)
  | [] => some (True, [])
  | r :: q => match ares C st r, aresList C st q with
    | some (ob, v), some (ob', vs) => some (ob ∧ ob', v :: vs)
    | _, _ => none
def aresults (C : Ctx) (st : ASt) (rs : List ResultVar) : Option (Prop × AV) :=
  match aresList C st rs with
  | some (ob, [v]) => some (ob, v)
  | some (ob, vs) => some (ob, .tup vs)
  | none => none
theorem loadAt_as {P : Program} {t : TypeId} {v u : Value} {w : World} (h : (Instr.loadAt t v).run P w = .ok u w) : (do loadVar t (← asAddr v) : Sem Value).run P w = .ok u w := by
  cases v with
  | pointer a =>
    cases a with
    | none => simp [Instr.loadAt, Instr.sureAddr] at h
    | some ad => simpa [Instr.loadAt, Instr.sureAddr, asAddr] using h
  | _ => simp [Instr.loadAt, Instr.sureAddr] at h
def resOf (tmps : Array Value) : ResultVar → Sem Value
  | .tmp t => pure (tmps.getD t undef)
  | .cell x t => do loadVar t (← asAddr (tmps.getD x undef))
theorem results_eq (fn : Func) (tmps : Array Value) : results fn tmps = (do let vs ← fn.results.mapM (resOf tmps); pure (if h : vs.size = 1 then vs[0] else .tuple vs)) := by
  unfold results
  congr 1
theorem ares_sound {w : World} {X : Nat → Prop} {β : List BI} {st : ASt} {a : Act} (R : HRel w X β st.H) (T : TRel w (Mu X β st.H) β st.H a st.ρ) {rv : ResultVar} {ob : Prop} {r : AV} (h : ares C st rv = some (ob, r)) (hob : ob) :
    ∃ u, (resOf a.tmps rv).run C.P w = .ok u w ∧ Rep w (Mu X β st.H) β st.H u r := by
  cases rv with
  | tmp t =>
    injection h with h; injection h with e1 e2; subst e1 e2
    exact ⟨_, rfl, T t⟩
  | cell x t =>
    obtain ⟨u, h1, h2⟩ := aload_sound R h hob (T x)
    exact ⟨u, loadAt_as h1, h2⟩
theorem aresList_sound {w : World} {X : Nat → Prop} {β : List BI} {st : ASt} {a : Act} (R : HRel w X β st.H) (T : TRel w (Mu X β st.H) β st.H a st.ρ) : ∀ (rs : List ResultVar) {ob : Prop} {vs : List AV}, aresList C st rs = some (ob, vs) → ob →
    ∃ us : List Value, (rs.mapM (resOf a.tmps)).run C.P w = .ok us w ∧ us.length = vs.length ∧ ∀ (j : Nat) (u : AV), vs[j]? = some u → ∃ v, us[j]? = some v ∧ Rep w (Mu X β st.H) β st.H v u
  | [], ob, vs, h, _ => by
    injection h with h; injection h with e1 e2; subst e1 e2
    exact ⟨[], by simp [List.mapM_nil], rfl, fun j u hj => by simp at hj⟩
  | r :: q, ob, vs, h, hob => by
    unfold aresList at h
    split at h
    · rename_i ob1 v ob2 vs' h1 h2
      injection h with h; injection h with e1 e2; subst e1 e2
      obtain ⟨u, k1, k2⟩ := ares_sound R T h1 hob.1
      obtain ⟨us, k3, k4, k5⟩ := aresList_sound R T q h2 hob.2
      refine ⟨u :: us, ?_, by simp [k4], fun j x hj => ?_⟩
      · rw [List.mapM_cons, Sem.run_bind]
        rw [k1]
        simp only [Result.andThen_ok, Sem.run_bind]
        rw [k3]
        rfl
      · match j with
        | 0 => simp at hj; subst hj; exact ⟨u, rfl, k2⟩
        | j + 1 => exact k5 j x (by simpa using hj)
    · cases h
theorem aresults_sound {w : World} {X : Nat → Prop} {β : List BI} {st : ASt} {a : Act} (R : HRel w X β st.H) (T : TRel w (Mu X β st.H) β st.H a st.ρ) {fn : Func} {ob : Prop} {r : AV} (h : aresults C st fn.results.toList = some (ob, r)) (hob : ob) :
    ∃ u, (results fn a.tmps).run C.P w = .ok u w ∧ Rep w (Mu X β st.H) β st.H u r := by
  unfold aresults at h
  have key : ∀ ob vs, aresList C st fn.results.toList = some (ob, vs) → ob → ∃ us : List Value, (results fn a.tmps).run C.P w = .ok (if h : us.toArray.size = 1 then us.toArray[0] else .tuple us.toArray) w ∧ us.length = vs.length ∧ ∀ (j : Nat) (u : AV), vs[j]? = some u → ∃ v, us[j]? = some v ∧ Rep w (Mu X β st.H) β st.H v u := by
    intro ob vs hl hob
    obtain ⟨us, h1, h2, h3⟩ := aresList_sound R T fn.results.toList hl hob
    refine ⟨us, ?_, h2, h3⟩
    rw [results_eq, Array.mapM_eq_mapM_toList, map_eq_pure_bind, bind_assoc, Sem.run_bind]
    simp only [pure_bind]
    rw [h1]
    rfl
  split at h
  · rename_i ob' v hl
    injection h with h; injection h with e1 e2; subst e1 e2
    obtain ⟨us, h1, h2, h3⟩ := key _ _ hl hob
    obtain ⟨u, hu, hr⟩ := h3 0 v rfl
    match us, h2, hu with
    | [x], _, hu =>
      simp at hu
      subst hu
      exact ⟨x, h1, hr⟩
  · rename_i ob' vs hne hl
    injection h with h; injection h with e1 e2; subst e1 e2
    obtain ⟨us, h1, h2, h3⟩ := key _ _ hl hob
    have hn : us.toArray.size ≠ 1 := by
      intro e
      simp at e
      rw [e] at h2
      obtain ⟨y, rfl⟩ := List.length_eq_one_iff.1 h2.symm
      exact hne y rfl
    rw [dif_neg hn] at h1
    refine ⟨_, h1, .tup us.toArray vs (fun j => us.getD j undef) (by simpa using h2) (fun j hj => ?_) (fun j u hj => ?_)⟩
    · obtain ⟨v, hv, _⟩ := h3 j _ (List.getElem?_eq_getElem hj)
      simp [List.getD_eq_getElem?_getD, hv]
    · obtain ⟨v, hv, hr⟩ := h3 j u hj
      rw [List.getD_eq_getElem?_getD, hv]
      exact hr
  · cases h
def argsρ : Nat → List AV → List (Nat × AV)
  | _, [] => []
  | i, v :: r => (i, v) :: argsρ (i + 1) r
theorem argsρ_get : ∀ (vs : List AV) (i t : Nat), getA (argsρ i vs) t = if i ≤ t ∧ t < i + vs.length then vs.getD (t - i) .undef else .undef
  | [], i, t => by simp [argsρ, getA]
  | v :: r, i, t => by
    simp only [argsρ, getA, argsρ_get r (i + 1) t, List.length_cons]
    by_cases e : i = t
    · subst e
      rw [if_pos rfl, if_pos (by omega)]
      simp
    · rw [if_neg e]
      by_cases h : i + 1 ≤ t ∧ t < i + 1 + r.length
      · rw [if_pos h, if_pos (by omega), show t - i = (t - (i + 1)) + 1 by omega]
        rfl
      · rw [if_neg h, if_neg (by omega)]
theorem trel_args {w : World} {Y : Nat → Prop} {β : List BI} {H : List Blk} {args : Array Value} {avs : List AV} {n : Nat} (hsz : args.size = avs.length) (h : ∀ (j : Nat) (u : AV), avs[j]? = some u → ∃ v, args[j]? = some v ∧ Rep w Y β H v u) :
    TRel w Y β H { tmps := args ++ Array.replicate (n - args.size) undef, defers := [] } (argsρ 0 avs) := by
  intro t
  rw [argsρ_get]
  split
  · rename_i ht
    have ht' : t < avs.length := by omega
    obtain ⟨v, hv, hr⟩ := h t _ (List.getElem?_eq_getElem ht')
    simp only [Nat.sub_zero]
    rw [List.getD_eq_getElem?_getD, List.getElem?_eq_getElem ht', Array.getD_eq_getD_getElem?, Array.getElem?_append_left (by omega), hv]
    exact hr
  · exact rep_undef
theorem pure_of_avc (hS : SigOK C) (hM : C.P.follows .mixedOrders = true) {f : FuncId} {fn : Func} {body : Code} (hf : C.P.funcs[f]? = some fn) (hb : fn.body = some body) (hok : codeOK C fn.ntmps body = true) {p : List AV → Option (Prop × AV)}
    (h : ∀ avs ob r, p avs = some (ob, r) → ob → avs.length ≤ fn.ntmps ∧ avc C fn.ntmps 0 body ⟨argsρ 0 avs, []⟩ fun ex st' => (ex = .normal ∨ ex = .ret) ∧ ∃ ob' r', aresults C st' fn.results.toList = some (ob', r') ∧ ob' ∧ nrmV (view st'.H 6 r') = r) : PureOK C.P C.G f p := by
  intro w X args avs ob r hX hG hsz harg hp hob
  obtain ⟨hlen, hav⟩ := h avs ob r hp hob
  refine calls_of_wp hf hb ?_
  have hMu : ∀ b, Mu X [] [] b → X b := by
    rintro b (h | ⟨l, c, blk, h1, _, _⟩)
    · exact h
    · simp at h1
  have R : HRel w X [] [] := ⟨rfl, fun l bi b h1 _ => by simp at h1, fun l b c h1 => by simp at h1, fun l l' b c c' h1 => by simp at h1, hX⟩
  have hr : Rel C fn.ntmps X w [] [] ⟨argsρ 0 avs, []⟩ { tmps := args ++ Array.replicate (fn.ntmps - args.size) undef, defers := [] } w :=
    ⟨[], R, StepR.refl _ _ _ rfl, trel_args hsz (fun j u hj => let ⟨v, h1, h2⟩ := harg j u hj; ⟨v, h1, .deep (h2.mono fun b _ hb => hMu b hb)⟩), fun g => (hG g).mono fun b _ hb => hMu b hb, by simp; omega, rfl⟩
  refine Code.wp_mono (fun ex a' w' ⟨st', hq, hr'⟩ => ?_) (avc_sound hS hM body hok hav X w [] [] _ w rfl hr)
  obtain ⟨hex, ob', r', hres, hob', hview⟩ := hq
  obtain ⟨β', R', S', T', G', hN', hdef'⟩ := hr'
  obtain ⟨u, hu, hrep⟩ := aresults_sound R' T' hres hob'
  have hv := (view_sound R' (fun _ => True) 6 hrep (fun _ _ => trivial)).mono (X' := X) fun b _ hb => .inl hb
  have hv := repD_nrmV hv
  rw [hview] at hv
  have hpost : bodyPost C.P fn (fun e w' => ∃ v, e = .returned v ∧ Keeps (fun _ => False) w w' ∧ RepD w' X v r) .normal a' w' :=
    ⟨hdef', u, hu, u, rfl, S'.keeps.weaken (fun b _ h => by obtain ⟨l, c, blk, h1, _, _⟩ := h; simp at h1), hv⟩
  rcases hex with rfl | rfl
  · exact hpost
  · exact hpost
theorem gen_of_avc (hS : SigOK C) (hM : C.P.follows .mixedOrders = true) {f : FuncId} {fn : Func} {body : Code} (hf : C.P.funcs[f]? = some fn) (hb : fn.body = some body) (hok : codeOK C fn.ntmps body = true) {g : List AV → List Blk → Option (Prop × AV × List Blk)}
    (h : ∀ avs H ob r H', g avs H = some (ob, r, H') → ob → avs.length ≤ fn.ntmps ∧ avc C fn.ntmps H.length body ⟨argsρ 0 avs, H⟩ fun ex st' => (ex = .normal ∨ ex = .ret) ∧ ∃ ob' , aresults C st' fn.results.toList = some (ob', r) ∧ ob' ∧ st'.H = H') : GenOK C.P C.G f g := by
  intro w X β H args avs ob r H' R hG hsz harg hp hob
  obtain ⟨hlen, hav⟩ := h avs H ob r H' hp hob
  refine calls_of_wp hf hb ?_
  have hr : Rel C fn.ntmps X w β H ⟨argsρ 0 avs, H⟩ { tmps := args ++ Array.replicate (fn.ntmps - args.size) undef, defers := [] } w :=
    ⟨β, R, StepR.refl _ _ _ R.len, trel_args hsz harg, hG, by simp; omega, rfl⟩
  refine Code.wp_mono (fun ex a' w' ⟨st', hq, hr'⟩ => ?_) (avc_sound hS hM body hok hav X w β H _ w rfl hr)
  obtain ⟨hex, ob', hres, hob', hH⟩ := hq
  obtain ⟨β', R', S', T', G', hN', hdef'⟩ := hr'
  obtain ⟨u, hu, hrep⟩ := aresults_sound R' T' hres hob'
  subst hH
  have hpost : bodyPost C.P fn (fun e w' => ∃ v β', e = .returned v ∧ HRel w' X β' st'.H ∧ StepR w β H w' β' st'.H ∧ Rep w' (Mu X β' st'.H) β' st'.H v r) .normal a' w' :=
    ⟨hdef', u, hu, u, β', rfl, R', S', hrep⟩
  rcases hex with rfl | rfl
  · exact hpost
  · exact hpost
end
end Go.Proofs.YtgjljfbohpnfcaaGreat
namespace Go.Proofs.YtgjljfbohpnfcaaGreat
open Go.RowKit
class Enc (α : Type) where
  sz : Nat
  cells : α → List AV
  enc : α → AV
  unc : List AV → α
  dec : AV → α
  unc_cells : ∀ x, unc (cells x) = x
  dec_enc : ∀ x, dec (enc x) = x
instance : Enc Int where
  sz := 1
  cells n := [.int .i64 n]
  enc n := .int .i64 n
  unc l := match l with | [.int _ n] => n | _ => 0
  dec v := match v with | .int _ n => n | _ => 0
  unc_cells _ := rfl
  dec_enc _ := rfl
instance : Enc Bool where
  sz := 1
  cells n := [.bool n]
  enc n := .bool n
  unc l := match l with | [.bool n] => n | _ => false
  dec v := match v with | .bool n => n | _ => false
  unc_cells _ := rfl
  dec_enc _ := rfl
instance : Enc ByteArray where
  sz := 1
  cells n := [.str n]
  enc n := .str n
  unc l := match l with | [.str n] => n | _ => ByteArray.empty
  dec v := match v with | .str n => n | _ => ByteArray.empty
  unc_cells _ := rfl
  dec_enc _ := rfl
instance : Enc UInt8 where
  sz := 1
  cells n := [.int .u8 n.toNat]
  enc n := .int .u8 n.toNat
  unc l := match l with | [.int _ n] => UInt8.ofNat n.toNat | _ => 0
  dec v := match v with | .int _ n => UInt8.ofNat n.toNat | _ => 0
  unc_cells n := by simp
  dec_enc n := by simp
def encRows {α : Type} [Enc α] (l : List α) : List (List AV) := l.map Enc.cells
instance {α : Type} [Enc α] : Enc (List α) where
  sz := 1
  cells l := [.slice (Enc.sz α) false (l.map Enc.cells)]
  enc l := .slice (Enc.sz α) false (l.map Enc.cells)
  unc c := match c with | [.slice _ _ rows] => rows.map Enc.unc | _ => []
  dec v := match v with | .slice _ _ rows => rows.map Enc.unc | _ => []
  unc_cells l := by simp [Function.comp_def, Enc.unc_cells]
  dec_enc l := by simp [Function.comp_def, Enc.unc_cells]
def ix {α : Type} [Inhabited α] (l : List α) (i : Nat) : α := l.getD i default
theorem ix_lt {α : Type} [Inhabited α] {l : List α} {i : Nat} (h : i < l.length) : ix l i = l[i] := by simp [ix, h]
theorem ix_mem {α : Type} [Inhabited α] {l : List α} {i : Nat} (h : i < l.length) : ix l i ∈ l := by rw [ix_lt h]; exact List.getElem_mem h
section
variable {α : Type} [Enc α]
@[simp] theorem sz_int : Enc.sz Int = 1 := rfl
@[simp] theorem sz_bool : Enc.sz Bool = 1 := rfl
@[simp] theorem sz_str : Enc.sz ByteArray = 1 := rfl
@[simp] theorem sz_u8 : Enc.sz UInt8 = 1 := rfl
@[simp] theorem sz_list : Enc.sz (List α) = 1 := rfl
@[simp] theorem cells_int (n : Int) : Enc.cells n = [.int .i64 n] := rfl
@[simp] theorem cells_bool (n : Bool) : Enc.cells n = [.bool n] := rfl
@[simp] theorem cells_str (n : ByteArray) : Enc.cells n = [.str n] := rfl
@[simp] theorem cells_list (l : List α) : Enc.cells l = [.slice (Enc.sz α) false (encRows l)] := rfl
@[simp] theorem enc_int (n : Int) : Enc.enc n = .int .i64 n := rfl
@[simp] theorem enc_bool (n : Bool) : Enc.enc n = .bool n := rfl
@[simp] theorem enc_str (n : ByteArray) : Enc.enc n = .str n := rfl
@[simp] theorem enc_list (l : List α) : Enc.enc l = .slice (Enc.sz α) false (encRows l) := rfl
@[simp] theorem encRows_length (l : List α) : (encRows l).length = l.length := by simp [encRows]
@[simp] theorem encRows_nil : encRows ([] : List α) = [] := rfl
theorem encRows_append (l m : List α) : encRows (l ++ m) = encRows l ++ encRows m := by simp [encRows]
@[simp] theorem encRows_cons (x : α) (l : List α) : encRows (x :: l) = Enc.cells x :: encRows l := rfl
theorem encRows_set (l : List α) (i : Nat) (x : α) : (encRows l).set i (Enc.cells x) = encRows (l.set i x) := by simp [encRows, List.map_set]
theorem rowAt_enc [Inhabited α] {l : List α} {i : Nat} (h : i < l.length) : rowAt (encRows l) i = Enc.cells (ix l i) := by
  rw [rowAt_get (by simpa using h)]
  simp [encRows, ix, h]
theorem encRows_take (l : List α) (i : Nat) : (encRows l).take i = encRows (l.take i) := by simp [encRows, List.map_take]
theorem encRows_drop (l : List α) (i : Nat) : (encRows l).drop i = encRows (l.drop i) := by simp [encRows, List.map_drop]
@[simp] theorem dec_list (sz : Nat) (f : Bool) (l : List α) : (Enc.dec (.slice sz f (encRows l)) : List α) = l := by
  show (encRows l).map Enc.unc = l
  simp [encRows, Function.comp_def, Enc.unc_cells]
@[simp] theorem dec_int (k : IntKind) (n : Int) : (Enc.dec (.int k n) : Int) = n := rfl
@[simp] theorem dec_bool (n : Bool) : (Enc.dec (.bool n) : Bool) = n := rfl
@[simp] theorem dec_str (n : ByteArray) : (Enc.dec (.str n) : ByteArray) = n := rfl
@[simp] theorem dec_nil (sz : Nat) (f : Bool) : (Enc.dec (.slice sz f []) : List α) = [] := rfl
end
def look : List (Nat × Entry) → Nat → Entry
  | [], _ => .no
  | (k, e) :: r, f => if k = f then e else look r f
def mkC (P : Program) (G : Nat → AV) (l : List (Nat × Entry)) : Ctx := ⟨P, look l, G⟩
@[simp] theorem mkC_P (P : Program) (G : Nat → AV) (l : List (Nat × Entry)) : (mkC P G l).P = P := rfl
@[simp] theorem mkC_S (P : Program) (G : Nat → AV) (l : List (Nat × Entry)) : (mkC P G l).S = look l := rfl
@[simp] theorem mkC_G (P : Program) (G : Nat → AV) (l : List (Nat × Entry)) : (mkC P G l).G = G := rfl
theorem sigOK_nil (P : Program) (G : Nat → AV) : SigOK (mkC P G []) := fun _ => trivial
theorem sigOK_cons {P : Program} {G : Nat → AV} {l : List (Nat × Entry)} {k : Nat} {e : Entry} (h : EntryOK P G k e) (hl : SigOK (mkC P G l)) : SigOK (mkC P G ((k, e) :: l)) := by
  intro f
  show EntryOK P G f (look ((k, e) :: l) f)
  unfold look
  split
  · rename_i h'; subst h'; exact h
  · exact hl f
theorem entryPure {P : Program} {G : Nat → AV} {f : FuncId} {fn : Func} {p : List AV → Option (Prop × AV)} (h : PureOK P G f p) (hf : P.funcs[f]? = some fn) (hb : fn.body.isSome = true) (hn : fn.name ≠ "runtime.NumGoroutine") : EntryOK P G f (.pure p) := .inl ⟨h, fn, hf, hn, hb⟩
theorem entryFrz {P : Program} {G : Nat → AV} {f : FuncId} {fn : Func} {p : List AV → Option (Prop × AV)} (h : PureOK P G f p) (hf : P.funcs[f]? = some fn) (hb : fn.body.isSome = true) (hn : fn.name ≠ "runtime.NumGoroutine") : EntryOK P G f (.frz p) := ⟨h, fn, hf, hn, hb⟩
def finP (C : Ctx) (rs : List ResultVar) (r : AV) (st : ASt) : Prop :=
  match aresults C st rs with
  | some (ob, r') => ob ∧ nrmV (view st.H 6 r') = r
  | none => False
def postP (C : Ctx) (rs : List ResultVar) (r : AV) : Exit → ASt → Prop
  | .normal, st => finP C rs r st
  | .ret, st => finP C rs r st
  | _, _ => False
theorem pure_of {C : Ctx} (hS : SigOK C) (hM : C.P.follows .mixedOrders = true) {f : FuncId} {fn : Func} {body : Code} {rs : List ResultVar} {n : Nat} (hf : C.P.funcs[f]? = some fn) (hb : fn.body = some body) (hrs : fn.results.toList = rs) (hn : fn.ntmps = n) (hok : codeOK C n body = true) {p : List AV → Option (Prop × AV)}
    (h : ∀ avs ob r, p avs = some (ob, r) → ob → avs.length ≤ n ∧ avc C n 0 body ⟨argsρ 0 (avs.map nrmV), []⟩ (postP C rs r)) : PureOK C.P C.G f p := by
  subst hrs hn
  intro w X args avs ob r hX hG hsz harg hp hob
  obtain ⟨hlen, hav⟩ := h avs ob r hp hob
  have := pure_of_avc (p := fun avs' => some (avs' = avs.map nrmV, r)) hS hM hf hb hok (fun avs' ob' r' hp' hob' => by
    injection hp' with hp'; injection hp' with e1 e2; subst e1 e2
    subst hob'
    refine ⟨by simpa using hlen, avc_mono body hav fun ex st' hq => ?_⟩
    have fin : finP C fn.results.toList r st' → ∃ ob' r', aresults C st' fn.results.toList = some (ob', r') ∧ ob' ∧ nrmV (view st'.H 6 r') = r := by
      unfold finP
      split
      · rename_i ob' r' hr; intro h; exact ⟨ob', r', hr, h.1, h.2⟩
      · intro h; exact h.elim
    cases ex with
    | normal => exact ⟨.inl rfl, fin hq⟩
    | ret => exact ⟨.inr rfl, fin hq⟩
    | _ => exact hq.elim)
  refine this w X args (avs.map nrmV) _ r hX hG (by simpa using hsz) (fun j u hu => ?_) rfl rfl
  rw [List.getElem?_map] at hu
  simp only [Option.map_eq_some_iff] at hu
  obtain ⟨av, hav, rfl⟩ := hu
  obtain ⟨v, h1, h2⟩ := harg j av hav
  exact ⟨v, h1, repD_nrmV h2⟩
def spec0 (r : AV) : List AV → Option (Prop × AV)
  | [] => some (True, r)
  | _ => none
def spec1 {α : Type} [Enc α] (pre : α → Prop) (res : α → AV) : List AV → Option (Prop × AV)
  | [a] => some (nrmV a = Enc.enc (Enc.dec a : α) ∧ pre (Enc.dec a), res (Enc.dec a))
  | _ => none
def spec2 {α β : Type} [Enc α] [Enc β] (pre : α → β → Prop) (res : α → β → AV) : List AV → Option (Prop × AV)
  | [a, b] => some (nrmV a = Enc.enc (Enc.dec a : α) ∧ nrmV b = Enc.enc (Enc.dec b : β) ∧ pre (Enc.dec a) (Enc.dec b), res (Enc.dec a) (Enc.dec b))
  | _ => none
def spec3 {α β γ : Type} [Enc α] [Enc β] [Enc γ] (pre : α → β → γ → Prop) (res : α → β → γ → AV) : List AV → Option (Prop × AV)
  | [a, b, c] => some (nrmV a = Enc.enc (Enc.dec a : α) ∧ nrmV b = Enc.enc (Enc.dec b : β) ∧ nrmV c = Enc.enc (Enc.dec c : γ) ∧ pre (Enc.dec a) (Enc.dec b) (Enc.dec c), res (Enc.dec a) (Enc.dec b) (Enc.dec c))
  | _ => none
def spec4 {α β γ δ : Type} [Enc α] [Enc β] [Enc γ] [Enc δ] (pre : α → β → γ → δ → Prop) (res : α → β → γ → δ → AV) : List AV → Option (Prop × AV)
  | [a, b, c, d] => some (nrmV a = Enc.enc (Enc.dec a : α) ∧ nrmV b = Enc.enc (Enc.dec b : β) ∧ nrmV c = Enc.enc (Enc.dec c : γ) ∧ nrmV d = Enc.enc (Enc.dec d : δ) ∧ pre (Enc.dec a) (Enc.dec b) (Enc.dec c) (Enc.dec d), res (Enc.dec a) (Enc.dec b) (Enc.dec c) (Enc.dec d))
  | _ => none
section
variable {C : Ctx} (hS : SigOK C) (hM : C.P.follows .mixedOrders = true) {f : FuncId} {fn : Func} {body : Code} {rs : List ResultVar} {n : Nat} (hf : C.P.funcs[f]? = some fn) (hb : fn.body = some body) (hrs : fn.results.toList = rs) (hn : fn.ntmps = n)
include hS hM hf hb hrs hn
theorem pure1 {α : Type} [Enc α] (hok : codeOK C n body = true) (hnn : 1 ≤ n) {pre : α → Prop} {res : α → AV} (h : ∀ a, pre a → avc C n 0 body ⟨[(0, Enc.enc a)], []⟩ (postP C rs (res a))) : PureOK C.P C.G f (spec1 pre res) :=
  pure_of hS hM hf hb hrs hn hok fun avs ob r' hp hob => by
    unfold spec1 at hp
    split at hp
    · injection hp with hp; injection hp with e1 e2; subst e1 e2
      refine ⟨hnn, ?_⟩
      have := h _ hob.2
      rw [← hob.1] at this
      exact this
    · cases hp
theorem pure2 {α β : Type} [Enc α] [Enc β] (hok : codeOK C n body = true) (hnn : 2 ≤ n) {pre : α → β → Prop} {res : α → β → AV} (h : ∀ a b, pre a b → avc C n 0 body ⟨[(0, Enc.enc a), (1, Enc.enc b)], []⟩ (postP C rs (res a b))) : PureOK C.P C.G f (spec2 pre res) :=
  pure_of hS hM hf hb hrs hn hok fun avs ob r' hp hob => by
    unfold spec2 at hp
    split at hp
    · injection hp with hp; injection hp with e1 e2; subst e1 e2
      refine ⟨hnn, ?_⟩
      have := h _ _ hob.2.2
      rw [← hob.1, ← hob.2.1] at this
      exact this
    · cases hp
theorem pure3 {α β γ : Type} [Enc α] [Enc β] [Enc γ] (hok : codeOK C n body = true) (hnn : 3 ≤ n) {pre : α → β → γ → Prop} {res : α → β → γ → AV} (h : ∀ a b c, pre a b c → avc C n 0 body ⟨[(0, Enc.enc a), (1, Enc.enc b), (2, Enc.enc c)], []⟩ (postP C rs (res a b c))) : PureOK C.P C.G f (spec3 pre res) :=
  pure_of hS hM hf hb hrs hn hok fun avs ob r' hp hob => by
    unfold spec3 at hp
    split at hp
    · injection hp with hp; injection hp with e1 e2; subst e1 e2
      refine ⟨hnn, ?_⟩
      have := h _ _ _ hob.2.2.2
      rw [← hob.1, ← hob.2.1, ← hob.2.2.1] at this
      exact this
    · cases hp
end
end Go.Proofs.YtgjljfbohpnfcaaGreat
namespace Go.Proofs.YtgjljfbohpnfcaaGreat
open Go.RowKit
def mark {α : Sort _} (x : α) : α := x
@[simp] theorem mark_eq {α : Sort _} (x : α) : mark x = x := by rw [mark]
@[congr] theorem avc_congr {C : Ctx} {N h0 : Nat} {code : Code} {st st' : ASt} {Q : Exit → ASt → Prop} (h : mark st = st') : avc C N h0 code st Q = avc C N h0 code st' Q := by rw [mark_eq] at h; rw [h]
@[congr] theorem aops_congr {C : Ctx} {ops : Array Oper} {l : List Oper} {st st' : ASt} {K : ASt → Prop} (h : mark st = st') : aops C ops l st K = aops C ops l st' K := by rw [mark_eq] at h; rw [h]
@[congr] theorem AW_congr {C : Ctx} {N h0 : Nat} {code : Code} {st st' : ASt} {Q : Exit → ASt → Prop} (h : mark st = st') : AW C N h0 code st Q = AW C N h0 code st' Q := by rw [mark_eq] at h; rw [h]
@[congr] theorem lazy_astep {C : Ctx} {st st' : ASt} {o : Oper} (h : mark st = st') : astep C st o = astep C st' o := by rw [mark_eq] at h; rw [h]
@[congr] theorem lazy_wantG {ops : Array Oper} {ρ ρ' : List (Nat × AV)} {o : Oper} (h : mark ρ = ρ') : wantG ops ρ o = wantG ops ρ' o := by rw [mark_eq] at h; rw [h]
def dstAt : List Oper → Nat → Option Tmp
  | [], _ => none
  | o :: _, 0 => o.dst
  | _ :: r, j + 1 => dstAt r j
@[congr] theorem dstAt_congr {l : List Oper} {j j' : Nat} (h : mark j = j') : dstAt l j = dstAt l j' := by rw [mark_eq] at h; rw [h]
@[simp] theorem dstAt_zero (d : Option Tmp) (op : Op) (ty : TypeId) (p : String) (af : Array Edge) (g : Option (Nat × Bool)) (r : List Oper) : dstAt (⟨d, op, ty, p, af, g⟩ :: r) 0 = d := rfl
@[simp] theorem dstAt_succ (o : Oper) (r : List Oper) (j : Nat) : dstAt (o :: r) (j + 1) = dstAt r j := rfl
theorem dstAt_eq : ∀ (l : List Oper) (j : Nat), dstAt l j = (l[j]?).bind (·.dst)
  | [], _ => rfl
  | _ :: _, 0 => rfl
  | _ :: r, j + 1 => by rw [dstAt, dstAt_eq r j, List.getElem?_cons_succ]
def thenD (o : Option (Prop × AV × List Blk)) (K : Prop → AV → List Blk → Prop) : Prop :=
  match o with
  | some (ob, v, H) => K ob v H
  | none => False
@[congr] theorem thenD_congr {o o' : Option (Prop × AV × List Blk)} {K : Prop → AV → List Blk → Prop} (h : mark o = o') : thenD o K = thenD o' K := by rw [mark_eq] at h; rw [h]
@[simp] theorem thenD_some (ob : Prop) (v : AV) (H : List Blk) (K : Prop → AV → List Blk → Prop) : thenD (some (ob, v, H)) K = K ob v H := rfl
@[simp] theorem thenD_none (K : Prop → AV → List Blk → Prop) : thenD none K = False := rfl
def thenG (o : Option Bool) (K : Bool → Prop) : Prop :=
  match o with
  | some g => K g
  | none => False
@[congr] theorem thenG_congr {o o' : Option Bool} {K : Bool → Prop} (h : mark o = o') : thenG o K = thenG o' K := by rw [mark_eq] at h; rw [h]
@[simp] theorem thenG_some (g : Bool) (K : Bool → Prop) : thenG (some g) K = K g := rfl
@[simp] theorem thenG_none (K : Bool → Prop) : thenG none K = False := rfl
def both (g : Bool) (A B : Prop) : Prop := (g = true → A) ∧ (g = false → B)
@[congr] theorem both_congr {g g' : Bool} {A B : Prop} (h : mark g = g') : both g A B = both g' A B := by rw [mark_eq] at h; rw [h]
@[simp] theorem both_true (A B : Prop) : both true A B = A := by simp [both]
@[simp] theorem both_false (A B : Prop) : both false A B = B := by simp [both]
def onBool (v : AV) (K : Bool → Prop) : Prop :=
  match v with
  | .bool x => K x
  | .anyb => K true ∧ K false
  | _ => False
@[congr] theorem onBool_congr {v v' : AV} {K : Bool → Prop} (h : mark v = v') : onBool v K = onBool v' K := by rw [mark_eq] at h; rw [h]
@[simp] theorem onBool_bool (x : Bool) (K : Bool → Prop) : onBool (.bool x) K = K x := rfl
@[simp] theorem onBool_anyb (K : Bool → Prop) : onBool .anyb K = (K true ∧ K false) := rfl
section
variable {C : Ctx} {N h0 : Nat}
@[simp] theorem aops_nil (ops : Array Oper) (st : ASt) (K : ASt → Prop) : aops C ops [] st K = K st := rfl
@[simp] theorem aops_cons (ops : Array Oper) (o : Oper) (r : List Oper) (st : ASt) (K : ASt → Prop) : aops C ops (o :: r) st K =
    thenG (wantG ops st.ρ o) fun g => both g (thenD (astep C st o) fun ob v H' => ob ∧ aops C ops r ⟨putA st.ρ o.dst v, H'⟩ K) (aops C ops r ⟨putA st.ρ o.dst (.tup []), st.H⟩ K) := by
  rw [aops]
  cases wantG ops st.ρ o with
  | none => rfl
  | some g =>
    simp only [thenG_some, both]
    cases astep C st o with
    | none => rfl
    | some x => rfl
def goOn (K : ASt → Prop) (Q : Exit → ASt → Prop) (ex : Exit) (st : ASt) : Prop := match ex with | .normal => K st | e => Q e st
@[congr] theorem lazy_goOn {K : ASt → Prop} {Q : Exit → ASt → Prop} {ex ex' : Exit} {st st' : ASt} (h : mark ex = ex') (h' : st = st') : goOn K Q ex st = goOn K Q ex' st' := by rw [mark_eq] at h; rw [h, h']
@[simp] theorem goOn_normal (K : ASt → Prop) (Q : Exit → ASt → Prop) (st : ASt) : goOn K Q .normal st = K st := rfl
@[simp] theorem goOn_ret (K : ASt → Prop) (Q : Exit → ASt → Prop) (st : ASt) : goOn K Q .ret st = Q .ret st := rfl
@[simp] theorem goOn_exit (K : ASt → Prop) (Q : Exit → ASt → Prop) (st : ASt) (i : Nat) : goOn K Q (.exit i) st = Q (.exit i) st := rfl
def outOf (id : Nat) (Q : Exit → ASt → Prop) (ex : Exit) (st : ASt) : Prop := match ex with | .exit j => if j = id then Q .normal st else Q (.exit j) st | e => Q e st
@[congr] theorem lazy_outOf {id : Nat} {Q : Exit → ASt → Prop} {ex ex' : Exit} {st st' : ASt} (h : mark ex = ex') (h' : st = st') : outOf id Q ex st = outOf id Q ex' st' := by rw [mark_eq] at h; rw [h, h']
@[simp] theorem outOf_normal (id : Nat) (Q : Exit → ASt → Prop) (st : ASt) : outOf id Q .normal st = Q .normal st := rfl
@[simp] theorem outOf_ret (id : Nat) (Q : Exit → ASt → Prop) (st : ASt) : outOf id Q .ret st = Q .ret st := rfl
@[simp] theorem outOf_exit (id : Nat) (Q : Exit → ASt → Prop) (st : ASt) (i : Nat) : outOf id Q (.exit i) st = if i = id then Q .normal st else Q (.exit i) st := rfl
def inScope (Q : Exit → ASt → Prop) (ex : Exit) (st : ASt) : Prop := match ex with | .goto _ => False | e => Q e st
@[congr] theorem lazy_inScope {Q : Exit → ASt → Prop} {ex ex' : Exit} {st st' : ASt} (h : mark ex = ex') (h' : st = st') : inScope Q ex st = inScope Q ex' st' := by rw [mark_eq] at h; rw [h, h']
@[simp] theorem inScope_normal (Q : Exit → ASt → Prop) (st : ASt) : inScope Q .normal st = Q .normal st := rfl
@[simp] theorem inScope_ret (Q : Exit → ASt → Prop) (st : ASt) : inScope Q .ret st = Q .ret st := rfl
@[simp] theorem inScope_exit (Q : Exit → ASt → Prop) (st : ASt) (i : Nat) : inScope Q (.exit i) st = Q (.exit i) st := rfl
@[simp] theorem avc_skip (st : ASt) (Q : Exit → ASt → Prop) : avc C N h0 .skip st Q = Q .normal st := rfl
@[simp] theorem avc_region (id : Nat) (l : List Oper) (d : Bool) (st : ASt) (Q : Exit → ASt → Prop) : avc C N h0 (.region id l.toArray d) st Q = aops C l.toArray l st (Q .normal) := rfl
@[simp] theorem avc_seq (a b : Code) (st : ASt) (Q : Exit → ASt → Prop) : avc C N h0 (.seq a b) st Q = avc C N h0 a st (goOn (fun st' => avc C N h0 b st' Q) Q) := rfl
@[simp] theorem avc_cond (c : Operand) (a b : Code) (st : ASt) (Q : Exit → ASt → Prop) : avc C N h0 (.cond c a b) st Q = onBool (aev C st.ρ 0 c) fun x => both x (avc C N h0 a st Q) (avc C N h0 b st Q) := by
  show (match aev C st.ρ 0 c with | .bool x => (x = true → avc C N h0 a st Q) ∧ (x = false → avc C N h0 b st Q) | .anyb => avc C N h0 a st Q ∧ avc C N h0 b st Q | _ => False) = _
  cases aev C st.ρ 0 c <;> first | rfl | simp [onBool]
@[simp] theorem avc_block (id : Nat) (b : Code) (st : ASt) (Q : Exit → ASt → Prop) : avc C N h0 (.block id b) st Q = avc C N h0 b st (outOf id Q) := rfl
@[simp] theorem avc_exit (id : Nat) (st : ASt) (Q : Exit → ASt → Prop) : avc C N h0 (.exit id) st Q = Q (.exit id) st := rfl
@[simp] theorem avc_ret (st : ASt) (Q : Exit → ASt → Prop) : avc C N h0 .ret st Q = Q .ret st := rfl
@[simp] theorem avc_label (l : Nat) (st : ASt) (Q : Exit → ASt → Prop) : avc C N h0 (.label l) st Q = Q .normal st := rfl
@[simp] theorem avc_scope (b : Code) (st : ASt) (Q : Exit → ASt → Prop) : avc C N h0 (.scope b) st Q = avc C N h0 b st (inScope Q) := rfl
@[simp] theorem avc_loop (b : Code) (st : ASt) (Q : Exit → ASt → Prop) : avc C N h0 (.loop b) st Q = AW C N h0 (.loop b) st Q := rfl
@[congr] theorem lazy_postP {rs : List ResultVar} {r : AV} {ex ex' : Exit} {st st' : ASt} (h : mark ex = ex') (h' : st = st') : postP C rs r ex st = postP C rs r ex' st' := by rw [mark_eq] at h; rw [h, h']
@[simp] theorem postP_normal (rs : List ResultVar) (r : AV) (st : ASt) : postP C rs r .normal st = finP C rs r st := rfl
@[simp] theorem postP_ret (rs : List ResultVar) (r : AV) (st : ASt) : postP C rs r .ret st = finP C rs r st := rfl
def round {α : Type} (Sf : α → ASt) (pre : α → Prop) (lt : α → Prop) (N h0 : Nat) (C : Ctx) (Q : Exit → ASt → Prop) (ex : Exit) (st' : ASt) : Prop :=
  match ex with | .normal => ∃ x', pre x' ∧ lt x' ∧ Weak C N h0 st' (Sf x') | e => Q e st'
@[congr] theorem lazy_round {α : Type} {Sf : α → ASt} {pre lt : α → Prop} {Q : Exit → ASt → Prop} {ex ex' : Exit} {st st' : ASt} (h : mark ex = ex') (h' : st = st') : round Sf pre lt N h0 C Q ex st = round Sf pre lt N h0 C Q ex' st' := by rw [mark_eq] at h; rw [h, h']
@[simp] theorem round_normal {α : Type} (Sf : α → ASt) (pre : α → Prop) (lt : α → Prop) (Q : Exit → ASt → Prop) (st' : ASt) : round Sf pre lt N h0 C Q .normal st' = ∃ x', pre x' ∧ lt x' ∧ Weak C N h0 st' (Sf x') := rfl
@[simp] theorem round_ret {α : Type} (Sf : α → ASt) (pre : α → Prop) (lt : α → Prop) (Q : Exit → ASt → Prop) (st' : ASt) : round Sf pre lt N h0 C Q .ret st' = Q .ret st' := rfl
@[simp] theorem round_exit {α : Type} (Sf : α → ASt) (pre : α → Prop) (lt : α → Prop) (Q : Exit → ASt → Prop) (st' : ASt) (i : Nat) : round Sf pre lt N h0 C Q (.exit i) st' = Q (.exit i) st' := rfl
theorem loop_rule {α : Type} (hS : SigOK C) (hM : C.P.follows .mixedOrders = true) {body : Code} {st : ASt} {Q : Exit → ASt → Prop} (Sf : α → ASt) (pre : α → Prop) (m : α → Nat) (hok : codeOK C N body = true)
    (start : ∃ x, pre x ∧ Weak C N h0 st (Sf x)) (step : ∀ x, pre x → avc C N h0 body (Sf x) (round Sf pre (fun x' => m x' < m x) N h0 C Q)) : AW C N h0 (.loop body) st Q :=
  AW_loop hS hM hok Sf pre m start fun x hx => avc_mono body (step x hx) fun ex st' h => by cases ex <;> exact h
@[simp] theorem getA_cons (k : Nat) (v : AV) (r : List (Nat × AV)) (i : Nat) : getA ((k, v) :: r) i = if k = i then v else getA r i := rfl
@[simp] theorem getA_nil (i : Nat) : getA [] i = .undef := rfl
@[simp] theorem putA_some (ρ : List (Nat × AV)) (d : Nat) (v : AV) : putA ρ (some d) v = (d, v) :: ρ := rfl
@[simp] theorem putA_none (ρ : List (Nat × AV)) (v : AV) : putA ρ none v = ρ := rfl
@[simp] theorem aev_tmp (ρ : List (Nat × AV)) (t i : Nat) : aev C ρ t (.tmp i) = getA ρ i := rfl
@[simp] theorem aev_func (ρ : List (Nat × AV)) (t f : Nat) : aev C ρ t (.func f) = .fn f [] := rfl
@[simp] theorem aev_global (ρ : List (Nat × AV)) (t g : Nat) : aev C ρ t (.global g) = gav (C.G g) := rfl
@[simp] theorem aev_bool (ρ : List (Nat × AV)) (t : Nat) (b : Bool) : aev C ρ t (.const (.bool b)) = .bool b := rfl
@[simp] theorem aev_int (ρ : List (Nat × AV)) (t : Nat) (k : IntKind) (n : Int) : aev C ρ t (.const (.int k n)) = .int k n := rfl
@[simp] theorem aev_str (ρ : List (Nat × AV)) (t : Nat) (s : ByteArray) : aev C ρ t (.const (.string s)) = .str s := rfl
@[simp] theorem aev_nilslice (ρ : List (Nat × AV)) (t : Nat) : aev C ρ t (.const (.slice none 0 0)) = match elT C.P t with | some e => .slice (szT C.P e) true [] | none => .undef := rfl
@[simp] theorem aev_nilptr (ρ : List (Nat × AV)) (t : Nat) : aev C ρ t (.const (.pointer none)) = .nilptr := rfl
@[simp] theorem wantG_none (ops : Array Oper) (ρ : List (Nat × AV)) (dst : Option Tmp) (op : Op) (ty : TypeId) (pos : String) (after : Array Edge) : wantG ops ρ ⟨dst, op, ty, pos, after, none⟩ = some true := rfl
def guardV (v : AV) (want : Bool) : Option Bool := match v with | .bool b => some (b == want) | .tup [] => some false | _ => none
@[simp] theorem guardV_bool (b want : Bool) : guardV (.bool b) want = some (b == want) := rfl
@[simp] theorem guardV_skip (want : Bool) : guardV (.tup []) want = some false := rfl
def guardD (ρ : List (Nat × AV)) (o : Option Tmp) (want : Bool) : Option Bool := match o with | some d => guardV (getA ρ d) want | none => none
@[simp] theorem guardD_some (ρ : List (Nat × AV)) (d : Tmp) (want : Bool) : guardD ρ (some d) want = guardV (getA ρ d) want := rfl
@[simp] theorem wantG_some (l : List Oper) (ρ : List (Nat × AV)) (dst : Option Tmp) (op : Op) (ty : TypeId) (pos : String) (after : Array Edge) (j : Nat) (want : Bool) : wantG l.toArray ρ ⟨dst, op, ty, pos, after, some (j, want)⟩ = guardD ρ (dstAt l j) want := by
  unfold wantG guardD
  simp only [List.getElem?_toArray, dstAt_eq]
  cases (l[j]?).bind (·.dst) with
  | none => rfl
  | some d =>
    simp only
    cases getA ρ d with
    | tup vs => cases vs <;> rfl
    | _ => rfl
def lift (H : List Blk) (o : Option (Prop × AV)) : Option (Prop × AV × List Blk) := match o with | some (ob, v) => some (ob, v, H) | none => none
@[simp] theorem lift_some (H : List Blk) (ob : Prop) (v : AV) : lift H (some (ob, v)) = some (ob, v, H) := rfl
@[simp] theorem lift_none (H : List Blk) : lift H none = none := rfl
variable (ρ : List (Nat × AV)) (H : List Blk) (d : Option Tmp) (ty : TypeId) (p : String) (af : Array Edge) (g : Option (Nat × Bool))
@[simp] theorem astep_move (x : Operand) : astep C ⟨ρ, H⟩ ⟨d, .move x, ty, p, af, g⟩ = some (True, aev C ρ ty x, H) := rfl
@[simp] theorem astep_assign (x : Operand) : astep C ⟨ρ, H⟩ ⟨d, .assign x, ty, p, af, g⟩ = some (True, aev C ρ ty x, H) := rfl
@[simp] theorem astep_pick (c a b : Operand) : astep C ⟨ρ, H⟩ ⟨d, .pick c a b, ty, p, af, g⟩ = lift H (apick (aev C ρ 0 c) (aev C ρ ty a) (aev C ρ ty b)) := rfl
@[simp] theorem isNilC_tmp (i : Nat) : isNilC (.tmp i) = false := rfl
@[simp] theorem isNilC_global (i : Nat) : isNilC (.global i) = false := rfl
@[simp] theorem isNilC_func (i : Nat) : isNilC (.func i) = false := rfl
@[simp] theorem isNilC_bool (b : Bool) : isNilC (.const (.bool b)) = false := rfl
@[simp] theorem isNilC_int (k : IntKind) (n : Int) : isNilC (.const (.int k n)) = false := rfl
@[simp] theorem isNilC_str (s : ByteArray) : isNilC (.const (.string s)) = false := rfl
@[simp] theorem isNilC_ptr : isNilC (.const (.pointer none)) = false := rfl
@[simp] theorem isNilC_nil : isNilC (.const (.slice none 0 0)) = true := rfl
@[simp] theorem astep_binOp (op : BinOp) (t : TypeId) (x y : Operand) (t' : TypeId) : astep C ⟨ρ, H⟩ ⟨d, .binOp op t x y t', ty, p, af, g⟩ = lift H (if isNilC y then abinN C op t (aev C ρ t x) else abin C op t (aev C ρ t x) (aev C ρ t' y)) := rfl
@[simp] theorem astep_unOp (op : UnOp) (t : TypeId) (x : Operand) : astep C ⟨ρ, H⟩ ⟨d, .unOp op t x, ty, p, af, g⟩ = lift H (aun op (aev C ρ ty x)) := rfl
@[simp] theorem astep_convert (s t : TypeId) (x : Operand) : astep C ⟨ρ, H⟩ ⟨d, .convert s t x, ty, p, af, g⟩ = match elT C.P s with | some _ => lift H (abytesStr C H s t (aev C ρ s x)) | none => lift H (aconv C s t (aev C ρ s x)) := by
  unfold astep kindOf
  simp only
  cases elT C.P s <;> rfl
@[simp] theorem astep_field (t : TypeId) (x : Operand) (k : Nat) : astep C ⟨ρ, H⟩ ⟨d, .field t x k, ty, p, af, g⟩ = lift H (afield C t (aev C ρ t x) k) := rfl
@[simp] theorem astep_fieldAddr (t : TypeId) (x : Operand) (k : Nat) : astep C ⟨ρ, H⟩ ⟨d, .fieldAddr t x k, ty, p, af, g⟩ = lift H (afieldAddr C t (aev C ρ 0 x) k) := rfl
@[simp] theorem astep_indexAddr (t : TypeId) (x i : Operand) : astep C ⟨ρ, H⟩ ⟨d, .indexAddr t x i, ty, p, af, g⟩ = lift H (aindexAddr C t (aev C ρ t x) (aev C ρ 0 i)) := rfl
@[simp] theorem astep_index (t : TypeId) (x i : Operand) : astep C ⟨ρ, H⟩ ⟨d, .index t x i, ty, p, af, g⟩ = lift H (aindex C t (aev C ρ t x) (aev C ρ 0 i)) := rfl
@[simp] theorem astep_slice (t : TypeId) (x : Operand) (l h m : Option Operand) : astep C ⟨ρ, H⟩ ⟨d, .slice t x l h m, ty, p, af, g⟩ = lift H (aslice C t (aev C ρ t x) (l.map (aev C ρ 0)) (h.map (aev C ρ 0)) (m.map (aev C ρ 0))) := rfl
def aextract (v : AV) (k : Nat) : Option (Prop × AV) := match v with | .tup vs => (match vs[k]? with | some v => some (True, v) | none => none) | _ => none
@[simp] theorem aextract_tup (vs : List AV) (k : Nat) : aextract (.tup vs) k = match vs[k]? with | some v => some (True, v) | none => none := rfl
@[simp] theorem astep_extract (x : Operand) (k : Nat) : astep C ⟨ρ, H⟩ ⟨d, .extract x k, ty, p, af, g⟩ = lift H (aextract (aev C ρ 0 x) k) := rfl
@[simp] theorem astep_makeFunc (f : FuncId) (cap : Array Operand) : astep C ⟨ρ, H⟩ ⟨d, .makeFunc (.func f) #[] cap, ty, p, af, g⟩ = some (True, .fn f (cap.toList.map (aev C ρ 0)), H) := rfl
def anil (v : AV) : Option (Prop × AV) := match v with | .ptr l n sz i f => some (True, .ptr l n sz i f) | .iptr cs => some (True, .iptr cs) | .fn f cap => some (True, .fn f cap) | _ => none
@[simp] theorem anil_ptr (l n sz i f : Nat) : anil (.ptr l n sz i f) = some (True, .ptr l n sz i f) := rfl
@[simp] theorem anil_iptr (cs : List AV) : anil (.iptr cs) = some (True, .iptr cs) := rfl
@[simp] theorem anil_fn (f : FuncId) (cs : List AV) : anil (.fn f cs) = some (True, .fn f cs) := rfl
@[simp] theorem astep_nilCheck (x : Operand) : astep C ⟨ρ, H⟩ ⟨d, .nilCheck x, ty, p, af, g⟩ = lift H (anil (aev C ρ 0 x)) := by
  unfold astep kindOf apure anil
  simp only
  cases aev C ρ 0 x <;> rfl
@[simp] theorem astep_lookup (t : TypeId) (m x : Operand) (ok : Bool) : astep C ⟨ρ, H⟩ ⟨d, .lookup t m x ok, ty, p, af, g⟩ = lift H (alook C t (aev C ρ t m) (aev C ρ 0 x) ok) := rfl
@[simp] theorem astep_build (t : TypeId) (ps : Array (Nat × Operand)) : astep C ⟨ρ, H⟩ ⟨d, .build t ps, ty, p, af, g⟩ = lift H (abuild C ρ t ps.toList) := rfl
@[simp] theorem astep_load (t : TypeId) (x : Operand) : astep C ⟨ρ, H⟩ ⟨d, .load t x, ty, p, af, g⟩ = lift H (aload C H t (aev C ρ 0 x)) := rfl
@[simp] theorem astep_alloc (t : TypeId) : astep C ⟨ρ, H⟩ ⟨d, .alloc t, ty, p, af, g⟩ = anew C H t (zT C.P t) := rfl
@[simp] theorem astep_box (t : TypeId) (x : Operand) : astep C ⟨ρ, H⟩ ⟨d, .box t x, ty, p, af, g⟩ = anew C H t (cellsOf C t (aev C ρ t x)) := rfl
@[simp] theorem astep_store (t : TypeId) (x y : Operand) : astep C ⟨ρ, H⟩ ⟨d, .store t x y, ty, p, af, g⟩ = astore C H t (aev C ρ 0 x) (aev C ρ t y) := rfl
@[simp] theorem astep_makeSlice (t : TypeId) (x y : Operand) : astep C ⟨ρ, H⟩ ⟨d, .makeSlice t x y, ty, p, af, g⟩ = amake C H t (aev C ρ 0 x) (aev C ρ 0 y) := rfl
@[simp] theorem astep_len (x : Operand) (t : TypeId) : astep C ⟨ρ, H⟩ ⟨d, .call ⟨.builtin .len, #[x], #[t]⟩, ty, p, af, g⟩ = lift H (alen C t (aev C ρ t x)) := rfl
def lift1 (H : List Blk) (o : Option AV) : Option (Prop × AV × List Blk) := match o with | some v => some (True, v, H) | none => none
@[simp] theorem lift1_some (v : AV) : lift1 H (some v) = some (True, v, H) := rfl
@[simp] theorem astep_max (x y : Operand) (t t' : TypeId) : astep C ⟨ρ, H⟩ ⟨d, .call ⟨.builtin .max, #[x, y], #[t, t']⟩, ty, p, af, g⟩ = lift1 H (amax [aev C ρ t x, aev C ρ t' y]) := by
  unfold astep kindOf apure lift1
  simp only [argAVs]
  cases amax [aev C ρ t x, aev C ρ t' y] <;> rfl
@[simp] theorem astep_min (x y : Operand) (t t' : TypeId) : astep C ⟨ρ, H⟩ ⟨d, .call ⟨.builtin .min, #[x, y], #[t, t']⟩, ty, p, af, g⟩ = lift1 H (amin [aev C ρ t x, aev C ρ t' y]) := by
  unfold astep kindOf apure lift1
  simp only [argAVs]
  cases amin [aev C ρ t x, aev C ρ t' y] <;> rfl
@[simp] theorem aappO_slice (t : TypeId) (sz : Nat) (f : Bool) (rows : List (List AV)) (x : AV) : aappO C H t (.slice sz f rows) x = aappend C H t (.slice sz f rows) x := rfl
@[simp] theorem aappO_own (t : TypeId) (l n : Nat) (x : AV) : aappO C H t (.own l n) x = aappend C H t (.own l n) x := rfl
@[simp] theorem astep_append (x y : Operand) (t t' : TypeId) : astep C ⟨ρ, H⟩ ⟨d, .call ⟨.builtin .append, #[x, y], #[t, t']⟩, ty, p, af, g⟩ = if t = t' then aappO C H t (aev C ρ t x) (aev C ρ t' y) else none := rfl
@[simp] theorem astep_clear (x : Operand) (t : TypeId) : astep C ⟨ρ, H⟩ ⟨d, .call ⟨.builtin .clear, #[x], #[t]⟩, ty, p, af, g⟩ = aclear C H t (aev C ρ t x) := rfl
@[simp] theorem astep_copy (x y : Operand) (t t' : TypeId) : astep C ⟨ρ, H⟩ ⟨d, .call ⟨.builtin .copy, #[x, y], #[t, t']⟩, ty, p, af, g⟩ = if t = t' then acopy C H t (aev C ρ t x) (aev C ρ t' y) else none := rfl
def isScalT (C : Ctx) (t : TypeId) : Bool := match elT C.P t with
    | some e => (match zT C.P e with | some z => z.all AV.scal | none => false)
    | none => false
@[simp] theorem astep_buildSlice (t : TypeId) (n : Nat) (ps : Array (Nat × Operand)) : astep C ⟨ρ, H⟩ ⟨d, .buildSlice t n ps, ty, p, af, g⟩ =
    if isScalT C t = true then (if (elParts C ρ t ps.toList).all (fun p => p.2.deepArg) then lift H (abuildSlice C t n (elParts C ρ t ps.toList)) else none)
    else if (elParts C ρ t ps.toList).any (fun p => ptr1 p.2) = true then aptrSlice C H t n (elParts C ρ t ps.toList)
    else lift (frzL ((elParts C ρ t ps.toList).flatMap fun p => reach H 6 p.2) 0 H) (abuildSlice C t n ((elParts C ρ t ps.toList).map fun p => (p.1, view H 6 p.2))) := by
  have hk : kindOf C ⟨d, .buildSlice t n ps, ty, p, af, g⟩ = if isScalT C t = true then .read else .eff := by
    unfold kindOf isScalT
    simp only
    split
    · rename_i e he
      split
      · rename_i z hz; simp [he, hz]
      · rename_i hz; simp [he, hz]
    · rename_i hn
      simp [hn]
  unfold astep
  rw [hk]
  rcases isScalT C t
  case' true => simp only [if_true, aread]
  case' false => simp only [Bool.false_eq_true, if_false, aeff]
  rotate_left
  · cases ((elParts C ρ t ps.toList).all fun p => p.snd.deepArg) with
    | true => simp only [if_true]; cases abuildSlice C t n (elParts C ρ t ps.toList) <;> rfl
    | false => rfl
  · cases ((elParts C ρ t ps.toList).any fun p => ptr1 p.snd) with
    | true => rfl
    | false => simp only [Bool.false_eq_true, if_false]; cases abuildSlice C t n ((elParts C ρ t ps.toList).map fun p => (p.1, view H 6 p.2)) <;> rfl
@[simp] theorem ptr1_ptr (l n sz i f : Nat) : ptr1 (.ptr l n sz i f) = true := rfl
@[simp] theorem ptr1_own (l n : Nat) : ptr1 (.own l n) = false := rfl
@[simp] theorem ptr1_osl (l n sz i f : Nat) : ptr1 (.osl l n sz i f) = false := rfl
@[simp] theorem ptr1_iptr (c : List AV) : ptr1 (.iptr c) = false := rfl
@[simp] theorem ptr1_slice (sz : Nat) (f : Bool) (r : List (List AV)) : ptr1 (.slice sz f r) = false := rfl
@[simp] theorem ptr1_agg (c : List AV) : ptr1 (.agg c) = false := rfl
@[simp] theorem ptr1_tup (c : List AV) : ptr1 (.tup c) = false := rfl
@[simp] theorem ptr1_fn (f : FuncId) (c : List AV) : ptr1 (.fn f c) = false := rfl
@[simp] theorem ptr1_int (k : IntKind) (n : Int) : ptr1 (.int k n) = false := rfl
@[simp] theorem ptr1_bool (b : Bool) : ptr1 (.bool b) = false := rfl
@[simp] theorem ptr1_str (s : ByteArray) : ptr1 (.str s) = false := rfl
@[simp] theorem ptr1_nilptr : ptr1 .nilptr = false := rfl
@[simp] theorem ptr1_undef : ptr1 .undef = false := rfl
def acallE (e : Entry) (H : List Blk) (args : List AV) : Option (Prop × AV × List Blk) :=
  match e with
  | .pure q => lift H (acallPure H q args)
  | .frz q => lift (frzL (args.flatMap (reach H 6)) 0 H) (q (args.map (view H 6)))
  | .gen q => q args H
  | .no => none
@[simp] theorem acallE_pure (q : List AV → Option (Prop × AV)) (args : List AV) : acallE (.pure q) H args = lift H (acallPure H q args) := rfl
@[simp] theorem acallE_frz (q : List AV → Option (Prop × AV)) (args : List AV) : acallE (.frz q) H args = lift (frzL (args.flatMap (reach H 6)) 0 H) (q (args.map (view H 6))) := rfl
@[simp] theorem acallE_gen (q : List AV → List Blk → Option (Prop × AV × List Blk)) (args : List AV) : acallE (.gen q) H args = q args H := rfl
@[simp] theorem astep_call (f : FuncId) (xs : Array Operand) (ts : Array TypeId) : astep C ⟨ρ, H⟩ ⟨d, .call ⟨.value (.func f), xs, ts⟩, ty, p, af, g⟩ = acallE (C.S f) H (argAVs C ρ xs.toList ts.toList) := by
  unfold astep kindOf
  simp only
  cases h : C.S f with
  | no => simp only [kdE, aeff, target, aev_func, h, acallE, List.append_nil]
  | pure q => simp only [kdE, aread, target, aev_func, h, acallE, List.append_nil]; cases acallPure H q _ <;> rfl
  | frz q => simp only [kdE, aeff, target, aev_func, h, acallE, List.append_nil]; cases q _ <;> rfl
  | gen q => simp only [kdE, aeff, target, aev_func, h, acallE, List.append_nil]
def acallV (C : Ctx) (v : AV) (H : List Blk) (args : List AV) : Option (Prop × AV × List Blk) :=
  match v with
  | .fn f cap => acallE (C.S f) H (args ++ cap)
  | _ => none
@[simp] theorem acallV_fn (f : FuncId) (cap args : List AV) : acallV C (.fn f cap) H args = acallE (C.S f) H (args ++ cap) := rfl
@[simp] theorem astep_callV (t : Tmp) (xs : Array Operand) (ts : Array TypeId) : astep C ⟨ρ, H⟩ ⟨d, .call ⟨.value (.tmp t), xs, ts⟩, ty, p, af, g⟩ = acallV C (getA ρ t) H (argAVs C ρ xs.toList ts.toList) := by
  unfold astep kindOf
  simp only [aeff, target, aev_tmp]
  cases getA ρ t <;> try rfl
@[simp] theorem argAVs_nil (ts : List TypeId) : argAVs C ρ [] ts = [] := by cases ts <;> rfl
@[simp] theorem argAVs_cons (x : Operand) (r : List Operand) (t : TypeId) (q : List TypeId) : argAVs C ρ (x :: r) (t :: q) = aev C ρ t x :: argAVs C ρ r q := rfl
end
attribute [simp] encRows_take encRows_drop
@[simp] theorem rows_snoc_int (l : List Int) (x : Int) : encRows l ++ [[.int .i64 x]] = encRows (l ++ [x]) := by rw [encRows_append]; rfl
@[simp] theorem rows_snoc_str (l : List ByteArray) (x : ByteArray) : encRows l ++ [[.str x]] = encRows (l ++ [x]) := by rw [encRows_append]; rfl
@[simp] theorem rows_snoc_bool (l : List Bool) (x : Bool) : encRows l ++ [[.bool x]] = encRows (l ++ [x]) := by rw [encRows_append]; rfl
@[simp] theorem rows_snoc_list {α : Type} [Enc α] (l : List (List α)) (x : List α) : encRows l ++ [[.slice (Enc.sz α) false (encRows x)]] = encRows (l ++ [x]) := by rw [encRows_append]; rfl
@[simp] theorem rows_app {α : Type} [Enc α] (l m : List α) : encRows l ++ encRows m = encRows (l ++ m) := (encRows_append l m).symm
@[simp] theorem rows_set_int (l : List Int) (i : Nat) (x : Int) : (encRows l).set i [.int .i64 x] = encRows (l.set i x) := encRows_set l i x
@[simp] theorem rows_set_str (l : List ByteArray) (i : Nat) (x : ByteArray) : (encRows l).set i [.str x] = encRows (l.set i x) := encRows_set l i x
@[simp] theorem rows_set_bool (l : List Bool) (i : Nat) (x : Bool) : (encRows l).set i [.bool x] = encRows (l.set i x) := encRows_set l i x
@[simp] theorem rows_rep_int (n : Nat) (x : Int) : List.replicate n [AV.int .i64 x] = encRows (List.replicate n x) := by simp [encRows]
@[simp] theorem rows_rep_bool (n : Nat) (x : Bool) : List.replicate n [AV.bool x] = encRows (List.replicate n x) := by simp [encRows]
@[simp] theorem rows_rep_str (n : Nat) (x : ByteArray) : List.replicate n [AV.str x] = encRows (List.replicate n x) := by simp [encRows]
@[simp] theorem dec_beq (a b : Int) : (a == b) = decide (a = b) := by by_cases h : a = b <;> simp [h]
@[simp] theorem dec_bne (a b : Int) : (a != b) = !decide (a = b) := by by_cases h : a = b <;> simp [h]
@[simp] theorem isDeep_undef  : AV.isDeep (AV.undef) = true := rfl
@[simp] theorem isCell_undef  : AV.isCell (AV.undef) = false := rfl
@[simp] theorem scal_undef  : AV.scal (AV.undef) = false := rfl
@[simp] theorem flat1_undef  : AV.flat1 (AV.undef) = false := rfl
@[simp] theorem deepArg_undef  : AV.deepArg (AV.undef) = true := rfl
@[simp] theorem isFlat_undef  : AV.isFlat (AV.undef) = false := rfl
@[simp] theorem nrmC_undef  : nrmC (AV.undef) = (AV.undef) := rfl
@[simp] theorem nrmV_undef  : nrmV (AV.undef) = (AV.undef) := rfl
@[simp] theorem view_undef (H : List Blk) (d : Nat)  : view H d (AV.undef) = (AV.undef) := by cases d <;> rfl
@[simp] theorem reach_undef (H : List Blk) (d : Nat)  : reach H d (AV.undef) = [] := by cases d <;> rfl
@[simp] theorem isDeep_bool (b : Bool) : AV.isDeep (.bool b : AV) = true := rfl
@[simp] theorem isCell_bool (b : Bool) : AV.isCell (.bool b : AV) = true := rfl
@[simp] theorem scal_bool (b : Bool) : AV.scal (.bool b : AV) = true := rfl
@[simp] theorem flat1_bool (b : Bool) : AV.flat1 (.bool b : AV) = true := rfl
@[simp] theorem deepArg_bool (b : Bool) : AV.deepArg (.bool b : AV) = true := rfl
@[simp] theorem isFlat_bool (b : Bool) : AV.isFlat (.bool b : AV) = true := rfl
@[simp] theorem nrmC_bool (b : Bool) : nrmC (.bool b : AV) = (.bool b : AV) := rfl
@[simp] theorem nrmV_bool (b : Bool) : nrmV (.bool b : AV) = (.bool b : AV) := rfl
@[simp] theorem view_bool (H : List Blk) (d : Nat) (b : Bool) : view H d (.bool b : AV) = (.bool b : AV) := by cases d <;> rfl
@[simp] theorem reach_bool (H : List Blk) (d : Nat) (b : Bool) : reach H d (.bool b : AV) = [] := by cases d <;> rfl
@[simp] theorem isDeep_int (k : IntKind) (n : Int) : AV.isDeep (.int k n : AV) = true := rfl
@[simp] theorem isCell_int (k : IntKind) (n : Int) : AV.isCell (.int k n : AV) = true := rfl
@[simp] theorem scal_int (k : IntKind) (n : Int) : AV.scal (.int k n : AV) = true := rfl
@[simp] theorem flat1_int (k : IntKind) (n : Int) : AV.flat1 (.int k n : AV) = true := rfl
@[simp] theorem deepArg_int (k : IntKind) (n : Int) : AV.deepArg (.int k n : AV) = true := rfl
@[simp] theorem isFlat_int (k : IntKind) (n : Int) : AV.isFlat (.int k n : AV) = true := rfl
@[simp] theorem nrmC_int (k : IntKind) (n : Int) : nrmC (.int k n : AV) = (.int k n : AV) := rfl
@[simp] theorem nrmV_int (k : IntKind) (n : Int) : nrmV (.int k n : AV) = (.int k n : AV) := rfl
@[simp] theorem view_int (H : List Blk) (d : Nat) (k : IntKind) (n : Int) : view H d (.int k n : AV) = (.int k n : AV) := by cases d <;> rfl
@[simp] theorem reach_int (H : List Blk) (d : Nat) (k : IntKind) (n : Int) : reach H d (.int k n : AV) = [] := by cases d <;> rfl
@[simp] theorem isDeep_str (s : ByteArray) : AV.isDeep (.str s : AV) = true := rfl
@[simp] theorem isCell_str (s : ByteArray) : AV.isCell (.str s : AV) = true := rfl
@[simp] theorem scal_str (s : ByteArray) : AV.scal (.str s : AV) = true := rfl
@[simp] theorem flat1_str (s : ByteArray) : AV.flat1 (.str s : AV) = true := rfl
@[simp] theorem deepArg_str (s : ByteArray) : AV.deepArg (.str s : AV) = true := rfl
@[simp] theorem isFlat_str (s : ByteArray) : AV.isFlat (.str s : AV) = true := rfl
@[simp] theorem nrmC_str (s : ByteArray) : nrmC (.str s : AV) = (.str s : AV) := rfl
@[simp] theorem nrmV_str (s : ByteArray) : nrmV (.str s : AV) = (.str s : AV) := rfl
@[simp] theorem view_str (H : List Blk) (d : Nat) (s : ByteArray) : view H d (.str s : AV) = (.str s : AV) := by cases d <;> rfl
@[simp] theorem reach_str (H : List Blk) (d : Nat) (s : ByteArray) : reach H d (.str s : AV) = [] := by cases d <;> rfl
@[simp] theorem isDeep_slice (sz : Nat) (full : Bool) (rows : List (List AV)) : AV.isDeep (.slice sz full rows : AV) = true := rfl
@[simp] theorem isCell_slice (sz : Nat) (full : Bool) (rows : List (List AV)) : AV.isCell (.slice sz full rows : AV) = true := rfl
@[simp] theorem scal_slice (sz : Nat) (full : Bool) (rows : List (List AV)) : AV.scal (.slice sz full rows : AV) = false := rfl
@[simp] theorem flat1_slice (sz : Nat) (full : Bool) (rows : List (List AV)) : AV.flat1 (.slice sz full rows : AV) = false := rfl
@[simp] theorem deepArg_slice (sz : Nat) (full : Bool) (rows : List (List AV)) : AV.deepArg (.slice sz full rows : AV) = true := rfl
@[simp] theorem isFlat_slice (sz : Nat) (full : Bool) (rows : List (List AV)) : AV.isFlat (.slice sz full rows : AV) = false := rfl
@[simp] theorem nrmC_slice (sz : Nat) (full : Bool) (rows : List (List AV)) : nrmC (.slice sz full rows : AV) = (.slice sz false rows : AV) := rfl
@[simp] theorem nrmV_slice (sz : Nat) (full : Bool) (rows : List (List AV)) : nrmV (.slice sz full rows : AV) = (.slice sz false rows : AV) := rfl
@[simp] theorem view_slice (H : List Blk) (d : Nat) (sz : Nat) (full : Bool) (rows : List (List AV)) : view H d (.slice sz full rows : AV) = (.slice sz full rows : AV) := by cases d <;> rfl
@[simp] theorem reach_slice (H : List Blk) (d : Nat) (sz : Nat) (full : Bool) (rows : List (List AV)) : reach H d (.slice sz full rows : AV) = [] := by cases d <;> rfl
@[simp] theorem isDeep_own (l n : Nat) : AV.isDeep (.own l n : AV) = false := rfl
@[simp] theorem isCell_own (l n : Nat) : AV.isCell (.own l n : AV) = true := rfl
@[simp] theorem scal_own (l n : Nat) : AV.scal (.own l n : AV) = false := rfl
@[simp] theorem flat1_own (l n : Nat) : AV.flat1 (.own l n : AV) = false := rfl
@[simp] theorem deepArg_own (l n : Nat) : AV.deepArg (.own l n : AV) = false := rfl
@[simp] theorem isFlat_own (l n : Nat) : AV.isFlat (.own l n : AV) = false := rfl
@[simp] theorem nrmC_own (l n : Nat) : nrmC (.own l n : AV) = (.own l n : AV) := rfl
@[simp] theorem nrmV_own (l n : Nat) : nrmV (.own l n : AV) = (.own l n : AV) := rfl
@[simp] theorem isDeep_osl (l n s o k : Nat) : AV.isDeep (.osl l n s o k : AV) = false := rfl
@[simp] theorem isCell_osl (l n s o k : Nat) : AV.isCell (.osl l n s o k : AV) = true := rfl
@[simp] theorem scal_osl (l n s o k : Nat) : AV.scal (.osl l n s o k : AV) = false := rfl
@[simp] theorem flat1_osl (l n s o k : Nat) : AV.flat1 (.osl l n s o k : AV) = false := rfl
@[simp] theorem deepArg_osl (l n s o k : Nat) : AV.deepArg (.osl l n s o k : AV) = false := rfl
@[simp] theorem isFlat_osl (l n s o k : Nat) : AV.isFlat (.osl l n s o k : AV) = false := rfl
@[simp] theorem nrmC_osl (l n s o k : Nat) : nrmC (.osl l n s o k : AV) = (.osl l n s o k : AV) := rfl
@[simp] theorem nrmV_osl (l n s o k : Nat) : nrmV (.osl l n s o k : AV) = (.osl l n s o k : AV) := rfl
@[simp] theorem isDeep_ptr (l n sz i f : Nat) : AV.isDeep (.ptr l n sz i f : AV) = false := rfl
@[simp] theorem isCell_ptr (l n sz i f : Nat) : AV.isCell (.ptr l n sz i f : AV) = true := rfl
@[simp] theorem scal_ptr (l n sz i f : Nat) : AV.scal (.ptr l n sz i f : AV) = false := rfl
@[simp] theorem flat1_ptr (l n sz i f : Nat) : AV.flat1 (.ptr l n sz i f : AV) = false := rfl
@[simp] theorem deepArg_ptr (l n sz i f : Nat) : AV.deepArg (.ptr l n sz i f : AV) = false := rfl
@[simp] theorem isFlat_ptr (l n sz i f : Nat) : AV.isFlat (.ptr l n sz i f : AV) = false := rfl
@[simp] theorem nrmC_ptr (l n sz i f : Nat) : nrmC (.ptr l n sz i f : AV) = (.ptr l n sz i f : AV) := rfl
@[simp] theorem nrmV_ptr (l n sz i f : Nat) : nrmV (.ptr l n sz i f : AV) = (.ptr l n sz i f : AV) := rfl
@[simp] theorem isDeep_iptr (cs : List AV) : AV.isDeep (.iptr cs : AV) = true := rfl
@[simp] theorem isCell_iptr (cs : List AV) : AV.isCell (.iptr cs : AV) = true := rfl
@[simp] theorem scal_iptr (cs : List AV) : AV.scal (.iptr cs : AV) = false := rfl
@[simp] theorem flat1_iptr (cs : List AV) : AV.flat1 (.iptr cs : AV) = false := rfl
@[simp] theorem deepArg_iptr (cs : List AV) : AV.deepArg (.iptr cs : AV) = true := rfl
@[simp] theorem isFlat_iptr (cs : List AV) : AV.isFlat (.iptr cs : AV) = false := rfl
@[simp] theorem nrmC_iptr (cs : List AV) : nrmC (.iptr cs : AV) = (.iptr cs : AV) := rfl
@[simp] theorem nrmV_iptr (cs : List AV) : nrmV (.iptr cs : AV) = (.iptr cs : AV) := rfl
@[simp] theorem view_iptr (H : List Blk) (d : Nat) (cs : List AV) : view H d (.iptr cs : AV) = (.iptr cs : AV) := by cases d <;> rfl
@[simp] theorem reach_iptr (H : List Blk) (d : Nat) (cs : List AV) : reach H d (.iptr cs : AV) = [] := by cases d <;> rfl
@[simp] theorem isDeep_mapp (b : Nat) : AV.isDeep (AV.mapp b) = true := rfl
@[simp] theorem isCell_mapp (b : Nat) : AV.isCell (AV.mapp b) = true := rfl
@[simp] theorem deepArg_mapp (b : Nat) : AV.deepArg (AV.mapp b) = true := rfl
@[simp] theorem isFlat_mapp (b : Nat) : AV.isFlat (AV.mapp b) = false := rfl
@[simp] theorem nrmC_mapp (b : Nat) : nrmC (AV.mapp b) = (AV.mapp b) := rfl
@[simp] theorem nrmV_mapp (b : Nat) : nrmV (AV.mapp b) = (AV.mapp b) := rfl
@[simp] theorem view_mapp (H : List Blk) (d : Nat) (b : Nat) : view H d (AV.mapp b) = (AV.mapp b) := by cases d <;> rfl
@[simp] theorem reach_mapp (H : List Blk) (d : Nat) (b : Nat) : reach H d (AV.mapp b) = [] := by cases d <;> rfl
@[simp] theorem ptr1_mapp (b : Nat) : ptr1 (AV.mapp b) = false := rfl
@[simp] theorem isDeep_nilptr  : AV.isDeep (AV.nilptr) = true := rfl
@[simp] theorem isCell_nilptr  : AV.isCell (AV.nilptr) = true := rfl
@[simp] theorem scal_nilptr  : AV.scal (AV.nilptr) = false := rfl
@[simp] theorem flat1_nilptr  : AV.flat1 (AV.nilptr) = true := rfl
@[simp] theorem deepArg_nilptr  : AV.deepArg (AV.nilptr) = true := rfl
@[simp] theorem isFlat_nilptr  : AV.isFlat (AV.nilptr) = true := rfl
@[simp] theorem nrmC_nilptr  : nrmC (AV.nilptr) = (AV.nilptr) := rfl
@[simp] theorem nrmV_nilptr  : nrmV (AV.nilptr) = (AV.nilptr) := rfl
@[simp] theorem view_nilptr (H : List Blk) (d : Nat)  : view H d (AV.nilptr) = (AV.nilptr) := by cases d <;> rfl
@[simp] theorem reach_nilptr (H : List Blk) (d : Nat)  : reach H d (AV.nilptr) = [] := by cases d <;> rfl
@[simp] theorem isDeep_anyb  : AV.isDeep (AV.anyb) = true := rfl
@[simp] theorem isCell_anyb  : AV.isCell (AV.anyb) = true := rfl
@[simp] theorem scal_anyb  : AV.scal (AV.anyb) = false := rfl
@[simp] theorem flat1_anyb  : AV.flat1 (AV.anyb) = false := rfl
@[simp] theorem deepArg_anyb  : AV.deepArg (AV.anyb) = true := rfl
@[simp] theorem isFlat_anyb  : AV.isFlat (AV.anyb) = false := rfl
@[simp] theorem nrmC_anyb  : nrmC (AV.anyb) = (AV.anyb) := rfl
@[simp] theorem nrmV_anyb  : nrmV (AV.anyb) = (AV.anyb) := rfl
@[simp] theorem view_anyb (H : List Blk) (d : Nat)  : view H d (AV.anyb) = (AV.anyb) := by cases d <;> rfl
@[simp] theorem reach_anyb (H : List Blk) (d : Nat)  : reach H d (AV.anyb) = [] := by cases d <;> rfl
@[simp] theorem isDeep_agg (cs : List AV) : AV.isDeep (.agg cs : AV) = false := rfl
@[simp] theorem isCell_agg (cs : List AV) : AV.isCell (.agg cs : AV) = false := rfl
@[simp] theorem scal_agg (cs : List AV) : AV.scal (.agg cs : AV) = false := rfl
@[simp] theorem flat1_agg (cs : List AV) : AV.flat1 (.agg cs : AV) = false := rfl
@[simp] theorem deepArg_agg (cs : List AV) : AV.deepArg (.agg cs : AV) = cs.all AV.isDeep := rfl
@[simp] theorem isFlat_agg (cs : List AV) : AV.isFlat (.agg cs : AV) = cs.all AV.flat1 := rfl
@[simp] theorem nrmC_agg (cs : List AV) : nrmC (.agg cs : AV) = (.agg cs : AV) := rfl
@[simp] theorem nrmV_agg (cs : List AV) : nrmV (.agg cs : AV) = (.agg (cs.map nrmC) : AV) := rfl
@[simp] theorem isDeep_tup (cs : List AV) : AV.isDeep (.tup cs : AV) = false := rfl
@[simp] theorem isCell_tup (cs : List AV) : AV.isCell (.tup cs : AV) = false := rfl
@[simp] theorem scal_tup (cs : List AV) : AV.scal (.tup cs : AV) = false := rfl
@[simp] theorem flat1_tup (cs : List AV) : AV.flat1 (.tup cs : AV) = false := rfl
@[simp] theorem deepArg_tup (cs : List AV) : AV.deepArg (.tup cs : AV) = false := rfl
@[simp] theorem nrmC_tup (cs : List AV) : nrmC (.tup cs : AV) = (.tup cs : AV) := rfl
@[simp] theorem nrmV_tup (cs : List AV) : nrmV (.tup cs : AV) = (.tup (cs.map fun c => match c with | .agg ds => .agg (ds.map nrmC) | c => nrmC c) : AV) := rfl
@[simp] theorem isDeep_fn (f : FuncId) (cs : List AV) : AV.isDeep (.fn f cs : AV) = false := rfl
@[simp] theorem isCell_fn (f : FuncId) (cs : List AV) : AV.isCell (.fn f cs : AV) = true := rfl
@[simp] theorem scal_fn (f : FuncId) (cs : List AV) : AV.scal (.fn f cs : AV) = false := rfl
@[simp] theorem flat1_fn (f : FuncId) (cs : List AV) : AV.flat1 (.fn f cs : AV) = false := rfl
@[simp] theorem deepArg_fn (f : FuncId) (cs : List AV) : AV.deepArg (.fn f cs : AV) = cs.all AV.isDeep := rfl
@[simp] theorem isFlat_fn (f : FuncId) (cs : List AV) : AV.isFlat (.fn f cs : AV) = false := rfl
@[simp] theorem nrmC_fn (f : FuncId) (cs : List AV) : nrmC (.fn f cs : AV) = (.fn f cs : AV) := rfl
@[simp] theorem nrmV_fn (f : FuncId) (cs : List AV) : nrmV (.fn f cs : AV) = (.fn f cs : AV) := rfl
@[simp] theorem isFlat_tup (cs : List AV) : AV.isFlat (.tup cs) = cs.all fun x => match x with | .agg cs => cs.all AV.flat1 | x => x.flat1 := rfl
@[simp] theorem view_agg (H : List Blk) (d : Nat) (cs : List AV) : view H (d + 1) (.agg cs) = .agg (cs.map (view H d)) := rfl
@[simp] theorem view_tup (H : List Blk) (d : Nat) (cs : List AV) : view H (d + 1) (.tup cs) = .tup (cs.map (view H d)) := rfl
@[simp] theorem view_fn (H : List Blk) (d : Nat) (f : FuncId) (cs : List AV) : view H (d + 1) (.fn f cs) = .fn f (cs.map (view H d)) := rfl
def viewR (H : List Blk) (d : Nat) (deep : Bool) (rows : List (List AV)) : List (List AV) := if deep then rows else rows.map fun r => r.map (view H d)
@[simp] theorem viewR_true (H : List Blk) (d : Nat) (rows : List (List AV)) : viewR H d true rows = rows := rfl
def viewO (H : List Blk) (d n : Nat) (b : Option Blk) : AV := match b with | some b => if b.rows.length = n then .slice b.sz false (viewR H d b.deep b.rows) else .undef | none => .undef
@[simp] theorem viewO_some (H : List Blk) (d n : Nat) (b : Blk) : viewO H d n (some b) = if b.rows.length = n then .slice b.sz false (viewR H d b.deep b.rows) else .undef := rfl
@[simp] theorem view_own (H : List Blk) (d l n : Nat) : view H (d + 1) (.own l n) = viewO H d n H[l]? := rfl
def viewS (H : List Blk) (d n sz off len : Nat) (b : Option Blk) : AV := match b with | some b => if b.rows.length = n ∧ b.sz = sz then .slice b.sz false (viewR H d b.deep ((b.rows.drop off).take len)) else .undef | none => .undef
@[simp] theorem viewS_some (H : List Blk) (d n sz off len : Nat) (b : Blk) : viewS H d n sz off len (some b) = if b.rows.length = n ∧ b.sz = sz then .slice b.sz false (viewR H d b.deep ((b.rows.drop off).take len)) else .undef := rfl
@[simp] theorem view_osl (H : List Blk) (d l n sz off len : Nat) : view H (d + 1) (.osl l n sz off len) = viewS H d n sz off len H[l]? := rfl
def viewC (H : List Blk) (d : Nat) (deep : Bool) (cs : List AV) : List AV := if deep then cs else cs.map (view H d)
@[simp] theorem viewC_true (H : List Blk) (d : Nat) (cs : List AV) : viewC H d true cs = cs := rfl
@[simp] theorem viewC_false (H : List Blk) (d : Nat) (cs : List AV) : viewC H d false cs = cs.map (view H d) := rfl
def viewP (H : List Blk) (d n sz i f : Nat) (b : Option Blk) : AV := match b with | some b => if b.rows.length = n ∧ b.sz = sz ∧ i < n then .iptr (viewC H d b.deep ((rowAt b.rows i).drop f)) else .undef | none => .undef
@[simp] theorem viewP_some (H : List Blk) (d n sz i f : Nat) (b : Blk) : viewP H d n sz i f (some b) = if b.rows.length = n ∧ b.sz = sz ∧ i < n then .iptr (viewC H d b.deep ((rowAt b.rows i).drop f)) else .undef := rfl
@[simp] theorem view_ptr (H : List Blk) (d l n sz i f : Nat) : view H (d + 1) (.ptr l n sz i f) = viewP H d n sz i f H[l]? := rfl
def reachR (H : List Blk) (d : Nat) (b : Option Blk) : List Nat := match b with | some b => if b.deep then [] else b.rows.flatMap fun r => r.flatMap (reach H d) | none => []
@[simp] theorem reachR_some (H : List Blk) (d : Nat) (b : Blk) : reachR H d (some b) = if b.deep then [] else b.rows.flatMap fun r => r.flatMap (reach H d) := rfl
@[simp] theorem reach_own (H : List Blk) (d l n : Nat) : reach H (d + 1) (.own l n) = l :: reachR H d H[l]? := rfl
@[simp] theorem reach_osl (H : List Blk) (d l n sz off len : Nat) : reach H (d + 1) (.osl l n sz off len) = l :: reachR H d H[l]? := rfl
@[simp] theorem reach_ptr (H : List Blk) (d l n sz i f : Nat) : reach H (d + 1) (.ptr l n sz i f) = l :: reachR H d H[l]? := rfl
@[simp] theorem reach_agg (H : List Blk) (d : Nat) (cs : List AV) : reach H (d + 1) (.agg cs) = cs.flatMap (reach H d) := rfl
@[simp] theorem reach_tup (H : List Blk) (d : Nat) (cs : List AV) : reach H (d + 1) (.tup cs) = cs.flatMap (reach H d) := rfl
@[simp] theorem reach_fn (H : List Blk) (d : Nat) (f : FuncId) (cs : List AV) : reach H (d + 1) (.fn f cs) = cs.flatMap (reach H d) := rfl
@[simp] theorem frzL_nil (ls : List Nat) (i : Nat) : frzL ls i [] = [] := rfl
@[simp] theorem frzL_cons (ls : List Nat) (i : Nat) (e : TypeId) (sz : Nat) (rows : List (List AV)) (mu deep : Bool) (r : List Blk) : frzL ls i (⟨e, sz, rows, mu, deep⟩ :: r) = ⟨e, sz, rows, mu && !ls.contains i, deep⟩ :: frzL ls (i + 1) r := by
  rw [frzL]
  cases ls.contains i <;> simp
@[simp] theorem frzL_no (i : Nat) : ∀ H : List Blk, frzL [] i H = H := by
  intro H
  induction H generalizing i with
  | nil => rfl
  | cons b r ih => rw [frzL, ih]; rfl
def finK (H : List Blk) (r : AV) (o : Option (Prop × AV)) : Prop := match o with | some (ob, r') => ob ∧ nrmV (view H 6 r') = r | none => False
@[simp] theorem finK_some (H : List Blk) (r r' : AV) (ob : Prop) : finK H r (some (ob, r')) = (ob ∧ nrmV (view H 6 r') = r) := rfl
@[simp] theorem finP_eq (C : Ctx) (rs : List ResultVar) (r : AV) (ρ : List (Nat × AV)) (H : List Blk) : finP C rs r ⟨ρ, H⟩ = finK H r (aresults C ⟨ρ, H⟩ rs) := rfl
end Go.Proofs.YtgjljfbohpnfcaaGreat


namespace Go.Proofs.YtgjljfbohpnfcaaGreat
open Go.RowKit Go.WideShapes Go.ChangeShapes
def CellsD (w : World) (cs : List Value) (avs : List AV) : Prop :=
  cs.length = avs.length ∧ ∀ (j : Nat) (v : AV), avs[j]? = some v → ∃ u, cs[j]? = some u ∧ u.oneCell' = true ∧ RepD w (fun _ => False) u v
def ReadsAt (P : Program) (n : Nat) (t : TypeId) (α : Type) [Enc α] (wf : α → Prop) : Prop :=
  ∀ {H : Type} (enc : TypeId × Value → H) (w : World) (held : Bool) (cs : List Value) (x : DataW H × List MemPlace), DataW.trod enc P w 0 (fun _ => true) held n t cs = some x → ∃ a : α, wf a ∧ CellsD w cs (Enc.cells a)
def Reads (P : Program) (t : TypeId) (α : Type) [Enc α] (wf : α → Prop) : Prop := ∀ n, ReadsAt P n t α wf
theorem CellsD.nil (w : World) : CellsD w [] [] := ⟨rfl, fun j v h => by simp at h⟩
theorem CellsD.one {w : World} {u : Value} {v : AV} (h : RepD w (fun _ => False) u v) (h1 : u.oneCell' = true) : CellsD w [u] [v] := ⟨rfl, fun j x hj => by
  match j with
  | 0 => simp at hj; subst hj; exact ⟨u, rfl, h1, h⟩
  | j + 1 => simp at hj⟩
theorem CellsD.append {w : World} {cs ds : List Value} {A B : List AV} (h : CellsD w cs A) (h' : CellsD w ds B) : CellsD w (cs ++ ds) (A ++ B) := by
  refine ⟨by simp [h.1, h'.1], fun j v hj => ?_⟩
  rcases Nat.lt_or_ge j A.length with hlt | hge
  · rw [List.getElem?_append_left hlt] at hj
    rw [List.getElem?_append_left (by rw [h.1]; exact hlt)]
    exact h.2 j v hj
  · rw [List.getElem?_append_right hge] at hj
    rw [List.getElem?_append_right (by rw [h.1]; exact hge), h.1]
    exact h'.2 _ v hj
theorem CellsD.split {w : World} {cs : List Value} {o s : Nat} {A B : List AV} (h : CellsD w ((cs.drop o).take s) A) (h' : CellsD w (cs.drop (o + s)) B) : CellsD w (cs.drop o) (A ++ B) := by
  have := h.append h'
  rwa [← List.drop_drop, List.take_append_drop] at this
theorem CellsD.last {w : World} {cs : List Value} {o : Nat} (h : cs.length ≤ o) : CellsD w (cs.drop o) [] := by rw [List.drop_eq_nil_of_le h]; exact CellsD.nil w
section
variable {P : Program} {n : Nat} {t e : TypeId}
theorem readsAt_int (h : intT P t = some .i64) : ReadsAt P n t Int I64 := by
  intro H enc w held cs x hx
  cases n with
  | zero => simp [DataW.trod] at hx
  | succ n =>
    unfold DataW.trod at hx
    rw [intT_eq h] at hx
    split at hx <;> simp_all
    rename_i k k' z heq
    subst heq
    obtain rfl := hx.1.1
    refine ⟨z, ?_, CellsD.one (.int _ _) rfl⟩
    have := hx.1.2
    simp only [Lit.wf, Bool.and_eq_true, decide_eq_true_eq] at this
    unfold I64
    exact this
theorem readsAt_bool (h : boolT P t = true) : ReadsAt P n t Bool (fun _ => True) := by
  intro H enc w held cs x hx
  cases n with
  | zero => simp [DataW.trod] at hx
  | succ n =>
    unfold DataW.trod at hx
    rw [boolT_eq h] at hx
    have key : ∃ b, cs = [.bool b] := by split at hx <;> simp_all
    obtain ⟨b, rfl⟩ := key
    exact ⟨b, trivial, CellsD.one (.bool _) rfl⟩
def WfL {α : Type} (wf : α → Prop) (l : List α) : Prop := l.length ≤ maxLen ∧ ∀ a ∈ l, wf a
theorem addr_plainA {w : World} {a : Addr} {u : Value} (h : w.cell? a = some u) : ∃ b off, a = ⟨b, off, none⟩ := by
  obtain ⟨b, off, spot⟩ := a
  have hspot : spot = none := by simpa using World.cell?_spot h
  subst hspot
  exact ⟨b, off, rfl⟩
end
theorem reads_int {P : Program} {t : TypeId} (h : intT P t = some .i64) : Reads P t Int I64 := fun _ => readsAt_int h
section
variable {P : Program} {t : TypeId} {α : Type} [Enc α] {wf : α → Prop} {H : Type} {enc : TypeId × Value → H} {w : World} {held : Bool} {v : Value} {d : DataW H} {p : List MemPlace}
theorem CellsD.head {w : World} {v : Value} {av : AV} (h : CellsD w [v] [av]) : RepD w (fun _ => False) v av := by
  obtain ⟨u, hu, _, hr⟩ := h.2 0 av rfl
  simp at hu
  subst hu
  exact hr
theorem Reads.top1 (R : Reads P t α wf) (hE : ∀ a : α, Enc.cells a = [Enc.enc a]) (hv : v.cells = #[v]) (h : DataW.Trod enc P w 0 (fun _ => true) held t v d p) : ∃ a : α, wf a ∧ RepD w (fun _ => False) v (Enc.enc a) := by
  obtain ⟨n, h⟩ := h
  obtain ⟨a, ha, hc⟩ := R n enc w held _ _ h
  rw [hv, hE a] at hc
  exact ⟨a, ha, hc.head⟩
theorem Reads.slice (R : Reads P t α wf) (hE : ∀ a : α, Enc.cells a = [Enc.enc a]) {e : TypeId} {r : Reach} {b0 : Nat} (ht : elT P t = some e) (hv : Value.okWide P w r b0 t v) (h : DataW.Trod enc P w 0 (fun _ => true) held t v d p) : ∃ a : α, wf a ∧ RepD w (fun _ => False) v (Enc.enc a) := by
  obtain ⟨a, l, c, rfl⟩ := okWide_slice (elT_eq ht) hv
  exact R.top1 hE rfl h
theorem Reads.int {k : IntKind} (R : Reads P t α wf) (hE : ∀ a : α, Enc.cells a = [Enc.enc a]) {r : Reach} {b0 : Nat} (ht : intT P t = some k) (hv : Value.okWide P w r b0 t v) (h : DataW.Trod enc P w 0 (fun _ => true) held t v d p) : ∃ a : α, wf a ∧ RepD w (fun _ => False) v (Enc.enc a) := by
  obtain ⟨n, rfl⟩ := okWide_int (intT_eq ht) hv
  exact R.top1 hE rfl h
theorem Reads.str (R : Reads P t α wf) (hE : ∀ a : α, Enc.cells a = [Enc.enc a]) {r : Reach} {b0 : Nat} (ht : strT P t = true) (hv : Value.okWide P w r b0 t v) (h : DataW.Trod enc P w 0 (fun _ => true) held t v d p) : ∃ a : α, wf a ∧ RepD w (fun _ => False) v (Enc.enc a) := by
  obtain ⟨n, rfl⟩ := okWide_string (strT_eq ht) hv
  exact R.top1 hE rfl h
theorem Reads.bool (R : Reads P t α wf) (hE : ∀ a : α, Enc.cells a = [Enc.enc a]) {r : Reach} {b0 : Nat} (ht : boolT P t = true) (hv : Value.okWide P w r b0 t v) (h : DataW.Trod enc P w 0 (fun _ => true) held t v d p) : ∃ a : α, wf a ∧ RepD w (fun _ => False) v (Enc.enc a) := by
  obtain ⟨n, rfl⟩ := okWide_bool (boolT_eq ht) hv
  exact R.top1 hE rfl h
theorem Reads.struct (R : Reads P t α wf) (hE : ∀ a : α, Enc.enc a = .agg (Enc.cells a)) {r : Reach} {b0 : Nat} (ht : ∃ fs, P.underlying t = some (.struct fs)) (hv : Value.okWide P w r b0 t v) (h : DataW.Trod enc P w 0 (fun _ => true) held t v d p) : ∃ a : α, wf a ∧ RepD w (fun _ => False) v (Enc.enc a) := by
  obtain ⟨fs, ht⟩ := ht
  obtain ⟨cs, rfl, _⟩ := okWide_struct ht hv
  obtain ⟨n, h⟩ := h
  obtain ⟨a, ha, hc⟩ := R n enc w held _ _ h
  refine ⟨a, ha, ?_⟩
  rw [hE a]
  obtain ⟨h1, h2⟩ := hc
  simp only [Value.cells] at h1 h2
  refine .agg cs _ (fun j => (cs[j]?).getD undef) (by simpa using h1) (fun j hj => ?_) (fun j u hu => ?_)
  · obtain ⟨u, hu, h3, _⟩ := h2 j _ (List.getElem?_eq_getElem hj)
    have hu : cs[j]? = some u := by simpa using hu
    rw [hu]
    exact ⟨rfl, h3⟩
  · obtain ⟨u', hu', _, h4⟩ := h2 j u hu
    have hu' : cs[j]? = some u' := by simpa using hu'
    rw [hu']
    exact h4
end
theorem below_of_keeps {w w' : World} (h : Keeps (fun _ => False) w w') : Below w.heap.size w w' := ⟨h.os, h.tape, h.output, h.size, fun b hb => h.block b hb id⟩
theorem calls_of_pure {P : Program} {G : Nat → AV} {f : FuncId} {p : List AV → Option (Prop × AV)} (h : PureOK P G f p) {w : World} {args : Array Value} {avs : List AV} {ob : Prop} {b : Bool} (hG : ∀ g, RepD w (fun _ => False) (.pointer (some ⟨g, 0, none⟩)) (G g))
    (harg : ∀ (j : Nat) (u : AV), avs[j]? = some u → ∃ v, args[j]? = some v ∧ RepD w (fun _ => False) v u) (hsz : args.size = avs.length) (hp : p avs = some (ob, .bool b)) (hob : ob) :
    Calls P f args w fun e w' => e = .returned (.bool b) ∧ Below w.heap.size w w' :=
  (h w (fun _ => False) args avs ob (.bool b) (fun _ h => h.elim) (fun g => GV.of_rep (hG g)) hsz harg hp hob).mono fun e w' ⟨v, he, hk, hr⟩ => by
    cases hr
    exact ⟨he, below_of_keeps hk⟩
theorem arg1 {w : World} {v : Value} {a : AV} (h : RepD w (fun _ => False) v a) : ∀ (j : Nat) (u : AV), [a][j]? = some u → ∃ x, #[v][j]? = some x ∧ RepD w (fun _ => False) x u
  | 0, u, hu => by simp at hu; subst hu; exact ⟨v, rfl, h⟩
  | j + 1, u, hu => by simp at hu
theorem arg2 {w : World} {v v1 : Value} {a a1 : AV} (h : RepD w (fun _ => False) v a) (h1 : RepD w (fun _ => False) v1 a1) : ∀ (j : Nat) (u : AV), [a, a1][j]? = some u → ∃ x, #[v, v1][j]? = some x ∧ RepD w (fun _ => False) x u
  | 0, u, hu => by simp at hu; subst hu; exact ⟨v, rfl, h⟩
  | 1, u, hu => by simp at hu; subst hu; exact ⟨v1, rfl, h1⟩
  | j + 2, u, hu => by simp at hu
end Go.Proofs.YtgjljfbohpnfcaaGreat
namespace Go.Proofs.YtgjljfbohpnfcaaGreat
open Go.RowKit
def bs (l : List UInt8) : ByteArray := ⟨l.toArray⟩
@[simp] theorem bs_size (l : List UInt8) : (bs l).size = l.length := by simp [bs, ByteArray.size]
theorem str_ext {s t : ByteArray} (h : s.size = t.size) (hb : ∀ i, i < s.size → btA s i = btA t i) : s = t := by
  refine ByteArray.ext (Array.ext h fun i h1 h2 => ?_)
  have := hb i h1
  simp only [btA, List.getD_eq_getElem?_getD, Array.getElem?_toList, Array.getElem?_eq_getElem h1, Array.getElem?_eq_getElem h2, Option.getD_some] at this
  exact UInt8.toNat_inj.1 this
theorem weak_keep {C : Ctx} {N h0 : Nat} {ρ ρ' : List (Nat × AV)} {H H' : List Blk} (m : Nat) (h : ∀ p ∈ ρ', getA ρ p.1 = p.2) (hm : h0 ≤ m) (hρ : ∀ p ∈ ρ', p.2.clean m = true) (hH : ∀ b ∈ H.take m, b.deep = true ∨ ∀ r ∈ b.rows, ∀ c ∈ r, c.clean m = true) (hE : H.take m = H') : Weak C N h0 ⟨ρ, H⟩ ⟨ρ', H'⟩ := by
  subst hE
  exact (weak_slots h).trans (weak_drop m hm hρ hH)
@[simp] theorem rowAt_head (r : List AV) (rs : List (List AV)) : rowAt (r :: rs) 0 = r := rfl
@[simp] theorem rowAt_tail (r : List AV) (rs : List (List AV)) (i : Nat) : rowAt (r :: rs) (i + 1) = rowAt rs i := rfl
@[simp] theorem dec_cons {α : Type} [Enc α] (sz : Nat) (f : Bool) (r : List AV) (rows : List (List AV)) : (Enc.dec (.slice sz f (r :: rows)) : List α) = Enc.unc r :: Enc.dec (.slice sz f rows) := rfl
@[simp] theorem unc_int (k : IntKind) (n : Int) : (Enc.unc [.int k n] : Int) = n := rfl
@[simp] theorem unc_bool (n : Bool) : (Enc.unc [.bool n] : Bool) = n := rfl
@[simp] theorem unc_str (n : ByteArray) : (Enc.unc [.str n] : ByteArray) = n := rfl
@[simp] theorem unc_list {α : Type} [Enc α] (sz : Nat) (f : Bool) (rows : List (List AV)) : (Enc.unc [.slice sz f rows] : List α) = Enc.dec (.slice sz f rows) := rfl
end Go.Proofs.YtgjljfbohpnfcaaGreat
namespace Go.Proofs.YtgjljfbohpnfcaaGreat
open Go.RowKit
section
variable {P : Program} {G : Nat → AV} {f : FuncId} {w : World} (hG : ∀ g, RepD w (fun _ => False) (.pointer (some ⟨g, 0, none⟩)) (G g))
include hG
theorem calls1 {α : Type} [Enc α] {pre : α → Prop} {b : Bool} (h : PureOK P G f (spec1 pre fun _ => .bool b)) {v0 : Value} {a0 : α} (r0 : RepD w (fun _ => False) v0 (Enc.enc a0)) (n0 : nrmV (Enc.enc a0) = Enc.enc a0) (hp : pre a0) :
    Calls P f #[v0] w fun e w' => e = .returned (.bool b) ∧ Below w.heap.size w w' :=
  calls_of_pure h (avs := [Enc.enc a0]) (ob := nrmV (Enc.enc a0) = Enc.enc a0 ∧ pre a0) hG (arg1 r0) rfl (by simp only [spec1, Enc.dec_enc]) ⟨n0, hp⟩
theorem calls2 {α β : Type} [Enc α] [Enc β] {pre : α → β → Prop} {b : Bool} (h : PureOK P G f (spec2 pre fun _ _ => .bool b)) {v0 v1 : Value} {a0 : α} {a1 : β} (r0 : RepD w (fun _ => False) v0 (Enc.enc a0)) (r1 : RepD w (fun _ => False) v1 (Enc.enc a1))
    (n0 : nrmV (Enc.enc a0) = Enc.enc a0) (n1 : nrmV (Enc.enc a1) = Enc.enc a1) (hp : pre a0 a1) : Calls P f #[v0, v1] w fun e w' => e = .returned (.bool b) ∧ Below w.heap.size w w' :=
  calls_of_pure h (avs := [Enc.enc a0, Enc.enc a1]) (ob := nrmV (Enc.enc a0) = Enc.enc a0 ∧ nrmV (Enc.enc a1) = Enc.enc a1 ∧ pre a0 a1) hG (arg2 r0 r1) rfl (by simp only [spec2, Enc.dec_enc]) ⟨n0, n1, hp⟩
end
end Go.Proofs.YtgjljfbohpnfcaaGreat


namespace Go.Proofs.YtgjljfbohpnfcaaGreat
open Go.RowKit
section
variable {C : Ctx} {N h0 : Nat}
theorem AW_seq {a b : Code} {st : ASt} {Q : Exit → ASt → Prop} (h : AW C N h0 a st (goOn (fun st' => AW C N h0 b st' Q) Q)) : AW C N h0 (.seq a b) st Q := fun X w0 β0 H0 x w hl hr => by
  refine wp_seq (Code.wp_mono (fun ex a' w' ⟨st', hq, hr'⟩ => ?_) (h X w0 β0 H0 x w hl hr))
  cases ex with
  | normal => exact hq X w0 β0 H0 a' w' hl hr'
  | _ => exact ⟨st', hq, hr'⟩
theorem AW_block {id : Nat} {b : Code} {st : ASt} {Q : Exit → ASt → Prop} (h : AW C N h0 b st (outOf id Q)) : AW C N h0 (.block id b) st Q := fun X w0 β0 H0 x w hl hr => by
  refine wp_block (Code.wp_mono (fun ex a' w' ⟨st', hq, hr'⟩ => ?_) (h X w0 β0 H0 x w hl hr))
  cases ex with
  | exit j =>
    simp only [Exit.inBlock, outOf] at hq ⊢
    split
    · rename_i e; rw [if_pos e] at hq; exact ⟨st', hq, hr'⟩
    · rename_i e; rw [if_neg e] at hq; exact ⟨st', hq, hr'⟩
  | _ => exact ⟨st', hq, hr'⟩
theorem AW_loopW {α : Type} {body : Code} {st : ASt} {Q : Exit → ASt → Prop} (Sf : α → ASt) (pre : α → Prop) (m : α → Nat)
    (start : ∃ x, pre x ∧ Weak C N h0 st (Sf x)) (step : ∀ x, pre x → AW C N h0 body (Sf x) (round Sf pre (fun x' => m x' < m x) N h0 C Q)) : AW C N h0 (.loop body) st Q := by
  intro X w0 β0 H0 a w hl hr
  obtain ⟨x0, hx0, hw0⟩ := start
  refine wp_loop_ghost (fun n a w => ∃ x, m x = n ∧ pre x ∧ Rel C N X w0 β0 H0 (Sf x) a w) (m x0) ⟨x0, rfl, hx0, hw0 X w0 β0 H0 a w hl hr⟩ ?_
  rintro n a w ⟨x, rfl, hx, hr⟩
  refine Code.wp_mono (fun ex a' w' ⟨st', hq, hr'⟩ => ?_) (step x hx X w0 β0 H0 a w hl hr)
  cases ex with
  | normal =>
    obtain ⟨x', hx', hlt, hw⟩ := hq
    exact ⟨m x', hlt, x', rfl, hx', hw X w0 β0 H0 a' w' hl hr'⟩
  | _ => exact ⟨st', hq, hr'⟩
theorem AW_region (hS : SigOK C) (hM : C.P.follows .mixedOrders = true) {id : Nat} {ops : Array Oper} {st : ASt} {Q : Exit → ASt → Prop} (tbl : List (List Nat)) (htbl : (List.range ops.size).all (fun i => decide (directs (opAt ops i) = tbl.getD i [])) = true)
    (hd : (List.range ops.size).all (fun i => (match (opAt ops i).dst with | some d => decide (d < N) | none => true) && (directs (opAt ops i)).all fun d => decide (d < i)) = true)
    (I : (Nat → Bool) → ASt → Prop) (start : I (fun _ => false) st)
    (step : ∀ i o, ops.toList[i]? = some o → ∀ L st', I L st' → L i = false → (∀ d ∈ tbl.getD i [], L d = true) → aops C ops [o] st' (I (fun j => decide (j = i) || L j)))
    (fin : ∀ L st', I L st' → (∀ i, i < ops.size → L i = true) → Q .normal st') (ext : ∀ L L' st', (∀ j, L j = L' j) → I L st' → I L' st') : AW C N h0 (.region id ops true) st Q := fun X w0 β0 H0 a w hl hr => by
  have hd' : ∀ i, i < ops.size → (∀ d, (opAt ops i).dst = some d → d < N) ∧ ∀ d ∈ directs (opAt ops i), d < i := fun i hi => by
    have := List.all_eq_true.1 hd i (List.mem_range.2 hi)
    simp only [Bool.and_eq_true, List.all_eq_true, decide_eq_true_eq] at this
    refine ⟨fun d hdd => ?_, this.2⟩
    have h1 := this.1
    rw [hdd] at h1
    simpa using h1
  refine wp_region_any hM ?_
  have hr' : Rel C N X w0 β0 H0 st a { w with drawn := w.drawn + 1 } := by
    obtain ⟨β, R, S0, Tr, G, hN, hdef⟩ := hr
    have hk : Keeps (fun _ => False) w { w with drawn := w.drawn + 1 } := Keeps.drew _ w
    exact ⟨β, R.quiet hk, S0.trans (StepR.quiet hk R.len), fun t => (Tr t).keep (StepR.quiet hk R.len), fun g => (G g).keep (fun b hb hn => hk.block b hb (fun h => h)) hk.size (fun b _ h => h), hN, hdef⟩
  have ready0 : ∀ listed : Array Bool, listed.size = ops.size → Region.ready .any ops listed = [] → ∀ i, i < ops.size → listed.getD i false = true := by
    intro listed hs h i
    induction i using Nat.strongRecOn with
    | _ i ih =>
      intro hi
      cases hl : listed.getD i false with
      | true => rfl
      | false =>
        exfalso
        have : i ∈ Region.ready .any ops listed := by
          unfold Region.ready
          rw [List.mem_filter]
          refine ⟨List.mem_range.2 hi, ?_⟩
          simp only [Bool.and_eq_true, Bool.not_eq_true']
          refine ⟨?_, ?_⟩
          · rw [Array.getD_eq_getD_getElem?, Array.getElem?_eq_getElem (by omega)] at hl ⊢
            exact hl
          · rw [Array.getElem?_eq_getElem hi]
            simp only [Option.map_some, Option.getD_some]
            refine Array.all_eq_true'.2 fun e he => ?_
            cases hb : Region.binds .any e with
            | false => rfl
            | true =>
              have hdd : e.on ∈ directs (opAt ops i) := by
                unfold directs opAt
                rw [Array.getD_eq_getD_getElem?, Array.getElem?_eq_getElem hi]
                simp only [Option.getD_some, List.mem_map, List.mem_filter]
                exact ⟨e, ⟨Array.mem_toList_iff.2 he, hb⟩, rfl⟩
              have hlt := (hd' i hi).2 e.on hdd
              simp [ih e.on hlt (by omega)]
        rw [h] at this
        cases this
  have main : ∀ (fuel : Nat) (listed : Array Bool) (st : ASt) (a : Act) (w : World), listed.size = ops.size → I (fun i => listed.getD i false) st → (List.range ops.size).countP (fun i => !listed.getD i false) ≤ fuel → Rel C N X w0 β0 H0 st a w →
      wpAny C.P .any ops (fun ex a' w' => ∃ st', Q ex st' ∧ Rel C N X w0 β0 H0 st' a' w') fuel listed a w := by
    intro fuel
    induction fuel with
    | zero =>
      intro listed st a w hs hI hc hr
      have hall : ∀ i, i < ops.size → listed.getD i false = true := by
        intro i hi
        have h0 : (List.range ops.size).countP (fun i => !listed.getD i false) = 0 := by omega
        rw [List.countP_eq_zero] at h0
        have := h0 i (List.mem_range.2 hi)
        simpa using this
      refine ⟨?_, st, fin _ st hI hall, hr⟩
      cases hrd : Region.ready .any ops listed with
      | nil => rfl
      | cons i r =>
        obtain ⟨h1, h2, _⟩ := ready_spec (ops := ops) (listed := listed) (i := i) (by rw [hrd]; simp)
        have := hall i h1
        rw [Array.getD_eq_getD_getElem?, Array.getElem?_eq_getElem (by omega), Option.getD_some] at h2 this
        rw [h2] at this
        cases this
    | succ fuel ih =>
      intro listed st a w hs hI hc hr
      refine ⟨fun hnil => ⟨st, fin _ st hI (ready0 listed hs hnil), hr⟩, fun i hi => ?_⟩
      obtain ⟨hlt, hun, hdir⟩ := ready_spec hi
      have hL : listed.getD i false = false := by
        rw [Array.getD_eq_getD_getElem?, Array.getElem?_eq_getElem (by omega), Option.getD_some] at hun ⊢
        exact hun
      have htb : directs (opAt ops i) = tbl.getD i [] := by simpa using List.all_eq_true.1 htbl i (List.mem_range.2 hlt)
      have hst := step i (opAt ops i) (by unfold opAt; rw [Array.getD_eq_getD_getElem?, Array.getElem?_eq_getElem hlt]; simp [hlt]) _ st hI hL (by rw [← htb]; exact hdir)
      simp only [aops] at hst
      have hget : ops[i]? = some (opAt ops i) := by
        unfold opAt
        rw [Array.getD_eq_getD_getElem?, Array.getElem?_eq_getElem hlt]
        rfl
      have next : ∀ (st' : ASt) (a' : Act) (w' : World), I (fun j => decide (j = i) || listed.getD j false) st' → Rel C N X w0 β0 H0 st' a' w' →
          wpAny C.P .any ops (fun ex a' w' => ∃ st', Q ex st' ∧ Rel C N X w0 β0 H0 st' a' w') fuel (listed.setIfInBounds i true) a' w' := by
        intro st' a' w' hI' hr'
        have hset : ∀ j, (listed.setIfInBounds i true).getD j false = (decide (j = i) || listed.getD j false) := by
          intro j
          by_cases e : j = i
          · subst e
            simp [Array.getD_eq_getD_getElem?, show j < listed.size by omega]
          · simp [Array.getD_eq_getD_getElem?, Array.getElem?_setIfInBounds_ne (fun h => e h.symm), e]
        refine ih _ st' a' w' (by simpa using hs) (ext _ _ _ (fun j => (hset j).symm) hI') ?_ hr'
        have key : ∀ l : List Nat, i ∈ l → l.countP (fun j => !(listed.setIfInBounds i true).getD j false) + 1 ≤ l.countP (fun j => !listed.getD j false) := by
          have h0 : ∀ l : List Nat, l.countP (fun j => !(listed.setIfInBounds i true).getD j false) ≤ l.countP (fun j => !listed.getD j false) := fun l => List.countP_mono_left fun j _ hj => by
            rw [hset j] at hj
            simp only [Bool.not_eq_true', Bool.or_eq_false_iff] at hj ⊢
            exact hj.2
          intro l hl
          induction l with
          | nil => cases hl
          | cons j r ihl =>
            rw [List.countP_cons, List.countP_cons]
            by_cases e : j = i
            · subst e
              have e1 : (!(listed.setIfInBounds j true).getD j false) = false := by rw [hset j]; simp
              have e2 : (!listed.getD j false) = true := by simpa using hL
              rw [e1, e2]
              have := h0 r
              simp only [if_true, Bool.false_eq_true, if_false]
              omega
            · have := ihl (by simpa [Ne.symm e] using hl)
              have hj : (!(listed.setIfInBounds i true).getD j false) = !listed.getD j false := by rw [hset j]; simp [e]
              rw [hj]
              omega
        have := key _ (List.mem_range.2 hlt)
        omega
      obtain ⟨β, R, S0, Tr, G, hN, hdef⟩ := hr
      unfold wpOp
      rw [hget]
      simp only
      split at hst
      · exact hst.elim
      · rename_i g hg
        have hw := wantG_sound Tr hg
        rw [hw]
        cases g with
        | true =>
          rw [if_pos rfl]
          have hst := hst.1 rfl
          split at hst
          · rename_i ob v H' hcg
            refine .inl ?_
            exact astep_sound hS R Tr G hcg hst.1 fun u w' β' R' S hr => next _ _ _ hst.2 (rel_put S0 Tr G hN hdef R' S hr _ ((hd' i hlt).1))
          · exact hst.elim
        | false =>
          rw [if_neg (by simp)]
          exact next _ _ _ (hst.2 rfl) (rel_put S0 Tr G hN hdef R (StepR.refl _ _ _ R.len) rep_skip _ ((hd' i hlt).1))
  exact main ops.size (Array.replicate ops.size false) st a _ (by simp) (ext _ _ _ (fun j => by
    rw [Array.getD_eq_getD_getElem?]
    rcases Nat.lt_or_ge j ops.size with h | h
    · simp [h]
    · simp [Array.getElem?_eq_none (show (Array.replicate ops.size false).size ≤ j by simpa using h)]) start) (Nat.le_trans List.countP_le_length (by simp)) hr'
theorem pure_of_AW {f : FuncId} {fn : Func} {body : Code} {rs : List ResultVar} {n : Nat} (hf : C.P.funcs[f]? = some fn) (hb : fn.body = some body) (hrs : fn.results.toList = rs) (hn : fn.ntmps = n) {p : List AV → Option (Prop × AV)}
    (h : ∀ avs ob r, p avs = some (ob, r) → ob → avs.length ≤ n ∧ AW C n 0 body ⟨argsρ 0 (avs.map nrmV), []⟩ (postP C rs r)) : PureOK C.P C.G f p := by
  subst hrs hn
  intro w X args avs0 ob r hX hG hsz0 harg0 hp hob
  obtain ⟨hlen0, hav0⟩ := h avs0 ob r hp hob
  generalize havs : avs0.map nrmV = avs at hav0
  have hlen : avs.length ≤ fn.ntmps := by rw [← havs]; simpa using hlen0
  have hsz : args.size = avs.length := by rw [← havs]; simpa using hsz0
  have harg : ∀ (j : Nat) (u : AV), avs[j]? = some u → ∃ v, args[j]? = some v ∧ RepD w X v u := fun j u hu => by
    rw [← havs, List.getElem?_map] at hu
    simp only [Option.map_eq_some_iff] at hu
    obtain ⟨av, hav, rfl⟩ := hu
    obtain ⟨v, h1, h2⟩ := harg0 j av hav
    exact ⟨v, h1, repD_nrmV h2⟩
  refine calls_of_wp hf hb ?_
  have hMu : ∀ b, Mu X [] [] b → X b := by
    rintro b (h | ⟨l, c, blk, h1, _, _⟩)
    · exact h
    · simp at h1
  have R : HRel w X [] [] := ⟨rfl, fun l bi b h1 _ => by simp at h1, fun l b c h1 => by simp at h1, fun l l' b c c' h1 => by simp at h1, hX⟩
  have hr : Rel C fn.ntmps X w [] [] ⟨argsρ 0 avs, []⟩ { tmps := args ++ Array.replicate (fn.ntmps - args.size) undef, defers := [] } w :=
    ⟨[], R, StepR.refl _ _ _ rfl, trel_args hsz (fun j u hj => let ⟨v, h1, h2⟩ := harg j u hj; ⟨v, h1, .deep (h2.mono fun b _ hb => hMu b hb)⟩), fun g => (hG g).mono fun b _ hb => hMu b hb, by simp; omega, rfl⟩
  refine Code.wp_mono (fun ex a' w' ⟨st', hq, hr'⟩ => ?_) (hav0 X w [] [] _ w rfl hr)
  have fin : finP C fn.results.toList r st' → bodyPost C.P fn (fun e w' => ∃ v, e = .returned v ∧ Keeps (fun _ => False) w w' ∧ RepD w' X v r) .normal a' w' := by
    unfold finP
    split
    · rename_i ob' r' hres
      rintro ⟨hob', hview⟩
      obtain ⟨β', R', S', T', G', hN', hdef'⟩ := hr'
      obtain ⟨u, hu, hrep⟩ := aresults_sound R' T' hres hob'
      have hv := (view_sound R' (fun _ => True) 6 hrep (fun _ _ => trivial)).mono (X' := X) fun b _ hb => .inl hb
      have hv := repD_nrmV hv
      rw [hview] at hv
      exact ⟨hdef', u, hu, u, rfl, S'.keeps.weaken (fun b _ h => by obtain ⟨l, c, blk, h1, _, _⟩ := h; simp at h1), hv⟩
    · intro h; exact h.elim
  cases ex with
  | normal => exact fin hq
  | ret => exact fin hq
  | _ => exact hq.elim
end
end Go.Proofs.YtgjljfbohpnfcaaGreat
namespace Go.Proofs.YtgjljfbohpnfcaaGreat
open Go.RowKit
set_option linter.unusedVariables false
section
variable {C : Ctx} {N h0 : Nat}
def stableD (C : Ctx) (st : ASt) (o : Oper) (v : AV) : Prop := thenD (astep C st o) fun ob v' _ => v' = v ∧ ob
structure RdE where
  i : Nat
  o : Oper
  ρ : List (Nat × AV)
  v : AV
def chkR (C : Ctx) (o : Oper) (v : AV) (ρ : List (Nat × AV)) (bs : List Nat) : List (Nat × List Blk) → Prop
  | [] => True
  | (e, He) :: r => (bs.contains e = true ∨ stableD C ⟨ρ, He⟩ o v) ∧ chkR C o v ρ bs r
def chkE (C : Ctx) (H : List Blk) (bs : List Nat) : List RdE → Prop
  | [] => True
  | p :: r => (bs.contains p.i = true ∨ stableD C ⟨p.ρ, H⟩ p.o p.v) ∧ chkE C H bs r
def aopsF (C : Ctx) (ops : Array Oper) : Nat → List Oper → List Kd → List (List Nat) → List (Nat × List Blk) → List RdE → ASt → (ASt → Prop) → Prop
  | _, [], _, _, _, _, st, K => K st
  | i, o :: r, .pure :: ks, d :: ds, hist, rd, st, K => thenG (wantG ops st.ρ o) fun g => both g (thenD (astep C st o) fun ob v H' => ob ∧ aopsF C ops (i + 1) r ks ds hist rd ⟨putA st.ρ o.dst v, H'⟩ K) (aopsF C ops (i + 1) r ks ds hist rd ⟨putA st.ρ o.dst (.tup []), st.H⟩ K)
  | i, o :: r, .read :: ks, d :: ds, hist, rd, st, K => thenG (wantG ops st.ρ o) fun g => both g (thenD (astep C st o) fun ob v H' => ob ∧ chkR C o v st.ρ d hist ∧ aopsF C ops (i + 1) r ks ds hist (⟨i, o, st.ρ, v⟩ :: rd) ⟨putA st.ρ o.dst v, H'⟩ K) (aopsF C ops (i + 1) r ks ds hist rd ⟨putA st.ρ o.dst (.tup []), st.H⟩ K)
  | i, o :: r, .eff :: ks, d :: ds, hist, rd, st, K => thenG (wantG ops st.ρ o) fun g => both g (thenD (astep C st o) fun ob v H' => ob ∧ chkE C H' d rd ∧ aopsF C ops (i + 1) r ks ds ((i, st.H) :: hist) rd ⟨putA st.ρ o.dst v, H'⟩ K) (aopsF C ops (i + 1) r ks ds hist rd ⟨putA st.ρ o.dst (.tup []), st.H⟩ K)
  | _, _ :: _, _, _, _, _, _, _ => False
@[congr] theorem stableD_congr {C : Ctx} {st st' : ASt} {o : Oper} {v : AV} (h : mark st = st') : stableD C st o v = stableD C st' o v := by rw [mark_eq] at h; rw [h]
@[congr] theorem chkR_congr {C : Ctx} {o : Oper} {v : AV} {ρ : List (Nat × AV)} {bs : List Nat} {l l' : List (Nat × List Blk)} (h : mark l = l') : chkR C o v ρ bs l = chkR C o v ρ bs l' := by rw [mark_eq] at h; rw [h]
@[congr] theorem chkE_congr {C : Ctx} {H : List Blk} {bs : List Nat} {l l' : List RdE} (h : mark l = l') : chkE C H bs l = chkE C H bs l' := by rw [mark_eq] at h; rw [h]
@[congr] theorem aopsF_congr {C : Ctx} {ops : Array Oper} {i : Nat} {l : List Oper} {ks : List Kd} {ds : List (List Nat)} {hist : List (Nat × List Blk)} {rd : List RdE} {st st' : ASt} {K : ASt → Prop} (h : mark st = st') : aopsF C ops i l ks ds hist rd st K = aopsF C ops i l ks ds hist rd st' K := by rw [mark_eq] at h; rw [h]
@[simp] theorem stableD_eq (st : ASt) (o : Oper) (v : AV) : stableD C st o v = thenD (astep C st o) fun ob v' _ => v' = v ∧ ob := rfl
@[simp] theorem chkR_nil (o : Oper) (v : AV) (ρ : List (Nat × AV)) (bs : List Nat) : chkR C o v ρ bs [] = True := rfl
@[simp] theorem chkR_cons (o : Oper) (v : AV) (ρ : List (Nat × AV)) (bs : List Nat) (e : Nat) (He : List Blk) (r : List (Nat × List Blk)) : chkR C o v ρ bs ((e, He) :: r) = ((bs.contains e = true ∨ stableD C ⟨ρ, He⟩ o v) ∧ chkR C o v ρ bs r) := rfl
@[simp] theorem chkE_nil (H : List Blk) (bs : List Nat) : chkE C H bs [] = True := rfl
@[simp] theorem chkE_cons (H : List Blk) (bs : List Nat) (i : Nat) (o : Oper) (ρ : List (Nat × AV)) (v : AV) (r : List RdE) : chkE C H bs (⟨i, o, ρ, v⟩ :: r) = ((bs.contains i = true ∨ stableD C ⟨ρ, H⟩ o v) ∧ chkE C H bs r) := rfl
@[simp] theorem aopsF_nil (ops : Array Oper) (i : Nat) (ks : List Kd) (ds : List (List Nat)) (hist : List (Nat × List Blk)) (rd : List RdE) (st : ASt) (K : ASt → Prop) : aopsF C ops i [] ks ds hist rd st K = K st := by rw [aopsF]
@[simp] theorem aopsF_pure (ops : Array Oper) (i : Nat) (o : Oper) (r : List Oper) (ks : List Kd) (d : List Nat) (ds : List (List Nat)) (hist : List (Nat × List Blk)) (rd : List RdE) (st : ASt) (K : ASt → Prop) : aopsF C ops i (o :: r) (.pure :: ks) (d :: ds) hist rd st K = thenG (wantG ops st.ρ o) fun g => both g (thenD (astep C st o) fun ob v H' => ob ∧ aopsF C ops (i + 1) r ks ds hist rd ⟨putA st.ρ o.dst v, H'⟩ K) (aopsF C ops (i + 1) r ks ds hist rd ⟨putA st.ρ o.dst (.tup []), st.H⟩ K) := by rw [aopsF]
@[simp] theorem aopsF_read (ops : Array Oper) (i : Nat) (o : Oper) (r : List Oper) (ks : List Kd) (d : List Nat) (ds : List (List Nat)) (hist : List (Nat × List Blk)) (rd : List RdE) (st : ASt) (K : ASt → Prop) : aopsF C ops i (o :: r) (.read :: ks) (d :: ds) hist rd st K = thenG (wantG ops st.ρ o) fun g => both g (thenD (astep C st o) fun ob v H' => ob ∧ chkR C o v st.ρ d hist ∧ aopsF C ops (i + 1) r ks ds hist (⟨i, o, st.ρ, v⟩ :: rd) ⟨putA st.ρ o.dst v, H'⟩ K) (aopsF C ops (i + 1) r ks ds hist rd ⟨putA st.ρ o.dst (.tup []), st.H⟩ K) := by rw [aopsF]
@[simp] theorem aopsF_eff (ops : Array Oper) (i : Nat) (o : Oper) (r : List Oper) (ks : List Kd) (d : List Nat) (ds : List (List Nat)) (hist : List (Nat × List Blk)) (rd : List RdE) (st : ASt) (K : ASt → Prop) : aopsF C ops i (o :: r) (.eff :: ks) (d :: ds) hist rd st K = thenG (wantG ops st.ρ o) fun g => both g (thenD (astep C st o) fun ob v H' => ob ∧ chkE C H' d rd ∧ aopsF C ops (i + 1) r ks ds ((i, st.H) :: hist) rd ⟨putA st.ρ o.dst v, H'⟩ K) (aopsF C ops (i + 1) r ks ds hist rd ⟨putA st.ρ o.dst (.tup []), st.H⟩ K) := by rw [aopsF]
theorem chkR_all {o : Oper} {v : AV} {ρ : List (Nat × AV)} {bs : List Nat} : ∀ {l : List (Nat × List Blk)}, chkR C o v ρ bs l → ∀ p ∈ l, p.1 ∉ bs → stableD C ⟨ρ, p.2⟩ o v
  | [], _, p, hp => by cases hp
  | (e, He) :: r, h, p, hp => fun hn => by
    rw [chkR_cons] at h
    rcases List.mem_cons.1 hp with rfl | hp
    · exact h.1.resolve_left fun h2 => hn (List.contains_iff_mem.1 h2)
    · exact chkR_all h.2 p hp hn
theorem chkE_all {H : List Blk} {bs : List Nat} : ∀ {l : List RdE}, chkE C H bs l → ∀ p ∈ l, p.i ∉ bs → stableD C ⟨p.ρ, H⟩ p.o p.v
  | [], _, p, hp => by cases hp
  | q :: r, h, p, hp => fun hn => by
    unfold chkE at h
    rcases List.mem_cons.1 hp with rfl | hp
    · exact h.1.resolve_left fun h2 => hn (List.contains_iff_mem.1 h2)
    · exact chkE_all h.2 p hp hn
structure TrF (C : Ctx) (ops : Array Oper) (B : Nat → List Nat) (k : Nat) (hist : List (Nat × List Blk)) (rd : List RdE) (v : Nat → AV) (ρ : Nat → List (Nat × AV)) (H : Nat → List Blk) : Prop where
  a : ∀ j, k ≤ j → j < ops.size → kindOf C (opAt ops j) = .read → wantG ops (ρ j) (opAt ops j) = some true → ∀ p ∈ hist, p.1 ∉ B j → stableD C ⟨ρ j, p.2⟩ (opAt ops j) (v j)
  b : ∀ j, k ≤ j → j < ops.size → kindOf C (opAt ops j) = .eff → wantG ops (ρ j) (opAt ops j) = some true → ∀ p ∈ rd, p.i ∉ B j → stableD C ⟨p.ρ, H (j + 1)⟩ p.o p.v
  c : ∀ e j, k ≤ e → e < j → j < ops.size → kindOf C (opAt ops e) = .eff → wantG ops (ρ e) (opAt ops e) = some true → kindOf C (opAt ops j) = .read → wantG ops (ρ j) (opAt ops j) = some true → e ∉ B j → stableD C ⟨ρ j, H e⟩ (opAt ops j) (v j)
  d : ∀ j e, k ≤ j → j < e → e < ops.size → kindOf C (opAt ops j) = .read → wantG ops (ρ j) (opAt ops j) = some true → kindOf C (opAt ops e) = .eff → wantG ops (ρ e) (opAt ops e) = some true → j ∉ B e → stableD C ⟨ρ j, H (e + 1)⟩ (opAt ops j) (v j)
theorem aopsF_trace {ops : Array Oper} {B : Nat → List Nat} : ∀ (l : List Oper) (ks : List Kd) (ds : List (List Nat)) (k : Nat) (hist : List (Nat × List Blk)) (rd : List RdE) (st : ASt) (K : ASt → Prop), (∀ j : Nat, l[j]? = ops[k + j]?) → (∀ (j : Nat) (x : Kd), ks[j]? = some x → k + j < ops.size → kindOf C (opAt ops (k + j)) = x) → (∀ (j : Nat) (x : List Nat), ds[j]? = some x → B (k + j) = x) → k ≤ ops.size → aopsF C ops k l ks ds hist rd st K →
    ∃ v ρ H, Trace C ops k st v ρ H ∧ TrF C ops B k hist rd v ρ H ∧ K ⟨ρ ops.size, H ops.size⟩
  | [], ks, ds, k, hist, rd, st, K, hl, hks, hds, hk, h => by
    have h0 := hl 0
    simp at h0
    have : k = ops.size := by omega
    subst this
    rw [aopsF_nil] at h
    exact ⟨fun _ => .undef, fun _ => st.ρ, fun _ => st.H, ⟨rfl, rfl, fun i h1 h2 => by omega⟩, ⟨fun j h1 h2 => by omega, fun j h1 h2 => by omega, fun e j h1 h2 h3 => by omega, fun e j h1 h2 h3 => by omega⟩, h⟩
  | o :: r, [], ds, k, hist, rd, st, K, hl, hks, hds, hk, h => by unfold aopsF at h; exact h.elim
  | o :: r, kd :: ks, [], k, hist, rd, st, K, hl, hks, hds, hk, h => by cases kd <;> (unfold aopsF at h; exact h.elim)
  | o :: r, kd :: ks, d :: ds, k, hist, rd, st, K, hl, hks, hds, hk, h => by
    have hl0 := hl 0
    simp only [List.getElem?_cons_zero, Nat.add_zero] at hl0
    have hlt : k < ops.size := (Array.getElem?_eq_some_iff.1 hl0.symm).1
    have ho : opAt ops k = o := by simp [opAt, Array.getD_eq_getD_getElem?, ← hl0]
    have hkd : kindOf C (opAt ops k) = kd := by have := hks 0 kd rfl (by omega); simpa using this
    have hBk : B k = d := by have := hds 0 d rfl; simpa using this
    have hl' : ∀ j : Nat, r[j]? = ops[k + 1 + j]? := fun j => by have := hl (j + 1); rwa [List.getElem?_cons_succ, show k + (j + 1) = k + 1 + j by omega] at this
    have hks' : ∀ (j : Nat) (x : Kd), ks[j]? = some x → k + 1 + j < ops.size → kindOf C (opAt ops (k + 1 + j)) = x := fun j x hx hj => by have := hks (j + 1) x (by simpa using hx) (by omega); rwa [show k + (j + 1) = k + 1 + j by omega] at this
    have hds' : ∀ (j : Nat) (x : List Nat), ds[j]? = some x → B (k + 1 + j) = x := fun j x hx => by have := hds (j + 1) x (by simpa using hx); rwa [show k + (j + 1) = k + 1 + j by omega] at this
    -- the rest, put behind this operation
    have fin : ∀ (g : Bool) (vk : AV) (Hk : List Blk) (hist' : List (Nat × List Blk)) (rd' : List RdE), wantG ops st.ρ o = some g → ((g = true → ∃ ob, astep C ⟨st.ρ, st.H⟩ o = some (ob, vk, Hk) ∧ ob) ∧ (g = false → vk = .tup [] ∧ Hk = st.H)) →
        (g = true → kd = .read → ∀ p ∈ hist, p.1 ∉ d → stableD C ⟨st.ρ, p.2⟩ o vk) → (g = true → kd = .eff → ∀ p ∈ rd, p.i ∉ d → stableD C ⟨p.ρ, Hk⟩ p.o p.v) →
        (∀ p ∈ hist, p ∈ hist') → (∀ p ∈ rd, p ∈ rd') → (g = true → kd = .eff → (k, st.H) ∈ hist') → (g = true → kd = .read → (⟨k, o, st.ρ, vk⟩ : RdE) ∈ rd') →
        aopsF C ops (k + 1) r ks ds hist' rd' ⟨putA st.ρ o.dst vk, Hk⟩ K → ∃ v ρ H, Trace C ops k st v ρ H ∧ TrF C ops B k hist rd v ρ H ∧ K ⟨ρ ops.size, H ops.size⟩ := by
      intro g vk Hk hist' rd' hg hst hcr hce hih hird hpe hpr hr
      obtain ⟨v, ρ, H, hT, hF, hK⟩ := aopsF_trace r ks ds (k + 1) hist' rd' _ K hl' hks' hds' (by omega) hr
      have hH1 : H (k + 1) = Hk := hT.H0
      have hgw : ∀ g', wantG ops st.ρ o = some g' → g' = g := fun g' h => by rw [hg] at h; injection h with h; exact h.symm
      refine ⟨fun i => if i = k then vk else v i, fun i => if i = k then st.ρ else ρ i, fun i => if i = k then st.H else H i, ⟨by simp, by simp, fun i h1 h2 => ?_⟩, ⟨fun j h1 h2 h3 h4 p hp hn => ?_, fun j h1 h2 h3 h4 p hp hn => ?_, fun e j h1 h2 h3 h4 h5 h6 h7 h8 => ?_, fun j e h1 h2 h3 h4 h5 h6 h7 h8 => ?_⟩, ?_⟩
      · by_cases e : i = k
        · subst e
          refine ⟨g, by rw [ho, if_pos rfl]; exact hg, fun hgt => ?_, fun hgf => ?_, ?_⟩
          · simp only [if_true, ho, Nat.succ_ne_self, if_false, hT.H0]
            exact hst.1 hgt
          · simp only [if_true, Nat.succ_ne_self, if_false, hT.H0]
            exact hst.2 hgf
          · simp only [if_true, ho, Nat.succ_ne_self, if_false, hT.ρ0]
        · have := hT.step i (by omega) h2
          simp only [e, if_false, show ¬ i + 1 = k by omega]
          exact this
      · by_cases e : j = k
        · subst e
          simp only [if_true, ho] at h3 h4 ⊢
          have hg1 := hgw _ h4
          rw [ho] at hkd
          exact hcr hg1.symm (by rw [← hkd]; exact h3) p hp (by rw [← hBk]; exact hn)
        · simp only [e, if_false] at h4 ⊢
          exact hF.a j (by omega) h2 h3 h4 p (hih p hp) hn
      · by_cases e : j = k
        · subst e
          simp only [if_true, ho] at h3 h4
          have hg1 := hgw _ h4
          rw [ho] at hkd
          simp only [Nat.succ_ne_self, if_false, hH1]
          exact hce hg1.symm (by rw [← hkd]; exact h3) p hp (by rw [← hBk]; exact hn)
        · simp only [e, if_false] at h4
          simp only [show ¬ j + 1 = k by omega, if_false]
          exact hF.b j (by omega) h2 h3 h4 p (hird p hp) hn
      · have ej : ¬ j = k := by omega
        simp only [ej, if_false] at h7 ⊢
        by_cases e' : e = k
        · subst e'
          simp only [if_true, ho] at h4 h5 ⊢
          have hg1 := hgw _ h5
          rw [ho] at hkd
          exact hF.a j (by omega) h3 h6 h7 (e, st.H) (hpe hg1.symm (by rw [← hkd]; exact h4)) h8
        · simp only [e', if_false] at h5 ⊢
          exact hF.c e j (by omega) h2 h3 h4 h5 h6 h7 h8
      · have ee : ¬ e = k := by omega
        have ee1 : ¬ e + 1 = k := by omega
        simp only [ee, ee1, if_false] at h7 ⊢
        by_cases e' : j = k
        · subst e'
          simp only [if_true, ho] at h4 h5 ⊢
          have hg1 := hgw _ h5
          rw [ho] at hkd
          exact hF.b e (by omega) h3 h6 h7 ⟨j, o, st.ρ, vk⟩ (hpr hg1.symm (by rw [← hkd]; exact h4)) h8
        · simp only [e', if_false] at h5 ⊢
          exact hF.d j e (by omega) h2 h3 h4 h5 h6 h7 h8
      · have e : ¬ ops.size = k := by omega
        simpa only [e, if_false] using hK
    have mem1 : ∀ {α : Type} {x : α} {l : List α}, ∀ p ∈ l, p ∈ x :: l := fun p hp => List.mem_cons_of_mem _ hp
    cases kd with
    | pure =>
      rw [aopsF_pure] at h
      cases hg : wantG ops st.ρ o with
      | none => rw [hg] at h; exact h.elim
      | some g =>
        rw [hg] at h
        simp only [thenG_some] at h
        cases g with
        | true =>
          simp only [both_true] at h
          cases hs : astep C st o with
          | none => rw [hs] at h; exact h.elim
          | some q =>
            obtain ⟨ob, vk, Hk⟩ := q
            rw [hs] at h
            exact fin true vk Hk hist rd hg ⟨fun _ => ⟨ob, hs, h.1⟩, fun h => by cases h⟩ (fun _ h => by cases h) (fun _ h => by cases h) (fun _ h => h) (fun _ h => h) (fun _ h => by cases h) (fun _ h => by cases h) h.2
        | false =>
          simp only [both_false] at h
          exact fin false (.tup []) st.H hist rd hg ⟨fun h => (by cases h), fun _ => ⟨rfl, rfl⟩⟩ (fun h => by cases h) (fun h => by cases h) (fun _ h => h) (fun _ h => h) (fun h => by cases h) (fun h => by cases h) h
    | read =>
      rw [aopsF_read] at h
      cases hg : wantG ops st.ρ o with
      | none => rw [hg] at h; exact h.elim
      | some g =>
        rw [hg] at h
        simp only [thenG_some] at h
        cases g with
        | true =>
          simp only [both_true] at h
          cases hs : astep C st o with
          | none => rw [hs] at h; exact h.elim
          | some q =>
            obtain ⟨ob, vk, Hk⟩ := q
            rw [hs] at h
            exact fin true vk Hk hist _ hg ⟨fun _ => ⟨ob, hs, h.1⟩, fun h => by cases h⟩ (fun _ _ => chkR_all h.2.1) (fun _ h => by cases h) (fun _ h => h) mem1 (fun _ h => by cases h) (fun _ _ => by simp) h.2.2
        | false =>
          simp only [both_false] at h
          exact fin false (.tup []) st.H hist rd hg ⟨fun h => (by cases h), fun _ => ⟨rfl, rfl⟩⟩ (fun h => by cases h) (fun h => by cases h) (fun _ h => h) (fun _ h => h) (fun h => by cases h) (fun h => by cases h) h
    | eff =>
      rw [aopsF_eff] at h
      cases hg : wantG ops st.ρ o with
      | none => rw [hg] at h; exact h.elim
      | some g =>
        rw [hg] at h
        simp only [thenG_some] at h
        cases g with
        | true =>
          simp only [both_true] at h
          cases hs : astep C st o with
          | none => rw [hs] at h; exact h.elim
          | some q =>
            obtain ⟨ob, vk, Hk⟩ := q
            rw [hs] at h
            exact fin true vk Hk _ rd hg ⟨fun _ => ⟨ob, hs, h.1⟩, fun h => by cases h⟩ (fun _ h => by cases h) (fun _ _ => chkE_all h.2.1) mem1 (fun _ h => h) (fun _ _ => by simp) (fun _ h => by cases h) h.2.2
        | false =>
          simp only [both_false] at h
          exact fin false (.tup []) st.H hist rd hg ⟨fun h => (by cases h), fun _ => ⟨rfl, rfl⟩⟩ (fun h => by cases h) (fun h => by cases h) (fun _ h => h) (fun _ h => h) (fun h => by cases h) (fun h => by cases h) h
section
variable {ops : Array Oper} {B : Nat → List Nat} {st : ASt} {v : Nat → AV} {ρ : Nat → List (Nat × AV)} {H : Nat → List Blk}
theorem heap_quiet (T : Trace C ops 0 st v ρ H) {i : Nat} (hi : i < ops.size) (h : ¬ (kindOf C (opAt ops i) = .eff ∧ wantG ops (ρ i) (opAt ops i) = some true)) : H (i + 1) = H i := by
  obtain ⟨g, hg, hst, hsk, _⟩ := T.step i (Nat.zero_le _) hi
  cases g with
  | false => exact (hsk rfl).2
  | true => exact tr_const1 T hi (by
      unfold isEff
      cases hk : kindOf C (opAt ops i) with
      | eff => exact absurd ⟨hk, hg⟩ h
      | _ => rfl)
theorem heap_fwd (T : Trace C ops 0 st v ρ H) : ∀ d k, k + d ≤ ops.size → H k = H (k + d) ∨ ∃ e, k ≤ e ∧ e < k + d ∧ kindOf C (opAt ops e) = .eff ∧ wantG ops (ρ e) (opAt ops e) = some true ∧ H k = H e
  | 0, k, _ => .inl rfl
  | d + 1, k, hk => by
    by_cases h : kindOf C (opAt ops k) = .eff ∧ wantG ops (ρ k) (opAt ops k) = some true
    · exact .inr ⟨k, Nat.le_refl _, by omega, h.1, h.2, rfl⟩
    · have h1 := heap_quiet T (by omega) h
      rcases heap_fwd T d (k + 1) (by omega) with h2 | ⟨e, h2, h3, h4, h5, h6⟩
      · left; rw [← h1, h2]; congr 1; omega
      · exact .inr ⟨e, by omega, by omega, h4, h5, by rw [← h1, h6]⟩
theorem heap_bwd (T : Trace C ops 0 st v ρ H) : ∀ d i, i + d ≤ ops.size → H (i + d) = H i ∨ ∃ e, i ≤ e ∧ e < i + d ∧ kindOf C (opAt ops e) = .eff ∧ wantG ops (ρ e) (opAt ops e) = some true ∧ H (i + d) = H (e + 1)
  | 0, i, _ => .inl rfl
  | d + 1, i, hi => by
    by_cases h : kindOf C (opAt ops (i + d)) = .eff ∧ wantG ops (ρ (i + d)) (opAt ops (i + d)) = some true
    · exact .inr ⟨i + d, by omega, by omega, h.1, h.2, rfl⟩
    · have h1 := heap_quiet T (i := i + d) (by omega) h
      rw [show i + (d + 1) = i + d + 1 by omega, h1]
      rcases heap_bwd T d i (by omega) with h2 | ⟨e, h2, h3, h4, h5, h6⟩
      · exact .inl h2
      · exact .inr ⟨e, by omega, by omega, h4, h5, h6⟩
theorem stable_trF (T : Trace C ops 0 st v ρ H) (F : TrF C ops B 0 [] [] v ρ H) : Stable C ops B v ρ H := by
  intro i k hi hk hkd hg h1 h2
  have use : ∀ H', H k = H' → stableD C ⟨ρ i, H'⟩ (opAt ops i) (v i) → ∃ ob, astep C ⟨ρ i, H k⟩ (opAt ops i) = some (ob, v i, H k) ∧ ob := by
    intro H' e h
    subst e
    unfold stableD thenD at h
    split at h
    · rename_i ob v' H' hst
      obtain ⟨rfl, hob⟩ := h
      have := astep_read hkd hst
      subst this
      exact ⟨ob, hst, hob⟩
    · exact h.elim
  have own : stableD C ⟨ρ i, H i⟩ (opAt ops i) (v i) := by
    obtain ⟨g, hg', hst, _, _⟩ := T.step i (Nat.zero_le _) hi
    rw [hg] at hg'; injection hg' with hg'; subst hg'
    obtain ⟨ob, hst, hob⟩ := hst rfl
    unfold stableD thenD
    rw [hst]
    exact ⟨rfl, hob⟩
  rcases Nat.le_total k i with hki | hki
  · rcases heap_fwd T (i - k) k (by omega) with h | ⟨e, e1, e2, e3, e4, e5⟩
    · exact use (H i) (by rw [h]; congr 1; omega) own
    · refine use (H e) e5 (F.c e i (Nat.zero_le _) (by omega) hi e3 e4 hkd hg fun hm => ?_)
      have := h1 e (by omega) (by simp [isEff, e3]) hm
      omega
  · rcases heap_bwd T (k - i) i (by omega) with h | ⟨e, e1, e2, e3, e4, e5⟩
    · exact use (H i) (by rw [← h]; congr 1; omega) own
    · have hne : e ≠ i := fun h => by subst h; rw [hkd] at e3; cases e3
      refine use (H (e + 1)) (by rw [← e5]; congr 1; omega) (F.d i e (Nat.zero_le _) (by omega) (by omega) hkd hg e3 e4 fun hm => ?_)
      have := h2 e (by omega) (by simp [isEff, e3]) hm
      omega
end
def kinds (C : Ctx) (ops : Array Oper) : List Kd := ops.toList.map (kindOf C)
theorem AW_regionF (hS : SigOK C) (hM : C.P.follows .mixedOrders = true) {id : Nat} {l : List Oper} {st : ASt} {Q : Exit → ASt → Prop} (ks : List Kd) (ds : List (List Nat)) (hks : kinds C l.toArray = ks) (hds : befT l [] = ds) (hok : regOKF C l.toArray = true) (hdd : (l.all fun o => match o.dst with | some d => decide (d < N) | none => true) = true)
    (h : aopsF C l.toArray 0 l ks ds [] [] st (Q .normal)) : AW C N h0 (.region id l.toArray true) st Q := fun X w0 β0 H0 a w hl hr => by
  generalize hops : l.toArray = ops at *
  have hlo : ops.toList = l := by rw [← hops]
  have hd : ∀ o ∈ ops.toList, ∀ d, o.dst = some d → d < N := by
    intro o ho d hd
    rw [hlo] at ho
    have := List.all_eq_true.1 hdd o ho
    rw [hd] at this
    simpa using this
  have F := regOKF_facts hok
  rw [hlo, hds] at F
  obtain ⟨v, ρ, H, T, hF, hK⟩ := aopsF_trace (B := fun i => ds.getD i []) l ks ds 0 [] [] st (Q .normal) (fun j => by rw [← hlo]; simp) (fun j x hx hj => by
    rw [← hks] at hx
    unfold kinds at hx
    rw [List.getElem?_map, Option.map_eq_some_iff] at hx
    obtain ⟨o, ho, rfl⟩ := hx
    have : opAt ops (0 + j) = o := by
      unfold opAt
      rw [Nat.zero_add, Array.getD_eq_getD_getElem?]
      rw [Array.getElem?_toList] at ho
      rw [ho]; rfl
    rw [this]) (fun j x hx => by simp [List.getD_eq_getElem?_getD, hx]) (Nat.zero_le _) h
  refine wp_region_any hM ?_
  obtain ⟨β, R, S0, Tr, G, hN, hdef⟩ := hr
  have hk : Keeps (fun _ => False) w { w with drawn := w.drawn + 1 } := Keeps.drew _ w
  have hr' : Rel C N X w0 β0 H0 ⟨st.ρ, st.H⟩ a { w with drawn := w.drawn + 1 } :=
    ⟨β, R.quiet hk, S0.trans (StepR.quiet hk R.len), fun t => (Tr t).keep (StepR.quiet hk R.len), fun g => (G g).keep (fun b hb hn => hk.block b hb (fun h => h)) hk.size (fun b _ h => h), hN, hdef⟩
  refine wpAny_of_trace hS (fun i hi d hd' => ?_) T F (stable_trF T hF) (fun a' w' hr => ⟨_, hK, hr⟩) ops.size (Array.replicate ops.size false) st.ρ st.H a _ (by simp) ?_ (Nat.le_trans List.countP_le_length (by simp)) hr'
  · refine hd (opAt ops i) ?_ d hd'
    unfold opAt
    rw [Array.getD_eq_getD_getElem?, Array.getElem?_eq_getElem hi]
    exact Array.mem_toList_iff.2 (Array.getElem_mem hi)
  · have hno : ∀ i, ¬ ((Array.replicate ops.size false).getD i false = true) := by
      intro i
      rw [Array.getD_eq_getD_getElem?]
      rcases Nat.lt_or_ge i ops.size with h | h
      · simp [h]
      · simp [Array.getElem?_eq_none (show (Array.replicate ops.size false).size ≤ i by simpa using h)]
    refine ⟨fun i _ h => absurd h (hno i), fun i _ h => absurd h (hno i), fun t _ => by rw [T.ρ0], fun k hk hsep => ?_⟩
    rw [← T.H0]
    refine tr_sep T (Nat.zero_le _) hk fun e he1 he2 => ⟨fun h => by omega, fun h => absurd ((hsep e he1 he2).2 h) (hno e)⟩
end
end Go.Proofs.YtgjljfbohpnfcaaGreat
namespace Go.Proofs.YtgjljfbohpnfcaaGreat
open Go.RowKit
set_option linter.unusedVariables false
def ren1 (s : Nat → Nat) : AV → AV
  | .own l n => .own (s l) n
  | .osl l n z o k => .osl (s l) n z o k
  | .ptr l n z i f => .ptr (s l) n z i f
  | v => v
def ren2 (s : Nat → Nat) : AV → AV
  | .agg cs => .agg (cs.map (ren1 s))
  | v => ren1 s v
def ren (s : Nat → Nat) : AV → AV
  | .tup vs => .tup (vs.map (ren2 s))
  | v => ren2 s v
def renB (s : Nat → Nat) (b : Blk) : Blk := { b with rows := b.rows.map fun r => r.map (ren1 s) }
def okB (m : Nat) (b : Blk) : Bool := b.rows.all fun r => r.all fun c => c.clean1 m
section
variable {w : World} {X : Nat → Prop} {β β2 : List BI} {H N : List Blk} {s : Nat → Nat}
structure Sel (s : Nat → Nat) (β : List BI) (H : List Blk) (β2 : List BI) (N : List Blk) : Prop where
  len : β2.length = N.length
  b : ∀ (l : Nat), l < N.length → β2[l]? = β[s l]?
  h : ∀ (l : Nat) (b : Blk), N[l]? = some b → H[s l]? = some (renB s b)
  inj : ∀ (l l' : Nat), l < N.length → l' < N.length → s l = s l' → l = l'
  ok : ∀ b ∈ N, okB N.length b = true
theorem Sel.mut_ (S : Sel s β H β2 N) {b : Nat} (h : MutB β2 N b) : MutB β H b := by
  obtain ⟨l, c, blk, h1, h2, h3⟩ := h
  have hl := (List.getElem?_eq_some_iff.1 h2).1
  rw [S.b l hl] at h1
  exact ⟨s l, c, _, h1, S.h l blk h2, h3⟩
theorem Sel.mu (S : Sel s β H β2 N) {b : Nat} (h : Mu X β2 N b) : Mu X β H b := h.imp id S.mut_
variable {w' : World} {β1 : List BI}
def up (k : Nat) : Nat → Nat := fun l => l + k
end
def genNew (p : List AV → Option (Prop × AV × List Blk)) : List AV → List Blk → Option (Prop × AV × List Blk) := fun args H =>
  match p args with
  | some (ob, r, N) => if args.all AV.deepArg then some (ob, ren (up H.length) r, H ++ N.map (renB (up H.length))) else none
  | none => none
section
variable {C : Ctx}
def finN (C : Ctx) (rs : List ResultVar) (s : List Nat) (r : AV) (N : List Blk) (st : ASt) : Prop :=
  match aresults C st rs with
  | some (ob, r') => ob ∧ r' = ren (fun l => s.getD l 0) r ∧ s.map (fun i => st.H[i]?) = N.map (fun b => some (renB (fun l => s.getD l 0) b))
  | none => False
def postN (C : Ctx) (rs : List ResultVar) (s : List Nat) (r : AV) (N : List Blk) : Exit → ASt → Prop
  | .normal, st => finN C rs s r N st
  | .ret, st => finN C rs s r N st
  | _, _ => False
end
end Go.Proofs.YtgjljfbohpnfcaaGreat


namespace Go.Proofs.YtgjljfbohpnfcaaGreat
open Go.RowKit
set_option linter.unusedVariables false
section
variable {C : Ctx} {N h0 : Nat}
theorem AW_end {code : Code} {st : ASt} {Q : Exit → ASt → Prop} (h : AW C N h0 code st fun ex s => ∃ s', Weak C N h0 s s' ∧ Q ex s') : AW C N h0 code st Q := fun X w0 β0 H0 x w hl hr =>
  Code.wp_mono (fun ex a' w' ⟨st', ⟨s', hw, hq⟩, hr'⟩ => ⟨s', hq, hw X w0 β0 H0 a' w' hl hr'⟩) (h X w0 β0 H0 x w hl hr)
def wEnd (C : Ctx) (N h0 : Nat) (Q : Exit → ASt → Prop) (ex : Exit) (s : ASt) : Prop := ∃ s', Weak C N h0 s s' ∧ Q ex s'
@[congr] theorem lazy_wEnd {Q : Exit → ASt → Prop} {ex ex' : Exit} {st st' : ASt} (h : mark ex = ex') (h' : st = st') : wEnd C N h0 Q ex st = wEnd C N h0 Q ex' st' := by rw [mark_eq] at h; rw [h, h']
def nspec1 {α : Type} [Enc α] (pre : α → Prop) (res : α → AV) (bl : α → List Blk) : List AV → Option (Prop × AV × List Blk)
  | [a] => some (nrmV a = Enc.enc (Enc.dec a : α) ∧ pre (Enc.dec a), res (Enc.dec a), bl (Enc.dec a))
  | _ => none
def nspec2 {α β : Type} [Enc α] [Enc β] (pre : α → β → Prop) (res : α → β → AV) (bl : α → β → List Blk) : List AV → Option (Prop × AV × List Blk)
  | [a, b] => some (nrmV a = Enc.enc (Enc.dec a : α) ∧ nrmV b = Enc.enc (Enc.dec b : β) ∧ pre (Enc.dec a) (Enc.dec b), res (Enc.dec a) (Enc.dec b), bl (Enc.dec a) (Enc.dec b))
  | _ => none
@[simp] theorem genNew_nspec1 {α : Type} [Enc α] (pre : α → Prop) (res : α → AV) (bl : α → List Blk) (a : AV) (H : List Blk) :
    genNew (nspec1 pre res bl) [a] H = if a.deepArg then some (nrmV a = Enc.enc (Enc.dec a : α) ∧ pre (Enc.dec a), ren (up H.length) (res (Enc.dec a)), H ++ (bl (Enc.dec a)).map (renB (up H.length))) else none := by
  unfold genNew nspec1
  simp only [List.all_cons, List.all_nil, Bool.and_true]
@[simp] theorem genNew_nspec2 {α β : Type} [Enc α] [Enc β] (pre : α → β → Prop) (res : α → β → AV) (bl : α → β → List Blk) (a b : AV) (H : List Blk) :
    genNew (nspec2 pre res bl) [a, b] H = if a.deepArg && b.deepArg then some (nrmV a = Enc.enc (Enc.dec a : α) ∧ nrmV b = Enc.enc (Enc.dec b : β) ∧ pre (Enc.dec a) (Enc.dec b), ren (up H.length) (res (Enc.dec a) (Enc.dec b)), H ++ (bl (Enc.dec a) (Enc.dec b)).map (renB (up H.length))) else none := by
  unfold genNew nspec2
  simp only [List.all_cons, List.all_nil, Bool.and_true]
@[simp] theorem up_eq (k l : Nat) : up k l = l + k := rfl
@[simp] theorem ren_agg (s : Nat → Nat) (cs : List AV) : ren s (.agg cs) = .agg (cs.map (ren1 s)) := rfl
@[simp] theorem ren_own (s : Nat → Nat) (l n : Nat) : ren s (.own l n) = .own (s l) n := rfl
@[simp] theorem ren_ptr (s : Nat → Nat) (l n z i f : Nat) : ren s (.ptr l n z i f) = .ptr (s l) n z i f := rfl
@[simp] theorem ren_tup (s : Nat → Nat) (cs : List AV) : ren s (.tup cs) = .tup (cs.map (ren2 s)) := rfl
@[simp] theorem ren2_agg (s : Nat → Nat) (cs : List AV) : ren2 s (.agg cs) = .agg (cs.map (ren1 s)) := rfl
@[simp] theorem ren2_own (s : Nat → Nat) (l n : Nat) : ren2 s (.own l n) = .own (s l) n := rfl
@[simp] theorem ren2_int (s : Nat → Nat) (k : IntKind) (n : Int) : ren2 s (.int k n) = .int k n := rfl
@[simp] theorem ren2_bool (s : Nat → Nat) (n : Bool) : ren2 s (.bool n) = .bool n := rfl
@[simp] theorem ren2_slice (s : Nat → Nat) (z : Nat) (f : Bool) (r : List (List AV)) : ren2 s (.slice z f r) = .slice z f r := rfl
@[simp] theorem ren1_own (s : Nat → Nat) (l n : Nat) : ren1 s (.own l n) = .own (s l) n := rfl
@[simp] theorem ren1_ptr (s : Nat → Nat) (l n z i f : Nat) : ren1 s (.ptr l n z i f) = .ptr (s l) n z i f := rfl
@[simp] theorem ren1_int (s : Nat → Nat) (k : IntKind) (n : Int) : ren1 s (.int k n) = .int k n := rfl
@[simp] theorem ren1_bool (s : Nat → Nat) (n : Bool) : ren1 s (.bool n) = .bool n := rfl
@[simp] theorem ren1_str (s : Nat → Nat) (n : ByteArray) : ren1 s (.str n) = .str n := rfl
@[simp] theorem ren1_nilptr (s : Nat → Nat) : ren1 s .nilptr = .nilptr := rfl
@[simp] theorem ren1_slice (s : Nat → Nat) (z : Nat) (f : Bool) (r : List (List AV)) : ren1 s (.slice z f r) = .slice z f r := rfl
@[simp] theorem renB_mk (s : Nat → Nat) (e : TypeId) (sz : Nat) (rows : List (List AV)) (mu deep : Bool) : renB s ⟨e, sz, rows, mu, deep⟩ = ⟨e, sz, rows.map fun r => r.map (ren1 s), mu, deep⟩ := rfl
theorem ren_rows {α : Type} [Enc α] (s : Nat → Nat) (h : ∀ x : α, (Enc.cells x).map (ren1 s) = Enc.cells x) (l : List α) : (encRows l).map (fun r => r.map (ren1 s)) = encRows l := by
  unfold encRows
  simp only [List.map_map, Function.comp_def, h]
@[simp] theorem ren_rows_int (s : Nat → Nat) (l : List Int) : (encRows l).map (fun r => r.map (ren1 s)) = encRows l := ren_rows s (fun _ => rfl) l
@[simp] theorem ren_rows_bool (s : Nat → Nat) (l : List Bool) : (encRows l).map (fun r => r.map (ren1 s)) = encRows l := ren_rows s (fun _ => rfl) l
@[simp] theorem ren_rows_list {α : Type} [Enc α] (s : Nat → Nat) (l : List (List α)) : (encRows l).map (fun r => r.map (ren1 s)) = encRows l := ren_rows s (fun _ => rfl) l
theorem ok_rows {α : Type} [Enc α] (m : Nat) (h : ∀ x : α, (Enc.cells x).all (AV.clean1 m) = true) (l : List α) : ((encRows l).all fun r => r.all fun c => c.clean1 m) = true := by
  unfold encRows
  rw [List.all_map, List.all_eq_true]
  exact fun x _ => h x
@[simp] theorem okB_int (m : Nat) (e : TypeId) (sz : Nat) (l : List Int) (mu deep : Bool) : okB m ⟨e, sz, encRows l, mu, deep⟩ = true := ok_rows m (fun _ => rfl) l
@[simp] theorem okB_bool (m : Nat) (e : TypeId) (sz : Nat) (l : List Bool) (mu deep : Bool) : okB m ⟨e, sz, encRows l, mu, deep⟩ = true := ok_rows m (fun _ => rfl) l
@[simp] theorem okB_list {α : Type} [Enc α] (m : Nat) (e : TypeId) (sz : Nat) (l : List (List α)) (mu deep : Bool) : okB m ⟨e, sz, encRows l, mu, deep⟩ = true := ok_rows m (fun _ => rfl) l
def finNK (H : List Blk) (s : List Nat) (r : AV) (N' : List Blk) (o : Option (Prop × AV)) : Prop := match o with | some (ob, r') => ob ∧ r' = ren (fun l => s.getD l 0) r ∧ s.map (fun i => H[i]?) = N'.map (fun b => some (renB (fun l => s.getD l 0) b)) | none => False
@[simp] theorem finNK_some (H : List Blk) (s : List Nat) (r r' : AV) (N' : List Blk) (ob : Prop) : finNK H s r N' (some (ob, r')) = (ob ∧ r' = ren (fun l => s.getD l 0) r ∧ s.map (fun i => H[i]?) = N'.map (fun b => some (renB (fun l => s.getD l 0) b))) := rfl
@[simp] theorem postN_normal (rs : List ResultVar) (s : List Nat) (r : AV) (N' : List Blk) (ρ : List (Nat × AV)) (H : List Blk) : postN C rs s r N' .normal ⟨ρ, H⟩ = finNK H s r N' (aresults C ⟨ρ, H⟩ rs) := rfl
@[simp] theorem postN_ret (rs : List ResultVar) (s : List Nat) (r : AV) (N' : List Blk) (ρ : List (Nat × AV)) (H : List Blk) : postN C rs s r N' .ret ⟨ρ, H⟩ = finNK H s r N' (aresults C ⟨ρ, H⟩ rs) := rfl
end
section
variable {C : Ctx} (hS : SigOK C) (hM : C.P.follows .mixedOrders = true) {f : FuncId} {fn : Func} {body : Code} {rs : List ResultVar} {n : Nat} (hf : C.P.funcs[f]? = some fn) (hb : fn.body = some body) (hrs : fn.results.toList = rs) (hn : fn.ntmps = n)
include hS hM hf hb hrs hn
end
theorem entryGen {P : Program} {G : Nat → AV} {f : FuncId} {fn : Func} {g : List AV → List Blk → Option (Prop × AV × List Blk)} (h : GenOK P G f g) (hf : P.funcs[f]? = some fn) (hb : fn.body.isSome = true) (hn : fn.name ≠ "runtime.NumGoroutine") : EntryOK P G f (.gen g) := ⟨h, fn, hf, hn, hb⟩
end Go.Proofs.YtgjljfbohpnfcaaGreat
namespace Go.Proofs.YtgjljfbohpnfcaaGreat
open Go.RowKit
set_option linter.unusedVariables false
def isIn : List Nat → Nat → Bool
  | [], _ => false
  | a :: r, i => a == i || isIn r i
@[simp] theorem isIn_nil (i : Nat) : isIn [] i = false := rfl
@[simp] theorem isIn_cons (a i : Nat) (r : List Nat) : isIn (a :: r) i = (a == i || isIn r i) := rfl
def codeOKH (C : Ctx) (hd : List Nat) (N : Nat) : Code → Bool
  | .region id ops draw => isIn hd id || ((ops.toList.all fun o => match o.dst with | some d => decide (d < N) | none => true) && (!draw || regOK C ops))
  | .seq a b => codeOKH C hd N a && codeOKH C hd N b
  | .cond _ a b => codeOKH C hd N a && codeOKH C hd N b
  | .block _ b => codeOKH C hd N b
  | .scope b => codeOKH C hd N b
  | _ => true
def avcH (C : Ctx) (hd : List Nat) (N h0 : Nat) : Code → ASt → (Exit → ASt → Prop) → Prop
  | .skip, st, Q => Q .normal st
  | .region id ops d, st, Q => if isIn hd id = true then AW C N h0 (.region id ops d) st Q else aops C ops ops.toList st (Q .normal)
  | .seq a b, st, Q => avcH C hd N h0 a st (goOn (fun st' => avcH C hd N h0 b st' Q) Q)
  | .cond c a b, st, Q => onBool (aev C st.ρ 0 c) fun x => both x (avcH C hd N h0 a st Q) (avcH C hd N h0 b st Q)
  | .block id b, st, Q => avcH C hd N h0 b st (outOf id Q)
  | .exit id, st, Q => Q (.exit id) st
  | .ret, st, Q => Q .ret st
  | .label _, st, Q => Q .normal st
  | .scope b, st, Q => avcH C hd N h0 b st (inScope Q)
  | .loop b, st, Q => AW C N h0 (.loop b) st Q
  | _, _, _ => False
section
variable {C : Ctx} {hd : List Nat} {N h0 : Nat}
@[congr] theorem avcH_congr {code : Code} {st st' : ASt} {Q : Exit → ASt → Prop} (h : mark st = st') : avcH C hd N h0 code st Q = avcH C hd N h0 code st' Q := by rw [mark_eq] at h; rw [h]
@[simp] theorem avcH_skip (st : ASt) (Q : Exit → ASt → Prop) : avcH C hd N h0 .skip st Q = Q .normal st := rfl
@[simp] theorem avcH_region (id : Nat) (l : List Oper) (d : Bool) (st : ASt) (Q : Exit → ASt → Prop) : avcH C hd N h0 (.region id l.toArray d) st Q = if isIn hd id = true then AW C N h0 (.region id l.toArray d) st Q else aops C l.toArray l st (Q .normal) := rfl
@[simp] theorem avcH_seq (a b : Code) (st : ASt) (Q : Exit → ASt → Prop) : avcH C hd N h0 (.seq a b) st Q = avcH C hd N h0 a st (goOn (fun st' => avcH C hd N h0 b st' Q) Q) := rfl
@[simp] theorem avcH_cond (c : Operand) (a b : Code) (st : ASt) (Q : Exit → ASt → Prop) : avcH C hd N h0 (.cond c a b) st Q = onBool (aev C st.ρ 0 c) fun x => both x (avcH C hd N h0 a st Q) (avcH C hd N h0 b st Q) := rfl
@[simp] theorem avcH_block (id : Nat) (b : Code) (st : ASt) (Q : Exit → ASt → Prop) : avcH C hd N h0 (.block id b) st Q = avcH C hd N h0 b st (outOf id Q) := rfl
@[simp] theorem avcH_exit (id : Nat) (st : ASt) (Q : Exit → ASt → Prop) : avcH C hd N h0 (.exit id) st Q = Q (.exit id) st := rfl
@[simp] theorem avcH_ret (st : ASt) (Q : Exit → ASt → Prop) : avcH C hd N h0 .ret st Q = Q .ret st := rfl
@[simp] theorem avcH_label (l : Nat) (st : ASt) (Q : Exit → ASt → Prop) : avcH C hd N h0 (.label l) st Q = Q .normal st := rfl
@[simp] theorem avcH_scope (b : Code) (st : ASt) (Q : Exit → ASt → Prop) : avcH C hd N h0 (.scope b) st Q = avcH C hd N h0 b st (inScope Q) := rfl
@[simp] theorem avcH_loop (b : Code) (st : ASt) (Q : Exit → ASt → Prop) : avcH C hd N h0 (.loop b) st Q = AW C N h0 (.loop b) st Q := rfl
theorem AW_condV {c : Operand} {x y : Code} {st : ASt} {Q : Exit → ASt → Prop} (h : onBool (aev C st.ρ 0 c) fun b => both b (AW C N h0 x st Q) (AW C N h0 y st Q)) : AW C N h0 (.cond c x y) st Q := fun X w0 β0 H0 a w hl hr => by
  have hr0 := hr
  obtain ⟨β, R, S0, Tr, G, hN, hdef⟩ := hr0
  have hE := aev_sound Tr G 0 c
  unfold onBool at h
  split at h
  · rename_i b hb
    rw [hb] at hE
    exact wp_cond_split (rep_bool hE) (fun ht => h.1 ht X w0 β0 H0 a w hl hr) (fun hf => h.2 hf X w0 β0 H0 a w hl hr)
  · rename_i hb
    rw [hb] at hE
    obtain ⟨b, hb'⟩ := rep_anyb hE
    exact wp_cond_split hb' (fun _ => h.1.1 rfl X w0 β0 H0 a w hl hr) (fun _ => h.2.2 rfl X w0 β0 H0 a w hl hr)
  · exact h.elim
theorem AW_scope {b : Code} {st : ASt} {Q : Exit → ASt → Prop} (h : AW C N h0 b st (inScope Q)) : AW C N h0 (.scope b) st Q := fun X w0 β0 H0 a w hl hr => by
  refine wp_scope_straight (Code.wp_mono (fun ex a' w' ⟨st', hq, hr'⟩ => ?_) (h X w0 β0 H0 a w hl hr))
  cases ex with
  | goto l => exact hq
  | _ => exact ⟨st', hq, hr'⟩
theorem avcH_sound (hS : SigOK C) (hM : C.P.follows .mixedOrders = true) : ∀ (code : Code) {st : ASt} {Q : Exit → ASt → Prop}, codeOKH C hd N code = true → avcH C hd N h0 code st Q → AW C N h0 code st Q
  | .skip, st, Q, _, h => avc_sound hS hM .skip rfl h
  | .region id ops draw, st, Q, hok, h => by
    unfold avcH at h
    split at h
    · exact h
    · rename_i hi
      unfold codeOKH at hok
      rw [Bool.or_eq_true] at hok
      exact avc_sound hS hM (.region id ops draw) (hok.resolve_left hi) h
  | .seq x y, st, Q, hok, h => by
    simp only [codeOKH, Bool.and_eq_true] at hok
    refine AW_seq (AW.mono (avcH_sound hS hM x hok.1 h) fun ex st' hq => ?_)
    cases ex with
    | normal => exact avcH_sound hS hM y hok.2 hq
    | _ => exact hq
  | .cond c x y, st, Q, hok, h => by
    simp only [codeOKH, Bool.and_eq_true] at hok
    rw [avcH_cond] at h
    refine AW_condV ?_
    have key : ∀ v : AV, (onBool v fun b => both b (avcH C hd N h0 x st Q) (avcH C hd N h0 y st Q)) → onBool v fun b => both b (AW C N h0 x st Q) (AW C N h0 y st Q) := by
      intro v hv
      unfold onBool at hv ⊢
      split at hv
      · exact ⟨fun hb => avcH_sound hS hM x hok.1 (hv.1 hb), fun hb => avcH_sound hS hM y hok.2 (hv.2 hb)⟩
      · exact ⟨⟨fun hb => avcH_sound hS hM x hok.1 (hv.1.1 hb), fun hb => (by cases hb)⟩, ⟨fun hb => (by cases hb), fun hb => avcH_sound hS hM y hok.2 (hv.2.2 hb)⟩⟩
      · exact hv
    exact key _ h
  | .block id b, st, Q, hok, h => AW_block (avcH_sound hS hM b (by simpa only [codeOKH] using hok) h)
  | .exit id, st, Q, _, h => avc_sound hS hM (.exit id) rfl h
  | .ret, st, Q, _, h => avc_sound hS hM .ret rfl h
  | .label l, st, Q, _, h => avc_sound hS hM (.label l) rfl h
  | .scope b, st, Q, hok, h => AW_scope (avcH_sound hS hM b (by simpa only [codeOKH] using hok) h)
  | .loop b, st, Q, _, h => h
  | .goto _, _, _, _, h => h.elim
  | .rangeFunc .., _, _, _, h => h.elim
  | .refuse _, _, _, _, h => h.elim
theorem loop_ruleH {α : Type} (hS : SigOK C) (hM : C.P.follows .mixedOrders = true) (hd : List Nat) {body : Code} {st : ASt} {Q : Exit → ASt → Prop} (Sf : α → ASt) (pre : α → Prop) (m : α → Nat) (hok : codeOKH C hd N body = true)
    (start : ∃ x, pre x ∧ Weak C N h0 st (Sf x)) (step : ∀ x, pre x → avcH C hd N h0 body (Sf x) (round Sf pre (fun x' => m x' < m x) N h0 C Q)) : AW C N h0 (.loop body) st Q :=
  AW_loopW Sf pre m start fun x hx => avcH_sound hS hM body hok (step x hx)
end
section
variable {C : Ctx} (hS : SigOK C) (hM : C.P.follows .mixedOrders = true) {f : FuncId} {fn : Func} {body : Code} {rs : List ResultVar} {n : Nat} (hf : C.P.funcs[f]? = some fn) (hb : fn.body = some body) (hrs : fn.results.toList = rs) (hn : fn.ntmps = n) (hd : List Nat)
include hS hM hf hb hrs hn
theorem pureH1 {α : Type} [Enc α] (hok : codeOKH C hd n body = true) (hnn : 1 ≤ n) {pre : α → Prop} {res : α → AV} (h : ∀ a, pre a → avcH C hd n 0 body ⟨[(0, Enc.enc a)], []⟩ (postP C rs (res a))) : PureOK C.P C.G f (spec1 pre res) :=
  pure_of_AW hf hb hrs hn fun avs ob r' hp hob => by
    unfold spec1 at hp
    split at hp
    · injection hp with hp; injection hp with e1 e2; subst e1 e2
      have := h _ hob.2
      rw [← hob.1] at this
      exact ⟨hnn, avcH_sound hS hM body hok this⟩
    · cases hp
theorem pureH2 {α β : Type} [Enc α] [Enc β] (hok : codeOKH C hd n body = true) (hnn : 2 ≤ n) {pre : α → β → Prop} {res : α → β → AV} (h : ∀ a b, pre a b → avcH C hd n 0 body ⟨[(0, Enc.enc a), (1, Enc.enc b)], []⟩ (postP C rs (res a b))) : PureOK C.P C.G f (spec2 pre res) :=
  pure_of_AW hf hb hrs hn fun avs ob r' hp hob => by
    unfold spec2 at hp
    split at hp
    · injection hp with hp; injection hp with e1 e2; subst e1 e2
      have := h _ _ hob.2.2
      rw [← hob.1, ← hob.2.1] at this
      exact ⟨hnn, avcH_sound hS hM body hok this⟩
    · cases hp
end
end Go.Proofs.YtgjljfbohpnfcaaGreat


namespace Go.Proofs.YtgjljfbohpnfcaaGreat
open Go.RowKit
set_option linter.unusedVariables false
section
variable {C : Ctx} {N h0 : Nat}
def AV.clean2 (m : Nat) : AV → Bool
  | .fn _ cs => cs.all (AV.clean1 m)
  | v => v.clean1 m
def AV.cleanF (m : Nat) : AV → Bool
  | .agg cs => cs.all (AV.clean2 m)
  | .tup cs => cs.all (AV.clean2 m)
  | v => v.clean2 m
end
theorem gen_of_avcH {C : Ctx} (hS : SigOK C) (hM : C.P.follows .mixedOrders = true) (hd : List Nat) {f : FuncId} {fn : Func} {body : Code} {rs : List ResultVar} {n : Nat} (hf : C.P.funcs[f]? = some fn) (hb : fn.body = some body) (hrs : fn.results.toList = rs) (hn : fn.ntmps = n) (hok : codeOKH C hd n body = true) {g : List AV → List Blk → Option (Prop × AV × List Blk)}
    (h : ∀ avs H ob r H', g avs H = some (ob, r, H') → ob → avs.length ≤ n ∧ avcH C hd n H.length body ⟨argsρ 0 avs, H⟩ (wEnd C n H.length fun ex st' => (ex = .normal ∨ ex = .ret) ∧ ∃ ob', aresults C st' rs = some (ob', r) ∧ ob' ∧ st'.H = H')) : GenOK C.P C.G f g := by
  subst hrs hn
  intro w X β H args avs ob r H' R hG hsz harg hp hob
  obtain ⟨hlen, hav⟩ := h avs H ob r H' hp hob
  refine calls_of_wp hf hb ?_
  have hr : Rel C fn.ntmps X w β H ⟨argsρ 0 avs, H⟩ { tmps := args ++ Array.replicate (fn.ntmps - args.size) undef, defers := [] } w :=
    ⟨β, R, StepR.refl _ _ _ R.len, trel_args hsz harg, hG, by simp; omega, rfl⟩
  refine Code.wp_mono (fun ex a' w' ⟨st', hq, hr'⟩ => ?_) (AW_end (avcH_sound hS hM body hok hav) X w β H _ w rfl hr)
  obtain ⟨hex, ob', hres, hob', hH⟩ := hq
  obtain ⟨β', R', S', T', G', hN', hdef'⟩ := hr'
  obtain ⟨u, hu, hrep⟩ := aresults_sound R' T' hres hob'
  subst hH
  have hpost : bodyPost C.P fn (fun e w' => ∃ v β', e = .returned v ∧ HRel w' X β' st'.H ∧ StepR w β H w' β' st'.H ∧ Rep w' (Mu X β' st'.H) β' st'.H v r) .normal a' w' :=
    ⟨hdef', u, hu, u, β', rfl, R', S', hrep⟩
  rcases hex with rfl | rfl
  · exact hpost
  · exact hpost
end Go.Proofs.YtgjljfbohpnfcaaGreat
namespace Go.Proofs.YtgjljfbohpnfcaaGreat
open Go.RowKit
set_option linter.unusedVariables false
section
variable {C : Ctx} {N h0 : Nat}
def finX (C : Ctx) (rs : List ResultVar) (r : AV) (st : ASt) : Prop :=
  match aresults C st rs with
  | some (ob, r') => ob ∧ view st.H 6 r' = r
  | none => False
def postX (C : Ctx) (rs : List ResultVar) (r : AV) : Exit → ASt → Prop
  | .normal, st => finX C rs r st
  | .ret, st => finX C rs r st
  | _, _ => False
def finXK (H : List Blk) (r : AV) (o : Option (Prop × AV)) : Prop := match o with | some (ob, r') => ob ∧ view H 6 r' = r | none => False
@[simp] theorem finXK_some (H : List Blk) (r r' : AV) (ob : Prop) : finXK H r (some (ob, r')) = (ob ∧ view H 6 r' = r) := rfl
@[simp] theorem postX_normal (rs : List ResultVar) (r : AV) (ρ : List (Nat × AV)) (H : List Blk) : postX C rs r .normal ⟨ρ, H⟩ = finXK H r (aresults C ⟨ρ, H⟩ rs) := rfl
@[simp] theorem postX_ret (rs : List ResultVar) (r : AV) (ρ : List (Nat × AV)) (H : List Blk) : postX C rs r .ret ⟨ρ, H⟩ = finXK H r (aresults C ⟨ρ, H⟩ rs) := rfl
@[congr] theorem lazy_postX {rs : List ResultVar} {r : AV} {ex ex' : Exit} {st st' : ASt} (h : mark ex = ex') (h' : st = st') : postX C rs r ex st = postX C rs r ex' st' := by rw [mark_eq] at h; rw [h, h']
theorem pureX_of_AW {f : FuncId} {fn : Func} {body : Code} {rs : List ResultVar} {n : Nat} (hf : C.P.funcs[f]? = some fn) (hb : fn.body = some body) (hrs : fn.results.toList = rs) (hn : fn.ntmps = n) {p : List AV → Option (Prop × AV)}
    (h : ∀ avs ob r, p avs = some (ob, r) → ob → avs.length ≤ n ∧ AW C n 0 body ⟨argsρ 0 (avs.map nrmV), []⟩ (postX C rs r)) : PureOK C.P C.G f p := by
  subst hrs hn
  intro w X args avs0 ob r hX hG hsz0 harg0 hp hob
  obtain ⟨hlen0, hav0⟩ := h avs0 ob r hp hob
  generalize havs : avs0.map nrmV = avs at hav0
  have hlen : avs.length ≤ fn.ntmps := by rw [← havs]; simpa using hlen0
  have hsz : args.size = avs.length := by rw [← havs]; simpa using hsz0
  have harg : ∀ (j : Nat) (u : AV), avs[j]? = some u → ∃ v, args[j]? = some v ∧ RepD w X v u := fun j u hu => by
    rw [← havs, List.getElem?_map] at hu
    simp only [Option.map_eq_some_iff] at hu
    obtain ⟨av, hav, rfl⟩ := hu
    obtain ⟨v, h1, h2⟩ := harg0 j av hav
    exact ⟨v, h1, repD_nrmV h2⟩
  refine calls_of_wp hf hb ?_
  have hMu : ∀ b, Mu X [] [] b → X b := by
    rintro b (h | ⟨l, c, blk, h1, _, _⟩)
    · exact h
    · simp at h1
  have R : HRel w X [] [] := ⟨rfl, fun l bi b h1 _ => by simp at h1, fun l b c h1 => by simp at h1, fun l l' b c c' h1 => by simp at h1, hX⟩
  have hr : Rel C fn.ntmps X w [] [] ⟨argsρ 0 avs, []⟩ { tmps := args ++ Array.replicate (fn.ntmps - args.size) undef, defers := [] } w :=
    ⟨[], R, StepR.refl _ _ _ rfl, trel_args hsz (fun j u hj => let ⟨v, h1, h2⟩ := harg j u hj; ⟨v, h1, .deep (h2.mono fun b _ hb => hMu b hb)⟩), fun g => (hG g).mono fun b _ hb => hMu b hb, by simp; omega, rfl⟩
  refine Code.wp_mono (fun ex a' w' ⟨st', hq, hr'⟩ => ?_) (hav0 X w [] [] _ w rfl hr)
  have fin : finX C fn.results.toList r st' → bodyPost C.P fn (fun e w' => ∃ v, e = .returned v ∧ Keeps (fun _ => False) w w' ∧ RepD w' X v r) .normal a' w' := by
    unfold finX
    split
    · rename_i ob' r' hres
      rintro ⟨hob', hview⟩
      obtain ⟨β', R', S', T', G', hN', hdef'⟩ := hr'
      obtain ⟨u, hu, hrep⟩ := aresults_sound R' T' hres hob'
      have hv := (view_sound R' (fun _ => True) 6 hrep (fun _ _ => trivial)).mono (X' := X) fun b _ hb => .inl hb
      rw [hview] at hv
      exact ⟨hdef', u, hu, u, rfl, S'.keeps.weaken (fun b _ h => by obtain ⟨l, c, blk, h1, _, _⟩ := h; simp at h1), hv⟩
    · intro h; exact h.elim
  cases ex with
  | normal => exact fin hq
  | ret => exact fin hq
  | _ => exact hq.elim
theorem pureX1 (hS : SigOK C) (hM : C.P.follows .mixedOrders = true) {f : FuncId} {fn : Func} {body : Code} {rs : List ResultVar} {n : Nat} (hf : C.P.funcs[f]? = some fn) (hb : fn.body = some body) (hrs : fn.results.toList = rs) (hn : fn.ntmps = n) {α : Type} [Enc α] (hok : codeOK C n body = true) (hnn : 1 ≤ n) {pre : α → Prop} {res : α → AV}
    (h : ∀ a, pre a → avc C n 0 body ⟨[(0, Enc.enc a)], []⟩ (postX C rs (res a))) : PureOK C.P C.G f (spec1 pre res) :=
  pureX_of_AW hf hb hrs hn fun avs ob r' hp hob => by
    unfold spec1 at hp
    split at hp
    · injection hp with hp; injection hp with e1 e2; subst e1 e2
      have := h _ hob.2
      rw [← hob.1] at this
      exact ⟨hnn, avc_sound hS hM body hok this⟩
    · cases hp
end
end Go.Proofs.YtgjljfbohpnfcaaGreat
namespace Go.Proofs.YtgjljfbohpnfcaaGreat
open Go.RowKit
set_option linter.unusedVariables false
section
variable {α : Type} (l : List α) (a b c d : α) (r : List α)
end
end Go.Proofs.YtgjljfbohpnfcaaGreat


namespace Go.Proofs.YtgjljfbohpnfcaaGreat
open Go.RowKit
theorem weak_eq {C : Ctx} {N h0 : Nat} {ρ ρ' : List (Nat × AV)} {H H' : List Blk} (h : ∀ p ∈ ρ', getA ρ p.1 = p.2) (hH : H = H') : Weak C N h0 ⟨ρ, H⟩ ⟨ρ', H'⟩ := by
  subst hH
  exact weak_slots h
section
variable {C : Ctx} {N h0 : Nat}
end
section
variable {C : Ctx} (hS : SigOK C) (hM : C.P.follows .mixedOrders = true) {f : FuncId} {fn : Func} {body : Code} {rs : List ResultVar} {n : Nat} (hf : C.P.funcs[f]? = some fn) (hb : fn.body = some body) (hrs : fn.results.toList = rs) (hn : fn.ntmps = n) (hd : List Nat)
include hS hM hf hb hrs hn
end
end Go.Proofs.YtgjljfbohpnfcaaGreat
namespace Go.Proofs.YtgjljfbohpnfcaaGreat
open Go.RowKit
def abuildOwn (C : Ctx) (ρ : List (Nat × AV)) (H : List Blk) (t : TypeId) (parts : List (Nat × Operand)) : Option (Prop × AV × List Blk) :=
  match elT C.P t, parts with
  | some e, [(0, x)] =>
    match aggT C.P e, zT C.P e with
    | some false, some _ => if (aev C ρ e x).isCell = true ∧ szT C.P e = 1 then some (True, .own H.length 1, H ++ [⟨e, 1, [[aev C ρ e x]], true, (aev C ρ e x).isDeep⟩]) else none
    | _, _ => none
  | _, _ => none
def acopyO (C : Ctx) (H : List Blk) (t : TypeId) (d s : AV) : Option (Prop × AV × List Blk) :=
  match elT C.P t, d, s with
  | some e, .own l n, .slice sz _ ys =>
    match H[l]? with
    | some b => if b.mu = true ∧ b.sz = szT C.P e ∧ sz = szT C.P e then some (b.rows.length = n ∧ 0 < ys.length ∧ ys.length ≤ n, .int .i64 ys.length, H.set l { b with rows := ys ++ b.rows.drop ys.length, deep := b.deep && true }) else none
    | none => none
  | _, _, _ => none
def astepO (C : Ctx) (st : ASt) (o : Oper) : Option (Prop × AV × List Blk) :=
  match o.op with
  | .buildSlice t 1 parts => abuildOwn C st.ρ st.H t parts.toList
  | .call c => match c.callee, c.args.toList, c.argTypes.toList with
    | .builtin .copy, [d, s], [t, t'] => if t = t' then acopyO C st.H t (aev C st.ρ t d) (aev C st.ρ t' s) else none
    | _, _, _ => astep C st o
  | _ => astep C st o
def aopsO (C : Ctx) (ops : Array Oper) : List Oper → ASt → (ASt → Prop) → Prop
  | [], st, K => K st
  | o :: r, st, K =>
    match wantG ops st.ρ o with
    | none => False
    | some g =>
      (g = true → match astepO C st o with
        | some (ob, v, H') => ob ∧ aopsO C ops r ⟨putA st.ρ o.dst v, H'⟩ K
        | none => False) ∧
      (g = false → aopsO C ops r ⟨putA st.ρ o.dst (.tup []), st.H⟩ K)
section
variable {C : Ctx} {N h0 : Nat} {X : Nat → Prop} {β : List BI} {H : List Blk} {w w0 : World} {β0 : List BI} {H0 : List Blk}
@[simp] theorem aopsO_nil (ops : Array Oper) (st : ASt) (K : ASt → Prop) : aopsO C ops [] st K = K st := rfl
@[simp] theorem aopsO_cons (ops : Array Oper) (o : Oper) (r : List Oper) (st : ASt) (K : ASt → Prop) : aopsO C ops (o :: r) st K =
    thenG (wantG ops st.ρ o) fun g => both g (thenD (astepO C st o) fun ob v H' => ob ∧ aopsO C ops r ⟨putA st.ρ o.dst v, H'⟩ K) (aopsO C ops r ⟨putA st.ρ o.dst (.tup []), st.H⟩ K) := by
  rw [aopsO]
  cases wantG ops st.ρ o with
  | none => rfl
  | some g =>
    simp only [thenG_some, both]
    cases astepO C st o with
    | none => rfl
    | some x => rfl
end
@[congr] theorem aopsO_congr {C : Ctx} {ops : Array Oper} {l : List Oper} {st st' : ASt} {K : ASt → Prop} (h : mark st = st') : aopsO C ops l st K = aopsO C ops l st' K := by rw [mark_eq] at h; rw [h]
@[congr] theorem lazy_astepO {C : Ctx} {st st' : ASt} {o : Oper} (h : mark st = st') : astepO C st o = astepO C st' o := by rw [mark_eq] at h; rw [h]
section
variable {C : Ctx} (ρ : List (Nat × AV)) (H : List Blk) (d : Option Tmp) (ty : TypeId) (p : String) (af : Array Edge) (g : Option (Nat × Bool))
@[simp] theorem astepO_build (t : TypeId) (ps : Array (Nat × Operand)) : astepO C ⟨ρ, H⟩ ⟨d, .buildSlice t 1 ps, ty, p, af, g⟩ = abuildOwn C ρ H t ps.toList := rfl
@[simp] theorem astepO_copy (x y : Operand) (t t' : TypeId) : astepO C ⟨ρ, H⟩ ⟨d, .call ⟨.builtin .copy, #[x, y], #[t, t']⟩, ty, p, af, g⟩ = if t = t' then acopyO C H t (aev C ρ t x) (aev C ρ t' y) else none := rfl
@[simp] theorem astepO_append (x y : Operand) (t t' : TypeId) : astepO C ⟨ρ, H⟩ ⟨d, .call ⟨.builtin .append, #[x, y], #[t, t']⟩, ty, p, af, g⟩ = astep C ⟨ρ, H⟩ ⟨d, .call ⟨.builtin .append, #[x, y], #[t, t']⟩, ty, p, af, g⟩ := rfl
@[simp] theorem astepO_move (x : Operand) : astepO C ⟨ρ, H⟩ ⟨d, .move x, ty, p, af, g⟩ = astep C ⟨ρ, H⟩ ⟨d, .move x, ty, p, af, g⟩ := rfl
@[simp] theorem astepO_assign (x : Operand) : astepO C ⟨ρ, H⟩ ⟨d, .assign x, ty, p, af, g⟩ = astep C ⟨ρ, H⟩ ⟨d, .assign x, ty, p, af, g⟩ := rfl
@[simp] theorem astepO_nilCheck (x : Operand) : astepO C ⟨ρ, H⟩ ⟨d, .nilCheck x, ty, p, af, g⟩ = astep C ⟨ρ, H⟩ ⟨d, .nilCheck x, ty, p, af, g⟩ := rfl
@[simp] theorem astepO_fieldAddr (t : TypeId) (x : Operand) (k : Nat) : astepO C ⟨ρ, H⟩ ⟨d, .fieldAddr t x k, ty, p, af, g⟩ = astep C ⟨ρ, H⟩ ⟨d, .fieldAddr t x k, ty, p, af, g⟩ := rfl
@[simp] theorem astepO_load (t : TypeId) (x : Operand) : astepO C ⟨ρ, H⟩ ⟨d, .load t x, ty, p, af, g⟩ = astep C ⟨ρ, H⟩ ⟨d, .load t x, ty, p, af, g⟩ := rfl
@[simp] theorem astepO_store (t : TypeId) (x y : Operand) : astepO C ⟨ρ, H⟩ ⟨d, .store t x y, ty, p, af, g⟩ = astep C ⟨ρ, H⟩ ⟨d, .store t x y, ty, p, af, g⟩ := rfl
@[simp] theorem abuildOwn_at (t : TypeId) (x : Operand) : abuildOwn C ρ H t [(0, x)] = (match elT C.P t with
  | some e => (match aggT C.P e, zT C.P e with
    | some false, some _ => if (aev C ρ e x).isCell = true ∧ szT C.P e = 1 then some (True, .own H.length 1, H ++ [⟨e, 1, [[aev C ρ e x]], true, (aev C ρ e x).isDeep⟩]) else none
    | _, _ => none)
  | none => none) := by unfold abuildOwn; cases elT C.P t <;> rfl
end
end Go.Proofs.YtgjljfbohpnfcaaGreat
namespace Go.Proofs.YtgjljfbohpnfcaaGreat
open Go.RowKit
def dropT (hl : Nat) (H : List Blk) (r : AV) (H' : List Blk) : Prop := ∃ m, hl ≤ m ∧ H.take m = H' ∧ r.cleanF m = true ∧ ∀ b ∈ H', b.deep = true ∨ ∀ r ∈ b.rows, ∀ c ∈ r, c.cleanF m = true
def finDK (hl : Nat) (H : List Blk) (r : AV) (H' : List Blk) (o : Option (Prop × AV)) : Prop := match o with | some (ob, r') => ob ∧ r' = r ∧ dropT hl H r H' | none => False
@[simp] theorem finDK_some (hl : Nat) (H : List Blk) (r r' : AV) (H' : List Blk) (ob : Prop) : finDK hl H r H' (some (ob, r')) = (ob ∧ r' = r ∧ dropT hl H r H') := rfl
def endD (C : Ctx) (rs : List ResultVar) (hl : Nat) (r : AV) (H' : List Blk) : Exit → ASt → Prop
  | .normal, st => finDK hl st.H r H' (aresults C st rs)
  | .ret, st => finDK hl st.H r H' (aresults C st rs)
  | _, _ => False
@[congr] theorem lazy_endD {C : Ctx} {rs : List ResultVar} {hl : Nat} {r : AV} {H' : List Blk} {ex ex' : Exit} {st st' : ASt} (h : mark ex = ex') (h' : st = st') : endD C rs hl r H' ex st = endD C rs hl r H' ex' st' := by rw [mark_eq] at h; rw [h, h']
@[simp] theorem endD_normal (C : Ctx) (rs : List ResultVar) (hl : Nat) (r : AV) (H' : List Blk) (ρ : List (Nat × AV)) (H : List Blk) : endD C rs hl r H' .normal ⟨ρ, H⟩ = finDK hl H r H' (aresults C ⟨ρ, H⟩ rs) := rfl
@[simp] theorem endD_ret (C : Ctx) (rs : List ResultVar) (hl : Nat) (r : AV) (H' : List Blk) (ρ : List (Nat × AV)) (H : List Blk) : endD C rs hl r H' .ret ⟨ρ, H⟩ = finDK hl H r H' (aresults C ⟨ρ, H⟩ rs) := rfl
end Go.Proofs.YtgjljfbohpnfcaaGreat


namespace Go.Proofs.YtgjljfbohpnfcaaGreat
open Go.RowKit Go.ChangeMaps Go.MapKept
set_option linter.unusedVariables false
def upd (G : Nat → AV) (b : Nat) (v : AV) : Nat → AV := fun g => if g = b then v else G g
@[simp] theorem upd_same (G : Nat → AV) (b : Nat) (v : AV) : upd G b v b = v := if_pos rfl
theorem upd_ne (G : Nat → AV) {b g : Nat} (v : AV) (h : g ≠ b) : upd G b v g = G g := if_neg h
@[simp] theorem upd_upd (G : Nat → AV) (b : Nat) (v v' : AV) : upd (upd G b v) b v' = upd G b v' := by
  funext g
  unfold upd
  split <;> rfl
def CG (C : Ctx) (G : Nat → AV) : Ctx := { C with G := G }
@[simp] theorem CG_P (C : Ctx) (G : Nat → AV) : (CG C G).P = C.P := rfl
@[simp] theorem CG_S (C : Ctx) (G : Nat → AV) : (CG C G).S = C.S := rfl
@[simp] theorem CG_G (C : Ctx) (G : Nat → AV) : (CG C G).G = G := rfl
def Over (C : Ctx) (G : Nat → AV) : Prop := (∀ g, G g = C.G g ∨ C.G g = .undef) ∧ ∀ g k e L, C.G g ≠ .mapof k e L
theorem Over.refl {C : Ctx} (h : ∀ g k e L, C.G g ≠ .mapof k e L) : Over C C.G := ⟨fun _ => .inl rfl, h⟩
theorem GV.over {C : Ctx} {G : Nat → AV} (h : Over C G) {w : World} {X : Nat → Prop} (hG : ∀ g, GV C.P w X g (G g)) (g : Nat) : GV C.P w X g (C.G g) := by
  rcases h.1 g with e | e
  · rw [← e]; exact hG g
  · rw [e]; exact RepD.undef _
theorem sigOver {C : Ctx} (hS : SigOK C) {G : Nat → AV} (h : Over C G) : SigOK (CG C G) := by
  intro f
  have hf := hS f
  show EntryOK C.P G f (C.S f)
  cases hE : C.S f with
  | no => trivial
  | pure p =>
    rw [hE] at hf
    exact hf.imp (fun ⟨h1, h2⟩ => ⟨fun w X args avs ob r hX hG => h1 w X args avs ob r hX (GV.over h hG), h2⟩) id
  | frz p =>
    rw [hE] at hf
    exact ⟨fun w X args avs ob r hX hG => hf.1 w X args avs ob r hX (GV.over h hG), hf.2⟩
  | gen g =>
    rw [hE] at hf
    exact ⟨fun w X β H args avs ob r H' hR hG => hf.1 w X β H args avs ob r H' hR (GV.over h hG), hf.2⟩
structure Off (M : Nat → Prop) (w w' : World) : Prop where
  os : w'.os = w.os
  tape : w'.tape = w.tape
  output : w'.output = w.output
  drawn : w'.drawn = w.drawn
  size : w'.heap.size = w.heap.size
  block : ∀ b, ¬ M b → w'.heap[b]? = w.heap[b]?
theorem Off.refl (M : Nat → Prop) (w : World) : Off M w w := ⟨rfl, rfl, rfl, rfl, rfl, fun _ _ => rfl⟩
def RelM (C : Ctx) (N : Nat) (X : Nat → Prop) (w0 : World) (β0 : List BI) (H0 : List Blk) (M : Nat → Prop) (st : ASt) (G : Nat → AV) (a : Act) (w : World) : Prop :=
  ∃ w0', Off M w0 w0' ∧ Over C G ∧ (∀ b k e L, G b = .mapof k e L → M b ∨ w0.heap.size ≤ b) ∧ Rel (CG C G) N X w0' β0 H0 st a w
def AWm (C : Ctx) (N h0 : Nat) (M : Nat → Prop) (code : Code) (st : ASt) (G : Nat → AV) (Q : Exit → ASt → (Nat → AV) → Prop) : Prop :=
  ∀ (X : Nat → Prop) (w0 : World) (β0 : List BI) (H0 : List Blk) (a : Act) (w : World), H0.length = h0 → RelM C N X w0 β0 H0 M st G a w → code.wp C.P (fun ex a' w' => ∃ st' G', Q ex st' G' ∧ RelM C N X w0 β0 H0 M st' G' a' w') a w
section
variable {C : Ctx} {N h0 : Nat} {M : Nat → Prop}
theorem AWm.mono {code : Code} {st : ASt} {G : Nat → AV} {Q Q' : Exit → ASt → (Nat → AV) → Prop} (h : AWm C N h0 M code st G Q) (hq : ∀ ex st' G', Q ex st' G' → Q' ex st' G') : AWm C N h0 M code st G Q' :=
  fun X w0 β0 H0 a w hl hr => Code.wp_mono (fun _ _ _ ⟨st', G', hq', hr'⟩ => ⟨st', G', hq _ _ _ hq', hr'⟩) (h X w0 β0 H0 a w hl hr)
theorem AWm.of {code : Code} {st : ASt} {G : Nat → AV} {Q : Exit → ASt → (Nat → AV) → Prop} (h : Over C G → AW (CG C G) N h0 code st fun ex st' => Q ex st' G) : AWm C N h0 M code st G Q := fun X w0 β0 H0 a w hl ⟨w0', h1, h2, h3, hr⟩ =>
  Code.wp_mono (fun _ _ _ ⟨st', hq', hr'⟩ => ⟨st', G, hq', w0', h1, h2, h3, hr'⟩) (h h2 X w0' β0 H0 a w hl hr)
theorem AWm.weak {code : Code} {st st' : ASt} {G : Nat → AV} {Q : Exit → ASt → (Nat → AV) → Prop} (hw : Weak (CG C G) N h0 st st') (h : AWm C N h0 M code st' G Q) : AWm C N h0 M code st G Q :=
  fun X w0 β0 H0 a w hl ⟨w0', h1, h2, h3, hr⟩ => h X w0 β0 H0 a w hl ⟨w0', h1, h2, h3, hw X w0' β0 H0 a w hl hr⟩
def goOnM (K : ASt → (Nat → AV) → Prop) (Q : Exit → ASt → (Nat → AV) → Prop) (ex : Exit) (st : ASt) (G : Nat → AV) : Prop := match ex with | .normal => K st G | e => Q e st G
def outOfM (id : Nat) (Q : Exit → ASt → (Nat → AV) → Prop) (ex : Exit) (st : ASt) (G : Nat → AV) : Prop := match ex with | .exit j => if j = id then Q .normal st G else Q (.exit j) st G | e => Q e st G
def inScopeM (Q : Exit → ASt → (Nat → AV) → Prop) (ex : Exit) (st : ASt) (G : Nat → AV) : Prop := match ex with | .goto _ => False | e => Q e st G
def roundM {α : Type} (Sf : α → ASt) (Gf : α → Nat → AV) (pre : α → Prop) (lt : α → Prop) (N h0 : Nat) (C : Ctx) (Q : Exit → ASt → (Nat → AV) → Prop) (ex : Exit) (st' : ASt) (G' : Nat → AV) : Prop :=
  match ex with | .normal => ∃ x', pre x' ∧ lt x' ∧ G' = Gf x' ∧ Weak (CG C G') N h0 st' (Sf x') | e => Q e st' G'
theorem AWm_seq {a b : Code} {st : ASt} {G : Nat → AV} {Q : Exit → ASt → (Nat → AV) → Prop} (h : AWm C N h0 M a st G (goOnM (fun st' G' => AWm C N h0 M b st' G' Q) Q)) : AWm C N h0 M (.seq a b) st G Q := fun X w0 β0 H0 x w hl hr => by
  refine wp_seq (Code.wp_mono (fun ex a' w' ⟨st', G', hq, hr'⟩ => ?_) (h X w0 β0 H0 x w hl hr))
  cases ex with
  | normal => exact hq X w0 β0 H0 a' w' hl hr'
  | _ => exact ⟨st', G', hq, hr'⟩
theorem AWm_block {id : Nat} {b : Code} {st : ASt} {G : Nat → AV} {Q : Exit → ASt → (Nat → AV) → Prop} (h : AWm C N h0 M b st G (outOfM id Q)) : AWm C N h0 M (.block id b) st G Q := fun X w0 β0 H0 x w hl hr => by
  refine wp_block (Code.wp_mono (fun ex a' w' ⟨st', G', hq, hr'⟩ => ?_) (h X w0 β0 H0 x w hl hr))
  cases ex with
  | exit j =>
    simp only [Exit.inBlock, outOfM] at hq ⊢
    split
    · rename_i e; rw [if_pos e] at hq; exact ⟨st', G', hq, hr'⟩
    · rename_i e; rw [if_neg e] at hq; exact ⟨st', G', hq, hr'⟩
  | _ => exact ⟨st', G', hq, hr'⟩
theorem AWm_scope {b : Code} {st : ASt} {G : Nat → AV} {Q : Exit → ASt → (Nat → AV) → Prop} (h : AWm C N h0 M b st G (inScopeM Q)) : AWm C N h0 M (.scope b) st G Q := fun X w0 β0 H0 a w hl hr => by
  refine wp_scope_straight (Code.wp_mono (fun ex a' w' ⟨st', G', hq, hr'⟩ => ?_) (h X w0 β0 H0 a w hl hr))
  cases ex with
  | goto l => exact hq
  | _ => exact ⟨st', G', hq, hr'⟩
theorem AWm_cond {c : Operand} {x y : Code} {st : ASt} {G : Nat → AV} {Q : Exit → ASt → (Nat → AV) → Prop} (h : onBool (aev (CG C G) st.ρ 0 c) fun b => both b (AWm C N h0 M x st G Q) (AWm C N h0 M y st G Q)) : AWm C N h0 M (.cond c x y) st G Q := fun X w0 β0 H0 a w hl hr => by
  have hr0 := hr
  obtain ⟨w0', _, _, _, β, R, S0, Tr, Gr, hN, hdef⟩ := hr0
  have hE := aev_sound Tr Gr 0 c
  unfold onBool at h
  split at h
  · rename_i b hb
    rw [hb] at hE
    exact wp_cond_split (rep_bool hE) (fun ht => h.1 ht X w0 β0 H0 a w hl hr) (fun hf => h.2 hf X w0 β0 H0 a w hl hr)
  · rename_i hb
    rw [hb] at hE
    obtain ⟨b, hb'⟩ := rep_anyb hE
    exact wp_cond_split hb' (fun _ => h.1.1 rfl X w0 β0 H0 a w hl hr) (fun _ => h.2.2 rfl X w0 β0 H0 a w hl hr)
  · exact h.elim
theorem AWm_loop {α : Type} {body : Code} {st : ASt} {G : Nat → AV} {Q : Exit → ASt → (Nat → AV) → Prop} (Sf : α → ASt) (Gf : α → Nat → AV) (pre : α → Prop) (m : α → Nat)
    (start : ∃ x, pre x ∧ G = Gf x ∧ Weak (CG C G) N h0 st (Sf x)) (step : ∀ x, pre x → AWm C N h0 M body (Sf x) (Gf x) (roundM Sf Gf pre (fun x' => m x' < m x) N h0 C Q)) : AWm C N h0 M (.loop body) st G Q := by
  intro X w0 β0 H0 a w hl hr
  obtain ⟨x0, hx0, rfl, hw0⟩ := start
  obtain ⟨w0', h1, h2, h3, hr⟩ := hr
  refine wp_loop_ghost (fun n a w => ∃ x, m x = n ∧ pre x ∧ RelM C N X w0 β0 H0 M (Sf x) (Gf x) a w) (m x0) ⟨x0, rfl, hx0, w0', h1, h2, h3, hw0 X w0' β0 H0 a w hl hr⟩ ?_
  rintro n a w ⟨x, rfl, hx, hr⟩
  refine Code.wp_mono (fun ex a' w' ⟨st', G', hq, hr'⟩ => ?_) (step x hx X w0 β0 H0 a w hl hr)
  cases ex with
  | normal =>
    obtain ⟨x', hx', hlt, rfl, hw⟩ := hq
    obtain ⟨w0'', k1, k2, k3, hr'⟩ := hr'
    exact ⟨m x', hlt, x', rfl, hx', w0'', k1, k2, k3, hw X w0'' β0 H0 a' w' hl hr'⟩
  | _ => exact ⟨st', G', hq, hr'⟩
end
theorem cell_notmap {w : World} {b c off : Nat} {v : Value} {es : Array MapEntry} {clock : Nat} (hb : w.heap[b]? = some (.map es clock)) (hc : w.cell? ⟨c, off, none⟩ = some v) : c ≠ b := by
  rintro rfl
  unfold World.cell? at hc
  simp [hb] at hc
theorem RepD.off {w : World} {b : Nat} {es : Array MapEntry} {clock : Nat} {o : Obj} (hb : w.heap[b]? = some (.map es clock)) {X : Nat → Prop} {v : Value} {av : AV} (h : RepD w X v av) : RepD (setBlock w b o) X v av := by
  have hsz : (setBlock w b o).heap.size = w.heap.size := by simp [setBlock]
  have hcell : ∀ {c off : Nat} {u : Value}, w.cell? ⟨c, off, none⟩ = some u → (setBlock w b o).cell? ⟨c, off, none⟩ = some u := fun {c off u} hc => by
    have hne := cell_notmap hb hc
    rw [← hc]
    exact World.cell?_of_block (heap_setBlock_other hb _ hne)
  induction h with
  | undef v => exact .undef v
  | bool b => exact .bool b
  | int k n => exact .int k n
  | str s => exact .str s
  | nilptr => exact .nilptr
  | anyb b => exact .anyb b
  | mapp b => exact .mapp b
  | tab c k zs t fr hc hx =>
    have hne : c ≠ b := by rintro rfl; rw [hb] at hc; cases hc
    exact .tab c k zs t fr ((heap_setBlock_other hb _ hne).trans hc) hx
  | slice sz full rows a n cap val hn h1 h2 h3 hr hm hv ih =>
    refine .slice sz full rows a n cap val hn h1 h2 h3 hr (fun h0 => ?_) ih
    obtain ⟨c, off, rfl, hlt, hx, hc⟩ := hm h0
    exact ⟨c, off, rfl, by rw [hsz]; exact hlt, hx, fun i j hi hj => ⟨hcell (hc i j hi hj).1, (hc i j hi hj).2⟩⟩
  | iptr c off cells val hlt hx hm hv ih => exact .iptr c off cells val (by rw [hsz]; exact hlt) hx (fun j hj => ⟨hcell (hm j hj).1, (hm j hj).2⟩) ih
  | agg cs cells val hl hm hv ih => exact .agg cs cells val hl hm ih
  | tup cs cells val hl hm hv ih => exact .tup cs cells val hl hm ih
  | fn f cs cells val hl hm hv ih => exact .fn f cs cells val hl hm ih
theorem Rep.off {w : World} {b : Nat} {es : Array MapEntry} {clock : Nat} {o : Obj} (hb : w.heap[b]? = some (.map es clock)) {X : Nat → Prop} {β : List BI} {H : List Blk} {v : Value} {av : AV} (h : Rep w X β H v av) : Rep (setBlock w b o) X β H v av := by
  induction h with
  | deep h => exact .deep (h.off hb)
  | own l n a cap b' hb' hn h0 hc hx => exact .own l n a cap b' hb' hn h0 hc hx
  | osl l n sz off len a cap b' hb' hn hle h0 hc hx => exact .osl l n sz off len a cap b' hb' hn hle h0 hc hx
  | ptr l n sz i f a b' hb' hn hx => exact .ptr l n sz i f a b' hb' hn hx
  | agg cs cells val hl hm hv ih => exact .agg cs cells val hl hm ih
  | tup cs cells val hl hm hv ih => exact .tup cs cells val hl hm ih
  | fn f cs cells val hl hm hv ih => exact .fn f cs cells val hl hm ih
theorem HRel.off {w : World} {b : Nat} {es : Array MapEntry} {clock : Nat} {o : Obj} (hb : w.heap[b]? = some (.map es clock)) {X : Nat → Prop} {β : List BI} {H : List Blk} (h : HRel w X β H) : HRel (setBlock w b o) X β H := by
  have hsz : (setBlock w b o).heap.size = w.heap.size := by simp [setBlock]
  refine ⟨h.len, fun l bi bk h1 h2 => ?_, fun l c cap h1 => by rw [hsz]; exact h.lt l c cap h1, h.inj, fun c hc => by rw [hsz]; exact h.base c hc⟩
  have := h.blk l bi bk h1 h2
  cases bi with
  | nil => exact this
  | lies c cap =>
    obtain ⟨cur, k1, k2, k3, k4, k5, k6, k7⟩ := this
    have hne : c ≠ b := by rintro rfl; rw [hb] at k1; cases k1
    refine ⟨cur, (heap_setBlock_other hb _ hne).trans k1, k2, k3, k4, k5, k6, fun i j r av hr hj => ?_⟩
    obtain ⟨v, q1, q2, q3, q4⟩ := k7 i j r av hr hj
    exact ⟨v, q1, q2, q3.off hb, fun hd => (q4 hd).off hb⟩
inductive MK where
  | mk (t : TypeId)
  | up (t : TypeId) (m x v : Operand)
  | no
def kindM : Op → MK
  | .makeMap t none => .mk t
  | .mapUpdate t m x v => .up t m x v
  | _ => .no
def aupd (C : Ctx) (G : Nat → AV) (t : TypeId) (m x v : AV) : Option (Prop × (Nat → AV)) :=
  match m with
  | .mapp b => match G b with
    | .mapof k e L =>
      if mapT C.P t = some (k, e) then
        match litOf C.P k x, litOf C.P e v with
        | some (ob, kl), some (ob', vl) => some (ob ∧ ob' ∧ L.length < 1000000000000, upd G b (.mapof k e ((kl, vl) :: L)))
        | _, _ => none
      else none
    | _ => none
  | _ => none
attribute [simp] kindM aupd
def thenU (o : Option (Prop × (Nat → AV))) (K : Prop → (Nat → AV) → Prop) : Prop :=
  match o with
  | some (ob, G) => K ob G
  | none => False
@[simp] theorem thenU_some (ob : Prop) (G : Nat → AV) (K : Prop → (Nat → AV) → Prop) : thenU (some (ob, G)) K = K ob G := rfl
@[simp] theorem thenU_none (K : Prop → (Nat → AV) → Prop) : thenU none K = False := rfl
@[congr] theorem thenU_congr {o o' : Option (Prop × (Nat → AV))} {K : Prop → (Nat → AV) → Prop} (h : mark o = o') : thenU o K = thenU o' K := by rw [mark_eq] at h; rw [h]
def aopsM (C : Ctx) (ops : Array Oper) : List Oper → ASt → (Nat → AV) → (ASt → (Nat → AV) → Prop) → Prop
  | [], st, G, K => K st G
  | o :: r, st, G, K =>
    match kindM o.op with
    | .mk t => thenG (wantG ops st.ρ o) fun g => g = true ∧ match mapT C.P t with
      | some (k, e) => ∀ b, G b = .undef → aopsM C ops r ⟨putA st.ρ o.dst (.mapp b), st.H⟩ (upd G b (.mapof k e [])) K
      | none => False
    | .up t m x v => thenG (wantG ops st.ρ o) fun g => both g (thenU (aupd C G t (aev (CG C G) st.ρ 0 m) (aev (CG C G) st.ρ 0 x) (aev (CG C G) st.ρ 0 v)) fun ob G' => ob ∧ aopsM C ops r ⟨putA st.ρ o.dst .undef, st.H⟩ G' K)
        (aopsM C ops r ⟨putA st.ρ o.dst (.tup []), st.H⟩ G K)
    | .no => thenG (wantG ops st.ρ o) fun g => both g (thenD (astep (CG C G) st o) fun ob v H' => ob ∧ aopsM C ops r ⟨putA st.ρ o.dst v, H'⟩ G K) (aopsM C ops r ⟨putA st.ρ o.dst (.tup []), st.H⟩ G K)
@[congr] theorem aopsM_congr {C : Ctx} {ops : Array Oper} {l : List Oper} {st st' : ASt} {G : Nat → AV} {K : ASt → (Nat → AV) → Prop} (h : mark st = st') : aopsM C ops l st G K = aopsM C ops l st' G K := by rw [mark_eq] at h; rw [h]
section
variable {C : Ctx}
@[simp] theorem aopsM_nil (ops : Array Oper) (st : ASt) (G : Nat → AV) (K : ASt → (Nat → AV) → Prop) : aopsM C ops [] st G K = K st G := rfl
@[simp] theorem aopsM_cons (ops : Array Oper) (o : Oper) (r : List Oper) (st : ASt) (G : Nat → AV) (K : ASt → (Nat → AV) → Prop) : aopsM C ops (o :: r) st G K =
    match kindM o.op with
    | .mk t => thenG (wantG ops st.ρ o) fun g => g = true ∧ match mapT C.P t with
      | some (k, e) => ∀ b, G b = .undef → aopsM C ops r ⟨putA st.ρ o.dst (.mapp b), st.H⟩ (upd G b (.mapof k e [])) K
      | none => False
    | .up t m x v => thenG (wantG ops st.ρ o) fun g => both g (thenU (aupd C G t (aev (CG C G) st.ρ 0 m) (aev (CG C G) st.ρ 0 x) (aev (CG C G) st.ρ 0 v)) fun ob G' => ob ∧ aopsM C ops r ⟨putA st.ρ o.dst .undef, st.H⟩ G' K)
        (aopsM C ops r ⟨putA st.ρ o.dst (.tup []), st.H⟩ G K)
    | .no => thenG (wantG ops st.ρ o) fun g => both g (thenD (astep (CG C G) st o) fun ob v H' => ob ∧ aopsM C ops r ⟨putA st.ρ o.dst v, H'⟩ G K) (aopsM C ops r ⟨putA st.ρ o.dst (.tup []), st.H⟩ G K) := by
  rw [aopsM]
end
end Go.Proofs.YtgjljfbohpnfcaaGreat
namespace Go.Proofs.YtgjljfbohpnfcaaGreat
open Go.RowKit Go.ChangeMaps Go.MapKept
set_option linter.unusedVariables false
section
variable {C : Ctx} {N h0 : Nat} {M : Nat → Prop} {X : Nat → Prop} {w0 : World} {β0 : List BI} {H0 : List Blk}
theorem GV.cases_ptr {P : Program} {w : World} {X : Nat → Prop} {g : Nat} {av : AV} (h : GV P w X g av) : av = .undef ∨ g < w.heap.size := by
  cases av with
  | mapof k e L => exact .inr h.1.lt
  | _ =>
    have h : RepD w X (.pointer (some ⟨g, 0, none⟩)) _ := h
    first
      | exact .inl rfl
      | (cases h
         all_goals first
           | exact .inr ‹_›
           | (right
              rename_i hx hb
              rcases Nat.lt_or_ge g w.heap.size with h | h
              · exact h
              · rw [Array.getElem?_eq_none h] at hb; cases hb))
theorem mget_cons (a x : Lit) (r : List (Lit × Lit)) (k z : Lit) : mget ((a, x) :: r) k z = if a.sameKey k then x else mget r k z := rfl
theorem mapRel_put {P : Program} {w' : World} {b : Nat} {k e : TypeId} {L : List (Lit × Lit)} {kl vl : Lit} (hk : WideAt.IsKeyLit kl) {D : DataW Unit} (h2 : Maps.Tidy D) (h3 : ∀ kl z, D.atKey kl (.lit z) = .lit (mget L kl z)) (h4 : ∀ kl, Maps.has D kl = mhas L kl) (h5 : Maps.size D = msize L)
    (ho : w'.ownsMap P k (plainElem P e) b (L.length + 1) (D.put kl (.lit vl))) : MapRel P w' b k e ((kl, vl) :: L) := by
  refine ⟨_, ho, h2.put hk _, fun q z => ?_, fun q => ?_, ?_⟩
  · rw [mget_cons]
    by_cases hq : q = kl
    · subst hq
      rw [Maps.atKey_put_same h2.isMap hk, if_pos (WideAt.sameKey_self hk)]
    · rw [Maps.atKey_put_other hq, h3, if_neg (by rw [Maps.sameKey_ne (fun e => hq e.symm)]; decide)]
  · show _ = (kl.sameKey q || mhas L q)
    by_cases hq : q = kl
    · subst hq
      rw [Maps.has_put_same h2.isMap hk, WideAt.sameKey_self hk]; rfl
    · rw [Maps.has_put_other hq, h4, Maps.sameKey_ne (fun e => hq e.symm)]; rfl
  · rw [Maps.size_put h2, h4, h5]
    rfl
theorem aupd_sound {st : ASt} {G : Nat → AV} {a : Act} {w : World} (hr : RelM C N X w0 β0 H0 M st G a w) {t : TypeId} {m x v : AV} {ob : Prop} {G' : Nat → AV} (h : aupd C G t m x v = some (ob, G')) (hob : ob) {vm vx vv : Value}
    (hE : ∀ β, HRel w X β st.H → TRel w (Mu X β st.H) β st.H a st.ρ → GRel (CG C G) w (Mu X β st.H) → Rep w (Mu X β st.H) β st.H vm m ∧ Rep w (Mu X β st.H) β st.H vx x ∧ Rep w (Mu X β st.H) β st.H vv v) (dst : Option Tmp) (hd : ∀ d, dst = some d → d < N) :
    ∃ w', (Instr.mapUpdate t vm vx vv).run C.P w = .ok () w' ∧ RelM C N X w0 β0 H0 M ⟨putA st.ρ dst .undef, st.H⟩ G' (a.put dst undef) w' := by
  obtain ⟨w0', o1, o2, o3, β, R, S0, T, Gr, hN, hdef⟩ := hr
  obtain ⟨e1, e2, e3⟩ := hE β R T Gr
  unfold aupd at h
  split at h
  · rename_i b
    obtain rfl := rep_mapp e1
    split at h
    · rename_i k e L hg
      split at h
      · rename_i ht
        split at h
        · rename_i ob1 kl ob2 vl hl1 hl2
          injection h with h; injection h with f1 f2; subst f1 f2
          have hG := Gr b
          rw [show (CG C G).G b = .mapof k e L from hg] at hG
          obtain ⟨⟨D, d1, d2, d3, d4, d5⟩, hXb⟩ := hG
          obtain ⟨K, hk, hkl⟩ := litOf_key hl1 hob.1 e2
          have hv := litOf_elem hl2 hob.2.1 e3
          obtain ⟨w', hrun, hown, es, clock, es', clock', hb, rfl⟩ := d1.store K (mapT_eq ht) (show L.length < maxLen by have := hob.2.2; show _ < 9223372036854775807; omega) hk hv
          have hsz : (setBlock w b (.map es' clock')).heap.size = w.heap.size := by simp [setBlock]
          have hlt : b < w.heap.size := (Array.getElem?_eq_some_iff.1 hb).1
          refine ⟨_, hrun, setBlock w0' b (.map es' clock'), ⟨o1.os, o1.tape, o1.output, o1.drawn, by simp [setBlock]; exact o1.size, fun c hc => ?_⟩, ⟨fun g => ?_, o2.2⟩, fun c k' e' L' hc => ?_, β, R.off hb, ⟨⟨S0.keeps.os, S0.keeps.tape, S0.keeps.output, by simp only [setBlock, Array.size_setIfInBounds]; exact S0.keeps.size, fun c hc hn => ?_, S0.keeps.drawn⟩, ⟨S0.grow.old, fun l bk c hc => by simp only [setBlock, Array.size_setIfInBounds]; exact S0.grow.at_ l bk c hc⟩, S0.len⟩, ?_, fun g => ?_, ?_, ?_⟩
          · by_cases hcb : c = b
            · subst hcb
              have h1 : w0.heap.size ≤ c := (o3 c k e L hg).resolve_left hc
              simp only [setBlock]
              rw [Array.getElem?_eq_none (by rw [Array.size_setIfInBounds, o1.size]; exact h1), Array.getElem?_eq_none h1]
            · simp only [setBlock]
              rw [Array.getElem?_setIfInBounds_ne (fun e => hcb e.symm)]
              exact o1.block c hc
          · by_cases hgb : g = b
            · subst hgb
              right
              exact (o2.1 g).resolve_left fun q => o2.2 g _ _ _ (q.symm.trans hg)
            · rw [upd_ne _ _ hgb]; exact o2.1 g
          · by_cases hcb : c = b
            · subst hcb; exact o3 c k e L hg
            · rw [upd_ne _ _ hcb] at hc; exact o3 c _ _ _ hc
          · by_cases hcb : c = b
            · subst hcb
              rw [heap_setBlock_same hb]
              have : c < w0'.heap.size := by simpa [setBlock] using hc
              simp only [setBlock]
              rw [Array.getElem?_setIfInBounds_self_of_lt this]
            · rw [heap_setBlock_other hb _ hcb]
              simp only [setBlock]
              rw [Array.getElem?_setIfInBounds_ne (fun e => hcb e.symm)]
              exact S0.keeps.block c (by simpa [setBlock] using hc) hn
          · have T' : TRel (setBlock w b (.map es' clock')) (Mu X β st.H) β st.H a st.ρ := fun t => (T t).off hb
            exact trel_put T' (StepR.refl _ _ _ R.len) rep_undef dst (fun d h => by rw [hN]; exact hd d h)
          · by_cases hgb : g = b
            · subst hgb
              show GV C.P _ _ _ (upd G g _ g)
              rw [upd_same]
              exact ⟨mapRel_put hkl d2 d3 d4 d5 hown, hXb⟩
            · have := Gr g
              show GV C.P _ _ _ (upd G b _ g)
              rw [upd_ne _ _ hgb]
              have this : GV C.P w (Mu X β st.H) g (G g) := this
              generalize G g = av at this ⊢
              cases av with
              | mapof k' e' L' => exact ⟨this.1.same (heap_setBlock_other hb _ hgb), this.2⟩
              | _ => exact RepD.off hb (show RepD w _ _ _ from this)
          · cases dst with
            | none => exact hN
            | some d => simp [Act.put, hN]
          · cases dst with
            | none => exact hdef
            | some d => exact hdef
        · cases h
      · cases h
    · cases h
  · cases h
theorem wpList_of_aopsM (hS : SigOK C) {ops : Array Oper} {Q : Exit → Act → World → Prop} : ∀ (l : List Oper), (∀ o ∈ l, ∀ d, o.dst = some d → d < N) → ∀ {st : ASt} {G : Nat → AV} {K : ASt → (Nat → AV) → Prop} {a : Act} {w : World}, aopsM C ops l st G K → RelM C N X w0 β0 H0 M st G a w →
    (∀ st' G' a' w', RelM C N X w0 β0 H0 M st' G' a' w' → K st' G' → Q .normal a' w') → wpList C.P ops Q l a w
  | [], _, st, G, K, a, w, h, hr, hQ => hQ st G a w hr h
  | o :: r, hd, st, G, K, a, w, h, hr, hQ => by
    have hr0 := hr
    obtain ⟨w0', o1, o2, o3, β, R, S0, T, Gr, hN, hdef⟩ := hr
    have ih := fun {st : ASt} {G : Nat → AV} {a : Act} {w : World} => wpList_of_aopsM hS r (fun o ho => hd o (List.mem_cons_of_mem _ ho)) (st := st) (G := G) (K := K) (a := a) (w := w) (ops := ops) (Q := Q)
    have hdo := hd o (by simp)
    rw [aopsM_cons] at h
    unfold thenG at h
    unfold wpList
    split at h
    · rename_i t hk
      split at h
      · rename_i g hg
        rw [wantG_sound T hg]
        obtain ⟨rfl, h⟩ := h
        rw [if_pos rfl]
        split at h
        · rename_i k e ht
          left
          obtain ⟨dst, op, type, pos, after, guard⟩ := o
          simp only at hk h hdo
          have hop : op = .makeMap t none := by
            unfold kindM at hk
            split at hk
            · injection hk with hk; subst hk; rfl
            · cases hk
            · cases hk
          subst hop
          have hb : G w.heap.size = .undef := by
            rcases GV.cases_ptr (Gr w.heap.size) with h1 | h1
            · exact h1
            · exact absurd h1 (Nat.lt_irrefl _)
          refine wp_value (u := .map (some w.heap.size)) (w' := w.alloc (.map #[] 0)) (by simp only [execOp, Option.map_none, run_makeMap, Sem.run_bind, Result.andThen_ok, Sem.run_pure]) ?_
          refine ih (h _ hb) ?_ hQ
          have hkp : Keeps (fun _ => False) w (w.alloc (.map #[] 0)) := Keeps.alloc _ w _
          have hq : StepR w β st.H (w.alloc (.map #[] 0)) β st.H := StepR.quiet hkp R.len
          refine ⟨w0', o1, ⟨fun g => ?_, o2.2⟩, fun b k' e' L' hL => ?_, β, R.quiet hkp, S0.trans hq, trel_put T hq (u := .map (some w.heap.size)) (r := .mapp w.heap.size) (.deep (.mapp _)) dst (fun d h => by rw [hN]; exact hdo d h), fun g => ?_, ?_, ?_⟩
          · by_cases hgb : g = w.heap.size
            · subst hgb
              exact .inr ((o2.1 _).elim (fun q => q.symm.trans hb) id)
            · rw [upd_ne _ _ hgb]; exact o2.1 g
          · by_cases hgb : b = w.heap.size
            · subst hgb; exact .inr (by have := S0.keeps.size; rw [o1.size] at this; exact this)
            · rw [upd_ne _ _ hgb] at hL; exact o3 b _ _ _ hL
          · by_cases hgb : g = w.heap.size
            · subst hgb
              show GV C.P _ _ _ (upd G w.heap.size _ w.heap.size)
              rw [upd_same]
              refine ⟨⟨.map [], World.ownsMap_made w C.P k _, Maps.tidy_empty, fun kl z => rfl, fun kl => rfl, rfl⟩, fun hx => ?_⟩
              rcases hx with hx | ⟨l, c, blk, h1, _, _⟩
              · exact absurd (R.base _ hx) (Nat.lt_irrefl _)
              · exact absurd (R.lt l _ c h1).1 (Nat.lt_irrefl _)
            · have := GV.keep (Gr g) (fun b hb hn => hkp.block b hb (fun h => h)) hkp.size (fun b _ h => h)
              show GV C.P _ _ _ (upd G w.heap.size _ g)
              rw [upd_ne _ _ hgb]
              exact this
          · cases dst with
            | none => exact hN
            | some d => simp [Act.put, hN]
          · cases dst with
            | none => exact hdef
            | some d => exact hdef
        · exact h.elim
      · exact h.elim
    · rename_i t m x v hk
      split at h
      · rename_i g hg
        rw [wantG_sound T hg]
        cases g with
        | true =>
          simp only [both_true] at h
          unfold thenU at h
          split at h
          · rename_i ob G' hu
            rw [if_pos rfl]
            left
            obtain ⟨dst, op, type, pos, after, guard⟩ := o
            simp only at hk h hdo
            have hop : op = .mapUpdate t m x v := by
              unfold kindM at hk
              split at hk
              · cases hk
              · injection hk with h1 h2 h3 h4; subst h1 h2 h3 h4; rfl
              · cases hk
            subst hop
            obtain ⟨w', hrun, hr'⟩ := aupd_sound hr0 hu h.1 (vm := a.eval m) (vx := a.eval x) (vv := a.eval v) (fun β R T Gr => ⟨aev_sound T Gr 0 m, aev_sound T Gr 0 x, aev_sound T Gr 0 v⟩) dst hdo
            unfold Oper.wp
            simp only [execOp, hrun, Sem.run_bind, Result.andThen_ok, Sem.run_pure, Oper.upon_skip]
            exact ih h.2 hr' hQ
          · exact h.elim
        | false =>
          simp only [both_false] at h
          rw [if_neg (by simp)]
          exact ih h ⟨w0', o1, o2, o3, rel_put S0 T Gr hN hdef R (StepR.refl _ _ _ R.len) rep_skip o.dst hdo⟩ hQ
      · exact h.elim
    · split at h
      · rename_i g hg
        rw [wantG_sound T hg]
        cases g with
        | true =>
          simp only [both_true] at h
          unfold thenD at h
          split at h
          · rename_i ob v H' hst
            rw [if_pos rfl]
            refine .inl (astep_sound (sigOver hS o2) R T Gr hst h.1 fun u w' β' R' S hr => ih h.2 ⟨w0', o1, o2, o3, rel_put S0 T Gr hN hdef R' S hr o.dst hdo⟩ hQ)
          · exact h.elim
        | false =>
          simp only [both_false] at h
          rw [if_neg (by simp)]
          exact ih h ⟨w0', o1, o2, o3, rel_put S0 T Gr hN hdef R (StepR.refl _ _ _ R.len) rep_skip o.dst hdo⟩ hQ
      · exact h.elim
end
end Go.Proofs.YtgjljfbohpnfcaaGreat
namespace Go.Proofs.YtgjljfbohpnfcaaGreat
open Go.RowKit Go.ChangeMaps Go.MapKept
set_option linter.unusedVariables false
def codeOKM (C : Ctx) (hm hd : List Nat) (N : Nat) : Code → Bool
  | .region id ops draw => if isIn hm id = true then (ops.toList.all fun o => match o.dst with | some d => decide (d < N) | none => true) && !draw else isIn hd id || ((ops.toList.all fun o => match o.dst with | some d => decide (d < N) | none => true) && (!draw || regOK C ops))
  | .seq a b => codeOKM C hm hd N a && codeOKM C hm hd N b
  | .cond _ a b => codeOKM C hm hd N a && codeOKM C hm hd N b
  | .block _ b => codeOKM C hm hd N b
  | .scope b => codeOKM C hm hd N b
  | _ => true
def avcM (C : Ctx) (hm hd : List Nat) (N h0 : Nat) (M : Nat → Prop) : Code → ASt → (Nat → AV) → (Exit → ASt → (Nat → AV) → Prop) → Prop
  | .skip, st, G, Q => Q .normal st G
  | .region id ops d, st, G, Q => if isIn hm id = true then aopsM C ops ops.toList st G (Q .normal) else if isIn hd id = true then AWm C N h0 M (.region id ops d) st G Q else aops (CG C G) ops ops.toList st fun st' => Q .normal st' G
  | .seq a b, st, G, Q => avcM C hm hd N h0 M a st G (goOnM (fun st' G' => avcM C hm hd N h0 M b st' G' Q) Q)
  | .cond c a b, st, G, Q => onBool (aev (CG C G) st.ρ 0 c) fun x => both x (avcM C hm hd N h0 M a st G Q) (avcM C hm hd N h0 M b st G Q)
  | .block id b, st, G, Q => avcM C hm hd N h0 M b st G (outOfM id Q)
  | .exit id, st, G, Q => Q (.exit id) st G
  | .ret, st, G, Q => Q .ret st G
  | .label _, st, G, Q => Q .normal st G
  | .scope b, st, G, Q => avcM C hm hd N h0 M b st G (inScopeM Q)
  | .loop b, st, G, Q => AWm C N h0 M (.loop b) st G Q
  | _, _, _, _ => False
section
variable {C : Ctx} {hm hd : List Nat} {N h0 : Nat} {M : Nat → Prop}
@[congr] theorem AWm_congr {code : Code} {st st' : ASt} {G : Nat → AV} {Q : Exit → ASt → (Nat → AV) → Prop} (h : mark st = st') : AWm C N h0 M code st G Q = AWm C N h0 M code st' G Q := by rw [mark_eq] at h; rw [h]
@[congr] theorem avcM_congr {code : Code} {st st' : ASt} {G : Nat → AV} {Q : Exit → ASt → (Nat → AV) → Prop} (h : mark st = st') : avcM C hm hd N h0 M code st G Q = avcM C hm hd N h0 M code st' G Q := by rw [mark_eq] at h; rw [h]
@[simp] theorem avcM_skip (st : ASt) (G : Nat → AV) (Q : Exit → ASt → (Nat → AV) → Prop) : avcM C hm hd N h0 M .skip st G Q = Q .normal st G := rfl
@[simp] theorem avcM_region (id : Nat) (l : List Oper) (d : Bool) (st : ASt) (G : Nat → AV) (Q : Exit → ASt → (Nat → AV) → Prop) : avcM C hm hd N h0 M (.region id l.toArray d) st G Q =
    if isIn hm id = true then aopsM C l.toArray l st G (Q .normal) else if isIn hd id = true then AWm C N h0 M (.region id l.toArray d) st G Q else aops (CG C G) l.toArray l st fun st' => Q .normal st' G := rfl
@[simp] theorem avcM_seq (a b : Code) (st : ASt) (G : Nat → AV) (Q : Exit → ASt → (Nat → AV) → Prop) : avcM C hm hd N h0 M (.seq a b) st G Q = avcM C hm hd N h0 M a st G (goOnM (fun st' G' => avcM C hm hd N h0 M b st' G' Q) Q) := rfl
@[simp] theorem avcM_cond (c : Operand) (a b : Code) (st : ASt) (G : Nat → AV) (Q : Exit → ASt → (Nat → AV) → Prop) : avcM C hm hd N h0 M (.cond c a b) st G Q = onBool (aev (CG C G) st.ρ 0 c) fun x => both x (avcM C hm hd N h0 M a st G Q) (avcM C hm hd N h0 M b st G Q) := rfl
@[simp] theorem avcM_block (id : Nat) (b : Code) (st : ASt) (G : Nat → AV) (Q : Exit → ASt → (Nat → AV) → Prop) : avcM C hm hd N h0 M (.block id b) st G Q = avcM C hm hd N h0 M b st G (outOfM id Q) := rfl
@[simp] theorem avcM_exit (id : Nat) (st : ASt) (G : Nat → AV) (Q : Exit → ASt → (Nat → AV) → Prop) : avcM C hm hd N h0 M (.exit id) st G Q = Q (.exit id) st G := rfl
@[simp] theorem avcM_ret (st : ASt) (G : Nat → AV) (Q : Exit → ASt → (Nat → AV) → Prop) : avcM C hm hd N h0 M .ret st G Q = Q .ret st G := rfl
@[simp] theorem avcM_label (l : Nat) (st : ASt) (G : Nat → AV) (Q : Exit → ASt → (Nat → AV) → Prop) : avcM C hm hd N h0 M (.label l) st G Q = Q .normal st G := rfl
@[simp] theorem avcM_scope (b : Code) (st : ASt) (G : Nat → AV) (Q : Exit → ASt → (Nat → AV) → Prop) : avcM C hm hd N h0 M (.scope b) st G Q = avcM C hm hd N h0 M b st G (inScopeM Q) := rfl
@[simp] theorem avcM_loop (b : Code) (st : ASt) (G : Nat → AV) (Q : Exit → ASt → (Nat → AV) → Prop) : avcM C hm hd N h0 M (.loop b) st G Q = AWm C N h0 M (.loop b) st G Q := rfl
@[congr] theorem lazy_goOnM {K : ASt → (Nat → AV) → Prop} {Q : Exit → ASt → (Nat → AV) → Prop} {ex ex' : Exit} {st st' : ASt} {G : Nat → AV} (h : mark ex = ex') (h' : st = st') : goOnM K Q ex st G = goOnM K Q ex' st' G := by rw [mark_eq] at h; rw [h, h']
@[simp] theorem goOnM_normal (K : ASt → (Nat → AV) → Prop) (Q : Exit → ASt → (Nat → AV) → Prop) (st : ASt) (G : Nat → AV) : goOnM K Q .normal st G = K st G := rfl
@[simp] theorem goOnM_ret (K : ASt → (Nat → AV) → Prop) (Q : Exit → ASt → (Nat → AV) → Prop) (st : ASt) (G : Nat → AV) : goOnM K Q .ret st G = Q .ret st G := rfl
@[simp] theorem goOnM_exit (K : ASt → (Nat → AV) → Prop) (Q : Exit → ASt → (Nat → AV) → Prop) (st : ASt) (G : Nat → AV) (i : Nat) : goOnM K Q (.exit i) st G = Q (.exit i) st G := rfl
@[congr] theorem lazy_outOfM {id : Nat} {Q : Exit → ASt → (Nat → AV) → Prop} {ex ex' : Exit} {st st' : ASt} {G : Nat → AV} (h : mark ex = ex') (h' : st = st') : outOfM id Q ex st G = outOfM id Q ex' st' G := by rw [mark_eq] at h; rw [h, h']
@[simp] theorem outOfM_normal (id : Nat) (Q : Exit → ASt → (Nat → AV) → Prop) (st : ASt) (G : Nat → AV) : outOfM id Q .normal st G = Q .normal st G := rfl
@[simp] theorem outOfM_ret (id : Nat) (Q : Exit → ASt → (Nat → AV) → Prop) (st : ASt) (G : Nat → AV) : outOfM id Q .ret st G = Q .ret st G := rfl
@[simp] theorem outOfM_exit (id : Nat) (Q : Exit → ASt → (Nat → AV) → Prop) (st : ASt) (G : Nat → AV) (i : Nat) : outOfM id Q (.exit i) st G = if i = id then Q .normal st G else Q (.exit i) st G := rfl
@[congr] theorem lazy_inScopeM {Q : Exit → ASt → (Nat → AV) → Prop} {ex ex' : Exit} {st st' : ASt} {G : Nat → AV} (h : mark ex = ex') (h' : st = st') : inScopeM Q ex st G = inScopeM Q ex' st' G := by rw [mark_eq] at h; rw [h, h']
@[simp] theorem inScopeM_normal (Q : Exit → ASt → (Nat → AV) → Prop) (st : ASt) (G : Nat → AV) : inScopeM Q .normal st G = Q .normal st G := rfl
@[simp] theorem inScopeM_ret (Q : Exit → ASt → (Nat → AV) → Prop) (st : ASt) (G : Nat → AV) : inScopeM Q .ret st G = Q .ret st G := rfl
@[simp] theorem inScopeM_exit (Q : Exit → ASt → (Nat → AV) → Prop) (st : ASt) (G : Nat → AV) (i : Nat) : inScopeM Q (.exit i) st G = Q (.exit i) st G := rfl
@[congr] theorem lazy_roundM {α : Type} {Sf : α → ASt} {Gf : α → Nat → AV} {pre lt : α → Prop} {Q : Exit → ASt → (Nat → AV) → Prop} {ex ex' : Exit} {st st' : ASt} {G : Nat → AV} (h : mark ex = ex') (h' : st = st') : roundM Sf Gf pre lt N h0 C Q ex st G = roundM Sf Gf pre lt N h0 C Q ex' st' G := by rw [mark_eq] at h; rw [h, h']
@[simp] theorem roundM_normal {α : Type} (Sf : α → ASt) (Gf : α → Nat → AV) (pre : α → Prop) (lt : α → Prop) (Q : Exit → ASt → (Nat → AV) → Prop) (st' : ASt) (G' : Nat → AV) : roundM Sf Gf pre lt N h0 C Q .normal st' G' = ∃ x', pre x' ∧ lt x' ∧ G' = Gf x' ∧ Weak (CG C G') N h0 st' (Sf x') := rfl
@[simp] theorem roundM_ret {α : Type} (Sf : α → ASt) (Gf : α → Nat → AV) (pre : α → Prop) (lt : α → Prop) (Q : Exit → ASt → (Nat → AV) → Prop) (st' : ASt) (G' : Nat → AV) : roundM Sf Gf pre lt N h0 C Q .ret st' G' = Q .ret st' G' := rfl
@[simp] theorem roundM_exit {α : Type} (Sf : α → ASt) (Gf : α → Nat → AV) (pre : α → Prop) (lt : α → Prop) (Q : Exit → ASt → (Nat → AV) → Prop) (st' : ASt) (G' : Nat → AV) (i : Nat) : roundM Sf Gf pre lt N h0 C Q (.exit i) st' G' = Q (.exit i) st' G' := rfl
theorem AWm_regionM (hS : SigOK C) {id : Nat} {ops : Array Oper} {st : ASt} {G : Nat → AV} {Q : Exit → ASt → (Nat → AV) → Prop} (hok : (ops.toList.all fun o => match o.dst with | some d => decide (d < N) | none => true) = true) (h : aopsM C ops ops.toList st G (Q .normal)) : AWm C N h0 M (.region id ops false) st G Q := fun X w0 β0 H0 a w hl hr => by
  have hd : ∀ o ∈ ops.toList, ∀ d, o.dst = some d → d < N := by
    intro o ho d hd
    have := List.all_eq_true.1 hok o ho
    rw [hd] at this
    simpa using this
  exact wp_region_list (wpList_of_aopsM hS ops.toList hd h hr fun st' G' a' w' hr' hk => ⟨st', G', hk, hr'⟩)
theorem avcM_sound (hS : SigOK C) (hM : C.P.follows .mixedOrders = true) : ∀ (code : Code) {st : ASt} {G : Nat → AV} {Q : Exit → ASt → (Nat → AV) → Prop}, codeOKM C hm hd N code = true → avcM C hm hd N h0 M code st G Q → AWm C N h0 M code st G Q
  | .skip, st, G, Q, _, h => fun X w0 β0 H0 a w hl hr => wp_skip ⟨st, G, h, hr⟩
  | .region id ops draw, st, G, Q, hok, h => by
    unfold avcM at h
    unfold codeOKM at hok
    split at h
    · rename_i hi
      rw [if_pos hi] at hok
      simp only [Bool.and_eq_true, Bool.not_eq_true'] at hok
      obtain ⟨h1, rfl⟩ := hok
      exact AWm_regionM hS h1 h
    · rename_i hi
      rw [if_neg hi, Bool.or_eq_true] at hok
      split at h
      · exact h
      · rename_i hi2
        exact AWm.of fun hO => avc_sound (sigOver hS hO) hM (.region id ops draw) (hok.resolve_left hi2) h
  | .seq x y, st, G, Q, hok, h => by
    simp only [codeOKM, Bool.and_eq_true] at hok
    refine AWm_seq (AWm.mono (avcM_sound hS hM x hok.1 h) fun ex st' G' hq => ?_)
    cases ex with
    | normal => exact avcM_sound hS hM y hok.2 hq
    | _ => exact hq
  | .cond c x y, st, G, Q, hok, h => by
    simp only [codeOKM, Bool.and_eq_true] at hok
    rw [avcM_cond] at h
    refine AWm_cond ?_
    have key : ∀ v : AV, (onBool v fun b => both b (avcM C hm hd N h0 M x st G Q) (avcM C hm hd N h0 M y st G Q)) → onBool v fun b => both b (AWm C N h0 M x st G Q) (AWm C N h0 M y st G Q) := by
      intro v hv
      unfold onBool at hv ⊢
      split at hv
      · exact ⟨fun hb => avcM_sound hS hM x hok.1 (hv.1 hb), fun hb => avcM_sound hS hM y hok.2 (hv.2 hb)⟩
      · exact ⟨⟨fun hb => avcM_sound hS hM x hok.1 (hv.1.1 hb), fun hb => (by cases hb)⟩, ⟨fun hb => (by cases hb), fun hb => avcM_sound hS hM y hok.2 (hv.2.2 hb)⟩⟩
      · exact hv
    exact key _ h
  | .block id b, st, G, Q, hok, h => AWm_block (avcM_sound hS hM b (by simpa only [codeOKM] using hok) h)
  | .exit id, st, G, Q, _, h => fun X w0 β0 H0 a w hl hr => wp_exit ⟨st, G, h, hr⟩
  | .ret, st, G, Q, _, h => fun X w0 β0 H0 a w hl hr => wp_ret ⟨st, G, h, hr⟩
  | .label l, st, G, Q, _, h => fun X w0 β0 H0 a w hl hr => wp_label ⟨st, G, h, hr⟩
  | .scope b, st, G, Q, hok, h => AWm_scope (avcM_sound hS hM b (by simpa only [codeOKM] using hok) h)
  | .loop b, st, G, Q, _, h => h
  | .goto _, _, _, _, _, h => h.elim
  | .rangeFunc .., _, _, _, _, h => h.elim
  | .refuse _, _, _, _, _, h => h.elim
theorem loop_ruleM {α : Type} (hS : SigOK C) (hM : C.P.follows .mixedOrders = true) (hm hd : List Nat) {body : Code} {st : ASt} {G : Nat → AV} {Q : Exit → ASt → (Nat → AV) → Prop} (Sf : α → ASt) (Gf : α → Nat → AV) (pre : α → Prop) (m : α → Nat) (hok : codeOKM C hm hd N body = true)
    (start : ∃ x, pre x ∧ G = Gf x ∧ Weak (CG C G) N h0 st (Sf x)) (step : ∀ x, pre x → avcM C hm hd N h0 M body (Sf x) (Gf x) (roundM Sf Gf pre (fun x' => m x' < m x) N h0 C Q)) : AWm C N h0 M (.loop body) st G Q :=
  AWm_loop Sf Gf pre m start fun x hx => avcM_sound hS hM body hok (step x hx)
end
end Go.Proofs.YtgjljfbohpnfcaaGreat
namespace Go.Proofs.YtgjljfbohpnfcaaGreat
open Go.RowKit Go.ChangeMaps Go.MapKept
set_option linter.unusedVariables false
def postM (C : Ctx) (rs : List ResultVar) (r : AV) (ex : Exit) (st : ASt) (G : Nat → AV) : Prop := postP (CG C G) rs r ex st
@[congr] theorem lazy_postM {C : Ctx} {rs : List ResultVar} {r : AV} {ex ex' : Exit} {st st' : ASt} {G : Nat → AV} (h : mark ex = ex') (h' : st = st') : postM C rs r ex st G = postM C rs r ex' st' G := by rw [mark_eq] at h; rw [h, h']
@[simp] theorem postM_normal (C : Ctx) (rs : List ResultVar) (r : AV) (st : ASt) (G : Nat → AV) : postM C rs r .normal st G = finP (CG C G) rs r st := rfl
@[simp] theorem postM_ret (C : Ctx) (rs : List ResultVar) (r : AV) (st : ASt) (G : Nat → AV) : postM C rs r .ret st G = finP (CG C G) rs r st := rfl
theorem Off.keeps {w0 w0' w : World} (h : Off (fun _ => False) w0 w0') {M : Nat → Prop} (k : Keeps M w0' w) : Keeps M w0 w :=
  ⟨k.os.trans h.os, k.tape.trans h.tape, k.output.trans h.output, by rw [← h.size]; exact k.size, fun b hb hn => (k.block b (by rw [h.size]; exact hb) hn).trans (h.block b id), by unfold Drawn; first | (rw [← h.drawn]; exact k.drawn) | trivial⟩
section
variable {C : Ctx}
theorem pure_of_AWm {f : FuncId} {fn : Func} {body : Code} {rs : List ResultVar} {n : Nat} (hnm : ∀ g k e L, C.G g ≠ .mapof k e L) (hf : C.P.funcs[f]? = some fn) (hb : fn.body = some body) (hrs : fn.results.toList = rs) (hn : fn.ntmps = n) {p : List AV → Option (Prop × AV)}
    (h : ∀ avs ob r, p avs = some (ob, r) → ob → avs.length ≤ n ∧ AWm C n 0 (fun _ => False) body ⟨argsρ 0 (avs.map nrmV), []⟩ C.G (postM C rs r)) : PureOK C.P C.G f p := by
  subst hrs hn
  intro w X args avs0 ob r hX hG hsz0 harg0 hp hob
  obtain ⟨hlen0, hav0⟩ := h avs0 ob r hp hob
  generalize havs : avs0.map nrmV = avs at hav0
  have hlen : avs.length ≤ fn.ntmps := by rw [← havs]; simpa using hlen0
  have hsz : args.size = avs.length := by rw [← havs]; simpa using hsz0
  have harg : ∀ (j : Nat) (u : AV), avs[j]? = some u → ∃ v, args[j]? = some v ∧ RepD w X v u := fun j u hu => by
    rw [← havs, List.getElem?_map] at hu
    simp only [Option.map_eq_some_iff] at hu
    obtain ⟨av, hav, rfl⟩ := hu
    obtain ⟨v, h1, h2⟩ := harg0 j av hav
    exact ⟨v, h1, repD_nrmV h2⟩
  refine calls_of_wp hf hb ?_
  have hMu : ∀ b, Mu X [] [] b → X b := by
    rintro b (h | ⟨l, c, blk, h1, _, _⟩)
    · exact h
    · simp at h1
  have R : HRel w X [] [] := ⟨rfl, fun l bi b h1 _ => by simp at h1, fun l b c h1 => by simp at h1, fun l l' b c c' h1 => by simp at h1, hX⟩
  have hr : RelM C fn.ntmps X w [] [] (fun _ => False) ⟨argsρ 0 avs, []⟩ C.G { tmps := args ++ Array.replicate (fn.ntmps - args.size) undef, defers := [] } w :=
    ⟨w, Off.refl _ _, Over.refl hnm, fun b k e L hL => absurd hL (hnm b k e L), [], R, StepR.refl _ _ _ rfl, trel_args hsz (fun j u hj => let ⟨v, h1, h2⟩ := harg j u hj; ⟨v, h1, .deep (h2.mono fun b _ hb => hMu b hb)⟩), fun g => (hG g).mono fun b _ hb => hMu b hb, by simp; omega, rfl⟩
  refine Code.wp_mono (fun ex a' w' ⟨st', G', hq, hr'⟩ => ?_) (hav0 X w [] [] _ w rfl hr)
  have fin : finP (CG C G') fn.results.toList r st' → bodyPost C.P fn (fun e w' => ∃ v, e = .returned v ∧ Keeps (fun _ => False) w w' ∧ RepD w' X v r) .normal a' w' := by
    unfold finP
    split
    · rename_i ob' r' hres
      rintro ⟨hob', hview⟩
      obtain ⟨w0', o1, _, _, β', R', S', T', G', hN', hdef'⟩ := hr'
      obtain ⟨u, hu, hrep⟩ := aresults_sound R' T' hres hob'
      have hv := (view_sound R' (fun _ => True) 6 hrep (fun _ _ => trivial)).mono (X' := X) fun b _ hb => .inl hb
      have hv := repD_nrmV hv
      rw [hview] at hv
      exact ⟨hdef', u, hu, u, rfl, o1.keeps (S'.keeps.weaken (fun b _ h => by obtain ⟨l, c, blk, h1, _, _⟩ := h; simp at h1)), hv⟩
    · intro h; exact h.elim
  cases ex with
  | normal => exact fin hq
  | ret => exact fin hq
  | _ => exact hq.elim
end
section
variable {C : Ctx} (hS : SigOK C) (hM : C.P.follows .mixedOrders = true) (hnm : ∀ g k e L, C.G g ≠ .mapof k e L) {f : FuncId} {fn : Func} {body : Code} {rs : List ResultVar} {n : Nat} (hf : C.P.funcs[f]? = some fn) (hb : fn.body = some body) (hrs : fn.results.toList = rs) (hn : fn.ntmps = n) (hm hd : List Nat)
include hS hM hnm hf hb hrs hn
theorem pureM1 {α : Type} [Enc α] (hok : codeOKM C hm hd n body = true) (hnn : 1 ≤ n) {pre : α → Prop} {res : α → AV} (h : ∀ a, pre a → avcM C hm hd n 0 (fun _ => False) body ⟨[(0, Enc.enc a)], []⟩ C.G (postM C rs (res a))) : PureOK C.P C.G f (spec1 pre res) :=
  pure_of_AWm hnm hf hb hrs hn fun avs ob r' hp hob => by
    unfold spec1 at hp
    split at hp
    · injection hp with hp; injection hp with e1 e2; subst e1 e2
      have := h _ hob.2
      rw [← hob.1] at this
      exact ⟨hnn, avcM_sound hS hM body hok this⟩
    · cases hp
end
end Go.Proofs.YtgjljfbohpnfcaaGreat


namespace Go.Proofs.YtgjljfbohpnfcaaGreat
open Go.RowKit Go.ChangeMaps Go.MapKept
set_option linter.unusedVariables false
section
variable {C : Ctx} {N h0 : Nat} {M : Nat → Prop} {X : Nat → Prop} {w0 : World} {β0 : List BI} {H0 : List Blk}
theorem relM_turn {st : ASt} {G : Nat → AV} {a : Act} {w : World} (hr : RelM C N X w0 β0 H0 M st G a w) {b : Nat} {k e : TypeId} {L L' : List (Lit × Lit)} {es es' : Array MapEntry} {clock clock' : Nat} (hg : G b = .mapof k e L)
    (hb : w.heap[b]? = some (.map es clock)) (hm : MapRel C.P (setBlock w b (.map es' clock')) b k e L') : RelM C N X w0 β0 H0 M st (upd G b (.mapof k e L')) a (setBlock w b (.map es' clock')) := by
  obtain ⟨w0', o1, o2, o3, β, R, S0, T, Gr, hN, hdef⟩ := hr
  have hG := Gr b
  rw [show (CG C G).G b = .mapof k e L from hg] at hG
  have hXb := hG.2
  have hlt : b < w.heap.size := (Array.getElem?_eq_some_iff.1 hb).1
  refine ⟨setBlock w0' b (.map es' clock'), ⟨o1.os, o1.tape, o1.output, o1.drawn, by simp [setBlock]; exact o1.size, fun c hc => ?_⟩, ⟨fun g => ?_, o2.2⟩, fun c k' e' L' hc => ?_, β, R.off hb, ⟨⟨S0.keeps.os, S0.keeps.tape, S0.keeps.output, by simp only [setBlock, Array.size_setIfInBounds]; exact S0.keeps.size, fun c hc hn => ?_, S0.keeps.drawn⟩, ⟨S0.grow.old, fun l bk c hc => by simp only [setBlock, Array.size_setIfInBounds]; exact S0.grow.at_ l bk c hc⟩, S0.len⟩, fun t => (T t).off hb, fun g => ?_, hN, hdef⟩
  · by_cases hcb : c = b
    · subst hcb
      have h1 : w0.heap.size ≤ c := (o3 c k e L hg).resolve_left hc
      simp only [setBlock]
      rw [Array.getElem?_eq_none (by rw [Array.size_setIfInBounds, o1.size]; exact h1), Array.getElem?_eq_none h1]
    · simp only [setBlock]
      rw [Array.getElem?_setIfInBounds_ne (fun e => hcb e.symm)]
      exact o1.block c hc
  · by_cases hgb : g = b
    · subst hgb
      right
      exact (o2.1 g).resolve_left fun q => o2.2 g _ _ _ (q.symm.trans hg)
    · rw [upd_ne _ _ hgb]; exact o2.1 g
  · by_cases hcb : c = b
    · subst hcb; exact o3 c k e L hg
    · rw [upd_ne _ _ hcb] at hc; exact o3 c _ _ _ hc
  · by_cases hcb : c = b
    · subst hcb
      rw [heap_setBlock_same hb]
      have : c < w0'.heap.size := by simpa [setBlock] using hc
      simp only [setBlock]
      rw [Array.getElem?_setIfInBounds_self_of_lt this]
    · rw [heap_setBlock_other hb _ hcb]
      simp only [setBlock]
      rw [Array.getElem?_setIfInBounds_ne (fun e => hcb e.symm)]
      exact S0.keeps.block c (by simpa [setBlock] using hc) hn
  · by_cases hgb : g = b
    · subst hgb
      show GV C.P _ _ _ (upd G g _ g)
      rw [upd_same]
      exact ⟨hm, hXb⟩
    · have := Gr g
      show GV C.P _ _ _ (upd G b _ g)
      rw [upd_ne _ _ hgb]
      have this : GV C.P w (Mu X β st.H) g (G g) := this
      generalize G g = av at this ⊢
      cases av with
      | mapof k' e' L' => exact ⟨this.1.same (heap_setBlock_other hb _ hgb), this.2⟩
      | _ => exact RepD.off hb (show RepD w _ _ _ from this)
theorem relM_quiet {st : ASt} {G : Nat → AV} {a : Act} {w w' : World} (hr : RelM C N X w0 β0 H0 M st G a w) (hk : Keeps (fun _ => False) w w') (dst : Option Tmp) (u : Value) (hd : ∀ d, dst = some d → d < N) :
    RelM C N X w0 β0 H0 M ⟨putA st.ρ dst .undef, st.H⟩ G (a.put dst u) w' := by
  obtain ⟨w0', o1, o2, o3, β, R, S0, T, Gr, hN, hdef⟩ := hr
  exact ⟨w0', o1, o2, o3, rel_put S0 T Gr hN hdef (R.quiet hk) (StepR.quiet hk R.len) rep_undef dst hd⟩
theorem mapRel_block {P : Program} {w : World} {b : Nat} {k e : TypeId} {L : List (Lit × Lit)} (h : MapRel P w b k e L) : ∃ es clock, w.heap[b]? = some (.map es clock) := by
  obtain ⟨D, ⟨es, clock, h1, _⟩, _⟩ := h
  exact ⟨es, clock, h1⟩
theorem relM_call {st : ASt} {G : Nat → AV} {a : Act} {w w' : World} (hr : RelM C N X w0 β0 H0 M st G a w) {b : Nat} {k e : TypeId} {L L' : List (Lit × Lit)} (hg : G b = .mapof k e L) (hL : MapRel C.P w b k e L) (hL' : MapRel C.P w' b k e L')
    (hk : Keeps (fun q => q = b) w w') (dst : Option Tmp) (u : Value) (hd : ∀ d, dst = some d → d < N) : RelM C N X w0 β0 H0 M ⟨putA st.ρ dst .undef, st.H⟩ (upd G b (.mapof k e L')) (a.put dst u) w' := by
  obtain ⟨es, clock, hb⟩ := mapRel_block hL
  obtain ⟨es', clock', hb'⟩ := mapRel_block hL'
  have h1 := relM_turn hr hg hb (L' := L') (es' := es') (clock' := clock') (hL'.same ((heap_setBlock_same hb _).trans hb'.symm))
  refine relM_quiet h1 ⟨hk.os, hk.tape, hk.output, by simp only [setBlock, Array.size_setIfInBounds]; exact hk.size, fun c hc _ => ?_, hk.drawn⟩ dst u hd
  by_cases hcb : c = b
  · subst hcb
    rw [hb', heap_setBlock_same hb]
  · rw [heap_setBlock_other hb _ hcb]
    exact hk.block c (by simpa [setBlock] using hc) hcb
def CallM (C : Ctx) (ops : Array Oper) (oc : Oper) (Q : ASt → (Nat → AV) → Prop) (st : ASt) (G : Nat → AV) : Prop :=
  ∃ (c : Call) (f : FuncId) (fn : Func) (avs : List AV) (b : Nat) (k e : TypeId) (L L' : List (Lit × Lit)),
    oc.op = .call c ∧ wantG ops st.ρ oc = some true ∧ target (CG C G) st.ρ c = some (f, avs) ∧ C.P.funcs[f]? = some fn ∧ fn.name ≠ "runtime.NumGoroutine" ∧ fn.body.isSome = true ∧ G b = .mapof k e L ∧
    (∀ (X : Nat → Prop) (β : List BI) (w : World) (args : Array Value), HRel w X β st.H → ¬ Mu X β st.H b → (∀ g, GV C.P w (Mu X β st.H) g (C.G g)) → args.size = avs.length →
      (∀ (j : Nat) (u : AV), avs[j]? = some u → ∃ v, args[j]? = some v ∧ Rep w (Mu X β st.H) β st.H v u) → MapRel C.P w b k e L →
      Calls C.P f args w fun en w' => (∃ u, en = .returned u) ∧ Keeps (fun q => q = b) w w' ∧ MapRel C.P w' b k e L') ∧
    Q ⟨putA st.ρ oc.dst .undef, st.H⟩ (upd G b (.mapof k e L'))
def onEnd (P : Program) (ops : Array Oper) (y : List Oper) (Q : Exit → Act → World → Prop) (ex : Exit) (a : Act) (w : World) : Prop := ex = .normal ∧ wpList P ops Q y a w
theorem wp_end {P : Program} {ops : Array Oper} {y : List Oper} {Q : Exit → Act → World → Prop} {o : Oper} {a : Act} {w : World} {K K' : Act → World → Prop} (h : ∀ a w, K a w → K' a w) (hh : o.wp P a w K (onEnd P ops y Q)) : o.wp P a w K' Q := by
  unfold Oper.wp at *
  generalize (execOp a.eval o).run P w = r at *
  cases r with
  | ok n w' =>
    cases n <;> simp only [Oper.upon] at hh ⊢ <;>
      first
        | exact h _ _ hh
        | exact Calls.mono hh (fun e w'' he => by cases e <;> first | exact h _ _ he | (exact absurd he.1 (by simp)) | (obtain ⟨_, _, he⟩ := he; exact absurd he.1 (by simp)))
        | exact Rows.mono hh (fun _ _ he => h _ _ he)
  | halt x w' => cases x <;> simp only [Oper.upon] at hh ⊢ <;> first | exact hh | (exact absurd hh.1 (by simp)) | (obtain ⟨_, _, he⟩ := hh; exact absurd he.1 (by simp))
theorem wpList_app {P : Program} {ops : Array Oper} {Q : Exit → Act → World → Prop} (y : List Oper) : ∀ (x : List Oper) {a : Act} {w : World}, wpList P ops (onEnd P ops y Q) x a w → wpList P ops Q (x ++ y) a w
  | [], a, w, h => h.2
  | o :: r, a, w, h => by
    rw [List.cons_append]
    unfold wpList at h ⊢
    split
    · rename_i hw
      rw [if_pos hw] at h
      rcases h with h | ⟨_, a', w', h⟩
      · exact .inl (wp_end (fun a w h => wpList_app y r h) h)
      · cases h.1
    · rename_i hw
      rw [if_neg hw] at h
      exact wpList_app y r h
theorem AWm_callM (hS : SigOK C) {id : Nat} {pre : List Oper} {oc : Oper} {st : ASt} {G : Nat → AV} {Q : Exit → ASt → (Nat → AV) → Prop} (hok : ((pre ++ [oc]).all fun o => match o.dst with | some d => decide (d < N) | none => true) = true)
    (h : aopsM C (pre ++ [oc]).toArray pre st G (CallM C (pre ++ [oc]).toArray oc (Q .normal))) : AWm C N h0 M (.region id (pre ++ [oc]).toArray false) st G Q := fun X w0 β0 H0 a w hl hr => by
  have hd : ∀ o ∈ pre ++ [oc], ∀ d, o.dst = some d → d < N := by
    intro o ho d hd
    have := List.all_eq_true.1 hok o ho
    rw [hd] at this
    simpa using this
  refine wp_region_list (wpList_app [oc] pre (wpList_of_aopsM hS pre (fun o ho => hd o (List.mem_append_left _ ho)) h hr fun st' G' a' w' hr' hk => ⟨rfl, ?_⟩))
  obtain ⟨c, f, fn, avs, b, k, e, L, L', hop, hw, ht, hf, hn, hb, hg, hc, hq⟩ := hk
  have hr1 := hr'
  obtain ⟨w0', o1, o2, o3, β, R, S0, T, Gr, hN, hdef⟩ := hr'
  obtain ⟨args, hrun, hsz, harg⟩ := target_sound T Gr ht
  have hGb := Gr b
  rw [show (CG C G').G b = .mapof k e L from hg] at hGb
  unfold wpList
  rw [wantG_sound T hw, if_pos rfl]
  refine .inl (wp_enter (C := C) (f := f) (args := args) (by
    obtain ⟨dst, op, type, pos, after, guard⟩ := oc
    simp only at hop
    subst hop
    have := hrun type
    simp only [execOp]
    rw [show (CG C G').P = C.P from rfl] at this
    rw [this, run_callFunc hf hn hb]) ((hc X β w' args R hGb.2 (fun g => GV.over o2 Gr g) hsz harg hGb.1).mono ?_))
  rintro en w2 ⟨⟨u, rfl⟩, hk, hm⟩
  refine ⟨u, rfl, ?_⟩
  unfold wpList
  exact ⟨_, _, hq, relM_call hr1 hg hGb.1 hm hk oc.dst u (hd oc (by simp))⟩
end
end Go.Proofs.YtgjljfbohpnfcaaGreat
namespace Go.Proofs.YtgjljfbohpnfcaaGreat
open Go.RowKit Go.ChangeMaps Go.MapKept
set_option linter.unusedVariables false
theorem Off.keepsM {M : Nat → Prop} {w0 w0' w : World} (h : Off M w0 w0') (k : Keeps M w0' w) : Keeps M w0 w :=
  ⟨k.os.trans h.os, k.tape.trans h.tape, k.output.trans h.output, by rw [← h.size]; exact k.size, fun b hb hn => (k.block b (by rw [h.size]; exact hb) hn).trans (h.block b hn), by unfold Drawn; first | (rw [← h.drawn]; exact k.drawn) | trivial⟩
section
variable {C : Ctx}
theorem mapfn_of_AWm {f : FuncId} {fn : Func} {body : Code} {rs : List ResultVar} {n : Nat} (hnm : ∀ g k e L, C.G g ≠ .mapof k e L) (hf : C.P.funcs[f]? = some fn) (hb : fn.body = some body) (hrs : fn.results.toList = rs) (hn : fn.ntmps = n)
    {w : World} {X : Nat → Prop} {args : Array Value} {avs : List AV} {b : Nat} {k e : TypeId} {L L' : List (Lit × Lit)} {r : AV} (hX : ∀ q, X q → q < w.heap.size) (hXb : ¬ X b) (hG : ∀ g, GV C.P w X g (C.G g)) (hGb : C.G b = .undef)
    (hsz : args.size = avs.length) (harg : ∀ (j : Nat) (u : AV), avs[j]? = some u → ∃ v, args[j]? = some v ∧ RepD w X v u) (hL : MapRel C.P w b k e L) (hlen : avs.length ≤ n)
    (h : AWm C n 0 (fun q => q = b) body ⟨argsρ 0 avs, []⟩ (upd C.G b (.mapof k e L)) fun ex st G => G b = .mapof k e L' ∧ postM C rs r ex st G) :
    Calls C.P f args w fun en w' => (∃ u, en = .returned u) ∧ Keeps (fun q => q = b) w w' ∧ MapRel C.P w' b k e L' := by
  subst hrs hn
  refine calls_of_wp hf hb ?_
  have hMu : ∀ b, Mu X [] [] b → X b := by
    rintro b (h | ⟨l, c, blk, h1, _, _⟩)
    · exact h
    · simp at h1
  have R : HRel w X [] [] := ⟨rfl, fun l bi b h1 _ => by simp at h1, fun l b c h1 => by simp at h1, fun l l' b c c' h1 => by simp at h1, hX⟩
  have hr : RelM C fn.ntmps X w [] [] (fun q => q = b) ⟨argsρ 0 avs, []⟩ (upd C.G b (.mapof k e L)) { tmps := args ++ Array.replicate (fn.ntmps - args.size) undef, defers := [] } w := by
    refine ⟨w, Off.refl _ _, ⟨fun g => ?_, hnm⟩, fun c k' e' L1 hc => ?_, [], R, StepR.refl _ _ _ rfl, trel_args hsz (fun j u hj => let ⟨v, h1, h2⟩ := harg j u hj; ⟨v, h1, .deep (h2.mono fun b _ hb => hMu b hb)⟩), fun g => ?_, by simp; omega, rfl⟩
    · by_cases hg : g = b
      · subst hg; exact .inr hGb
      · rw [upd_ne _ _ hg]; exact .inl rfl
    · by_cases hg : c = b
      · exact .inl hg
      · rw [upd_ne _ _ hg] at hc; exact absurd hc (hnm c _ _ _)
    · by_cases hg : g = b
      · subst hg
        show GV C.P _ _ _ (upd C.G g _ g)
        rw [upd_same]
        exact ⟨hL, fun hx => hXb (hMu _ hx)⟩
      · show GV C.P _ _ _ (upd C.G b _ g)
        rw [upd_ne _ _ hg]
        exact (hG g).mono fun b _ hb => hMu b hb
  refine Code.wp_mono (fun ex a' w' ⟨st', G', hq, hr'⟩ => ?_) (h X w [] [] _ w rfl hr)
  obtain ⟨hg', hq⟩ := hq
  have fin : finP (CG C G') fn.results.toList r st' → bodyPost C.P fn (fun en w' => (∃ u, en = .returned u) ∧ Keeps (fun q => q = b) w w' ∧ MapRel C.P w' b k e L') .normal a' w' := by
    unfold finP
    split
    · rename_i ob' r' hres
      rintro ⟨hob', hview⟩
      obtain ⟨w0', o1, _, _, β', R', S', T', Gr', hN', hdef'⟩ := hr'
      obtain ⟨u, hu, hrep⟩ := aresults_sound R' T' hres hob'
      have hGb' := Gr' b
      rw [show (CG C G').G b = .mapof k e L' from hg'] at hGb'
      exact ⟨hdef', u, hu, ⟨u, rfl⟩, o1.keepsM (S'.keeps.weaken (fun b _ h => by obtain ⟨l, c, blk, h1, _, _⟩ := h; simp at h1)), hGb'.1⟩
    · intro h; exact h.elim
  cases ex with
  | normal => exact fin hq
  | ret => exact fin hq
  | _ => exact hq.elim
end
end Go.Proofs.YtgjljfbohpnfcaaGreat


namespace Go.Proofs.YtgjljfbohpnfcaaGreat
open Go.RowKit Go.ChangeMaps Go.MapKept
set_option linter.unusedVariables false
section
variable {C : Ctx} {N h0 : Nat} {M : Nat → Prop}
def CallRR (C : Ctx) (ops : Array Oper) (oc o2 : Oper) (Q : ASt → (Nat → AV) → Prop) (st : ASt) (G : Nat → AV) : Prop :=
  ∃ (c : Call) (f : FuncId) (fn : Func) (avs : List AV) (d : Tmp) (f2 : FuncId) (fn2 : Func) (tys : Array TypeId) (r : AV),
    oc.op = .call c ∧ oc.dst = some d ∧ wantG ops st.ρ oc = some true ∧ target (CG C G) st.ρ c = some (f, avs) ∧ C.P.funcs[f]? = some fn ∧ fn.name ≠ "runtime.NumGoroutine" ∧ fn.body.isSome = true ∧
    o2.op = .call { callee := .value (.func f2), args := #[.tmp d], argTypes := tys } ∧ o2.guard = none ∧ C.P.funcs[f2]? = some fn2 ∧ fn2.name ≠ "runtime.NumGoroutine" ∧ fn2.body.isSome = true ∧
    (∀ (X : Nat → Prop) (β : List BI) (w : World) (args : Array Value), HRel w X β st.H → (∀ g, GV C.P w (Mu X β st.H) g (G g)) → args.size = avs.length →
      (∀ (j : Nat) (u : AV), avs[j]? = some u → ∃ v, args[j]? = some v ∧ Rep w (Mu X β st.H) β st.H v u) →
      Calls C.P f args w fun en w1 => ∃ v1, en = .returned v1 ∧ Keeps (fun _ => False) w w1 ∧ Calls C.P f2 #[v1] w1 fun en2 w2 => ∃ v, en2 = .returned v ∧ Keeps (fun _ => False) w1 w2 ∧ RepD w2 (Mu X β st.H) v r) ∧
    Q ⟨putA (putA st.ρ oc.dst .undef) o2.dst r, st.H⟩ G
theorem AWm_callRR (hS : SigOK C) {id : Nat} {pre : List Oper} {oc o2 : Oper} {post : List Oper} {st : ASt} {G : Nat → AV} {Q : Exit → ASt → (Nat → AV) → Prop} (hok : ((pre ++ oc :: o2 :: post).all fun o => match o.dst with | some d => decide (d < N) | none => true) = true)
    (h : aopsM C (pre ++ oc :: o2 :: post).toArray pre st G (CallRR C (pre ++ oc :: o2 :: post).toArray oc o2 fun st' G' => aopsM C (pre ++ oc :: o2 :: post).toArray post st' G' (Q .normal))) : AWm C N h0 M (.region id (pre ++ oc :: o2 :: post).toArray false) st G Q := fun X w0 β0 H0 a w hl hr => by
  have hd : ∀ o ∈ pre ++ oc :: o2 :: post, ∀ d, o.dst = some d → d < N := by
    intro o ho d hd
    have := List.all_eq_true.1 hok o ho
    rw [hd] at this
    simpa using this
  refine wp_region_list (wpList_app (oc :: o2 :: post) pre (wpList_of_aopsM hS pre (fun o ho => hd o (List.mem_append_left _ ho)) h hr fun st' G' a' w' hr' hk => ⟨rfl, ?_⟩))
  obtain ⟨c, f, fn, avs, d, f2, fn2, tys, r, hop, hdst, hw, ht, hf, hn, hb, hop2, hgd2, hf2, hn2, hb2, hc, hq⟩ := hk
  obtain ⟨w0', p1, p2, p3, β, R, S0, T, Gr, hN, hdef⟩ := hr'
  obtain ⟨args, hrun, hsz, harg⟩ := target_sound T Gr ht
  have hdN : d < N := hd oc (by simp) d hdst
  unfold wpList
  rw [wantG_sound T hw, if_pos rfl]
  refine .inl (wp_enter (C := C) (f := f) (args := args) (by
    obtain ⟨dst, op, type, pos, after, guard⟩ := oc
    simp only at hop
    subst hop
    have := hrun type
    simp only [execOp]
    rw [show (CG C G').P = C.P from rfl] at this
    rw [this, run_callFunc hf hn hb]) ((hc X β w' args R Gr hsz harg).mono ?_))
  rintro en w2 ⟨v1, rfl, hk1, hc2⟩
  refine ⟨v1, rfl, ?_⟩
  unfold wpList
  have hw2 : Region.wanted o2 (yielded (pre ++ oc :: o2 :: post).toArray (a'.put oc.dst v1).tmps) = true := by
    unfold Region.wanted
    rw [hgd2]
  rw [hw2, if_pos rfl]
  have hv1 : (a'.put oc.dst v1).eval (.tmp d) = v1 := by
    rw [hdst]
    simp [Act.put, Act.eval, Array.getD_eq_getD_getElem?, hN, hdN]
  refine .inl (wp_enter (C := C) (f := f2) (args := #[v1]) (by
    obtain ⟨dst, op, type, pos, after, guard⟩ := o2
    simp only at hop2
    subst hop2
    simp only [execOp]
    have : (do let d' ← resolve (a'.put oc.dst v1).eval { callee := .value (.func f2), args := #[.tmp d], argTypes := tys } type; invoke d'.target d'.args : Sem Next).run C.P w2 = (callFunc f2 #[v1]).run C.P w2 := by
      have e1 : (a'.put oc.dst v1).eval (.func f2) = .func (.func f2) #[] #[] := rfl
      simp [resolve, e1, hv1, Deferred.ofValue, invoke]
    rw [this, run_callFunc hf2 hn2 hb2]) (hc2.mono ?_))
  rintro en w3 ⟨v, rfl, hk2, hm⟩
  refine ⟨v, rfl, ?_⟩
  have k12 : Keeps (fun _ => False) w' w3 := hk1.trans hk2 fun _ _ h => h
  have S := StepR.quiet (β := β) (H := st'.H) k12 R.len
  have T1 : TRel w3 (Mu X β st'.H) β st'.H (a'.put oc.dst v1) (putA st'.ρ oc.dst .undef) := trel_put T S rep_undef oc.dst (fun d h => by rw [hN]; exact hd oc (by simp) d h)
  have G1 : GRel (CG C G') w3 (Mu X β st'.H) := fun g => (Gr g).keep (fun b hb hn => S.keeps.block b hb (fun hm => hn (.inr hm))) S.keeps.size (fun b hb => S.mu b hb)
  have hN1 : (a'.put oc.dst v1).tmps.size = N := by rw [hdst]; simp [Act.put, hN]
  have hdef1 : (a'.put oc.dst v1).defers = [] := by rw [hdst]; exact hdef
  have hr2 : RelM C N X w0 β0 H0 M ⟨putA (putA st'.ρ oc.dst .undef) o2.dst r, st'.H⟩ G' ((a'.put oc.dst v1).put o2.dst v) w3 :=
    ⟨w0', p1, p2, p3, rel_put (st := ⟨putA st'.ρ oc.dst .undef, st'.H⟩) (S0.trans S) T1 G1 hN1 hdef1 (R.quiet k12) (StepR.refl _ _ _ R.len) (.deep hm) o2.dst (hd o2 (by simp))⟩
  exact wpList_of_aopsM hS post (fun o ho => hd o (by simp [ho])) hq hr2 fun st3 G3 a3 w4 hr3 hk3 => ⟨st3, G3, hk3, hr3⟩
end
end Go.Proofs.YtgjljfbohpnfcaaGreat


namespace Go.Proofs.YtgjljfbohpnfcaaGreat
open Go.RowKit Go.ChangeMaps Go.MapKept
set_option linter.unusedVariables false
section
variable {C : Ctx} {N h0 : Nat} {M : Nat → Prop}
theorem AWm_alloc (hS : SigOK C) {id : Nat} {pre post : List Oper} {t d : Nat} {ty : TypeId} {pos : String} {after : Array Edge} {st : ASt} {G : Nat → AV} {Q : Exit → ASt → (Nat → AV) → Prop} {i : TypeInfo} {zv u : Value} (z1 : C.P.info? t = some i) (z2 : i.zero = some zv) (z3 : zv.cells = #[u]) (z4 : u.oneCell' = true) (hsz : szT C.P t = 1)
    (hok : ((pre ++ (⟨some d, .alloc t, ty, pos, after, none⟩ : Oper) :: post).all fun o => match o.dst with | some d => decide (d < N) | none => true) = true)
    (h : aopsM C (pre ++ (⟨some d, .alloc t, ty, pos, after, none⟩ : Oper) :: post).toArray pre st G fun st' G' => aopsM C (pre ++ (⟨some d, .alloc t, ty, pos, after, none⟩ : Oper) :: post).toArray post ⟨(d, .ptr st'.H.length 1 1 0 0) :: st'.ρ, st'.H ++ [⟨t, 1, [[.undef]], true, true⟩]⟩ G' (Q .normal)) :
    AWm C N h0 M (.region id (pre ++ (⟨some d, .alloc t, ty, pos, after, none⟩ : Oper) :: post).toArray false) st G Q := fun X w0 β0 H0 a w hl hr => by
  have hd : ∀ o ∈ pre ++ (⟨some d, .alloc t, ty, pos, after, none⟩ : Oper) :: post, ∀ d, o.dst = some d → d < N := by
    intro o ho d hd
    have := List.all_eq_true.1 hok o ho
    rw [hd] at this
    simpa using this
  refine wp_region_list (wpList_app _ pre (wpList_of_aopsM hS pre (fun o ho => hd o (List.mem_append_left _ ho)) h hr fun st' G' a' w' hr' hq => ⟨rfl, ?_⟩))
  obtain ⟨w0', p1, p2, p3, β, R, S0, T, Gr, hN, hdef⟩ := hr'
  have ha : anew C st'.H t (some [.undef]) = some (True, .ptr st'.H.length 1 1 0 0, st'.H ++ [⟨t, 1, [[.undef]], true, true⟩]) := by
    unfold anew
    simp only
    rw [if_pos ⟨by rw [hsz]; rfl, by decide⟩, hsz]
    rfl
  have hc : CRep w' (Mu X β st'.H) β st'.H zv.cells [.undef] := by
    rw [z3]
    refine ⟨rfl, fun j av hj => ?_⟩
    match j with
    | 0 => simp at hj; subst hj; exact ⟨u, rfl, z4, .deep (.undef u)⟩
    | j + 1 => simp at hj
  obtain ⟨β', h1, h2, h3⟩ := anew_sound R ha hc
  unfold wpList
  rw [if_pos (by rfl)]
  refine .inl (wp_value (C := C) (u := .pointer (some ⟨w'.heap.size, 0, none⟩)) (w' := w'.alloc (.cells zv.cells t)) ?_ ?_)
  · simp [execOp, Instr.alloc, zeroValue, typeInfo, z1, z2, newVar, newRow]
  · have hr2 : RelM C N X w0 β0 H0 M ⟨(d, .ptr st'.H.length 1 1 0 0) :: st'.ρ, st'.H ++ [⟨t, 1, [[.undef]], true, true⟩]⟩ G' (a'.put (some d) (.pointer (some ⟨w'.heap.size, 0, none⟩))) (w'.alloc (.cells zv.cells t)) :=
      ⟨w0', p1, p2, p3, rel_put S0 T Gr hN hdef h1 h2 h3 (some d) (fun d' e => hd ⟨some d, .alloc t, ty, pos, after, none⟩ (List.mem_append_right _ List.mem_cons_self) d' e)⟩
    exact wpList_of_aopsM hS post (fun o ho => hd o (by simp [ho])) hq hr2 fun st3 G3 a3 w3 hr3 hk3 => ⟨st3, G3, hk3, hr3⟩
end
end Go.Proofs.YtgjljfbohpnfcaaGreat


namespace Go.Proofs.YtgjljfbohpnfcaaGreat
open Go.RowKit
set_option linter.unusedVariables false
section
variable {C : Ctx} {N h0 : Nat}
theorem weak_shut {ρ : List (Nat × AV)} {H : List Blk} (l : Nat) {b : Blk} (hb : H[l]? = some b) (ls : List Nat) (hls : ∀ r ∈ b.rows, ∀ c ∈ r, ∀ k ∈ reach H 6 c, k ∈ ls) (hnl : l ∉ ls) : Weak C N h0 ⟨ρ, H⟩ ⟨ρ, (frzL ls 0 H).set l { b with rows := b.rows.map fun r => r.map fun c => nrmC (view H 6 c), deep := true }⟩ := by
  intro X w0 β0 H0 a w hl hr
  obtain ⟨β, R, S0, Tr, G, hN, hdef⟩ := hr
  have hlt := (List.getElem?_eq_some_iff.1 hb).1
  have hlt' : l < (frzL ls 0 H).length := by rw [frzL_length]; exact hlt
  generalize hb' : ({ b with rows := b.rows.map fun r => r.map fun c => nrmC (view H 6 c), deep := true } : Blk) = b'
  have e1 : b'.sz = b.sz := by rw [← hb']
  have e2 : b'.e = b.e := by rw [← hb']
  have e3 : b'.rows = b.rows.map fun r => r.map fun c => nrmC (view H 6 c) := by rw [← hb']
  have e4 : b'.mu = b.mu := by rw [← hb']
  have hget : ∀ k, k ≠ l → ((frzL ls 0 H).set l b')[k]? = (H[k]?).map fun b => if ls.contains k then { b with mu := false } else b := fun k hk => by
    rw [List.getElem?_set_ne (fun h => hk h.symm), frzL_get]
    simp
  have hself : ((frzL ls 0 H).set l b')[l]? = some b' := List.getElem?_set_self hlt'
  have hmu : ∀ k, Mu X β ((frzL ls 0 H).set l b') k → XL X β H (fun l => l ∈ ls) k := by
    rintro k (h | ⟨j, c, blk, h1, h2, h3⟩)
    · exact .inl h
    · by_cases e : j = l
      · subst e
        rw [hself] at h2
        injection h2 with h2
        subst h2
        exact .inr ⟨j, c, b, h1, hb, by rw [← e4]; exact h3, hnl⟩
      · rw [hget j e] at h2
        simp only [Option.map_eq_some_iff] at h2
        obtain ⟨b0, h4, h5⟩ := h2
        subst h5
        split at h3
        · cases h3
        · rename_i hc
          exact .inr ⟨j, c, b0, h1, h4, h3, by simpa using hc⟩
  have S : StepR w β H w β ((frzL ls 0 H).set l b') := by
    refine ⟨Keeps.refl _ _, ⟨fun k b0 h => ?_, fun k bk c h => .inr ⟨c, h⟩⟩, R.len⟩
    by_cases e : k = l
    · subst e
      rw [hb] at h
      injection h with h
      subst h
      exact ⟨b', hself, e1, e2, by rw [e3]; simp, fun _ => rfl, fun h => by rw [← e4]; exact h⟩
    · refine ⟨_, by rw [hget k e, h]; rfl, ?_, ?_, ?_, fun _ => rfl, ?_⟩ <;> split <;> simp
  have R' : HRel w X β ((frzL ls 0 H).set l b') := by
    refine ⟨by rw [R.len, List.length_set, frzL_length], fun k bi b0 h1 h2 => ?_, R.lt, R.inj, R.base⟩
    by_cases e : k = l
    · subst e
      rw [hself] at h2
      injection h2 with h2
      subst h2
      have hB := R.blk k bi b h1 hb
      cases bi with
      | nil => exact ⟨by rw [e3, hB.1]; rfl, by rw [e1]; exact hB.2⟩
      | lies bk cap =>
        obtain ⟨cur, k1, k2, k3, k4, k5, k6, k7⟩ := hB
        refine ⟨cur, by rw [e2]; exact k1, by rw [e1]; exact k2, by rw [e3]; simpa using k3, k4, by rw [e1]; exact k5, fun r hr => ?_, fun i j r av hr hj => ?_⟩
        · rw [e3] at hr
          obtain ⟨r0, hr0, rfl⟩ := List.mem_map.1 hr
          rw [e1, List.length_map]
          exact k6 r0 hr0
        · rw [e3, List.getElem?_map, Option.map_eq_some_iff] at hr
          obtain ⟨r0, hr0, rfl⟩ := hr
          rw [List.getElem?_map, Option.map_eq_some_iff] at hj
          obtain ⟨av0, hj0, rfl⟩ := hj
          obtain ⟨v, q1, q2, q3, q4⟩ := k7 i j r0 av0 hr0 hj0
          have hv := repD_nrmC ((view_sound R (fun l => l ∈ ls) 6 q3 (hls r0 (List.mem_of_getElem? hr0) av0 (List.mem_of_getElem? hj0))).mono (X' := Mu X β ((frzL ls 0 H).set k b')) fun b _ hb => hmu b hb)
          exact ⟨v, by rw [e1]; exact q1, q2, .deep hv, fun _ => hv⟩
    · rw [hget k e] at h2
      simp only [Option.map_eq_some_iff] at h2
      obtain ⟨b1, h3, h4⟩ := h2
      have hB := (R.blk k bi b1 h1 h3).keep S fun _ _ _ => rfl
      subst h4
      split
      · cases bi with
        | nil => exact hB
        | lies bk c => exact hB
      · exact hB
  exact ⟨β, R', S0.trans S, fun k => (Tr k).keep S, fun g => (G g).keep (fun b hb hn => S.keeps.block b hb (fun hm => hn (.inr hm))) S.keeps.size (fun b hb => S.mu b hb), hN, hdef⟩
theorem weak_nrmT {ρ : List (Nat × AV)} {H : List Blk} (t sz : Nat) (rows : List (List AV)) (h : getA ρ t = .slice sz true rows) : Weak C N h0 ⟨ρ, H⟩ ⟨(t, .slice sz false rows) :: ρ, H⟩ := by
  intro X w0 β0 H0 a w hl hr
  obtain ⟨β, R, S0, Tr, G, hN, hdef⟩ := hr
  refine ⟨β, R, S0, fun k => ?_, G, hN, hdef⟩
  by_cases e : t = k
  · subst e
    have h1 := Tr t
    simp only at h1
    rw [h] at h1
    rw [show getA ((t, AV.slice sz false rows) :: ρ) t = .slice sz false rows from by simp [getA]]
    exact .deep (repD_nrmC (rep_slice h1))
  · rw [show getA ((t, AV.slice sz false rows) :: ρ) k = getA ρ k from by simp [getA, e]]
    exact Tr k
end
end Go.Proofs.YtgjljfbohpnfcaaGreat


namespace Go.Proofs.YtgjljfbohpnfcaaGreat
open Go.RowKit
set_option linter.unusedVariables false
structure BK (σ : Type) where
  B : σ → Blk
  un : Blk → σ
  sz : Nat
  e : TypeId
  un_B : ∀ s, un (B s) = s
  hsz : ∀ s, (B s).sz = sz
  he : ∀ s, (B s).e = e
  hmu : ∀ s, (B s).mu = true
  hdeep : ∀ s, (B s).deep = true
  hlen : ∀ s, (B s).rows.length = 1
section
variable {σ : Type} (K : BK σ)
def gM (f : List AV → Option ((σ → Prop) × (σ → σ))) : List AV → List Blk → Option (Prop × AV × List Blk) := fun args H =>
  match args with
  | .ptr l n sz i g :: rest => if n = 1 ∧ sz = K.sz ∧ i = 0 ∧ g = 0 ∧ rest.all AV.deepArg = true then
      match H[l]?, f rest with
      | some k, some (p, st) => some (k = K.B (K.un k) ∧ p (K.un k), .tup [], H.set l (K.B (st (K.un k))))
      | _, _ => none
    else none
  | _ => none
def gM1 (f : List AV → Option ((σ → Prop) × (σ → σ))) : List AV → List Blk → Option (Prop × AV × List Blk) := fun args H =>
  match args, H with
  | .ptr 0 n sz i g :: rest, [k] => if n = 1 ∧ sz = K.sz ∧ i = 0 ∧ g = 0 ∧ rest.all AV.deepArg = true then
      match f rest with
      | some (p, st) => some (k = K.B (K.un k) ∧ p (K.un k), .tup [], [K.B (st (K.un k))])
      | _ => none
    else none
  | _, _ => none
theorem gM_eq {f : List AV → Option ((σ → Prop) × (σ → σ))} {l : Nat} {rest : List AV} {H : List Blk} {s : σ} {p : σ → Prop} {st : σ → σ} (hl : H[l]? = some (K.B s)) (hf : f rest = some (p, st)) (hd : rest.all AV.deepArg = true) :
    gM K f (.ptr l 1 K.sz 0 0 :: rest) H = some (p s, .tup [], H.set l (K.B (st s))) := by
  simp [gM, hl, hf, hd, K.un_B]
theorem gM1_inv {f : List AV → Option ((σ → Prop) × (σ → σ))} {args : List AV} {H : List Blk} {ob : Prop} {r : AV} {H' : List Blk} (h : gM1 K f args H = some (ob, r, H')) (hob : ob) :
    ∃ rest s p st, args = .ptr 0 1 K.sz 0 0 :: rest ∧ H = [K.B s] ∧ f rest = some (p, st) ∧ p s ∧ r = .tup [] ∧ H' = [K.B (st s)] ∧ rest.all AV.deepArg = true := by
  unfold gM1 at h
  split at h
  · rename_i k
    split at h
    · rename_i hc
      obtain ⟨rfl, rfl, rfl, rfl, hd⟩ := hc
      split at h
      · rename_i hf
        simp only [Option.some.injEq, Prod.mk.injEq] at h
        obtain ⟨h1, h2, h3⟩ := h
        subst h1
        exact ⟨_, K.un k, _, _, rfl, by rw [← hob.1], hf, hob.2, h2.symm, h3.symm, hd⟩
      · cases h
    · cases h
  · cases h
theorem gen_frame {P : Program} {G : Nat → AV} {fn : FuncId} {f : List AV → Option ((σ → Prop) × (σ → σ))} (h : GenOK P G fn (gM1 K f)) : GenOK P G fn (gM K f) := by
  intro w X β H args avs ob r H' R hG hsz harg hg hob
  unfold gM at hg
  split at hg
  case h_2 => cases hg
  rename_i l n sz i g rest
  split at hg
  case isFalse => cases hg
  rename_i hc
  obtain ⟨rfl, rfl, rfl, rfl, hd⟩ := hc
  split at hg
  case h_2 => cases hg
  rename_i k p st hl hf
  simp only [Option.some.injEq, Prod.mk.injEq] at hg
  obtain ⟨rfl, rfl, rfl⟩ := hg
  obtain ⟨hk, hp⟩ := hob
  generalize K.un k = s at *
  subst hk
  obtain ⟨v0, ha0, hr0⟩ := harg 0 _ rfl
  obtain ⟨a, b, rfl, hb, hn, hx⟩ := rep_ptr hr0
  rw [hl] at hb
  injection hb with hb
  subst hb
  obtain ⟨bk, cap, hβ, rfl⟩ := hx (K.hlen s) (K.hsz s) Nat.zero_lt_one
  have hllt : l < H.length := (List.getElem?_eq_some_iff.1 hl).1
  let X1 : Nat → Prop := fun q => Mu X β H q ∧ q ≠ bk
  have hmu1 : ∀ (t : σ) q, Mu X1 [BI.lies bk cap] [K.B t] q → Mu X β H q := by
    rintro t q (h | ⟨j, c, blk, h1, h2, h3⟩)
    · exact h.1
    · match j, h1 with
      | 0, h1 =>
        simp at h1
        obtain ⟨rfl, rfl⟩ := h1
        exact .inr ⟨l, cap, _, hβ, hl, K.hmu s⟩
      | j + 1, h1 => simp at h1
  have hB := R.blk l _ _ hβ hl
  have R1 : HRel w X1 [BI.lies bk cap] [K.B s] := by
    refine ⟨rfl, fun j bi b h1 h2 => ?_, fun j b c h1 => ?_, fun j j' b c c' h1 h2 => ?_, fun q hq => R.mu_lt q hq.1⟩
    · match j, h1, h2 with
      | 0, h1, h2 =>
        simp at h1 h2
        subst h1 h2
        obtain ⟨cur, k1, k2, k3, k4, k5, k6, k7⟩ := hB
        refine ⟨cur, k1, k2, k3, k4, k5, k6, fun i j r av hr hj => ?_⟩
        obtain ⟨v, q1, q2, q3, q4⟩ := k7 i j r av hr hj
        have hv := (q4 (K.hdeep s)).mono (X' := Mu X1 [BI.lies bk cap] [K.B s]) fun b _ hb => hmu1 s b hb
        exact ⟨v, q1, q2, .deep hv, fun _ => hv⟩
      | j + 1, h1, _ => simp at h1
    · match j, h1 with
      | 0, h1 =>
        simp at h1
        obtain ⟨rfl, rfl⟩ := h1
        exact ⟨(R.lt l bk cap hβ).1, fun hx => hx.2 rfl⟩
      | j + 1, h1 => simp at h1
    · match j, j', h1, h2 with
      | 0, 0, _, _ => rfl
      | j + 1, _, h1, _ => simp at h1
      | 0, j' + 1, _, h2 => simp at h2
  have hcall := h w X1 [BI.lies bk cap] [K.B s] args (.ptr 0 1 K.sz 0 0 :: rest) (K.B s = K.B (K.un (K.B s)) ∧ p (K.un (K.B s))) (.tup []) [K.B (st (K.un (K.B s)))] R1 (fun k => (hG k).mono fun b _ hb => hmu1 s b hb) hsz (fun j u hj => ?_) (by simp [gM1, hf, hd]) (by rw [K.un_B]; exact ⟨rfl, hp⟩)
  case refine_1 =>
    match j, hj with
    | 0, hj =>
      simp at hj
      subst hj
      exact ⟨_, ha0, .ptr 0 1 K.sz 0 0 _ (K.B s) rfl (by rw [K.hlen s]; exact Nat.le_refl _) fun _ _ _ => ⟨bk, cap, rfl, rfl⟩⟩
    | j + 1, hj =>
      obtain ⟨v, h1, h2⟩ := harg (j + 1) u (by simpa using hj)
      have hdu : u.deepArg = true := List.all_eq_true.1 hd u (List.mem_of_getElem? (by simpa using hj))
      exact ⟨v, h1, .deep ((rep_deepArg hdu h2).mono fun b _ hb => hmu1 s b hb)⟩
  rw [K.un_B] at hcall
  refine hcall.mono ?_
  rintro en w' ⟨v, β1, rfl, R1', S1, hv⟩
  have hβ1 : β1 = [BI.lies bk cap] := by
    obtain ⟨b', e1, _, _, _, e2, _⟩ := S1.grow.old 0 _ rfl
    simp at e1
    have e3 := e2 (by rw [← e1, K.hlen, K.hlen])
    have hlen := R1'.len
    match β1, hlen, e3 with
    | [x], _, e3 => simp at e3; rw [e3]
  subst hβ1
  have hl' : (H.set l (K.B (st s)))[l]? = some (K.B (st s)) := List.getElem?_set_self hllt
  have hne : ∀ j, j ≠ l → (H.set l (K.B (st s)))[j]? = H[j]? := fun j hj => List.getElem?_set_ne fun e => hj e.symm
  have hMu : ∀ q, Mu X β (H.set l (K.B (st s))) q → Mu X β H q := by
    rintro q (h | ⟨j, c, blk, h1, h2, h3⟩)
    · exact .inl h
    · by_cases e : j = l
      · subst e; exact .inr ⟨j, c, _, h1, hl, K.hmu s⟩
      · rw [hne j e] at h2; exact .inr ⟨j, c, blk, h1, h2, h3⟩
  have hMu1 : ∀ q, Mu X β (H.set l (K.B (st s))) q → Mu X1 [BI.lies bk cap] [K.B (st s)] q := fun q hq => by
    by_cases e : q = bk
    · subst e; exact .inr ⟨0, cap, _, rfl, rfl, K.hmu _⟩
    · exact .inl ⟨hMu q hq, e⟩
  have S : StepR w β H w' β (H.set l (K.B (st s))) := by
    refine ⟨S1.keeps.weaken fun q hq hm => ?_, ⟨fun j b0 h => ?_, fun j bk c h => .inr ⟨c, h⟩⟩, R.len⟩
    · obtain ⟨j, c, blk, h1, h2, h3⟩ := hm
      match j, h1 with
      | 0, h1 =>
        simp at h1
        obtain ⟨rfl, rfl⟩ := h1
        exact ⟨l, cap, _, hβ, hl, K.hmu s⟩
      | j + 1, h1 => simp at h1
    · by_cases e : j = l
      · subst e
        rw [hl] at h
        injection h with h
        subst h
        exact ⟨_, hl', by rw [K.hsz, K.hsz], by rw [K.he, K.he], by rw [K.hlen, K.hlen]; exact Nat.le_refl _, fun _ => rfl, fun _ => K.hmu s⟩
      · exact ⟨b0, (hne j e).trans h, rfl, rfl, Nat.le_refl _, fun _ => rfl, id⟩
  have R' : HRel w' X β (H.set l (K.B (st s))) := by
    refine ⟨by rw [R.len, List.length_set], fun j bi b0 h1 h2 => ?_, fun j b c h => ⟨Nat.lt_of_lt_of_le (R.lt j b c h).1 S1.keeps.size, (R.lt j b c h).2⟩, R.inj, fun q hq => Nat.lt_of_lt_of_le (R.base q hq) S1.keeps.size⟩
    by_cases e : j = l
    · subst e
      rw [hl'] at h2
      injection h2 with h2
      subst h2
      rw [hβ] at h1
      injection h1 with h1
      subst h1
      obtain ⟨cur, k1, k2, k3, k4, k5, k6, k7⟩ := R1'.blk 0 _ _ rfl rfl
      refine ⟨cur, k1, k2, k3, k4, k5, k6, fun i j r av hr hj => ?_⟩
      obtain ⟨v, q1, q2, q3, q4⟩ := k7 i j r av hr hj
      have hv := (q4 (K.hdeep _)).mono fun b _ hb => hMu1 b hb
      exact ⟨v, q1, q2, .deep hv, fun _ => hv⟩
    · rw [hne j e] at h2
      refine (R.blk j bi b0 h1 h2).keep S fun bk' c hbi => ?_
      subst hbi
      refine S1.keeps.block bk' (R.lt j bk' c h1).1 fun hm => ?_
      obtain ⟨i, c', blk, g1, g2, g3⟩ := hm
      match i, g1 with
      | 0, g1 =>
        simp at g1
        obtain ⟨rfl, rfl⟩ := g1
        exact e (R.inj j l bk c cap h1 hβ)
      | i + 1, g1 => simp at g1
  refine ⟨v, β, rfl, R', S, ?_⟩
  obtain ⟨cs, val, rfl, c1, _, _⟩ := rep_tup hv
  exact .tup cs [] val c1 (fun j hj => by simp at hj) (fun j u hj => by simp at hj)
end
end Go.Proofs.YtgjljfbohpnfcaaGreat
