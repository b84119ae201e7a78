/-
  Texts joined.
-/
import Derived.Test.YtfoipbjhaiimlaaGreatDoorV2
import Derived.Scope
import Derived.Deep.LoopGhost
import Derived.Deep.Slices
import Derived.ChangeSame
import Derived.Below
import Derived.Test.YtfoipbjhaiimlaaGreatDoorChecked
import Derived.Laws.Externs
import Derived.Lib.Mul64
namespace Go.Proofs.YtfoipbjhaiimlaaGreatDoor
open List (all_eq_true append_nil getD_eq_getElem?_getD getElem?_eq_getElem getElem?_map getElem?_set_ne getElem?_take map_cons map_map mem_cons mem_cons_of_mem mem_map mem_of_getElem? mem_range)
open Nat (div_add_mod le_refl le_trans lt_or_ge mod_lt pow_add succ_ne_self zero_add zero_le)
open Option (getD_some map_eq_some_iff)
open Int (dvd_mul_of_dvd_right eq_ofNat_of_zero_le fdiv_eq_ediv_of_nonneg gcd_dvd_left gcd_dvd_right gcd_eq_one_iff gcd_mul_left mul_tdiv_cancel_left natAbs_mul natAbs_natCast natCast_mul)
open _root_.Go.Proofs.Tryz
noncomputable section
set_option maxHeartbeats 16000000
open Go.RowKit
def ci (C : Ctx) (N : Nat) : Code -> Bool
 | .region _ ops draw => (ops.toList.all λ o => match o.dst with | some d => decide (d < N) | none => true) && (!draw || DQ C ops)
 | .seq a b => ci C N a && ci C N b
 | .cond _ a b => ci C N a && ci C N b
 | .block _ b => ci C N b
 | .loop b => ci C N b
 | .scope b => ci C N b
 | _ => true
def AW (C : Ctx) (N h0 : Nat) (code : Code) (st : ASt) (Q : Exit -> ASt -> Prop) : Prop :=
 ∀ (X : Nat -> Prop) (w0 : World) (β0 : List BI) (H0 : List Blk) (a : Act) (w : World), H0.length = h0 -> Rel C N X w0 β0 H0 st a w -> code.wp C.P (λ ex a' w' => ∃ st', Q ex st' /\ Rel C N X w0 β0 H0 st' a' w') a w
def Weak (C : Ctx) (N h0 : Nat) (st st' : ASt) : Prop :=
 ∀ (X : Nat -> Prop) (w0 : World) (β0 : List BI) (H0 : List Blk) (a : Act) (w : World), H0.length = h0 -> Rel C N X w0 β0 H0 st a w -> Rel C N X w0 β0 H0 st' a w
def avc (C : Ctx) (N h0 : Nat) : Code -> ASt -> (Exit -> ASt -> Prop) -> Prop
 | .skip, st, Q => Q .normal st
 | .region _ ops _, st, Q => gQ C ops ops.toList st (Q .normal)
 | .seq a b, st, Q => avc C N h0 a st λ ex st' => match ex with | .normal => avc C N h0 b st' Q | e => Q e st'
 | .cond c a b, st, Q => match aev C st.ρ 0 c with | .bool x => (x = true -> avc C N h0 a st Q) /\ (x = false -> avc C N h0 b st Q) | .anyb => avc C N h0 a st Q /\ avc C N h0 b st Q | _ => False
 | .block id b, st, Q => avc C N h0 b st λ ex st' => match ex with | .exit j => if j = id then Q .normal st' else Q (.exit j) st' | e => Q e st'
 | .exit id, st, Q => Q (.exit id) st
 | .ret, st, Q => Q .ret st
 | .label _, st, Q => Q .normal st
 | .scope b, st, Q => avc C N h0 b st λ ex st' => match ex with | .goto _ => False | e => Q e st'
 | .loop b, st, Q => AW C N h0 (.loop b) st Q
 | _, _, _ => False
section
variable {C : Ctx} {N h0 : Nat}
theorem AW.mono {code : Code} {st : ASt} {Q Q' : Exit -> ASt -> Prop} (h : AW C N h0 code st Q) (hq : ∀ ex st', Q ex st' -> Q' ex st') : AW C N h0 code st Q' :=
 λ X w0 β0 H0 a w hl hr => Code.wp_mono (λ _ _ _ ⟨st', hq', hr'⟩ => ⟨st', hq _ _ hq', hr'⟩) (h X w0 β0 H0 a w hl hr)
theorem Weak.refl (st : ASt) : Weak C N h0 st st := λ _ _ _ _ _ _ _ h => h
theorem Weak.trans {a b c : ASt} (h : Weak C N h0 a b) (h' : Weak C N h0 b c) : Weak C N h0 a c := λ X w0 β0 H0 x w hl hr => h' X w0 β0 H0 x w hl (h X w0 β0 H0 x w hl hr)
theorem AW.weak {code : Code} {st st' : ASt} {Q : Exit -> ASt -> Prop} (hw : Weak C N h0 st st') (h : AW C N h0 code st' Q) : AW C N h0 code st Q :=
 λ X w0 β0 H0 a w hl hr => h X w0 β0 H0 a w hl (hw X w0 β0 H0 a w hl hr)
theorem eu : ∀ (code : Code) {st : ASt} {Q Q' : Exit -> ASt -> Prop}, avc C N h0 code st Q -> (∀ ex st', Q ex st' -> Q' ex st') -> avc C N h0 code st Q'
 | .skip, st, Q, Q', h, hq => hq _ _ h
 | .region _ ops _, st, Q, Q', h, hq => by
  simp only [avc] at h ⊢
  have key : ∀ (l : List Oper) (st : ASt) (K K' : ASt -> Prop), (∀ s, K s -> K' s) -> gQ C ops l st K -> gQ C ops l st K' := by
   intro l
   induction l with
   | nil => intro st K K' hk h; exact hk st h
   | cons o r ih =>
    intro st K K' hk h
    unfold gQ at h ⊢
    split at h
    ·exact h
    ·refine ⟨λ hg => ?_, λ hg => ih _ K K' hk (h.2 hg)⟩
     have h := h.1 hg
     split at h
     ·exact ⟨h.1, ih _ K K' hk h.2⟩
     ·exact h
  exact key _ _ _ _ (λ s => hq .normal s) h
 | .seq a b, st, Q, Q', h, hq => by
  simp only [avc] at h ⊢
  refine eu a h λ ex st' h => ?_
  cases ex <;> first | exact eu b h hq | exact hq _ _ h
 | .cond c a b, st, Q, Q', h, hq => by
  simp only [avc] at h ⊢
  split at h
  ·exact ⟨λ hx => eu a (h.1 hx) hq, λ hx => eu b (h.2 hx) hq⟩
  ·exact ⟨eu a h.1 hq, eu b h.2 hq⟩
  ·exact h
 | .block id b, st, Q, Q', h, hq => by
  simp only [avc] at h ⊢
  refine eu b h λ ex st' h => ?_
  cases ex with
  | exit j =>
   simp only at h ⊢
   split
   ·rename_i e; rw [if_pos e] at h; exact hq _ _ h
   ·rename_i e; rw [if_neg e] at h; exact hq _ _ h
  | _ => exact hq _ _ h
 | .exit id, st, Q, Q', h, hq => hq _ _ h
 | .ret, st, Q, Q', h, hq => hq _ _ h
 | .label _, st, Q, Q', h, hq => hq _ _ h
 | .scope b, st, Q, Q', h, hq => by
  simp only [avc] at h ⊢
  refine eu b h λ ex st' h => ?_
  cases ex <;> first | exact hq _ _ h | exact h
 | .loop b, st, Q, Q', h, hq => AW.mono h hq
 | .goto _, _, _, _, h, _ => h
 | .rangeFunc .., _, _, _, h, _ => h
 | .refuse _, _, _, _, h, _ => h
theorem bm (hS : au C) (hM : C.P.follows .mixedOrders = true) : ∀ (code : Code) {st : ASt} {Q : Exit -> ASt -> Prop}, ci C N code = true -> avc C N h0 code st Q -> AW C N h0 code st Q
 | .skip, st, Q, _, h => λ X w0 β0 H0 a w hl hr => wp_skip ⟨st, h, hr⟩
 | .region id ops draw, st, Q, hok, h => λ X w0 β0 H0 a w hl hr => by
  simp only [ci, Bool.and_eq_true, Bool.or_eq_true, Bool.not_eq_true'] at hok
  have hd : ∀ o ∈ ops.toList, ∀ d, o.dst = some d -> d < N := by
   intro o ho d hd
   have := all_eq_true.1 hok.1 o ho
   rw [hd] at this
   simpa using this
  simp only [avc] at h
  cases draw with
  | false => exact wp_region_list (iU hS ops.toList hd h hr λ st' a' w' hr' hk => ⟨st', hk, hr'⟩)
  | true =>
   have hok2 := hok.2.resolve_left (by simp)
   obtain ⟨B, F, hfull⟩ := BH hok2
   obtain ⟨v, ρ, H, T, hK⟩ := sI ops.toList 0 st (Q .normal) (λ j => by simp) (zero_le _) h
   refine wp_region_any hM ?_
   obtain ⟨β, R, S0, Tr, G, hN, hdef⟩ := hr
   have hk : Keeps (λ _ => False) w { w with drawn := w.drawn + 1 } := Keeps.drew _ w
   have hr' : Rel C N X w0 β0 H0 ⟨st.ρ, st.H⟩ a { w with drawn := w.drawn + 1 } :=
    ⟨β, R.quiet hk, S0.trans (StepR.quiet hk R.len), λ t => (Tr t).keep (StepR.quiet hk R.len), λ g => (G g).keep (λ b hb hn => hk.block b hb (λ h => h)) hk.size (λ b _ h => h), hN, hdef⟩
   refine mg hS (λ i hi d hd' => ?_) T F (GF T F hfull) (λ a' w' hr => ⟨_, hK, hr⟩) ops.size (Array.replicate ops.size false) st.ρ st.H a _ (by simp) ?_ (le_trans List.countP_le_length (by simp)) hr'
   ·refine hd (aE ops i) ?_ d hd'
    unfold aE
    rw [Array.getD_eq_getD_getElem?, Array.getElem?_eq_getElem hi]
    exact Array.mem_toList_iff.2 (Array.getElem_mem hi)
   ·have hno : ∀ i, ¬ ((Array.replicate ops.size false).getD i false = true) := by
     intro i
     rw [Array.getD_eq_getD_getElem?]
     rcases lt_or_ge i ops.size with h | h
     ·simp [h]
     ·simp [Array.getElem?_eq_none (show (Array.replicate ops.size false).size <= i by simpa using h)]
    refine ⟨λ i _ h => absurd h (hno i), λ i _ h => absurd h (hno i), λ t _ => by rw [T.ρ0], λ k hk hsep => ?_⟩
    rw [<- T.H0]
    refine yD T (zero_le _) hk λ e he1 he2 => ⟨λ h => by omega, λ h => absurd ((hsep e he1 he2).2 h) (hno e)⟩
 | .seq x y, st, Q, hok, h => λ X w0 β0 H0 a w hl hr => by
  simp only [ci, Bool.and_eq_true] at hok
  simp only [avc] at h
  refine wp_seq (Code.wp_mono (λ ex a' w' ⟨st', hq, hr'⟩ => ?_) (bm hS hM x hok.1 h X w0 β0 H0 a w hl hr))
  cases ex with
  | normal => exact bm hS hM y hok.2 hq X w0 β0 H0 a' w' hl hr'
  | _ => exact ⟨st', hq, hr'⟩
 | .cond c x y, st, Q, hok, h => λ X w0 β0 H0 a w hl hr => by
  simp only [ci, Bool.and_eq_true] at hok
  simp only [avc] at h
  split at h
  ·rename_i b hb
   have hr0 := hr
   obtain ⟨β, R, S0, Tr, G, hN, hdef⟩ := hr0
   have hE := bq Tr G 0 c
   rw [hb] at hE
   exact wp_cond_split (ct hE) (λ ht => bm hS hM x hok.1 (h.1 ht) X w0 β0 H0 a w hl hr) (λ hf => bm hS hM y hok.2 (h.2 hf) X w0 β0 H0 a w hl hr)
  ·rename_i hb
   have hr0 := hr
   obtain ⟨β, R, S0, Tr, G, hN, hdef⟩ := hr0
   have hE := bq Tr G 0 c
   rw [hb] at hE
   obtain ⟨b, hb'⟩ := mz hE
   exact wp_cond_split hb' (λ _ => bm hS hM x hok.1 h.1 X w0 β0 H0 a w hl hr) (λ _ => bm hS hM y hok.2 h.2 X w0 β0 H0 a w hl hr)
  ·exact h.elim
 | .block id b, st, Q, hok, h => λ X w0 β0 H0 a w hl hr => by
  simp only [ci] at hok
  simp only [avc] at h
  refine wp_block (Code.wp_mono (λ ex a' w' ⟨st', hq, hr'⟩ => ?_) (bm hS hM b hok h X w0 β0 H0 a w hl hr))
  cases ex with
  | exit j =>
   simp only [Exit.inBlock] at hq ⊢
   split
   ·rename_i e; rw [if_pos e] at hq; exact ⟨st', hq, hr'⟩
   ·rename_i e; rw [if_neg e] at hq; exact ⟨st', hq, hr'⟩
  | _ => exact ⟨st', hq, hr'⟩
 | .exit id, st, Q, _, h => λ X w0 β0 H0 a w hl hr => wp_exit ⟨st, h, hr⟩
 | .ret, st, Q, _, h => λ X w0 β0 H0 a w hl hr => wp_ret ⟨st, h, hr⟩
 | .label _, st, Q, _, h => λ X w0 β0 H0 a w hl hr => wp_label ⟨st, h, hr⟩
 | .scope b, st, Q, hok, h => λ X w0 β0 H0 a w hl hr => by
  simp only [ci] at hok
  simp only [avc] at h
  refine wp_scope_straight (Code.wp_mono (λ ex a' w' ⟨st', hq, hr'⟩ => ?_) (bm hS hM b hok h X w0 β0 H0 a w hl hr))
  cases ex with
  | goto l => exact hq
  | _ => exact ⟨st', hq, hr'⟩
 | .loop b, st, Q, _, h => h
 | .goto _, _, _, _, h => h.elim
 | .rangeFunc .., _, _, _, h => h.elim
 | .refuse _, _, _, _, h => h.elim
theorem M2 {α : Type} (hS : au C) (hM : C.P.follows .mixedOrders = true) {body : Code} (hok : ci C N body = true) {st : ASt} {Q : Exit -> ASt -> Prop} (Sf : α -> ASt) (pre : α -> Prop) (m : α -> Nat)
  (start : ∃ x, pre x /\ Weak C N h0 st (Sf x))
  (step : ∀ x, pre x -> avc C N h0 body (Sf x) λ ex st' => match ex with | .normal => ∃ x', pre x' /\ m x' < m x /\ Weak C N h0 st' (Sf x') | e => Q e st') : AW C N h0 (.loop body) st Q := by
 intro X w0 β0 H0 a w hl hr
 obtain ⟨x0, hx0, hw0⟩ := start
 refine wp_loop_ghost (λ n a w => ∃ x, m x = n /\ pre x /\ Rel C N X w0 β0 H0 (Sf x) a w) (m x0) ⟨x0, rfl, hx0, hw0 X w0 β0 H0 a w hl hr⟩ ?_
 rintro n a w ⟨x, rfl, hx, hr⟩
 refine Code.wp_mono (λ ex a' w' ⟨st', hq, hr'⟩ => ?_) (bm hS hM body hok (step x hx) X w0 β0 H0 a w hl hr)
 cases ex with
 | normal =>
  obtain ⟨x', hx', hlt, hw⟩ := hq
  exact ⟨m x', hlt, x', rfl, hx', hw X w0 β0 H0 a' w' hl hr'⟩
 | _ => exact ⟨st', hq, hr'⟩
theorem ah {ρ ρ' : List (Nat × AV)} {H : List Blk} (h : ∀ p ∈ ρ', aZ ρ p.1 = p.2) : Weak C N h0 ⟨ρ, H⟩ ⟨ρ', H⟩ := by
 intro X w0 β0 H0 a w hl hr
 obtain ⟨β, R, S0, Tr, G, hN, hdef⟩ := hr
 refine ⟨β, R, S0, λ t => ?_, G, hN, hdef⟩
 have key : ∀ l : List (Nat × AV), (∀ p ∈ l, aZ ρ p.1 = p.2) -> aZ l t = .undef ∨ aZ l t = aZ ρ t := by
  intro l
  induction l with
  | nil => intro _; exact .inl rfl
  | cons p r ih =>
   intro hp
   obtain ⟨k, v⟩ := p
   simp only [aZ]
   split
   ·rename_i e
    subst e
    exact .inr (hp (k, v) (by simp)).symm
   ·exact ih λ q hq => hp q (mem_cons_of_mem _ hq)
 simp only
 rcases key ρ' h with e | e
 ·rw [e]; exact mR
 ·rw [e]; exact Tr t
def AV.clean1 (m : Nat) : AV -> Bool
 | .own l _ => decide (l < m)
 | .osl l _ _ _ _ => decide (l < m)
 | .ptr l _ _ _ _ => decide (l < m)
 | .agg _ => false
 | .tup _ => false
 | .fn _ cs => cs.all AV.isDeep
 | _ => true
def AV.clean (m : Nat) : AV -> Bool
 | .agg cs => cs.all (AV.clean1 m)
 | .tup cs => cs.all (AV.clean1 m)
 | v => v.clean1 m
theorem MutB.take {β : List BI} {H : List Blk} {m b : Nat} (h : MutB (β.take m) (H.take m) b) : MutB β H b := by
 obtain ⟨l, c, blk, h1, h2, h3⟩ := h
 rw [getElem?_take] at h1 h2
 split at h1
 ·rename_i hl
  rw [if_pos hl] at h2
  exact ⟨l, c, blk, h1, h2, h3⟩
 ·cases h1
theorem Mu.take {X : Nat -> Prop} {β : List BI} {H : List Blk} {m b : Nat} (h : Mu X (β.take m) (H.take m) b) : Mu X β H b := h.imp id MutB.take
theorem iP {w : World} {X : Nat -> Prop} {β : List BI} {H : List Blk} {m : Nat} {v : Value} {av : AV} (hc : av.clean1 m = true) (h : Rep w (Mu X β H) β H v av) : Rep w (Mu X (β.take m) (H.take m)) (β.take m) (H.take m) v av := by
 have hD : ∀ {v : Value} {av : AV}, RepD w (Mu X β H) v av -> RepD w (Mu X (β.take m) (H.take m)) v av := λ h => h.mono λ b _ hb => hb.take
 cases h with
 | deep h => exact .deep (hD h)
 | own l n a cap b hb hn h0 hc' hx =>
  have hl : l < m := by simpa [AV.clean1] using hc
  refine .own l n a cap b (by rw [getElem?_take, if_pos hl]; exact hb) hn h0 hc' λ e => ?_
  rw [getElem?_take, if_pos hl]
  exact hx e
 | osl l n sz off len a cap b hb hn hle h0 hc' hx =>
  have hl : l < m := by simpa [AV.clean1] using hc
  refine .osl l n sz off len a cap b (by rw [getElem?_take, if_pos hl]; exact hb) hn hle h0 hc' λ e e2 => ?_
  rw [getElem?_take, if_pos hl]
  exact hx e e2
 | ptr l n sz i f a b hb hn hx =>
  have hl : l < m := by simpa [AV.clean1] using hc
  refine .ptr l n sz i f a b (by rw [getElem?_take, if_pos hl]; exact hb) hn λ e1 e2 e3 => ?_
  rw [getElem?_take, if_pos hl]
  exact hx e1 e2 e3
 | agg cs cells val hl hm hv => cases hc
 | tup cs cells val hl hm hv => cases hc
 | fn f cs cells val hl hm hv => exact .fn f cs cells val hl hm λ j u hj => .deep (hD (ff (all_eq_true.1 hc u (mem_of_getElem? hj)) (hv j u hj)))
theorem wI {w : World} {X : Nat -> Prop} {β : List BI} {H : List Blk} {m : Nat} {v : Value} {av : AV} (hc : av.clean m = true) (h : Rep w (Mu X β H) β H v av) : Rep w (Mu X (β.take m) (H.take m)) (β.take m) (H.take m) v av := by
 cases av with
 | agg cells =>
  obtain ⟨cs, val, rfl, hl, hm, hv⟩ := ir h
  exact .agg cs cells val hl hm λ j u hj => iP (all_eq_true.1 hc u (mem_of_getElem? hj)) (hv j u hj)
 | tup cells =>
  obtain ⟨cs, val, rfl, hl, hm, hv⟩ := oP h
  exact .tup cs cells val hl hm λ j u hj => iP (all_eq_true.1 hc u (mem_of_getElem? hj)) (hv j u hj)
 | _ => exact iP hc h
theorem F3 {ρ : List (Nat × AV)} {H : List Blk} (m : Nat) (hm : h0 <= m) (hρ : ∀ p ∈ ρ, p.2.clean m = true) (hH : ∀ b ∈ H.take m, b.deep = true ∨ ∀ r ∈ b.rows, ∀ c ∈ r, c.clean m = true) : Weak C N h0 ⟨ρ, H⟩ ⟨ρ, H.take m⟩ := by
 intro X w0 β0 H0 a w hl hr
 obtain ⟨β, R, S0, Tr, G, hN, hdef⟩ := hr
 have hcl : ∀ t, (aZ ρ t).clean m = true := by
  intro t
  have key : ∀ l : List (Nat × AV), (∀ p ∈ l, p.2.clean m = true) -> (aZ l t).clean m = true := by
   intro l
   induction l with
   | nil => intro _; rfl
   | cons p r ih =>
    intro hp
    obtain ⟨k, v⟩ := p
    simp only [aZ]
    split
    ·exact hp (k, v) (by simp)
    ·exact ih λ q hq => hp q (mem_cons_of_mem _ hq)
  exact key ρ hρ
 refine ⟨β.take m, ⟨by simp [R.len], λ l bi b h1 h2 => ?_, λ l b c h1 => ?_, λ l l' b c c' h1 h2 => ?_, R.base⟩, ⟨S0.keeps, ⟨λ l b h => ?_, λ l bk c h => ?_⟩, S0.len⟩, λ t => wI (hcl t) (Tr t), λ g => (G g).mono λ b _ hb => hb.take, hN, hdef⟩
 ·rw [getElem?_take] at h1 h2
  split at h1
  ·rename_i hlm
   rw [if_pos hlm] at h2
   have hB := R.blk l bi b h1 h2
   cases bi with
   | nil => exact hB
   | lies bk cap =>
    obtain ⟨cur, k1, k2, k3, k4, k5, k6, k7⟩ := hB
    refine ⟨cur, k1, k2, k3, k4, k5, k6, λ i j r av hr hj => ?_⟩
    obtain ⟨v, q1, q2, q3, q4⟩ := k7 i j r av hr hj
    have q4' : b.deep = true -> RepD w (Mu X (β.take m) (H.take m)) v av := λ hd => (q4 hd).mono λ b _ hb => hb.take
    refine ⟨v, q1, q2, ?_, q4'⟩
    have hmem : b ∈ H.take m := mem_of_getElem? (by rw [getElem?_take, if_pos hlm]; exact h2)
    rcases hH b hmem with h | h
    ·exact .deep (q4' h)
    ·exact wI (h r (mem_of_getElem? hr) av (mem_of_getElem? hj)) q3
  ·cases h1
 ·rw [getElem?_take] at h1
  split at h1
  ·exact R.lt l b c h1
  ·cases h1
 ·rw [getElem?_take] at h1 h2
  split at h1
  ·split at h2
   ·exact R.inj l l' b c c' h1 h2
   ·cases h2
  ·cases h1
 ·obtain ⟨b', e1, e2, e3, e4, e5, e6⟩ := S0.grow.old l b h
  have hlm : l < m := by have := (List.getElem?_eq_some_iff.1 h).1; omega
  refine ⟨b', by simp only [getElem?_take, if_pos hlm]; exact e1, e2, e3, e4, λ e => ?_, e6⟩
  rw [getElem?_take, if_pos hlm]
  exact e5 e
 ·rw [getElem?_take] at h
  split at h
  ·exact S0.grow.at_ l bk c h
  ·cases h
theorem dw {ρ : List (Nat × AV)} {H : List Blk} (t sz : Nat) (e : TypeId) (ht : aZ ρ t = .slice sz true []) (hz : 0 < sz) : Weak C N h0 ⟨ρ, H⟩ ⟨(t, .own H.length 0) :: ρ, H ++ [⟨e, sz, [], true, true⟩]⟩ := by
 intro X w0 β0 H0 a w hl hr
 obtain ⟨β, R, S0, Tr, G, hN, hdef⟩ := hr
 have hk := Keeps.refl (λ _ => False) w
 have S := dJ (w' := w) R hk .nil ⟨e, sz, [], true, true⟩ (λ bk c e => by cases e)
 have R' := eV R hk .nil ⟨e, sz, [], true, true⟩ (λ bk c e => by cases e) (λ bk c e => by cases e) ⟨rfl, hz⟩
 refine ⟨β ++ [.nil], R', S0.trans S, λ k => ?_, λ g => (G g).keep (λ b hb hn => S.keeps.block b hb (λ hm => hn (.inr hm))) S.keeps.size (λ b hb => S.mu b hb), hN, hdef⟩
 simp only [aZ]
 split
 ·rename_i e0
  subst e0
  have h1 := Tr t
  simp only at h1
  rw [ht] at h1
  obtain ⟨a0, cap, val, h2, h3, h4, h5, _⟩ := dc (di h1)
  rw [h2]
  have hcap := h5 rfl
  simp only [List.length_nil] at hcap
  refine .own H.length 0 a0 cap ⟨e, sz, [], true, true⟩ (aM H _) (le_refl _) (.inl rfl) (zero_le _) λ _ => ?_
  rw [<- R.len, aM]
  exact ⟨rfl, hcap⟩
 ·exact (Tr k).keep S
theorem mT {ρ : List (Nat × AV)} {H : List Blk} (t : Nat) : Weak C N h0 ⟨ρ, H⟩ ⟨(t, bL H 6 (aZ ρ t)) :: ρ, jY (bI H 6 (aZ ρ t)) 0 H⟩ := by
 intro X w0 β0 H0 a w hl hr
 obtain ⟨β, R, S0, Tr, G, hN, hdef⟩ := hr
 have S := pf R (bI H 6 (aZ ρ t))
 refine ⟨β, t6 R _, S0.trans S, λ k => ?_, λ g => (G g).keep (λ b hb hn => S.keeps.block b hb (λ hm => hn (.inr hm))) S.keeps.size (λ b hb => S.mu b hb), hN, hdef⟩
 simp only [aZ]
 split
 ·rename_i e
  subst e
  exact .deep ((bX R (λ l => l ∈ bI H 6 (aZ ρ t)) 6 (Tr t) (λ l hl => hl)).mono λ b _ hb => DD hb)
 ·exact (Tr k).keep S
def cM : AV -> AV
 | .agg cs => .agg (cs.map n8)
 | .tup cs => .tup (cs.map λ c => match c with | .agg ds => .agg (ds.map n8) | c => n8 c)
 | v => n8 v
theorem wO {w : World} {X : Nat -> Prop} {v : Value} {cs : List AV} (h : RepD w X v (.agg cs)) : RepD w X v (.agg (cs.map n8)) := by
 cases h with
 | agg asq _ val hl hm hv =>
  refine .agg asq _ val (by simp [hl]) (λ j hj => hm j (by simpa using hj)) λ j u hj => ?_
  rw [getElem?_map] at hj
  simp only [map_eq_some_iff] at hj
  obtain ⟨c, hc, rfl⟩ := hj
  exact kA (hv j c hc)
theorem e9 {w : World} {X : Nat -> Prop} {v : Value} {av : AV} (h : RepD w X v av) : RepD w X v (cM av) := by
 cases av with
 | agg cs => exact wO h
 | tup cs =>
  cases h with
  | tup asq _ val hl hm hv =>
   refine .tup asq _ val (by simp [hl]) (λ j hj => hm j (by simpa using hj)) λ j u hj => ?_
   rw [getElem?_map] at hj
   simp only [map_eq_some_iff] at hj
   obtain ⟨c, hc, rfl⟩ := hj
   have hr := hv j c hc
   cases c with
   | agg ds => exact wO hr
   | _ => exact kA hr
 | _ => exact kA h
def O4 (C : Ctx) (st : ASt) : ResultVar -> Option (Prop × AV)
 | .tmp t => some (True, aZ st.ρ t)
 | .cell a t => vu C st.H t (aZ st.ρ a)
def kp (C : Ctx) (st : ASt) : List ResultVar -> Option (Prop × List AV)
 | [] => some (True, [])
 | r :: q => match O4 C st r, kp C st q with
  | some (ob, v), some (ob', vs) => some (ob /\ ob', v :: vs)
  | _, _ => none
def cP (C : Ctx) (st : ASt) (rs : List ResultVar) : Option (Prop × AV) :=
 match kp C st rs with
 | some (ob, [v]) => some (ob, v)
 | some (ob, vs) => some (ob, .tup vs)
 | none => none
theorem HH {P : Program} {t : TypeId} {v u : Value} {w : World} (h : (Instr.loadAt t v).run P w = .ok u w) : (do loadVar t (<- asAddr v) : Sem Value).run P w = .ok u w := by
 cases v with
 | pointer a =>
  cases a with
  | none => simp [Instr.loadAt, Instr.sureAddr] at h
  | some ad => simpa [Instr.loadAt, Instr.sureAddr, asAddr] using h
 | _ => simp [Instr.loadAt, Instr.sureAddr] at h
def I6 (tmps : Array Value) : ResultVar -> Sem Value
 | .tmp t => pure (tmps.getD t undef)
 | .cell x t => do loadVar t (<- asAddr (tmps.getD x undef))
theorem CO (fn : Func) (tmps : Array Value) : results fn tmps = (do let vs <- fn.results.mapM (I6 tmps); pure (if h : vs.size = 1 then vs[0] else .tuple vs)) := by
 unfold results
 congr 1
theorem Dl {w : World} {X : Nat -> Prop} {β : List BI} {st : ASt} {a : Act} (R : HRel w X β st.H) (T : ju w (Mu X β st.H) β st.H a st.ρ) {rv : ResultVar} {ob : Prop} {r : AV} (h : O4 C st rv = some (ob, r)) (hob : ob) :
  ∃ u, (I6 a.tmps rv).run C.P w = .ok u w /\ Rep w (Mu X β st.H) β st.H u r := by
 cases rv with
 | tmp t =>
  injection h with h; injection h with e1 e2; subst e1 e2
  exact ⟨_, rfl, T t⟩
 | cell x t =>
  obtain ⟨u, h1, h2⟩ := ry R h hob (T x)
  exact ⟨u, HH h1, h2⟩
theorem mw {w : World} {X : Nat -> Prop} {β : List BI} {st : ASt} {a : Act} (R : HRel w X β st.H) (T : ju w (Mu X β st.H) β st.H a st.ρ) : ∀ (rs : List ResultVar) {ob : Prop} {vs : List AV}, kp C st rs = some (ob, vs) -> ob ->
  ∃ us : List Value, (rs.mapM (I6 a.tmps)).run C.P w = .ok us w /\ us.length = vs.length /\ ∀ (j : Nat) (u : AV), vs[j]? = some u -> ∃ v, us[j]? = some v /\ Rep w (Mu X β st.H) β st.H v u
 | [], ob, vs, h, _ => by
  injection h with h; injection h with e1 e2; subst e1 e2
  exact ⟨[], by simp [List.mapM_nil], rfl, λ j u hj => by simp at hj⟩
 | r :: q, ob, vs, h, hob => by
  unfold kp at h
  split at h
  ·rename_i ob1 v ob2 vs' h1 h2
   injection h with h; injection h with e1 e2; subst e1 e2
   obtain ⟨u, k1, k2⟩ := Dl R T h1 hob.1
   obtain ⟨us, k3, k4, k5⟩ := mw R T q h2 hob.2
   refine ⟨u :: us, ?_, by simp [k4], λ j x hj => ?_⟩
   ·rw [List.mapM_cons, Sem.run_bind]
    rw [k1]
    simp only [Result.andThen_ok, Sem.run_bind]
    rw [k3]
    rfl
   ·match j with
    | 0 => simp at hj; subst hj; exact ⟨u, rfl, k2⟩
    | j + 1 => exact k5 j x (by simpa using hj)
  ·cases h
theorem dx {w : World} {X : Nat -> Prop} {β : List BI} {st : ASt} {a : Act} (R : HRel w X β st.H) (T : ju w (Mu X β st.H) β st.H a st.ρ) {fn : Func} {ob : Prop} {r : AV} (h : cP C st fn.results.toList = some (ob, r)) (hob : ob) :
  ∃ u, (results fn a.tmps).run C.P w = .ok u w /\ Rep w (Mu X β st.H) β st.H u r := by
 unfold cP at h
 have key : ∀ ob vs, kp C st fn.results.toList = some (ob, vs) -> ob -> ∃ us : List Value, (results fn a.tmps).run C.P w = .ok (if h : us.toArray.size = 1 then us.toArray[0] else .tuple us.toArray) w /\ us.length = vs.length /\ ∀ (j : Nat) (u : AV), vs[j]? = some u -> ∃ v, us[j]? = some v /\ Rep w (Mu X β st.H) β st.H v u := by
  intro ob vs hl hob
  obtain ⟨us, h1, h2, h3⟩ := mw R T fn.results.toList hl hob
  refine ⟨us, ?_, h2, h3⟩
  rw [CO, Array.mapM_eq_mapM_toList, map_eq_pure_bind, bind_assoc, Sem.run_bind]
  simp only [pure_bind]
  rw [h1]
  rfl
 split at h
 ·rename_i ob' v hl
  injection h with h; injection h with e1 e2; subst e1 e2
  obtain ⟨us, h1, h2, h3⟩ := key _ _ hl hob
  obtain ⟨u, hu, hr⟩ := h3 0 v rfl
  match us, h2, hu with
  | [x], _, hu =>
   simp at hu
   subst hu
   exact ⟨x, h1, hr⟩
 ·rename_i ob' vs hne hl
  injection h with h; injection h with e1 e2; subst e1 e2
  obtain ⟨us, h1, h2, h3⟩ := key _ _ hl hob
  have hn : us.toArray.size ≠ 1 := by
   intro e
   simp at e
   rw [e] at h2
   obtain ⟨y, rfl⟩ := List.length_eq_one_iff.1 h2.symm
   exact hne y rfl
  rw [dif_neg hn] at h1
  refine ⟨_, h1, .tup us.toArray vs (λ j => us.getD j undef) (by simpa using h2) (λ j hj => ?_) (λ j u hj => ?_)⟩
  ·obtain ⟨v, hv, _⟩ := h3 j _ (getElem?_eq_getElem hj)
   simp [getD_eq_getElem?_getD, hv]
  ·obtain ⟨v, hv, hr⟩ := h3 j u hj
   rw [getD_eq_getElem?_getD, hv]
   exact hr
 ·cases h
def argsρ : Nat -> List AV -> List (Nat × AV)
 | _, [] => []
 | i, v :: r => (i, v) :: argsρ (i + 1) r
theorem argsρ_get : ∀ (vs : List AV) (i t : Nat), aZ (argsρ i vs) t = if i <= t /\ t < i + vs.length then vs.getD (t - i) .undef else .undef
 | [], i, t => by simp [argsρ, aZ]
 | v :: r, i, t => by
  simp only [argsρ, aZ, argsρ_get r (i + 1) t, List.length_cons]
  by_cases e : i = t
  ·subst e
   rw [if_pos rfl, if_pos (by omega)]
   simp
  ·rw [if_neg e]
   by_cases h : i + 1 <= t /\ t < i + 1 + r.length
   ·rw [if_pos h, if_pos (by omega), show t - i = (t - (i + 1)) + 1 by omega]
    rfl
   ·rw [if_neg h, if_neg (by omega)]
theorem j5 {w : World} {Y : Nat -> Prop} {β : List BI} {H : List Blk} {args : Array Value} {avs : List AV} {n : Nat} (hsz : args.size = avs.length) (h : ∀ (j : Nat) (u : AV), avs[j]? = some u -> ∃ v, args[j]? = some v /\ Rep w Y β H v u) :
  ju w Y β H { tmps := args ++ Array.replicate (n - args.size) undef, defers := [] } (argsρ 0 avs) := by
 intro t
 rw [argsρ_get]
 split
 ·rename_i ht
  have ht' : t < avs.length := by omega
  obtain ⟨v, hv, hr⟩ := h t _ (getElem?_eq_getElem ht')
  simp only [Nat.sub_zero]
  rw [getD_eq_getElem?_getD, getElem?_eq_getElem ht', Array.getD_eq_getD_getElem?, Array.getElem?_append_left (by omega), hv]
  exact hr
 ·exact mR
theorem Bw (hS : au C) (hM : C.P.follows .mixedOrders = true) {f : FuncId} {fn : Func} {body : Code} (hf : C.P.funcs[f]? = some fn) (hb : fn.body = some body) (hok : ci C fn.ntmps body = true) {p : List AV -> Option (Prop × AV)}
  (h : ∀ avs ob r, p avs = some (ob, r) -> ob -> avs.length <= fn.ntmps /\ avc C fn.ntmps 0 body ⟨argsρ 0 avs, []⟩ λ ex st' => (ex = .normal ∨ ex = .ret) /\ ∃ ob' r', cP C st' fn.results.toList = some (ob', r') /\ ob' /\ cM (bL st'.H 6 r') = r) : PureOK C.P C.G f p := by
 intro w X args avs ob r hX hG hsz harg hp hob
 obtain ⟨hlen, hav⟩ := h avs ob r hp hob
 refine calls_of_wp hf hb ?_
 have hMu : ∀ b, Mu X [] [] b -> X b := by
  rintro b (h | ⟨l, c, blk, h1, _, _⟩)
  ·exact h
  ·simp at h1
 have R : HRel w X [] [] := ⟨rfl, λ l bi b h1 _ => by simp at h1, λ l b c h1 => by simp at h1, λ l l' b c c' h1 => by simp at h1, hX⟩
 have hr : Rel C fn.ntmps X w [] [] ⟨argsρ 0 avs, []⟩ { tmps := args ++ Array.replicate (fn.ntmps - args.size) undef, defers := [] } w :=
  ⟨[], R, StepR.refl _ _ _ rfl, j5 hsz (λ j u hj => let ⟨v, h1, h2⟩ := harg j u hj; ⟨v, h1, .deep (h2.mono λ b _ hb => hMu b hb)⟩), λ g => (hG g).mono λ b _ hb => hMu b hb, by simp; omega, rfl⟩
 refine Code.wp_mono (λ ex a' w' ⟨st', hq, hr'⟩ => ?_) (bm hS hM body hok hav X w [] [] _ w rfl hr)
 obtain ⟨hex, ob', r', hres, hob', hview⟩ := hq
 obtain ⟨β', R', S', T', G', hN', hdef'⟩ := hr'
 obtain ⟨u, hu, hrep⟩ := dx R' T' hres hob'
 have hv := (bX R' (λ _ => True) 6 hrep (λ _ _ => trivial)).mono (X' := X) λ b _ hb => .inl hb
 have hv := e9 hv
 rw [hview] at hv
 have hpost : bodyPost C.P fn (λ e w' => ∃ v, e = .returned v /\ Keeps (λ _ => False) w w' /\ RepD w' X v r) .normal a' w' :=
  ⟨hdef', u, hu, u, rfl, S'.keeps.weaken (λ b _ h => by obtain ⟨l, c, blk, h1, _, _⟩ := h; simp at h1), hv⟩
 rcases hex with rfl | rfl
 ·exact hpost
 ·exact hpost
end
class Enc (α : Type) where
 sz : Nat
 cells : α -> List AV
 enc : α -> AV
 unc : List AV -> α
 dec : AV -> α
 unc_cells : ∀ x, unc (cells x) = x
 dec_enc : ∀ x, dec (enc x) = x
instance : Enc Int where
 sz := 1
 cells n := [.int .i64 n]
 enc n := .int .i64 n
 unc l := match l with | [.int _ n] => n | _ => 0
 dec v := match v with | .int _ n => n | _ => 0
 unc_cells _ := rfl
 dec_enc _ := rfl
instance : Enc Bool where
 sz := 1
 cells n := [.bool n]
 enc n := .bool n
 unc l := match l with | [.bool n] => n | _ => false
 dec v := match v with | .bool n => n | _ => false
 unc_cells _ := rfl
 dec_enc _ := rfl
instance : Enc ByteArray where
 sz := 1
 cells n := [.str n]
 enc n := .str n
 unc l := match l with | [.str n] => n | _ => ByteArray.empty
 dec v := match v with | .str n => n | _ => ByteArray.empty
 unc_cells _ := rfl
 dec_enc _ := rfl
instance : Enc UInt8 where
 sz := 1
 cells n := [.int .u8 n.toNat]
 enc n := .int .u8 n.toNat
 unc l := match l with | [.int _ n] => UInt8.ofNat n.toNat | _ => 0
 dec v := match v with | .int _ n => UInt8.ofNat n.toNat | _ => 0
 unc_cells n := by simp
 dec_enc n := by simp
def ac {α : Type} [Enc α] (l : List α) : List (List AV) := l.map Enc.cells
instance {α : Type} [Enc α] : Enc (List α) where
 sz := 1
 cells l := [.slice (Enc.sz α) false (l.map Enc.cells)]
 enc l := .slice (Enc.sz α) false (l.map Enc.cells)
 unc c := match c with | [.slice _ _ rows] => rows.map Enc.unc | _ => []
 dec v := match v with | .slice _ _ rows => rows.map Enc.unc | _ => []
 unc_cells l := by simp [Function.comp_def, Enc.unc_cells]
 dec_enc l := by simp [Function.comp_def, Enc.unc_cells]
def ix {α : Type} [Inhabited α] (l : List α) (i : Nat) : α := l.getD i default
theorem az {α : Type} [Inhabited α] {l : List α} {i : Nat} (h : i < l.length) : ix l i = l[i] := by simp [ix, h]
theorem aq {α : Type} [Inhabited α] {l : List α} {i : Nat} (h : i < l.length) : ix l i ∈ l := by rw [az h]; exact List.getElem_mem h
section
variable {α : Type} [Enc α]
@[simp] theorem W6 : Enc.sz Int = 1 := rfl
@[simp] theorem Wj : Enc.sz ByteArray = 1 := rfl
@[simp] theorem Uq : Enc.sz (List α) = 1 := rfl
@[simp] theorem RT (n : Int) : Enc.cells n = [.int .i64 n] := rfl
@[simp] theorem PF (n : Bool) : Enc.cells n = [.bool n] := rfl
@[simp] theorem Rj (n : ByteArray) : Enc.cells n = [.str n] := rfl
@[simp] theorem QU (l : List α) : Enc.cells l = [.slice (Enc.sz α) false (ac l)] := rfl
@[simp] theorem Us (n : Int) : Enc.enc n = .int .i64 n := rfl
@[simp] theorem SS (n : Bool) : Enc.enc n = .bool n := rfl
@[simp] theorem U0 (n : ByteArray) : Enc.enc n = .str n := rfl
@[simp] theorem Te (l : List α) : Enc.enc l = .slice (Enc.sz α) false (ac l) := rfl
@[simp] theorem Jq (l : List α) : (ac l).length = l.length := by simp [ac]
@[simp] theorem Bo : ac ([] : List α) = [] := rfl
theorem bz (l m : List α) : ac (l ++ m) = ac l ++ ac m := by simp [ac]
@[simp] theorem xx (x : α) (l : List α) : ac (x :: l) = Enc.cells x :: ac l := rfl
theorem rC (l : List α) (i : Nat) (x : α) : (ac l).set i (Enc.cells x) = ac (l.set i x) := by simp [ac, List.map_set]
theorem aa [Inhabited α] {l : List α} {i : Nat} (h : i < l.length) : kw (ac l) i = Enc.cells (ix l i) := by
 rw [gt (by simpa using h)]
 simp [ac, ix, h]
theorem xC (l : List α) (i : Nat) : (ac l).take i = ac (l.take i) := by simp [ac, List.map_take]
theorem yB (l : List α) (i : Nat) : (ac l).drop i = ac (l.drop i) := by simp [ac, List.map_drop]
@[simp] theorem Sh (sz : Nat) (f : Bool) (l : List α) : (Enc.dec (.slice sz f (ac l)) : List α) = l := by
 show (ac l).map Enc.unc = l
 simp [ac, Function.comp_def, Enc.unc_cells]
@[simp] theorem UB (k : IntKind) (n : Int) : (Enc.dec (.int k n) : Int) = n := rfl
@[simp] theorem Ss (n : Bool) : (Enc.dec (.bool n) : Bool) = n := rfl
@[simp] theorem UT (n : ByteArray) : (Enc.dec (.str n) : ByteArray) = n := rfl
@[simp] theorem Uw (sz : Nat) (f : Bool) : (Enc.dec (.slice sz f []) : List α) = [] := rfl
end
def FI : List (Nat × Entry) -> Nat -> Entry
 | [], _ => .no
 | (k, e) :: r, f => if k = f then e else FI r f
def mkC (P : Program) (G : Nat -> AV) (l : List (Nat × Entry)) : Ctx := ⟨P, FI l, G⟩
theorem ak (P : Program) (G : Nat -> AV) : au (mkC P G []) := λ _ => trivial
theorem aL {P : Program} {G : Nat -> AV} {l : List (Nat × Entry)} {k : Nat} {e : Entry} (h : jN P G k e) (hl : au (mkC P G l)) : au (mkC P G ((k, e) :: l)) := by
 intro f
 show jN P G f (FI ((k, e) :: l) f)
 unfold FI
 split
 ·rename_i h'; subst h'; exact h
 ·exact hl f
theorem wk {P : Program} {G : Nat -> AV} {f : FuncId} {fn : Func} {p : List AV -> Option (Prop × AV)} (h : PureOK P G f p) (hf : P.funcs[f]? = some fn) (hb : fn.body.isSome = true) (hn : fn.name ≠ "runtime.NumGoroutine") : jN P G f (.pure p) := .inl ⟨h, fn, hf, hn, hb⟩
theorem ap {P : Program} {G : Nat -> AV} {f : FuncId} {fn : Func} {p : List AV -> Option (Prop × AV)} {l : List (Nat × Entry)} (h : PureOK P G f p) (hf : P.funcs[f]? = some fn) (r : au (mkC P G l)) (hb : fn.body.isSome = true := by rfl) (hn : fn.name ≠ "runtime.NumGoroutine" := by decide) : au (mkC P G ((f, .pure p) :: l)) := aL (wk h hf hb hn) r
theorem AK {P : Program} {G : Nat -> AV} {f : FuncId} {p : List AV -> Option (Prop × AV)} (h : zd P f p) : jN P G f (.pure p) := .inr h
theorem oF {P : Program} {G : Nat -> AV} {f : FuncId} {fn : Func} {p : List AV -> Option (Prop × AV)} (h : PureOK P G f p) (hf : P.funcs[f]? = some fn) (hb : fn.body.isSome = true) (hn : fn.name ≠ "runtime.NumGoroutine") : jN P G f (.frz p) := ⟨h, fn, hf, hn, hb⟩
def oK (C : Ctx) (rs : List ResultVar) (r : AV) (st : ASt) : Prop :=
 match cP C st rs with
 | some (ob, r') => ob /\ cM (bL st.H 6 r') = r
 | none => False
def dV (C : Ctx) (rs : List ResultVar) (r : AV) : Exit -> ASt -> Prop
 | .normal, st => oK C rs r st
 | .ret, st => oK C rs r st
 | _, _ => False
theorem eK {C : Ctx} (hS : au C) (hM : C.P.follows .mixedOrders = true) {f : FuncId} {fn : Func} {body : Code} {rs : List ResultVar} {n : Nat} (hf : C.P.funcs[f]? = some fn) (hb : fn.body = some body) (hrs : fn.results.toList = rs) (hn : fn.ntmps = n) (hok : ci C n body = true) {p : List AV -> Option (Prop × AV)}
  (h : ∀ avs ob r, p avs = some (ob, r) -> ob -> avs.length <= n /\ avc C n 0 body ⟨argsρ 0 (avs.map cM), []⟩ (dV C rs r)) : PureOK C.P C.G f p := by
 subst hrs hn
 intro w X args avs ob r hX hG hsz harg hp hob
 obtain ⟨hlen, hav⟩ := h avs ob r hp hob
 have := Bw (p := λ avs' => some (avs' = avs.map cM, r)) hS hM hf hb hok (λ avs' ob' r' hp' hob' => by
  injection hp' with hp'; injection hp' with e1 e2; subst e1 e2
  subst hob'
  refine ⟨by simpa using hlen, eu body hav λ ex st' hq => ?_⟩
  have fin : oK C fn.results.toList r st' -> ∃ ob' r', cP C st' fn.results.toList = some (ob', r') /\ ob' /\ cM (bL st'.H 6 r') = r := by
   unfold oK
   split
   ·rename_i ob' r' hr; intro h; exact ⟨ob', r', hr, h.1, h.2⟩
   ·intro h; exact h.elim
  cases ex with
  | normal => exact ⟨.inl rfl, fin hq⟩
  | ret => exact ⟨.inr rfl, fin hq⟩
  | _ => exact hq.elim)
 refine this w X args (avs.map cM) _ r hX hG (by simpa using hsz) (λ j u hu => ?_) rfl rfl
 rw [getElem?_map] at hu
 simp only [map_eq_some_iff] at hu
 obtain ⟨av, hav, rfl⟩ := hu
 obtain ⟨v, h1, h2⟩ := harg j av hav
 exact ⟨v, h1, e9 h2⟩
def dA (r : AV) : List AV -> Option (Prop × AV)
 | [] => some (True, r)
 | _ => none
def aN {α : Type} [Enc α] (pre : α -> Prop) (res : α -> AV) : List AV -> Option (Prop × AV)
 | [a] => some (cM a = Enc.enc (Enc.dec a : α) /\ pre (Enc.dec a), res (Enc.dec a))
 | _ => none
def aC {α β : Type} [Enc α] [Enc β] (pre : α -> β -> Prop) (res : α -> β -> AV) : List AV -> Option (Prop × AV)
 | [a, b] => some (cM a = Enc.enc (Enc.dec a : α) /\ cM b = Enc.enc (Enc.dec b : β) /\ pre (Enc.dec a) (Enc.dec b), res (Enc.dec a) (Enc.dec b))
 | _ => none
def lu {α β γ : Type} [Enc α] [Enc β] [Enc γ] (pre : α -> β -> γ -> Prop) (res : α -> β -> γ -> AV) : List AV -> Option (Prop × AV)
 | [a, b, c] => some (cM a = Enc.enc (Enc.dec a : α) /\ cM b = Enc.enc (Enc.dec b : β) /\ cM c = Enc.enc (Enc.dec c : γ) /\ pre (Enc.dec a) (Enc.dec b) (Enc.dec c), res (Enc.dec a) (Enc.dec b) (Enc.dec c))
 | _ => none
def Ez {α β γ δ : Type} [Enc α] [Enc β] [Enc γ] [Enc δ] (pre : α -> β -> γ -> δ -> Prop) (res : α -> β -> γ -> δ -> AV) : List AV -> Option (Prop × AV)
 | [a, b, c, d] => some (cM a = Enc.enc (Enc.dec a : α) /\ cM b = Enc.enc (Enc.dec b : β) /\ cM c = Enc.enc (Enc.dec c : γ) /\ cM d = Enc.enc (Enc.dec d : δ) /\ pre (Enc.dec a) (Enc.dec b) (Enc.dec c) (Enc.dec d), res (Enc.dec a) (Enc.dec b) (Enc.dec c) (Enc.dec d))
 | _ => none
section
variable {C : Ctx} (hS : au C) (hM : C.P.follows .mixedOrders = true) {f : FuncId} {fn : Func} {body : Code} {rs : List ResultVar} {n : Nat} (hf : C.P.funcs[f]? = some fn) (hb : fn.body = some body) (hrs : fn.results.toList = rs) (hn : fn.ntmps = n)
include hS hM hf hb hrs hn
theorem NI (hok : ci C n body = true) {r : AV} (h : avc C n 0 body ⟨[], []⟩ (dV C rs r)) : PureOK C.P C.G f (dA r) :=
 eK hS hM hf hb hrs hn hok λ avs ob r' hp hob => by
  unfold dA at hp
  split at hp
  ·injection hp with hp; injection hp with e1 e2; subst e1 e2
   exact ⟨zero_le _, h⟩
  ·cases hp
theorem bj {α : Type} [Enc α] (hok : ci C n body = true) (hnn : 1 <= n) {pre : α -> Prop} {res : α -> AV} (h : ∀ a, pre a -> avc C n 0 body ⟨[(0, Enc.enc a)], []⟩ (dV C rs (res a))) : PureOK C.P C.G f (aN pre res) :=
 eK hS hM hf hb hrs hn hok λ avs ob r' hp hob => by
  unfold aN at hp
  split at hp
  ·injection hp with hp; injection hp with e1 e2; subst e1 e2
   refine ⟨hnn, ?_⟩
   have := h _ hob.2
   rw [<- hob.1] at this
   exact this
  ·cases hp
theorem aX {α β : Type} [Enc α] [Enc β] (hok : ci C n body = true) (hnn : 2 <= n) {pre : α -> β -> Prop} {res : α -> β -> AV} (h : ∀ a b, pre a b -> avc C n 0 body ⟨[(0, Enc.enc a), (1, Enc.enc b)], []⟩ (dV C rs (res a b))) : PureOK C.P C.G f (aC pre res) :=
 eK hS hM hf hb hrs hn hok λ avs ob r' hp hob => by
  unfold aC at hp
  split at hp
  ·injection hp with hp; injection hp with e1 e2; subst e1 e2
   refine ⟨hnn, ?_⟩
   have := h _ _ hob.2.2
   rw [<- hob.1, <- hob.2.1] at this
   exact this
  ·cases hp
theorem NE {α β γ : Type} [Enc α] [Enc β] [Enc γ] (hok : ci C n body = true) (hnn : 3 <= n) {pre : α -> β -> γ -> Prop} {res : α -> β -> γ -> AV} (h : ∀ a b c, pre a b c -> avc C n 0 body ⟨[(0, Enc.enc a), (1, Enc.enc b), (2, Enc.enc c)], []⟩ (dV C rs (res a b c))) : PureOK C.P C.G f (lu pre res) :=
 eK hS hM hf hb hrs hn hok λ avs ob r' hp hob => by
  unfold lu at hp
  split at hp
  ·injection hp with hp; injection hp with e1 e2; subst e1 e2
   refine ⟨hnn, ?_⟩
   have := h _ _ _ hob.2.2.2
   rw [<- hob.1, <- hob.2.1, <- hob.2.2.1] at this
   exact this
  ·cases hp
end
def dh {α : Sort _} (x : α) : α := x
@[simp] theorem aR {α : Sort _} (x : α) : dh x = x := by rw [dh]
@[congr] theorem RO {C : Ctx} {N h0 : Nat} {code : Code} {st st' : ASt} {Q : Exit -> ASt -> Prop} (h : dh st = st') : avc C N h0 code st Q = avc C N h0 code st' Q := by rw [aR] at h; rw [h]
@[congr] theorem PK {C : Ctx} {ops : Array Oper} {l : List Oper} {st st' : ASt} {K : ASt -> Prop} (h : dh st = st') : gQ C ops l st K = gQ C ops l st' K := by rw [aR] at h; rw [h]
@[congr] theorem Tm {C : Ctx} {N h0 : Nat} {code : Code} {st st' : ASt} {Q : Exit -> ASt -> Prop} (h : dh st = st') : AW C N h0 code st Q = AW C N h0 code st' Q := by rw [aR] at h; rw [h]
@[congr] theorem Pc {C : Ctx} {st st' : ASt} {o : Oper} (h : dh st = st') : aI C st o = aI C st' o := by rw [aR] at h; rw [h]
@[congr] theorem O7 {ops : Array Oper} {ρ ρ' : List (Nat × AV)} {o : Oper} (h : dh ρ = ρ') : bg ops ρ o = bg ops ρ' o := by rw [aR] at h; rw [h]
def oB : List Oper -> Nat -> Option Tmp
 | [], _ => none
 | o :: _, 0 => o.dst
 | _ :: r, j + 1 => oB r j
@[congr] theorem Og {l : List Oper} {j j' : Nat} (h : dh j = j') : oB l j = oB l j' := by rw [aR] at h; rw [h]
@[simp] theorem OC (d : Option Tmp) (op : Op) (ty : TypeId) (p : String) (af : Array Edge) (g : Option (Nat × Bool)) (r : List Oper) : oB (⟨d, op, ty, p, af, g⟩ :: r) 0 = d := rfl
@[simp] theorem PC (o : Oper) (r : List Oper) (j : Nat) : oB (o :: r) (j + 1) = oB r j := rfl
theorem Ay : ∀ (l : List Oper) (j : Nat), oB l j = (l[j]?).bind (·.dst)
 | [], _ => rfl
 | _ :: _, 0 => rfl
 | _ :: r, j + 1 => by rw [oB, Ay r j, List.getElem?_cons_succ]
def fK (o : Option (Prop × AV × List Blk)) (K : Prop -> AV -> List Blk -> Prop) : Prop :=
 match o with
 | some (ob, v, H) => K ob v H
 | none => False
@[congr] theorem Oq {o o' : Option (Prop × AV × List Blk)} {K : Prop -> AV -> List Blk -> Prop} (h : dh o = o') : fK o K = fK o' K := by rw [aR] at h; rw [h]
@[simp] theorem QW (ob : Prop) (v : AV) (H : List Blk) (K : Prop -> AV -> List Blk -> Prop) : fK (some (ob, v, H)) K = K ob v H := rfl
def fI (o : Option Bool) (K : Bool -> Prop) : Prop :=
 match o with
 | some g => K g
 | none => False
@[congr] theorem M8 {o o' : Option Bool} {K : Bool -> Prop} (h : dh o = o') : fI o K = fI o' K := by rw [aR] at h; rw [h]
@[simp] theorem jk (g : Bool) (K : Bool -> Prop) : fI (some g) K = K g := rfl
def dP (g : Bool) (A B : Prop) : Prop := (g = true -> A) /\ (g = false -> B)
@[congr] theorem OT {g g' : Bool} {A B : Prop} (h : dh g = g') : dP g A B = dP g' A B := by rw [aR] at h; rw [h]
theorem BX {g : Bool} {A B : Prop} (h : g = true -> A) (h' : g = false -> B) : dP g A B := ⟨h, h'⟩
@[simp] theorem kC (A B : Prop) : dP true A B = A := by simp [dP]
@[simp] theorem jn (A B : Prop) : dP false A B = B := by simp [dP]
def cD (v : AV) (K : Bool -> Prop) : Prop :=
 match v with
 | .bool x => K x
 | .anyb => K true /\ K false
 | _ => False
@[congr] theorem Mt {v v' : AV} {K : Bool -> Prop} (h : dh v = v') : cD v K = cD v' K := by rw [aR] at h; rw [h]
@[simp] theorem Nj (x : Bool) (K : Bool -> Prop) : cD (.bool x) K = K x := rfl
@[simp] theorem Ns (K : Bool -> Prop) : cD .anyb K = (K true /\ K false) := rfl
section
variable {C : Ctx} {N h0 : Nat}
@[simp] theorem SC (ops : Array Oper) (st : ASt) (K : ASt -> Prop) : gQ C ops [] st K = K st := rfl
@[simp] theorem RQ (ops : Array Oper) (o : Oper) (r : List Oper) (st : ASt) (K : ASt -> Prop) : gQ C ops (o :: r) st K =
  fI (bg ops st.ρ o) λ g => dP g (fK (aI C st o) λ ob v H' => ob /\ gQ C ops r ⟨b7 st.ρ o.dst v, H'⟩ K) (gQ C ops r ⟨b7 st.ρ o.dst (.tup []), st.H⟩ K) := by
 rw [gQ]
 cases bg ops st.ρ o with
 | none => rfl
 | some g =>
  simp only [jk, dP]
  cases aI C st o with
  | none => rfl
  | some x => rfl
def r5 (K : ASt -> Prop) (Q : Exit -> ASt -> Prop) (ex : Exit) (st : ASt) : Prop := match ex with | .normal => K st | e => Q e st
@[congr] theorem RG {K : ASt -> Prop} {Q : Exit -> ASt -> Prop} {ex ex' : Exit} {st st' : ASt} (h : dh ex = ex') (h' : st = st') : r5 K Q ex st = r5 K Q ex' st' := by rw [aR] at h; rw [h, h']
@[simp] theorem Nc (K : ASt -> Prop) (Q : Exit -> ASt -> Prop) (st : ASt) : r5 K Q .normal st = K st := rfl
@[simp] theorem TD (K : ASt -> Prop) (Q : Exit -> ASt -> Prop) (st : ASt) : r5 K Q .ret st = Q .ret st := rfl
@[simp] theorem RW (K : ASt -> Prop) (Q : Exit -> ASt -> Prop) (st : ASt) (i : Nat) : r5 K Q (.exit i) st = Q (.exit i) st := rfl
def jL (id : Nat) (Q : Exit -> ASt -> Prop) (ex : Exit) (st : ASt) : Prop := match ex with | .exit j => if j = id then Q .normal st else Q (.exit j) st | e => Q e st
@[congr] theorem OW {id : Nat} {Q : Exit -> ASt -> Prop} {ex ex' : Exit} {st st' : ASt} (h : dh ex = ex') (h' : st = st') : jL id Q ex st = jL id Q ex' st' := by rw [aR] at h; rw [h, h']
@[simp] theorem MR (id : Nat) (Q : Exit -> ASt -> Prop) (st : ASt) : jL id Q .normal st = Q .normal st := rfl
@[simp] theorem RH (id : Nat) (Q : Exit -> ASt -> Prop) (st : ASt) : jL id Q .ret st = Q .ret st := rfl
@[simp] theorem QG (id : Nat) (Q : Exit -> ASt -> Prop) (st : ASt) (i : Nat) : jL id Q (.exit i) st = if i = id then Q .normal st else Q (.exit i) st := rfl
def nh (Q : Exit -> ASt -> Prop) (ex : Exit) (st : ASt) : Prop := match ex with | .goto _ => False | e => Q e st
@[congr] theorem Lc {Q : Exit -> ASt -> Prop} {ex ex' : Exit} {st st' : ASt} (h : dh ex = ex') (h' : st = st') : nh Q ex st = nh Q ex' st' := by rw [aR] at h; rw [h, h']
@[simp] theorem NW (Q : Exit -> ASt -> Prop) (st : ASt) : nh Q .ret st = Q .ret st := rfl
@[simp] theorem Si (st : ASt) (Q : Exit -> ASt -> Prop) : avc C N h0 .skip st Q = Q .normal st := rfl
@[simp] theorem OV (id : Nat) (l : List Oper) (d : Bool) (st : ASt) (Q : Exit -> ASt -> Prop) : avc C N h0 (.region id l.toArray d) st Q = gQ C l.toArray l st (Q .normal) := rfl
@[simp] theorem UW (a b : Code) (st : ASt) (Q : Exit -> ASt -> Prop) : avc C N h0 (.seq a b) st Q = avc C N h0 a st (r5 (λ st' => avc C N h0 b st' Q) Q) := rfl
@[simp] theorem SP (c : Operand) (a b : Code) (st : ASt) (Q : Exit -> ASt -> Prop) : avc C N h0 (.cond c a b) st Q = cD (aev C st.ρ 0 c) λ x => dP x (avc C N h0 a st Q) (avc C N h0 b st Q) := by
 show (match aev C st.ρ 0 c with | .bool x => (x = true -> avc C N h0 a st Q) /\ (x = false -> avc C N h0 b st Q) | .anyb => avc C N h0 a st Q /\ avc C N h0 b st Q | _ => False) = _
 cases aev C st.ρ 0 c <;> first | rfl | simp [cD]
@[simp] theorem Rz (id : Nat) (b : Code) (st : ASt) (Q : Exit -> ASt -> Prop) : avc C N h0 (.block id b) st Q = avc C N h0 b st (jL id Q) := rfl
@[simp] theorem SQ (id : Nat) (st : ASt) (Q : Exit -> ASt -> Prop) : avc C N h0 (.exit id) st Q = Q (.exit id) st := rfl
@[simp] theorem UP (st : ASt) (Q : Exit -> ASt -> Prop) : avc C N h0 .ret st Q = Q .ret st := rfl
@[simp] theorem Tn (b : Code) (st : ASt) (Q : Exit -> ASt -> Prop) : avc C N h0 (.loop b) st Q = AW C N h0 (.loop b) st Q := rfl
@[congr] theorem Qg {rs : List ResultVar} {r : AV} {ex ex' : Exit} {st st' : ASt} (h : dh ex = ex') (h' : st = st') : dV C rs r ex st = dV C rs r ex' st' := by rw [aR] at h; rw [h, h']
@[simp] theorem Rm (rs : List ResultVar) (r : AV) (st : ASt) : dV C rs r .ret st = oK C rs r st := rfl
def round {α : Type} (Sf : α -> ASt) (pre : α -> Prop) (lt : α -> Prop) (N h0 : Nat) (C : Ctx) (Q : Exit -> ASt -> Prop) (ex : Exit) (st' : ASt) : Prop :=
 match ex with | .normal => ∃ x', pre x' /\ lt x' /\ Weak C N h0 st' (Sf x') | e => Q e st'
@[congr] theorem QM {α : Type} {Sf : α -> ASt} {pre lt : α -> Prop} {Q : Exit -> ASt -> Prop} {ex ex' : Exit} {st st' : ASt} (h : dh ex = ex') (h' : st = st') : round Sf pre lt N h0 C Q ex st = round Sf pre lt N h0 C Q ex' st' := by rw [aR] at h; rw [h, h']
@[simp] theorem Lh {α : Type} (Sf : α -> ASt) (pre : α -> Prop) (lt : α -> Prop) (Q : Exit -> ASt -> Prop) (st' : ASt) : round Sf pre lt N h0 C Q .normal st' = ∃ x', pre x' /\ lt x' /\ Weak C N h0 st' (Sf x') := rfl
@[simp] theorem RJ {α : Type} (Sf : α -> ASt) (pre : α -> Prop) (lt : α -> Prop) (Q : Exit -> ASt -> Prop) (st' : ASt) : round Sf pre lt N h0 C Q .ret st' = Q .ret st' := rfl
@[simp] theorem Ph {α : Type} (Sf : α -> ASt) (pre : α -> Prop) (lt : α -> Prop) (Q : Exit -> ASt -> Prop) (st' : ASt) (i : Nat) : round Sf pre lt N h0 C Q (.exit i) st' = Q (.exit i) st' := rfl
theorem am {α : Type} (hS : au C) (hM : C.P.follows .mixedOrders = true) {body : Code} {st : ASt} {Q : Exit -> ASt -> Prop} (Sf : α -> ASt) (pre : α -> Prop) (m : α -> Nat) (hok : ci C N body = true)
  (start : ∃ x, pre x /\ Weak C N h0 st (Sf x)) (step : ∀ x, pre x -> avc C N h0 body (Sf x) (round Sf pre (λ x' => m x' < m x) N h0 C Q)) : AW C N h0 (.loop body) st Q :=
 M2 hS hM hok Sf pre m start λ x hx => eu body (step x hx) λ ex st' h => by cases ex <;> exact h
@[simp] theorem Rl (k : Nat) (v : AV) (r : List (Nat × AV)) (i : Nat) : aZ ((k, v) :: r) i = if k = i then v else aZ r i := rfl
@[simp] theorem T3 (i : Nat) : aZ [] i = .undef := rfl
@[simp] theorem RI (ρ : List (Nat × AV)) (d : Nat) (v : AV) : b7 ρ (some d) v = (d, v) :: ρ := rfl
@[simp] theorem Rs (ρ : List (Nat × AV)) (v : AV) : b7 ρ none v = ρ := rfl
@[simp] theorem U3 (ρ : List (Nat × AV)) (t i : Nat) : aev C ρ t (.tmp i) = aZ ρ i := rfl
@[simp] theorem pt (ρ : List (Nat × AV)) (t f : Nat) : aev C ρ t (.func f) = .fn f [] := rfl
@[simp] theorem Pa (ops : Array Oper) (ρ : List (Nat × AV)) (dst : Option Tmp) (op : Op) (ty : TypeId) (pos : String) (after : Array Edge) : bg ops ρ ⟨dst, op, ty, pos, after, none⟩ = some true := rfl
def xQ (v : AV) (want : Bool) : Option Bool := match v with | .bool b => some (b == want) | .tup [] => some false | _ => none
@[simp] theorem NA (b want : Bool) : xQ (.bool b) want = some (b == want) := rfl
@[simp] theorem Of (want : Bool) : xQ (.tup []) want = some false := rfl
def Du (ρ : List (Nat × AV)) (o : Option Tmp) (want : Bool) : Option Bool := match o with | some d => xQ (aZ ρ d) want | none => none
@[simp] theorem Ou (ρ : List (Nat × AV)) (d : Tmp) (want : Bool) : Du ρ (some d) want = xQ (aZ ρ d) want := rfl
@[simp] theorem PB (l : List Oper) (ρ : List (Nat × AV)) (dst : Option Tmp) (op : Op) (ty : TypeId) (pos : String) (after : Array Edge) (j : Nat) (want : Bool) : bg l.toArray ρ ⟨dst, op, ty, pos, after, some (j, want)⟩ = Du ρ (oB l j) want := by
 unfold bg Du
 simp only [List.getElem?_toArray, Ay]
 cases (l[j]?).bind (·.dst) with
 | none => rfl
 | some d =>
  simp only
  cases aZ ρ d with
  | tup vs => cases vs <;> rfl
  | _ => rfl
def jf (H : List Blk) (o : Option (Prop × AV)) : Option (Prop × AV × List Blk) := match o with | some (ob, v) => some (ob, v, H) | none => none
@[simp] theorem RV (H : List Blk) (ob : Prop) (v : AV) : jf H (some (ob, v)) = some (ob, v, H) := rfl
variable (ρ : List (Nat × AV)) (H : List Blk) (d : Option Tmp) (ty : TypeId) (p : String) (af : Array Edge) (g : Option (Nat × Bool))
@[simp] theorem QH (x : Operand) : aI C ⟨ρ, H⟩ ⟨d, .move x, ty, p, af, g⟩ = some (True, aev C ρ ty x, H) := rfl
@[simp] theorem Ly (x : Operand) : aI C ⟨ρ, H⟩ ⟨d, .assign x, ty, p, af, g⟩ = some (True, aev C ρ ty x, H) := rfl
@[simp] theorem OR (c a b : Operand) : aI C ⟨ρ, H⟩ ⟨d, .pick c a b, ty, p, af, g⟩ = jf H (zS (aev C ρ 0 c) (aev C ρ ty a) (aev C ρ ty b)) := rfl
@[simp] theorem QA (i : Nat) : oz (.tmp i) = false := rfl
@[simp] theorem QD (k : IntKind) (n : Int) : oz (.const (.int k n)) = false := rfl
@[simp] theorem QF (s : ByteArray) : oz (.const (.string s)) = false := rfl
@[simp] theorem QP : oz (.const (.slice none 0 0)) = true := rfl
@[simp] theorem NO (op : BinOp) (t : TypeId) (x y : Operand) (t' : TypeId) : aI C ⟨ρ, H⟩ ⟨d, .binOp op t x y t', ty, p, af, g⟩ = jf H (if oz y then Ax C op t (aev C ρ t x) else KD C op t (aev C ρ t x) (aev C ρ t' y)) := rfl
@[simp] theorem PD (op : UnOp) (t : TypeId) (x : Operand) : aI C ⟨ρ, H⟩ ⟨d, .unOp op t x, ty, p, af, g⟩ = jf H (aun op (aev C ρ ty x)) := rfl
@[simp] theorem KY (s t : TypeId) (x : Operand) : aI C ⟨ρ, H⟩ ⟨d, .convert s t x, ty, p, af, g⟩ = match elT C.P s with | some _ => jf H (ke C H s t (aev C ρ s x)) | none => jf H (AL C s t (aev C ρ s x)) := by
 unfold aI bu
 simp only
 cases elT C.P s <;> rfl
@[simp] theorem NB (t : TypeId) (x : Operand) (k : Nat) : aI C ⟨ρ, H⟩ ⟨d, .field t x k, ty, p, af, g⟩ = jf H (ut C t (aev C ρ t x) k) := rfl
@[simp] theorem HP (t : TypeId) (x : Operand) (k : Nat) : aI C ⟨ρ, H⟩ ⟨d, .fieldAddr t x k, ty, p, af, g⟩ = jf H (je C t (aev C ρ 0 x) k) := rfl
@[simp] theorem HQ (t : TypeId) (x i : Operand) : aI C ⟨ρ, H⟩ ⟨d, .indexAddr t x i, ty, p, af, g⟩ = jf H (jr C t (aev C ρ t x) (aev C ρ 0 i)) := rfl
@[simp] theorem Ox (t : TypeId) (x i : Operand) : aI C ⟨ρ, H⟩ ⟨d, .index t x i, ty, p, af, g⟩ = jf H (tJ C t (aev C ρ t x) (aev C ρ 0 i)) := rfl
@[simp] theorem Nk (t : TypeId) (x : Operand) (l h m : Option Operand) : aI C ⟨ρ, H⟩ ⟨d, .slice t x l h m, ty, p, af, g⟩ = jf H (t5 C t (aev C ρ t x) (l.map (aev C ρ 0)) (h.map (aev C ρ 0)) (m.map (aev C ρ 0))) := rfl
def A9 (v : AV) (k : Nat) : Option (Prop × AV) := match v with | .tup vs => (match vs[k]? with | some v => some (True, v) | none => none) | _ => none
@[simp] theorem MG (vs : List AV) (k : Nat) : A9 (.tup vs) k = match vs[k]? with | some v => some (True, v) | none => none := rfl
@[simp] theorem KZ (x : Operand) (k : Nat) : aI C ⟨ρ, H⟩ ⟨d, .extract x k, ty, p, af, g⟩ = jf H (A9 (aev C ρ 0 x) k) := rfl
@[simp] theorem JN (f : FuncId) (cap : Array Operand) : aI C ⟨ρ, H⟩ ⟨d, .makeFunc (.func f) #[] cap, ty, p, af, g⟩ = some (True, .fn f (cap.toList.map (aev C ρ 0)), H) := rfl
def OU (v : AV) : Option (Prop × AV) := match v with | .ptr l n sz i f => some (True, .ptr l n sz i f) | .iptr cs => some (True, .iptr cs) | .fn f cap => some (True, .fn f cap) | _ => none
@[simp] theorem R9 (l n sz i f : Nat) : OU (.ptr l n sz i f) = some (True, .ptr l n sz i f) := rfl
@[simp] theorem H8 (x : Operand) : aI C ⟨ρ, H⟩ ⟨d, .nilCheck x, ty, p, af, g⟩ = jf H (OU (aev C ρ 0 x)) := by
 unfold aI bu pA OU
 simp only
 cases aev C ρ 0 x <;> rfl
@[simp] theorem MV (t : TypeId) (m x : Operand) (ok : Bool) : aI C ⟨ρ, H⟩ ⟨d, .lookup t m x ok, ty, p, af, g⟩ = jf H (zh C t (aev C ρ t m) (aev C ρ 0 x) ok) := rfl
@[simp] theorem Ng (t : TypeId) (ps : Array (Nat × Operand)) : aI C ⟨ρ, H⟩ ⟨d, .build t ps, ty, p, af, g⟩ = jf H (mf C ρ t ps.toList) := rfl
@[simp] theorem PU (t : TypeId) (x : Operand) : aI C ⟨ρ, H⟩ ⟨d, .load t x, ty, p, af, g⟩ = jf H (vu C H t (aev C ρ 0 x)) := rfl
@[simp] theorem Ot (t : TypeId) : aI C ⟨ρ, H⟩ ⟨d, .alloc t, ty, p, af, g⟩ = w8 C H t (zT C.P t) := rfl
@[simp] theorem RY (t : TypeId) (x : Operand) : aI C ⟨ρ, H⟩ ⟨d, .box t x, ty, p, af, g⟩ = w8 C H t (ic C t (aev C ρ t x)) := rfl
@[simp] theorem Or (t : TypeId) (x y : Operand) : aI C ⟨ρ, H⟩ ⟨d, .store t x y, ty, p, af, g⟩ = tk C H t (aev C ρ 0 x) (aev C ρ t y) := rfl
@[simp] theorem HN (t : TypeId) (x y : Operand) : aI C ⟨ρ, H⟩ ⟨d, .makeSlice t x y, ty, p, af, g⟩ = ze C H t (aev C ρ 0 x) (aev C ρ 0 y) := rfl
@[simp] theorem RB (x : Operand) (t : TypeId) : aI C ⟨ρ, H⟩ ⟨d, .call ⟨.builtin .len, #[x], #[t]⟩, ty, p, af, g⟩ = jf H (HY C t (aev C ρ t x)) := rfl
def Au (H : List Blk) (o : Option AV) : Option (Prop × AV × List Blk) := match o with | some v => some (True, v, H) | none => none
@[simp] theorem Re (v : AV) : Au H (some v) = some (True, v, H) := rfl
@[simp] theorem R7 (x y : Operand) (t t' : TypeId) : aI C ⟨ρ, H⟩ ⟨d, .call ⟨.builtin .max, #[x, y], #[t, t']⟩, ty, p, af, g⟩ = Au H (uY [aev C ρ t x, aev C ρ t' y]) := by
 unfold aI bu pA Au
 simp only [cg]
 cases uY [aev C ρ t x, aev C ρ t' y] <;> rfl
@[simp] theorem P5 (x y z : Operand) (t t' t'' : TypeId) : aI C ⟨ρ, H⟩ ⟨d, .call ⟨.builtin .max, #[x, y, z], #[t, t', t'']⟩, ty, p, af, g⟩ = Au H (uY [aev C ρ t x, aev C ρ t' y, aev C ρ t'' z]) := by
 unfold aI bu pA Au
 simp only [cg]
 cases uY [aev C ρ t x, aev C ρ t' y, aev C ρ t'' z] <;> rfl
@[simp] theorem NJ (t : TypeId) (sz : Nat) (f : Bool) (rows : List (List AV)) (x : AV) : vz C H t (.slice sz f rows) x = k8 C H t (.slice sz f rows) x := rfl
@[simp] theorem RC (t : TypeId) (l n : Nat) (x : AV) : vz C H t (.own l n) x = k8 C H t (.own l n) x := rfl
@[simp] theorem Le (x y : Operand) (t t' : TypeId) : aI C ⟨ρ, H⟩ ⟨d, .call ⟨.builtin .append, #[x, y], #[t, t']⟩, ty, p, af, g⟩ = if t = t' then vz C H t (aev C ρ t x) (aev C ρ t' y) else none := rfl
@[simp] theorem Pb (x y : Operand) (t t' : TypeId) : aI C ⟨ρ, H⟩ ⟨d, .call ⟨.builtin .copy, #[x, y], #[t, t']⟩, ty, p, af, g⟩ = if t = t' then y6 C H t (aev C ρ t x) (aev C ρ t' y) else none := rfl
def bV (C : Ctx) (t : TypeId) : Bool := match elT C.P t with
  | some e => (match zT C.P e with | some z => z.all AV.scal | none => false)
  | none => false
@[simp] theorem GC (t : TypeId) (n : Nat) (ps : Array (Nat × Operand)) : aI C ⟨ρ, H⟩ ⟨d, .buildSlice t n ps, ty, p, af, g⟩ =
  if bV C t = true then (if (aW C ρ t ps.toList).all (λ p => p.2.deepArg) then jf H (bO C t n (aW C ρ t ps.toList)) else none)
  else if (aW C ρ t ps.toList).any (λ p => Bb p.2) = true then j4 C H t n (aW C ρ t ps.toList)
  else jf (jY ((aW C ρ t ps.toList).flatMap λ p => bI H 6 p.2) 0 H) (bO C t n ((aW C ρ t ps.toList).map λ p => (p.1, bL H 6 p.2))) := by
 have hk : bu C ⟨d, .buildSlice t n ps, ty, p, af, g⟩ = if bV C t = true then .read else .eff := by
  unfold bu bV
  simp only
  split
  ·rename_i e he
   split
   ·rename_i z hz; simp [he, hz]
   ·rename_i hz; simp [he, hz]
  ·rename_i hn
   simp [hn]
 unfold aI
 rw [hk]
 rcases bV C t
 case' true => simp only [if_true, ua]
 case' false => simp only [Bool.false_eq_true, if_false, yQ]
 rotate_left
 ·cases ((aW C ρ t ps.toList).all λ p => p.snd.deepArg) with
  | true => simp only [if_true]; cases bO C t n (aW C ρ t ps.toList) <;> rfl
  | false => rfl
 ·cases ((aW C ρ t ps.toList).any λ p => Bb p.snd) with
  | true => rfl
  | false => simp only [Bool.false_eq_true, if_false]; cases bO C t n ((aW C ρ t ps.toList).map λ p => (p.1, bL H 6 p.2)) <;> rfl
@[simp] theorem SX (l n : Nat) : Bb (.own l n) = false := rfl
@[simp] theorem Pl (sz : Nat) (f : Bool) (r : List (List AV)) : Bb (.slice sz f r) = false := rfl
@[simp] theorem SV (c : List AV) : Bb (.agg c) = false := rfl
@[simp] theorem TE (k : IntKind) (n : Int) : Bb (.int k n) = false := rfl
@[simp] theorem TL (s : ByteArray) : Bb (.str s) = false := rfl
def mj (e : Entry) (H : List Blk) (args : List AV) : Option (Prop × AV × List Blk) :=
 match e with
 | .pure q => jf H (eX H q args)
 | .frz q => jf (jY (args.flatMap (bI H 6)) 0 H) (q (args.map (bL H 6)))
 | .gen q => q args H
 | .no => none
@[simp] theorem NP (q : List AV -> Option (Prop × AV)) (args : List AV) : mj (.pure q) H args = jf H (eX H q args) := rfl
@[simp] theorem Po (q : List AV -> Option (Prop × AV)) (args : List AV) : mj (.frz q) H args = jf (jY (args.flatMap (bI H 6)) 0 H) (q (args.map (bL H 6))) := rfl
@[simp] theorem OF (q : List AV -> List Blk -> Option (Prop × AV × List Blk)) (args : List AV) : mj (.gen q) H args = q args H := rfl
@[simp] theorem QX (f : FuncId) (xs : Array Operand) (ts : Array TypeId) : aI C ⟨ρ, H⟩ ⟨d, .call ⟨.value (.func f), xs, ts⟩, ty, p, af, g⟩ = mj (C.S f) H (cg C ρ xs.toList ts.toList) := by
 unfold aI bu
 simp only
 cases h : C.S f with
 | no => simp only [kdE, yQ, target, pt, h, mj, append_nil]
 | pure q => simp only [kdE, ua, target, pt, h, mj, append_nil]; cases eX H q _ <;> rfl
 | frz q => simp only [kdE, yQ, target, pt, h, mj, append_nil]; cases q _ <;> rfl
 | gen q => simp only [kdE, yQ, target, pt, h, mj, append_nil]
@[simp] theorem PL (ts : List TypeId) : cg C ρ [] ts = [] := by cases ts <;> rfl
@[simp] theorem Oc (x : Operand) (r : List Operand) (t : TypeId) (q : List TypeId) : cg C ρ (x :: r) (t :: q) = aev C ρ t x :: cg C ρ r q := rfl
end
attribute [simp] xC yB
@[simp] theorem K5 (l : List Int) (x : Int) : ac l ++ [[.int .i64 x]] = ac (l ++ [x]) := by rw [bz]; rfl
@[simp] theorem KX (l : List ByteArray) (x : ByteArray) : ac l ++ [[.str x]] = ac (l ++ [x]) := by rw [bz]; rfl
@[simp] theorem TB {α : Type} [Enc α] (l m : List α) : ac l ++ ac m = ac (l ++ m) := (bz l m).symm
@[simp] theorem LV (l : List Int) (i : Nat) (x : Int) : (ac l).set i [.int .i64 x] = ac (l.set i x) := rC l i x
@[simp] theorem MB (n : Nat) (x : Int) : List.replicate n [AV.int .i64 x] = ac (List.replicate n x) := by simp [ac]
@[simp] theorem UY (a b : Int) : (a == b) = decide (a = b) := by by_cases h : a = b <;> simp [h]
@[simp] theorem UE (a b : Int) : (a != b) = !decide (a = b) := by by_cases h : a = b <;> simp [h]
@[simp] theorem NR (b : Bool) : AV.isDeep (.bool b : AV) = true := rfl
@[simp] theorem Oo (b : Bool) : AV.isCell (.bool b : AV) = true := rfl
@[simp] theorem OG (b : Bool) : AV.flat1 (.bool b : AV) = true := rfl
@[simp] theorem LN (b : Bool) : AV.deepArg (.bool b : AV) = true := rfl
@[simp] theorem Ov (b : Bool) : AV.isFlat (.bool b : AV) = true := rfl
@[simp] theorem RN (b : Bool) : n8 (.bool b : AV) = (.bool b : AV) := rfl
@[simp] theorem Rr (b : Bool) : cM (.bool b : AV) = (.bool b : AV) := rfl
@[simp] theorem RE (H : List Blk) (d : Nat) (b : Bool) : bL H d (.bool b : AV) = (.bool b : AV) := by cases d <;> rfl
@[simp] theorem Ql (k : IntKind) (n : Int) : AV.isDeep (.int k n : AV) = true := rfl
@[simp] theorem OD (k : IntKind) (n : Int) : AV.isCell (.int k n : AV) = true := rfl
@[simp] theorem Rt (k : IntKind) (n : Int) : AV.flat1 (.int k n : AV) = true := rfl
@[simp] theorem Nu (k : IntKind) (n : Int) : AV.deepArg (.int k n : AV) = true := rfl
@[simp] theorem Qb (k : IntKind) (n : Int) : AV.isFlat (.int k n : AV) = true := rfl
@[simp] theorem Sx (k : IntKind) (n : Int) : n8 (.int k n : AV) = (.int k n : AV) := rfl
@[simp] theorem Ub (k : IntKind) (n : Int) : cM (.int k n : AV) = (.int k n : AV) := rfl
@[simp] theorem TO (H : List Blk) (d : Nat) (k : IntKind) (n : Int) : bL H d (.int k n : AV) = (.int k n : AV) := by cases d <;> rfl
@[simp] theorem RA (H : List Blk) (d : Nat) (k : IntKind) (n : Int) : bI H d (.int k n : AV) = [] := by cases d <;> rfl
@[simp] theorem Qj (s : ByteArray) : AV.isDeep (.str s : AV) = true := rfl
@[simp] theorem Rd (s : ByteArray) : AV.isCell (.str s : AV) = true := rfl
@[simp] theorem RS (s : ByteArray) : AV.flat1 (.str s : AV) = true := rfl
@[simp] theorem NT (s : ByteArray) : AV.deepArg (.str s : AV) = true := rfl
@[simp] theorem TM (s : ByteArray) : n8 (.str s : AV) = (.str s : AV) := rfl
@[simp] theorem SD (s : ByteArray) : cM (.str s : AV) = (.str s : AV) := rfl
@[simp] theorem Sa (H : List Blk) (d : Nat) (s : ByteArray) : bL H d (.str s : AV) = (.str s : AV) := by cases d <;> rfl
@[simp] theorem RD (H : List Blk) (d : Nat) (s : ByteArray) : bI H d (.str s : AV) = [] := by cases d <;> rfl
@[simp] theorem Mg (sz : Nat) (full : Bool) (rows : List (List AV)) : AV.isDeep (.slice sz full rows : AV) = true := rfl
@[simp] theorem MO (sz : Nat) (full : Bool) (rows : List (List AV)) : AV.isCell (.slice sz full rows : AV) = true := rfl
@[simp] theorem N5 (sz : Nat) (full : Bool) (rows : List (List AV)) : AV.flat1 (.slice sz full rows : AV) = false := rfl
@[simp] theorem KW (sz : Nat) (full : Bool) (rows : List (List AV)) : AV.deepArg (.slice sz full rows : AV) = true := rfl
@[simp] theorem MP (sz : Nat) (full : Bool) (rows : List (List AV)) : AV.isFlat (.slice sz full rows : AV) = false := rfl
@[simp] theorem Qx (sz : Nat) (full : Bool) (rows : List (List AV)) : n8 (.slice sz full rows : AV) = (.slice sz false rows : AV) := rfl
@[simp] theorem Qu (sz : Nat) (full : Bool) (rows : List (List AV)) : cM (.slice sz full rows : AV) = (.slice sz false rows : AV) := rfl
@[simp] theorem P7 (H : List Blk) (d : Nat) (sz : Nat) (full : Bool) (rows : List (List AV)) : bL H d (.slice sz full rows : AV) = (.slice sz full rows : AV) := by cases d <;> rfl
@[simp] theorem Oi (H : List Blk) (d : Nat) (sz : Nat) (full : Bool) (rows : List (List AV)) : bI H d (.slice sz full rows : AV) = [] := by cases d <;> rfl
@[simp] theorem PE (l n : Nat) : AV.isDeep (.own l n : AV) = false := rfl
@[simp] theorem Qz (l n : Nat) : AV.isCell (.own l n : AV) = true := rfl
@[simp] theorem NS (l n : Nat) : AV.deepArg (.own l n : AV) = false := rfl
@[simp] theorem N3 (cs : List AV) : AV.deepArg (.agg cs : AV) = cs.all AV.isDeep := rfl
@[simp] theorem O8 (cs : List AV) : AV.isFlat (.agg cs : AV) = cs.all AV.flat1 := rfl
@[simp] theorem Tf (cs : List AV) : cM (.agg cs : AV) = (.agg (cs.map n8) : AV) := rfl
@[simp] theorem Uo (cs : List AV) : cM (.tup cs : AV) = (.tup (cs.map λ c => match c with | .agg ds => .agg (ds.map n8) | c => n8 c) : AV) := rfl
@[simp] theorem UG (f : FuncId) (cs : List AV) : cM (.fn f cs : AV) = (.fn f cs : AV) := rfl
@[simp] theorem PQ (cs : List AV) : AV.isFlat (.tup cs) = cs.all λ x => match x with | .agg cs => cs.all AV.flat1 | x => x.flat1 := rfl
@[simp] theorem Sc (H : List Blk) (d : Nat) (cs : List AV) : bL H (d + 1) (.agg cs) = .agg (cs.map (bL H d)) := rfl
@[simp] theorem TP (H : List Blk) (d : Nat) (cs : List AV) : bL H (d + 1) (.tup cs) = .tup (cs.map (bL H d)) := rfl
@[simp] theorem UL (H : List Blk) (d : Nat) (f : FuncId) (cs : List AV) : bL H (d + 1) (.fn f cs) = .fn f (cs.map (bL H d)) := rfl
def Kz (H : List Blk) (d : Nat) (deep : Bool) (rows : List (List AV)) : List (List AV) := if deep then rows else rows.map λ r => r.map (bL H d)
@[simp] theorem Qv (H : List Blk) (d : Nat) (rows : List (List AV)) : Kz H d true rows = rows := rfl
def Nm (H : List Blk) (d n : Nat) (b : Option Blk) : AV := match b with | some b => if b.rows.length = n then .slice b.sz false (Kz H d b.deep b.rows) else .undef | none => .undef
@[simp] theorem Rf (H : List Blk) (d n : Nat) (b : Blk) : Nm H d n (some b) = if b.rows.length = n then .slice b.sz false (Kz H d b.deep b.rows) else .undef := rfl
@[simp] theorem SA (H : List Blk) (d l n : Nat) : bL H (d + 1) (.own l n) = Nm H d n H[l]? := rfl
def Iq (H : List Blk) (d : Nat) (deep : Bool) (cs : List AV) : List AV := if deep then cs else cs.map (bL H d)
@[simp] theorem QB (H : List Blk) (d : Nat) (cs : List AV) : Iq H d true cs = cs := rfl
def No (H : List Blk) (d n sz i f : Nat) (b : Option Blk) : AV := match b with | some b => if b.rows.length = n /\ b.sz = sz /\ i < n then .iptr (Iq H d b.deep ((kw b.rows i).drop f)) else .undef | none => .undef
@[simp] theorem Qf (H : List Blk) (d n sz i f : Nat) (b : Blk) : No H d n sz i f (some b) = if b.rows.length = n /\ b.sz = sz /\ i < n then .iptr (Iq H d b.deep ((kw b.rows i).drop f)) else .undef := rfl
@[simp] theorem S7 (H : List Blk) (d l n sz i f : Nat) : bL H (d + 1) (.ptr l n sz i f) = No H d n sz i f H[l]? := rfl
def Jc (H : List Blk) (d : Nat) (b : Option Blk) : List Nat := match b with | some b => if b.deep then [] else b.rows.flatMap λ r => r.flatMap (bI H d) | none => []
@[simp] theorem Nl (H : List Blk) (d : Nat) (b : Blk) : Jc H d (some b) = if b.deep then [] else b.rows.flatMap λ r => r.flatMap (bI H d) := rfl
@[simp] theorem RF (H : List Blk) (d l n : Nat) : bI H (d + 1) (.own l n) = l :: Jc H d H[l]? := rfl
@[simp] theorem Rg (H : List Blk) (d : Nat) (cs : List AV) : bI H (d + 1) (.agg cs) = cs.flatMap (bI H d) := rfl
@[simp] theorem Tu (ls : List Nat) (i : Nat) : jY ls i [] = [] := rfl
@[simp] theorem Rn (ls : List Nat) (i : Nat) (e : TypeId) (sz : Nat) (rows : List (List AV)) (mu deep : Bool) (r : List Blk) : jY ls i (⟨e, sz, rows, mu, deep⟩ :: r) = ⟨e, sz, rows, mu && !ls.contains i, deep⟩ :: jY ls (i + 1) r := by
 rw [jY]
 cases ls.contains i <;> simp
def T8 (H : List Blk) (r : AV) (o : Option (Prop × AV)) : Prop := match o with | some (ob, r') => ob /\ cM (bL H 6 r') = r | none => False
@[simp] theorem Ry (H : List Blk) (r r' : AV) (ob : Prop) : T8 H r (some (ob, r')) = (ob /\ cM (bL H 6 r') = r) := rfl
@[simp] theorem UO (C : Ctx) (rs : List ResultVar) (r : AV) (ρ : List (Nat × AV)) (H : List Blk) : oK C rs r ⟨ρ, H⟩ = T8 H r (cP C ⟨ρ, H⟩ rs) := rfl
open Go.RowKit Go.WideShapes Go.ChangeShapes
def CellsD (w : World) (cs : List Value) (avs : List AV) : Prop :=
 cs.length = avs.length /\ ∀ (j : Nat) (v : AV), avs[j]? = some v -> ∃ u, cs[j]? = some u /\ u.oneCell' = true /\ RepD w (λ _ => False) u v
def pT (P : Program) (n : Nat) (t : TypeId) (α : Type) [Enc α] (wf : α -> Prop) : Prop :=
 ∀ {H : Type} (enc : TypeId × Value -> H) (w : World) (held : Bool) (cs : List Value) (x : DataW H × List MemPlace), DataW.trod enc P w 0 (λ _ => true) held n t cs = some x -> ∃ a : α, wf a /\ CellsD w cs (Enc.cells a)
def Reads (P : Program) (t : TypeId) (α : Type) [Enc α] (wf : α -> Prop) : Prop := ∀ n, pT P n t α wf
theorem CellsD.nil (w : World) : CellsD w [] [] := ⟨rfl, λ j v h => by simp at h⟩
theorem CellsD.one {w : World} {u : Value} {v : AV} (h : RepD w (λ _ => False) u v) (h1 : u.oneCell' = true) : CellsD w [u] [v] := ⟨rfl, λ j x hj => by
 match j with
 | 0 => simp at hj; subst hj; exact ⟨u, rfl, h1, h⟩
 | j + 1 => simp at hj⟩
theorem CellsD.append {w : World} {cs ds : List Value} {A B : List AV} (h : CellsD w cs A) (h' : CellsD w ds B) : CellsD w (cs ++ ds) (A ++ B) := by
 refine ⟨by simp [h.1, h'.1], λ j v hj => ?_⟩
 rcases lt_or_ge j A.length with hlt | hge
 ·rw [List.getElem?_append_left hlt] at hj
  rw [List.getElem?_append_left (by rw [h.1]; exact hlt)]
  exact h.2 j v hj
 ·rw [List.getElem?_append_right hge] at hj
  rw [List.getElem?_append_right (by rw [h.1]; exact hge), h.1]
  exact h'.2 _ v hj
theorem CellsD.split {w : World} {cs : List Value} {o s : Nat} {A B : List AV} (h : CellsD w ((cs.drop o).take s) A) (h' : CellsD w (cs.drop (o + s)) B) : CellsD w (cs.drop o) (A ++ B) := by
 have := h.append h'
 rwa [<- List.drop_drop, List.take_append_drop] at this
theorem CellsD.last {w : World} {cs : List Value} {o : Nat} (h : cs.length <= o) : CellsD w (cs.drop o) [] := by rw [List.drop_eq_nil_of_le h]; exact CellsD.nil w
section
variable {P : Program} {n : Nat} {t e : TypeId}
theorem Ao (h : qF P t = some .i64) : pT P n t Int I64 := by
 intro H enc w held cs x hx
 cases n with
 | zero => simp [DataW.trod] at hx
 | succ n =>
  unfold DataW.trod at hx
  rw [jH h] at hx
  split at hx <;> simp_all
  rename_i k k' z heq
  subst heq
  obtain rfl := hx.1.1
  refine ⟨z, ?_, CellsD.one (.int _ _) rfl⟩
  have := hx.1.2
  simp only [Lit.wf, Bool.and_eq_true, decide_eq_true_eq] at this
  unfold I64
  exact this
theorem AY (h : n7 P t = true) : pT P n t ByteArray (λ s => s.size <= maxLen) := by
 intro H enc w held cs x hx
 cases n with
 | zero => simp [DataW.trod] at hx
 | succ n =>
  unfold DataW.trod at hx
  rw [dd h] at hx
  have key : ∃ s : ByteArray, cs = [.string s] /\ s.size <= maxLen := by split at hx <;> simp_all
  obtain ⟨s, rfl, hs⟩ := key
  exact ⟨s, hs, CellsD.one (.str _) rfl⟩
def WfL {α : Type} (wf : α -> Prop) (l : List α) : Prop := l.length <= maxLen /\ ∀ a ∈ l, wf a
theorem AS {w : World} {a : Addr} {u : Value} (h : w.cell? a = some u) : ∃ b off, a = ⟨b, off, none⟩ := by
 obtain ⟨b, off, spot⟩ := a
 have hspot : spot = none := by simpa using World.cell?_spot h
 subst hspot
 exact ⟨b, off, rfl⟩
theorem pe {α : Type} [Enc α] [Inhabited α] {wf : α -> Prop} (h : elT P t = some e) (hz : szT P e = Enc.sz α) (hp : 0 < szT P e) (he : pT P n e α wf) : pT P (n + 1) t (List α) (WfL wf) := by
 intro H enc w held cs x hx
 rcases DataW.trod_slice (bC h) hx with ⟨rfl, _⟩ | ⟨a, len, cap, elems, rest, m, hm, rfl, _, _, hl, hc, hlen, hel, _, _⟩
 ·refine ⟨[], ⟨zero_le _, by simp⟩, CellsD.one ?_ rfl⟩
  exact .slice _ false [] none 0 0 (λ _ _ => undef) rfl (le_refl _) (zero_le _) (λ h => by cases h) (λ r h => by cases h) (λ h => absurd rfl h) (λ i j r v h => by simp at h)
 ·obtain rfl : n = m := by omega
  obtain ⟨V, hV⟩ := Go.Deep.choose_lt (n := len) (p := λ i (y : α × List Value) => wf y.1 /\ w.cells? 0 (a.add (i * szT P e)) (szT P e) = some y.2 /\ CellsD w y.2 (Enc.cells y.1)) (λ i hi => by
   have := hel i hi
   rw [getElem?_eq_getElem (by omega)] at this
   obtain ⟨cs', h1, h2⟩ := Option.bind_eq_some_iff.1 this
   obtain ⟨y, hy, hcd⟩ := he enc w held cs' _ h2
   exact ⟨(y, cs'), hy, h1, hcd⟩)
  refine ⟨(List.range len).map λ i => (V i).1, ⟨by simp; omega, λ y hy => ?_⟩, CellsD.one ?_ rfl⟩
  ·obtain ⟨i, hi, rfl⟩ := mem_map.1 hy
   exact (hV i (mem_range.1 hi)).1
  ·have hcell : ∀ i j, i < len -> j < szT P e -> ∃ v, w.cell? (a.add (i * szT P e + j)) = some v /\ (V i).2[j]? = some v := by
    intro i j hi hj
    obtain ⟨_, h2, _⟩ := hV i hi
    obtain ⟨_, h3, h4⟩ := World.cells?_some h2
    have := h4 j hj
    rw [Go.Deep.add_add] at this
    rw [getElem?_eq_getElem (by omega)] at this ⊢
    exact ⟨_, this, rfl⟩
   have hsz : ∀ i, i < len -> (Enc.cells (V i).1).length = Enc.sz α := by
    intro i hi
    obtain ⟨_, h2, h3⟩ := hV i hi
    obtain ⟨_, h4, _⟩ := World.cells?_some h2
    rw [<- h3.1, h4, hz]
   refine .slice _ false _ (some a) len cap (λ i j => ((V i).2[j]?).getD undef) (by simp) (by simpa using hl) hc (λ h => by cases h) (λ r hr => ?_) (λ h0 => ?_) (λ i j r v hr hv => ?_)
   ·simp only [map_map, mem_map, mem_range, Function.comp_apply] at hr
    obtain ⟨i, hi, rfl⟩ := hr
    exact hsz i hi
   ·have h0' : 0 < len := by simp at h0; omega
    obtain ⟨v0, hv0, _⟩ := hcell 0 0 h0' (by omega)
    simp only [Nat.zero_mul, zero_add] at hv0
    obtain ⟨b, off, rfl⟩ := AS (by simpa [Addr.add] using hv0 : w.cell? a = some v0)
    refine ⟨b, off, rfl, ?_, id, λ i j hi hj => ?_⟩
    ·have := World.block_lt_of_cell? w _ hv0
     simpa [Addr.add] using this
    ·have hi' : i < len := by simpa using hi
     rw [<- hz] at hj
     obtain ⟨v, hv, hv'⟩ := hcell i j hi' hj
     rw [hv', <- hz]
     have e : (⟨b, off, none⟩ : Addr).add (i * szT P e + j) = ⟨b, off + i * szT P e + j, none⟩ := by
      unfold Addr.add
      split
      ·rename_i h; rw [Nat.add_assoc, h]; rfl
      ·simp [Nat.add_assoc]
     rw [e] at hv
     refine ⟨hv, ?_⟩
     obtain ⟨_, _, h3⟩ := hV i hi'
     obtain ⟨u, hu, h1, _⟩ := h3.2 j _ (getElem?_eq_getElem (by rw [hsz i hi', <- hz]; exact hj))
     rw [hv'] at hu
     injection hu with hu
     subst hu
     exact h1
   ·simp only [map_map, getElem?_map, map_eq_some_iff, Function.comp_apply] at hr
    obtain ⟨i', hi', rfl⟩ := hr
    have hlt : i < len := by have := (List.getElem?_eq_some_iff.1 hi').1; simpa using this
    rw [List.getElem?_range hlt] at hi'
    injection hi' with hi'
    subst hi'
    obtain ⟨_, _, h3⟩ := hV i hlt
    obtain ⟨u, hu, _, h4⟩ := h3.2 j v hv
    rw [hu]
    exact h4
theorem cX {H : Type} {enc : TypeId × Value -> H} {w : World} {held : Bool} {cs : List Value} {x : DataW H × List MemPlace} (hs : ∃ fs, P.underlying t = some (.struct fs)) (h : DataW.trod enc P w 0 (λ _ => true) held n t cs = some x) :
  ∃ m, n = m + 1 /\ cs.length = szT P t /\ ∀ k off ty, bT P t k = some (off, ty) -> ∃ y, DataW.trod enc P w 0 (λ _ => true) held m ty ((cs.drop off).take (szT P ty)) = some y := by
 obtain ⟨fs, ht⟩ := hs
 obtain ⟨xs, m, hm, _, hl, hlen, hf⟩ := DataW.trod_struct ht h
 refine ⟨m, hm, hl, λ k off ty hk => ?_⟩
 obtain ⟨fs', f, h1, h2, rfl, rfl⟩ := ss hk
 rw [ht] at h1
 injection h1 with h1
 injection h1 with h1
 subst h1
 have := hf k f h2
 have hk : k < xs.length := by have := (Array.getElem?_eq_some_iff.1 h2).1; omega
 rw [getElem?_eq_getElem hk] at this
 exact ⟨_, this⟩
end
theorem GA {P : Program} {t : TypeId} (h : qF P t = some .i64) : Reads P t Int I64 := λ _ => Ao h
theorem GK {P : Program} {t : TypeId} (h : n7 P t = true) : Reads P t ByteArray (λ s => s.size <= maxLen) := λ _ => AY h
theorem gu {P : Program} {t e : TypeId} {α : Type} [Enc α] [Inhabited α] {wf : α -> Prop} (h : elT P t = some e) (hz : szT P e = Enc.sz α) (hp : 0 < szT P e) (he : Reads P e α wf) : Reads P t (List α) (WfL wf) := λ n => by
 cases n with
 | zero => intro H enc w held cs x hx; simp [DataW.trod] at hx
 | succ n => exact pe h hz hp (he n)
section
variable {P : Program} {t : TypeId} {α : Type} [Enc α] {wf : α -> Prop} {H : Type} {enc : TypeId × Value -> H} {w : World} {held : Bool} {v : Value} {d : DataW H} {p : List MemPlace}
theorem CellsD.head {w : World} {v : Value} {av : AV} (h : CellsD w [v] [av]) : RepD w (λ _ => False) v av := by
 obtain ⟨u, hu, _, hr⟩ := h.2 0 av rfl
 simp at hu
 subst hu
 exact hr
theorem Reads.top1 (R : Reads P t α wf) (hE : ∀ a : α, Enc.cells a = [Enc.enc a]) (hv : v.cells = #[v]) (h : DataW.Trod enc P w 0 (λ _ => true) held t v d p) : ∃ a : α, wf a /\ RepD w (λ _ => False) v (Enc.enc a) := by
 obtain ⟨n, h⟩ := h
 obtain ⟨a, ha, hc⟩ := R n enc w held _ _ h
 rw [hv, hE a] at hc
 exact ⟨a, ha, hc.head⟩
theorem Reads.slice (R : Reads P t α wf) (hE : ∀ a : α, Enc.cells a = [Enc.enc a]) {e : TypeId} {r : Reach} {b0 : Nat} (ht : elT P t = some e) (hv : Value.okWide P w r b0 t v) (h : DataW.Trod enc P w 0 (λ _ => true) held t v d p) : ∃ a : α, wf a /\ RepD w (λ _ => False) v (Enc.enc a) := by
 obtain ⟨a, l, c, rfl⟩ := okWide_slice (bC ht) hv
 exact R.top1 hE rfl h
theorem Reads.int {k : IntKind} (R : Reads P t α wf) (hE : ∀ a : α, Enc.cells a = [Enc.enc a]) {r : Reach} {b0 : Nat} (ht : qF P t = some k) (hv : Value.okWide P w r b0 t v) (h : DataW.Trod enc P w 0 (λ _ => true) held t v d p) : ∃ a : α, wf a /\ RepD w (λ _ => False) v (Enc.enc a) := by
 obtain ⟨n, rfl⟩ := okWide_int (jH ht) hv
 exact R.top1 hE rfl h
theorem Reads.str (R : Reads P t α wf) (hE : ∀ a : α, Enc.cells a = [Enc.enc a]) {r : Reach} {b0 : Nat} (ht : n7 P t = true) (hv : Value.okWide P w r b0 t v) (h : DataW.Trod enc P w 0 (λ _ => true) held t v d p) : ∃ a : α, wf a /\ RepD w (λ _ => False) v (Enc.enc a) := by
 obtain ⟨n, rfl⟩ := okWide_string (dd ht) hv
 exact R.top1 hE rfl h
theorem Reads.bool (R : Reads P t α wf) (hE : ∀ a : α, Enc.cells a = [Enc.enc a]) {r : Reach} {b0 : Nat} (ht : uF P t = true) (hv : Value.okWide P w r b0 t v) (h : DataW.Trod enc P w 0 (λ _ => true) held t v d p) : ∃ a : α, wf a /\ RepD w (λ _ => False) v (Enc.enc a) := by
 obtain ⟨n, rfl⟩ := okWide_bool (j7 ht) hv
 exact R.top1 hE rfl h
theorem Reads.struct (R : Reads P t α wf) (hE : ∀ a : α, Enc.enc a = .agg (Enc.cells a)) {r : Reach} {b0 : Nat} (ht : ∃ fs, P.underlying t = some (.struct fs)) (hv : Value.okWide P w r b0 t v) (h : DataW.Trod enc P w 0 (λ _ => true) held t v d p) : ∃ a : α, wf a /\ RepD w (λ _ => False) v (Enc.enc a) := by
 obtain ⟨fs, ht⟩ := ht
 obtain ⟨cs, rfl, _⟩ := okWide_struct ht hv
 obtain ⟨n, h⟩ := h
 obtain ⟨a, ha, hc⟩ := R n enc w held _ _ h
 refine ⟨a, ha, ?_⟩
 rw [hE a]
 obtain ⟨h1, h2⟩ := hc
 simp only [Value.cells] at h1 h2
 refine .agg cs _ (λ j => (cs[j]?).getD undef) (by simpa using h1) (λ j hj => ?_) (λ j u hu => ?_)
 ·obtain ⟨u, hu, h3, _⟩ := h2 j _ (getElem?_eq_getElem hj)
  have hu : cs[j]? = some u := by simpa using hu
  rw [hu]
  exact ⟨rfl, h3⟩
 ·obtain ⟨u', hu', _, h4⟩ := h2 j u hu
  have hu' : cs[j]? = some u' := by simpa using hu'
  rw [hu']
  exact h4
end
theorem tD {w w' : World} (h : Keeps (λ _ => False) w w') : Below w.heap.size w w' := ⟨h.os, h.tape, h.output, h.size, λ b hb => h.block b hb id⟩
theorem u4 {P : Program} {G : Nat -> AV} {f : FuncId} {p : List AV -> Option (Prop × AV)} (h : PureOK P G f p) {w : World} {args : Array Value} {avs : List AV} {ob : Prop} {b : Bool} (hG : ∀ g, RepD w (λ _ => False) (.pointer (some ⟨g, 0, none⟩)) (G g))
  (harg : ∀ (j : Nat) (u : AV), avs[j]? = some u -> ∃ v, args[j]? = some v /\ RepD w (λ _ => False) v u) (hsz : args.size = avs.length) (hp : p avs = some (ob, .bool b)) (hob : ob) :
  Calls P f args w λ e w' => e = .returned (.bool b) /\ Below w.heap.size w w' :=
 (h w (λ _ => False) args avs ob (.bool b) (λ _ h => h.elim) (λ g => GV.of_rep (hG g)) hsz harg hp hob).mono λ e w' ⟨v, he, hk, hr⟩ => by
  cases hr
  exact ⟨he, tD hk⟩
theorem WJ {w : World} {v v1 : Value} {a a1 : AV} (h : RepD w (λ _ => False) v a) (h1 : RepD w (λ _ => False) v1 a1) : ∀ (j : Nat) (u : AV), [a, a1][j]? = some u -> ∃ x, #[v, v1][j]? = some x /\ RepD w (λ _ => False) x u
 | 0, u, hu => by simp at hu; subst hu; exact ⟨v, rfl, h⟩
 | 1, u, hu => by simp at hu; subst hu; exact ⟨v1, rfl, h1⟩
 | j + 2, u, hu => by simp at hu
def bs (l : List UInt8) : ByteArray := ⟨l.toArray⟩
theorem Lr {s t : ByteArray} (h : s.size = t.size) (hb : ∀ i, i < s.size -> btA s i = btA t i) : s = t := by
 refine ByteArray.ext (Array.ext h λ i h1 h2 => ?_)
 have := hb i h1
 simp only [btA, getD_eq_getElem?_getD, Array.getElem?_toList, Array.getElem?_eq_getElem h1, Array.getElem?_eq_getElem h2, getD_some] at this
 exact UInt8.toNat_inj.1 this
theorem bG {C : Ctx} {N h0 : Nat} {ρ ρ' : List (Nat × AV)} {H H' : List Blk} (m : Nat) (h : ∀ p ∈ ρ', aZ ρ p.1 = p.2) (hm : h0 <= m) (hρ : ∀ p ∈ ρ', p.2.clean m = true) (hH : ∀ b ∈ H.take m, b.deep = true ∨ ∀ r ∈ b.rows, ∀ c ∈ r, c.clean m = true) (hE : H.take m = H') : Weak C N h0 ⟨ρ, H⟩ ⟨ρ', H'⟩ := by
 subst hE
 exact (ah h).trans (F3 m hm hρ hH)
@[simp] theorem Pm (r : List AV) (rs : List (List AV)) : kw (r :: rs) 0 = r := rfl
@[simp] theorem SB {α : Type} [Enc α] (sz : Nat) (f : Bool) (r : List AV) (rows : List (List AV)) : (Enc.dec (.slice sz f (r :: rows)) : List α) = Enc.unc r :: Enc.dec (.slice sz f rows) := rfl
@[simp] theorem UH (k : IntKind) (n : Int) : (Enc.unc [.int k n] : Int) = n := rfl
@[simp] theorem SI {α : Type} [Enc α] (sz : Nat) (f : Bool) (rows : List (List AV)) : (Enc.unc [.slice sz f rows] : List α) = Enc.dec (.slice sz f rows) := rfl
section
variable {P : Program} {G : Nat -> AV} {f : FuncId} {w : World} (hG : ∀ g, RepD w (λ _ => False) (.pointer (some ⟨g, 0, none⟩)) (G g))
include hG
theorem calls2 {α β : Type} [Enc α] [Enc β] {pre : α -> β -> Prop} {b : Bool} (h : PureOK P G f (aC pre λ _ _ => .bool b)) {v0 v1 : Value} {a0 : α} {a1 : β} (r0 : RepD w (λ _ => False) v0 (Enc.enc a0)) (r1 : RepD w (λ _ => False) v1 (Enc.enc a1))
  (n0 : cM (Enc.enc a0) = Enc.enc a0) (n1 : cM (Enc.enc a1) = Enc.enc a1) (hp : pre a0 a1) : Calls P f #[v0, v1] w λ e w' => e = .returned (.bool b) /\ Below w.heap.size w w' :=
 u4 h (avs := [Enc.enc a0, Enc.enc a1]) (ob := cM (Enc.enc a0) = Enc.enc a0 /\ cM (Enc.enc a1) = Enc.enc a1 /\ pre a0 a1) hG (WJ r0 r1) rfl (by simp only [aC, Enc.dec_enc]) ⟨n0, n1, hp⟩
end
attribute [simp] aev gav zh rx Et u6 DB y6 Sv L5 cav FI eX KD Ax rH Fy DS aun AL ut je jr tJ t5 CR uO mf i7 ic splice yM HY zS uY M3 vu pi kU bO aW ke tk ze k8 ye w8 lz cP kp O4 dA aN aC lu Ez lb xG
set_option linter.unusedSimpArgs false
set_option linter.unusedVariables false
theorem dK {α : Type} [Enc α] (l : List α) : (ac l).map Enc.unc = l := by unfold ac; simp only [map_map, Function.comp_def, Enc.unc_cells, List.map_id']
structure Fr where
 N : Int
 D : Int
instance : Inhabited Fr := ⟨⟨0, 0⟩⟩
@[simp] theorem Fr.eta (x : Fr) : Fr.mk x.N x.D = x := rfl
def Fr.cells (x : Fr) : List AV := [.int .i64 x.N, .int .i64 x.D]
def Fr.unc (c : List AV) : Fr :=
 match c with
 | [.int _ a0, .int _ a1] => ⟨a0, a1⟩
 | _ => default
theorem Fr.unc_cells (x : Fr) : Fr.unc x.cells = x := by
 cases x
 simp only [Fr.cells, Fr.unc, dK]
instance : Enc Fr where
 sz := 2
 cells := Fr.cells
 enc x := .agg x.cells
 unc := Fr.unc
 dec v := match v with | .agg c => Fr.unc c | _ => default
 unc_cells := Fr.unc_cells
 dec_enc x := Fr.unc_cells x
@[simp] theorem Yu : Enc.sz Fr = 2 := rfl
@[simp] theorem Tp (x : Fr) : Enc.cells x = [.int .i64 x.N, .int .i64 x.D] := rfl
@[simp] theorem Ws (x : Fr) : Enc.enc x = .agg [.int .i64 x.N, .int .i64 x.D] := rfl
@[simp] theorem Vv (k0 : IntKind) (a0 : Int) (k1 : IntKind) (a1 : Int) : (Enc.unc [.int k0 a0, .int k1 a1] : Fr) = ⟨a0, a1⟩ := rfl
@[simp] theorem VA (l : List AV) : (Enc.dec (.agg l) : Fr) = Enc.unc l := rfl
structure Lin where
 A : List (List Fr)
 B : List (Fr)
 C : List (Fr)
instance : Inhabited Lin := ⟨⟨[], [], []⟩⟩
@[simp] theorem Lin.eta (x : Lin) : Lin.mk x.A x.B x.C = x := rfl
def Lin.cells (x : Lin) : List AV := [.slice 1 false (ac x.A), .slice 2 false (ac x.B), .slice 2 false (ac x.C)]
def Lin.unc (c : List AV) : Lin :=
 match c with
 | [.slice _ _ a0, .slice _ _ a1, .slice _ _ a2] => ⟨(a0.map Enc.unc), (a1.map Enc.unc), (a2.map Enc.unc)⟩
 | _ => default
theorem Lin.unc_cells (x : Lin) : Lin.unc x.cells = x := by
 cases x
 simp only [Lin.cells, Lin.unc, dK]
instance : Enc Lin where
 sz := 3
 cells := Lin.cells
 enc x := .agg x.cells
 unc := Lin.unc
 dec v := match v with | .agg c => Lin.unc c | _ => default
 unc_cells := Lin.unc_cells
 dec_enc x := Lin.unc_cells x
@[simp] theorem U2 (x : Lin) : Enc.enc x = .agg [.slice 1 false (ac x.A), .slice 2 false (ac x.B), .slice 2 false (ac x.C)] := rfl
@[simp] theorem Uv (s0 : Nat) (f0 : Bool) (a0 : List (List AV)) (s1 : Nat) (f1 : Bool) (a1 : List (List AV)) (s2 : Nat) (f2 : Bool) (a2 : List (List AV)) : (Enc.unc [.slice s0 f0 a0, .slice s1 f1 a1, .slice s2 f2 a2] : Lin) = ⟨(Enc.dec (.slice s0 f0 a0)), (Enc.dec (.slice s1 f1 a1)), (Enc.dec (.slice s2 f2 a2))⟩ := rfl
@[simp] theorem UU (l : List AV) : (Enc.dec (.agg l) : Lin) = Enc.unc l := rfl
structure Wide where
 neg : Bool
 hi : Int
 lo : Int
instance : Inhabited Wide := ⟨⟨false, 0, 0⟩⟩
@[simp] theorem Wide.eta (x : Wide) : Wide.mk x.neg x.hi x.lo = x := rfl
def Wide.cells (x : Wide) : List AV := [.bool x.neg, .int .u64 x.hi, .int .u64 x.lo]
def Wide.unc (c : List AV) : Wide :=
 match c with
 | [.bool a0, .int _ a1, .int _ a2] => ⟨a0, a1, a2⟩
 | _ => default
theorem Wide.unc_cells (x : Wide) : Wide.unc x.cells = x := by
 cases x
 simp only [Wide.cells, Wide.unc, dK]
instance : Enc Wide where
 sz := 3
 cells := Wide.cells
 enc x := .agg x.cells
 unc := Wide.unc
 dec v := match v with | .agg c => Wide.unc c | _ => default
 unc_cells := Wide.unc_cells
 dec_enc x := Wide.unc_cells x
@[simp] theorem ST (x : Wide) : Enc.enc x = .agg [.bool x.neg, .int .u64 x.hi, .int .u64 x.lo] := rfl
@[simp] theorem TS (a0 : Bool) (k1 : IntKind) (a1 : Int) (k2 : IntKind) (a2 : Int) : (Enc.unc [.bool a0, .int k1 a1, .int k2 a2] : Wide) = ⟨a0, a1, a2⟩ := rfl
@[simp] theorem Ty (l : List AV) : (Enc.dec (.agg l) : Wide) = Enc.unc l := rfl
structure RTab where
 T : List (List Fr)
 Basic : List (Int)
 Cost : List (Fr)
 Over : Bool
instance : Inhabited RTab := ⟨⟨[], [], [], false⟩⟩
@[simp] theorem RTab.eta (x : RTab) : RTab.mk x.T x.Basic x.Cost x.Over = x := rfl
def RTab.cells (x : RTab) : List AV := [.slice 1 false (ac x.T), .slice 1 false (ac x.Basic), .slice 2 false (ac x.Cost), .bool x.Over]
def RTab.unc (c : List AV) : RTab :=
 match c with
 | [.slice _ _ a0, .slice _ _ a1, .slice _ _ a2, .bool a3] => ⟨(a0.map Enc.unc), (a1.map Enc.unc), (a2.map Enc.unc), a3⟩
 | _ => default
theorem RTab.unc_cells (x : RTab) : RTab.unc x.cells = x := by
 cases x
 simp only [RTab.cells, RTab.unc, dK]
instance : Enc RTab where
 sz := 4
 cells := RTab.cells
 enc x := .agg x.cells
 unc := RTab.unc
 dec v := match v with | .agg c => RTab.unc c | _ => default
 unc_cells := RTab.unc_cells
 dec_enc x := RTab.unc_cells x
inductive Val where
 | mk (kind n d : Int) (s : ByteArray) (l : List Val)
namespace Val
def kind : Val -> Int | mk k _ _ _ _ => k
def n : Val -> Int | mk _ n _ _ _ => n
def d : Val -> Int | mk _ _ d _ _ => d
def s : Val -> ByteArray | mk _ _ _ s _ => s
def l : Val -> List Val | mk _ _ _ _ l => l
@[simp] theorem eta (v : Val) : Val.mk v.kind v.n v.d v.s v.l = v := by cases v; rfl
@[simp] theorem UF (k n d : Int) (s : ByteArray) (l : List Val) : (mk k n d s l).kind = k := rfl
@[simp] theorem Z0 (k n d : Int) (s : ByteArray) (l : List Val) : (mk k n d s l).n = n := rfl
@[simp] theorem ZF (k n d : Int) (s : ByteArray) (l : List Val) : (mk k n d s l).d = d := rfl
@[simp] theorem ZX (k n d : Int) (s : ByteArray) (l : List Val) : (mk k n d s l).s = s := rfl
@[simp] theorem Zz (k n d : Int) (s : ByteArray) (l : List Val) : (mk k n d s l).l = l := rfl
mutual
def cellsV : Val -> List AV
 | mk k n d s l => [.int .i64 k, .int .i64 n, .int .i64 d, .str s, .slice 5 false (cellsL l)]
def cellsL : List Val -> List (List AV)
 | [] => []
 | v :: r => cellsV v :: cellsL r
end
theorem cellsL_map : ∀ l, cellsL l = l.map cellsV
 | [] => rfl
 | v :: r => by rw [cellsL, cellsL_map r]; rfl
def unc (c : List AV) : Val :=
 match c with
 | [.int _ k, .int _ n, .int _ d, .str s, .slice _ _ rows] => mk k n d s (rows.attach.map λ r => unc r.1)
 | _ => mk 0 0 0 ByteArray.empty []
termination_by SizeOf.sizeOf c
decreasing_by
 have := List.sizeOf_lt_of_mem r.2
 simp
 omega
theorem unc_mk (a b c e : IntKind) (k n d : Int) (s : ByteArray) (sz : Nat) (f : Bool) (rows : List (List AV)) : unc [.int a k, .int b n, .int c d, .str s, .slice sz f rows] = mk k n d s (rows.map unc) := by
 rw [unc]
 simp
mutual
theorem unc_cells : ∀ v : Val, unc (cellsV v) = v
 | mk k n d s l => by rw [cellsV, unc_mk .i64 .i64 .i64 .i64, unc_cellsL l]
theorem unc_cellsL : ∀ l : List Val, (cellsL l).map unc = l
 | [] => rfl
 | v :: r => by rw [cellsL, map_cons, unc_cells v, unc_cellsL r]
end
end Val
instance : Inhabited Val := ⟨.mk 0 0 0 ByteArray.empty []⟩
instance : Enc Val where
 sz := 5
 cells := Val.cellsV
 enc v := .agg (Val.cellsV v)
 unc := Val.unc
 dec v := match v with | .agg c => Val.unc c | _ => default
 unc_cells := Val.unc_cells
 dec_enc v := Val.unc_cells v
@[simp] theorem Vi : Enc.sz Val = 5 := rfl
@[simp] theorem kt (v : Val) : Enc.cells v = [.int .i64 v.kind, .int .i64 v.n, .int .i64 v.d, .str v.s, .slice 5 false (ac v.l)] := by
 cases v
 show Val.cellsV _ = _
 rw [Val.cellsV, Val.cellsL_map]
 rfl
@[simp] theorem UJ (v : Val) : Enc.enc v = .agg [.int .i64 v.kind, .int .i64 v.n, .int .i64 v.d, .str v.s, .slice 5 false (ac v.l)] := by rw [<- kt]; rfl
@[simp] theorem UN (a b c : IntKind) (k n d : Int) (s : ByteArray) (sz : Nat) (f : Bool) (rows : List (List AV)) : (Enc.unc [.int a k, .int b n, .int c d, .str s, .slice sz f rows] : Val) = .mk k n d s (Enc.dec (.slice sz f rows)) := Val.unc_mk a b c .i64 k n d s sz f rows
@[simp] theorem UR (l : List AV) : (Enc.dec (.agg l) : Val) = Enc.unc l := rfl
theorem lg (v : Val) : Enc.unc [.int .i64 v.kind, .int .i64 v.n, .int .i64 v.d, .str v.s, .slice 5 false (ac v.l)] = v := by
 rw [<- kt]
 exact Enc.unc_cells v
structure Prp where
 key : ByteArray
 v : Val
instance : Inhabited Prp := ⟨⟨ByteArray.empty, default⟩⟩
@[simp] theorem Prp.eta (x : Prp) : Prp.mk x.key x.v = x := rfl
def Prp.cells (x : Prp) : List AV := [.str x.key, .int .i64 x.v.kind, .int .i64 x.v.n, .int .i64 x.v.d, .str x.v.s, .slice 5 false (ac x.v.l)]
def Prp.unc (c : List AV) : Prp :=
 match c with
 | [.str a0, a1, a2, a3, a4, a5] => ⟨a0, (Enc.unc [a1, a2, a3, a4, a5])⟩
 | _ => default
theorem Prp.unc_cells (x : Prp) : Prp.unc x.cells = x := by
 cases x
 simp only [Prp.cells, Prp.unc, dK, lg]
instance : Enc Prp where
 sz := 6
 cells := Prp.cells
 enc x := .agg x.cells
 unc := Prp.unc
 dec v := match v with | .agg c => Prp.unc c | _ => default
 unc_cells := Prp.unc_cells
 dec_enc x := Prp.unc_cells x
@[simp] theorem WN : Enc.sz Prp = 6 := rfl
@[simp] theorem Hs (x : Prp) : Enc.cells x = [.str x.key, .int .i64 x.v.kind, .int .i64 x.v.n, .int .i64 x.v.d, .str x.v.s, .slice 5 false (ac x.v.l)] := rfl
structure Nod where
 id : Int
 labels : List (ByteArray)
 props : List (Prp)
instance : Inhabited Nod := ⟨⟨0, [], []⟩⟩
@[simp] theorem Nod.eta (x : Nod) : Nod.mk x.id x.labels x.props = x := rfl
def Nod.cells (x : Nod) : List AV := [.int .i64 x.id, .slice 1 false (ac x.labels), .slice 6 false (ac x.props)]
def Nod.unc (c : List AV) : Nod :=
 match c with
 | [.int _ a0, .slice _ _ a1, .slice _ _ a2] => ⟨a0, (a1.map Enc.unc), (a2.map Enc.unc)⟩
 | _ => default
theorem Nod.unc_cells (x : Nod) : Nod.unc x.cells = x := by
 cases x
 simp only [Nod.cells, Nod.unc, dK, lg]
instance : Enc Nod where
 sz := 3
 cells := Nod.cells
 enc x := .agg x.cells
 unc := Nod.unc
 dec v := match v with | .agg c => Nod.unc c | _ => default
 unc_cells := Nod.unc_cells
 dec_enc x := Nod.unc_cells x
@[simp] theorem Ri (x : Nod) : Enc.cells x = [.int .i64 x.id, .slice 1 false (ac x.labels), .slice 6 false (ac x.props)] := rfl
@[simp] theorem Uz (x : Nod) : Enc.enc x = .agg [.int .i64 x.id, .slice 1 false (ac x.labels), .slice 6 false (ac x.props)] := rfl
@[simp] theorem UQ (k0 : IntKind) (a0 : Int) (s1 : Nat) (f1 : Bool) (a1 : List (List AV)) (s2 : Nat) (f2 : Bool) (a2 : List (List AV)) : (Enc.unc [.int k0 a0, .slice s1 f1 a1, .slice s2 f2 a2] : Nod) = ⟨a0, (Enc.dec (.slice s1 f1 a1)), (Enc.dec (.slice s2 f2 a2))⟩ := rfl
@[simp] theorem UX (l : List AV) : (Enc.dec (.agg l) : Nod) = Enc.unc l := rfl
structure Edg where
 id : Int
 frm : Int
 to : Int
 type : ByteArray
 props : List (Prp)
instance : Inhabited Edg := ⟨⟨0, 0, 0, ByteArray.empty, []⟩⟩
@[simp] theorem Edg.eta (x : Edg) : Edg.mk x.id x.frm x.to x.type x.props = x := rfl
def Edg.cells (x : Edg) : List AV := [.int .i64 x.id, .int .i64 x.frm, .int .i64 x.to, .str x.type, .slice 6 false (ac x.props)]
def Edg.unc (c : List AV) : Edg :=
 match c with
 | [.int _ a0, .int _ a1, .int _ a2, .str a3, .slice _ _ a4] => ⟨a0, a1, a2, a3, (a4.map Enc.unc)⟩
 | _ => default
theorem Edg.unc_cells (x : Edg) : Edg.unc x.cells = x := by
 cases x
 simp only [Edg.cells, Edg.unc, dK, lg]
instance : Enc Edg where
 sz := 5
 cells := Edg.cells
 enc x := .agg x.cells
 unc := Edg.unc
 dec v := match v with | .agg c => Edg.unc c | _ => default
 unc_cells := Edg.unc_cells
 dec_enc x := Edg.unc_cells x
@[simp] theorem RM (x : Edg) : Enc.cells x = [.int .i64 x.id, .int .i64 x.frm, .int .i64 x.to, .str x.type, .slice 6 false (ac x.props)] := rfl
@[simp] theorem UZ (x : Edg) : Enc.enc x = .agg [.int .i64 x.id, .int .i64 x.frm, .int .i64 x.to, .str x.type, .slice 6 false (ac x.props)] := rfl
@[simp] theorem Ut (k0 : IntKind) (a0 : Int) (k1 : IntKind) (a1 : Int) (k2 : IntKind) (a2 : Int) (a3 : ByteArray) (s4 : Nat) (f4 : Bool) (a4 : List (List AV)) : (Enc.unc [.int k0 a0, .int k1 a1, .int k2 a2, .str a3, .slice s4 f4 a4] : Edg) = ⟨a0, a1, a2, a3, (Enc.dec (.slice s4 f4 a4))⟩ := rfl
@[simp] theorem U1 (l : List AV) : (Enc.dec (.agg l) : Edg) = Enc.unc l := rfl
structure Gra where
 nodes : List (Nod)
 edges : List (Edg)
 nn : Int
 ne : Int
instance : Inhabited Gra := ⟨⟨[], [], 0, 0⟩⟩
@[simp] theorem Gra.eta (x : Gra) : Gra.mk x.nodes x.edges x.nn x.ne = x := rfl
def Gra.cells (x : Gra) : List AV := [.slice 3 false (ac x.nodes), .slice 5 false (ac x.edges), .int .i64 x.nn, .int .i64 x.ne]
def Gra.unc (c : List AV) : Gra :=
 match c with
 | [.slice _ _ a0, .slice _ _ a1, .int _ a2, .int _ a3] => ⟨(a0.map Enc.unc), (a1.map Enc.unc), a2, a3⟩
 | _ => default
theorem Gra.unc_cells (x : Gra) : Gra.unc x.cells = x := by
 cases x
 simp only [Gra.cells, Gra.unc, dK, lg]
instance : Enc Gra where
 sz := 4
 cells := Gra.cells
 enc x := .agg x.cells
 unc := Gra.unc
 dec v := match v with | .agg c => Gra.unc c | _ => default
 unc_cells := Gra.unc_cells
 dec_enc x := Gra.unc_cells x
@[simp] theorem UK (x : Gra) : Enc.enc x = .agg [.slice 3 false (ac x.nodes), .slice 5 false (ac x.edges), .int .i64 x.nn, .int .i64 x.ne] := rfl
@[simp] theorem UA (s0 : Nat) (f0 : Bool) (a0 : List (List AV)) (s1 : Nat) (f1 : Bool) (a1 : List (List AV)) (k2 : IntKind) (a2 : Int) (k3 : IntKind) (a3 : Int) : (Enc.unc [.slice s0 f0 a0, .slice s1 f1 a1, .int k2 a2, .int k3 a3] : Gra) = ⟨(Enc.dec (.slice s0 f0 a0)), (Enc.dec (.slice s1 f1 a1)), a2, a3⟩ := rfl
@[simp] theorem UV (l : List AV) : (Enc.dec (.agg l) : Gra) = Enc.unc l := rfl
structure Atm where
 kind : Int
 vars : List (Int)
 name : ByteArray
 types : List (ByteArray)
 v : Val
instance : Inhabited Atm := ⟨⟨0, [], ByteArray.empty, [], default⟩⟩
@[simp] theorem Atm.eta (x : Atm) : Atm.mk x.kind x.vars x.name x.types x.v = x := rfl
def Atm.cells (x : Atm) : List AV := [.int .i64 x.kind, .slice 1 false (ac x.vars), .str x.name, .slice 1 false (ac x.types), .int .i64 x.v.kind, .int .i64 x.v.n, .int .i64 x.v.d, .str x.v.s, .slice 5 false (ac x.v.l)]
def Atm.unc (c : List AV) : Atm :=
 match c with
 | [.int _ a0, .slice _ _ a1, .str a2, .slice _ _ a3, a4, a5, a6, a7, a8] => ⟨a0, (a1.map Enc.unc), a2, (a3.map Enc.unc), (Enc.unc [a4, a5, a6, a7, a8])⟩
 | _ => default
theorem Atm.unc_cells (x : Atm) : Atm.unc x.cells = x := by
 cases x
 simp only [Atm.cells, Atm.unc, dK, lg]
instance : Enc Atm where
 sz := 9
 cells := Atm.cells
 enc x := .agg x.cells
 unc := Atm.unc
 dec v := match v with | .agg c => Atm.unc c | _ => default
 unc_cells := Atm.unc_cells
 dec_enc x := Atm.unc_cells x
@[simp] theorem WP : Enc.sz Atm = 9 := rfl
@[simp] theorem G8 (x : Atm) : Enc.cells x = [.int .i64 x.kind, .slice 1 false (ac x.vars), .str x.name, .slice 1 false (ac x.types), .int .i64 x.v.kind, .int .i64 x.v.n, .int .i64 x.v.d, .str x.v.s, .slice 5 false (ac x.v.l)] := rfl
@[simp] theorem UI (x : Atm) : Enc.enc x = .agg [.int .i64 x.kind, .slice 1 false (ac x.vars), .str x.name, .slice 1 false (ac x.types), .int .i64 x.v.kind, .int .i64 x.v.n, .int .i64 x.v.d, .str x.v.s, .slice 5 false (ac x.v.l)] := rfl
@[simp] theorem Ux (k0 : IntKind) (a0 : Int) (s1 : Nat) (f1 : Bool) (a1 : List (List AV)) (a2 : ByteArray) (s3 : Nat) (f3 : Bool) (a3 : List (List AV)) (a4 a5 a6 a7 a8 : AV) : (Enc.unc [.int k0 a0, .slice s1 f1 a1, .str a2, .slice s3 f3 a3, a4, a5, a6, a7, a8] : Atm) = ⟨a0, (Enc.dec (.slice s1 f1 a1)), a2, (Enc.dec (.slice s3 f3 a3)), (Enc.unc [a4, a5, a6, a7, a8])⟩ := rfl
@[simp] theorem Ur (l : List AV) : (Enc.dec (.agg l) : Atm) = Enc.unc l := rfl
structure Cnj where
 vars : List (ByteArray)
 atoms : List (Atm)
instance : Inhabited Cnj := ⟨⟨[], []⟩⟩
@[simp] theorem Cnj.eta (x : Cnj) : Cnj.mk x.vars x.atoms = x := rfl
def Cnj.cells (x : Cnj) : List AV := [.slice 1 false (ac x.vars), .slice 9 false (ac x.atoms)]
def Cnj.unc (c : List AV) : Cnj :=
 match c with
 | [.slice _ _ a0, .slice _ _ a1] => ⟨(a0.map Enc.unc), (a1.map Enc.unc)⟩
 | _ => default
theorem Cnj.unc_cells (x : Cnj) : Cnj.unc x.cells = x := by
 cases x
 simp only [Cnj.cells, Cnj.unc, dK, lg]
instance : Enc Cnj where
 sz := 2
 cells := Cnj.cells
 enc x := .agg x.cells
 unc := Cnj.unc
 dec v := match v with | .agg c => Cnj.unc c | _ => default
 unc_cells := Cnj.unc_cells
 dec_enc x := Cnj.unc_cells x
@[simp] theorem UD (x : Cnj) : Enc.enc x = .agg [.slice 1 false (ac x.vars), .slice 9 false (ac x.atoms)] := rfl
@[simp] theorem UC (s0 : Nat) (f0 : Bool) (a0 : List (List AV)) (s1 : Nat) (f1 : Bool) (a1 : List (List AV)) : (Enc.unc [.slice s0 f0 a0, .slice s1 f1 a1] : Cnj) = ⟨(Enc.dec (.slice s0 f0 a0)), (Enc.dec (.slice s1 f1 a1))⟩ := rfl
@[simp] theorem Uu (l : List AV) : (Enc.dec (.agg l) : Cnj) = Enc.unc l := rfl
structure Rlt where
 arity : Int
 rows : List (List Int)
instance : Inhabited Rlt := ⟨⟨0, []⟩⟩
@[simp] theorem Rlt.eta (x : Rlt) : Rlt.mk x.arity x.rows = x := rfl
def Rlt.cells (x : Rlt) : List AV := [.int .i64 x.arity, .slice 1 false (ac x.rows)]
def Rlt.unc (c : List AV) : Rlt :=
 match c with
 | [.int _ a0, .slice _ _ a1] => ⟨a0, (a1.map Enc.unc)⟩
 | _ => default
theorem Rlt.unc_cells (x : Rlt) : Rlt.unc x.cells = x := by
 cases x
 simp only [Rlt.cells, Rlt.unc, dK, lg]
instance : Enc Rlt where
 sz := 2
 cells := Rlt.cells
 enc x := .agg x.cells
 unc := Rlt.unc
 dec v := match v with | .agg c => Rlt.unc c | _ => default
 unc_cells := Rlt.unc_cells
 dec_enc x := Rlt.unc_cells x
@[simp] theorem Uy (x : Rlt) : Enc.enc x = .agg [.int .i64 x.arity, .slice 1 false (ac x.rows)] := rfl
instance : DecidableEq Fr := λ a b => match a, b with
 | ⟨n, d⟩, ⟨n', d'⟩ => if h : n = n' /\ d = d' then .isTrue (by rw [h.1, h.2]) else .isFalse (λ e => h (by injection e with e1 e2; exact ⟨e1, e2⟩))
@[simp] theorem Mq (l : List Fr) (n d : Int) : ac l ++ [[.int .i64 n, .int .i64 d]] = ac (l ++ [⟨n, d⟩]) := by rw [bz]; rfl
@[simp] theorem N6 (l : List Fr) (i : Nat) (n d : Int) : (ac l).set i [.int .i64 n, .int .i64 d] = ac (l.set i ⟨n, d⟩) := rC l i ⟨n, d⟩
def InR (n : Int) : Prop := -1000000000000000 <= n /\ n <= 1000000000000000
instance (n : Int) : Decidable (InR n) := inferInstanceAs (Decidable (_ /\ _))
def aj (a : Fr) : Prop := 1 <= a.D /\ a.D <= 1000000000000000 /\ InR a.N /\ Int.gcd a.N a.D = 1
instance (a : Fr) : Decidable (aj a) := inferInstanceAs (Decidable (_ /\ _ /\ _ /\ _))
def F00 : Fr := ⟨0, 0⟩
def F01 : Fr := ⟨0, 1⟩
def F11 : Fr := ⟨1, 1⟩
def mo (n d : Int) : Fr × Bool := if InR n /\ InR d then (⟨n, d⟩, true) else (F00, false)
def oG (n d : Int) : Fr × Bool := mo (n.tdiv (Int.gcd n d)) (d.tdiv (Int.gcd n d))
def nA (a b : Fr) : Fr × Bool := if aj a /\ aj b then oG (a.N * b.D + b.N * a.D) (a.D * b.D) else (F00, false)
def lC (a b : Fr) : Fr × Bool := if aj a /\ aj b then oG (a.N * b.N) (a.D * b.D) else (F00, false)
def gh (a : Fr) : Fr := ⟨w64 (-a.N), a.D⟩
def Cu (a b : Fr) : Fr × Bool := nA a (gh b)
def qy (a b : Fr) : Fr × Bool := if aj b /\ b.N ≠ 0 then (if b.N < 0 then lC a ⟨-b.D, -b.N⟩ else lC a ⟨b.D, b.N⟩) else (F00, false)
def pE (a : Fr) : Fr := if aj a then a else F01
def sgn (n : Int) : Int := if n < 0 then -1 else if 0 < n then 1 else 0
def jv (a b : Fr) : Int := sgn ((pE a).N * (pE b).D - (pE b).N * (pE a).D)
theorem yT {n d k : Int} (hk : 0 < k) (hg : Int.gcd n d = 1) : oG (n * k) (d * k) = mo n d := by
 unfold oG
 have e : Int.gcd (n * k) (d * k) = k.natAbs := by rw [Int.gcd_mul_right, hg, Nat.one_mul]
 have e2 : ((k.natAbs : Nat) : Int) = k := by omega
 rw [e, e2, Int.mul_tdiv_cancel _ (by omega), Int.mul_tdiv_cancel _ (by omega)]
theorem wU {a b : Fr} (ha : aj a) (hb : aj b) : lC a b = mo (a.N.tdiv (Int.gcd a.N b.D) * b.N.tdiv (Int.gcd b.N a.D)) (a.D.tdiv (Int.gcd b.N a.D) * b.D.tdiv (Int.gcd a.N b.D)) := by
 obtain ⟨a1, a2, a3, a4⟩ := ha
 obtain ⟨b1, b2, b3, b4⟩ := hb
 obtain ⟨x, hx⟩ := gcd_dvd_left a.N b.D
 obtain ⟨y, hy⟩ := gcd_dvd_right a.N b.D
 obtain ⟨u, hu⟩ := gcd_dvd_left b.N a.D
 obtain ⟨v, hv⟩ := gcd_dvd_right b.N a.D
 have g1 : 0 < Int.gcd a.N b.D := Int.gcd_pos_of_ne_zero_right _ (by omega)
 have h1 : 0 < Int.gcd b.N a.D := Int.gcd_pos_of_ne_zero_right _ (by omega)
 have xy : Int.gcd x y = 1 := by
  have := gcd_mul_left (Int.gcd a.N b.D) x y
  rw [<- hx, <- hy, natAbs_natCast] at this
  exact Nat.eq_of_mul_eq_mul_left g1 (by omega)
 have uv : Int.gcd u v = 1 := by
  have := gcd_mul_left (Int.gcd b.N a.D) u v
  rw [<- hu, <- hv, natAbs_natCast] at this
  exact Nat.eq_of_mul_eq_mul_left h1 (by omega)
 generalize hgg : Int.gcd a.N b.D = g at *
 generalize hhh : Int.gcd b.N a.D = h at *
 have gp : (0 : Int) < (g : Int) := by omega
 have hp : (0 : Int) < (h : Int) := by omega
 have q1 : a.N.tdiv g = x := by rw [hx, mul_tdiv_cancel_left _ (by omega)]
 have q2 : b.D.tdiv g = y := by rw [hy, mul_tdiv_cancel_left _ (by omega)]
 have q3 : b.N.tdiv h = u := by rw [hu, mul_tdiv_cancel_left _ (by omega)]
 have q4 : a.D.tdiv h = v := by rw [hv, mul_tdiv_cancel_left _ (by omega)]
 have xv : Int.gcd x v = 1 := by
  rw [gcd_eq_one_iff] at a4 ⊢
  exact λ c c1 c2 => a4 c (by rw [hx]; exact dvd_mul_of_dvd_right c1) (by rw [hv]; exact dvd_mul_of_dvd_right c2)
 have uy : Int.gcd u y = 1 := by
  rw [gcd_eq_one_iff] at b4 ⊢
  exact λ c c1 c2 => b4 c (by rw [hu]; exact dvd_mul_of_dvd_right c1) (by rw [hy]; exact dvd_mul_of_dvd_right c2)
 have all : Int.gcd (x * u) (v * y) = 1 := by
  unfold Int.gcd at *
  rw [natAbs_mul, natAbs_mul]
  exact Nat.Coprime.mul_left (Nat.Coprime.mul_right xv xy) (Nat.Coprime.mul_right uv uy)
 unfold lC
 rw [if_pos ⟨⟨a1, a2, a3, a4⟩, ⟨b1, b2, b3, b4⟩⟩, q1, q2, q3, q4, <- yT (k := g * h) (Int.mul_pos gp hp) all]
 congr 1
 ·rw [hx, hu]; ac_rfl
 ·rw [hv, hy]; ac_rfl
def tF (a b : Fr) : Int := a.N * b.D.tdiv (Int.gcd a.D b.D) + b.N * a.D.tdiv (Int.gcd a.D b.D)
theorem qT {a b : Fr} (ha : aj a) (hb : aj b) : 0 < Int.gcd (tF a b) (Int.gcd a.D b.D) /\ nA a b = mo ((tF a b).tdiv (Int.gcd (tF a b) (Int.gcd a.D b.D))) (a.D.tdiv (Int.gcd a.D b.D) * b.D.tdiv (Int.gcd (tF a b) (Int.gcd a.D b.D))) := by
 obtain ⟨a1, a2, a3, a4⟩ := ha
 obtain ⟨b1, b2, b3, b4⟩ := hb
 obtain ⟨x, hx⟩ := gcd_dvd_left a.D b.D
 obtain ⟨y, hy⟩ := gcd_dvd_right a.D b.D
 have g1 : 0 < Int.gcd a.D b.D := Int.gcd_pos_of_ne_zero_right _ (by omega)
 have xy : Int.gcd x y = 1 := by
  have := gcd_mul_left (Int.gcd a.D b.D) x y
  rw [<- hx, <- hy, natAbs_natCast] at this
  exact Nat.eq_of_mul_eq_mul_left g1 (by omega)
 unfold tF
 generalize hgg : Int.gcd a.D b.D = g at *
 have gp : (0 : Int) < (g : Int) := by omega
 have q1 : a.D.tdiv g = x := by rw [hx, mul_tdiv_cancel_left _ (by omega)]
 have q2 : b.D.tdiv g = y := by rw [hy, mul_tdiv_cancel_left _ (by omega)]
 rw [q1, q2]
 generalize ht : a.N * y + b.N * x = t
 have h1 : 0 < Int.gcd t g := Int.gcd_pos_of_ne_zero_right _ (by omega)
 obtain ⟨t', ht'⟩ := gcd_dvd_left t (g : Int)
 obtain ⟨g', hg'⟩ := gcd_dvd_right t (g : Int)
 have tg : Int.gcd t' g' = 1 := by
  have := gcd_mul_left (Int.gcd t g) t' g'
  rw [<- ht', <- hg', natAbs_natCast] at this
  exact Nat.eq_of_mul_eq_mul_left h1 (by omega)
 generalize hhh : Int.gcd t g = h at *
 have hp : (0 : Int) < (h : Int) := by omega
 have q3 : t.tdiv h = t' := by rw [ht', mul_tdiv_cancel_left _ (by omega)]
 have q4 : b.D.tdiv h = g' * y := by rw [hy, hg', Int.mul_assoc, mul_tdiv_cancel_left _ (by omega)]
 refine ⟨h1, ?_⟩
 rw [q3, q4]
 have nx : Int.gcd a.N x = 1 := by
  rw [gcd_eq_one_iff] at a4 ⊢
  exact λ c c1 c2 => a4 c c1 (by rw [hx]; exact dvd_mul_of_dvd_right c2)
 have ny : Int.gcd b.N y = 1 := by
  rw [gcd_eq_one_iff] at b4 ⊢
  exact λ c c1 c2 => b4 c c1 (by rw [hy]; exact dvd_mul_of_dvd_right c2)
 have tx : Int.gcd t x = 1 := by
  have e : Int.gcd (a.N * y) x = 1 := by
   unfold Int.gcd at *
   rw [natAbs_mul]
   exact Nat.Coprime.mul_left nx (Nat.Coprime.symm xy)
  rw [<- ht, gcd_eq_one_iff] at *
  refine λ c c1 c2 => e c ?_ c2
  have : a.N * y = (a.N * y + b.N * x) - b.N * x := by omega
  rw [this]
  exact Int.dvd_sub c1 (dvd_mul_of_dvd_right c2)
 have ty : Int.gcd t y = 1 := by
  have e : Int.gcd (b.N * x) y = 1 := by
   unfold Int.gcd at *
   rw [natAbs_mul]
   exact Nat.Coprime.mul_left ny xy
  rw [<- ht, gcd_eq_one_iff] at *
  refine λ c c1 c2 => e c ?_ c2
  have : b.N * x = (a.N * y + b.N * x) - a.N * y := by omega
  rw [this]
  exact Int.dvd_sub c1 (dvd_mul_of_dvd_right c2)
 have part : ∀ z : Int, Int.gcd t z = 1 -> Int.gcd t' z = 1 := λ z hz => by
  rw [gcd_eq_one_iff] at hz ⊢
  exact λ c c1 c2 => hz c (by rw [ht']; exact dvd_mul_of_dvd_right c1) c2
 have all : Int.gcd t' (x * (g' * y)) = 1 := by
  have p1 := part x tx
  have p2 := part y ty
  unfold Int.gcd at *
  rw [natAbs_mul, natAbs_mul]
  exact Nat.Coprime.mul_right p1 (Nat.Coprime.mul_right tg p2)
 unfold nA
 rw [if_pos ⟨⟨a1, a2, a3, a4⟩, ⟨b1, b2, b3, b4⟩⟩, <- yT (k := h * g) (Int.mul_pos hp gp) all]
 congr 1
 ·have e1 : a.N * b.D + b.N * a.D = (a.N * y + b.N * x) * g := by rw [hx, hy, Int.add_mul]; congr 1 <;> ac_rfl
  rw [e1, ht, ht']; ac_rfl
 ·rw [hx, hy]
  rw [show x * (g' * y) * (h * g) = (h * g') * x * y * g by ac_rfl, <- hg']
  ac_rfl
theorem mb {a b : Fr} (ha : aj a) (hb : aj b) (h : tF a b = 0) : nA a b = (F01, true) := by
 obtain ⟨h1, h2⟩ := qT ha hb
 obtain ⟨a1, a2, a3, a4⟩ := ha
 obtain ⟨b1, b2, b3, b4⟩ := hb
 have e : nA a b = oG (0 * (a.D * b.D)) (1 * (a.D * b.D)) := by
  unfold nA
  rw [if_pos ⟨⟨a1, a2, a3, a4⟩, ⟨b1, b2, b3, b4⟩⟩, Int.zero_mul, Int.one_mul]
  congr 1
  obtain ⟨x, hx⟩ := gcd_dvd_left a.D b.D
  obtain ⟨y, hy⟩ := gcd_dvd_right a.D b.D
  have g1 : 0 < Int.gcd a.D b.D := Int.gcd_pos_of_ne_zero_right _ (by omega)
  unfold tF at h
  generalize Int.gcd a.D b.D = g at *
  have q1 : a.D.tdiv g = x := by rw [hx, mul_tdiv_cancel_left _ (by omega)]
  have q2 : b.D.tdiv g = y := by rw [hy, mul_tdiv_cancel_left _ (by omega)]
  rw [q1, q2] at h
  have e1 : a.N * b.D + b.N * a.D = (a.N * y + b.N * x) * g := by rw [hx, hy, Int.add_mul]; congr 1 <;> ac_rfl
  rw [e1, h, Int.zero_mul]
 rw [e, yT (Int.mul_pos (by omega) (by omega)) (by decide)]
 rfl
set_option maxRecDepth 100000
open Tryz in
@[simp] theorem Zw : szT prog 3 = 1 /\ df prog 3 = some false /\ elT prog 3 = none /\ qF prog 3 = some .i64 /\ byT prog 3 = 8 /\ zT prog 3 = some [.int .i64 0] /\ EP prog 4 = some (.bool false) /\ szT prog 4 = 1 /\ df prog 4 = some false /\ uF prog 4 = true /\ elT prog 5 = none /\ qF prog 5 = some .u8 /\ szT prog 9 = 1 /\ df prog 9 = some false /\ elT prog 9 = none /\ n7 prog 9 = true /\ byT prog 9 = 16 /\ zT prog 9 = some [.str ByteArray.empty] /\ szT prog 22 = 1 /\ df prog 22 = some false /\ elT prog 22 = some 51 /\ eB prog 22 = none /\ szT prog 24 = 2 /\ df prog 24 = some true /\ eB prog 24 = none /\ bT prog 24 0 = some (0, 3) /\ bT prog 24 1 = some (1, 22) /\ gF prog 24 = true /\ zT prog 24 = some [.int .i64 0, .slice 1 true []] /\ szT prog 27 = 1 /\ df prog 27 = some false /\ elT prog 27 = some 28 /\ eB prog 27 = none /\ szT prog 28 = 1 /\ df prog 28 = some false /\ elT prog 28 = some 35 /\ eB prog 28 = none /\ byT prog 28 = 24 /\ zT prog 28 = some [.slice 2 true []] /\ szT prog 30 = 3 /\ df prog 30 = some true /\ eB prog 30 = none /\ bT prog 30 0 = some (0, 27) /\ bT prog 30 1 = some (1, 28) /\ bT prog 30 2 = some (2, 28) /\ gF prog 30 = true /\ zT prog 30 = some [.slice 1 true [], .slice 2 true [], .slice 2 true []] /\ szT prog 35 = 2 /\ df prog 35 = some true /\ elT prog 35 = none := by
 repeat' apply And.intro
 all_goals kernel_rfl
open Tryz in
@[simp] theorem Zp : eB prog 35 = none /\ byT prog 35 = 16 /\ bT prog 35 0 = some (0, 3) /\ bT prog 35 1 = some (1, 3) /\ IM prog 35 = some [.i, .i] /\ gF prog 35 = true /\ zT prog 35 = some [.int .i64 0, .int .i64 0] /\ szT prog 40 = 1 /\ df prog 40 = some false /\ elT prog 40 = some 92 /\ eB prog 40 = none /\ szT prog 41 = 1 /\ df prog 41 = some false /\ elT prog 41 = some 88 /\ eB prog 41 = none /\ szT prog 43 = 4 /\ df prog 43 = some true /\ bT prog 43 0 = some (0, 40) /\ bT prog 43 1 = some (1, 41) /\ bT prog 43 2 = some (2, 3) /\ bT prog 43 3 = some (3, 3) /\ szT prog 44 = 1 /\ df prog 44 = some false /\ elT prog 44 = some 9 /\ eB prog 44 = none /\ szT prog 45 = 1 /\ df prog 45 = some false /\ elT prog 45 = some 56 /\ eB prog 45 = none /\ szT prog 47 = 2 /\ df prog 47 = some true /\ bT prog 47 0 = some (0, 44) /\ bT prog 47 1 = some (1, 45) /\ szT prog 51 = 1 /\ df prog 51 = some false /\ elT prog 51 = some 3 /\ eB prog 51 = none /\ byT prog 51 = 24 /\ zT prog 51 = some [.slice 1 true []] /\ szT prog 52 = 1 /\ df prog 52 = some false /\ elT prog 52 = some 54 /\ eB prog 52 = none /\ szT prog 54 = 5 /\ df prog 54 = some true /\ elT prog 54 = none /\ eB prog 54 = none /\ bT prog 54 0 = some (0, 3) /\ bT prog 54 1 = some (1, 3) /\ bT prog 54 2 = some (2, 3) := by
 repeat' apply And.intro
 all_goals kernel_rfl
open Tryz in
@[simp] theorem Vm : bT prog 54 3 = some (3, 9) /\ bT prog 54 4 = some (4, 52) /\ gF prog 54 = true /\ zT prog 54 = some [.int .i64 0, .int .i64 0, .int .i64 0, .str ByteArray.empty, .slice 5 true []] /\ szT prog 56 = 9 /\ df prog 56 = some true /\ bT prog 56 0 = some (0, 3) /\ bT prog 56 1 = some (1, 51) /\ bT prog 56 2 = some (2, 9) /\ bT prog 56 3 = some (3, 44) /\ bT prog 56 4 = some (4, 54) /\ zT prog 56 = some [.int .i64 0, .slice 1 true [], .str ByteArray.empty, .slice 1 true [], .int .i64 0, .int .i64 0, .int .i64 0, .str ByteArray.empty, .slice 5 true []] /\ szT prog 58 = 2 /\ df prog 58 = some true /\ eB prog 58 = none /\ bT prog 58 0 = some (0, 3) /\ bT prog 58 1 = some (1, 22) /\ gF prog 58 = true /\ zT prog 58 = some [.int .i64 0, .slice 1 true []] /\ szT prog 63 = 1 /\ df prog 63 = some false /\ elT prog 63 = some 3 /\ eB prog 63 = none /\ byT prog 63 = 24 /\ zT prog 63 = some [.slice 1 true []] /\ BK prog 77 = some (3, 4) /\ szT prog 86 = 1 /\ df prog 86 = some false /\ elT prog 86 = some 159 /\ eB prog 86 = none /\ szT prog 88 = 5 /\ df prog 88 = some true /\ bT prog 88 0 = some (0, 3) /\ bT prog 88 1 = some (1, 3) /\ bT prog 88 2 = some (2, 3) /\ bT prog 88 3 = some (3, 9) /\ bT prog 88 4 = some (4, 86) /\ zT prog 88 = some [.int .i64 0, .int .i64 0, .int .i64 0, .str ByteArray.empty, .slice 6 true []] /\ szT prog 92 = 3 /\ df prog 92 = some true /\ eB prog 92 = none /\ bT prog 92 0 = some (0, 3) /\ bT prog 92 1 = some (1, 44) /\ bT prog 92 2 = some (2, 86) /\ gF prog 92 = true /\ zT prog 92 = some [.int .i64 0, .slice 1 true [], .slice 6 true []] /\ szT prog 98 = 1 /\ df prog 98 = some false /\ elT prog 98 = some 3 /\ eB prog 98 = none := by
 repeat' apply And.intro
 all_goals kernel_rfl
open Tryz in
@[simp] theorem WA : byT prog 98 = 24 /\ zT prog 98 = some [.slice 1 true []] /\ elT prog 99 = some 98 /\ eB prog 99 = none /\ szT prog 102 = 1 /\ df prog 102 = some false /\ elT prog 102 = some 63 /\ eB prog 102 = none /\ szT prog 116 = 24 /\ elT prog 116 = none /\ eB prog 116 = some (24, 3) /\ szT prog 118 = 29 /\ df prog 118 = some true /\ eB prog 118 = none /\ bT prog 118 0 = some (0, 3) /\ bT prog 118 1 = some (1, 3) /\ bT prog 118 2 = some (2, 27) /\ bT prog 118 3 = some (3, 28) /\ bT prog 118 4 = some (4, 116) /\ bT prog 118 5 = some (28, 4) /\ gF prog 118 = true /\ zT prog 118 = some [.int .i64 0, .int .i64 0, .slice 1 true [], .slice 2 true [], .int .i64 0, .int .i64 0, .int .i64 0, .int .i64 0, .int .i64 0, .int .i64 0, .int .i64 0, .int .i64 0, .int .i64 0, .int .i64 0, .int .i64 0, .int .i64 0, .int .i64 0, .int .i64 0, .int .i64 0, .int .i64 0, .int .i64 0, .int .i64 0, .int .i64 0, .int .i64 0, .int .i64 0, .int .i64 0, .int .i64 0, .int .i64 0, .bool false] /\ elT prog 141 = none /\ qF prog 141 = some .u64 /\ szT prog 159 = 6 /\ bT prog 159 0 = some (0, 9) /\ bT prog 159 1 = some (1, 54) /\ szT prog 161 = 1 /\ df prog 161 = some false /\ elT prog 161 = some 54 /\ eB prog 161 = none /\ zT prog 161 = some [.slice 5 true []] /\ elT prog 162 = some 161 /\ eB prog 162 = none /\ szT prog 175 = 1 /\ df prog 175 = some false /\ elT prog 175 = none /\ qF prog 175 = some .u64 /\ szT prog 196 = 3 /\ df prog 196 = some true /\ eB prog 196 = none /\ bT prog 196 0 = some (0, 4) /\ bT prog 196 1 = some (1, 175) /\ bT prog 196 2 = some (2, 175) /\ gF prog 196 = true /\ zT prog 196 = some [.bool false, .int .u64 0, .int .u64 0] := by
 repeat' apply And.intro
 all_goals kernel_rfl
theorem ae : prog.follows .mixedOrders = true := by kernel_rfl
section
variable {C : Ctx} {N h0 : Nat}
theorem Pg {a b : Code} {st : ASt} {Q : Exit -> ASt -> Prop} (h : AW C N h0 a st (r5 (λ st' => AW C N h0 b st' Q) Q)) : AW C N h0 (.seq a b) st Q := λ X w0 β0 H0 x w hl hr => by
 refine wp_seq (Code.wp_mono (λ ex a' w' ⟨st', hq, hr'⟩ => ?_) (h X w0 β0 H0 x w hl hr))
 cases ex with
 | normal => exact hq X w0 β0 H0 a' w' hl hr'
 | _ => exact ⟨st', hq, hr'⟩
theorem IG {id : Nat} {b : Code} {st : ASt} {Q : Exit -> ASt -> Prop} (h : AW C N h0 b st (jL id Q)) : AW C N h0 (.block id b) st Q := λ X w0 β0 H0 x w hl hr => by
 refine wp_block (Code.wp_mono (λ ex a' w' ⟨st', hq, hr'⟩ => ?_) (h X w0 β0 H0 x w hl hr))
 cases ex with
 | exit j =>
  simp only [Exit.inBlock, jL] at hq ⊢
  split
  ·rename_i e; rw [if_pos e] at hq; exact ⟨st', hq, hr'⟩
  ·rename_i e; rw [if_neg e] at hq; exact ⟨st', hq, hr'⟩
 | _ => exact ⟨st', hq, hr'⟩
theorem KE {α : Type} {body : Code} {st : ASt} {Q : Exit -> ASt -> Prop} (Sf : α -> ASt) (pre : α -> Prop) (m : α -> Nat)
  (start : ∃ x, pre x /\ Weak C N h0 st (Sf x)) (step : ∀ x, pre x -> AW C N h0 body (Sf x) (round Sf pre (λ x' => m x' < m x) N h0 C Q)) : AW C N h0 (.loop body) st Q := by
 intro X w0 β0 H0 a w hl hr
 obtain ⟨x0, hx0, hw0⟩ := start
 refine wp_loop_ghost (λ n a w => ∃ x, m x = n /\ pre x /\ Rel C N X w0 β0 H0 (Sf x) a w) (m x0) ⟨x0, rfl, hx0, hw0 X w0 β0 H0 a w hl hr⟩ ?_
 rintro n a w ⟨x, rfl, hx, hr⟩
 refine Code.wp_mono (λ ex a' w' ⟨st', hq, hr'⟩ => ?_) (step x hx X w0 β0 H0 a w hl hr)
 cases ex with
 | normal =>
  obtain ⟨x', hx', hlt, hw⟩ := hq
  exact ⟨m x', hlt, x', rfl, hx', hw X w0 β0 H0 a' w' hl hr'⟩
 | _ => exact ⟨st', hq, hr'⟩
theorem GT (hS : au C) (hM : C.P.follows .mixedOrders = true) {id : Nat} {ops : Array Oper} {st : ASt} {Q : Exit -> ASt -> Prop} (tbl : List (List Nat)) (htbl : (List.range ops.size).all (λ i => decide (bD (aE ops i) = tbl.getD i [])) = true)
  (hd : (List.range ops.size).all (λ i => (match (aE ops i).dst with | some d => decide (d < N) | none => true) && (bD (aE ops i)).all λ d => decide (d < i)) = true)
  (I : (Nat -> Bool) -> ASt -> Prop) (start : I (λ _ => false) st)
  (step : ∀ i o, ops.toList[i]? = some o -> ∀ L st', I L st' -> L i = false -> (∀ d ∈ tbl.getD i [], L d = true) -> gQ C ops [o] st' (I (λ j => decide (j = i) || L j)))
  (fin : ∀ L st', I L st' -> (∀ i, i < ops.size -> L i = true) -> Q .normal st') (ext : ∀ L L' st', (∀ j, L j = L' j) -> I L st' -> I L' st') : AW C N h0 (.region id ops true) st Q := λ X w0 β0 H0 a w hl hr => by
 have hd' : ∀ i, i < ops.size -> (∀ d, (aE ops i).dst = some d -> d < N) /\ ∀ d ∈ bD (aE ops i), d < i := λ i hi => by
  have := all_eq_true.1 hd i (mem_range.2 hi)
  simp only [Bool.and_eq_true, all_eq_true, decide_eq_true_eq] at this
  refine ⟨λ d hdd => ?_, this.2⟩
  have h1 := this.1
  rw [hdd] at h1
  simpa using h1
 refine wp_region_any hM ?_
 have hr' : Rel C N X w0 β0 H0 st a { w with drawn := w.drawn + 1 } := by
  obtain ⟨β, R, S0, Tr, G, hN, hdef⟩ := hr
  have hk : Keeps (λ _ => False) w { w with drawn := w.drawn + 1 } := Keeps.drew _ w
  exact ⟨β, R.quiet hk, S0.trans (StepR.quiet hk R.len), λ t => (Tr t).keep (StepR.quiet hk R.len), λ g => (G g).keep (λ b hb hn => hk.block b hb (λ h => h)) hk.size (λ b _ h => h), hN, hdef⟩
 have ready0 : ∀ listed : Array Bool, listed.size = ops.size -> Region.ready .any ops listed = [] -> ∀ i, i < ops.size -> listed.getD i false = true := by
  intro listed hs h i
  induction i using Nat.strongRecOn with
  | _ i ih =>
   intro hi
   cases hl : listed.getD i false with
   | true => rfl
   | false =>
    exfalso
    have : i ∈ Region.ready .any ops listed := by
     unfold Region.ready
     rw [List.mem_filter]
     refine ⟨mem_range.2 hi, ?_⟩
     simp only [Bool.and_eq_true, Bool.not_eq_true']
     refine ⟨?_, ?_⟩
     ·rw [Array.getD_eq_getD_getElem?, Array.getElem?_eq_getElem (by omega)] at hl ⊢
      exact hl
     ·rw [Array.getElem?_eq_getElem hi]
      simp only [Option.map_some, getD_some]
      refine Array.all_eq_true'.2 λ e he => ?_
      cases hb : Region.binds .any e with
      | false => rfl
      | true =>
       have hdd : e.on ∈ bD (aE ops i) := by
        unfold bD aE
        rw [Array.getD_eq_getD_getElem?, Array.getElem?_eq_getElem hi]
        simp only [getD_some, mem_map, List.mem_filter]
        exact ⟨e, ⟨Array.mem_toList_iff.2 he, hb⟩, rfl⟩
       have hlt := (hd' i hi).2 e.on hdd
       simp [ih e.on hlt (by omega)]
    rw [h] at this
    cases this
 have main : ∀ (fuel : Nat) (listed : Array Bool) (st : ASt) (a : Act) (w : World), listed.size = ops.size -> I (λ i => listed.getD i false) st -> (List.range ops.size).countP (λ i => !listed.getD i false) <= fuel -> Rel C N X w0 β0 H0 st a w ->
   wpAny C.P .any ops (λ ex a' w' => ∃ st', Q ex st' /\ Rel C N X w0 β0 H0 st' a' w') fuel listed a w := by
  intro fuel
  induction fuel with
  | zero =>
   intro listed st a w hs hI hc hr
   have hall : ∀ i, i < ops.size -> listed.getD i false = true := by
    intro i hi
    have h0 : (List.range ops.size).countP (λ i => !listed.getD i false) = 0 := by omega
    rw [List.countP_eq_zero] at h0
    have := h0 i (mem_range.2 hi)
    simpa using this
   refine ⟨?_, st, fin _ st hI hall, hr⟩
   cases hrd : Region.ready .any ops listed with
   | nil => rfl
   | cons i r =>
    obtain ⟨h1, h2, _⟩ := kP (ops := ops) (listed := listed) (i := i) (by rw [hrd]; simp)
    have := hall i h1
    rw [Array.getD_eq_getD_getElem?, Array.getElem?_eq_getElem (by omega), getD_some] at h2 this
    rw [h2] at this
    cases this
  | succ fuel ih =>
   intro listed st a w hs hI hc hr
   refine ⟨λ hnil => ⟨st, fin _ st hI (ready0 listed hs hnil), hr⟩, λ i hi => ?_⟩
   obtain ⟨hlt, hun, hdir⟩ := kP hi
   have hL : listed.getD i false = false := by
    rw [Array.getD_eq_getD_getElem?, Array.getElem?_eq_getElem (by omega), getD_some] at hun ⊢
    exact hun
   have htb : bD (aE ops i) = tbl.getD i [] := by simpa using all_eq_true.1 htbl i (mem_range.2 hlt)
   have hst := step i (aE ops i) (by unfold aE; rw [Array.getD_eq_getD_getElem?, Array.getElem?_eq_getElem hlt]; simp [hlt]) _ st hI hL (by rw [<- htb]; exact hdir)
   simp only [gQ] at hst
   have hget : ops[i]? = some (aE ops i) := by
    unfold aE
    rw [Array.getD_eq_getD_getElem?, Array.getElem?_eq_getElem hlt]
    rfl
   have next : ∀ (st' : ASt) (a' : Act) (w' : World), I (λ j => decide (j = i) || listed.getD j false) st' -> Rel C N X w0 β0 H0 st' a' w' ->
     wpAny C.P .any ops (λ ex a' w' => ∃ st', Q ex st' /\ Rel C N X w0 β0 H0 st' a' w') fuel (listed.setIfInBounds i true) a' w' := by
    intro st' a' w' hI' hr'
    have hset : ∀ j, (listed.setIfInBounds i true).getD j false = (decide (j = i) || listed.getD j false) := by
     intro j
     by_cases e : j = i
     ·subst e
      simp [Array.getD_eq_getD_getElem?, show j < listed.size by omega]
     ·simp [Array.getD_eq_getD_getElem?, Array.getElem?_setIfInBounds_ne (λ h => e h.symm), e]
    refine ih _ st' a' w' (by simpa using hs) (ext _ _ _ (λ j => (hset j).symm) hI') ?_ hr'
    have key : ∀ l : List Nat, i ∈ l -> l.countP (λ j => !(listed.setIfInBounds i true).getD j false) + 1 <= l.countP (λ j => !listed.getD j false) := by
     have h0 : ∀ l : List Nat, l.countP (λ j => !(listed.setIfInBounds i true).getD j false) <= l.countP (λ j => !listed.getD j false) := λ l => List.countP_mono_left λ j _ hj => by
      rw [hset j] at hj
      simp only [Bool.not_eq_true', Bool.or_eq_false_iff] at hj ⊢
      exact hj.2
     intro l hl
     induction l with
     | nil => cases hl
     | cons j r ihl =>
      rw [List.countP_cons, List.countP_cons]
      by_cases e : j = i
      ·subst e
       have e1 : (!(listed.setIfInBounds j true).getD j false) = false := by rw [hset j]; simp
       have e2 : (!listed.getD j false) = true := by simpa using hL
       rw [e1, e2]
       have := h0 r
       simp only [if_true, Bool.false_eq_true, if_false]
       omega
      ·have := ihl (by simpa [Ne.symm e] using hl)
       have hj : (!(listed.setIfInBounds i true).getD j false) = !listed.getD j false := by rw [hset j]; simp [e]
       rw [hj]
       omega
    have := key _ (mem_range.2 hlt)
    omega
   obtain ⟨β, R, S0, Tr, G, hN, hdef⟩ := hr
   unfold wpOp
   rw [hget]
   simp only
   split at hst
   ·exact hst.elim
   ·rename_i g hg
    have hw := dy Tr hg
    rw [hw]
    cases g with
    | true =>
     rw [if_pos rfl]
     have hst := hst.1 rfl
     split at hst
     ·rename_i ob v H' hcg
      refine .inl ?_
      exact cV hS R Tr G hcg hst.1 λ u w' β' R' S hr => next _ _ _ hst.2 (dq S0 Tr G hN hdef R' S hr _ ((hd' i hlt).1))
     ·exact hst.elim
    | false =>
     rw [if_neg (by simp)]
     exact next _ _ _ (hst.2 rfl) (dq S0 Tr G hN hdef R (StepR.refl _ _ _ R.len) kK _ ((hd' i hlt).1))
 exact main ops.size (Array.replicate ops.size false) st a _ (by simp) (ext _ _ _ (λ j => by
  rw [Array.getD_eq_getD_getElem?]
  rcases lt_or_ge j ops.size with h | h
  ·simp [h]
  ·simp [Array.getElem?_eq_none (show (Array.replicate ops.size false).size <= j by simpa using h)]) start) (le_trans List.countP_le_length (by simp)) hr'
theorem jc {f : FuncId} {fn : Func} {body : Code} {rs : List ResultVar} {n : Nat} (hf : C.P.funcs[f]? = some fn) (hb : fn.body = some body) (hrs : fn.results.toList = rs) (hn : fn.ntmps = n) {p : List AV -> Option (Prop × AV)}
  (h : ∀ avs ob r, p avs = some (ob, r) -> ob -> avs.length <= n /\ AW C n 0 body ⟨argsρ 0 (avs.map cM), []⟩ (dV C rs r)) : PureOK C.P C.G f p := by
 subst hrs hn
 intro w X args avs0 ob r hX hG hsz0 harg0 hp hob
 obtain ⟨hlen0, hav0⟩ := h avs0 ob r hp hob
 generalize havs : avs0.map cM = avs at hav0
 have hlen : avs.length <= fn.ntmps := by rw [<- havs]; simpa using hlen0
 have hsz : args.size = avs.length := by rw [<- havs]; simpa using hsz0
 have harg : ∀ (j : Nat) (u : AV), avs[j]? = some u -> ∃ v, args[j]? = some v /\ RepD w X v u := λ j u hu => by
  rw [<- havs, getElem?_map] at hu
  simp only [map_eq_some_iff] at hu
  obtain ⟨av, hav, rfl⟩ := hu
  obtain ⟨v, h1, h2⟩ := harg0 j av hav
  exact ⟨v, h1, e9 h2⟩
 refine calls_of_wp hf hb ?_
 have hMu : ∀ b, Mu X [] [] b -> X b := by
  rintro b (h | ⟨l, c, blk, h1, _, _⟩)
  ·exact h
  ·simp at h1
 have R : HRel w X [] [] := ⟨rfl, λ l bi b h1 _ => by simp at h1, λ l b c h1 => by simp at h1, λ l l' b c c' h1 => by simp at h1, hX⟩
 have hr : Rel C fn.ntmps X w [] [] ⟨argsρ 0 avs, []⟩ { tmps := args ++ Array.replicate (fn.ntmps - args.size) undef, defers := [] } w :=
  ⟨[], R, StepR.refl _ _ _ rfl, j5 hsz (λ j u hj => let ⟨v, h1, h2⟩ := harg j u hj; ⟨v, h1, .deep (h2.mono λ b _ hb => hMu b hb)⟩), λ g => (hG g).mono λ b _ hb => hMu b hb, by simp; omega, rfl⟩
 refine Code.wp_mono (λ ex a' w' ⟨st', hq, hr'⟩ => ?_) (hav0 X w [] [] _ w rfl hr)
 have fin : oK C fn.results.toList r st' -> bodyPost C.P fn (λ e w' => ∃ v, e = .returned v /\ Keeps (λ _ => False) w w' /\ RepD w' X v r) .normal a' w' := by
  unfold oK
  split
  ·rename_i ob' r' hres
   rintro ⟨hob', hview⟩
   obtain ⟨β', R', S', T', G', hN', hdef'⟩ := hr'
   obtain ⟨u, hu, hrep⟩ := dx R' T' hres hob'
   have hv := (bX R' (λ _ => True) 6 hrep (λ _ _ => trivial)).mono (X' := X) λ b _ hb => .inl hb
   have hv := e9 hv
   rw [hview] at hv
   exact ⟨hdef', u, hu, u, rfl, S'.keeps.weaken (λ b _ h => by obtain ⟨l, c, blk, h1, _, _⟩ := h; simp at h1), hv⟩
  ·intro h; exact h.elim
 cases ex with
 | normal => exact fin hq
 | ret => exact fin hq
 | _ => exact hq.elim
end
section
variable {C : Ctx} {N h0 : Nat}
def cj (C : Ctx) (st : ASt) (o : Oper) (v : AV) : Prop := fK (aI C st o) λ ob v' _ => v' = v /\ ob
structure RdE where
 i : Nat
 o : Oper
 ρ : List (Nat × AV)
 v : AV
def xr (C : Ctx) (o : Oper) (v : AV) (ρ : List (Nat × AV)) (bs : List Nat) : List (Nat × List Blk) -> Prop
 | [] => True
 | (e, He) :: r => (bs.contains e = true ∨ cj C ⟨ρ, He⟩ o v) /\ xr C o v ρ bs r
def u5 (C : Ctx) (H : List Blk) (bs : List Nat) : List RdE -> Prop
 | [] => True
 | p :: r => (bs.contains p.i = true ∨ cj C ⟨p.ρ, H⟩ p.o p.v) /\ u5 C H bs r
def cS (C : Ctx) (ops : Array Oper) : Nat -> List Oper -> List Kd -> List (List Nat) -> List (Nat × List Blk) -> List RdE -> ASt -> (ASt -> Prop) -> Prop
 | _, [], _, _, _, _, st, K => K st
 | i, o :: r, .pure :: ks, d :: ds, hist, rd, st, K => fI (bg ops st.ρ o) λ g => dP g (fK (aI C st o) λ ob v H' => ob /\ cS C ops (i + 1) r ks ds hist rd ⟨b7 st.ρ o.dst v, H'⟩ K) (cS C ops (i + 1) r ks ds hist rd ⟨b7 st.ρ o.dst (.tup []), st.H⟩ K)
 | i, o :: r, .read :: ks, d :: ds, hist, rd, st, K => fI (bg ops st.ρ o) λ g => dP g (fK (aI C st o) λ ob v H' => ob /\ xr C o v st.ρ d hist /\ cS C ops (i + 1) r ks ds hist (⟨i, o, st.ρ, v⟩ :: rd) ⟨b7 st.ρ o.dst v, H'⟩ K) (cS C ops (i + 1) r ks ds hist rd ⟨b7 st.ρ o.dst (.tup []), st.H⟩ K)
 | i, o :: r, .eff :: ks, d :: ds, hist, rd, st, K => fI (bg ops st.ρ o) λ g => dP g (fK (aI C st o) λ ob v H' => ob /\ u5 C H' d rd /\ cS C ops (i + 1) r ks ds ((i, st.H) :: hist) rd ⟨b7 st.ρ o.dst v, H'⟩ K) (cS C ops (i + 1) r ks ds hist rd ⟨b7 st.ρ o.dst (.tup []), st.H⟩ K)
 | _, _ :: _, _, _, _, _, _, _ => False
@[congr] theorem K3 {C : Ctx} {st st' : ASt} {o : Oper} {v : AV} (h : dh st = st') : cj C st o v = cj C st' o v := by rw [aR] at h; rw [h]
@[congr] theorem ON {C : Ctx} {o : Oper} {v : AV} {ρ : List (Nat × AV)} {bs : List Nat} {l l' : List (Nat × List Blk)} (h : dh l = l') : xr C o v ρ bs l = xr C o v ρ bs l' := by rw [aR] at h; rw [h]
@[congr] theorem Pt {C : Ctx} {H : List Blk} {bs : List Nat} {l l' : List RdE} (h : dh l = l') : u5 C H bs l = u5 C H bs l' := by rw [aR] at h; rw [h]
@[congr] theorem Oa {C : Ctx} {ops : Array Oper} {i : Nat} {l : List Oper} {ks : List Kd} {ds : List (List Nat)} {hist : List (Nat × List Blk)} {rd : List RdE} {st st' : ASt} {K : ASt -> Prop} (h : dh st = st') : cS C ops i l ks ds hist rd st K = cS C ops i l ks ds hist rd st' K := by rw [aR] at h; rw [h]
@[simp] theorem Qs (st : ASt) (o : Oper) (v : AV) : cj C st o v = fK (aI C st o) λ ob v' _ => v' = v /\ ob := rfl
@[simp] theorem TT (o : Oper) (v : AV) (ρ : List (Nat × AV)) (bs : List Nat) : xr C o v ρ bs [] = True := rfl
@[simp] theorem Hu (o : Oper) (v : AV) (ρ : List (Nat × AV)) (bs : List Nat) (e : Nat) (He : List Blk) (r : List (Nat × List Blk)) : xr C o v ρ bs ((e, He) :: r) = ((bs.contains e = true ∨ cj C ⟨ρ, He⟩ o v) /\ xr C o v ρ bs r) := rfl
@[simp] theorem Sz (H : List Blk) (bs : List Nat) : u5 C H bs [] = True := rfl
@[simp] theorem RU (H : List Blk) (bs : List Nat) (i : Nat) (o : Oper) (ρ : List (Nat × AV)) (v : AV) (r : List RdE) : u5 C H bs (⟨i, o, ρ, v⟩ :: r) = ((bs.contains i = true ∨ cj C ⟨ρ, H⟩ o v) /\ u5 C H bs r) := rfl
@[simp] theorem HI (ops : Array Oper) (i : Nat) (ks : List Kd) (ds : List (List Nat)) (hist : List (Nat × List Blk)) (rd : List RdE) (st : ASt) (K : ASt -> Prop) : cS C ops i [] ks ds hist rd st K = K st := by rw [cS]
@[simp] theorem Dv (ops : Array Oper) (i : Nat) (o : Oper) (r : List Oper) (ks : List Kd) (d : List Nat) (ds : List (List Nat)) (hist : List (Nat × List Blk)) (rd : List RdE) (st : ASt) (K : ASt -> Prop) : cS C ops i (o :: r) (.pure :: ks) (d :: ds) hist rd st K = fI (bg ops st.ρ o) λ g => dP g (fK (aI C st o) λ ob v H' => ob /\ cS C ops (i + 1) r ks ds hist rd ⟨b7 st.ρ o.dst v, H'⟩ K) (cS C ops (i + 1) r ks ds hist rd ⟨b7 st.ρ o.dst (.tup []), st.H⟩ K) := by rw [cS]
@[simp] theorem Cz (ops : Array Oper) (i : Nat) (o : Oper) (r : List Oper) (ks : List Kd) (d : List Nat) (ds : List (List Nat)) (hist : List (Nat × List Blk)) (rd : List RdE) (st : ASt) (K : ASt -> Prop) : cS C ops i (o :: r) (.read :: ks) (d :: ds) hist rd st K = fI (bg ops st.ρ o) λ g => dP g (fK (aI C st o) λ ob v H' => ob /\ xr C o v st.ρ d hist /\ cS C ops (i + 1) r ks ds hist (⟨i, o, st.ρ, v⟩ :: rd) ⟨b7 st.ρ o.dst v, H'⟩ K) (cS C ops (i + 1) r ks ds hist rd ⟨b7 st.ρ o.dst (.tup []), st.H⟩ K) := by rw [cS]
@[simp] theorem Gu (ops : Array Oper) (i : Nat) (o : Oper) (r : List Oper) (ks : List Kd) (d : List Nat) (ds : List (List Nat)) (hist : List (Nat × List Blk)) (rd : List RdE) (st : ASt) (K : ASt -> Prop) : cS C ops i (o :: r) (.eff :: ks) (d :: ds) hist rd st K = fI (bg ops st.ρ o) λ g => dP g (fK (aI C st o) λ ob v H' => ob /\ u5 C H' d rd /\ cS C ops (i + 1) r ks ds ((i, st.H) :: hist) rd ⟨b7 st.ρ o.dst v, H'⟩ K) (cS C ops (i + 1) r ks ds hist rd ⟨b7 st.ρ o.dst (.tup []), st.H⟩ K) := by rw [cS]
theorem zp {o : Oper} {v : AV} {ρ : List (Nat × AV)} {bs : List Nat} : ∀ {l : List (Nat × List Blk)}, xr C o v ρ bs l -> ∀ p ∈ l, p.1 ∉ bs -> cj C ⟨ρ, p.2⟩ o v
 | [], _, p, hp => by cases hp
 | (e, He) :: r, h, p, hp => λ hn => by
  rw [Hu] at h
  rcases mem_cons.1 hp with rfl | hp
  ·exact h.1.resolve_left λ h2 => hn (List.contains_iff_mem.1 h2)
  ·exact zp h.2 p hp hn
theorem Bg {H : List Blk} {bs : List Nat} : ∀ {l : List RdE}, u5 C H bs l -> ∀ p ∈ l, p.i ∉ bs -> cj C ⟨p.ρ, H⟩ p.o p.v
 | [], _, p, hp => by cases hp
 | q :: r, h, p, hp => λ hn => by
  unfold u5 at h
  rcases mem_cons.1 hp with rfl | hp
  ·exact h.1.resolve_left λ h2 => hn (List.contains_iff_mem.1 h2)
  ·exact Bg h.2 p hp hn
structure TrF (C : Ctx) (ops : Array Oper) (B : Nat -> List Nat) (k : Nat) (hist : List (Nat × List Blk)) (rd : List RdE) (v : Nat -> AV) (ρ : Nat -> List (Nat × AV)) (H : Nat -> List Blk) : Prop where
 a : ∀ j, k <= j -> j < ops.size -> bu C (aE ops j) = .read -> bg ops (ρ j) (aE ops j) = some true -> ∀ p ∈ hist, p.1 ∉ B j -> cj C ⟨ρ j, p.2⟩ (aE ops j) (v j)
 b : ∀ j, k <= j -> j < ops.size -> bu C (aE ops j) = .eff -> bg ops (ρ j) (aE ops j) = some true -> ∀ p ∈ rd, p.i ∉ B j -> cj C ⟨p.ρ, H (j + 1)⟩ p.o p.v
 c : ∀ e j, k <= e -> e < j -> j < ops.size -> bu C (aE ops e) = .eff -> bg ops (ρ e) (aE ops e) = some true -> bu C (aE ops j) = .read -> bg ops (ρ j) (aE ops j) = some true -> e ∉ B j -> cj C ⟨ρ j, H e⟩ (aE ops j) (v j)
 d : ∀ j e, k <= j -> j < e -> e < ops.size -> bu C (aE ops j) = .read -> bg ops (ρ j) (aE ops j) = some true -> bu C (aE ops e) = .eff -> bg ops (ρ e) (aE ops e) = some true -> j ∉ B e -> cj C ⟨ρ j, H (e + 1)⟩ (aE ops j) (v j)
theorem rn {ops : Array Oper} {B : Nat -> List Nat} : ∀ (l : List Oper) (ks : List Kd) (ds : List (List Nat)) (k : Nat) (hist : List (Nat × List Blk)) (rd : List RdE) (st : ASt) (K : ASt -> Prop), (∀ j : Nat, l[j]? = ops[k + j]?) -> (∀ (j : Nat) (x : Kd), ks[j]? = some x -> k + j < ops.size -> bu C (aE ops (k + j)) = x) -> (∀ (j : Nat) (x : List Nat), ds[j]? = some x -> B (k + j) = x) -> k <= ops.size -> cS C ops k l ks ds hist rd st K ->
  ∃ v ρ H, Trace C ops k st v ρ H /\ TrF C ops B k hist rd v ρ H /\ K ⟨ρ ops.size, H ops.size⟩
 | [], ks, ds, k, hist, rd, st, K, hl, hks, hds, hk, h => by
  have h0 := hl 0
  simp at h0
  have : k = ops.size := by omega
  subst this
  rw [HI] at h
  exact ⟨λ _ => .undef, λ _ => st.ρ, λ _ => st.H, ⟨rfl, rfl, λ i h1 h2 => by omega⟩, ⟨λ j h1 h2 => by omega, λ j h1 h2 => by omega, λ e j h1 h2 h3 => by omega, λ e j h1 h2 h3 => by omega⟩, h⟩
 | o :: r, [], ds, k, hist, rd, st, K, hl, hks, hds, hk, h => by unfold cS at h; exact h.elim
 | o :: r, kd :: ks, [], k, hist, rd, st, K, hl, hks, hds, hk, h => by cases kd <;> (unfold cS at h; exact h.elim)
 | o :: r, kd :: ks, d :: ds, k, hist, rd, st, K, hl, hks, hds, hk, h => by
  have hl0 := hl 0
  simp only [List.getElem?_cons_zero, Nat.add_zero] at hl0
  have hlt : k < ops.size := (Array.getElem?_eq_some_iff.1 hl0.symm).1
  have ho : aE ops k = o := by simp [aE, Array.getD_eq_getD_getElem?, <- hl0]
  have hkd : bu C (aE ops k) = kd := by have := hks 0 kd rfl (by omega); simpa using this
  have hBk : B k = d := by have := hds 0 d rfl; simpa using this
  have hl' : ∀ j : Nat, r[j]? = ops[k + 1 + j]? := λ j => by have := hl (j + 1); rwa [List.getElem?_cons_succ, show k + (j + 1) = k + 1 + j by omega] at this
  have hks' : ∀ (j : Nat) (x : Kd), ks[j]? = some x -> k + 1 + j < ops.size -> bu C (aE ops (k + 1 + j)) = x := λ j x hx hj => by have := hks (j + 1) x (by simpa using hx) (by omega); rwa [show k + (j + 1) = k + 1 + j by omega] at this
  have hds' : ∀ (j : Nat) (x : List Nat), ds[j]? = some x -> B (k + 1 + j) = x := λ j x hx => by have := hds (j + 1) x (by simpa using hx); rwa [show k + (j + 1) = k + 1 + j by omega] at this
  -- the rest, put behind this operation
  have fin : ∀ (g : Bool) (vk : AV) (Hk : List Blk) (hist' : List (Nat × List Blk)) (rd' : List RdE), bg ops st.ρ o = some g -> ((g = true -> ∃ ob, aI C ⟨st.ρ, st.H⟩ o = some (ob, vk, Hk) /\ ob) /\ (g = false -> vk = .tup [] /\ Hk = st.H)) ->
    (g = true -> kd = .read -> ∀ p ∈ hist, p.1 ∉ d -> cj C ⟨st.ρ, p.2⟩ o vk) -> (g = true -> kd = .eff -> ∀ p ∈ rd, p.i ∉ d -> cj C ⟨p.ρ, Hk⟩ p.o p.v) ->
    (∀ p ∈ hist, p ∈ hist') -> (∀ p ∈ rd, p ∈ rd') -> (g = true -> kd = .eff -> (k, st.H) ∈ hist') -> (g = true -> kd = .read -> (⟨k, o, st.ρ, vk⟩ : RdE) ∈ rd') ->
    cS C ops (k + 1) r ks ds hist' rd' ⟨b7 st.ρ o.dst vk, Hk⟩ K -> ∃ v ρ H, Trace C ops k st v ρ H /\ TrF C ops B k hist rd v ρ H /\ K ⟨ρ ops.size, H ops.size⟩ := by
   intro g vk Hk hist' rd' hg hst hcr hce hih hird hpe hpr hr
   obtain ⟨v, ρ, H, hT, hF, hK⟩ := rn r ks ds (k + 1) hist' rd' _ K hl' hks' hds' (by omega) hr
   have hH1 : H (k + 1) = Hk := hT.H0
   have hgw : ∀ g', bg ops st.ρ o = some g' -> g' = g := λ g' h => by rw [hg] at h; injection h with h; exact h.symm
   refine ⟨λ i => if i = k then vk else v i, λ i => if i = k then st.ρ else ρ i, λ i => if i = k then st.H else H i, ⟨by simp, by simp, λ i h1 h2 => ?_⟩, ⟨λ j h1 h2 h3 h4 p hp hn => ?_, λ j h1 h2 h3 h4 p hp hn => ?_, λ e j h1 h2 h3 h4 h5 h6 h7 h8 => ?_, λ j e h1 h2 h3 h4 h5 h6 h7 h8 => ?_⟩, ?_⟩
   ·by_cases e : i = k
    ·subst e
     refine ⟨g, by rw [ho, if_pos rfl]; exact hg, λ hgt => ?_, λ hgf => ?_, ?_⟩
     ·simp only [if_true, ho, succ_ne_self, if_false, hT.H0]
      exact hst.1 hgt
     ·simp only [if_true, succ_ne_self, if_false, hT.H0]
      exact hst.2 hgf
     ·simp only [if_true, ho, succ_ne_self, if_false, hT.ρ0]
    ·have := hT.step i (by omega) h2
     simp only [e, if_false, show ¬ i + 1 = k by omega]
     exact this
   ·by_cases e : j = k
    ·subst e
     simp only [if_true, ho] at h3 h4 ⊢
     have hg1 := hgw _ h4
     rw [ho] at hkd
     exact hcr hg1.symm (by rw [<- hkd]; exact h3) p hp (by rw [<- hBk]; exact hn)
    ·simp only [e, if_false] at h4 ⊢
     exact hF.a j (by omega) h2 h3 h4 p (hih p hp) hn
   ·by_cases e : j = k
    ·subst e
     simp only [if_true, ho] at h3 h4
     have hg1 := hgw _ h4
     rw [ho] at hkd
     simp only [succ_ne_self, if_false, hH1]
     exact hce hg1.symm (by rw [<- hkd]; exact h3) p hp (by rw [<- hBk]; exact hn)
    ·simp only [e, if_false] at h4
     simp only [show ¬ j + 1 = k by omega, if_false]
     exact hF.b j (by omega) h2 h3 h4 p (hird p hp) hn
   ·have ej : ¬ j = k := by omega
    simp only [ej, if_false] at h7 ⊢
    by_cases e' : e = k
    ·subst e'
     simp only [if_true, ho] at h4 h5 ⊢
     have hg1 := hgw _ h5
     rw [ho] at hkd
     exact hF.a j (by omega) h3 h6 h7 (e, st.H) (hpe hg1.symm (by rw [<- hkd]; exact h4)) h8
    ·simp only [e', if_false] at h5 ⊢
     exact hF.c e j (by omega) h2 h3 h4 h5 h6 h7 h8
   ·have ee : ¬ e = k := by omega
    have ee1 : ¬ e + 1 = k := by omega
    simp only [ee, ee1, if_false] at h7 ⊢
    by_cases e' : j = k
    ·subst e'
     simp only [if_true, ho] at h4 h5 ⊢
     have hg1 := hgw _ h5
     rw [ho] at hkd
     exact hF.b e (by omega) h3 h6 h7 ⟨j, o, st.ρ, vk⟩ (hpr hg1.symm (by rw [<- hkd]; exact h4)) h8
    ·simp only [e', if_false] at h5 ⊢
     exact hF.d j e (by omega) h2 h3 h4 h5 h6 h7 h8
   ·have e : ¬ ops.size = k := by omega
    simpa only [e, if_false] using hK
  have mem1 : ∀ {α : Type} {x : α} {l : List α}, ∀ p ∈ l, p ∈ x :: l := λ p hp => mem_cons_of_mem _ hp
  cases kd with
  | pure =>
   rw [Dv] at h
   cases hg : bg ops st.ρ o with
   | none => rw [hg] at h; exact h.elim
   | some g =>
    rw [hg] at h
    simp only [jk] at h
    cases g with
    | true =>
     simp only [kC] at h
     cases hs : aI C st o with
     | none => rw [hs] at h; exact h.elim
     | some q =>
      obtain ⟨ob, vk, Hk⟩ := q
      rw [hs] at h
      exact fin true vk Hk hist rd hg ⟨λ _ => ⟨ob, hs, h.1⟩, λ h => by cases h⟩ (λ _ h => by cases h) (λ _ h => by cases h) (λ _ h => h) (λ _ h => h) (λ _ h => by cases h) (λ _ h => by cases h) h.2
    | false =>
     simp only [jn] at h
     exact fin false (.tup []) st.H hist rd hg ⟨λ h => (by cases h), λ _ => ⟨rfl, rfl⟩⟩ (λ h => by cases h) (λ h => by cases h) (λ _ h => h) (λ _ h => h) (λ h => by cases h) (λ h => by cases h) h
  | read =>
   rw [Cz] at h
   cases hg : bg ops st.ρ o with
   | none => rw [hg] at h; exact h.elim
   | some g =>
    rw [hg] at h
    simp only [jk] at h
    cases g with
    | true =>
     simp only [kC] at h
     cases hs : aI C st o with
     | none => rw [hs] at h; exact h.elim
     | some q =>
      obtain ⟨ob, vk, Hk⟩ := q
      rw [hs] at h
      exact fin true vk Hk hist _ hg ⟨λ _ => ⟨ob, hs, h.1⟩, λ h => by cases h⟩ (λ _ _ => zp h.2.1) (λ _ h => by cases h) (λ _ h => h) mem1 (λ _ h => by cases h) (λ _ _ => by simp) h.2.2
    | false =>
     simp only [jn] at h
     exact fin false (.tup []) st.H hist rd hg ⟨λ h => (by cases h), λ _ => ⟨rfl, rfl⟩⟩ (λ h => by cases h) (λ h => by cases h) (λ _ h => h) (λ _ h => h) (λ h => by cases h) (λ h => by cases h) h
  | eff =>
   rw [Gu] at h
   cases hg : bg ops st.ρ o with
   | none => rw [hg] at h; exact h.elim
   | some g =>
    rw [hg] at h
    simp only [jk] at h
    cases g with
    | true =>
     simp only [kC] at h
     cases hs : aI C st o with
     | none => rw [hs] at h; exact h.elim
     | some q =>
      obtain ⟨ob, vk, Hk⟩ := q
      rw [hs] at h
      exact fin true vk Hk _ rd hg ⟨λ _ => ⟨ob, hs, h.1⟩, λ h => by cases h⟩ (λ _ h => by cases h) (λ _ _ => Bg h.2.1) mem1 (λ _ h => h) (λ _ _ => by simp) (λ _ h => by cases h) h.2.2
    | false =>
     simp only [jn] at h
     exact fin false (.tup []) st.H hist rd hg ⟨λ h => (by cases h), λ _ => ⟨rfl, rfl⟩⟩ (λ h => by cases h) (λ h => by cases h) (λ _ h => h) (λ _ h => h) (λ h => by cases h) (λ h => by cases h) h
section
variable {ops : Array Oper} {B : Nat -> List Nat} {st : ASt} {v : Nat -> AV} {ρ : Nat -> List (Nat × AV)} {H : Nat -> List Blk}
theorem un (T : Trace C ops 0 st v ρ H) {i : Nat} (hi : i < ops.size) (h : ¬ (bu C (aE ops i) = .eff /\ bg ops (ρ i) (aE ops i) = some true)) : H (i + 1) = H i := by
 obtain ⟨g, hg, hst, hsk, _⟩ := T.step i (zero_le _) hi
 cases g with
 | false => exact (hsk rfl).2
 | true => exact wM T hi (by
   unfold bW
   cases hk : bu C (aE ops i) with
   | eff => exact absurd ⟨hk, hg⟩ h
   | _ => rfl)
theorem AD (T : Trace C ops 0 st v ρ H) : ∀ d k, k + d <= ops.size -> H k = H (k + d) ∨ ∃ e, k <= e /\ e < k + d /\ bu C (aE ops e) = .eff /\ bg ops (ρ e) (aE ops e) = some true /\ H k = H e
 | 0, k, _ => .inl rfl
 | d + 1, k, hk => by
  by_cases h : bu C (aE ops k) = .eff /\ bg ops (ρ k) (aE ops k) = some true
  ·exact .inr ⟨k, le_refl _, by omega, h.1, h.2, rfl⟩
  ·have h1 := un T (by omega) h
   rcases AD T d (k + 1) (by omega) with h2 | ⟨e, h2, h3, h4, h5, h6⟩
   ·left; rw [<- h1, h2]; congr 1; omega
   ·exact .inr ⟨e, by omega, by omega, h4, h5, by rw [<- h1, h6]⟩
theorem As (T : Trace C ops 0 st v ρ H) : ∀ d i, i + d <= ops.size -> H (i + d) = H i ∨ ∃ e, i <= e /\ e < i + d /\ bu C (aE ops e) = .eff /\ bg ops (ρ e) (aE ops e) = some true /\ H (i + d) = H (e + 1)
 | 0, i, _ => .inl rfl
 | d + 1, i, hi => by
  by_cases h : bu C (aE ops (i + d)) = .eff /\ bg ops (ρ (i + d)) (aE ops (i + d)) = some true
  ·exact .inr ⟨i + d, by omega, by omega, h.1, h.2, rfl⟩
  ·have h1 := un T (i := i + d) (by omega) h
   rw [show i + (d + 1) = i + d + 1 by omega, h1]
   rcases As T d i (by omega) with h2 | ⟨e, h2, h3, h4, h5, h6⟩
   ·exact .inl h2
   ·exact .inr ⟨e, by omega, by omega, h4, h5, h6⟩
theorem Dc (T : Trace C ops 0 st v ρ H) (F : TrF C ops B 0 [] [] v ρ H) : Ds C ops B v ρ H := by
 intro i k hi hk hkd hg h1 h2
 have use : ∀ H', H k = H' -> cj C ⟨ρ i, H'⟩ (aE ops i) (v i) -> ∃ ob, aI C ⟨ρ i, H k⟩ (aE ops i) = some (ob, v i, H k) /\ ob := by
  intro H' e h
  subst e
  unfold cj fK at h
  split at h
  ·rename_i ob v' H' hst
   obtain ⟨rfl, hob⟩ := h
   have := nT hkd hst
   subst this
   exact ⟨ob, hst, hob⟩
  ·exact h.elim
 have own : cj C ⟨ρ i, H i⟩ (aE ops i) (v i) := by
  obtain ⟨g, hg', hst, _, _⟩ := T.step i (zero_le _) hi
  rw [hg] at hg'; injection hg' with hg'; subst hg'
  obtain ⟨ob, hst, hob⟩ := hst rfl
  unfold cj fK
  rw [hst]
  exact ⟨rfl, hob⟩
 rcases Nat.le_total k i with hki | hki
 ·rcases AD T (i - k) k (by omega) with h | ⟨e, e1, e2, e3, e4, e5⟩
  ·exact use (H i) (by rw [h]; congr 1; omega) own
  ·refine use (H e) e5 (F.c e i (zero_le _) (by omega) hi e3 e4 hkd hg λ hm => ?_)
   have := h1 e (by omega) (by simp [bW, e3]) hm
   omega
 ·rcases As T (k - i) i (by omega) with h | ⟨e, e1, e2, e3, e4, e5⟩
  ·exact use (H i) (by rw [<- h]; congr 1; omega) own
  ·have hne : e ≠ i := λ h => by subst h; rw [hkd] at e3; cases e3
   refine use (H (e + 1)) (by rw [<- e5]; congr 1; omega) (F.d i e (zero_le _) (by omega) (by omega) hkd hg e3 e4 λ hm => ?_)
   have := h2 e (by omega) (by simp [bW, e3]) hm
   omega
end
def kinds (C : Ctx) (ops : Array Oper) : List Kd := ops.toList.map (bu C)
theorem aA (hS : au C) (hM : C.P.follows .mixedOrders = true) {id : Nat} {l : List Oper} {st : ASt} {Q : Exit -> ASt -> Prop} (ks : List Kd) (ds : List (List Nat)) (hks : kinds C l.toArray = ks) (hds : Jt l [] = ds) (hok : J3 C l.toArray = true) (hdd : (l.all λ o => match o.dst with | some d => decide (d < N) | none => true) = true)
  (h : cS C l.toArray 0 l ks ds [] [] st (Q .normal)) : AW C N h0 (.region id l.toArray true) st Q := λ X w0 β0 H0 a w hl hr => by
 generalize hops : l.toArray = ops at *
 have hlo : ops.toList = l := by rw [<- hops]
 have hd : ∀ o ∈ ops.toList, ∀ d, o.dst = some d -> d < N := by
  intro o ho d hd
  rw [hlo] at ho
  have := all_eq_true.1 hdd o ho
  rw [hd] at this
  simpa using this
 have F := xZ hok
 rw [hlo, hds] at F
 obtain ⟨v, ρ, H, T, hF, hK⟩ := rn (B := λ i => ds.getD i []) l ks ds 0 [] [] st (Q .normal) (λ j => by rw [<- hlo]; simp) (λ j x hx hj => by
  rw [<- hks] at hx
  unfold kinds at hx
  rw [getElem?_map, map_eq_some_iff] at hx
  obtain ⟨o, ho, rfl⟩ := hx
  have : aE ops (0 + j) = o := by
   unfold aE
   rw [zero_add, Array.getD_eq_getD_getElem?]
   rw [Array.getElem?_toList] at ho
   rw [ho]; rfl
  rw [this]) (λ j x hx => by simp [getD_eq_getElem?_getD, hx]) (zero_le _) h
 refine wp_region_any hM ?_
 obtain ⟨β, R, S0, Tr, G, hN, hdef⟩ := hr
 have hk : Keeps (λ _ => False) w { w with drawn := w.drawn + 1 } := Keeps.drew _ w
 have hr' : Rel C N X w0 β0 H0 ⟨st.ρ, st.H⟩ a { w with drawn := w.drawn + 1 } :=
  ⟨β, R.quiet hk, S0.trans (StepR.quiet hk R.len), λ t => (Tr t).keep (StepR.quiet hk R.len), λ g => (G g).keep (λ b hb hn => hk.block b hb (λ h => h)) hk.size (λ b _ h => h), hN, hdef⟩
 refine mg hS (λ i hi d hd' => ?_) T F (Dc T hF) (λ a' w' hr => ⟨_, hK, hr⟩) ops.size (Array.replicate ops.size false) st.ρ st.H a _ (by simp) ?_ (le_trans List.countP_le_length (by simp)) hr'
 ·refine hd (aE ops i) ?_ d hd'
  unfold aE
  rw [Array.getD_eq_getD_getElem?, Array.getElem?_eq_getElem hi]
  exact Array.mem_toList_iff.2 (Array.getElem_mem hi)
 ·have hno : ∀ i, ¬ ((Array.replicate ops.size false).getD i false = true) := by
   intro i
   rw [Array.getD_eq_getD_getElem?]
   rcases lt_or_ge i ops.size with h | h
   ·simp [h]
   ·simp [Array.getElem?_eq_none (show (Array.replicate ops.size false).size <= i by simpa using h)]
  refine ⟨λ i _ h => absurd h (hno i), λ i _ h => absurd h (hno i), λ t _ => by rw [T.ρ0], λ k hk hsep => ?_⟩
  rw [<- T.H0]
  refine yD T (zero_le _) hk λ e he1 he2 => ⟨λ h => by omega, λ h => absurd ((hsep e he1 he2).2 h) (hno e)⟩
end
def Wr (s : Nat -> Nat) : AV -> AV
 | .own l n => .own (s l) n
 | .osl l n z o k => .osl (s l) n z o k
 | .ptr l n z i f => .ptr (s l) n z i f
 | v => v
def VY (s : Nat -> Nat) (b : Blk) : Blk := { b with rows := b.rows.map λ r => r.map (Wr s) }
def okB (m : Nat) (b : Blk) : Bool := b.rows.all λ r => r.all λ c => c.clean1 m
section
variable {w : World} {X : Nat -> Prop} {β β2 : List BI} {H N : List Blk} {s : Nat -> Nat}
structure Sel (s : Nat -> Nat) (β : List BI) (H : List Blk) (β2 : List BI) (N : List Blk) : Prop where
 len : β2.length = N.length
 b : ∀ (l : Nat), l < N.length -> β2[l]? = β[s l]?
 h : ∀ (l : Nat) (b : Blk), N[l]? = some b -> H[s l]? = some (VY s b)
 inj : ∀ (l l' : Nat), l < N.length -> l' < N.length -> s l = s l' -> l = l'
 ok : ∀ b ∈ N, okB N.length b = true
theorem Sel.mut_ (S : Sel s β H β2 N) {b : Nat} (h : MutB β2 N b) : MutB β H b := by
 obtain ⟨l, c, blk, h1, h2, h3⟩ := h
 have hl := (List.getElem?_eq_some_iff.1 h2).1
 rw [S.b l hl] at h1
 exact ⟨s l, c, _, h1, S.h l blk h2, h3⟩
theorem Sel.mu (S : Sel s β H β2 N) {b : Nat} (h : Mu X β2 N b) : Mu X β H b := h.imp id S.mut_
variable {w' : World} {β1 : List BI}
def up (k : Nat) : Nat -> Nat := λ l => l + k
end
section
variable {C : Ctx}
end
section
variable {C : Ctx} {N h0 : Nat}
theorem P6 {code : Code} {st : ASt} {Q : Exit -> ASt -> Prop} (h : AW C N h0 code st λ ex s => ∃ s', Weak C N h0 s s' /\ Q ex s') : AW C N h0 code st Q := λ X w0 β0 H0 x w hl hr =>
 Code.wp_mono (λ ex a' w' ⟨st', ⟨s', hw, hq⟩, hr'⟩ => ⟨s', hq, hw X w0 β0 H0 a' w' hl hr'⟩) (h X w0 β0 H0 x w hl hr)
def Up (C : Ctx) (N h0 : Nat) (Q : Exit -> ASt -> Prop) (ex : Exit) (s : ASt) : Prop := ∃ s', Weak C N h0 s s' /\ Q ex s'
@[congr] theorem Rx {Q : Exit -> ASt -> Prop} {ex ex' : Exit} {st st' : ASt} (h : dh ex = ex') (h' : st = st') : Up C N h0 Q ex st = Up C N h0 Q ex' st' := by rw [aR] at h; rw [h, h']
end
section
variable {C : Ctx} (hS : au C) (hM : C.P.follows .mixedOrders = true) {f : FuncId} {fn : Func} {body : Code} {rs : List ResultVar} {n : Nat} (hf : C.P.funcs[f]? = some fn) (hb : fn.body = some body) (hrs : fn.results.toList = rs) (hn : fn.ntmps = n)
include hS hM hf hb hrs hn
end
theorem bM {P : Program} {G : Nat -> AV} {f : FuncId} {fn : Func} {g : List AV -> List Blk -> Option (Prop × AV × List Blk)} (h : jM P G f g) (hf : P.funcs[f]? = some fn) (hb : fn.body.isSome = true) (hn : fn.name ≠ "runtime.NumGoroutine") : jN P G f (.gen g) := ⟨h, fn, hf, hn, hb⟩
def qL : List Nat -> Nat -> Bool
 | [], _ => false
 | a :: r, i => a == i || qL r i
@[simp] theorem TZ (i : Nat) : qL [] i = false := rfl
@[simp] theorem Rw (a i : Nat) (r : List Nat) : qL (a :: r) i = (a == i || qL r i) := rfl
def bN (C : Ctx) (hd : List Nat) (N : Nat) : Code -> Bool
 | .region id ops draw => qL hd id || ((ops.toList.all λ o => match o.dst with | some d => decide (d < N) | none => true) && (!draw || DQ C ops))
 | .seq a b => bN C hd N a && bN C hd N b
 | .cond _ a b => bN C hd N a && bN C hd N b
 | .block _ b => bN C hd N b
 | .scope b => bN C hd N b
 | _ => true
def cz (C : Ctx) (hd : List Nat) (N h0 : Nat) : Code -> ASt -> (Exit -> ASt -> Prop) -> Prop
 | .skip, st, Q => Q .normal st
 | .region id ops d, st, Q => if qL hd id = true then AW C N h0 (.region id ops d) st Q else gQ C ops ops.toList st (Q .normal)
 | .seq a b, st, Q => cz C hd N h0 a st (r5 (λ st' => cz C hd N h0 b st' Q) Q)
 | .cond c a b, st, Q => cD (aev C st.ρ 0 c) λ x => dP x (cz C hd N h0 a st Q) (cz C hd N h0 b st Q)
 | .block id b, st, Q => cz C hd N h0 b st (jL id Q)
 | .exit id, st, Q => Q (.exit id) st
 | .ret, st, Q => Q .ret st
 | .label _, st, Q => Q .normal st
 | .scope b, st, Q => cz C hd N h0 b st (nh Q)
 | .loop b, st, Q => AW C N h0 (.loop b) st Q
 | _, _, _ => False
section
variable {C : Ctx} {hd : List Nat} {N h0 : Nat}
@[congr] theorem QV {code : Code} {st st' : ASt} {Q : Exit -> ASt -> Prop} (h : dh st = st') : cz C hd N h0 code st Q = cz C hd N h0 code st' Q := by rw [aR] at h; rw [h]
@[simp] theorem RR (st : ASt) (Q : Exit -> ASt -> Prop) : cz C hd N h0 .skip st Q = Q .normal st := rfl
@[simp] theorem Oj (id : Nat) (l : List Oper) (d : Bool) (st : ASt) (Q : Exit -> ASt -> Prop) : cz C hd N h0 (.region id l.toArray d) st Q = if qL hd id = true then AW C N h0 (.region id l.toArray d) st Q else gQ C l.toArray l st (Q .normal) := rfl
@[simp] theorem SU (a b : Code) (st : ASt) (Q : Exit -> ASt -> Prop) : cz C hd N h0 (.seq a b) st Q = cz C hd N h0 a st (r5 (λ st' => cz C hd N h0 b st' Q) Q) := rfl
@[simp] theorem FO (c : Operand) (a b : Code) (st : ASt) (Q : Exit -> ASt -> Prop) : cz C hd N h0 (.cond c a b) st Q = cD (aev C st.ρ 0 c) λ x => dP x (cz C hd N h0 a st Q) (cz C hd N h0 b st Q) := rfl
@[simp] theorem P2 (id : Nat) (b : Code) (st : ASt) (Q : Exit -> ASt -> Prop) : cz C hd N h0 (.block id b) st Q = cz C hd N h0 b st (jL id Q) := rfl
@[simp] theorem RP (id : Nat) (st : ASt) (Q : Exit -> ASt -> Prop) : cz C hd N h0 (.exit id) st Q = Q (.exit id) st := rfl
@[simp] theorem To (st : ASt) (Q : Exit -> ASt -> Prop) : cz C hd N h0 .ret st Q = Q .ret st := rfl
@[simp] theorem Qy (l : Nat) (st : ASt) (Q : Exit -> ASt -> Prop) : cz C hd N h0 (.label l) st Q = Q .normal st := rfl
@[simp] theorem QK (b : Code) (st : ASt) (Q : Exit -> ASt -> Prop) : cz C hd N h0 (.scope b) st Q = cz C hd N h0 b st (nh Q) := rfl
@[simp] theorem Rq (b : Code) (st : ASt) (Q : Exit -> ASt -> Prop) : cz C hd N h0 (.loop b) st Q = AW C N h0 (.loop b) st Q := rfl
theorem Jv {c : Operand} {x y : Code} {st : ASt} {Q : Exit -> ASt -> Prop} (h : cD (aev C st.ρ 0 c) λ b => dP b (AW C N h0 x st Q) (AW C N h0 y st Q)) : AW C N h0 (.cond c x y) st Q := λ X w0 β0 H0 a w hl hr => by
 have hr0 := hr
 obtain ⟨β, R, S0, Tr, G, hN, hdef⟩ := hr0
 have hE := bq Tr G 0 c
 unfold cD at h
 split at h
 ·rename_i b hb
  rw [hb] at hE
  exact wp_cond_split (ct hE) (λ ht => h.1 ht X w0 β0 H0 a w hl hr) (λ hf => h.2 hf X w0 β0 H0 a w hl hr)
 ·rename_i hb
  rw [hb] at hE
  obtain ⟨b, hb'⟩ := mz hE
  exact wp_cond_split hb' (λ _ => h.1.1 rfl X w0 β0 H0 a w hl hr) (λ _ => h.2.2 rfl X w0 β0 H0 a w hl hr)
 ·exact h.elim
theorem Jh {b : Code} {st : ASt} {Q : Exit -> ASt -> Prop} (h : AW C N h0 b st (nh Q)) : AW C N h0 (.scope b) st Q := λ X w0 β0 H0 a w hl hr => by
 refine wp_scope_straight (Code.wp_mono (λ ex a' w' ⟨st', hq, hr'⟩ => ?_) (h X w0 β0 H0 a w hl hr))
 cases ex with
 | goto l => exact hq
 | _ => exact ⟨st', hq, hr'⟩
theorem bf (hS : au C) (hM : C.P.follows .mixedOrders = true) : ∀ (code : Code) {st : ASt} {Q : Exit -> ASt -> Prop}, bN C hd N code = true -> cz C hd N h0 code st Q -> AW C N h0 code st Q
 | .skip, st, Q, _, h => bm hS hM .skip rfl h
 | .region id ops draw, st, Q, hok, h => by
  unfold cz at h
  split at h
  ·exact h
  ·rename_i hi
   unfold bN at hok
   rw [Bool.or_eq_true] at hok
   exact bm hS hM (.region id ops draw) (hok.resolve_left hi) h
 | .seq x y, st, Q, hok, h => by
  simp only [bN, Bool.and_eq_true] at hok
  refine Pg (AW.mono (bf hS hM x hok.1 h) λ ex st' hq => ?_)
  cases ex with
  | normal => exact bf hS hM y hok.2 hq
  | _ => exact hq
 | .cond c x y, st, Q, hok, h => by
  simp only [bN, Bool.and_eq_true] at hok
  rw [FO] at h
  refine Jv ?_
  have key : ∀ v : AV, (cD v λ b => dP b (cz C hd N h0 x st Q) (cz C hd N h0 y st Q)) -> cD v λ b => dP b (AW C N h0 x st Q) (AW C N h0 y st Q) := by
   intro v hv
   unfold cD at hv ⊢
   split at hv
   ·exact ⟨λ hb => bf hS hM x hok.1 (hv.1 hb), λ hb => bf hS hM y hok.2 (hv.2 hb)⟩
   ·exact ⟨⟨λ hb => bf hS hM x hok.1 (hv.1.1 hb), λ hb => (by cases hb)⟩, ⟨λ hb => (by cases hb), λ hb => bf hS hM y hok.2 (hv.2.2 hb)⟩⟩
   ·exact hv
  exact key _ h
 | .block id b, st, Q, hok, h => IG (bf hS hM b (by simpa only [bN] using hok) h)
 | .exit id, st, Q, _, h => bm hS hM (.exit id) rfl h
 | .ret, st, Q, _, h => bm hS hM .ret rfl h
 | .label l, st, Q, _, h => bm hS hM (.label l) rfl h
 | .scope b, st, Q, hok, h => Jh (bf hS hM b (by simpa only [bN] using hok) h)
 | .loop b, st, Q, _, h => h
 | .goto _, _, _, _, h => h.elim
 | .rangeFunc .., _, _, _, h => h.elim
 | .refuse _, _, _, _, h => h.elim
theorem aB {α : Type} (hS : au C) (hM : C.P.follows .mixedOrders = true) (hd : List Nat) {body : Code} {st : ASt} {Q : Exit -> ASt -> Prop} (Sf : α -> ASt) (pre : α -> Prop) (m : α -> Nat) (hok : bN C hd N body = true)
  (start : ∃ x, pre x /\ Weak C N h0 st (Sf x)) (step : ∀ x, pre x -> cz C hd N h0 body (Sf x) (round Sf pre (λ x' => m x' < m x) N h0 C Q)) : AW C N h0 (.loop body) st Q :=
 KE Sf pre m start λ x hx => bf hS hM body hok (step x hx)
end
section
variable {C : Ctx} (hS : au C) (hM : C.P.follows .mixedOrders = true) {f : FuncId} {fn : Func} {body : Code} {rs : List ResultVar} {n : Nat} (hf : C.P.funcs[f]? = some fn) (hb : fn.body = some body) (hrs : fn.results.toList = rs) (hn : fn.ntmps = n) (hd : List Nat)
include hS hM hf hb hrs hn
theorem KJ (hok : bN C hd n body = true) {r : AV} (h : cz C hd n 0 body ⟨[], []⟩ (dV C rs r)) : PureOK C.P C.G f (dA r) :=
 jc hf hb hrs hn λ avs ob r' hp hob => by
  unfold dA at hp
  split at hp
  ·injection hp with hp; injection hp with e1 e2; subst e1 e2
   exact ⟨zero_le _, bf hS hM body hok h⟩
  ·cases hp
theorem qZ {α : Type} [Enc α] (hok : bN C hd n body = true) (hnn : 1 <= n) {pre : α -> Prop} {res : α -> AV} (h : ∀ a, pre a -> cz C hd n 0 body ⟨[(0, Enc.enc a)], []⟩ (dV C rs (res a))) : PureOK C.P C.G f (aN pre res) :=
 jc hf hb hrs hn λ avs ob r' hp hob => by
  unfold aN at hp
  split at hp
  ·injection hp with hp; injection hp with e1 e2; subst e1 e2
   have := h _ hob.2
   rw [<- hob.1] at this
   exact ⟨hnn, bf hS hM body hok this⟩
  ·cases hp
theorem lF {α β : Type} [Enc α] [Enc β] (hok : bN C hd n body = true) (hnn : 2 <= n) {pre : α -> β -> Prop} {res : α -> β -> AV} (h : ∀ a b, pre a b -> cz C hd n 0 body ⟨[(0, Enc.enc a), (1, Enc.enc b)], []⟩ (dV C rs (res a b))) : PureOK C.P C.G f (aC pre res) :=
 jc hf hb hrs hn λ avs ob r' hp hob => by
  unfold aC at hp
  split at hp
  ·injection hp with hp; injection hp with e1 e2; subst e1 e2
   have := h _ _ hob.2.2
   rw [<- hob.1, <- hob.2.1] at this
   exact ⟨hnn, bf hS hM body hok this⟩
  ·cases hp
theorem CH {α β γ : Type} [Enc α] [Enc β] [Enc γ] (hok : bN C hd n body = true) (hnn : 3 <= n) {pre : α -> β -> γ -> Prop} {res : α -> β -> γ -> AV} (h : ∀ a b c, pre a b c -> cz C hd n 0 body ⟨[(0, Enc.enc a), (1, Enc.enc b), (2, Enc.enc c)], []⟩ (dV C rs (res a b c))) : PureOK C.P C.G f (lu pre res) :=
 jc hf hb hrs hn λ avs ob r' hp hob => by
  unfold lu at hp
  split at hp
  ·injection hp with hp; injection hp with e1 e2; subst e1 e2
   have := h _ _ _ hob.2.2.2
   rw [<- hob.1, <- hob.2.1, <- hob.2.2.1] at this
   exact ⟨hnn, bf hS hM body hok this⟩
  ·cases hp
end
section
variable {C : Ctx} {N h0 : Nat}
theorem kY {ρ : List (Nat × AV)} {H : List Blk} (l i j sz : Nat) (e : TypeId) {b : Blk} {r : List AV} (hb : H[l]? = some b) (hr : b.rows[i]? = some r) (hj : r[j]? = some (.slice sz true [])) (hz : 0 < sz) :
  Weak C N h0 ⟨ρ, H⟩ ⟨ρ, (H ++ [(⟨e, sz, [], true, true⟩ : Blk)]).set l { b with rows := b.rows.set i (r.set j (.own H.length 0)), deep := false }⟩ := by
 intro X w0 β0 H0 a w hl hrel
 obtain ⟨β, R, S0, Tr, G, hN, hdef⟩ := hrel
 have hk := Keeps.refl (λ _ => False) w
 have S1 := dJ (w' := w) R hk .nil ⟨e, sz, [], true, true⟩ (λ bk c e => by cases e)
 have R1 := eV R hk .nil ⟨e, sz, [], true, true⟩ (λ bk c e => by cases e) (λ bk c e => by cases e) ⟨rfl, hz⟩
 have hlt := (List.getElem?_eq_some_iff.1 hb).1
 have hb1 : (H ++ [(⟨e, sz, [], true, true⟩ : Blk)])[l]? = some b := by rw [List.getElem?_append_left hlt]; exact hb
 obtain ⟨bi, hbi⟩ : ∃ bi, (β ++ [BI.nil])[l]? = some bi := by
  refine ⟨(β ++ [BI.nil])[l]'(by have h2 : β.length = H.length := R.len; simp; omega), getElem?_eq_getElem _⟩
 have S2 := ed R1 hb1 hbi bi { b with rows := b.rows.set i (r.set j (.own H.length 0)), deep := false } rfl rfl (by simp) (λ _ => rfl) id (λ bk c e => .inr ⟨c, e⟩) (Keeps.refl _ w)
 have R2 := eG R1 hb1 hbi bi { b with rows := b.rows.set i (r.set j (.own H.length 0)), deep := false } S2 (λ _ _ _ _ _ => rfl) (by
  have hB := R1.blk l bi b hbi hb1
  cases bi with
  | nil => rw [hB.1] at hr; simp at hr
  | lies bk cap =>
   obtain ⟨cur, k1, k2, k3, k4, k5, k6, k7⟩ := hB
   refine ⟨cur, k1, k2, by simpa using k3, k4, k5, λ r' hr' => ?_, λ i' j' r' av hr' hj' => ?_⟩
   ·rcases List.mem_or_eq_of_mem_set hr' with h | h
    ·exact k6 r' h
    ·rw [h, List.length_set]; exact k6 r (mem_of_getElem? hr)
   ·simp only at hr'
    by_cases e1 : i = i'
    ·subst e1
     rw [List.getElem?_set_self (List.getElem?_eq_some_iff.1 hr).1] at hr'
     injection hr' with hr'
     subst hr'
     by_cases e2 : j = j'
     ·subst e2
      rw [List.getElem?_set_self (List.getElem?_eq_some_iff.1 hj).1] at hj'
      injection hj' with hj'
      subst hj'
      obtain ⟨v, q1, q2, q3, q4⟩ := k7 i j r _ hr hj
      refine ⟨v, q1, q2, ?_, λ h => by cases h⟩
      obtain ⟨a0, cap0, val, h2, h3, h4, h5, _⟩ := dc (di q3)
      rw [h2]
      have hcap := h5 rfl
      simp only [List.length_nil] at hcap
      have hne : H.length ≠ l := by omega
      refine .own H.length 0 a0 cap0 ⟨e, sz, [], true, true⟩ ?_ (le_refl _) (.inl rfl) (zero_le _) λ _ => ?_
      ·rw [getElem?_set_ne (λ h => hne h.symm)]
       exact aM H _
      ·have e3 : (β ++ [BI.nil]).set l (BI.lies bk cap) = β ++ [BI.nil] := by
        refine List.ext_getElem? λ k => ?_
        by_cases e : l = k
        ·subst e
         rw [List.getElem?_set_self (List.getElem?_eq_some_iff.1 hbi).1, hbi]
        ·rw [getElem?_set_ne e]
       rw [e3, <- R.len, aM]
       exact ⟨rfl, hcap⟩
     ·rw [getElem?_set_ne e2] at hj'
      obtain ⟨v, q1, q2, q3, q4⟩ := k7 i j' r av hr hj'
      exact ⟨v, q1, q2, q3.keep S2, λ h => by cases h⟩
    ·rw [getElem?_set_ne e1] at hr'
     obtain ⟨v, q1, q2, q3, q4⟩ := k7 i' j' r' av hr' hj'
     exact ⟨v, q1, q2, q3.keep S2, λ h => by cases h⟩)
  (λ bk c e => by subst e; exact R1.lt l bk c hbi) (λ bk c l' c' e hne h => by subst e; exact hne (R1.inj l' l bk c' c h hbi))
 have S := S1.trans S2
 exact ⟨_, R2, S0.trans S, λ k => (Tr k).keep S, λ g => (G g).keep (λ b hb hn => S.keeps.block b hb (λ hm => hn (.inr hm))) S.keeps.size (λ b hb => S.mu b hb), hN, hdef⟩
def AV.clean2 (m : Nat) : AV -> Bool
 | .fn _ cs => cs.all (AV.clean1 m)
 | v => v.clean1 m
def AV.cleanF (m : Nat) : AV -> Bool
 | .agg cs => cs.all (AV.clean2 m)
 | .tup cs => cs.all (AV.clean2 m)
 | v => v.clean2 m
theorem ou {w : World} {X : Nat -> Prop} {β : List BI} {H : List Blk} {m : Nat} {v : Value} {av : AV} (hc : av.clean2 m = true) (h : Rep w (Mu X β H) β H v av) : Rep w (Mu X (β.take m) (H.take m)) (β.take m) (H.take m) v av := by
 cases av with
 | fn f cells =>
  obtain ⟨cs, val, rfl, hl, hm, hv⟩ := tI h
  exact .fn f cs cells val hl hm λ j u hj => iP (all_eq_true.1 hc u (mem_of_getElem? hj)) (hv j u hj)
 | _ => exact iP hc h
theorem tU {w : World} {X : Nat -> Prop} {β : List BI} {H : List Blk} {m : Nat} {v : Value} {av : AV} (hc : av.cleanF m = true) (h : Rep w (Mu X β H) β H v av) : Rep w (Mu X (β.take m) (H.take m)) (β.take m) (H.take m) v av := by
 cases av with
 | agg cells =>
  obtain ⟨cs, val, rfl, hl, hm, hv⟩ := ir h
  exact .agg cs cells val hl hm λ j u hj => ou (all_eq_true.1 hc u (mem_of_getElem? hj)) (hv j u hj)
 | tup cells =>
  obtain ⟨cs, val, rfl, hl, hm, hv⟩ := oP h
  exact .tup cs cells val hl hm λ j u hj => ou (all_eq_true.1 hc u (mem_of_getElem? hj)) (hv j u hj)
 | _ => exact ou hc h
theorem tm {ρ : List (Nat × AV)} {H : List Blk} (m : Nat) (hm : h0 <= m) (hρ : ∀ p ∈ ρ, p.2.cleanF m = true) (hH : ∀ b ∈ H.take m, b.deep = true ∨ ∀ r ∈ b.rows, ∀ c ∈ r, c.cleanF m = true) : Weak C N h0 ⟨ρ, H⟩ ⟨ρ, H.take m⟩ := by
 intro X w0 β0 H0 a w hl hr
 obtain ⟨β, R, S0, Tr, G, hN, hdef⟩ := hr
 have hcl : ∀ t, (aZ ρ t).cleanF m = true := by
  intro t
  have key : ∀ l : List (Nat × AV), (∀ p ∈ l, p.2.cleanF m = true) -> (aZ l t).cleanF m = true := by
   intro l
   induction l with
   | nil => intro _; rfl
   | cons p r ih =>
    intro hp
    obtain ⟨k, v⟩ := p
    simp only [aZ]
    split
    ·exact hp (k, v) (by simp)
    ·exact ih λ q hq => hp q (mem_cons_of_mem _ hq)
  exact key ρ hρ
 refine ⟨β.take m, ⟨by simp [R.len], λ l bi b h1 h2 => ?_, λ l b c h1 => ?_, λ l l' b c c' h1 h2 => ?_, R.base⟩, ⟨S0.keeps, ⟨λ l b h => ?_, λ l bk c h => ?_⟩, S0.len⟩, λ t => tU (hcl t) (Tr t), λ g => (G g).mono λ b _ hb => hb.take, hN, hdef⟩
 ·rw [getElem?_take] at h1 h2
  split at h1
  ·rename_i hlm
   rw [if_pos hlm] at h2
   have hB := R.blk l bi b h1 h2
   cases bi with
   | nil => exact hB
   | lies bk cap =>
    obtain ⟨cur, k1, k2, k3, k4, k5, k6, k7⟩ := hB
    refine ⟨cur, k1, k2, k3, k4, k5, k6, λ i j r av hr hj => ?_⟩
    obtain ⟨v, q1, q2, q3, q4⟩ := k7 i j r av hr hj
    have q4' : b.deep = true -> RepD w (Mu X (β.take m) (H.take m)) v av := λ hd => (q4 hd).mono λ b _ hb => hb.take
    refine ⟨v, q1, q2, ?_, q4'⟩
    have hmem : b ∈ H.take m := mem_of_getElem? (by rw [getElem?_take, if_pos hlm]; exact h2)
    rcases hH b hmem with h | h
    ·exact .deep (q4' h)
    ·exact tU (h r (mem_of_getElem? hr) av (mem_of_getElem? hj)) q3
  ·cases h1
 ·rw [getElem?_take] at h1
  split at h1
  ·exact R.lt l b c h1
  ·cases h1
 ·rw [getElem?_take] at h1 h2
  split at h1
  ·split at h2
   ·exact R.inj l l' b c c' h1 h2
   ·cases h2
  ·cases h1
 ·obtain ⟨b', e1, e2, e3, e4, e5, e6⟩ := S0.grow.old l b h
  have hlm : l < m := by have := (List.getElem?_eq_some_iff.1 h).1; omega
  refine ⟨b', by simp only [getElem?_take, if_pos hlm]; exact e1, e2, e3, e4, λ e => ?_, e6⟩
  rw [getElem?_take, if_pos hlm]
  exact e5 e
 ·rw [getElem?_take] at h
  split at h
  ·exact S0.grow.at_ l bk c h
  ·cases h
end
section
variable {C : Ctx} {N h0 : Nat}
def Tw (C : Ctx) (rs : List ResultVar) (r : AV) (st : ASt) : Prop :=
 match cP C st rs with
 | some (ob, r') => ob /\ bL st.H 6 r' = r
 | none => False
def Nw (C : Ctx) (rs : List ResultVar) (r : AV) : Exit -> ASt -> Prop
 | .normal, st => Tw C rs r st
 | .ret, st => Tw C rs r st
 | _, _ => False
@[congr] theorem Pu {rs : List ResultVar} {r : AV} {ex ex' : Exit} {st st' : ASt} (h : dh ex = ex') (h' : st = st') : Nw C rs r ex st = Nw C rs r ex' st' := by rw [aR] at h; rw [h, h']
end
theorem Cy {C : Ctx} {N h0 : Nat} {ρ ρ' : List (Nat × AV)} {H H' : List Blk} (m : Nat) (h : ∀ p ∈ ρ', aZ ρ p.1 = p.2) (hm : h0 <= m) (hρ : ∀ p ∈ ρ', p.2.cleanF m = true) (hH : ∀ b ∈ H.take m, b.deep = true ∨ ∀ r ∈ b.rows, ∀ c ∈ r, c.cleanF m = true) (hE : H.take m = H') : Weak C N h0 ⟨ρ, H⟩ ⟨ρ', H'⟩ := by
 subst hE
 exact (ah h).trans (tm m hm hρ hH)
section
variable {α : Type} (l : List α) (a b c d : α) (r : List α)
end
theorem em2 (p : Prop) : (p = True) ∨ (p = False) := by
 by_cases h : p
 ·exact .inl (eq_true h)
 ·exact .inr (eq_false h)
def G0 : Nat -> AV := λ g => if g = 0 then .iptr [.int .i64 0, .int .i64 1] else .undef
@[simp] theorem ZP : G0 0 = .iptr [.int .i64 0, .int .i64 1] := rfl
noncomputable def CE : Ctx := mkC prog G0 []
@[simp] theorem ZQ : CE.P = prog := rfl
@[simp] theorem ZS : CE.G = G0 := rfl
theorem aK : au CE := ak _ _
def sIn : PSp := aN (λ (_ : Int) => True) (λ n => .bool (decide (InR n)))
theorem inP : PureOK prog G0 95 sIn := by
 refine bj aK ae func95 rfl rfl rfl (by kernel_rfl) (by decide) (λ n _ => ?_)
 by_cases h1 : -1000000000000000 <= n
 ·by_cases h2 : n <= 1000000000000000
  ·simp [h1, h2, InR]
  ·simp [h1, h2, InR]
 ·simp [h1, InR]
def aV (n : Int) : Int := n.natAbs
theorem pJ {n : Int} (h : 0 <= n) : aV n = n := by unfold aV; omega
theorem pP {n : Int} (h : n <= 0) : aV n = -n := by unfold aV; omega
theorem ip (n : Int) : 0 <= aV n := by unfold aV; omega
theorem gV {n : Int} (h : InR n) : 0 <= aV n /\ aV n <= 1000000000000000 := by unfold InR at h; unfold aV; omega
def gO : PSp := aN (λ (n : Int) => InR n) (λ n => .int .i64 (aV n))
theorem Wn : PureOK prog G0 127 gO := by
 refine bj aK ae func127 rfl rfl rfl (by kernel_rfl) (by decide) (λ n h => ?_)
 unfold InR at h
 by_cases h1 : 0 <= n
 ·have e := pJ h1
  have i1 : IntKind.wrap .i64 (-n) = -n := IntWalk.i64_in _ (by omega)
  have n1 : ¬ n < -n := by omega
  simp [e, i1, n1]
 ·have e := pP (n := n) (by omega)
  have i1 : IntKind.wrap .i64 (-n) = -n := IntWalk.i64_in _ (by omega)
  have n1 : n < -n := by omega
  simp [e, i1, n1]
noncomputable def CN : Ctx := mkC prog G0 [(95, .pure sIn), (127, .pure gO)]
@[simp] theorem Z2 : CN.P = prog := rfl
@[simp] theorem ZY : CN.G = G0 := rfl
@[simp] theorem ZL : CN.S 95 = .pure sIn /\ CN.S 127 = .pure gO := ⟨rfl, rfl⟩
theorem JI : au CN := ap (inP) func95 (ap (Wn) func127 (ak _ _))
def Hz (a b : Int) : Int := if InR a /\ InR b then Int.gcd a b else 0
theorem A3 {a b : Int} (hb : 0 < b) (ha : 0 <= a) : Int.gcd b (a.tmod b) = Int.gcd a b := by
 rw [Int.tmod_eq_emod_of_nonneg ha]
 unfold Int.gcd
 rw [Int.natAbs_emod_of_nonneg ha, Nat.gcd_comm a.natAbs, Nat.gcd_rec b.natAbs a.natAbs, Nat.gcd_comm]
def ld : PSp := aC (λ (_ _ : Int) => True) (λ a b => .int .i64 (Hz a b))
theorem SY : PureOK prog G0 96 ld := by
 refine aX JI ae func96 rfl rfl rfl (by kernel_rfl) (by decide) (λ a b _ => ?_)
 by_cases h1 : InR a
 case neg => simp [sIn, h1, Hz]
 by_cases h2 : InR b
 case neg => simp [sIn, h1, h2, Hz]
 have e : Hz a b = Int.gcd (aV a) (aV b) := by
  unfold Hz aV
  rw [if_pos ⟨h1, h2⟩]
  rfl
 rw [e]
 have a1 := gV h1
 have b1 := gV h2
 simp [sIn, gO, h1, h2]
 refine am JI ae (λ q : Int × Int => ⟨[(0, .int .i64 q.1), (1, .int .i64 q.2), (4, .int .i64 0)], []⟩) (λ q => 0 <= q.1 /\ 0 <= q.2 /\ q.2 <= 1000000000000000 /\ Int.gcd q.1 q.2 = Int.gcd (aV a) (aV b)) (λ q => q.2.toNat) (by kernel_rfl) ⟨(aV a, aV b), ⟨a1.1, b1.1, b1.2, rfl⟩, ah (by simp)⟩ (λ ⟨u, v⟩ ⟨p1, p2, p3, p4⟩ => ?_)
 simp only at p1 p2 p3 p4 ⊢
 by_cases hv : v = 0
 ·subst hv
  rw [Int.gcd_zero_right] at p4
  have e2 : u = Int.gcd (aV a) (aV b) := by omega
  simp [e2]
 ·have hv' : 0 < v := by omega
  have m1 := Int.emod_nonneg u hv
  have m2 := Int.emod_lt_of_pos u hv'
  have m3 := A3 hv' p1
  rw [Int.tmod_eq_emod_of_nonneg p1] at m3
  have e3 := Int.tmod_eq_emod_of_nonneg (b := v) p1
  simp [hv, e3]
  exact ⟨v, u % v, ⟨p2, m1, by omega, by omega⟩, by omega, ah (by simp)⟩
def nO (a b : Int) : Int × Bool := if InR a /\ InR b /\ InR (a * b) then (a * b, true) else (0, false)
theorem zY {a b : Int} (h1 : InR a) (h2 : InR b) (h3 : InR (a * b)) : nO a b = (a * b, true) := if_pos ⟨h1, h2, h3⟩
theorem yw {a b : Int} (h : ¬ (InR a /\ InR b /\ InR (a * b))) : nO a b = (0, false) := if_neg h
theorem Rb {a b : Int} (ha : InR a) (hb : InR b) (h0 : a ≠ 0) : (aV b <= (1000000000000000 : Int).tdiv (aV a)) ↔ InR (a * b) := by
 have a1 := gV ha
 have pa : 0 < aV a := by unfold aV; omega
 rw [Int.tdiv_eq_ediv_of_nonneg (by decide), Int.le_ediv_iff_mul_le pa]
 have e : aV b * aV a = aV (a * b) := by
  unfold aV
  rw [natAbs_mul, natCast_mul, Int.mul_comm]
 rw [e]
 unfold aV InR
 omega
theorem LQ {a : Int} (h0 : a ≠ 0) : I64 ((1000000000000000 : Int).tdiv (aV a)) := by
 have pa : 0 < aV a := by unfold aV; omega
 rw [Int.tdiv_eq_ediv_of_nonneg (by decide)]
 have h1 := Int.ediv_nonneg (a := 1000000000000000) (b := aV a) (by decide) (by omega)
 have h2 := Int.ediv_le_self (a := 1000000000000000) (aV a) (by decide)
 unfold I64
 omega
def pO : PSp := aC (λ (_ _ : Int) => True) (λ a b => .tup [.int .i64 (nO a b).1, .bool (nO a b).2])
theorem So : PureOK prog G0 162 pO := by
 refine aX JI ae func162 rfl rfl rfl (by kernel_rfl) (by decide) (λ a b _ => ?_)
 by_cases h1 : InR a
 case neg =>
  have e := yw (a := a) (b := b) (λ h => h1 h.1)
  simp [sIn, h1, e]
 by_cases h2 : InR b
 case neg =>
  have e := yw (a := a) (b := b) (λ h => h2 h.2.1)
  simp [sIn, h1, h2, e]
 by_cases h0 : a = 0
 ·have e := zY h1 h2 (by rw [h0, Int.zero_mul]; decide)
  subst h0
  rw [Int.zero_mul] at e
  have i0 : I64 (0 : Int) := by unfold I64; omega
  simp [sIn, gO, h1, h2, e, i0]
 have i1 := LQ h0
 have q := Rb h1 h2 h0
 have z : aV a ≠ 0 := by unfold aV; omega
 have z' : ¬ aV a = 0 := z
 by_cases h3 : InR (a * b)
 ·have e := zY h1 h2 h3
  have n1 : ¬ (1000000000000000 : Int).tdiv (aV a) < aV b := by have := q.2 h3; omega
  have i2 : I64 (a * b) := by unfold InR at h3; unfold I64; omega
  simp [sIn, gO, h1, h2, h0, i1, n1, i2, e, z']
 ·have e := yw (a := a) (b := b) (λ h => h3 h.2.2)
  have n1 : (1000000000000000 : Int).tdiv (aV a) < aV b := by
   have := mt q.1 h3
   omega
  simp [sIn, gO, h1, h2, h0, i1, n1, e, z']
def xf : PSp := aN (λ (n : Int) => InR n) (λ n => .int .u64 (aV n))
theorem TH : PureOK prog G0 169 xf := by
 refine bj aK ae func169 rfl rfl rfl (by kernel_rfl) (by decide) (λ n h => ?_)
 unfold InR at h
 by_cases h1 : n < 0
 ·have e := pP (n := n) (by omega)
  have i1 : IntKind.wrap .u64 (-(IntKind.wrap .u64 n)) = -n := by rw [IntKind.wrap_u64, IntKind.wrap_u64]; omega
  simp [e, i1, h1]
 ·have e := pJ (n := n) (by omega)
  have i1 : IntKind.wrap .u64 n = n := by rw [IntKind.wrap_u64]; omega
  simp [e, i1, h1]
def W64 (x : Int) : Prop := 0 <= x /\ x < 18446744073709551616
def ti : List AV -> Option (Prop × AV)
 | [.int .u64 x, .int .u64 y, .int .u64 c] => some (W64 x /\ W64 y /\ (c = 0 ∨ c = 1), .tup [.int .u64 ((x + y + c) % 18446744073709551616), .int .u64 ((x + y + c) / 18446744073709551616)])
 | _ => none
def qz : List AV -> Option (Prop × AV)
 | [.int .u64 x, .int .u64 y, .int .u64 c] => some (W64 x /\ W64 y /\ (c = 0 ∨ c = 1), .tup [.int .u64 ((x - y - c) % 18446744073709551616), .int .u64 (if x < y + c then 1 else 0)])
 | _ => none
theorem qR {w : World} {X : Nat -> Prop} {v : Value} {k : IntKind} {n : Int} (h : RepD w X v (.int k n)) : v = .int k n := by cases h; rfl
theorem wC {w : World} {X : Nat -> Prop} (k k' : IntKind) (a b : Int) : RepD w X (.tuple #[.int k a, .int k' b]) (.tup [.int k a, .int k' b]) :=
 .tup #[.int k a, .int k' b] [.int k a, .int k' b] (λ i => if i = 0 then .int k a else .int k' b) rfl (λ j hj => by
  match j, hj with
  | 0, _ => rfl
  | 1, _ => rfl
  | j + 2, hj => simp at hj; omega) (λ j v hj => by
  match j, hj with
  | 0, hj =>
   obtain rfl : AV.int k a = v := by simpa using hj
   exact .int _ _
  | 1, hj =>
   obtain rfl : AV.int k' b = v := by simpa using hj
   exact .int _ _
  | j + 2, hj => simp at hj)
theorem uH {w : World} {X : Nat -> Prop} {args : Array Value} {k : IntKind} {x y c : Int} (hsz : args.size = 3) (harg : ∀ (j : Nat) (u : AV), [AV.int k x, .int k y, .int k c][j]? = some u -> ∃ v, args[j]? = some v /\ RepD w X v u) : args = #[.int k x, .int k y, .int k c] := by
 obtain ⟨v0, a0, b0⟩ := harg 0 _ rfl
 obtain ⟨v1, a1, b1⟩ := harg 1 _ rfl
 obtain ⟨v2, a2, b2⟩ := harg 2 _ rfl
 rw [qR b0] at a0
 rw [qR b1] at a1
 rw [qR b2] at a2
 apply Array.ext'
 match args, hsz with
 | ⟨[p, q, r]⟩, _ => simp at a0 a1 a2; simp [a0, a1, a2]
theorem PZ : zd prog 170 ti := by
 intro w X args avs ob r hsz harg hp hob
 unfold ti at hp
 split at hp
 ·rename_i x y c
  injection hp with hp; injection hp with e1 e2; subst e1 e2
  obtain ⟨⟨x0, x1⟩, ⟨y0, y1⟩, hc⟩ := hob
  rw [uH hsz harg]
  obtain ⟨x, rfl⟩ := eq_ofNat_of_zero_le x0
  obtain ⟨y, rfl⟩ := eq_ofNat_of_zero_le y0
  obtain ⟨c, rfl⟩ := eq_ofNat_of_zero_le (a := c) (by omega)
  refine ⟨_, ?_, wC _ _ _ _⟩
  rw [run_callFunc_extern func170 (by kernel_rfl) (by kernel_rfl) (by kernel_rfl) (e := add64Entry) (by kernel_rfl), run_add64 x y c (by omega) (by omega) (by omega) (by omega)]
  simp only [Result.andThen]
 ·cases hp
def ub : Array Value -> Sem Value := λ args => do
 let (x, y, b) <- Extern.MathBitsCarry.three "Sub64" args
 pure (Extern.MathBitsCarry.pair ((x + Extern.MathBitsCarry.m64 - y - b) % Extern.MathBitsCarry.m64) (if x < y + b then 1 else 0))
theorem GX (x y b : Nat) (hb : b <= 1) (P : Program) (w : World) :
  (ub #[.int .u64 x, .int .u64 y, .int .u64 b]).run P w =
   .ok (.tuple #[.int .u64 (((x + 18446744073709551616 - y - b) % 18446744073709551616 : Nat) : Int), .int .u64 ((if x < y + b then 1 else 0 : Nat) : Int)]) w := by
 have : b = 0 ∨ b = 1 := by omega
 rcases this with rfl | rfl <;> rfl
theorem OK : zd prog 172 qz := by
 intro w X args avs ob r hsz harg hp hob
 unfold qz at hp
 split at hp
 ·rename_i x y c
  injection hp with hp; injection hp with e1 e2; subst e1 e2
  obtain ⟨⟨x0, x1⟩, ⟨y0, y1⟩, hc⟩ := hob
  rw [uH hsz harg]
  obtain ⟨x, rfl⟩ := eq_ofNat_of_zero_le x0
  obtain ⟨y, rfl⟩ := eq_ofNat_of_zero_le y0
  obtain ⟨c, rfl⟩ := eq_ofNat_of_zero_le (a := c) (by omega)
  refine ⟨_, ?_, wC _ _ _ _⟩
  rw [run_callFunc_extern func172 (by kernel_rfl) (by kernel_rfl) (by kernel_rfl) (e := ub) (by kernel_rfl), GX x y c (by omega)]
  simp only [Result.andThen]
  have e1 : (((x + 18446744073709551616 - y - c) % 18446744073709551616 : Nat) : Int) = ((x : Int) - y - c) % 18446744073709551616 := by omega
  have e2 : ((if x < y + c then 1 else 0 : Nat) : Int) = if (x : Int) < y + c then 1 else 0 := by split <;> split <;> omega
  rw [e1, e2]
 ·cases hp
theorem Ue {a : Int} (h : W64 a) : iQ .and .u64 a 4294967295 = a % 4294967296 := by
 obtain ⟨h1, h2⟩ := h
 obtain ⟨a, rfl⟩ := eq_ofNat_of_zero_le h1
 show IntKind.wrap .u64 ((BitVec.ofInt 64 (a : Int) &&& BitVec.ofInt 64 ((4294967295 : Nat) : Int)).toNat : Int) = _
 rw [BitVec.ofInt_natCast, BitVec.ofInt_natCast, BitVec.toNat_and, BitVec.toNat_ofNat, BitVec.toNat_ofNat, Nat.mod_eq_of_lt (by omega), show 4294967295 % 2 ^ 64 = 2 ^ 32 - 1 by decide, Nat.and_two_pow_sub_one_eq_mod, IntKind.wrap_u64]
 omega
theorem zL {a b : Int} (ha : W64 a) (hb : W64 b) : iQ .or .u64 a b = 0 ↔ a = 0 /\ b = 0 := by
 obtain ⟨h1, h2⟩ := ha
 obtain ⟨h3, h4⟩ := hb
 obtain ⟨a, rfl⟩ := eq_ofNat_of_zero_le h1
 obtain ⟨b, rfl⟩ := eq_ofNat_of_zero_le h3
 show IntKind.wrap .u64 ((BitVec.ofInt 64 (a : Int) ||| BitVec.ofInt 64 (b : Int)).toNat : Int) = _ ↔ _
 rw [BitVec.ofInt_natCast, BitVec.ofInt_natCast]
 have hlt := (BitVec.ofNat 64 a ||| BitVec.ofNat 64 b).isLt
 have e : IntKind.wrap .u64 ((BitVec.ofNat 64 a ||| BitVec.ofNat 64 b).toNat : Int) = 0 ↔ (BitVec.ofNat 64 a ||| BitVec.ofNat 64 b) = 0#64 := by
  rw [IntKind.wrap_u64, <- BitVec.toNat_inj]
  simp only [BitVec.toNat_ofNat]
  omega
 rw [e, BitVec.or_eq_zero_iff, <- BitVec.toNat_inj, <- BitVec.toNat_inj]
 simp only [BitVec.toNat_ofNat]
 omega
theorem PX {a b : Int} (ha : W64 a) (hb : W64 b) (k : Nat) (hk : k <= 64) (h1 : a % 2 ^ k = 0) (h2 : b < 2 ^ k) : iQ .or .u64 a b = a + b := by
 obtain ⟨h3, h4⟩ := ha
 obtain ⟨h5, h6⟩ := hb
 obtain ⟨a, rfl⟩ := eq_ofNat_of_zero_le h3
 obtain ⟨b, rfl⟩ := eq_ofNat_of_zero_le h5
 have h2' : b < 2 ^ k := by
  have : ((2 ^ k : Nat) : Int) = 2 ^ k := by simp
  omega
 have h1' : a % 2 ^ k = 0 := by
  have : ((a % 2 ^ k : Nat) : Int) = (a : Int) % 2 ^ k := by simp
  omega
 obtain ⟨c, hc⟩ := Nat.dvd_of_mod_eq_zero h1'
 show IntKind.wrap .u64 ((BitVec.ofInt 64 (a : Int) ||| BitVec.ofInt 64 (b : Int)).toNat : Int) = _
 rw [BitVec.ofInt_natCast, BitVec.ofInt_natCast, BitVec.toNat_or, BitVec.toNat_ofNat, BitVec.toNat_ofNat, Nat.mod_eq_of_lt (by omega), Nat.mod_eq_of_lt (by omega), hc, <- Nat.two_pow_add_eq_or_of_lt h2' c, <- hc, IntKind.wrap_u64]
 have hab : a + b < 18446744073709551616 := by
  have e64 : (18446744073709551616 : Nat) = 2 ^ k * 2 ^ (64 - k) := by rw [<- pow_add, Nat.add_sub_cancel' hk]
  have hcl : c < 2 ^ (64 - k) := by
   have : 2 ^ k * c < 2 ^ k * 2 ^ (64 - k) := by rw [<- hc, <- e64]; omega
   exact Nat.lt_of_mul_lt_mul_left this
  have : 2 ^ k * (c + 1) <= 2 ^ k * 2 ^ (64 - k) := Nat.mul_le_mul_left _ hcl
  rw [<- e64, Nat.mul_succ, <- hc] at this
  omega
 omega
theorem gX (a : Int) : IntKind.wrap .u64 a = a % 18446744073709551616 := IntKind.wrap_u64 a
theorem QL (a : Nat) : (a : Int).fdiv (2 ^ min 32 (IntKind.bits .u64)) = ((a / 4294967296 : Nat) : Int) := by
 show (a : Int).fdiv 4294967296 = _
 rw [fdiv_eq_ediv_of_nonneg _ (by decide)]
 omega
theorem Sd (a : Nat) : (a : Int) % 4294967296 = ((a % 4294967296 : Nat) : Int) := by omega
theorem V5 (a b : Nat) : (a : Int) * (b : Int) = ((a * b : Nat) : Int) := (natCast_mul a b).symm
theorem Vk (a b : Nat) : (a : Int) + (b : Int) = ((a + b : Nat) : Int) := (Int.natCast_add a b).symm
theorem gM (a : Nat) (ha : a < 18446744073709551616) : IntKind.wrap .u64 (a : Int) = (a : Int) := by rw [IntKind.wrap_u64]; omega
theorem uk (a : Nat) (ha : a < 18446744073709551616) : iQ .and .u64 (a : Int) 4294967295 = ((a % 4294967296 : Nat) : Int) := by
 rw [Ue ⟨by omega, by omega⟩, Sd]
def lQ : List AV -> Option (Prop × AV)
 | [.int .u64 x, .int .u64 y] => some (W64 x /\ W64 y, .tup [.int .u64 (x * y / 18446744073709551616), .int .u64 (x * y % 18446744073709551616)])
 | _ => none
theorem Iy : PureOK prog G0 129 lQ := by
 refine eK aK ae func129 rfl rfl rfl (by kernel_rfl) (λ avs ob r hp hob => ?_)
 unfold lQ at hp
 split at hp
 case h_2 => cases hp
 rename_i x y
 injection hp with hp; injection hp with e1 e2; subst e1 e2
 obtain ⟨hx, hy⟩ := hob
 refine ⟨(by show 2 <= _; decide), ?_⟩
 obtain ⟨bd, bt, bw, hhi⟩ := Lib.mul64_hi x.toNat y.toNat (by have := hx.2; omega) (by have := hy.2; omega)
 have x0 := hx.1
 have y0 := hy.1
 obtain ⟨x, rfl⟩ := eq_ofNat_of_zero_le x0
 obtain ⟨y, rfl⟩ := eq_ofNat_of_zero_le y0
 have hx' : x < 18446744073709551616 := by have := hx.2; omega
 have hy' : y < 18446744073709551616 := by have := hy.2; omega
 simp only [Int.toNat_natCast] at bd bt bw hhi
 have ba := Lib.half_mul_le (a := x / 4294967296) (b := y / 4294967296) (by omega) (by omega)
 have bb := Lib.half_mul_le (a := x / 4294967296) (b := y % 4294967296) (by omega) (by omega)
 have bc := Lib.half_mul_le (a := x % 4294967296) (b := y / 4294967296) (by omega) (by omega)
 have ba' : x / 4294967296 * (y / 4294967296) < 18446744073709551616 := by omega
 have bb' : x / 4294967296 * (y % 4294967296) < 18446744073709551616 := by omega
 have bc' : x % 4294967296 * (y / 4294967296) < 18446744073709551616 := by omega
 have bh1 : x / 4294967296 * (y / 4294967296) + (x / 4294967296 * (y % 4294967296) + x % 4294967296 * (y % 4294967296) / 4294967296) / 4294967296 < 18446744073709551616 := by omega
 have bh : x / 4294967296 * (y / 4294967296) + (x / 4294967296 * (y % 4294967296) + x % 4294967296 * (y % 4294967296) / 4294967296) / 4294967296 + ((x / 4294967296 * (y % 4294967296) + x % 4294967296 * (y % 4294967296) / 4294967296) % 4294967296 + x % 4294967296 * (y / 4294967296)) / 4294967296 < 18446744073709551616 := by omega
 simp [argsρ]
 simp only [uk x hx', uk y hy', QL, V5, Vk, gM _ bd, gM _ bb', gM _ bt, uk _ bt, gM _ bc', gM _ bw, gM _ ba', gM _ bh1, gM _ bh]
 rw [hhi]
 refine ⟨by omega, by rw [IntKind.wrap_u64]⟩
def dF (neg : Bool) (m : Nat) : Wide := ⟨neg, ((m / 18446744073709551616 : Nat) : Int), ((m % 18446744073709551616 : Nat) : Int)⟩
def bU (x : Wide) : Nat := x.hi.toNat * 18446744073709551616 + x.lo.toNat
structure GoodW (x : Wide) : Prop where
 hi : 0 <= x.hi /\ x.hi < 9223372036854775808
 lo : 0 <= x.lo /\ x.lo < 18446744073709551616
@[simp] theorem DE (n : Bool) (m : Nat) : bU (dF n m) = m := by unfold bU dF; simp only [Int.toNat_natCast]; omega
@[simp] theorem Qk (n : Bool) (m : Nat) : (dF n m).neg = n := rfl
theorem sD {n : Bool} {m : Nat} (h : m < 170141183460469231731687303715884105728) : GoodW (dF n m) := ⟨by unfold dF; simp only; omega, by unfold dF; simp only; omega⟩
def dB (a b : Int) : Wide := dF (decide (a < 0) != decide (b < 0)) (a.natAbs * b.natAbs)
theorem oi {a b : Int} (ha : InR a) (hb : InR b) : a.natAbs * b.natAbs <= 1000000000000000000000000000000 := by
 unfold InR at ha hb
 exact Nat.mul_le_mul (n₂ := 1000000000000000) (m₂ := 1000000000000000) (by omega) (by omega)
theorem iH {a b : Int} (ha : InR a) (hb : InR b) : GoodW (dB a b) := sD (by have := oi ha hb; omega)
noncomputable def CP : Ctx := mkC prog G0 [(169, .pure xf), (129, .pure lQ)]
@[simp] theorem ZV : CP.P = prog := rfl
@[simp] theorem ZB : CP.G = G0 := rfl
@[simp] theorem ZW : CP.S 169 = .pure xf /\ CP.S 129 = .pure lQ := ⟨rfl, rfl⟩
theorem Tx : au CP := ap (TH) func169 (ap (Iy) func129 (ak _ _))
def kj : PSp := aC (λ (a b : Int) => InR a /\ InR b) (λ a b => Enc.enc (dB a b))
theorem FC {a : Int} (h : InR a) : W64 (aV a) := by have := gV h; unfold W64; omega
theorem My (a b : Int) : aV a * aV b = ((a.natAbs * b.natAbs : Nat) : Int) := by unfold aV; rw [natCast_mul]
theorem NX : PureOK prog G0 164 kj := by
 refine aX Tx ae func164 rfl rfl rfl (by kernel_rfl) (by decide) (λ a b ⟨h1, h2⟩ => ?_)
 have w1 := FC h1
 have w2 := FC h2
 simp [xf, lQ, h1, h2, w1, w2, My, dB, dF]
 cases decide (a < 0) <;> cases decide (b < 0) <;> rfl
def uw : PSp := aC (λ (x y : Wide) => GoodW x /\ GoodW y) (λ x y => .bool (decide (bU x < bU y)))
theorem OM : PureOK prog G0 171 uw := by
 refine aX aK ae func171 rfl rfl rfl (by kernel_rfl) (by decide) (λ x y ⟨⟨h1, h2⟩, ⟨h3, h4⟩⟩ => ?_)
 obtain ⟨xn, xh, xl⟩ := x
 obtain ⟨yn, yh, yl⟩ := y
 simp only at h1 h2 h3 h4
 unfold bU
 rcases em2 (xh < yh) with q1 | q1
 ·have e : (xh.toNat * 18446744073709551616 + xl.toNat < yh.toNat * 18446744073709551616 + yl.toNat) = True := eq_true (by have := of_eq_true q1; omega)
  simp [q1, e]
 ·rcases em2 (xh = yh) with q2 | q2
  ·have e : (xh.toNat * 18446744073709551616 + xl.toNat < yh.toNat * 18446744073709551616 + yl.toNat) = (xl < yl) := propext (by have := of_eq_true q2; omega)
   simp [q1, q2, e]
  ·have e : (xh.toNat * 18446744073709551616 + xl.toNat < yh.toNat * 18446744073709551616 + yl.toNat) = False := eq_false (by have := of_eq_false q2; have := of_eq_false q1; omega)
   simp [q1, q2, e]
def rS (x : Wide) : Int := if bU x = 0 then 0 else if x.neg then -1 else 1
def gf : PSp := aN (λ (x : Wide) => GoodW x) (λ x => .int .i64 (rS x))
theorem IV : PureOK prog G0 166 gf := by
 refine bj aK ae func166 rfl rfl rfl (by kernel_rfl) (by decide) (λ x ⟨h1, h2⟩ => ?_)
 obtain ⟨xn, xh, xl⟩ := x
 simp only at h1 h2
 have e0 := zL (a := xh) (b := xl) ⟨h1.1, by omega⟩ h2
 unfold rS bU
 by_cases h : xh = 0 /\ xl = 0
 ·obtain ⟨rfl, rfl⟩ := h
  have e := e0.2 ⟨rfl, rfl⟩
  simp [e]
 ·have e : (iQ .or .u64 xh xl = 0) = False := eq_false (mt e0.1 h)
  have n0 : ¬ (xh.toNat * 18446744073709551616 + xl.toNat = 0) := by omega
  cases xn
  ·simp only [n0, if_false]
   simp [e]
  ·simp only [n0, if_false]
   simp [e]
noncomputable def CW : Ctx := mkC prog G0 [(170, .pure ti), (172, .pure qz), (171, .pure uw)]
@[simp] theorem ZO : CW.P = prog := rfl
@[simp] theorem ZT : CW.G = G0 := rfl
@[simp] theorem ZA : CW.S 170 = .pure ti /\ CW.S 172 = .pure qz /\ CW.S 171 = .pure uw := ⟨rfl, rfl, rfl⟩
theorem T1 : au CW := aL (AK PZ) (aL (AK OK) (ap (OM) func171 (ak _ _)))
def gN (x y : Wide) : Wide := if x.neg = y.neg then dF x.neg (bU x + bU y) else if bU x < bU y then dF y.neg (bU y - bU x) else dF x.neg (bU x - bU y)
def kF : PSp := aC (λ (x y : Wide) => GoodW x /\ GoodW y) (λ x y => Enc.enc (gN x y))
theorem N4 : PureOK prog G0 165 kF := by
 refine aX T1 ae func165 rfl rfl rfl (by kernel_rfl) (by decide) (λ x y ⟨g1, g2⟩ => ?_)
 obtain ⟨h1, h2⟩ := g1
 obtain ⟨h3, h4⟩ := g2
 have w1 : W64 x.hi := ⟨h1.1, by omega⟩
 have w2 : W64 y.hi := ⟨h3.1, by omega⟩
 have w3 : W64 x.lo := h2
 have w4 : W64 y.lo := h4
 by_cases hn : x.neg = y.neg
 ·have e : gN x y = dF y.neg (bU x + bU y) := by unfold gN; rw [if_pos hn, hn]
  have c1 : (x.lo + y.lo) / 18446744073709551616 = 0 ∨ (x.lo + y.lo) / 18446744073709551616 = 1 := by omega
  simp [hn, e, ti, w1, w2, w3, w4, c1]
  unfold dF bU
  simp only
  omega
 ·have hn' : (x.neg == y.neg) = false := by simpa using hn
  by_cases hl : bU x < bU y
  ·have e : gN x y = dF y.neg (bU y - bU x) := by unfold gN; rw [if_neg hn, if_pos hl]
   have c1 : (if y.lo < x.lo then (1 : Int) else 0) = 0 ∨ (if y.lo < x.lo then (1 : Int) else 0) = 1 := by split <;> simp
   simp [hn', uw, e, qz, w1, w2, w3, w4, hl, (⟨h1, h2⟩ : GoodW x), (⟨h3, h4⟩ : GoodW y), -ite_eq_left_iff, -ite_eq_right_iff, c1]
   unfold bU at hl
   unfold dF bU
   simp only
   split <;> omega
  ·have e : gN x y = dF x.neg (bU x - bU y) := by unfold gN; rw [if_neg hn, if_neg hl]
   have c1 : (if x.lo < y.lo then (1 : Int) else 0) = 0 ∨ (if x.lo < y.lo then (1 : Int) else 0) = 1 := by split <;> simp
   simp [hn', uw, e, qz, w1, w2, w3, w4, hl, (⟨h1, h2⟩ : GoodW x), (⟨h3, h4⟩ : GoodW y), -ite_eq_left_iff, -ite_eq_right_iff, c1]
   unfold bU at hl
   unfold dF bU
   simp only
   split <;> omega
def bl (x : Nat) : Nat := if x = 0 then 0 else x.log2 + 1
theorem NC (x : Nat) : x < 2 ^ bl x := by
 unfold bl
 split
 ·rename_i h; simp [h]
 ·exact Nat.lt_log2_self
theorem FE {x : Nat} (h : x ≠ 0) : 2 ^ (bl x - 1) <= x := by
 unfold bl
 rw [if_neg h, Nat.add_sub_cancel]
 exact Nat.log2_self_le h
theorem SF {x n : Nat} (h : 2 ^ n <= x) (h' : x < 2 ^ (n + 1)) : bl x = n + 1 := by
 have h0 : x ≠ 0 := by have := Nat.two_pow_pos n; omega
 unfold bl
 rw [if_neg h0]
 have h1 := (Nat.le_log2 h0).2 h
 have h2 := (Nat.log2_lt h0).2 h'
 omega
theorem jh {x s : Nat} (h : x / 2 ^ s ≠ 0) : bl x = bl (x / 2 ^ s) + s := by
 have h1 := FE h
 have h2 := NC (x / 2 ^ s)
 have h3 : bl (x / 2 ^ s) ≠ 0 := by unfold bl; rw [if_neg h]; omega
 obtain ⟨n, hn⟩ : ∃ n, bl (x / 2 ^ s) = n + 1 := ⟨bl (x / 2 ^ s) - 1, by omega⟩
 rw [hn] at h1 h2 ⊢
 rw [Nat.add_sub_cancel] at h1
 have p := Nat.two_pow_pos s
 rw [show n + 1 + s = (n + s) + 1 by omega]
 refine SF ?_ ?_
 ·rw [pow_add]
  exact (Nat.le_div_iff_mul_le p).1 h1
 ·rw [show n + s + 1 = (n + 1) + s by omega, pow_add]
  exact (Nat.div_lt_iff_lt_mul p).1 h2
theorem jC (s : ByteArray) (h : (List.range 256).all (λ j => btA s j == bl j) = true) {j : Nat} (hj : j < 256) : btA s j = bl j := by
 have := all_eq_true.1 h j (mem_range.2 hj)
 simpa using this
def tp : List AV -> Option (Prop × AV)
 | [.int .u64 x] => some (W64 x, .int .i64 (bl x.toNat : Int))
 | _ => none
theorem P9 : PureOK prog G0 175 tp := by
 refine eK aK ae func175 rfl rfl rfl (by kernel_rfl) (λ avs ob r hp hob => ?_)
 unfold tp at hp
 split at hp
 case h_2 => cases hp
 rename_i x
 injection hp with hp; injection hp with e1 e2; subst e1 e2
 obtain ⟨x0, x1⟩ := hob
 obtain ⟨x, rfl⟩ := eq_ofNat_of_zero_le x0
 refine ⟨(by show 1 <= _; decide), ?_⟩
 have v0 : w64 0 = 0 := rfl
 have v8 : w64 8 = 8 := rfl
 have v16 : w64 16 = 16 := rfl
 have v32 : w64 32 = 32 := rfl
 have v48 : w64 48 = 48 := rfl
 have v24 : w64 24 = 24 := rfl
 have v40 : w64 40 = 40 := rfl
 have v56 : w64 56 = 56 := rfl
 have wi : ∀ x : Nat, x < 1000 -> IntKind.wrap .i64 (x : Int) = x := λ x h => IntWalk.i64_in _ (by omega)
 have hb : ∀ j, j < 256 -> bl j <= 8 := λ j hj => by
  by_cases h : j = 0
  ·subst h; decide
  ·have := FE h
   by_cases h8 : bl j <= 8
   ·exact h8
   ·have : 2 ^ 8 <= 2 ^ (bl j - 1) := Nat.pow_le_pow_right (by decide) (by omega)
    omega
 by_cases c0 : 4294967296 <= x
 ·have d0 : (4294967296 : Int) <= x := by omega
  obtain ⟨y, e0⟩ : ∃ yy, yy = x / 4294967296 := ⟨_, rfl⟩
  have s0 : (x : Int).fdiv (2 ^ (min 32 (IntKind.bits .u64))) = (y : Int) := by show (x : Int).fdiv 4294967296 = _; rw [fdiv_eq_ediv_of_nonneg _ (by decide)]; omega
  by_cases c1 : 65536 <= y
  ·have d1 : (65536 : Int) <= y := by omega
   obtain ⟨z, e1⟩ : ∃ yy, yy = y / 65536 := ⟨_, rfl⟩
   have s1 : (y : Int).fdiv (2 ^ (min 16 (IntKind.bits .u64))) = (z : Int) := by show (y : Int).fdiv 65536 = _; rw [fdiv_eq_ediv_of_nonneg _ (by decide)]; omega
   by_cases c2 : 256 <= z
   ·have d2 : (256 : Int) <= z := by omega
    obtain ⟨u, e2⟩ : ∃ yy, yy = z / 256 := ⟨_, rfl⟩
    have s2 : (z : Int).fdiv (2 ^ (min 8 (IntKind.bits .u64))) = (u : Int) := by show (z : Int).fdiv 256 = _; rw [fdiv_eq_ediv_of_nonneg _ (by decide)]; omega
    have q : u < 256 := by omega
    have q1 : IntKind.wrap .u8 (u : Int) = u := by rw [IntKind.wrap_u8]; omega
    have q2 := hb u q
    have q5 : (u : Int) < 256 := by omega
    have q6 : ∀ n : Nat, n <= 8 -> IntKind.wrap .i64 (n : Int) = n := λ n h => IntWalk.i64_in _ (by omega)
    simp [argsρ, d0, s0, d1, s1, d2, s2, q1, q5, v0, v8, v16, v24, v32, v40, v48, v56]
    rw [jC _ (by kernel_rfl) q, q6 _ q2]
    have q3 := jh (x := x) (s := 56) (by omega)
    have q4 : x / 2 ^ 56 = u := by omega
    rw [q4] at q3
    refine ⟨Nat.lt_of_lt_of_eq q (by kernel_rfl), ?_⟩
    rw [aT (by unfold I64; omega)]
    all_goals omega
   ·have d2 : ¬ (256 : Int) <= z := by omega
    have q : z < 256 := by omega
    have q1 : IntKind.wrap .u8 (z : Int) = z := by rw [IntKind.wrap_u8]; omega
    have q2 := hb z q
    have q5 : (z : Int) < 256 := by omega
    have q6 : ∀ n : Nat, n <= 8 -> IntKind.wrap .i64 (n : Int) = n := λ n h => IntWalk.i64_in _ (by omega)
    simp [argsρ, d0, s0, d1, s1, d2, q1, q5, v0, v8, v16, v24, v32, v40, v48, v56]
    rw [jC _ (by kernel_rfl) q, q6 _ q2]
    have q3 := jh (x := x) (s := 48) (by omega)
    have q4 : x / 2 ^ 48 = z := by omega
    rw [q4] at q3
    refine ⟨Nat.lt_of_lt_of_eq q (by kernel_rfl), ?_⟩
    rw [aT (by unfold I64; omega)]
    all_goals omega
  ·have d1 : ¬ (65536 : Int) <= y := by omega
   by_cases c2 : 256 <= y
   ·have d2 : (256 : Int) <= y := by omega
    obtain ⟨u, e2⟩ : ∃ yy, yy = y / 256 := ⟨_, rfl⟩
    have s2 : (y : Int).fdiv (2 ^ (min 8 (IntKind.bits .u64))) = (u : Int) := by show (y : Int).fdiv 256 = _; rw [fdiv_eq_ediv_of_nonneg _ (by decide)]; omega
    have q : u < 256 := by omega
    have q1 : IntKind.wrap .u8 (u : Int) = u := by rw [IntKind.wrap_u8]; omega
    have q2 := hb u q
    have q5 : (u : Int) < 256 := by omega
    have q6 : ∀ n : Nat, n <= 8 -> IntKind.wrap .i64 (n : Int) = n := λ n h => IntWalk.i64_in _ (by omega)
    simp [argsρ, d0, s0, d1, d2, s2, q1, q5, v0, v8, v16, v24, v32, v40, v48, v56]
    rw [jC _ (by kernel_rfl) q, q6 _ q2]
    have q3 := jh (x := x) (s := 40) (by omega)
    have q4 : x / 2 ^ 40 = u := by omega
    rw [q4] at q3
    refine ⟨Nat.lt_of_lt_of_eq q (by kernel_rfl), ?_⟩
    rw [aT (by unfold I64; omega)]
    all_goals omega
   ·have d2 : ¬ (256 : Int) <= y := by omega
    have q : y < 256 := by omega
    have q1 : IntKind.wrap .u8 (y : Int) = y := by rw [IntKind.wrap_u8]; omega
    have q2 := hb y q
    have q5 : (y : Int) < 256 := by omega
    have q6 : ∀ n : Nat, n <= 8 -> IntKind.wrap .i64 (n : Int) = n := λ n h => IntWalk.i64_in _ (by omega)
    simp [argsρ, d0, s0, d1, d2, q1, q5, v0, v8, v16, v24, v32, v40, v48, v56]
    rw [jC _ (by kernel_rfl) q, q6 _ q2]
    have q3 := jh (x := x) (s := 32) (by omega)
    have q4 : x / 2 ^ 32 = y := by omega
    rw [q4] at q3
    refine ⟨Nat.lt_of_lt_of_eq q (by kernel_rfl), ?_⟩
    rw [aT (by unfold I64; omega)]
    all_goals omega
 ·have d0 : ¬ (4294967296 : Int) <= x := by omega
  by_cases c1 : 65536 <= x
  ·have d1 : (65536 : Int) <= x := by omega
   obtain ⟨z, e1⟩ : ∃ yy, yy = x / 65536 := ⟨_, rfl⟩
   have s1 : (x : Int).fdiv (2 ^ (min 16 (IntKind.bits .u64))) = (z : Int) := by show (x : Int).fdiv 65536 = _; rw [fdiv_eq_ediv_of_nonneg _ (by decide)]; omega
   by_cases c2 : 256 <= z
   ·have d2 : (256 : Int) <= z := by omega
    obtain ⟨u, e2⟩ : ∃ yy, yy = z / 256 := ⟨_, rfl⟩
    have s2 : (z : Int).fdiv (2 ^ (min 8 (IntKind.bits .u64))) = (u : Int) := by show (z : Int).fdiv 256 = _; rw [fdiv_eq_ediv_of_nonneg _ (by decide)]; omega
    have q : u < 256 := by omega
    have q1 : IntKind.wrap .u8 (u : Int) = u := by rw [IntKind.wrap_u8]; omega
    have q2 := hb u q
    have q5 : (u : Int) < 256 := by omega
    have q6 : ∀ n : Nat, n <= 8 -> IntKind.wrap .i64 (n : Int) = n := λ n h => IntWalk.i64_in _ (by omega)
    simp [argsρ, d0, d1, s1, d2, s2, q1, q5, v0, v8, v16, v24, v32, v40, v48, v56]
    rw [jC _ (by kernel_rfl) q, q6 _ q2]
    have q3 := jh (x := x) (s := 24) (by omega)
    have q4 : x / 2 ^ 24 = u := by omega
    rw [q4] at q3
    refine ⟨Nat.lt_of_lt_of_eq q (by kernel_rfl), ?_⟩
    rw [aT (by unfold I64; omega)]
    all_goals omega
   ·have d2 : ¬ (256 : Int) <= z := by omega
    have q : z < 256 := by omega
    have q1 : IntKind.wrap .u8 (z : Int) = z := by rw [IntKind.wrap_u8]; omega
    have q2 := hb z q
    have q5 : (z : Int) < 256 := by omega
    have q6 : ∀ n : Nat, n <= 8 -> IntKind.wrap .i64 (n : Int) = n := λ n h => IntWalk.i64_in _ (by omega)
    simp [argsρ, d0, d1, s1, d2, q1, q5, v0, v8, v16, v24, v32, v40, v48, v56]
    rw [jC _ (by kernel_rfl) q, q6 _ q2]
    have q3 := jh (x := x) (s := 16) (by omega)
    have q4 : x / 2 ^ 16 = z := by omega
    rw [q4] at q3
    refine ⟨Nat.lt_of_lt_of_eq q (by kernel_rfl), ?_⟩
    rw [aT (by unfold I64; omega)]
    all_goals omega
  ·have d1 : ¬ (65536 : Int) <= x := by omega
   by_cases c2 : 256 <= x
   ·have d2 : (256 : Int) <= x := by omega
    obtain ⟨u, e2⟩ : ∃ yy, yy = x / 256 := ⟨_, rfl⟩
    have s2 : (x : Int).fdiv (2 ^ (min 8 (IntKind.bits .u64))) = (u : Int) := by show (x : Int).fdiv 256 = _; rw [fdiv_eq_ediv_of_nonneg _ (by decide)]; omega
    have q : u < 256 := by omega
    have q1 : IntKind.wrap .u8 (u : Int) = u := by rw [IntKind.wrap_u8]; omega
    have q2 := hb u q
    have q5 : (u : Int) < 256 := by omega
    have q6 : ∀ n : Nat, n <= 8 -> IntKind.wrap .i64 (n : Int) = n := λ n h => IntWalk.i64_in _ (by omega)
    simp [argsρ, d0, d1, d2, s2, q1, q5, v0, v8, v16, v24, v32, v40, v48, v56]
    rw [jC _ (by kernel_rfl) q, q6 _ q2]
    have q3 := jh (x := x) (s := 8) (by omega)
    have q4 : x / 2 ^ 8 = u := by omega
    rw [q4] at q3
    refine ⟨Nat.lt_of_lt_of_eq q (by kernel_rfl), ?_⟩
    rw [aT (by unfold I64; omega)]
    all_goals omega
   ·have d2 : ¬ (256 : Int) <= x := by omega
    have q : x < 256 := by omega
    have q1 : IntKind.wrap .u8 (x : Int) = x := by rw [IntKind.wrap_u8]; omega
    have q2 := hb x q
    have q5 : (x : Int) < 256 := by omega
    have q6 : ∀ n : Nat, n <= 8 -> IntKind.wrap .i64 (n : Int) = n := λ n h => IntWalk.i64_in _ (by omega)
    simp [argsρ, d0, d1, d2, q1, q5, v0, v8, v16, v24, v32, v40, v48, v56]
    rw [jC _ (by kernel_rfl) q, q6 _ q2]
    refine ⟨Nat.lt_of_lt_of_eq q (by kernel_rfl), ?_⟩
    rw [aT (by unfold I64; omega)]
    all_goals omega
noncomputable def CLz : Ctx := mkC prog G0 [(175, .pure tp)]
@[simp] theorem YA : CLz.P = prog := rfl
@[simp] theorem Xq : CLz.G = G0 := rfl
@[simp] theorem Xd : CLz.S 175 = .pure tp := rfl
theorem OI : au CLz := ap (P9) func175 (ak _ _)
theorem EO {x : Nat} (h : x < 18446744073709551616) : bl x <= 64 := by
 by_cases h0 : x = 0
 ·subst h0; decide
 ·have := FE h0
  by_cases h8 : bl x <= 64
  ·exact h8
  ·have : 2 ^ 64 <= 2 ^ (bl x - 1) := Nat.pow_le_pow_right (by decide) (by omega)
   omega
def y7 : List AV -> Option (Prop × AV)
 | [.int .u64 x] => some (W64 x, .int .i64 ((64 - bl x.toNat : Nat) : Int))
 | _ => none
theorem TN : PureOK prog G0 174 y7 := by
 refine eK OI ae func174 rfl rfl rfl (by kernel_rfl) (λ avs ob r hp hob => ?_)
 unfold y7 at hp
 split at hp
 case h_2 => cases hp
 rename_i x
 injection hp with hp; injection hp with e1 e2; subst e1 e2
 have h := EO (x := x.toNat) (by have := hob.2; have := hob.1; omega)
 have e : w64 (64 - (bl x.toNat : Int)) = ((64 - bl x.toNat : Nat) : Int) := by rw [aT (by unfold I64; omega)]; omega
 refine ⟨(by show 1 <= _; decide), ?_⟩
 simp [argsρ, tp, hob, e]
theorem ag {C : Ctx} {N h0 : Nat} {ρ ρ' : List (Nat × AV)} {H H' : List Blk} (h : ∀ p ∈ ρ', aZ ρ p.1 = p.2) (hH : H = H') : Weak C N h0 ⟨ρ, H⟩ ⟨ρ', H'⟩ := by
 subst hH
 exact ah h
section
variable {C : Ctx} {N h0 : Nat}
theorem Ae {α β : Type} (hS : au C) (hM : C.P.follows .mixedOrders = true) {body : Code} {st : ASt} {Q : Exit -> ASt -> Prop} (id : Nat) (E : β -> ASt) (post : β -> Prop) (Sf : α -> ASt) (pre : α -> Prop) (m : α -> Nat) (hok : ci C N body = true)
  (start : ∃ x, pre x /\ Weak C N h0 st (Sf x)) (step : ∀ x, pre x -> avc C N h0 body (Sf x) (round Sf pre (λ x' => m x' < m x) N h0 C (λ ex s => ex = .exit id /\ ∃ y, post y /\ Weak C N h0 s (E y))))
  (rest : ∀ y, post y -> Q (.exit id) (E y)) : AW C N h0 (.loop body) st Q :=
 P6 (AW.mono (am hS hM Sf pre m hok start step) (λ ex s h => by
  obtain ⟨he, y, hy, hw⟩ := h
  subst he
  exact ⟨E y, hw, rest y hy⟩))
end
section
variable {C : Ctx} (hS : au C) (hM : C.P.follows .mixedOrders = true) {f : FuncId} {fn : Func} {body : Code} {rs : List ResultVar} {n : Nat} (hf : C.P.funcs[f]? = some fn) (hb : fn.body = some body) (hrs : fn.results.toList = rs) (hn : fn.ntmps = n) (hd : List Nat)
include hS hM hf hb hrs hn
theorem QJ {α β γ δ : Type} [Enc α] [Enc β] [Enc γ] [Enc δ] (hok : bN C hd n body = true) (hnn : 4 <= n) {pre : α -> β -> γ -> δ -> Prop} {res : α -> β -> γ -> δ -> AV} (h : ∀ a b c d, pre a b c d -> cz C hd n 0 body ⟨[(0, Enc.enc a), (1, Enc.enc b), (2, Enc.enc c), (3, Enc.enc d)], []⟩ (dV C rs (res a b c d))) : PureOK C.P C.G f (Ez pre res) :=
 jc hf hb hrs hn λ avs ob r' hp hob => by
  unfold Ez at hp
  split at hp
  ·injection hp with hp; injection hp with e1 e2; subst e1 e2
   have := h _ _ _ _ hob.2.2.2.2
   rw [<- hob.1, <- hob.2.1, <- hob.2.2.1, <- hob.2.2.2.1] at this
   exact ⟨hnn, bf hS hM body hok this⟩
  ·cases hp
end
def iy (C : Ctx) (ρ : List (Nat × AV)) (H : List Blk) (t : TypeId) (parts : List (Nat × Operand)) : Option (Prop × AV × List Blk) :=
 match elT C.P t, parts with
 | some e, [(0, x)] =>
  match df C.P e, zT C.P e with
  | some false, some _ => if (aev C ρ e x).isCell = true /\ szT C.P e = 1 then some (True, .own H.length 1, H ++ [⟨e, 1, [[aev C ρ e x]], true, (aev C ρ e x).isDeep⟩]) else none
  | _, _ => none
 | _, _ => none
def tN (C : Ctx) (H : List Blk) (t : TypeId) (d s : AV) : Option (Prop × AV × List Blk) :=
 match elT C.P t, d, s with
 | some e, .own l n, .slice sz _ ys =>
  match H[l]? with
  | some b => if b.mu = true /\ b.sz = szT C.P e /\ sz = szT C.P e then some (b.rows.length = n /\ 0 < ys.length /\ ys.length <= n, .int .i64 ys.length, H.set l { b with rows := ys ++ b.rows.drop ys.length, deep := b.deep && true }) else none
  | none => none
 | _, _, _ => none
def eT (C : Ctx) (st : ASt) (o : Oper) : Option (Prop × AV × List Blk) :=
 match o.op with
 | .buildSlice t 1 parts => iy C st.ρ st.H t parts.toList
 | .call c => match c.callee, c.args.toList, c.argTypes.toList with
  | .builtin .copy, [d, s], [t, t'] => if t = t' then tN C st.H t (aev C st.ρ t d) (aev C st.ρ t' s) else none
  | _, _, _ => aI C st o
 | _ => aI C st o
def lp (C : Ctx) (ops : Array Oper) : List Oper -> ASt -> (ASt -> Prop) -> Prop
 | [], st, K => K st
 | o :: r, st, K =>
  match bg ops st.ρ o with
  | none => False
  | some g =>
   (g = true -> match eT C st o with
    | some (ob, v, H') => ob /\ lp C ops r ⟨b7 st.ρ o.dst v, H'⟩ K
    | none => False) /\
   (g = false -> lp C ops r ⟨b7 st.ρ o.dst (.tup []), st.H⟩ K)
section
variable {C : Ctx} {N h0 : Nat} {X : Nat -> Prop} {β : List BI} {H : List Blk} {w w0 : World} {β0 : List BI} {H0 : List Blk}
theorem r4 (R : HRel w X β H) {a : Act} {ρ : List (Nat × AV)} (T : ju w (Mu X β H) β H a ρ) (G : nQ C w (Mu X β H)) {t : TypeId} {parts : Array (Nat × Operand)} {ob : Prop} {r : AV} {H' : List Blk} (h : iy C ρ H t parts.toList = some (ob, r, H')) :
  ∃ u w' β', (Instr.buildSlice t 1 (parts.map λ (i, x) => (i, a.eval x))).run C.P w = .ok u w' /\ HRel w' X β' H' /\ StepR w β H w' β' H' /\ Rep w' (Mu X β' H') β' H' u r := by
 unfold iy at h
 split at h
 ·rename_i e x he hp
  split at h
  ·rename_i z ha hz
   split at h
   ·rename_i hc
    injection h with h; injection h with e1 e2; injection e2 with e2 e3; subst e1 e2 e3
    obtain ⟨hcell, hsz⟩ := hc
    obtain rfl : parts = #[(0, x)] := by rw [<- Array.toList_inj, hp]
    have hx := bq (C := C) T G e x
    have h1c := zB hx hcell
    generalize aev C ρ e x = av at *
    obtain ⟨v, hv⟩ : ∃ v, a.eval x = v := ⟨_, rfl⟩
    rw [hv] at hx h1c
    obtain ⟨i, zv, z1, z2, z3, z4, z5, z6, z7⟩ := cG hz
    have hzr : (zeroValue e).run C.P w = .ok zv w := by simp [zeroValue, typeInfo, z1, z2]
    have hsize := aS (P := C.P) (t := e) (by omega) w
    have hcells : v.cells = #[v] := by cases v <;> first | rfl | (simp [Value.oneCell'] at h1c)
    have hk := Keeps.alloc (λ _ => False) w (.cells #[v] e)
    have S := dJ R hk (.lies w.heap.size 1) ⟨e, 1, [[av]], true, av.isDeep⟩ (λ bk c e => by injection e with e _; omega)
    refine ⟨.slice (some ⟨w.heap.size, 0, none⟩) 1 1, w.alloc (.cells #[v] e), β ++ [.lies w.heap.size 1], ?_, eV R hk _ _ (λ bk c e => by injection e with e _; omega) (λ bk c e => by injection e with e _; subst e; simp) ?_, S, ?_⟩
    ·simp [Instr.buildSlice, run_underlying (bC he), hsize, hsz, hzr, Instr.fill, hv, hcells, newRow]
     have key : ∀ A : Array Value, A.size = 1 -> A.setIfInBounds 0 v = #[v] := λ A hA => by
      refine Array.ext (by simp [hA]) λ k h1 h2 => ?_
      simp at h2
      subst h2
      simp
     rw [key _ (by simp)]
    ·refine ⟨#[v], heap_alloc_new w _, rfl, le_refl _, by unfold maxLen; omega, Nat.zero_lt_one, λ r hr => ?_, λ i j r av' hi hj => ?_⟩
     ·simp at hr; subst hr; rfl
     ·match i with
      | 0 =>
       simp at hi
       subst hi
       match j with
       | 0 =>
        simp at hj
        subst hj
        exact ⟨v, rfl, h1c, hx.keep S, λ hd => ff hd (hx.keep S)⟩
       | j + 1 => simp at hj
      | i + 1 => simp at hi
    ·refine .own H.length 1 _ 1 _ (aM H _) (le_refl _) (.inr ⟨_, rfl⟩) (le_refl _) λ _ => ?_
     rw [<- R.len, aM]
     exact ⟨rfl, rfl⟩
   ·cases h
  ·cases h
 ·cases h
theorem xm (R : HRel w X β H) {t : TypeId} {d s : AV} {ob : Prop} {r : AV} {H' : List Blk} (h : tN C H t d s = some (ob, r, H')) (hob : ob) {vd vs : Value} (hd : Rep w (Mu X β H) β H vd d) (hs : Rep w (Mu X β H) β H vs s) (ty : TypeId) :
  ∃ u w' β', (Builtin.copy_ #[t, t] ty #[vd, vs]).run C.P w = .ok u w' /\ HRel w' X β' H' /\ StepR w β H w' β' H' /\ Rep w' (Mu X β' H') β' H' u r := by
 unfold tN at h
 split at h
 ·rename_i e l n sz fl ys he
  split at h
  ·rename_i b hb
   split at h
   ·rename_i hc
    obtain ⟨hmu, hbs, hsz⟩ := hc
    injection h with h; injection h with e1 e2; injection e2 with e2 e3; subst e1 e2 e3
    obtain ⟨o1, o2, o3⟩ := hob
    obtain ⟨a, cap, b', rfl, hb', hn, h0', hq⟩ := gC hd
    rw [hb] at hb'; injection hb' with hb'; subst hb'
    have hq := hq o1
    obtain ⟨xa, c, xval, rfl, hxr, hxl, hxv⟩ := kz (C := C) (e := e) (x := .slice sz fl ys) (ob := True) (ys := ys) (dp := true) R (by simp [hsz]) trivial hs
    cases hβ : β[l]? with
    | none => rw [hβ] at hq; exact hq.elim
    | some bi =>
     rw [hβ] at hq
     have hB := R.blk l bi b hβ hb
     cases bi with
     | nil => have : b.rows = [] := hB.1; rw [this] at o1; simp at o1; omega
     | lies bk c0 =>
      obtain ⟨rfl, rfl⟩ := hq
      have hz0 : 0 < b.sz := by obtain ⟨cur, h1, h2, h3, h4, h5, h6, h7⟩ := hB; exact h5
      obtain ⟨xb, xoff, rfl, hxc⟩ := hxr (by omega)
      obtain ⟨w', β', g1, g2, g3⟩ := ow (C := C) R hb hβ hmu 0 ys (bR xval ys.length (szT C.P e)) true (by omega) (by rw [aH, hbs]) (λ v hv => by
       obtain ⟨j, hj, rfl⟩ := List.getElem_of_mem hv
       exact (co hxc (getElem?_eq_getElem hj)).2) (λ r hr => by rw [hxl r hr, hbs]) (λ i j r av hi hj => by
       have hi' := (List.getElem?_eq_some_iff.1 hi).1
       have hj' := (List.getElem?_eq_some_iff.1 hj).1
       have hj'' : j < szT C.P e := by rw [<- hxl r (mem_of_getElem? hi)]; exact hj'
       rw [hbs, e7 _ _ _ _ _ hi' hj'']
       exact ⟨_, rfl, hxv i j r av hi hj⟩)
      rw [Nat.zero_mul] at g1
      simp only [List.take_zero, List.nil_append, zero_add] at g2 g3
      refine ⟨goInt ys.length, w', β', ?_, g2, g3, ?_⟩
      ·have hsize := aS (P := C.P) (t := e) (by omega) w
       have hld := run_loadCells_list (P := C.P) w ⟨xb, xoff, none⟩ (bR xval ys.length (szT C.P e)) (λ j v hj => (co hxc hj).1)
       rw [aH] at hld
       have hmin : Nat.min ys.length n = ys.length := Nat.min_eq_left o3
       simp [Builtin.copy_, run_underlying (bC he), Builtin.lenOf, Builtin.firstCells, hsize, hmin, hld, g1]
      ·exact .deep (.int _ _)
   ·cases h
  ·cases h
 ·cases h
theorem yd (hS : au C) {a : Act} {st : ASt} (R : HRel w X β st.H) (T : ju w (Mu X β st.H) β st.H a st.ρ) (G : nQ C w (Mu X β st.H)) {o : Oper} {ob : Prop} {r : AV} {H' : List Blk} (h : eT C st o = some (ob, r, H')) (hob : ob)
  {K : Act -> World -> Prop} {Q : Exit -> Act -> World -> Prop} (hK : Oe X w β st.H r H' o a K) : o.wp C.P a w K Q := by
 obtain ⟨dst, op, type, pos, after, guard⟩ := o
 unfold eT at h
 simp only at h
 split at h
 ·obtain ⟨u, w', β', h1, h2, h3, h4⟩ := r4 R T G h
  exact de (u := u) (w' := w') (by simp only [execOp, Sem.run_bind, h1, Result.andThen_ok, Sem.run_pure]) (hK u w' β' h2 h3 h4)
 ·rename_i c
  obtain ⟨callee, cargs, ctypes⟩ := c
  simp only at h
  split at h
  ·rename_i d' s' t t' hargs htys
   split at h
   ·rename_i htt
    subst htt
    obtain rfl : cargs = #[d', s'] := by rw [<- Array.toList_inj, hargs]
    obtain rfl : ctypes = #[t, t] := by rw [<- Array.toList_inj, htys]
    obtain ⟨u, w', β', h1, h2, h3, h4⟩ := xm R h hob (bq T G _ _) (bq T G _ _) type
    refine de (u := u) (w' := w') ?_ (hK u w' β' h2 h3 h4)
    simp only [execOp, resolve, invoke, builtin, Sem.run_bind, Sem.run_pure, Result.andThen_ok, List.map_toArray, map_cons, List.map_nil, h1]
   ·cases h
  ·exact cV hS R T G h hob hK
 ·exact cV hS R T G h hob hK
theorem ln (hS : au C) {ops : Array Oper} {Q : Exit -> Act -> World -> Prop} : ∀ (l : List Oper), (∀ o ∈ l, ∀ d, o.dst = some d -> d < N) -> ∀ {st : ASt} {K : ASt -> Prop} {a : Act} {w : World}, lp C ops l st K -> Rel C N X w0 β0 H0 st a w ->
  (∀ st' a' w', Rel C N X w0 β0 H0 st' a' w' -> K st' -> Q .normal a' w') -> wpList C.P ops Q l a w
 | [], _, st, K, a, w, h, hr, hQ => hQ st a w hr h
 | o :: r, hd, st, K, a, w, h, hr, hQ => by
  obtain ⟨β, R, S0, T, G, hN, hdef⟩ := hr
  unfold lp at h
  split at h
  ·exact h.elim
  ·rename_i g hg
   have hw := dy T hg
   have ih := λ {st : ASt} {a : Act} {w : World} => ln hS r (λ o ho => hd o (mem_cons_of_mem _ ho)) (st := st) (K := K) (a := a) (w := w) (ops := ops) (Q := Q)
   unfold wpList
   rw [hw]
   cases g with
   | true =>
    have h := h.1 rfl
    split at h
    ·rename_i ob v H' hst
     rw [if_pos rfl]
     refine .inl (yd hS R T G hst h.1 λ u w' β' R' S hr => ih h.2 (dq S0 T G hN hdef R' S hr o.dst (hd o (by simp))) hQ)
    ·exact h.elim
   | false =>
    have h := h.2 rfl
    rw [if_neg (by simp)]
    exact ih h (dq S0 T G hN hdef R (StepR.refl _ _ _ R.len) kK o.dst (hd o (by simp))) hQ
theorem nW (hS : au C) {id : Nat} {l : List Oper} {st : ASt} {Q : Exit -> ASt -> Prop} (hok : (l.all λ o => match o.dst with | some d => decide (d < N) | none => true) = true) (h : lp C l.toArray l st (Q .normal)) : AW C N h0 (.region id l.toArray false) st Q := λ X w0 β0 H0 a w hl hr => by
 refine wp_region_list (ln hS l.toArray.toList (λ o ho d hd => ?_) (by simpa using h) hr λ st' a' w' hr' hk => ⟨st', hk, hr'⟩)
 have := all_eq_true.1 hok o (by simpa using ho)
 rw [hd] at this
 simpa using this
@[simp] theorem R0 (ops : Array Oper) (st : ASt) (K : ASt -> Prop) : lp C ops [] st K = K st := rfl
@[simp] theorem OP (ops : Array Oper) (o : Oper) (r : List Oper) (st : ASt) (K : ASt -> Prop) : lp C ops (o :: r) st K =
  fI (bg ops st.ρ o) λ g => dP g (fK (eT C st o) λ ob v H' => ob /\ lp C ops r ⟨b7 st.ρ o.dst v, H'⟩ K) (lp C ops r ⟨b7 st.ρ o.dst (.tup []), st.H⟩ K) := by
 rw [lp]
 cases bg ops st.ρ o with
 | none => rfl
 | some g =>
  simp only [jk, dP]
  cases eT C st o with
  | none => rfl
  | some x => rfl
end
@[congr] theorem Ni {C : Ctx} {ops : Array Oper} {l : List Oper} {st st' : ASt} {K : ASt -> Prop} (h : dh st = st') : lp C ops l st K = lp C ops l st' K := by rw [aR] at h; rw [h]
@[congr] theorem Nz {C : Ctx} {st st' : ASt} {o : Oper} (h : dh st = st') : eT C st o = eT C st' o := by rw [aR] at h; rw [h]
section
variable {C : Ctx} (ρ : List (Nat × AV)) (H : List Blk) (d : Option Tmp) (ty : TypeId) (p : String) (af : Array Edge) (g : Option (Nat × Bool))
@[simp] theorem L7 (t : TypeId) (ps : Array (Nat × Operand)) : eT C ⟨ρ, H⟩ ⟨d, .buildSlice t 1 ps, ty, p, af, g⟩ = iy C ρ H t ps.toList := rfl
@[simp] theorem NN (x y : Operand) (t t' : TypeId) : eT C ⟨ρ, H⟩ ⟨d, .call ⟨.builtin .copy, #[x, y], #[t, t']⟩, ty, p, af, g⟩ = if t = t' then tN C H t (aev C ρ t x) (aev C ρ t' y) else none := rfl
@[simp] theorem K4 (x y : Operand) (t t' : TypeId) : eT C ⟨ρ, H⟩ ⟨d, .call ⟨.builtin .append, #[x, y], #[t, t']⟩, ty, p, af, g⟩ = aI C ⟨ρ, H⟩ ⟨d, .call ⟨.builtin .append, #[x, y], #[t, t']⟩, ty, p, af, g⟩ := rfl
@[simp] theorem NK (x : Operand) : eT C ⟨ρ, H⟩ ⟨d, .move x, ty, p, af, g⟩ = aI C ⟨ρ, H⟩ ⟨d, .move x, ty, p, af, g⟩ := rfl
@[simp] theorem HO (x : Operand) : eT C ⟨ρ, H⟩ ⟨d, .nilCheck x, ty, p, af, g⟩ = aI C ⟨ρ, H⟩ ⟨d, .nilCheck x, ty, p, af, g⟩ := rfl
@[simp] theorem HM (t : TypeId) (x : Operand) (k : Nat) : eT C ⟨ρ, H⟩ ⟨d, .fieldAddr t x k, ty, p, af, g⟩ = aI C ⟨ρ, H⟩ ⟨d, .fieldAddr t x k, ty, p, af, g⟩ := rfl
@[simp] theorem Oz (t : TypeId) (x : Operand) : eT C ⟨ρ, H⟩ ⟨d, .load t x, ty, p, af, g⟩ = aI C ⟨ρ, H⟩ ⟨d, .load t x, ty, p, af, g⟩ := rfl
@[simp] theorem LI (t : TypeId) (x y : Operand) : eT C ⟨ρ, H⟩ ⟨d, .store t x y, ty, p, af, g⟩ = aI C ⟨ρ, H⟩ ⟨d, .store t x y, ty, p, af, g⟩ := rfl
end
def pj (hl : Nat) (H : List Blk) (r : AV) (H' : List Blk) : Prop := ∃ m, hl <= m /\ H.take m = H' /\ r.cleanF m = true /\ ∀ b ∈ H', b.deep = true ∨ ∀ r ∈ b.rows, ∀ c ∈ r, c.cleanF m = true
def tT (hl : Nat) (H : List Blk) (r : AV) (H' : List Blk) (o : Option (Prop × AV)) : Prop := match o with | some (ob, r') => ob /\ r' = r /\ pj hl H r H' | none => False
@[simp] theorem Pq (hl : Nat) (H : List Blk) (r r' : AV) (H' : List Blk) (ob : Prop) : tT hl H r H' (some (ob, r')) = (ob /\ r' = r /\ pj hl H r H') := rfl
def IE (C : Ctx) (rs : List ResultVar) (hl : Nat) (r : AV) (H' : List Blk) : Exit -> ASt -> Prop
 | .normal, st => tT hl st.H r H' (cP C st rs)
 | .ret, st => tT hl st.H r H' (cP C st rs)
 | _, _ => False
@[congr] theorem Rh {C : Ctx} {rs : List ResultVar} {hl : Nat} {r : AV} {H' : List Blk} {ex ex' : Exit} {st st' : ASt} (h : dh ex = ex') (h' : st = st') : IE C rs hl r H' ex st = IE C rs hl r H' ex' st' := by rw [aR] at h; rw [h, h']
@[simp] theorem ND (C : Ctx) (rs : List ResultVar) (hl : Nat) (r : AV) (H' : List Blk) (ρ : List (Nat × AV)) (H : List Blk) : IE C rs hl r H' .normal ⟨ρ, H⟩ = tT hl H r H' (cP C ⟨ρ, H⟩ rs) := rfl
@[simp] theorem TA (C : Ctx) (rs : List ResultVar) (hl : Nat) (r : AV) (H' : List Blk) (ρ : List (Nat × AV)) (H : List Blk) : IE C rs hl r H' .ret ⟨ρ, H⟩ = tT hl H r H' (cP C ⟨ρ, H⟩ rs) := rfl
theorem Js {C : Ctx} {w w' : World} {X : Nat -> Prop} {β β' : List BI} {H H1 : List Blk} {u : Value} {r : AV} (R : HRel w' X β' H1) (S : StepR w β H w' β' H1) (G : nQ C w' (Mu X β' H1)) (hr : Rep w' (Mu X β' H1) β' H1 u r) {H' : List Blk} (hd : pj H.length H1 r H') :
  ∃ β2, HRel w' X β2 H' /\ StepR w β H w' β2 H' /\ Rep w' (Mu X β2 H') β2 H' u r := by
 obtain ⟨m, h1, rfl, h3, h4⟩ := hd
 have hrel : Rel C 1 X w β H ⟨[(0, r)], H1⟩ { tmps := #[u], defers := [] } w' := ⟨β', R, S, λ t => by
  match t with
  | 0 => exact hr
  | t + 1 => exact mR, G, rfl, rfl⟩
 obtain ⟨β2, R2, S2, T2, _⟩ := tm (C := C) (N := 1) (h0 := H.length) m h1 (λ p hp => by rw [List.mem_singleton] at hp; rw [hp]; exact h3) h4 X w β H _ w' rfl hrel
 exact ⟨β2, R2, S2, T2 0⟩
theorem bP {C : Ctx} (hS : au C) (hM : C.P.follows .mixedOrders = true) (hd : List Nat) {f : FuncId} {fn : Func} {body : Code} {rs : List ResultVar} {n : Nat} (hf : C.P.funcs[f]? = some fn) (hb : fn.body = some body) (hrs : fn.results.toList = rs) (hn : fn.ntmps = n) (hok : bN C hd n body = true) {g : List AV -> List Blk -> Option (Prop × AV × List Blk)}
  (h : ∀ avs H ob r H', g avs H = some (ob, r, H') -> ob -> avs.length <= n /\ cz C hd n H.length body ⟨argsρ 0 avs, H⟩ (IE C rs H.length r H')) : jM C.P C.G f g := by
 subst hrs hn
 intro w X β H args avs ob r H' R hG hsz harg hp hob
 obtain ⟨hlen, hav⟩ := h avs H ob r H' hp hob
 refine calls_of_wp hf hb ?_
 have hr : Rel C fn.ntmps X w β H ⟨argsρ 0 avs, H⟩ { tmps := args ++ Array.replicate (fn.ntmps - args.size) undef, defers := [] } w :=
  ⟨β, R, StepR.refl _ _ _ R.len, j5 hsz harg, hG, by simp; omega, rfl⟩
 refine Code.wp_mono (λ ex a' w' ⟨st', hq, hr'⟩ => ?_) (bf hS hM body hok hav X w β H _ w rfl hr)
 obtain ⟨β', R', S', T', G', hN', hdef'⟩ := hr'
 have fin : tT H.length st'.H r H' (cP C st' fn.results.toList) -> bodyPost C.P fn (λ e w' => ∃ v β', e = .returned v /\ HRel w' X β' H' /\ StepR w β H w' β' H' /\ Rep w' (Mu X β' H') β' H' v r) .normal a' w' := by
  intro hk
  unfold tT at hk
  split at hk
  ·rename_i ob' r' hres
   obtain ⟨hob', rfl, hdr⟩ := hk
   obtain ⟨u, hu, hrep⟩ := dx R' T' hres hob'
   obtain ⟨β2, R2, S2, T2⟩ := Js (C := C) R' S' G' hrep hdr
   exact ⟨hdef', u, hu, u, β2, rfl, R2, S2, T2⟩
  ·exact hk.elim
 cases ex with
 | normal => exact fin hq
 | ret => exact fin hq
 | _ => exact hq.elim
structure DigOK (v u d q r : Nat) : Prop where
 sum : q * (v / 4294967296) + r = u
 up : (u * 4294967296 + d) / v <= q
 small : r < 4294967296
 near : q <= 4294967297
 fine : r < v / 4294967296 ∨ q <= 4294967296
theorem vE {v u d : Nat} (hv : 9223372036854775808 <= v) (hv' : v < 18446744073709551616) (hu : u < v) (hd : d < 4294967296) : DigOK v u d (u / (v / 4294967296)) (u - u / (v / 4294967296) * (v / 4294967296)) := by
 obtain ⟨a, ha⟩ : ∃ a, a = v / 4294967296 := ⟨_, rfl⟩
 rw [<- ha]
 have a1 : 2147483648 <= a := by omega
 have a2 : a < 4294967296 := by omega
 have e := div_add_mod u a
 have hm := mod_lt u (show 0 < a by omega)
 have e' : u / a * a + u % a = u := by rw [Nat.mul_comm]; exact e
 have e2 : u - u / a * a = u % a := by omega
 refine ⟨by rw [<- ha]; omega, ?_, by omega, ?_, .inl (by rw [<- ha]; omega)⟩
 ·
  have h1 : (u * 4294967296 + d) / v <= (u * 4294967296 + d) / (a * 4294967296) := Nat.div_le_div_left (by omega) (by omega)
  refine le_trans h1 ?_
  rw [Nat.mul_comm a, <- Nat.div_div_eq_div_mul]
  have : (u * 4294967296 + d) / 4294967296 = u := by omega
  rw [this]
  exact le_refl _
 ·have h1 : u < (4294967298 : Nat) * a := by omega
  have := (Nat.div_lt_iff_lt_mul (show 0 < a by omega)).2 h1
  omega
theorem qw {v u d : Nat} (hv : 0 < v) (hu : u < v) (hd : d < 4294967296) : (u * 4294967296 + d) / v < 4294967296 := by
 rw [Nat.div_lt_iff_lt_mul hv]
 have : (u + 1) * 4294967296 <= v * 4294967296 := Nat.mul_le_mul_right _ hu
 omega
theorem ET {v u d q r : Nat} (h : DigOK v u d q r) : q * v + r * 4294967296 = u * 4294967296 + q * (v % 4294967296) := by
 have e : q * v = q * (v / 4294967296) * 4294967296 + q * (v % 4294967296) := by
  have := div_add_mod v 4294967296
  calc q * v = q * (4294967296 * (v / 4294967296) + v % 4294967296) := by rw [this]
   _ = _ := by rw [Nat.mul_add]; congr 1; ac_rfl
 have := h.sum
 have e3 : u * 4294967296 = (q * (v / 4294967296) + r) * 4294967296 := by rw [this]
 rw [Nat.add_mul] at e3
 omega
theorem BB {v u d q r : Nat} (hv : 0 < v) (h : DigOK v u d q r) (hq : q * (v % 4294967296) <= 4294967296 * r + d) : q = (u * 4294967296 + d) / v := by
 refine Nat.le_antisymm ?_ h.up
 rw [Nat.le_div_iff_mul_le hv]
 have := ET h
 omega
theorem J0 {v u d q r : Nat} (hv : 0 < v) (hu : u < v) (hd : d < 4294967296) (h : DigOK v u d q r) (hq : 4294967296 <= q ∨ 4294967296 * r + d < q * (v % 4294967296)) : (u * 4294967296 + d) / v < q := by
 rcases hq with hq | hq
 ·have := qw hv hu hd
  omega
 ·rw [Nat.div_lt_iff_lt_mul hv]
  have := ET h
  omega
theorem Bz {v u d q r : Nat} (hv : 9223372036854775808 <= v) (hv' : v < 18446744073709551616) (hu : u < v) (hd : d < 4294967296) (h : DigOK v u d q r) (hq : 4294967296 <= q ∨ 4294967296 * r + d < q * (v % 4294967296)) :
  1 <= q /\ (q - 1) * (v / 4294967296) + (r + v / 4294967296) = u /\ (r + v / 4294967296 < 4294967296 -> DigOK v u d (q - 1) (r + v / 4294967296)) /\ (4294967296 <= r + v / 4294967296 -> q - 1 = (u * 4294967296 + d) / v) := by
 have hm := J0 (by omega) hu hd h hq
 have hq0 : 0 < q := Nat.lt_of_le_of_lt (zero_le _) hm
 obtain ⟨p, rfl⟩ : ∃ p, q = p + 1 := ⟨q - 1, by omega⟩
 rw [Nat.add_sub_cancel]
 have hs : p * (v / 4294967296) + (r + v / 4294967296) = u := by
  have := h.sum
  rw [Nat.add_mul, Nat.one_mul] at this
  omega
 have hn := h.near
 refine ⟨by omega, hs, λ h1 => ⟨hs, by omega, h1, by omega, .inr (by omega)⟩, λ h1 => ?_⟩
 refine Nat.le_antisymm ?_ (by omega)
 rw [Nat.le_div_iff_mul_le (by omega)]
 have e : p * v = p * (v / 4294967296) * 4294967296 + p * (v % 4294967296) := by
  have := div_add_mod v 4294967296
  calc p * v = p * (4294967296 * (v / 4294967296) + v % 4294967296) := by rw [this]
   _ = _ := by rw [Nat.mul_add]; congr 1; ac_rfl
 have e2 : p * (v % 4294967296) <= 4294967296 * 4294967296 := Nat.mul_le_mul (by omega) (by omega)
 have e3 : (p * (v / 4294967296) + (r + v / 4294967296)) * 4294967296 = u * 4294967296 := by rw [hs]
 rw [Nat.add_mul] at e3
 omega
theorem EY {v u d : Nat} (hv : 0 < v) (hv' : v < 18446744073709551616) : IntKind.wrap .u64 (IntKind.wrap .u64 (IntKind.wrap .u64 ((u : Int) * 4294967296) + (d : Int)) - IntKind.wrap .u64 ((((u * 4294967296 + d) / v : Nat) : Int) * (v : Int))) = (((u * 4294967296 + d) % v : Nat) : Int) := by
 have e := div_add_mod (u * 4294967296 + d) v
 have hm := mod_lt (u * 4294967296 + d) hv
 rw [Nat.mul_comm v] at e
 generalize hQ : (u * 4294967296 + d) / v = Q at *
 have e2 : ((Q * v : Nat) : Int) = (Q : Int) * (v : Int) := natCast_mul _ _
 rw [<- e2, IntKind.wrap_u64, IntKind.wrap_u64, IntKind.wrap_u64, IntKind.wrap_u64]
 omega
theorem Cl {X y s : Nat} (hy : 0 < y) : ∃ v U, v = y * 2 ^ s /\ U = X * 2 ^ s /\ X / y = (U / 18446744073709551616 * 4294967296 + U % 18446744073709551616 / 4294967296) / v * 4294967296 + ((U / 18446744073709551616 * 4294967296 + U % 18446744073709551616 / 4294967296) % v * 4294967296 + U % 4294967296) / v /\
  X % y * 2 ^ s = ((U / 18446744073709551616 * 4294967296 + U % 18446744073709551616 / 4294967296) % v * 4294967296 + U % 4294967296) % v := by
 refine ⟨_, _, rfl, rfl, ?_⟩
 have hp := Nat.two_pow_pos s
 have hv : 0 < y * 2 ^ s := Nat.mul_pos hy hp
 have h1 : X / y = X * 2 ^ s / (y * 2 ^ s) := (Nat.mul_div_mul_right X y hp).symm
 have h2 : X % y * 2 ^ s = X * 2 ^ s % (y * 2 ^ s) := (Nat.mul_mod_mul_right _ _ _).symm
 rw [h1, h2]
 generalize y * 2 ^ s = v at *
 generalize X * 2 ^ s = U at *
 have e0 : U / 18446744073709551616 * 4294967296 + U % 18446744073709551616 / 4294967296 = U / 4294967296 := by omega
 rw [e0]
 generalize hA : U / 4294967296 = A at *
 have eU : U = A * 4294967296 + U % 4294967296 := by omega
 generalize hd : U % 4294967296 = d at *
 have eA := div_add_mod A v
 generalize hQ : A / v = Q at *
 generalize hR : A % v = R at *
 have e1 : U = v * (Q * 4294967296) + (R * 4294967296 + d) := by
  rw [eU, <- eA, Nat.add_mul]
  rw [Nat.mul_assoc]
  omega
 rw [e1, Nat.mul_add_div hv, Nat.mul_add_mod]
 exact ⟨rfl, rfl⟩
end
end Go.Proofs.YtfoipbjhaiimlaaGreatDoor