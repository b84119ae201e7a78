/-
  A region that draws its order, second part: the theorem. Own work; no program in sight.
-/
import Derived.Test.YtankjfiaajpfoaaDoorAm19
namespace Go.Proofs.YtankjfiaajpfoaaDoor
open Go.RowKit

section
variable {C : Ctx} {N : Nat} {X : Nat → Prop} {w0 : World} {β0 : List BI} {H0 : List Blk} {ops : Array Oper} {B : Nat → List Nat} {st : ASt} {v : Nat → AV} {ρ : Nat → List (Nat × AV)} {H : Nat → List Blk}

theorem tr_rest (T : Trace C ops 0 st v ρ H) : ∀ i, i ≤ ops.size → ∀ t, (∀ j, j < i → (opAt ops j).dst ≠ some t) → getA (ρ i) t = getA (ρ 0) t
  | 0, _, _, _ => rfl
  | i + 1, hi, t, h => by
    obtain ⟨g, _, _, _, h4⟩ := T.step i (Nat.zero_le _) hi
    rw [h4, getA_putA, if_neg (h i (by omega))]
    exact tr_rest T i (by omega) t fun j hj => h j (by omega)

theorem tr_val (T : Trace C ops 0 st v ρ H) (F : RegFacts C ops B) : ∀ i, i ≤ ops.size → ∀ j d, j < i → (opAt ops j).dst = some d → getA (ρ i) d = v j
  | 0, _, _, _, h, _ => by omega
  | i + 1, hi, j, d, hj, hd => by
    obtain ⟨g, _, _, _, h4⟩ := T.step i (Nat.zero_le _) hi
    rw [h4, getA_putA]
    by_cases e : j = i
    · subst e; rw [if_pos hd]
    · rw [if_neg (fun h => F.dst j i (by omega) (by omega) e d hd h)]
      exact tr_val T F i (by omega) j d (by omega) hd

theorem tr_const1 (T : Trace C ops 0 st v ρ H) {i : Nat} (hi : i < ops.size) (he : isEff C (opAt ops i) = false) : H (i + 1) = H i := by
  obtain ⟨g, _, h2, h3, _⟩ := T.step i (Nat.zero_le _) hi
  cases g with
  | true =>
    obtain ⟨ob, h2, _⟩ := h2 rfl
    cases hk : kindOf C (opAt ops i) with
    | pure => exact (astep_pure hk h2).1
    | read => exact astep_read hk h2
    | eff => simp [isEff, hk] at he
  | false => exact (h3 rfl).2

theorem tr_const (T : Trace C ops 0 st v ρ H) {k : Nat} : ∀ m, k + m ≤ ops.size → (∀ e, k ≤ e → e < k + m → isEff C (opAt ops e) = false) → H k = H (k + m)
  | 0, _, _ => rfl
  | m + 1, hm, he => by
    rw [tr_const T m (by omega) fun e h1 h2 => he e h1 (by omega)]
    exact (tr_const1 T (by omega) (he (k + m) (by omega) (by omega))).symm

theorem tr_sep (T : Trace C ops 0 st v ρ H) {k k' : Nat} (hk : k ≤ ops.size) (hk' : k' ≤ ops.size) (h : ∀ e, e < ops.size → isEff C (opAt ops e) = true → (e < k ↔ e < k')) : H k = H k' := by
  rcases Nat.le_total k k' with h1 | h1
  · have := tr_const T (k := k) (k' - k) (by omega) fun e e1 e2 => by
      cases hh : isEff C (opAt ops e) with
      | false => rfl
      | true => have := (h e (by omega) hh).2 (by omega); omega
    rwa [show k + (k' - k) = k' by omega] at this
  · have := tr_const T (k := k') (k - k') (by omega) fun e e1 e2 => by
      cases hh : isEff C (opAt ops e) with
      | false => rfl
      | true => have := (h e (by omega) hh).1 (by omega); omega
    rw [show k' + (k - k') = k by omega] at this
    exact this.symm

/-- Where a run in some order stands. -/
structure Inv (C : Ctx) (ops : Array Oper) (B : Nat → List Nat) (v : Nat → AV) (ρ : Nat → List (Nat × AV)) (H : Nat → List Blk) (L : Nat → Prop) (ρS : List (Nat × AV)) (HS : List Blk) : Prop where
  clo : ∀ i, i < ops.size → L i → ∀ x ∈ B i, L x
  val : ∀ i, i < ops.size → L i → ∀ d, (opAt ops i).dst = some d → getA ρS d = v i
  rest : ∀ t, (∀ i, i < ops.size → L i → (opAt ops i).dst ≠ some t) → getA ρS t = getA (ρ 0) t
  heap : ∀ k, k ≤ ops.size → (∀ i, i < ops.size → isEff C (opAt ops i) = true → (L i ↔ i < k)) → HS = H k

theorem confl_eff {x y : Oper} (h1 : isEff C x = true) (h2 : isPure C y = false) : confl C ops x y = true := by simp [confl, h1, h2]
theorem confl_dst {x y : Oper} {d : Nat} (h1 : x.dst = some d) (h2 : d ∈ looks ops y) : confl C ops x y = true := by simp [confl, h1, h2]

/-- All that an operation stands behind has been done, if its direct ones have. -/
theorem behind (F : RegFacts C ops B) {L : Nat → Prop} (hclo : ∀ i, i < ops.size → L i → ∀ x ∈ B i, L x) {i : Nat} (hi : i < ops.size) (hd : ∀ d ∈ directs (opAt ops i), L d) : ∀ x ∈ B i, L x := by
  intro x hx
  rcases F.clo i hi x hx with h | ⟨d, h, h'⟩
  · exact hd x h
  · exact hclo d (by have := F.dir i hi d h; omega) (hd d h) x h'

theorem inv_looks (T : Trace C ops 0 st v ρ H) (F : RegFacts C ops B) {L : Nat → Prop} {ρS : List (Nat × AV)} {HS : List Blk} (I : Inv C ops B v ρ H L ρS HS) {i : Nat} (hi : i < ops.size) (hL : ¬ L i) (hd : ∀ d ∈ directs (opAt ops i), L d) :
    ∀ t ∈ looks ops (opAt ops i), getA ρS t = getA (ρ i) t := by
  have hB := behind F I.clo hi hd
  intro t ht
  by_cases hex : ∃ j, j < ops.size ∧ (opAt ops j).dst = some t
  · obtain ⟨j, hj, hdj⟩ := hex
    by_cases e : j = i
    · subst e
      have h1 : getA ρS t = getA (ρ 0) t := I.rest t fun k hk hLk hdk => by
        by_cases e : k = j
        · subst e; exact hL hLk
        · exact F.dst j k hj hk (fun h => e h.symm) t hdj hdk
      rw [h1, tr_rest T j (by omega) t fun k hk hdk => F.dst j k hj (by omega) (by omega) t hdj hdk]
    · rcases F.con j i hj hi e (confl_dst hdj ht) with h | h
      · rw [I.val j hj (hB j h) t hdj, tr_val T F i (by omega) j t (F.lt i hi j h) hdj]
      · have hij := F.lt j hj i h
        have hnL : ¬ L j := fun h' => hL (I.clo j hj h' i h)
        rw [I.rest t fun k hk hLk hdk => by
          by_cases e' : k = j
          · subst e'; exact hnL hLk
          · exact F.dst j k hj hk (fun h => e' h.symm) t hdj hdk]
        rw [tr_rest T i (by omega) t fun k hk hdk => by
          by_cases e' : k = j
          · omega
          · exact F.dst j k hj (by omega) (fun h => e' h.symm) t hdj hdk]
  · rw [I.rest t fun k hk _ hdk => hex ⟨k, hk, hdk⟩, tr_rest T i (by omega) t fun k hk hdk => hex ⟨k, by omega, hdk⟩]

theorem inv_heap (F : RegFacts C ops B) {L : Nat → Prop} {ρS : List (Nat × AV)} {HS : List Blk} (I : Inv C ops B v ρ H L ρS HS) {i : Nat} (hi : i < ops.size) (hL : ¬ L i) (hd : ∀ d ∈ directs (opAt ops i), L d) (hp : isPure C (opAt ops i) = false) :
    (∀ e, e < ops.size → isEff C (opAt ops e) = true → (L e ↔ e < i)) := by
  have hB := behind F I.clo hi hd
  intro e he hee
  by_cases h : e = i
  · subst h
    exact ⟨fun h => absurd h hL, fun h => by omega⟩
  · rcases F.con e i he hi h (confl_eff hee hp) with h1 | h1
    · exact ⟨fun _ => F.lt i hi e h1, fun _ => hB e h1⟩
    · have := F.lt e he i h1
      exact ⟨fun h2 => absurd (I.clo e he h2 i h1) hL, fun h2 => by omega⟩

theorem inv_next (T : Trace C ops 0 st v ρ H) (F : RegFacts C ops B) {L : Nat → Prop} {ρS : List (Nat × AV)} {HS : List Blk} (I : Inv C ops B v ρ H L ρS HS) {i : Nat} (hi : i < ops.size) (hL : ¬ L i) (hd : ∀ d ∈ directs (opAt ops i), L d)
    {HS' : List Blk} (hH : (isEff C (opAt ops i) = true → HS' = H (i + 1)) ∧ (isEff C (opAt ops i) = false → HS' = HS)) : Inv C ops B v ρ H (fun j => j = i ∨ L j) (putA ρS (opAt ops i).dst (v i)) HS' := by
  have hB := behind F I.clo hi hd
  refine ⟨fun j hj hl x hx => ?_, fun j hj hl d hdj => ?_, fun t ht => ?_, fun k hk hsep => ?_⟩
  · rcases hl with rfl | hl
    · exact .inr (hB x hx)
    · exact .inr (I.clo j hj hl x hx)
  · rw [getA_putA]
    by_cases e : j = i
    · subst e; rw [if_pos hdj]
    · rw [if_neg (fun h => F.dst j i hj hi e d hdj h)]
      exact I.val j hj (hl.resolve_left e) d hdj
  · rw [getA_putA, if_neg (ht i hi (.inl rfl))]
    exact I.rest t fun k hk hlk => ht k hk (.inr hlk)
  · cases he : isEff C (opAt ops i) with
    | true =>
      rw [hH.1 he]
      have hp : isPure C (opAt ops i) = false := by
        unfold isEff at he
        unfold isPure
        cases hk : kindOf C (opAt ops i) <;> simp_all
      have h1 := inv_heap F I hi hL hd hp
      have hik := (hsep i hi he).1 (.inl rfl)
      refine tr_sep T hi hk fun e he1 he2 => ?_
      by_cases h : e = i
      · subst h; exact ⟨fun _ => hik, fun _ => by omega⟩
      · have h2 := h1 e he1 he2
        have h3 := hsep e he1 he2
        constructor
        · intro h4; exact h3.1 (.inr (h2.2 (by omega)))
        · intro h4
          have := h2.1 ((h3.2 h4).resolve_left h)
          omega
    | false =>
      rw [hH.2 he]
      refine I.heap k hk fun e he1 he2 => ?_
      have h3 := hsep e he1 he2
      have hne : e ≠ i := fun h => by subst h; rw [he] at he2; cases he2
      exact ⟨fun h => h3.1 (.inr h), fun h => (h3.2 h).resolve_left hne⟩

theorem ready_spec {listed : Array Bool} {i : Nat} (h : i ∈ Region.ready .any ops listed) : i < ops.size ∧ listed.getD i true = false ∧ ∀ d ∈ directs (opAt ops i), listed.getD d false = true := by
  unfold Region.ready at h
  rw [List.mem_filter] at h
  obtain ⟨h1, h2⟩ := h
  have hi := List.mem_range.1 h1
  simp only [Bool.and_eq_true, Bool.not_eq_true'] at h2
  refine ⟨hi, h2.1, fun d hd => ?_⟩
  have h3 := h2.2
  rw [Array.getElem?_eq_getElem hi] at h3
  simp only [Option.map_some, Option.getD_some] at h3
  unfold directs opAt at hd
  rw [Array.getD_eq_getD_getElem?, Array.getElem?_eq_getElem hi] at hd
  simp only [Option.getD_some, List.mem_map, List.mem_filter] at hd
  obtain ⟨e, ⟨he1, he2⟩, rfl⟩ := hd
  have h4 := Array.all_eq_true'.1 h3 e (Array.mem_toList_iff.1 he1)
  simp only [he2, Bool.not_true, Bool.false_or] at h4
  exact h4

theorem ready_nil (F : RegFacts C ops B) {listed : Array Bool} (hs : listed.size = ops.size) (h : Region.ready .any ops listed = []) : ∀ i, i < ops.size → listed.getD i false = true := by
  intro i
  induction i using Nat.strongRecOn with
  | _ i ih =>
    intro hi
    cases hl : listed.getD i false with
    | true => rfl
    | false =>
      exfalso
      have : i ∈ Region.ready .any ops listed := by
        unfold Region.ready
        rw [List.mem_filter]
        refine ⟨List.mem_range.2 hi, ?_⟩
        simp only [Bool.and_eq_true, Bool.not_eq_true']
        refine ⟨?_, ?_⟩
        · rw [Array.getD_eq_getD_getElem?, Array.getElem?_eq_getElem (by omega)] at hl ⊢
          exact hl
        · rw [Array.getElem?_eq_getElem hi]
          simp only [Option.map_some, Option.getD_some]
          refine Array.all_eq_true'.2 fun e he => ?_
          cases hb : Region.binds .any e with
          | false => rfl
          | true =>
            have hd : e.on ∈ directs (opAt ops i) := by
              unfold directs opAt
              rw [Array.getD_eq_getD_getElem?, Array.getElem?_eq_getElem hi]
              simp only [Option.getD_some, List.mem_map, List.mem_filter]
              exact ⟨e, ⟨Array.mem_toList_iff.2 he, hb⟩, rfl⟩
            have hlt := F.dir i hi e.on hd
            simp [ih e.on hlt (by omega)]
      rw [h] at this
      cases this

theorem trel_congr {w : World} {Y : Nat → Prop} {β : List BI} {Hh : List Blk} {a : Act} {ρ1 ρ2 : List (Nat × AV)} (h : ∀ t, getA ρ1 t = getA ρ2 t) (T : TRel w Y β Hh a ρ1) : TRel w Y β Hh a ρ2 := fun t => by rw [← h t]; exact T t

theorem wpAny_of_trace (hS : SigOK C) (hd : ∀ i, i < ops.size → ∀ d, (opAt ops i).dst = some d → d < N) (T : Trace C ops 0 st v ρ H) (F : RegFacts C ops B) {Q : Exit → Act → World → Prop}
    (hQ : ∀ a' w', Rel C N X w0 β0 H0 ⟨ρ ops.size, H ops.size⟩ a' w' → Q .normal a' w') : ∀ (fuel : Nat) (listed : Array Bool) (ρS : List (Nat × AV)) (HS : List Blk) (a : Act) (w : World), listed.size = ops.size →
      Inv C ops B v ρ H (fun i => listed.getD i false = true) ρS HS → (List.range ops.size).countP (fun i => !listed.getD i false) ≤ fuel → Rel C N X w0 β0 H0 ⟨ρS, HS⟩ a w → wpAny C.P .any ops Q fuel listed a w := by
  -- where all has been done
  have done : ∀ (listed : Array Bool) (ρS : List (Nat × AV)) (HS : List Blk) (a : Act) (w : World), Inv C ops B v ρ H (fun i => listed.getD i false = true) ρS HS → (∀ i, i < ops.size → listed.getD i false = true) → Rel C N X w0 β0 H0 ⟨ρS, HS⟩ a w → Q .normal a w := by
    intro listed ρS HS a w I hall hr
    obtain ⟨β, R, S0, Tr, G, hN, hdef⟩ := hr
    have hH : HS = H ops.size := I.heap ops.size (Nat.le_refl _) fun i hi _ => ⟨fun _ => hi, fun _ => hall i hi⟩
    subst hH
    refine hQ a w ⟨β, R, S0, trel_congr (fun t => ?_) Tr, G, hN, hdef⟩
    by_cases hex : ∃ j, j < ops.size ∧ (opAt ops j).dst = some t
    · obtain ⟨j, hj, hdj⟩ := hex
      rw [I.val j hj (hall j hj) t hdj, tr_val T F ops.size (Nat.le_refl _) j t hj hdj]
    · rw [I.rest t fun k hk _ hdk => hex ⟨k, hk, hdk⟩, tr_rest T ops.size (Nat.le_refl _) t fun k hk hdk => hex ⟨k, hk, hdk⟩]
  intro fuel
  induction fuel with
  | zero =>
    intro listed ρS HS a w hs I hc hr
    have hall : ∀ i, i < ops.size → listed.getD i false = true := by
      intro i hi
      have h0 : (List.range ops.size).countP (fun i => !listed.getD i false) = 0 := by omega
      rw [List.countP_eq_zero] at h0
      have := h0 i (List.mem_range.2 hi)
      simpa using this
    refine ⟨?_, done listed ρS HS a w I hall hr⟩
    cases hrd : Region.ready .any ops listed with
    | nil => rfl
    | cons i r =>
      obtain ⟨h1, h2, _⟩ := ready_spec (ops := ops) (listed := listed) (i := i) (by rw [hrd]; simp)
      have := hall i h1
      rw [Array.getD_eq_getD_getElem?, Array.getElem?_eq_getElem (by omega), Option.getD_some] at h2 this
      rw [h2] at this
      cases this
  | succ fuel ih =>
    intro listed ρS HS a w hs I hc hr
    refine ⟨fun hnil => done listed ρS HS a w I (ready_nil F hs hnil) hr, fun i hi => ?_⟩
    obtain ⟨hlt, hun, hdir⟩ := ready_spec hi
    have hL : ¬ (listed.getD i false = true) := by
      rw [Array.getD_eq_getD_getElem?, Array.getElem?_eq_getElem (by omega), Option.getD_some] at hun ⊢
      rw [hun]
      simp
    have hlook := inv_looks T F I hlt hL hdir
    obtain ⟨β, R, S0, Tr, G, hN, hdef⟩ := hr
    obtain ⟨g, hg, hst, hsk, _⟩ := T.step i (Nat.zero_le _) hlt
    have hg' : wantG ops ρS (opAt ops i) = some g := by rw [wantG_congr hlook]; exact hg
    have hw := wantG_sound Tr hg'
    have hget : ops[i]? = some (opAt ops i) := by
      unfold opAt
      rw [Array.getD_eq_getD_getElem?, Array.getElem?_eq_getElem hlt]
      rfl
    -- on to the next
    have next : ∀ (HS' : List Blk) (a' : Act) (w' : World), ((isEff C (opAt ops i) = true → HS' = H (i + 1)) ∧ (isEff C (opAt ops i) = false → HS' = HS)) → Rel C N X w0 β0 H0 ⟨putA ρS (opAt ops i).dst (v i), HS'⟩ a' w' →
        wpAny C.P .any ops Q fuel (listed.setIfInBounds i true) a' w' := by
      intro HS' a' w' hH hr'
      have hset : ∀ j, (listed.setIfInBounds i true).getD j false = true ↔ (j = i ∨ listed.getD j false = true) := by
        intro j
        by_cases e : j = i
        · subst e
          simp [Array.getD_eq_getD_getElem?, show j < listed.size by omega]
        · simp [Array.getD_eq_getD_getElem?, Array.getElem?_setIfInBounds_ne (fun h => e h.symm), e]
      refine ih _ _ HS' a' w' (by simpa using hs) ?_ ?_ hr'
      · have := inv_next T F I hlt hL hdir hH
        refine ⟨fun j hj hl x hx => (hset x).2 (this.clo j hj ((hset j).1 hl) x hx), fun j hj hl => this.val j hj ((hset j).1 hl), fun t ht => this.rest t fun j hj hl => ht j hj ((hset j).2 hl), fun k hk hsep => this.heap k hk fun j hj he => ?_⟩
        rw [← hsep j hj he]
        exact (hset j).symm
      · have key : (List.range ops.size).countP (fun j => !(listed.setIfInBounds i true).getD j false) + 1 ≤ (List.range ops.size).countP (fun j => !listed.getD j false) := by
          have h1 : ∀ l : List Nat, i ∈ l → l.countP (fun j => !(listed.setIfInBounds i true).getD j false) + 1 ≤ l.countP (fun j => !listed.getD j false) := by
            have h0 : ∀ l : List Nat, l.countP (fun j => !(listed.setIfInBounds i true).getD j false) ≤ l.countP (fun j => !listed.getD j false) := fun l => List.countP_mono_left fun j _ hj => by
              simp only [Bool.not_eq_true', Bool.eq_false_iff] at hj ⊢
              exact fun h => hj ((hset j).2 (.inr h))
            intro l hl
            induction l with
            | nil => cases hl
            | cons j r ihl =>
              rw [List.countP_cons, List.countP_cons]
              by_cases e : j = i
              · subst e
                have e1 : (!(listed.setIfInBounds j true).getD j false) = false := by rw [(hset j).2 (.inl rfl)]; rfl
                have e2 : (!listed.getD j false) = true := by simpa using hL
                rw [e1, e2]
                have := h0 r
                simp only [if_true, Bool.false_eq_true, if_false]
                omega
              · have := ihl (by simpa [Ne.symm e] using hl)
                have hj : (!(listed.setIfInBounds i true).getD j false) = !listed.getD j false := by
                  have := hset j
                  simp only [e, false_or] at this
                  cases h1 : (listed.setIfInBounds i true).getD j false <;> cases h2 : listed.getD j false <;> simp_all
                rw [hj]
                omega
          exact h1 _ (List.mem_range.2 hlt)
        omega
    unfold wpOp
    rw [hget]
    simp only
    rw [hw]
    cases g with
    | true =>
      rw [if_pos rfl]
      obtain ⟨ob, hst, hob⟩ := hst rfl
      have hcg : astep C ⟨ρS, H i⟩ (opAt ops i) = some (ob, v i, H (i + 1)) := by rw [astep_congr (looks_aev hlook)]; exact hst
      refine .inl ?_
      cases hk : kindOf C (opAt ops i) with
      | pure =>
        obtain ⟨h1, h2⟩ := astep_pure hk hcg
        exact astep_sound hS R Tr G (h2 HS) hob fun u w' β' R' S hr => next HS _ _ ⟨fun h => by simp [isEff, hk] at h, fun _ => rfl⟩ (rel_put S0 Tr G hN hdef R' S hr _ (hd i hlt))
      | read =>
        have hH : HS = H i := I.heap i (by omega) (inv_heap F I hlt hL hdir (by simp [isPure, hk]))
        rw [← hH] at hcg
        have h1 := astep_read hk hcg
        rw [h1] at hcg
        exact astep_sound hS R Tr G hcg hob fun u w' β' R' S hr => next HS _ _ ⟨fun h => by simp [isEff, hk] at h, fun _ => rfl⟩ (rel_put S0 Tr G hN hdef R' S hr _ (hd i hlt))
      | eff =>
        have hH : HS = H i := I.heap i (by omega) (inv_heap F I hlt hL hdir (by simp [isPure, hk]))
        rw [← hH] at hcg
        exact astep_sound hS R Tr G hcg hob fun u w' β' R' S hr => next _ _ _ ⟨fun _ => rfl, fun h => by simp [isEff, hk] at h⟩ (rel_put S0 Tr G hN hdef R' S hr _ (hd i hlt))
    | false =>
      rw [if_neg (by simp)]
      obtain ⟨hv, hHi⟩ := hsk rfl
      refine next HS _ _ ⟨fun h => ?_, fun _ => rfl⟩ ?_
      · have hp : isPure C (opAt ops i) = false := by
          unfold isEff at h
          unfold isPure
          cases hk : kindOf C (opAt ops i) <;> simp_all
        rw [hHi]
        exact I.heap i (by omega) (inv_heap F I hlt hL hdir hp)
      · rw [hv]
        exact rel_put S0 Tr G hN hdef R (StepR.refl _ _ _ R.len) rep_skip _ (hd i hlt)

end
end Go.Proofs.YtankjfiaajpfoaaDoor
