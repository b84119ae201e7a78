/-
  Texts joined: AmY AmM S1 T Kit KitBytes Plain Upper Upper2 Words Plain2 Shelf Reserved S0 S2 S3 S4 S5 S6 S7 S8 B2 B1 P1 Iter B3 B4.
-/
import Derived.Test.YtgjljfbohpnfcaaGreatX3
import Derived.Test.YtgjljfbohpnfcaaGreatChecked
import Derived.WalkKit
import Derived.WalkSpells
import Derived.WalkLawsBesides
import Derived.Lib.Hide
import Derived.Deep.QuietTactic
import Derived.BigQuiet
import Derived.Laws.IdiomStrings
import Derived.Lib.IndexMore
import Derived.Laws.Strings
import Derived.Shelf.Small.Bits
import Derived.Shelf.Strconv.Itoa0
import Derived.Shelf.Strings.Search1
import Derived.Shelf.Strings.Search2
import Derived.Shelf.Strings.Search3
import Derived.Shelf.LaysM
import Derived.Shelf.Strings.Shaped
import Derived.Shelf.GgClosure.StringsIndexFunc
import Derived.Ground.GgwProg
import Derived.Shelf.GgClosure.StringsIndexFuncTop
import Derived.Shelf.GgClosure.StringsRunes
import Derived.Shelf.Strings.FuncGrows
import Derived.Shelf.Slices.Turned
import Derived.Ground.SlgmProg
import Derived.Shelf.SortM.Plain
import Derived.Test.YtgjljfbohpnfcaaGreatProg
import Derived.Laws.RangeAny
import Derived.Sort.Walk0
import Derived.Sort.KeysCollected
import Derived.Shelf.SlIter.Nil
import Derived.Shelf.SortM.SortNone
import Derived.Ground.GgzProg

namespace Go.Proofs.YtgjljfbohpnfcaaGreat
open Go.RowKit
set_option linter.unusedVariables false
def reown (l : Nat) : AV → AV
  | .own _ n => .own l n
  | v => v
theorem reown_deep {l : Nat} {v : AV} (h : v.isDeep = true) : reown l v = v := by cases v <;> first | rfl | cases h
theorem reown_deepArg {l : Nat} {v : AV} (h : v.deepArg = true) : reown l v = v := by cases v <;> first | rfl | cases h
structure BK2 (σ : Type) where
  raw : σ → List AV
  V : σ → Blk
  n : σ → Nat
  un : Blk → Blk → σ
  pos : Blk → Nat
  sz : Nat
  e : TypeId
  vsz : Nat
  ve : TypeId
  hraw : ∀ s c, c ∈ raw s → c.isDeep = true ∨ c = .own 1 (n s)
  hdeep : ∀ s, (V s).deep = true
  hmu : ∀ s, (V s).mu = true
  hsz : ∀ s, (V s).sz = vsz
  he : ∀ s, (V s).e = ve
  un_B : ∀ s l, un ⟨e, sz, [(raw s).map (reown l)], true, false⟩ (V s) = s
  pos_B : ∀ s l, pos ⟨e, sz, [(raw s).map (reown l)], true, false⟩ = l
section
variable {σ : Type} (K : BK2 σ)
def BK2.A (s : σ) (l : Nat) : Blk := ⟨K.e, K.sz, [(K.raw s).map (reown l)], true, false⟩
theorem BK2.un_A (s : σ) (l : Nat) : K.un (K.A s l) (K.V s) = s := K.un_B s l
theorem BK2.pos_A (s : σ) (l : Nat) : K.pos (K.A s l) = l := K.pos_B s l
def gM2 (f : List AV → Option ((σ → Prop) × (σ → σ))) : List AV → List Blk → Option (Prop × AV × List Blk) := fun args H =>
  match args with
  | .ptr p n sz i g :: rest => if n = 1 ∧ sz = K.sz ∧ i = 0 ∧ g = 0 then
      match H[p]? with
      | some a => match H[K.pos a]?, f (rest.map (reown 1)) with
        | some b, some (pr, st) => some ((p ≠ K.pos a ∧ a = K.A (K.un a b) (K.pos a) ∧ b = K.V (K.un a b) ∧ (∀ v ∈ rest, v.deepArg = true ∨ v = .own (K.pos a) (K.n (K.un a b)))) ∧ pr (K.un a b), .tup [], (H.set p (K.A (st (K.un a b)) (K.pos a))).set (K.pos a) (K.V (st (K.un a b))))
        | _, _ => none
      | none => none
    else none
  | _ => none
def gM2c (f : List AV → Option ((σ → Prop) × (σ → σ))) : List AV → List Blk → Option (Prop × AV × List Blk) := fun args H =>
  match args, H with
  | .ptr 0 n sz i g :: rest, [a, b] => if n = 1 ∧ sz = K.sz ∧ i = 0 ∧ g = 0 then
      match f rest with
      | some (pr, st) => some ((a = K.A (K.un a b) 1 ∧ b = K.V (K.un a b) ∧ (∀ v ∈ rest, v.deepArg = true ∨ v = .own 1 (K.n (K.un a b)))) ∧ pr (K.un a b), .tup [], [K.A (st (K.un a b)) 1, K.V (st (K.un a b))])
      | none => none
    else none
  | _, _ => none
theorem gM2_eq {f : List AV → Option ((σ → Prop) × (σ → σ))} {p l : Nat} {rest : List AV} {H : List Blk} {s : σ} {pr : σ → Prop} {st : σ → σ} (hp : H[p]? = some (K.A s l)) (hl : H[l]? = some (K.V s)) (hf : f (rest.map (reown 1)) = some (pr, st)) :
    gM2 K f (.ptr p 1 K.sz 0 0 :: rest) H = some ((p ≠ l ∧ ∀ v ∈ rest, v.deepArg = true ∨ v = .own l (K.n s)) ∧ pr s, .tup [], (H.set p (K.A (st s) l)).set l (K.V (st s))) := by
  simp only [gM2, hp, K.pos_A, hl, hf, K.un_A, and_self, if_true, true_and]
theorem gM2c_inv {f : List AV → Option ((σ → Prop) × (σ → σ))} {args : List AV} {H : List Blk} {ob : Prop} {r : AV} {H' : List Blk} (h : gM2c K f args H = some (ob, r, H')) (hob : ob) :
    ∃ rest s p st, args = .ptr 0 1 K.sz 0 0 :: rest ∧ H = [K.A s 1, K.V s] ∧ f rest = some (p, st) ∧ p s ∧ r = .tup [] ∧ H' = [K.A (st s) 1, K.V (st s)] ∧ ∀ v ∈ rest, v.deepArg = true ∨ v = .own 1 (K.n s) := by
  unfold gM2c at h
  split at h
  · rename_i a b
    split at h
    · rename_i hc
      obtain ⟨rfl, rfl, rfl, rfl⟩ := hc
      split at h
      · rename_i hf
        simp only [Option.some.injEq, Prod.mk.injEq] at h
        obtain ⟨h1, h2, h3⟩ := h
        subst h1
        exact ⟨_, K.un a b, _, _, rfl, by rw [← hob.1.1, ← hob.1.2.1], hf, hob.2, h2.symm, h3.symm, hob.1.2.2⟩
      · cases h
    · cases h
  · cases h
theorem gen_frame2 {P : Program} {G : Nat → AV} {fn : FuncId} {f : List AV → Option ((σ → Prop) × (σ → σ))} (h : GenOK P G fn (gM2c K f)) : GenOK P G fn (gM2 K f) := by
  intro w X β H args avs ob r H' R hG hsz harg hg hob
  unfold gM2 at hg
  split at hg
  case h_2 => cases hg
  rename_i p n sz i g rest
  split at hg
  case isFalse => cases hg
  rename_i hc
  obtain ⟨rfl, rfl, rfl, rfl⟩ := hc
  split at hg
  case h_2 => cases hg
  rename_i a hpa
  split at hg
  case h_2 => cases hg
  rename_i b pr st hlb hf
  simp only [Option.some.injEq, Prod.mk.injEq] at hg
  obtain ⟨rfl, rfl, rfl⟩ := hg
  obtain ⟨⟨hpl, ha, hb, hrest⟩, hpr⟩ := hob
  generalize K.un a b = s at *
  generalize K.pos a = l at *
  subst ha hb
  -- where the two blocks lie
  obtain ⟨v0, ha0, hr0⟩ := harg 0 _ rfl
  obtain ⟨ad, b0, rfl, hb0, hn0, hx0⟩ := rep_ptr hr0
  rw [hpa] at hb0
  injection hb0 with hb0
  subst hb0
  obtain ⟨bp, cp, hβp, rfl⟩ := hx0 rfl rfl Nat.zero_lt_one
  obtain ⟨bl, hβl⟩ := get_of_len R.len.symm hlb
  have hplt : p < H.length := (List.getElem?_eq_some_iff.1 hpa).1
  have hllt : l < H.length := (List.getElem?_eq_some_iff.1 hlb).1
  let X1 : Nat → Prop := fun q => Mu X β H q ∧ q ≠ bp ∧ ∀ c, bl ≠ .lies q c
  have hmu1 : ∀ (t : σ) q, Mu X1 [BI.lies bp cp, bl] [K.A t 1, K.V t] q → Mu X β H q := by
    rintro t q (h | ⟨j, c, blk, h1, h2, h3⟩)
    · exact h.1
    · match j, h1 with
      | 0, h1 =>
        simp at h1
        obtain ⟨rfl, rfl⟩ := h1
        exact .inr ⟨p, cp, _, hβp, hpa, rfl⟩
      | 1, h1 =>
        simp at h1
        subst h1
        exact .inr ⟨l, c, _, hβl, hlb, K.hmu s⟩
      | j + 2, h1 => simp at h1
  have hBp := R.blk p _ _ hβp hpa
  have hBl := R.blk l _ _ hβl hlb
  have hown : ∀ {n : Nat} {v : Value}, Rep w (Mu X β H) β H v (.own l n) → Rep w (Mu X1 [BI.lies bp cp, bl] [K.A s 1, K.V s]) [BI.lies bp cp, bl] [K.A s 1, K.V s] v (.own 1 n) := by
    intro n v hv
    cases hv with
    | deep h => cases h
    | own _ _ a cap b hb hn h0 hc hx =>
      rw [hlb] at hb
      injection hb with hb
      subst hb
      exact .own 1 n a cap (K.V s) rfl hn h0 hc fun e => by have := hx e; rw [hβl] at this; exact this
  have R1 : HRel w X1 [BI.lies bp cp, bl] [K.A s 1, K.V s] := by
    refine ⟨rfl, fun j bi b h1 h2 => ?_, fun j b c h1 => ?_, fun j j' b c c' h1 h2 => ?_, fun q hq => R.mu_lt q hq.1⟩
    · match j, h1, h2 with
      | 0, h1, h2 =>
        simp at h1 h2
        subst h1 h2
        obtain ⟨cur, k1, k2, k3, k4, k5, k6, k7⟩ := hBp
        refine ⟨cur, k1, k2, k3, k4, k5, fun r hr => ?_, fun i j r av hr hj => ?_⟩
        · have := k6 _ (List.mem_singleton.2 rfl)
          simp only [BK2.A, List.mem_singleton] at hr
          subst hr
          simpa [BK2.A] using this
        · match i, hr with
          | i + 1, hr => simp [BK2.A] at hr
          | 0, hr =>
            simp [BK2.A] at hr
            subst hr
            rw [List.getElem?_map] at hj
            obtain ⟨c, hc, rfl⟩ := Option.map_eq_some_iff.1 hj
            obtain ⟨v, q1, q2, q3, q4⟩ := k7 0 j _ (reown l c) rfl (by rw [List.getElem?_map, hc]; rfl)
            refine ⟨v, q1, q2, ?_, fun hd => by cases hd⟩
            rcases K.hraw s c (List.mem_of_getElem? hc) with hd | rfl
            · rw [reown_deep hd] at q3 ⊢
              exact .deep ((rep_deep hd q3).mono fun b _ hb => hmu1 s b hb)
            · exact hown q3
      | 1, h1, h2 =>
        simp at h1 h2
        subst h1 h2
        cases bl with
        | nil => exact hBl
        | lies bk cap =>
          obtain ⟨cur, k1, k2, k3, k4, k5, k6, k7⟩ := hBl
          refine ⟨cur, k1, k2, k3, k4, k5, k6, fun i j r av hr hj => ?_⟩
          obtain ⟨v, q1, q2, q3, q4⟩ := k7 i j r av hr hj
          have hv := (q4 (K.hdeep s)).mono (X' := Mu X1 [BI.lies bp cp, .lies bk cap] [K.A s 1, K.V s]) fun b _ hb => hmu1 s b hb
          exact ⟨v, q1, q2, .deep hv, fun _ => hv⟩
      | j + 2, h1, _ => simp at h1
    · match j, h1 with
      | 0, h1 =>
        simp at h1
        obtain ⟨rfl, rfl⟩ := h1
        exact ⟨(R.lt p bp cp hβp).1, fun hx => hx.2.1 rfl⟩
      | 1, h1 =>
        simp at h1
        subst h1
        exact ⟨(R.lt l b c hβl).1, fun hx => hx.2.2 c rfl⟩
      | j + 2, h1 => simp at h1
    · match j, j', h1, h2 with
      | 0, 0, _, _ => rfl
      | 1, 1, _, _ => rfl
      | 0, 1, h1, h2 =>
        simp at h1 h2
        obtain ⟨rfl, rfl⟩ := h1
        subst h2
        exact absurd (R.inj p l _ _ _ hβp hβl) hpl
      | 1, 0, h1, h2 =>
        simp at h1 h2
        obtain ⟨rfl, rfl⟩ := h2
        subst h1
        exact absurd (R.inj p l _ _ _ hβp hβl) hpl
      | j + 2, _, h1, _ => simp at h1
      | 0, j' + 2, _, h2 => simp at h2
      | 1, j' + 2, _, h2 => simp at h2
  have hcall := h w X1 [BI.lies bp cp, bl] [K.A s 1, K.V s] args (.ptr 0 1 K.sz 0 0 :: rest.map (reown 1)) ((K.A s 1 = K.A (K.un (K.A s 1) (K.V s)) 1 ∧ K.V s = K.V (K.un (K.A s 1) (K.V s)) ∧ (∀ v ∈ rest.map (reown 1), v.deepArg = true ∨ v = .own 1 (K.n (K.un (K.A s 1) (K.V s))))) ∧ pr (K.un (K.A s 1) (K.V s))) (.tup []) [K.A (st (K.un (K.A s 1) (K.V s))) 1, K.V (st (K.un (K.A s 1) (K.V s)))] R1 (fun k => (hG k).mono fun b _ hb => hmu1 s b hb) (by simpa using hsz) (fun j u hj => ?_) (by simp [gM2c, hf]) (by
    rw [K.un_A]
    refine ⟨⟨rfl, rfl, fun v hv => ?_⟩, hpr⟩
    obtain ⟨u, hu, rfl⟩ := List.mem_map.1 hv
    rcases hrest u hu with hd | rfl
    · rw [reown_deepArg hd]; exact .inl hd
    · exact .inr rfl)
  case refine_1 =>
    match j, hj with
    | 0, hj =>
      simp at hj
      subst hj
      exact ⟨_, ha0, .ptr 0 1 K.sz 0 0 _ (K.A s 1) rfl (Nat.le_refl _) fun _ _ _ => ⟨bp, cp, rfl, rfl⟩⟩
    | j + 1, hj =>
      simp only [List.getElem?_cons_succ, List.getElem?_map] at hj
      obtain ⟨u0, hu0, rfl⟩ := Option.map_eq_some_iff.1 hj
      obtain ⟨v, h1, h2⟩ := harg (j + 1) u0 (by simpa using hu0)
      rcases hrest u0 (List.mem_of_getElem? hu0) with hd | rfl
      · rw [reown_deepArg hd]
        exact ⟨v, h1, .deep ((rep_deepArg hd h2).mono fun b _ hb => hmu1 s b hb)⟩
      · exact ⟨v, h1, hown h2⟩
  rw [K.un_A] at hcall
  refine hcall.mono ?_
  rintro en w' ⟨v, β1, rfl, R1', S1, hv⟩
  obtain ⟨bl', hβ1⟩ : ∃ bl', β1 = [BI.lies bp cp, bl'] := by
    obtain ⟨b', e1, _, _, _, e2, _⟩ := S1.grow.old 0 _ rfl
    simp at e1
    have e3 := e2 (by rw [← e1]; rfl)
    have hlen := R1'.len
    match β1, hlen, e3 with
    | [x, y], _, e3 => simp at e3; rw [e3]; exact ⟨y, rfl⟩
  subst hβ1
  have hnew : ∀ b c, bl' = .lies b c → w.heap.size ≤ b ∨ ∃ c', bl = .lies b c' := fun b c e => by
    rcases S1.grow.at_ 1 b c (by rw [e]; rfl) with q | ⟨c', q⟩
    · exact .inl q
    · exact .inr ⟨c', by simpa using q⟩
  have hp' : ((H.set p (K.A (st s) l)).set l (K.V (st s)))[p]? = some (K.A (st s) l) := by
    rw [List.getElem?_set_ne fun e => hpl e.symm, List.getElem?_set_self hplt]
  have hl' : ((H.set p (K.A (st s) l)).set l (K.V (st s)))[l]? = some (K.V (st s)) := List.getElem?_set_self (by simpa using hllt)
  have hne : ∀ j, j ≠ p → j ≠ l → ((H.set p (K.A (st s) l)).set l (K.V (st s)))[j]? = H[j]? := fun j h1 h2 => by
    rw [List.getElem?_set_ne fun e => h2 e.symm, List.getElem?_set_ne fun e => h1 e.symm]
  have hβp' : (β.set l bl')[p]? = some (BI.lies bp cp) := by rw [List.getElem?_set_ne fun e => hpl e.symm, hβp]
  have hβl' : (β.set l bl')[l]? = some bl' := List.getElem?_set_self (by rw [R.len]; exact hllt)
  have hβne : ∀ j, j ≠ l → (β.set l bl')[j]? = β[j]? := fun j h => List.getElem?_set_ne fun e => h e.symm
  generalize hH' : (H.set p (K.A (st s) l)).set l (K.V (st s)) = H' at *
  generalize hβ' : β.set l bl' = β' at *
  have hMu1 : ∀ q, Mu X β' H' q → Mu X1 [BI.lies bp cp, bl'] [K.A (st s) 1, K.V (st s)] q := by
    rintro q (hq | ⟨j, c, blk, h1, h2, h3⟩)
    · refine .inl ⟨.inl hq, fun e => ?_, fun c e => ?_⟩
      · subst e; exact (R.lt p _ _ hβp).2 hq
      · subst e; exact (R.lt l _ _ hβl).2 hq
    · by_cases e : j = p
      · subst e
        rw [hβp'] at h1
        simp at h1
        obtain ⟨rfl, rfl⟩ := h1
        exact .inr ⟨0, cp, _, rfl, rfl, rfl⟩
      by_cases e2 : j = l
      · subst e2
        rw [hβl'] at h1
        simp at h1
        subst h1
        exact .inr ⟨1, c, _, rfl, rfl, K.hmu _⟩
      · rw [hβne j e2] at h1
        rw [hne j e e2] at h2
        refine .inl ⟨.inr ⟨j, c, blk, h1, h2, h3⟩, fun q => ?_, fun c' q => ?_⟩
        · subst q; exact e (R.inj j p _ _ _ h1 hβp)
        · subst q; exact e2 (R.inj j l _ _ _ h1 hβl)
  have hMB : ∀ q, MutB [BI.lies bp cp, bl] [K.A s 1, K.V s] q → ∃ j c, (j = p ∨ j = l) ∧ β[j]? = some (BI.lies q c) ∧ MutB β H q := by
    rintro q ⟨j, c, blk, h1, h2, h3⟩
    match j, h1 with
    | 0, h1 =>
      simp at h1
      obtain ⟨rfl, rfl⟩ := h1
      exact ⟨p, cp, .inl rfl, hβp, p, cp, _, hβp, hpa, rfl⟩
    | 1, h1 =>
      simp at h1
      subst h1
      exact ⟨l, c, .inr rfl, hβl, l, c, _, hβl, hlb, K.hmu s⟩
    | j + 2, h1 => simp at h1
  have S : StepR w β H w' β' H' := by
    refine ⟨S1.keeps.weaken fun q hq hm => ?_, ⟨fun j b0 h => ?_, fun j bk c h => ?_⟩, R.len⟩
    · obtain ⟨_, _, _, _, h⟩ := hMB q hm
      exact h
    · by_cases e : j = p
      · subst e
        rw [hpa] at h
        injection h with h
        subst h
        exact ⟨_, hp', rfl, rfl, Nat.le_refl _, fun _ => by rw [hβp', hβp], fun _ => rfl⟩
      by_cases e2 : j = l
      · subst e2
        rw [hlb] at h
        injection h with h
        subst h
        obtain ⟨b', e1, e3, e4, e5, e6, e7⟩ := S1.grow.old 1 _ rfl
        simp at e1
        subst e1
        refine ⟨_, hl', e3, e4, e5, fun q => ?_, fun _ => K.hmu s⟩
        have := e6 q
        simp at this
        rw [hβl', hβl, this]
      · exact ⟨b0, (hne j e e2).trans h, rfl, rfl, Nat.le_refl _, fun _ => hβne j e2, id⟩
    · by_cases e2 : j = l
      · subst e2
        rw [hβl'] at h
        injection h with h
        rcases hnew bk c h with q | ⟨c', q⟩
        · exact .inl q
        · exact .inr ⟨c', by rw [hβl, q]⟩
      · rw [hβne j e2] at h
        exact .inr ⟨c, h⟩
  have R' : HRel w' X β' H' := by
    refine ⟨by rw [← hH', ← hβ']; simp [R.len], fun j bi b0 h1 h2 => ?_, fun j b c h1 => ?_, fun j j' b c c' h1 h2 => ?_, fun q hq => Nat.lt_of_lt_of_le (R.base q hq) S1.keeps.size⟩
    · by_cases e : j = p
      · subst e
        rw [hp'] at h2
        injection h2 with h2
        subst h2
        rw [hβp'] at h1
        injection h1 with h1
        subst h1
        obtain ⟨cur, k1, k2, k3, k4, k5, k6, k7⟩ := R1'.blk 0 _ _ rfl rfl
        refine ⟨cur, k1, k2, k3, k4, k5, fun r hr => ?_, fun i j r av hr hj => ?_⟩
        · have := k6 _ (List.mem_singleton.2 rfl)
          simp only [BK2.A, List.mem_singleton] at hr
          subst hr
          simpa [BK2.A] using this
        · match i, hr with
          | i + 1, hr => simp [BK2.A] at hr
          | 0, hr =>
            simp [BK2.A] at hr
            subst hr
            rw [List.getElem?_map] at hj
            obtain ⟨c, hc, rfl⟩ := Option.map_eq_some_iff.1 hj
            obtain ⟨v, q1, q2, q3, q4⟩ := k7 0 j _ (reown 1 c) rfl (by rw [List.getElem?_map, hc]; rfl)
            refine ⟨v, q1, q2, ?_, fun hd => by cases hd⟩
            rcases K.hraw (st s) c (List.mem_of_getElem? hc) with hd | rfl
            · rw [reown_deep hd] at q3 ⊢
              exact .deep ((rep_deep hd q3).mono fun b _ hb => hMu1 b hb)
            · cases q3 with
              | deep h => cases h
              | own _ _ a cap b hb hn h0 hc hx =>
                simp at hb
                subst hb
                exact .own l _ a cap (K.V (st s)) hl' hn h0 hc fun e => by rw [hβl']; exact hx e
      by_cases e2 : j = l
      · subst e2
        rw [hl'] at h2
        injection h2 with h2
        subst h2
        rw [hβl'] at h1
        injection h1 with h1
        subst h1
        have hB := R1'.blk 1 _ _ rfl rfl
        cases bl' with
        | nil => exact hB
        | lies bk cap =>
          obtain ⟨cur, k1, k2, k3, k4, k5, k6, k7⟩ := hB
          refine ⟨cur, k1, k2, k3, k4, k5, k6, fun i j r av hr hj => ?_⟩
          obtain ⟨v, q1, q2, q3, q4⟩ := k7 i j r av hr hj
          have hv := (q4 (K.hdeep _)).mono fun b _ hb => hMu1 b hb
          exact ⟨v, q1, q2, .deep hv, fun _ => hv⟩
      · rw [hne j e e2] at h2
        rw [hβne j e2] at h1
        refine (R.blk j bi b0 h1 h2).keep S fun bk' c hbi => ?_
        subst hbi
        refine S1.keeps.block bk' (R.lt j bk' c h1).1 fun hm => ?_
        obtain ⟨i, c', hi, q, _⟩ := hMB _ hm
        have := R.inj j i bk' c c' h1 q
        rcases hi with rfl | rfl
        · exact e this
        · exact e2 this
    · by_cases e2 : j = l
      · subst e2
        rw [hβl'] at h1
        injection h1 with h1
        refine ⟨(R1'.lt 1 b c (by rw [h1]; rfl)).1, fun hx => ?_⟩
        rcases hnew b c h1 with q | ⟨c', q⟩
        · exact absurd (R.base b hx) (by omega)
        · exact (R.lt j b c' (by rw [hβl, q])).2 hx
      · rw [hβne j e2] at h1
        exact ⟨Nat.lt_of_lt_of_le (R.lt j b c h1).1 S1.keeps.size, (R.lt j b c h1).2⟩
    · have hone : ∀ i, i ≠ l → ∀ d d', β'[i]? = some (BI.lies b d) → bl' = .lies b d' → False := fun i hi d d' q1 q2 => by
        rw [hβne i hi] at q1
        rcases hnew b d' q2 with q | ⟨c', q⟩
        · have := (R.lt i b d q1).1; omega
        · exact hi (R.inj i l b d c' q1 (by rw [hβl, q]))
      by_cases e : j = l
      · by_cases e' : j' = l
        · rw [e, e']
        · subst e
          rw [hβl'] at h1
          injection h1 with h1
          exact (hone j' e' c' c h2 h1).elim
      · by_cases e' : j' = l
        · subst e'
          rw [hβl'] at h2
          injection h2 with h2
          exact (hone j e c c' h1 h2).elim
        · rw [hβne j e] at h1
          rw [hβne j' e'] at h2
          exact R.inj j j' b c c' h1 h2
  refine ⟨v, β', rfl, R', S, ?_⟩
  obtain ⟨cs, val, rfl, c1, _, _⟩ := rep_tup hv
  exact .tup cs [] val c1 (fun j hj => by simp at hj) (fun j u hj => by simp at hj)
end
end Go.Proofs.YtgjljfbohpnfcaaGreat
namespace Go.Proofs.YtgjljfbohpnfcaaGreat
open Go.RowKit
set_option linter.unusedVariables false
theorem gen_ofAW {C : Ctx} {f : FuncId} {fn : Func} {body : Code} {rs : List ResultVar} {n : Nat} (hf : C.P.funcs[f]? = some fn) (hb : fn.body = some body) (hrs : fn.results.toList = rs) (hn : fn.ntmps = n) {g : List AV → List Blk → Option (Prop × AV × List Blk)}
    (h : ∀ avs H ob r H', g avs H = some (ob, r, H') → ob → avs.length ≤ n ∧ AW C n H.length body ⟨argsρ 0 avs, H⟩ fun ex st' => (ex = .normal ∨ ex = .ret) ∧ ∃ ob', aresults C st' rs = some (ob', r) ∧ ob' ∧ st'.H = H') : GenOK C.P C.G f g := by
  subst hrs hn
  intro w X β H args avs ob r H' R hG hsz harg hp hob
  obtain ⟨hlen, hav⟩ := h avs H ob r H' hp hob
  refine calls_of_wp hf hb ?_
  have hr : Rel C fn.ntmps X w β H ⟨argsρ 0 avs, H⟩ { tmps := args ++ Array.replicate (fn.ntmps - args.size) undef, defers := [] } w :=
    ⟨β, R, StepR.refl _ _ _ R.len, trel_args hsz harg, hG, by simp; omega, rfl⟩
  refine Code.wp_mono (fun ex a' w' ⟨st', hq, hr'⟩ => ?_) (hav X w β H _ w rfl hr)
  obtain ⟨hex, ob', hres, hob', hH⟩ := hq
  obtain ⟨β', R', S', T', G', hN', hdef'⟩ := hr'
  obtain ⟨u, hu, hrep⟩ := aresults_sound R' T' hres hob'
  subst hH
  have hpost : bodyPost C.P fn (fun e w' => ∃ v β', e = .returned v ∧ HRel w' X β' st'.H ∧ StepR w β H w' β' st'.H ∧ Rep w' (Mu X β' st'.H) β' st'.H v r) .normal a' w' :=
    ⟨hdef', u, hu, u, β', rfl, R', S', hrep⟩
  rcases hex with rfl | rfl
  · exact hpost
  · exact hpost
def sq1 : Code → Code
  | .seq a _ => a
  | c => c
def sq2 : Code → Code
  | .seq _ b => b
  | c => c
def cd1 : Code → Code
  | .cond _ a _ => a
  | c => c
def cd2 : Code → Code
  | .cond _ _ b => b
  | c => c
def inCd : Code → Code
  | .block _ b => b
  | .loop b => b
  | c => c
section
variable {C : Ctx} {N h0 : Nat}
theorem AW_fin {a : Code} {st : ASt} {Q : Exit → ASt → Prop} (S : ASt) (h1 : AW C N h0 a st (fun ex st' => ex = .normal ∧ Weak C N h0 st' S)) (hQ : Q .normal S) : AW C N h0 a st Q :=
  fun X w0 β0 H0 x w hl hr => Code.wp_mono (fun ex a' w' ⟨st', ⟨he, hw⟩, hr'⟩ => by
    subst he
    exact ⟨S, hQ, hw X w0 β0 H0 a' w' hl hr'⟩) (h1 X w0 β0 H0 x w hl hr)
end
end Go.Proofs.YtgjljfbohpnfcaaGreat


namespace Go.Proofs.YtgjljfbohpnfcaaGreat
open Go.RowKit
def prmA (π : Nat → Nat) : AV → AV
  | .own l n => .own (π l) n
  | .osl l n sz o k => .osl (π l) n sz o k
  | .ptr l n sz i f => .ptr (π l) n sz i f
  | v => v
def prmB (π : Nat → Nat) (b : Blk) : Blk := { b with rows := b.rows.map fun r => r.map (prmA π) }
theorem prmA_deep {w : World} {X : Nat → Prop} {π : Nat → Nat} {v : Value} {av : AV} (h : RepD w X v av) : RepD w X v (prmA π av) := by
  cases h <;> (unfold prmA; first | (constructor <;> assumption) | skip)
  all_goals (constructor <;> assumption)
section
variable {C : Ctx} {N h0 : Nat}
theorem prmA_rep {w : World} {X : Nat → Prop} {β β' : List BI} {H H' : List Blk} {π : Nat → Nat} (hM : ∀ b, Mu X β' H' b → Mu X β H b) (hB : ∀ l b, H[l]? = some b → H'[π l]? = some (prmB π b) ∧ β'[π l]? = β[l]?) {v : Value} {av : AV} (hc : av.clean1 H.length = true) (h : Rep w (Mu X β H) β H v av) : Rep w (Mu X β' H') β' H' v (prmA π av) := by
  cases h with
  | deep h => exact .deep ((prmA_deep h).mono fun b _ hb => hM b hb)
  | own l n a cap b hb hn h0 hc' hx =>
    obtain ⟨h1, h2⟩ := hB l b hb
    refine .own (π l) n a cap (prmB π b) h1 (by simpa [prmB] using hn) h0 hc' fun e => ?_
    rw [h2]
    exact hx (by simpa [prmB] using e)
  | osl l n sz off len a cap b hb hn hle h0 hc' hx =>
    obtain ⟨h1, h2⟩ := hB l b hb
    refine .osl (π l) n sz off len a cap (prmB π b) h1 (by simpa [prmB] using hn) hle h0 hc' fun e e2 => ?_
    rw [h2]
    exact hx (by simpa [prmB] using e) e2
  | ptr l n sz i f a b hb hn hx =>
    obtain ⟨h1, h2⟩ := hB l b hb
    refine .ptr (π l) n sz i f a (prmB π b) h1 (by simpa [prmB] using hn) fun e1 e2 e3 => ?_
    rw [h2]
    exact hx (by simpa [prmB] using e1) e2 e3
  | agg cs cells val hl hm hv => cases hc
  | tup cs cells val hl hm hv => cases hc
  | fn f cs cells val hl hm hv => exact .fn f cs cells val hl hm fun j u hj => .deep ((rep_deep (List.all_eq_true.1 hc u (List.mem_of_getElem? hj)) (hv j u hj)).mono fun b _ hb => hM b hb)
theorem weak_perm {ρ ρ' : List (Nat × AV)} {H H' : List Blk} (π π' : Nat → Nat) (hπ : ∀ l, l < H.length → π l < H.length ∧ π' (π l) = l) (hπ' : ∀ l, l < H.length → π' l < H.length ∧ π (π' l) = l) (h0π : ∀ l, l < h0 → π l = l)
    (hH : ∀ b ∈ H, ∀ r ∈ b.rows, ∀ c ∈ r, c.clean1 H.length = true) (hL : H'.length = H.length) (hH' : ∀ l b, H[l]? = some b → H'[π l]? = some (prmB π b))
    (hρ : ∀ p ∈ ρ', p.2 = prmA π (getA ρ p.1) ∧ (getA ρ p.1).clean1 H.length = true) : Weak C N h0 ⟨ρ, H⟩ ⟨ρ', H'⟩ := by
  intro X w0 β0 H0 a w hl hr
  obtain ⟨β, R, S0, Tr, G, hN, hdef⟩ := hr
  have hlen : β.length = H.length := R.len
  obtain ⟨β', hβl, hβ1⟩ : ∃ β' : List BI, β'.length = H.length ∧ ∀ l, l < H.length → β'[l]? = β[π' l]? := by
    refine ⟨(List.range H.length).map fun l => β.getD (π' l) .nil, by simp, fun l hl => ?_⟩
    have h2 := (hπ' l hl).1
    rw [List.getElem?_map, List.getElem?_range hl]
    simp only [Option.map_some, List.getD_eq_getElem?_getD]
    rw [List.getElem?_eq_getElem (show π' l < β.length by omega)]
    rfl
  have hb1 : ∀ l, l < H.length → β'[π l]? = β[l]? := fun l hl => by rw [hβ1 _ (hπ l hl).1, (hπ l hl).2]
  have hB : ∀ l b, H[l]? = some b → H'[π l]? = some (prmB π b) ∧ β'[π l]? = β[l]? := fun l b h => ⟨hH' l b h, hb1 l (List.getElem?_eq_some_iff.1 h).1⟩
  -- back: block l' is block π' l'
  have back : ∀ l' b', H'[l']? = some b' → ∃ l b, l' = π l ∧ H[l]? = some b ∧ b' = prmB π b := fun l' b' h => by
    have hl' : l' < H.length := by rw [← hL]; exact (List.getElem?_eq_some_iff.1 h).1
    obtain ⟨h1, h2⟩ := hπ' l' hl'
    obtain ⟨b, hb⟩ : ∃ b, H[π' l']? = some b := ⟨H[π' l'], List.getElem?_eq_getElem h1⟩
    have := hH' _ _ hb
    rw [h2, h] at this
    injection this with this
    exact ⟨_, b, h2.symm, hb, this⟩
  have backβ : ∀ l' x, β'[l']? = some x → ∃ l, l < H.length ∧ l' = π l ∧ β[l]? = some x := fun l' x h => by
    have hl' : l' < H.length := by rw [← hβl]; exact (List.getElem?_eq_some_iff.1 h).1
    obtain ⟨h1, h2⟩ := hπ' l' hl'
    exact ⟨π' l', h1, h2.symm, by rw [← hβ1 l' hl']; exact h⟩
  have hM : ∀ b, Mu X β' H' b → Mu X β H b := fun b h => h.imp id fun ⟨l', c, blk, h1, h2, h3⟩ => by
    obtain ⟨l, b0, rfl, hb, rfl⟩ := back l' blk h2
    exact ⟨l, c, b0, by rw [← (hB l b0 hb).2]; exact h1, hb, h3⟩
  have hold : ∀ l, l < h0 → l < H.length := fun l h => by
    rw [← hl] at h
    obtain ⟨b', e1, _⟩ := S0.grow.old l H0[l] (List.getElem?_eq_getElem h)
    exact (List.getElem?_eq_some_iff.1 e1).1
  refine ⟨β', ⟨by rw [hβl, hL], fun l' bi b' h1 h2 => ?_, fun l' bk c h1 => ?_, fun l l' bk c c' h1 h2 => ?_, R.base⟩, ⟨S0.keeps, ⟨fun l b h => ?_, fun l' bk c h => ?_⟩, S0.len⟩, fun t => ?_, fun g => (G g).mono fun b _ hb => hM b hb, hN, hdef⟩
  · obtain ⟨l, b, rfl, hb, rfl⟩ := back l' b' h2
    rw [(hB l b hb).2] at h1
    have hBk := R.blk l bi b h1 hb
    cases bi with
    | nil => exact ⟨by have := hBk.1; show List.map _ b.rows = []; rw [this]; rfl, hBk.2⟩
    | lies bk cap =>
      obtain ⟨cur, k1, k2, k3, k4, k5, k6, k7⟩ := hBk
      refine ⟨cur, k1, k2, by simpa [prmB] using k3, k4, k5, fun r hr => ?_, fun i j r av hr hj => ?_⟩
      · obtain ⟨r0, hr0, rfl⟩ := List.mem_map.1 hr
        rw [List.length_map]; exact k6 r0 hr0
      · simp only [prmB, List.getElem?_map, Option.map_eq_some_iff] at hr
        obtain ⟨r0, hr0, rfl⟩ := hr
        rw [List.getElem?_map] at hj
        simp only [Option.map_eq_some_iff] at hj
        obtain ⟨av0, hj0, rfl⟩ := hj
        obtain ⟨v, q1, q2, q3, q4⟩ := k7 i j r0 av0 hr0 hj0
        exact ⟨v, q1, q2, prmA_rep hM hB (hH b (List.mem_of_getElem? hb) r0 (List.mem_of_getElem? hr0) av0 (List.mem_of_getElem? hj0)) q3, fun hd => (prmA_deep (q4 hd)).mono fun b _ hb => hM b hb⟩
  · obtain ⟨l, _, rfl, h⟩ := backβ l' _ h1
    exact R.lt l bk c h
  · obtain ⟨m, _, rfl, g1⟩ := backβ l _ h1
    obtain ⟨m', _, rfl, g2⟩ := backβ l' _ h2
    rw [R.inj m m' bk c c' g1 g2]
  · obtain ⟨b', e1, e2, e3, e4, e5, e6⟩ := S0.grow.old l b h
    have hl0 : l < h0 := by rw [← hl]; exact (List.getElem?_eq_some_iff.1 h).1
    have e7 := h0π l hl0
    obtain ⟨g1, g2⟩ := hB l b' e1
    rw [e7] at g1 g2
    exact ⟨prmB π b', g1, e2, e3, by simpa [prmB] using e4, fun e => by rw [g2]; exact e5 (by simpa [prmB] using e), e6⟩
  · obtain ⟨m, hm, rfl, g⟩ := backβ l' _ h
    rcases Nat.lt_or_ge m h0 with hlt | hge
    · rw [h0π m hlt]
      exact S0.grow.at_ m bk c g
    · rcases S0.grow.at_ m bk c g with e | ⟨c', e⟩
      · exact .inl e
      · have := (List.getElem?_eq_some_iff.1 e).1
        have h3 : β0.length = H0.length := S0.len
        omega
  · have key : ∀ L : List (Nat × AV), (∀ p ∈ L, p.2 = prmA π (getA ρ p.1) ∧ (getA ρ p.1).clean1 H.length = true) → getA L t = .undef ∨ (getA L t = prmA π (getA ρ t) ∧ (getA ρ t).clean1 H.length = true) := by
      intro L
      induction L with
      | nil => intro _; exact .inl rfl
      | cons p r ih =>
        intro hp
        obtain ⟨k, v⟩ := p
        simp only [getA]
        split
        · rename_i e
          subst e
          exact .inr (hp (k, v) (by simp))
        · exact ih fun q hq => hp q (List.mem_cons_of_mem _ hq)
    show Rep w _ _ _ _ (getA ρ' t)
    rcases key ρ' hρ with e | ⟨e, hcl⟩
    · rw [e]; exact rep_undef
    · rw [e]; exact prmA_rep hM hB hcl (Tr t)
end
end Go.Proofs.YtgjljfbohpnfcaaGreat
namespace Go.Proofs.YtgjljfbohpnfcaaGreat
open Go.RowKit
def nspec3 {α β γ : Type} [Enc α] [Enc β] [Enc γ] (pre : α → β → γ → Prop) (res : α → β → γ → AV) (bl : α → β → γ → List Blk) : List AV → Option (Prop × AV × List Blk)
  | [a, b, c] => some (nrmV a = Enc.enc (Enc.dec a : α) ∧ nrmV b = Enc.enc (Enc.dec b : β) ∧ nrmV c = Enc.enc (Enc.dec c : γ) ∧ pre (Enc.dec a) (Enc.dec b) (Enc.dec c), res (Enc.dec a) (Enc.dec b) (Enc.dec c), bl (Enc.dec a) (Enc.dec b) (Enc.dec c))
  | _ => none
@[simp] theorem genNew_nspec3 {α β γ : Type} [Enc α] [Enc β] [Enc γ] (pre : α → β → γ → Prop) (res : α → β → γ → AV) (bl : α → β → γ → List Blk) (a b c : AV) (H : List Blk) :
    genNew (nspec3 pre res bl) [a, b, c] H = if a.deepArg && b.deepArg && c.deepArg then some (nrmV a = Enc.enc (Enc.dec a : α) ∧ nrmV b = Enc.enc (Enc.dec b : β) ∧ nrmV c = Enc.enc (Enc.dec c : γ) ∧ pre (Enc.dec a) (Enc.dec b) (Enc.dec c), ren (up H.length) (res (Enc.dec a) (Enc.dec b) (Enc.dec c)), H ++ (bl (Enc.dec a) (Enc.dec b) (Enc.dec c)).map (renB (up H.length))) else none := by
  unfold genNew nspec3
  simp [List.all_cons, Bool.and_assoc]
section
variable {C : Ctx} (hS : SigOK C) (hM : C.P.follows .mixedOrders = true) {f : FuncId} {fn : Func} {body : Code} {rs : List ResultVar} {n : Nat} (hf : C.P.funcs[f]? = some fn) (hb : fn.body = some body) (hrs : fn.results.toList = rs) (hn : fn.ntmps = n) (hd : List Nat)
include hS hM hf hb hrs hn
end
end Go.Proofs.YtgjljfbohpnfcaaGreat


namespace Go.Proofs.YtgjljfbohpnfcaaGreat
attribute [simp] aev gav alook litOf litAV mget mhas acopy asrc adst cav look acallPure abin abinN abinP abinI abinS aun aconv afield afieldAddr aindexAddr aindex aslice alow ahigh abuild abuildGo cellsOf splice fieldTy alen apick amax amin aload headV aparts abuildSlice elParts abytesStr astore amake aappend aclear anew arith aresults aresList ares spec0 spec1 spec2 spec3 spec4 eqCells eqCell
open Go.RowKit
set_option linter.unusedSimpArgs false
set_option linter.unusedVariables false
inductive Val where
  | mk (kind n d : Int) (s : ByteArray) (l : List Val)
namespace Val
def kind : Val → Int | mk k _ _ _ _ => k
def n : Val → Int | mk _ n _ _ _ => n
def d : Val → Int | mk _ _ d _ _ => d
def s : Val → ByteArray | mk _ _ _ s _ => s
def l : Val → List Val | mk _ _ _ _ l => l
@[simp] theorem eta (v : Val) : Val.mk v.kind v.n v.d v.s v.l = v := by cases v; rfl
@[simp] theorem kind_mk (k n d : Int) (s : ByteArray) (l : List Val) : (mk k n d s l).kind = k := rfl
@[simp] theorem n_mk (k n d : Int) (s : ByteArray) (l : List Val) : (mk k n d s l).n = n := rfl
@[simp] theorem d_mk (k n d : Int) (s : ByteArray) (l : List Val) : (mk k n d s l).d = d := rfl
@[simp] theorem s_mk (k n d : Int) (s : ByteArray) (l : List Val) : (mk k n d s l).s = s := rfl
@[simp] theorem l_mk (k n d : Int) (s : ByteArray) (l : List Val) : (mk k n d s l).l = l := rfl
mutual
def cellsV : Val → List AV
  | mk k n d s l => [.int .i64 k, .int .i64 n, .int .i64 d, .str s, .slice 5 false (cellsL l)]
def cellsL : List Val → List (List AV)
  | [] => []
  | v :: r => cellsV v :: cellsL r
end
theorem cellsL_map : ∀ l, cellsL l = l.map cellsV
  | [] => rfl
  | v :: r => by rw [cellsL, cellsL_map r]; rfl
def unc (c : List AV) : Val :=
  match c with
  | [.int _ k, .int _ n, .int _ d, .str s, .slice _ _ rows] => mk k n d s (rows.attach.map fun r => unc r.1)
  | _ => mk 0 0 0 ByteArray.empty []
termination_by SizeOf.sizeOf c
decreasing_by
  have := List.sizeOf_lt_of_mem r.2
  simp
  omega
theorem unc_mk (a b c e : IntKind) (k n d : Int) (s : ByteArray) (sz : Nat) (f : Bool) (rows : List (List AV)) : unc [.int a k, .int b n, .int c d, .str s, .slice sz f rows] = mk k n d s (rows.map unc) := by
  rw [unc]
  simp
mutual
theorem unc_cells : ∀ v : Val, unc (cellsV v) = v
  | mk k n d s l => by rw [cellsV, unc_mk .i64 .i64 .i64 .i64, unc_cellsL l]
theorem unc_cellsL : ∀ l : List Val, (cellsL l).map unc = l
  | [] => rfl
  | v :: r => by rw [cellsL, List.map_cons, unc_cells v, unc_cellsL r]
end
end Val
instance : Inhabited Val := ⟨.mk 0 0 0 ByteArray.empty []⟩
instance : Enc Val where
  sz := 5
  cells := Val.cellsV
  enc v := .agg (Val.cellsV v)
  unc := Val.unc
  dec v := match v with | .agg c => Val.unc c | _ => default
  unc_cells := Val.unc_cells
  dec_enc v := Val.unc_cells v
@[simp] theorem sz_val : Enc.sz Val = 5 := rfl
@[simp] theorem cells_val (v : Val) : Enc.cells v = [.int .i64 v.kind, .int .i64 v.n, .int .i64 v.d, .str v.s, .slice 5 false (encRows v.l)] := by
  cases v
  show Val.cellsV _ = _
  rw [Val.cellsV, Val.cellsL_map]
  rfl
@[simp] theorem enc_val (v : Val) : Enc.enc v = .agg [.int .i64 v.kind, .int .i64 v.n, .int .i64 v.d, .str v.s, .slice 5 false (encRows v.l)] := by rw [← cells_val]; rfl
@[simp] theorem unc_val (a b c : IntKind) (k n d : Int) (s : ByteArray) (sz : Nat) (f : Bool) (rows : List (List AV)) : (Enc.unc [.int a k, .int b n, .int c d, .str s, .slice sz f rows] : Val) = .mk k n d s (Enc.dec (.slice sz f rows)) := Val.unc_mk a b c .i64 k n d s sz f rows
@[simp] theorem dec_val (l : List AV) : (Enc.dec (.agg l) : Val) = Enc.unc l := rfl
inductive Expr where
  | mk (op : Int) (v : Val) (name : ByteArray) (dist : Bool) (kids : List Expr)
namespace Expr
def op : Expr → Int | mk o _ _ _ _ => o
def v : Expr → Val | mk _ v _ _ _ => v
def name : Expr → ByteArray | mk _ _ n _ _ => n
def dist : Expr → Bool | mk _ _ _ d _ => d
def kids : Expr → List Expr | mk _ _ _ _ k => k
@[simp] theorem op_mk (o : Int) (v : Val) (n : ByteArray) (d : Bool) (k : List Expr) : (mk o v n d k).op = o := rfl
@[simp] theorem v_mk (o : Int) (v : Val) (n : ByteArray) (d : Bool) (k : List Expr) : (mk o v n d k).v = v := rfl
@[simp] theorem name_mk (o : Int) (v : Val) (n : ByteArray) (d : Bool) (k : List Expr) : (mk o v n d k).name = n := rfl
@[simp] theorem dist_mk (o : Int) (v : Val) (n : ByteArray) (d : Bool) (k : List Expr) : (mk o v n d k).dist = d := rfl
@[simp] theorem kids_mk (o : Int) (v : Val) (n : ByteArray) (d : Bool) (k : List Expr) : (mk o v n d k).kids = k := rfl
@[simp] theorem eta (e : Expr) : Expr.mk e.op e.v e.name e.dist e.kids = e := by cases e; rfl
mutual
def cellsE : Expr → List AV
  | mk o v n d k => .int .i64 o :: (Val.cellsV v ++ [.str n, .bool d, .slice 9 false (cellsL k)])
def cellsL : List Expr → List (List AV)
  | [] => []
  | e :: r => cellsE e :: cellsL r
end
theorem cellsL_map : ∀ l, cellsL l = l.map cellsE
  | [] => rfl
  | v :: r => by rw [cellsL, cellsL_map r]; rfl
def unc (c : List AV) : Expr :=
  match c with
  | [.int _ o, a, b, c, d, e, .str n, .bool x, .slice _ _ rows] => mk o (Val.unc [a, b, c, d, e]) n x (rows.attach.map fun r => unc r.1)
  | _ => mk 0 default ByteArray.empty false []
termination_by SizeOf.sizeOf c
decreasing_by
  have := List.sizeOf_lt_of_mem r.2
  simp
  omega
theorem unc_mk (i : IntKind) (o : Int) (a b c d e : AV) (n : ByteArray) (x : Bool) (sz : Nat) (f : Bool) (rows : List (List AV)) : unc [.int i o, a, b, c, d, e, .str n, .bool x, .slice sz f rows] = mk o (Val.unc [a, b, c, d, e]) n x (rows.map unc) := by
  rw [unc]
  simp
mutual
theorem unc_cells : ∀ e : Expr, unc (cellsE e) = e
  | mk o v n d k => by
    have h := Val.unc_cells v
    cases v
    rw [Val.cellsV] at h
    rw [cellsE, Val.cellsV]
    simp only [List.cons_append, List.nil_append]
    rw [unc_mk, unc_cellsL k, h]
theorem unc_cellsL : ∀ l : List Expr, (cellsL l).map unc = l
  | [] => rfl
  | v :: r => by rw [cellsL, List.map_cons, unc_cells v, unc_cellsL r]
end
end Expr
instance : Inhabited Expr := ⟨.mk 0 default ByteArray.empty false []⟩
instance : Enc Expr where
  sz := 9
  cells := Expr.cellsE
  enc v := .agg (Expr.cellsE v)
  unc := Expr.unc
  dec v := match v with | .agg c => Expr.unc c | _ => default
  unc_cells := Expr.unc_cells
  dec_enc v := Expr.unc_cells v
@[simp] theorem sz_expr : Enc.sz Expr = 9 := rfl
@[simp] theorem cells_expr (e : Expr) : Enc.cells e = [.int .i64 e.op, .int .i64 e.v.kind, .int .i64 e.v.n, .int .i64 e.v.d, .str e.v.s, .slice 5 false (encRows e.v.l), .str e.name, .bool e.dist, .slice 9 false (encRows e.kids)] := by
  cases e with
  | mk o v n d k =>
    show Expr.cellsE _ = _
    rw [Expr.cellsE, Expr.cellsL_map, show Val.cellsV v = Enc.cells v from rfl, cells_val]
    rfl
@[simp] theorem enc_expr (e : Expr) : Enc.enc e = .agg [.int .i64 e.op, .int .i64 e.v.kind, .int .i64 e.v.n, .int .i64 e.v.d, .str e.v.s, .slice 5 false (encRows e.v.l), .str e.name, .bool e.dist, .slice 9 false (encRows e.kids)] := by rw [← cells_expr]; rfl
@[simp] theorem unc_expr (i : IntKind) (o : Int) (a b c d e : AV) (n : ByteArray) (x : Bool) (sz : Nat) (f : Bool) (rows : List (List AV)) : (Enc.unc [.int i o, a, b, c, d, e, .str n, .bool x, .slice sz f rows] : Expr) = .mk o (Enc.unc [a, b, c, d, e]) n x (Enc.dec (.slice sz f rows)) := Expr.unc_mk i o a b c d e n x sz f rows
@[simp] theorem dec_expr (l : List AV) : (Enc.dec (.agg l) : Expr) = Enc.unc l := rfl
end Go.Proofs.YtgjljfbohpnfcaaGreat


namespace Go.Proofs.YtgjljfbohpnfcaaGreat
open Go.RowKit
set_option maxRecDepth 100000
open Tryz in
@[simp] theorem T_c0 : szT prog 1 = 1 ∧ aggT prog 1 = some false ∧ szT prog 2 = 1 ∧ aggT prog 2 = some false ∧ elT prog 2 = none ∧ arrT prog 2 = none ∧ intT prog 2 = some .i64 ∧ boolT prog 2 = false ∧ byteT prog 2 = false ∧ byT prog 2 = 8 ∧ zT prog 2 = some [.int .i64 0] ∧ szT prog 3 = 1 ∧ aggT prog 3 = some false ∧ elT prog 3 = none ∧ arrT prog 3 = none ∧ intT prog 3 = some .i64 ∧ boolT prog 3 = false ∧ byteT prog 3 = false ∧ byT prog 3 = 8 ∧ zT prog 3 = some [.int .i64 0] ∧ zeroL prog 4 = some (.bool false) ∧ szT prog 4 = 1 ∧ aggT prog 4 = some false ∧ strT prog 4 = false ∧ intT prog 4 = none ∧ boolT prog 4 = true ∧ byteT prog 4 = false ∧ byT prog 4 = 1 ∧ zT prog 4 = some [.bool false] ∧ szT prog 5 = 1 ∧ aggT prog 5 = some false ∧ elT prog 5 = none ∧ arrT prog 5 = none ∧ intT prog 5 = some .u8 ∧ boolT prog 5 = false ∧ byteT prog 5 = true ∧ byT prog 5 = 1 ∧ zT prog 5 = some [.int .u8 0] ∧ szT prog 6 = 1 ∧ aggT prog 6 = some false ∧ elT prog 6 = none ∧ arrT prog 6 = none ∧ intT prog 6 = some .u8 ∧ boolT prog 6 = false ∧ byteT prog 6 = true ∧ byT prog 6 = 1 ∧ zT prog 6 = some [.int .u8 0] ∧ szT prog 7 = 4 ∧ aggT prog 7 = some true ∧ elT prog 7 = none := by
  repeat' apply And.intro
  all_goals kernel_rfl
open Tryz in
@[simp] theorem T_c50 : arrT prog 7 = none ∧ byT prog 7 = 24 ∧ fldT prog 7 0 = some (0, 2) ∧ fldT prog 7 1 = some (1, 3) ∧ fldT prog 7 2 = some (2, 4) ∧ fldT prog 7 3 = some (3, 6) ∧ infoAll prog 7 = true ∧ zT prog 7 = some [.int .i64 0, .int .i64 0, .bool false, .int .u8 0] ∧ szT prog 8 = 4 ∧ aggT prog 8 = some true ∧ elT prog 8 = none ∧ arrT prog 8 = none ∧ byT prog 8 = 24 ∧ fldT prog 8 0 = some (0, 2) ∧ fldT prog 8 1 = some (1, 3) ∧ fldT prog 8 2 = some (2, 4) ∧ fldT prog 8 3 = some (3, 6) ∧ infoAll prog 8 = true ∧ zT prog 8 = some [.int .i64 0, .int .i64 0, .bool false, .int .u8 0] ∧ szT prog 9 = 1 ∧ aggT prog 9 = some false ∧ elT prog 9 = none ∧ arrT prog 9 = none ∧ strT prog 9 = true ∧ intT prog 9 = none ∧ boolT prog 9 = false ∧ byteT prog 9 = false ∧ byT prog 9 = 16 ∧ zT prog 9 = some [.str ByteArray.empty] ∧ szT prog 10 = 1 ∧ aggT prog 10 = some false ∧ elT prog 10 = none ∧ arrT prog 10 = none ∧ strT prog 10 = true ∧ intT prog 10 = none ∧ boolT prog 10 = false ∧ byteT prog 10 = false ∧ byT prog 10 = 16 ∧ zT prog 10 = some [.str ByteArray.empty] ∧ szT prog 11 = 1 ∧ aggT prog 11 = some false ∧ elT prog 11 = none ∧ arrT prog 11 = none ∧ strT prog 11 = true ∧ intT prog 11 = none ∧ boolT prog 11 = false ∧ byteT prog 11 = false ∧ byT prog 11 = 16 ∧ zT prog 11 = some [.str ByteArray.empty] ∧ szT prog 12 = 1 := by
  repeat' apply And.intro
  all_goals kernel_rfl
open Tryz in
@[simp] theorem T_c100 : aggT prog 12 = some false ∧ elT prog 12 = none ∧ arrT prog 12 = none ∧ intT prog 12 = some .u64 ∧ boolT prog 12 = false ∧ byteT prog 12 = false ∧ byT prog 12 = 8 ∧ zT prog 12 = some [.int .u64 0] ∧ szT prog 13 = 2 ∧ aggT prog 13 = some true ∧ elT prog 13 = none ∧ arrT prog 13 = none ∧ byT prog 13 = 24 ∧ fldT prog 13 0 = some (0, 9) ∧ fldT prog 13 1 = some (1, 12) ∧ infoAll prog 13 = true ∧ zT prog 13 = some [.str ByteArray.empty, .int .u64 0] ∧ szT prog 14 = 2 ∧ aggT prog 14 = some true ∧ elT prog 14 = none ∧ arrT prog 14 = none ∧ byT prog 14 = 24 ∧ fldT prog 14 0 = some (0, 9) ∧ fldT prog 14 1 = some (1, 12) ∧ infoAll prog 14 = true ∧ zT prog 14 = some [.str ByteArray.empty, .int .u64 0] ∧ szT prog 15 = 1 ∧ aggT prog 15 = some false ∧ elT prog 15 = none ∧ arrT prog 15 = none ∧ strT prog 15 = false ∧ ptrT prog 15 = true ∧ byT prog 15 = 8 ∧ zT prog 15 = some [.nilptr] ∧ szT prog 16 = 1 ∧ aggT prog 16 = some false ∧ elT prog 16 = none ∧ arrT prog 16 = none ∧ strT prog 16 = false ∧ ptrT prog 16 = true ∧ byT prog 16 = 8 ∧ zT prog 16 = some [.nilptr] ∧ szT prog 17 = 1 ∧ aggT prog 17 = some false ∧ elT prog 17 = none ∧ arrT prog 17 = none ∧ strT prog 17 = false ∧ ptrT prog 17 = true ∧ byT prog 17 = 8 ∧ zT prog 17 = some [.nilptr] := by
  repeat' apply And.intro
  all_goals kernel_rfl
open Tryz in
@[simp] theorem T_c150 : szT prog 18 = 1 ∧ aggT prog 18 = some true ∧ elT prog 18 = none ∧ arrT prog 18 = none ∧ byT prog 18 = 8 ∧ fldT prog 18 0 = some (0, 17) ∧ infoAll prog 18 = true ∧ zT prog 18 = some [.nilptr] ∧ szT prog 19 = 1 ∧ aggT prog 19 = some true ∧ elT prog 19 = none ∧ arrT prog 19 = none ∧ byT prog 19 = 8 ∧ fldT prog 19 0 = some (0, 17) ∧ infoAll prog 19 = true ∧ zT prog 19 = some [.nilptr] ∧ szT prog 21 = 1 ∧ aggT prog 21 = some false ∧ elT prog 21 = none ∧ arrT prog 21 = none ∧ intT prog 21 = some .i32 ∧ boolT prog 21 = false ∧ byteT prog 21 = false ∧ byT prog 21 = 4 ∧ zT prog 21 = some [.int .i32 0] ∧ szT prog 22 = 1 ∧ aggT prog 22 = some false ∧ elT prog 22 = some 57 ∧ arrT prog 22 = none ∧ strT prog 22 = false ∧ byT prog 22 = 24 ∧ zT prog 22 = some [.slice 21 true []] ∧ szT prog 23 = 1 ∧ aggT prog 23 = some true ∧ elT prog 23 = none ∧ arrT prog 23 = none ∧ byT prog 23 = 24 ∧ fldT prog 23 0 = some (0, 22) ∧ infoAll prog 23 = true ∧ zT prog 23 = some [.slice 21 true []] ∧ szT prog 24 = 1 ∧ aggT prog 24 = some true ∧ elT prog 24 = none ∧ arrT prog 24 = none ∧ byT prog 24 = 24 ∧ fldT prog 24 0 = some (0, 22) ∧ infoAll prog 24 = true ∧ zT prog 24 = some [.slice 21 true []] ∧ szT prog 25 = 1 ∧ aggT prog 25 = some false := by
  repeat' apply And.intro
  all_goals kernel_rfl
open Tryz in
@[simp] theorem T_c200 : szT prog 26 = 1 ∧ aggT prog 26 = some false ∧ szT prog 27 = 1 ∧ aggT prog 27 = some false ∧ elT prog 27 = some 48 ∧ arrT prog 27 = none ∧ strT prog 27 = false ∧ byT prog 27 = 24 ∧ zT prog 27 = some [.slice 2 true []] ∧ szT prog 28 = 1 ∧ aggT prog 28 = some false ∧ elT prog 28 = none ∧ arrT prog 28 = none ∧ intT prog 28 = some .i64 ∧ boolT prog 28 = false ∧ byteT prog 28 = false ∧ byT prog 28 = 8 ∧ zT prog 28 = some [.int .i64 0] ∧ szT prog 30 = 1 ∧ aggT prog 30 = some false ∧ szT prog 31 = 1 ∧ aggT prog 31 = some false ∧ szT prog 32 = 1 ∧ aggT prog 32 = some false ∧ szT prog 33 = 1 ∧ aggT prog 33 = some false ∧ elT prog 33 = some 9 ∧ arrT prog 33 = none ∧ strT prog 33 = false ∧ byT prog 33 = 24 ∧ zT prog 33 = some [.slice 1 true []] ∧ szT prog 35 = 1 ∧ aggT prog 35 = some false ∧ szT prog 36 = 1 ∧ aggT prog 36 = some false ∧ szT prog 37 = 1 ∧ aggT prog 37 = some false ∧ elT prog 37 = some 39 ∧ arrT prog 37 = none ∧ strT prog 37 = false ∧ byT prog 37 = 24 ∧ zT prog 37 = some [.slice 5 true []] ∧ szT prog 38 = 5 ∧ aggT prog 38 = some true ∧ elT prog 38 = none ∧ arrT prog 38 = none ∧ byT prog 38 = 64 ∧ fldT prog 38 0 = some (0, 3) ∧ fldT prog 38 1 = some (1, 3) ∧ fldT prog 38 2 = some (2, 3) := by
  repeat' apply And.intro
  all_goals kernel_rfl
open Tryz in
@[simp] theorem T_c250 : fldT prog 38 3 = some (3, 9) ∧ fldT prog 38 4 = some (4, 37) ∧ infoAll prog 38 = true ∧ zT prog 38 = some [.int .i64 0, .int .i64 0, .int .i64 0, .str ByteArray.empty, .slice 5 true []] ∧ szT prog 39 = 5 ∧ aggT prog 39 = some true ∧ elT prog 39 = none ∧ arrT prog 39 = none ∧ byT prog 39 = 64 ∧ fldT prog 39 0 = some (0, 3) ∧ fldT prog 39 1 = some (1, 3) ∧ fldT prog 39 2 = some (2, 3) ∧ fldT prog 39 3 = some (3, 9) ∧ fldT prog 39 4 = some (4, 37) ∧ infoAll prog 39 = true ∧ zT prog 39 = some [.int .i64 0, .int .i64 0, .int .i64 0, .str ByteArray.empty, .slice 5 true []] ∧ szT prog 40 = 1 ∧ aggT prog 40 = some false ∧ elT prog 40 = some 42 ∧ arrT prog 40 = none ∧ strT prog 40 = false ∧ byT prog 40 = 24 ∧ zT prog 40 = some [.slice 9 true []] ∧ szT prog 41 = 9 ∧ aggT prog 41 = some true ∧ elT prog 41 = none ∧ arrT prog 41 = none ∧ byT prog 41 = 120 ∧ fldT prog 41 0 = some (0, 3) ∧ fldT prog 41 1 = some (1, 39) ∧ fldT prog 41 2 = some (6, 9) ∧ fldT prog 41 3 = some (7, 4) ∧ fldT prog 41 4 = some (8, 40) ∧ infoAll prog 41 = true ∧ zT prog 41 = some [.int .i64 0, .int .i64 0, .int .i64 0, .int .i64 0, .str ByteArray.empty, .slice 5 true [], .str ByteArray.empty, .bool false, .slice 9 true []] ∧ szT prog 42 = 9 ∧ aggT prog 42 = some true ∧ elT prog 42 = none ∧ arrT prog 42 = none ∧ byT prog 42 = 120 ∧ fldT prog 42 0 = some (0, 3) ∧ fldT prog 42 1 = some (1, 39) ∧ fldT prog 42 2 = some (6, 9) ∧ fldT prog 42 3 = some (7, 4) ∧ fldT prog 42 4 = some (8, 40) ∧ infoAll prog 42 = true ∧ zT prog 42 = some [.int .i64 0, .int .i64 0, .int .i64 0, .int .i64 0, .str ByteArray.empty, .slice 5 true [], .str ByteArray.empty, .bool false, .slice 9 true []] ∧ szT prog 43 = 1 ∧ aggT prog 43 = some false ∧ szT prog 44 = 1 := by
  repeat' apply And.intro
  all_goals kernel_rfl
open Tryz in
@[simp] theorem T_c300 : aggT prog 44 = some false ∧ szT prog 45 = 1 ∧ aggT prog 45 = some false ∧ szT prog 46 = 1 ∧ aggT prog 46 = some false ∧ szT prog 47 = 2 ∧ aggT prog 47 = some true ∧ elT prog 47 = none ∧ arrT prog 47 = none ∧ byT prog 47 = 24 ∧ fldT prog 47 0 = some (0, 9) ∧ fldT prog 47 1 = some (1, 3) ∧ infoAll prog 47 = true ∧ zT prog 47 = some [.str ByteArray.empty, .int .i64 0] ∧ szT prog 48 = 2 ∧ aggT prog 48 = some true ∧ elT prog 48 = none ∧ arrT prog 48 = none ∧ byT prog 48 = 24 ∧ fldT prog 48 0 = some (0, 9) ∧ fldT prog 48 1 = some (1, 3) ∧ flatT prog 48 = some [.s, .i] ∧ infoAll prog 48 = true ∧ zT prog 48 = some [.str ByteArray.empty, .int .i64 0] ∧ szT prog 49 = 1 ∧ aggT prog 49 = some false ∧ szT prog 51 = 1 ∧ aggT prog 51 = some false ∧ szT prog 52 = 1 ∧ aggT prog 52 = some false ∧ elT prog 52 = some 70 ∧ arrT prog 52 = none ∧ strT prog 52 = false ∧ byT prog 52 = 24 ∧ zT prog 52 = some [.slice 3 true []] ∧ szT prog 53 = 1 ∧ aggT prog 53 = some false ∧ elT prog 53 = some 59 ∧ arrT prog 53 = none ∧ strT prog 53 = false ∧ byT prog 53 = 24 ∧ zT prog 53 = some [.slice 10 true []] ∧ szT prog 54 = 1 ∧ aggT prog 54 = some false ∧ elT prog 54 = some 90 ∧ arrT prog 54 = none ∧ strT prog 54 = false ∧ byT prog 54 = 24 ∧ zT prog 54 = some [.slice 10 true []] ∧ szT prog 55 = 1 := by
  repeat' apply And.intro
  all_goals kernel_rfl
open Tryz in
@[simp] theorem T_c350 : aggT prog 55 = some false ∧ elT prog 55 = some 92 ∧ arrT prog 55 = none ∧ strT prog 55 = false ∧ byT prog 55 = 24 ∧ zT prog 55 = some [.slice 13 true []] ∧ szT prog 56 = 21 ∧ aggT prog 56 = some true ∧ elT prog 56 = none ∧ arrT prog 56 = none ∧ byT prog 56 = 312 ∧ fldT prog 56 0 = some (0, 3) ∧ fldT prog 56 1 = some (1, 4) ∧ fldT prog 56 2 = some (2, 4) ∧ fldT prog 56 3 = some (3, 52) ∧ fldT prog 56 4 = some (4, 40) ∧ fldT prog 56 5 = some (5, 42) ∧ fldT prog 56 6 = some (14, 9) ∧ fldT prog 56 7 = some (15, 53) ∧ fldT prog 56 8 = some (16, 54) ∧ fldT prog 56 9 = some (17, 3) ∧ fldT prog 56 10 = some (18, 3) ∧ fldT prog 56 11 = some (19, 55) ∧ fldT prog 56 12 = some (20, 33) ∧ infoAll prog 56 = true ∧ zT prog 56 = some [.int .i64 0, .bool false, .bool false, .slice 3 true [], .slice 9 true [], .int .i64 0, .int .i64 0, .int .i64 0, .int .i64 0, .str ByteArray.empty, .slice 5 true [], .str ByteArray.empty, .bool false, .slice 9 true [], .str ByteArray.empty, .slice 10 true [], .slice 10 true [], .int .i64 0, .int .i64 0, .slice 13 true [], .slice 1 true []] ∧ szT prog 57 = 21 ∧ aggT prog 57 = some true ∧ elT prog 57 = none ∧ arrT prog 57 = none ∧ byT prog 57 = 312 ∧ fldT prog 57 0 = some (0, 3) ∧ fldT prog 57 1 = some (1, 4) ∧ fldT prog 57 2 = some (2, 4) ∧ fldT prog 57 3 = some (3, 52) ∧ fldT prog 57 4 = some (4, 40) ∧ fldT prog 57 5 = some (5, 42) ∧ fldT prog 57 6 = some (14, 9) ∧ fldT prog 57 7 = some (15, 53) ∧ fldT prog 57 8 = some (16, 54) ∧ fldT prog 57 9 = some (17, 3) ∧ fldT prog 57 10 = some (18, 3) ∧ fldT prog 57 11 = some (19, 55) ∧ fldT prog 57 12 = some (20, 33) ∧ infoAll prog 57 = true ∧ zT prog 57 = some [.int .i64 0, .bool false, .bool false, .slice 3 true [], .slice 9 true [], .int .i64 0, .int .i64 0, .int .i64 0, .int .i64 0, .str ByteArray.empty, .slice 5 true [], .str ByteArray.empty, .bool false, .slice 9 true [], .str ByteArray.empty, .slice 10 true [], .slice 10 true [], .int .i64 0, .int .i64 0, .slice 13 true [], .slice 1 true []] ∧ szT prog 58 = 10 ∧ aggT prog 58 = some true ∧ elT prog 58 = none ∧ arrT prog 58 = none := by
  repeat' apply And.intro
  all_goals kernel_rfl
open Tryz in
@[simp] theorem T_c400 : byT prog 58 = 136 ∧ fldT prog 58 0 = some (0, 42) ∧ fldT prog 58 1 = some (9, 9) ∧ infoAll prog 58 = true ∧ zT prog 58 = some [.int .i64 0, .int .i64 0, .int .i64 0, .int .i64 0, .str ByteArray.empty, .slice 5 true [], .str ByteArray.empty, .bool false, .slice 9 true [], .str ByteArray.empty] ∧ szT prog 59 = 10 ∧ aggT prog 59 = some true ∧ elT prog 59 = none ∧ arrT prog 59 = none ∧ byT prog 59 = 136 ∧ fldT prog 59 0 = some (0, 42) ∧ fldT prog 59 1 = some (9, 9) ∧ infoAll prog 59 = true ∧ zT prog 59 = some [.int .i64 0, .int .i64 0, .int .i64 0, .int .i64 0, .str ByteArray.empty, .slice 5 true [], .str ByteArray.empty, .bool false, .slice 9 true [], .str ByteArray.empty] ∧ szT prog 60 = 1 ∧ aggT prog 60 = some false ∧ szT prog 61 = 1 ∧ aggT prog 61 = some false ∧ szT prog 62 = 1 ∧ aggT prog 62 = some false ∧ elT prog 62 = some 72 ∧ arrT prog 62 = none ∧ strT prog 62 = false ∧ byT prog 62 = 24 ∧ zT prog 62 = some [.slice 10 true []] ∧ szT prog 63 = 3 ∧ aggT prog 63 = some true ∧ elT prog 63 = none ∧ arrT prog 63 = none ∧ byT prog 63 = 64 ∧ fldT prog 63 0 = some (0, 9) ∧ fldT prog 63 1 = some (1, 33) ∧ fldT prog 63 2 = some (2, 62) ∧ infoAll prog 63 = true ∧ zT prog 63 = some [.str ByteArray.empty, .slice 1 true [], .slice 10 true []] ∧ szT prog 64 = 3 ∧ aggT prog 64 = some true ∧ elT prog 64 = none ∧ arrT prog 64 = none ∧ byT prog 64 = 64 ∧ fldT prog 64 0 = some (0, 9) ∧ fldT prog 64 1 = some (1, 33) ∧ fldT prog 64 2 = some (2, 62) ∧ infoAll prog 64 = true ∧ zT prog 64 = some [.str ByteArray.empty, .slice 1 true [], .slice 10 true []] ∧ szT prog 65 = 1 ∧ aggT prog 65 = some false ∧ elT prog 65 = some 64 ∧ arrT prog 65 = none ∧ strT prog 65 = false := by
  repeat' apply And.intro
  all_goals kernel_rfl
open Tryz in
@[simp] theorem T_c450 : byT prog 65 = 24 ∧ zT prog 65 = some [.slice 3 true []] ∧ szT prog 66 = 7 ∧ aggT prog 66 = some true ∧ elT prog 66 = none ∧ arrT prog 66 = none ∧ byT prog 66 = 96 ∧ fldT prog 66 0 = some (0, 9) ∧ fldT prog 66 1 = some (1, 33) ∧ fldT prog 66 2 = some (2, 3) ∧ fldT prog 66 3 = some (3, 3) ∧ fldT prog 66 4 = some (4, 3) ∧ fldT prog 66 5 = some (5, 3) ∧ fldT prog 66 6 = some (6, 62) ∧ infoAll prog 66 = true ∧ zT prog 66 = some [.str ByteArray.empty, .slice 1 true [], .int .i64 0, .int .i64 0, .int .i64 0, .int .i64 0, .slice 10 true []] ∧ szT prog 67 = 7 ∧ aggT prog 67 = some true ∧ elT prog 67 = none ∧ arrT prog 67 = none ∧ byT prog 67 = 96 ∧ fldT prog 67 0 = some (0, 9) ∧ fldT prog 67 1 = some (1, 33) ∧ fldT prog 67 2 = some (2, 3) ∧ fldT prog 67 3 = some (3, 3) ∧ fldT prog 67 4 = some (4, 3) ∧ fldT prog 67 5 = some (5, 3) ∧ fldT prog 67 6 = some (6, 62) ∧ infoAll prog 67 = true ∧ zT prog 67 = some [.str ByteArray.empty, .slice 1 true [], .int .i64 0, .int .i64 0, .int .i64 0, .int .i64 0, .slice 10 true []] ∧ szT prog 68 = 1 ∧ aggT prog 68 = some false ∧ elT prog 68 = some 67 ∧ arrT prog 68 = none ∧ strT prog 68 = false ∧ byT prog 68 = 24 ∧ zT prog 68 = some [.slice 7 true []] ∧ szT prog 69 = 3 ∧ aggT prog 69 = some true ∧ elT prog 69 = none ∧ arrT prog 69 = none ∧ byT prog 69 = 64 ∧ fldT prog 69 0 = some (0, 9) ∧ fldT prog 69 1 = some (1, 65) ∧ fldT prog 69 2 = some (2, 68) ∧ infoAll prog 69 = true ∧ zT prog 69 = some [.str ByteArray.empty, .slice 3 true [], .slice 7 true []] ∧ szT prog 70 = 3 ∧ aggT prog 70 = some true ∧ elT prog 70 = none := by
  repeat' apply And.intro
  all_goals kernel_rfl
open Tryz in
@[simp] theorem T_c500 : arrT prog 70 = none ∧ byT prog 70 = 64 ∧ fldT prog 70 0 = some (0, 9) ∧ fldT prog 70 1 = some (1, 65) ∧ fldT prog 70 2 = some (2, 68) ∧ infoAll prog 70 = true ∧ zT prog 70 = some [.str ByteArray.empty, .slice 3 true [], .slice 7 true []] ∧ szT prog 71 = 10 ∧ aggT prog 71 = some true ∧ elT prog 71 = none ∧ arrT prog 71 = none ∧ byT prog 71 = 136 ∧ fldT prog 71 0 = some (0, 9) ∧ fldT prog 71 1 = some (1, 42) ∧ infoAll prog 71 = true ∧ zT prog 71 = some [.str ByteArray.empty, .int .i64 0, .int .i64 0, .int .i64 0, .int .i64 0, .str ByteArray.empty, .slice 5 true [], .str ByteArray.empty, .bool false, .slice 9 true []] ∧ szT prog 72 = 10 ∧ aggT prog 72 = some true ∧ elT prog 72 = none ∧ arrT prog 72 = none ∧ byT prog 72 = 136 ∧ fldT prog 72 0 = some (0, 9) ∧ fldT prog 72 1 = some (1, 42) ∧ infoAll prog 72 = true ∧ zT prog 72 = some [.str ByteArray.empty, .int .i64 0, .int .i64 0, .int .i64 0, .int .i64 0, .str ByteArray.empty, .slice 5 true [], .str ByteArray.empty, .bool false, .slice 9 true []] ∧ szT prog 73 = 1 ∧ aggT prog 73 = some false ∧ elT prog 73 = some 48 ∧ arrT prog 73 = none ∧ strT prog 73 = false ∧ byT prog 73 = 24 ∧ zT prog 73 = some [.slice 2 true []] ∧ szT prog 74 = 3 ∧ aggT prog 74 = some true ∧ elT prog 74 = none ∧ arrT prog 74 = none ∧ byT prog 74 = 56 ∧ fldT prog 74 0 = some (0, 73) ∧ fldT prog 74 1 = some (1, 73) ∧ fldT prog 74 2 = some (2, 28) ∧ infoAll prog 74 = true ∧ zT prog 74 = some [.slice 2 true [], .slice 2 true [], .int .i64 0] ∧ szT prog 75 = 3 ∧ aggT prog 75 = some true ∧ elT prog 75 = none ∧ arrT prog 75 = none ∧ byT prog 75 = 56 ∧ fldT prog 75 0 = some (0, 73) ∧ fldT prog 75 1 = some (1, 73) ∧ fldT prog 75 2 = some (2, 28) := by
  repeat' apply And.intro
  all_goals kernel_rfl
open Tryz in
@[simp] theorem T_c550 : infoAll prog 75 = true ∧ zT prog 75 = some [.slice 2 true [], .slice 2 true [], .int .i64 0] ∧ szT prog 76 = 1 ∧ aggT prog 76 = some false ∧ szT prog 77 = 1 ∧ aggT prog 77 = some false ∧ szT prog 78 = 4 ∧ aggT prog 78 = some true ∧ elT prog 78 = none ∧ arrT prog 78 = none ∧ byT prog 78 = 64 ∧ fldT prog 78 0 = some (0, 27) ∧ fldT prog 78 1 = some (1, 27) ∧ fldT prog 78 2 = some (2, 3) ∧ fldT prog 78 3 = some (3, 28) ∧ infoAll prog 78 = true ∧ zT prog 78 = some [.slice 2 true [], .slice 2 true [], .int .i64 0, .int .i64 0] ∧ szT prog 79 = 4 ∧ aggT prog 79 = some true ∧ elT prog 79 = none ∧ arrT prog 79 = none ∧ byT prog 79 = 64 ∧ fldT prog 79 0 = some (0, 27) ∧ fldT prog 79 1 = some (1, 27) ∧ fldT prog 79 2 = some (2, 3) ∧ fldT prog 79 3 = some (3, 28) ∧ infoAll prog 79 = true ∧ zT prog 79 = some [.slice 2 true [], .slice 2 true [], .int .i64 0, .int .i64 0] ∧ mapT prog 80 = some (9, 4) ∧ szT prog 80 = 1 ∧ aggT prog 80 = some false ∧ szT prog 81 = 1 ∧ aggT prog 81 = some false ∧ szT prog 82 = 1 ∧ aggT prog 82 = some false ∧ szT prog 83 = 1 ∧ aggT prog 83 = some false ∧ szT prog 84 = 1 ∧ aggT prog 84 = some false ∧ szT prog 85 = 1 ∧ aggT prog 85 = some false ∧ szT prog 86 = 1 ∧ aggT prog 86 = some false ∧ szT prog 87 = 1 ∧ aggT prog 87 = some false ∧ szT prog 88 = 1 ∧ aggT prog 88 = some false ∧ szT prog 89 = 10 ∧ aggT prog 89 = some true ∧ elT prog 89 = none := by
  repeat' apply And.intro
  all_goals kernel_rfl
open Tryz in
@[simp] theorem T_c600 : arrT prog 89 = none ∧ byT prog 89 = 128 ∧ fldT prog 89 0 = some (0, 42) ∧ fldT prog 89 1 = some (9, 4) ∧ infoAll prog 89 = true ∧ zT prog 89 = some [.int .i64 0, .int .i64 0, .int .i64 0, .int .i64 0, .str ByteArray.empty, .slice 5 true [], .str ByteArray.empty, .bool false, .slice 9 true [], .bool false] ∧ szT prog 90 = 10 ∧ aggT prog 90 = some true ∧ elT prog 90 = none ∧ arrT prog 90 = none ∧ byT prog 90 = 128 ∧ fldT prog 90 0 = some (0, 42) ∧ fldT prog 90 1 = some (9, 4) ∧ infoAll prog 90 = true ∧ zT prog 90 = some [.int .i64 0, .int .i64 0, .int .i64 0, .int .i64 0, .str ByteArray.empty, .slice 5 true [], .str ByteArray.empty, .bool false, .slice 9 true [], .bool false] ∧ szT prog 91 = 13 ∧ aggT prog 91 = some true ∧ elT prog 91 = none ∧ arrT prog 91 = none ∧ byT prog 91 = 176 ∧ fldT prog 91 0 = some (0, 9) ∧ fldT prog 91 1 = some (1, 9) ∧ fldT prog 91 2 = some (2, 9) ∧ fldT prog 91 3 = some (3, 4) ∧ fldT prog 91 4 = some (4, 42) ∧ infoAll prog 91 = true ∧ zT prog 91 = some [.str ByteArray.empty, .str ByteArray.empty, .str ByteArray.empty, .bool false, .int .i64 0, .int .i64 0, .int .i64 0, .int .i64 0, .str ByteArray.empty, .slice 5 true [], .str ByteArray.empty, .bool false, .slice 9 true []] ∧ szT prog 92 = 13 ∧ aggT prog 92 = some true ∧ elT prog 92 = none ∧ arrT prog 92 = none ∧ byT prog 92 = 176 ∧ fldT prog 92 0 = some (0, 9) ∧ fldT prog 92 1 = some (1, 9) ∧ fldT prog 92 2 = some (2, 9) ∧ fldT prog 92 3 = some (3, 4) ∧ fldT prog 92 4 = some (4, 42) ∧ infoAll prog 92 = true ∧ zT prog 92 = some [.str ByteArray.empty, .str ByteArray.empty, .str ByteArray.empty, .bool false, .int .i64 0, .int .i64 0, .int .i64 0, .int .i64 0, .str ByteArray.empty, .slice 5 true [], .str ByteArray.empty, .bool false, .slice 9 true []] ∧ szT prog 93 = 1 ∧ aggT prog 93 = some false ∧ elT prog 93 = none ∧ arrT prog 93 = none ∧ strT prog 93 = false ∧ ptrT prog 93 = true ∧ byT prog 93 = 8 ∧ zT prog 93 = some [.nilptr] ∧ szT prog 94 = 1 ∧ aggT prog 94 = some false ∧ szT prog 95 = 1 := by
  repeat' apply And.intro
  all_goals kernel_rfl
open Tryz in
@[simp] theorem T_c650 : aggT prog 95 = some false ∧ szT prog 96 = 1 ∧ aggT prog 96 = some false ∧ szT prog 97 = 1 ∧ aggT prog 97 = some false ∧ szT prog 98 = 1 ∧ aggT prog 98 = some false ∧ szT prog 99 = 1 ∧ aggT prog 99 = some false ∧ elT prog 99 = none ∧ arrT prog 99 = none ∧ strT prog 99 = false ∧ ptrT prog 99 = true ∧ byT prog 99 = 8 ∧ zT prog 99 = some [.nilptr] ∧ szT prog 100 = 1 ∧ aggT prog 100 = some false ∧ szT prog 101 = 1 ∧ aggT prog 101 = some false ∧ szT prog 102 = 1 ∧ aggT prog 102 = some false ∧ szT prog 103 = 1 ∧ aggT prog 103 = some false ∧ szT prog 104 = 1 ∧ aggT prog 104 = some false ∧ szT prog 105 = 1 ∧ aggT prog 105 = some false ∧ szT prog 106 = 1 ∧ aggT prog 106 = some true ∧ elT prog 106 = none ∧ arrT prog 106 = none ∧ byT prog 106 = 8 ∧ fldT prog 106 0 = some (0, 28) ∧ infoAll prog 106 = true ∧ zT prog 106 = some [.int .i64 0] ∧ szT prog 107 = 1 ∧ aggT prog 107 = some true ∧ elT prog 107 = none ∧ arrT prog 107 = none ∧ byT prog 107 = 8 ∧ fldT prog 107 0 = some (0, 28) ∧ flatT prog 107 = some [.i] ∧ infoAll prog 107 = true ∧ zT prog 107 = some [.int .i64 0] ∧ szT prog 108 = 1 ∧ aggT prog 108 = some false ∧ szT prog 109 = 1 ∧ aggT prog 109 = some false ∧ szT prog 110 = 1 ∧ aggT prog 110 = some false := by
  repeat' apply And.intro
  all_goals kernel_rfl
open Tryz in
@[simp] theorem T_c700 : szT prog 111 = 1 ∧ aggT prog 111 = some false ∧ szT prog 112 = 1 ∧ aggT prog 112 = some false ∧ szT prog 113 = 1 ∧ aggT prog 113 = some false ∧ szT prog 114 = 1 ∧ aggT prog 114 = some false ∧ szT prog 115 = 1 ∧ aggT prog 115 = some false ∧ szT prog 116 = 1 ∧ aggT prog 116 = some false ∧ szT prog 117 = 1 ∧ aggT prog 117 = some false ∧ szT prog 118 = 1 ∧ aggT prog 118 = some false ∧ szT prog 119 = 1 ∧ aggT prog 119 = some false ∧ elT prog 119 = none ∧ arrT prog 119 = none ∧ intT prog 119 = some .u64 ∧ boolT prog 119 = false ∧ byteT prog 119 = false ∧ byT prog 119 = 8 ∧ zT prog 119 = some [.int .u64 0] ∧ szT prog 120 = 1 ∧ aggT prog 120 = some false ∧ elT prog 120 = some 3 ∧ arrT prog 120 = none ∧ strT prog 120 = false ∧ byT prog 120 = 24 ∧ zT prog 120 = some [.slice 1 true []] ∧ szT prog 121 = 1 ∧ aggT prog 121 = some false ∧ szT prog 122 = 1 ∧ aggT prog 122 = some false ∧ szT prog 123 = 1 ∧ aggT prog 123 = some false ∧ szT prog 124 = 1 ∧ aggT prog 124 = some false ∧ szT prog 125 = 1 ∧ aggT prog 125 = some false ∧ elT prog 125 = none ∧ arrT prog 125 = none ∧ strT prog 125 = false ∧ ptrT prog 125 = true ∧ byT prog 125 = 8 ∧ zT prog 125 = some [.nilptr] ∧ szT prog 126 = 1 ∧ aggT prog 126 = some false := by
  repeat' apply And.intro
  all_goals kernel_rfl
open Tryz in
@[simp] theorem T_c750 : szT prog 127 = 1 ∧ aggT prog 127 = some false ∧ szT prog 128 = 1 ∧ aggT prog 128 = some false ∧ szT prog 129 = 1 ∧ aggT prog 129 = some false ∧ elT prog 129 = some 132 ∧ arrT prog 129 = none ∧ strT prog 129 = false ∧ byT prog 129 = 24 ∧ zT prog 129 = some [.slice 3 true []] ∧ szT prog 130 = 1 ∧ aggT prog 130 = some false ∧ szT prog 131 = 3 ∧ aggT prog 131 = some true ∧ elT prog 131 = none ∧ arrT prog 131 = none ∧ byT prog 131 = 64 ∧ fldT prog 131 0 = some (0, 9) ∧ fldT prog 131 1 = some (1, 33) ∧ fldT prog 131 2 = some (2, 62) ∧ infoAll prog 131 = true ∧ zT prog 131 = some [.str ByteArray.empty, .slice 1 true [], .slice 10 true []] ∧ szT prog 132 = 3 ∧ aggT prog 132 = some true ∧ elT prog 132 = none ∧ arrT prog 132 = none ∧ byT prog 132 = 64 ∧ fldT prog 132 0 = some (0, 9) ∧ fldT prog 132 1 = some (1, 33) ∧ fldT prog 132 2 = some (2, 62) ∧ infoAll prog 132 = true ∧ zT prog 132 = some [.str ByteArray.empty, .slice 1 true [], .slice 10 true []] ∧ szT prog 133 = 1 ∧ aggT prog 133 = some false ∧ szT prog 134 = 1 ∧ aggT prog 134 = some false ∧ szT prog 135 = 1 ∧ aggT prog 135 = some false ∧ szT prog 136 = 1 ∧ aggT prog 136 = some false ∧ szT prog 137 = 1 ∧ aggT prog 137 = some false ∧ szT prog 138 = 1 ∧ aggT prog 138 = some false ∧ elT prog 138 = none ∧ arrT prog 138 = none ∧ intT prog 138 = some .i64 ∧ boolT prog 138 = false ∧ byteT prog 138 = false := by
  repeat' apply And.intro
  all_goals kernel_rfl
open Tryz in
@[simp] theorem T_c800 : byT prog 138 = 8 ∧ zT prog 138 = some [.int .i64 0] ∧ szT prog 140 = 1 ∧ aggT prog 140 = some false ∧ szT prog 141 = 1 ∧ aggT prog 141 = some false ∧ szT prog 142 = 1 ∧ aggT prog 142 = some false ∧ szT prog 143 = 1 ∧ aggT prog 143 = some false ∧ szT prog 145 = 1 ∧ aggT prog 145 = some false ∧ szT prog 146 = 1 ∧ aggT prog 146 = some false ∧ szT prog 147 = 1 ∧ aggT prog 147 = some false ∧ elT prog 147 = none ∧ arrT prog 147 = none ∧ intT prog 147 = some .u32 ∧ boolT prog 147 = false ∧ byteT prog 147 = false ∧ byT prog 147 = 4 ∧ zT prog 147 = some [.int .u32 0] ∧ szT prog 148 = 1 ∧ aggT prog 148 = some false ∧ szT prog 149 = 1 ∧ aggT prog 149 = some false ∧ elT prog 149 = none ∧ arrT prog 149 = none ∧ intT prog 149 = some .u64 ∧ boolT prog 149 = false ∧ byteT prog 149 = false ∧ byT prog 149 = 8 ∧ zT prog 149 = some [.int .u64 0] ∧ szT prog 150 = 1 ∧ aggT prog 150 = some false ∧ szT prog 151 = 1 ∧ aggT prog 151 = some false ∧ szT prog 152 = 1 ∧ aggT prog 152 = some false ∧ szT prog 153 = 1 ∧ aggT prog 153 = some false ∧ szT prog 154 = 1 ∧ aggT prog 154 = some false ∧ szT prog 155 = 1 ∧ aggT prog 155 = some false ∧ szT prog 156 = 1 ∧ aggT prog 156 = some false ∧ elT prog 156 = none ∧ arrT prog 156 = none := by
  repeat' apply And.intro
  all_goals kernel_rfl
open Tryz in
@[simp] theorem T_c850 : intT prog 156 = some .u64 ∧ boolT prog 156 = false ∧ byteT prog 156 = false ∧ byT prog 156 = 8 ∧ zT prog 156 = some [.int .u64 0] ∧ szT prog 157 = 1 ∧ aggT prog 157 = some false ∧ szT prog 158 = 1 ∧ aggT prog 158 = some false ∧ szT prog 159 = 1 ∧ aggT prog 159 = some false ∧ szT prog 160 = 1 ∧ aggT prog 160 = some false ∧ elT prog 160 = none ∧ arrT prog 160 = none ∧ strT prog 160 = false ∧ ptrT prog 160 = true ∧ byT prog 160 = 8 ∧ zT prog 160 = some [.nilptr] ∧ szT prog 161 = 1 ∧ aggT prog 161 = some false ∧ szT prog 162 = 1 ∧ aggT prog 162 = some false ∧ szT prog 163 = 1 ∧ aggT prog 163 = some false ∧ szT prog 164 = 1 ∧ aggT prog 164 = some false ∧ szT prog 166 = 1 ∧ aggT prog 166 = some false ∧ szT prog 167 = 1 ∧ aggT prog 167 = some false ∧ szT prog 168 = 1 ∧ aggT prog 168 = some false ∧ elT prog 168 = none ∧ arrT prog 168 = none ∧ strT prog 168 = false ∧ ptrT prog 168 = true ∧ byT prog 168 = 8 ∧ zT prog 168 = some [.nilptr] ∧ szT prog 169 = 1 ∧ aggT prog 169 = some false ∧ szT prog 170 = 1 ∧ aggT prog 170 = some false ∧ szT prog 171 = 1 ∧ aggT prog 171 = some false ∧ elT prog 171 = some 5 ∧ arrT prog 171 = none ∧ strT prog 171 = false ∧ byT prog 171 = 24 ∧ zT prog 171 = some [.slice 1 true []] := by
  repeat' apply And.intro
  all_goals kernel_rfl
open Tryz in
@[simp] theorem T_c900 : szT prog 172 = 1 ∧ aggT prog 172 = some false ∧ szT prog 173 = 1 ∧ aggT prog 173 = some false ∧ szT prog 174 = 2 ∧ aggT prog 174 = some true ∧ elT prog 174 = none ∧ arrT prog 174 = none ∧ byT prog 174 = 16 ∧ fldT prog 174 0 = some (0, 3) ∧ fldT prog 174 1 = some (1, 3) ∧ infoAll prog 174 = true ∧ zT prog 174 = some [.int .i64 0, .int .i64 0] ∧ szT prog 175 = 2 ∧ aggT prog 175 = some true ∧ elT prog 175 = none ∧ arrT prog 175 = none ∧ byT prog 175 = 16 ∧ fldT prog 175 0 = some (0, 3) ∧ fldT prog 175 1 = some (1, 3) ∧ flatT prog 175 = some [.i, .i] ∧ infoAll prog 175 = true ∧ zT prog 175 = some [.int .i64 0, .int .i64 0] ∧ szT prog 176 = 1 ∧ aggT prog 176 = some false ∧ szT prog 177 = 1 ∧ aggT prog 177 = some false ∧ szT prog 178 = 1 ∧ aggT prog 178 = some false ∧ szT prog 179 = 1 ∧ aggT prog 179 = some false ∧ szT prog 180 = 1 ∧ aggT prog 180 = some false ∧ szT prog 181 = 1 ∧ aggT prog 181 = some false ∧ szT prog 182 = 1 ∧ aggT prog 182 = some false ∧ szT prog 183 = 1 ∧ aggT prog 183 = some false ∧ szT prog 184 = 1 ∧ aggT prog 184 = some false ∧ szT prog 186 = 1 ∧ aggT prog 186 = some false ∧ szT prog 187 = 1 ∧ aggT prog 187 = some false ∧ szT prog 188 = 4 ∧ aggT prog 188 = some true ∧ elT prog 188 = none ∧ arrT prog 188 = none ∧ byT prog 188 = 40 := by
  repeat' apply And.intro
  all_goals kernel_rfl
open Tryz in
@[simp] theorem T_c950 : fldT prog 188 0 = some (0, 17) ∧ fldT prog 188 1 = some (1, 17) ∧ fldT prog 188 2 = some (2, 17) ∧ fldT prog 188 3 = some (3, 9) ∧ infoAll prog 188 = true ∧ zT prog 188 = some [.nilptr, .nilptr, .nilptr, .str ByteArray.empty] ∧ szT prog 189 = 4 ∧ aggT prog 189 = some true ∧ elT prog 189 = none ∧ arrT prog 189 = none ∧ byT prog 189 = 40 ∧ fldT prog 189 0 = some (0, 17) ∧ fldT prog 189 1 = some (1, 17) ∧ fldT prog 189 2 = some (2, 17) ∧ fldT prog 189 3 = some (3, 9) ∧ infoAll prog 189 = true ∧ zT prog 189 = some [.nilptr, .nilptr, .nilptr, .str ByteArray.empty] ∧ szT prog 190 = 0 ∧ aggT prog 190 = some true ∧ elT prog 190 = none ∧ arrT prog 190 = some (0, 16) ∧ strT prog 190 = false ∧ byT prog 190 = 0 ∧ szT prog 191 = 0 ∧ aggT prog 191 = some true ∧ elT prog 191 = none ∧ arrT prog 191 = none ∧ byT prog 191 = 0 ∧ fldT prog 191 0 = some (0, 190) ∧ infoAll prog 191 = true ∧ szT prog 192 = 0 ∧ aggT prog 192 = some true ∧ elT prog 192 = none ∧ arrT prog 192 = none ∧ byT prog 192 = 0 ∧ fldT prog 192 0 = some (0, 190) ∧ infoAll prog 192 = true ∧ szT prog 193 = 1 ∧ aggT prog 193 = some false ∧ szT prog 194 = 1 ∧ aggT prog 194 = some false ∧ elT prog 194 = none ∧ arrT prog 194 = none ∧ intT prog 194 = some .u8 ∧ boolT prog 194 = false ∧ byteT prog 194 = true ∧ byT prog 194 = 1 ∧ zT prog 194 = some [.int .u8 0] ∧ szT prog 195 = 1 ∧ aggT prog 195 = some false := by
  repeat' apply And.intro
  all_goals kernel_rfl
open Tryz in
@[simp] theorem T_c1000 : elT prog 195 = none ∧ arrT prog 195 = none ∧ intT prog 195 = some .u8 ∧ boolT prog 195 = false ∧ byteT prog 195 = true ∧ byT prog 195 = 1 ∧ zT prog 195 = some [.int .u8 0] ∧ szT prog 196 = 1 ∧ aggT prog 196 = some false ∧ szT prog 197 = 1 ∧ aggT prog 197 = some false ∧ elT prog 197 = none ∧ arrT prog 197 = none ∧ strT prog 197 = false ∧ ptrT prog 197 = true ∧ byT prog 197 = 8 ∧ zT prog 197 = some [.nilptr] ∧ szT prog 198 = 1 ∧ aggT prog 198 = some false ∧ elT prog 198 = none ∧ arrT prog 198 = none ∧ intT prog 198 = some .i32 ∧ boolT prog 198 = false ∧ byteT prog 198 = false ∧ byT prog 198 = 4 ∧ zT prog 198 = some [.int .i32 0] ∧ szT prog 199 = 1 ∧ aggT prog 199 = some false ∧ elT prog 199 = none ∧ arrT prog 199 = none ∧ intT prog 199 = some .i32 ∧ boolT prog 199 = false ∧ byteT prog 199 = false ∧ byT prog 199 = 4 ∧ zT prog 199 = some [.int .i32 0] ∧ szT prog 200 = 11 ∧ aggT prog 200 = some true ∧ elT prog 200 = none ∧ arrT prog 200 = none ∧ byT prog 200 = 48 ∧ fldT prog 200 0 = some (0, 12) ∧ fldT prog 200 1 = some (1, 12) ∧ fldT prog 200 2 = some (2, 147) ∧ fldT prog 200 3 = some (3, 194) ∧ fldT prog 200 4 = some (4, 5) ∧ fldT prog 200 5 = some (5, 5) ∧ fldT prog 200 6 = some (6, 195) ∧ fldT prog 200 7 = some (7, 196) ∧ fldT prog 200 8 = some (8, 197) ∧ fldT prog 200 9 = some (9, 198) := by
  repeat' apply And.intro
  all_goals kernel_rfl
open Tryz in
@[simp] theorem T_c1050 : fldT prog 200 10 = some (10, 199) ∧ infoAll prog 200 = true ∧ szT prog 201 = 11 ∧ aggT prog 201 = some true ∧ elT prog 201 = none ∧ arrT prog 201 = none ∧ byT prog 201 = 48 ∧ fldT prog 201 0 = some (0, 12) ∧ fldT prog 201 1 = some (1, 12) ∧ fldT prog 201 2 = some (2, 147) ∧ fldT prog 201 3 = some (3, 194) ∧ fldT prog 201 4 = some (4, 5) ∧ fldT prog 201 5 = some (5, 5) ∧ fldT prog 201 6 = some (6, 195) ∧ fldT prog 201 7 = some (7, 196) ∧ fldT prog 201 8 = some (8, 197) ∧ fldT prog 201 9 = some (9, 198) ∧ fldT prog 201 10 = some (10, 199) ∧ infoAll prog 201 = true := by
  repeat' apply And.intro
  all_goals kernel_rfl
theorem mixed : Tryz.prog.follows .mixedOrders = true := by kernel_rfl
end Go.Proofs.YtgjljfbohpnfcaaGreat


namespace Go.Proofs.YtgjljfbohpnfcaaGreat
open Go.RowKit
def el (zs : List Int) (i : Nat) : Int := zs.getD i 0
def IntsAt (w : World) (v : Value) (zs : List Int) : Prop :=
  ∃ (A : Option Addr) (n c : Nat), v = .slice A n c ∧ zs.length = n ∧ n ≤ c ∧ c ≤ maxLen ∧ (0 < n → ∃ b off, A = some ⟨b, off, none⟩ ∧ ∀ j, j < n → w.cell? ⟨b, off + j, none⟩ = some (.int .i64 (el zs j)))
theorem IntsAt.keep {w w' : World} {v : Value} {zs : List Int} (h : IntsAt w v zs) (hk : ∀ p : Addr, p.block < w.heap.size → w'.cell? p = w.cell? p) : IntsAt w' v zs := by
  obtain ⟨A, n, c, rfl, hl, hc, hm, hr⟩ := h
  refine ⟨A, n, c, rfl, hl, hc, hm, fun h0 => ?_⟩
  obtain ⟨b, off, rfl, hx⟩ := hr h0
  exact ⟨b, off, rfl, fun j hj => (hk _ (World.block_lt_of_cell? w _ (hx j hj))).trans (hx j hj)⟩
theorem IntsAt.below {w w' : World} {v : Value} {zs : List Int} {B : Nat} (h : IntsAt w v zs) (hb : Below B w w') (hB : w.heap.size ≤ B) : IntsAt w' v zs :=
  h.keep fun _ hp => hb.cell (Nat.lt_of_lt_of_le hp hB)
theorem IntsAt.drewN {w : World} {v : Value} {zs : List Int} (h : IntsAt w v zs) (n : Nat) : IntsAt (w.drewN n) v zs := h
theorem IntsAt.nil (w : World) : IntsAt w (.slice none 0 0) [] := ⟨none, 0, 0, rfl, rfl, Nat.le_refl _, Nat.zero_le _, fun h => absurd h (by omega)⟩
theorem below_drewN {B : Nat} {a w : World} (h : Below B a w) (n : Nat) : Below B a (w.drewN n) := ⟨h.os, h.tape, h.output, h.size, h.block⟩
def Drew (w w' : World) : Prop := ∃ k, w' = w.drewN k
theorem Drew.refl (w : World) : Drew w w := ⟨0, rfl⟩
theorem Drew.drewN (w : World) (k : Nat) : Drew w (w.drewN k) := ⟨k, rfl⟩
theorem Drew.below {w w' : World} (h : Drew w w') (B : Nat) : Below B w w' := by
  obtain ⟨k, rfl⟩ := h
  exact below_drewN (Below.refl _ _) _
theorem ret_bool {a b : Bool} (h : a = b) : Ending.returned (.bool a) = .returned (.bool b) := by rw [h]
structure IntElem (P : Program) (t e : TypeId) : Prop where
  under : P.underlying t = some (.slice e)
  info : ∃ i, P.info? e = some i ∧ i.zero = some (.int .i64 0) ∧ i.size = 1 ∧ i.bytes = 8
theorem IntElem.of {P : Program} {t e : TypeId} (h : P.underlying t = some (.slice e)) (h2 : (P.info? e).map (fun i => (i.zero, i.size, i.bytes)) = some (some (.int .i64 0), 1, 8)) : IntElem P t e := ⟨h, info_parts h2⟩
def Own (w : World) (B : Nat) (e : TypeId) (v : Value) (zs : List Int) : Prop := w.ownsRow B e 1 v zs.length (zs.map (Value.int .i64))
theorem Own.nil (w : World) (B : Nat) (e : TypeId) : Own w B e (.slice none 0 0) [] := World.ownsRow_nil _ _ _ _
theorem Own.below {w w' : World} {B : Nat} {e : TypeId} {v : Value} {zs : List Int} {C : Nat} (h : Own w B e v zs) (hb : Below C w w') (hC : w.heap.size ≤ C) : Own w' B e v zs := by
  obtain ⟨h1, h2⟩ := h
  refine ⟨h1, ?_⟩
  rcases h2 with h2 | ⟨g, cap, cur, hv, hg, hh, r⟩
  · exact .inl h2
  · refine .inr ⟨g, cap, cur, hv, hg, (hb.block g ?_).trans hh, r⟩
    have : g < w.heap.size := by
      rcases Nat.lt_or_ge g w.heap.size with h | h
      · exact h
      · rw [Array.getElem?_eq_none h] at hh; cases hh
    omega
theorem Own.alloc {w : World} {B : Nat} {e : TypeId} {v : Value} {zs : List Int} (h : Own w B e v zs) (o : Obj) : Own (w.alloc o) B e v zs :=
  h.below ((Below.refl _ w).alloc (Nat.le_refl _) _) (Nat.le_refl _)
theorem Own.drewN {w : World} {B : Nat} {e : TypeId} {v : Value} {zs : List Int} (h : Own w B e v zs) (n : Nat) : Own (w.drewN n) B e v zs := h
theorem Own.base {w : World} {B B' : Nat} {e : TypeId} {v : Value} {zs : List Int} (h : Own w B e v zs) (hB : B' ≤ B) : Own w B' e v zs := by
  obtain ⟨h1, h2⟩ := h
  refine ⟨h1, ?_⟩
  rcases h2 with h2 | ⟨g, cap, cur, hv, hg, r⟩
  · exact .inl h2
  · exact .inr ⟨g, cap, cur, hv, by omega, r⟩
theorem cell_later {B : Nat} {w w' : World} {p : Addr} {u : Value} (hb : Below B w w') (hB : w.heap.size ≤ B) (h : w.cell? p = some u) : w'.cell? p = some u :=
  (hb.cell (Nat.lt_of_lt_of_le (World.block_lt_of_cell? w _ h) hB)).trans h
def SameMem (wr W : World) : Prop := W.heap = wr.heap ∧ W.os = wr.os ∧ W.tape = wr.tape ∧ W.output = wr.output
theorem SameMem.below {wr W w0 : World} {B : Nat} (h : SameMem wr W) (hb : Below B w0 wr) : Below B w0 W :=
  ⟨h.2.1.trans hb.os, h.2.2.1.trans hb.tape, h.2.2.2.trans hb.output, by rw [h.1]; exact hb.size, fun k hk => by rw [h.1]; exact hb.block k hk⟩
theorem SameMem.own {wr W : World} {B : Nat} {e : TypeId} {v : Value} {zs : List Int} (h : SameMem wr W) (ho : Own wr B e v zs) : Own W B e v zs := by
  unfold Own World.ownsRow at ho ⊢
  rw [h.1]
  exact ho
def lenOf : Value → Nat | .slice _ n _ => n | _ => 0
theorem IntsAt.alloc {w : World} {v : Value} {zs : List Int} (h : IntsAt w v zs) (o : Obj) : IntsAt (w.alloc o) v zs :=
  h.below ((Below.refl _ w).alloc (Nat.le_refl _) _) (Nat.le_refl _)
theorem Below.step {w a b : World} {B : Nat} (h : Below w.heap.size w a) (k : Below B a b) (hB : a.heap.size ≤ B) : Below w.heap.size w b := h.trans (k.mono (Nat.le_trans h.size hB))
def RetBool (b : Bool) (w : World) (en : Ending) (w' : World) : Prop := en = .returned (.bool b) ∧ Below w.heap.size w w'
end Go.Proofs.YtgjljfbohpnfcaaGreat


namespace Go.Proofs.YtgjljfbohpnfcaaGreat
open Go.RowKit
def bt (s : ByteArray) (j : Nat) : Nat := (s.data.toList.getD j 0).toNat
theorem bt_eq {s : ByteArray} {j : Nat} (h : j < s.size) : (s[j]'h).toNat = bt s j := by
  have h' : j < s.data.toList.length := by simpa using h
  unfold bt
  rw [List.getD_eq_getElem?_getD, List.getElem?_eq_getElem h']
  rfl
theorem bt_lt (s : ByteArray) (j : Nat) : bt s j < 256 := by unfold bt; exact UInt8.toNat_lt _
theorem ret_str {a b : ByteArray} (h : a = b) : Ending.returned (.string a) = .returned (.string b) := by rw [h]
def Marked (w : World) (g : Nat) (t : TypeId) (C : Array Value) : Prop := w.heap[g]? = some (.cells C t (C.size, C.size + 1))
theorem Marked.cell {w : World} {g : Nat} {t : TypeId} {C : Array Value} (h : Marked w g t C) (i : Nat) : w.cell? ⟨g, i, none⟩ = C[i]? := by
  unfold Marked at h
  simp [World.cell?, h]
theorem Marked.frozen {w : World} {g : Nat} {t : TypeId} {C : Array Value} (h : Marked w g t C) {i : Nat} (hi : i < C.size) : w.frozen? ⟨g, i, none⟩ = false := by
  unfold Marked at h
  simp [World.frozen?, h]
  omega
theorem Marked.set_ {w : World} {g : Nat} {t : TypeId} {C : Array Value} (h : Marked w g t C) (i : Nat) (u : Value) : Marked (w.setCell ⟨g, i, none⟩ u) g t (C.setIfInBounds i u) := by
  unfold Marked at h ⊢
  simp [World.setCell, Array.getElem?_modify, h]
theorem Marked.drewN {w : World} {g : Nat} {t : TypeId} {C : Array Value} (h : Marked w g t C) (n : Nat) : Marked (w.drewN n) g t C := h
theorem Marked.below {w w' : World} {g B : Nat} {t : TypeId} {C : Array Value} (h : Marked w g t C) (hb : Below B w w') (hg : g < B) : Marked w' g t C := (hb.block g hg).trans h
theorem conv_bytes {P : Program} {src dst e : TypeId} (hs : P.underlying src = some .string) (hd : P.underlying dst = some (.slice e)) (he : P.underlying e = some (.int .u8)) (w : World) (s : ByteArray) :
    ∃ C w1, (convert src dst (.string s)).run P w = .ok (.slice (some ⟨w.heap.size, 0, none⟩) s.size C.size) w1 ∧ Marked w1 w.heap.size e C ∧ s.size ≤ C.size ∧ (∀ j, j < s.size → C[j]? = some (.int .u8 (bt s j : Int))) ∧ Below w.heap.size w w1 ∧ w1.heap.size = w.heap.size + 1 := by
  have hr := run_bytes_of_string w src dst e s hs hd he
  have hge := grownCap_ge w s.size 0 e
  generalize grownCap w s.size 0 e = cap at *
  have hd : s.data.size = s.size := rfl
  have hsz : (bytesRow s cap).size = cap := by
    unfold bytesRow
    rw [Array.size_append, Array.size_map, Array.size_replicate, hd]
    omega
  have hh : (w.drew.alloc (.cells (bytesRow s cap) e ((bytesRow s cap).size, (bytesRow s cap).size + 1))).heap[w.heap.size]? = some (.cells (bytesRow s cap) e ((bytesRow s cap).size, (bytesRow s cap).size + 1)) := by
    show (w.heap.push _)[w.heap.size]? = _
    simp
  refine ⟨bytesRow s cap, _, by rw [hr, hsz], hh, by omega, fun j hj => ?_, ((Below.refl _ w).drew).alloc (Nat.le_refl _) _, by simp⟩
  rw [bytesRow_at s cap j (by omega)]
  have : (s.data[j]'(by omega)).toNat = bt s j := by
    have h' : j < s.data.toList.length := by simp; omega
    unfold bt
    rw [List.getD_eq_getElem?_getD, List.getElem?_eq_getElem h']
    simp
  rw [this]
theorem conv_string {P : Program} {src dst e : TypeId} (hs : P.underlying src = some (.slice e)) (he : P.underlying e = some (.int .u8)) (hd : P.underlying dst = some .string) (w : World) (b off n cap : Nat) (l : List UInt8) (hl : l.length = n)
    (hc : ∀ j (hj : j < l.length), w.cell? ⟨b, off + j, none⟩ = some (.int .u8 (l[j].toNat : Int))) :
    (convert src dst (.slice (some ⟨b, off, none⟩) n cap)).run P w = .ok (.string ⟨l.toArray⟩) w := by
  subst hl
  refine run_convert_bytes_back w src dst e ⟨b, off, none⟩ cap l hs he hd fun j hj => ?_
  have e1 : (⟨b, off, none⟩ : Addr).add j = ⟨b, off + j, none⟩ := by
    unfold Addr.add
    split
    · rename_i h; subst h; rfl
    · rfl
  rw [e1]
  exact hc j hj
def sl (ss : List ByteArray) (i : Nat) : ByteArray := ss.getD i ByteArray.empty
theorem sl_lt {ss : List ByteArray} {i : Nat} (h : i < ss.length) : sl ss i = ss[i] := by simp [sl, h]
def StrsAt (w : World) (v : Value) (ss : List ByteArray) : Prop :=
  ∃ (A : Option Addr) (n c : Nat), v = .slice A n c ∧ ss.length = n ∧ n ≤ c ∧ c ≤ maxLen ∧ (0 < n → ∃ b off, A = some ⟨b, off, none⟩ ∧ ∀ j, j < n → w.cell? ⟨b, off + j, none⟩ = some (.string (sl ss j)))
theorem StrsAt.below {w w' : World} {v : Value} {ss : List ByteArray} {B : Nat} (h : StrsAt w v ss) (hb : Below B w w') (hB : w.heap.size ≤ B) : StrsAt w' v ss := by
  obtain ⟨A, n, c, rfl, hl, hc, hm, hr⟩ := h
  refine ⟨A, n, c, rfl, hl, hc, hm, fun h0 => ?_⟩
  obtain ⟨b, off, rfl, hx⟩ := hr h0
  exact ⟨b, off, rfl, fun j hj => Go.Proofs.YtgjljfbohpnfcaaGreat.cell_later hb hB (hx j hj)⟩
theorem strsAt_new {W : World} {e : TypeId} {cs : Array Value} {m n c : Nat} (ss : List ByteArray) (hcs : cs = (ss.map Value.string).toArray) (hm : m = W.heap.size) (hn : n = ss.length) (hc : c = n) (hs : ss.length < 1000000) :
    StrsAt (W.alloc (.cells cs e)) (.slice (some ⟨m, 0, none⟩) n c) ss := by
  subst hcs hm hn hc
  refine ⟨_, _, _, rfl, rfl, Nat.le_refl _, by unfold maxLen; omega, fun _ => ⟨_, 0, rfl, fun j hj => ?_⟩⟩
  rw [cell_of_row _ W.heap.size (0 + j) _ e (0, 0) (heap_alloc_new W _)]
  simp [sl, hj]
end Go.Proofs.YtgjljfbohpnfcaaGreat


namespace Go.Proofs.YtgjljfbohpnfcaaGreat.Plain
open Go.Proofs.YtgjljfbohpnfcaaGreat
def upB (b : UInt8) : UInt8 := if 97 ≤ b.toNat ∧ b.toNat ≤ 122 then UInt8.ofNat (b.toNat - 32) else b
def upN (c : Nat) : Nat := if 97 ≤ c ∧ c ≤ 122 then c - 32 else c
theorem upB_toNat (b : UInt8) : (upB b).toNat = upN b.toNat := by
  unfold upB upN
  split
  · have := b.toNat_lt
    simp
    omega
  · rfl
def upper (s : ByteArray) : ByteArray := ⟨(s.data.toList.map upB).toArray⟩
theorem upper_size (s : ByteArray) : (upper s).size = s.size := by
  show ((s.data.toList.map upB).toArray).size = s.data.size
  simp
def upTo (s : ByteArray) (k : Nat) : ByteArray := ⟨((s.data.toList.take k).map upB).toArray⟩
theorem upTo_size (s : ByteArray) (k : Nat) : (upTo s k).size ≤ s.size := by
  show ((s.data.toList.take k).map upB).toArray.size ≤ s.data.size
  simp
  omega
theorem upTo_succ {s : ByteArray} {k : Nat} (h : k < s.size) : upTo s k ++ ⟨#[upB (s[k]'h)]⟩ = upTo s (k + 1) := by
  have h' : k < s.data.toList.length := by simpa using h
  apply ByteArray.ext
  rw [ByteArray.data_append]
  unfold upTo
  rw [List.take_succ_eq_append_getElem h']
  simp
  rfl
theorem upTo_all {s : ByteArray} {k : Nat} (h : s.size ≤ k) : upTo s k = upper s := by
  unfold upTo upper
  rw [List.take_of_length_le (by simpa using h)]
def words : List ByteArray := [⟨#[77, 65, 84, 67, 72]⟩, ⟨#[79, 80, 84, 73, 79, 78, 65, 76]⟩, ⟨#[87, 72, 69, 82, 69]⟩, ⟨#[85, 78, 87, 73, 78, 68]⟩, ⟨#[65, 83]⟩, ⟨#[87, 73, 84, 72]⟩, ⟨#[68, 73, 83, 84, 73, 78, 67, 84]⟩, ⟨#[79, 82, 68, 69, 82]⟩, ⟨#[66, 89]⟩, ⟨#[65, 83, 67]⟩, ⟨#[68, 69, 83, 67]⟩, ⟨#[83, 75, 73, 80]⟩, ⟨#[76, 73, 77, 73, 84]⟩, ⟨#[82, 69, 84, 85, 82, 78]⟩, ⟨#[67, 82, 69, 65, 84, 69]⟩, ⟨#[77, 69, 82, 71, 69]⟩, ⟨#[83, 69, 84]⟩, ⟨#[82, 69, 77, 79, 86, 69]⟩, ⟨#[68, 69, 76, 69, 84, 69]⟩, ⟨#[68, 69, 84, 65, 67, 72]⟩, ⟨#[65, 78, 68]⟩, ⟨#[79, 82]⟩, ⟨#[78, 79, 84]⟩, ⟨#[73, 78]⟩, ⟨#[73, 83]⟩, ⟨#[78, 85, 76, 76]⟩, ⟨#[84, 82, 85, 69]⟩, ⟨#[70, 65, 76, 83, 69]⟩, ⟨#[87, 65, 76, 75]⟩, ⟨#[84, 82, 65, 73, 76]⟩, ⟨#[83, 73, 77, 80, 76, 69]⟩, ⟨#[83, 72, 79, 82, 84, 69, 83, 84]⟩, ⟨#[65, 78, 89]⟩]
def reserved (s : ByteArray) : Bool := decide ((upper s).toList ∈ words.map fun w => w.toList)
end Go.Proofs.YtgjljfbohpnfcaaGreat.Plain


namespace Go.Proofs.YtgjljfbohpnfcaaGreat
open Go.RowKit
def RetStr (s : ByteArray) (w : World) (e : Ending) (w' : World) : Prop := e = .returned (.string s) ∧ Below w.heap.size w w'
set_option maxHeartbeats 1000000 in
theorem upperP (s : ByteArray) (w : World) (hbig : s.size < 1000000) : Calls Tryz.prog 136 #[.string s] w (RetStr (Plain.upper s) w) := by
  obtain ⟨C, w1, hconv, hM, hCs, hC, hb1, hsz1⟩ := conv_bytes Tryz.underlying9 Tryz.underlying171 Tryz.underlying5 w s
  have HC := Lib.hid hC; clear hC
  have hn : s.data.toList.length = s.size := by simp
  have HN := Lib.hid hn; clear hn
  have HSZ := Lib.hid hsz1; clear hsz1
  go_enter Tryz.func136, Tryz.ntmps136
  go_wp2_with fail
  clear hconv
  go_loopw [4, 5, 10] (fun _ _ i wr => ∃ (k : Nat) (D : Array Value), i = .int .i64 k ∧ k ≤ s.size ∧ Marked wr w.heap.size 5 D ∧ D.size = C.size ∧ Below w.heap.size w wr ∧
      ∀ j, j < s.size → D[j]? = some (.int .u8 ((if j < k then Plain.upN (bt s j) else bt s j : Nat) : Int))) (fun _ _ i _ => s.size - (intOf i).toNat)
  case atStart => exact ⟨0, C, rfl, Nat.zero_le _, hM, rfl, hb1, by simpa using HC.out⟩
  case round =>
    obtain ⟨k, D, rfl, hk, hM', hD, hb, hcell⟩ := hrel
    have HD := Lib.hid hD; clear hD
    have HX := Lib.hid hcell; clear hcell
    by_cases hlt : k < s.size
    · have hc : wr.cell? ⟨w.heap.size, k, none⟩ = some (.int .u8 (bt s k : Int)) := by
        rw [hM'.cell, HX.out k hlt]; simp
      have hf : wr.frozen? ⟨w.heap.size, k, none⟩ = false := hM'.frozen (by rw [HD.out]; omega)
      have hlt8 := bt_lt s k
      by_cases h1 : (97 : Int) ≤ (bt s k : Int) ∧ (bt s k : Int) ≤ 122
      · obtain ⟨h1, h2⟩ := h1
        go_wp2_with fail
        have e1 : (bt s k : Int) - 97 + 65 = ((bt s k - 32 : Nat) : Int) := by omega
        go_roundw
        case rel => exact ⟨k + 1, _, by go_num, by omega, hM'.set_ k _, by simp [HD.out], hb.setCell (Nat.le_refl _) _, fun j hj => by
          by_cases e : j = k
          · subst e
            simp [Plain.upN, HD.out, show j < C.size by omega, show 97 ≤ bt s j ∧ bt s j ≤ 122 by omega]
            omega
          · rw [Array.getElem?_setIfInBounds_ne (by omega), HX.out j hj]
            simp [show (j < k + 1) = (j < k) by simp; omega]⟩
        case measure => simp [intOf]; omega
      · have hup : Plain.upN (bt s k) = bt s k := by unfold Plain.upN; rw [if_neg (by omega)]
        have HU := Lib.hid hup; clear hup
        by_cases h2 : (97 : Int) ≤ (bt s k : Int)
        · have h3 : ¬ (bt s k : Int) ≤ 122 := fun h => h1 ⟨h2, h⟩
          clear h1
          go_wp2_with fail
          go_roundw
          case rel => exact ⟨k + 1, D, by go_num, by omega, hM', HD.out, hb, fun j hj => by
            by_cases e : j = k
            · subst e; rw [HX.out j hj]; simp [HU.out]
            · rw [HX.out j hj]; simp [show (j < k + 1) = (j < k) by simp; omega]⟩
          case measure => simp [intOf]; omega
        · clear h1
          go_wp2_with fail
          go_roundw
          case rel => exact ⟨k + 1, D, by go_num, by omega, hM', HD.out, hb, fun j hj => by
            by_cases e : j = k
            · subst e; rw [HX.out j hj]; simp [HU.out]
            · rw [HX.out j hj]; simp [show (j < k + 1) = (j < k) by simp; omega]⟩
          case measure => simp [intOf]; omega
    · have hback := conv_string (P := Tryz.prog) Tryz.underlying171 Tryz.underlying5 Tryz.underlying9 wr w.heap.size 0 s.size C.size (s.data.toList.map Plain.upB) (by simp) (fun j hj => by
        have hj' : j < s.size := by simpa using hj
        rw [Nat.zero_add, hM'.cell, HX.out j hj', if_pos (by omega), List.getElem_map, Plain.upB_toNat]
        unfold bt
        rw [List.getD_eq_getElem?_getD, List.getElem?_eq_getElem (by rw [HN.out]; exact hj')]
        rfl)
      go_wp2_with fail
      go_ret
      exact ⟨rfl, hb⟩
end Go.Proofs.YtgjljfbohpnfcaaGreat


namespace Go.Proofs.YtgjljfbohpnfcaaGreat
open Go.RowKit
set_option maxHeartbeats 1000000 in
theorem upperR (s : ByteArray) (w : World) (hbig : s.size < 1000000) : Calls Tryz.prog 148 #[.string s] w (RetStr (Plain.upper s) w) := by
  go_enter Tryz.func148, Tryz.ntmps148
  go_wp2_with fail
  go_loopw [3, 4, 5] (fun o i _ wr => ∃ k : Nat, i = .int .i64 k ∧ k ≤ s.size ∧ o = .string (Plain.upTo s k) ∧ Below w.heap.size w wr) (fun _ i _ _ => s.size - (intOf i).toNat)
  case atStart => exact ⟨0, rfl, Nat.zero_le _, rfl, Below.refl _ _⟩
  case round =>
    obtain ⟨k, rfl, hk, rfl, hb⟩ := hrel
    have hbs := hb.size
    by_cases hlt : k < s.size
    · have hbk := bt_eq hlt
      have hlt8 := bt_lt s k
      have hki : (k : Int) < (s.size : Int) := by omega
      have hup : (Plain.upB (s[k]'hlt)).toNat = Plain.upN (bt s k) := by rw [Plain.upB_toNat, hbk]
      have hback := fun (z : Int) (hz : z = (Plain.upN (bt s k) : Int)) => conv_string (P := Tryz.prog) Tryz.underlying171 Tryz.underlying5 Tryz.underlying9 (wr.alloc (.cells #[.int .u8 z] 5)) wr.heap.size 0 1 1 [Plain.upB (s[k]'hlt)] rfl (fun j hj => by
        have hj0 : j = 0 := by simpa using hj
        subst hj0
        subst hz
        simp
        rw [← hbk, Plain.upB_toNat])
      have hsz := Plain.upTo_size s k
      by_cases h1 : (97 : Int) ≤ (bt s k : Int)
      · by_cases h2 : (bt s k : Int) ≤ 122
        · have hb1 := hback ((bt s k : Int) - 32) (by rw [Plain.upN, if_pos (by omega)]; omega)
          have HUP := Lib.hid hup; clear hup hback
          go_wp2_with fail
          go_roundw
          case rel => exact ⟨k + 1, by go_num, by omega, by rw [Plain.upTo_succ hlt], hb.alloc hbs _⟩
          case measure => simp [intOf]; omega
        · have hb1 := hback ((bt s k : Int)) (by rw [Plain.upN, if_neg (by omega)])
          have HUP := Lib.hid hup; clear hup hback
          go_wp2_with fail
          go_roundw
          case rel => exact ⟨k + 1, by go_num, by omega, by rw [Plain.upTo_succ hlt], hb.alloc hbs _⟩
          case measure => simp [intOf]; omega
      · have hb1 := hback ((bt s k : Int)) (by rw [Plain.upN, if_neg (by omega)])
        have HUP := Lib.hid hup; clear hup hback
        go_wp2_with fail
        go_roundw
        case rel => exact ⟨k + 1, by go_num, by omega, by rw [Plain.upTo_succ hlt], hb.alloc hbs _⟩
        case measure => simp [intOf]; omega
    · go_wp2_with fail
      go_ret
      exact ⟨ret_str (Plain.upTo_all (by omega)), hb⟩
end Go.Proofs.YtgjljfbohpnfcaaGreat


namespace Go.Proofs.YtgjljfbohpnfcaaGreat
open Go.RowKit
set_option maxRecDepth 100000 in
set_option maxHeartbeats 1000000 in
theorem wordsR (w : World) : Calls Tryz.prog 149 #[] w fun e w' => ∃ v, e = .returned v ∧ StrsAt w' v Plain.words ∧ Below w.heap.size w w' := by
  go_enter Tryz.func149, Tryz.ntmps149
  go_wp2_with fail
  go_ret
  exact ⟨_, rfl, strsAt_new Plain.words rfl rfl rfl rfl (by decide), (Below.refl _ _).alloc (Nat.le_refl _) _⟩
set_option maxHeartbeats 1000000 in
theorem reservedR (s : ByteArray) (w : World) (hbig : s.size < 1000000) : Calls Tryz.prog 127 #[.string s] w (RetBool (Plain.reserved s) w) := by
  go_enter Tryz.func127, Tryz.ntmps127
  go_wp2_with fail
  refine (upperR s _ hbig).mono ?_
  rintro e w1 ⟨rfl, hb1⟩
  go_wp2_with fail
  refine (wordsR _).mono ?_
  rintro e w2 ⟨v, rfl, hv, hb2⟩
  have hb := Below.step hb1 hb2 (Nat.le_refl _)
  clear hb1 hb2
  obtain ⟨A, n, c, rfl, hl, hc, hm, hr⟩ := hv
  have HL := Lib.hid hl; clear hl
  have HR := Lib.hid hr; clear hr
  have hm : n ≤ 9223372036854775807 := by unfold maxLen at hm; omega
  clear hc
  have hres : Plain.reserved s = decide ((Plain.upper s).toList ∈ Plain.words.map fun w => w.toList) := rfl
  have HRES := Lib.hid hres; clear hres
  generalize Plain.words = W at *
  generalize Plain.upper s = u at *
  go_wp2_with fail
  go_loop [5] (fun i => ∃ k : Nat, i = .int .i64 k ∧ k ≤ n ∧ ∀ j (h : j < W.length), j < k → W[j].toList ≠ u.toList) (fun i => n - (intOf i).toNat)
  case atStart => exact ⟨0, rfl, Nat.zero_le _, fun j _ h => absurd h (by omega)⟩
  case round =>
    obtain ⟨k, rfl, hk, hs⟩ := hrel
    have HS := Lib.hid hs; clear hs
    by_cases hlt : k < n
    · obtain ⟨b, off, rfl, hx⟩ := HR.out (by omega)
      have hxk := hx k hlt
      clear hx
      have hz : k < W.length := by rw [HL.out]; exact hlt
      have HE := Lib.hid (sl_lt hz)
      by_cases hq : ((sl W k).toList == u.toList) = true
      · have HQ := Lib.hid (beq_iff_eq.1 hq)
        go_wp2_with fail
        go_ret
        exact ⟨ret_bool (by rw [HRES.out]; exact (decide_eq_true (List.mem_map.2 ⟨_, List.getElem_mem hz, by rw [← HE.out]; exact HQ.out⟩)).symm), hb⟩
      · have hq : ((sl W k).toList == u.toList) = false := by simpa using hq
        have HQ := Lib.hid (beq_eq_false_iff_ne.1 hq)
        go_wp2_with fail
        go_round
        case rel => exact ⟨k + 1, by go_num, by omega, fun j h hj => by
          by_cases e : j = k
          · subst e; rw [← HE.out]; exact HQ.out
          · exact HS.out j h (by omega)⟩
        case measure => simp [intOf]; omega
    · go_wp2_with fail
      go_ret
      exact ⟨ret_bool (by rw [HRES.out]; exact (decide_eq_false fun hx => by
        obtain ⟨y, hy, e⟩ := List.mem_map.1 hx
        obtain ⟨i, hi, e'⟩ := List.getElem_of_mem hy
        exact HS.out i hi (by have := HL.out; omega) (by rw [e']; exact e)).symm), hb⟩
end Go.Proofs.YtgjljfbohpnfcaaGreat


namespace Go.Proofs.YtgjljfbohpnfcaaGreat.Plain
open Go.Lib
theorem index_ge (sub : List UInt8) : ∀ l : List UInt8, -1 ≤ index l sub
  | [] => by unfold index; split <;> decide
  | b :: l => by
    have := index_ge sub l
    unfold index
    split
    · decide
    · split
      · decide
      · omega
theorem contains_iff (sub : List UInt8) : ∀ l : List UInt8, contains l sub = true ↔ ∃ a b, l = a ++ sub ++ b
  | [] => by
    unfold contains index
    cases sub with
    | nil => simp
    | cons x r => simp
  | c :: l => by
    have ih := contains_iff sub l
    have hge := index_ge sub l
    unfold contains at ih ⊢
    unfold index
    by_cases hp : sub.isPrefixOf (c :: l) = true
    · rw [if_pos hp]
      rw [List.isPrefixOf_iff_prefix] at hp
      obtain ⟨t, ht⟩ := hp
      simp only [Int.le_refl, decide_true, true_iff]
      exact ⟨[], t, by simpa using ht.symm⟩
    · rw [if_neg hp]
      have e : (decide (0 ≤ if (index l sub == -1) = true then (-1 : Int) else index l sub + 1) = true) ↔ (decide (0 ≤ index l sub) = true) := by
        by_cases h1 : index l sub = -1
        · simp [h1]
        · have : 0 ≤ index l sub := by omega
          simp [h1, this]
          omega
      rw [e, ih]
      constructor
      · rintro ⟨a, b, h⟩
        exact ⟨c :: a, b, by rw [h]; simp⟩
      · rintro ⟨a, b, h⟩
        cases a with
        | nil =>
          exfalso
          apply hp
          rw [List.isPrefixOf_iff_prefix]
          exact ⟨b, by simpa using h.symm⟩
        | cons x a =>
          simp only [List.cons_append, List.cons.injEq] at h
          exact ⟨a, b, h.2⟩
def spread : List (List UInt8) → List UInt8
  | [] => [32]
  | w :: r => 32 :: (w ++ spread r)
theorem spread_head : ∀ ws : List (List UInt8), ∃ t, spread ws = 32 :: t
  | [] => ⟨[], rfl⟩
  | _ :: _ => ⟨_, rfl⟩
theorem no_split : ∀ {u w t b : List UInt8}, (32 : UInt8) ∉ u → (32 : UInt8) ∉ w → u ++ 32 :: b = w ++ 32 :: t → u = w
  | [], [], _, _, _, _, _ => rfl
  | [], y :: w, _, _, _, hw, h => by
    simp only [List.nil_append, List.cons_append, List.cons.injEq] at h
    exact absurd (by simp [h.1]) hw
  | x :: u, [], _, _, hu, _, h => by
    simp only [List.nil_append, List.cons_append, List.cons.injEq] at h
    exact absurd (by simp [h.1]) hu
  | x :: u, y :: w, _, _, hu, hw, h => by
    simp only [List.cons_append, List.cons.injEq] at h
    rw [h.1, no_split (fun h => hu (List.mem_cons_of_mem _ h)) (fun h => hw (List.mem_cons_of_mem _ h)) h.2]
theorem skip_word : ∀ {w a t s : List UInt8}, (32 : UInt8) ∉ w → a ++ 32 :: t = w ++ s → ∃ a', a' ++ 32 :: t = s
  | [], a, t, s, _, h => ⟨a, by simpa using h⟩
  | y :: w, [], t, s, hw, h => by
    simp only [List.nil_append, List.cons_append, List.cons.injEq] at h
    exact absurd (by simp [h.1]) hw
  | y :: w, x :: a, t, s, hw, h => by
    simp only [List.cons_append, List.cons.injEq] at h
    exact skip_word (fun h => hw (List.mem_cons_of_mem _ h)) h.2
theorem spread_iff (u : List UInt8) (hu : u ≠ []) (hu32 : (32 : UInt8) ∉ u) : ∀ ws : List (List UInt8), (∀ w ∈ ws, (32 : UInt8) ∉ w) → ((∃ a b, spread ws = a ++ ([32] ++ u ++ [32]) ++ b) ↔ u ∈ ws)
  | [], _ => by
    simp only [List.not_mem_nil, iff_false]
    rintro ⟨a, b, h⟩
    have := congrArg List.length h
    simp [spread] at this
    have : u.length ≠ 0 := fun h => hu (List.length_eq_zero_iff.1 h)
    omega
  | w :: r, hws => by
    have ih := spread_iff u hu hu32 r (fun x hx => hws x (List.mem_cons_of_mem _ hx))
    have hw := hws w (by simp)
    obtain ⟨t, ht⟩ := spread_head r
    constructor
    · rintro ⟨a, b, h⟩
      cases a with
      | nil =>
        simp only [spread, ht, List.nil_append, List.cons_append, List.append_assoc, List.cons.injEq, true_and] at h
        have := no_split hu32 hw h.symm
        simp [this]
      | cons x a =>
        simp only [spread, List.cons_append, List.append_assoc, List.cons.injEq] at h
        obtain ⟨a', ha'⟩ := skip_word (a := a) (t := u ++ ([32] ++ b)) hw (by simpa using h.2.symm)
        refine List.mem_cons_of_mem _ (ih.1 ⟨a', b, ?_⟩)
        rw [← ha']
        simp
    · intro h
      rcases List.mem_cons.1 h with rfl | h
      · exact ⟨[], t, by simp [spread, ht]⟩
      · obtain ⟨a, b, hab⟩ := ih.2 h
        exact ⟨32 :: (w ++ a), b, by simp [spread, hab]⟩
def text : List UInt8 := spread (words.map fun w => w.toList)
theorem upB_32 {b : UInt8} (h : upB b = 32) : b = 32 := by
  have h1 : upN b.toNat = 32 := by rw [← upB_toNat, h]; rfl
  unfold upN at h1
  have : b.toNat = 32 := by
    split at h1
    · omega
    · exact h1
  exact UInt8.toNat_inj.1 this
theorem upper_list (s : ByteArray) : (upper s).toList = s.toList.map upB := by
  rw [ByteArray.toList_eq, ByteArray.toList_eq]
  rfl
theorem words_clean : ∀ w ∈ words.map (fun w => w.toList), (32 : UInt8) ∉ w := by
  have h : (words.map fun w => w.data.toList).all (fun w => !w.contains 32) = true := by decide
  intro w hw
  have e : (fun w : ByteArray => w.toList) = fun w => w.data.toList := funext ByteArray.toList_eq
  rw [e] at hw
  have := List.all_eq_true.1 h w hw
  simpa using this
theorem reserved_text {s : ByteArray} (h0 : s.toList ≠ []) (h1 : (32 : UInt8) ∉ s.toList) : contains text ([32] ++ (upper s).toList ++ [32]) = reserved s := by
  rw [Bool.eq_iff_iff, contains_iff]
  unfold text reserved
  rw [decide_eq_true_iff]
  refine spread_iff _ ?_ ?_ _ words_clean
  · rw [upper_list]; simpa using h0
  · rw [upper_list]
    intro h
    obtain ⟨b, hb, e⟩ := List.mem_map.1 h
    exact h1 (by rw [← upB_32 e]; exact hb)
theorem words_nonempty : ∀ w ∈ words.map (fun w => w.toList), w ≠ [] := by
  have h : (words.map fun w => w.data.toList).all (fun w => !w.isEmpty) = true := by decide
  intro w hw
  have e : (fun w : ByteArray => w.toList) = fun w => w.data.toList := funext ByteArray.toList_eq
  rw [e] at hw
  have := List.all_eq_true.1 h w hw
  simpa using this
theorem reserved_empty {s : ByteArray} (h : s.toList = []) : reserved s = false := by
  unfold reserved
  rw [decide_eq_false_iff_not, upper_list, h]
  intro hm
  exact words_nonempty _ hm rfl
theorem text_eq : (⟨#[32, 77, 65, 84, 67, 72, 32, 79, 80, 84, 73, 79, 78, 65, 76, 32, 87, 72, 69, 82, 69, 32, 85, 78, 87, 73, 78, 68, 32, 65, 83, 32, 87, 73, 84, 72, 32, 68, 73, 83, 84, 73, 78, 67, 84, 32, 79, 82, 68, 69, 82, 32, 66, 89, 32, 65, 83, 67, 32, 68, 69, 83, 67, 32, 83, 75, 73, 80, 32, 76, 73, 77, 73, 84, 32, 82, 69, 84, 85, 82, 78, 32, 67, 82, 69, 65, 84, 69, 32, 77, 69, 82, 71, 69, 32, 83, 69, 84, 32, 82, 69, 77, 79, 86, 69, 32, 68, 69, 76, 69, 84, 69, 32, 68, 69, 84, 65, 67, 72, 32, 65, 78, 68, 32, 79, 82, 32, 78, 79, 84, 32, 73, 78, 32, 73, 83, 32, 78, 85, 76, 76, 32, 84, 82, 85, 69, 32, 70, 65, 76, 83, 69, 32, 87, 65, 76, 75, 32, 84, 82, 65, 73, 76, 32, 83, 73, 77, 80, 76, 69, 32, 83, 72, 79, 82, 84, 69, 83, 84, 32, 65, 78, 89, 32]⟩ : ByteArray).toList = text := by
  unfold text
  rw [show (fun w : ByteArray => w.toList) = fun w => w.data.toList from funext ByteArray.toList_eq, ByteArray.toList_eq]
  decide +kernel
theorem upB_space : upB 32 = 32 := by decide
theorem reserved_space {s : ByteArray} (h : (32 : UInt8) ∈ s.toList) : reserved s = false := by
  unfold reserved
  rw [decide_eq_false_iff_not, upper_list]
  intro hm
  refine words_clean _ hm ?_
  exact List.mem_map.2 ⟨32, h, upB_space⟩
theorem contains_space (l : List UInt8) : contains l [32] = decide ((32 : UInt8) ∈ l) := by
  rw [Bool.eq_iff_iff, contains_iff, decide_eq_true_iff]
  constructor
  · rintro ⟨a, b, h⟩; simp [h]
  · intro h
    obtain ⟨a, b, h⟩ := List.append_of_mem h
    exact ⟨a, b, by simp [h]⟩
end Go.Proofs.YtgjljfbohpnfcaaGreat.Plain


namespace Go.Proofs
open Go.Shelf
def Tryz.lays144_ren : Go.Shelf.Ren := ⟨fun | 144 => 135 | 143 => 151 | 219 => 158 | 217 => 165 | 225 => 166 | 224 => 167 | 267 => 168 | 266 => 177 | 314 => 178 | n => n, fun | 9 => 9 | 4 => 4 | 3 => 3 | 5 => 5 | 46 => 119 | 146 => 185 | 51 => 147 | n => n, fun | 1 => 0 | n => n⟩
theorem Tryz.lays144 : Go.Proofs.Lays.n144 Tryz.prog Tryz.lays144_ren := {
  mixed := by kernel_rfl
  f143 := Tryz.func151.trans (congrArg some (by kernel_rfl))
  f144 := Tryz.func135.trans (congrArg some (by kernel_rfl))
  f217 := Tryz.func165.trans (congrArg some (by kernel_rfl))
  f219 := Tryz.func158.trans (congrArg some (by kernel_rfl))
  f224 := Tryz.func167.trans (congrArg some (by kernel_rfl))
  f225 := Tryz.func166.trans (congrArg some (by kernel_rfl))
  f266 := Tryz.func177.trans (congrArg some (by kernel_rfl))
  f267 := Tryz.func168.trans (congrArg some (by kernel_rfl))
  f314 := Tryz.func178.trans (congrArg some (by kernel_rfl))
  t3 := Tryz.underlying3
  a3 := Tryz.isAgg3
  z3 := Tryz.sizeOf3
  v3 := Tryz.zeroValue3
  t4 := Tryz.underlying4
  a4 := Tryz.isAgg4
  z4 := Tryz.sizeOf4
  v4 := Tryz.zeroValue4
  t5 := Tryz.underlying5
  a5 := Tryz.isAgg5
  z5 := Tryz.sizeOf5
  v5 := Tryz.zeroValue5
  t9 := Tryz.underlying9
  a9 := Tryz.isAgg9
  z9 := Tryz.sizeOf9
  v9 := Tryz.zeroValue9
  t46 := Tryz.underlying119
  a46 := Tryz.isAgg119
  z46 := Tryz.sizeOf119
  v46 := Tryz.zeroValue119
  t51 := Tryz.underlying147
  a51 := Tryz.isAgg147
  z51 := Tryz.sizeOf147
  v51 := Tryz.zeroValue147
  t146 := Tryz.underlying185
  a146 := Tryz.isAgg185
  z146 := Tryz.sizeOf185
  v146 := Tryz.zeroValue185
  g1 := by kernel_rfl }
open Go.RowKit Go.Lib in
theorem Tryz.strings_Contains (s sub : ByteArray) (m : Int) (w : World) (hs : s.size < 4294967281) (hm : w.cell? ⟨0, 0, none⟩ = some (.int .i64 m)) :
    Calls Tryz.prog 135 #[.string s, .string sub] w fun e w' => e = .returned (.bool (Lib.contains s.data.toList sub.data.toList)) ∧ w' = w := Any.strings_Contains Tryz.lays144 s sub m w hs hm
def Tryz.laysGw15_ren : Go.Shelf.Ren := ⟨fun | 15 => 161 | 20 => 170 | n => n, fun | 9 => 9 | 23 => 177 | 3 => 3 | 4 => 4 | 0 => 0 | 21 => 21 | n => n, fun | n => n⟩
theorem Tryz.laysGw15 : Go.Proofs.LaysGw.n15 Tryz.prog Tryz.laysGw15_ren := {
  mixed := by kernel_rfl
  f15 := Tryz.func161.trans (congrArg some (by kernel_rfl))
  f20 := Tryz.func170.trans (congrArg some (by kernel_rfl))
  t0 := Tryz.underlying0
  a0 := Tryz.isAgg0
  z0 := Tryz.sizeOf0
  v0 := Tryz.zeroValue0
  i0 := by kernel_rfl
  t3 := Tryz.underlying3
  a3 := Tryz.isAgg3
  z3 := Tryz.sizeOf3
  v3 := Tryz.zeroValue3
  i3 := by kernel_rfl
  t4 := Tryz.underlying4
  a4 := Tryz.isAgg4
  z4 := Tryz.sizeOf4
  v4 := Tryz.zeroValue4
  i4 := by kernel_rfl
  t9 := Tryz.underlying9
  a9 := Tryz.isAgg9
  z9 := Tryz.sizeOf9
  v9 := Tryz.zeroValue9
  i9 := by kernel_rfl
  t21 := Tryz.underlying21
  a21 := Tryz.isAgg21
  z21 := Tryz.sizeOf21
  v21 := Tryz.zeroValue21
  i21 := by kernel_rfl
  t23 := Tryz.underlying177
  a23 := Tryz.isAgg177
  z23 := Tryz.sizeOf177
  v23 := Tryz.zeroValue177
  i23 := by kernel_rfl }
open Go.RowKit Go.Lib in
theorem Tryz.strings_IndexFunc (g : Nat) (lb : Array Value) (eg : ∀ args w, (callFunc g args).run Tryz.prog w = .ok (.enter g args) w) (p : Nat → Bool) (s : ByteArray) (w : World) (hp : PredAt Tryz.prog g lb encR p w) :
    Calls Tryz.prog 161 #[.string s, .func (.func g) #[] lb] w fun e w' => e = .returned (.int .i64 (Lib.idxFunc p true s)) ∧ Below w.heap.size w w' := Any.strings_IndexFunc Tryz.laysGw15 g lb eg p s w hp
def Tryz.laysSlM6_f50_ren : Go.Shelf.Ren := ⟨fun | 6 => 50 | 8 => 71 | 9 => 70 | 19 => 108 | 20 => 109 | 21 => 99 | 22 => 100 | 23 => 101 | 24 => 102 | 25 => 103 | 26 => 104 | 27 => 105 | 28 => 106 | 29 => 107 | 36 => 128 | 31 => 129 | 32 => 130 | 37 => 131 | 38 => 132 | 39 => 133 | 41 => 150 | n => n, fun | 27 => 33 | 29 => 9 | 3 => 3 | 32 => 119 | 26 => 33 | 0 => 0 | 44 => 147 | 46 => 149 | 4 => 4 | 36 => 139 | 35 => 138 | 41 => 144 | 5 => 5 | 9 => 9 | 53 => 156 | 57 => 160 | 63 => 168 | 64 => 165 | n => n, fun | n => n⟩
theorem Tryz.laysSlM6_f50 : Go.Proofs.SlLaysM.n6 Tryz.prog Tryz.laysSlM6_f50_ren := {
  mixed := by kernel_rfl
  f6 := ⟨Tryz.f50.name, by decide, Tryz.func50.trans (congrArg some (by kernel_rfl))⟩
  f8 := Tryz.func71.trans (congrArg some (by kernel_rfl))
  f9 := ⟨Tryz.f70.name, by decide, Tryz.func70.trans (congrArg some (by kernel_rfl))⟩
  f19 := Tryz.func108.trans (congrArg some (by kernel_rfl))
  f20 := Tryz.func109.trans (congrArg some (by kernel_rfl))
  f21 := ⟨Tryz.f99.name, by decide, Tryz.func99.trans (congrArg some (by kernel_rfl))⟩
  f22 := ⟨Tryz.f100.name, by decide, Tryz.func100.trans (congrArg some (by kernel_rfl))⟩
  f23 := ⟨Tryz.f101.name, by decide, Tryz.func101.trans (congrArg some (by kernel_rfl))⟩
  f24 := ⟨Tryz.f102.name, by decide, Tryz.func102.trans (congrArg some (by kernel_rfl))⟩
  f25 := ⟨Tryz.f103.name, by decide, Tryz.func103.trans (congrArg some (by kernel_rfl))⟩
  f26 := ⟨Tryz.f104.name, by decide, Tryz.func104.trans (congrArg some (by kernel_rfl))⟩
  f27 := ⟨Tryz.f105.name, by decide, Tryz.func105.trans (congrArg some (by kernel_rfl))⟩
  f28 := ⟨Tryz.f106.name, by decide, Tryz.func106.trans (congrArg some (by kernel_rfl))⟩
  f29 := ⟨Tryz.f107.name, by decide, Tryz.func107.trans (congrArg some (by kernel_rfl))⟩
  f31 := Tryz.func129.trans (congrArg some (by kernel_rfl))
  f32 := Tryz.func130.trans (congrArg some (by kernel_rfl))
  f36 := ⟨Tryz.f128.name, by decide, Tryz.func128.trans (congrArg some (by kernel_rfl))⟩
  f37 := ⟨Tryz.f131.name, by decide, Tryz.func131.trans (congrArg some (by kernel_rfl))⟩
  f38 := ⟨Tryz.f132.name, by decide, Tryz.func132.trans (congrArg some (by kernel_rfl))⟩
  f39 := ⟨Tryz.f133.name, by decide, Tryz.func133.trans (congrArg some (by kernel_rfl))⟩
  f41 := ⟨Tryz.f150.name, by decide, Tryz.func150.trans (congrArg some (by kernel_rfl))⟩
  t0 := Tryz.underlying0
  a0 := Tryz.isAgg0
  z0 := Tryz.sizeOf0
  v0 := Tryz.zeroValue0
  t3 := Tryz.underlying3
  a3 := Tryz.isAgg3
  z3 := Tryz.sizeOf3
  v3 := Tryz.zeroValue3
  t4 := Tryz.underlying4
  a4 := Tryz.isAgg4
  z4 := Tryz.sizeOf4
  v4 := Tryz.zeroValue4
  t5 := Tryz.underlying5
  a5 := Tryz.isAgg5
  z5 := Tryz.sizeOf5
  v5 := Tryz.zeroValue5
  t9 := Tryz.underlying9
  a9 := Tryz.isAgg9
  z9 := Tryz.sizeOf9
  v9 := Tryz.zeroValue9
  t26 := Tryz.underlying33
  a26 := Tryz.isAgg33
  z26 := Tryz.sizeOf33
  v26 := Tryz.zeroValue33
  t27 := Tryz.underlying33
  a27 := Tryz.isAgg33
  z27 := Tryz.sizeOf33
  v27 := Tryz.zeroValue33
  t29 := Tryz.underlying9
  a29 := Tryz.isAgg9
  z29 := Tryz.sizeOf9
  v29 := Tryz.zeroValue9
  t32 := Tryz.underlying119
  a32 := Tryz.isAgg119
  z32 := Tryz.sizeOf119
  v32 := Tryz.zeroValue119
  t35 := Tryz.underlying138
  a35 := Tryz.isAgg138
  z35 := Tryz.sizeOf138
  v35 := Tryz.zeroValue138
  t36 := Tryz.underlying139
  a36 := Tryz.isAgg139
  z36 := Tryz.sizeOf139
  v36 := Tryz.zeroValue139
  t41 := Tryz.underlying144
  a41 := Tryz.isAgg144
  z41 := Tryz.sizeOf144
  v41 := Tryz.zeroValue144
  t44 := Tryz.underlying147
  a44 := Tryz.isAgg147
  z44 := Tryz.sizeOf147
  v44 := Tryz.zeroValue147
  t46 := Tryz.underlying149
  a46 := Tryz.isAgg149
  z46 := Tryz.sizeOf149
  v46 := Tryz.zeroValue149
  t53 := Tryz.underlying156
  a53 := Tryz.isAgg156
  z53 := Tryz.sizeOf156
  v53 := Tryz.zeroValue156
  t57 := Tryz.underlying160
  a57 := Tryz.isAgg160
  z57 := Tryz.sizeOf160
  v57 := Tryz.zeroValue160
  t63 := Tryz.underlying168
  a63 := Tryz.isAgg168
  z63 := Tryz.sizeOf168
  v63 := Tryz.zeroValue168
  t64 := Tryz.underlying165
  a64 := Tryz.isAgg165
  z64 := Tryz.sizeOf165
  v64 := Tryz.zeroValue165 }
open Go.Sort Go.RowKit in
theorem Tryz.slices_Sort_string (blk off cap : Nat) (ss : List (List UInt8)) (w : World) (hH : Holds encStr w blk off ss.toArray) (hblk : blk < w.heap.size) (hsz : ss.length < 4611686018427387904) :
    Calls Tryz.prog 50 #[.slice (some ⟨blk, off, none⟩) ss.length cap] w fun e w' =>
      e = .returned (.tuple #[]) ∧ ∃ n os, w' = grow (putRow encStr (Sort.ahead w n) blk off (ss.mergeSort fun x y => decide (x ≤ y)).toArray) os := AnyM.slices_Sort_string Tryz.laysSlM6_f50 blk off cap ss w hH hblk hsz
end Go.Proofs


namespace Go.Proofs.YtgjljfbohpnfcaaGreat
open Go.RowKit
def HasMax (w : World) : Prop := ∃ m, w.cell? ⟨0, 0, none⟩ = some (.int .i64 m)
theorem HasMax.below {w w' : World} {B : Nat} (h : HasMax w) (hb : Below B w w') (hB : w.heap.size ≤ B) : HasMax w' := by
  obtain ⟨m, hm⟩ := h
  exact ⟨m, Go.Proofs.YtgjljfbohpnfcaaGreat.cell_later hb hB hm⟩
theorem containsC (s sub : ByteArray) (w : World) (h : HasMax w) (hs : s.size < 1000000) : Calls Tryz.prog 135 #[.string s, .string sub] w fun e w' => e = .returned (.bool (Lib.contains s.toList sub.toList)) ∧ w = w' := by
  obtain ⟨m, hm⟩ := h
  refine (Tryz.strings_Contains s sub m w (by omega) hm).mono ?_
  rintro e w' ⟨rfl, rfl⟩
  exact ⟨by rw [ByteArray.toList_eq, ByteArray.toList_eq], rfl⟩
set_option maxRecDepth 100000 in
set_option maxHeartbeats 1000000 in
theorem reservedP (s : ByteArray) (w : World) (hM : HasMax w) (hbig : s.size < 1000000) : Calls Tryz.prog 114 #[.string s] w (RetBool (Plain.reserved s) w) := by
  cases h0 : s.toList.isEmpty
  · have hne : s.toList ≠ [] := by simpa using h0
    have HNE := Lib.hid hne; clear hne
    by_cases h1 : (32 : UInt8) ∈ s.toList
    · have HR := Lib.hid (Plain.reserved_space h1)
      have HC : Hid (Lib.contains s.toList (ByteArray.mk #[32]).toList = true) := Lib.hid (by rw [show (ByteArray.mk #[32]).toList = [32] from ByteArray.toList_mk [32], Plain.contains_space]; simpa using h1)
      clear h1
      go_enter Tryz.func114, Tryz.ntmps114
      go_wp2_with fail
      refine (containsC s _ _ hM hbig).mono ?_
      rintro e w1 ⟨rfl, rfl⟩
      rw [HC.out]
      go_wp2_with fail
      go_ret
      exact ⟨ret_bool HR.out.symm, Below.refl _ _⟩
    · have HR := Lib.hid (Plain.reserved_text HNE.out h1)
      have HC : Hid (Lib.contains s.toList (ByteArray.mk #[32]).toList = false) := Lib.hid (by rw [show (ByteArray.mk #[32]).toList = [32] from ByteArray.toList_mk [32], Plain.contains_space]; simpa using h1)
      have hu := Plain.upper_size s
      have hus : (Plain.upper s).size < 1000000 := by omega
      clear h1 hu
      go_enter Tryz.func114, Tryz.ntmps114
      go_wp2_with fail
      refine (containsC s _ _ hM hbig).mono ?_
      rintro e w1 ⟨rfl, rfl⟩
      rw [HC.out]
      go_wp2_with fail
      refine (upperP s _ hbig).mono ?_
      rintro e w1 ⟨rfl, hb⟩
      have hM1 := hM.below hb (Nat.le_refl _)
      generalize Plain.upper s = u at *
      go_wp2_with fail
      refine (containsC _ _ _ hM1 (by decide)).mono ?_
      rintro e w2 ⟨rfl, rfl⟩
      rw [Plain.text_eq, show (({ data := #[32] } : ByteArray) ++ u ++ { data := #[32] }).toList = [32] ++ u.toList ++ [32] from by simp [ByteArray.toList_eq], HR.out]
      go_wp2_with fail
      go_ret
      exact ⟨rfl, hb⟩
  · have HR := Lib.hid (Plain.reserved_empty (s := s) (by simpa using h0))
    go_enter Tryz.func114, Tryz.ntmps114
    go_wp2_with fail
    go_ret
    exact ⟨ret_bool HR.out.symm, Below.refl _ _⟩
end Go.Proofs.YtgjljfbohpnfcaaGreat


namespace Go.Proofs.YtgjljfbohpnfcaaGreat
open Go.RowKit
set_option linter.unusedSimpArgs false
set_option linter.unusedVariables false
theorem keeps_of_below {w w' : World} {B : Nat} (h : Below B w w') (hB : w.heap.size ≤ B) : Keeps (fun _ => False) w w' :=
  ⟨h.os, h.tape, h.output, h.size, fun b hb _ => h.block b (Nat.lt_of_lt_of_le hb hB), trivial⟩
theorem pure1_calls {P : Program} {G : Nat → AV} {f : FuncId} {α : Type} [Enc α] {pre : α → Prop} {res : α → AV}
    (h : ∀ (w : World) (X : Nat → Prop) (v : Value) (a : α), (∀ b, X b → b < w.heap.size) → (∀ g, RepD w X (.pointer (some ⟨g, 0, none⟩)) (gav (G g))) → pre a → RepD w X v (Enc.enc a) →
      Calls P f #[v] w fun e w' => ∃ u, e = .returned u ∧ Keeps (fun _ => False) w w' ∧ RepD w' X u (res a)) : PureOK P G f (spec1 pre res) := by
  intro w X args avs ob r hX hG hsz harg hp hob
  unfold spec1 at hp
  split at hp
  · rename_i av
    injection hp with hp; injection hp with e1 e2; subst e1 e2
    obtain ⟨v, hv, hr⟩ := harg 0 av rfl
    obtain rfl : args = #[v] := by
      match args, hsz, hv with
      | ⟨[x]⟩, _, hv => simp at hv; subst hv; rfl
    have hr := repD_nrmV hr
    rw [hob.1] at hr
    exact h w X v _ hX (fun g => (hG g).rep) hob.2 hr
  · cases hp
theorem pure2_calls {P : Program} {G : Nat → AV} {f : FuncId} {α β : Type} [Enc α] [Enc β] {pre : α → β → Prop} {res : α → β → AV}
    (h : ∀ (w : World) (X : Nat → Prop) (v v1 : Value) (a : α) (b : β), (∀ b, X b → b < w.heap.size) → (∀ g, RepD w X (.pointer (some ⟨g, 0, none⟩)) (gav (G g))) → pre a b → RepD w X v (Enc.enc a) → RepD w X v1 (Enc.enc b) →
      Calls P f #[v, v1] w fun e w' => ∃ u, e = .returned u ∧ Keeps (fun _ => False) w w' ∧ RepD w' X u (res a b)) : PureOK P G f (spec2 pre res) := by
  intro w X args avs ob r hX hG hsz harg hp hob
  unfold spec2 at hp
  split at hp
  · rename_i av bv
    injection hp with hp; injection hp with e1 e2; subst e1 e2
    obtain ⟨v, hv, hr⟩ := harg 0 av rfl
    obtain ⟨v1, hv1, hr1⟩ := harg 1 bv rfl
    obtain rfl : args = #[v, v1] := by
      match args, hsz, hv, hv1 with
      | ⟨[x, y]⟩, _, hv, hv1 => simp at hv hv1; subst hv hv1; rfl
    have hr := repD_nrmV hr
    have hr1 := repD_nrmV hr1
    rw [hob.1] at hr
    rw [hob.2.1] at hr1
    exact h w X v v1 _ _ hX (fun g => (hG g).rep) hob.2.2 hr hr1
  · cases hp
def G (m : Int) : Nat → AV := fun g => if g = 0 then .iptr [.int .i64 m] else .undef
theorem hasMax_G {m : Int} {w : World} {X : Nat → Prop} (h : ∀ g, RepD w X (.pointer (some ⟨g, 0, none⟩)) (gav (G m g))) : HasMax w := by
  have := h 0
  unfold G at this
  rw [if_pos rfl, gav_iptr] at this
  cases this with
  | iptr b off cells val hb hX hm hv =>
    refine ⟨m, ?_⟩
    have h1 := (hm 0 (by simp)).1
    have h2 := hv 0 _ rfl
    rw [Nat.zero_add] at h1
    rw [h1]
    generalize val 0 = u at h2
    cases h2
    rfl
theorem G_hasMax {w : World} (h : HasMax w) : ∃ m, ∀ g, RepD w (fun _ => False) (.pointer (some ⟨g, 0, none⟩)) (G m g) := by
  obtain ⟨m, hm⟩ := h
  refine ⟨m, fun g => ?_⟩
  unfold G
  split
  · rename_i hg
    subst hg
    refine .iptr 0 0 _ (fun _ => .int .i64 m) (World.block_lt_of_cell? w _ hm) id (fun j hj => ?_) (fun j v hv => ?_)
    · have : j = 0 := by simpa using hj
      subst this
      exact ⟨hm, rfl⟩
    · match j, hv with
      | 0, hv => simp at hv; subst hv; exact .int _ _
      | j + 1, hv => simp at hv
  · exact .undef _
theorem repS {w : World} {X : Nat → Prop} {v : Value} {s : ByteArray} (h : RepD w X v (Enc.enc s)) : v = .string s := by cases h; rfl
structure B8 where
  v : Int
instance : Enc B8 where
  sz := 1
  cells b := [.int .u8 b.v]
  enc b := .int .u8 b.v
  unc l := match l with | [.int _ n] => ⟨n⟩ | _ => ⟨0⟩
  dec v := match v with | .int _ n => ⟨n⟩ | _ => ⟨0⟩
  unc_cells _ := rfl
  dec_enc _ := rfl
@[simp] theorem enc_b8 (b : B8) : Enc.enc b = .int .u8 b.v := rfl
@[simp] theorem dec_b8 (k : IntKind) (n : Int) : (Enc.dec (.int k n) : B8) = ⟨n⟩ := rfl
structure R32 where
  v : Int
instance : Enc R32 where
  sz := 1
  cells b := [.int .i32 b.v]
  enc b := .int .i32 b.v
  unc l := match l with | [.int _ n] => ⟨n⟩ | _ => ⟨0⟩
  dec v := match v with | .int _ n => ⟨n⟩ | _ => ⟨0⟩
  unc_cells _ := rfl
  dec_enc _ := rfl
@[simp] theorem enc_r32 (b : R32) : Enc.enc b = .int .i32 b.v := rfl
@[simp] theorem dec_r32 (k : IntKind) (n : Int) : (Enc.dec (.int k n) : R32) = ⟨n⟩ := rfl
structure FnV (g : Nat) where
instance (g : Nat) : Enc (FnV g) where
  sz := 1
  cells _ := [.fn g []]
  enc _ := .fn g []
  unc _ := ⟨⟩
  dec _ := ⟨⟩
  unc_cells _ := rfl
  dec_enc _ := rfl
@[simp] theorem enc_fnV {g : Nat} (b : FnV g) : Enc.enc b = .fn g [] := rfl
theorem pure1_all {P : Program} {G : Nat → AV} {f : FuncId} {α : Type} [Enc α] {pre : α → Prop} {res : α → AV} (m : α → Nat) (h : ∀ n, PureOK P G f (spec1 (fun a => pre a ∧ m a ≤ n) res)) : PureOK P G f (spec1 pre res) := by
  intro w X args avs ob r hX hG hsz harg hp hob
  match avs, hp with
  | [a], hp =>
    simp only [spec1, Option.some.injEq, Prod.mk.injEq] at hp
    obtain ⟨rfl, rfl⟩ := hp
    exact h (m (Enc.dec a)) w X args [a] _ _ hX hG hsz harg rfl ⟨hob.1, hob.2, Nat.le_refl _⟩
theorem pure2_all {P : Program} {G : Nat → AV} {f : FuncId} {α β : Type} [Enc α] [Enc β] {pre : α → β → Prop} {res : α → β → AV} (m : α → β → Nat) (h : ∀ n, PureOK P G f (spec2 (fun a b => pre a b ∧ m a b ≤ n) res)) : PureOK P G f (spec2 pre res) := by
  intro w X args avs ob r hX hG hsz harg hp hob
  match avs, hp with
  | [a, b], hp =>
    simp only [spec2, Option.some.injEq, Prod.mk.injEq] at hp
    obtain ⟨rfl, rfl⟩ := hp
    exact h (m (Enc.dec a) (Enc.dec b)) w X args [a, b] _ _ hX hG hsz harg rfl ⟨hob.1, hob.2.1, hob.2.2, Nat.le_refl _⟩
end Go.Proofs.YtgjljfbohpnfcaaGreat


namespace Go.Proofs.YtgjljfbohpnfcaaGreat
open Go.RowKit
set_option linter.unusedSimpArgs false
set_option linter.unusedVariables false
set_option maxRecDepth 100000
def letterB (c : Int) : Bool := decide (97 ≤ c ∧ c ≤ 122) || decide (65 ≤ c ∧ c ≤ 90)
def nameC (c : Int) : Bool := letterB c || decide (48 ≤ c ∧ c ≤ 57) || decide (c = 95)
def nameB (s : ByteArray) : Bool := decide (1 ≤ s.size ∧ s.size ≤ 20 ∧ letterB (btA s 0) = true ∧ ∀ j, j < s.size → nameC (btA s j) = true)
def wordB (s : ByteArray) : Bool := nameB s && !Plain.reserved s
theorem nameC_letter {c : Int} (h : letterB c = true) : nameC c = true := by simp [nameC, h]
theorem nameB_false {s : ByteArray} {j : Nat} (h : j < s.size) (hc : nameC (btA s j) = false) : nameB s = false := by
  unfold nameB
  simp only [decide_eq_false_iff_not]
  rintro ⟨_, _, _, h4⟩
  rw [h4 j h] at hc
  cases hc
noncomputable def CE (m : Int) : Ctx := mkC Tryz.prog (G m) []
@[simp] theorem CE_P (m : Int) : (CE m).P = Tryz.prog := rfl
theorem sigCE (m : Int) : SigOK (CE m) := sigOK_nil _ _
theorem mixCE (m : Int) : (CE m).P.follows .mixedOrders = true := mixed
section
variable {m : Int}
set_option maxHeartbeats 2000000 in
theorem letterP : PureOK Tryz.prog (G m) 134 (spec1 (fun (_ : B8) => True) (fun c => .bool (letterB c.v))) := by
  refine pure1 (C := CE m) (sigCE m) (mixCE m) Tryz.func134 rfl rfl rfl (by kernel_rfl) (by decide) (fun ⟨c⟩ _ => ?_)
  by_cases h1 : 97 ≤ c <;> by_cases h2 : c ≤ 122 <;> by_cases h3 : 65 ≤ c <;> by_cases h4 : c ≤ 90 <;> simp [letterB, h1, h2, h3, h4]
set_option maxHeartbeats 2000000 in
theorem letterR : PureOK Tryz.prog (G m) 147 (spec1 (fun (_ : B8) => True) (fun c => .bool (letterB c.v))) := by
  refine pure1 (C := CE m) (sigCE m) (mixCE m) Tryz.func147 rfl rfl rfl (by kernel_rfl) (by decide) (fun ⟨c⟩ _ => ?_)
  by_cases h1 : 97 ≤ c <;> by_cases h2 : c ≤ 122 <;> by_cases h3 : 65 ≤ c <;> by_cases h4 : c ≤ 90 <;> simp [letterB, h1, h2, h3, h4]
def sLetter : List AV → Option (Prop × AV) := spec1 (fun (_ : B8) => True) (fun c => .bool (letterB c.v))
noncomputable def CL (m : Int) : Ctx := mkC Tryz.prog (G m) [(134, .pure sLetter), (147, .pure sLetter)]
@[simp] theorem CL_P (m : Int) : (CL m).P = Tryz.prog := rfl
@[simp] theorem CL_1 (m : Int) : (CL m).S 134 = .pure sLetter := rfl
@[simp] theorem CL_2 (m : Int) : (CL m).S 147 = .pure sLetter := rfl
theorem sigCL (m : Int) : SigOK (CL m) := sigOK_cons (entryPure letterP Tryz.func134 rfl (by decide)) (sigOK_cons (entryPure letterR Tryz.func147 rfl (by decide)) (sigOK_nil _ _))
theorem mixCL (m : Int) : (CL m).P.follows .mixedOrders = true := mixed
theorem nameB_true {s : ByteArray} (h0 : ¬ s.size = 0) (h1 : ¬ 20 < s.size) (h2 : letterB (btA s 0) = true) (h : ∀ j, j < s.size → nameC (btA s j) = true) : nameB s = true := by
  unfold nameB
  simp only [decide_eq_true_eq]
  exact ⟨by omega, by omega, h2, h⟩
theorem nameB_first {s : ByteArray} (h2 : letterB (btA s 0) = false) : nameB s = false := by
  unfold nameB
  simp [h2]
theorem empty_size {s : ByteArray} (h : s.size = 0) : s = ⟨#[]⟩ := str_ext (by rw [h]; rfl) fun i hi => by omega
set_option maxHeartbeats 8000000 in
theorem nameP : PureOK Tryz.prog (G m) 113 (spec1 (fun (_ : ByteArray) => True) (fun s => .bool (nameB s))) := by
  refine pure1 (C := CL m) (sigCL m) (mixCL m) Tryz.func113 rfl rfl rfl (by kernel_rfl) (by decide) (fun s _ => ?_)
  by_cases h0 : s.size = 0
  · have e := empty_size h0
    subst e
    have en : nameB ⟨#[]⟩ = false := by simp [nameB]; intro h; exact absurd h (by decide)
    simp [en]
  have e : ¬ s = ⟨#[]⟩ := fun e => h0 (by rw [e]; rfl)
  by_cases h1 : 20 < s.size
  · have h1' : (20 : Int) < s.size := by omega
    have en : nameB s = false := by simp [nameB]; omega
    simp [h1', e, en]
  have h1' : ¬ (20 : Int) < s.size := by omega
  have hpos : 0 < s.size := by omega
  have hpos' : (0 : Int) < s.size := by omega
  cases h2 : letterB (btA s 0)
  · simp [h1', e, hpos, hpos', sLetter, h2, nameB_first h2]
  · simp [h1', e, hpos, hpos', sLetter, h2]
    refine loop_rule (C := CL m) (sigCL m) (mixCL m) (fun i : Nat => ⟨[(0, .str s), (18, .int .i64 s.size), (19, .int .i64 i)], []⟩) (fun i => i ≤ s.size ∧ ∀ j, j < i → nameC (btA s j) = true) (fun i => s.size - i) (by kernel_rfl) ⟨0, by simp, weak_slots (by simp)⟩ (fun i ⟨hi, hall⟩ => ?_)
    by_cases hlt : i < s.size
    · have i1 : I64 ((i : Int) + 1) := by unfold I64; omega
      have step : nameC (btA s i) = true → ∀ j, j < i + 1 → nameC (btA s j) = true := fun hc j hj => by
        rcases Nat.lt_or_ge j i with h | h
        · exact hall j h
        · rw [show j = i by omega]; exact hc
      cases h3 : letterB (btA s i)
      · by_cases h4 : (btA s i : Int) < 48
        · have hn : nameC (btA s i) = false := by simp [nameC, h3]; omega
          have h4' : btA s i < 48 := by omega
          have h5 : ¬ btA s i = 95 := by omega
          have h5' : ¬ (btA s i : Int) = 95 := by omega
          simp [hlt, sLetter, h3, h4, h4', h5, h5', nameB_false hlt hn]
        · have h4' : ¬ btA s i < 48 := by omega
          by_cases h5 : 57 < (btA s i : Int)
          · have h5' : 57 < btA s i := by omega
            by_cases h6 : btA s i = 95
            · have hn : nameC (btA s i) = true := by simp [nameC, h6]
              have h3' : letterB 95 = false := by rw [h6] at h3; exact h3
              simp [hlt, sLetter, h3, h3', h4, h4', h5, h5', h6, i1]
              exact ⟨i + 1, ⟨by omega, step hn⟩, by omega, weak_slots (by simp)⟩
            · have hn : nameC (btA s i) = false := by simp [nameC, h3]; omega
              have h6' : ¬ (btA s i : Int) = 95 := by omega
              simp [hlt, sLetter, h3, h4, h4', h5, h5', h6, h6', nameB_false hlt hn]
          · have h5' : ¬ 57 < btA s i := by omega
            have hn : nameC (btA s i) = true := by simp [nameC]; omega
            simp [hlt, sLetter, h3, h4, h4', h5, h5', i1]
            exact ⟨i + 1, ⟨by omega, step hn⟩, by omega, weak_slots (by simp)⟩
      · simp [hlt, sLetter, h3, i1]
        exact ⟨i + 1, ⟨by omega, step (nameC_letter h3)⟩, by omega, weak_slots (by simp)⟩
    · have en := nameB_true h0 h1 h2 (fun j hj => hall j (by omega))
      simp [hlt, en]
set_option maxHeartbeats 8000000 in
theorem nameR : PureOK Tryz.prog (G m) 126 (spec1 (fun (_ : ByteArray) => True) (fun s => .bool (nameB s))) := by
  refine pure1 (C := CL m) (sigCL m) (mixCL m) Tryz.func126 rfl rfl rfl (by kernel_rfl) (by decide) (fun s _ => ?_)
  by_cases h0 : s.size = 0
  · have e := empty_size h0
    subst e
    have en : nameB ⟨#[]⟩ = false := by simp [nameB]; intro h; exact absurd h (by decide)
    have h0' : ((⟨#[]⟩ : ByteArray).size : Int) < 1 := by decide
    simp [en, h0']
  have e : ¬ (s.size : Int) < 1 := by omega
  by_cases h1 : 20 < s.size
  · have h1' : (20 : Int) < s.size := by omega
    have en : nameB s = false := by simp [nameB]; omega
    simp [h1', e, en]
  have h1' : ¬ (20 : Int) < s.size := by omega
  have hpos : 0 < s.size := by omega
  have hpos' : (0 : Int) < s.size := by omega
  cases h2 : letterB (btA s 0)
  · simp [h1', e, hpos, hpos', sLetter, h2, nameB_first h2]
  · simp [h1', e, hpos, hpos', sLetter, h2]
    refine loop_rule (C := CL m) (sigCL m) (mixCL m) (fun i : Nat => ⟨[(0, .str s), (3, .int .i64 i)], []⟩) (fun i => i ≤ s.size ∧ ∀ j, j < i → nameC (btA s j) = true) (fun i => s.size - i) (by kernel_rfl) ⟨1, ⟨by omega, fun j hj => by rw [show j = 0 by omega]; exact nameC_letter h2⟩, weak_slots (by simp)⟩ (fun i ⟨hi, hall⟩ => ?_)
    by_cases hlt : i < s.size
    · have i1 : I64 ((i : Int) + 1) := by unfold I64; omega
      have step : nameC (btA s i) = true → ∀ j, j < i + 1 → nameC (btA s j) = true := fun hc j hj => by
        rcases Nat.lt_or_ge j i with h | h
        · exact hall j h
        · rw [show j = i by omega]; exact hc
      cases h3 : letterB (btA s i)
      · by_cases h6 : btA s i = 95
        · have h6' : (btA s i : Int) = 95 := by omega
          have hn : nameC (btA s i) = true := by simp [nameC, h6]
          have h3' : letterB 95 = false := by rw [h6'] at h3; exact h3
          simp [hlt, sLetter, h3, h3', h6, h6', i1]
          exact ⟨i + 1, ⟨by omega, step hn⟩, by omega, weak_slots (by simp)⟩
        · have h6' : ¬ (btA s i : Int) = 95 := by omega
          by_cases h4 : (btA s i : Int) < 48
          · have hn : nameC (btA s i) = false := by simp [nameC, h3]; omega
            have h4' : btA s i < 48 := by omega
            simp [hlt, sLetter, h3, h4, h4', h6, h6', nameB_false hlt hn]
          · have h4' : ¬ btA s i < 48 := by omega
            by_cases h5 : 57 < (btA s i : Int)
            · have h5' : 57 < btA s i := by omega
              have hn : nameC (btA s i) = false := by simp [nameC, h3]; omega
              simp [hlt, sLetter, h3, h4, h4', h5, h5', h6, h6', nameB_false hlt hn]
            · have h5' : ¬ 57 < btA s i := by omega
              have hn : nameC (btA s i) = true := by simp [nameC]; omega
              simp [hlt, sLetter, h3, h4, h4', h5, h5', h6, h6', i1]
              exact ⟨i + 1, ⟨by omega, step hn⟩, by omega, weak_slots (by simp)⟩
      · simp [hlt, sLetter, h3, i1]
        exact ⟨i + 1, ⟨by omega, step (nameC_letter h3)⟩, by omega, weak_slots (by simp)⟩
    · have en := nameB_true h0 h1 h2 (fun j hj => hall j (by omega))
      simp [hlt, en]
theorem resP : PureOK Tryz.prog (G m) 114 (spec1 (fun (s : ByteArray) => s.size < 1000000) (fun s => .bool (Plain.reserved s))) := pure1_calls fun w X v s hX hG hs h => by
  obtain rfl := repS h
  exact (reservedP s w (hasMax_G hG) hs).mono fun e w' ⟨he, hb⟩ => ⟨_, he, keeps_of_below hb (Nat.le_refl _), .bool _⟩
theorem resR : PureOK Tryz.prog (G m) 127 (spec1 (fun (s : ByteArray) => s.size < 1000000) (fun s => .bool (Plain.reserved s))) := pure1_calls fun w X v s hX hG hs h => by
  obtain rfl := repS h
  exact (reservedR s w hs).mono fun e w' ⟨he, hb⟩ => ⟨_, he, keeps_of_below hb (Nat.le_refl _), .bool _⟩
def sName : List AV → Option (Prop × AV) := spec1 (fun (_ : ByteArray) => True) (fun s => .bool (nameB s))
def sRes : List AV → Option (Prop × AV) := spec1 (fun (s : ByteArray) => s.size < 1000000) (fun s => .bool (Plain.reserved s))
noncomputable def CW (m : Int) : Ctx := mkC Tryz.prog (G m) [(113, .pure sName), (126, .pure sName), (114, .pure sRes), (127, .pure sRes)]
@[simp] theorem CW_P (m : Int) : (CW m).P = Tryz.prog := rfl
@[simp] theorem CW_1 (m : Int) : (CW m).S 113 = .pure sName := rfl
@[simp] theorem CW_2 (m : Int) : (CW m).S 126 = .pure sName := rfl
@[simp] theorem CW_3 (m : Int) : (CW m).S 114 = .pure sRes := rfl
@[simp] theorem CW_4 (m : Int) : (CW m).S 127 = .pure sRes := rfl
theorem sigCW (m : Int) : SigOK (CW m) := sigOK_cons (entryPure nameP Tryz.func113 rfl (by decide)) (sigOK_cons (entryPure nameR Tryz.func126 rfl (by decide)) (sigOK_cons (entryPure resP Tryz.func114 rfl (by decide)) (sigOK_cons (entryPure resR Tryz.func127 rfl (by decide)) (sigOK_nil _ _))))
theorem mixCW (m : Int) : (CW m).P.follows .mixedOrders = true := mixed
set_option maxHeartbeats 4000000 in
theorem wordP : PureOK Tryz.prog (G m) 82 (spec1 (fun (_ : ByteArray) => True) (fun s => .bool (wordB s))) := by
  refine pure1 (C := CW m) (sigCW m) (mixCW m) Tryz.func82 rfl rfl rfl (by kernel_rfl) (by decide) (fun s _ => ?_)
  cases h : nameB s
  · simp [sName, wordB, h]
  · have hs : s.size < 1000000 := by simp [nameB] at h; omega
    simp [sName, sRes, wordB, h, hs]
set_option maxHeartbeats 4000000 in
theorem wordR : PureOK Tryz.prog (G m) 96 (spec1 (fun (_ : ByteArray) => True) (fun s => .bool (wordB s))) := by
  refine pure1 (C := CW m) (sigCW m) (mixCW m) Tryz.func96 rfl rfl rfl (by kernel_rfl) (by decide) (fun s _ => ?_)
  cases h : nameB s
  · simp [sName, wordB, h]
  · have hs : s.size < 1000000 := by simp [nameB] at h; omega
    simp [sName, sRes, wordB, h, hs]
end
end Go.Proofs.YtgjljfbohpnfcaaGreat


namespace Go.Proofs.YtgjljfbohpnfcaaGreat
open Go.RowKit
set_option linter.unusedSimpArgs false
set_option linter.unusedVariables false
set_option maxRecDepth 100000
def spec5 {α β γ δ ε : Type} [Enc α] [Enc β] [Enc γ] [Enc δ] [Enc ε] (pre : α → β → γ → δ → ε → Prop) (res : α → β → γ → δ → ε → AV) : List AV → Option (Prop × AV)
  | [a, b, c, d, e] => some (nrmV a = Enc.enc (Enc.dec a : α) ∧ nrmV b = Enc.enc (Enc.dec b : β) ∧ nrmV c = Enc.enc (Enc.dec c : γ) ∧ nrmV d = Enc.enc (Enc.dec d : δ) ∧ nrmV e = Enc.enc (Enc.dec e : ε) ∧ pre (Enc.dec a) (Enc.dec b) (Enc.dec c) (Enc.dec d) (Enc.dec e), res (Enc.dec a) (Enc.dec b) (Enc.dec c) (Enc.dec d) (Enc.dec e))
  | _ => none
theorem pure5 {C : Ctx} (hS : SigOK C) (hM : C.P.follows .mixedOrders = true) {f : FuncId} {fn : Func} {body : Code} {rs : List ResultVar} {n : Nat} (hf : C.P.funcs[f]? = some fn) (hb : fn.body = some body) (hrs : fn.results.toList = rs) (hn : fn.ntmps = n) {α β γ δ ε : Type} [Enc α] [Enc β] [Enc γ] [Enc δ] [Enc ε] (hok : codeOK C n body = true) (hnn : 5 ≤ n) {pre : α → β → γ → δ → ε → Prop} {res : α → β → γ → δ → ε → AV}
    (h : ∀ a b c d e, pre a b c d e → avc C n 0 body ⟨[(0, Enc.enc a), (1, Enc.enc b), (2, Enc.enc c), (3, Enc.enc d), (4, Enc.enc e)], []⟩ (postP C rs (res a b c d e))) : PureOK C.P C.G f (spec5 pre res) :=
  pure_of hS hM hf hb hrs hn hok fun avs ob r' hp hob => by
    unfold spec5 at hp
    split at hp
    · injection hp with hp; injection hp with e1 e2; subst e1 e2
      refine ⟨hnn, ?_⟩
      have := h _ _ _ _ _ hob.2.2.2.2.2
      rw [← hob.1, ← hob.2.1, ← hob.2.2.1, ← hob.2.2.2.1, ← hob.2.2.2.2.1] at this
      exact this
    · cases hp
section
variable {m : Int}
theorem wrap64 {n : Int} (h : I64 n) : IntKind.wrap .i64 n = n := by 
  unfold I64 at h
  have e : IntKind.bits .i64 = 64 := rfl
  have s : IntKind.signed .i64 = true := rfl
  simp only [IntKind.wrap, e, s, Bool.true_and, decide_eq_true_eq]
  split <;> omega
def inB (n : Int) : Bool := decide (-1000000000000000 ≤ n) && decide (n ≤ 1000000000000000)
theorem inP : PureOK Tryz.prog (G m) 159 (spec1 (fun (_ : Int) => True) (fun n => .bool (inB n))) := by
  refine pure1 (C := CE m) (sigCE m) (mixCE m) Tryz.func159 rfl rfl rfl (by kernel_rfl) (by decide) (fun n _ => ?_)
  by_cases h1 : -1000000000000000 ≤ n <;> by_cases h2 : n ≤ 1000000000000000 <;> simp [inB, h1, h2]
theorem inR : PureOK Tryz.prog (G m) 172 (spec1 (fun (_ : Int) => True) (fun n => .bool (inB n))) := by
  refine pure1 (C := CE m) (sigCE m) (mixCE m) Tryz.func172 rfl rfl rfl (by kernel_rfl) (by decide) (fun n _ => ?_)
  by_cases h1 : -1000000000000000 ≤ n <;> by_cases h2 : n ≤ 1000000000000000 <;> simp [inB, h1, h2]
theorem sizeR : PureOK Tryz.prog (G m) 181 (spec1 (fun (n : Int) => inB n = true) (fun n => .int .i64 n.natAbs)) := by
  refine pure1 (C := CE m) (sigCE m) (mixCE m) Tryz.func181 rfl rfl rfl (by kernel_rfl) (by decide) (fun n hn => ?_)
  simp [inB] at hn
  by_cases h1 : n < 0
  · have h2 : I64 (-n) := by unfold I64; omega
    have h3 : (n.natAbs : Int) = -n := by omega
    rw [h3]
    simp [h1, h2, wrap64 h2]
  · have h3 : (n.natAbs : Int) = n := by omega
    rw [h3]
    simp [h1]
set_option maxHeartbeats 2000000 in
theorem gcdR : PureOK Tryz.prog (G m) 180 (spec2 (fun (a b : Int) => 0 ≤ a ∧ 0 ≤ b) (fun a b => .int .i64 (Nat.gcd a.toNat b.toNat))) := by
  refine pure2 (C := CE m) (sigCE m) (mixCE m) Tryz.func180 rfl rfl rfl (by kernel_rfl) (by decide) (fun a b ⟨ha, hb⟩ => ?_)
  obtain ⟨a, rfl⟩ := Int.eq_ofNat_of_zero_le ha
  obtain ⟨b, rfl⟩ := Int.eq_ofNat_of_zero_le hb
  simp
  refine loop_rule (C := CE m) (sigCE m) (mixCE m) (fun p : Nat × Nat => ⟨[(0, .int .i64 p.1), (1, .int .i64 p.2)], []⟩) (fun p => Nat.gcd p.1 p.2 = Nat.gcd a b) (fun p => p.2) (by kernel_rfl) ⟨(a, b), rfl, weak_slots (by simp)⟩ (fun ⟨x, y⟩ hg => ?_)
  simp only at hg ⊢
  by_cases h : 0 < y
  · have h0 : ¬ (y : Int) = 0 := by omega
    simp [h, h0]
    refine ⟨by omega, y, x % y, ?_, Nat.mod_lt _ h, weak_slots (by simp [Int.tmod_eq_emod_of_nonneg (show (0 : Int) ≤ (x : Int) by omega)])⟩
    rw [Nat.gcd_comm, ← hg, Nat.gcd_comm x y, Nat.gcd_rec y x, Nat.gcd_comm]
  · have h0 : y = 0 := by omega
    subst h0
    rw [Nat.gcd_zero_right] at hg
    simp [hg]
def fracB (n d : Int) : Bool := decide (1 ≤ d) && decide (d ≤ 1000000000000000) && inB n && decide (Nat.gcd n.natAbs d.toNat = 1)
def strB (s : ByteArray) : Bool := decide (∀ j, j < s.size → 32 ≤ btA s j ∧ btA s j ≤ 126) && decide (s.size ≤ 100)
set_option maxHeartbeats 2000000 in
theorem strR : PureOK Tryz.prog (G m) 174 (spec1 (fun (s : ByteArray) => s.size ≤ maxLen) (fun s => .bool (strB s))) := by
  refine pure1 (C := CE m) (sigCE m) (mixCE m) Tryz.func174 rfl rfl rfl (by kernel_rfl) (by decide) (fun s hs => ?_)
  have hs' : s.size ≤ 9223372036854775807 := by unfold maxLen at hs; omega
  simp
  refine loop_rule (C := CE m) (sigCE m) (mixCE m) (fun i : Nat => ⟨[(0, .str s), (3, .int .i64 i)], []⟩) (fun i => i ≤ s.size ∧ ∀ j, j < i → 32 ≤ btA s j ∧ btA s j ≤ 126) (fun i => s.size - i) (by kernel_rfl) ⟨0, by simp, weak_slots (by simp)⟩ (fun i ⟨hi, hall⟩ => ?_)
  by_cases hlt : i < s.size
  · have i1 : I64 ((i : Int) + 1) := by unfold I64; omega
    by_cases h1 : (btA s i : Int) < 32
    · have h1' : btA s i < 32 := by omega
      have e : strB s = false := by
        unfold strB
        rw [decide_eq_false (fun h => by have := h i hlt; omega), Bool.false_and]
      simp [hlt, h1, h1', e]
    · have h1' : ¬ btA s i < 32 := by omega
      by_cases h2 : 126 < (btA s i : Int)
      · have h2' : 126 < btA s i := by omega
        have e : strB s = false := by
          unfold strB
          rw [decide_eq_false (fun h => by have := h i hlt; omega), Bool.false_and]
        simp [hlt, h1, h1', h2, h2', e]
      · have h2' : ¬ 126 < btA s i := by omega
        simp [hlt, h1, h1', h2, h2', i1]
        refine ⟨i + 1, ⟨by omega, fun j hj => ?_⟩, by omega, weak_slots (by simp)⟩
        rcases Nat.lt_or_ge j i with h | h
        · exact hall j h
        · rw [show j = i by omega]; omega
  · have e : strB s = decide (s.size ≤ 100) := by
      unfold strB
      rw [decide_eq_true (fun j hj => hall j (by omega)), Bool.true_and]
    by_cases h3 : s.size ≤ 100
    · have h3' : (s.size : Int) ≤ 100 := by omega
      simp [hlt, e, h3, h3']
    · have h3' : ¬ (s.size : Int) ≤ 100 := by omega
      simp [hlt, e, h3, h3']
def zeroV (v : Val) : Bool := decide (v.kind = 0) && decide (v.n = 0) && decide (v.d = 0) && decide (v.s = ⟨#[]⟩) && v.l.isEmpty
theorem empty_or (l : List Val) : (l = [] ∧ l.isEmpty = true) ∨ (¬ l = [] ∧ l.isEmpty = false) := by cases l <;> simp
set_option maxHeartbeats 2000000 in
theorem blankP : PureOK Tryz.prog (G m) 111 (spec1 (fun (_ : Val) => True) (fun v => .bool (zeroV v))) := by
  refine pure1 (C := CE m) (sigCE m) (mixCE m) Tryz.func111 rfl rfl rfl (by kernel_rfl) (by decide) (fun v _ => ?_)
  by_cases h1 : v.kind = 0
  rotate_left
  · simp [zeroV, h1]
  by_cases h2 : v.n = 0
  rotate_left
  · simp [zeroV, h1, h2]
  by_cases h3 : v.d = 0
  rotate_left
  · simp [zeroV, h1, h2, h3]
  by_cases h4 : v.s = ⟨#[]⟩
  rotate_left
  · simp [zeroV, h1, h2, h3, h4]
  rcases empty_or v.l with ⟨h5, h6⟩ | ⟨h5, h6⟩ <;> simp [zeroV, h1, h2, h3, h4, h5, h6]
set_option maxHeartbeats 2000000 in
theorem zeroR : PureOK Tryz.prog (G m) 122 (spec1 (fun (_ : Val) => True) (fun v => .bool (zeroV v))) := by
  refine pure1 (C := CE m) (sigCE m) (mixCE m) Tryz.func122 rfl rfl rfl (by kernel_rfl) (by decide) (fun v _ => ?_)
  by_cases h1 : v.kind = 0
  rotate_left
  · simp [zeroV, h1]
  by_cases h2 : v.n = 0
  rotate_left
  · simp [zeroV, h1, h2]
  by_cases h3 : v.d = 0
  rotate_left
  · simp [zeroV, h1, h2, h3]
  by_cases h4 : v.s = ⟨#[]⟩
  rotate_left
  · simp [zeroV, h1, h2, h3, h4]
  rcases empty_or v.l with ⟨h5, h6⟩ | ⟨h5, h6⟩ <;> simp [zeroV, h1, h2, h3, h4, h5, h6]
theorem or3 (b : Bool) (p : Prop) : (b = false ∧ ¬ p) ∨ (b = true ∧ b = true) ∨ (b = false ∧ p) := by
  by_cases h : p <;> cases b <;> simp [h]
def bareB (v : Val) (n d s l : Bool) : Bool := (n || decide (v.n = 0)) && (d || decide (v.d = 0)) && (s || decide (v.s = ⟨#[]⟩)) && (l || v.l.isEmpty)
set_option maxHeartbeats 4000000 in
theorem bareR : PureOK Tryz.prog (G m) 171 (spec5 (fun (_ : Val) (_ _ _ _ : Bool) => True) (fun v n d s l => .bool (bareB v n d s l))) := by
  refine pure5 (C := CE m) (sigCE m) (mixCE m) Tryz.func171 rfl rfl rfl (by kernel_rfl) (by decide) (fun v n d s l _ => ?_)
  rcases or3 n (v.n = 0) with ⟨h, h1⟩ | ⟨h, h1⟩ | ⟨h, h1⟩
  · simp [bareB, h, h1]
  all_goals
    rcases or3 d (v.d = 0) with ⟨h2, h3⟩ | ⟨h2, h3⟩ | ⟨h2, h3⟩
    · simp [bareB, h, h1, h2, h3]
    all_goals
      rcases or3 s (v.s = ⟨#[]⟩) with ⟨h4, h5⟩ | ⟨h4, h5⟩ | ⟨h4, h5⟩
      · simp [bareB, h, h1, h2, h3, h4, h5]
      all_goals
        rcases empty_or v.l with ⟨h6, h7⟩ | ⟨h6, h7⟩ <;> cases l <;> simp [bareB, h, h1, h2, h3, h4, h5, h6, h7]
end
end Go.Proofs.YtgjljfbohpnfcaaGreat


namespace Go.Proofs.YtgjljfbohpnfcaaGreat
open Go.RowKit
set_option linter.unusedSimpArgs false
set_option linter.unusedVariables false
set_option maxRecDepth 100000
theorem pure1_none {P : Program} {G : Nat → AV} {f : FuncId} {α : Type} [Enc α] {pre : α → Prop} {res : α → AV} (h : ∀ a, ¬ pre a) : PureOK P G f (spec1 pre res) := by
  intro w X args avs ob r hX hG hsz harg hp hob
  match avs, hp with
  | [a], hp =>
    simp only [spec1, Option.some.injEq, Prod.mk.injEq] at hp
    obtain ⟨rfl, rfl⟩ := hp
    exact absurd hob.2 (h _)
theorem pure2_none {P : Program} {G : Nat → AV} {f : FuncId} {α β : Type} [Enc α] [Enc β] {pre : α → β → Prop} {res : α → β → AV} (h : ∀ a b, ¬ pre a b) : PureOK P G f (spec2 pre res) := by
  intro w X args avs ob r hX hG hsz harg hp hob
  match avs, hp with
  | [a, b], hp =>
    simp only [spec2, Option.some.injEq, Prod.mk.injEq] at hp
    obtain ⟨rfl, rfl⟩ := hp
    exact absurd hob.2.2 (h _ _)
structure Fr where
  n : Int
  d : Int
instance : Enc Fr where
  sz := 2
  cells b := [.int .i64 b.n, .int .i64 b.d]
  enc b := .agg [.int .i64 b.n, .int .i64 b.d]
  unc l := match l with | [.int _ n, .int _ d] => ⟨n, d⟩ | _ => ⟨0, 0⟩
  dec v := match v with | .agg [.int _ n, .int _ d] => ⟨n, d⟩ | _ => ⟨0, 0⟩
  unc_cells _ := rfl
  dec_enc _ := rfl
@[simp] theorem enc_fr (b : Fr) : Enc.enc b = .agg [.int .i64 b.n, .int .i64 b.d] := rfl
@[simp] theorem dec_fr (k j : IntKind) (n d : Int) : (Enc.dec (.agg [.int k n, .int j d]) : Fr) = ⟨n, d⟩ := rfl
inductive WfV : Val → Prop
  | mk (k n d : Int) (s : ByteArray) (l : List Val) (hs : s.size ≤ maxLen) (hl : l.length ≤ maxLen) (h : ∀ x ∈ l, WfV x) : WfV (.mk k n d s l)
theorem WfV.str {v : Val} (h : WfV v) : v.s.size ≤ maxLen := by cases h; assumption
theorem WfV.kids {v : Val} (h : WfV v) : ∀ x ∈ v.l, WfV x := by cases h; assumption
theorem WfV.len {v : Val} (h : WfV v) : v.l.length ≤ maxLen := by cases h; assumption
theorem val_mem {v x : Val} (h : x ∈ v.l) : SizeOf.sizeOf x < SizeOf.sizeOf v := by
  cases v with
  | mk k n d s l =>
    have := List.sizeOf_lt_of_mem h
    simp at this ⊢
    omega
theorem val_pos (v : Val) : 0 < SizeOf.sizeOf v := by cases v; simp; omega
mutual
def okRv : Val → Int → Bool
  | .mk k n d s l, nest =>
    if k = 0 then bareB (.mk k n d s l) false false false false
    else if k = 1 then bareB (.mk k n d s l) true false false false && (decide (n = 0) || decide (n = 1))
    else if k = 2 then bareB (.mk k n d s l) true false false false && inB n
    else if k = 3 then bareB (.mk k n d s l) true true false false && decide (2 ≤ d) && fracB n d
    else if k = 4 then bareB (.mk k n d s l) false false true false && strB s
    else if k = 5 ∨ k = 6 then bareB (.mk k n d s l) true false false false && decide (1 ≤ n) && decide (n ≤ 1000000)
    else if k = 7 then bareB (.mk k n d s l) false false false true && (!(decide (l.length % 2 = 0) || decide (25 < l.length)) && pathL l 0)
    else if k = 8 then bareB (.mk k n d s l) false false false true && (!(decide (nest < 1) || decide (64 < l.length)) && allL l (nest - 1))
    else false
def allL : List Val → Int → Bool
  | [], _ => true
  | v :: r, nest => okRv v nest && allL r nest
def pathL : List Val → Nat → Bool
  | [], _ => true
  | v :: r, i => (decide (v.kind = (if i % 2 = 1 then 6 else 5)) && okRv v 0) && pathL r (i + 1)
end
theorem okR_eq (v : Val) (nest : Int) : okRv v nest =
    if v.kind = 0 then bareB v false false false false
    else if v.kind = 1 then bareB v true false false false && (decide (v.n = 0) || decide (v.n = 1))
    else if v.kind = 2 then bareB v true false false false && inB v.n
    else if v.kind = 3 then bareB v true true false false && decide (2 ≤ v.d) && fracB v.n v.d
    else if v.kind = 4 then bareB v false false true false && strB v.s
    else if v.kind = 5 ∨ v.kind = 6 then bareB v true false false false && decide (1 ≤ v.n) && decide (v.n ≤ 1000000)
    else if v.kind = 7 then bareB v false false false true && (!(decide (v.l.length % 2 = 0) || decide (25 < v.l.length)) && pathL v.l 0)
    else if v.kind = 8 then bareB v false false false true && (!(decide (nest < 1) || decide (64 < v.l.length)) && allL v.l (nest - 1))
    else false := by
  cases v
  rw [okRv]
  rfl
theorem allL_iff : ∀ (l : List Val) (nest : Int), allL l nest = true ↔ ∀ j, j < l.length → okRv (ix l j) nest = true
  | [], nest => by simp [allL]
  | v :: r, nest => by
    rw [allL, Bool.and_eq_true, allL_iff r nest]
    constructor
    · rintro ⟨h1, h2⟩ j hj
      match j, hj with
      | 0, _ => exact h1
      | j + 1, hj => exact h2 j (by simpa using hj)
    · intro h
      exact ⟨h 0 (by simp), fun j hj => h (j + 1) (by simpa using hj)⟩
theorem pathL_iff : ∀ (l : List Val) (k : Nat), pathL l k = true ↔ ∀ j, j < l.length → (ix l j).kind = (if (k + j) % 2 = 1 then 6 else 5) ∧ okRv (ix l j) 0 = true
  | [], k => by simp [pathL]
  | v :: r, k => by
    rw [pathL, Bool.and_eq_true, Bool.and_eq_true, pathL_iff r (k + 1), decide_eq_true_eq]
    constructor
    · rintro ⟨h1, h2⟩ j hj
      match j, hj with
      | 0, _ => exact h1
      | j + 1, hj =>
        have := h2 j (by simpa using hj)
        rw [show k + 1 + j = k + (j + 1) by omega] at this
        exact this
    · intro h
      refine ⟨h 0 (by simp), fun j hj => ?_⟩
      have := h (j + 1) (by simpa using hj)
      rw [show k + (j + 1) = k + 1 + j by omega] at this
      exact this
theorem eta_k {v : Val} {k : Int} (h : v.kind = k) : Val.mk k v.n v.d v.s v.l = v := by rw [← h]; exact Val.eta v
theorem eta_kn {v : Val} {k n : Int} (h : v.kind = k) (h' : v.n = n) : Val.mk k n v.d v.s v.l = v := by rw [← h, ← h']; exact Val.eta v
theorem bool_iff {a : Bool} {p : Prop} (h : a = true ↔ p) (hn : ¬ p) : a = false := by
  cases e : a
  · rfl
  · exact absurd (h.1 e) hn
section
variable {m : Int}
def sSize : List AV → Option (Prop × AV) := spec1 (fun (n : Int) => inB n = true) (fun n => .int .i64 n.natAbs)
def sGcd : List AV → Option (Prop × AV) := spec2 (fun (a b : Int) => 0 ≤ a ∧ 0 ≤ b) (fun a b => .int .i64 (Nat.gcd a.toNat b.toNat))
noncomputable def CGt (m : Int) : Ctx := mkC Tryz.prog (G m) [(181, .pure sSize), (180, .pure sGcd)]
@[simp] theorem CGt_P (m : Int) : (CGt m).P = Tryz.prog := rfl
@[simp] theorem CGt_1 (m : Int) : (CGt m).S 181 = .pure sSize := rfl
@[simp] theorem CGt_2 (m : Int) : (CGt m).S 180 = .pure sGcd := rfl
theorem sigCGt (m : Int) : SigOK (CGt m) := sigOK_cons (entryPure sizeR Tryz.func181 rfl (by decide)) (sigOK_cons (entryPure gcdR Tryz.func180 rfl (by decide)) (sigOK_nil _ _))
theorem mixCGt (m : Int) : (CGt m).P.follows .mixedOrders = true := mixed
set_option maxHeartbeats 4000000 in
theorem fracR : PureOK Tryz.prog (G m) 173 (spec1 (fun (_ : Fr) => True) (fun a => .bool (fracB a.n a.d))) := by
  refine pure1 (C := CGt m) (sigCGt m) (mixCGt m) Tryz.func173 rfl rfl rfl (by kernel_rfl) (by decide) (fun ⟨n, d⟩ _ => ?_)
  by_cases h1 : 1 ≤ d
  rotate_left
  · simp [fracB, h1]
  by_cases h2 : d ≤ 1000000000000000
  rotate_left
  · simp [fracB, h1, h2]
  by_cases h3 : -1000000000000000 ≤ n
  rotate_left
  · simp [fracB, inB, h1, h2, h3]
  by_cases h4 : n ≤ 1000000000000000
  rotate_left
  · simp [fracB, inB, h1, h2, h3, h4]
  have hin : inB n = true := by simp [inB, h3, h4]
  have h5 : (0 : Int) ≤ d := by omega
  simp [fracB, hin, h1, h2, h3, h4, sSize, sGcd, h5]
  omega
def sV (n : Nat) : List AV → Option (Prop × AV) := spec2 (fun (v : Val) (k : Int) => (WfV v ∧ 0 ≤ k ∧ k ≤ 8) ∧ SizeOf.sizeOf v ≤ n) (fun v k => .bool (okRv v k))
noncomputable def CV (m : Int) (n : Nat) : Ctx := mkC Tryz.prog (G m) [(164, .pure (sV n))]
@[simp] theorem CV_P (m : Int) (n : Nat) : (CV m n).P = Tryz.prog := rfl
@[simp] theorem CV_1 (m : Int) (n : Nat) : (CV m n).S 164 = .pure (sV n) := rfl
theorem sigCV {n : Nat} (h : PureOK Tryz.prog (G m) 164 (sV n)) : SigOK (CV m n) := sigOK_cons (entryPure h Tryz.func164 rfl (by decide)) (sigOK_nil _ _)
theorem mixCV (m : Int) (n : Nat) : (CV m n).P.follows .mixedOrders = true := mixed
set_option maxHeartbeats 4000000 in
theorem listR {n : Nat} (h : PureOK Tryz.prog (G m) 164 (sV n)) : PureOK Tryz.prog (G m) 176 (spec2 (fun (l : List Val) (k : Int) => (∀ x ∈ l, WfV x ∧ SizeOf.sizeOf x ≤ n) ∧ 0 ≤ k ∧ k ≤ 8) (fun l k => .bool (!(decide (k < 1) || decide (64 < l.length)) && allL l (k - 1)))) := by
  refine pure2 (C := CV m n) (sigCV h) (mixCV m n) Tryz.func176 rfl rfl rfl (by kernel_rfl) (by decide) (fun l k ⟨hx, hk0, hk8⟩ => ?_)
  by_cases h1 : k < 1
  · simp [h1]
  by_cases h2 : 64 < l.length
  · have h2' : (64 : Int) < l.length := by omega
    simp [h1, h2, h2']
  have h2' : ¬ (64 : Int) < l.length := by omega
  have hk1 : 0 ≤ k - 1 := by omega
  have hk1' : 1 ≤ k := by omega
  have hk2 : k - 1 ≤ 8 := by omega
  have i2 : I64 (k - 1) := by unfold I64; omega
  simp [h1, h2, h2']
  refine loop_rule (C := CV m n) (sigCV h) (mixCV m n) (fun i : Nat => ⟨[(0, Enc.enc l), (1, .int .i64 k), (5, .int .i64 i)], []⟩) (fun i => i ≤ l.length ∧ ∀ j, j < i → okRv (ix l j) (k - 1) = true) (fun i => l.length - i) (by kernel_rfl) ⟨0, by simp, weak_slots (by simp)⟩ (fun i ⟨hi, hall⟩ => ?_)
  by_cases hlt : i < l.length
  · have i1 : I64 ((i : Int) + 1) := by unfold I64; omega
    obtain ⟨w1, w2⟩ := hx _ (ix_mem hlt)
    cases h3 : okRv (ix l i) (k - 1)
    · have e : allL l (k - 1) = false := bool_iff (allL_iff l (k - 1)) (fun h => by rw [h i hlt] at h3; cases h3)
      simp [hlt, rowAt_enc hlt, sV, w1, w2, hk1, hk1', hk2, i2, h3, e]
    · simp [hlt, rowAt_enc hlt, sV, w1, w2, hk1, hk1', hk2, i2, h3, i1]
      refine ⟨i + 1, ⟨by omega, fun j hj => ?_⟩, by omega, weak_slots (by simp)⟩
      rcases Nat.lt_or_ge j i with h | h
      · exact hall j h
      · rw [show j = i by omega]; exact h3
  · have e : allL l (k - 1) = true := (allL_iff l (k - 1)).2 fun j hj => hall j (by omega)
    simp [hlt, e]
set_option maxHeartbeats 4000000 in
theorem pathR {n : Nat} (h : PureOK Tryz.prog (G m) 164 (sV n)) : PureOK Tryz.prog (G m) 175 (spec1 (fun (l : List Val) => l.length ≤ maxLen ∧ ∀ x ∈ l, WfV x ∧ SizeOf.sizeOf x ≤ n) (fun l => .bool (!(decide (l.length % 2 = 0) || decide (25 < l.length)) && pathL l 0))) := by
  refine pure1 (C := CV m n) (sigCV h) (mixCV m n) Tryz.func175 rfl rfl rfl (by kernel_rfl) (by decide) (fun l ⟨hl, hx⟩ => ?_)
  have hl' : l.length ≤ 9223372036854775807 := by unfold maxLen at hl; omega
  have ht : ((l.length : Int)).tmod 2 = ((l.length % 2 : Nat) : Int) := by rw [Int.tmod_eq_emod_of_nonneg (by omega)]; omega
  by_cases h1 : l.length % 2 = 0
  · simp [ht, h1]
  have h1' : l.length % 2 = 1 := by omega
  by_cases h2 : 25 < l.length
  · have h2' : (25 : Int) < l.length := by omega
    simp [ht, h1', h2, h2']
  have h2' : ¬ (25 : Int) < l.length := by omega
  simp [ht, h1', h2, h2']
  refine loop_rule (C := CV m n) (sigCV h) (mixCV m n) (fun i : Nat => ⟨[(0, Enc.enc l), (3, .int .i64 i)], []⟩) (fun i => i ≤ l.length ∧ ∀ j, j < i → (ix l j).kind = (if (0 + j) % 2 = 1 then 6 else 5) ∧ okRv (ix l j) 0 = true) (fun i => l.length - i) (by kernel_rfl) ⟨0, by simp, weak_slots (by simp)⟩ (fun i ⟨hi, hall⟩ => ?_)
  by_cases hlt : i < l.length
  · have i1 : I64 ((i : Int) + 1) := by unfold I64; omega
    obtain ⟨w1, w2⟩ := hx _ (ix_mem hlt)
    have hti : ((i : Int)).tmod 2 = ((i % 2 : Nat) : Int) := by rw [Int.tmod_eq_emod_of_nonneg (by omega)]; omega
    have fail : ¬ ((ix l i).kind = (if (0 + i) % 2 = 1 then 6 else 5) ∧ okRv (ix l i) 0 = true) → pathL l 0 = false := fun hn => bool_iff (pathL_iff l 0) (fun h => hn (h i hlt))
    have step : (ix l i).kind = (if (0 + i) % 2 = 1 then 6 else 5) ∧ okRv (ix l i) 0 = true → ∀ j, j < i + 1 → (ix l j).kind = (if (0 + j) % 2 = 1 then 6 else 5) ∧ okRv (ix l j) 0 = true := fun h j hj => by
      rcases Nat.lt_or_ge j i with h' | h'
      · exact hall j h'
      · rw [show j = i by omega]; exact h
    rw [Nat.zero_add] at fail step
    by_cases h3 : i % 2 = 1
    · rw [if_pos h3] at fail step
      by_cases h4 : (ix l i).kind = 6
      · cases h5 : okRv (ix l i) 0
        · simp [hlt, rowAt_enc hlt, hti, h3, h4, eta_k h4, sV, w1, w2, h5, fail (by simp [h5])]
        · simp [hlt, rowAt_enc hlt, hti, h3, h4, eta_k h4, sV, w1, w2, h5, i1]
          exact ⟨i + 1, ⟨by omega, by simpa using step ⟨h4, h5⟩⟩, by omega, weak_slots (by simp)⟩
      · simp [hlt, rowAt_enc hlt, hti, h3, h4, fail (by simp [h4])]
    · rw [if_neg h3] at fail step
      have h3' : i % 2 = 0 := by omega
      by_cases h4 : (ix l i).kind = 5
      · cases h5 : okRv (ix l i) 0
        · simp [hlt, rowAt_enc hlt, hti, h3', h4, eta_k h4, sV, w1, w2, h5, fail (by simp [h5])]
        · simp [hlt, rowAt_enc hlt, hti, h3', h4, eta_k h4, sV, w1, w2, h5, i1]
          exact ⟨i + 1, ⟨by omega, by simpa using step ⟨h4, h5⟩⟩, by omega, weak_slots (by simp)⟩
      · simp [hlt, rowAt_enc hlt, hti, h3', h4, fail (by simp [h4])]
  · have e : pathL l 0 = true := (pathL_iff l 0).2 fun j hj => hall j (by omega)
    simp [hlt, e]
def sBare : List AV → Option (Prop × AV) := spec5 (fun (_ : Val) (_ _ _ _ : Bool) => True) (fun v n d s l => .bool (bareB v n d s l))
def sIn : List AV → Option (Prop × AV) := spec1 (fun (_ : Int) => True) (fun n => .bool (inB n))
def sFrac : List AV → Option (Prop × AV) := spec1 (fun (_ : Fr) => True) (fun a => .bool (fracB a.n a.d))
def sStr : List AV → Option (Prop × AV) := spec1 (fun (s : ByteArray) => s.size ≤ maxLen) (fun s => .bool (strB s))
def sPath (n : Nat) : List AV → Option (Prop × AV) := spec1 (fun (l : List Val) => l.length ≤ maxLen ∧ ∀ x ∈ l, WfV x ∧ SizeOf.sizeOf x ≤ n) (fun l => .bool (!(decide (l.length % 2 = 0) || decide (25 < l.length)) && pathL l 0))
def sList (n : Nat) : List AV → Option (Prop × AV) := spec2 (fun (l : List Val) (k : Int) => (∀ x ∈ l, WfV x ∧ SizeOf.sizeOf x ≤ n) ∧ 0 ≤ k ∧ k ≤ 8) (fun l k => .bool (!(decide (k < 1) || decide (64 < l.length)) && allL l (k - 1)))
noncomputable def CVV (m : Int) (n : Nat) : Ctx := mkC Tryz.prog (G m) [(171, .pure sBare), (172, .pure sIn), (173, .pure sFrac), (174, .pure sStr), (175, .pure (sPath n)), (176, .pure (sList n))]
@[simp] theorem CVV_P (m : Int) (n : Nat) : (CVV m n).P = Tryz.prog := rfl
@[simp] theorem CVV_1 (m : Int) (n : Nat) : (CVV m n).S 171 = .pure sBare := rfl
@[simp] theorem CVV_2 (m : Int) (n : Nat) : (CVV m n).S 172 = .pure sIn := rfl
@[simp] theorem CVV_3 (m : Int) (n : Nat) : (CVV m n).S 173 = .pure sFrac := rfl
@[simp] theorem CVV_4 (m : Int) (n : Nat) : (CVV m n).S 174 = .pure sStr := rfl
@[simp] theorem CVV_5 (m : Int) (n : Nat) : (CVV m n).S 175 = .pure (sPath n) := rfl
@[simp] theorem CVV_6 (m : Int) (n : Nat) : (CVV m n).S 176 = .pure (sList n) := rfl
theorem sigCVV {n : Nat} (h : PureOK Tryz.prog (G m) 164 (sV n)) : SigOK (CVV m n) :=
  sigOK_cons (entryPure bareR Tryz.func171 rfl (by decide)) (sigOK_cons (entryPure inR Tryz.func172 rfl (by decide)) (sigOK_cons (entryPure fracR Tryz.func173 rfl (by decide)) (sigOK_cons (entryPure strR Tryz.func174 rfl (by decide)) (sigOK_cons (entryPure (pathR h) Tryz.func175 rfl (by decide)) (sigOK_cons (entryPure (listR h) Tryz.func176 rfl (by decide)) (sigOK_nil _ _))))))
theorem mixCVV (m : Int) (n : Nat) : (CVV m n).P.follows .mixedOrders = true := mixed
set_option maxHeartbeats 8000000 in
theorem validR : ∀ n : Nat, PureOK Tryz.prog (G m) 164 (sV n)
  | 0 => pure2_none fun v k h => by have := val_pos v; omega
  | n + 1 => by
    have ih := validR n
    refine pure2 (C := CVV m n) (sigCVV ih) (mixCVV m n) Tryz.func164 rfl rfl rfl (by kernel_rfl) (by decide) (fun v k ⟨⟨hw, hk0, hk8⟩, hn⟩ => ?_)
    have hs := hw.str
    have hl := hw.len
    have hx : ∀ x ∈ v.l, WfV x ∧ SizeOf.sizeOf x ≤ n := fun x hx => ⟨hw.kids x hx, by have := val_mem hx; omega⟩
    rw [okR_eq]
    by_cases c0 : v.kind = 0
    · simp [spec5, sBare, c0, eta_k c0]
    by_cases c1 : v.kind = 1
    · cases hb : bareB v true false false false
      · simp [spec5, sBare, c1, eta_k c1, hb]
      by_cases a0 : v.n = 0
      · simp [spec5, sBare, c1, eta_kn c1 a0, hb, a0]
      by_cases a1 : v.n = 1
      · simp [spec5, sBare, c1, eta_kn c1 a1, hb, a1]
      simp [spec5, sBare, c1, eta_k c1, hb, a0, a1]
    by_cases c2 : v.kind = 2
    · cases hb : bareB v true false false false <;> simp [spec5, sBare, sIn, c2, eta_k c2, hb]
    by_cases c3 : v.kind = 3
    · cases hb : bareB v true true false false <;> by_cases a0 : 2 ≤ v.d <;> simp [spec5, sBare, sFrac, c3, eta_k c3, hb, a0]
    by_cases c4 : v.kind = 4
    · cases hb : bareB v false false true false <;> simp [spec5, sBare, sStr, c4, eta_k c4, hb, hs]
    by_cases c5 : v.kind = 5
    · cases hb : bareB v true false false false <;> by_cases a0 : 1 ≤ v.n <;> by_cases a1 : v.n ≤ 1000000 <;> simp [spec5, sBare, c5, eta_k c5, hb, a0, a1]
    by_cases c6 : v.kind = 6
    · cases hb : bareB v true false false false <;> by_cases a0 : 1 ≤ v.n <;> by_cases a1 : v.n ≤ 1000000 <;> simp [spec5, sBare, c6, eta_k c6, hb, a0, a1]
    by_cases c7 : v.kind = 7
    · cases hb : bareB v false false false true
      · simp [spec5, sBare, c7, eta_k c7, hb]
      · simp [spec5, sBare, sPath, c7, eta_k c7, hb, hl]
        exact hx
    by_cases c8 : v.kind = 8
    · cases hb : bareB v false false false true
      · simp [spec5, sBare, c8, eta_k c8, hb]
      · simp [spec5, sBare, sList, c8, eta_k c8, hb, hk0, hk8]
        exact hx
    simp [c0, c1, c2, c3, c4, c5, c6, c7, c8]
end
end Go.Proofs.YtgjljfbohpnfcaaGreat


namespace Go.Proofs.YtgjljfbohpnfcaaGreat
open Go.RowKit
set_option linter.unusedSimpArgs false
set_option linter.unusedVariables false
set_option maxRecDepth 100000
def badR (r : Nat) : Bool := decide (r < 32) || decide (126 < r)
theorem get_btA (s : ByteArray) (j : Nat) (h : j < s.size) : (s[j]'h).toNat = btA s j := by
  unfold btA
  rw [List.getD_eq_getElem?_getD, List.getElem?_eq_getElem (by simpa using h)]
  rfl
theorem dec_low {s : ByteArray} {j : Nat} (h : j < s.size) (ha : btA s j < 128) : Utf8.decode s j = (btA s j, 1) := by
  rw [decode_ascii s j h (by rw [get_btA]; exact ha), get_btA]
theorem idx_good (s : ByteArray) : ∀ (f pos : Nat), (∀ j, pos ≤ j → j < s.size → 32 ≤ btA s j ∧ btA s j ≤ 126) → Lib.idxFuncFrom badR true s f pos = -1
  | 0, _, _ => rfl
  | f + 1, pos, h => by
    unfold Lib.idxFuncFrom
    by_cases hp : pos < s.size
    · have := h pos (Nat.le_refl _) hp
      rw [if_pos hp, dec_low hp (by omega), if_neg (by simp [badR]; omega)]
      exact idx_good s f (pos + 1) fun j hj hs => h j (by omega) hs
    · rw [if_neg hp]
theorem idx_bad (s : ByteArray) : ∀ (f pos j : Nat), s.size - pos ≤ f → pos ≤ j → j < s.size → ¬ (32 ≤ btA s j ∧ btA s j ≤ 126) → 0 ≤ Lib.idxFuncFrom badR true s f pos
  | 0, pos, j, hf, h1, h2, _ => by omega
  | f + 1, pos, j, hf, h1, h2, h3 => by
    unfold Lib.idxFuncFrom
    have hp : pos < s.size := by omega
    rw [if_pos hp]
    by_cases hg : 32 ≤ btA s pos ∧ btA s pos ≤ 126
    · rw [dec_low hp (by omega), if_neg (by simp [badR]; omega)]
      exact idx_bad s f (pos + 1) j (by omega) (by rcases Nat.lt_or_ge pos j with h | h; exact h; rw [show pos = j by omega] at hg; exact absurd hg h3) h2 h3
    · rw [if_pos ?_]
      · omega
      · by_cases hl : btA s pos < 128
        · rw [dec_low hp hl]
          simp [badR]
          omega
        · have := (decode_high s pos hp (by rw [get_btA]; omega)).1
          simp [badR]
          omega
theorem idx_iff (s : ByteArray) : decide (Lib.idxFunc badR true s < 0) = decide (∀ j, j < s.size → 32 ≤ btA s j ∧ btA s j ≤ 126) := by
  by_cases h : ∀ j, j < s.size → 32 ≤ btA s j ∧ btA s j ≤ 126
  · rw [decide_eq_true h, Lib.idxFunc, idx_good s _ _ fun j _ hj => h j hj]
    rfl
  · rw [decide_eq_false h]
    obtain ⟨j, hj⟩ := Classical.not_forall.1 h
    obtain ⟨hj, hb⟩ := Classical.not_imp.1 hj
    have := idx_bad s s.size 0 j (by omega) (by omega) hj hb
    exact decide_eq_false (by unfold Lib.idxFunc; omega)
set_option maxHeartbeats 1000000 in
theorem bad85 (c : Int) (w : World) : Calls Tryz.prog 162 #[.int .i32 c] w fun e w' => e = .returned (.bool (decide (c < 32) || decide (126 < c))) ∧ w = w' := by
  by_cases h1 : c < 32 <;> by_cases h2 : 126 < c
  all_goals
    go_enter Tryz.func162, Tryz.ntmps162
    go_wp2
    go_ret
    exact ⟨ret_bool (by simp [h1, h2]), rfl⟩
section
variable {m : Int}
theorem idxP : PureOK Tryz.prog (G m) 161 (spec2 (fun (s : ByteArray) (_ : FnV 162) => True) (fun s _ => .int .i64 (Lib.idxFunc badR true s))) := pure2_calls fun w X v v1 s f hX hG _ h h1 => by
  obtain rfl := repS h
  obtain rfl : v1 = .func (.func 162) #[] #[] := by
    cases h1 with
    | fn f cs cells val hl hm hv =>
      have : cs = #[] := by simpa using hl
      rw [this]
  refine (Tryz.strings_IndexFunc 162 #[] (enters_of Tryz.func162 (by kernel_rfl) rfl) badR s w (fun W x _ => ?_)).mono fun e w' ⟨he, hb⟩ => ⟨_, he, keeps_of_below hb (Nat.le_refl _), .int _ _⟩
  refine (bad85 (x : Int) W).mono ?_
  rintro e w' ⟨he, rfl⟩
  have e2 : badR x = (decide ((x : Int) < 32) || decide (126 < (x : Int))) := by unfold badR; congr 1 <;> exact decide_eq_decide.2 (by omega)
  exact ⟨by rw [he, e2], 0, rfl⟩
def sIdx : List AV → Option (Prop × AV) := spec2 (fun (s : ByteArray) (_ : FnV 162) => True) (fun s _ => .int .i64 (Lib.idxFunc badR true s))
noncomputable def CP (m : Int) : Ctx := mkC Tryz.prog (G m) [(161, .pure sIdx), (159, .pure sIn)]
@[simp] theorem CP_P (m : Int) : (CP m).P = Tryz.prog := rfl
@[simp] theorem CP_1 (m : Int) : (CP m).S 161 = .pure sIdx := rfl
@[simp] theorem CP_2 (m : Int) : (CP m).S 159 = .pure sIn := rfl
theorem sigCP (m : Int) : SigOK (CP m) := sigOK_cons (entryPure idxP Tryz.func161 rfl (by decide)) (sigOK_cons (entryPure inP Tryz.func159 rfl (by decide)) (sigOK_nil _ _))
theorem mixCP (m : Int) : (CP m).P.follows .mixedOrders = true := mixed
set_option maxHeartbeats 8000000 in
theorem validP : PureOK Tryz.prog (G m) 152 (spec2 (fun (v : Val) (k : Int) => WfV v ∧ (v.kind = 1 ∨ v.kind = 2 ∨ v.kind = 4)) (fun v _ => .bool (okRv v 8))) := by
  refine pure2 (C := CP m) (sigCP m) (mixCP m) Tryz.func152 rfl rfl rfl (by kernel_rfl) (by decide) (fun v k ⟨hw, hk⟩ => ?_)
  rw [okR_eq]
  by_cases hd : v.d = 0
  rotate_left
  · have hb : ∀ a b, bareB v a false b false = false := fun a b => by simp [bareB, hd]
    rcases hk with c | c | c <;> simp [c, hd, hb]
  rcases empty_or v.l with ⟨hl, hl'⟩ | ⟨hl, hl'⟩
  rotate_left
  · have hb : ∀ a b, bareB v a false b false = false := fun a b => by simp [bareB, hl, hl']
    have hlen : (0 : Int) < v.l.length := by
      have := List.length_pos_iff.2 hl
      omega
    have hlen' : 0 < v.l.length := by omega
    by_cases hs : v.s = ⟨#[]⟩ <;> rcases hk with c | c | c <;> simp [c, hd, hs, hb, hl, hlen, hlen']
  rcases hk with c | c | c
  · by_cases hs : v.s = ⟨#[]⟩
    · by_cases h0 : v.n = 0 <;> by_cases h1 : v.n = 1 <;> simp [c, hd, hs, hl, bareB, h0, h1]
    · simp [c, hd, hs, hl, bareB]
  · by_cases hs : v.s = ⟨#[]⟩
    · simp [c, hd, hs, hl, bareB, sIn]
    · simp [c, hd, hs, hl, bareB]
  · have hi := idx_iff v.s
    by_cases h0 : v.n = 0
    · by_cases h1 : v.s.size ≤ 100
      · have h1' : (v.s.size : Int) ≤ 100 := by omega
        simp [c, hd, hl, bareB, h0, h1, h1', sIdx, strB, hi]
      · have h1' : ¬ (v.s.size : Int) ≤ 100 := by omega
        simp [c, hd, hl, bareB, h0, h1, h1', strB]
    · simp [c, hd, hl, bareB, h0]
def sVP : List AV → Option (Prop × AV) := spec2 (fun (v : Val) (k : Int) => WfV v ∧ (v.kind = 1 ∨ v.kind = 2 ∨ v.kind = 4)) (fun v _ => .bool (okRv v 8))
def sVR : List AV → Option (Prop × AV) := spec2 (fun (v : Val) (k : Int) => WfV v ∧ 0 ≤ k ∧ k ≤ 8) (fun v k => .bool (okRv v k))
theorem validRA : PureOK Tryz.prog (G m) 164 sVR := pure2_all (fun v _ => SizeOf.sizeOf v) fun n => validR n
noncomputable def CQ (m : Int) : Ctx := mkC Tryz.prog (G m) [(152, .pure sVP), (164, .pure sVR)]
@[simp] theorem CQ_P (m : Int) : (CQ m).P = Tryz.prog := rfl
@[simp] theorem CQ_1 (m : Int) : (CQ m).S 152 = .pure sVP := rfl
@[simp] theorem CQ_2 (m : Int) : (CQ m).S 164 = .pure sVR := rfl
theorem sigCQ (m : Int) : SigOK (CQ m) := sigOK_cons (entryPure validP Tryz.func152 rfl (by decide)) (sigOK_cons (entryPure validRA Tryz.func164 rfl (by decide)) (sigOK_nil _ _))
theorem mixCQ (m : Int) : (CQ m).P.follows .mixedOrders = true := mixed
theorem vP : PureOK Tryz.prog (G m) 139 (spec1 (fun (v : Val) => WfV v ∧ (v.kind = 1 ∨ v.kind = 2 ∨ v.kind = 4)) (fun v => .bool (okRv v 8))) := by
  refine pure1 (C := CQ m) (sigCQ m) (mixCQ m) Tryz.func139 rfl rfl rfl (by kernel_rfl) (by decide) (fun v ⟨hw, hk⟩ => ?_)
  simp [sVP, hw, hk]
theorem vR : PureOK Tryz.prog (G m) 155 (spec1 (fun (v : Val) => WfV v) (fun v => .bool (okRv v 8))) := by
  refine pure1 (C := CQ m) (sigCQ m) (mixCQ m) Tryz.func155 rfl rfl rfl (by kernel_rfl) (by decide) (fun v hw => ?_)
  simp [sVR, hw]
end
end Go.Proofs.YtgjljfbohpnfcaaGreat


namespace Go.Proofs.YtgjljfbohpnfcaaGreat
open Go.RowKit
set_option linter.unusedSimpArgs false
set_option linter.unusedVariables false
set_option maxRecDepth 100000
def One (s : ByteArray) : Prop := s = ⟨#[105, 100]⟩ ∨ s = ⟨#[116, 121, 112, 101]⟩ ∨ s = ⟨#[108, 97, 98, 101, 108, 115]⟩ ∨ s = ⟨#[115, 105, 122, 101]⟩ ∨ s = ⟨#[108, 101, 110, 103, 116, 104]⟩ ∨ s = ⟨#[110, 111, 100, 101, 115]⟩ ∨ s = ⟨#[101, 100, 103, 101, 115]⟩ ∨ s = ⟨#[102, 105, 114, 115, 116]⟩ ∨ s = ⟨#[108, 97, 115, 116]⟩ ∨ s = ⟨#[115, 116, 97, 114, 116]⟩ ∨ s = ⟨#[101, 110, 100]⟩ ∨ s = ⟨#[97, 98, 115]⟩ ∨ s = ⟨#[116, 101, 120, 116]⟩
instance (s : ByteArray) : Decidable (One s) := by unfold One; infer_instance
def coal : ByteArray := ⟨#[99, 111, 97, 108, 101, 115, 99, 101]⟩
def arLo (s : ByteArray) : Int := if One s then 1 else if s = coal then 2 else 0
def arHi (s : ByteArray) : Int := if One s then 1 else if s = coal then 4 else 0
def Agg (s : ByteArray) : Prop := s = ⟨#[99, 111, 117, 110, 116]⟩ ∨ s = ⟨#[115, 117, 109]⟩ ∨ s = ⟨#[109, 105, 110]⟩ ∨ s = ⟨#[109, 97, 120]⟩ ∨ s = ⟨#[97, 118, 103]⟩ ∨ s = ⟨#[99, 111, 108, 108, 101, 99, 116]⟩
instance (s : ByteArray) : Decidable (Agg s) := by unfold Agg; infer_instance
theorem arHi_lo (s : ByteArray) : arHi s = 0 ↔ arLo s = 0 := by
  unfold arHi arLo
  split
  · simp
  · split <;> simp
section
variable {m : Int}
set_option maxHeartbeats 4000000 in
theorem arityP : PureOK Tryz.prog (G m) 138 (spec1 (fun (_ : ByteArray) => True) (fun s => .tup [.int .i64 (arLo s), .int .i64 (arHi s)])) := by
  refine pure1 (C := CE m) (sigCE m) (mixCE m) Tryz.func138 rfl rfl rfl (by kernel_rfl) (by decide) (fun s _ => ?_)
  by_cases h : One s
  · have l1 : arLo s = 1 := by rw [arLo, if_pos h]
    have l2 : arHi s = 1 := by rw [arHi, if_pos h]
    rw [l1, l2]
    unfold One at h
    rcases h with h | h | h | h | h | h | h | h | h | h | h | h | h <;> subst h <;> simp
  · by_cases hc : s = coal
    · have l1 : arLo s = 2 := by rw [arLo, if_neg h, if_pos hc]
      have l2 : arHi s = 4 := by rw [arHi, if_neg h, if_pos hc]
      rw [l1, l2]
      unfold coal at hc
      subst hc
      simp
    · have l1 : arLo s = 0 := by rw [arLo, if_neg h, if_neg hc]
      have l2 : arHi s = 0 := by rw [arHi, if_neg h, if_neg hc]
      rw [l1, l2]
      unfold One at h
      unfold coal at hc
      simp only [not_or] at h
      obtain ⟨n1, n2, n3, n4, n5, n6, n7, n8, n9, n10, n11, n12, n13⟩ := h
      simp [n1, n2, n3, n4, n5, n6, n7, n8, n9, n10, n11, n12, n13, hc]
set_option maxHeartbeats 4000000 in
theorem arityR : PureOK Tryz.prog (G m) 157 (spec1 (fun (_ : ByteArray) => True) (fun s => .tup [.int .i64 (arLo s), .int .i64 (arHi s)])) := by
  refine pure1 (C := CE m) (sigCE m) (mixCE m) Tryz.func157 rfl rfl rfl (by kernel_rfl) (by decide) (fun s _ => ?_)
  by_cases h : One s
  · have l1 : arLo s = 1 := by rw [arLo, if_pos h]
    have l2 : arHi s = 1 := by rw [arHi, if_pos h]
    rw [l1, l2]
    unfold One at h
    rcases h with h | h | h | h | h | h | h | h | h | h | h | h | h <;> subst h <;> simp
  · by_cases hc : s = coal
    · have l1 : arLo s = 2 := by rw [arLo, if_neg h, if_pos hc]
      have l2 : arHi s = 4 := by rw [arHi, if_neg h, if_pos hc]
      rw [l1, l2]
      unfold coal at hc
      subst hc
      simp
    · have l1 : arLo s = 0 := by rw [arLo, if_neg h, if_neg hc]
      have l2 : arHi s = 0 := by rw [arHi, if_neg h, if_neg hc]
      rw [l1, l2]
      unfold One at h
      unfold coal at hc
      simp only [not_or] at h
      obtain ⟨n1, n2, n3, n4, n5, n6, n7, n8, n9, n10, n11, n12, n13⟩ := h
      simp [n1, n2, n3, n4, n5, n6, n7, n8, n9, n10, n11, n12, n13, hc]
set_option maxHeartbeats 4000000 in
theorem aggP : PureOK Tryz.prog (G m) 140 (spec1 (fun (_ : ByteArray) => True) (fun s => .bool (decide (Agg s)))) := by
  refine pure1 (C := CE m) (sigCE m) (mixCE m) Tryz.func140 rfl rfl rfl (by kernel_rfl) (by decide) (fun s _ => ?_)
  by_cases h : Agg s
  · rw [decide_eq_true h]
    unfold Agg at h
    rcases h with h | h | h | h | h | h <;> subst h <;> simp
  · rw [decide_eq_false h]
    unfold Agg at h
    simp only [not_or] at h
    obtain ⟨n1, n2, n3, n4, n5, n6⟩ := h
    simp [n1, n2, n3, n4, n5, n6]
set_option maxHeartbeats 4000000 in
theorem aggR : PureOK Tryz.prog (G m) 156 (spec1 (fun (_ : ByteArray) => True) (fun s => .bool (decide (Agg s)))) := by
  refine pure1 (C := CE m) (sigCE m) (mixCE m) Tryz.func156 rfl rfl rfl (by kernel_rfl) (by decide) (fun s _ => ?_)
  by_cases h : Agg s
  · rw [decide_eq_true h]
    unfold Agg at h
    rcases h with h | h | h | h | h | h <;> subst h <;> simp
  · rw [decide_eq_false h]
    unfold Agg at h
    simp only [not_or] at h
    obtain ⟨n1, n2, n3, n4, n5, n6⟩ := h
    simp [n1, n2, n3, n4, n5, n6]
def namedB (o : Int) : Bool := decide (o = 2) || decide (o = 3) || decide (o = 4) || decide (o = 23) || decide (o = 24)
theorem namedR : PureOK Tryz.prog (G m) 154 (spec1 (fun (_ : Int) => True) (fun o => .bool (namedB o))) := by
  refine pure1 (C := CE m) (sigCE m) (mixCE m) Tryz.func154 rfl rfl rfl (by kernel_rfl) (by decide) (fun o _ => ?_)
  by_cases h2 : o = 2
  · simp [namedB, h2]
  by_cases h3 : o = 3
  · simp [namedB, h3]
  by_cases h4 : o = 4
  · simp [namedB, h4]
  by_cases h5 : o = 23
  · simp [namedB, h5]
  simp [namedB, h2, h3, h4, h5]
def operB (e : Expr) : Bool :=
  if e.op = 1 ∨ e.op = 2 then decide ((e.kids.length : Int) = 0)
  else if e.op = 3 ∨ e.op = 4 ∨ e.op = 5 ∨ e.op = 6 ∨ e.op = 21 then decide ((e.kids.length : Int) = 1)
  else if e.op = 22 then decide ((e.kids.length : Int) ≤ 16)
  else if e.op = 23 then decide (arLo e.name = 0) || (decide (arLo e.name ≤ (e.kids.length : Int)) && decide ((e.kids.length : Int) ≤ arHi e.name))
  else if e.op = 24 then decide ((e.kids.length : Int) = 1) || (decide ((e.kids.length : Int) = 0) && decide (e.name = ⟨#[99, 111, 117, 110, 116]⟩) && !e.dist)
  else decide ((e.kids.length : Int) = 2)
def sAr : List AV → Option (Prop × AV) := spec1 (fun (_ : ByteArray) => True) (fun s => .tup [.int .i64 (arLo s), .int .i64 (arHi s)])
noncomputable def CA (m : Int) : Ctx := mkC Tryz.prog (G m) [(138, .pure sAr), (157, .pure sAr)]
@[simp] theorem CA_P (m : Int) : (CA m).P = Tryz.prog := rfl
@[simp] theorem CA_1 (m : Int) : (CA m).S 138 = .pure sAr := rfl
@[simp] theorem CA_2 (m : Int) : (CA m).S 157 = .pure sAr := rfl
theorem sigCA (m : Int) : SigOK (CA m) := sigOK_cons (entryPure arityP Tryz.func138 rfl (by decide)) (sigOK_cons (entryPure arityR Tryz.func157 rfl (by decide)) (sigOK_nil _ _))
theorem mixCA (m : Int) : (CA m).P.follows .mixedOrders = true := mixed
set_option maxHeartbeats 8000000 in
theorem operP : PureOK Tryz.prog (G m) 117 (spec1 (fun (_ : Expr) => True) (fun e => .bool (operB e))) := by
  refine pure1 (C := CA m) (sigCA m) (mixCA m) Tryz.func117 rfl rfl rfl (by kernel_rfl) (by decide) (fun e _ => ?_)
  by_cases h : e.op = 1
  · have f1 : (e.op = 1) = True := eq_true h
    have f2 : (e.op = 2) = False := eq_false (by omega)
    have f3 : (e.op = 3) = False := eq_false (by omega)
    have f4 : (e.op = 4) = False := eq_false (by omega)
    have f5 : (e.op = 5) = False := eq_false (by omega)
    have f6 : (e.op = 6) = False := eq_false (by omega)
    have f21 : (e.op = 21) = False := eq_false (by omega)
    have f22 : (e.op = 22) = False := eq_false (by omega)
    have f23 : (e.op = 23) = False := eq_false (by omega)
    have f24 : (e.op = 24) = False := eq_false (by omega)
    simp [operB, f1, f2, f3, f4, f5, f6, f21, f22, f23, f24]
  by_cases h : e.op = 2
  · have f1 : (e.op = 1) = False := eq_false (by omega)
    have f2 : (e.op = 2) = True := eq_true h
    have f3 : (e.op = 3) = False := eq_false (by omega)
    have f4 : (e.op = 4) = False := eq_false (by omega)
    have f5 : (e.op = 5) = False := eq_false (by omega)
    have f6 : (e.op = 6) = False := eq_false (by omega)
    have f21 : (e.op = 21) = False := eq_false (by omega)
    have f22 : (e.op = 22) = False := eq_false (by omega)
    have f23 : (e.op = 23) = False := eq_false (by omega)
    have f24 : (e.op = 24) = False := eq_false (by omega)
    simp [operB, f1, f2, f3, f4, f5, f6, f21, f22, f23, f24]
  by_cases h : e.op = 3
  · have f1 : (e.op = 1) = False := eq_false (by omega)
    have f2 : (e.op = 2) = False := eq_false (by omega)
    have f3 : (e.op = 3) = True := eq_true h
    have f4 : (e.op = 4) = False := eq_false (by omega)
    have f5 : (e.op = 5) = False := eq_false (by omega)
    have f6 : (e.op = 6) = False := eq_false (by omega)
    have f21 : (e.op = 21) = False := eq_false (by omega)
    have f22 : (e.op = 22) = False := eq_false (by omega)
    have f23 : (e.op = 23) = False := eq_false (by omega)
    have f24 : (e.op = 24) = False := eq_false (by omega)
    simp [operB, f1, f2, f3, f4, f5, f6, f21, f22, f23, f24]
  by_cases h : e.op = 4
  · have f1 : (e.op = 1) = False := eq_false (by omega)
    have f2 : (e.op = 2) = False := eq_false (by omega)
    have f3 : (e.op = 3) = False := eq_false (by omega)
    have f4 : (e.op = 4) = True := eq_true h
    have f5 : (e.op = 5) = False := eq_false (by omega)
    have f6 : (e.op = 6) = False := eq_false (by omega)
    have f21 : (e.op = 21) = False := eq_false (by omega)
    have f22 : (e.op = 22) = False := eq_false (by omega)
    have f23 : (e.op = 23) = False := eq_false (by omega)
    have f24 : (e.op = 24) = False := eq_false (by omega)
    simp [operB, f1, f2, f3, f4, f5, f6, f21, f22, f23, f24]
  by_cases h : e.op = 5
  · have f1 : (e.op = 1) = False := eq_false (by omega)
    have f2 : (e.op = 2) = False := eq_false (by omega)
    have f3 : (e.op = 3) = False := eq_false (by omega)
    have f4 : (e.op = 4) = False := eq_false (by omega)
    have f5 : (e.op = 5) = True := eq_true h
    have f6 : (e.op = 6) = False := eq_false (by omega)
    have f21 : (e.op = 21) = False := eq_false (by omega)
    have f22 : (e.op = 22) = False := eq_false (by omega)
    have f23 : (e.op = 23) = False := eq_false (by omega)
    have f24 : (e.op = 24) = False := eq_false (by omega)
    simp [operB, f1, f2, f3, f4, f5, f6, f21, f22, f23, f24]
  by_cases h : e.op = 6
  · have f1 : (e.op = 1) = False := eq_false (by omega)
    have f2 : (e.op = 2) = False := eq_false (by omega)
    have f3 : (e.op = 3) = False := eq_false (by omega)
    have f4 : (e.op = 4) = False := eq_false (by omega)
    have f5 : (e.op = 5) = False := eq_false (by omega)
    have f6 : (e.op = 6) = True := eq_true h
    have f21 : (e.op = 21) = False := eq_false (by omega)
    have f22 : (e.op = 22) = False := eq_false (by omega)
    have f23 : (e.op = 23) = False := eq_false (by omega)
    have f24 : (e.op = 24) = False := eq_false (by omega)
    simp [operB, f1, f2, f3, f4, f5, f6, f21, f22, f23, f24]
  by_cases h : e.op = 21
  · have f1 : (e.op = 1) = False := eq_false (by omega)
    have f2 : (e.op = 2) = False := eq_false (by omega)
    have f3 : (e.op = 3) = False := eq_false (by omega)
    have f4 : (e.op = 4) = False := eq_false (by omega)
    have f5 : (e.op = 5) = False := eq_false (by omega)
    have f6 : (e.op = 6) = False := eq_false (by omega)
    have f21 : (e.op = 21) = True := eq_true h
    have f22 : (e.op = 22) = False := eq_false (by omega)
    have f23 : (e.op = 23) = False := eq_false (by omega)
    have f24 : (e.op = 24) = False := eq_false (by omega)
    simp [operB, f1, f2, f3, f4, f5, f6, f21, f22, f23, f24]
  by_cases h : e.op = 22
  · have f1 : (e.op = 1) = False := eq_false (by omega)
    have f2 : (e.op = 2) = False := eq_false (by omega)
    have f3 : (e.op = 3) = False := eq_false (by omega)
    have f4 : (e.op = 4) = False := eq_false (by omega)
    have f5 : (e.op = 5) = False := eq_false (by omega)
    have f6 : (e.op = 6) = False := eq_false (by omega)
    have f21 : (e.op = 21) = False := eq_false (by omega)
    have f22 : (e.op = 22) = True := eq_true h
    have f23 : (e.op = 23) = False := eq_false (by omega)
    have f24 : (e.op = 24) = False := eq_false (by omega)
    simp [operB, f1, f2, f3, f4, f5, f6, f21, f22, f23, f24]
  by_cases h : e.op = 23
  · have f1 : (e.op = 1) = False := eq_false (by omega)
    have f2 : (e.op = 2) = False := eq_false (by omega)
    have f3 : (e.op = 3) = False := eq_false (by omega)
    have f4 : (e.op = 4) = False := eq_false (by omega)
    have f5 : (e.op = 5) = False := eq_false (by omega)
    have f6 : (e.op = 6) = False := eq_false (by omega)
    have f21 : (e.op = 21) = False := eq_false (by omega)
    have f22 : (e.op = 22) = False := eq_false (by omega)
    have f23 : (e.op = 23) = True := eq_true h
    have f24 : (e.op = 24) = False := eq_false (by omega)
    by_cases a0 : arLo e.name = 0
    · have a1 := (arHi_lo e.name).2 a0
      simp [operB, sAr, f1, f2, f3, f4, f5, f6, f21, f22, f23, f24, a0, a1]
    · have a1 : ¬ arHi e.name = 0 := fun h => a0 ((arHi_lo e.name).1 h)
      by_cases a2 : arLo e.name ≤ (e.kids.length : Int) <;> by_cases a3 : (e.kids.length : Int) ≤ arHi e.name <;> simp [operB, sAr, f1, f2, f3, f4, f5, f6, f21, f22, f23, f24, a0, a1, a2, a3]
  by_cases h : e.op = 24
  · have f1 : (e.op = 1) = False := eq_false (by omega)
    have f2 : (e.op = 2) = False := eq_false (by omega)
    have f3 : (e.op = 3) = False := eq_false (by omega)
    have f4 : (e.op = 4) = False := eq_false (by omega)
    have f5 : (e.op = 5) = False := eq_false (by omega)
    have f6 : (e.op = 6) = False := eq_false (by omega)
    have f21 : (e.op = 21) = False := eq_false (by omega)
    have f22 : (e.op = 22) = False := eq_false (by omega)
    have f23 : (e.op = 23) = False := eq_false (by omega)
    have f24 : (e.op = 24) = True := eq_true h
    by_cases a0 : e.kids.length = 1
    · simp [operB, f1, f2, f3, f4, f5, f6, f21, f22, f23, f24, a0]
    · have a0' : ¬ (e.kids.length : Int) = 1 := by omega
      by_cases a1 : e.kids.length = 0
      · have a1' : (e.kids.length : Int) = 0 := by omega
        have a2 : e.kids = [] := List.length_eq_zero_iff.1 a1
        by_cases a3 : e.name = ⟨#[99, 111, 117, 110, 116]⟩ <;> cases a4 : e.dist <;> simp [operB, f1, f2, f3, f4, f5, f6, f21, f22, f23, f24, a2, a3, a4]
      · have a1' : ¬ (e.kids.length : Int) = 0 := by omega
        have a2 : ¬ e.kids = [] := fun h => a1 (by rw [h]; rfl)
        simp [operB, f1, f2, f3, f4, f5, f6, f21, f22, f23, f24, a0, a0', a1, a1', a2]
  have f1 : (e.op = 1) = False := eq_false (by assumption)
  have f2 : (e.op = 2) = False := eq_false (by assumption)
  have f3 : (e.op = 3) = False := eq_false (by assumption)
  have f4 : (e.op = 4) = False := eq_false (by assumption)
  have f5 : (e.op = 5) = False := eq_false (by assumption)
  have f6 : (e.op = 6) = False := eq_false (by assumption)
  have f21 : (e.op = 21) = False := eq_false (by assumption)
  have f22 : (e.op = 22) = False := eq_false (by assumption)
  have f23 : (e.op = 23) = False := eq_false (by assumption)
  have f24 : (e.op = 24) = False := eq_false (by assumption)
  simp [operB, f1, f2, f3, f4, f5, f6, f21, f22, f23, f24]
set_option maxHeartbeats 8000000 in
theorem operR : PureOK Tryz.prog (G m) 153 (spec1 (fun (_ : Expr) => True) (fun e => .bool (operB e))) := by
  refine pure1 (C := CA m) (sigCA m) (mixCA m) Tryz.func153 rfl rfl rfl (by kernel_rfl) (by decide) (fun e _ => ?_)
  by_cases h : e.op = 1
  · have f1 : (e.op = 1) = True := eq_true h
    have f2 : (e.op = 2) = False := eq_false (by omega)
    have f3 : (e.op = 3) = False := eq_false (by omega)
    have f4 : (e.op = 4) = False := eq_false (by omega)
    have f5 : (e.op = 5) = False := eq_false (by omega)
    have f6 : (e.op = 6) = False := eq_false (by omega)
    have f21 : (e.op = 21) = False := eq_false (by omega)
    have f22 : (e.op = 22) = False := eq_false (by omega)
    have f23 : (e.op = 23) = False := eq_false (by omega)
    have f24 : (e.op = 24) = False := eq_false (by omega)
    simp [operB, f1, f2, f3, f4, f5, f6, f21, f22, f23, f24]
  by_cases h : e.op = 2
  · have f1 : (e.op = 1) = False := eq_false (by omega)
    have f2 : (e.op = 2) = True := eq_true h
    have f3 : (e.op = 3) = False := eq_false (by omega)
    have f4 : (e.op = 4) = False := eq_false (by omega)
    have f5 : (e.op = 5) = False := eq_false (by omega)
    have f6 : (e.op = 6) = False := eq_false (by omega)
    have f21 : (e.op = 21) = False := eq_false (by omega)
    have f22 : (e.op = 22) = False := eq_false (by omega)
    have f23 : (e.op = 23) = False := eq_false (by omega)
    have f24 : (e.op = 24) = False := eq_false (by omega)
    simp [operB, f1, f2, f3, f4, f5, f6, f21, f22, f23, f24]
  by_cases h : e.op = 3
  · have f1 : (e.op = 1) = False := eq_false (by omega)
    have f2 : (e.op = 2) = False := eq_false (by omega)
    have f3 : (e.op = 3) = True := eq_true h
    have f4 : (e.op = 4) = False := eq_false (by omega)
    have f5 : (e.op = 5) = False := eq_false (by omega)
    have f6 : (e.op = 6) = False := eq_false (by omega)
    have f21 : (e.op = 21) = False := eq_false (by omega)
    have f22 : (e.op = 22) = False := eq_false (by omega)
    have f23 : (e.op = 23) = False := eq_false (by omega)
    have f24 : (e.op = 24) = False := eq_false (by omega)
    simp [operB, f1, f2, f3, f4, f5, f6, f21, f22, f23, f24]
  by_cases h : e.op = 4
  · have f1 : (e.op = 1) = False := eq_false (by omega)
    have f2 : (e.op = 2) = False := eq_false (by omega)
    have f3 : (e.op = 3) = False := eq_false (by omega)
    have f4 : (e.op = 4) = True := eq_true h
    have f5 : (e.op = 5) = False := eq_false (by omega)
    have f6 : (e.op = 6) = False := eq_false (by omega)
    have f21 : (e.op = 21) = False := eq_false (by omega)
    have f22 : (e.op = 22) = False := eq_false (by omega)
    have f23 : (e.op = 23) = False := eq_false (by omega)
    have f24 : (e.op = 24) = False := eq_false (by omega)
    simp [operB, f1, f2, f3, f4, f5, f6, f21, f22, f23, f24]
  by_cases h : e.op = 5
  · have f1 : (e.op = 1) = False := eq_false (by omega)
    have f2 : (e.op = 2) = False := eq_false (by omega)
    have f3 : (e.op = 3) = False := eq_false (by omega)
    have f4 : (e.op = 4) = False := eq_false (by omega)
    have f5 : (e.op = 5) = True := eq_true h
    have f6 : (e.op = 6) = False := eq_false (by omega)
    have f21 : (e.op = 21) = False := eq_false (by omega)
    have f22 : (e.op = 22) = False := eq_false (by omega)
    have f23 : (e.op = 23) = False := eq_false (by omega)
    have f24 : (e.op = 24) = False := eq_false (by omega)
    simp [operB, f1, f2, f3, f4, f5, f6, f21, f22, f23, f24]
  by_cases h : e.op = 6
  · have f1 : (e.op = 1) = False := eq_false (by omega)
    have f2 : (e.op = 2) = False := eq_false (by omega)
    have f3 : (e.op = 3) = False := eq_false (by omega)
    have f4 : (e.op = 4) = False := eq_false (by omega)
    have f5 : (e.op = 5) = False := eq_false (by omega)
    have f6 : (e.op = 6) = True := eq_true h
    have f21 : (e.op = 21) = False := eq_false (by omega)
    have f22 : (e.op = 22) = False := eq_false (by omega)
    have f23 : (e.op = 23) = False := eq_false (by omega)
    have f24 : (e.op = 24) = False := eq_false (by omega)
    simp [operB, f1, f2, f3, f4, f5, f6, f21, f22, f23, f24]
  by_cases h : e.op = 21
  · have f1 : (e.op = 1) = False := eq_false (by omega)
    have f2 : (e.op = 2) = False := eq_false (by omega)
    have f3 : (e.op = 3) = False := eq_false (by omega)
    have f4 : (e.op = 4) = False := eq_false (by omega)
    have f5 : (e.op = 5) = False := eq_false (by omega)
    have f6 : (e.op = 6) = False := eq_false (by omega)
    have f21 : (e.op = 21) = True := eq_true h
    have f22 : (e.op = 22) = False := eq_false (by omega)
    have f23 : (e.op = 23) = False := eq_false (by omega)
    have f24 : (e.op = 24) = False := eq_false (by omega)
    simp [operB, f1, f2, f3, f4, f5, f6, f21, f22, f23, f24]
  by_cases h : e.op = 22
  · have f1 : (e.op = 1) = False := eq_false (by omega)
    have f2 : (e.op = 2) = False := eq_false (by omega)
    have f3 : (e.op = 3) = False := eq_false (by omega)
    have f4 : (e.op = 4) = False := eq_false (by omega)
    have f5 : (e.op = 5) = False := eq_false (by omega)
    have f6 : (e.op = 6) = False := eq_false (by omega)
    have f21 : (e.op = 21) = False := eq_false (by omega)
    have f22 : (e.op = 22) = True := eq_true h
    have f23 : (e.op = 23) = False := eq_false (by omega)
    have f24 : (e.op = 24) = False := eq_false (by omega)
    simp [operB, f1, f2, f3, f4, f5, f6, f21, f22, f23, f24]
  by_cases h : e.op = 23
  · have f1 : (e.op = 1) = False := eq_false (by omega)
    have f2 : (e.op = 2) = False := eq_false (by omega)
    have f3 : (e.op = 3) = False := eq_false (by omega)
    have f4 : (e.op = 4) = False := eq_false (by omega)
    have f5 : (e.op = 5) = False := eq_false (by omega)
    have f6 : (e.op = 6) = False := eq_false (by omega)
    have f21 : (e.op = 21) = False := eq_false (by omega)
    have f22 : (e.op = 22) = False := eq_false (by omega)
    have f23 : (e.op = 23) = True := eq_true h
    have f24 : (e.op = 24) = False := eq_false (by omega)
    by_cases a0 : arLo e.name = 0
    · have a1 := (arHi_lo e.name).2 a0
      simp [operB, sAr, f1, f2, f3, f4, f5, f6, f21, f22, f23, f24, a0, a1]
    · have a1 : ¬ arHi e.name = 0 := fun h => a0 ((arHi_lo e.name).1 h)
      by_cases a2 : arLo e.name ≤ (e.kids.length : Int) <;> by_cases a3 : (e.kids.length : Int) ≤ arHi e.name <;> simp [operB, sAr, f1, f2, f3, f4, f5, f6, f21, f22, f23, f24, a0, a1, a2, a3]
  by_cases h : e.op = 24
  · have f1 : (e.op = 1) = False := eq_false (by omega)
    have f2 : (e.op = 2) = False := eq_false (by omega)
    have f3 : (e.op = 3) = False := eq_false (by omega)
    have f4 : (e.op = 4) = False := eq_false (by omega)
    have f5 : (e.op = 5) = False := eq_false (by omega)
    have f6 : (e.op = 6) = False := eq_false (by omega)
    have f21 : (e.op = 21) = False := eq_false (by omega)
    have f22 : (e.op = 22) = False := eq_false (by omega)
    have f23 : (e.op = 23) = False := eq_false (by omega)
    have f24 : (e.op = 24) = True := eq_true h
    by_cases a0 : e.kids.length = 1
    · simp [operB, f1, f2, f3, f4, f5, f6, f21, f22, f23, f24, a0]
    · have a0' : ¬ (e.kids.length : Int) = 1 := by omega
      by_cases a1 : e.kids.length = 0
      · have a1' : (e.kids.length : Int) = 0 := by omega
        have a2 : e.kids = [] := List.length_eq_zero_iff.1 a1
        by_cases a3 : e.name = ⟨#[99, 111, 117, 110, 116]⟩ <;> cases a4 : e.dist <;> simp [operB, f1, f2, f3, f4, f5, f6, f21, f22, f23, f24, a2, a3, a4]
      · have a1' : ¬ (e.kids.length : Int) = 0 := by omega
        have a2 : ¬ e.kids = [] := fun h => a1 (by rw [h]; rfl)
        simp [operB, f1, f2, f3, f4, f5, f6, f21, f22, f23, f24, a0, a0', a1, a1', a2]
  have f1 : (e.op = 1) = False := eq_false (by assumption)
  have f2 : (e.op = 2) = False := eq_false (by assumption)
  have f3 : (e.op = 3) = False := eq_false (by assumption)
  have f4 : (e.op = 4) = False := eq_false (by assumption)
  have f5 : (e.op = 5) = False := eq_false (by assumption)
  have f6 : (e.op = 6) = False := eq_false (by assumption)
  have f21 : (e.op = 21) = False := eq_false (by assumption)
  have f22 : (e.op = 22) = False := eq_false (by assumption)
  have f23 : (e.op = 23) = False := eq_false (by assumption)
  have f24 : (e.op = 24) = False := eq_false (by assumption)
  simp [operB, f1, f2, f3, f4, f5, f6, f21, f22, f23, f24]
end
end Go.Proofs.YtgjljfbohpnfcaaGreat


namespace Go.Proofs.YtgjljfbohpnfcaaGreat
open Go.RowKit
set_option linter.unusedSimpArgs false
set_option linter.unusedVariables false
set_option maxRecDepth 100000
theorem em2 (p : Prop) : (p = True) ∨ (p = False) := by
  by_cases h : p
  · exact .inl (eq_true h)
  · exact .inr (eq_false h)
def spareB (e : Expr) : Bool := (decide (e.op = 1) || zeroV e.v) && (namedB e.op || decide (e.name = ⟨#[]⟩)) && (decide (e.op = 24) || !e.dist)
def constB (v : Val) : Bool := zeroV v || ((decide (v.kind = 1) || decide (v.kind = 2) || decide (v.kind = 4)) && okRv v 8)
def namelessB (e : Expr) : Bool :=
  if e.op = 2 ∨ e.op = 3 ∨ e.op = 4 then !wordB e.name else if e.op = 23 then decide (arLo e.name = 0) else if e.op = 24 then !decide (Agg e.name) else false
section
variable {m : Int}
def sZ : List AV → Option (Prop × AV) := spec1 (fun (_ : Val) => True) (fun v => .bool (zeroV v))
def sVal : List AV → Option (Prop × AV) := spec1 (fun (v : Val) => WfV v ∧ (v.kind = 1 ∨ v.kind = 2 ∨ v.kind = 4)) (fun v => .bool (okRv v 8))
def sWord : List AV → Option (Prop × AV) := spec1 (fun (_ : ByteArray) => True) (fun s => .bool (wordB s))
def sAgg : List AV → Option (Prop × AV) := spec1 (fun (_ : ByteArray) => True) (fun s => .bool (decide (Agg s)))
noncomputable def CS (m : Int) : Ctx := mkC Tryz.prog (G m) [(111, .pure sZ), (139, .pure sVal), (82, .pure sWord), (138, .pure sAr), (140, .pure sAgg)]
@[simp] theorem CS_P (m : Int) : (CS m).P = Tryz.prog := rfl
@[simp] theorem CS_1 (m : Int) : (CS m).S 111 = .pure sZ := rfl
@[simp] theorem CS_2 (m : Int) : (CS m).S 139 = .pure sVal := rfl
@[simp] theorem CS_3 (m : Int) : (CS m).S 82 = .pure sWord := rfl
@[simp] theorem CS_4 (m : Int) : (CS m).S 138 = .pure sAr := rfl
@[simp] theorem CS_5 (m : Int) : (CS m).S 140 = .pure sAgg := rfl
theorem sigCS (m : Int) : SigOK (CS m) := sigOK_cons (entryPure blankP Tryz.func111 rfl (by decide)) (sigOK_cons (entryPure vP Tryz.func139 rfl (by decide)) (sigOK_cons (entryPure wordP Tryz.func82 rfl (by decide)) (sigOK_cons (entryPure arityP Tryz.func138 rfl (by decide)) (sigOK_cons (entryPure aggP Tryz.func140 rfl (by decide)) (sigOK_nil _ _)))))
theorem mixCS (m : Int) : (CS m).P.follows .mixedOrders = true := mixed
set_option maxHeartbeats 8000000 in
theorem spareP : PureOK Tryz.prog (G m) 118 (spec1 (fun (_ : Expr) => True) (fun e => .bool (spareB e))) := by
  refine pure1 (C := CS m) (sigCS m) (mixCS m) Tryz.func118 rfl rfl rfl (by kernel_rfl) (by decide) (fun e _ => ?_)
  by_cases h : e.op = 1
  · skip
    have f1 : (e.op = 1) = True := eq_true h
    have f2 : (e.op = 2) = False := eq_false (by omega)
    have f3 : (e.op = 3) = False := eq_false (by omega)
    have f4 : (e.op = 4) = False := eq_false (by omega)
    have f23 : (e.op = 23) = False := eq_false (by omega)
    have f24 : (e.op = 24) = False := eq_false (by omega)
    rcases em2 (e.name = ⟨#[]⟩) with hn | hn <;> cases hd : e.dist <;> simp [spareB, namedB, sZ, f1, f2, f3, f4, f23, f24, hn, hd]
  by_cases h : e.op = 2
  · skip
    have f1 : (e.op = 1) = False := eq_false (by omega)
    have f2 : (e.op = 2) = True := eq_true h
    have f3 : (e.op = 3) = False := eq_false (by omega)
    have f4 : (e.op = 4) = False := eq_false (by omega)
    have f23 : (e.op = 23) = False := eq_false (by omega)
    have f24 : (e.op = 24) = False := eq_false (by omega)
    cases hz : zeroV e.v <;> cases hd : e.dist <;> simp [spareB, namedB, sZ, f1, f2, f3, f4, f23, f24, hz, hd]
  by_cases h : e.op = 3
  · skip
    have f1 : (e.op = 1) = False := eq_false (by omega)
    have f2 : (e.op = 2) = False := eq_false (by omega)
    have f3 : (e.op = 3) = True := eq_true h
    have f4 : (e.op = 4) = False := eq_false (by omega)
    have f23 : (e.op = 23) = False := eq_false (by omega)
    have f24 : (e.op = 24) = False := eq_false (by omega)
    cases hz : zeroV e.v <;> cases hd : e.dist <;> simp [spareB, namedB, sZ, f1, f2, f3, f4, f23, f24, hz, hd]
  by_cases h : e.op = 4
  · skip
    have f1 : (e.op = 1) = False := eq_false (by omega)
    have f2 : (e.op = 2) = False := eq_false (by omega)
    have f3 : (e.op = 3) = False := eq_false (by omega)
    have f4 : (e.op = 4) = True := eq_true h
    have f23 : (e.op = 23) = False := eq_false (by omega)
    have f24 : (e.op = 24) = False := eq_false (by omega)
    cases hz : zeroV e.v <;> cases hd : e.dist <;> simp [spareB, namedB, sZ, f1, f2, f3, f4, f23, f24, hz, hd]
  by_cases h : e.op = 23
  · skip
    have f1 : (e.op = 1) = False := eq_false (by omega)
    have f2 : (e.op = 2) = False := eq_false (by omega)
    have f3 : (e.op = 3) = False := eq_false (by omega)
    have f4 : (e.op = 4) = False := eq_false (by omega)
    have f23 : (e.op = 23) = True := eq_true h
    have f24 : (e.op = 24) = False := eq_false (by omega)
    cases hz : zeroV e.v <;> cases hd : e.dist <;> simp [spareB, namedB, sZ, f1, f2, f3, f4, f23, f24, hz, hd]
  by_cases h : e.op = 24
  · skip
    have f1 : (e.op = 1) = False := eq_false (by omega)
    have f2 : (e.op = 2) = False := eq_false (by omega)
    have f3 : (e.op = 3) = False := eq_false (by omega)
    have f4 : (e.op = 4) = False := eq_false (by omega)
    have f23 : (e.op = 23) = False := eq_false (by omega)
    have f24 : (e.op = 24) = True := eq_true h
    cases hz : zeroV e.v <;> simp [spareB, namedB, sZ, f1, f2, f3, f4, f23, f24, hz]
  have f1 : (e.op = 1) = False := eq_false (by assumption)
  have f2 : (e.op = 2) = False := eq_false (by assumption)
  have f3 : (e.op = 3) = False := eq_false (by assumption)
  have f4 : (e.op = 4) = False := eq_false (by assumption)
  have f23 : (e.op = 23) = False := eq_false (by assumption)
  have f24 : (e.op = 24) = False := eq_false (by assumption)
  cases hz : zeroV e.v <;> rcases em2 (e.name = ⟨#[]⟩) with hn | hn <;> cases hd : e.dist <;> simp [spareB, namedB, sZ, f1, f2, f3, f4, f23, f24, hz, hn, hd]
set_option maxHeartbeats 8000000 in
theorem constP : PureOK Tryz.prog (G m) 119 (spec1 (fun (v : Val) => WfV v) (fun v => .bool (constB v))) := by
  refine pure1 (C := CS m) (sigCS m) (mixCS m) Tryz.func119 rfl rfl rfl (by kernel_rfl) (by decide) (fun v hw => ?_)
  cases hz : zeroV v
  · rcases em2 (v.kind = 1) with h1 | h1
    · simp [constB, sZ, sVal, hz, hw, h1]
    rcases em2 (v.kind = 2) with h2 | h2
    · simp [constB, sZ, sVal, hz, hw, h1, h2]
    rcases em2 (v.kind = 4) with h4 | h4 <;> simp [constB, sZ, sVal, hz, hw, h1, h2, h4]
  · simp [constB, sZ, hz]
set_option maxHeartbeats 8000000 in
theorem namelessP : PureOK Tryz.prog (G m) 120 (spec1 (fun (_ : Expr) => True) (fun e => .bool (namelessB e))) := by
  refine pure1 (C := CS m) (sigCS m) (mixCS m) Tryz.func120 rfl rfl rfl (by kernel_rfl) (by decide) (fun e _ => ?_)
  by_cases h : e.op = 1
  · skip
    have f1 : (e.op = 1) = True := eq_true h
    have f2 : (e.op = 2) = False := eq_false (by omega)
    have f3 : (e.op = 3) = False := eq_false (by omega)
    have f4 : (e.op = 4) = False := eq_false (by omega)
    have f23 : (e.op = 23) = False := eq_false (by omega)
    have f24 : (e.op = 24) = False := eq_false (by omega)
    simp [namelessB, sWord, sAr, sAgg, f1, f2, f3, f4, f23, f24]
  by_cases h : e.op = 2
  · skip
    have f1 : (e.op = 1) = False := eq_false (by omega)
    have f2 : (e.op = 2) = True := eq_true h
    have f3 : (e.op = 3) = False := eq_false (by omega)
    have f4 : (e.op = 4) = False := eq_false (by omega)
    have f23 : (e.op = 23) = False := eq_false (by omega)
    have f24 : (e.op = 24) = False := eq_false (by omega)
    simp [namelessB, sWord, sAr, sAgg, f1, f2, f3, f4, f23, f24]
  by_cases h : e.op = 3
  · skip
    have f1 : (e.op = 1) = False := eq_false (by omega)
    have f2 : (e.op = 2) = False := eq_false (by omega)
    have f3 : (e.op = 3) = True := eq_true h
    have f4 : (e.op = 4) = False := eq_false (by omega)
    have f23 : (e.op = 23) = False := eq_false (by omega)
    have f24 : (e.op = 24) = False := eq_false (by omega)
    simp [namelessB, sWord, sAr, sAgg, f1, f2, f3, f4, f23, f24]
  by_cases h : e.op = 4
  · skip
    have f1 : (e.op = 1) = False := eq_false (by omega)
    have f2 : (e.op = 2) = False := eq_false (by omega)
    have f3 : (e.op = 3) = False := eq_false (by omega)
    have f4 : (e.op = 4) = True := eq_true h
    have f23 : (e.op = 23) = False := eq_false (by omega)
    have f24 : (e.op = 24) = False := eq_false (by omega)
    simp [namelessB, sWord, sAr, sAgg, f1, f2, f3, f4, f23, f24]
  by_cases h : e.op = 23
  · skip
    have f1 : (e.op = 1) = False := eq_false (by omega)
    have f2 : (e.op = 2) = False := eq_false (by omega)
    have f3 : (e.op = 3) = False := eq_false (by omega)
    have f4 : (e.op = 4) = False := eq_false (by omega)
    have f23 : (e.op = 23) = True := eq_true h
    have f24 : (e.op = 24) = False := eq_false (by omega)
    simp [namelessB, sWord, sAr, sAgg, f1, f2, f3, f4, f23, f24]
  by_cases h : e.op = 24
  · skip
    have f1 : (e.op = 1) = False := eq_false (by omega)
    have f2 : (e.op = 2) = False := eq_false (by omega)
    have f3 : (e.op = 3) = False := eq_false (by omega)
    have f4 : (e.op = 4) = False := eq_false (by omega)
    have f23 : (e.op = 23) = False := eq_false (by omega)
    have f24 : (e.op = 24) = True := eq_true h
    simp [namelessB, sWord, sAr, sAgg, f1, f2, f3, f4, f23, f24]
  have f1 : (e.op = 1) = False := eq_false (by assumption)
  have f2 : (e.op = 2) = False := eq_false (by assumption)
  have f3 : (e.op = 3) = False := eq_false (by assumption)
  have f4 : (e.op = 4) = False := eq_false (by assumption)
  have f23 : (e.op = 23) = False := eq_false (by assumption)
  have f24 : (e.op = 24) = False := eq_false (by assumption)
  simp [namelessB, sWord, sAr, sAgg, f1, f2, f3, f4, f23, f24]
end
end Go.Proofs.YtgjljfbohpnfcaaGreat


namespace Go.Proofs.YtgjljfbohpnfcaaGreat
open Go.RowKit
set_option linter.unusedSimpArgs false
set_option linter.unusedVariables false
set_option maxRecDepth 100000
inductive WfE : Expr → Prop
  | mk (o : Int) (v : Val) (n : ByteArray) (d : Bool) (k : List Expr) (hv : WfV v) (hn : n.size ≤ maxLen) (hl : k.length ≤ maxLen) (h : ∀ x ∈ k, WfE x) : WfE (.mk o v n d k)
theorem WfE.val {e : Expr} (h : WfE e) : WfV e.v := by cases h; assumption
theorem WfE.str {e : Expr} (h : WfE e) : e.name.size ≤ maxLen := by cases h; assumption
theorem WfE.len {e : Expr} (h : WfE e) : e.kids.length ≤ maxLen := by cases h; assumption
theorem WfE.kid {e : Expr} (h : WfE e) : ∀ x ∈ e.kids, WfE x := by cases h; assumption
theorem exp_mem {e x : Expr} (h : x ∈ e.kids) : SizeOf.sizeOf x < SizeOf.sizeOf e := by
  cases e with
  | mk o v n d k =>
    have := List.sizeOf_lt_of_mem h
    simp at this ⊢
    omega
theorem exp_pos (e : Expr) : 0 < SizeOf.sizeOf e := by cases e; simp; omega
theorem WfE.len' {e : Expr} (h : WfE e) : e.kids.length ≤ 9223372036854775807 := by have := h.len; unfold maxLen at this; omega
mutual
def sizeE : Expr → Int
  | .mk _ _ _ _ k => sizeL 1 k
def sizeL : Int → List Expr → Int
  | n, [] => n
  | n, e :: r => sizeL (w64 (n + sizeE e)) r
end
theorem sizeE_eq (e : Expr) : sizeE e = sizeL 1 e.kids := by cases e; rw [sizeE]; rfl
theorem sizeL_drop {n : Int} {l : List Expr} {i : Nat} (h : i < l.length) : sizeL n (l.drop i) = sizeL (w64 (n + sizeE (ix l i))) (l.drop (i + 1)) := by
  rw [List.drop_eq_getElem_cons h, sizeL, ix_lt h]
mutual
def depthE : Expr → Int
  | .mk _ _ _ _ k => w64 (depthL 0 k + 1)
def depthL : Int → List Expr → Int
  | n, [] => n
  | n, e :: r => depthL (max n (depthE e)) r
end
theorem depthE_eq (e : Expr) : depthE e = w64 (depthL 0 e.kids + 1) := by cases e; rw [depthE]; rfl
theorem depthL_drop {n : Int} {l : List Expr} {i : Nat} (h : i < l.length) : depthL n (l.drop i) = depthL (max n (depthE (ix l i))) (l.drop (i + 1)) := by
  rw [List.drop_eq_getElem_cons h, depthL, ix_lt h]
def EB (e : Expr) : Blk := ⟨42, 9, [[.int .i64 e.op, .int .i64 e.v.kind, .int .i64 e.v.n, .int .i64 e.v.d, .str e.v.s, .slice 5 false (encRows e.v.l), .str e.name, .bool e.dist, .slice 9 false (encRows e.kids)]], true, true⟩
def sSz (n : Nat) : List AV → Option (Prop × AV) := spec1 (fun (e : Expr) => WfE e ∧ SizeOf.sizeOf e ≤ n) (fun e => .int .i64 (sizeE e))
section
variable {m : Int}
noncomputable def CSz (m : Int) (f n : Nat) : Ctx := mkC Tryz.prog (G m) [(f, .pure (sSz n))]
@[simp] theorem CSz_P (m : Int) (f n : Nat) : (CSz m f n).P = Tryz.prog := rfl
@[simp] theorem CSz_1 (m : Int) (n : Nat) : (CSz m 17 n).S 17 = .pure (sSz n) := rfl
@[simp] theorem CSz_2 (m : Int) (n : Nat) : (CSz m 89 n).S 89 = .pure (sSz n) := rfl
theorem mixCSz (m : Int) (f n : Nat) : (CSz m f n).P.follows .mixedOrders = true := mixed
set_option maxHeartbeats 4000000 in
theorem sizeRn : ∀ n : Nat, PureOK Tryz.prog (G m) 17 (sSz n)
  | 0 => pure1_none fun e h => by have := exp_pos e; omega
  | n + 1 => by
    have sig : SigOK (CSz m 17 n) := sigOK_cons (entryPure (sizeRn n) Tryz.func17 rfl (by decide)) (sigOK_nil _ _)
    refine pure1 (C := CSz m 17 n) sig (mixCSz m _ n) Tryz.func17 rfl rfl rfl (by kernel_rfl) (by decide) (fun e ⟨hw, hn⟩ => ?_)
    have hl := hw.len'
    rw [sizeE_eq]
    simp
    refine loop_rule (C := CSz m 17 n) sig (mixCSz m _ n) (fun p : Nat × Int => ⟨[(1, .ptr 0 1 9 0 0), (3, .int .i64 p.2), (4, .int .i64 p.1)], [EB e]⟩) (fun p => p.1 ≤ e.kids.length ∧ sizeL p.2 (e.kids.drop p.1) = sizeL 1 e.kids) (fun p => e.kids.length - p.1) (by kernel_rfl) ⟨(0, 1), ⟨by simp, by simp⟩, weak_slots (by simp)⟩ (fun ⟨i, a⟩ ⟨hi, hs⟩ => ?_)
    simp only at hi hs ⊢
    by_cases hlt : i < e.kids.length
    · have i1 : I64 ((i : Int) + 1) := by unfold I64; omega
      have w1 := hw.kid _ (ix_mem hlt)
      have w2 : SizeOf.sizeOf (ix e.kids i) ≤ n := by have := exp_mem (ix_mem hlt); omega
      simp [EB, hlt, rowAt_enc hlt, sSz, w1, w2, i1]
      refine ⟨i + 1, w64 (a + sizeE (ix e.kids i)), ⟨by omega, ?_⟩, by omega, weak_slots (by simp)⟩
      rw [← hs, sizeL_drop hlt]
    · rw [List.drop_eq_nil_of_le (by omega), sizeL] at hs
      simp [EB, hlt, hs]
theorem sizeR_ : PureOK Tryz.prog (G m) 17 (spec1 (fun (e : Expr) => WfE e) (fun e => .int .i64 (sizeE e))) := pure1_all (fun e => SizeOf.sizeOf e) fun n => sizeRn n
set_option maxHeartbeats 4000000 in
theorem sizePn : ∀ n : Nat, PureOK Tryz.prog (G m) 89 (sSz n)
  | 0 => pure1_none fun e h => by have := exp_pos e; omega
  | n + 1 => by
    have sig : SigOK (CSz m 89 n) := sigOK_cons (entryPure (sizePn n) Tryz.func89 rfl (by decide)) (sigOK_nil _ _)
    refine pure1 (C := CSz m 89 n) sig (mixCSz m _ n) Tryz.func89 rfl rfl rfl (by kernel_rfl) (by decide) (fun e ⟨hw, hn⟩ => ?_)
    have hl := hw.len'
    rw [sizeE_eq]
    simp
    refine loop_rule (C := CSz m 89 n) sig (mixCSz m _ n) (fun p : Nat × Int => ⟨[(1, .ptr 0 1 9 0 0), (3, .int .i64 p.2), (7, Enc.enc e.kids), (8, .int .i64 e.kids.length), (9, .int .i64 p.1)], [EB e]⟩) (fun p => p.1 ≤ e.kids.length ∧ sizeL p.2 (e.kids.drop p.1) = sizeL 1 e.kids) (fun p => e.kids.length - p.1) (by kernel_rfl) ⟨(0, 1), ⟨by simp, by simp⟩, weak_slots (by simp)⟩ (fun ⟨i, a⟩ ⟨hi, hs⟩ => ?_)
    simp only at hi hs ⊢
    by_cases hlt : i < e.kids.length
    · have i1 : I64 ((i : Int) + 1) := by unfold I64; omega
      have w1 := hw.kid _ (ix_mem hlt)
      have w2 : SizeOf.sizeOf (ix e.kids i) ≤ n := by have := exp_mem (ix_mem hlt); omega
      simp [EB, hlt, rowAt_enc hlt, sSz, w1, w2, i1]
      refine ⟨i + 1, w64 (a + sizeE (ix e.kids i)), ⟨by omega, ?_⟩, by omega, weak_keep 1 (by simp) (by simp) (by simp [AV.clean, AV.clean1]) (by simp) (by simp)⟩
      rw [← hs, sizeL_drop hlt]
    · rw [List.drop_eq_nil_of_le (by omega), sizeL] at hs
      simp [EB, hlt, hs]
theorem sizeP_ : PureOK Tryz.prog (G m) 89 (spec1 (fun (e : Expr) => WfE e) (fun e => .int .i64 (sizeE e))) := pure1_all (fun e => SizeOf.sizeOf e) fun n => sizePn n
def sDp (n : Nat) : List AV → Option (Prop × AV) := spec1 (fun (e : Expr) => WfE e ∧ SizeOf.sizeOf e ≤ n) (fun e => .int .i64 (depthE e))
noncomputable def CDp (m : Int) (f n : Nat) : Ctx := mkC Tryz.prog (G m) [(f, .pure (sDp n))]
@[simp] theorem CDp_P (m : Int) (f n : Nat) : (CDp m f n).P = Tryz.prog := rfl
@[simp] theorem CDp_1 (m : Int) (n : Nat) : (CDp m 124 n).S 124 = .pure (sDp n) := rfl
@[simp] theorem CDp_2 (m : Int) (n : Nat) : (CDp m 88 n).S 88 = .pure (sDp n) := rfl
theorem mixCDp (m : Int) (f n : Nat) : (CDp m f n).P.follows .mixedOrders = true := mixed
set_option maxHeartbeats 4000000 in
theorem depthPn : ∀ n : Nat, PureOK Tryz.prog (G m) 88 (sDp n)
  | 0 => pure1_none fun e h => by have := exp_pos e; omega
  | n + 1 => by
    have sig : SigOK (CDp m 88 n) := sigOK_cons (entryPure (depthPn n) Tryz.func88 rfl (by decide)) (sigOK_nil _ _)
    refine pure1 (C := CDp m 88 n) sig (mixCDp m _ n) Tryz.func88 rfl rfl rfl (by kernel_rfl) (by decide) (fun e ⟨hw, hn⟩ => ?_)
    have hl := hw.len'
    rw [depthE_eq]
    simp
    refine loop_rule (C := CDp m 88 n) sig (mixCDp m _ n) (fun p : Nat × Int => ⟨[(1, .ptr 0 1 9 0 0), (3, .int .i64 p.2), (7, Enc.enc e.kids), (8, .int .i64 e.kids.length), (9, .int .i64 p.1)], [EB e]⟩) (fun p => p.1 ≤ e.kids.length ∧ depthL p.2 (e.kids.drop p.1) = depthL 0 e.kids) (fun p => e.kids.length - p.1) (by kernel_rfl) ⟨(0, 0), ⟨by simp, by simp⟩, weak_slots (by simp)⟩ (fun ⟨i, a⟩ ⟨hi, hs⟩ => ?_)
    simp only at hi hs ⊢
    by_cases hlt : i < e.kids.length
    · have i1 : I64 ((i : Int) + 1) := by unfold I64; omega
      have w1 := hw.kid _ (ix_mem hlt)
      have w2 : SizeOf.sizeOf (ix e.kids i) ≤ n := by have := exp_mem (ix_mem hlt); omega
      have hmax : (if a < depthE (ix e.kids i) then depthE (ix e.kids i) else a) = max a (depthE (ix e.kids i)) := by split <;> omega
      simp [EB, hlt, rowAt_enc hlt, sDp, w1, w2, i1]
      rw [hmax]
      refine ⟨i + 1, max a (depthE (ix e.kids i)), ⟨by omega, ?_⟩, by omega, weak_keep 1 (by simp) (by simp) (by simp [AV.clean, AV.clean1]) (by simp) (by simp)⟩
      rw [← hs, depthL_drop hlt]
    · rw [List.drop_eq_nil_of_le (by omega), depthL] at hs
      simp [EB, hlt, hs]
theorem depthP_ : PureOK Tryz.prog (G m) 88 (spec1 (fun (e : Expr) => WfE e) (fun e => .int .i64 (depthE e))) := pure1_all (fun e => SizeOf.sizeOf e) fun n => depthPn n
set_option maxHeartbeats 4000000 in
theorem depthRn : ∀ n : Nat, PureOK Tryz.prog (G m) 124 (sDp n)
  | 0 => pure1_none fun e h => by have := exp_pos e; omega
  | n + 1 => by
    have sig : SigOK (CDp m 124 n) := sigOK_cons (entryPure (depthRn n) Tryz.func124 rfl (by decide)) (sigOK_nil _ _)
    refine pure1 (C := CDp m 124 n) sig (mixCDp m _ n) Tryz.func124 rfl rfl rfl (by kernel_rfl) (by decide) (fun e ⟨hw, hn⟩ => ?_)
    have hl := hw.len'
    rw [depthE_eq]
    simp
    refine loop_rule (C := CDp m 124 n) sig (mixCDp m _ n) (fun p : Nat × Int => ⟨[(1, .ptr 0 1 9 0 0), (3, .int .i64 p.2), (4, .int .i64 p.1)], [EB e]⟩) (fun p => p.1 ≤ e.kids.length ∧ depthL p.2 (e.kids.drop p.1) = depthL 0 e.kids) (fun p => e.kids.length - p.1) (by kernel_rfl) ⟨(0, 0), ⟨by simp, by simp⟩, weak_slots (by simp)⟩ (fun ⟨i, a⟩ ⟨hi, hs⟩ => ?_)
    simp only at hi hs ⊢
    by_cases hlt : i < e.kids.length
    · have i1 : I64 ((i : Int) + 1) := by unfold I64; omega
      have w1 := hw.kid _ (ix_mem hlt)
      have w2 : SizeOf.sizeOf (ix e.kids i) ≤ n := by have := exp_mem (ix_mem hlt); omega
      rw [depthL_drop hlt] at hs
      by_cases hd : a < depthE (ix e.kids i)
      · rw [show max a (depthE (ix e.kids i)) = depthE (ix e.kids i) by omega] at hs
        simp [EB, hlt, rowAt_enc hlt, sDp, w1, w2, i1, hd]
        exact ⟨i + 1, depthE (ix e.kids i), ⟨by omega, hs⟩, by omega, weak_slots (by simp)⟩
      · rw [show max a (depthE (ix e.kids i)) = a by omega] at hs
        simp [EB, hlt, rowAt_enc hlt, sDp, w1, w2, i1, hd]
        exact ⟨i + 1, a, ⟨by omega, hs⟩, by omega, weak_slots (by simp)⟩
    · rw [List.drop_eq_nil_of_le (by omega), depthL] at hs
      simp [EB, hlt, hs]
theorem depthR_ : PureOK Tryz.prog (G m) 124 (spec1 (fun (e : Expr) => WfE e) (fun e => .int .i64 (depthE e))) := pure1_all (fun e => SizeOf.sizeOf e) fun n => depthRn n
end
end Go.Proofs.YtgjljfbohpnfcaaGreat


namespace Go.Proofs.YtgjljfbohpnfcaaGreat
open Go.RowKit
set_option linter.unusedSimpArgs false
set_option linter.unusedVariables false
set_option maxRecDepth 100000
structure Cnt where
  Name : ByteArray
  N : Int
instance : Inhabited Cnt := ⟨⟨ByteArray.empty, 0⟩⟩
instance : Enc Cnt where
  sz := 2
  cells c := [.str c.Name, .int .i64 c.N]
  enc c := .agg [.str c.Name, .int .i64 c.N]
  unc l := match l with | [.str s, .int _ n] => ⟨s, n⟩ | _ => default
  dec v := match v with | .agg [.str s, .int _ n] => ⟨s, n⟩ | _ => default
  unc_cells _ := rfl
  dec_enc _ := rfl
@[simp] theorem sz_cnt : Enc.sz Cnt = 2 := rfl
@[simp] theorem cells_cnt (c : Cnt) : Enc.cells c = [.str c.Name, .int .i64 c.N] := rfl
@[simp] theorem enc_cnt (c : Cnt) : Enc.enc c = .agg [.str c.Name, .int .i64 c.N] := rfl
@[simp] theorem unc_cnt (s : ByteArray) (k : IntKind) (n : Int) : (Enc.unc [.str s, .int k n] : Cnt) = ⟨s, n⟩ := rfl
@[simp] theorem dec_cnt (s : ByteArray) (k : IntKind) (n : Int) : (Enc.dec (.agg [.str s, .int k n]) : Cnt) = ⟨s, n⟩ := rfl
def kindF : List Cnt → ByteArray → Int
  | [], _ => 0
  | c :: r, n => if c.Name = n then c.N else kindF r n
theorem kindF_drop {l : List Cnt} {n : ByteArray} {i : Nat} (h : i < l.length) : kindF (l.drop i) n = if (ix l i).Name = n then (ix l i).N else kindF (l.drop (i + 1)) n := by
  rw [List.drop_eq_getElem_cons h, kindF, ix_lt h]
section
variable {m : Int}
noncomputable def C0 (m : Int) : Ctx := mkC Tryz.prog (G m) []
@[simp] theorem C0_P (m : Int) : (C0 m).P = Tryz.prog := rfl
theorem sigC0 (m : Int) : SigOK (C0 m) := sigOK_nil _ _
theorem mixC0 (m : Int) : (C0 m).P.follows .mixedOrders = true := mixed
def sKind : List AV → Option (Prop × AV) := spec2 (fun (l : List Cnt) (_ : ByteArray) => l.length ≤ maxLen) (fun l n => .int .i64 (kindF l n))
set_option maxHeartbeats 4000000 in
theorem kindP : PureOK Tryz.prog (G m) 38 sKind := by
  refine pure2 (C := C0 m) (sigC0 m) (mixC0 m) Tryz.func38 rfl rfl rfl (by kernel_rfl) (by decide) (fun l n hl => ?_)
  have hl' : l.length ≤ 9223372036854775807 := hl
  simp
  refine loop_rule (C := C0 m) (sigC0 m) (mixC0 m) (fun i : Nat => ⟨[(0, Enc.enc l), (1, .str n), (4, .int .i64 0), (7, Enc.enc l), (8, .int .i64 l.length), (9, .int .i64 i)], []⟩) (fun i => i ≤ l.length ∧ kindF (l.drop i) n = kindF l n) (fun i => l.length - i) (by kernel_rfl) ⟨0, by simp, weak_slots (by simp)⟩ (fun i ⟨hi, hs⟩ => ?_)
  by_cases hlt : i < l.length
  · have i1 : I64 ((i : Int) + 1) := by unfold I64; omega
    rw [kindF_drop hlt] at hs
    rcases em2 ((ix l i).Name = n) with h | h
    · rw [if_pos (of_eq_true h)] at hs
      simp [hlt, rowAt_enc hlt, h, i1, ← hs]
    · rw [if_neg (of_eq_false h)] at hs
      simp [hlt, rowAt_enc hlt, h, i1]
      exact ⟨i + 1, ⟨by omega, hs⟩, by omega, weak_keep 0 (by simp) (by simp) (by simp [AV.clean, AV.clean1]) (by simp) (by simp)⟩
  · rw [List.drop_eq_nil_of_le (by omega), kindF] at hs
    simp [hlt, ← hs]
end
end Go.Proofs.YtgjljfbohpnfcaaGreat


namespace Go.Proofs.YtgjljfbohpnfcaaGreat
open Go.RowKit
set_option linter.unusedSimpArgs false
set_option linter.unusedVariables false
set_option maxRecDepth 100000
mutual
def namesE : Expr → List ByteArray
  | .mk o _ n _ k => (if o = 2 then [n] else []) ++ namesL k
def namesL : List Expr → List ByteArray
  | [] => []
  | e :: r => namesE e ++ namesL r
end
theorem namesE_eq (e : Expr) : namesE e = (if e.op = 2 then [e.name] else []) ++ namesL e.kids := by cases e; rw [namesE]; rfl
theorem namesL_append : ∀ l l' : List Expr, namesL (l ++ l') = namesL l ++ namesL l'
  | [], l' => by rw [namesL]; rfl
  | e :: r, l' => by rw [List.cons_append, namesL, namesL, namesL_append r l', List.append_assoc]
theorem namesL_take {l : List Expr} {i : Nat} (h : i < l.length) : namesL (l.take (i + 1)) = namesL (l.take i) ++ namesE (ix l i) := by
  rw [List.take_succ_eq_append_getElem h, namesL_append, ix_lt h, namesL, namesL, List.append_nil]
def kvS (s : ByteArray) : Lit × Lit := (.string s.data.toList, .bool true)
def putS (l : List ByteArray) (L : List (Lit × Lit)) : List (Lit × Lit) := (l.reverse.map kvS) ++ L
theorem putS_append (l l' : List ByteArray) (L : List (Lit × Lit)) : putS (l ++ l') L = putS l' (putS l L) := by
  unfold putS
  rw [List.reverse_append, List.map_append, List.append_assoc]
@[simp] theorem putS_nil (L : List (Lit × Lit)) : putS [] L = L := rfl
@[simp] theorem putS_one (s : ByteArray) (L : List (Lit × Lit)) : putS [s] L = (.string s.data.toList, .bool true) :: L := rfl
theorem putS_len (l : List ByteArray) (L : List (Lit × Lit)) : (putS l L).length = l.length + L.length := by unfold putS; simp
def visAV (b : Nat) : Nat → AV
  | 0 => .undef
  | n + 1 => .iptr [.fn 29 [.iptr [.mapp b], visAV b n]]
theorem vis_deep (b n : Nat) : (visAV b n).deepArg = true := by cases n <;> rfl
section
variable {m : Int}
def VisOK (m : Int) (n : Nat) : Prop := ∀ (e : Expr) (b : Nat) (L : List (Lit × Lit)) (w : World) (X : Nat → Prop) (args : Array Value), SizeOf.sizeOf e ≤ n → WfE e → L.length + (namesE e).length ≤ 1000000000000 → (∀ q, X q → q < w.heap.size) → ¬ X b →
  (∀ g, GV Tryz.prog w X g (G m g)) → args.size = 3 → (∀ (j : Nat) (u : AV), [Enc.enc e, .iptr [.mapp b], visAV b n][j]? = some u → ∃ v, args[j]? = some v ∧ RepD w X v u) → MapRel Tryz.prog w b 9 4 L →
  Calls Tryz.prog 29 args w fun en w' => (∃ u, en = .returned u) ∧ Keeps (fun q => q = b) w w' ∧ MapRel Tryz.prog w' b 9 4 (putS (namesE e) L)
noncomputable def CVi (m : Int) : Ctx := mkC Tryz.prog (G m) []
@[simp] theorem CVi_P (m : Int) : (CVi m).P = Tryz.prog := rfl
@[simp] theorem CVi_G (m : Int) : (CVi m).G = G m := rfl
theorem sigCVi (m : Int) : SigOK (CVi m) := sigOK_nil _ _
theorem mixCVi (m : Int) : (CVi m).P.follows .mixedOrders = true := mixed
theorem noMapG (g : Nat) (k e : TypeId) (L : List (Lit × Lit)) : G m g ≠ .mapof k e L := by
  unfold G
  split <;> simp
theorem G_pos {g : Nat} (h : g ≠ 0) : G m g = .undef := by unfold G; rw [if_neg h]
theorem map_pos {w : World} {X : Nat → Prop} {b : Nat} {k e : TypeId} {L : List (Lit × Lit)} (hG : ∀ g, GV Tryz.prog w X g (G m g)) (hL : MapRel Tryz.prog w b k e L) : b ≠ 0 := by
  obtain ⟨es, clock, hb⟩ := mapRel_block hL
  have h0 := (hG 0).rep
  unfold G at h0
  rw [if_pos rfl, gav_iptr] at h0
  cases h0 with
  | iptr b' off cells val hb' hX hm hv =>
    rintro rfl
    exact cell_notmap hb (hm 0 (by simp)).1 rfl
set_option maxHeartbeats 16000000 in
theorem visN : ∀ n : Nat, VisOK m n
  | 0 => fun e b L w X args hs => by have := exp_pos e; omega
  | n + 1 => fun e b L w X args hs hw hc hX hXb hG hsz harg hL => by
    have hb0 := map_pos hG hL
    refine mapfn_of_AWm (C := CVi m) (avs := [Enc.enc e, .iptr [.mapp b], visAV b (n + 1)]) (fun g k e L => noMapG g k e L) Tryz.func29 rfl rfl rfl hX hXb hG (G_pos hb0) hsz harg hL (r := .tup []) (n := 23) (rs := []) (by show 3 ≤ _; decide) ?_
    rw [show argsρ 0 [Enc.enc e, .iptr [.mapp b], visAV b (n + 1)] = [(0, Enc.enc e), (1, .iptr [.mapp b]), (2, visAV b (n + 1))] from rfl]
    refine avcM_sound (C := CVi m) (hm := [2]) (hd := [6]) (sigCVi m) (mixCVi m) _ (by kernel_rfl) ?_
    have hl := hw.len'
    have hnm := hw.str
    rw [namesE_eq] at hc ⊢
    rw [putS_append]
    obtain ⟨L0, hL0⟩ : ∃ L0, putS (if e.op = 2 then [e.name] else []) L = L0 := ⟨_, rfl⟩
    have hc0 : L0.length + (namesL e.kids).length ≤ 1000000000000 := by
      rw [← hL0, putS_len]
      rw [List.length_append] at hc
      omega
    have hc1 : L.length < 1000000000000 ∨ e.op ≠ 2 := by
      by_cases h : e.op = 2
      · rw [if_pos h] at hc; simp at hc; left; omega
      · exact .inr h
    rw [hL0]
    clear hc hX hXb hG hsz harg hL
    rcases em2 (e.op = 2) with h2 | h2
    case' inl =>
      have hc2 := hc1.resolve_right (fun h => h (of_eq_true h2))
      rw [if_pos (of_eq_true h2), putS_one] at hL0
      simp [visAV, h2, hnm, hc2, hL0]
    case' inr =>
      rw [if_neg (of_eq_false h2), putS_nil] at hL0
      simp [visAV, h2, hL0]
    all_goals
      refine loop_ruleM (C := CVi m) (sigCVi m) (mixCVi m) [2] [6] (fun i : Nat => ⟨[(1, .iptr [.mapp b]), (2, .iptr [.fn 29 [.iptr [.mapp b], visAV b n]]), (13, Enc.enc e.kids), (14, .int .i64 e.kids.length), (15, .int .i64 i)], [EB e]⟩)
        (fun i => upd (G m) b (.mapof 9 4 (putS (namesL (e.kids.take i)) L0))) (fun i => i ≤ e.kids.length) (fun i => e.kids.length - i) (by kernel_rfl) ⟨0, Nat.zero_le _, by simp [namesL, hL0], weak_slots (by simp)⟩ (fun i hi => ?_)
      by_cases hlt : i < e.kids.length
      · have i1 : I64 ((i : Int) + 1) := by unfold I64; omega
        have w1 := hw.kid _ (ix_mem hlt)
        have w2 : SizeOf.sizeOf (ix e.kids i) ≤ n := by have := exp_mem (ix_mem hlt); omega
        simp [EB, hlt, rowAt_enc hlt]
        refine AWm_callM (C := CVi m) (pre := [_, _]) (sigCVi m) (by kernel_rfl) ?_
        simp [EB, hlt, rowAt_enc hlt]
        refine ⟨_, 29, Tryz.f29, [Enc.enc (ix e.kids i), .iptr [.mapp b], visAV b n], b, 9, 4, _, putS (namesE (ix e.kids i)) (putS (namesL (e.kids.take i)) L0), rfl, rfl, ?_, Tryz.func29, by decide, rfl, upd_same _ _ _, ?_, ?_⟩
        · simp [target]
        · intro X β w args R hXb hG hsz harg hL
          refine visN n (ix e.kids i) b _ w _ args w2 w1 ?_ R.mu_lt hXb hG hsz (fun j u hj => ?_) hL
          · have := congrArg List.length (namesL_append (e.kids.take (i + 1)) (e.kids.drop (i + 1)))
            rw [List.take_append_drop, List.length_append, namesL_take hlt, List.length_append] at this
            rw [putS_len]
            omega
          · obtain ⟨v, h1, h3⟩ := harg j u hj
            refine ⟨v, h1, rep_deepArg ?_ h3⟩
            match j, hj with
            | 0, hj => simp at hj; subst hj; simp [AV.deepArg]
            | 1, hj => simp at hj; subst hj; rfl
            | 2, hj => simp at hj; subst hj; exact vis_deep b n
            | j + 3, hj => simp at hj
        · simp [i1]
          refine ⟨i + 1, by omega, by omega, by rw [← putS_append, ← namesL_take hlt], weak_keep 1 (by simp) (by simp) (by simp [AV.clean, AV.clean1]) (by simp) (by simp)⟩
      · obtain rfl : i = e.kids.length := by omega
        simp [EB, hlt, List.take_length]
end
end Go.Proofs.YtgjljfbohpnfcaaGreat


namespace Go.Proofs.YtgjljfbohpnfcaaGreat
open Go.RowKit
set_option linter.unusedVariables false
def ltb (a b : ByteArray) : Bool := decide (a.data.toList < b.data.toList)
theorem less_ltb (a b : ByteArray) : Op.bytesLess a.toList b.toList = ltb a b := by rw [Go.Proofs.bytesLess_eq, ByteArray.toList_eq, ByteArray.toList_eq]; rfl
theorem ltb_irrefl (a : ByteArray) : ltb a a = false := decide_eq_false (List.lt_irrefl _)
theorem ltb_trans {a b c : ByteArray} (h : ltb a b = true) (h' : ltb b c = true) : ltb a c = true := decide_eq_true (List.lt_trans (of_decide_eq_true h) (of_decide_eq_true h'))
theorem ltb_total {a b : ByteArray} (h : ltb a b = false) (hne : a ≠ b) : ltb b a = true := by
  have h1 := of_decide_eq_false h
  refine decide_eq_true ?_
  have h2 : b.data.toList ≤ a.data.toList := h1
  rcases Classical.em (b.data.toList < a.data.toList) with h3 | h3
  · exact h3
  · exact absurd (ByteArray.ext (Array.toList_inj.1 (List.le_antisymm h3 h2))) hne
def Up (l : List ByteArray) : Prop := l.Pairwise fun a b => ltb a b = true
theorem Up.nodup {l : List ByteArray} (h : Up l) : l.Nodup := h.imp fun {a b} h e => by subst e; rw [ltb_irrefl] at h; cases h
theorem up_ext {l l' : List ByteArray} (h : Up l) (h' : Up l') (hm : ∀ x, x ∈ l ↔ x ∈ l') : l = l' :=
  List.Perm.eq_of_pairwise (le := fun a b => ltb a b = true) (fun a b _ _ h1 h2 => by have := ltb_trans h1 h2; rw [ltb_irrefl] at this; cases this) h h' ((List.perm_ext_iff_of_nodup h.nodup h'.nodup).2 hm)
def putU (l : List ByteArray) (s : ByteArray) : List ByteArray := l.takeWhile (ltb · s) ++ s :: (l.dropWhile (ltb · s)).filter fun x => decide (x ≠ s)
theorem putU_nil (s : ByteArray) : putU [] s = [s] := rfl
theorem putU_cons (a : ByteArray) (r : List ByteArray) (s : ByteArray) : putU (a :: r) s = if ltb a s = true then a :: putU r s else s :: (a :: r).filter fun x => decide (x ≠ s) := by
  unfold putU
  cases h : ltb a s <;> simp [List.takeWhile, List.dropWhile, h]
theorem mem_putU {s x : ByteArray} : ∀ {l : List ByteArray}, x ∈ putU l s ↔ x = s ∨ x ∈ l
  | [] => by simp [putU_nil]
  | a :: r => by
    rw [putU_cons]
    split
    · rw [List.mem_cons, mem_putU, List.mem_cons]
      constructor
      · rintro (h | h | h)
        · exact .inr (.inl h)
        · exact .inl h
        · exact .inr (.inr h)
      · rintro (h | h | h)
        · exact .inr (.inl h)
        · exact .inl h
        · exact .inr (.inr h)
    · rw [List.mem_cons, List.mem_filter]
      constructor
      · rintro (h | h)
        · exact .inl h
        · exact .inr h.1
      · rintro (h | h)
        · exact .inl h
        · by_cases e : x = s
          · exact .inl e
          · exact .inr ⟨h, by simpa using e⟩
theorem up_putU {s : ByteArray} : ∀ {l : List ByteArray}, Up l → Up (putU l s)
  | [], _ => by rw [putU_nil]; exact List.pairwise_singleton _ _
  | a :: r, h => by
    have h1 := List.pairwise_cons.1 h
    rw [putU_cons]
    split
    · rename_i ha
      refine List.pairwise_cons.2 ⟨fun x hx => ?_, up_putU h1.2⟩
      rcases mem_putU.1 hx with rfl | hx
      · exact ha
      · exact h1.1 x hx
    · rename_i ha
      have ha : ltb a s = false := by simpa using ha
      refine List.pairwise_cons.2 ⟨fun x hx => ?_, h.filter _⟩
      obtain ⟨hx2, hne⟩ := List.mem_filter.1 hx
      clear hx
      have hne : x ≠ s := by simpa using hne
      rcases List.mem_cons.1 hx2 with rfl | hx
      · exact ltb_total ha hne
      · by_cases e : a = s
        · subst e; exact h1.1 x hx
        · exact ltb_trans (ltb_total ha e) (h1.1 x hx)
def usesN (l : List ByteArray) : List ByteArray := l.foldl putU []
theorem foldl_up {l : List ByteArray} : ∀ {acc : List ByteArray}, Up acc → Up (l.foldl putU acc) := by
  induction l with
  | nil => exact id
  | cons a r ih => exact fun h => ih (up_putU h)
theorem foldl_mem {x : ByteArray} : ∀ {l acc : List ByteArray}, x ∈ l.foldl putU acc ↔ x ∈ acc ∨ x ∈ l
  | [], acc => by simp
  | a :: r, acc => by
    rw [List.foldl_cons, foldl_mem, mem_putU, List.mem_cons]
    constructor
    · rintro ((h | h) | h)
      · exact .inr (.inl h)
      · exact .inl h
      · exact .inr (.inr h)
    · rintro (h | h | h)
      · exact .inl (.inr h)
      · exact .inl (.inl h)
      · exact .inr h
theorem up_usesN (l : List ByteArray) : Up (usesN l) := foldl_up List.Pairwise.nil
theorem mem_usesN {l : List ByteArray} {x : ByteArray} : x ∈ usesN l ↔ x ∈ l := by unfold usesN; rw [foldl_mem]; simp
def usesF (e : Expr) : List ByteArray := usesN (namesE e)
theorem mhas_putS {s : List UInt8} : ∀ (l : List ByteArray), mhas (putS l []) (.string s) = true ↔ s ∈ l.map (·.data.toList) := by
  intro l
  unfold putS
  rw [List.append_nil, ← List.mem_reverse, ← List.map_reverse]
  generalize l.reverse = r
  induction r with
  | nil => simp [mhas]
  | cons a r ih =>
    rw [List.map_cons, List.map_cons, List.mem_cons, kvS, mhas, Bool.or_eq_true, ih]
    refine or_congr ⟨fun h => ?_, fun h => ?_⟩ Iff.rfl
    · have := h; simp [Lit.sameKey] at this; exact this.symm
    · subst h; simp [Lit.sameKey]
theorem keys_sorted {P : Program} {w : World} {b e : Nat} {l : List ByteArray} {D : DataW Unit} {n : Nat} (hk : P.underlying 9 = some .string) (hown : w.ownsMap P 9 (plainElem P e) b n D) (ht : Maps.Tidy D) (hh : ∀ kl, Maps.has D kl = mhas (putS l []) kl)
    {ss : List (List UInt8)} (hp : ss.Perm (Go.strKeys D)) : ss.mergeSort (fun x y => decide (x ≤ y)) = (usesN l).map (·.data.toList) := by
  obtain ⟨es, rfl, hpw⟩ := ht
  obtain ⟨es', hD', hko⟩ := hown.keysOf
  obtain rfl : es = es' := by simpa using hD'
  have hup := up_usesN l
  have hle : ((usesN l).map (·.data.toList)).Pairwise fun x y => decide (x ≤ y) = true := List.pairwise_map.2 (hup.imp fun {a b} h => decide_eq_true (List.le_of_lt (of_decide_eq_true h)))
  have hnd : ((usesN l).map (·.data.toList)).Nodup := List.pairwise_map.2 (hup.imp fun {a b} h e => by
    have h := of_decide_eq_true h
    rw [e] at h
    exact List.lt_irrefl _ h)
  have h1 := Go.perm_strKeys (H := Unit) hpw (fun p hp => by obtain ⟨v, hv⟩ := hko p hp; obtain ⟨x, _, hx, _⟩ := Go.Maps.keyOf_str hk hv; exact ⟨x, hx⟩) hnd (fun x => by
    rw [hh, mhas_putS]
    simp only [List.mem_map, mem_usesN])
  rw [Go.mergeSort_of_perm (hp.trans h1.symm)]
  exact List.mergeSort_of_pairwise hle
end Go.Proofs.YtgjljfbohpnfcaaGreat


namespace Go.Proofs
open Go.RowKit Go.Maps Go.Sort Go.Shelf
def Tryz.keys31_ren : Go.Shelf.Ren := ⟨fun | 7 => 31 | 10 => 51 | n => n, fun | 23 => 80 | 26 => 9 | 3 => 4 | 28 => 84 | 0 => 0 | 27 => 83 | 33 => 104 | 4 => 4 | n => n, fun | n => n⟩
theorem Tryz.keys31 : Go.Proofs.SlLaysZ.n7 Tryz.prog Tryz.keys31_ren := {
  mixed := by kernel_rfl
  f7 := ⟨Tryz.f31.name, by decide, Tryz.func31.trans (congrArg some (by kernel_rfl))⟩
  f10 := ⟨Tryz.f51.name, by decide, Tryz.func51.trans (congrArg some (by kernel_rfl))⟩
  t0 := Tryz.underlying0
  a0 := Tryz.isAgg0
  z0 := Tryz.sizeOf0
  v0 := Tryz.zeroValue0
  t4 := Tryz.underlying4
  a4 := Tryz.isAgg4
  z4 := Tryz.sizeOf4
  v4 := Tryz.zeroValue4
  t23 := Tryz.underlying80
  a23 := Tryz.isAgg80
  z23 := Tryz.sizeOf80
  v23 := Tryz.zeroValue80
  t26 := Tryz.underlying9
  a26 := Tryz.isAgg9
  z26 := Tryz.sizeOf9
  v26 := Tryz.zeroValue9
  t27 := Tryz.underlying83
  a27 := Tryz.isAgg83
  z27 := Tryz.sizeOf83
  v27 := Tryz.zeroValue83
  t28 := Tryz.underlying84
  a28 := Tryz.isAgg84
  z28 := Tryz.sizeOf84
  v28 := Tryz.zeroValue84
  t33 := Tryz.underlying104
  a33 := Tryz.isAgg104
  z33 := Tryz.sizeOf104
  v33 := Tryz.zeroValue104 }
def Tryz.sorted30_ren : Go.Shelf.Ren := ⟨fun | 6 => 30 | 8 => 49 | 9 => 50 | 11 => 69 | 13 => 71 | 12 => 70 | 23 => 108 | 24 => 109 | 14 => 99 | 15 => 100 | 16 => 101 | 17 => 102 | 18 => 103 | 19 => 104 | 20 => 105 | 21 => 106 | 22 => 107 | 25 => 128 | 26 => 129 | 27 => 130 | 28 => 131 | 29 => 132 | 30 => 133 | 31 => 150 | n => n, fun | 26 => 9 | 28 => 84 | 24 => 33 | 0 => 0 | 3 => 3 | 37 => 119 | 48 => 147 | 50 => 149 | 4 => 4 | 40 => 139 | 39 => 138 | 45 => 144 | 5 => 5 | 9 => 9 | 51 => 156 | 55 => 160 | 57 => 168 | 58 => 165 | 33 => 104 | n => n, fun | n => n⟩
theorem Tryz.sorted30 : Go.Proofs.SlLaysZ.n6 Tryz.prog Tryz.sorted30_ren := {
  mixed := by kernel_rfl
  f6 := ⟨Tryz.f30.name, by decide, Tryz.func30.trans (congrArg some (by kernel_rfl))⟩
  f8 := ⟨Tryz.f49.name, by decide, Tryz.func49.trans (congrArg some (by kernel_rfl))⟩
  f11 := ⟨Tryz.f69.name, by decide, Tryz.func69.trans (congrArg some (by kernel_rfl))⟩
  t0 := Tryz.underlying0
  a0 := Tryz.isAgg0
  z0 := Tryz.sizeOf0
  v0 := Tryz.zeroValue0
  t24 := Tryz.underlying33
  a24 := Tryz.isAgg33
  z24 := Tryz.sizeOf33
  v24 := Tryz.zeroValue33
  t26 := Tryz.underlying9
  a26 := Tryz.isAgg9
  z26 := Tryz.sizeOf9
  v26 := Tryz.zeroValue9
  t28 := Tryz.underlying84
  a28 := Tryz.isAgg84
  z28 := Tryz.sizeOf84
  v28 := Tryz.zeroValue84
  i26 := by kernel_rfl }
def Tryz.sort50_ren : Go.Shelf.Ren := ⟨fun | 6 => 50 | 8 => 71 | 9 => 70 | 19 => 108 | 20 => 109 | 21 => 99 | 22 => 100 | 23 => 101 | 24 => 102 | 25 => 103 | 26 => 104 | 27 => 105 | 28 => 106 | 29 => 107 | 36 => 128 | 31 => 129 | 32 => 130 | 37 => 131 | 38 => 132 | 39 => 133 | 41 => 150 | n => n, fun | 27 => 33 | 29 => 9 | 3 => 3 | 32 => 119 | 26 => 33 | 0 => 0 | 44 => 147 | 46 => 149 | 4 => 4 | 36 => 139 | 35 => 138 | 41 => 144 | 5 => 5 | 9 => 9 | 53 => 156 | 57 => 160 | 63 => 168 | 64 => 165 | n => n, fun | n => n⟩
theorem Tryz.sort50 : Go.Proofs.SlLaysM.n6 Tryz.prog Tryz.sort50_ren := {
  mixed := by kernel_rfl
  f6 := ⟨Tryz.f50.name, by decide, Tryz.func50.trans (congrArg some (by kernel_rfl))⟩
  f8 := Tryz.func71.trans (congrArg some (by kernel_rfl))
  f9 := ⟨Tryz.f70.name, by decide, Tryz.func70.trans (congrArg some (by kernel_rfl))⟩
  f19 := Tryz.func108.trans (congrArg some (by kernel_rfl))
  f20 := Tryz.func109.trans (congrArg some (by kernel_rfl))
  f21 := ⟨Tryz.f99.name, by decide, Tryz.func99.trans (congrArg some (by kernel_rfl))⟩
  f22 := ⟨Tryz.f100.name, by decide, Tryz.func100.trans (congrArg some (by kernel_rfl))⟩
  f23 := ⟨Tryz.f101.name, by decide, Tryz.func101.trans (congrArg some (by kernel_rfl))⟩
  f24 := ⟨Tryz.f102.name, by decide, Tryz.func102.trans (congrArg some (by kernel_rfl))⟩
  f25 := ⟨Tryz.f103.name, by decide, Tryz.func103.trans (congrArg some (by kernel_rfl))⟩
  f26 := ⟨Tryz.f104.name, by decide, Tryz.func104.trans (congrArg some (by kernel_rfl))⟩
  f27 := ⟨Tryz.f105.name, by decide, Tryz.func105.trans (congrArg some (by kernel_rfl))⟩
  f28 := ⟨Tryz.f106.name, by decide, Tryz.func106.trans (congrArg some (by kernel_rfl))⟩
  f29 := ⟨Tryz.f107.name, by decide, Tryz.func107.trans (congrArg some (by kernel_rfl))⟩
  f31 := Tryz.func129.trans (congrArg some (by kernel_rfl))
  f32 := Tryz.func130.trans (congrArg some (by kernel_rfl))
  f36 := ⟨Tryz.f128.name, by decide, Tryz.func128.trans (congrArg some (by kernel_rfl))⟩
  f37 := ⟨Tryz.f131.name, by decide, Tryz.func131.trans (congrArg some (by kernel_rfl))⟩
  f38 := ⟨Tryz.f132.name, by decide, Tryz.func132.trans (congrArg some (by kernel_rfl))⟩
  f39 := ⟨Tryz.f133.name, by decide, Tryz.func133.trans (congrArg some (by kernel_rfl))⟩
  f41 := ⟨Tryz.f150.name, by decide, Tryz.func150.trans (congrArg some (by kernel_rfl))⟩
  t0 := Tryz.underlying0
  a0 := Tryz.isAgg0
  z0 := Tryz.sizeOf0
  v0 := Tryz.zeroValue0
  t3 := Tryz.underlying3
  a3 := Tryz.isAgg3
  z3 := Tryz.sizeOf3
  v3 := Tryz.zeroValue3
  t4 := Tryz.underlying4
  a4 := Tryz.isAgg4
  z4 := Tryz.sizeOf4
  v4 := Tryz.zeroValue4
  t5 := Tryz.underlying5
  a5 := Tryz.isAgg5
  z5 := Tryz.sizeOf5
  v5 := Tryz.zeroValue5
  t9 := Tryz.underlying9
  a9 := Tryz.isAgg9
  z9 := Tryz.sizeOf9
  v9 := Tryz.zeroValue9
  t26 := Tryz.underlying33
  a26 := Tryz.isAgg33
  z26 := Tryz.sizeOf33
  v26 := Tryz.zeroValue33
  t27 := Tryz.underlying33
  a27 := Tryz.isAgg33
  z27 := Tryz.sizeOf33
  v27 := Tryz.zeroValue33
  t29 := Tryz.underlying9
  a29 := Tryz.isAgg9
  z29 := Tryz.sizeOf9
  v29 := Tryz.zeroValue9
  t32 := Tryz.underlying119
  a32 := Tryz.isAgg119
  z32 := Tryz.sizeOf119
  v32 := Tryz.zeroValue119
  t35 := Tryz.underlying138
  a35 := Tryz.isAgg138
  z35 := Tryz.sizeOf138
  v35 := Tryz.zeroValue138
  t36 := Tryz.underlying139
  a36 := Tryz.isAgg139
  z36 := Tryz.sizeOf139
  v36 := Tryz.zeroValue139
  t41 := Tryz.underlying144
  a41 := Tryz.isAgg144
  z41 := Tryz.sizeOf144
  v41 := Tryz.zeroValue144
  t44 := Tryz.underlying147
  a44 := Tryz.isAgg147
  z44 := Tryz.sizeOf147
  v44 := Tryz.zeroValue147
  t46 := Tryz.underlying149
  a46 := Tryz.isAgg149
  z46 := Tryz.sizeOf149
  v46 := Tryz.zeroValue149
  t53 := Tryz.underlying156
  a53 := Tryz.isAgg156
  z53 := Tryz.sizeOf156
  v53 := Tryz.zeroValue156
  t57 := Tryz.underlying160
  a57 := Tryz.isAgg160
  z57 := Tryz.sizeOf160
  v57 := Tryz.zeroValue160
  t63 := Tryz.underlying168
  a63 := Tryz.isAgg168
  z63 := Tryz.sizeOf168
  v63 := Tryz.zeroValue168
  t64 := Tryz.underlying165
  a64 := Tryz.isAgg165
  z64 := Tryz.sizeOf165
  v64 := Tryz.zeroValue165 }
theorem Tryz.sorts30 (m : Nat) : AnyZ.SortsIn Tryz.prog Tryz.sorted30_ren Fence.wide m :=
  ⟨fun blk off cap ss W hH hblk hsz => callsIn_wide.2 (AnyM.slices_Sort_string Tryz.sort50 blk off cap ss W hH hblk hsz),
   fun p cap W => callsIn_wide.2 (AnyM.slices_Sort_string_none Tryz.sort50 p cap W)⟩
theorem Tryz.maps_Keys_31 (mb : Option Nat) (W : World) : CallsIn Fence.wide 5 Tryz.prog 31 #[.map mb] W fun e w' => e = .returned (.func (.func 51) #[] #[.pointer (some ⟨W.heap.size, 0, none⟩)]) ∧ w' = W.alloc (.cells #[.map mb] 80) :=
  AnyZ.keys_in Tryz.keys31 Fence.wide 5 trivial rfl mb W
set_option maxHeartbeats 1000000 in
theorem Tryz.slices_Sorted_keys_30_31 {H : Type} (b nn : Nat) (D0 : DataW H) (R : Value → Option (DataW H × List MemPlace)) (w : World) (hown : w.ownsMap Tryz.prog 9 R b nn D0) (hmax : Maps.size D0 ≤ maxLen) (hbytes : Maps.size D0 * 16 ≤ 140737488355328) :
    CallsIn Fence.wide 5 Tryz.prog 30 #[.func (.func 51) #[] #[.pointer (some ⟨w.heap.size, 0, none⟩)]] (w.alloc (.cells #[.map (some b)] 80)) fun e w' => ∃ (v : Value) (ss : List (List UInt8)), e = .returned v ∧ ss.Perm (strKeys D0) ∧
      w'.ownsRow (w.alloc (.cells #[.map (some b)] 80)).heap.size 9 1 v ss.length ((ss.mergeSort (fun x y => decide (x ≤ y))).map encStr) ∧ (v = .slice none 0 0 ↔ ss = []) ∧ Below (w.alloc (.cells #[.map (some b)] 80)).heap.size (w.alloc (.cells #[.map (some b)] 80)) w' := by
  have hbl := hown.lt
  have hseq : SeqGives Fence.wide 2 Tryz.prog 51 #[.pointer (some ⟨w.heap.size, 0, none⟩)] encStr (fun ss => ss.Perm (strKeys D0)) (Maps.size D0) (w.alloc (.cells #[.map (some b)] 80)) :=
    AnyZ.keys_gives (ρ := Tryz.keys31_ren) { Tryz.keys31 with } Fence.wide _ trivial rfl (by omega) w.heap.size b nn D0 _ (by simp) (by simp) (by
      obtain ⟨es, clock, hb, Ft, hs, hD⟩ := hown
      exact ⟨es, clock, (Below.heap_alloc _ _ b hbl).trans hb, Ft, hs, hD⟩)
  exact AnyZ.sorted_in Tryz.sorted30 Fence.wide 5 trivial trivial trivial trivial rfl (by omega) (Tryz.sorts30 _) (enters_of Tryz.func50 (by kernel_rfl) rfl) 51 #[.pointer (some ⟨w.heap.size, 0, none⟩)] trivial (enters_of Tryz.func51 (by kernel_rfl) rfl) _ _ hmax hbytes _ hseq
end Go.Proofs


namespace Go.Proofs.YtgjljfbohpnfcaaGreat
open Go.RowKit
set_option linter.unusedSimpArgs false
set_option linter.unusedVariables false
set_option maxRecDepth 100000
theorem msize_le : ∀ L : List (Lit × Lit), msize L ≤ L.length
  | [] => Nat.le_refl _
  | (a, x) :: r => by
    have := msize_le r
    rw [msize, List.length_cons]
    split <;> omega
theorem ptr_cell {w : World} {X : Nat → Prop} {β : List BI} {H : List Blk} {l : Nat} {e : TypeId} {av : AV} {mu dp : Bool} {v : Value} (R : HRel w X β H) (hl : H[l]? = some ⟨e, 1, [[av]], mu, dp⟩) (h : Rep w (Mu X β H) β H v (.ptr l 1 1 0 0)) :
    ∃ bk cap, β[l]? = some (.lies bk cap) ∧ v = .pointer (some ⟨bk, 0, none⟩) ∧ bk < w.heap.size ∧ ¬ X bk ∧ ∃ u, w.cell? ⟨bk, 0, none⟩ = some u ∧ u.oneCell' = true ∧ Rep w (Mu X β H) β H u av := by
  obtain ⟨a, b, rfl, hb, hn, hx⟩ := rep_ptr h
  rw [hl] at hb
  injection hb with hb
  subst hb
  obtain ⟨bk, cap, h1, h2⟩ := hx rfl rfl Nat.zero_lt_one
  rw [show 0 * 1 + 0 = 0 from rfl] at h2
  subst h2
  obtain ⟨u, u1, u2, u3, _⟩ := blk_cells (R.blk l _ _ h1 hl) (i := 0) Nat.zero_lt_one 0 (j := 0) (av := av) rfl
  exact ⟨bk, cap, h1, rfl, (R.lt l bk cap h1).1, (R.lt l bk cap h1).2, u, u1, u2, u3⟩
theorem visRep {w : World} {X : Nat → Prop} {b bk1 bk2 : Nat} (h1 : w.cell? ⟨bk1, 0, none⟩ = some (.map (some b))) (x1 : ¬ X bk1) (x2 : ¬ X bk2)
    (h2 : w.cell? ⟨bk2, 0, none⟩ = some (.func (.func 29) #[] #[.pointer (some ⟨bk1, 0, none⟩), .pointer (some ⟨bk2, 0, none⟩)])) : RepD w X (.pointer (some ⟨bk1, 0, none⟩)) (.iptr [.mapp b]) ∧ ∀ n, RepD w X (.pointer (some ⟨bk2, 0, none⟩)) (visAV b n) := by
  have r1 : RepD w X (.pointer (some ⟨bk1, 0, none⟩)) (.iptr [.mapp b]) := by
    refine .iptr bk1 0 _ (fun _ => .map (some b)) (World.block_lt_of_cell? w _ h1) x1 (fun j hj => ?_) (fun j v hv => ?_)
    · have : j = 0 := by simpa using hj
      subst this
      exact ⟨h1, rfl⟩
    · match j, hv with
      | 0, hv => simp at hv; subst hv; exact .mapp b
      | j + 1, hv => simp at hv
  refine ⟨r1, fun n => ?_⟩
  induction n with
  | zero => exact .undef _
  | succ n ih =>
    refine .iptr bk2 0 _ (fun _ => .func (.func 29) #[] #[.pointer (some ⟨bk1, 0, none⟩), .pointer (some ⟨bk2, 0, none⟩)]) (World.block_lt_of_cell? w _ h2) x2 (fun j hj => ?_) (fun j v hv => ?_)
    · have : j = 0 := by simpa using hj
      subst this
      exact ⟨h2, rfl⟩
    · match j, hv with
      | 0, hv =>
        simp at hv
        subst hv
        refine .fn _ _ _ (fun j => (#[Value.pointer (some ⟨bk1, 0, none⟩), .pointer (some ⟨bk2, 0, none⟩)][j]?).getD undef) rfl (fun j hj => ?_) (fun j v hv => ?_)
        · match j, hj with
          | 0, _ => rfl
          | 1, _ => rfl
        · match j, hv with
          | 0, hv => simp at hv; subst hv; exact r1
          | 1, hv => simp at hv; subst hv; exact ih
          | j + 2, hv => simp at hv
      | j + 1, hv => simp at hv
theorem row_strs {w : World} {X : Nat → Prop} {v : Value} {base n : Nat} {l : List ByteArray} (h : w.ownsRow base 9 1 v n ((l.map (·.data.toList)).map Go.Proofs.encStr)) (hX : ∀ b, X b → b < base) : RepD w X v (Enc.enc l) := by
  have hn : l.length = n := by have := h.1; simpa using this
  show RepD w X v (.slice 1 false (encRows l))
  have hrl : (encRows l).length = n := by rw [encRows_length, hn]
  rcases h.2 with ⟨rfl, hz⟩ | ⟨g, cap', cur, rfl, hbase, hg, r1, r2, r3, r4⟩
  · refine .slice 1 false _ none 0 0 (fun _ _ => undef) (by rw [hrl, hz]) (by omega) (Nat.zero_le _) (fun h => by cases h) (fun r hr => ?_) (fun h => absurd hz (by rw [hrl] at h; exact h)) (fun i j r v hi hj => ?_)
    · obtain ⟨x, _, rfl⟩ := List.mem_map.1 hr; rfl
    · have := (List.getElem?_eq_some_iff.1 hi).1; omega
  · have hcur : ∀ i (hi : i < n), cur[i]? = some (.string (ix l i)) := by
      intro i hi
      have h := congrArg (fun l => l[i]?) r4
      rw [List.getElem?_take, if_pos (by omega), Array.getElem?_toList, List.getElem?_map, List.getElem?_map] at h
      rw [h]
      have hi' : i < l.length := by omega
      rw [List.getElem?_eq_getElem hi', ix_lt hi']
      simp [Go.Proofs.encStr]
    refine .slice 1 false _ (some ⟨g, 0, none⟩) n cap' (fun i _ => .string (ix l i)) hrl.symm (by omega) r2 (fun h => by cases h) (fun r hr => ?_) (fun _ => ⟨g, 0, rfl, (Array.getElem?_eq_some_iff.1 hg).1, fun hx => by have := hX g hx; omega, fun i j hi hj => ?_⟩) (fun i j r v hi hj => ?_)
    · obtain ⟨x, _, rfl⟩ := List.mem_map.1 hr; rfl
    · have hj0 : j = 0 := by omega
      subst hj0
      rw [hrl] at hi
      refine ⟨?_, rfl⟩
      rw [show 0 + i * 1 + 0 = i by omega, cell_of_row w g i cur 9 (0, 0) hg]
      exact hcur i hi
    · unfold encRows at hi
      rw [List.getElem?_map, Option.map_eq_some_iff] at hi
      obtain ⟨x, hx, rfl⟩ := hi
      obtain ⟨hi', rfl⟩ := List.getElem?_eq_some_iff.1 hx
      match j with
      | 0 =>
        have hj : some (AV.str l[i]) = some v := hj
        injection hj with hj
        subst hj
        rw [ix_lt hi']
        exact .str _
      | j + 1 => simp at hj
end Go.Proofs.YtgjljfbohpnfcaaGreat


namespace Go.Proofs.YtgjljfbohpnfcaaGreat
open Go.RowKit
set_option linter.unusedSimpArgs false
set_option linter.unusedVariables false
set_option maxRecDepth 100000
section
variable {m : Int}
def sUses : List AV → Option (Prop × AV) := spec1 (fun (e : Expr) => WfE e ∧ (namesE e).length ≤ 1000000000000) (fun e => Enc.enc (usesF e))
set_option maxHeartbeats 16000000 in
theorem usesP : PureOK Tryz.prog (G m) 18 sUses := by
  refine pureM1 (C := CVi m) (sigCVi m) (mixCVi m) (fun g k e L => noMapG g k e L) Tryz.func18 rfl rfl rfl [] [1, 2, 4, 5] (by kernel_rfl) (by decide) (fun e ⟨hw, hc⟩ => ?_)
  simp
  refine AWm_alloc (C := CVi m) (pre := [_]) (post := [_]) (sigCVi m) rfl rfl rfl rfl (by kernel_rfl) (by kernel_rfl) ?_
  simp
  intro b hb0
  refine AWm_alloc (C := CVi m) (pre := []) (post := []) (sigCVi m) rfl rfl rfl rfl (by kernel_rfl) (by kernel_rfl) ?_
  simp
  refine AWm_callM (C := CVi m) (pre := [_, _]) (sigCVi m) (by kernel_rfl) ?_
  simp [EB]
  refine ⟨_, 29, Tryz.f29, [Enc.enc e, .ptr 1 1 1 0 0, .ptr 2 1 1 0 0], b, 9, 4, _, putS (namesE e) [], rfl, rfl, ?_, Tryz.func29, by decide, rfl, upd_same _ _ _, ?_, ?_⟩
  · simp [target]
  · intro X β w args R hXb hG hsz harg hL
    obtain ⟨v0, a0, q0⟩ := harg 0 _ rfl
    obtain ⟨v1, a1, q1⟩ := harg 1 _ rfl
    obtain ⟨v2, a2, q2⟩ := harg 2 _ rfl
    have hX : ∀ (H : List Blk) (q : Nat), X q → Mu X β H q := fun _ q h => .inl h
    obtain ⟨bk1, c1, e1, rfl, l1, x1, u1, y1, _, z1⟩ := ptr_cell R rfl q1
    obtain ⟨bk2, c2, e2, rfl, l2, x2, u2, y2, _, z2⟩ := ptr_cell R rfl q2
    obtain rfl := rep_mapp z1
    obtain ⟨cs, val, rfl, s1, s2, s3⟩ := rep_fn z2
    obtain ⟨bk1', c1', e1', t1, _⟩ := ptr_cell R rfl (s3 0 _ rfl)
    obtain ⟨bk2', c2', e2', t2, _⟩ := ptr_cell R rfl (s3 1 _ rfl)
    rw [e1] at e1'
    rw [e2] at e2'
    injection e1' with e1'; injection e1' with e1' _; subst e1'
    injection e2' with e2'; injection e2' with e2' _; subst e2'
    have hcs : cs = #[.pointer (some ⟨bk1, 0, none⟩), .pointer (some ⟨bk2, 0, none⟩)] := by
      have k0 := s2 0 (by decide)
      have k1 := s2 1 (by decide)
      rw [t1] at k0
      rw [t2] at k1
      apply Array.ext_getElem?
      intro i
      match i with
      | 0 => rw [k0]; rfl
      | 1 => rw [k1]; rfl
      | i + 2 => rw [Array.getElem?_eq_none (by rw [s1]; simp), Array.getElem?_eq_none (by simp)]
    subst hcs
    obtain ⟨r1, r2⟩ := visRep (X := X) y1 x1 x2 y2
    refine visN (SizeOf.sizeOf e) e b [] w X args (Nat.le_refl _) hw (by simpa using hc) R.base (fun h => hXb (hX _ _ h)) (fun g => (hG g).mono fun q _ h => hX _ q h) hsz (fun j u hj => ?_) hL
    match j, hj with
    | 0, hj => have hj : some (Enc.enc e) = some u := hj; injection hj with hj; subst hj; exact ⟨v0, a0, (rep_deepArg (by simp [AV.deepArg]) q0).mono fun q _ h => hX _ q h⟩
    | 1, hj => simp at hj; subst hj; exact ⟨_, a1, r1⟩
    | 2, hj => simp at hj; subst hj; exact ⟨_, a2, r2 _⟩
    | j + 3, hj => simp at hj
  · simp
    refine AWm_callRR (C := CVi m) (pre := [_]) (post := [_]) (sigCVi m) (by kernel_rfl) ?_
    simp [EB]
    refine ⟨_, 31, Tryz.f31, [.mapp b], _, 30, Tryz.f30, _, Enc.enc (usesF e), rfl, rfl, rfl, ?_, Tryz.func31, by decide, rfl, rfl, rfl, Tryz.func30, by decide, rfl, ?_, ?_⟩
    · simp [target]
    · intro X β w args R hG hsz harg
      obtain ⟨v0, a0, q0⟩ := harg 0 _ rfl
      obtain rfl := rep_mapp q0
      obtain rfl : args = #[.map (some b)] := by
        apply Array.ext_getElem?
        intro i
        match i with
        | 0 => rw [a0]; rfl
        | i + 1 => rw [Array.getElem?_eq_none (by rw [hsz]; simp), Array.getElem?_eq_none (by simp)]
      have hb := hG b
      rw [upd_same] at hb
      obtain ⟨⟨D, d1, d2, d3, d4, d5⟩, hXb⟩ := hb
      have hsz' : Maps.size D ≤ 1000000000000 := by
        rw [d5]
        have := msize_le (putS (namesE e) [])
        rw [putS_len] at this
        simp only [List.length_nil, Nat.add_zero] at this
        omega
      refine (Go.callsIn_wide.1 (Tryz.maps_Keys_31 (some b) w)).mono ?_
      rintro en w1 ⟨rfl, rfl⟩
      refine ⟨_, rfl, Keeps.alloc _ _ _, (Go.callsIn_wide.1 (Tryz.slices_Sorted_keys_30_31 b _ D _ w d1 (by show _ ≤ 9223372036854775807; omega) (by omega))).mono ?_⟩
      rintro en w2 ⟨v, ss, rfl, hp, hrow, _, hbel⟩
      refine ⟨v, rfl, keeps_of_below hbel (Nat.le_refl _), ?_⟩
      have hk := keys_sorted (l := namesE e) Tryz.underlying9 d1 d2 d4 hp
      rw [hk] at hrow
      exact row_strs hrow fun q hq => by
        have := R.mu_lt q hq
        simp
        omega
    · simp
end
end Go.Proofs.YtgjljfbohpnfcaaGreat
