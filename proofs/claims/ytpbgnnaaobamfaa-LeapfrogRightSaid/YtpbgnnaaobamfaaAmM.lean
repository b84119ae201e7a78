import Derived.Test.YtpbgnnaaobamfaaAmK
/-
  The call's own blocks in another order. Own work; no program in sight.
-/
namespace Go.Proofs.Ytpbgnnaaobamfaa
open Go.RowKit

def prmA (π : Nat → Nat) : AV → AV
  | .own l n => .own (π l) n
  | .osl l n sz o k => .osl (π l) n sz o k
  | .ptr l n sz i f => .ptr (π l) n sz i f
  | v => v
def prmB (π : Nat → Nat) (b : Blk) : Blk := { b with rows := b.rows.map fun r => r.map (prmA π) }
theorem prmA_deep {w : World} {X : Nat → Prop} {π : Nat → Nat} {v : Value} {av : AV} (h : RepD w X v av) : RepD w X v (prmA π av) := by
  cases h <;> (unfold prmA; first | (constructor <;> assumption) | skip)
  all_goals (constructor <;> assumption)
section
variable {C : Ctx} {N h0 : Nat}
theorem prmA_rep {w : World} {X : Nat → Prop} {β β' : List BI} {H H' : List Blk} {π : Nat → Nat} (hM : ∀ b, Mu X β' H' b → Mu X β H b) (hB : ∀ l b, H[l]? = some b → H'[π l]? = some (prmB π b) ∧ β'[π l]? = β[l]?) {v : Value} {av : AV} (hc : av.clean1 H.length = true) (h : Rep w (Mu X β H) β H v av) : Rep w (Mu X β' H') β' H' v (prmA π av) := by
  cases h with
  | deep h => exact .deep ((prmA_deep h).mono fun b _ hb => hM b hb)
  | own l n a cap b hb hn h0 hc' hx =>
    obtain ⟨h1, h2⟩ := hB l b hb
    refine .own (π l) n a cap (prmB π b) h1 (by simpa [prmB] using hn) h0 hc' fun e => ?_
    rw [h2]
    exact hx (by simpa [prmB] using e)
  | osl l n sz off len a cap b hb hn hle h0 hc' hx =>
    obtain ⟨h1, h2⟩ := hB l b hb
    refine .osl (π l) n sz off len a cap (prmB π b) h1 (by simpa [prmB] using hn) hle h0 hc' fun e e2 => ?_
    rw [h2]
    exact hx (by simpa [prmB] using e) e2
  | ptr l n sz i f a b hb hn hx =>
    obtain ⟨h1, h2⟩ := hB l b hb
    refine .ptr (π l) n sz i f a (prmB π b) h1 (by simpa [prmB] using hn) fun e1 e2 e3 => ?_
    rw [h2]
    exact hx (by simpa [prmB] using e1) e2 e3
  | agg cs cells val hl hm hv => cases hc
  | tup cs cells val hl hm hv => cases hc
  | fn f cs cells val hl hm hv => exact .fn f cs cells val hl hm fun j u hj => .deep ((rep_deep (List.all_eq_true.1 hc u (List.mem_of_getElem? hj)) (hv j u hj)).mono fun b _ hb => hM b hb)

/-- The call's own blocks get other numbers. -/
theorem weak_perm {ρ ρ' : List (Nat × AV)} {H H' : List Blk} (π π' : Nat → Nat) (hπ : ∀ l, l < H.length → π l < H.length ∧ π' (π l) = l) (hπ' : ∀ l, l < H.length → π' l < H.length ∧ π (π' l) = l) (h0π : ∀ l, l < h0 → π l = l)
    (hH : ∀ b ∈ H, ∀ r ∈ b.rows, ∀ c ∈ r, c.clean1 H.length = true) (hL : H'.length = H.length) (hH' : ∀ l b, H[l]? = some b → H'[π l]? = some (prmB π b))
    (hρ : ∀ p ∈ ρ', p.2 = prmA π (getA ρ p.1) ∧ (getA ρ p.1).clean1 H.length = true) : Weak C N h0 ⟨ρ, H⟩ ⟨ρ', H'⟩ := by
  intro X w0 β0 H0 a w hl hr
  obtain ⟨β, R, S0, Tr, G, hN, hdef⟩ := hr
  have hlen : β.length = H.length := R.len
  obtain ⟨β', hβl, hβ1⟩ : ∃ β' : List BI, β'.length = H.length ∧ ∀ l, l < H.length → β'[l]? = β[π' l]? := by
    refine ⟨(List.range H.length).map fun l => β.getD (π' l) .nil, by simp, fun l hl => ?_⟩
    have h2 := (hπ' l hl).1
    rw [List.getElem?_map, List.getElem?_range hl]
    simp only [Option.map_some, List.getD_eq_getElem?_getD]
    rw [List.getElem?_eq_getElem (show π' l < β.length by omega)]
    rfl
  have hb1 : ∀ l, l < H.length → β'[π l]? = β[l]? := fun l hl => by rw [hβ1 _ (hπ l hl).1, (hπ l hl).2]
  have hB : ∀ l b, H[l]? = some b → H'[π l]? = some (prmB π b) ∧ β'[π l]? = β[l]? := fun l b h => ⟨hH' l b h, hb1 l (List.getElem?_eq_some_iff.1 h).1⟩
  -- back: block l' is block π' l'
  have back : ∀ l' b', H'[l']? = some b' → ∃ l b, l' = π l ∧ H[l]? = some b ∧ b' = prmB π b := fun l' b' h => by
    have hl' : l' < H.length := by rw [← hL]; exact (List.getElem?_eq_some_iff.1 h).1
    obtain ⟨h1, h2⟩ := hπ' l' hl'
    obtain ⟨b, hb⟩ : ∃ b, H[π' l']? = some b := ⟨H[π' l'], List.getElem?_eq_getElem h1⟩
    have := hH' _ _ hb
    rw [h2, h] at this
    injection this with this
    exact ⟨_, b, h2.symm, hb, this⟩
  have backβ : ∀ l' x, β'[l']? = some x → ∃ l, l < H.length ∧ l' = π l ∧ β[l]? = some x := fun l' x h => by
    have hl' : l' < H.length := by rw [← hβl]; exact (List.getElem?_eq_some_iff.1 h).1
    obtain ⟨h1, h2⟩ := hπ' l' hl'
    exact ⟨π' l', h1, h2.symm, by rw [← hβ1 l' hl']; exact h⟩
  have hM : ∀ b, Mu X β' H' b → Mu X β H b := fun b h => h.imp id fun ⟨l', c, blk, h1, h2, h3⟩ => by
    obtain ⟨l, b0, rfl, hb, rfl⟩ := back l' blk h2
    exact ⟨l, c, b0, by rw [← (hB l b0 hb).2]; exact h1, hb, h3⟩
  have hold : ∀ l, l < h0 → l < H.length := fun l h => by
    rw [← hl] at h
    obtain ⟨b', e1, _⟩ := S0.grow.old l H0[l] (List.getElem?_eq_getElem h)
    exact (List.getElem?_eq_some_iff.1 e1).1
  refine ⟨β', ⟨by rw [hβl, hL], fun l' bi b' h1 h2 => ?_, fun l' bk c h1 => ?_, fun l l' bk c c' h1 h2 => ?_, R.base⟩, ⟨S0.keeps, ⟨fun l b h => ?_, fun l' bk c h => ?_⟩, S0.len⟩, fun t => ?_, fun g => (G g).mono fun b _ hb => hM b hb, hN, hdef⟩
  · obtain ⟨l, b, rfl, hb, rfl⟩ := back l' b' h2
    rw [(hB l b hb).2] at h1
    have hBk := R.blk l bi b h1 hb
    cases bi with
    | nil => exact ⟨by have := hBk.1; show List.map _ b.rows = []; rw [this]; rfl, hBk.2⟩
    | lies bk cap =>
      obtain ⟨cur, k1, k2, k3, k4, k5, k6, k7⟩ := hBk
      refine ⟨cur, k1, k2, by simpa [prmB] using k3, k4, k5, fun r hr => ?_, fun i j r av hr hj => ?_⟩
      · obtain ⟨r0, hr0, rfl⟩ := List.mem_map.1 hr
        rw [List.length_map]; exact k6 r0 hr0
      · simp only [prmB, List.getElem?_map, Option.map_eq_some_iff] at hr
        obtain ⟨r0, hr0, rfl⟩ := hr
        rw [List.getElem?_map] at hj
        simp only [Option.map_eq_some_iff] at hj
        obtain ⟨av0, hj0, rfl⟩ := hj
        obtain ⟨v, q1, q2, q3, q4⟩ := k7 i j r0 av0 hr0 hj0
        exact ⟨v, q1, q2, prmA_rep hM hB (hH b (List.mem_of_getElem? hb) r0 (List.mem_of_getElem? hr0) av0 (List.mem_of_getElem? hj0)) q3, fun hd => (prmA_deep (q4 hd)).mono fun b _ hb => hM b hb⟩
  · obtain ⟨l, _, rfl, h⟩ := backβ l' _ h1
    exact R.lt l bk c h
  · obtain ⟨m, _, rfl, g1⟩ := backβ l _ h1
    obtain ⟨m', _, rfl, g2⟩ := backβ l' _ h2
    rw [R.inj m m' bk c c' g1 g2]
  · obtain ⟨b', e1, e2, e3, e4, e5, e6⟩ := S0.grow.old l b h
    have hl0 : l < h0 := by rw [← hl]; exact (List.getElem?_eq_some_iff.1 h).1
    have e7 := h0π l hl0
    obtain ⟨g1, g2⟩ := hB l b' e1
    rw [e7] at g1 g2
    exact ⟨prmB π b', g1, e2, e3, by simpa [prmB] using e4, fun e => by rw [g2]; exact e5 (by simpa [prmB] using e), e6⟩
  · obtain ⟨m, hm, rfl, g⟩ := backβ l' _ h
    rcases Nat.lt_or_ge m h0 with hlt | hge
    · rw [h0π m hlt]
      exact S0.grow.at_ m bk c g
    · rcases S0.grow.at_ m bk c g with e | ⟨c', e⟩
      · exact .inl e
      · have := (List.getElem?_eq_some_iff.1 e).1
        have h3 : β0.length = H0.length := S0.len
        omega
  · have key : ∀ L : List (Nat × AV), (∀ p ∈ L, p.2 = prmA π (getA ρ p.1) ∧ (getA ρ p.1).clean1 H.length = true) → getA L t = .undef ∨ (getA L t = prmA π (getA ρ t) ∧ (getA ρ t).clean1 H.length = true) := by
      intro L
      induction L with
      | nil => intro _; exact .inl rfl
      | cons p r ih =>
        intro hp
        obtain ⟨k, v⟩ := p
        simp only [getA]
        split
        · rename_i e
          subst e
          exact .inr (hp (k, v) (by simp))
        · exact ih fun q hq => hp q (List.mem_cons_of_mem _ hq)
    show Rep w _ _ _ _ (getA ρ' t)
    rcases key ρ' hρ with e | ⟨e, hcl⟩
    · rw [e]; exact rep_undef
    · rw [e]; exact prmA_rep hM hB hcl (Tr t)
end
end Go.Proofs.Ytpbgnnaaobamfaa

/-
  New blocks from three arguments. Own work; no program in sight.
-/
namespace Go.Proofs.Ytpbgnnaaobamfaa
open Go.RowKit

def nspec3 {α β γ : Type} [Enc α] [Enc β] [Enc γ] (pre : α → β → γ → Prop) (res : α → β → γ → AV) (bl : α → β → γ → List Blk) : List AV → Option (Prop × AV × List Blk)
  | [a, b, c] => some (nrmV a = Enc.enc (Enc.dec a : α) ∧ nrmV b = Enc.enc (Enc.dec b : β) ∧ nrmV c = Enc.enc (Enc.dec c : γ) ∧ pre (Enc.dec a) (Enc.dec b) (Enc.dec c), res (Enc.dec a) (Enc.dec b) (Enc.dec c), bl (Enc.dec a) (Enc.dec b) (Enc.dec c))
  | _ => none
@[simp] theorem genNew_nspec3 {α β γ : Type} [Enc α] [Enc β] [Enc γ] (pre : α → β → γ → Prop) (res : α → β → γ → AV) (bl : α → β → γ → List Blk) (a b c : AV) (H : List Blk) :
    genNew (nspec3 pre res bl) [a, b, c] H = if a.deepArg && b.deepArg && c.deepArg then some (nrmV a = Enc.enc (Enc.dec a : α) ∧ nrmV b = Enc.enc (Enc.dec b : β) ∧ nrmV c = Enc.enc (Enc.dec c : γ) ∧ pre (Enc.dec a) (Enc.dec b) (Enc.dec c), ren (up H.length) (res (Enc.dec a) (Enc.dec b) (Enc.dec c)), H ++ (bl (Enc.dec a) (Enc.dec b) (Enc.dec c)).map (renB (up H.length))) else none := by
  unfold genNew nspec3
  simp [List.all_cons, Bool.and_assoc]
section
variable {C : Ctx} (hS : SigOK C) (hM : C.P.follows .mixedOrders = true) {f : FuncId} {fn : Func} {body : Code} {rs : List ResultVar} {n : Nat} (hf : C.P.funcs[f]? = some fn) (hb : fn.body = some body) (hrs : fn.results.toList = rs) (hn : fn.ntmps = n) (hd : List Nat)
include hS hM hf hb hrs hn
theorem newH3 {α β γ : Type} [Enc α] [Enc β] [Enc γ] (hok : codeOKH C hd n body = true) (hnn : 3 ≤ n) {pre : α → β → γ → Prop} {res : α → β → γ → AV} {bl : α → β → γ → List Blk} (s : α → β → γ → List Nat) (hs : ∀ a b c, (s a b c).Nodup) (ho : ∀ a b c, okR (bl a b c).length (res a b c) = true ∧ (bl a b c).all (okB (bl a b c).length) = true)
    (h : ∀ a b c, pre a b c → avcH C hd n 0 body ⟨[(0, Enc.enc a), (1, Enc.enc b), (2, Enc.enc c)], []⟩ (wEnd C n 0 (postN C rs (s a b c) (res a b c) (bl a b c)))) : GenOK C.P C.G f (genNew (nspec3 pre res bl)) :=
  new_of_AW hf hb hrs hn fun avs ob r' N' hp hob => by
    unfold nspec3 at hp
    split at hp
    · injection hp with hp; injection hp with e1 e2; injection e2 with e2 e3; subst e1 e2 e3
      rename_i a0 b0 c0
      have := h _ _ _ hob.2.2.2
      rw [← hob.1, ← hob.2.1, ← hob.2.2.1] at this
      exact ⟨hnn, (ho _ _ _).1, (ho _ _ _).2, s (Enc.dec a0) (Enc.dec b0) (Enc.dec c0), hs _ _ _, AW_end (avcH_sound hS hM body hok this)⟩
    · cases hp
end
end Go.Proofs.Ytpbgnnaaobamfaa
