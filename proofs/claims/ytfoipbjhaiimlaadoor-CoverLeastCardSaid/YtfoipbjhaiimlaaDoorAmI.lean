import Derived.Test.YtfoipbjhaiimlaaDoorAmG
/-
  A nil slice in a cell begins to be the call's own; blocks forgotten where closures hold pointers. Own work; no program in sight.
-/
namespace Go.Proofs.YtfoipbjhaiimlaaDoor
open Go.RowKit
set_option linter.unusedVariables false

section
variable {C : Ctx} {N h0 : Nat}
theorem weak_nilcell {ρ : List (Nat × AV)} {H : List Blk} (l i j sz : Nat) (e : TypeId) {b : Blk} {r : List AV} (hb : H[l]? = some b) (hr : b.rows[i]? = some r) (hj : r[j]? = some (.slice sz true [])) (hz : 0 < sz) :
    Weak C N h0 ⟨ρ, H⟩ ⟨ρ, (H ++ [(⟨e, sz, [], true, true⟩ : Blk)]).set l { b with rows := b.rows.set i (r.set j (.own H.length 0)), deep := false }⟩ := by
  intro X w0 β0 H0 a w hl hrel
  obtain ⟨β, R, S0, Tr, G, hN, hdef⟩ := hrel
  have hk := Keeps.refl (fun _ => False) w
  have S1 := push_step (w' := w) R hk .nil ⟨e, sz, [], true, true⟩ (fun bk c e => by cases e)
  have R1 := push_hrel R hk .nil ⟨e, sz, [], true, true⟩ (fun bk c e => by cases e) (fun bk c e => by cases e) ⟨rfl, hz⟩
  have hlt := (List.getElem?_eq_some_iff.1 hb).1
  have hb1 : (H ++ [(⟨e, sz, [], true, true⟩ : Blk)])[l]? = some b := by rw [List.getElem?_append_left hlt]; exact hb
  obtain ⟨bi, hbi⟩ : ∃ bi, (β ++ [BI.nil])[l]? = some bi := by
    refine ⟨(β ++ [BI.nil])[l]'(by have h2 : β.length = H.length := R.len; simp; omega), List.getElem?_eq_getElem _⟩
  have S2 := set_step R1 hb1 hbi bi { b with rows := b.rows.set i (r.set j (.own H.length 0)), deep := false } rfl rfl (by simp) (fun _ => rfl) id (fun bk c e => .inr ⟨c, e⟩) (Keeps.refl _ w)
  have R2 := set_hrel R1 hb1 hbi bi { b with rows := b.rows.set i (r.set j (.own H.length 0)), deep := false } S2 (fun _ _ _ _ _ => rfl) (by
    have hB := R1.blk l bi b hbi hb1
    cases bi with
    | nil => rw [hB.1] at hr; simp at hr
    | lies bk cap =>
      obtain ⟨cur, k1, k2, k3, k4, k5, k6, k7⟩ := hB
      refine ⟨cur, k1, k2, by simpa using k3, k4, k5, fun r' hr' => ?_, fun i' j' r' av hr' hj' => ?_⟩
      · rcases List.mem_or_eq_of_mem_set hr' with h | h
        · exact k6 r' h
        · rw [h, List.length_set]; exact k6 r (List.mem_of_getElem? hr)
      · simp only at hr'
        by_cases e1 : i = i'
        · subst e1
          rw [List.getElem?_set_self (List.getElem?_eq_some_iff.1 hr).1] at hr'
          injection hr' with hr'
          subst hr'
          by_cases e2 : j = j'
          · subst e2
            rw [List.getElem?_set_self (List.getElem?_eq_some_iff.1 hj).1] at hj'
            injection hj' with hj'
            subst hj'
            obtain ⟨v, q1, q2, q3, q4⟩ := k7 i j r _ hr hj
            refine ⟨v, q1, q2, ?_, fun h => by cases h⟩
            obtain ⟨a0, cap0, val, h2, h3, h4, h5, _⟩ := repD_slice (rep_slice q3)
            rw [h2]
            have hcap := h5 rfl
            simp only [List.length_nil] at hcap
            have hne : H.length ≠ l := by omega
            refine .own H.length 0 a0 cap0 ⟨e, sz, [], true, true⟩ ?_ (Nat.le_refl _) (.inl rfl) (Nat.zero_le _) fun _ => ?_
            · rw [List.getElem?_set_ne (fun h => hne h.symm)]
              exact getElem?_snoc_new H _
            · have e3 : (β ++ [BI.nil]).set l (BI.lies bk cap) = β ++ [BI.nil] := by
                refine List.ext_getElem? fun k => ?_
                by_cases e : l = k
                · subst e
                  rw [List.getElem?_set_self (List.getElem?_eq_some_iff.1 hbi).1, hbi]
                · rw [List.getElem?_set_ne e]
              rw [e3, ← R.len, getElem?_snoc_new]
              exact ⟨rfl, hcap⟩
          · rw [List.getElem?_set_ne e2] at hj'
            obtain ⟨v, q1, q2, q3, q4⟩ := k7 i j' r av hr hj'
            exact ⟨v, q1, q2, q3.keep S2, fun h => by cases h⟩
        · rw [List.getElem?_set_ne e1] at hr'
          obtain ⟨v, q1, q2, q3, q4⟩ := k7 i' j' r' av hr' hj'
          exact ⟨v, q1, q2, q3.keep S2, fun h => by cases h⟩)
    (fun bk c e => by subst e; exact R1.lt l bk c hbi) (fun bk c l' c' e hne h => by subst e; exact hne (R1.inj l' l bk c' c h hbi))
  have S := S1.trans S2
  exact ⟨_, R2, S0.trans S, fun k => (Tr k).keep S, fun g => (G g).keep (fun b hb hn => S.keeps.block b hb (fun hm => hn (.inr hm))) S.keeps.size (fun b hb => S.mu b hb), hN, hdef⟩

/-- All blocks that it speaks of are among the first m; a closure's too. -/
def AV.clean2 (m : Nat) : AV → Bool
  | .fn _ cs => cs.all (AV.clean1 m)
  | v => v.clean1 m
def AV.cleanF (m : Nat) : AV → Bool
  | .agg cs => cs.all (AV.clean2 m)
  | .tup cs => cs.all (AV.clean2 m)
  | v => v.clean2 m
theorem rep_clean2 {w : World} {X : Nat → Prop} {β : List BI} {H : List Blk} {m : Nat} {v : Value} {av : AV} (hc : av.clean2 m = true) (h : Rep w (Mu X β H) β H v av) : Rep w (Mu X (β.take m) (H.take m)) (β.take m) (H.take m) v av := by
  cases av with
  | fn f cells =>
    obtain ⟨cs, val, rfl, hl, hm, hv⟩ := rep_fn h
    exact .fn f cs cells val hl hm fun j u hj => rep_clean1 (List.all_eq_true.1 hc u (List.mem_of_getElem? hj)) (hv j u hj)
  | _ => exact rep_clean1 hc h
theorem rep_cleanF {w : World} {X : Nat → Prop} {β : List BI} {H : List Blk} {m : Nat} {v : Value} {av : AV} (hc : av.cleanF m = true) (h : Rep w (Mu X β H) β H v av) : Rep w (Mu X (β.take m) (H.take m)) (β.take m) (H.take m) v av := by
  cases av with
  | agg cells =>
    obtain ⟨cs, val, rfl, hl, hm, hv⟩ := rep_agg h
    exact .agg cs cells val hl hm fun j u hj => rep_clean2 (List.all_eq_true.1 hc u (List.mem_of_getElem? hj)) (hv j u hj)
  | tup cells =>
    obtain ⟨cs, val, rfl, hl, hm, hv⟩ := rep_tup h
    exact .tup cs cells val hl hm fun j u hj => rep_clean2 (List.all_eq_true.1 hc u (List.mem_of_getElem? hj)) (hv j u hj)
  | _ => exact rep_clean2 hc h
theorem weak_dropF {ρ : List (Nat × AV)} {H : List Blk} (m : Nat) (hm : h0 ≤ m) (hρ : ∀ p ∈ ρ, p.2.cleanF m = true) (hH : ∀ b ∈ H.take m, b.deep = true ∨ ∀ r ∈ b.rows, ∀ c ∈ r, c.cleanF m = true) : Weak C N h0 ⟨ρ, H⟩ ⟨ρ, H.take m⟩ := by
  intro X w0 β0 H0 a w hl hr
  obtain ⟨β, R, S0, Tr, G, hN, hdef⟩ := hr
  have hcl : ∀ t, (getA ρ t).cleanF m = true := by
    intro t
    have key : ∀ l : List (Nat × AV), (∀ p ∈ l, p.2.cleanF m = true) → (getA l t).cleanF m = true := by
      intro l
      induction l with
      | nil => intro _; rfl
      | cons p r ih =>
        intro hp
        obtain ⟨k, v⟩ := p
        simp only [getA]
        split
        · exact hp (k, v) (by simp)
        · exact ih fun q hq => hp q (List.mem_cons_of_mem _ hq)
    exact key ρ hρ
  refine ⟨β.take m, ⟨by simp [R.len], fun l bi b h1 h2 => ?_, fun l b c h1 => ?_, fun l l' b c c' h1 h2 => ?_, R.base⟩, ⟨S0.keeps, ⟨fun l b h => ?_, fun l bk c h => ?_⟩, S0.len⟩, fun t => rep_cleanF (hcl t) (Tr t), fun g => (G g).mono fun b _ hb => hb.take, hN, hdef⟩
  · rw [List.getElem?_take] at h1 h2
    split at h1
    · rename_i hlm
      rw [if_pos hlm] at h2
      have hB := R.blk l bi b h1 h2
      cases bi with
      | nil => exact hB
      | lies bk cap =>
        obtain ⟨cur, k1, k2, k3, k4, k5, k6, k7⟩ := hB
        refine ⟨cur, k1, k2, k3, k4, k5, k6, fun i j r av hr hj => ?_⟩
        obtain ⟨v, q1, q2, q3, q4⟩ := k7 i j r av hr hj
        have q4' : b.deep = true → RepD w (Mu X (β.take m) (H.take m)) v av := fun hd => (q4 hd).mono fun b _ hb => hb.take
        refine ⟨v, q1, q2, ?_, q4'⟩
        have hmem : b ∈ H.take m := List.mem_of_getElem? (by rw [List.getElem?_take, if_pos hlm]; exact h2)
        rcases hH b hmem with h | h
        · exact .deep (q4' h)
        · exact rep_cleanF (h r (List.mem_of_getElem? hr) av (List.mem_of_getElem? hj)) q3
    · cases h1
  · rw [List.getElem?_take] at h1
    split at h1
    · exact R.lt l b c h1
    · cases h1
  · rw [List.getElem?_take] at h1 h2
    split at h1
    · split at h2
      · exact R.inj l l' b c c' h1 h2
      · cases h2
    · cases h1
  · obtain ⟨b', e1, e2, e3, e4, e5, e6⟩ := S0.grow.old l b h
    have hlm : l < m := by have := (List.getElem?_eq_some_iff.1 h).1; omega
    refine ⟨b', by simp only [List.getElem?_take, if_pos hlm]; exact e1, e2, e3, e4, fun e => ?_, e6⟩
    rw [List.getElem?_take, if_pos hlm]
    exact e5 e
  · rw [List.getElem?_take] at h
    split at h
    · exact S0.grow.at_ l bk c h
    · cases h
end
/-- A function that changes the caller's blocks, by the condition with regions left by hand and an end that may be weakened. -/
theorem gen_of_avcH {C : Ctx} (hS : SigOK C) (hM : C.P.follows .mixedOrders = true) (hd : List Nat) {f : FuncId} {fn : Func} {body : Code} {rs : List ResultVar} {n : Nat} (hf : C.P.funcs[f]? = some fn) (hb : fn.body = some body) (hrs : fn.results.toList = rs) (hn : fn.ntmps = n) (hok : codeOKH C hd n body = true) {g : List AV → List Blk → Option (Prop × AV × List Blk)}
    (h : ∀ avs H ob r H', g avs H = some (ob, r, H') → ob → avs.length ≤ n ∧ avcH C hd n H.length body ⟨argsρ 0 avs, H⟩ (wEnd C n H.length fun ex st' => (ex = .normal ∨ ex = .ret) ∧ ∃ ob', aresults C st' rs = some (ob', r) ∧ ob' ∧ st'.H = H')) : GenOK C.P C.G f g := by
  subst hrs hn
  intro w X β H args avs ob r H' R hG hsz harg hp hob
  obtain ⟨hlen, hav⟩ := h avs H ob r H' hp hob
  refine calls_of_wp hf hb ?_
  have hr : Rel C fn.ntmps X w β H ⟨argsρ 0 avs, H⟩ { tmps := args ++ Array.replicate (fn.ntmps - args.size) undef, defers := [] } w :=
    ⟨β, R, StepR.refl _ _ _ R.len, trel_args hsz harg, hG, by simp; omega, rfl⟩
  refine Code.wp_mono (fun ex a' w' ⟨st', hq, hr'⟩ => ?_) (AW_end (avcH_sound hS hM body hok hav) X w β H _ w rfl hr)
  obtain ⟨hex, ob', hres, hob', hH⟩ := hq
  obtain ⟨β', R', S', T', G', hN', hdef'⟩ := hr'
  obtain ⟨u, hu, hrep⟩ := aresults_sound R' T' hres hob'
  subst hH
  have hpost : bodyPost C.P fn (fun e w' => ∃ v β', e = .returned v ∧ HRel w' X β' st'.H ∧ StepR w β H w' β' st'.H ∧ Rep w' (Mu X β' st'.H) β' st'.H v r) .normal a' w' :=
    ⟨hdef', u, hu, u, β', rfl, R', S', hrep⟩
  rcases hex with rfl | rfl
  · exact hpost
  · exact hpost
end Go.Proofs.YtfoipbjhaiimlaaDoor

/-
  A variable of one cell whose zero is not looked at; a function whose result keeps its mark. Own work; no program in sight.
-/
namespace Go.Proofs.YtfoipbjhaiimlaaDoor
open Go.RowKit
set_option linter.unusedVariables false

section
variable {C : Ctx} {N h0 : Nat}
theorem AW_alloc1 {id : Nat} {t d : Nat} {ty : TypeId} {pos : String} {st : ASt} {Q : Exit → ASt → Prop} (hd : d < N) {i : TypeInfo} {zv u : Value} (z1 : C.P.info? t = some i) (z2 : i.zero = some zv) (z3 : zv.cells = #[u]) (z4 : u.oneCell' = true) (hsz : szT C.P t = 1)
    (h : Q .normal ⟨(d, .ptr st.H.length 1 1 0 0) :: st.ρ, st.H ++ [⟨t, 1, [[.undef]], true, true⟩]⟩) : AW C N h0 (.region id [(⟨some d, .alloc t, ty, pos, #[], none⟩ : Oper)].toArray false) st Q := fun X w0 β0 H0 a w hl hr => by
  obtain ⟨β, R, S0, T, G, hN, hdef⟩ := hr
  have ha : anew C st.H t (some [.undef]) = some (True, .ptr st.H.length 1 1 0 0, st.H ++ [⟨t, 1, [[.undef]], true, true⟩]) := by
    unfold anew
    simp only
    rw [if_pos ⟨by rw [hsz]; rfl, by decide⟩, hsz]
    rfl
  have hc : CRep w (Mu X β st.H) β st.H zv.cells [.undef] := by
    rw [z3]
    refine ⟨rfl, fun j av hj => ?_⟩
    match j with
    | 0 => simp at hj; subst hj; exact ⟨u, rfl, z4, .deep (.undef u)⟩
    | j + 1 => simp at hj
  obtain ⟨β', h1, h2, h3⟩ := anew_sound R ha hc
  refine wp_region_list ?_
  unfold wpList
  rw [if_pos (by rfl)]
  refine .inl (wp_value (u := .pointer (some ⟨w.heap.size, 0, none⟩)) (w' := w.alloc (.cells zv.cells t)) ?_ ?_)
  · simp [execOp, Instr.alloc, zeroValue, typeInfo, z1, z2, newVar, newRow]
  · exact ⟨_, h, rel_put S0 T G hN hdef h1 h2 h3 (some d) (fun d' e => by injection e with e; rw [← e]; exact hd)⟩

/-- The result as it reads, its mark kept. -/
def finX (C : Ctx) (rs : List ResultVar) (r : AV) (st : ASt) : Prop :=
  match aresults C st rs with
  | some (ob, r') => ob ∧ view st.H 6 r' = r
  | none => False
def postX (C : Ctx) (rs : List ResultVar) (r : AV) : Exit → ASt → Prop
  | .normal, st => finX C rs r st
  | .ret, st => finX C rs r st
  | _, _ => False
def finXK (H : List Blk) (r : AV) (o : Option (Prop × AV)) : Prop := match o with | some (ob, r') => ob ∧ view H 6 r' = r | none => False
@[simp] theorem finXK_some (H : List Blk) (r r' : AV) (ob : Prop) : finXK H r (some (ob, r')) = (ob ∧ view H 6 r' = r) := rfl
@[simp] theorem postX_normal (rs : List ResultVar) (r : AV) (ρ : List (Nat × AV)) (H : List Blk) : postX C rs r .normal ⟨ρ, H⟩ = finXK H r (aresults C ⟨ρ, H⟩ rs) := rfl
@[simp] theorem postX_ret (rs : List ResultVar) (r : AV) (ρ : List (Nat × AV)) (H : List Blk) : postX C rs r .ret ⟨ρ, H⟩ = finXK H r (aresults C ⟨ρ, H⟩ rs) := rfl
@[congr] theorem lazy_postX {rs : List ResultVar} {r : AV} {ex ex' : Exit} {st st' : ASt} (h : mark ex = ex') (h' : st = st') : postX C rs r ex st = postX C rs r ex' st' := by rw [mark_eq] at h; rw [h, h']
theorem pureX_of_AW {f : FuncId} {fn : Func} {body : Code} {rs : List ResultVar} {n : Nat} (hf : C.P.funcs[f]? = some fn) (hb : fn.body = some body) (hrs : fn.results.toList = rs) (hn : fn.ntmps = n) {p : List AV → Option (Prop × AV)}
    (h : ∀ avs ob r, p avs = some (ob, r) → ob → avs.length ≤ n ∧ AW C n 0 body ⟨argsρ 0 (avs.map nrmV), []⟩ (postX C rs r)) : PureOK C.P C.G f p := by
  subst hrs hn
  intro w X args avs0 ob r hX hG hsz0 harg0 hp hob
  obtain ⟨hlen0, hav0⟩ := h avs0 ob r hp hob
  generalize havs : avs0.map nrmV = avs at hav0
  have hlen : avs.length ≤ fn.ntmps := by rw [← havs]; simpa using hlen0
  have hsz : args.size = avs.length := by rw [← havs]; simpa using hsz0
  have harg : ∀ (j : Nat) (u : AV), avs[j]? = some u → ∃ v, args[j]? = some v ∧ RepD w X v u := fun j u hu => by
    rw [← havs, List.getElem?_map] at hu
    simp only [Option.map_eq_some_iff] at hu
    obtain ⟨av, hav, rfl⟩ := hu
    obtain ⟨v, h1, h2⟩ := harg0 j av hav
    exact ⟨v, h1, repD_nrmV h2⟩
  refine calls_of_wp hf hb ?_
  have hMu : ∀ b, Mu X [] [] b → X b := by
    rintro b (h | ⟨l, c, blk, h1, _, _⟩)
    · exact h
    · simp at h1
  have R : HRel w X [] [] := ⟨rfl, fun l bi b h1 _ => by simp at h1, fun l b c h1 => by simp at h1, fun l l' b c c' h1 => by simp at h1, hX⟩
  have hr : Rel C fn.ntmps X w [] [] ⟨argsρ 0 avs, []⟩ { tmps := args ++ Array.replicate (fn.ntmps - args.size) undef, defers := [] } w :=
    ⟨[], R, StepR.refl _ _ _ rfl, trel_args hsz (fun j u hj => let ⟨v, h1, h2⟩ := harg j u hj; ⟨v, h1, .deep (h2.mono fun b _ hb => hMu b hb)⟩), fun g => (hG g).mono fun b _ hb => hMu b hb, by simp; omega, rfl⟩
  refine Code.wp_mono (fun ex a' w' ⟨st', hq, hr'⟩ => ?_) (hav0 X w [] [] _ w rfl hr)
  have fin : finX C fn.results.toList r st' → bodyPost C.P fn (fun e w' => ∃ v, e = .returned v ∧ Keeps (fun _ => False) w w' ∧ RepD w' X v r) .normal a' w' := by
    unfold finX
    split
    · rename_i ob' r' hres
      rintro ⟨hob', hview⟩
      obtain ⟨β', R', S', T', G', hN', hdef'⟩ := hr'
      obtain ⟨u, hu, hrep⟩ := aresults_sound R' T' hres hob'
      have hv := (view_sound R' (fun _ => True) 6 hrep (fun _ _ => trivial)).mono (X' := X) fun b _ hb => .inl hb
      rw [hview] at hv
      exact ⟨hdef', u, hu, u, rfl, S'.keeps.weaken (fun b _ h => by obtain ⟨l, c, blk, h1, _, _⟩ := h; simp at h1), hv⟩
    · intro h; exact h.elim
  cases ex with
  | normal => exact fin hq
  | ret => exact fin hq
  | _ => exact hq.elim
theorem pureX1 (hS : SigOK C) (hM : C.P.follows .mixedOrders = true) {f : FuncId} {fn : Func} {body : Code} {rs : List ResultVar} {n : Nat} (hf : C.P.funcs[f]? = some fn) (hb : fn.body = some body) (hrs : fn.results.toList = rs) (hn : fn.ntmps = n) {α : Type} [Enc α] (hok : codeOK C n body = true) (hnn : 1 ≤ n) {pre : α → Prop} {res : α → AV}
    (h : ∀ a, pre a → avc C n 0 body ⟨[(0, Enc.enc a)], []⟩ (postX C rs (res a))) : PureOK C.P C.G f (spec1 pre res) :=
  pureX_of_AW hf hb hrs hn fun avs ob r' hp hob => by
    unfold spec1 at hp
    split at hp
    · injection hp with hp; injection hp with e1 e2; subst e1 e2
      have := h _ hob.2
      rw [← hob.1] at this
      exact ⟨hnn, avc_sound hS hM body hok this⟩
    · cases hp
end
end Go.Proofs.YtfoipbjhaiimlaaDoor

/-
  A round's end where closures hold pointers; blocks behind blocks that are not looked at. Own work; no program in sight.
-/
namespace Go.Proofs.YtfoipbjhaiimlaaDoor
open Go.RowKit
set_option linter.unusedVariables false

theorem weak_keepF {C : Ctx} {N h0 : Nat} {ρ ρ' : List (Nat × AV)} {H H' : List Blk} (m : Nat) (h : ∀ p ∈ ρ', getA ρ p.1 = p.2) (hm : h0 ≤ m) (hρ : ∀ p ∈ ρ', p.2.cleanF m = true) (hH : ∀ b ∈ H.take m, b.deep = true ∨ ∀ r ∈ b.rows, ∀ c ∈ r, c.cleanF m = true) (hE : H.take m = H') : Weak C N h0 ⟨ρ, H⟩ ⟨ρ', H'⟩ := by
  subst hE
  exact (weak_slots h).trans (weak_dropF m hm hρ hH)

section
variable {α : Type} (l : List α) (a b c d : α) (r : List α)
theorem app_at0 : (l ++ a :: r)[l.length]? = some a := by simp
theorem app_at1 : (l ++ a :: b :: r)[l.length + 1]? = some b := by simp
theorem app_at2 : (l ++ a :: b :: c :: r)[l.length + 2]? = some c := by simp
theorem app_at3 : (l ++ a :: b :: c :: d :: r)[l.length + 3]? = some d := by simp
theorem app_set0 (x : α) : (l ++ a :: r).set l.length x = l ++ x :: r := by rw [List.set_append_right _ _ (Nat.le_refl _), Nat.sub_self]; rfl
theorem app_set1 (x : α) : (l ++ a :: b :: r).set (l.length + 1) x = l ++ a :: x :: r := by rw [List.set_append_right _ _ (Nat.le_add_right _ 1), Nat.add_sub_cancel_left]; rfl
theorem app_take0 : (l ++ r).take l.length = l := by simp
theorem app_take1 : (l ++ a :: r).take (l.length + 1) = l ++ [a] := by rw [List.take_append, List.take_of_length_le (Nat.le_add_right _ 1), Nat.add_sub_cancel_left]; rfl
end

theorem frzL_app (ls : List Nat) : ∀ (i : Nat) (l r : List Blk), frzL ls i (l ++ r) = frzL ls i l ++ frzL ls (i + l.length) r
  | _, [], _ => rfl
  | i, b :: l, r => by
    show _ :: frzL ls (i + 1) (l ++ r) = _ :: (frzL ls (i + 1) l ++ frzL ls (i + (l.length + 1)) r)
    rw [frzL_app ls (i + 1) l r, show i + 1 + l.length = i + (l.length + 1) by omega]
theorem frzL_out (ls : List Nat) : ∀ (i : Nat) (l : List Blk), (∀ k ∈ ls, k < i ∨ i + l.length ≤ k) → frzL ls i l = l
  | _, [], _ => rfl
  | i, b :: l, h => by
    have hc : ls.contains i = false := by
      rw [Bool.eq_false_iff]
      intro hc
      have hm := h i (by simpa using hc)
      rw [List.length_cons] at hm
      omega
    have ih := frzL_out ls (i + 1) l fun k hk => by
      have hm := h k hk
      rw [List.length_cons] at hm
      omega
    rw [frzL_cons, hc, ih]
    simp
theorem frz_rest (rest : List Blk) (x y : Blk) (r : List Blk) : frzL [rest.length + 1 + 1 + 1 + 1 + 1] 4 (rest ++ x :: y :: r) = rest ++ x :: { y with mu := false } :: r := by
  rw [frzL_app, frzL_out _ _ rest (fun k hk => by rw [List.mem_singleton.1 hk]; omega), frzL_cons, frzL_cons, frzL_out _ _ r (fun k hk => by rw [List.mem_singleton.1 hk]; omega)]
  have c1 : [rest.length + 1 + 1 + 1 + 1 + 1].contains (4 + rest.length) = false := by simp; omega
  have c2 : [rest.length + 1 + 1 + 1 + 1 + 1].contains (4 + rest.length + 1) = true := by simp; omega
  rw [c1, c2]
  simp
end Go.Proofs.YtfoipbjhaiimlaaDoor
