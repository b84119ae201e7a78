import Derived.Test.YtfoipbjhaiimlaaDoorAmE
/-
  Conditions put together by hand: pieces of a code, a region whose order leaves a choice, a function out of them. Own work; no program in sight.
-/
namespace Go.Proofs.YtfoipbjhaiimlaaDoor
open Go.RowKit

section
variable {C : Ctx} {N h0 : Nat}

theorem AW_seq {a b : Code} {st : ASt} {Q : Exit → ASt → Prop} (h : AW C N h0 a st (goOn (fun st' => AW C N h0 b st' Q) Q)) : AW C N h0 (.seq a b) st Q := fun X w0 β0 H0 x w hl hr => by
  refine wp_seq (Code.wp_mono (fun ex a' w' ⟨st', hq, hr'⟩ => ?_) (h X w0 β0 H0 x w hl hr))
  cases ex with
  | normal => exact hq X w0 β0 H0 a' w' hl hr'
  | _ => exact ⟨st', hq, hr'⟩
theorem AW_block {id : Nat} {b : Code} {st : ASt} {Q : Exit → ASt → Prop} (h : AW C N h0 b st (outOf id Q)) : AW C N h0 (.block id b) st Q := fun X w0 β0 H0 x w hl hr => by
  refine wp_block (Code.wp_mono (fun ex a' w' ⟨st', hq, hr'⟩ => ?_) (h X w0 β0 H0 x w hl hr))
  cases ex with
  | exit j =>
    simp only [Exit.inBlock, outOf] at hq ⊢
    split
    · rename_i e; rw [if_pos e] at hq; exact ⟨st', hq, hr'⟩
    · rename_i e; rw [if_neg e] at hq; exact ⟨st', hq, hr'⟩
  | _ => exact ⟨st', hq, hr'⟩

/-- A loop whose round is given as a whole. -/
theorem AW_loopW {α : Type} {body : Code} {st : ASt} {Q : Exit → ASt → Prop} (Sf : α → ASt) (pre : α → Prop) (m : α → Nat)
    (start : ∃ x, pre x ∧ Weak C N h0 st (Sf x)) (step : ∀ x, pre x → AW C N h0 body (Sf x) (round Sf pre (fun x' => m x' < m x) N h0 C Q)) : AW C N h0 (.loop body) st Q := by
  intro X w0 β0 H0 a w hl hr
  obtain ⟨x0, hx0, hw0⟩ := start
  refine wp_loop_ghost (fun n a w => ∃ x, m x = n ∧ pre x ∧ Rel C N X w0 β0 H0 (Sf x) a w) (m x0) ⟨x0, rfl, hx0, hw0 X w0 β0 H0 a w hl hr⟩ ?_
  rintro n a w ⟨x, rfl, hx, hr⟩
  refine Code.wp_mono (fun ex a' w' ⟨st', hq, hr'⟩ => ?_) (step x hx X w0 β0 H0 a w hl hr)
  cases ex with
  | normal =>
    obtain ⟨x', hx', hlt, hw⟩ := hq
    exact ⟨m x', hlt, x', rfl, hx', hw X w0 β0 H0 a' w' hl hr'⟩
  | _ => exact ⟨st', hq, hr'⟩

/-- A region that draws its order: what stands when some of its operations have run. -/
theorem AW_region (hS : SigOK C) (hM : C.P.follows .mixedOrders = true) {id : Nat} {ops : Array Oper} {st : ASt} {Q : Exit → ASt → Prop} (tbl : List (List Nat)) (htbl : (List.range ops.size).all (fun i => decide (directs (opAt ops i) = tbl.getD i [])) = true)
    (hd : (List.range ops.size).all (fun i => (match (opAt ops i).dst with | some d => decide (d < N) | none => true) && (directs (opAt ops i)).all fun d => decide (d < i)) = true)
    (I : (Nat → Bool) → ASt → Prop) (start : I (fun _ => false) st)
    (step : ∀ i o, ops.toList[i]? = some o → ∀ L st', I L st' → L i = false → (∀ d ∈ tbl.getD i [], L d = true) → aops C ops [o] st' (I (fun j => decide (j = i) || L j)))
    (fin : ∀ L st', I L st' → (∀ i, i < ops.size → L i = true) → Q .normal st') (ext : ∀ L L' st', (∀ j, L j = L' j) → I L st' → I L' st') : AW C N h0 (.region id ops true) st Q := fun X w0 β0 H0 a w hl hr => by
  have hd' : ∀ i, i < ops.size → (∀ d, (opAt ops i).dst = some d → d < N) ∧ ∀ d ∈ directs (opAt ops i), d < i := fun i hi => by
    have := List.all_eq_true.1 hd i (List.mem_range.2 hi)
    simp only [Bool.and_eq_true, List.all_eq_true, decide_eq_true_eq] at this
    refine ⟨fun d hdd => ?_, this.2⟩
    have h1 := this.1
    rw [hdd] at h1
    simpa using h1
  refine wp_region_any hM ?_
  have hr' : Rel C N X w0 β0 H0 st a { w with drawn := w.drawn + 1 } := by
    obtain ⟨β, R, S0, Tr, G, hN, hdef⟩ := hr
    have hk : Keeps (fun _ => False) w { w with drawn := w.drawn + 1 } := Keeps.drew _ w
    exact ⟨β, R.quiet hk, S0.trans (StepR.quiet hk R.len), fun t => (Tr t).keep (StepR.quiet hk R.len), fun g => (G g).keep (fun b hb hn => hk.block b hb (fun h => h)) hk.size (fun b _ h => h), hN, hdef⟩
  have ready0 : ∀ listed : Array Bool, listed.size = ops.size → Region.ready .any ops listed = [] → ∀ i, i < ops.size → listed.getD i false = true := by
    intro listed hs h i
    induction i using Nat.strongRecOn with
    | _ i ih =>
      intro hi
      cases hl : listed.getD i false with
      | true => rfl
      | false =>
        exfalso
        have : i ∈ Region.ready .any ops listed := by
          unfold Region.ready
          rw [List.mem_filter]
          refine ⟨List.mem_range.2 hi, ?_⟩
          simp only [Bool.and_eq_true, Bool.not_eq_true']
          refine ⟨?_, ?_⟩
          · rw [Array.getD_eq_getD_getElem?, Array.getElem?_eq_getElem (by omega)] at hl ⊢
            exact hl
          · rw [Array.getElem?_eq_getElem hi]
            simp only [Option.map_some, Option.getD_some]
            refine Array.all_eq_true'.2 fun e he => ?_
            cases hb : Region.binds .any e with
            | false => rfl
            | true =>
              have hdd : e.on ∈ directs (opAt ops i) := by
                unfold directs opAt
                rw [Array.getD_eq_getD_getElem?, Array.getElem?_eq_getElem hi]
                simp only [Option.getD_some, List.mem_map, List.mem_filter]
                exact ⟨e, ⟨Array.mem_toList_iff.2 he, hb⟩, rfl⟩
              have hlt := (hd' i hi).2 e.on hdd
              simp [ih e.on hlt (by omega)]
        rw [h] at this
        cases this
  have main : ∀ (fuel : Nat) (listed : Array Bool) (st : ASt) (a : Act) (w : World), listed.size = ops.size → I (fun i => listed.getD i false) st → (List.range ops.size).countP (fun i => !listed.getD i false) ≤ fuel → Rel C N X w0 β0 H0 st a w →
      wpAny C.P .any ops (fun ex a' w' => ∃ st', Q ex st' ∧ Rel C N X w0 β0 H0 st' a' w') fuel listed a w := by
    intro fuel
    induction fuel with
    | zero =>
      intro listed st a w hs hI hc hr
      have hall : ∀ i, i < ops.size → listed.getD i false = true := by
        intro i hi
        have h0 : (List.range ops.size).countP (fun i => !listed.getD i false) = 0 := by omega
        rw [List.countP_eq_zero] at h0
        have := h0 i (List.mem_range.2 hi)
        simpa using this
      refine ⟨?_, st, fin _ st hI hall, hr⟩
      cases hrd : Region.ready .any ops listed with
      | nil => rfl
      | cons i r =>
        obtain ⟨h1, h2, _⟩ := ready_spec (ops := ops) (listed := listed) (i := i) (by rw [hrd]; simp)
        have := hall i h1
        rw [Array.getD_eq_getD_getElem?, Array.getElem?_eq_getElem (by omega), Option.getD_some] at h2 this
        rw [h2] at this
        cases this
    | succ fuel ih =>
      intro listed st a w hs hI hc hr
      refine ⟨fun hnil => ⟨st, fin _ st hI (ready0 listed hs hnil), hr⟩, fun i hi => ?_⟩
      obtain ⟨hlt, hun, hdir⟩ := ready_spec hi
      have hL : listed.getD i false = false := by
        rw [Array.getD_eq_getD_getElem?, Array.getElem?_eq_getElem (by omega), Option.getD_some] at hun ⊢
        exact hun
      have htb : directs (opAt ops i) = tbl.getD i [] := by simpa using List.all_eq_true.1 htbl i (List.mem_range.2 hlt)
      have hst := step i (opAt ops i) (by unfold opAt; rw [Array.getD_eq_getD_getElem?, Array.getElem?_eq_getElem hlt]; simp [hlt]) _ st hI hL (by rw [← htb]; exact hdir)
      simp only [aops] at hst
      have hget : ops[i]? = some (opAt ops i) := by
        unfold opAt
        rw [Array.getD_eq_getD_getElem?, Array.getElem?_eq_getElem hlt]
        rfl
      have next : ∀ (st' : ASt) (a' : Act) (w' : World), I (fun j => decide (j = i) || listed.getD j false) st' → Rel C N X w0 β0 H0 st' a' w' →
          wpAny C.P .any ops (fun ex a' w' => ∃ st', Q ex st' ∧ Rel C N X w0 β0 H0 st' a' w') fuel (listed.setIfInBounds i true) a' w' := by
        intro st' a' w' hI' hr'
        have hset : ∀ j, (listed.setIfInBounds i true).getD j false = (decide (j = i) || listed.getD j false) := by
          intro j
          by_cases e : j = i
          · subst e
            simp [Array.getD_eq_getD_getElem?, show j < listed.size by omega]
          · simp [Array.getD_eq_getD_getElem?, Array.getElem?_setIfInBounds_ne (fun h => e h.symm), e]
        refine ih _ st' a' w' (by simpa using hs) (ext _ _ _ (fun j => (hset j).symm) hI') ?_ hr'
        have key : ∀ l : List Nat, i ∈ l → l.countP (fun j => !(listed.setIfInBounds i true).getD j false) + 1 ≤ l.countP (fun j => !listed.getD j false) := by
          have h0 : ∀ l : List Nat, l.countP (fun j => !(listed.setIfInBounds i true).getD j false) ≤ l.countP (fun j => !listed.getD j false) := fun l => List.countP_mono_left fun j _ hj => by
            rw [hset j] at hj
            simp only [Bool.not_eq_true', Bool.or_eq_false_iff] at hj ⊢
            exact hj.2
          intro l hl
          induction l with
          | nil => cases hl
          | cons j r ihl =>
            rw [List.countP_cons, List.countP_cons]
            by_cases e : j = i
            · subst e
              have e1 : (!(listed.setIfInBounds j true).getD j false) = false := by rw [hset j]; simp
              have e2 : (!listed.getD j false) = true := by simpa using hL
              rw [e1, e2]
              have := h0 r
              simp only [if_true, Bool.false_eq_true, if_false]
              omega
            · have := ihl (by simpa [Ne.symm e] using hl)
              have hj : (!(listed.setIfInBounds i true).getD j false) = !listed.getD j false := by rw [hset j]; simp [e]
              rw [hj]
              omega
        have := key _ (List.mem_range.2 hlt)
        omega
      obtain ⟨β, R, S0, Tr, G, hN, hdef⟩ := hr
      unfold wpOp
      rw [hget]
      simp only
      split at hst
      · exact hst.elim
      · rename_i g hg
        have hw := wantG_sound Tr hg
        rw [hw]
        cases g with
        | true =>
          rw [if_pos rfl]
          have hst := hst.1 rfl
          split at hst
          · rename_i ob v H' hcg
            refine .inl ?_
            exact astep_sound hS R Tr G hcg hst.1 fun u w' β' R' S hr => next _ _ _ hst.2 (rel_put S0 Tr G hN hdef R' S hr _ ((hd' i hlt).1))
          · exact hst.elim
        | false =>
          rw [if_neg (by simp)]
          exact next _ _ _ (hst.2 rfl) (rel_put S0 Tr G hN hdef R (StepR.refl _ _ _ R.len) rep_skip _ ((hd' i hlt).1))
  exact main ops.size (Array.replicate ops.size false) st a _ (by simp) (ext _ _ _ (fun j => by
    rw [Array.getD_eq_getD_getElem?]
    rcases Nat.lt_or_ge j ops.size with h | h
    · simp [h]
    · simp [Array.getElem?_eq_none (show (Array.replicate ops.size false).size ≤ j by simpa using h)]) start) (Nat.le_trans List.countP_le_length (by simp)) hr'

/-- A function out of such pieces. -/
theorem pure_of_AW {f : FuncId} {fn : Func} {body : Code} {rs : List ResultVar} {n : Nat} (hf : C.P.funcs[f]? = some fn) (hb : fn.body = some body) (hrs : fn.results.toList = rs) (hn : fn.ntmps = n) {p : List AV → Option (Prop × AV)}
    (h : ∀ avs ob r, p avs = some (ob, r) → ob → avs.length ≤ n ∧ AW C n 0 body ⟨argsρ 0 (avs.map nrmV), []⟩ (postP C rs r)) : PureOK C.P C.G f p := by
  subst hrs hn
  intro w X args avs0 ob r hX hG hsz0 harg0 hp hob
  obtain ⟨hlen0, hav0⟩ := h avs0 ob r hp hob
  generalize havs : avs0.map nrmV = avs at hav0
  have hlen : avs.length ≤ fn.ntmps := by rw [← havs]; simpa using hlen0
  have hsz : args.size = avs.length := by rw [← havs]; simpa using hsz0
  have harg : ∀ (j : Nat) (u : AV), avs[j]? = some u → ∃ v, args[j]? = some v ∧ RepD w X v u := fun j u hu => by
    rw [← havs, List.getElem?_map] at hu
    simp only [Option.map_eq_some_iff] at hu
    obtain ⟨av, hav, rfl⟩ := hu
    obtain ⟨v, h1, h2⟩ := harg0 j av hav
    exact ⟨v, h1, repD_nrmV h2⟩
  refine calls_of_wp hf hb ?_
  have hMu : ∀ b, Mu X [] [] b → X b := by
    rintro b (h | ⟨l, c, blk, h1, _, _⟩)
    · exact h
    · simp at h1
  have R : HRel w X [] [] := ⟨rfl, fun l bi b h1 _ => by simp at h1, fun l b c h1 => by simp at h1, fun l l' b c c' h1 => by simp at h1, hX⟩
  have hr : Rel C fn.ntmps X w [] [] ⟨argsρ 0 avs, []⟩ { tmps := args ++ Array.replicate (fn.ntmps - args.size) undef, defers := [] } w :=
    ⟨[], R, StepR.refl _ _ _ rfl, trel_args hsz (fun j u hj => let ⟨v, h1, h2⟩ := harg j u hj; ⟨v, h1, .deep (h2.mono fun b _ hb => hMu b hb)⟩), fun g => (hG g).mono fun b _ hb => hMu b hb, by simp; omega, rfl⟩
  refine Code.wp_mono (fun ex a' w' ⟨st', hq, hr'⟩ => ?_) (hav0 X w [] [] _ w rfl hr)
  have fin : finP C fn.results.toList r st' → bodyPost C.P fn (fun e w' => ∃ v, e = .returned v ∧ Keeps (fun _ => False) w w' ∧ RepD w' X v r) .normal a' w' := by
    unfold finP
    split
    · rename_i ob' r' hres
      rintro ⟨hob', hview⟩
      obtain ⟨β', R', S', T', G', hN', hdef'⟩ := hr'
      obtain ⟨u, hu, hrep⟩ := aresults_sound R' T' hres hob'
      have hv := (view_sound R' (fun _ => True) 6 hrep (fun _ _ => trivial)).mono (X' := X) fun b _ hb => .inl hb
      have hv := repD_nrmV hv
      rw [hview] at hv
      exact ⟨hdef', u, hu, u, rfl, S'.keeps.weaken (fun b _ h => by obtain ⟨l, c, blk, h1, _, _⟩ := h; simp at h1), hv⟩
    · intro h; exact h.elim
  cases ex with
  | normal => exact fin hq
  | ret => exact fin hq
  | _ => exact hq.elim

theorem pure2W {α β : Type} [Enc α] [Enc β] {f : FuncId} {fn : Func} {body : Code} {rs : List ResultVar} {n : Nat} (hf : C.P.funcs[f]? = some fn) (hb : fn.body = some body) (hrs : fn.results.toList = rs) (hn : fn.ntmps = n) (hnn : 2 ≤ n) {pre : α → β → Prop} {res : α → β → AV} (h : ∀ a b, pre a b → AW C n 0 body ⟨[(0, Enc.enc a), (1, Enc.enc b)], []⟩ (postP C rs (res a b))) : PureOK C.P C.G f (spec2 pre res) :=
  pure_of_AW hf hb hrs hn fun avs ob r' hp hob => by
    unfold spec2 at hp
    split at hp
    · injection hp with hp; injection hp with e1 e2; subst e1 e2
      refine ⟨hnn, ?_⟩
      have := h _ _ hob.2.2
      rw [← hob.1, ← hob.2.1] at this
      exact this
    · cases hp
end
end Go.Proofs.YtfoipbjhaiimlaaDoor

/-
  A region that draws its order, where some reads stand free of some effects: every read is looked at anew at each heap that may stand when it runs. Own work; no program in sight.
-/
namespace Go.Proofs.YtfoipbjhaiimlaaDoor
open Go.RowKit
set_option linter.unusedVariables false

section
variable {C : Ctx} {N h0 : Nat}

/-- It gives the same there. -/
def stableD (C : Ctx) (st : ASt) (o : Oper) (v : AV) : Prop := thenD (astep C st o) fun ob v' _ => v' = v ∧ ob
structure RdE where
  i : Nat
  o : Oper
  ρ : List (Nat × AV)
  v : AV
def chkR (C : Ctx) (o : Oper) (v : AV) (ρ : List (Nat × AV)) (bs : List Nat) : List (Nat × List Blk) → Prop
  | [] => True
  | (e, He) :: r => (bs.contains e = true ∨ stableD C ⟨ρ, He⟩ o v) ∧ chkR C o v ρ bs r
def chkE (C : Ctx) (H : List Blk) (bs : List Nat) : List RdE → Prop
  | [] => True
  | p :: r => (bs.contains p.i = true ∨ stableD C ⟨p.ρ, H⟩ p.o p.v) ∧ chkE C H bs r
def aopsF (C : Ctx) (ops : Array Oper) : Nat → List Oper → List Kd → List (List Nat) → List (Nat × List Blk) → List RdE → ASt → (ASt → Prop) → Prop
  | _, [], _, _, _, _, st, K => K st
  | i, o :: r, .pure :: ks, d :: ds, hist, rd, st, K => thenG (wantG ops st.ρ o) fun g => both g (thenD (astep C st o) fun ob v H' => ob ∧ aopsF C ops (i + 1) r ks ds hist rd ⟨putA st.ρ o.dst v, H'⟩ K) (aopsF C ops (i + 1) r ks ds hist rd ⟨putA st.ρ o.dst (.tup []), st.H⟩ K)
  | i, o :: r, .read :: ks, d :: ds, hist, rd, st, K => thenG (wantG ops st.ρ o) fun g => both g (thenD (astep C st o) fun ob v H' => ob ∧ chkR C o v st.ρ d hist ∧ aopsF C ops (i + 1) r ks ds hist (⟨i, o, st.ρ, v⟩ :: rd) ⟨putA st.ρ o.dst v, H'⟩ K) (aopsF C ops (i + 1) r ks ds hist rd ⟨putA st.ρ o.dst (.tup []), st.H⟩ K)
  | i, o :: r, .eff :: ks, d :: ds, hist, rd, st, K => thenG (wantG ops st.ρ o) fun g => both g (thenD (astep C st o) fun ob v H' => ob ∧ chkE C H' d rd ∧ aopsF C ops (i + 1) r ks ds ((i, st.H) :: hist) rd ⟨putA st.ρ o.dst v, H'⟩ K) (aopsF C ops (i + 1) r ks ds hist rd ⟨putA st.ρ o.dst (.tup []), st.H⟩ K)
  | _, _ :: _, _, _, _, _, _, _ => False
@[congr] theorem stableD_congr {C : Ctx} {st st' : ASt} {o : Oper} {v : AV} (h : mark st = st') : stableD C st o v = stableD C st' o v := by rw [mark_eq] at h; rw [h]
@[congr] theorem chkR_congr {C : Ctx} {o : Oper} {v : AV} {ρ : List (Nat × AV)} {bs : List Nat} {l l' : List (Nat × List Blk)} (h : mark l = l') : chkR C o v ρ bs l = chkR C o v ρ bs l' := by rw [mark_eq] at h; rw [h]
@[congr] theorem chkE_congr {C : Ctx} {H : List Blk} {bs : List Nat} {l l' : List RdE} (h : mark l = l') : chkE C H bs l = chkE C H bs l' := by rw [mark_eq] at h; rw [h]
@[congr] theorem aopsF_congr {C : Ctx} {ops : Array Oper} {i : Nat} {l : List Oper} {ks : List Kd} {ds : List (List Nat)} {hist : List (Nat × List Blk)} {rd : List RdE} {st st' : ASt} {K : ASt → Prop} (h : mark st = st') : aopsF C ops i l ks ds hist rd st K = aopsF C ops i l ks ds hist rd st' K := by rw [mark_eq] at h; rw [h]
@[simp] theorem stableD_eq (st : ASt) (o : Oper) (v : AV) : stableD C st o v = thenD (astep C st o) fun ob v' _ => v' = v ∧ ob := rfl
@[simp] theorem chkR_nil (o : Oper) (v : AV) (ρ : List (Nat × AV)) (bs : List Nat) : chkR C o v ρ bs [] = True := rfl
@[simp] theorem chkR_cons (o : Oper) (v : AV) (ρ : List (Nat × AV)) (bs : List Nat) (e : Nat) (He : List Blk) (r : List (Nat × List Blk)) : chkR C o v ρ bs ((e, He) :: r) = ((bs.contains e = true ∨ stableD C ⟨ρ, He⟩ o v) ∧ chkR C o v ρ bs r) := rfl
@[simp] theorem chkE_nil (H : List Blk) (bs : List Nat) : chkE C H bs [] = True := rfl
@[simp] theorem chkE_cons (H : List Blk) (bs : List Nat) (i : Nat) (o : Oper) (ρ : List (Nat × AV)) (v : AV) (r : List RdE) : chkE C H bs (⟨i, o, ρ, v⟩ :: r) = ((bs.contains i = true ∨ stableD C ⟨ρ, H⟩ o v) ∧ chkE C H bs r) := rfl
@[simp] theorem aopsF_nil (ops : Array Oper) (i : Nat) (ks : List Kd) (ds : List (List Nat)) (hist : List (Nat × List Blk)) (rd : List RdE) (st : ASt) (K : ASt → Prop) : aopsF C ops i [] ks ds hist rd st K = K st := by rw [aopsF]
@[simp] theorem aopsF_pure (ops : Array Oper) (i : Nat) (o : Oper) (r : List Oper) (ks : List Kd) (d : List Nat) (ds : List (List Nat)) (hist : List (Nat × List Blk)) (rd : List RdE) (st : ASt) (K : ASt → Prop) : aopsF C ops i (o :: r) (.pure :: ks) (d :: ds) hist rd st K = thenG (wantG ops st.ρ o) fun g => both g (thenD (astep C st o) fun ob v H' => ob ∧ aopsF C ops (i + 1) r ks ds hist rd ⟨putA st.ρ o.dst v, H'⟩ K) (aopsF C ops (i + 1) r ks ds hist rd ⟨putA st.ρ o.dst (.tup []), st.H⟩ K) := by rw [aopsF]
@[simp] theorem aopsF_read (ops : Array Oper) (i : Nat) (o : Oper) (r : List Oper) (ks : List Kd) (d : List Nat) (ds : List (List Nat)) (hist : List (Nat × List Blk)) (rd : List RdE) (st : ASt) (K : ASt → Prop) : aopsF C ops i (o :: r) (.read :: ks) (d :: ds) hist rd st K = thenG (wantG ops st.ρ o) fun g => both g (thenD (astep C st o) fun ob v H' => ob ∧ chkR C o v st.ρ d hist ∧ aopsF C ops (i + 1) r ks ds hist (⟨i, o, st.ρ, v⟩ :: rd) ⟨putA st.ρ o.dst v, H'⟩ K) (aopsF C ops (i + 1) r ks ds hist rd ⟨putA st.ρ o.dst (.tup []), st.H⟩ K) := by rw [aopsF]
@[simp] theorem aopsF_eff (ops : Array Oper) (i : Nat) (o : Oper) (r : List Oper) (ks : List Kd) (d : List Nat) (ds : List (List Nat)) (hist : List (Nat × List Blk)) (rd : List RdE) (st : ASt) (K : ASt → Prop) : aopsF C ops i (o :: r) (.eff :: ks) (d :: ds) hist rd st K = thenG (wantG ops st.ρ o) fun g => both g (thenD (astep C st o) fun ob v H' => ob ∧ chkE C H' d rd ∧ aopsF C ops (i + 1) r ks ds ((i, st.H) :: hist) rd ⟨putA st.ρ o.dst v, H'⟩ K) (aopsF C ops (i + 1) r ks ds hist rd ⟨putA st.ρ o.dst (.tup []), st.H⟩ K) := by rw [aopsF]

theorem chkR_all {o : Oper} {v : AV} {ρ : List (Nat × AV)} {bs : List Nat} : ∀ {l : List (Nat × List Blk)}, chkR C o v ρ bs l → ∀ p ∈ l, p.1 ∉ bs → stableD C ⟨ρ, p.2⟩ o v
  | [], _, p, hp => by cases hp
  | (e, He) :: r, h, p, hp => fun hn => by
    rw [chkR_cons] at h
    rcases List.mem_cons.1 hp with rfl | hp
    · exact h.1.resolve_left fun h2 => hn (List.contains_iff_mem.1 h2)
    · exact chkR_all h.2 p hp hn
theorem chkE_all {H : List Blk} {bs : List Nat} : ∀ {l : List RdE}, chkE C H bs l → ∀ p ∈ l, p.i ∉ bs → stableD C ⟨p.ρ, H⟩ p.o p.v
  | [], _, p, hp => by cases hp
  | q :: r, h, p, hp => fun hn => by
    unfold chkE at h
    rcases List.mem_cons.1 hp with rfl | hp
    · exact h.1.resolve_left fun h2 => hn (List.contains_iff_mem.1 h2)
    · exact chkE_all h.2 p hp hn

/-- What the checked run says of its trace. -/
structure TrF (C : Ctx) (ops : Array Oper) (B : Nat → List Nat) (k : Nat) (hist : List (Nat × List Blk)) (rd : List RdE) (v : Nat → AV) (ρ : Nat → List (Nat × AV)) (H : Nat → List Blk) : Prop where
  a : ∀ j, k ≤ j → j < ops.size → kindOf C (opAt ops j) = .read → wantG ops (ρ j) (opAt ops j) = some true → ∀ p ∈ hist, p.1 ∉ B j → stableD C ⟨ρ j, p.2⟩ (opAt ops j) (v j)
  b : ∀ j, k ≤ j → j < ops.size → kindOf C (opAt ops j) = .eff → wantG ops (ρ j) (opAt ops j) = some true → ∀ p ∈ rd, p.i ∉ B j → stableD C ⟨p.ρ, H (j + 1)⟩ p.o p.v
  c : ∀ e j, k ≤ e → e < j → j < ops.size → kindOf C (opAt ops e) = .eff → wantG ops (ρ e) (opAt ops e) = some true → kindOf C (opAt ops j) = .read → wantG ops (ρ j) (opAt ops j) = some true → e ∉ B j → stableD C ⟨ρ j, H e⟩ (opAt ops j) (v j)
  d : ∀ j e, k ≤ j → j < e → e < ops.size → kindOf C (opAt ops j) = .read → wantG ops (ρ j) (opAt ops j) = some true → kindOf C (opAt ops e) = .eff → wantG ops (ρ e) (opAt ops e) = some true → j ∉ B e → stableD C ⟨ρ j, H (e + 1)⟩ (opAt ops j) (v j)

theorem aopsF_trace {ops : Array Oper} {B : Nat → List Nat} : ∀ (l : List Oper) (ks : List Kd) (ds : List (List Nat)) (k : Nat) (hist : List (Nat × List Blk)) (rd : List RdE) (st : ASt) (K : ASt → Prop), (∀ j : Nat, l[j]? = ops[k + j]?) → (∀ (j : Nat) (x : Kd), ks[j]? = some x → k + j < ops.size → kindOf C (opAt ops (k + j)) = x) → (∀ (j : Nat) (x : List Nat), ds[j]? = some x → B (k + j) = x) → k ≤ ops.size → aopsF C ops k l ks ds hist rd st K →
    ∃ v ρ H, Trace C ops k st v ρ H ∧ TrF C ops B k hist rd v ρ H ∧ K ⟨ρ ops.size, H ops.size⟩
  | [], ks, ds, k, hist, rd, st, K, hl, hks, hds, hk, h => by
    have h0 := hl 0
    simp at h0
    have : k = ops.size := by omega
    subst this
    rw [aopsF_nil] at h
    exact ⟨fun _ => .undef, fun _ => st.ρ, fun _ => st.H, ⟨rfl, rfl, fun i h1 h2 => by omega⟩, ⟨fun j h1 h2 => by omega, fun j h1 h2 => by omega, fun e j h1 h2 h3 => by omega, fun e j h1 h2 h3 => by omega⟩, h⟩
  | o :: r, [], ds, k, hist, rd, st, K, hl, hks, hds, hk, h => by unfold aopsF at h; exact h.elim
  | o :: r, kd :: ks, [], k, hist, rd, st, K, hl, hks, hds, hk, h => by cases kd <;> (unfold aopsF at h; exact h.elim)
  | o :: r, kd :: ks, d :: ds, k, hist, rd, st, K, hl, hks, hds, hk, h => by
    have hl0 := hl 0
    simp only [List.getElem?_cons_zero, Nat.add_zero] at hl0
    have hlt : k < ops.size := (Array.getElem?_eq_some_iff.1 hl0.symm).1
    have ho : opAt ops k = o := by simp [opAt, Array.getD_eq_getD_getElem?, ← hl0]
    have hkd : kindOf C (opAt ops k) = kd := by have := hks 0 kd rfl (by omega); simpa using this
    have hBk : B k = d := by have := hds 0 d rfl; simpa using this
    have hl' : ∀ j : Nat, r[j]? = ops[k + 1 + j]? := fun j => by have := hl (j + 1); rwa [List.getElem?_cons_succ, show k + (j + 1) = k + 1 + j by omega] at this
    have hks' : ∀ (j : Nat) (x : Kd), ks[j]? = some x → k + 1 + j < ops.size → kindOf C (opAt ops (k + 1 + j)) = x := fun j x hx hj => by have := hks (j + 1) x (by simpa using hx) (by omega); rwa [show k + (j + 1) = k + 1 + j by omega] at this
    have hds' : ∀ (j : Nat) (x : List Nat), ds[j]? = some x → B (k + 1 + j) = x := fun j x hx => by have := hds (j + 1) x (by simpa using hx); rwa [show k + (j + 1) = k + 1 + j by omega] at this
    -- the rest, put behind this operation
    have fin : ∀ (g : Bool) (vk : AV) (Hk : List Blk) (hist' : List (Nat × List Blk)) (rd' : List RdE), wantG ops st.ρ o = some g → ((g = true → ∃ ob, astep C ⟨st.ρ, st.H⟩ o = some (ob, vk, Hk) ∧ ob) ∧ (g = false → vk = .tup [] ∧ Hk = st.H)) →
        (g = true → kd = .read → ∀ p ∈ hist, p.1 ∉ d → stableD C ⟨st.ρ, p.2⟩ o vk) → (g = true → kd = .eff → ∀ p ∈ rd, p.i ∉ d → stableD C ⟨p.ρ, Hk⟩ p.o p.v) →
        (∀ p ∈ hist, p ∈ hist') → (∀ p ∈ rd, p ∈ rd') → (g = true → kd = .eff → (k, st.H) ∈ hist') → (g = true → kd = .read → (⟨k, o, st.ρ, vk⟩ : RdE) ∈ rd') →
        aopsF C ops (k + 1) r ks ds hist' rd' ⟨putA st.ρ o.dst vk, Hk⟩ K → ∃ v ρ H, Trace C ops k st v ρ H ∧ TrF C ops B k hist rd v ρ H ∧ K ⟨ρ ops.size, H ops.size⟩ := by
      intro g vk Hk hist' rd' hg hst hcr hce hih hird hpe hpr hr
      obtain ⟨v, ρ, H, hT, hF, hK⟩ := aopsF_trace r ks ds (k + 1) hist' rd' _ K hl' hks' hds' (by omega) hr
      have hH1 : H (k + 1) = Hk := hT.H0
      have hgw : ∀ g', wantG ops st.ρ o = some g' → g' = g := fun g' h => by rw [hg] at h; injection h with h; exact h.symm
      refine ⟨fun i => if i = k then vk else v i, fun i => if i = k then st.ρ else ρ i, fun i => if i = k then st.H else H i, ⟨by simp, by simp, fun i h1 h2 => ?_⟩, ⟨fun j h1 h2 h3 h4 p hp hn => ?_, fun j h1 h2 h3 h4 p hp hn => ?_, fun e j h1 h2 h3 h4 h5 h6 h7 h8 => ?_, fun j e h1 h2 h3 h4 h5 h6 h7 h8 => ?_⟩, ?_⟩
      · by_cases e : i = k
        · subst e
          refine ⟨g, by rw [ho, if_pos rfl]; exact hg, fun hgt => ?_, fun hgf => ?_, ?_⟩
          · simp only [if_true, ho, Nat.succ_ne_self, if_false, hT.H0]
            exact hst.1 hgt
          · simp only [if_true, Nat.succ_ne_self, if_false, hT.H0]
            exact hst.2 hgf
          · simp only [if_true, ho, Nat.succ_ne_self, if_false, hT.ρ0]
        · have := hT.step i (by omega) h2
          simp only [e, if_false, show ¬ i + 1 = k by omega]
          exact this
      · by_cases e : j = k
        · subst e
          simp only [if_true, ho] at h3 h4 ⊢
          have hg1 := hgw _ h4
          rw [ho] at hkd
          exact hcr hg1.symm (by rw [← hkd]; exact h3) p hp (by rw [← hBk]; exact hn)
        · simp only [e, if_false] at h4 ⊢
          exact hF.a j (by omega) h2 h3 h4 p (hih p hp) hn
      · by_cases e : j = k
        · subst e
          simp only [if_true, ho] at h3 h4
          have hg1 := hgw _ h4
          rw [ho] at hkd
          simp only [Nat.succ_ne_self, if_false, hH1]
          exact hce hg1.symm (by rw [← hkd]; exact h3) p hp (by rw [← hBk]; exact hn)
        · simp only [e, if_false] at h4
          simp only [show ¬ j + 1 = k by omega, if_false]
          exact hF.b j (by omega) h2 h3 h4 p (hird p hp) hn
      · have ej : ¬ j = k := by omega
        simp only [ej, if_false] at h7 ⊢
        by_cases e' : e = k
        · subst e'
          simp only [if_true, ho] at h4 h5 ⊢
          have hg1 := hgw _ h5
          rw [ho] at hkd
          exact hF.a j (by omega) h3 h6 h7 (e, st.H) (hpe hg1.symm (by rw [← hkd]; exact h4)) h8
        · simp only [e', if_false] at h5 ⊢
          exact hF.c e j (by omega) h2 h3 h4 h5 h6 h7 h8
      · have ee : ¬ e = k := by omega
        have ee1 : ¬ e + 1 = k := by omega
        simp only [ee, ee1, if_false] at h7 ⊢
        by_cases e' : j = k
        · subst e'
          simp only [if_true, ho] at h4 h5 ⊢
          have hg1 := hgw _ h5
          rw [ho] at hkd
          exact hF.b e (by omega) h3 h6 h7 ⟨j, o, st.ρ, vk⟩ (hpr hg1.symm (by rw [← hkd]; exact h4)) h8
        · simp only [e', if_false] at h5 ⊢
          exact hF.d j e (by omega) h2 h3 h4 h5 h6 h7 h8
      · have e : ¬ ops.size = k := by omega
        simpa only [e, if_false] using hK
    have mem1 : ∀ {α : Type} {x : α} {l : List α}, ∀ p ∈ l, p ∈ x :: l := fun p hp => List.mem_cons_of_mem _ hp
    cases kd with
    | pure =>
      rw [aopsF_pure] at h
      cases hg : wantG ops st.ρ o with
      | none => rw [hg] at h; exact h.elim
      | some g =>
        rw [hg] at h
        simp only [thenG_some] at h
        cases g with
        | true =>
          simp only [both_true] at h
          cases hs : astep C st o with
          | none => rw [hs] at h; exact h.elim
          | some q =>
            obtain ⟨ob, vk, Hk⟩ := q
            rw [hs] at h
            exact fin true vk Hk hist rd hg ⟨fun _ => ⟨ob, hs, h.1⟩, fun h => by cases h⟩ (fun _ h => by cases h) (fun _ h => by cases h) (fun _ h => h) (fun _ h => h) (fun _ h => by cases h) (fun _ h => by cases h) h.2
        | false =>
          simp only [both_false] at h
          exact fin false (.tup []) st.H hist rd hg ⟨fun h => (by cases h), fun _ => ⟨rfl, rfl⟩⟩ (fun h => by cases h) (fun h => by cases h) (fun _ h => h) (fun _ h => h) (fun h => by cases h) (fun h => by cases h) h
    | read =>
      rw [aopsF_read] at h
      cases hg : wantG ops st.ρ o with
      | none => rw [hg] at h; exact h.elim
      | some g =>
        rw [hg] at h
        simp only [thenG_some] at h
        cases g with
        | true =>
          simp only [both_true] at h
          cases hs : astep C st o with
          | none => rw [hs] at h; exact h.elim
          | some q =>
            obtain ⟨ob, vk, Hk⟩ := q
            rw [hs] at h
            exact fin true vk Hk hist _ hg ⟨fun _ => ⟨ob, hs, h.1⟩, fun h => by cases h⟩ (fun _ _ => chkR_all h.2.1) (fun _ h => by cases h) (fun _ h => h) mem1 (fun _ h => by cases h) (fun _ _ => by simp) h.2.2
        | false =>
          simp only [both_false] at h
          exact fin false (.tup []) st.H hist rd hg ⟨fun h => (by cases h), fun _ => ⟨rfl, rfl⟩⟩ (fun h => by cases h) (fun h => by cases h) (fun _ h => h) (fun _ h => h) (fun h => by cases h) (fun h => by cases h) h
    | eff =>
      rw [aopsF_eff] at h
      cases hg : wantG ops st.ρ o with
      | none => rw [hg] at h; exact h.elim
      | some g =>
        rw [hg] at h
        simp only [thenG_some] at h
        cases g with
        | true =>
          simp only [both_true] at h
          cases hs : astep C st o with
          | none => rw [hs] at h; exact h.elim
          | some q =>
            obtain ⟨ob, vk, Hk⟩ := q
            rw [hs] at h
            exact fin true vk Hk _ rd hg ⟨fun _ => ⟨ob, hs, h.1⟩, fun h => by cases h⟩ (fun _ h => by cases h) (fun _ _ => chkE_all h.2.1) mem1 (fun _ h => h) (fun _ _ => by simp) (fun _ h => by cases h) h.2.2
        | false =>
          simp only [both_false] at h
          exact fin false (.tup []) st.H hist rd hg ⟨fun h => (by cases h), fun _ => ⟨rfl, rfl⟩⟩ (fun h => by cases h) (fun h => by cases h) (fun _ h => h) (fun _ h => h) (fun h => by cases h) (fun h => by cases h) h

section
variable {ops : Array Oper} {B : Nat → List Nat} {st : ASt} {v : Nat → AV} {ρ : Nat → List (Nat × AV)} {H : Nat → List Blk}

theorem heap_quiet (T : Trace C ops 0 st v ρ H) {i : Nat} (hi : i < ops.size) (h : ¬ (kindOf C (opAt ops i) = .eff ∧ wantG ops (ρ i) (opAt ops i) = some true)) : H (i + 1) = H i := by
  obtain ⟨g, hg, hst, hsk, _⟩ := T.step i (Nat.zero_le _) hi
  cases g with
  | false => exact (hsk rfl).2
  | true => exact tr_const1 T hi (by
      unfold isEff
      cases hk : kindOf C (opAt ops i) with
      | eff => exact absurd ⟨hk, hg⟩ h
      | _ => rfl)
theorem heap_fwd (T : Trace C ops 0 st v ρ H) : ∀ d k, k + d ≤ ops.size → H k = H (k + d) ∨ ∃ e, k ≤ e ∧ e < k + d ∧ kindOf C (opAt ops e) = .eff ∧ wantG ops (ρ e) (opAt ops e) = some true ∧ H k = H e
  | 0, k, _ => .inl rfl
  | d + 1, k, hk => by
    by_cases h : kindOf C (opAt ops k) = .eff ∧ wantG ops (ρ k) (opAt ops k) = some true
    · exact .inr ⟨k, Nat.le_refl _, by omega, h.1, h.2, rfl⟩
    · have h1 := heap_quiet T (by omega) h
      rcases heap_fwd T d (k + 1) (by omega) with h2 | ⟨e, h2, h3, h4, h5, h6⟩
      · left; rw [← h1, h2]; congr 1; omega
      · exact .inr ⟨e, by omega, by omega, h4, h5, by rw [← h1, h6]⟩
theorem heap_bwd (T : Trace C ops 0 st v ρ H) : ∀ d i, i + d ≤ ops.size → H (i + d) = H i ∨ ∃ e, i ≤ e ∧ e < i + d ∧ kindOf C (opAt ops e) = .eff ∧ wantG ops (ρ e) (opAt ops e) = some true ∧ H (i + d) = H (e + 1)
  | 0, i, _ => .inl rfl
  | d + 1, i, hi => by
    by_cases h : kindOf C (opAt ops (i + d)) = .eff ∧ wantG ops (ρ (i + d)) (opAt ops (i + d)) = some true
    · exact .inr ⟨i + d, by omega, by omega, h.1, h.2, rfl⟩
    · have h1 := heap_quiet T (i := i + d) (by omega) h
      rw [show i + (d + 1) = i + d + 1 by omega, h1]
      rcases heap_bwd T d i (by omega) with h2 | ⟨e, h2, h3, h4, h5, h6⟩
      · exact .inl h2
      · exact .inr ⟨e, by omega, by omega, h4, h5, h6⟩

theorem stable_trF (T : Trace C ops 0 st v ρ H) (F : TrF C ops B 0 [] [] v ρ H) : Stable C ops B v ρ H := by
  intro i k hi hk hkd hg h1 h2
  have use : ∀ H', H k = H' → stableD C ⟨ρ i, H'⟩ (opAt ops i) (v i) → ∃ ob, astep C ⟨ρ i, H k⟩ (opAt ops i) = some (ob, v i, H k) ∧ ob := by
    intro H' e h
    subst e
    unfold stableD thenD at h
    split at h
    · rename_i ob v' H' hst
      obtain ⟨rfl, hob⟩ := h
      have := astep_read hkd hst
      subst this
      exact ⟨ob, hst, hob⟩
    · exact h.elim
  have own : stableD C ⟨ρ i, H i⟩ (opAt ops i) (v i) := by
    obtain ⟨g, hg', hst, _, _⟩ := T.step i (Nat.zero_le _) hi
    rw [hg] at hg'; injection hg' with hg'; subst hg'
    obtain ⟨ob, hst, hob⟩ := hst rfl
    unfold stableD thenD
    rw [hst]
    exact ⟨rfl, hob⟩
  rcases Nat.le_total k i with hki | hki
  · rcases heap_fwd T (i - k) k (by omega) with h | ⟨e, e1, e2, e3, e4, e5⟩
    · exact use (H i) (by rw [h]; congr 1; omega) own
    · refine use (H e) e5 (F.c e i (Nat.zero_le _) (by omega) hi e3 e4 hkd hg fun hm => ?_)
      have := h1 e (by omega) (by simp [isEff, e3]) hm
      omega
  · rcases heap_bwd T (k - i) i (by omega) with h | ⟨e, e1, e2, e3, e4, e5⟩
    · exact use (H i) (by rw [← h]; congr 1; omega) own
    · have hne : e ≠ i := fun h => by subst h; rw [hkd] at e3; cases e3
      refine use (H (e + 1)) (by rw [← e5]; congr 1; omega) (F.d i e (Nat.zero_le _) (by omega) (by omega) hkd hg e3 e4 fun hm => ?_)
      have := h2 e (by omega) (by simp [isEff, e3]) hm
      omega
end

def kinds (C : Ctx) (ops : Array Oper) : List Kd := ops.toList.map (kindOf C)
/-- A region that draws its order, checked so. -/
theorem AW_regionF (hS : SigOK C) (hM : C.P.follows .mixedOrders = true) {id : Nat} {l : List Oper} {st : ASt} {Q : Exit → ASt → Prop} (ks : List Kd) (ds : List (List Nat)) (hks : kinds C l.toArray = ks) (hds : befT l [] = ds) (hok : regOKF C l.toArray = true) (hdd : (l.all fun o => match o.dst with | some d => decide (d < N) | none => true) = true)
    (h : aopsF C l.toArray 0 l ks ds [] [] st (Q .normal)) : AW C N h0 (.region id l.toArray true) st Q := fun X w0 β0 H0 a w hl hr => by
  generalize hops : l.toArray = ops at *
  have hlo : ops.toList = l := by rw [← hops]
  have hd : ∀ o ∈ ops.toList, ∀ d, o.dst = some d → d < N := by
    intro o ho d hd
    rw [hlo] at ho
    have := List.all_eq_true.1 hdd o ho
    rw [hd] at this
    simpa using this
  have F := regOKF_facts hok
  rw [hlo, hds] at F
  obtain ⟨v, ρ, H, T, hF, hK⟩ := aopsF_trace (B := fun i => ds.getD i []) l ks ds 0 [] [] st (Q .normal) (fun j => by rw [← hlo]; simp) (fun j x hx hj => by
    rw [← hks] at hx
    unfold kinds at hx
    rw [List.getElem?_map, Option.map_eq_some_iff] at hx
    obtain ⟨o, ho, rfl⟩ := hx
    have : opAt ops (0 + j) = o := by
      unfold opAt
      rw [Nat.zero_add, Array.getD_eq_getD_getElem?]
      rw [Array.getElem?_toList] at ho
      rw [ho]; rfl
    rw [this]) (fun j x hx => by simp [List.getD_eq_getElem?_getD, hx]) (Nat.zero_le _) h
  refine wp_region_any hM ?_
  obtain ⟨β, R, S0, Tr, G, hN, hdef⟩ := hr
  have hk : Keeps (fun _ => False) w { w with drawn := w.drawn + 1 } := Keeps.drew _ w
  have hr' : Rel C N X w0 β0 H0 ⟨st.ρ, st.H⟩ a { w with drawn := w.drawn + 1 } :=
    ⟨β, R.quiet hk, S0.trans (StepR.quiet hk R.len), fun t => (Tr t).keep (StepR.quiet hk R.len), fun g => (G g).keep (fun b hb hn => hk.block b hb (fun h => h)) hk.size (fun b _ h => h), hN, hdef⟩
  refine wpAny_of_trace hS (fun i hi d hd' => ?_) T F (stable_trF T hF) (fun a' w' hr => ⟨_, hK, hr⟩) ops.size (Array.replicate ops.size false) st.ρ st.H a _ (by simp) ?_ (Nat.le_trans List.countP_le_length (by simp)) hr'
  · refine hd (opAt ops i) ?_ d hd'
    unfold opAt
    rw [Array.getD_eq_getD_getElem?, Array.getElem?_eq_getElem hi]
    exact Array.mem_toList_iff.2 (Array.getElem_mem hi)
  · have hno : ∀ i, ¬ ((Array.replicate ops.size false).getD i false = true) := by
      intro i
      rw [Array.getD_eq_getD_getElem?]
      rcases Nat.lt_or_ge i ops.size with h | h
      · simp [h]
      · simp [Array.getElem?_eq_none (show (Array.replicate ops.size false).size ≤ i by simpa using h)]
    refine ⟨fun i _ h => absurd h (hno i), fun i _ h => absurd h (hno i), fun t _ => by rw [T.ρ0], fun k hk hsep => ?_⟩
    rw [← T.H0]
    refine tr_sep T (Nat.zero_le _) hk fun e he1 he2 => ⟨fun h => by omega, fun h => absurd ((hsep e he1 he2).2 h) (hno e)⟩
end
end Go.Proofs.YtfoipbjhaiimlaaDoor

/-
  A function that only makes blocks: what it leaves, told apart from the caller's blocks. Own work; no program in sight.
-/
namespace Go.Proofs.YtfoipbjhaiimlaaDoor
open Go.RowKit
set_option linter.unusedVariables false

/-- The same with the blocks under other numbers. -/
def ren1 (s : Nat → Nat) : AV → AV
  | .own l n => .own (s l) n
  | .osl l n z o k => .osl (s l) n z o k
  | .ptr l n z i f => .ptr (s l) n z i f
  | v => v
def ren2 (s : Nat → Nat) : AV → AV
  | .agg cs => .agg (cs.map (ren1 s))
  | v => ren1 s v
def ren (s : Nat → Nat) : AV → AV
  | .tup vs => .tup (vs.map (ren2 s))
  | v => ren2 s v
def renB (s : Nat → Nat) (b : Blk) : Blk := { b with rows := b.rows.map fun r => r.map (ren1 s) }
/-- Cells only, closures with deep captures. -/
def okB (m : Nat) (b : Blk) : Bool := b.rows.all fun r => r.all fun c => c.clean1 m
def ok2 (m : Nat) : AV → Bool
  | .agg cs => cs.all (AV.clean1 m)
  | v => v.clean1 m
def okR (m : Nat) : AV → Bool
  | .tup vs => vs.all (ok2 m)
  | v => ok2 m v

theorem ren1_deep {w : World} {X : Nat → Prop} {s : Nat → Nat} {v : Value} {av : AV} (h : RepD w X v av) : ren1 s av = av := by
  cases h <;> rfl
theorem ren1_deep' {w : World} {X : Nat → Prop} {s : Nat → Nat} {v : Value} {av : AV} (h : RepD w X v (ren1 s av)) : ren1 s av = av := by
  cases av <;> first | rfl | (unfold ren1 at h; cases h)

section
variable {w : World} {X : Nat → Prop} {β β2 : List BI} {H N : List Blk} {s : Nat → Nat}

/-! ### Some of the blocks -/
structure Sel (s : Nat → Nat) (β : List BI) (H : List Blk) (β2 : List BI) (N : List Blk) : Prop where
  len : β2.length = N.length
  b : ∀ (l : Nat), l < N.length → β2[l]? = β[s l]?
  h : ∀ (l : Nat) (b : Blk), N[l]? = some b → H[s l]? = some (renB s b)
  inj : ∀ (l l' : Nat), l < N.length → l' < N.length → s l = s l' → l = l'
  ok : ∀ b ∈ N, okB N.length b = true

theorem Sel.mut_ (S : Sel s β H β2 N) {b : Nat} (h : MutB β2 N b) : MutB β H b := by
  obtain ⟨l, c, blk, h1, h2, h3⟩ := h
  have hl := (List.getElem?_eq_some_iff.1 h2).1
  rw [S.b l hl] at h1
  exact ⟨s l, c, _, h1, S.h l blk h2, h3⟩
theorem Sel.mu (S : Sel s β H β2 N) {b : Nat} (h : Mu X β2 N b) : Mu X β H b := h.imp id S.mut_

theorem Sel.get (S : Sel s β H β2 N) {l : Nat} {b : Blk} (hl : l < N.length) (h : H[s l]? = some b) : ∃ b0, N[l]? = some b0 ∧ b = renB s b0 ∧ b0.rows.length = b.rows.length ∧ b0.sz = b.sz := by
  refine ⟨N[l], List.getElem?_eq_getElem hl, ?_⟩
  have := S.h l N[l] (List.getElem?_eq_getElem hl)
  rw [h] at this
  injection this with this
  subst this
  exact ⟨rfl, by simp [renB], rfl⟩

theorem Sel.rep1 (S : Sel s β H β2 N) {v : Value} {av : AV} (hc : av.clean1 N.length = true) (h : Rep w (Mu X β H) β H v (ren1 s av)) : Rep w (Mu X β2 N) β2 N v av := by
  have hD : ∀ {v : Value} {u : AV}, RepD w (Mu X β H) v u → RepD w (Mu X β2 N) v u := fun h => h.mono fun b _ hb => S.mu hb
  cases av with
  | own l n =>
    have hl : l < N.length := by simpa [AV.clean1] using hc
    obtain ⟨a, cap, b, rfl, hb, hn, h0, hx⟩ := rep_own h
    have hcap := rep_own_cap h
    obtain ⟨b0, k1, _, k2, k3⟩ := S.get hl hb
    refine .own l n a cap b0 k1 (by omega) h0 hcap fun e => ?_
    rw [S.b l hl]
    exact hx (by omega)
  | osl l n z o k =>
    have hl : l < N.length := by simpa [AV.clean1] using hc
    obtain ⟨a, cap, b, rfl, hb, hn, hle, h0, hcap, hx⟩ := rep_osl h
    obtain ⟨b0, k1, _, k2, k3⟩ := S.get hl hb
    refine .osl l n z o k a cap b0 k1 (by omega) hle h0 hcap fun e e' => ?_
    rw [S.b l hl]
    exact hx (by omega) (by omega)
  | ptr l n z i f =>
    have hl : l < N.length := by simpa [AV.clean1] using hc
    obtain ⟨a, b, rfl, hb, hn, hx⟩ := rep_ptr h
    obtain ⟨b0, k1, _, k2, k3⟩ := S.get hl hb
    refine .ptr l n z i f a b0 k1 (by omega) fun e e' e'' => ?_
    rw [S.b l hl]
    exact hx (by omega) (by omega) e''
  | agg cs => cases hc
  | tup cs => cases hc
  | fn f cs =>
    obtain ⟨vs, val, rfl, hl, hm, hv⟩ := rep_fn h
    exact .fn f vs cs val hl hm fun j u hj => .deep (hD (rep_deep (List.all_eq_true.1 hc u (List.mem_of_getElem? hj)) (hv j u hj)))
  | _ => exact .deep (hD (rep_deep rfl h))
theorem Sel.rep2 (S : Sel s β H β2 N) {v : Value} {av : AV} (hc : ok2 N.length av = true) (h : Rep w (Mu X β H) β H v (ren2 s av)) : Rep w (Mu X β2 N) β2 N v av := by
  cases av with
  | agg cs =>
    obtain ⟨vs, val, rfl, hl, hm, hv⟩ := rep_agg h
    rw [List.length_map] at hl
    refine .agg vs cs val hl (fun j hj => hm j (by simpa using hj)) fun j u hj => ?_
    exact S.rep1 (List.all_eq_true.1 hc u (List.mem_of_getElem? hj)) (hv j (ren1 s u) (by rw [List.getElem?_map, hj]; rfl))
  | _ => (refine S.rep1 ?_ h; exact hc)
theorem Sel.repR (S : Sel s β H β2 N) {v : Value} {av : AV} (hc : okR N.length av = true) (h : Rep w (Mu X β H) β H v (ren s av)) : Rep w (Mu X β2 N) β2 N v av := by
  cases av with
  | tup cs =>
    obtain ⟨vs, val, rfl, hl, hm, hv⟩ := rep_tup h
    rw [List.length_map] at hl
    refine .tup vs cs val hl (fun j hj => hm j (by simpa using hj)) fun j u hj => ?_
    exact S.rep2 (List.all_eq_true.1 hc u (List.mem_of_getElem? hj)) (hv j (ren2 s u) (by rw [List.getElem?_map, hj]; rfl))
  | _ => (refine S.rep2 ?_ h; exact hc)

theorem Sel.hrel (S : Sel s β H β2 N) (R : HRel w X β H) : HRel w X β2 N := by
  have hlt : ∀ (l b c : Nat), β2[l]? = some (BI.lies b c) → l < N.length := fun l b c h => by rw [← S.len]; exact (List.getElem?_eq_some_iff.1 h).1
  refine ⟨S.len, fun l bi b h1 h2 => ?_, fun l b c h => ?_, fun l l' b c c' h h' => ?_, R.base⟩
  · have hl := (List.getElem?_eq_some_iff.1 h2).1
    rw [S.b l hl] at h1
    have hB := R.blk (s l) bi _ h1 (S.h l b h2)
    have hok := S.ok b (List.mem_of_getElem? h2)
    cases bi with
    | nil =>
      obtain ⟨k1, k2⟩ := hB
      exact ⟨by simpa [renB] using k1, k2⟩
    | lies bk cap =>
      obtain ⟨cur, k1, k2, k3, k4, k5, k6, k7⟩ := hB
      refine ⟨cur, k1, k2, by simpa [renB] using k3, k4, k5, fun r hr => ?_, fun i j r av hr hj => ?_⟩
      · have := k6 (r.map (ren1 s)) (by simp only [renB]; exact List.mem_map.2 ⟨r, hr, rfl⟩)
        simpa [renB] using this
      · obtain ⟨v, q1, q2, q3, q4⟩ := k7 i j (r.map (ren1 s)) (ren1 s av) (by simp only [renB]; rw [List.getElem?_map, hr]; rfl) (by rw [List.getElem?_map, hj]; rfl)
        have hcl : av.clean1 N.length = true := List.all_eq_true.1 (List.all_eq_true.1 hok r (List.mem_of_getElem? hr)) av (List.mem_of_getElem? hj)
        refine ⟨v, q1, q2, S.rep1 hcl q3, fun hd => ?_⟩
        have h4 := q4 hd
        have e := ren1_deep' h4
        have h4 : RepD w (Mu X β H) v (ren1 s av) := h4
        cases av with
        | own => unfold ren1 at h4; cases h4
        | osl => unfold ren1 at h4; cases h4
        | ptr => unfold ren1 at h4; cases h4
        | _ => exact (show RepD w (Mu X β H) v _ from h4).mono fun b _ hb => S.mu hb
  · have hl := hlt l b c h
    rw [S.b l hl] at h
    exact R.lt (s l) b c h
  · have hl := hlt l b c h
    have hl' := hlt l' b c' h'
    rw [S.b l hl] at h
    rw [S.b l' hl'] at h'
    exact S.inj l l' hl hl' (R.inj (s l) (s l') b c c' h h')

/-! ### Behind the caller's blocks -/
variable {w' : World} {β1 : List BI}

theorem app_old {α : Type} {l m : List α} {i : Nat} {x : α} (h : l[i]? = some x) : (l ++ m)[i]? = some x := by rw [List.getElem?_append_left (List.getElem?_eq_some_iff.1 h).1]; exact h
theorem app_new {α : Type} (l m : List α) (i : Nat) : (l ++ m)[i + l.length]? = m[i]? := by rw [List.getElem?_append_right (by omega), Nat.add_sub_cancel]
theorem app_cases {α : Type} {l m : List α} {i : Nat} {x : α} (h : (l ++ m)[i]? = some x) : l[i]? = some x ∨ ∃ j, i = j + l.length ∧ m[j]? = some x := by
  rcases Nat.lt_or_ge i l.length with h1 | h1
  · rw [List.getElem?_append_left h1] at h; exact .inl h
  · rw [List.getElem?_append_right h1] at h; exact .inr ⟨i - l.length, by omega, h⟩

/-- The number of a block behind k others. -/
def up (k : Nat) : Nat → Nat := fun l => l + k
theorem mut_app (hl : β.length = H.length) {N' : List Blk} {b : Nat} : MutB (β ++ β1) (H ++ N') b ↔ MutB β H b ∨ MutB β1 N' b := by
  constructor
  · rintro ⟨l, c, blk, h1, h2, h3⟩
    rcases app_cases h1 with h | ⟨j, rfl, h⟩
    · left
      rw [List.getElem?_append_left (by have := (List.getElem?_eq_some_iff.1 h).1; omega)] at h2
      exact ⟨l, c, blk, h, h2, h3⟩
    · right
      rw [hl, app_new] at h2
      exact ⟨j, c, blk, h, h2, h3⟩
  · rintro (⟨l, c, blk, h1, h2, h3⟩ | ⟨l, c, blk, h1, h2, h3⟩)
    · exact ⟨l, c, blk, app_old h1, app_old h2, h3⟩
    · refine ⟨l + β.length, c, blk, by rw [app_new]; exact h1, by rw [hl, app_new]; exact h2, h3⟩
theorem mut_renB {k : Nat} {b : Nat} : MutB β1 (N.map (renB (up k))) b ↔ MutB β1 N b := by
  constructor
  · rintro ⟨l, c, blk, h1, h2, h3⟩
    rw [List.getElem?_map, Option.map_eq_some_iff] at h2
    obtain ⟨b0, h2, rfl⟩ := h2
    exact ⟨l, c, b0, h1, h2, h3⟩
  · rintro ⟨l, c, blk, h1, h2, h3⟩
    exact ⟨l, c, renB (up k) blk, h1, by rw [List.getElem?_map, h2]; rfl, h3⟩
theorem mu_app (hl : β.length = H.length) {k : Nat} {b : Nat} : Mu X (β ++ β1) (H ++ N.map (renB (up k))) b ↔ Mu (Mu X β H) β1 N b := by
  unfold Mu
  rw [mut_app hl, mut_renB, or_assoc]

theorem up_rep1 (hl : β.length = H.length) {Y Y' : Nat → Prop} (hY : ∀ b, Y' b → Y b) {v : Value} {av : AV} (hc : av.clean1 N.length = true) (h : Rep w Y β1 N v av) : Rep w Y' (β ++ β1) (H ++ N.map (renB (up H.length))) v (ren1 (up H.length) av) := by
  have hD : ∀ {v : Value} {u : AV}, RepD w Y v u → RepD w Y' v u := fun h => h.mono fun b _ hb => hY b hb
  have hB : ∀ {l : Nat} {b : Blk}, N[l]? = some b → (H ++ N.map (renB (up H.length)))[l + H.length]? = some (renB (up H.length) b) := fun {l b} h => by rw [app_new, List.getElem?_map, h]; rfl
  have hβ : ∀ {l : Nat}, (β ++ β1)[l + H.length]? = β1[l]? := fun {l} => by rw [← hl, app_new]
  cases h with
  | deep h => rw [ren1_deep h]; exact .deep (hD h)
  | own l n a cap b hb hn h0 hcap hx =>
    exact .own (l + H.length) n a cap (renB _ b) (hB hb) (by simpa [renB] using hn) h0 hcap fun e => by rw [hβ]; exact hx (by simpa [renB] using e)
  | osl l n z o k a cap b hb hn hle h0 hcap hx =>
    exact .osl (l + H.length) n z o k a cap (renB _ b) (hB hb) (by simpa [renB] using hn) hle h0 hcap fun e e' => by rw [hβ]; exact hx (by simpa [renB] using e) e'
  | ptr l n z i f a b hb hn hx =>
    exact .ptr (l + H.length) n z i f a (renB _ b) (hB hb) (by simpa [renB] using hn) fun e e' e'' => by rw [hβ]; exact hx (by simpa [renB] using e) e' e''
  | agg cs cells val hl hm hv => cases hc
  | tup cs cells val hl hm hv => cases hc
  | fn f cs cells val hl hm hv =>
    exact .fn f cs cells val hl hm fun j u hj => .deep (hD (rep_deep (List.all_eq_true.1 hc u (List.mem_of_getElem? hj)) (hv j u hj)))
theorem up_rep2 (hl : β.length = H.length) {Y Y' : Nat → Prop} (hY : ∀ b, Y' b → Y b) {v : Value} {av : AV} (hc : ok2 N.length av = true) (h : Rep w Y β1 N v av) : Rep w Y' (β ++ β1) (H ++ N.map (renB (up H.length))) v (ren2 (up H.length) av) := by
  cases av with
  | agg cs =>
    obtain ⟨vs, val, rfl, hl', hm, hv⟩ := rep_agg h
    refine .agg vs _ val (by simpa using hl') (fun j hj => hm j (by simpa using hj)) fun j u hj => ?_
    rw [List.getElem?_map, Option.map_eq_some_iff] at hj
    obtain ⟨u0, hj, rfl⟩ := hj
    exact up_rep1 hl hY (List.all_eq_true.1 hc u0 (List.mem_of_getElem? hj)) (hv j u0 hj)
  | _ => (refine up_rep1 (N := N) hl hY ?_ h; exact hc)
theorem up_repR (hl : β.length = H.length) {Y Y' : Nat → Prop} (hY : ∀ b, Y' b → Y b) {v : Value} {av : AV} (hc : okR N.length av = true) (h : Rep w Y β1 N v av) : Rep w Y' (β ++ β1) (H ++ N.map (renB (up H.length))) v (ren (up H.length) av) := by
  cases av with
  | tup cs =>
    obtain ⟨vs, val, rfl, hl', hm, hv⟩ := rep_tup h
    refine .tup vs _ val (by simpa using hl') (fun j hj => hm j (by simpa using hj)) fun j u hj => ?_
    rw [List.getElem?_map, Option.map_eq_some_iff] at hj
    obtain ⟨u0, hj, rfl⟩ := hj
    exact up_rep2 hl hY (List.all_eq_true.1 hc u0 (List.mem_of_getElem? hj)) (hv j u0 hj)
  | _ => (refine up_rep2 (N := N) hl hY ?_ h; exact hc)

theorem up_step (R : HRel w X β H) (S : StepR w [] [] w' β1 N) : StepR w β H w' (β ++ β1) (H ++ N.map (renB (up H.length))) := by
  refine ⟨S.keeps.weaken fun b _ h => by obtain ⟨l, c, blk, h1, _, _⟩ := h; simp at h1, ⟨fun l b h => ⟨b, app_old h, rfl, rfl, Nat.le_refl _, fun _ => by rw [List.getElem?_append_left (by rw [R.len]; exact (List.getElem?_eq_some_iff.1 h).1)], id⟩, fun l bk c h => ?_⟩, R.len⟩
  rcases app_cases h with hj | ⟨j, rfl, hj⟩
  · exact .inr ⟨c, hj⟩
  · rcases S.grow.at_ j bk c hj with h | ⟨c', h⟩
    · exact .inl h
    · simp at h

theorem up_hrel (R : HRel w X β H) (R1 : HRel w' (Mu X β H) β1 N) (S : StepR w [] [] w' β1 N) (hok : ∀ b ∈ N, okB N.length b = true) : HRel w' X (β ++ β1) (H ++ N.map (renB (up H.length))) := by
  have S' := up_step R S
  have hnew : ∀ (j bk c : Nat), β1[j]? = some (BI.lies bk c) → w.heap.size ≤ bk := fun j bk c h => by
    rcases S.grow.at_ j bk c h with h | ⟨c', h⟩
    · exact h
    · simp at h
  have hkeep : ∀ b, b < w.heap.size → w'.heap[b]? = w.heap[b]? := fun b hb => S.keeps.block b hb fun h => by obtain ⟨l, c, blk, h1, _, _⟩ := h; simp at h1
  refine ⟨by simp [R.len, R1.len], fun l bi b h1 h2 => ?_, fun l b c h => ?_, fun l l' b c c' h h' => ?_, fun b hb => Nat.lt_of_lt_of_le (R.base b hb) S.keeps.size⟩
  · rcases app_cases h1 with k1 | ⟨j, rfl, k1⟩
    · rw [List.getElem?_append_left (by rw [← R.len]; exact (List.getElem?_eq_some_iff.1 k1).1)] at h2
      exact (R.blk l bi b k1 h2).keep S' fun bk c e => by subst e; exact hkeep bk (R.lt l bk c k1).1
    · rw [R.len, app_new, List.getElem?_map, Option.map_eq_some_iff] at h2
      obtain ⟨b0, h2, rfl⟩ := h2
      have hB := R1.blk j bi b0 k1 h2
      have hokb := hok b0 (List.mem_of_getElem? h2)
      cases bi with
      | nil => exact ⟨by simpa [renB] using hB.1, hB.2⟩
      | lies bk cap =>
        obtain ⟨cur, k1, k2, k3, k4, k5, k6, k7⟩ := hB
        refine ⟨cur, k1, k2, by simpa [renB] using k3, k4, k5, fun r hr => ?_, fun i j' r av hr hj => ?_⟩
        · simp only [renB, List.mem_map] at hr
          obtain ⟨r0, hr0, rfl⟩ := hr
          simpa [renB] using k6 r0 hr0
        · simp only [renB, List.getElem?_map, Option.map_eq_some_iff] at hr
          obtain ⟨r0, hr0, rfl⟩ := hr
          rw [List.getElem?_map, Option.map_eq_some_iff] at hj
          obtain ⟨av0, hj0, rfl⟩ := hj
          obtain ⟨v, q1, q2, q3, q4⟩ := k7 i j' r0 av0 hr0 hj0
          have hcl : av0.clean1 N.length = true := List.all_eq_true.1 (List.all_eq_true.1 hokb r0 (List.mem_of_getElem? hr0)) av0 (List.mem_of_getElem? hj0)
          refine ⟨v, q1, q2, up_rep1 R.len (fun b hb => (mu_app R.len).1 hb) hcl q3, fun hd => ?_⟩
          have h4 := q4 hd
          rw [ren1_deep h4]
          exact h4.mono fun b _ hb => (mu_app R.len).1 hb
  · rcases app_cases h with k | ⟨j, rfl, k⟩
    · exact ⟨Nat.lt_of_lt_of_le (R.lt l b c k).1 S.keeps.size, (R.lt l b c k).2⟩
    · exact ⟨(R1.lt j b c k).1, fun hx => (R1.lt j b c k).2 (.inl hx)⟩
  · rcases app_cases h with k | ⟨j, rfl, k⟩ <;> rcases app_cases h' with k' | ⟨j', rfl, k'⟩
    · exact R.inj l l' b c c' k k'
    · have := (R.lt l b c k).1; have := hnew j' b c' k'; omega
    · have := (R.lt l' b c' k').1; have := hnew j b c k; omega
    · rw [R1.inj j j' b c c' k k']
end

/-! ### The contract -/
def genNew (p : List AV → Option (Prop × AV × List Blk)) : List AV → List Blk → Option (Prop × AV × List Blk) := fun args H =>
  match p args with
  | some (ob, r, N) => if args.all AV.deepArg then some (ob, ren (up H.length) r, H ++ N.map (renB (up H.length))) else none
  | none => none

section
variable {C : Ctx}
/-- What stands at the end: these blocks (some of all, under these numbers), this result. -/
def finN (C : Ctx) (rs : List ResultVar) (s : List Nat) (r : AV) (N : List Blk) (st : ASt) : Prop :=
  match aresults C st rs with
  | some (ob, r') => ob ∧ r' = ren (fun l => s.getD l 0) r ∧ s.map (fun i => st.H[i]?) = N.map (fun b => some (renB (fun l => s.getD l 0) b))
  | none => False
def postN (C : Ctx) (rs : List ResultVar) (s : List Nat) (r : AV) (N : List Blk) : Exit → ASt → Prop
  | .normal, st => finN C rs s r N st
  | .ret, st => finN C rs s r N st
  | _, _ => False

theorem sel_map (s : List Nat) : ∀ {l : Nat}, l < s.length → (s.map fun i => (i : Nat))[l]? = some (s.getD l 0) := fun {l} h => by
  simp [List.getD_eq_getElem?_getD, h]

theorem new_of_AW {f : FuncId} {fn : Func} {body : Code} {rs : List ResultVar} {n : Nat} (hf : C.P.funcs[f]? = some fn) (hb : fn.body = some body) (hrs : fn.results.toList = rs) (hn : fn.ntmps = n) {p : List AV → Option (Prop × AV × List Blk)}
    (h : ∀ avs ob r N, p avs = some (ob, r, N) → ob → avs.length ≤ n ∧ okR N.length r = true ∧ (N.all (okB N.length)) = true ∧ ∃ s : List Nat, s.Nodup ∧ AW C n 0 body ⟨argsρ 0 (avs.map nrmV), []⟩ (postN C rs s r N)) : GenOK C.P C.G f (genNew p) := by
  subst hrs hn
  intro w X β H args avs0 ob r0 H' R hG hsz0 harg0 hp hob
  unfold genNew at hp
  split at hp
  · rename_i ob' r N hp'
    split at hp
    · rename_i hdeep
      injection hp with hp; injection hp with e1 e2; injection e2 with e2 e3; subst e1 e2 e3
      obtain ⟨hlen0, hokr, hokb, s, hnd, hav0⟩ := h avs0 ob' r N hp' hob
      generalize havs : avs0.map nrmV = avs at hav0
      have hlen : avs.length ≤ fn.ntmps := by rw [← havs]; simpa using hlen0
      have hsz : args.size = avs.length := by rw [← havs]; simpa using hsz0
      have harg : ∀ (j : Nat) (u : AV), avs[j]? = some u → ∃ v, args[j]? = some v ∧ RepD w (Mu X β H) v u := fun j u hu => by
        rw [← havs, List.getElem?_map] at hu
        simp only [Option.map_eq_some_iff] at hu
        obtain ⟨av, hav, rfl⟩ := hu
        obtain ⟨v, h1, h2⟩ := harg0 j av hav
        exact ⟨v, h1, repD_nrmV (rep_deepArg (List.all_eq_true.1 hdeep av (List.mem_of_getElem? hav)) h2)⟩
      refine calls_of_wp hf hb ?_
      have hMu : ∀ b, Mu (Mu X β H) [] [] b → Mu X β H b := by
        rintro b (h | ⟨l, c, blk, h1, _, _⟩)
        · exact h
        · simp at h1
      have R0 : HRel w (Mu X β H) [] [] := ⟨rfl, fun l bi b h1 _ => by simp at h1, fun l b c h1 => by simp at h1, fun l l' b c c' h1 => by simp at h1, R.mu_lt⟩
      have hr : Rel C fn.ntmps (Mu X β H) w [] [] ⟨argsρ 0 avs, []⟩ { tmps := args ++ Array.replicate (fn.ntmps - args.size) undef, defers := [] } w :=
        ⟨[], R0, StepR.refl _ _ _ rfl, trel_args hsz (fun j u hj => let ⟨v, h1, h2⟩ := harg j u hj; ⟨v, h1, .deep (h2.mono fun b _ hb => hMu b hb)⟩), fun g => (hG g).mono fun b _ hb => hMu b hb, by simp; omega, rfl⟩
      refine Code.wp_mono (fun ex a' w' ⟨st', hq, hr'⟩ => ?_) (hav0 (Mu X β H) w [] [] _ w rfl hr)
      have fin : finN C fn.results.toList s r N st' → bodyPost C.P fn (fun e w' => ∃ v β', e = .returned v ∧ HRel w' X β' (H ++ N.map (renB (up H.length))) ∧ StepR w β H w' β' (H ++ N.map (renB (up H.length))) ∧ Rep w' (Mu X β' (H ++ N.map (renB (up H.length)))) β' (H ++ N.map (renB (up H.length))) v (ren (up H.length) r)) .normal a' w' := by
        unfold finN
        split
        · rename_i ob1 r1 hres
          rintro ⟨hob1, hr1, hH⟩
          obtain ⟨β1, R', S', T', G', hN', hdef'⟩ := hr'
          obtain ⟨u, hu, hrep⟩ := aresults_sound R' T' hres hob1
          have hsl : s.length = N.length := by have := congrArg List.length hH; simpa using this
          have hgd : ∀ l (hl : l < s.length), s.getD l 0 = s[l] := fun l hl => by simp [List.getD_eq_getElem?_getD, hl]
          have hget : ∀ l b, N[l]? = some b → st'.H[s.getD l 0]? = some (renB (fun l => s.getD l 0) b) := by
            intro l b hb
            have hl : l < s.length := by rw [hsl]; exact (List.getElem?_eq_some_iff.1 hb).1
            have := congrArg (fun x => x[l]?) hH
            simp only [List.getElem?_map, hb, List.getElem?_eq_getElem hl, Option.map_some, Option.some.injEq] at this
            rw [hgd l hl]
            exact this
          have hβ : ∀ l, l < N.length → ∃ bi, β1[s.getD l 0]? = some bi := fun l hl => by
            have := (List.getElem?_eq_some_iff.1 (hget l N[l] (List.getElem?_eq_getElem hl))).1
            exact ⟨β1[s.getD l 0]'(by rw [R'.len]; exact this), List.getElem?_eq_getElem _⟩
          have SS : Sel (fun l => s.getD l 0) β1 st'.H ((List.range N.length).map fun l => (β1[s.getD l 0]?).getD .nil) N := by
            refine ⟨by simp, fun l hl => ?_, fun l b hb => ?_, fun l l' hl hl' e => ?_, fun b hb => List.all_eq_true.1 hokb b hb⟩
            · obtain ⟨bi, hbi⟩ := hβ l hl
              rw [List.getElem?_map, List.getElem?_range hl, Option.map_some, hbi]
              rfl
            · exact hget l b hb
            · simp only [hgd l (by omega), hgd l' (by omega)] at e
              exact (List.getElem_inj hnd).1 e
          generalize ((List.range N.length).map fun l => (β1[s.getD l 0]?).getD .nil) = β2 at SS
          have R2 := SS.hrel R'
          have hS2 : StepR w [] [] w' β2 N := by
            refine ⟨S'.keeps, ⟨fun l b h => by simp at h, fun l bk c h => ?_⟩, rfl⟩
            have hl : l < N.length := by rw [← SS.len]; exact (List.getElem?_eq_some_iff.1 h).1
            rw [SS.b l hl] at h
            rcases S'.grow.at_ _ bk c h with h | ⟨c', h⟩
            · exact .inl h
            · simp at h
          subst hr1
          have hrep2 := SS.repR hokr hrep
          exact ⟨hdef', u, hu, u, β ++ β2, rfl, up_hrel R R2 hS2 (fun b hb => List.all_eq_true.1 hokb b hb), up_step R hS2, up_repR R.len (fun b hb => (mu_app R.len).1 hb) hokr hrep2⟩
        · intro h; exact h.elim
      cases ex with
      | normal => exact fin hq
      | ret => exact fin hq
      | _ => exact hq.elim
    · cases hp
  · cases hp
end
end Go.Proofs.YtfoipbjhaiimlaaDoor
