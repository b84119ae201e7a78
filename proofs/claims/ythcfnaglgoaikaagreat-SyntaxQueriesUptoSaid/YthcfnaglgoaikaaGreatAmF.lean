import Derived.Test.YthcfnaglgoaikaaGreatAmE
/-
  Conditions put together by hand: pieces of a code, a region whose order leaves a choice, a function out of them. Own work; no program in sight.
-/
namespace Go.Proofs.YthcfnaglgoaikaaGreat
open Go.RowKit

section
variable {C : Ctx} {N h0 : Nat}

theorem AW_seq {a b : Code} {st : ASt} {Q : Exit → ASt → Prop} (h : AW C N h0 a st (goOn (fun st' => AW C N h0 b st' Q) Q)) : AW C N h0 (.seq a b) st Q := fun X w0 β0 H0 x w hl hr => by
  refine wp_seq (Code.wp_mono (fun ex a' w' ⟨st', hq, hr'⟩ => ?_) (h X w0 β0 H0 x w hl hr))
  cases ex with
  | normal => exact hq X w0 β0 H0 a' w' hl hr'
  | _ => exact ⟨st', hq, hr'⟩
theorem AW_block {id : Nat} {b : Code} {st : ASt} {Q : Exit → ASt → Prop} (h : AW C N h0 b st (outOf id Q)) : AW C N h0 (.block id b) st Q := fun X w0 β0 H0 x w hl hr => by
  refine wp_block (Code.wp_mono (fun ex a' w' ⟨st', hq, hr'⟩ => ?_) (h X w0 β0 H0 x w hl hr))
  cases ex with
  | exit j =>
    simp only [Exit.inBlock, outOf] at hq ⊢
    split
    · rename_i e; rw [if_pos e] at hq; exact ⟨st', hq, hr'⟩
    · rename_i e; rw [if_neg e] at hq; exact ⟨st', hq, hr'⟩
  | _ => exact ⟨st', hq, hr'⟩

/-- A loop whose round is given as a whole. -/
theorem AW_loopW {α : Type} {body : Code} {st : ASt} {Q : Exit → ASt → Prop} (Sf : α → ASt) (pre : α → Prop) (m : α → Nat)
    (start : ∃ x, pre x ∧ Weak C N h0 st (Sf x)) (step : ∀ x, pre x → AW C N h0 body (Sf x) (round Sf pre (fun x' => m x' < m x) N h0 C Q)) : AW C N h0 (.loop body) st Q := by
  intro X w0 β0 H0 a w hl hr
  obtain ⟨x0, hx0, hw0⟩ := start
  refine wp_loop_ghost (fun n a w => ∃ x, m x = n ∧ pre x ∧ Rel C N X w0 β0 H0 (Sf x) a w) (m x0) ⟨x0, rfl, hx0, hw0 X w0 β0 H0 a w hl hr⟩ ?_
  rintro n a w ⟨x, rfl, hx, hr⟩
  refine Code.wp_mono (fun ex a' w' ⟨st', hq, hr'⟩ => ?_) (step x hx X w0 β0 H0 a w hl hr)
  cases ex with
  | normal =>
    obtain ⟨x', hx', hlt, hw⟩ := hq
    exact ⟨m x', hlt, x', rfl, hx', hw X w0 β0 H0 a' w' hl hr'⟩
  | _ => exact ⟨st', hq, hr'⟩

/-- A region that draws its order: what stands when some of its operations have run. -/
theorem AW_region (hS : SigOK C) (hM : C.P.follows .mixedOrders = true) {id : Nat} {ops : Array Oper} {st : ASt} {Q : Exit → ASt → Prop} (tbl : List (List Nat)) (htbl : (List.range ops.size).all (fun i => decide (directs (opAt ops i) = tbl.getD i [])) = true)
    (hd : (List.range ops.size).all (fun i => (match (opAt ops i).dst with | some d => decide (d < N) | none => true) && (directs (opAt ops i)).all fun d => decide (d < i)) = true)
    (I : (Nat → Bool) → ASt → Prop) (start : I (fun _ => false) st)
    (step : ∀ i o, ops.toList[i]? = some o → ∀ L st', I L st' → L i = false → (∀ d ∈ tbl.getD i [], L d = true) → aops C ops [o] st' (I (fun j => decide (j = i) || L j)))
    (fin : ∀ L st', I L st' → (∀ i, i < ops.size → L i = true) → Q .normal st') (ext : ∀ L L' st', (∀ j, L j = L' j) → I L st' → I L' st') : AW C N h0 (.region id ops true) st Q := fun X w0 β0 H0 a w hl hr => by
  have hd' : ∀ i, i < ops.size → (∀ d, (opAt ops i).dst = some d → d < N) ∧ ∀ d ∈ directs (opAt ops i), d < i := fun i hi => by
    have := List.all_eq_true.1 hd i (List.mem_range.2 hi)
    simp only [Bool.and_eq_true, List.all_eq_true, decide_eq_true_eq] at this
    refine ⟨fun d hdd => ?_, this.2⟩
    have h1 := this.1
    rw [hdd] at h1
    simpa using h1
  refine wp_region_any hM ?_
  have hr' : Rel C N X w0 β0 H0 st a { w with drawn := w.drawn + 1 } := by
    obtain ⟨β, R, S0, Tr, G, hN, hdef⟩ := hr
    have hk : Keeps (fun _ => False) w { w with drawn := w.drawn + 1 } := Keeps.drew _ w
    exact ⟨β, R.quiet hk, S0.trans (StepR.quiet hk R.len), fun t => (Tr t).keep (StepR.quiet hk R.len), fun g => (G g).keep (fun b hb hn => hk.block b hb (fun h => h)) hk.size (fun b _ h => h), hN, hdef⟩
  have ready0 : ∀ listed : Array Bool, listed.size = ops.size → Region.ready .any ops listed = [] → ∀ i, i < ops.size → listed.getD i false = true := by
    intro listed hs h i
    induction i using Nat.strongRecOn with
    | _ i ih =>
      intro hi
      cases hl : listed.getD i false with
      | true => rfl
      | false =>
        exfalso
        have : i ∈ Region.ready .any ops listed := by
          unfold Region.ready
          rw [List.mem_filter]
          refine ⟨List.mem_range.2 hi, ?_⟩
          simp only [Bool.and_eq_true, Bool.not_eq_true']
          refine ⟨?_, ?_⟩
          · rw [Array.getD_eq_getD_getElem?, Array.getElem?_eq_getElem (by omega)] at hl ⊢
            exact hl
          · rw [Array.getElem?_eq_getElem hi]
            simp only [Option.map_some, Option.getD_some]
            refine Array.all_eq_true'.2 fun e he => ?_
            cases hb : Region.binds .any e with
            | false => rfl
            | true =>
              have hdd : e.on ∈ directs (opAt ops i) := by
                unfold directs opAt
                rw [Array.getD_eq_getD_getElem?, Array.getElem?_eq_getElem hi]
                simp only [Option.getD_some, List.mem_map, List.mem_filter]
                exact ⟨e, ⟨Array.mem_toList_iff.2 he, hb⟩, rfl⟩
              have hlt := (hd' i hi).2 e.on hdd
              simp [ih e.on hlt (by omega)]
        rw [h] at this
        cases this
  have main : ∀ (fuel : Nat) (listed : Array Bool) (st : ASt) (a : Act) (w : World), listed.size = ops.size → I (fun i => listed.getD i false) st → (List.range ops.size).countP (fun i => !listed.getD i false) ≤ fuel → Rel C N X w0 β0 H0 st a w →
      wpAny C.P .any ops (fun ex a' w' => ∃ st', Q ex st' ∧ Rel C N X w0 β0 H0 st' a' w') fuel listed a w := by
    intro fuel
    induction fuel with
    | zero =>
      intro listed st a w hs hI hc hr
      have hall : ∀ i, i < ops.size → listed.getD i false = true := by
        intro i hi
        have h0 : (List.range ops.size).countP (fun i => !listed.getD i false) = 0 := by omega
        rw [List.countP_eq_zero] at h0
        have := h0 i (List.mem_range.2 hi)
        simpa using this
      refine ⟨?_, st, fin _ st hI hall, hr⟩
      cases hrd : Region.ready .any ops listed with
      | nil => rfl
      | cons i r =>
        obtain ⟨h1, h2, _⟩ := ready_spec (ops := ops) (listed := listed) (i := i) (by rw [hrd]; simp)
        have := hall i h1
        rw [Array.getD_eq_getD_getElem?, Array.getElem?_eq_getElem (by omega), Option.getD_some] at h2 this
        rw [h2] at this
        cases this
    | succ fuel ih =>
      intro listed st a w hs hI hc hr
      refine ⟨fun hnil => ⟨st, fin _ st hI (ready0 listed hs hnil), hr⟩, fun i hi => ?_⟩
      obtain ⟨hlt, hun, hdir⟩ := ready_spec hi
      have hL : listed.getD i false = false := by
        rw [Array.getD_eq_getD_getElem?, Array.getElem?_eq_getElem (by omega), Option.getD_some] at hun ⊢
        exact hun
      have htb : directs (opAt ops i) = tbl.getD i [] := by simpa using List.all_eq_true.1 htbl i (List.mem_range.2 hlt)
      have hst := step i (opAt ops i) (by unfold opAt; rw [Array.getD_eq_getD_getElem?, Array.getElem?_eq_getElem hlt]; simp [hlt]) _ st hI hL (by rw [← htb]; exact hdir)
      simp only [aops] at hst
      have hget : ops[i]? = some (opAt ops i) := by
        unfold opAt
        rw [Array.getD_eq_getD_getElem?, Array.getElem?_eq_getElem hlt]
        rfl
      have next : ∀ (st' : ASt) (a' : Act) (w' : World), I (fun j => decide (j = i) || listed.getD j false) st' → Rel C N X w0 β0 H0 st' a' w' →
          wpAny C.P .any ops (fun ex a' w' => ∃ st', Q ex st' ∧ Rel C N X w0 β0 H0 st' a' w') fuel (listed.setIfInBounds i true) a' w' := by
        intro st' a' w' hI' hr'
        have hset : ∀ j, (listed.setIfInBounds i true).getD j false = (decide (j = i) || listed.getD j false) := by
          intro j
          by_cases e : j = i
          · subst e
            simp [Array.getD_eq_getD_getElem?, show j < listed.size by omega]
          · simp [Array.getD_eq_getD_getElem?, Array.getElem?_setIfInBounds_ne (fun h => e h.symm), e]
        refine ih _ st' a' w' (by simpa using hs) (ext _ _ _ (fun j => (hset j).symm) hI') ?_ hr'
        have key : ∀ l : List Nat, i ∈ l → l.countP (fun j => !(listed.setIfInBounds i true).getD j false) + 1 ≤ l.countP (fun j => !listed.getD j false) := by
          have h0 : ∀ l : List Nat, l.countP (fun j => !(listed.setIfInBounds i true).getD j false) ≤ l.countP (fun j => !listed.getD j false) := fun l => List.countP_mono_left fun j _ hj => by
            rw [hset j] at hj
            simp only [Bool.not_eq_true', Bool.or_eq_false_iff] at hj ⊢
            exact hj.2
          intro l hl
          induction l with
          | nil => cases hl
          | cons j r ihl =>
            rw [List.countP_cons, List.countP_cons]
            by_cases e : j = i
            · subst e
              have e1 : (!(listed.setIfInBounds j true).getD j false) = false := by rw [hset j]; simp
              have e2 : (!listed.getD j false) = true := by simpa using hL
              rw [e1, e2]
              have := h0 r
              simp only [if_true, Bool.false_eq_true, if_false]
              omega
            · have := ihl (by simpa [Ne.symm e] using hl)
              have hj : (!(listed.setIfInBounds i true).getD j false) = !listed.getD j false := by rw [hset j]; simp [e]
              rw [hj]
              omega
        have := key _ (List.mem_range.2 hlt)
        omega
      obtain ⟨β, R, S0, Tr, G, hN, hdef⟩ := hr
      unfold wpOp
      rw [hget]
      simp only
      split at hst
      · exact hst.elim
      · rename_i g hg
        have hw := wantG_sound Tr hg
        rw [hw]
        cases g with
        | true =>
          rw [if_pos rfl]
          have hst := hst.1 rfl
          split at hst
          · rename_i ob v H' hcg
            refine .inl ?_
            exact astep_sound hS R Tr G hcg hst.1 fun u w' β' R' S hr => next _ _ _ hst.2 (rel_put S0 Tr G hN hdef R' S hr _ ((hd' i hlt).1))
          · exact hst.elim
        | false =>
          rw [if_neg (by simp)]
          exact next _ _ _ (hst.2 rfl) (rel_put S0 Tr G hN hdef R (StepR.refl _ _ _ R.len) rep_skip _ ((hd' i hlt).1))
  exact main ops.size (Array.replicate ops.size false) st a _ (by simp) (ext _ _ _ (fun j => by
    rw [Array.getD_eq_getD_getElem?]
    rcases Nat.lt_or_ge j ops.size with h | h
    · simp [h]
    · simp [Array.getElem?_eq_none (show (Array.replicate ops.size false).size ≤ j by simpa using h)]) start) (Nat.le_trans List.countP_le_length (by simp)) hr'

/-- A function out of such pieces. -/
theorem pure_of_AW {f : FuncId} {fn : Func} {body : Code} {rs : List ResultVar} {n : Nat} (hf : C.P.funcs[f]? = some fn) (hb : fn.body = some body) (hrs : fn.results.toList = rs) (hn : fn.ntmps = n) {p : List AV → Option (Prop × AV)}
    (h : ∀ avs ob r, p avs = some (ob, r) → ob → avs.length ≤ n ∧ AW C n 0 body ⟨argsρ 0 (avs.map nrmV), []⟩ (postP C rs r)) : PureOK C.P C.G f p := by
  subst hrs hn
  intro w X args avs0 ob r hX hG hsz0 harg0 hp hob
  obtain ⟨hlen0, hav0⟩ := h avs0 ob r hp hob
  generalize havs : avs0.map nrmV = avs at hav0
  have hlen : avs.length ≤ fn.ntmps := by rw [← havs]; simpa using hlen0
  have hsz : args.size = avs.length := by rw [← havs]; simpa using hsz0
  have harg : ∀ (j : Nat) (u : AV), avs[j]? = some u → ∃ v, args[j]? = some v ∧ RepD w X v u := fun j u hu => by
    rw [← havs, List.getElem?_map] at hu
    simp only [Option.map_eq_some_iff] at hu
    obtain ⟨av, hav, rfl⟩ := hu
    obtain ⟨v, h1, h2⟩ := harg0 j av hav
    exact ⟨v, h1, repD_nrmV h2⟩
  refine calls_of_wp hf hb ?_
  have hMu : ∀ b, Mu X [] [] b → X b := by
    rintro b (h | ⟨l, c, blk, h1, _, _⟩)
    · exact h
    · simp at h1
  have R : HRel w X [] [] := ⟨rfl, fun l bi b h1 _ => by simp at h1, fun l b c h1 => by simp at h1, fun l l' b c c' h1 => by simp at h1, hX⟩
  have hr : Rel C fn.ntmps X w [] [] ⟨argsρ 0 avs, []⟩ { tmps := args ++ Array.replicate (fn.ntmps - args.size) undef, defers := [] } w :=
    ⟨[], R, StepR.refl _ _ _ rfl, trel_args hsz (fun j u hj => let ⟨v, h1, h2⟩ := harg j u hj; ⟨v, h1, .deep (h2.mono fun b _ hb => hMu b hb)⟩), fun g => (hG g).mono fun b _ hb => hMu b hb, by simp; omega, rfl⟩
  refine Code.wp_mono (fun ex a' w' ⟨st', hq, hr'⟩ => ?_) (hav0 X w [] [] _ w rfl hr)
  have fin : finP C fn.results.toList r st' → bodyPost C.P fn (fun e w' => ∃ v, e = .returned v ∧ Keeps (fun _ => False) w w' ∧ RepD w' X v r) .normal a' w' := by
    unfold finP
    split
    · rename_i ob' r' hres
      rintro ⟨hob', hview⟩
      obtain ⟨β', R', S', T', G', hN', hdef'⟩ := hr'
      obtain ⟨u, hu, hrep⟩ := aresults_sound R' T' hres hob'
      have hv := (view_sound R' (fun _ => True) 6 hrep (fun _ _ => trivial)).mono (X' := X) fun b _ hb => .inl hb
      have hv := repD_nrmV hv
      rw [hview] at hv
      exact ⟨hdef', u, hu, u, rfl, S'.keeps.weaken (fun b _ h => by obtain ⟨l, c, blk, h1, _, _⟩ := h; simp at h1), hv⟩
    · intro h; exact h.elim
  cases ex with
  | normal => exact fin hq
  | ret => exact fin hq
  | _ => exact hq.elim

theorem pure2W {α β : Type} [Enc α] [Enc β] {f : FuncId} {fn : Func} {body : Code} {rs : List ResultVar} {n : Nat} (hf : C.P.funcs[f]? = some fn) (hb : fn.body = some body) (hrs : fn.results.toList = rs) (hn : fn.ntmps = n) (hnn : 2 ≤ n) {pre : α → β → Prop} {res : α → β → AV} (h : ∀ a b, pre a b → AW C n 0 body ⟨[(0, Enc.enc a), (1, Enc.enc b)], []⟩ (postP C rs (res a b))) : PureOK C.P C.G f (spec2 pre res) :=
  pure_of_AW hf hb hrs hn fun avs ob r' hp hob => by
    unfold spec2 at hp
    split at hp
    · injection hp with hp; injection hp with e1 e2; subst e1 e2
      refine ⟨hnn, ?_⟩
      have := h _ _ hob.2.2
      rw [← hob.1, ← hob.2.1] at this
      exact this
    · cases hp
end
end Go.Proofs.YthcfnaglgoaikaaGreat
