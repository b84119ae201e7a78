/-
  Texts joined: R2 Q11 R3 R4 R5 R6 R7 R8.
-/
import Derived.Test.YtfoipbjhaiimlaaDoorS3
import Derived.Test.YtfoipbjhaiimlaaDoorS2

/-
  layer 31: 'for _, s := range slices.Backward(steps)' as a rule.
-/
namespace Go.Proofs.YtfoipbjhaiimlaaDoor
open Go.RowKit Go.Shelf Go.Proofs
set_option linter.unusedVariables false

set_option maxHeartbeats 4000000 in
theorem range_back {C : Ctx} (hP : C.P = Tryd.prog) {N : Nat} {fn : Func} {r : AV} (hS : SigOK C) {bid : Nat} {g p1 p2 : Tmp} {assign body tail : Code} {st : ASt} {vs : List AV} (hg : getA st.ρ g = .fn 65 [.iptr [.slice 1 false (vs.map fun v => [v])]]) (h1 : vs.length ≠ 0) (hl : vs.length ≤ 1000000)
    (hp1 : p1 < N) (hp2 : p2 < N) (oka : codeR N assign = true) (okb : codeR N body = true) (okt : codeR N tail = true) (Hf : Nat → List Blk) (hH0 : Hf 0 = st.H)
    (hround : ∀ k v, k < vs.length → vs[vs.length - 1 - k]? = some v → avcH C [] N 0 assign ⟨putA (putA st.ρ (some p1) (.int .i64 ((vs.length : Int) - 1 - k))) (some p2) v, Hf k⟩ fun ex st1 => ex = .normal ∧ avcH C [] N 0 body st1 fun ex2 st2 => ex2 = .normal ∧ st2.H = Hf (k + 1))
    (htail : avcH C [] N 0 tail ⟨st.ρ, Hf vs.length⟩ (postP C fn.results.toList r)) :
    AWXb C N fn r (.block bid (.rangeFunc (.tmp g) #[p1, p2] assign body)) tail st := fun X w0 a w hr => by
  obtain ⟨P0, Sg, Gv⟩ := C
  simp only at hP
  subst hP
  obtain ⟨β, R, S1, T, G, hN, hdef⟩ := hr
  have hbase : Rel ⟨Tryd.prog, Sg, Gv⟩ N X w β st.H ⟨st.ρ, Hf 0⟩ a w := by rw [hH0]; exact ⟨β, R, StepR.refl _ _ _ R.len, T, G, hN, hdef⟩
  have T0 := T g
  rw [hg] at T0
  obtain ⟨Bs, bo, sv, hfv, hBs, hBm, hBc, hsv⟩ : ∃ Bs bo sv, a.tmps.getD g undef = .func (.func 65) #[] #[.pointer (some ⟨Bs, bo, none⟩)] ∧ Bs < w.heap.size ∧ ¬ Mu X β st.H Bs ∧ w.cell? ⟨Bs, bo, none⟩ = some sv ∧ RepD w (Mu X β st.H) sv (.slice 1 false (vs.map fun v => [v])) := by
    generalize a.tmps.getD g undef = fv at T0
    have key : ∀ cs : Array Value, cs.size = 1 → (∀ q, cs[0]? = some q → RepD w (Mu X β st.H) q (.iptr [.slice 1 false (vs.map fun v => [v])])) → ∃ Bs bo sv, Value.func (.func 65) #[] cs = .func (.func 65) #[] #[.pointer (some ⟨Bs, bo, none⟩)] ∧ Bs < w.heap.size ∧ ¬ Mu X β st.H Bs ∧ w.cell? ⟨Bs, bo, none⟩ = some sv ∧ RepD w (Mu X β st.H) sv (.slice 1 false (vs.map fun v => [v])) := by
      intro cs hcs hq
      obtain ⟨q, rfl⟩ : ∃ q, cs = #[q] := by
        refine ⟨cs[0]'(by omega), ?_⟩
        apply Array.ext (by simpa using hcs)
        intro i h1 h2
        have : i = 0 := by omega
        subst this
        rfl
      have hq := hq q rfl
      cases hq with
      | iptr c o cells val hlt hx hm hv =>
        obtain ⟨m1, m2⟩ := hm 0 (by simp)
        exact ⟨c, o, _, rfl, hlt, hx, m1, hv 0 _ rfl⟩
    cases T0 with
    | deep h =>
      cases h with
      | fn f cs cells val hl hm hv =>
        refine key cs hl fun q hq => ?_
        rw [hm 0 (by simp)] at hq
        cases hq
        exact hv 0 _ rfl
    | fn f cs cells val hl hm hv =>
      refine key cs hl fun q hq => ?_
      rw [hm 0 (by simp)] at hq
      injection hq with hq
      have := hv 0 _ rfl
      rw [hq] at this
      exact rep_iptr this
  obtain ⟨a0, cap, val, rfl, k1, k2, k3, k4, k5, k6⟩ := repD_slice hsv
  simp only [List.length_map] at k1 k5 hBc
  obtain ⟨b, off, rfl, hb, hbm, hbc⟩ := k5 h1
  refine wpIn_block (wpIn_rangeFunc ?_)
  intro fid hfn
  obtain ⟨rec, hrec⟩ : ∃ rec : LoopState → Loop, rec = fun st => { state := st, pending := none, fn := fid, tmps := a.tmps, params := #[p1, p2], assign, body, defers := w.heap.size } := ⟨_, rfl⟩
  obtain ⟨W1, hW1⟩ : ∃ W1, (w.alloc (.deferred (some []))).alloc (.loop (rec .ready)) = W1 := ⟨_, rfl⟩
  obtain ⟨J, hJ⟩ : ∃ J : Nat → World → Prop, J = fun k W => Rel ⟨Tryd.prog, Sg, Gv⟩ N X w β st.H ⟨st.ρ, Hf k⟩ a W ∧ W.heap[w.heap.size + 1]? = some (.loop (rec .ready)) ∧ W.heap[w.heap.size]? = some (.deferred (some [])) := ⟨_, rfl⟩
  have hJ0 : J 0 W1 := by
    rw [hJ, ← hW1]
    refine ⟨(hbase.alloc _).alloc _, ?_, ?_⟩
    · have := World.alloc_heap_new (w.alloc (.deferred (some []))) (.loop (rec .ready)); rwa [World.size_alloc] at this
    · exact (Below.heap_alloc _ _ _ (by simp)).trans (World.alloc_heap_new w _)
  have hkeep : ∀ k W, J k W → ∀ c, c < w.heap.size → ¬ Mu X β st.H c → W.heap[c]? = w.heap[c]? := fun k W h c hc hm => by
    rw [hJ] at h
    obtain ⟨⟨β', R', S', _⟩, _⟩ := h
    exact S'.keeps.block c hc fun h => hm (.inr h)
  refine ⟨w.heap.size + 1, [{ target := .collected w.heap.size, args := #[] }], W1, { target := .fn (.func 65) #[.pointer (some ⟨Bs, bo, none⟩)], args := #[.func (.yield (w.heap.size + 1)) #[] #[]] }, W1, 65,
    #[.func (.yield (w.heap.size + 1)) #[] #[]] ++ #[.pointer (some ⟨Bs, bo, none⟩)], W1, ?_, ?_, fun _ _ => trivial, ?_, fun _ => by omega, ?_⟩
  · rw [← hW1, hrec]; exact run_enterLoop_outer _ _ _ _ _
  · have he : a.eval (.tmp g) = .func (.func 65) #[] #[.pointer (some ⟨Bs, bo, none⟩)] := hfv
    simp only [resolve, he]
    simp [go_sem]
  · simp [invoke, go_sem]
  · have hY := back_in Fence.wide 8 trivial rfl (by omega) (w.heap.size + 1) Bs bo b off vs.length cap hl J (fun k W h => by
        rw [← hBc]
        exact World.cell?_of_block (hkeep k W h Bs hBs hBm)) (fun k W h hk => ?_) W1 hJ0
    · refine hY.mono ?_
      rintro e W2 ⟨⟨v, rfl⟩, h⟩
      rw [hJ] at h
      obtain ⟨h2, hl2, hd2⟩ := h
      have hr2 := run_endLoop (P := Tryd.prog) hl2 (by rw [hrec]; simp)
      rw [hrec] at hr2
      refine ⟨none, _, hr2, ?_⟩
      have h3 := h2.odd (o := .loop { rec .ready with state := .exhausted }) hl2 rfl (Nat.le_succ _)
      have hd3 := (World.putObj_heap_other (o := .loop { rec .ready with state := .exhausted }) (show w.heap.size ≠ w.heap.size + 1 by omega)).trans hd2
      rw [hrec] at h3 hd3
      have h4 := h3.there S1
      obtain ⟨β6, R6, S6, T6, G6, hN6, hdef6⟩ := h4
      have h5 : Rel ⟨Tryd.prog, Sg, Gv⟩ N X _ β6 (Hf vs.length) ⟨st.ρ, Hf vs.length⟩ a _ := ⟨β6, R6, StepR.refl _ _ _ R6.len, T6, G6, hN6, hdef6⟩
      have ht := inR_sound hS (ro := none) (n := 9) (ds := [{ target := .collected w.heap.size, args := #[] }]) tail okt htail h5
      have ea : withD a [{ target := .collected w.heap.size, args := #[] }] = { a with defers := [{ target := .collected w.heap.size, args := #[] }] ++ a.defers } := by
        unfold withD
        rw [hdef]; rfl
      rw [ea] at ht
      refine wpIn_mono ht ?_
      rintro e a' w' ⟨a'', ⟨st', hq, hr'⟩, rfl⟩
      exact rx_mark (rel_loop hd3 rfl R6 hr') S1.keeps.size hq (hr'.there S6)
    · rw [hJ] at h
      obtain ⟨hk1, hk2, hk3⟩ := h
      have hlt : vs.length - 1 - k < vs.length := by omega
      obtain ⟨av, hav⟩ : ∃ av, vs[vs.length - 1 - k]? = some av := ⟨_, List.getElem?_eq_getElem hlt⟩
      have hrow : (vs.map fun v => [v])[vs.length - 1 - k]? = some [av] := by rw [List.getElem?_map, hav]; rfl
      obtain ⟨hc1, hc2⟩ := hbc (vs.length - 1 - k) 0 hlt Nat.zero_lt_one
      have hv0 := k6 (vs.length - 1 - k) 0 [av] av hrow rfl
      rw [show off + (vs.length - 1 - k) * 1 + 0 = off + (vs.length - 1 - k) by omega] at hc1
      have hkW := hkeep k W (by rw [hJ]; exact ⟨hk1, hk2, hk3⟩)
      refine ⟨val (vs.length - 1 - k) 0, (World.cell?_of_block (hkW b hb hbm)).trans hc1, fid, (#[p1, p2].zip #[.int .i64 ((vs.length : Int) - 1 - k), val (vs.length - 1 - k) 0]).foldl (fun tmps (t, a) => tmps.setIfInBounds t a) a.tmps, assign, body, ?_, ?_⟩
      · have hy := run_yield (P := Tryd.prog) (args := #[.int .i64 ((vs.length : Int) - 1 - k), val (vs.length - 1 - k) 0]) hk2 (by rw [hrec]; rfl)
        rw [hrec] at hy
        exact hy
      refine roundIn_of_wpIn trivial ?_
      have hact : ({ tmps := (#[p1, p2].zip #[.int .i64 ((vs.length : Int) - 1 - k), val (vs.length - 1 - k) 0]).foldl (fun tmps (t, a) => tmps.setIfInBounds t a) a.tmps, defers := [] } : Act) = (a.put (some p1) (.int .i64 ((vs.length : Int) - 1 - k))).put (some p2) (val (vs.length - 1 - k) 0) := by
        simp [Act.put, hdef]
      have hA0 := rel_put64 (rel_put64 hk1 hp1 (v := .int .i64 ((vs.length : Int) - 1 - k)) (av := .int .i64 ((vs.length : Int) - 1 - k)) fun _ _ _ => .deep (.int .i64 _)) hp2 (v := val (vs.length - 1 - k) 0) (av := av) fun β' R' S' => Rep.keep S' (.deep hv0)
      rw [← hact] at hA0
      obtain ⟨β2, R2, S2, T2, G2, hN2, hd2⟩ := hA0
      have hA1 : Rel ⟨Tryd.prog, Sg, Gv⟩ N X W β2 (Hf k) _ _ W := ⟨β2, R2, StepR.refl _ _ _ R2.len, T2, G2, hN2, hd2⟩
      refine wpIn_mono (inR_sound hS (ro := some (w.heap.size + 1)) (n := 7) (ds := []) assign oka (hround k av hk hav) hA1) ?_
      rintro e a1 w1 ⟨a1', ⟨st1, ⟨rfl, hb1⟩, hr3⟩, rfl⟩
      have hl1 := rel_loop hk2 rfl R2 hr3
      have hd1 := rel_loop hk3 rfl R2 hr3
      refine ⟨_, run_beginRound hl1 (by rw [hrec]), ?_⟩
      have hr4 := (hr3.there S2).odd (o := .loop { rec .ready with state := .busy }) hl1 rfl (Nat.le_succ _)
      have hlt1 : w.heap.size + 1 < w1.heap.size := (Array.getElem?_eq_some_iff.1 hl1).1
      obtain ⟨W2, hW2⟩ : ∃ W2, w1.putObj (w.heap.size + 1) (.loop { rec .ready with state := .busy }) = W2 := ⟨_, rfl⟩
      have hl2 : W2.heap[w.heap.size + 1]? = some (.loop { rec .ready with state := .busy }) := by rw [← hW2]; exact World.putObj_heap_same hlt1
      have hd2' : W2.heap[w.heap.size]? = some (.deferred (some [])) := by rw [← hW2]; exact (World.putObj_heap_other (by omega)).trans hd1
      rw [hW2] at hr4 ⊢
      obtain ⟨β4, R4, S4, T4, G4, hN4, hd4⟩ := hr4
      have hB1 : Rel ⟨Tryd.prog, Sg, Gv⟩ N X W2 β4 st1.H st1 a1' W2 := ⟨β4, R4, StepR.refl _ _ _ R4.len, T4, G4, hN4, hd4⟩
      refine wpIn_mono (inR_sound hS (ro := some (w.heap.size + 1)) (n := 7) (ds := []) body okb hb1 hB1) ?_
      rintro e a3 w3 ⟨a3', ⟨⟨ρ3, H3⟩, ⟨rfl, hH3⟩, hr5⟩, rfl⟩
      simp only at hH3
      subst hH3
      have hl3 := rel_loop hl2 rfl R4 hr5
      have hd3 := rel_loop hd2' rfl R4 hr5
      have hre := run_endRound (P := Tryd.prog) none hl3
      refine ⟨_, _, hre, rfl, ?_⟩
      obtain ⟨β5, R5, S5, T5, G5, hN5, hd5⟩ := hr5.there S4
      have hr6 : Rel ⟨Tryd.prog, Sg, Gv⟩ N X w β st.H ⟨st.ρ, Hf (k + 1)⟩ a w3 := ⟨β5, R5, S5, fun t => (T t).keep S5, G5, hN, hdef⟩
      have hlt3 : w.heap.size + 1 < w3.heap.size := (Array.getElem?_eq_some_iff.1 hl3).1
      rw [hJ]
      refine ⟨hr6.odd hl3 rfl (Nat.le_succ _), ?_, (World.putObj_heap_other (by omega)).trans hd3⟩
      rw [World.putObj_heap_same hlt3, hrec]
      rfl
end Go.Proofs.YtfoipbjhaiimlaaDoor


/-
  layer 31: Bound, the reference's side.
-/
namespace Go.Proofs.YtfoipbjhaiimlaaDoor
open Go.RowKit
set_option linter.unusedSimpArgs false
set_option linter.unusedVariables false
set_option maxRecDepth 100000

theorem lim_pos : 2 < LimN := Nat.lt_trans (by decide) lim_big
theorem lim_sq {h : Nat} (h1 : LimN ≤ h + h) : LimN ≤ h ^ 2 := by
  have h0 : 4 ≤ h := by have := lim_big; omega
  rw [Nat.pow_two]
  have := Nat.mul_le_mul_right h h0
  omega
noncomputable def CBr : Ctx := mkC Tryd.prog G0 [(29, .pure sValidF), (22, .pure Nt.s21), (38, .pure Nt.s12), (39, .pure sBelow), (40, .pure Nt.s28), (41, .pure Nt.s31), (21, .pure Nt.s32), (42, .pure sHalf)]
@[simp] theorem CBr_P : CBr.P = Tryd.prog := rfl
@[simp] theorem CBr_G : CBr.G = G0 := rfl
@[simp] theorem CBr_1 : CBr.S 29 = .pure sValidF := rfl
@[simp] theorem CBr_2 : CBr.S 22 = .pure Nt.s21 := rfl
@[simp] theorem CBr_3 : CBr.S 38 = .pure Nt.s12 := rfl
@[simp] theorem CBr_4 : CBr.S 39 = .pure sBelow := rfl
@[simp] theorem CBr_5 : CBr.S 40 = .pure Nt.s28 := rfl
@[simp] theorem CBr_6 : CBr.S 41 = .pure Nt.s31 := rfl
@[simp] theorem CBr_7 : CBr.S 21 = .pure Nt.s32 := rfl
@[simp] theorem CBr_8 : CBr.S 42 = .pure sHalf := rfl
theorem mixCBr : CBr.P.follows .mixedOrders = true := mixed
theorem sigCBr : SigOK CBr := sigOK_cons (entryPure (validR) Tryd.func29 rfl (by decide)) (sigOK_cons (entryPure (Nt.of21) Tryd.func22 rfl (by decide)) (sigOK_cons (entryPure (Nt.pow12) Tryd.func38 rfl (by decide)) (sigOK_cons (entryPure (atMostR) Tryd.func39 rfl (by decide)) (sigOK_cons (entryPure (Nt.add28) Tryd.func40 rfl (by decide)) (sigOK_cons (entryPure (Nt.sub31) Tryd.func41 rfl (by decide)) (sigOK_cons (entryPure (Nt.cmp32) Tryd.func21 rfl (by decide)) (sigOK_cons (entryPure (halfR) Tryd.func42 rfl (by decide)) (sigOK_nil _ _))))))))
set_option maxHeartbeats 16000000 in
theorem boundR : PureOK Tryd.prog G0 12 sBound := by
  refine pureH2 (C := CBr) sigCBr mixCBr Tryd.func12 rfl rfl rfl [] (by kernel_rfl) (by decide) (fun n r hn => ?_)
  obtain ⟨b, hb⟩ : ∃ b, boundT n r = b := ⟨_, rfl⟩
  rw [hb]
  by_cases w1 : n < 1
  · rw [boundT_no (fun h => by have := h.1; omega)] at hb
    subst hb
    simp [w1]
  by_cases u2 : ValidF r
  case neg =>
    rw [boundT_no (fun h => u2 h.2.1)] at hb
    subst hb
    simp [w1, sValidF, u2]
  by_cases w3 : r.N < 0
  · rw [boundT_no (fun h => by have := h.2.2; omega)] at hb
    subst hb
    simp [w1, sValidF, u2, w3]
  have u3 : 0 ≤ r.N := by omega
  have h2 : Usable n r := ⟨by omega, u2, u3⟩
  have hD1 := u2.1
  have hD : 0 ≤ r.D := by omega
  have hDN : 1 ≤ r.D.toNat := by omega
  have kD : I64 r.D := by have := u2.2.1; unfold I64; omega
  have kN : I64 r.N := by have := u2.2.2.1; unfold InR at this; unfold I64; omega
  have hl := lim_big
  have n1 : n.toNat < LimN := by unfold I64 at hn; omega
  have o1 : (1 : Nat) < LimN := by omega
  have o2 : (2 : Nat) < LimN := by omega
  have i1 : I64 1 := by unfold I64; omega
  have i2 : I64 2 := by unfold I64; omega
  clear hl
  by_cases hB : n.toNat ^ r.N.toNat < LimN
  case neg =>
    rw [boundT_big hB] at hb
    subst hb
    simp [w1, sValidF, u2, w3, Nt.s21, Nt.s12, hn, nvL n1, clL n1, powL_no u3 hB, kN]
  rw [boundT_yes h2 hB] at hb
  subst hb
  have hT1 : 1 ≤ n.toNat ^ r.N.toNat := Nat.pos_of_ne_zero fun h0 => by
    have := Nat.pow_le_pow_left (show 1 ≤ n.toNat by omega) r.N.toNat
    rw [Nat.one_pow] at this
    omega
  simp [w1, sValidF, u2, w3, Nt.s21, Nt.s12, hn, nvL n1, clL n1, powL u3 hB, kN]
  generalize n.toNat ^ r.N.toNat = T at *
  by_cases hbig : 2000 < r.D
  · have e := root_big (D := r.D.toNat) (by omega) hT1 hB
    simp [hbig, Nt.s21, i1, e]
  simp [hbig, Nt.s21, i1, i2]
  refine loop_ruleH (C := CBr) sigCBr mixCBr [] (fun q : Nat × Nat => ⟨[(3, .ptr 0 1 2 0 0), (6, Enc.enc (Nt.canon T)), (8, Enc.enc (Nt.canon q.1)), (9, Enc.enc (Nt.canon q.2))], [FB r]⟩) (fun q => q.1 ^ r.D.toNat ≤ T ∧ q.1 < q.2 ∧ q.2 < LimN) (fun q => LimN - q.2) (by kernel_rfl) ⟨(1, 2), ⟨by rw [Nat.one_pow]; exact hT1, by decide, o2⟩, weak_eq (by simp) (by simp [FB])⟩ (fun ⟨lo, hi⟩ ⟨p1, p2, p3⟩ => ?_)
  simp only at p1 p2 p3 ⊢
  have tail : ∀ (lo hi : Nat), lo ^ r.D.toNat ≤ T → lo < hi → hi < LimN → T < hi ^ r.D.toNat → True := fun _ _ _ _ _ _ => trivial
  by_cases hA : hi ^ r.D.toNat ≤ T
  · have hle : hi ≤ T := by
      have := Nat.pow_le_pow_right (n := hi) (by omega) hDN
      rw [Nat.pow_one] at this
      omega
    by_cases hF : hi + hi < LimN
    · have hne : ¬ (Nt.canon (hi + hi)).length = 0 := fun h => by
        have := List.length_eq_zero_iff.1 h
        have h2 := Nt.val_canon (hi + hi)
        rw [this] at h2
        have h2 : 0 = hi + hi := h2
        omega
      have hne' : ¬ Nt.canon (hi + hi) = [] := fun h => hne (by rw [h]; rfl)
      simp [FB, sBelow, nvL p3, nvL hB, clL p3, clL hB, kD, hD, hB, hA, Nt.s28, fitL hF, hne, hne']
      exact ⟨hi, hi + hi, ⟨hA, by omega, hF⟩, by omega, weak_eq (by simp) (by simp [FB])⟩
    · have hD1' : r.D.toNat = 1 := by
        apply Classical.byContradiction
        intro hne
        have h1 := lim_sq (h := hi) (by omega)
        have h2 := Nat.pow_le_pow_right (n := hi) (by omega) (show 2 ≤ r.D.toNat by omega)
        omega
      have e : rootN r.D.toNat T = T := by rw [hD1']; exact root_one T
      simp [FB, sBelow, nvL p3, nvL hB, clL p3, clL hB, kD, hD, hB, hA, Nt.s28, fitL_no hF, e]
  · simp [FB, sBelow, nvL p3, nvL hB, clL p3, clL hB, kD, hD, hB, hA]
    refine loop_ruleH (C := CBr) sigCBr mixCBr [] (fun q : Nat × Nat => ⟨[(3, .ptr 0 1 2 0 0), (6, Enc.enc (Nt.canon T)), (8, Enc.enc (Nt.canon q.1)), (9, Enc.enc (Nt.canon q.2))], [FB r]⟩) (fun q => q.1 ^ r.D.toNat ≤ T ∧ q.1 < q.2 ∧ q.2 < LimN ∧ T < q.2 ^ r.D.toNat) (fun q => q.2 - q.1) (by kernel_rfl) ⟨(lo, hi), ⟨p1, p2, p3, Nat.lt_of_not_le hA⟩, weak_eq (by simp) (by simp [FB])⟩ (fun ⟨lo, hi⟩ ⟨p1, p2, p3, p4⟩ => ?_)
    simp only at p1 p2 p3 p4 ⊢
    have l1 : lo < LimN := by omega
    have l2 : hi - lo < LimN := by omega
    have l3 : lo + (hi - lo) / 2 < LimN := by omega
    have l4 : (hi - lo) / 2 < LimN := by omega
    have hcl := Nt.canon_len 64 (hi - lo) l2
    have hcl2 : (Nt.canon (hi - lo)).length ≤ 1000 := by omega
    have hcg := Nt.canon_good (hi - lo)
    by_cases hg : hi - lo ≤ 1
    · have hg' : Nt.cmpN (hi - lo) 1 ≤ 0 := Nt.cmpN_le.2 hg
      have e : rootN r.D.toNat T = lo := root_eq hDN ⟨p1, by rw [show lo + 1 = hi by omega]; exact p4⟩
      simp [FB, Nt.s31, Nt.s21, Nt.s32, i1, nvL p3, nvL l1, nvL l2, nvL o1, clL p3, clL l1, clL l2, clL o1, hg', e]
    · have hg' : ¬ Nt.cmpN (hi - lo) 1 ≤ 0 := fun h => hg (Nt.cmpN_le.1 h)
      by_cases hM : (lo + (hi - lo) / 2) ^ r.D.toNat ≤ T
      · simp [FB, Nt.s31, Nt.s21, Nt.s32, Nt.s28, sHalf, sBelow, i1, nvL p3, nvL l1, nvL l2, nvL l3, nvL l4, nvL o1, nvL hB, clL p3, clL l1, clL l2, clL l3, clL l4, clL o1, clL hB, hg', hcl2, hcg, Nt.val_canon, fitL l3, kD, hD, hB, hM]
        exact ⟨lo + (hi - lo) / 2, hi, ⟨hM, by omega, p3, p4⟩, by omega, weak_eq (by simp) (by simp [FB])⟩
      · simp [FB, Nt.s31, Nt.s21, Nt.s32, Nt.s28, sHalf, sBelow, i1, nvL p3, nvL l1, nvL l2, nvL l3, nvL l4, nvL o1, nvL hB, clL p3, clL l1, clL l2, clL l3, clL l4, clL o1, clL hB, hg', hcl2, hcg, Nt.val_canon, fitL l3, kD, hD, hB, hM]
        exact ⟨lo, lo + (hi - lo) / 2, ⟨p1, by omega, l3, by omega⟩, by omega, weak_eq (by simp) (by simp [FB])⟩
end Go.Proofs.YtfoipbjhaiimlaaDoor


/-
  layer 31: Bound.
-/
namespace Go.Proofs.YtfoipbjhaiimlaaDoor
open Go.RowKit
set_option linter.unusedSimpArgs false
set_option linter.unusedVariables false
set_option maxRecDepth 100000

def sBack : List AV → Option (Prop × AV) := spec1 (fun (l : List (List Int)) => True) (fun l => .fn 65 [.iptr [Enc.enc l]])
theorem backP : PureOK Tryd.prog G0 36 sBack := by
  refine pureH1 (C := CE) sigCE mixCE Tryd.func36 rfl rfl rfl [] (by kernel_rfl) (by decide) (fun l _ => ?_)
  simp
def powsN (j : Nat) : List (List Int) := (List.range (j + 1)).map fun i => Nt.canon (2 ^ i)
theorem pows_len (j : Nat) : (powsN j).length = j + 1 := by simp [powsN]
theorem pows_succ (j : Nat) : powsN (j + 1) = powsN j ++ [Nt.canon (2 ^ (j + 1))] := by
  unfold powsN
  rw [List.range_succ (n := j + 1), List.map_append]; rfl
theorem pows_get {j i : Nat} (h : i ≤ j) : (powsN j)[i]? = some (Nt.canon (2 ^ i)) := by
  unfold powsN
  rw [List.getElem?_map, List.getElem?_range (by omega)]; rfl
def PWB (j : Nat) : Blk := ⟨32, 1, encRows (powsN j), true, true⟩
def PWF (j : Nat) : Blk := ⟨32, 1, encRows (powsN j), false, true⟩
theorem pows_rows (l : List (List Int)) : (l.map Enc.enc).map (fun v : AV => [v]) = encRows l := by
  unfold encRows
  rw [List.map_map]; rfl
theorem pows_at {j k : Nat} {v : AV} (hk : k < j + 1) (h : ((powsN j).map Enc.enc)[j + 1 - 1 - k]? = some v) : v = Enc.enc (Nt.canon (2 ^ (j - k))) := by
  rw [List.getElem?_map, show j + 1 - 1 - k = j - k by omega, pows_get (by omega)] at h
  injection h with h
  exact h.symm
def outF (b m : Nat) : Nat → Nat
  | 0 => 0
  | k + 1 => if outF b m k + 2 ^ (m - k) ≤ b then outF b m k + 2 ^ (m - k) else outF b m k
theorem outF_inv {b m : Nat} (hb : b < 2 ^ (m + 1)) : ∀ k, k ≤ m + 1 → outF b m k ≤ b ∧ b < outF b m k + 2 ^ (m + 1 - k)
  | 0, _ => ⟨Nat.zero_le _, by simpa [outF] using hb⟩
  | k + 1, h => by
    obtain ⟨h1, h2⟩ := outF_inv hb k (by omega)
    have e : 2 ^ (m + 1 - k) = 2 ^ (m - k) + 2 ^ (m - k) := by
      rw [show m + 1 - k = (m - k) + 1 by omega, Nat.pow_succ]; omega
    rw [show m + 1 - (k + 1) = m - k by omega]
    unfold outF
    split
    · rename_i h3; exact ⟨h3, by omega⟩
    · rename_i h3; exact ⟨h1, by omega⟩
theorem outF_fin {b m : Nat} (hb : b < 2 ^ (m + 1)) : outF b m (m + 1) = b := by
  obtain ⟨h1, h2⟩ := outF_inv hb (m + 1) (Nat.le_refl _)
  rw [Nat.sub_self] at h2
  omega
theorem outF_nx {bb j k : Nat} (hj : 2 ^ j < LimN) (hk : k < j + 1) : 2 ^ (j - k) < LimN ∧ outF bb j (k + 1) = if outF bb j k + 2 ^ (j - k) ≤ bb then outF bb j k + 2 ^ (j - k) else outF bb j k := by
  refine ⟨?_, rfl⟩
  have := Nat.pow_le_pow_right (n := 2) (by decide) (show j - k ≤ j by omega)
  omega
def NaB (n : Nat) : Blk := ⟨32, 1, [[Enc.enc (Nt.canon n)]], true, true⟩
def SfB (r : Fr) (T : Nat) : Nat → ASt
  | 0 => ⟨[(3, .ptr 0 1 2 0 0), (6, .ptr 1 1 1 0 0), (8, .slice 1 true [[Enc.enc (Nt.canon 1)]])], [FB r, NaB T]⟩
  | j + 1 => ⟨[(3, .ptr 0 1 2 0 0), (6, .ptr 1 1 1 0 0), (8, .own 2 (j + 2))], [FB r, NaB T, PWB (j + 1)]⟩
def sMulN : List AV → Option (Prop × AV) := spec2 (fun (a b : List Int) => a.length ≤ 1000000 ∧ b.length ≤ 1000000) (fun a b => Nt.fitT (Nt.nv a * Nt.nv b))
noncomputable def CBo : Ctx := mkC Tryd.prog G0 [(31, .pure sUsable), (33, .pure Nt.s20), (32, .pure Nt.s11), (34, .pure sMulN), (37, .pure Nt.s22), (35, .pure sBelow), (36, .frz sBack)]
@[simp] theorem CBo_P : CBo.P = Tryd.prog := rfl
@[simp] theorem CBo_G : CBo.G = G0 := rfl
@[simp] theorem CBo_1 : CBo.S 31 = .pure sUsable := rfl
@[simp] theorem CBo_2 : CBo.S 33 = .pure Nt.s20 := rfl
@[simp] theorem CBo_3 : CBo.S 32 = .pure Nt.s11 := rfl
@[simp] theorem CBo_4 : CBo.S 34 = .pure sMulN := rfl
@[simp] theorem CBo_5 : CBo.S 37 = .pure Nt.s22 := rfl
@[simp] theorem CBo_6 : CBo.S 35 = .pure sBelow := rfl
@[simp] theorem CBo_7 : CBo.S 36 = .frz sBack := rfl
theorem mixCBo : CBo.P.follows .mixedOrders = true := mixed
theorem sigCBo : SigOK CBo := sigOK_cons (entryPure (usableP) Tryd.func31 rfl (by decide)) (sigOK_cons (entryPure (Nt.of20) Tryd.func33 rfl (by decide)) (sigOK_cons (entryPure (Nt.pow11) Tryd.func32 rfl (by decide)) (sigOK_cons (entryPure (Nt.mul15) Tryd.func34 rfl (by decide)) (sigOK_cons (entryPure (Nt.add22) Tryd.func37 rfl (by decide)) (sigOK_cons (entryPure (belowP) Tryd.func35 rfl (by decide)) (sigOK_cons (entryFrz (backP) Tryd.func36 rfl (by decide)) (sigOK_nil _ _)))))))
theorem outOf_norm {Q : Exit → ASt → Prop} {ex : Exit} {st : ASt} (h : ex = .normal ∨ ex = .exit 0) : outOf 0 Q ex st = Q .normal st := by
  rcases h with rfl | rfl <;> rfl
set_option maxHeartbeats 16000000 in
theorem boundP : PureOK Tryd.prog G0 11 sBound := by
  refine pure2X (C := CBo) Tryd.func11 rfl rfl (by decide) (fun n r hn => ?_)
  obtain ⟨b, hb⟩ : ∃ b, boundT n r = b := ⟨_, rfl⟩
  rw [hb]
  refine AWX_seq (C := CBo) sigCBo mixCBo [] (by kernel_rfl) ?_
  simp
  refine AWX_seq (C := CBo) sigCBo mixCBo [] (by kernel_rfl) ?_
  by_cases hu : Usable n r
  case neg =>
    rw [boundT_no hu] at hb
    subst hb
    simp [hn, sUsable, hu]
  simp [hn, sUsable, hu]
  refine AWX_seq (C := CBo) sigCBo mixCBo [3] (by kernel_rfl) ?_
  have u2 := hu.2.1
  have u3 := hu.2.2
  have hD1 := u2.1
  have hD : 0 ≤ r.D := by omega
  have hDN : 1 ≤ r.D.toNat := by omega
  have kD : I64 r.D := by have := u2.2.1; unfold I64; omega
  have kN : I64 r.N := by have := u2.2.2.1; unfold InR at this; unfold I64; omega
  have hl := lim_big
  have n1 : n.toNat < LimN := by unfold I64 at hn; omega
  have o1 : (1 : Nat) < LimN := by omega
  have o2 : (2 : Nat) < LimN := by omega
  have i1 : I64 1 := by unfold I64; omega
  have i2 : I64 2 := by unfold I64; omega
  have i0 : I64 0 := by unfold I64; omega
  clear hl
  by_cases hB : n.toNat ^ r.N.toNat < LimN
  case neg =>
    rw [boundT_big hB] at hb
    subst hb
    simp
    refine AW_regionF sigCBo mixCBo [.pure, .read, .pure, .read, .read, .pure, .pure, .pure, .eff, .eff, .pure] [[],[0],[],[2],[2,3,0,1],[1,0,3,2,4],[4,2,3,0,1,5],[4,2,3,0,1,5],[],[5,1,0,3,2,4,6,8],[8,6,9,5,1,0,3,2,4,7]] (by kernel_rfl) (by kernel_rfl) (by kernel_rfl) (by kernel_rfl) ?_
    simp [Nt.s20, Nt.s11, hn, nvL n1, clL n1, powL_no u3 hB, kN]
    refine AWX_seq (C := CBo) sigCBo mixCBo [] (by kernel_rfl) ?_
    simp
  rw [boundT_yes hu hB] at hb
  subst hb
  simp
  refine AW_regionF sigCBo mixCBo [.pure, .read, .pure, .read, .read, .pure, .pure, .pure, .eff, .eff, .pure] [[],[0],[],[2],[2,3,0,1],[1,0,3,2,4],[4,2,3,0,1,5],[4,2,3,0,1,5],[],[5,1,0,3,2,4,6,8],[8,6,9,5,1,0,3,2,4,7]] (by kernel_rfl) (by kernel_rfl) (by kernel_rfl) (by kernel_rfl) ?_
  simp [Nt.s20, Nt.s11, hn, nvL n1, clL n1, powL u3 hB, kN]
  have hTpos : 1 ≤ n.toNat ^ r.N.toNat := Nat.pos_of_ne_zero fun h0 => by
    have := Nat.pow_le_pow_left (show 1 ≤ n.toNat by have := hu.1; omega) r.N.toNat
    rw [Nat.one_pow] at this
    omega
  generalize n.toNat ^ r.N.toNat = T at *
  refine AWX_seq (C := CBo) sigCBo mixCBo [] (by kernel_rfl) ?_
  simp
  refine AWX_seq (C := CBo) sigCBo mixCBo [] (by kernel_rfl) ?_
  by_cases hd1 : r.D = 1
  · have e : rootN 1 T = T := root_one T
    simp [hd1, e]
  simp [hd1]
  refine AWX_seq (C := CBo) sigCBo mixCBo [] (by kernel_rfl) ?_
  simp [Nt.s20, i1]
  refine AWX_seq (C := CBo) sigCBo mixCBo [] (by kernel_rfl) ?_
  simp
  have hT1 : 1 ≤ T := hTpos
  refine AW.mono (Q := outOf 0 (fun ex st' => ex = .normal ∧ ∃ j, j ≤ 2000 ∧ 2 ^ j < LimN ∧ rootN r.D.toNat T < 2 ^ (j + 1) ∧ Weak CBo 82 0 st' (SfB r T j))) ?_ ?_
  · refine loop_ruleH (C := CBo) sigCBo mixCBo [9] (SfB r T) (fun j => j ≤ 2000 ∧ 2 ^ j < LimN ∧ (2 ^ j) ^ r.D.toNat ≤ T) (fun j => 2000 - j) (by kernel_rfl) ⟨0, ⟨by omega, o1, by simpa using hT1⟩, weak_eq (by simp) (by simp [FB, NaB])⟩ (fun j ⟨hj1, hj2, hj3⟩ => ?_)
    have hF2 : ∀ h : 2 ^ (j + 1) < LimN, j + 1 ≤ 2000 := fun h => by
      apply Classical.byContradiction
      intro hc
      have := lim_two (a := 30) (b := 64) (k := j + 1) (Nat.pow_le_pow_left (by decide) 64) (by omega)
      omega
    have hex1 : ¬ 2 ^ (j + 1) < LimN → rootN r.D.toNat T < 2 ^ (j + 1) := fun h => by
      have := root_le (T := T) hDN
      omega
    have hex2 : ¬ (2 ^ (j + 1)) ^ r.D.toNat ≤ T → rootN r.D.toNat T < 2 ^ (j + 1) := fun h => by
      have := mt (le_root (T := T) (c := 2 ^ (j + 1)) hDN).1 h
      omega
    have hn1 : 2 ^ j * 2 = 2 ^ (j + 1) := by rw [Nat.pow_succ]
    cases j with
    | zero =>
      rw [show SfB r T 0 = ⟨[(3, .ptr 0 1 2 0 0), (6, .ptr 1 1 1 0 0), (8, .slice 1 true [[Enc.enc (Nt.canon 1)]])], [FB r, NaB T]⟩ from rfl]
      simp [FB, NaB]
      refine AW_regionF sigCBo mixCBo [.pure, .pure, .pure, .pure, .pure, .read, .read, .read, .pure, .pure, .pure, .pure, .pure] [[],[],[1],[1,2],[2,1,3,0],[0,3,1,2,4],[],[6,4,2,1,3,0,5],[5,0,3,1,2,4,6,7],[7,6,4,2,1,3,0,5,8],[7,6,4,2,1,3,0,5,8],[8,5,0,3,1,2,4,6,7,9],[9,11,8,5,0,3,1,2,4,6,7,10]] (by kernel_rfl) (by kernel_rfl) (by kernel_rfl) (by kernel_rfl) ?_
      by_cases hA : 2 ^ r.D.toNat ≤ T
      · simp [Nt.s20, sMulN, i2, i1, i0, nvL o1, nvL o2, clL o1, clL o2, fitL o2, sBelow, nvL hB, clL hB, kD, hD, hB, hA]
        exact ⟨1, ⟨by omega, by simpa using o2, by simpa using hA⟩, by omega, weak_eq (by simp) (by simp [FB, NaB, PWB, powsN, List.range_succ, encRows_append, encRows_cons, encRows_nil])⟩
      · simp [Nt.s20, sMulN, i2, i1, i0, nvL o1, nvL o2, clL o1, clL o2, fitL o2, sBelow, nvL hB, clL hB, kD, hD, hB, hA]
        exact ⟨0, by omega, o1, hex2 (by simpa using hA), weak_eq (by simp) (by simp [FB, NaB])⟩
    | succ j =>
      have hlen := pows_len (j + 1)
      have hix : ix (powsN (j + 1)) (j + 1) = Nt.canon (2 ^ (j + 1)) := by
        unfold ix
        rw [List.getD_eq_getElem?_getD, pows_get (Nat.le_refl _)]; rfl
      have hlt : j + 1 < (powsN (j + 1)).length := by rw [hlen]; omega
      have hi1 : w64 ((j : Int) + 2 - 1) = (j : Int) + 1 := by rw [w64_in (by unfold I64; omega)]; omega
      have hi4 : (0 : Int) ≤ (j : Int) + 1 := by omega
      have hi5 : (j : Int) + 1 < (j : Int) + 2 := by omega
      have hi2 : ((j : Int) + 1).toNat = j + 1 := by omega
      have hi3 : I64 ((j : Int) + 1) := by unfold I64; omega
      have hap : encRows (powsN (j + 1)) ++ [[Enc.enc (Nt.canon (2 ^ (j + 1 + 1)))]] = encRows (powsN (j + 1 + 1)) := by
        rw [pows_succ (j + 1), encRows_append]; rfl
      rw [show SfB r T (j + 1) = ⟨[(3, .ptr 0 1 2 0 0), (6, .ptr 1 1 1 0 0), (8, .own 2 (j + 2))], [FB r, NaB T, PWB (j + 1)]⟩ from rfl]
      generalize hp2 : 2 ^ (j + 1) = p2 at *
      simp [FB, NaB, PWB, hlen]
      refine AW_regionF sigCBo mixCBo [.pure, .pure, .pure, .pure, .pure, .read, .read, .read, .pure, .pure, .pure, .pure, .pure] [[],[],[1],[1,2],[2,1,3,0],[0,3,1,2,4],[],[6,4,2,1,3,0,5],[5,0,3,1,2,4,6,7],[7,6,4,2,1,3,0,5,8],[7,6,4,2,1,3,0,5,8],[8,5,0,3,1,2,4,6,7,9],[9,11,8,5,0,3,1,2,4,6,7,10]] (by kernel_rfl) (by kernel_rfl) (by kernel_rfl) (by kernel_rfl) ?_
      by_cases hF : p2 * 2 < LimN
      · by_cases hA : (p2 * 2) ^ r.D.toNat ≤ T
        · simp [Nt.s20, sMulN, i2, hi1, hi2, hi3, hi4, hi5, hlen, rowAt_enc hlt, hix, nvL hj2, nvL o2, clL hj2, clL o2, nvL hF, clL hF, fitL hF, sBelow, nvL hB, clL hB, kD, hD, hB, hA]
          have hj4 := hF2 (by rw [← hn1]; exact hF)
          exact ⟨by omega, j + 2, ⟨hj4, by rw [← hn1]; exact hF, by rw [← hn1]; exact hA⟩, by omega, weak_eq (by simp) (by simp [FB, NaB, PWB, ← hap, hn1])⟩
        · simp [Nt.s20, sMulN, i2, hi1, hi2, hi3, hi4, hi5, hlen, rowAt_enc hlt, hix, nvL hj2, nvL o2, clL hj2, clL o2, nvL hF, clL hF, fitL hF, sBelow, nvL hB, clL hB, kD, hD, hB, hA]
          exact ⟨j + 1, hj1, by rw [hp2]; exact hj2, hex2 (by rw [← hn1]; exact hA), weak_eq (by simp) (by simp [FB, NaB, PWB])⟩
      · simp [Nt.s20, sMulN, i2, hi1, hi2, hi3, hi4, hi5, hlen, rowAt_enc hlt, hix, nvL hj2, nvL o2, clL hj2, clL o2, fitL_no hF]
        exact ⟨j + 1, hj1, by rw [hp2]; exact hj2, hex1 (by rw [← hn1]; exact hF), weak_eq (by simp) (by simp [FB, NaB, PWB])⟩
  · intro ex st' h
    obtain ⟨hex, j, hj1, hj2, hj3, hw⟩ : (ex = .normal ∨ ex = .exit 0) ∧ ∃ j, j ≤ 2000 ∧ 2 ^ j < LimN ∧ rootN r.D.toNat T < 2 ^ (j + 1) ∧ Weak CBo 82 0 st' (SfB r T j) := by
      cases ex with
      | normal => exact ⟨.inl rfl, h.2⟩
      | exit i =>
        by_cases hi : i = 0
        · subst hi; exact ⟨.inr rfl, h.2⟩
        · have h : (if i = 0 then _ else _) := h
          rw [if_neg hi] at h
          exact absurd h.1 (by simp)
      | _ => exact absurd h.1 (by simp)
    rw [outOf_norm hex]
    show AWX _ _ _ _ _ _
    refine AWX.weak hw ?_
    clear hw hex h st' ex
    generalize hbb : rootN r.D.toNat T = bb at *
    have hle : ∀ c, c ≤ bb ↔ c ^ r.D.toNat ≤ T := fun c => by rw [← hbb]; exact le_root hDN
    have hbT : bb ≤ T := by rw [← hbb]; exact root_le hDN
    refine AWX_seq (C := CBo) sigCBo mixCBo [] (by kernel_rfl) ?_
    cases j with
    | zero =>
      rw [show SfB r T 0 = ⟨[(3, .ptr 0 1 2 0 0), (6, .ptr 1 1 1 0 0), (8, .slice 1 true [[Enc.enc (Nt.canon 1)]])], [FB r, NaB T]⟩ from rfl]
      simp [FB, NaB, Nt.s20, i0]
      refine AWX_seq2 (C := CBo) sigCBo mixCBo [] (by kernel_rfl) ?_
      simp [sBack]
      refine AWXb.weak (st' := ⟨[(3, .ptr 0 1 2 0 0), (6, .ptr 1 1 1 0 0), (11, .ptr 2 1 1 0 0), (63, .fn 65 [.iptr [.slice 1 false (encRows (powsN 0))]])], [FB r, NaB T, NaB 0]⟩) (weak_eq ?_ ?_) ?_
      · simp [powsN, List.range_succ]
      · simp [FB, NaB, PWF]
      refine range_back (C := CBo) rfl sigCBo (vs := (powsN 0).map Enc.enc) (by rw [pows_rows]; simp [getA]) (by rw [List.length_map, pows_len]; omega) (by rw [List.length_map, pows_len]; omega) (by decide) (by decide) (by kernel_rfl) (by kernel_rfl) (by kernel_rfl) (fun k => [FB r, NaB T, NaB (outF bb 0 k)]) rfl (fun k v hk hv => ?_) ?_
      · rw [List.length_map, pows_len] at hk hv ⊢
        obtain rfl := pows_at hk hv
        obtain ⟨ho1, ho2⟩ := outF_inv hj3 k (by omega)
        obtain ⟨hp1, hnx⟩ := outF_nx (bb := bb) hj2 hk
        generalize outF bb 0 (k + 1) = o' at *
        generalize outF bb 0 k = o at *
        generalize 2 ^ (0 - k) = p at *
        have hoL : o < LimN := by omega
        simp [putA]
        by_cases hF : o + p < LimN
        · by_cases hA : (o + p) ^ r.D.toNat ≤ T
          · rw [if_pos ((hle _).2 hA)] at hnx
            subst hnx
            simp [FB, NaB, PWF, Nt.s22, nvL hoL, clL hoL, nvL hp1, clL hp1, fitL hF, nvL hF, clL hF, sBelow, nvL hB, clL hB, kD, hD, hB, hA]
          · rw [if_neg (mt (hle _).1 hA)] at hnx
            subst hnx
            simp [FB, NaB, PWF, Nt.s22, nvL hoL, clL hoL, nvL hp1, clL hp1, fitL hF, nvL hF, clL hF, sBelow, nvL hB, clL hB, kD, hD, hB, hA]
        · rw [if_neg (by omega)] at hnx
          subst hnx
          simp [FB, NaB, PWF, Nt.s22, nvL hoL, clL hoL, nvL hp1, clL hp1, fitL_no hF]
      · rw [List.length_map, pows_len, outF_fin hj3]
        simp [FB, NaB, PWF]
    | succ j =>
      rw [show SfB r T (j + 1) = ⟨[(3, .ptr 0 1 2 0 0), (6, .ptr 1 1 1 0 0), (8, .own 2 (j + 2))], [FB r, NaB T, PWB (j + 1)]⟩ from rfl]
      simp [FB, NaB, PWB, Nt.s20, i0, pows_len]
      refine AWX_seq2 (C := CBo) sigCBo mixCBo [] (by kernel_rfl) ?_
      simp [sBack, pows_len]

      refine AWXb.weak (st' := ⟨[(3, .ptr 0 1 2 0 0), (6, .ptr 1 1 1 0 0), (11, .ptr 3 1 1 0 0), (63, .fn 65 [.iptr [.slice 1 false (encRows (powsN (j + 1)))]])], [FB r, NaB T, PWF (j + 1), NaB 0]⟩) (weak_eq ?_ ?_) ?_
      · simp
      · simp [FB, NaB, PWF]
      refine range_back (C := CBo) rfl sigCBo (vs := (powsN (j + 1)).map Enc.enc) (by rw [pows_rows]; simp [getA]) (by rw [List.length_map, pows_len]; omega) (by rw [List.length_map, pows_len]; omega) (by decide) (by decide) (by kernel_rfl) (by kernel_rfl) (by kernel_rfl) (fun k => [FB r, NaB T, PWF (j + 1), NaB (outF bb (j + 1) k)]) rfl (fun k v hk hv => ?_) ?_
      · rw [List.length_map, pows_len] at hk hv ⊢
        obtain rfl := pows_at hk hv
        obtain ⟨ho1, ho2⟩ := outF_inv hj3 k (by omega)
        obtain ⟨hp1, hnx⟩ := outF_nx (bb := bb) hj2 hk
        generalize outF bb (j + 1) (k + 1) = o' at *
        generalize outF bb (j + 1) k = o at *
        generalize 2 ^ ((j + 1) - k) = p at *
        have hoL : o < LimN := by omega
        simp [putA]
        by_cases hF : o + p < LimN
        · by_cases hA : (o + p) ^ r.D.toNat ≤ T
          · rw [if_pos ((hle _).2 hA)] at hnx
            subst hnx
            simp [FB, NaB, PWF, Nt.s22, nvL hoL, clL hoL, nvL hp1, clL hp1, fitL hF, nvL hF, clL hF, sBelow, nvL hB, clL hB, kD, hD, hB, hA]
          · rw [if_neg (mt (hle _).1 hA)] at hnx
            subst hnx
            simp [FB, NaB, PWF, Nt.s22, nvL hoL, clL hoL, nvL hp1, clL hp1, fitL hF, nvL hF, clL hF, sBelow, nvL hB, clL hB, kD, hD, hB, hA]
        · rw [if_neg (by omega)] at hnx
          subst hnx
          simp [FB, NaB, PWF, Nt.s22, nvL hoL, clL hoL, nvL hp1, clL hp1, fitL_no hF]
      · rw [List.length_map, pows_len, outF_fin hj3]
        simp [FB, NaB, PWF]
end Go.Proofs.YtfoipbjhaiimlaaDoor


/-
  layer 31: the examples.
-/
namespace Go.Proofs.YtfoipbjhaiimlaaDoor
open Go.RowKit
set_option linter.unusedSimpArgs false
set_option linter.unusedVariables false
set_option maxRecDepth 100000

def triC : Lin := ⟨[[F11, F01, F11], [F11, F11, F01], [F01, F11, F11]], [F11, F11, F11], [F11, F11, F11]⟩
theorem lin_tri : linH triH = triC := by kernel_rfl
theorem prog_tri : progH triH = (triC, 0) := by
  unfold progH
  rw [if_neg (by decide), if_pos (by decide), lin_tri]
theorem exC : solveN 20 triC = some ([Fh, Fh, Fh], ⟨3, 2⟩, 0) := by kernel_rfl
theorem svC : solveF triC = ([Fh, Fh, Fh], ⟨3, 2⟩, 0) := (solveN_eq exC).2
theorem rho_tri : rhoH triH = (⟨3, 2⟩, [Fh, Fh, Fh], 0) := by
  unfold rhoH
  rw [prog_tri, if_neg (by decide), svC, if_neg (by decide)]
theorem small_tri : SmallH triH := by
  refine ⟨?_, ?_⟩ <;> decide
theorem us1 (n : Int) (h : 1 ≤ n) : Usable n ⟨3, 2⟩ := ⟨h, by decide, by decide⟩
theorem lim_small {n : Nat} (h : n ≤ 1000) : n < LimN := by have := lim_big; omega
theorem fits_tri8 : fitsB 8 4 ⟨3, 2⟩ = true := @decide_eq_true _ (Classical.propDecidable _) ⟨by decide, us1 4 (by decide), lim_small (by decide), lim_small (by decide), by decide⟩
theorem fits_tri9 : fitsB 9 4 ⟨3, 2⟩ = false := @decide_eq_false _ (Classical.propDecidable _) fun h => absurd h.2.2.2.2 (by decide)
theorem bound_tri : boundT 5 ⟨3, 2⟩ = .tup [Enc.enc (Nt.canon 11), .bool true] := by
  rw [boundT_yes (us1 5 (by decide)) (lim_small (by decide)), show rootN (Fr.D ⟨3, 2⟩).toNat ((5 : Int).toNat ^ (Fr.N ⟨3, 2⟩).toNat) = 11 from root_eq (by decide) ⟨by decide, by decide⟩]
theorem cov_tri : IsCovH triH [Fh, Fh, Fh] := ⟨by decide, rfl, by decide, by decide⟩
theorem canon11 : Nt.canon 11 = [11] := Nt.canon_val (l := [11]) (fun x hx => by rw [List.mem_singleton.1 hx]; decide) (fun _ => by decide)
noncomputable def CAlC : Ctx := mkC Tryd.prog G0 [(23, .pure (spec0 (Enc.enc triH))), (16, .pure sRho), (11, .pure sBound), (9, .pure sIsCover), (13, .pure sFits), (15, .pure Nt.s13)]
@[simp] theorem CAlC_P : CAlC.P = Tryd.prog := rfl
@[simp] theorem CAlC_G : CAlC.G = G0 := rfl
@[simp] theorem CAlC_1 : CAlC.S 23 = .pure (spec0 (Enc.enc triH)) := rfl
@[simp] theorem CAlC_2 : CAlC.S 16 = .pure sRho := rfl
@[simp] theorem CAlC_3 : CAlC.S 11 = .pure sBound := rfl
@[simp] theorem CAlC_4 : CAlC.S 9 = .pure sIsCover := rfl
@[simp] theorem CAlC_5 : CAlC.S 13 = .pure sFits := rfl
@[simp] theorem CAlC_6 : CAlC.S 15 = .pure Nt.s13 := rfl
theorem mixCAlC : CAlC.P.follows .mixedOrders = true := mixed
theorem sigCAlC : SigOK CAlC := sigOK_cons (entryPure (triHP) Tryd.func23 rfl (by decide)) (sigOK_cons (entryPure (rhoP) Tryd.func16 rfl (by decide)) (sigOK_cons (entryPure (boundP) Tryd.func11 rfl (by decide)) (sigOK_cons (entryPure (isCoverP) Tryd.func9 rfl (by decide)) (sigOK_cons (entryPure (fitsP) Tryd.func13 rfl (by decide)) (sigOK_cons (entryPure (Nt.same13) Tryd.func15 rfl (by decide)) (sigOK_nil _ _))))))
set_option maxHeartbeats 16000000 in
theorem aliveC : PureOK Tryd.prog G0 8 (spec0 (.bool true)) := by
  refine pureH0 (C := CAlC) sigCAlC mixCAlC Tryd.func8 rfl rfl rfl [] (by kernel_rfl) ?_
  have b1 := bound_tri
  have r1 := rho_tri
  have c1 := cov_tri
  simp only [Fh] at r1 c1
  have i4 : I64 4 := by unfold I64; omega
  have i5 : I64 5 := by unfold I64; omega
  have i8 : I64 8 := by unfold I64; omega
  have i9 : I64 9 := by unfold I64; omega
  have isc : isScalT CAlC 32 = true := by show isScalT ⟨Tryd.prog, fun _ => .no, G0⟩ 32 = true; kernel_rfl
  simp [sRho, small_tri, r1, sBound, b1, i5, i4, i8, i9, sIsCover, c1, sFits, fits_tri8, fits_tri9, Nt.s13, canon11]
end Go.Proofs.YtfoipbjhaiimlaaDoor


/-
  layer 31: the laws Checks, Fits and Greatest.
-/
namespace Go.Proofs.YtfoipbjhaiimlaaDoor
open Go.RowKit
set_option linter.unusedSimpArgs false
set_option linter.unusedVariables false
set_option maxRecDepth 100000

def FewH (h : Hy) : Prop := h.E.length ≤ 14 ∧ ∀ e ∈ h.E, e.length ≤ 30
instance (h : Hy) : Decidable (FewH h) := inferInstanceAs (Decidable (_ ∧ _))
theorem fewH_small {h : Hy} (k : FewH h) : SmallH h := ⟨by have := k.1; omega, fun e he => by have := k.2 e he; omega⟩
def sFewH : List AV → Option (Prop × AV) := spec1 (fun (_ : Hy) => True) (fun h => .bool (decide (FewH h)))
set_option maxHeartbeats 4000000 in
theorem fewHP : PureOK Tryd.prog G0 7 sFewH := by
  refine pure1 (C := CE) sigCE mixCE Tryd.func7 rfl rfl rfl (by kernel_rfl) (by decide) (fun l _ => ?_)
  obtain ⟨r, hr⟩ : ∃ r, decide (FewH l) = r := ⟨_, rfl⟩
  rw [hr]
  by_cases h1 : 14 < l.E.length
  · have h1' : (14 : Int) < l.E.length := by omega
    have hr0 : r = false := by rw [← hr]; exact decide_eq_false fun h => by have := h.1; omega
    simp [h1', hr0]
  have h1' : ¬ (14 : Int) < l.E.length := by omega
  simp [h1']
  refine loop_rule (C := CE) sigCE mixCE (fun q : Nat => ⟨[(1, .ptr 0 1 2 0 0), (10, .slice 1 false (encRows l.E)), (11, .int .i64 l.E.length), (12, .int .i64 q)], [HyB l]⟩) (fun q => q ≤ l.E.length ∧ ∀ j, j < q → (ix l.E j).length ≤ 30) (fun q => l.E.length - q) (by kernel_rfl) ⟨0, ⟨by simp, fun j hj => by simp at hj⟩, weak_eq (by simp) (by simp [HyB])⟩ (fun k ⟨hk, hall⟩ => ?_)
  by_cases hlt : k < l.E.length
  · have i1 : I64 ((k : Int) + 1) := by unfold I64; omega
    by_cases hlen : 30 < (ix l.E k).length
    · have hlen' : (30 : Int) < (ix l.E k).length := by omega
      have hr0 : r = false := by rw [← hr]; exact decide_eq_false fun h => by have := h.2 _ (ix_mem hlt); omega
      simp [HyB, hlt, rowAt_enc hlt, hlen', hr0]
    · have hlen' : ¬ (30 : Int) < (ix l.E k).length := by omega
      simp [HyB, hlt, rowAt_enc hlt, hlen', i1]
      refine ⟨k + 1, ⟨by omega, fun j hj => ?_⟩, by omega, weak_eq (by simp) (by simp [HyB])⟩
      rcases Nat.lt_or_eq_of_le (Nat.le_of_lt_succ hj) with hj | rfl
      · exact hall j hj
      · omega
  · obtain rfl : k = l.E.length := by omega
    have hr1 : r = true := by
      rw [← hr]
      refine decide_eq_true ⟨by omega, fun e he => ?_⟩
      obtain ⟨j, hj, rfl⟩ := List.getElem_of_mem he
      have := hall j hj
      rwa [ix_lt hj] at this
    simp [HyB, hr1]
noncomputable def CLc : Ctx := mkC Tryd.prog G0 [(7, .pure sFewH), (8, .pure (spec0 (.bool true))), (9, .pure sIsCover), (10, .pure sIsCover)]
@[simp] theorem CLc_P : CLc.P = Tryd.prog := rfl
@[simp] theorem CLc_G : CLc.G = G0 := rfl
@[simp] theorem CLc_1 : CLc.S 7 = .pure sFewH := rfl
@[simp] theorem CLc_2 : CLc.S 8 = .pure (spec0 (.bool true)) := rfl
@[simp] theorem CLc_3 : CLc.S 9 = .pure sIsCover := rfl
@[simp] theorem CLc_4 : CLc.S 10 = .pure sIsCover := rfl
theorem mixCLc : CLc.P.follows .mixedOrders = true := mixed
theorem sigCLc : SigOK CLc := sigOK_cons (entryPure (fewHP) Tryd.func7 rfl (by decide)) (sigOK_cons (entryPure (aliveC) Tryd.func8 rfl (by decide)) (sigOK_cons (entryPure (isCoverP) Tryd.func9 rfl (by decide)) (sigOK_cons (entryPure (isCoverR) Tryd.func10 rfl (by decide)) (sigOK_nil _ _))))
set_option maxHeartbeats 4000000 in
theorem lawChecks : PureOK Tryd.prog G0 3 (spec2 (fun (_ : Hy) (_ : List Fr) => True) (fun _ _ => .bool true)) := by
  refine pureH2 (C := CLc) sigCLc mixCLc Tryd.func3 rfl rfl rfl [3] (by kernel_rfl) (by decide) (fun h x _ => ?_)
  by_cases h1 : FewH h
  case neg => simp [sFewH, h1]
  by_cases h2 : 20 < x.length
  · have h2' : (20 : Int) < x.length := by omega
    simp [sFewH, h1, h2']
  · have h2' : ¬ (20 : Int) < x.length := by omega
    have hs := fewH_small h1
    have hx : x.length ≤ 1000 := by omega
    simp [sFewH, h1, h2']
    refine AW_regionF sigCLc mixCLc [.read, .pure, .read, .read, .pure, .read, .pure, .pure, .read, .pure, .pure] [[],[],[1,0],[],[],[0,1,2,4,3],[3,4,5,0,1,2],[2,1,0,5,4,3,6],[6,3,4,5,0,1,2,7],[8,6,3,4,5,0,1,2,7],[7,2,1,0,5,4,3,6,8,9]] (by kernel_rfl) (by kernel_rfl) (by kernel_rfl) (by kernel_rfl) ?_
    simp [sIsCover, hs, hx]
noncomputable def CLf : Ctx := mkC Tryd.prog G0 [(8, .pure (spec0 (.bool true))), (11, .pure sBound), (12, .pure sBound), (13, .pure sFits), (14, .pure sFits), (15, .pure Nt.s13)]
@[simp] theorem CLf_P : CLf.P = Tryd.prog := rfl
@[simp] theorem CLf_G : CLf.G = G0 := rfl
@[simp] theorem CLf_1 : CLf.S 8 = .pure (spec0 (.bool true)) := rfl
@[simp] theorem CLf_2 : CLf.S 11 = .pure sBound := rfl
@[simp] theorem CLf_3 : CLf.S 12 = .pure sBound := rfl
@[simp] theorem CLf_4 : CLf.S 13 = .pure sFits := rfl
@[simp] theorem CLf_5 : CLf.S 14 = .pure sFits := rfl
@[simp] theorem CLf_6 : CLf.S 15 = .pure Nt.s13 := rfl
theorem mixCLf : CLf.P.follows .mixedOrders = true := mixed
theorem sigCLf : SigOK CLf := sigOK_cons (entryPure (aliveC) Tryd.func8 rfl (by decide)) (sigOK_cons (entryPure (boundP) Tryd.func11 rfl (by decide)) (sigOK_cons (entryPure (boundR) Tryd.func12 rfl (by decide)) (sigOK_cons (entryPure (fitsP) Tryd.func13 rfl (by decide)) (sigOK_cons (entryPure (fitsRR) Tryd.func14 rfl (by decide)) (sigOK_cons (entryPure (Nt.same13) Tryd.func15 rfl (by decide)) (sigOK_nil _ _))))))
theorem boundT_form (n : Int) (r : Fr) : ∃ (l : List Int) (b : Bool), boundT n r = .tup [.slice 1 false (encRows l), .bool b] ∧ l.length ≤ 1000000 ∧ ∀ hn : I64 n, True := by
  by_cases h : Usable n r ∧ n.toNat ^ r.N.toNat < LimN
  · refine ⟨_, true, boundT_yes h.1 h.2, clL ?_, fun _ => trivial⟩
    have := root_le (D := r.D.toNat) (T := n.toNat ^ r.N.toNat) (by have := h.1.2.1.1; omega)
    omega
  · exact ⟨[], false, if_neg h, by simp, fun _ => trivial⟩
set_option maxHeartbeats 4000000 in
theorem lawFits : PureOK Tryd.prog G0 4 (spec3 (fun (c n : Int) (_ : Fr) => I64 c ∧ I64 n) (fun _ _ _ => .bool true)) := by
  refine pureH3 (C := CLf) sigCLf mixCLf Tryd.func4 rfl rfl rfl [5] (by kernel_rfl) (by decide) (fun c n r ⟨hc, hn⟩ => ?_)
  by_cases h1 : 3000 < r.D
  · simp [h1]
  obtain ⟨l, b, hb, hl, _⟩ := boundT_form n r
  simp [h1, sBound, hn, hb]
  refine AW_regionF sigCLf mixCLf [.pure, .pure, .read, .read, .pure, .pure, .read, .read, .pure, .pure, .pure, .pure, .read, .pure, .pure, .pure, .pure, .pure, .pure, .pure, .read, .pure, .pure] [[],[],[],[2,1,0],[],[],[],[0,1,2,3,6,5,4],[4,5,6,7,0,1,2,3],[3,2,1,0,7,6,5,4,8],[8,4,5,6,7,0,1,2,3,9],[8,4,5,6,7,0,1,2,3,9],[11,9,3,2,1,0,7,6,5,4,8,10],[10,11,12,8,4,5,6,7,0,1,2,3,9],[9,3,2,1,0,7,6,5,4,8,12,11,10,13],[13,10,11,12,8,4,5,6,7,0,1,2,3,9,14],[13,10,11,12,8,4,5,6,7,0,1,2,3,9,14],[16,14,9,3,2,1,0,7,6,5,4,8,12,11,10,13,15],[15,16,17,13,10,11,12,8,4,5,6,7,0,1,2,3,9,14],[14,9,3,2,1,0,7,6,5,4,8,12,11,10,13,17,16,15,18],[18,15,16,17,13,10,11,12,8,4,5,6,7,0,1,2,3,9,14,19],[20,18,15,16,17,13,10,11,12,8,4,5,6,7,0,1,2,3,9,14,19],[19,14,9,3,2,1,0,7,6,5,4,8,12,11,10,13,17,16,15,18,20,21]] (by kernel_rfl) (by kernel_rfl) (by kernel_rfl) (by kernel_rfl) ?_
  simp [sFits, hc, hn, Nt.s13, hl]
noncomputable def CLg : Ctx := mkC Tryd.prog G0 [(8, .pure (spec0 (.bool true))), (11, .pure sBound), (13, .pure sFits), (22, .pure Nt.s21), (21, .pure Nt.s32)]
@[simp] theorem CLg_P : CLg.P = Tryd.prog := rfl
@[simp] theorem CLg_G : CLg.G = G0 := rfl
@[simp] theorem CLg_1 : CLg.S 8 = .pure (spec0 (.bool true)) := rfl
@[simp] theorem CLg_2 : CLg.S 11 = .pure sBound := rfl
@[simp] theorem CLg_3 : CLg.S 13 = .pure sFits := rfl
@[simp] theorem CLg_4 : CLg.S 22 = .pure Nt.s21 := rfl
@[simp] theorem CLg_5 : CLg.S 21 = .pure Nt.s32 := rfl
theorem mixCLg : CLg.P.follows .mixedOrders = true := mixed
theorem sigCLg : SigOK CLg := sigOK_cons (entryPure (aliveC) Tryd.func8 rfl (by decide)) (sigOK_cons (entryPure (boundP) Tryd.func11 rfl (by decide)) (sigOK_cons (entryPure (fitsP) Tryd.func13 rfl (by decide)) (sigOK_cons (entryPure (Nt.of21) Tryd.func22 rfl (by decide)) (sigOK_cons (entryPure (Nt.cmp32) Tryd.func21 rfl (by decide)) (sigOK_nil _ _)))))
set_option maxHeartbeats 4000000 in
theorem lawGreatest : PureOK Tryd.prog G0 6 (spec3 (fun (c n : Int) (_ : Fr) => I64 c ∧ I64 n) (fun _ _ _ => .bool true)) := by
  refine pureH3 (C := CLg) sigCLg mixCLg Tryd.func6 rfl rfl rfl [] (by kernel_rfl) (by decide) (fun c n r ⟨hc, hn⟩ => ?_)
  by_cases h1 : 60 < r.D
  · simp [h1]
  by_cases h2 : Usable n r ∧ n.toNat ^ r.N.toNat < LimN
  · have hb := boundT_yes h2.1 h2.2
    have hD : 1 ≤ r.D.toNat := by have := h2.1.2.1.1; omega
    have hrt := root_le (T := n.toNat ^ r.N.toNat) hD
    have hrL : rootN r.D.toNat (n.toNat ^ r.N.toNat) < LimN := by have := h2.2; omega
    by_cases h3 : 0 ≤ c
    · have hcL : c.toNat < LimN := by have := lim_big; unfold I64 at hc; omega
      have key : fitsB c n r = decide (c.toNat ≤ rootN r.D.toNat (n.toNat ^ r.N.toNat)) := by
        unfold fitsB
        refine @Bool.eq_iff_iff _ _ |>.2 ?_
        rw [@decide_eq_true_iff _ (Classical.propDecidable _), decide_eq_true_iff, le_root hD]
        constructor
        · intro h; exact h.2.2.2.2
        · intro h; exact ⟨h3, h2.1, by have := h2.2; omega, h2.2, h⟩
      generalize rootN r.D.toNat (n.toNat ^ r.N.toNat) = rt at *
      simp [h1, sBound, hn, hb, sFits, hc, key, h3, Nt.s21, Nt.s32, nvL hcL, clL hcL, nvL hrL, clL hrL, Nt.cmpN_le]
    · have key : fitsB c n r = false := @decide_eq_false _ (Classical.propDecidable _) fun h => h3 h.1
      simp [h1, sBound, hn, hb, sFits, hc, key, h3]
  · have hb : boundT n r = .tup [.slice 1 false [], .bool false] := if_neg h2
    have key : fitsB c n r = false := @decide_eq_false _ (Classical.propDecidable _) fun h => h2 ⟨h.2.1, h.2.2.2.1⟩
    simp [h1, sBound, hn, hb, sFits, hc, key]
end Go.Proofs.YtfoipbjhaiimlaaDoor


/-
  layer 31: arguments read as hypergraphs.
-/
namespace Go.Proofs.YtfoipbjhaiimlaaDoor
open Go.RowKit
set_option linter.unusedSimpArgs false
set_option linter.unusedVariables false
set_option maxRecDepth 100000

theorem reads_is : Reads Tryd.prog 31 (List Int) (WfL I64) := reads_list (by kernel_rfl) (by kernel_rfl) (of_decide_eq_true (by kernel_rfl)) reads_i
theorem reads_iss : Reads Tryd.prog 22 (List (List Int)) (WfL (WfL I64)) := reads_list (e := 31) (by kernel_rfl) (by kernel_rfl) (of_decide_eq_true (by kernel_rfl)) reads_is
def WfHy (h : Hy) : Prop := I64 h.N ∧ WfL (WfL I64) h.E
theorem reads_hy : Reads Tryd.prog 24 Hy WfHy := fun n => by
  intro H enc w held cs x hx
  obtain ⟨m, rfl, hl, hf⟩ := struct_cells ⟨_, rfl⟩ hx
  obtain ⟨y0, t0⟩ := hf 0 0 3 (by kernel_rfl)
  obtain ⟨y1, t1⟩ := hf 1 1 22 (by kernel_rfl)
  obtain ⟨a, wa, ca⟩ := reads_i m enc w held _ _ t0
  obtain ⟨b, wb, cb⟩ := reads_iss m enc w held _ _ t1
  exact ⟨⟨a, b⟩, ⟨wa, wb⟩, CellsD.split (o := 0) (s := 1) ca (CellsD.split (s := 1) cb (CellsD.last (by rw [hl, show szT Tryd.prog 24 = 2 by kernel_rfl]; exact Nat.le_refl _)))⟩
end Go.Proofs.YtfoipbjhaiimlaaDoor


/-
  layer 31: covers as points of the program (plain).
-/
namespace Go.Proofs.YtfoipbjhaiimlaaDoor
open Go.RowKit
set_option linter.unusedSimpArgs false
set_option linter.unusedVariables false
set_option maxRecDepth 100000

def totV : List Fr → Rat
  | [] => 0
  | f :: r => V f + totV r
theorem totV_snoc (l : List Fr) (f : Fr) : totV (l ++ [f]) = totV l + V f := by
  induction l with
  | nil => simp only [List.nil_append, totV]; grind
  | cons a r ih => simp only [List.cons_append, totV, ih]; grind
theorem wt_pos {f : Fr} (h : WtF f) : 0 < f.D.toNat := by have := h.v.1; omega
theorem V_mul {f : Fr} (h : WtF f) : (f.N.toNat : Rat) = V f * (f.D.toNat : Rat) ∧ (0 : Rat) < (f.D.toNat : Rat) := by
  have h1 := h.v.1
  have h2 := h.n
  have e1 : ((f.N.toNat : Nat) : Rat) = (f.N : Rat) := by
    rw [← Rat.intCast_natCast]; congr 1; omega
  have e2 : ((f.D.toNat : Nat) : Rat) = (f.D : Rat) := by
    rw [← Rat.intCast_natCast]; congr 1; omega
  have c := cast_pos h1
  rw [e1, e2]
  refine ⟨?_, c⟩
  unfold V
  grind
theorem nd_sum : ∀ (l : List Fr), (∀ f ∈ l, WtF f) → ((ndF l).1 : Rat) = totV l * ((ndF l).2 : Rat) ∧ (0 : Rat) < ((ndF l).2 : Rat) := by
  refine fun l => snoc_ind (p := fun l => (∀ f ∈ l, WtF f) → ((ndF l).1 : Rat) = totV l * ((ndF l).2 : Rat) ∧ (0 : Rat) < ((ndF l).2 : Rat)) ?_ ?_ l
  · intro _
    refine ⟨?_, ?_⟩
    · show ((0 : Nat) : Rat) = 0 * ((1 : Nat) : Rat); grind
    · show (0 : Rat) < ((1 : Nat) : Rat); decide
  · intro l f ih h
    obtain ⟨h1, h2⟩ := ih fun g hg => h g (List.mem_append_left _ hg)
    obtain ⟨v1, v2⟩ := V_mul (h f (by simp))
    rw [ndF_snoc, totV_snoc]
    unfold ndS
    simp only [Rat.natCast_add, Rat.natCast_mul]
    generalize ((ndF l).1 : Rat) = a at *
    generalize ((ndF l).2 : Rat) = b at *
    generalize (f.N.toNat : Rat) = n at *
    generalize (f.D.toNat : Rat) = d at *
    refine ⟨by rw [h1, v1]; grind, Rat.mul_pos h2 v2⟩
theorem covF_iff {l : List Fr} (h : ∀ f ∈ l, WtF f) : covF l = true ↔ 1 ≤ totV l := by
  obtain ⟨h1, h2⟩ := nd_sum l h
  unfold covF
  rw [decide_eq_true_iff, ← Rat.natCast_le_natCast, h1]
  generalize ((ndF l).2 : Rat) = d at *
  generalize totV l = s at *
  constructor
  · intro h
    apply Classical.byContradiction
    intro hc
    have h3 : s < 1 := by grind
    have : s * d < 1 * d := Rat.mul_lt_mul_of_pos_right h3 h2
    grind
  · intro h
    have := Rat.mul_le_mul_of_nonneg_right h (show 0 ≤ d by grind)
    grind
theorem sel_sum (h : Hy) (x : List Fr) (v : Nat) : ∀ i, totV (selI h x v i) = Sm i (fun k => (if (v : Int) ∈ ix h.E k then 1 else 0) * V (ix x k))
  | 0 => rfl
  | i + 1 => by
    unfold selI Sm
    rw [← sel_sum h x v i]
    split
    · rw [totV_snoc]; grind
    · grind
theorem lin_c (h : Hy) : (linH h).C.length = h.E.length := by unfold linH; simp
theorem lin_a (h : Hy) : (linH h).A.length = h.N.toNat := by unfold linH; simp [matH_len]
theorem lin_aQ {h : Hy} {v k : Nat} (hv : v < h.N.toNat) (hk : k < h.E.length) : aQ (linH h) v k = if (v : Int) ∈ ix h.E k then 1 else 0 := by
  have e1 : ix (linH h).A v = rowH h v := by
    show ix (matH h h.N.toNat) v = _
    rw [ix_lt (by rw [matH_len]; exact hv)]
    unfold matH
    rw [List.getElem_map, List.getElem_range]
  have e2 : ix (rowH h v) k = entF (decide ((v : Int) ∈ ix h.E k)) := by
    rw [ix_lt (by rw [rowH_len]; exact hk), ix_lt hk]
    unfold rowH
    rw [List.getElem_map]
  unfold aQ
  rw [e1, e2]
  split
  · rename_i h1; rw [decide_eq_true h1]; exact V_11
  · rename_i h1; rw [decide_eq_false h1]; exact V_01
theorem lin_bQ {h : Hy} {v : Nat} (hv : v < h.N.toNat) : bQ (linH h) v = 1 := by
  unfold bQ
  show V (ix (List.replicate h.N.toNat F11) v) = 1
  rw [ix_rep hv, V_11]
theorem lin_cQ {h : Hy} {k : Nat} (hk : k < h.E.length) : cQ (linH h) k = 1 := by
  unfold cQ
  show V (ix (List.replicate h.E.length F11) k) = 1
  rw [ix_rep hk, V_11]
theorem cov_sum {h : Hy} {x : List Fr} (hw : ∀ f ∈ x, WtF f) (hl : x.length = h.E.length) {v : Nat} (hv : v < h.N.toNat) : covH h x v = true ↔ bQ (linH h) v ≤ Sm (linH h).C.length (fun k => aQ (linH h) v k * XQ x k) := by
  unfold covH
  rw [covF_iff (selI_wt v hw _ (by omega)), sel_sum, lin_bQ hv, lin_c]
  rw [Sm_congr (g := fun k => aQ (linH h) v k * XQ x k) fun k hk => by rw [lin_aQ hv hk]; rfl]
theorem wt_nn {f : Fr} (h : ValidF f) : 0 ≤ f.N ↔ 0 ≤ V f := by
  have := V_neg_iff h
  constructor
  · intro h1
    have : ¬ V f < 0 := fun h2 => by have := this.2 h2; omega
    grind
  · intro h1
    have : ¬ f.N < 0 := fun h2 => by have := this.1 h2; grind
    omega
theorem cov_feas {h : Hy} {x : List Fr} (hc : IsCovH h x) : FeasQ (linH h) (XQ x) := by
  obtain ⟨h1, h2, h3, h4⟩ := hc
  refine ⟨fun k hk => ?_, fun i hi => ?_⟩
  · rw [lin_c] at hk
    have := h3 _ (ix_mem (show k < x.length by omega))
    exact (wt_nn this.v).1 this.n
  · rw [lin_a] at hi
    exact (cov_sum h3 h2 hi).1 (h4 i hi)
theorem feas_cov {h : Hy} {x : List Fr} (hv : ValidH h) (hl : x.length = h.E.length) (hx : ∀ k, k < h.E.length → ValidF (ix x k)) (hf : FeasQ (linH h) (XQ x)) : IsCovH h x := by
  have hw : ∀ f ∈ x, WtF f := fun f hm => by
    obtain ⟨j, hj, rfl⟩ := List.getElem_of_mem hm
    rw [← ix_lt hj]
    have v1 := hx j (by omega)
    have := hf.nn j (by rw [lin_c]; omega)
    exact ⟨v1, (wt_nn v1).2 this⟩
  exact ⟨hv, hl, hw, fun v hv => (cov_sum hw hl hv).2 (hf.row v (by rw [lin_a]; exact hv))⟩
/-- What Rho's answer is, when there is one. -/
structure RhoOk (h : Hy) (y : List Fr) (r : Fr) : Prop where
  valid : ValidH h
  prog : progH h = (linH h, 0)
  cov : IsCovH h y
  vr : ValidF r
  vy : ∀ k, k < y.length → ValidF (ix y k)
  len : y.length = h.E.length
  sum : Sm y.length (fun k => V (ix y k)) = V r
  least : ∀ (x : List Fr) (u : Fr), IsCovH h x → valueF (linH h) x = (u, true) → cmpF r u ≤ 0
theorem rho_ok {h : Hy} {y : List Fr} {r : Fr} (hr : rhoH h = (r, y, 0)) : RhoOk h y r := by
  unfold rhoH at hr
  split at hr
  · rename_i h1
    injection hr with _ hr; injection hr with _ hr
    exact absurd hr h1
  rename_i h1
  have hp : progH h = (linH h, 0) ∧ ValidH h := by
    unfold progH at h1 ⊢
    split at h1
    · exact absurd (show ((L00, (1 : Int)).2) ≠ 0 by decide) h1
    · rename_i h2
      rw [not_or] at h2
      split at h1
      · rename_i h3
        rw [if_neg (by rw [not_or]; exact h2), if_pos h3]
        exact ⟨rfl, Classical.not_not.1 h2.1⟩
      · exact absurd (show ((L00, (23 : Int)).2) ≠ 0 by decide) h1
  obtain ⟨hp, hv⟩ := hp
  rw [hp] at hr
  obtain ⟨x, v, e, he⟩ : ∃ x v e, solveF (linH h) = (x, v, e) := ⟨_, _, _, rfl⟩
  simp only [he] at hr
  split at hr
  · rename_i h2
    injection hr with _ hr; injection hr with _ hr
    exact absurd hr h2
  rename_i h2
  obtain rfl : e = 0 := Classical.not_not.1 h2
  injection hr with hr1 hr; injection hr with hr2 _
  subst hr1 hr2
  have hc := check_of he
  have hs := solved_of hc he
  have hl : x.length = h.E.length := by rw [hs.len, lin_c]
  have hvx : ∀ k, k < h.E.length → ValidF (ix x k) := fun k hk => hs.valid k (by rw [lin_c]; exact hk)
  refine ⟨hv, hp, feas_cov hv hl hvx hs.feas, hs.vv, fun k hk => hvx k (by omega), hl, ?_, fun z u hz hu => ?_⟩
  · rw [← hs.val, lin_c, hl]
    refine Sm_congr fun k hk => ?_
    rw [lin_cQ hk]
    show V (ix x k) = 1 * V (ix x k)
    grind
  · obtain ⟨u1, u2, u3⟩ := value_V hu
    obtain ⟨y0, c0⟩ := hs.cert
    exact cmp_le hs.vv u2 (by rw [u3]; exact c0.le (cov_feas hz))
end Go.Proofs.YtfoipbjhaiimlaaDoor


/-
  layer 31: the law Least.
-/
namespace Go.Proofs.YtfoipbjhaiimlaaDoor
open Go.RowKit
set_option linter.unusedSimpArgs false
set_option linter.unusedVariables false
set_option maxRecDepth 100000

noncomputable def CLl : Ctx := mkC Tryd.prog G0 [(7, .pure sFewH), (8, .pure (spec0 (.bool true))), (16, .pure sRho), (17, .pure sAddF), (9, .pure sIsCover), (18, .pure sProg), (19, .pure sValueF), (20, .pure sCmpF)]
@[simp] theorem CLl_P : CLl.P = Tryd.prog := rfl
@[simp] theorem CLl_G : CLl.G = G0 := rfl
@[simp] theorem CLl_1 : CLl.S 7 = .pure sFewH := rfl
@[simp] theorem CLl_2 : CLl.S 8 = .pure (spec0 (.bool true)) := rfl
@[simp] theorem CLl_3 : CLl.S 16 = .pure sRho := rfl
@[simp] theorem CLl_4 : CLl.S 17 = .pure sAddF := rfl
@[simp] theorem CLl_5 : CLl.S 9 = .pure sIsCover := rfl
@[simp] theorem CLl_6 : CLl.S 18 = .pure sProg := rfl
@[simp] theorem CLl_7 : CLl.S 19 = .pure sValueF := rfl
@[simp] theorem CLl_8 : CLl.S 20 = .pure sCmpF := rfl
theorem mixCLl : CLl.P.follows .mixedOrders = true := mixed
theorem sigCLl : SigOK CLl := sigOK_cons (entryPure (fewHP) Tryd.func7 rfl (by decide)) (sigOK_cons (entryPure (aliveC) Tryd.func8 rfl (by decide)) (sigOK_cons (entryPure (rhoP) Tryd.func16 rfl (by decide)) (sigOK_cons (entryPure (addR) Tryd.func17 rfl (by decide)) (sigOK_cons (entryPure (isCoverP) Tryd.func9 rfl (by decide)) (sigOK_cons (entryPure (programR) Tryd.func18 rfl (by decide)) (sigOK_cons (entryPure (valueR) Tryd.func19 rfl (by decide)) (sigOK_cons (entryPure (cmpR) Tryd.func20 rfl (by decide)) (sigOK_nil _ _))))))))
theorem addF_ok {a b p : Fr} (h : addF a b = (p, true)) : ValidF p ∧ V p = V a + V b := by
  have := addO_some (a := a) (b := b) (p := p) (by unfold addO; rw [h]; rfl)
  exact ⟨this.2.2.1, this.2.2.2⟩
set_option maxHeartbeats 16000000 in
theorem lawLeast : PureOK Tryd.prog G0 5 (spec2 (fun (_ : Hy) (_ : List Fr) => True) (fun _ _ => .bool true)) := by
  refine pureH2 (C := CLl) sigCLl mixCLl Tryd.func5 rfl rfl rfl [] (by kernel_rfl) (by decide) (fun h x _ => ?_)
  by_cases h1 : FewH h
  case neg => simp [sFewH, h1]
  have hs := fewH_small h1
  by_cases h2 : 20 < x.length
  · have h2' : (20 : Int) < x.length := by omega
    simp [sFewH, h1, h2']
  have h2' : ¬ (20 : Int) < x.length := by omega
  have hx : x.length ≤ 1000 := by omega
  obtain ⟨r, y, e, hr⟩ : ∃ r y e, rhoH h = (r, y, e) := ⟨_, _, _, rfl⟩
  by_cases he : e = 0
  case neg => simp [sFewH, h1, h2', sRho, hs, hr, he]
  subst he
  obtain ⟨v1, v2, v3, v4, v5, v6, v7, v8⟩ := rho_ok hr
  simp [sFewH, h1, h2', sRho, hs, hr]
  refine loop_ruleH (C := CLl) sigCLl mixCLl [] (fun q : Nat × Fr => ⟨[(1, Enc.enc x), (2, .ptr 0 1 2 0 0), (5, .ptr 1 1 2 0 0), (6, Enc.enc y), (8, .ptr 2 1 2 0 0), (36, Enc.enc y), (37, .int .i64 y.length), (38, .int .i64 q.1)], [HyB h, FB r, FB q.2]⟩) (fun q => q.1 ≤ y.length ∧ ValidF q.2 ∧ V q.2 = Sm q.1 (fun k => V (ix y k))) (fun q => y.length - q.1) (by kernel_rfl) ⟨(0, F01), ⟨by simp, valid_01, V_01⟩, weak_eq (by simp) (by simp [HyB, FB, F01])⟩ (fun ⟨k, s⟩ ⟨hk, hsv, hsum⟩ => ?_)
  simp only at hk hsv hsum ⊢
  by_cases hlt : k < y.length
  · have i1 : I64 ((k : Int) + 1) := by have := h1.1; unfold I64; omega
    obtain ⟨t, ok, ht⟩ : ∃ t ok, addF s (ix y k) = (t, ok) := ⟨_, _, rfl⟩
    cases ok with
    | false => simp [HyB, FB, hlt, rowAt_enc hlt, sAddF, ht]
    | true =>
      obtain ⟨t1, t2⟩ := addF_ok ht
      simp [HyB, FB, hlt, rowAt_enc hlt, sAddF, ht, i1]
      refine ⟨k + 1, t, ⟨by omega, t1, by rw [t2, hsum]; rfl⟩, by omega, weak_keep 3 (by simp) (by simp) (by simp [AV.clean, AV.clean1]) (by simp [AV.clean, AV.clean1]) (by simp [HyB, FB])⟩
  · obtain rfl : k = y.length := by omega
    have hsr : s = r := V_inj hsv v4 (by rw [hsum, v7])
    subst hsr
    have hcl : (linH h).C.length ≤ 1000 := by rw [lin_c]; have := h1.1; omega
    obtain ⟨u, ok, hu⟩ : ∃ u ok, valueF (linH h) x = (u, ok) := ⟨_, _, rfl⟩
    have hyl : y.length ≤ 1000 := by rw [v6]; have := h1.1; omega
    cases ok with
    | false => simp [HyB, FB, sIsCover, hs, v3, hyl, sProg, v2, sValueF, hcl, hu]
    | true =>
      by_cases hcx : IsCovH h x
      · have hle := v8 x u hcx hu
        simp [HyB, FB, sIsCover, hs, v3, hyl, sProg, v2, sValueF, hcl, hu, hcx, hx, sCmpF, hle]
      · simp [HyB, FB, sIsCover, hs, v3, hyl, sProg, v2, sValueF, hcl, hu, hcx, hx]
end Go.Proofs.YtfoipbjhaiimlaaDoor
