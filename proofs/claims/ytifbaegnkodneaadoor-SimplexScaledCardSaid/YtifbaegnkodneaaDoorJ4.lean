/-
  Texts joined: H7 H8 H9 H10 H11.
-/
import Derived.Test.YtifbaegnkodneaaDoorJ3
/-
  layer 30: SimplexDuality.
-/
namespace Go.Proofs.YtifbaegnkodneaaDoor
open Go.RowKit
set_option linter.unusedSimpArgs false
set_option linter.unusedVariables false
set_option maxRecDepth 100000

section
variable {l : Lin}
structure DualQ (l : Lin) : Prop where
  n : (dualL l).C.length = l.A.length
  m : (dualL l).A.length = l.C.length
  a : ∀ j i, j < l.C.length → i < l.A.length → aQ (dualL l) j i = - aQ l i j
  b : ∀ j, j < l.C.length → bQ (dualL l) j = - cQ l j
  c : ∀ i, i < l.A.length → cQ (dualL l) i = - bQ l i
theorem dual_q (h : Ok l) : DualQ l := by
  have hB := h.g.b
  refine ⟨by show (l.B.map negF).length = _; rw [List.length_map, hB], by simp [dualL], fun j i hj hi => ?_, fun j hj => ?_, fun i hi => ?_⟩
  · show V (ix (ix ((List.range l.C.length).map fun j => l.A.map fun a => negF (ix a j)) j) i) = - V (ix (ix l.A i) j)
    rw [ix_range hj, ix_mapN hi, neg_val (h.a i j hi hj)]
  · show V (ix (l.C.map negF) j) = - V (ix l.C j)
    rw [ix_mapN hj, neg_val (h.c j hj)]
  · show V (ix (l.B.map negF) i) = - V (ix l.B i)
    rw [ix_mapN (by omega), neg_val (h.b i hi)]
theorem Sm_neg (f : Nat → Rat) (n : Nat) : Sm n (fun i => - f i) = - Sm n f := by
  rw [Sm_congr (g := fun i => (-1) * f i) (fun i _ => by grind), Sm_mul]
  grind
theorem cert_feas (h : Ok l) {y : Nat → Rat} {v : Rat} (hy : Cert l y v) : FeasQ (dualL l) y ∧ Sm (dualL l).C.length (fun i => cQ (dualL l) i * y i) = - v := by
  have d := dual_q h
  refine ⟨⟨fun k hk => hy.nn k (by rw [← d.n]; exact hk), fun j hj => ?_⟩, ?_⟩
  · rw [d.m] at hj
    rw [d.b j hj, d.n, Sm_congr (g := fun i => - (y i * aQ l i j)) (fun i hi => by rw [d.a j i hj hi]; grind), Sm_neg]
    have := hy.col j hj
    grind
  · rw [d.n, Sm_congr (g := fun i => - (y i * bQ l i)) (fun i hi => by rw [d.c i hi]; grind), Sm_neg, hy.val]
theorem feas_cert (h : Ok l) {y : Nat → Rat} (hy : FeasQ (dualL l) y) : Cert l y (- Sm (dualL l).C.length (fun i => cQ (dualL l) i * y i)) := by
  have d := dual_q h
  refine ⟨fun i hi => hy.nn i (by rw [d.n]; exact hi), fun k hk => ?_, ?_⟩
  · have := hy.row k (by rw [d.m]; exact hk)
    rw [d.b k hk, d.n, Sm_congr (g := fun i => - (y i * aQ l i k)) (fun i hi => by rw [d.a k i hk hi]; grind), Sm_neg] at this
    grind
  · rw [d.n, Sm_congr (n := l.A.length) (f := fun i => cQ (dualL l) i * y i) (g := fun i => - (y i * bQ l i)) (fun i hi => by show cQ (dualL l) i * y i = _; rw [d.c i hi]; grind), Sm_neg]
    grind
theorem ray_no (h : Ok l) {d : Nat → Rat} (hd : Ray (dualL l) d) {x : Nat → Rat} (hx : FeasQ l x) : False := by
  have D := dual_q h
  have h1 := hd.neg
  rw [D.n, Sm_congr (g := fun i => - (d i * bQ l i)) (fun i hi => by rw [D.c i hi]; grind), Sm_neg] at h1
  have h2 : Sm l.A.length (fun i => d i * bQ l i) ≤ Sm l.A.length (fun i => Sm l.C.length (fun k => d i * (aQ l i k * x k))) := Sm_le fun i hi => by
    rw [Sm_mul]
    exact Rat.mul_le_mul_of_nonneg_left (hx.row i hi) (hd.nn i (by rw [D.n]; exact hi))
  rw [Sm_swap (fun i k => d i * (aQ l i k * x k))] at h2
  have h3 : Sm l.C.length (fun k => Sm l.A.length (fun i => d i * (aQ l i k * x k))) ≤ Sm l.C.length (fun _ => 0) := Sm_le fun k hk => by
    have h4 := hd.row k (by rw [D.m]; exact hk)
    rw [D.n, Sm_congr (g := fun i => - (d i * aQ l i k)) (fun i hi => by rw [D.a k i hk hi]; grind), Sm_neg] at h4
    rw [Sm_congr (g := fun i => x k * (d i * aQ l i k)) (fun i _ => by grind), Sm_mul]
    have := Rat.mul_nonneg (hx.nn k hk) h4
    grind
  rw [Sm_zero] at h3
  grind
theorem solved_dual (h : Ok l) (hd : Ok (dualL l)) {x y : List Fr} {v w : Fr} (hx : Solved l x v) (hy : Solved (dualL l) y w) : v = negF w := by
  obtain ⟨y0, c0⟩ := hx.cert
  obtain ⟨z0, c1⟩ := hy.cert
  obtain ⟨f1, f2⟩ := cert_feas h c0
  have h1 := c1.le f1
  rw [f2] at h1
  have h2 := (feas_cert h hy.feas).le hx.feas
  rw [hy.val, hx.val] at h2
  refine V_inj hx.vv (valid_neg hy.vv) ?_
  rw [neg_val hy.vv]
  grind
theorem solved_other (h : Ok l) {x : List Fr} {v : Fr} (hx : Solved l x v) {r : List Fr × Fr × Int} (hr : Answer (dualL l) r) : r.2.2 = 0 ∨ r.2.2 = 24 := by
  cases hr with
  | ok _ => exact .inl rfl
  | great => exact .inr rfl
  | none hn =>
    obtain ⟨y0, c0⟩ := hx.cert
    exact absurd ⟨y0, (cert_feas h c0).1⟩ hn
  | free _ hd =>
    obtain ⟨d, hd⟩ := hd
    exact (ray_no h hd hx.feas).elim
structure DualAns (l : Lin) (p q : List Fr × Fr × Int) : Prop where
  both : p.2.2 = 0 → q.2.2 = 0 → p.2.1 = negF q.2.1
  one : p.2.2 = 0 → q.2.2 = 0 ∨ q.2.2 = 24
  two : q.2.2 = 0 → p.2.2 = 0 ∨ p.2.2 = 24
  no : ¬ (p.2.2 = 19 ∧ q.2.2 = 19)
theorem dual_ans (h1 : checkF l = 0) (h2 : checkF (dualL l) = 0) : DualAns l (solveF l) (solveF (dualL l)) := by
  have o1 := ok_of h1
  have o2 := ok_of h2
  have a1 := solve_answer h1
  have a2 := solve_answer h2
  generalize solveF l = p at *
  generalize solveF (dualL l) = q at *
  refine ⟨fun e1 e2 => ?_, fun e1 => ?_, fun e2 => ?_, fun ⟨e1, e2⟩ => ?_⟩
  · cases a1 with
    | ok s1 =>
      cases a2 with
      | ok s2 => exact solved_dual o1 o2 s1 s2
      | none _ => cases e2
      | free _ _ => cases e2
      | great => cases e2
    | none _ => cases e1
    | free _ _ => cases e1
    | great => cases e1
  · cases a1 with
    | ok s1 => exact solved_other o1 s1 a2
    | none _ => cases e1
    | free _ _ => cases e1
    | great => cases e1
  · cases a2 with
    | ok s2 => exact solved_other o2 s2 (by rw [dual_dual h1]; exact a1)
    | none _ => cases e2
    | free _ _ => cases e2
    | great => cases e2
  · cases a1 with
    | free f1 _ =>
      cases a2 with
      | free _ r2 =>
        obtain ⟨x, hx⟩ := f1
        obtain ⟨d, hd⟩ := r2
        exact ray_no o1 hd hx
      | ok _ => cases e2
      | none _ => cases e2
      | great => cases e2
    | ok _ => cases e1
    | none _ => cases e1
    | great => cases e1
end
noncomputable def CDu : Ctx := mkC Tryd.prog G0 [(9, .pure sFew), (10, .pure (spec0 (.bool true))), (13, .pure sDual), (20, .pure sSolve)]
@[simp] theorem CDu_P : CDu.P = Tryd.prog := rfl
@[simp] theorem CDu_G : CDu.G = G0 := rfl
@[simp] theorem CDu_1 : CDu.S 9 = .pure sFew := rfl
@[simp] theorem CDu_2 : CDu.S 10 = .pure (spec0 (.bool true)) := rfl
@[simp] theorem CDu_3 : CDu.S 13 = .pure sDual := rfl
@[simp] theorem CDu_4 : CDu.S 20 = .pure sSolve := rfl
theorem mixCDu : CDu.P.follows .mixedOrders = true := mixed
theorem sigCDu : SigOK CDu := sigOK_cons (entryPure (fewP) Tryd.func9 rfl (by decide)) (sigOK_cons (entryPure (aliveP) Tryd.func10 rfl (by decide)) (sigOK_cons (entryPure (dualP) Tryd.func13 rfl (by decide)) (sigOK_cons (entryPure (solveP) Tryd.func20 rfl (by decide)) (sigOK_nil _ _))))
set_option maxHeartbeats 16000000 in
theorem lawDuality : PureOK Tryd.prog G0 6 (spec1 (fun (_ : Lin) => True) (fun _ => .bool true)) := by
  refine pureH1 (C := CDu) sigCDu mixCDu Tryd.func6 rfl rfl rfl [] (by kernel_rfl) (by decide) (fun l _ => ?_)
  by_cases h1 : FewL l
  case neg => simp [aev, cav, look, acallPure, abin, abinN, abinP, abinI, abinS, aun, aconv, afield, afieldAddr, aindexAddr, aindex, aslice, alow, ahigh, abuild, abuildGo, cellsOf, splice, fieldTy, alen, apick, amax, amin, aload, headV, aparts, abuildSlice, elParts, abytesStr, astore, amake, aappend, aclear, anew, arith, aresults, aresList, ares, spec0, spec1, spec2, spec3, spec4, eqCells, eqCell, sFew, h1]
  have hs := few_small h1
  have hd := small_dualF hs
  have hok := dualF_ok (l := l)
  obtain ⟨d, e, hde⟩ : ∃ d e, dualF l = (d, e) := ⟨_, _, rfl⟩
  rw [hde] at hd hok
  by_cases h2 : e = 0
  case neg => simp [aev, cav, look, acallPure, abin, abinN, abinP, abinI, abinS, aun, aconv, afield, afieldAddr, aindexAddr, aindex, aslice, alow, ahigh, abuild, abuildGo, cellsOf, splice, fieldTy, alen, apick, amax, amin, aload, headV, aparts, abuildSlice, elParts, abytesStr, astore, amake, aappend, aclear, anew, arith, aresults, aresList, ares, spec0, spec1, spec2, spec3, spec4, eqCells, eqCell, sFew, h1, sDual, hs, hde, h2]
  obtain ⟨k1, k2, k3⟩ := hok h2
  injection k3 with k3 k4
  subst k3 k4
  have ha := dual_ans k1 k2
  have p1 := pre_solve hs
  have p2 := pre_solve hd
  simp only at p2
  obtain ⟨x, v, f, hv⟩ : ∃ x v f, solveF l = (x, v, f) := ⟨_, _, _, rfl⟩
  obtain ⟨y, w, g, hw⟩ : ∃ y w g, solveF (dualL l) = (y, w, g) := ⟨_, _, _, rfl⟩
  rw [hv, hw] at ha
  obtain ⟨b1, b2, b3, b4⟩ := ha
  simp only at b1 b2 b3 b4
  by_cases hf : f = 0
  · subst hf
    by_cases hg : g = 0
    · subst hg
      have b1 := b1 rfl rfl
      subst b1
      have nN : (negF w).N = IntKind.i64.wrap (-w.N) := rfl
      have nD : (negF w).D = w.D := rfl
      simp [aev, cav, look, acallPure, abin, abinN, abinP, abinI, abinS, aun, aconv, afield, afieldAddr, aindexAddr, aindex, aslice, alow, ahigh, abuild, abuildGo, cellsOf, splice, fieldTy, alen, apick, amax, amin, aload, headV, aparts, abuildSlice, elParts, abytesStr, astore, amake, aappend, aclear, anew, arith, aresults, aresList, ares, spec0, spec1, spec2, spec3, spec4, eqCells, eqCell, sFew, h1, sDual, hs, hde, hd, sSolve, p1, p2, hv, hw, nN, nD]
      done
    · have hg2 : g = 24 := (b2 rfl).resolve_left hg
      subst hg2
      simp [aev, cav, look, acallPure, abin, abinN, abinP, abinI, abinS, aun, aconv, afield, afieldAddr, aindexAddr, aindex, aslice, alow, ahigh, abuild, abuildGo, cellsOf, splice, fieldTy, alen, apick, amax, amin, aload, headV, aparts, abuildSlice, elParts, abytesStr, astore, amake, aappend, aclear, anew, arith, aresults, aresList, ares, spec0, spec1, spec2, spec3, spec4, eqCells, eqCell, sFew, h1, sDual, hs, hde, hd, sSolve, p1, p2, hv, hw]
      done
  · by_cases hg : g = 0
    · subst hg
      have hf2 : f = 24 := (b3 rfl).resolve_left hf
      subst hf2
      simp [aev, cav, look, acallPure, abin, abinN, abinP, abinI, abinS, aun, aconv, afield, afieldAddr, aindexAddr, aindex, aslice, alow, ahigh, abuild, abuildGo, cellsOf, splice, fieldTy, alen, apick, amax, amin, aload, headV, aparts, abuildSlice, elParts, abytesStr, astore, amake, aappend, aclear, anew, arith, aresults, aresList, ares, spec0, spec1, spec2, spec3, spec4, eqCells, eqCell, sFew, h1, sDual, hs, hde, hd, sSolve, p1, p2, hv, hw]
      done
    · by_cases hf9 : f = 19
      · subst hf9
        have hg9 : ¬ g = 19 := fun e => b4 ⟨rfl, e⟩
        simp [aev, cav, look, acallPure, abin, abinN, abinP, abinI, abinS, aun, aconv, afield, afieldAddr, aindexAddr, aindex, aslice, alow, ahigh, abuild, abuildGo, cellsOf, splice, fieldTy, alen, apick, amax, amin, aload, headV, aparts, abuildSlice, elParts, abytesStr, astore, amake, aappend, aclear, anew, arith, aresults, aresList, ares, spec0, spec1, spec2, spec3, spec4, eqCells, eqCell, sFew, h1, sDual, hs, hde, hd, sSolve, p1, p2, hv, hw, hg, hg9]
        done
      · simp [aev, cav, look, acallPure, abin, abinN, abinP, abinI, abinS, aun, aconv, afield, afieldAddr, aindexAddr, aindex, aslice, alow, ahigh, abuild, abuildGo, cellsOf, splice, fieldTy, alen, apick, amax, amin, aload, headV, aparts, abuildSlice, elParts, abytesStr, astore, amake, aappend, aclear, anew, arith, aresults, aresList, ares, spec0, spec1, spec2, spec3, spec4, eqCells, eqCell, sFew, h1, sDual, hs, hde, hd, sSolve, p1, p2, hv, hw, hf, hg, hf9]
        done
end Go.Proofs.YtifbaegnkodneaaDoor

/-
  layer 30: SimplexBest.
-/
namespace Go.Proofs.YtifbaegnkodneaaDoor
open Go.RowKit
set_option linter.unusedSimpArgs false
set_option linter.unusedVariables false
set_option maxRecDepth 100000

theorem Sm_head (f : Nat → Rat) : ∀ n, Sm (n + 1) f = f 0 + Sm n (fun i => f (i + 1))
  | 0 => by unfold Sm Sm; grind
  | n + 1 => by
    show Sm (n + 1) f + f (n + 1) = f 0 + (Sm n _ + f (n + 1))
    rw [Sm_head f n]
    grind
theorem dot_V : ∀ {a x : List Fr} {s r : Fr}, dotO s a x = some r → ValidF s → a.length ≤ x.length → ValidF r ∧ V r = V s + Sm a.length (fun k => V (ix a k) * V (ix x k))
  | [], x, s, r, h, hs, _ => by
    unfold dotO at h
    injection h with h
    rw [← h]
    exact ⟨hs, by show _ = _ + 0; grind⟩
  | a :: ar, [], s, r, h, hs, hl => by simp at hl
  | a :: ar, x :: xs, s, r, h, hs, hl => by
    unfold dotO at h
    cases h1 : mulO a x with
    | none => rw [h1] at h; cases h
    | some p =>
      rw [h1] at h
      simp only at h
      cases h2 : addO s p with
      | none => rw [h2] at h; cases h
      | some t =>
        rw [h2] at h
        obtain ⟨m1, m2, m3, m4⟩ := mulO_some h1
        obtain ⟨q1, q2, q3, q4⟩ := addO_some h2
        obtain ⟨i1, i2⟩ := dot_V h q3 (by simpa using hl)
        refine ⟨i1, ?_⟩
        rw [i2, q4, m4]
        show _ = _ + Sm (ar.length + 1) _
        rw [Sm_head]
        have e0 : V (ix (a :: ar) 0) * V (ix (x :: xs) 0) = V a * V x := rfl
        have e1 : (fun k => V (ix (a :: ar) (k + 1)) * V (ix (x :: xs) (k + 1))) = fun k => V (ix ar k) * V (ix xs k) := rfl
        rw [e0, e1]
        grind
theorem value_V {l : Lin} {x : List Fr} {u : Fr} (h : valueF l x = (u, true)) : x.length = l.C.length ∧ ValidF u ∧ V u = Sm l.C.length (fun k => cQ l k * XQ x k) := by
  unfold valueF at h
  split at h
  · rename_i hl
    cases h1 : dotO F01 l.C x with
    | none => rw [h1] at h; simp [ofO] at h
    | some r =>
      rw [h1] at h
      injection h with h
      obtain ⟨i1, i2⟩ := dot_V h1 valid_01 (by omega)
      rw [h] at i1 i2
      refine ⟨hl, i1, ?_⟩
      rw [i2, V_01]
      show _ = Sm _ (fun k => V (ix l.C k) * V (ix x k))
      grind
  · simp at h
theorem cmp_le {a b : Fr} (ha : ValidF a) (hb : ValidF b) (h : V a ≤ V b) : cmpF a b ≤ 0 := by
  have h1 := cross_lt hb ha
  have h2 := mt h1.1 (by grind)
  unfold cmpF fixF sgn
  rw [if_pos ha, if_pos hb]
  split
  · omega
  · split <;> omega
theorem cmp_ge {a b : Fr} (ha : ValidF a) (hb : ValidF b) (h : V b ≤ V a) : ¬ cmpF a b < 0 := by
  rw [cmp_lt ha hb]
  grind
theorem feasB_Q {l : Lin} {y : List Fr} (h : feasB l y = true) : checkF l = 0 ∧ FeasQ l (XQ y) := by
  unfold feasB at h
  obtain ⟨h1, h2, h3, h4⟩ := @of_decide_eq_true _ (Classical.propDecidable _) h
  have ok := ok_of h1
  refine ⟨h1, fun k hk => ?_, fun i hi => ?_⟩
  · obtain ⟨q1, q2⟩ := h3 _ (ix_mem (show k < y.length by omega))
    rw [V_neg_iff q1] at q2
    show 0 ≤ V (ix y k)
    grind
  · obtain ⟨s, e1, e2⟩ := h4 i hi
    have hr := ok.g.row _ (ix_mem hi)
    obtain ⟨i1, i2⟩ := dot_V e1 valid_01 (by omega)
    rw [cmp_lt i1 (ok.b i hi)] at e2
    rw [i2, V_01, hr] at e2
    show V (ix l.B i) ≤ Sm _ (fun k => V (ix (ix l.A i) k) * V (ix y k))
    grind
section
variable {l : Lin}
/-- What SimplexBest asks of a solution. -/
structure BestF (l : Lin) (x : List Fr) (v : Fr) : Prop where
  len : x.length = l.C.length
  u : ∀ u, valueF l x = (u, true) → u = v
  xs : ∀ j, j < x.length → ValidF (ix x j) ∧ 0 ≤ (ix x j).N
  r : ∀ i, i < l.A.length → ∀ s, valueF ⟨[], [], ix l.A i⟩ x = (s, true) → 0 ≤ cmpF s (ix l.B i)
  y : ∀ y w, valueF l y = (w, true) → feasB l y = true → cmpF v w ≤ 0
theorem best_of (hc : checkF l = 0) {x : List Fr} {v : Fr} (h : Solved l x v) : BestF l x v := by
  have ok := ok_of hc
  refine ⟨h.len, fun u hu => ?_, fun j hj => ?_, fun i hi s hs => ?_, fun y w hw hy => ?_⟩
  · obtain ⟨_, h2, h3⟩ := value_V hu
    exact V_inj h2 h.vv (by rw [h3, h.val])
  · have hv := h.valid j (by rw [← h.len]; exact hj)
    have hn := h.feas.nn j (by rw [← h.len]; exact hj)
    refine ⟨hv, ?_⟩
    have := mt (V_neg_iff hv).1 (by show ¬ V (ix x j) < 0; have hn : 0 ≤ V (ix x j) := hn; grind)
    omega
  · obtain ⟨h1, h2, h3⟩ := value_V hs
    have h4 := h.feas.row i hi
    have hr := ok.g.row _ (ix_mem hi)
    have e : V s = Sm l.C.length (fun k => aQ l i k * XQ x k) := by
      rw [h3]
      show Sm (ix l.A i).length _ = _
      rw [hr]
      rfl
    have := cmp_ge h2 (ok.b i hi) (by rw [e]; exact h4)
    omega
  · obtain ⟨h1, h2, h3⟩ := value_V hw
    obtain ⟨_, hf⟩ := feasB_Q hy
    obtain ⟨y0, c0⟩ := h.cert
    exact cmp_le h.vv h2 (by rw [h3]; exact c0.le hf)
theorem not_ok {r : List Fr × Fr × Int} (hr : solveF l = r) (h : r.2.2 ≠ 0) : r.1 = [] ∧ r.2.1 = F00 ∧ (r.2.2 = 23 → ∀ y, feasB l y = false) := by
  by_cases hc : checkF l = 0
  · have ha := solve_answer hc
    rw [hr] at ha
    cases ha with
    | ok _ => exact absurd rfl h
    | none hn =>
      refine ⟨rfl, rfl, fun _ y => ?_⟩
      cases hb : feasB l y with
      | false => rfl
      | true => exact absurd ⟨_, (feasB_Q hb).2⟩ hn
    | free _ _ => exact ⟨rfl, rfl, fun e => by cases e⟩
    | great => exact ⟨rfl, rfl, fun e => by cases e⟩
  · have e : solveF l = ([], F00, checkF l) := if_pos hc
    rw [← hr, e]
    refine ⟨rfl, rfl, fun e2 => ?_⟩
    exfalso
    simp only at e2
    unfold checkF at e2
    split at e2
    · cases e2
    · split at e2 <;> cases e2
theorem solved_of (hc : checkF l = 0) {x : List Fr} {v : Fr} (h : solveF l = (x, v, 0)) : Solved l x v := by
  have ha := solve_answer hc
  rw [h] at ha
  cases ha with
  | ok s => exact s
theorem check_of {x : List Fr} {v : Fr} (h : solveF l = (x, v, 0)) : checkF l = 0 := by
  apply Classical.byContradiction
  intro hc
  have e : solveF l = ([], F00, checkF l) := if_pos hc
  rw [e] at h
  injection h with _ h
  injection h with _ h
  exact hc h
end
end Go.Proofs.YtifbaegnkodneaaDoor

/-
  layer 30: SimplexBest, the law.
-/
namespace Go.Proofs.YtifbaegnkodneaaDoor
open Go.RowKit
set_option linter.unusedSimpArgs false
set_option linter.unusedVariables false
set_option maxRecDepth 100000

noncomputable def CBs : Ctx := mkC Tryd.prog G0 [(9, .pure sFew), (10, .pure (spec0 (.bool true))), (20, .pure sSolve), (11, .pure sValueF), (17, .pure sFeas), (23, .pure sValidF), (24, .pure sCmpF)]
@[simp] theorem CBs_P : CBs.P = Tryd.prog := rfl
@[simp] theorem CBs_G : CBs.G = G0 := rfl
@[simp] theorem CBs_1 : CBs.S 9 = .pure sFew := rfl
@[simp] theorem CBs_2 : CBs.S 10 = .pure (spec0 (.bool true)) := rfl
@[simp] theorem CBs_3 : CBs.S 20 = .pure sSolve := rfl
@[simp] theorem CBs_4 : CBs.S 11 = .pure sValueF := rfl
@[simp] theorem CBs_5 : CBs.S 17 = .pure sFeas := rfl
@[simp] theorem CBs_6 : CBs.S 23 = .pure sValidF := rfl
@[simp] theorem CBs_7 : CBs.S 24 = .pure sCmpF := rfl
theorem mixCBs : CBs.P.follows .mixedOrders = true := mixed
theorem sigCBs : SigOK CBs := sigOK_cons (entryPure (fewP) Tryd.func9 rfl (by decide)) (sigOK_cons (entryPure (aliveP) Tryd.func10 rfl (by decide)) (sigOK_cons (entryPure (solveP) Tryd.func20 rfl (by decide)) (sigOK_cons (entryPure (valueP) Tryd.func11 rfl (by decide)) (sigOK_cons (entryPure (feasibleP) Tryd.func17 rfl (by decide)) (sigOK_cons (entryPure (validR) Tryd.func23 rfl (by decide)) (sigOK_cons (entryPure (cmpR) Tryd.func24 rfl (by decide)) (sigOK_nil _ _)))))))
set_option maxHeartbeats 16000000 in
theorem lawBest : PureOK Tryd.prog G0 5 (spec2 (fun (_ : Lin) (_ : List Fr) => True) (fun _ _ => .bool true)) := by
  refine pureH2 (C := CBs) sigCBs mixCBs Tryd.func5 rfl rfl rfl [21] (by kernel_rfl) (by decide) (fun l y _ => ?_)
  by_cases h1 : FewL l
  case neg => simp [aev, cav, look, acallPure, abin, abinN, abinP, abinI, abinS, aun, aconv, afield, afieldAddr, aindexAddr, aindex, aslice, alow, ahigh, abuild, abuildGo, cellsOf, splice, fieldTy, alen, apick, amax, amin, aload, headV, aparts, abuildSlice, elParts, abytesStr, astore, amake, aappend, aclear, anew, arith, aresults, aresList, ares, spec0, spec1, spec2, spec3, spec4, eqCells, eqCell, sFew, h1]
  by_cases h2 : (60 : Int) < y.length
  · simp [aev, cav, look, acallPure, abin, abinN, abinP, abinI, abinS, aun, aconv, afield, afieldAddr, aindexAddr, aindex, aslice, alow, ahigh, abuild, abuildGo, cellsOf, splice, fieldTy, alen, apick, amax, amin, aload, headV, aparts, abuildSlice, elParts, abytesStr, astore, amake, aappend, aclear, anew, arith, aresults, aresList, ares, spec0, spec1, spec2, spec3, spec4, eqCells, eqCell, sFew, h1, h2]
  have hs := few_small h1
  have hc : l.C.length ≤ 1000 := hs.c
  have hy : y.length ≤ 1000 := by omega
  have hp := pre_solve hs
  obtain ⟨x, v, e, hv⟩ : ∃ x v e, solveF l = (x, v, e) := ⟨_, _, _, rfl⟩
  obtain ⟨w, ok, hw⟩ : ∃ w ok, valueF l y = (w, ok) := ⟨_, _, rfl⟩
  by_cases he : e = 0
  case neg =>
    obtain ⟨k1, k2, k3⟩ := not_ok hv he
    simp only at k1 k2 k3
    subst k1 k2
    by_cases h23 : e = 23
    · have hf := k3 h23 y
      subst h23
      simp [aev, cav, look, acallPure, abin, abinN, abinP, abinI, abinS, aun, aconv, afield, afieldAddr, aindexAddr, aindex, aslice, alow, ahigh, abuild, abuildGo, cellsOf, splice, fieldTy, alen, apick, amax, amin, aload, headV, aparts, abuildSlice, elParts, abytesStr, astore, amake, aappend, aclear, anew, arith, aresults, aresList, ares, spec0, spec1, spec2, spec3, spec4, eqCells, eqCell, sFew, h1, h2, sSolve, hp, hv, sValueF, hc, hw, sFeas, hs, hy, hf, F00]
      done
    · simp [aev, cav, look, acallPure, abin, abinN, abinP, abinI, abinS, aun, aconv, afield, afieldAddr, aindexAddr, aindex, aslice, alow, ahigh, abuild, abuildGo, cellsOf, splice, fieldTy, alen, apick, amax, amin, aload, headV, aparts, abuildSlice, elParts, abytesStr, astore, amake, aappend, aclear, anew, arith, aresults, aresList, ares, spec0, spec1, spec2, spec3, spec4, eqCells, eqCell, sFew, h1, h2, sSolve, hp, hv, sValueF, hc, hw, he, h23, F00]
      done
  subst he
  have hck := check_of hv
  obtain ⟨b1, b2, b3, b4, b5⟩ := best_of hck (solved_of hck hv)
  have hyy := b5 y
  rw [hw] at hyy
  clear b5
  obtain ⟨u, is, hu⟩ : ∃ u is, valueF l x = (u, is) := ⟨_, _, rfl⟩
  have b2 := b2 u
  rw [hu] at b2
  have hcc : ∀ us : Bool, us = is → (us = false ∧ True ∨ (us = true ∧ u.N = v.N ∧ u.D = v.D)) := fun us e => by
    cases us with
    | false => exact .inl ⟨rfl, trivial⟩
    | true => have := b2 (by rw [← e]); exact .inr ⟨rfl, by rw [this], by rw [this]⟩
  have hla := hs.a
  have hL : (x.length : Int) = l.C.length := by omega
  rcases hcc is rfl with ⟨rfl, hE⟩ | ⟨rfl, hE⟩
  all_goals
    simp [aev, cav, look, acallPure, abin, abinN, abinP, abinI, abinS, aun, aconv, afield, afieldAddr, aindexAddr, aindex, aslice, alow, ahigh, abuild, abuildGo, cellsOf, splice, fieldTy, alen, apick, amax, amin, aload, headV, aparts, abuildSlice, elParts, abytesStr, astore, amake, aappend, aclear, anew, arith, aresults, aresList, ares, spec0, spec1, spec2, spec3, spec4, eqCells, eqCell, sFew, h1, h2, sSolve, hp, hv, sValueF, hc, hw, hu, b1, hE]
    refine loop_ruleH (C := CBs) sigCBs mixCBs [21] (fun k : Nat => ⟨[(1, Enc.enc y), (2, .ptr 0 1 3 0 0), (5, Enc.enc x), (6, .ptr 1 1 2 0 0), (8, .ptr 2 1 2 0 0), (9, .bool ok), (12, .int .i64 k)], [CB l, FB v, FB w, FB u]⟩) (fun k => k ≤ x.length) (fun k => x.length - k) (by kernel_rfl) ⟨0, by simp, weak_eq (by simp) (by simp [CB, FB, hE])⟩ (fun k hk => ?_)
    by_cases hlt : k < x.length
    · have i1 : I64 ((k : Int) + 1) := by unfold I64; omega
      obtain ⟨q1, q2⟩ := b3 k hlt
      have q2' : ¬ (ix x k).N < 0 := by omega
      simp [aev, cav, look, acallPure, abin, abinN, abinP, abinI, abinS, aun, aconv, afield, afieldAddr, aindexAddr, aindex, aslice, alow, ahigh, abuild, abuildGo, cellsOf, splice, fieldTy, alen, apick, amax, amin, aload, headV, aparts, abuildSlice, elParts, abytesStr, astore, amake, aappend, aclear, anew, arith, aresults, aresList, ares, spec0, spec1, spec2, spec3, spec4, eqCells, eqCell, CB, FB, hlt, rowAt_enc hlt, sValidF, q1, q2, q2', i1]
      exact ⟨k + 1, by omega, by omega, weak_eq (by simp) (by simp [CB, FB])⟩
    · simp [aev, cav, look, acallPure, abin, abinN, abinP, abinI, abinS, aun, aconv, afield, afieldAddr, aindexAddr, aindex, aslice, alow, ahigh, abuild, abuildGo, cellsOf, splice, fieldTy, alen, apick, amax, amin, aload, headV, aparts, abuildSlice, elParts, abytesStr, astore, amake, aappend, aclear, anew, arith, aresults, aresList, ares, spec0, spec1, spec2, spec3, spec4, eqCells, eqCell, CB, FB, hlt]
      refine loop_ruleH (C := CBs) sigCBs mixCBs [21] (fun q : Nat × List Blk => ⟨[(1, Enc.enc y), (2, .ptr 0 1 3 0 0), (5, Enc.enc x), (6, .ptr 1 1 2 0 0), (8, .ptr 2 1 2 0 0), (9, .bool ok), (13, .int .i64 q.1)], CB l :: FB v :: FB w :: FB u :: q.2⟩) (fun q => q.1 ≤ l.A.length) (fun q => l.A.length - q.1) (by kernel_rfl) ⟨(0, []), by simp, weak_eq (by simp) (by simp [CB, FB])⟩ (fun ⟨i, Z⟩ hi => ?_)
      simp only at hi ⊢
      by_cases hil : i < l.A.length
      · have i1 : I64 ((i : Int) + 1) := by unfold I64; omega
        have hrl : (ix l.A i).length ≤ 1000 := hs.r _ (ix_mem hil)
        have b4 := b4 i hil
        obtain ⟨s, iss, hsv⟩ : ∃ s iss, valueF ⟨[], [], ix l.A i⟩ x = (s, iss) := ⟨_, _, rfl⟩
        have b4 := b4 s
        rw [hsv] at b4
        have hib : i < l.B.length := by have := (check_zero hck).2.2.2.1; omega
        simp [aev, cav, look, acallPure, abin, abinN, abinP, abinI, abinS, aun, aconv, afield, afieldAddr, aindexAddr, aindex, aslice, alow, ahigh, abuild, abuildGo, cellsOf, splice, fieldTy, alen, apick, amax, amin, aload, headV, aparts, abuildSlice, elParts, abytesStr, astore, amake, aappend, aclear, anew, arith, aresults, aresList, ares, spec0, spec1, spec2, spec3, spec4, eqCells, eqCell, CB, FB, hil, rowAt_enc hil, sValueF, hrl, hsv]
        refine AW_regionF sigCBs mixCBs [.pure, .pure, .read, .pure, .read, .pure, .pure, .read, .read, .pure, .pure] [[],[0],[0,1],[0,1],[1,0,3],[0,1],[5,3,0,1,4],[4,1,0,3,5,6],[6,5,3,4,7,1,0,2],[2,0,1,7,4,3,5,6,8],[8,6,5,3,4,7,2,9,0,1]] (by kernel_rfl) (by kernel_rfl) (by kernel_rfl) (by kernel_rfl) ?_
        cases iss with
        | false =>
          simp [aev, cav, look, acallPure, abin, abinN, abinP, abinI, abinS, aun, aconv, afield, afieldAddr, aindexAddr, aindex, aslice, alow, ahigh, abuild, abuildGo, cellsOf, splice, fieldTy, alen, apick, amax, amin, aload, headV, aparts, abuildSlice, elParts, abytesStr, astore, amake, aappend, aclear, anew, arith, aresults, aresList, ares, spec0, spec1, spec2, spec3, spec4, eqCells, eqCell, CB, FB, hil, hib, i1]
          exact ⟨i + 1, by omega, by omega, Z ++ [FB s], weak_eq (by simp) (by simp [CB, FB])⟩
        | true =>
          have b4 := b4 rfl
          have b4' : ¬ cmpF s (ix l.B i) < 0 := by omega
          simp [aev, cav, look, acallPure, abin, abinN, abinP, abinI, abinS, aun, aconv, afield, afieldAddr, aindexAddr, aindex, aslice, alow, ahigh, abuild, abuildGo, cellsOf, splice, fieldTy, alen, apick, amax, amin, aload, headV, aparts, abuildSlice, elParts, abytesStr, astore, amake, aappend, aclear, anew, arith, aresults, aresList, ares, spec0, spec1, spec2, spec3, spec4, eqCells, eqCell, CB, FB, hil, hib, rowAt_enc hib, sCmpF, b4, b4', i1]
          exact ⟨i + 1, by omega, by omega, Z ++ [FB s], weak_eq (by simp) (by simp [CB, FB])⟩
      · obtain ⟨fb, hfb⟩ : ∃ fb, feasB l y = fb := ⟨_, rfl⟩
        rw [hfb] at hyy
        cases ok with
        | false => simp [aev, cav, look, acallPure, abin, abinN, abinP, abinI, abinS, aun, aconv, afield, afieldAddr, aindexAddr, aindex, aslice, alow, ahigh, abuild, abuildGo, cellsOf, splice, fieldTy, alen, apick, amax, amin, aload, headV, aparts, abuildSlice, elParts, abytesStr, astore, amake, aappend, aclear, anew, arith, aresults, aresList, ares, spec0, spec1, spec2, spec3, spec4, eqCells, eqCell, CB, FB, hil]
        | true =>
          cases fb with
          | false => simp [aev, cav, look, acallPure, abin, abinN, abinP, abinI, abinS, aun, aconv, afield, afieldAddr, aindexAddr, aindex, aslice, alow, ahigh, abuild, abuildGo, cellsOf, splice, fieldTy, alen, apick, amax, amin, aload, headV, aparts, abuildSlice, elParts, abytesStr, astore, amake, aappend, aclear, anew, arith, aresults, aresList, ares, spec0, spec1, spec2, spec3, spec4, eqCells, eqCell, CB, FB, hil, sFeas, hs, hy, hfb]
          | true =>
            have hyy := hyy w rfl rfl
            simp [aev, cav, look, acallPure, abin, abinN, abinP, abinI, abinS, aun, aconv, afield, afieldAddr, aindexAddr, aindex, aslice, alow, ahigh, abuild, abuildGo, cellsOf, splice, fieldTy, alen, apick, amax, amin, aload, headV, aparts, abuildSlice, elParts, abytesStr, astore, amake, aappend, aclear, anew, arith, aresults, aresList, ares, spec0, spec1, spec2, spec3, spec4, eqCells, eqCell, CB, FB, hil, sFeas, hs, hy, hfb, sCmpF, hyy]
end Go.Proofs.YtifbaegnkodneaaDoor

/-
  layer 30: costs that are a multiple of other costs: the same pivots.
-/
namespace Go.Proofs.YtifbaegnkodneaaDoor
open Go.RowKit
set_option linter.unusedSimpArgs false
set_option linter.unusedVariables false
set_option maxRecDepth 100000

/-- Two tableaus that differ in their costs, by a factor. -/
structure Twin (a : Rat) (t u : Tab) : Prop where
  s : ∃ L, Shape L t
  s' : ∃ L, Shape L u
  v : Vd t
  v' : Vd u
  c : t.cost.length = t.w + 1
  c' : u.cost.length = u.w + 1
  n : u.n = t.n
  m : u.m = t.m
  r : u.rows = t.rows
  b : u.basis = t.basis
  q : ∀ k, (Q u).c k = a * (Q t).c k
section
variable {a : Rat} {t u : Tab}
theorem Twin.w (h : Twin a t u) : u.w = t.w := by unfold Tab.w; rw [h.n, h.m]
theorem rows_eq {L L' : Lay} (hS : Shape L t) (hS' : Shape L' u) (hv : Vd t) (hv' : Vd u) (hm : u.m = t.m) (hw : u.w = t.w) (h : ∀ i k, (Q u).T i k = (Q t).T i k) : u.rows = t.rows := by
  refine List.ext_getElem (by rw [hS.m, hS'.m, hm]) fun i h1 h2 => ?_
  have hi : i < t.m := by rw [← hS.m]; exact h2
  have l1 := row_len hS hi
  have l2 := row_len hS' (i := i) (by rw [hm]; exact hi)
  rw [ix_lt h1] at l2
  rw [ix_lt h2] at l1
  refine List.ext_getElem (by rw [l1, l2, hw]) fun k h3 h4 => ?_
  have e := h i k
  have v1 := hv.rows i k hi (by rw [l1] at h4; exact h4)
  have v2 := hv'.rows i k (by rw [hm]; exact hi) (by rw [l2] at h3; exact h3)
  have e : V (ix (ix u.rows i) k) = V (ix (ix t.rows i) k) := e
  have := V_inj v2 v1 e
  rwa [ix_lt h1, ix_lt h2, ix_lt h3, ix_lt h4] at this
theorem sign_same (ha : 0 < a) {x y : Fr} (hx : ValidF x) (hy : ValidF y) (h : V y = a * V x) : y.N < 0 ↔ x.N < 0 := by
  rw [V_neg_iff hx, V_neg_iff hy, h]
  constructor
  · intro h1
    apply Classical.byContradiction
    intro h2
    have : 0 ≤ a * V x := Rat.mul_nonneg (Rat.le_of_lt ha) (by grind)
    grind
  · intro h1
    have : 0 < a * (- V x) := Rat.mul_pos ha (by grind)
    grind
theorem Twin.ent (h : Twin a t u) (ha : 0 < a) : ∀ {k}, k ≤ t.w → entK u k = entK t k
  | 0, _ => rfl
  | k + 1, hk => by
    have ih := h.ent ha (k := k) (by omega)
    have hs := sign_same ha (cost_valid h.v h.c (k := k) (by omega)) (cost_valid h.v' h.c' (k := k) (by rw [h.w]; omega)) (h.q k)
    unfold entK
    rw [ih]
    split
    · rfl
    · by_cases hN : (ix t.cost k).N < 0
      · rw [if_pos hN, if_pos (hs.2 hN)]
      · rw [if_neg hN, if_neg (fun e => hN (hs.1 e))]
theorem Twin.enter (h : Twin a t u) (ha : 0 < a) : enterF u = enterF t := by
  unfold enterF
  rw [h.w]
  exact h.ent ha (Nat.le_refl _)
theorem Twin.lv (h : Twin a t u) (j : Nat) : ∀ k, lvK u j k = lvK t j k
  | 0 => rfl
  | k + 1 => by
    unfold lvK
    rw [h.lv j k, h.r, h.w]
    cases lvK t j k with
    | none => rfl
    | some p =>
      obtain ⟨s, low⟩ := p
      simp only
      split
      · rfl
      · cases divO (ix (ix t.rows k) t.w) (ix (ix t.rows k) j) with
        | none => rfl
        | some r =>
          simp only
          have : lvTest u s low k r = lvTest t s low k r := by unfold lvTest; rw [h.b]
          by_cases hT : lvTest t s low k r
          · rw [if_pos hT, if_pos (by rw [this]; exact hT)]
          · rw [if_neg hT, if_neg (by rw [this]; exact hT)]
theorem Twin.leav (h : Twin a t u) (j : Nat) : leavF u j = leavF t j := by
  unfold leavF
  rw [h.m, h.lv]
theorem Twin.piv (h : Twin a t u) {i j : Nat} (hi : i < t.m) (hj : j < t.w) (h1 : (pivF t i j).over = false) (h2 : (pivF u i j).over = false) : Twin a (pivF t i j) (pivF u i j) := by
  obtain ⟨L, hS⟩ := h.s
  obtain ⟨L', hS'⟩ := h.s'
  obtain ⟨p1, p2, p3, p4⟩ := piv_Q hS hi hj h1
  obtain ⟨q1, q2, q3, q4⟩ := piv_Q hS' (by rw [h.m]; exact hi) (by rw [h.w]; exact hj) h2
  have k1 := pivF_shape hS hi hj
  have k2 := pivF_shape hS' (i := i) (j := j) (by rw [h.m]; exact hi) (by rw [h.w]; exact hj)
  have hT : ∀ i k, (Q u).T i k = (Q t).T i k := fun i k => by
    show V (ix (ix u.rows i) k) = _
    rw [h.r]
    rfl
  have hm : (pivF u i j).m = (pivF t i j).m := by rw [pivF_m, pivF_m, h.m]
  have hw : (pivF u i j).w = (pivF t i j).w := by rw [pivF_w, pivF_w, h.w]
  refine ⟨⟨L, k1⟩, ⟨L', k2⟩, p4 h.v, q4 h.v', by rw [pivF_cost, pivF_w, h.c], by rw [pivF_cost, pivF_w, h.c'], by rw [pivF_n, pivF_n, h.n], hm, rows_eq k1 k2 (p4 h.v) (q4 h.v') hm hw (fun i' k => ?_), by rw [pivF_bas, pivF_bas, h.b], fun k => ?_⟩
  · rw [p3, q3]
    show (if i' = i then _ else _) = if i' = i then _ else _
    rw [hT, hT, hT, hT]
  · rw [p3, q3]
    show (Q u).c k - (Q u).c j * ((Q u).T i k / (Q u).T i j) = a * ((Q t).c k - (Q t).c j * ((Q t).T i k / (Q t).T i j))
    rw [hT, hT, h.q, h.q]
    grind
theorem runF_over {t : Tab} (h : t.over = true) {n : Nat} {r : Bool × Tab} (hr : runF n t = some r) : r = (true, t) := by
  cases n with
  | zero => cases hr
  | succ n =>
    unfold runF at hr
    have : stepF t = .inl (true, t) := if_pos h
    rw [this] at hr
    injection hr with hr
    exact hr.symm
theorem Twin.run (ha : 0 < a) : ∀ {n n' : Nat} {t u : Tab} {r r' : Bool × Tab}, Twin a t u → runF n t = some r → runF n' u = some r' → r.2.over = false → r'.2.over = false → r'.1 = r.1 ∧ Twin a r.2 r'.2
  | 0, _, _, _, _, _, _, h, _, _, _ => by cases h
  | _ + 1, 0, _, _, _, _, _, _, h, _, _ => by cases h
  | n + 1, n' + 1, t, u, r, r', h, h1, h2, o1, o2 => by
    have ot : t.over = false := by
      cases hb : t.over with
      | false => rfl
      | true => rw [runF_over hb h1, hb] at o1; cases o1
    have ou : u.over = false := by
      cases hb : u.over with
      | false => rfl
      | true => rw [runF_over hb h2, hb] at o2; cases o2
    unfold runF at h1 h2
    have s1 : stepF t = match enterF t with
      | none => .inl (true, t)
      | some j => if (leavF t j).2 then .inl (true, orT t true) else if (leavF t j).1 < 0 then .inl (false, t) else .inr (pivF t (leavF t j).1.toNat j) := if_neg (by rw [ot]; decide)
    have s2 : stepF u = match enterF u with
      | none => .inl (true, u)
      | some j => if (leavF u j).2 then .inl (true, orT u true) else if (leavF u j).1 < 0 then .inl (false, u) else .inr (pivF u (leavF u j).1.toNat j) := if_neg (by rw [ou]; decide)
    rw [h.enter ha] at s2
    cases he : enterF t with
    | none =>
      rw [he] at s1 s2
      rw [s1] at h1
      rw [s2] at h2
      injection h1 with h1
      injection h2 with h2
      rw [← h1, ← h2]
      exact ⟨rfl, h⟩
    | some j =>
      rw [he] at s1 s2
      simp only [h.leav] at s1 s2
      by_cases hl : (leavF t j).2 = true
      · rw [if_pos hl] at s1
        rw [s1] at h1
        injection h1 with h1
        rw [← h1] at o1
        simp [orT] at o1
      · rw [if_neg hl] at s1 s2
        by_cases hn : (leavF t j).1 < 0
        · rw [if_pos hn] at s1 s2
          rw [s1] at h1
          rw [s2] at h2
          injection h1 with h1
          injection h2 with h2
          rw [← h1, ← h2]
          exact ⟨rfl, h⟩
        · rw [if_neg hn] at s1 s2
          rw [s1] at h1
          rw [s2] at h2
          obtain ⟨i, hi, hii⟩ := leavF_in t j hn
          rw [hii, Int.toNat_natCast] at h1 h2
          have p1 : (pivF t i j).over = false := by
            cases hb : (pivF t i j).over with
            | false => rfl
            | true => rw [runF_over hb h1, hb] at o1; cases o1
          have p2 : (pivF u i j).over = false := by
            cases hb : (pivF u i j).over with
            | false => rfl
            | true => rw [runF_over hb h2, hb] at o2; cases o2
          exact Twin.run ha (h.piv hi (entK_lt he) p1 p2) h1 h2 o1 o2
end
/-! ### Programs that differ in their costs -/
structure Scaled (a : Rat) (l m : Lin) : Prop where
  A : m.A = l.A
  B : m.B = l.B
  n : m.C.length = l.C.length
  c : ∀ k, k < l.C.length → cQ m k = a * cQ l k
section
variable {a : Rat} {l m : Lin}
theorem Scaled.row (h : Scaled a l m) (i : Nat) : rowB m i = rowB l i := by
  unfold rowB putE keepB
  rw [h.A, h.B, h.n]
theorem Scaled.bas (h : Scaled a l m) : ∀ k, basK m k = basK l k
  | 0 => rfl
  | k + 1 => by
    unfold basK keepB
    rw [h.bas k, h.A, h.B, h.n]
theorem Scaled.beg (h : Scaled a l m) : begF m = begF l := by
  unfold begF tabB
  rw [h.bas, h.A, h.n]
  congr 1
  exact List.map_congr_left fun i _ => h.row i
theorem Scaled.s1 (h : Scaled a l m) (ol : Ok l) (om : Ok m) {t : Tab} (ht : In2 l l.A.length t) (o1 : (s1T t l.C).over = false) (o2 : (s1T t m.C).over = false) : Twin a (s1T t l.C) (s1T t m.C) := by
  obtain ⟨L, hS⟩ := ht.s
  have hmn : t.n = m.C.length := by rw [h.n, ht.n]
  have hmw : t.w = m.C.length + m.A.length := by rw [h.n, h.A, ht.w]
  obtain ⟨p1, p2, p3⟩ := s1_Q ol hS ht.n ht.w (k := t.m) (Nat.le_refl _) o1
  obtain ⟨q1, q2, q3⟩ := s1_Q om hS hmn hmw (k := t.m) (Nat.le_refl _) o2
  obtain ⟨a1, a2, a3, a4⟩ := s1K_same (t := t) ht.n.symm t.m
  obtain ⟨b1, b2, b3, b4⟩ := s1K_same (t := t) hmn.symm t.m
  have k1 : Shape (newC L []) (s1T t l.C) := s1K_shape hS ht.n.symm (Nat.le_refl _)
  have k2 : Shape (newC L []) (s1T t m.C) := s1K_shape hS hmn.symm (Nat.le_refl _)
  have w1 : (s1T t l.C).w = t.w := s1K_w ht.n.symm _
  have w2 : (s1T t m.C).w = t.w := s1K_w hmn.symm _
  have Q1 : Q (s1T t l.C) = _ := p2
  have Q2 : Q (s1T t m.C) = _ := q2
  have ce : ∀ k, cE m k = a * cE l k := fun k => by
    unfold cE
    rw [h.n]
    split
    · rename_i hk; exact h.c k hk
    · grind
  refine ⟨⟨_, k1⟩, ⟨_, k2⟩, p3 ht.v, q3 ht.v, by rw [w1]; exact a3, by rw [w2]; exact b3, b1.trans a1.symm, b2.trans a2.symm, rows_eq k1 k2 (p3 ht.v) (q3 ht.v) (b2.trans a2.symm) (by rw [w1, w2]) (fun i k => by rw [Q1, Q2]), b4.trans a4.symm, fun k => ?_⟩
  rw [Q1, Q2]
  show cE m k - Sm t.m (fun i => if (Q t).b i < m.C.length then cQ m ((Q t).b i) * (Q t).T i k else 0) = a * (cE l k - Sm t.m (fun i => if (Q t).b i < l.C.length then cQ l ((Q t).b i) * (Q t).T i k else 0))
  rw [ce, Sm_congr (g := fun i => a * (if (Q t).b i < l.C.length then cQ l ((Q t).b i) * (Q t).T i k else 0)) (fun i hi => by
    rw [h.n]
    split
    · rename_i hb; rw [h.c _ hb]; grind
    · grind), Sm_mul]
  grind
noncomputable def afterF (f : Bool × Tab) (c : List Fr) : List Fr × Fr × Int :=
  if f.2.over = true then ([], F00, 24) else if f.1 = false then ([], F00, 23)
  else if (secondF f.2 c).2.over = true then ([], F00, 24) else if (secondF f.2 c).1 = false then ([], F00, 19)
  else (xF (secondF f.2 c).2, negF (ix (secondF f.2 c).2.cost (secondF f.2 c).2.w), 0)
theorem solveF_at {l : Lin} (h : checkF l = 0) : solveF l = afterF (firstF (begF l)) l.C := if_neg (fun e => e h)
/-- The same errors, the same solutions, a multiple of the value, unless one of them is too great. -/
theorem Scaled.solve (h : Scaled a l m) (ha : 0 < a) (hl : checkF l = 0) (hm : checkF m = 0) (n1 : (solveF l).2.2 ≠ 24) (n2 : (solveF m).2.2 ≠ 24) : (solveF m).2.2 = (solveF l).2.2 ∧ ((solveF l).2.2 = 0 → (solveF m).1 = (solveF l).1 ∧ V (solveF m).2.1 = a * V (solveF l).2.1 ∧ ValidF (solveF m).2.1) := by
  have ol := ok_of hl
  have om := ok_of hm
  have fi := first_in ol
  have fi' := first_in om
  rw [h.beg] at fi'
  rw [solveF_at hl] at n1 ⊢
  rw [solveF_at hm, h.beg] at n2 ⊢
  generalize firstF (begF l) = f at *
  obtain ⟨fb, t⟩ := f
  unfold afterF at *
  simp only at *
  by_cases h1 : t.over = true
  · rw [if_pos h1] at n1; exact absurd rfl n1
  simp only [if_neg h1] at n1 n2 ⊢
  by_cases h2 : fb = false
  · simp only [if_pos h2]
    exact ⟨trivial, fun e => by cases e⟩
  simp only [if_neg h2] at n1 n2 ⊢
  have h1 : t.over = false := by simpa using h1
  have h2 : fb = true := by simpa using h2
  have hin := fi h1 h2
  have hin' := fi' h1 h2
  by_cases o1 : (secondF t l.C).2.over = true
  · rw [if_pos o1] at n1; exact absurd rfl n1
  by_cases o2 : (secondF t m.C).2.over = true
  · rw [if_pos o2] at n2; exact absurd rfl n2
  simp only [if_neg o1, if_neg o2]
  have o1 : (secondF t l.C).2.over = false := by simpa using o1
  have o2 : (secondF t m.C).2.over = false := by simpa using o2
  have s1 : ∀ c : List Fr, (secondF t c).2.over = false → (s1T t c).over = false ∧ secondF t c = phaseF (s1T t c) := fun c o => by
    unfold secondF at o ⊢
    by_cases hb : (s1T t c).over = true
    · rw [if_pos hb] at o
      exact absurd o (by rw [show (true, s1T t c).2 = s1T t c from rfl, hb]; decide)
    · rw [if_neg hb]
      exact ⟨by simpa using hb, rfl⟩
  obtain ⟨f1, f2⟩ := s1 _ o1
  obtain ⟨g1, g2⟩ := s1 _ o2
  have tw := h.s1 ol om hin f1 g1
  obtain ⟨r, n, hr⟩ := (s1_in ol hin f1).halts
  obtain ⟨r', n', hr'⟩ := (s1_in om hin' g1).halts
  rw [f2, phaseF_eq hr] at o1 ⊢
  rw [g2, phaseF_eq hr'] at o2 ⊢
  obtain ⟨e1, e2⟩ := Twin.run ha tw hr hr' o1 o2
  rw [e1]
  by_cases hb : r.1 = false
  · simp only [if_pos hb]
    exact ⟨trivial, fun e => by cases e⟩
  simp only [if_neg hb]
  refine ⟨trivial, fun _ => ⟨?_, ?_, ?_⟩⟩
  · show xF r'.2 = xF r.2
    have hx : ∀ k, xK r'.2 k = xK r.2 k := by
      intro k
      induction k with
      | zero => unfold xK; rw [e2.n]
      | succ k ih =>
        unfold xK
        rw [ih, e2.b, e2.n, e2.r, e2.w]
    unfold xF
    rw [e2.m]
    exact hx _
  · have v1 := cost_valid e2.v e2.c (k := r.2.w) (by omega)
    have v2 := cost_valid e2.v' e2.c' (k := r'.2.w) (by omega)
    show V (negF (ix r'.2.cost r'.2.w)) = a * V (negF (ix r.2.cost r.2.w))
    rw [neg_val v1, neg_val v2]
    have := e2.q r.2.w
    have this : V (ix r'.2.cost r.2.w) = a * V (ix r.2.cost r.2.w) := this
    rw [e2.w, this]
    grind
  · exact valid_neg (cost_valid e2.v' e2.c' (k := r'.2.w) (by omega))
end
end Go.Proofs.YtifbaegnkodneaaDoor

/-
  layer 30: SimplexScaled.
-/
namespace Go.Proofs.YtifbaegnkodneaaDoor
open Go.RowKit
set_option linter.unusedSimpArgs false
set_option linter.unusedVariables false
set_option maxRecDepth 100000

/-- The costs times a fraction, as far as they go. -/
def MulTo (l : Lin) (κ : Fr) (j : Nat) (c : List Fr) : Prop := c.length = j ∧ ∀ i, i < j → mulO (ix l.C i) κ = some (ix c i)
theorem MulTo.snoc {l : Lin} {κ : Fr} {j : Nat} {c : List Fr} {p : Fr} (h : MulTo l κ j c) (hp : mulO (ix l.C j) κ = some p) : MulTo l κ (j + 1) (c ++ [p]) := by
  obtain ⟨h1, h2⟩ := h
  refine ⟨by simp [h1], fun i hi => ?_⟩
  by_cases hij : i < j
  · rw [h2 i hij]
    unfold ix
    rw [List.getD_eq_getElem?_getD, List.getD_eq_getElem?_getD, List.getElem?_append_left (by omega)]
  · have : i = j := by omega
    subst this
    rw [hp, ix_lt (by simp [h1])]
    simp [h1]
section
variable {l : Lin} {κ : Fr} {c : List Fr}
theorem mulTo_check (hl : checkF l = 0) (h : MulTo l κ l.C.length c) : checkF ⟨l.A, l.B, c⟩ = 0 := by
  obtain ⟨k1, k2, k3, k4, k5, k6, k7⟩ := check_zero hl
  have hc := h.1
  have hv : AllV c := fun f hf => by
    obtain ⟨i, hi, rfl⟩ := List.getElem_of_mem hf
    have := (mulO_some (h.2 i (by omega))).2.2.1
    rwa [ix_lt hi] at this
  unfold checkF
  simp only [hc]
  rw [if_neg (by omega), if_neg]
  rintro (e | e | e | e | e)
  · rw [e] at hc
    exact k3 (List.length_eq_zero_iff.1 hc.symm)
  · exact e k4
  · exact e k5
  · exact e hv
  · exact e k7
theorem mulTo_scaled (h : MulTo l κ l.C.length c) : Scaled (V κ) l ⟨l.A, l.B, c⟩ := by
  refine ⟨rfl, rfl, h.1, fun k hk => ?_⟩
  have := (mulO_some (h.2 k hk)).2.2.2
  show V (ix c k) = V κ * V (ix l.C k)
  rw [this]
  grind
structure ScAns (p q : List Fr × Fr × Int) (κ : Fr) : Prop where
  e : p.2.2 ≠ 24 → q.2.2 ≠ 24 → q.2.2 = p.2.2
  x : p.2.2 = 0 → q.2.2 = 0 → p.1 = q.1
  v : p.2.2 = 0 → q.2.2 = 0 → ∀ r, mulF p.2.1 κ = (r, true) → r = q.2.1
theorem sc_ans (hl : checkF l = 0) (hk : 0 < κ.N) (hv : ValidF κ) (h : MulTo l κ l.C.length c) : ScAns (solveF l) (solveF ⟨l.A, l.B, c⟩) κ := by
  have hs := (mulTo_scaled h).solve ((V_pos_iff hv).1 hk) hl (mulTo_check hl h)
  refine ⟨fun n1 n2 => (hs n1 n2).1, fun e1 e2 => ?_, fun e1 e2 r hr => ?_⟩
  · exact ((hs (by omega) (by omega)).2 e1).1.symm
  · obtain ⟨_, q1, q2⟩ := (hs (by omega) (by omega)).2 e1
    have hm : mulO (solveF l).2.1 κ = some r := by unfold mulO toO; rw [hr]; rfl
    obtain ⟨_, _, r3, r4⟩ := mulO_some hm
    refine V_inj r3 q2 ?_
    rw [r4, q1]
    grind
end
def kB (by_ : UInt8) : Int := (by_.toNat % 9 : Nat) + 1
def MB (l : Lin) (j : Nat) : Blk := ⟨25, 3, [[.slice 1 false (encRows l.A), .slice 2 false (encRows l.B), .own 3 j]], true, false⟩
theorem reads_u : Reads Tryd.prog 5 UInt8 (fun _ => True) := reads_u8 (by kernel_rfl)
theorem frz34 (H : List Blk) : frzL [3] 4 H = H := by
  refine List.ext_getElem? fun k => ?_
  rw [frzL_get]
  have : [3].contains (4 + k) = false := by simp; omega
  rw [this]
  cases H[k]? <;> rfl
noncomputable def CSc : Ctx := mkC Tryd.prog G0 [(9, .pure sFew), (10, .pure (spec0 (.bool true))), (25, .pure sWhole), (15, .pure sCheckF), (20, .frz sSolve), (26, .pure sMulF), (22, .pure sFracs)]
@[simp] theorem CSc_P : CSc.P = Tryd.prog := rfl
@[simp] theorem CSc_G : CSc.G = G0 := rfl
@[simp] theorem CSc_1 : CSc.S 9 = .pure sFew := rfl
@[simp] theorem CSc_2 : CSc.S 10 = .pure (spec0 (.bool true)) := rfl
@[simp] theorem CSc_3 : CSc.S 25 = .pure sWhole := rfl
@[simp] theorem CSc_4 : CSc.S 15 = .pure sCheckF := rfl
@[simp] theorem CSc_5 : CSc.S 20 = .frz sSolve := rfl
@[simp] theorem CSc_6 : CSc.S 26 = .pure sMulF := rfl
@[simp] theorem CSc_7 : CSc.S 22 = .pure sFracs := rfl
theorem mixCSc : CSc.P.follows .mixedOrders = true := mixed
theorem sigCSc : SigOK CSc := sigOK_cons (entryPure (fewP) Tryd.func9 rfl (by decide)) (sigOK_cons (entryPure (aliveP) Tryd.func10 rfl (by decide)) (sigOK_cons (entryPure (wholeP) Tryd.func25 rfl (by decide)) (sigOK_cons (entryPure (checkP) Tryd.func15 rfl (by decide)) (sigOK_cons (entryFrz (solveP) Tryd.func20 rfl (by decide)) (sigOK_cons (entryPure (mulR) Tryd.func26 rfl (by decide)) (sigOK_cons (entryPure (fracsR) Tryd.func22 rfl (by decide)) (sigOK_nil _ _)))))))
set_option maxHeartbeats 16000000 in
theorem lawScaled : PureOK Tryd.prog G0 8 (spec2 (fun (_ : Lin) (_ : UInt8) => True) (fun _ _ => .bool true)) := by
  refine pureH2 (C := CSc) sigCSc mixCSc Tryd.func8 rfl rfl rfl [9] (by kernel_rfl) (by decide) (fun l b _ => ?_)
  by_cases h1 : FewL l
  case neg => simp [aev, cav, look, acallPure, abin, abinN, abinP, abinI, abinS, aun, aconv, afield, afieldAddr, aindexAddr, aindex, aslice, alow, ahigh, abuild, abuildGo, cellsOf, splice, fieldTy, alen, apick, amax, amin, aload, headV, aparts, abuildSlice, elParts, abytesStr, astore, amake, aappend, aclear, anew, arith, aresults, aresList, ares, spec0, spec1, spec2, spec3, spec4, eqCells, eqCell, sFew, h1]
  have hs := few_small h1
  by_cases hc : checkF l = 0
  case neg => simp [aev, cav, look, acallPure, abin, abinN, abinP, abinI, abinS, aun, aconv, afield, afieldAddr, aindexAddr, aindex, aslice, alow, ahigh, abuild, abuildGo, cellsOf, splice, fieldTy, alen, apick, amax, amin, aload, headV, aparts, abuildSlice, elParts, abytesStr, astore, amake, aappend, aclear, anew, arith, aresults, aresList, ares, spec0, spec1, spec2, spec3, spec4, eqCells, eqCell, sFew, h1, sCheckF, hs, hc]
  have hkb : 1 ≤ kB b ∧ kB b ≤ 9 := by unfold kB; omega
  have eb : (Enc.enc b : AV) = .int .u8 (b.toNat : Int) := rfl
  obtain ⟨q, hq⟩ : ∃ q : Nat, b.toNat % 9 = q := ⟨_, rfl⟩
  have hq9 : q < 9 := by omega
  have et : (b.toNat : Int).tmod 9 = q := by rw [Int.tmod_eq_emod_of_nonneg (by omega)]; omega
  have i0 : I64 (q : Int) := by unfold I64; omega
  have i1 : I64 ((q : Int) + 1) := by unfold I64; omega
  obtain ⟨κ, hκ⟩ : ∃ κ : Fr, κ = ⟨(q : Int) + 1, 1⟩ := ⟨_, rfl⟩
  have hκN : 0 < κ.N := by rw [hκ]; show (0 : Int) < q + 1; omega
  have hκv : ValidF κ := by
    rw [hκ]
    exact ⟨by show (1 : Int) ≤ 1; omega, by show (1 : Int) ≤ 1000000000000000; omega, ⟨by show _ ≤ (q : Int) + 1; omega, by show (q : Int) + 1 ≤ _; omega⟩, by show Int.gcd ((q : Int) + 1) 1 = 1; exact Int.gcd_one_right _⟩
  have i8 : IntKind.wrap .u8 (q : Int) = q := by simp [IntKind.wrap, IntKind.bits, IntKind.signed]; omega
  have i9 : IntKind.wrap .i64 (q : Int) = q := w64_in i0
  simp [aev, cav, look, acallPure, abin, abinN, abinP, abinI, abinS, aun, aconv, afield, afieldAddr, aindexAddr, aindex, aslice, alow, ahigh, abuild, abuildGo, cellsOf, splice, fieldTy, alen, apick, amax, amin, aload, headV, aparts, abuildSlice, elParts, abytesStr, astore, amake, aappend, aclear, anew, arith, aresults, aresList, ares, spec0, spec1, spec2, spec3, spec4, eqCells, eqCell, sFew, h1, sCheckF, hs, hc, sWhole, eb, et, i0, i1, i8, i9]
  refine AW.weak (weak_nilcell 2 0 2 2 29 rfl rfl rfl (by decide)) ?_
  have hcl : l.C.length ≤ 1000 := hs.c
  refine loop_ruleH (C := CSc) sigCSc mixCSc [9] (fun x : Nat × List Fr × List Blk => ⟨[(2, .ptr 0 1 3 0 0), (5, .ptr 1 1 2 0 0), (6, .ptr 2 1 3 0 0), (7, .int .i64 x.1)], CB l :: FB κ :: MB l x.1 :: R2B x.2.1 :: x.2.2⟩) (fun x => x.1 ≤ l.C.length ∧ MulTo l κ x.1 x.2.1) (fun x => l.C.length - x.1) (by kernel_rfl) ⟨(0, [], []), ⟨by simp, rfl, fun i hi => by simp at hi⟩, weak_eq (by simp) (by simp [CB, FB, MB, R2B, hκ])⟩ (fun ⟨j, c, Z⟩ ⟨hj, hm⟩ => ?_)
  simp only at hj hm ⊢
  have hcj := hm.1
  by_cases hlt : j < l.C.length
  · have i2 : I64 ((j : Int) + 1) := by unfold I64; omega
    simp [aev, cav, look, acallPure, abin, abinN, abinP, abinI, abinS, aun, aconv, afield, afieldAddr, aindexAddr, aindex, aslice, alow, ahigh, abuild, abuildGo, cellsOf, splice, fieldTy, alen, apick, amax, amin, aload, headV, aparts, abuildSlice, elParts, abytesStr, astore, amake, aappend, aclear, anew, arith, aresults, aresList, ares, spec0, spec1, spec2, spec3, spec4, eqCells, eqCell, CB, FB, MB, R2B, hlt]
    refine AW_regionF sigCSc mixCSc [.pure, .read, .pure, .pure, .read, .read, .read, .pure, .pure, .pure, .eff, .eff, .pure] [[],[0],[],[2,0,1],[1,0,2,3],[],[5,3,2,0,1,4],[4,1,0,2,3,5,6],[6,5,3,2,0,1,4,7],[6,5,3,2,0,1,4,7],[],[7,4,1,0,2,3,5,6,8,10],[10,8,11,7,4,1,0,2,3,5,6,9]] (by kernel_rfl) (by kernel_rfl) (by kernel_rfl) (by kernel_rfl) ?_
    have em := mul_ofO (ix l.C j) κ
    have hsn := fun p => hm.snoc (p := p)
    obtain ⟨κn, κd⟩ := κ
    cases hmm : mulO (ix l.C j) ⟨κn, κd⟩ with
    | none =>
      rw [hmm] at em
      simp [aev, cav, look, acallPure, abin, abinN, abinP, abinI, abinS, aun, aconv, afield, afieldAddr, aindexAddr, aindex, aslice, alow, ahigh, abuild, abuildGo, cellsOf, splice, fieldTy, alen, apick, amax, amin, aload, headV, aparts, abuildSlice, elParts, abytesStr, astore, amake, aappend, aclear, anew, arith, aresults, aresList, ares, spec0, spec1, spec2, spec3, spec4, eqCells, eqCell, CB, FB, MB, R2B, hlt, rowAt_enc hlt, sMulF, em, ofO, F00]
      done
    | some p =>
      rw [hmm] at em hsn
      simp [aev, cav, look, acallPure, abin, abinN, abinP, abinI, abinS, aun, aconv, afield, afieldAddr, aindexAddr, aindex, aslice, alow, ahigh, abuild, abuildGo, cellsOf, splice, fieldTy, alen, apick, amax, amin, aload, headV, aparts, abuildSlice, elParts, abytesStr, astore, amake, aappend, aclear, anew, arith, aresults, aresList, ares, spec0, spec1, spec2, spec3, spec4, eqCells, eqCell, CB, FB, MB, R2B, hlt, rowAt_enc hlt, sMulF, em, ofO, F00, hcj, i2]
      exact ⟨⟨by omega, by omega⟩, j + 1, c ++ [p], ⟨by omega, hsn p rfl⟩, by omega, Z ++ [FB p], weak_eq (by simp) (by simp [FB])⟩
  · have hje : j = l.C.length := by omega
    subst hje
    have hsm : SmallL ⟨l.A, l.B, c⟩ := ⟨hs.a, hs.b, by show c.length ≤ 1000; omega, hs.r⟩
    have ha := sc_ans hc hκN hκv hm
    have p1 := pre_solve hs
    have p2 := pre_solve hsm
    obtain ⟨x, v, e, hv⟩ : ∃ x v e, solveF l = (x, v, e) := ⟨_, _, _, rfl⟩
    obtain ⟨y, w, f, hw⟩ : ∃ y w f, solveF ⟨l.A, l.B, c⟩ = (y, w, f) := ⟨_, _, _, rfl⟩
    rw [hv, hw] at ha
    obtain ⟨b1, b2, b3⟩ := ha
    simp only at b1 b2 b3
    by_cases he : e = 24
    · subst he
      simp [aev, cav, look, acallPure, abin, abinN, abinP, abinI, abinS, aun, aconv, afield, afieldAddr, aindexAddr, aindex, aslice, alow, ahigh, abuild, abuildGo, cellsOf, splice, fieldTy, alen, apick, amax, amin, aload, headV, aparts, abuildSlice, elParts, abytesStr, astore, amake, aappend, aclear, anew, arith, aresults, aresList, ares, spec0, spec1, spec2, spec3, spec4, eqCells, eqCell, CB, FB, MB, R2B, hlt, hcj, frz34, sSolve, p1, p2, hv, hw]
      done
    by_cases hf : f = 24
    · subst hf
      simp [aev, cav, look, acallPure, abin, abinN, abinP, abinI, abinS, aun, aconv, afield, afieldAddr, aindexAddr, aindex, aslice, alow, ahigh, abuild, abuildGo, cellsOf, splice, fieldTy, alen, apick, amax, amin, aload, headV, aparts, abuildSlice, elParts, abytesStr, astore, amake, aappend, aclear, anew, arith, aresults, aresList, ares, spec0, spec1, spec2, spec3, spec4, eqCells, eqCell, CB, FB, MB, R2B, hlt, hcj, frz34, sSolve, p1, p2, hv, hw, he]
      done
    have hfe := b1 he hf
    subst hfe
    obtain ⟨r, ok, hr⟩ : ∃ r ok, mulF v κ = (r, ok) := ⟨_, _, rfl⟩
    have hr' := hr
    obtain ⟨κn, κd⟩ := κ
    by_cases h0 : f = 0
    · subst h0
      have hxy := b2 rfl rfl
      subst hxy
      have hxl : x.length ≤ 1000 := by
        have := (best_of hc (solved_of hc hv)).len
        omega
      have b3 := b3 rfl rfl r
      rw [hr] at b3
      cases ok with
      | false =>
        simp [aev, cav, look, acallPure, abin, abinN, abinP, abinI, abinS, aun, aconv, afield, afieldAddr, aindexAddr, aindex, aslice, alow, ahigh, abuild, abuildGo, cellsOf, splice, fieldTy, alen, apick, amax, amin, aload, headV, aparts, abuildSlice, elParts, abytesStr, astore, amake, aappend, aclear, anew, arith, aresults, aresList, ares, spec0, spec1, spec2, spec3, spec4, eqCells, eqCell, CB, FB, MB, R2B, hlt, hcj, frz34, sSolve, p1, p2, hv, hw, sMulF, hr, sFracs, hxl]
        done
      | true =>
        have b3 := b3 rfl
        subst b3
        simp [aev, cav, look, acallPure, abin, abinN, abinP, abinI, abinS, aun, aconv, afield, afieldAddr, aindexAddr, aindex, aslice, alow, ahigh, abuild, abuildGo, cellsOf, splice, fieldTy, alen, apick, amax, amin, aload, headV, aparts, abuildSlice, elParts, abytesStr, astore, amake, aappend, aclear, anew, arith, aresults, aresList, ares, spec0, spec1, spec2, spec3, spec4, eqCells, eqCell, CB, FB, MB, R2B, hlt, hcj, frz34, sSolve, p1, p2, hv, hw, sMulF, hr, sFracs, hxl]
        done
    · simp [aev, cav, look, acallPure, abin, abinN, abinP, abinI, abinS, aun, aconv, afield, afieldAddr, aindexAddr, aindex, aslice, alow, ahigh, abuild, abuildGo, cellsOf, splice, fieldTy, alen, apick, amax, amin, aload, headV, aparts, abuildSlice, elParts, abytesStr, astore, amake, aappend, aclear, anew, arith, aresults, aresList, ares, spec0, spec1, spec2, spec3, spec4, eqCells, eqCell, CB, FB, MB, R2B, hlt, hcj, frz34, sSolve, p1, p2, hv, hw, he, h0, sMulF, hr]
      done
end Go.Proofs.YtifbaegnkodneaaDoor
