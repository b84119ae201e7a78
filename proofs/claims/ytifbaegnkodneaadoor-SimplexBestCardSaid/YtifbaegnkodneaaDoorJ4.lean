/-
  Texts joined: H7 H8 H9.
-/
import Derived.Test.YtifbaegnkodneaaDoorJ3
/-
  layer 30: SimplexDuality.
-/
namespace Go.Proofs.YtifbaegnkodneaaDoor
open Go.RowKit
set_option linter.unusedSimpArgs false
set_option linter.unusedVariables false
set_option maxRecDepth 100000

section
variable {l : Lin}
structure DualQ (l : Lin) : Prop where
  n : (dualL l).C.length = l.A.length
  m : (dualL l).A.length = l.C.length
  a : ∀ j i, j < l.C.length → i < l.A.length → aQ (dualL l) j i = - aQ l i j
  b : ∀ j, j < l.C.length → bQ (dualL l) j = - cQ l j
  c : ∀ i, i < l.A.length → cQ (dualL l) i = - bQ l i
theorem dual_q (h : Ok l) : DualQ l := by
  have hB := h.g.b
  refine ⟨by show (l.B.map negF).length = _; rw [List.length_map, hB], by simp [dualL], fun j i hj hi => ?_, fun j hj => ?_, fun i hi => ?_⟩
  · show V (ix (ix ((List.range l.C.length).map fun j => l.A.map fun a => negF (ix a j)) j) i) = - V (ix (ix l.A i) j)
    rw [ix_range hj, ix_mapN hi, neg_val (h.a i j hi hj)]
  · show V (ix (l.C.map negF) j) = - V (ix l.C j)
    rw [ix_mapN hj, neg_val (h.c j hj)]
  · show V (ix (l.B.map negF) i) = - V (ix l.B i)
    rw [ix_mapN (by omega), neg_val (h.b i hi)]
theorem Sm_neg (f : Nat → Rat) (n : Nat) : Sm n (fun i => - f i) = - Sm n f := by
  rw [Sm_congr (g := fun i => (-1) * f i) (fun i _ => by grind), Sm_mul]
  grind
theorem cert_feas (h : Ok l) {y : Nat → Rat} {v : Rat} (hy : Cert l y v) : FeasQ (dualL l) y ∧ Sm (dualL l).C.length (fun i => cQ (dualL l) i * y i) = - v := by
  have d := dual_q h
  refine ⟨⟨fun k hk => hy.nn k (by rw [← d.n]; exact hk), fun j hj => ?_⟩, ?_⟩
  · rw [d.m] at hj
    rw [d.b j hj, d.n, Sm_congr (g := fun i => - (y i * aQ l i j)) (fun i hi => by rw [d.a j i hj hi]; grind), Sm_neg]
    have := hy.col j hj
    grind
  · rw [d.n, Sm_congr (g := fun i => - (y i * bQ l i)) (fun i hi => by rw [d.c i hi]; grind), Sm_neg, hy.val]
theorem feas_cert (h : Ok l) {y : Nat → Rat} (hy : FeasQ (dualL l) y) : Cert l y (- Sm (dualL l).C.length (fun i => cQ (dualL l) i * y i)) := by
  have d := dual_q h
  refine ⟨fun i hi => hy.nn i (by rw [d.n]; exact hi), fun k hk => ?_, ?_⟩
  · have := hy.row k (by rw [d.m]; exact hk)
    rw [d.b k hk, d.n, Sm_congr (g := fun i => - (y i * aQ l i k)) (fun i hi => by rw [d.a k i hk hi]; grind), Sm_neg] at this
    grind
  · rw [d.n, Sm_congr (n := l.A.length) (f := fun i => cQ (dualL l) i * y i) (g := fun i => - (y i * bQ l i)) (fun i hi => by show cQ (dualL l) i * y i = _; rw [d.c i hi]; grind), Sm_neg]
    grind
theorem ray_no (h : Ok l) {d : Nat → Rat} (hd : Ray (dualL l) d) {x : Nat → Rat} (hx : FeasQ l x) : False := by
  have D := dual_q h
  have h1 := hd.neg
  rw [D.n, Sm_congr (g := fun i => - (d i * bQ l i)) (fun i hi => by rw [D.c i hi]; grind), Sm_neg] at h1
  have h2 : Sm l.A.length (fun i => d i * bQ l i) ≤ Sm l.A.length (fun i => Sm l.C.length (fun k => d i * (aQ l i k * x k))) := Sm_le fun i hi => by
    rw [Sm_mul]
    exact Rat.mul_le_mul_of_nonneg_left (hx.row i hi) (hd.nn i (by rw [D.n]; exact hi))
  rw [Sm_swap (fun i k => d i * (aQ l i k * x k))] at h2
  have h3 : Sm l.C.length (fun k => Sm l.A.length (fun i => d i * (aQ l i k * x k))) ≤ Sm l.C.length (fun _ => 0) := Sm_le fun k hk => by
    have h4 := hd.row k (by rw [D.m]; exact hk)
    rw [D.n, Sm_congr (g := fun i => - (d i * aQ l i k)) (fun i hi => by rw [D.a k i hk hi]; grind), Sm_neg] at h4
    rw [Sm_congr (g := fun i => x k * (d i * aQ l i k)) (fun i _ => by grind), Sm_mul]
    have := Rat.mul_nonneg (hx.nn k hk) h4
    grind
  rw [Sm_zero] at h3
  grind
theorem solved_dual (h : Ok l) (hd : Ok (dualL l)) {x y : List Fr} {v w : Fr} (hx : Solved l x v) (hy : Solved (dualL l) y w) : v = negF w := by
  obtain ⟨y0, c0⟩ := hx.cert
  obtain ⟨z0, c1⟩ := hy.cert
  obtain ⟨f1, f2⟩ := cert_feas h c0
  have h1 := c1.le f1
  rw [f2] at h1
  have h2 := (feas_cert h hy.feas).le hx.feas
  rw [hy.val, hx.val] at h2
  refine V_inj hx.vv (valid_neg hy.vv) ?_
  rw [neg_val hy.vv]
  grind
theorem solved_other (h : Ok l) {x : List Fr} {v : Fr} (hx : Solved l x v) {r : List Fr × Fr × Int} (hr : Answer (dualL l) r) : r.2.2 = 0 ∨ r.2.2 = 24 := by
  cases hr with
  | ok _ => exact .inl rfl
  | great => exact .inr rfl
  | none hn =>
    obtain ⟨y0, c0⟩ := hx.cert
    exact absurd ⟨y0, (cert_feas h c0).1⟩ hn
  | free _ hd =>
    obtain ⟨d, hd⟩ := hd
    exact (ray_no h hd hx.feas).elim
structure DualAns (l : Lin) (p q : List Fr × Fr × Int) : Prop where
  both : p.2.2 = 0 → q.2.2 = 0 → p.2.1 = negF q.2.1
  one : p.2.2 = 0 → q.2.2 = 0 ∨ q.2.2 = 24
  two : q.2.2 = 0 → p.2.2 = 0 ∨ p.2.2 = 24
  no : ¬ (p.2.2 = 19 ∧ q.2.2 = 19)
theorem dual_ans (h1 : checkF l = 0) (h2 : checkF (dualL l) = 0) : DualAns l (solveF l) (solveF (dualL l)) := by
  have o1 := ok_of h1
  have o2 := ok_of h2
  have a1 := solve_answer h1
  have a2 := solve_answer h2
  generalize solveF l = p at *
  generalize solveF (dualL l) = q at *
  refine ⟨fun e1 e2 => ?_, fun e1 => ?_, fun e2 => ?_, fun ⟨e1, e2⟩ => ?_⟩
  · cases a1 with
    | ok s1 =>
      cases a2 with
      | ok s2 => exact solved_dual o1 o2 s1 s2
      | none _ => cases e2
      | free _ _ => cases e2
      | great => cases e2
    | none _ => cases e1
    | free _ _ => cases e1
    | great => cases e1
  · cases a1 with
    | ok s1 => exact solved_other o1 s1 a2
    | none _ => cases e1
    | free _ _ => cases e1
    | great => cases e1
  · cases a2 with
    | ok s2 => exact solved_other o2 s2 (by rw [dual_dual h1]; exact a1)
    | none _ => cases e2
    | free _ _ => cases e2
    | great => cases e2
  · cases a1 with
    | free f1 _ =>
      cases a2 with
      | free _ r2 =>
        obtain ⟨x, hx⟩ := f1
        obtain ⟨d, hd⟩ := r2
        exact ray_no o1 hd hx
      | ok _ => cases e2
      | none _ => cases e2
      | great => cases e2
    | ok _ => cases e1
    | none _ => cases e1
    | great => cases e1
end
noncomputable def CDu : Ctx := mkC Tryd.prog G0 [(9, .pure sFew), (10, .pure (spec0 (.bool true))), (13, .pure sDual), (20, .pure sSolve)]
@[simp] theorem CDu_P : CDu.P = Tryd.prog := rfl
@[simp] theorem CDu_G : CDu.G = G0 := rfl
@[simp] theorem CDu_1 : CDu.S 9 = .pure sFew := rfl
@[simp] theorem CDu_2 : CDu.S 10 = .pure (spec0 (.bool true)) := rfl
@[simp] theorem CDu_3 : CDu.S 13 = .pure sDual := rfl
@[simp] theorem CDu_4 : CDu.S 20 = .pure sSolve := rfl
theorem mixCDu : CDu.P.follows .mixedOrders = true := mixed
theorem sigCDu : SigOK CDu := sigOK_cons (entryPure (fewP) Tryd.func9 rfl (by decide)) (sigOK_cons (entryPure (aliveP) Tryd.func10 rfl (by decide)) (sigOK_cons (entryPure (dualP) Tryd.func13 rfl (by decide)) (sigOK_cons (entryPure (solveP) Tryd.func20 rfl (by decide)) (sigOK_nil _ _))))
set_option maxHeartbeats 16000000 in
theorem lawDuality : PureOK Tryd.prog G0 6 (spec1 (fun (_ : Lin) => True) (fun _ => .bool true)) := by
  refine pureH1 (C := CDu) sigCDu mixCDu Tryd.func6 rfl rfl rfl [] (by kernel_rfl) (by decide) (fun l _ => ?_)
  by_cases h1 : FewL l
  case neg => simp [aev, cav, look, acallPure, abin, abinN, abinP, abinI, abinS, aun, aconv, afield, afieldAddr, aindexAddr, aindex, aslice, alow, ahigh, abuild, abuildGo, cellsOf, splice, fieldTy, alen, apick, amax, amin, aload, headV, aparts, abuildSlice, elParts, abytesStr, astore, amake, aappend, aclear, anew, arith, aresults, aresList, ares, spec0, spec1, spec2, spec3, spec4, eqCells, eqCell, sFew, h1]
  have hs := few_small h1
  have hd := small_dualF hs
  have hok := dualF_ok (l := l)
  obtain ⟨d, e, hde⟩ : ∃ d e, dualF l = (d, e) := ⟨_, _, rfl⟩
  rw [hde] at hd hok
  by_cases h2 : e = 0
  case neg => simp [aev, cav, look, acallPure, abin, abinN, abinP, abinI, abinS, aun, aconv, afield, afieldAddr, aindexAddr, aindex, aslice, alow, ahigh, abuild, abuildGo, cellsOf, splice, fieldTy, alen, apick, amax, amin, aload, headV, aparts, abuildSlice, elParts, abytesStr, astore, amake, aappend, aclear, anew, arith, aresults, aresList, ares, spec0, spec1, spec2, spec3, spec4, eqCells, eqCell, sFew, h1, sDual, hs, hde, h2]
  obtain ⟨k1, k2, k3⟩ := hok h2
  injection k3 with k3 k4
  subst k3 k4
  have ha := dual_ans k1 k2
  have p1 := pre_solve hs
  have p2 := pre_solve hd
  simp only at p2
  obtain ⟨x, v, f, hv⟩ : ∃ x v f, solveF l = (x, v, f) := ⟨_, _, _, rfl⟩
  obtain ⟨y, w, g, hw⟩ : ∃ y w g, solveF (dualL l) = (y, w, g) := ⟨_, _, _, rfl⟩
  rw [hv, hw] at ha
  obtain ⟨b1, b2, b3, b4⟩ := ha
  simp only at b1 b2 b3 b4
  by_cases hf : f = 0
  · subst hf
    by_cases hg : g = 0
    · subst hg
      have b1 := b1 rfl rfl
      subst b1
      have nN : (negF w).N = IntKind.i64.wrap (-w.N) := rfl
      have nD : (negF w).D = w.D := rfl
      simp [aev, cav, look, acallPure, abin, abinN, abinP, abinI, abinS, aun, aconv, afield, afieldAddr, aindexAddr, aindex, aslice, alow, ahigh, abuild, abuildGo, cellsOf, splice, fieldTy, alen, apick, amax, amin, aload, headV, aparts, abuildSlice, elParts, abytesStr, astore, amake, aappend, aclear, anew, arith, aresults, aresList, ares, spec0, spec1, spec2, spec3, spec4, eqCells, eqCell, sFew, h1, sDual, hs, hde, hd, sSolve, p1, p2, hv, hw, nN, nD]
      done
    · have hg2 : g = 24 := (b2 rfl).resolve_left hg
      subst hg2
      simp [aev, cav, look, acallPure, abin, abinN, abinP, abinI, abinS, aun, aconv, afield, afieldAddr, aindexAddr, aindex, aslice, alow, ahigh, abuild, abuildGo, cellsOf, splice, fieldTy, alen, apick, amax, amin, aload, headV, aparts, abuildSlice, elParts, abytesStr, astore, amake, aappend, aclear, anew, arith, aresults, aresList, ares, spec0, spec1, spec2, spec3, spec4, eqCells, eqCell, sFew, h1, sDual, hs, hde, hd, sSolve, p1, p2, hv, hw]
      done
  · by_cases hg : g = 0
    · subst hg
      have hf2 : f = 24 := (b3 rfl).resolve_left hf
      subst hf2
      simp [aev, cav, look, acallPure, abin, abinN, abinP, abinI, abinS, aun, aconv, afield, afieldAddr, aindexAddr, aindex, aslice, alow, ahigh, abuild, abuildGo, cellsOf, splice, fieldTy, alen, apick, amax, amin, aload, headV, aparts, abuildSlice, elParts, abytesStr, astore, amake, aappend, aclear, anew, arith, aresults, aresList, ares, spec0, spec1, spec2, spec3, spec4, eqCells, eqCell, sFew, h1, sDual, hs, hde, hd, sSolve, p1, p2, hv, hw]
      done
    · by_cases hf9 : f = 19
      · subst hf9
        have hg9 : ¬ g = 19 := fun e => b4 ⟨rfl, e⟩
        simp [aev, cav, look, acallPure, abin, abinN, abinP, abinI, abinS, aun, aconv, afield, afieldAddr, aindexAddr, aindex, aslice, alow, ahigh, abuild, abuildGo, cellsOf, splice, fieldTy, alen, apick, amax, amin, aload, headV, aparts, abuildSlice, elParts, abytesStr, astore, amake, aappend, aclear, anew, arith, aresults, aresList, ares, spec0, spec1, spec2, spec3, spec4, eqCells, eqCell, sFew, h1, sDual, hs, hde, hd, sSolve, p1, p2, hv, hw, hg, hg9]
        done
      · simp [aev, cav, look, acallPure, abin, abinN, abinP, abinI, abinS, aun, aconv, afield, afieldAddr, aindexAddr, aindex, aslice, alow, ahigh, abuild, abuildGo, cellsOf, splice, fieldTy, alen, apick, amax, amin, aload, headV, aparts, abuildSlice, elParts, abytesStr, astore, amake, aappend, aclear, anew, arith, aresults, aresList, ares, spec0, spec1, spec2, spec3, spec4, eqCells, eqCell, sFew, h1, sDual, hs, hde, hd, sSolve, p1, p2, hv, hw, hf, hg, hf9]
        done
end Go.Proofs.YtifbaegnkodneaaDoor

/-
  layer 30: SimplexBest.
-/
namespace Go.Proofs.YtifbaegnkodneaaDoor
open Go.RowKit
set_option linter.unusedSimpArgs false
set_option linter.unusedVariables false
set_option maxRecDepth 100000

theorem Sm_head (f : Nat → Rat) : ∀ n, Sm (n + 1) f = f 0 + Sm n (fun i => f (i + 1))
  | 0 => by unfold Sm Sm; grind
  | n + 1 => by
    show Sm (n + 1) f + f (n + 1) = f 0 + (Sm n _ + f (n + 1))
    rw [Sm_head f n]
    grind
theorem dot_V : ∀ {a x : List Fr} {s r : Fr}, dotO s a x = some r → ValidF s → a.length ≤ x.length → ValidF r ∧ V r = V s + Sm a.length (fun k => V (ix a k) * V (ix x k))
  | [], x, s, r, h, hs, _ => by
    unfold dotO at h
    injection h with h
    rw [← h]
    exact ⟨hs, by show _ = _ + 0; grind⟩
  | a :: ar, [], s, r, h, hs, hl => by simp at hl
  | a :: ar, x :: xs, s, r, h, hs, hl => by
    unfold dotO at h
    cases h1 : mulO a x with
    | none => rw [h1] at h; cases h
    | some p =>
      rw [h1] at h
      simp only at h
      cases h2 : addO s p with
      | none => rw [h2] at h; cases h
      | some t =>
        rw [h2] at h
        obtain ⟨m1, m2, m3, m4⟩ := mulO_some h1
        obtain ⟨q1, q2, q3, q4⟩ := addO_some h2
        obtain ⟨i1, i2⟩ := dot_V h q3 (by simpa using hl)
        refine ⟨i1, ?_⟩
        rw [i2, q4, m4]
        show _ = _ + Sm (ar.length + 1) _
        rw [Sm_head]
        have e0 : V (ix (a :: ar) 0) * V (ix (x :: xs) 0) = V a * V x := rfl
        have e1 : (fun k => V (ix (a :: ar) (k + 1)) * V (ix (x :: xs) (k + 1))) = fun k => V (ix ar k) * V (ix xs k) := rfl
        rw [e0, e1]
        grind
theorem value_V {l : Lin} {x : List Fr} {u : Fr} (h : valueF l x = (u, true)) : x.length = l.C.length ∧ ValidF u ∧ V u = Sm l.C.length (fun k => cQ l k * XQ x k) := by
  unfold valueF at h
  split at h
  · rename_i hl
    cases h1 : dotO F01 l.C x with
    | none => rw [h1] at h; simp [ofO] at h
    | some r =>
      rw [h1] at h
      injection h with h
      obtain ⟨i1, i2⟩ := dot_V h1 valid_01 (by omega)
      rw [h] at i1 i2
      refine ⟨hl, i1, ?_⟩
      rw [i2, V_01]
      show _ = Sm _ (fun k => V (ix l.C k) * V (ix x k))
      grind
  · simp at h
theorem cmp_le {a b : Fr} (ha : ValidF a) (hb : ValidF b) (h : V a ≤ V b) : cmpF a b ≤ 0 := by
  have h1 := cross_lt hb ha
  have h2 := mt h1.1 (by grind)
  unfold cmpF fixF sgn
  rw [if_pos ha, if_pos hb]
  split
  · omega
  · split <;> omega
theorem cmp_ge {a b : Fr} (ha : ValidF a) (hb : ValidF b) (h : V b ≤ V a) : ¬ cmpF a b < 0 := by
  rw [cmp_lt ha hb]
  grind
theorem feasB_Q {l : Lin} {y : List Fr} (h : feasB l y = true) : checkF l = 0 ∧ FeasQ l (XQ y) := by
  unfold feasB at h
  obtain ⟨h1, h2, h3, h4⟩ := @of_decide_eq_true _ (Classical.propDecidable _) h
  have ok := ok_of h1
  refine ⟨h1, fun k hk => ?_, fun i hi => ?_⟩
  · obtain ⟨q1, q2⟩ := h3 _ (ix_mem (show k < y.length by omega))
    rw [V_neg_iff q1] at q2
    show 0 ≤ V (ix y k)
    grind
  · obtain ⟨s, e1, e2⟩ := h4 i hi
    have hr := ok.g.row _ (ix_mem hi)
    obtain ⟨i1, i2⟩ := dot_V e1 valid_01 (by omega)
    rw [cmp_lt i1 (ok.b i hi)] at e2
    rw [i2, V_01, hr] at e2
    show V (ix l.B i) ≤ Sm _ (fun k => V (ix (ix l.A i) k) * V (ix y k))
    grind
section
variable {l : Lin}
/-- What SimplexBest asks of a solution. -/
structure BestF (l : Lin) (x : List Fr) (v : Fr) : Prop where
  len : x.length = l.C.length
  u : ∀ u, valueF l x = (u, true) → u = v
  xs : ∀ j, j < x.length → ValidF (ix x j) ∧ 0 ≤ (ix x j).N
  r : ∀ i, i < l.A.length → ∀ s, valueF ⟨[], [], ix l.A i⟩ x = (s, true) → 0 ≤ cmpF s (ix l.B i)
  y : ∀ y w, valueF l y = (w, true) → feasB l y = true → cmpF v w ≤ 0
theorem best_of (hc : checkF l = 0) {x : List Fr} {v : Fr} (h : Solved l x v) : BestF l x v := by
  have ok := ok_of hc
  refine ⟨h.len, fun u hu => ?_, fun j hj => ?_, fun i hi s hs => ?_, fun y w hw hy => ?_⟩
  · obtain ⟨_, h2, h3⟩ := value_V hu
    exact V_inj h2 h.vv (by rw [h3, h.val])
  · have hv := h.valid j (by rw [← h.len]; exact hj)
    have hn := h.feas.nn j (by rw [← h.len]; exact hj)
    refine ⟨hv, ?_⟩
    have := mt (V_neg_iff hv).1 (by show ¬ V (ix x j) < 0; have hn : 0 ≤ V (ix x j) := hn; grind)
    omega
  · obtain ⟨h1, h2, h3⟩ := value_V hs
    have h4 := h.feas.row i hi
    have hr := ok.g.row _ (ix_mem hi)
    have e : V s = Sm l.C.length (fun k => aQ l i k * XQ x k) := by
      rw [h3]
      show Sm (ix l.A i).length _ = _
      rw [hr]
      rfl
    have := cmp_ge h2 (ok.b i hi) (by rw [e]; exact h4)
    omega
  · obtain ⟨h1, h2, h3⟩ := value_V hw
    obtain ⟨_, hf⟩ := feasB_Q hy
    obtain ⟨y0, c0⟩ := h.cert
    exact cmp_le h.vv h2 (by rw [h3]; exact c0.le hf)
theorem not_ok {r : List Fr × Fr × Int} (hr : solveF l = r) (h : r.2.2 ≠ 0) : r.1 = [] ∧ r.2.1 = F00 ∧ (r.2.2 = 23 → ∀ y, feasB l y = false) := by
  by_cases hc : checkF l = 0
  · have ha := solve_answer hc
    rw [hr] at ha
    cases ha with
    | ok _ => exact absurd rfl h
    | none hn =>
      refine ⟨rfl, rfl, fun _ y => ?_⟩
      cases hb : feasB l y with
      | false => rfl
      | true => exact absurd ⟨_, (feasB_Q hb).2⟩ hn
    | free _ _ => exact ⟨rfl, rfl, fun e => by cases e⟩
    | great => exact ⟨rfl, rfl, fun e => by cases e⟩
  · have e : solveF l = ([], F00, checkF l) := if_pos hc
    rw [← hr, e]
    refine ⟨rfl, rfl, fun e2 => ?_⟩
    exfalso
    simp only at e2
    unfold checkF at e2
    split at e2
    · cases e2
    · split at e2 <;> cases e2
theorem solved_of (hc : checkF l = 0) {x : List Fr} {v : Fr} (h : solveF l = (x, v, 0)) : Solved l x v := by
  have ha := solve_answer hc
  rw [h] at ha
  cases ha with
  | ok s => exact s
theorem check_of {x : List Fr} {v : Fr} (h : solveF l = (x, v, 0)) : checkF l = 0 := by
  apply Classical.byContradiction
  intro hc
  have e : solveF l = ([], F00, checkF l) := if_pos hc
  rw [e] at h
  injection h with _ h
  injection h with _ h
  exact hc h
end
end Go.Proofs.YtifbaegnkodneaaDoor

/-
  layer 30: SimplexBest, the law.
-/
namespace Go.Proofs.YtifbaegnkodneaaDoor
open Go.RowKit
set_option linter.unusedSimpArgs false
set_option linter.unusedVariables false
set_option maxRecDepth 100000

noncomputable def CBs : Ctx := mkC Tryd.prog G0 [(9, .pure sFew), (10, .pure (spec0 (.bool true))), (20, .pure sSolve), (11, .pure sValueF), (17, .pure sFeas), (23, .pure sValidF), (24, .pure sCmpF)]
@[simp] theorem CBs_P : CBs.P = Tryd.prog := rfl
@[simp] theorem CBs_G : CBs.G = G0 := rfl
@[simp] theorem CBs_1 : CBs.S 9 = .pure sFew := rfl
@[simp] theorem CBs_2 : CBs.S 10 = .pure (spec0 (.bool true)) := rfl
@[simp] theorem CBs_3 : CBs.S 20 = .pure sSolve := rfl
@[simp] theorem CBs_4 : CBs.S 11 = .pure sValueF := rfl
@[simp] theorem CBs_5 : CBs.S 17 = .pure sFeas := rfl
@[simp] theorem CBs_6 : CBs.S 23 = .pure sValidF := rfl
@[simp] theorem CBs_7 : CBs.S 24 = .pure sCmpF := rfl
theorem mixCBs : CBs.P.follows .mixedOrders = true := mixed
theorem sigCBs : SigOK CBs := sigOK_cons (entryPure (fewP) Tryd.func9 rfl (by decide)) (sigOK_cons (entryPure (aliveP) Tryd.func10 rfl (by decide)) (sigOK_cons (entryPure (solveP) Tryd.func20 rfl (by decide)) (sigOK_cons (entryPure (valueP) Tryd.func11 rfl (by decide)) (sigOK_cons (entryPure (feasibleP) Tryd.func17 rfl (by decide)) (sigOK_cons (entryPure (validR) Tryd.func23 rfl (by decide)) (sigOK_cons (entryPure (cmpR) Tryd.func24 rfl (by decide)) (sigOK_nil _ _)))))))
set_option maxHeartbeats 16000000 in
theorem lawBest : PureOK Tryd.prog G0 5 (spec2 (fun (_ : Lin) (_ : List Fr) => True) (fun _ _ => .bool true)) := by
  refine pureH2 (C := CBs) sigCBs mixCBs Tryd.func5 rfl rfl rfl [21] (by kernel_rfl) (by decide) (fun l y _ => ?_)
  by_cases h1 : FewL l
  case neg => simp [aev, cav, look, acallPure, abin, abinN, abinP, abinI, abinS, aun, aconv, afield, afieldAddr, aindexAddr, aindex, aslice, alow, ahigh, abuild, abuildGo, cellsOf, splice, fieldTy, alen, apick, amax, amin, aload, headV, aparts, abuildSlice, elParts, abytesStr, astore, amake, aappend, aclear, anew, arith, aresults, aresList, ares, spec0, spec1, spec2, spec3, spec4, eqCells, eqCell, sFew, h1]
  by_cases h2 : (60 : Int) < y.length
  · simp [aev, cav, look, acallPure, abin, abinN, abinP, abinI, abinS, aun, aconv, afield, afieldAddr, aindexAddr, aindex, aslice, alow, ahigh, abuild, abuildGo, cellsOf, splice, fieldTy, alen, apick, amax, amin, aload, headV, aparts, abuildSlice, elParts, abytesStr, astore, amake, aappend, aclear, anew, arith, aresults, aresList, ares, spec0, spec1, spec2, spec3, spec4, eqCells, eqCell, sFew, h1, h2]
  have hs := few_small h1
  have hc : l.C.length ≤ 1000 := hs.c
  have hy : y.length ≤ 1000 := by omega
  have hp := pre_solve hs
  obtain ⟨x, v, e, hv⟩ : ∃ x v e, solveF l = (x, v, e) := ⟨_, _, _, rfl⟩
  obtain ⟨w, ok, hw⟩ : ∃ w ok, valueF l y = (w, ok) := ⟨_, _, rfl⟩
  by_cases he : e = 0
  case neg =>
    obtain ⟨k1, k2, k3⟩ := not_ok hv he
    simp only at k1 k2 k3
    subst k1 k2
    by_cases h23 : e = 23
    · have hf := k3 h23 y
      subst h23
      simp [aev, cav, look, acallPure, abin, abinN, abinP, abinI, abinS, aun, aconv, afield, afieldAddr, aindexAddr, aindex, aslice, alow, ahigh, abuild, abuildGo, cellsOf, splice, fieldTy, alen, apick, amax, amin, aload, headV, aparts, abuildSlice, elParts, abytesStr, astore, amake, aappend, aclear, anew, arith, aresults, aresList, ares, spec0, spec1, spec2, spec3, spec4, eqCells, eqCell, sFew, h1, h2, sSolve, hp, hv, sValueF, hc, hw, sFeas, hs, hy, hf, F00]
      done
    · simp [aev, cav, look, acallPure, abin, abinN, abinP, abinI, abinS, aun, aconv, afield, afieldAddr, aindexAddr, aindex, aslice, alow, ahigh, abuild, abuildGo, cellsOf, splice, fieldTy, alen, apick, amax, amin, aload, headV, aparts, abuildSlice, elParts, abytesStr, astore, amake, aappend, aclear, anew, arith, aresults, aresList, ares, spec0, spec1, spec2, spec3, spec4, eqCells, eqCell, sFew, h1, h2, sSolve, hp, hv, sValueF, hc, hw, he, h23, F00]
      done
  subst he
  have hck := check_of hv
  obtain ⟨b1, b2, b3, b4, b5⟩ := best_of hck (solved_of hck hv)
  have hyy := b5 y
  rw [hw] at hyy
  clear b5
  obtain ⟨u, is, hu⟩ : ∃ u is, valueF l x = (u, is) := ⟨_, _, rfl⟩
  have b2 := b2 u
  rw [hu] at b2
  have hcc : ∀ us : Bool, us = is → (us = false ∧ True ∨ (us = true ∧ u.N = v.N ∧ u.D = v.D)) := fun us e => by
    cases us with
    | false => exact .inl ⟨rfl, trivial⟩
    | true => have := b2 (by rw [← e]); exact .inr ⟨rfl, by rw [this], by rw [this]⟩
  have hla := hs.a
  have hL : (x.length : Int) = l.C.length := by omega
  rcases hcc is rfl with ⟨rfl, hE⟩ | ⟨rfl, hE⟩
  all_goals
    simp [aev, cav, look, acallPure, abin, abinN, abinP, abinI, abinS, aun, aconv, afield, afieldAddr, aindexAddr, aindex, aslice, alow, ahigh, abuild, abuildGo, cellsOf, splice, fieldTy, alen, apick, amax, amin, aload, headV, aparts, abuildSlice, elParts, abytesStr, astore, amake, aappend, aclear, anew, arith, aresults, aresList, ares, spec0, spec1, spec2, spec3, spec4, eqCells, eqCell, sFew, h1, h2, sSolve, hp, hv, sValueF, hc, hw, hu, b1, hE]
    refine loop_ruleH (C := CBs) sigCBs mixCBs [21] (fun k : Nat => ⟨[(1, Enc.enc y), (2, .ptr 0 1 3 0 0), (5, Enc.enc x), (6, .ptr 1 1 2 0 0), (8, .ptr 2 1 2 0 0), (9, .bool ok), (12, .int .i64 k)], [CB l, FB v, FB w, FB u]⟩) (fun k => k ≤ x.length) (fun k => x.length - k) (by kernel_rfl) ⟨0, by simp, weak_eq (by simp) (by simp [CB, FB, hE])⟩ (fun k hk => ?_)
    by_cases hlt : k < x.length
    · have i1 : I64 ((k : Int) + 1) := by unfold I64; omega
      obtain ⟨q1, q2⟩ := b3 k hlt
      have q2' : ¬ (ix x k).N < 0 := by omega
      simp [aev, cav, look, acallPure, abin, abinN, abinP, abinI, abinS, aun, aconv, afield, afieldAddr, aindexAddr, aindex, aslice, alow, ahigh, abuild, abuildGo, cellsOf, splice, fieldTy, alen, apick, amax, amin, aload, headV, aparts, abuildSlice, elParts, abytesStr, astore, amake, aappend, aclear, anew, arith, aresults, aresList, ares, spec0, spec1, spec2, spec3, spec4, eqCells, eqCell, CB, FB, hlt, rowAt_enc hlt, sValidF, q1, q2, q2', i1]
      exact ⟨k + 1, by omega, by omega, weak_eq (by simp) (by simp [CB, FB])⟩
    · simp [aev, cav, look, acallPure, abin, abinN, abinP, abinI, abinS, aun, aconv, afield, afieldAddr, aindexAddr, aindex, aslice, alow, ahigh, abuild, abuildGo, cellsOf, splice, fieldTy, alen, apick, amax, amin, aload, headV, aparts, abuildSlice, elParts, abytesStr, astore, amake, aappend, aclear, anew, arith, aresults, aresList, ares, spec0, spec1, spec2, spec3, spec4, eqCells, eqCell, CB, FB, hlt]
      refine loop_ruleH (C := CBs) sigCBs mixCBs [21] (fun q : Nat × List Blk => ⟨[(1, Enc.enc y), (2, .ptr 0 1 3 0 0), (5, Enc.enc x), (6, .ptr 1 1 2 0 0), (8, .ptr 2 1 2 0 0), (9, .bool ok), (13, .int .i64 q.1)], CB l :: FB v :: FB w :: FB u :: q.2⟩) (fun q => q.1 ≤ l.A.length) (fun q => l.A.length - q.1) (by kernel_rfl) ⟨(0, []), by simp, weak_eq (by simp) (by simp [CB, FB])⟩ (fun ⟨i, Z⟩ hi => ?_)
      simp only at hi ⊢
      by_cases hil : i < l.A.length
      · have i1 : I64 ((i : Int) + 1) := by unfold I64; omega
        have hrl : (ix l.A i).length ≤ 1000 := hs.r _ (ix_mem hil)
        have b4 := b4 i hil
        obtain ⟨s, iss, hsv⟩ : ∃ s iss, valueF ⟨[], [], ix l.A i⟩ x = (s, iss) := ⟨_, _, rfl⟩
        have b4 := b4 s
        rw [hsv] at b4
        have hib : i < l.B.length := by have := (check_zero hck).2.2.2.1; omega
        simp [aev, cav, look, acallPure, abin, abinN, abinP, abinI, abinS, aun, aconv, afield, afieldAddr, aindexAddr, aindex, aslice, alow, ahigh, abuild, abuildGo, cellsOf, splice, fieldTy, alen, apick, amax, amin, aload, headV, aparts, abuildSlice, elParts, abytesStr, astore, amake, aappend, aclear, anew, arith, aresults, aresList, ares, spec0, spec1, spec2, spec3, spec4, eqCells, eqCell, CB, FB, hil, rowAt_enc hil, sValueF, hrl, hsv]
        refine AW_regionF sigCBs mixCBs [.pure, .pure, .read, .pure, .read, .pure, .pure, .read, .read, .pure, .pure] [[],[0],[0,1],[0,1],[1,0,3],[0,1],[5,3,0,1,4],[4,1,0,3,5,6],[6,5,3,4,7,1,0,2],[2,0,1,7,4,3,5,6,8],[8,6,5,3,4,7,2,9,0,1]] (by kernel_rfl) (by kernel_rfl) (by kernel_rfl) (by kernel_rfl) ?_
        cases iss with
        | false =>
          simp [aev, cav, look, acallPure, abin, abinN, abinP, abinI, abinS, aun, aconv, afield, afieldAddr, aindexAddr, aindex, aslice, alow, ahigh, abuild, abuildGo, cellsOf, splice, fieldTy, alen, apick, amax, amin, aload, headV, aparts, abuildSlice, elParts, abytesStr, astore, amake, aappend, aclear, anew, arith, aresults, aresList, ares, spec0, spec1, spec2, spec3, spec4, eqCells, eqCell, CB, FB, hil, hib, i1]
          exact ⟨i + 1, by omega, by omega, Z ++ [FB s], weak_eq (by simp) (by simp [CB, FB])⟩
        | true =>
          have b4 := b4 rfl
          have b4' : ¬ cmpF s (ix l.B i) < 0 := by omega
          simp [aev, cav, look, acallPure, abin, abinN, abinP, abinI, abinS, aun, aconv, afield, afieldAddr, aindexAddr, aindex, aslice, alow, ahigh, abuild, abuildGo, cellsOf, splice, fieldTy, alen, apick, amax, amin, aload, headV, aparts, abuildSlice, elParts, abytesStr, astore, amake, aappend, aclear, anew, arith, aresults, aresList, ares, spec0, spec1, spec2, spec3, spec4, eqCells, eqCell, CB, FB, hil, hib, rowAt_enc hib, sCmpF, b4, b4', i1]
          exact ⟨i + 1, by omega, by omega, Z ++ [FB s], weak_eq (by simp) (by simp [CB, FB])⟩
      · obtain ⟨fb, hfb⟩ : ∃ fb, feasB l y = fb := ⟨_, rfl⟩
        rw [hfb] at hyy
        cases ok with
        | false => simp [aev, cav, look, acallPure, abin, abinN, abinP, abinI, abinS, aun, aconv, afield, afieldAddr, aindexAddr, aindex, aslice, alow, ahigh, abuild, abuildGo, cellsOf, splice, fieldTy, alen, apick, amax, amin, aload, headV, aparts, abuildSlice, elParts, abytesStr, astore, amake, aappend, aclear, anew, arith, aresults, aresList, ares, spec0, spec1, spec2, spec3, spec4, eqCells, eqCell, CB, FB, hil]
        | true =>
          cases fb with
          | false => simp [aev, cav, look, acallPure, abin, abinN, abinP, abinI, abinS, aun, aconv, afield, afieldAddr, aindexAddr, aindex, aslice, alow, ahigh, abuild, abuildGo, cellsOf, splice, fieldTy, alen, apick, amax, amin, aload, headV, aparts, abuildSlice, elParts, abytesStr, astore, amake, aappend, aclear, anew, arith, aresults, aresList, ares, spec0, spec1, spec2, spec3, spec4, eqCells, eqCell, CB, FB, hil, sFeas, hs, hy, hfb]
          | true =>
            have hyy := hyy w rfl rfl
            simp [aev, cav, look, acallPure, abin, abinN, abinP, abinI, abinS, aun, aconv, afield, afieldAddr, aindexAddr, aindex, aslice, alow, ahigh, abuild, abuildGo, cellsOf, splice, fieldTy, alen, apick, amax, amin, aload, headV, aparts, abuildSlice, elParts, abytesStr, astore, amake, aappend, aclear, anew, arith, aresults, aresList, ares, spec0, spec1, spec2, spec3, spec4, eqCells, eqCell, CB, FB, hil, sFeas, hs, hy, hfb, sCmpF, hyy]
end Go.Proofs.YtifbaegnkodneaaDoor
