/-
  Texts joined: H7.
-/
import Derived.Test.YtifbaegnkodneaaDoorJ3
/-
  layer 30: SimplexDuality.
-/
namespace Go.Proofs.YtifbaegnkodneaaDoor
open Go.RowKit
set_option linter.unusedSimpArgs false
set_option linter.unusedVariables false
set_option maxRecDepth 100000

section
variable {l : Lin}
structure DualQ (l : Lin) : Prop where
  n : (dualL l).C.length = l.A.length
  m : (dualL l).A.length = l.C.length
  a : ∀ j i, j < l.C.length → i < l.A.length → aQ (dualL l) j i = - aQ l i j
  b : ∀ j, j < l.C.length → bQ (dualL l) j = - cQ l j
  c : ∀ i, i < l.A.length → cQ (dualL l) i = - bQ l i
theorem dual_q (h : Ok l) : DualQ l := by
  have hB := h.g.b
  refine ⟨by show (l.B.map negF).length = _; rw [List.length_map, hB], by simp [dualL], fun j i hj hi => ?_, fun j hj => ?_, fun i hi => ?_⟩
  · show V (ix (ix ((List.range l.C.length).map fun j => l.A.map fun a => negF (ix a j)) j) i) = - V (ix (ix l.A i) j)
    rw [ix_range hj, ix_mapN hi, neg_val (h.a i j hi hj)]
  · show V (ix (l.C.map negF) j) = - V (ix l.C j)
    rw [ix_mapN hj, neg_val (h.c j hj)]
  · show V (ix (l.B.map negF) i) = - V (ix l.B i)
    rw [ix_mapN (by omega), neg_val (h.b i hi)]
theorem Sm_neg (f : Nat → Rat) (n : Nat) : Sm n (fun i => - f i) = - Sm n f := by
  rw [Sm_congr (g := fun i => (-1) * f i) (fun i _ => by grind), Sm_mul]
  grind
theorem cert_feas (h : Ok l) {y : Nat → Rat} {v : Rat} (hy : Cert l y v) : FeasQ (dualL l) y ∧ Sm (dualL l).C.length (fun i => cQ (dualL l) i * y i) = - v := by
  have d := dual_q h
  refine ⟨⟨fun k hk => hy.nn k (by rw [← d.n]; exact hk), fun j hj => ?_⟩, ?_⟩
  · rw [d.m] at hj
    rw [d.b j hj, d.n, Sm_congr (g := fun i => - (y i * aQ l i j)) (fun i hi => by rw [d.a j i hj hi]; grind), Sm_neg]
    have := hy.col j hj
    grind
  · rw [d.n, Sm_congr (g := fun i => - (y i * bQ l i)) (fun i hi => by rw [d.c i hi]; grind), Sm_neg, hy.val]
theorem feas_cert (h : Ok l) {y : Nat → Rat} (hy : FeasQ (dualL l) y) : Cert l y (- Sm (dualL l).C.length (fun i => cQ (dualL l) i * y i)) := by
  have d := dual_q h
  refine ⟨fun i hi => hy.nn i (by rw [d.n]; exact hi), fun k hk => ?_, ?_⟩
  · have := hy.row k (by rw [d.m]; exact hk)
    rw [d.b k hk, d.n, Sm_congr (g := fun i => - (y i * aQ l i k)) (fun i hi => by rw [d.a k i hk hi]; grind), Sm_neg] at this
    grind
  · rw [d.n, Sm_congr (n := l.A.length) (f := fun i => cQ (dualL l) i * y i) (g := fun i => - (y i * bQ l i)) (fun i hi => by show cQ (dualL l) i * y i = _; rw [d.c i hi]; grind), Sm_neg]
    grind
theorem ray_no (h : Ok l) {d : Nat → Rat} (hd : Ray (dualL l) d) {x : Nat → Rat} (hx : FeasQ l x) : False := by
  have D := dual_q h
  have h1 := hd.neg
  rw [D.n, Sm_congr (g := fun i => - (d i * bQ l i)) (fun i hi => by rw [D.c i hi]; grind), Sm_neg] at h1
  have h2 : Sm l.A.length (fun i => d i * bQ l i) ≤ Sm l.A.length (fun i => Sm l.C.length (fun k => d i * (aQ l i k * x k))) := Sm_le fun i hi => by
    rw [Sm_mul]
    exact Rat.mul_le_mul_of_nonneg_left (hx.row i hi) (hd.nn i (by rw [D.n]; exact hi))
  rw [Sm_swap (fun i k => d i * (aQ l i k * x k))] at h2
  have h3 : Sm l.C.length (fun k => Sm l.A.length (fun i => d i * (aQ l i k * x k))) ≤ Sm l.C.length (fun _ => 0) := Sm_le fun k hk => by
    have h4 := hd.row k (by rw [D.m]; exact hk)
    rw [D.n, Sm_congr (g := fun i => - (d i * aQ l i k)) (fun i hi => by rw [D.a k i hk hi]; grind), Sm_neg] at h4
    rw [Sm_congr (g := fun i => x k * (d i * aQ l i k)) (fun i _ => by grind), Sm_mul]
    have := Rat.mul_nonneg (hx.nn k hk) h4
    grind
  rw [Sm_zero] at h3
  grind
theorem solved_dual (h : Ok l) (hd : Ok (dualL l)) {x y : List Fr} {v w : Fr} (hx : Solved l x v) (hy : Solved (dualL l) y w) : v = negF w := by
  obtain ⟨y0, c0⟩ := hx.cert
  obtain ⟨z0, c1⟩ := hy.cert
  obtain ⟨f1, f2⟩ := cert_feas h c0
  have h1 := c1.le f1
  rw [f2] at h1
  have h2 := (feas_cert h hy.feas).le hx.feas
  rw [hy.val, hx.val] at h2
  refine V_inj hx.vv (valid_neg hy.vv) ?_
  rw [neg_val hy.vv]
  grind
theorem solved_other (h : Ok l) {x : List Fr} {v : Fr} (hx : Solved l x v) {r : List Fr × Fr × Int} (hr : Answer (dualL l) r) : r.2.2 = 0 ∨ r.2.2 = 24 := by
  cases hr with
  | ok _ => exact .inl rfl
  | great => exact .inr rfl
  | none hn =>
    obtain ⟨y0, c0⟩ := hx.cert
    exact absurd ⟨y0, (cert_feas h c0).1⟩ hn
  | free _ hd =>
    obtain ⟨d, hd⟩ := hd
    exact (ray_no h hd hx.feas).elim
structure DualAns (l : Lin) (p q : List Fr × Fr × Int) : Prop where
  both : p.2.2 = 0 → q.2.2 = 0 → p.2.1 = negF q.2.1
  one : p.2.2 = 0 → q.2.2 = 0 ∨ q.2.2 = 24
  two : q.2.2 = 0 → p.2.2 = 0 ∨ p.2.2 = 24
  no : ¬ (p.2.2 = 19 ∧ q.2.2 = 19)
theorem dual_ans (h1 : checkF l = 0) (h2 : checkF (dualL l) = 0) : DualAns l (solveF l) (solveF (dualL l)) := by
  have o1 := ok_of h1
  have o2 := ok_of h2
  have a1 := solve_answer h1
  have a2 := solve_answer h2
  generalize solveF l = p at *
  generalize solveF (dualL l) = q at *
  refine ⟨fun e1 e2 => ?_, fun e1 => ?_, fun e2 => ?_, fun ⟨e1, e2⟩ => ?_⟩
  · cases a1 with
    | ok s1 =>
      cases a2 with
      | ok s2 => exact solved_dual o1 o2 s1 s2
      | none _ => cases e2
      | free _ _ => cases e2
      | great => cases e2
    | none _ => cases e1
    | free _ _ => cases e1
    | great => cases e1
  · cases a1 with
    | ok s1 => exact solved_other o1 s1 a2
    | none _ => cases e1
    | free _ _ => cases e1
    | great => cases e1
  · cases a2 with
    | ok s2 => exact solved_other o2 s2 (by rw [dual_dual h1]; exact a1)
    | none _ => cases e2
    | free _ _ => cases e2
    | great => cases e2
  · cases a1 with
    | free f1 _ =>
      cases a2 with
      | free _ r2 =>
        obtain ⟨x, hx⟩ := f1
        obtain ⟨d, hd⟩ := r2
        exact ray_no o1 hd hx
      | ok _ => cases e2
      | none _ => cases e2
      | great => cases e2
    | ok _ => cases e1
    | none _ => cases e1
    | great => cases e1
end
noncomputable def CDu : Ctx := mkC Tryd.prog G0 [(9, .pure sFew), (10, .pure (spec0 (.bool true))), (13, .pure sDual), (20, .pure sSolve)]
@[simp] theorem CDu_P : CDu.P = Tryd.prog := rfl
@[simp] theorem CDu_G : CDu.G = G0 := rfl
@[simp] theorem CDu_1 : CDu.S 9 = .pure sFew := rfl
@[simp] theorem CDu_2 : CDu.S 10 = .pure (spec0 (.bool true)) := rfl
@[simp] theorem CDu_3 : CDu.S 13 = .pure sDual := rfl
@[simp] theorem CDu_4 : CDu.S 20 = .pure sSolve := rfl
theorem mixCDu : CDu.P.follows .mixedOrders = true := mixed
theorem sigCDu : SigOK CDu := sigOK_cons (entryPure (fewP) Tryd.func9 rfl (by decide)) (sigOK_cons (entryPure (aliveP) Tryd.func10 rfl (by decide)) (sigOK_cons (entryPure (dualP) Tryd.func13 rfl (by decide)) (sigOK_cons (entryPure (solveP) Tryd.func20 rfl (by decide)) (sigOK_nil _ _))))
set_option maxHeartbeats 16000000 in
theorem lawDuality : PureOK Tryd.prog G0 6 (spec1 (fun (_ : Lin) => True) (fun _ => .bool true)) := by
  refine pureH1 (C := CDu) sigCDu mixCDu Tryd.func6 rfl rfl rfl [] (by kernel_rfl) (by decide) (fun l _ => ?_)
  by_cases h1 : FewL l
  case neg => simp [aev, cav, look, acallPure, abin, abinN, abinP, abinI, abinS, aun, aconv, afield, afieldAddr, aindexAddr, aindex, aslice, alow, ahigh, abuild, abuildGo, cellsOf, splice, fieldTy, alen, apick, amax, amin, aload, headV, aparts, abuildSlice, elParts, abytesStr, astore, amake, aappend, aclear, anew, arith, aresults, aresList, ares, spec0, spec1, spec2, spec3, spec4, eqCells, eqCell, sFew, h1]
  have hs := few_small h1
  have hd := small_dualF hs
  have hok := dualF_ok (l := l)
  obtain ⟨d, e, hde⟩ : ∃ d e, dualF l = (d, e) := ⟨_, _, rfl⟩
  rw [hde] at hd hok
  by_cases h2 : e = 0
  case neg => simp [aev, cav, look, acallPure, abin, abinN, abinP, abinI, abinS, aun, aconv, afield, afieldAddr, aindexAddr, aindex, aslice, alow, ahigh, abuild, abuildGo, cellsOf, splice, fieldTy, alen, apick, amax, amin, aload, headV, aparts, abuildSlice, elParts, abytesStr, astore, amake, aappend, aclear, anew, arith, aresults, aresList, ares, spec0, spec1, spec2, spec3, spec4, eqCells, eqCell, sFew, h1, sDual, hs, hde, h2]
  obtain ⟨k1, k2, k3⟩ := hok h2
  injection k3 with k3 k4
  subst k3 k4
  have ha := dual_ans k1 k2
  have p1 := pre_solve hs
  have p2 := pre_solve hd
  simp only at p2
  obtain ⟨x, v, f, hv⟩ : ∃ x v f, solveF l = (x, v, f) := ⟨_, _, _, rfl⟩
  obtain ⟨y, w, g, hw⟩ : ∃ y w g, solveF (dualL l) = (y, w, g) := ⟨_, _, _, rfl⟩
  rw [hv, hw] at ha
  obtain ⟨b1, b2, b3, b4⟩ := ha
  simp only at b1 b2 b3 b4
  by_cases hf : f = 0
  · subst hf
    by_cases hg : g = 0
    · subst hg
      have b1 := b1 rfl rfl
      subst b1
      have nN : (negF w).N = IntKind.i64.wrap (-w.N) := rfl
      have nD : (negF w).D = w.D := rfl
      simp [aev, cav, look, acallPure, abin, abinN, abinP, abinI, abinS, aun, aconv, afield, afieldAddr, aindexAddr, aindex, aslice, alow, ahigh, abuild, abuildGo, cellsOf, splice, fieldTy, alen, apick, amax, amin, aload, headV, aparts, abuildSlice, elParts, abytesStr, astore, amake, aappend, aclear, anew, arith, aresults, aresList, ares, spec0, spec1, spec2, spec3, spec4, eqCells, eqCell, sFew, h1, sDual, hs, hde, hd, sSolve, p1, p2, hv, hw, nN, nD]
      done
    · have hg2 : g = 24 := (b2 rfl).resolve_left hg
      subst hg2
      simp [aev, cav, look, acallPure, abin, abinN, abinP, abinI, abinS, aun, aconv, afield, afieldAddr, aindexAddr, aindex, aslice, alow, ahigh, abuild, abuildGo, cellsOf, splice, fieldTy, alen, apick, amax, amin, aload, headV, aparts, abuildSlice, elParts, abytesStr, astore, amake, aappend, aclear, anew, arith, aresults, aresList, ares, spec0, spec1, spec2, spec3, spec4, eqCells, eqCell, sFew, h1, sDual, hs, hde, hd, sSolve, p1, p2, hv, hw]
      done
  · by_cases hg : g = 0
    · subst hg
      have hf2 : f = 24 := (b3 rfl).resolve_left hf
      subst hf2
      simp [aev, cav, look, acallPure, abin, abinN, abinP, abinI, abinS, aun, aconv, afield, afieldAddr, aindexAddr, aindex, aslice, alow, ahigh, abuild, abuildGo, cellsOf, splice, fieldTy, alen, apick, amax, amin, aload, headV, aparts, abuildSlice, elParts, abytesStr, astore, amake, aappend, aclear, anew, arith, aresults, aresList, ares, spec0, spec1, spec2, spec3, spec4, eqCells, eqCell, sFew, h1, sDual, hs, hde, hd, sSolve, p1, p2, hv, hw]
      done
    · by_cases hf9 : f = 19
      · subst hf9
        have hg9 : ¬ g = 19 := fun e => b4 ⟨rfl, e⟩
        simp [aev, cav, look, acallPure, abin, abinN, abinP, abinI, abinS, aun, aconv, afield, afieldAddr, aindexAddr, aindex, aslice, alow, ahigh, abuild, abuildGo, cellsOf, splice, fieldTy, alen, apick, amax, amin, aload, headV, aparts, abuildSlice, elParts, abytesStr, astore, amake, aappend, aclear, anew, arith, aresults, aresList, ares, spec0, spec1, spec2, spec3, spec4, eqCells, eqCell, sFew, h1, sDual, hs, hde, hd, sSolve, p1, p2, hv, hw, hg, hg9]
        done
      · simp [aev, cav, look, acallPure, abin, abinN, abinP, abinI, abinS, aun, aconv, afield, afieldAddr, aindexAddr, aindex, aslice, alow, ahigh, abuild, abuildGo, cellsOf, splice, fieldTy, alen, apick, amax, amin, aload, headV, aparts, abuildSlice, elParts, abytesStr, astore, amake, aappend, aclear, anew, arith, aresults, aresList, ares, spec0, spec1, spec2, spec3, spec4, eqCells, eqCell, sFew, h1, sDual, hs, hde, hd, sSolve, p1, p2, hv, hw, hf, hg, hf9]
        done
end Go.Proofs.YtifbaegnkodneaaDoor
