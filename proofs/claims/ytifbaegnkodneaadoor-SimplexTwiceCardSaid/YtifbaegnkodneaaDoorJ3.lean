/-
  Texts joined: G18 G19 G20 G21 G22 G23 G24 G25 G26 G27 G28 G29.
-/
import Derived.Test.YtifbaegnkodneaaDoorJ2
import Derived.Test.YtifbaegnkodneaaDoorRows
import Derived.MakeChecks
import Derived.ChangeSame
import Derived.LaidMore
/-
  layer 30: first, the program's side.
-/
namespace Go.Proofs.YtifbaegnkodneaaDoor
open Go.RowKit
set_option linter.unusedSimpArgs false
set_option linter.unusedVariables false
set_option maxRecDepth 100000

theorem artB (t : Tab) (u : Tab) (h : u.w = t.w) (hb : u.basis = t.basis) (k : Nat) : decide ((u.w : Int) ≤ ix u.basis k) = artP t k := by unfold artP; rw [h, hb]
section
variable {L : Lay} {K : List Blk}
theorem newC_p : (newC L K).p = L.p := rfl
theorem newC_q : (newC L K).q = L.q := rfl
theorem newC_r : (newC L K).r = L.r := rfl
theorem newC_c : (newC L K).c = some K.length := rfl
theorem newC_t : tgtI (newC L K) none = K.length := rfl
/-- What can be read, the costs in the new block. -/
structure GetN (L : Lay) (K B : List Blk) (u : Tab) : Prop where
  p : (putT (newC L K) u B)[L.p]? = some ⟨54, 29, [tC (newC L K) u], true, false⟩
  q : (putT (newC L K) u B)[L.q]? = some ⟨23, 1, L.r.map fun l => [.own l (u.w + 1)], true, false⟩
  c : (putT (newC L K) u B)[K.length]? = some ⟨29, 2, encRows u.cost, true, true⟩
  d : ∀ h, (putT (newC L K) u B)[K.length]'h = ⟨29, 2, encRows u.cost, true, true⟩
  e0 : ∀ h, (tC (newC L K) u)[0]'h = .int .i64 u.n
  e1 : ∀ h, (tC (newC L K) u)[1]'h = .int .i64 u.m
  e2 : ∀ h, (tC (newC L K) u)[2]'h = .own L.q L.r.length
  e3 : ∀ h, (tC (newC L K) u)[3]'h = .own K.length u.cost.length
  e28 : ∀ h, (tC (newC L K) u)[28]'h = .bool u.over
  n : (tC (newC L K) u).length = 29
  art : ∀ i, i < u.m → gArt [.ptr L.p 1 29 0 0, .int .i64 i] (putT (newC L K) u B) = some (True, .bool (decide ((u.w : Int) ≤ ix u.basis i)), putT (newC L K) u B)
  clr : ∀ i f, i < u.m → u.cost.length = u.w + 1 → gClear [.ptr L.p 1 29 0 0, .own K.length (u.w + 1), .agg [.int .i64 f.N, .int .i64 f.D], .own (ix L.r i) (u.w + 1)] (putT (newC L K) u B) = some (True, .tup [], putT (newC L K) (clrT u ⟨none, f, i⟩) B)
  ph : u.cost.length = u.w + 1 → Halts u → gPhase [.ptr L.p 1 29 0 0] (putT (newC L K) u B) = some (True, .bool (phaseF u).1, putT (newC L K) (phaseF u).2 B)
theorem getN {B : List Blk} {u : Tab} (h : Lens (newC L K) B) (s : Shape (newC L K) u) : GetN L K B u where
  p := (getT h s).p0
  q := (getT h s).q0
  c := (getT h s).c0 newC_c
  d h := by
    have := (getT ‹Lens (newC L K) B› s).c0 newC_c
    rw [List.getElem?_eq_getElem h] at this
    injection this
  e0 h := tC_e0 h
  e1 h := tC_e1 h
  e2 h := tC_e2 h
  e3 h := tC_e3 h
  e28 h := tC_e28 s.bas h
  n := tC_len s.bas
  art i hi := by
    have := art_call h s hi [] (by simp)
    simpa only [List.append_nil, newC_p] using this
  clr i f hi hc := by
    have := clear_call (g := none) (f := f) (i := i) h s ⟨hi, fun q hq => (by cases hq), fun _ => hc⟩ [] (by simp)
    simpa only [List.append_nil, newC_p, newC_r, newC_t] using this
  ph hc hh := by
    have := phase_call h s hc hh [] (by simp)
    simpa only [List.append_nil, newC_p] using this
end
noncomputable def CFi : Ctx := mkC Tryd.prog G0 [(61, .gen gArt), (60, .gen gEmpty), (62, .gen gClear), (63, .gen gPhase), (64, .gen gRep)]
@[simp] theorem CFi_P : CFi.P = Tryd.prog := rfl
@[simp] theorem CFi_G : CFi.G = G0 := rfl
@[simp] theorem CFi_1 : CFi.S 61 = .gen gArt := rfl
@[simp] theorem CFi_2 : CFi.S 60 = .gen gEmpty := rfl
@[simp] theorem CFi_3 : CFi.S 62 = .gen gClear := rfl
@[simp] theorem CFi_4 : CFi.S 63 = .gen gPhase := rfl
@[simp] theorem CFi_5 : CFi.S 64 = .gen gRep := rfl
theorem mixCFi : CFi.P.follows .mixedOrders = true := mixed
theorem sigCFi : SigOK CFi := sigOK_cons (entryGen (artTP) Tryd.func61 rfl (by decide)) (sigOK_cons (entryGen (emptyTP) Tryd.func60 rfl (by decide)) (sigOK_cons (entryGen (clearTP) Tryd.func62 rfl (by decide)) (sigOK_cons (entryGen (phaseTP) Tryd.func63 rfl (by decide)) (sigOK_cons (entryGen (repTP) Tryd.func64 rfl (by decide)) (sigOK_nil _ _)))))
set_option maxHeartbeats 16000000 in
theorem firstTP : GenOK Tryd.prog G0 37 gFirst := by
  refine gen_of_avcD (C := CFi) sigCFi mixCFi [15] Tryd.func37 rfl rfl rfl (by kernel_rfl) (fun avs H ob r H' hp hob => ?_)
  obtain ⟨L, t, K, hL, hS, hc, hh, rfl, rfl, rfl, rfl⟩ := first_inv hp
  clear hp hob ob
  refine ⟨(by show 1 ≤ _; decide), ?_⟩
  have G1 := getT hL hS
  have p1 := G1.p
  have n1 := tC_len (L := L) hS.bas
  have hLc : L.c = none := hS.cost.elim (fun h => h.1) (fun h => by rw [hc] at h; have := h.2; simp at this)
  have hem := empty_at hL hS.to0
  have hK1 : baseN L t K = K ++ [R2B []] := by unfold baseN; rw [hLc]; rfl
  have hset : (putT L t K ++ [R2B (rowE t)]).set L.p ⟨54, 29, [List.take 3 (tC L t) ++ AV.own K.length (t.w + 1) :: List.drop 4 (tC L t)], true, false⟩ = putT (newC L K) (f1K t 0) (K ++ [R2B []]) := by
    rw [tC_sc (K := K) (rowE t) (rowE_len t), ← hK1]
    exact outN_eq (t := t) (u := f1K t 0) hL
  have hL1 : Lens (newC L K) (K ++ [R2B []]) := by rw [← hK1]; exact newC_lens hL
  have hw := shape_w36 hS
  have hr := hS.r
  have hl1 : (K ++ [R2B []]).length = K.length + 1 := by simp
  have hf0 := f1K_same t 0
  have g0 := getN hL1 (f1K_shape (K := K) hS (Nat.zero_le t.m))
  simp [aev, cav, look, acallPure, abin, abinN, abinP, abinI, abinS, aun, aconv, afield, afieldAddr, aindexAddr, aindex, aslice, alow, ahigh, abuild, abuildGo, cellsOf, splice, fieldTy, alen, apick, amax, amin, aload, headV, aparts, abuildSlice, elParts, abytesStr, astore, amake, aappend, aclear, anew, arith, aresults, aresList, ares, spec0, spec1, spec2, spec3, spec4, eqCells, eqCell, argsρ, put_len, hem, p1, n1, hset, g0.p, g0.n, g0.e2, hr]
  refine loop_ruleH (C := CFi) sigCFi mixCFi [15] (fun k : Nat => ⟨[(0, .ptr L.p 1 29 0 0), (2, .bool false), (3, .bool (anyK k (artP t))), (15, .own L.q t.m), (16, .int .i64 t.m), (17, .int .i64 k)], putT (newC L K) (f1K t k) (K ++ [R2B []])⟩) (fun k => k ≤ t.m) (fun k => t.m - k) (by kernel_rfl) ⟨0, by simp, weak_eq (by simp [anyK_zero]) rfl⟩ (fun k hk => ?_)
  have hf := f1K_same t k
  have hfw := f1K_w t k
  have hfs := f1K_shape (K := K) hS hk
  have g := getN hL1 hfs
  have h24 := hS.m24
  by_cases hkl : k < t.m
  · have hkl' : (k : Int) < (t.m : Int) := by omega
    have i2 : I64 ((k : Int) + 1) := by unfold I64; omega
    have hkr : k < L.r.length := by omega
    have gq := g.q
    rw [hfw] at gq
    have ga := g.art k (by rw [hf.2.1]; exact hkl)
    rw [artB t _ hfw hf.2.2.2] at ga
    have ea := anyK_succ k (artP t)
    have e3 := g.e3
    rw [hf.2.2.1] at e3
    have gc := g.clr k F11 (by rw [hf.2.1]; exact hkl) (by rw [hf.2.2.1, hfw])
    rw [hfw] at gc
    by_cases hA : artP t k = true
    · have es : f1K t (k + 1) = clrT (f1K t k) ⟨none, F11, k⟩ := by conv => { lhs; unfold f1K; rw [if_pos hA] }
      rw [← es] at gc
      rw [hA, Bool.or_true] at ea
      rw [hA] at ga
      simp only [F11] at gc
      have g2 := getN hL1 (f1K_shape (K := K) hS (show k + 1 ≤ t.m by omega))
      simp [aev, cav, look, acallPure, abin, abinN, abinP, abinI, abinS, aun, aconv, afield, afieldAddr, aindexAddr, aindex, aslice, alow, ahigh, abuild, abuildGo, cellsOf, splice, fieldTy, alen, apick, amax, amin, aload, headV, aparts, abuildSlice, elParts, abytesStr, astore, amake, aappend, aclear, anew, arith, aresults, aresList, ares, spec0, spec1, spec2, spec3, spec4, eqCells, eqCell, put_len, hkl, gq, hr, hkr, rowAt_q, ga, g.p, g.n, e3, gc, i2]
      exact ⟨k + 1, by omega, by omega, weak_eq (by simp [ea]) rfl⟩
    · have hA' : artP t k = false := by simpa using hA
      have es : f1K t (k + 1) = f1K t k := by conv => { lhs; unfold f1K; rw [if_neg hA] }
      rw [hA', Bool.or_false] at ea
      rw [hA'] at ga
      simp [aev, cav, look, acallPure, abin, abinN, abinP, abinI, abinS, aun, aconv, afield, afieldAddr, aindexAddr, aindex, aslice, alow, ahigh, abuild, abuildGo, cellsOf, splice, fieldTy, alen, apick, amax, amin, aload, headV, aparts, abuildSlice, elParts, abytesStr, astore, amake, aappend, aclear, anew, arith, aresults, aresList, ares, spec0, spec1, spec2, spec3, spec4, eqCells, eqCell, put_len, hkl, gq, hr, hkr, rowAt_q, ga, g.p, g.n, e3, gc, i2]
      exact ⟨k + 1, by omega, by omega, weak_eq (by simp [ea]) (by rw [es])⟩
  · have hke : k = t.m := by omega
    subst hke
    have hUT : f1K t t.m = f1T t := rfl
    obtain ⟨U, hU⟩ : ∃ U, f1T t = U := ⟨_, rfl⟩
    have hF : firstF t = if anyK t.m (artP t) = false ∨ U.over = true then (true, U)
      else if (phaseF U).2.over = true then (true, (phaseF U).2)
      else if (ix (phaseF U).2.cost t.w).N < 0 then (false, (phaseF U).2)
      else (true, repK { (phaseF U).2 with cost := [] } t.m) := by rw [← hU]; rfl
    unfold HaltsF at hh
    rw [hU] at hh
    rw [hUT, hU] at hf hfw hfs g
    rw [hUT, hU]
    have fin : ∀ (V : Tab) (b : Bool), V.cost.length = t.w + 1 → firstF t = (b, V) → dropT K.length (putT (newC L K) V (K ++ [R2B []])) (.bool (firstF t).1) (outFi L t K) := fun V b hV hb => by
      have : outFi L t K = putT (newC L K) V (K ++ [R2B []]) := by
        unfold outFi
        rw [hb, if_neg (fun h => by rw [show (b, V).2.cost = V.cost from rfl] at h; rw [h] at hV; simp at hV), outN_eq hL, hK1]
      rw [this]
      exact ⟨K.length + 1, by omega, by rw [← hl1, ← put_len (newC L K) V, List.take_length], by simp [AV.cleanF, AV.clean2, AV.clean1], by rw [← hl1]; exact put_clean hL1 V⟩
    by_cases hA : anyK t.m (artP t) = false
    · have hF : firstF t = (true, U) := by rw [hF, if_pos (.inl hA)]
      simp [aev, cav, look, acallPure, abin, abinN, abinP, abinI, abinS, aun, aconv, afield, afieldAddr, aindexAddr, aindex, aslice, alow, ahigh, abuild, abuildGo, cellsOf, splice, fieldTy, alen, apick, amax, amin, aload, headV, aparts, abuildSlice, elParts, abytesStr, astore, amake, aappend, aclear, anew, arith, aresults, aresList, ares, spec0, spec1, spec2, spec3, spec4, eqCells, eqCell, put_len, hA]
      rw [hF] at fin ⊢
      exact ⟨rfl, fin U true hf.2.2.1 rfl⟩
    have hA' : anyK t.m (artP t) = true := by simpa using hA
    by_cases hO : U.over = true
    · have hF : firstF t = (true, U) := by rw [hF, if_pos (.inr hO)]
      have e28 := g.e28
      rw [hO] at e28
      simp [aev, cav, look, acallPure, abin, abinN, abinP, abinI, abinS, aun, aconv, afield, afieldAddr, aindexAddr, aindex, aslice, alow, ahigh, abuild, abuildGo, cellsOf, splice, fieldTy, alen, apick, amax, amin, aload, headV, aparts, abuildSlice, elParts, abytesStr, astore, amake, aappend, aclear, anew, arith, aresults, aresList, ares, spec0, spec1, spec2, spec3, spec4, eqCells, eqCell, put_len, hA', g.p, g.n, e28]
      rw [hF] at fin ⊢
      exact ⟨rfl, fin U true hf.2.2.1 rfl⟩
    have hn : ¬ (anyK t.m (artP t) = false ∨ U.over = true) := fun h => h.elim hA hO
    rw [if_neg hn] at hF
    have hO' : U.over = false := by simpa using hO
    have hH := hh hn
    obtain ⟨hVs, hVk⟩ := phaseF_shape hfs hH
    have gph := g.ph (by rw [hf.2.2.1, hfw]) hH
    obtain ⟨V, hV⟩ : ∃ V, (phaseF U).2 = V := ⟨_, rfl⟩
    rw [hV] at hF hVs hVk gph
    have hVw : V.w = t.w := hVk.w.trans hfw
    have hVc : V.cost.length = t.w + 1 := hVk.cost.trans hf.2.2.1
    have gv := getN hL1 hVs
    have e28 := g.e28
    rw [hO'] at e28
    have f28 := gv.e28
    by_cases hVO : V.over = true
    · rw [if_pos hVO] at hF
      rw [hVO] at f28
      simp [aev, cav, look, acallPure, abin, abinN, abinP, abinI, abinS, aun, aconv, afield, afieldAddr, aindexAddr, aindex, aslice, alow, ahigh, abuild, abuildGo, cellsOf, splice, fieldTy, alen, apick, amax, amin, aload, headV, aparts, abuildSlice, elParts, abytesStr, astore, amake, aappend, aclear, anew, arith, aresults, aresList, ares, spec0, spec1, spec2, spec3, spec4, eqCells, eqCell, put_len, hA', g.p, g.n, e28, gph, gv.p, gv.n, f28]
      rw [hF] at fin ⊢
      exact ⟨rfl, fin V true hVc rfl⟩
    have hVO' : V.over = false := by simpa using hVO
    rw [if_neg hVO] at hF
    rw [hVO'] at f28
    simp [aev, cav, look, acallPure, abin, abinN, abinP, abinI, abinS, aun, aconv, afield, afieldAddr, aindexAddr, aindex, aslice, alow, ahigh, abuild, abuildGo, cellsOf, splice, fieldTy, alen, apick, amax, amin, aload, headV, aparts, abuildSlice, elParts, abytesStr, astore, amake, aappend, aclear, anew, arith, aresults, aresList, ares, spec0, spec1, spec2, spec3, spec4, eqCells, eqCell, put_len, hA', g.p, g.n, e28, gph, gv.p, gv.n, f28]
    refine AW_regionF sigCFi mixCFi [.pure, .pure, .pure, .read, .pure, .pure, .pure, .read, .pure, .pure, .pure, .read, .pure, .pure, .pure, .read, .pure] [[],[0],[0,1],[1,0,2],[],[4],[4,5],[5,4,6],[],[8],[8,9],[9,8,10],[10,8,9,11,6,4,5,7],[7,5,4,6,11,9,8,10,12,2,0,1,3],[3,1,0,2,12,10,8,9,11,6,4,5,7,13],[13,7,5,4,6,11,9,8,10,12,2,0,1,3,14],[14,3,1,0,2,12,10,8,9,11,6,4,5,7,13,15]] (by kernel_rfl) (by kernel_rfl) (by kernel_rfl) (by kernel_rfl) ?_
    have f3 := gv.e3
    rw [hVc] at f3
    have hsw := shape_w hVs
    rw [hVw] at hsw
    have htw : t.w < t.w + 1 := by omega
    by_cases hN : (ix V.cost t.w).N < 0
    · rw [if_pos hN] at hF
      simp [aev, cav, look, acallPure, abin, abinN, abinP, abinI, abinS, aun, aconv, afield, afieldAddr, aindexAddr, aindex, aslice, alow, ahigh, abuild, abuildGo, cellsOf, splice, fieldTy, alen, apick, amax, amin, aload, headV, aparts, abuildSlice, elParts, abytesStr, astore, amake, aappend, aclear, anew, arith, aresults, aresList, ares, spec0, spec1, spec2, spec3, spec4, eqCells, eqCell, put_len, gv.p, gv.n, f3, gv.e0, gv.e1, hsw, gv.d, hVc, htw, rowAt_enc, hN]
      rw [hF] at fin ⊢
      exact ⟨by omega, rfl, fin V false hVc rfl⟩
    rw [if_neg hN] at hF
    have hold := old_cost (u := V) hL hLc
    have hts := tC_sn (L := L) (t := V) hLc K
    have hSW : Shape L { V with cost := [] } := ⟨hVs.m, hVs.r, hVs.n1, hVs.n12, hVs.m24, hVs.row, .inl ⟨hLc, rfl⟩, hVs.bas, hVs.b64⟩
    have hWm : ({ V with cost := [] } : Tab).m = t.m := hVk.m.trans hf.2.1
    obtain ⟨W, hW⟩ : ∃ W, ({ V with cost := [] } : Tab) = W := ⟨_, rfl⟩
    have hWc : W.cost = [] := by rw [← hW]
    rw [hW] at hold hts hSW hWm hF
    have gw := getT hL hSW
    have pw := gw.p
    have nw := tC_len (L := L) hSW.bas
    simp [aev, cav, look, acallPure, abin, abinN, abinP, abinI, abinS, aun, aconv, afield, afieldAddr, aindexAddr, aindex, aslice, alow, ahigh, abuild, abuildGo, cellsOf, splice, fieldTy, alen, apick, amax, amin, aload, headV, aparts, abuildSlice, elParts, abytesStr, astore, amake, aappend, aclear, anew, arith, aresults, aresList, ares, spec0, spec1, spec2, spec3, spec4, eqCells, eqCell, put_len, gv.p, gv.n, f3, gv.e0, gv.e1, hsw, gv.d, hVc, htw, rowAt_enc, hN, hts, hold, pw, nw, tC_e2, hr]
    refine ⟨by omega, ?_⟩
    refine loop_ruleH (C := CFi) sigCFi mixCFi [15] (fun k : Nat => ⟨[(0, .ptr L.p 1 29 0 0), (72, .int .i64 t.m), (73, .int .i64 k)], putT L (repK W k) K ++ [R2B V.cost]⟩) (fun k => k ≤ t.m) (fun k => t.m - k) (by kernel_rfl) ⟨0, by simp, weak_eq (by simp) rfl⟩ (fun k hk => ?_)
    obtain ⟨hRs, hRk⟩ := repK_shape hSW (k := k) (by omega)
    by_cases hkl : k < t.m
    · have hkl' : (k : Int) < (t.m : Int) := by omega
      have i2 : I64 ((k : Int) + 1) := by unfold I64; omega
      have hcall := rep_call hL hRs (i := k) (by rw [hRk.m]; omega) [R2B V.cost] (by simp [R2B])
      rw [show repF (repK W k) k = repK W (k + 1) from rfl] at hcall
      simp [aev, cav, look, acallPure, abin, abinN, abinP, abinI, abinS, aun, aconv, afield, afieldAddr, aindexAddr, aindex, aslice, alow, ahigh, abuild, abuildGo, cellsOf, splice, fieldTy, alen, apick, amax, amin, aload, headV, aparts, abuildSlice, elParts, abytesStr, astore, amake, aappend, aclear, anew, arith, aresults, aresList, ares, spec0, spec1, spec2, spec3, spec4, eqCells, eqCell, put_len, hkl, hcall, i2]
      exact ⟨k + 1, by omega, by omega, weak_eq (by simp) rfl⟩
    · have hke : k = t.m := by omega
      subst hke
      have hRc : (repK W t.m).cost = [] := List.length_eq_zero_iff.1 (by rw [hRk.cost, hWc]; rfl)
      have : outFi L t K = putT L (repK W t.m) K := by
        unfold outFi
        rw [hF, if_pos hRc]
      simp [aev, cav, look, acallPure, abin, abinN, abinP, abinI, abinS, aun, aconv, afield, afieldAddr, aindexAddr, aindex, aslice, alow, ahigh, abuild, abuildGo, cellsOf, splice, fieldTy, alen, apick, amax, amin, aload, headV, aparts, abuildSlice, elParts, abytesStr, astore, amake, aappend, aclear, anew, arith, aresults, aresList, ares, spec0, spec1, spec2, spec3, spec4, eqCells, eqCell, put_len, this, hF]
      exact tab_drop hL (by simp [AV.cleanF, AV.clean2, AV.clean1])
end Go.Proofs.YtifbaegnkodneaaDoor

/-
  layer 30: second — the given costs.
-/
namespace Go.Proofs.YtifbaegnkodneaaDoor
open Go.RowKit
set_option linter.unusedSimpArgs false
set_option linter.unusedVariables false
set_option maxRecDepth 100000

def rowC (t : Tab) (cs : List Fr) : List Fr := cs ++ (rowE t).drop cs.length
def useP (t : Tab) (cs : List Fr) (k : Nat) : Prop := ix t.basis k < t.n ∧ (ix cs (ix t.basis k).toNat).N ≠ 0
instance (t : Tab) (cs : List Fr) (k : Nat) : Decidable (useP t cs k) := inferInstanceAs (Decidable (_ ∧ _))
def s1K (t : Tab) (cs : List Fr) : Nat → Tab
  | 0 => { t with cost := rowC t cs }
  | k + 1 => if useP t cs k then clrT (s1K t cs k) ⟨none, ix cs (ix t.basis k).toNat, k⟩ else s1K t cs k
def s1T (t : Tab) (cs : List Fr) : Tab := s1K t cs t.m
noncomputable def secondF (t : Tab) (cs : List Fr) : Bool × Tab := if (s1T t cs).over = true then (true, s1T t cs) else phaseF (s1T t cs)
def HaltsS (t : Tab) (cs : List Fr) : Prop := ¬ (s1T t cs).over = true → Halts (s1T t cs)
section
variable {L : Lay} {t : Tab} {K : List Blk} {cs : List Fr}
theorem rowC_len (h : cs.length = t.n) : (rowC t cs).length = t.w + 1 := by
  unfold rowC
  rw [List.length_append, List.length_drop, rowE_len, h]
  unfold Tab.w
  omega
theorem s1K_same (h : cs.length = t.n) : ∀ k, (s1K t cs k).n = t.n ∧ (s1K t cs k).m = t.m ∧ (s1K t cs k).cost.length = t.w + 1 ∧ (s1K t cs k).basis = t.basis
  | 0 => ⟨rfl, rfl, rowC_len h, rfl⟩
  | k + 1 => by
    obtain ⟨h1, h2, h3, h4⟩ := s1K_same h k
    unfold s1K
    split
    · exact ⟨(clrK_n _ _).trans h1, (clrK_m _ _).trans h2, (clrK_cost _ _).trans h3, (clrK_bas _ _).trans h4⟩
    · exact ⟨h1, h2, h3, h4⟩
theorem s1K_w (h : cs.length = t.n) (k : Nat) : (s1K t cs k).w = t.w := by unfold Tab.w; rw [(s1K_same h k).1, (s1K_same h k).2.1]
theorem s1K_shape (hS : Shape L t) (h : cs.length = t.n) : ∀ {k}, k ≤ t.m → Shape (newC L K) (s1K t cs k)
  | 0, _ => shape_cost hS (rowC_len h)
  | k + 1, hk => by
    unfold s1K
    split
    · refine clrK_shape (s1K_shape hS h (by omega)) ⟨by rw [(s1K_same h k).2.1]; exact hk, fun q hq => (by cases hq), fun _ => ?_⟩ _
      rw [(s1K_same h k).2.2.1, s1K_w h]
    · exact s1K_shape hS h (by omega)
theorem secondF_same (hS : Shape L t) (h : cs.length = t.n) (hh : HaltsS t cs) : Shape (newC L K) (secondF t cs).2 ∧ (secondF t cs).2.rows.length = t.m ∧ (secondF t cs).2.n = t.n ∧ (secondF t cs).2.m = t.m ∧ (secondF t cs).2.cost.length = t.w + 1 := by
  have h1 := s1K_shape (K := K) hS h (Nat.le_refl t.m)
  obtain ⟨h2, h3, h4, h5⟩ := s1K_same h t.m
  unfold secondF
  split
  · exact ⟨h1, by rw [show (true, s1T t cs).2 = s1K t cs t.m from rfl, h1.m, h3], h2, h3, h4⟩
  · rename_i hn
    obtain ⟨h6, h7⟩ := phaseF_shape h1 (hh hn)
    exact ⟨h6, h6.m.trans (h7.m.trans h3), h7.n.trans h2, h7.m.trans h3, h7.cost.trans h4⟩
end
abbrev SeX := Lay × Tab × List Blk × List Fr
def preSe : SeX → Prop := fun γ => Lens γ.1 γ.2.2.1 ∧ Shape γ.1 γ.2.1 ∧ γ.2.2.2.length = γ.2.1.n ∧ HaltsS γ.2.1 γ.2.2.2
noncomputable def gSecond : List AV → List Blk → Option (Prop × AV × List Blk) :=
  anyG (fun γ : SeX => [.ptr γ.1.p 1 29 0 0, Enc.enc γ.2.2.2]) (fun γ => putT γ.1 γ.2.1 γ.2.2.1) preSe (fun γ => .bool (secondF γ.2.1 γ.2.2.2).1) (fun γ => outN γ.1 γ.2.1 γ.2.2.1 (secondF γ.2.1 γ.2.2.2).2)
theorem second_at {L : Lay} {t : Tab} {K : List Blk} {cs : List Fr} (hL : Lens L K) (hS : Shape L t) (hc : cs.length = t.n) (hh : HaltsS t cs) : gSecond [.ptr L.p 1 29 0 0, Enc.enc cs] (putT L t K) = some (True, .bool (secondF t cs).1, outN L t K (secondF t cs).2) := by
  refine anyG_at (a := fun γ : SeX => [.ptr γ.1.p 1 29 0 0, Enc.enc γ.2.2.2]) (h := fun γ : SeX => putT γ.1 γ.2.1 γ.2.2.1) (pre := preSe) (res := fun γ => .bool (secondF γ.2.1 γ.2.2.2).1) (h' := fun γ => outN γ.1 γ.2.1 γ.2.2.1 (secondF γ.2.1 γ.2.2.2).2) ?_ (γ := (L, t, K, cs)) ⟨hL, hS, hc, hh⟩
  rintro ⟨L1, t1, K1, c1⟩ ⟨L2, t2, K2, c2⟩ ⟨h1, s1, n1, hh1⟩ ⟨h2, s2, n2, _⟩ ea eh
  simp only [List.cons.injEq, AV.ptr.injEq, and_true] at ea
  obtain ⟨e1, e2, e3⟩ := put_inj h1 h2 s1 s2 ea.1 eh
  simp only at e1 e2
  subst e1 e2
  have ec : c1 = c2 := by
    have := congrArg (Enc.dec : AV → List Fr) ea.2
    simpa [Enc.dec_enc] using this
  subst ec
  have el : K1.length = K2.length := by
    have := congrArg List.length eh
    simpa [put_len] using this
  have hr := (secondF_same (K := K1) s1 n1 hh1).2.1
  refine ⟨rfl, ?_⟩
  show outN L1 t1 K1 _ = outN L1 t1 K2 _
  unfold outN newC
  rw [el, e3 { (secondF t1 c1).2 with cost := t1.cost } (by show (secondF t1 c1).2.rows.length = _; rw [hr, s1.r])]
theorem second_inv {args : List AV} {H : List Blk} {ob : Prop} {r : AV} {H' : List Blk} (e : gSecond args H = some (ob, r, H')) :
    ∃ L t K cs, Lens L K ∧ Shape L t ∧ cs.length = t.n ∧ HaltsS t cs ∧ args = [.ptr L.p 1 29 0 0, Enc.enc cs] ∧ H = putT L t K ∧ r = .bool (secondF t cs).1 ∧ H' = outN L t K (secondF t cs).2 := by
  obtain ⟨⟨L, t, K, cs⟩, ⟨h1, h2, h3, h4⟩, e1, e2, e3, e4⟩ := anyG_inv e
  exact ⟨L, t, K, cs, h1, h2, h3, h4, e1.symm, e2.symm, e3.symm, e4.symm⟩
noncomputable def CSe : Ctx := mkC Tryd.prog G0 [(60, .gen gEmpty), (62, .gen gClear), (63, .gen gPhase)]
@[simp] theorem CSe_P : CSe.P = Tryd.prog := rfl
@[simp] theorem CSe_G : CSe.G = G0 := rfl
@[simp] theorem CSe_1 : CSe.S 60 = .gen gEmpty := rfl
@[simp] theorem CSe_2 : CSe.S 62 = .gen gClear := rfl
@[simp] theorem CSe_3 : CSe.S 63 = .gen gPhase := rfl
theorem mixCSe : CSe.P.follows .mixedOrders = true := mixed
theorem sigCSe : SigOK CSe := sigOK_cons (entryGen (emptyTP) Tryd.func60 rfl (by decide)) (sigOK_cons (entryGen (clearTP) Tryd.func62 rfl (by decide)) (sigOK_cons (entryGen (phaseTP) Tryd.func63 rfl (by decide)) (sigOK_nil _ _)))
set_option maxHeartbeats 16000000 in
theorem secondTP : GenOK Tryd.prog G0 38 gSecond := by
  refine gen_of_avcD (C := CSe) sigCSe mixCSe [2, 8] Tryd.func38 rfl rfl rfl (by kernel_rfl) (fun avs H ob r H' hp hob => ?_)
  obtain ⟨L, t, K, cs, hL, hS, hcs, hh, rfl, rfl, rfl, rfl⟩ := second_inv hp
  clear hp hob ob
  refine ⟨(by show 2 ≤ _; decide), ?_⟩
  have G1 := getT hL hS
  have p1 := G1.p
  have n1 := tC_len (L := L) hS.bas
  have hem := empty_at hL hS.to0
  have hset : (putT L t K ++ [R2B (rowE t)]).set L.p ⟨54, 29, [List.take 3 (tC L t) ++ AV.own K.length (t.w + 1) :: List.drop 4 (tC L t)], true, false⟩ = putT (newC L K) { t with cost := rowE t } (baseN L t K) := by
    rw [tC_sc (K := K) (rowE t) (rowE_len t)]
    exact outN_eq (t := t) (u := { t with cost := rowE t }) hL
  have hL1 : Lens (newC L K) (baseN L t K) := newC_lens hL
  have hw := shape_w36 hS
  have hr := hS.r
  have hn1 := hS.n1
  have hl1 : (baseN L t K).length = K.length + 1 := baseN_len
  have hSE : Shape (newC L K) { t with cost := rowE t } := shape_cost hS (rowE_len t)
  have ge := getN hL1 hSE
  have ged : ∀ h, (putT (newC L K) { t with cost := rowE t } (baseN L t K))[K.length]'h = ⟨29, 2, encRows (rowE t), true, true⟩ := ge.d
  have ge3 : ∀ h, (tC (newC L K) { t with cost := rowE t })[3]'h = .own K.length (t.w + 1) := fun h => by rw [ge.e3 h]; show AV.own _ (rowE t).length = _; rw [rowE_len]
  simp [aev, cav, look, acallPure, abin, abinN, abinP, abinI, abinS, aun, aconv, afield, afieldAddr, aindexAddr, aindex, aslice, alow, ahigh, abuild, abuildGo, cellsOf, splice, fieldTy, alen, apick, amax, amin, aload, headV, aparts, abuildSlice, elParts, abytesStr, astore, amake, aappend, aclear, anew, arith, aresults, aresList, ares, spec0, spec1, spec2, spec3, spec4, eqCells, eqCell, argsρ, put_len, hem, p1, n1, hset]
  refine AW_regionO sigCSe (by kernel_rfl) ?_
  have hs2 : (putT (newC L K) { t with cost := rowE t } (baseN L t K)).set K.length ⟨29, 2, encRows (cs ++ List.drop cs.length (rowE t)), true, true⟩ = putT (newC L K) (s1K t cs 0) (baseN L t K) :=
    put_set_c hL1 newC_c (rowC t cs) (by show _ = (rowE t).length; rw [rowE_len, rowC_len hcs])
  have hS0 := s1K_shape (K := K) hS hcs (Nat.zero_le t.m)
  have g0 := getN hL1 hS0
  have hwt : t.n ≤ t.w := by unfold Tab.w; omega
  simp [aev, cav, look, acallPure, abin, abinN, abinP, abinI, abinS, aun, aconv, afield, afieldAddr, aindexAddr, aindex, aslice, alow, ahigh, abuild, abuildGo, cellsOf, splice, fieldTy, alen, apick, amax, amin, aload, headV, aparts, abuildSlice, elParts, abytesStr, astore, amake, aappend, aclear, anew, arith, aresults, aresList, ares, spec0, spec1, spec2, spec3, spec4, eqCells, eqCell, acopy, ge.p, ge.n, ge3, ge.c, ge.d, hl1, put_len, hs2, g0.p, g0.n, g0.e2, hr]
  refine ⟨⟨rowE_len t, by omega, by omega⟩, ?_⟩
  refine loop_ruleH (C := CSe) sigCSe mixCSe [2, 8] (fun k : Nat => ⟨[(0, .ptr L.p 1 29 0 0), (1, Enc.enc cs), (4, .bool false), (22, .own L.q t.m), (23, .int .i64 t.m), (24, .int .i64 k)], putT (newC L K) (s1K t cs k) (baseN L t K)⟩) (fun k => k ≤ t.m) (fun k => t.m - k) (by kernel_rfl) ⟨0, by simp, weak_eq (by simp) rfl⟩ (fun k hk => ?_)
  have hf := s1K_same hcs k
  have hfw := s1K_w hcs k
  have hfs := s1K_shape (K := K) hS hcs hk
  have g := getN hL1 hfs
  have h24 := hS.m24
  by_cases hkl : k < t.m
  · have hkl' : (k : Int) < (t.m : Int) := by omega
    have i2 : I64 ((k : Int) + 1) := by unfold I64; omega
    have hkr : k < L.r.length := by omega
    have hk24 : k < 24 := by omega
    have gq := g.q
    rw [hfw] at gq
    have hbk := tC_b (L := newC L K) hfs.bas hk24
    rw [hf.2.2.2] at hbk
    have e0 := g.e0
    rw [hf.1] at e0
    have hb64 : 0 ≤ ix t.basis k := by
      have := hS.bas
      exact (hS.b64 _ (ix_mem (by omega))).1
    obtain ⟨bn, hbn⟩ : ∃ bn : Nat, ix t.basis k = bn := ⟨(ix t.basis k).toNat, by omega⟩
    have hu : useP t cs k ↔ (bn < t.n ∧ (ix cs bn).N ≠ 0) := by unfold useP; rw [hbn, Int.toNat_natCast]; omega
    rw [hbn] at hbk
    by_cases hbl : bn < t.n
    case neg =>
      have es : s1K t cs (k + 1) = s1K t cs k := by conv => { lhs; unfold s1K; rw [if_neg (fun h => hbl (hu.1 h).1)] }
      simp [aev, cav, look, acallPure, abin, abinN, abinP, abinI, abinS, aun, aconv, afield, afieldAddr, aindexAddr, aindex, aslice, alow, ahigh, abuild, abuildGo, cellsOf, splice, fieldTy, alen, apick, amax, amin, aload, headV, aparts, abuildSlice, elParts, abytesStr, astore, amake, aappend, aclear, anew, arith, aresults, aresList, ares, spec0, spec1, spec2, spec3, spec4, eqCells, eqCell, put_len, hkl, gq, hr, hkr, rowAt_q, g.p, g.n, hbk, hk24, e0, hbl, i2]
      exact ⟨by omega, by omega, k + 1, by omega, by omega, weak_eq (by simp) (by rw [es])⟩
    by_cases hN : (ix cs bn).N = 0
    · have es : s1K t cs (k + 1) = s1K t cs k := by conv => { lhs; unfold s1K; rw [if_neg (fun h => (hu.1 h).2 hN)] }
      simp [aev, cav, look, acallPure, abin, abinN, abinP, abinI, abinS, aun, aconv, afield, afieldAddr, aindexAddr, aindex, aslice, alow, ahigh, abuild, abuildGo, cellsOf, splice, fieldTy, alen, apick, amax, amin, aload, headV, aparts, abuildSlice, elParts, abytesStr, astore, amake, aappend, aclear, anew, arith, aresults, aresList, ares, spec0, spec1, spec2, spec3, spec4, eqCells, eqCell, put_len, hkl, gq, hr, hkr, rowAt_q, g.p, g.n, hbk, hk24, e0, hbl, hcs, rowAt_enc, hN, i2]
      exact ⟨by omega, by omega, k + 1, by omega, by omega, weak_eq (by simp) (by rw [es])⟩
    have es : s1K t cs (k + 1) = clrT (s1K t cs k) ⟨none, ix cs bn, k⟩ := by
      conv => { lhs; unfold s1K; rw [if_pos (hu.2 ⟨hbl, hN⟩)] }
      rw [hbn, Int.toNat_natCast]
    have gc := g.clr k (ix cs bn) (by rw [hf.2.1]; exact hkl) (by rw [hf.2.2.1, hfw])
    rw [hfw, ← es] at gc
    have e3 := g.e3
    rw [hf.2.2.1] at e3
    simp [aev, cav, look, acallPure, abin, abinN, abinP, abinI, abinS, aun, aconv, afield, afieldAddr, aindexAddr, aindex, aslice, alow, ahigh, abuild, abuildGo, cellsOf, splice, fieldTy, alen, apick, amax, amin, aload, headV, aparts, abuildSlice, elParts, abytesStr, astore, amake, aappend, aclear, anew, arith, aresults, aresList, ares, spec0, spec1, spec2, spec3, spec4, eqCells, eqCell, put_len, hkl, gq, hr, hkr, rowAt_q, g.p, g.n, hbk, hk24, e0, hbl, hcs, rowAt_enc, hN, i2]
    refine ⟨by omega, by omega, ?_⟩
    refine AW_regionF sigCSe mixCSe [.pure, .pure, .pure, .pure, .read, .pure, .pure, .pure, .read, .pure, .eff] [[],[],[1],[1,2],[2,1,3],[],[],[6,5],[5,6,7],[],[9,7,6,5,8,3,1,2,4,0]] (by kernel_rfl) (by kernel_rfl) (by kernel_rfl) (by kernel_rfl) ?_
    simp [aev, cav, look, acallPure, abin, abinN, abinP, abinI, abinS, aun, aconv, afield, afieldAddr, aindexAddr, aindex, aslice, alow, ahigh, abuild, abuildGo, cellsOf, splice, fieldTy, alen, apick, amax, amin, aload, headV, aparts, abuildSlice, elParts, abytesStr, astore, amake, aappend, aclear, anew, arith, aresults, aresList, ares, spec0, spec1, spec2, spec3, spec4, eqCells, eqCell, put_len, g.p, g.n, e3, hbl, hcs, rowAt_enc, gc, i2]
    exact ⟨k + 1, by omega, by omega, weak_eq (by simp) rfl⟩
  · have hke : k = t.m := by omega
    subst hke
    have hUT : s1K t cs t.m = s1T t cs := rfl
    obtain ⟨U, hU⟩ : ∃ U, s1T t cs = U := ⟨_, rfl⟩
    have hF : secondF t cs = if U.over = true then (true, U) else phaseF U := by rw [← hU]; rfl
    unfold HaltsS at hh
    rw [hU] at hh
    rw [hUT, hU] at hf hfw hfs g
    rw [hUT, hU]
    have fin : ∀ (V : Tab) (b : Bool), secondF t cs = (b, V) → dropT K.length (putT (newC L K) V (baseN L t K)) (.bool (secondF t cs).1) (outN L t K (secondF t cs).2) := fun V b hb => by
      rw [hb, outN_eq hL]
      exact ⟨K.length + 1, by omega, by rw [← hl1, ← put_len (newC L K) V, List.take_length], by simp [AV.cleanF, AV.clean2, AV.clean1], by rw [← hl1]; exact put_clean hL1 V⟩
    have e28 := g.e28
    by_cases hO : U.over = true
    · rw [if_pos hO] at hF
      rw [hO] at e28
      simp [aev, cav, look, acallPure, abin, abinN, abinP, abinI, abinS, aun, aconv, afield, afieldAddr, aindexAddr, aindex, aslice, alow, ahigh, abuild, abuildGo, cellsOf, splice, fieldTy, alen, apick, amax, amin, aload, headV, aparts, abuildSlice, elParts, abytesStr, astore, amake, aappend, aclear, anew, arith, aresults, aresList, ares, spec0, spec1, spec2, spec3, spec4, eqCells, eqCell, put_len, g.p, g.n, e28]
      rw [hF] at fin ⊢
      exact ⟨rfl, fin U true rfl⟩
    have hO' : U.over = false := by simpa using hO
    rw [if_neg hO] at hF
    rw [hO'] at e28
    have gph := g.ph (by rw [hf.2.2.1, hfw]) (hh hO)
    simp [aev, cav, look, acallPure, abin, abinN, abinP, abinI, abinS, aun, aconv, afield, afieldAddr, aindexAddr, aindex, aslice, alow, ahigh, abuild, abuildGo, cellsOf, splice, fieldTy, alen, apick, amax, amin, aload, headV, aparts, abuildSlice, elParts, abytesStr, astore, amake, aappend, aclear, anew, arith, aresults, aresList, ares, spec0, spec1, spec2, spec3, spec4, eqCells, eqCell, put_len, g.p, g.n, e28, gph, hF]
    rw [hF] at fin
    exact fin (phaseF U).2 (phaseF U).1 rfl
end Go.Proofs.YtifbaegnkodneaaDoor

/-
  layer 30: begin — the tableau of a program, in plain words.
-/
namespace Go.Proofs.YtifbaegnkodneaaDoor
open Go.RowKit
set_option linter.unusedSimpArgs false
set_option linter.unusedVariables false
set_option maxRecDepth 100000

section
variable {C : Ctx} {N h0 : Nat}
/-- A block is held to be open. -/
theorem weak_open {ρ : List (Nat × AV)} {H : List Blk} (l : Nat) {b : Blk} (hb : H[l]? = some b) : Weak C N h0 ⟨ρ, H⟩ ⟨ρ, H.set l { b with deep := false }⟩ := by
  intro X w0 β0 H0 a w hl hrel
  obtain ⟨β, R, S0, Tr, G, hN, hdef⟩ := hrel
  have hlt := (List.getElem?_eq_some_iff.1 hb).1
  obtain ⟨bi, hbi⟩ : ∃ bi, β[l]? = some bi := by
    refine ⟨β[l]'(by have h2 : β.length = H.length := R.len; omega), List.getElem?_eq_getElem _⟩
  have S2 := set_step R hb hbi bi { b with deep := false } rfl rfl (by simp) (fun _ => rfl) id (fun bk c e => .inr ⟨c, e⟩) (Keeps.refl _ w)
  have R2 := set_hrel R hb hbi bi { b with deep := false } S2 (fun _ _ _ _ _ => rfl) (by
    have hB := R.blk l bi b hbi hb
    cases bi with
    | nil => exact hB
    | lies bk cap =>
      obtain ⟨cur, k1, k2, k3, k4, k5, k6, k7⟩ := hB
      refine ⟨cur, k1, k2, k3, k4, k5, k6, fun i' j' r' av hr' hj' => ?_⟩
      obtain ⟨v, q1, q2, q3, q4⟩ := k7 i' j' r' av hr' hj'
      exact ⟨v, q1, q2, q3.keep S2, fun h => by cases h⟩)
    (fun bk c e => by subst e; exact R.lt l bk c hbi) (fun bk c l' c' e hne h => by subst e; exact hne (R.inj l' l bk c' c h hbi))
  exact ⟨_, R2, S0.trans S2, fun k => (Tr k).keep S2, fun g => (G g).keep (fun b hb hn => S2.keeps.block b hb (fun hm => hn (.inr hm))) S2.keeps.size (fun b hb => S2.mu b hb), hN, hdef⟩
end
def keepB (l : Lin) (i : Nat) : Bool := decide (0 < (ix l.B i).N)
def putE (l : Lin) (i : Nat) (a : Fr) : Fr := if keepB l i then a else negF a
def rowB (l : Lin) (i : Nat) : List Fr :=
  let n := l.C.length
  let w := l.C.length + l.A.length
  let r := ((mixF n (fun c => putE l i (ix (ix l.A i) c)) (List.replicate (w + 1) F01)).set (n + i) F11).set w (negF (ix l.B i))
  if keepB l i then (r.set (n + i) ⟨-1, 1⟩).set w (ix l.B i) else r
def basK (l : Lin) : Nat → List Int
  | 0 => List.replicate 24 0
  | i + 1 => (basK l i).set i (if keepB l i then (l.C.length : Int) + l.A.length + i else (l.C.length : Int) + i)
def tabB (l : Lin) (i : Nat) : Tab := ⟨l.C.length, l.A.length, (List.range i).map (rowB l), [], basK l i, false⟩
def layB (h : Nat) (l : Lin) (i : Nat) : Lay := ⟨h + 1, h + 2, none, (List.range i).map fun j => h + 3 + j * (l.C.length + 1)⟩
def FBs (l : List Fr) : List Blk := l.map FB
def garB (l : Lin) : Nat → List Blk
  | 0 => [CB l, R2B [], R2B []]
  | i + 1 => garB l i ++ (R2B [] :: FBs (ix l.A i))
structure Good (l : Lin) : Prop where
  n1 : 1 ≤ l.C.length
  n12 : l.C.length ≤ 12
  m24 : l.A.length ≤ 24
  b : l.B.length = l.A.length
  row : ∀ r ∈ l.A, r.length = l.C.length
section
variable {l : Lin}
theorem rowB_len (i : Nat) : (rowB l i).length = l.C.length + l.A.length + 1 := by
  unfold rowB
  simp only
  split
  · rw [List.length_set, List.length_set, List.length_set, List.length_set, mixF_len, List.length_replicate]
  · rw [List.length_set, List.length_set, mixF_len, List.length_replicate]
theorem basK_len : ∀ i, (basK l i).length = 24
  | 0 => List.length_replicate
  | i + 1 => by unfold basK; rw [List.length_set]; exact basK_len i
theorem basK_in (g : Good l) : ∀ {i}, i ≤ l.A.length → ∀ b ∈ basK l i, 0 ≤ b ∧ b ≤ 1000
  | 0, _, b, hb => by rw [(List.mem_replicate.1 hb).2]; omega
  | i + 1, h, b, hb => by
    rcases List.mem_or_eq_of_mem_set hb with hb | hb
    · exact basK_in g (by omega) b hb
    · have := g.n12
      have := g.m24
      rw [hb]
      split <;> omega
theorem garB_len (g : Good l) : ∀ {i}, i ≤ l.A.length → (garB l i).length = 3 + i * (l.C.length + 1)
  | 0, _ => by simp [garB]
  | i + 1, h => by
    have hr := g.row _ (ix_mem (show i < l.A.length by omega))
    unfold garB
    rw [List.length_append, garB_len g (by omega)]
    simp only [FBs, List.length_cons, List.length_map, hr]
    rw [Nat.add_mul]
    omega
theorem garB_deep : ∀ i, ∀ b ∈ garB l i, b.deep = true
  | 0, b, hb => by
    simp only [garB, List.mem_cons, List.not_mem_nil, or_false] at hb
    rcases hb with rfl | rfl | rfl <;> rfl
  | i + 1, b, hb => by
    unfold garB at hb
    rcases List.mem_append.1 hb with hb | hb
    · exact garB_deep i b hb
    · rcases List.mem_cons.1 hb with rfl | hb
      · rfl
      · unfold FBs at hb
        obtain ⟨f, _, rfl⟩ := List.mem_map.1 hb
        rfl
def CleanH (H : List Blk) : Prop := ∀ b ∈ H, b.deep = true ∨ ∀ r ∈ b.rows, ∀ c ∈ r, c.cleanF H.length = true
theorem mul_lt_step {j i c : Nat} (h : j < i) : j * c + c ≤ i * c := by
  have : (j + 1) * c ≤ i * c := Nat.mul_le_mul_right c h
  rw [Nat.add_mul, Nat.one_mul] at this
  exact this
theorem layB_lens (g : Good l) {H : List Blk} (hH : CleanH H) {i : Nat} (hi : i ≤ l.A.length) : Lens (layB H.length l i) (H ++ garB l i) := by
  have hg := garB_len g hi
  have hlen : (H ++ garB l i).length = H.length + 3 + i * (l.C.length + 1) := by rw [List.length_append, hg]; omega
  have hmem : ∀ x, x ∈ (layB H.length l i).r → ∃ j, j < i ∧ x = H.length + 3 + j * (l.C.length + 1) := fun x hx => by
    obtain ⟨j, hj, rfl⟩ := List.mem_map.1 hx
    exact ⟨j, List.mem_range.1 hj, rfl⟩
  refine ⟨by rw [hlen]; show H.length + 1 < _; omega, by rw [hlen]; show H.length + 2 < _; omega, fun c hc => (by cases hc), fun x hx => ?_, (by show H.length + 1 ≠ H.length + 2; omega), (by intro h; cases h), (by intro h; cases h), fun hx => ?_, fun hx => ?_, fun c hc => (by cases hc), ?_, fun b hb => ?_⟩
  · obtain ⟨j, hj, rfl⟩ := hmem x hx
    have := mul_lt_step (c := l.C.length + 1) hj
    rw [hlen]
    omega
  · obtain ⟨j, hj, e⟩ := hmem _ hx
    have e : H.length + 1 = _ := e
    omega
  · obtain ⟨j, hj, e⟩ := hmem _ hx
    have e : H.length + 2 = _ := e
    omega
  · show ((List.range i).map _).Nodup
    refine List.Pairwise.map _ ?_ List.pairwise_lt_range
    intro a b hab
    have := mul_lt_step (c := l.C.length + 1) hab
    omega
  · rcases List.mem_append.1 hb with hb | hb
    · exact (hH b hb).imp id fun h1 r hr c hc => cleanF_mono (by rw [List.length_append]; omega) (h1 r hr c hc)
    · exact .inl (garB_deep i b hb)
theorem tabB_shape (g : Good l) (h : Nat) {i : Nat} (hi : i ≤ l.A.length) : Shape0 (layB h l i) (tabB l i) := by
  refine ⟨by simp [tabB, layB], by simp [tabB, layB, hi], g.n1, g.n12, g.m24, fun r hr => ?_, .inl ⟨rfl, rfl⟩, basK_len i, basK_in g hi⟩
  obtain ⟨j, hj, rfl⟩ := List.mem_map.1 hr
  exact rowB_len j
end
end Go.Proofs.YtifbaegnkodneaaDoor

/-
  layer 30: begin — how a row is added.
-/
namespace Go.Proofs.YtifbaegnkodneaaDoor
open Go.RowKit
set_option linter.unusedSimpArgs false
set_option linter.unusedVariables false
set_option maxRecDepth 100000

theorem setR_snoc : ∀ {ls : List Nat} {rs : List (List Fr)} {x : Nat} {r : List Fr} {H : List Blk}, ls.length = rs.length → setR (ls ++ [x]) (rs ++ [r]) H = setR ls rs (H.set x (R2B r))
  | [], [], _, _, _, _ => rfl
  | [], _ :: _, _, _, _, h => by simp at h
  | _ :: _, [], _, _, _, h => by simp at h
  | l :: ls, r :: rs, x, r', H, h => by
    rw [List.cons_append, List.cons_append, setR, setR, setR_snoc (by simpa using h)]
def rowL (L : Lay) (k : Nat) : Lay := { L with r := L.r ++ [k] }
theorem add_row {L : Lay} {t t' : Tab} {K X : List Blk} {x : List Fr} (hL : Lens L K) (hc : L.c = none) (hm : L.r.length = t.rows.length) (hr : t'.rows = t.rows ++ [x]) (hw : t'.w = t.w) :
    ((putT L t K ++ (R2B x :: X)).set L.q ⟨23, 1, (L.r.map fun l => [.own l (t.w + 1)]) ++ [[.own K.length (t.w + 1)]], true, false⟩).set L.p ⟨54, 29, [tC (rowL L K.length) t'], true, false⟩ = putT (rowL L K.length) t' (K ++ (R2B [] :: X)) := by
  have hp := hL.p
  have hq := hL.q
  unfold putT rowL
  simp only
  rw [hr, setR_snoc hm, hc, hw]
  simp only [setC]
  rw [List.set_append_left _ _ (by rw [setR_len, List.length_set, List.length_set]; exact hq), List.set_append_left _ _ (by rw [List.length_set, setR_len, List.length_set, List.length_set]; exact hp)]
  rw [← setR_comm hL.qr, ← setR_comm hL.pr, List.set_set, List.set_comm _ _ hL.pq.symm, List.set_set]
  rw [List.set_append_left _ _ hp, List.set_append_left _ _ (by rw [List.length_set]; exact hq)]
  rw [List.set_append_right _ _ (by rw [List.length_set, List.length_set]; exact Nat.le_refl _), List.length_set, List.length_set, Nat.sub_self]
  rw [setR_app (fun l hl => by rw [List.length_set, List.length_set]; exact hL.r l hl)]
  congr 2
  unfold qB tB
  simp
end Go.Proofs.YtifbaegnkodneaaDoor

/-
  layer 30: begin, the program's side.
-/
namespace Go.Proofs.YtifbaegnkodneaaDoor
open Go.RowKit
set_option linter.unusedSimpArgs false
set_option linter.unusedVariables false
set_option maxRecDepth 100000

theorem put_out {L : Lay} {t : Tab} {K : List Blk} {k : Nat} (hp : k ≠ L.p) (hq : k ≠ L.q) (hc : L.c ≠ some k) (hr : k ∉ L.r) : (putT L t K)[k]? = K[k]? := by
  unfold putT
  rw [setR_out hr, setC_out hc, List.getElem?_set_ne hq.symm, List.getElem?_set_ne hp.symm]
theorem garB_head (l : Lin) : ∀ i, ∃ X, garB l i = CB l :: X
  | 0 => ⟨_, rfl⟩
  | i + 1 => by
    obtain ⟨X, hX⟩ := garB_head l i
    exact ⟨X ++ (R2B [] :: FBs (ix l.A i)), by unfold garB; rw [hX]; rfl⟩
theorem begin_cb {l : Lin} {H : List Blk} (i : Nat) (t : Tab) (X : List Blk) : (putT (layB H.length l i) t (H ++ garB l i) ++ X)[H.length]? = some (CB l) := by
  obtain ⟨Y, hY⟩ := garB_head l i
  rw [List.getElem?_append_left (by rw [put_len, List.length_append, hY]; simp), put_out (by show H.length ≠ H.length + 1; omega) (by show H.length ≠ H.length + 2; omega) (by intro h; cases h) (fun h => by
    obtain ⟨j, hj, e⟩ := List.mem_map.1 h
    omega), hY]
  simp
theorem begin_zero {l : Lin} {H : List Blk} : H ++ [CB l, ⟨54, 29, [tC (layB H.length l 0) (tabB l 0)], true, false⟩, ⟨23, 1, [], true, false⟩] = putT (layB H.length l 0) (tabB l 0) (H ++ garB l 0) := by
  unfold putT layB garB
  simp [setC, setR, qB, tB, tabB, layB]
theorem layB_succ {l : Lin} (g : Good l) (H : List Blk) {i : Nat} (hi : i ≤ l.A.length) : layB H.length l (i + 1) = rowL (layB H.length l i) (H ++ garB l i).length := by
  unfold layB rowL
  rw [List.length_append, garB_len g hi, List.range_succ, List.map_append]
  simp only [List.map_cons, List.map_nil]
  rw [show H.length + (3 + i * (l.C.length + 1)) = H.length + 3 + i * (l.C.length + 1) by omega]
theorem tC_sq {L : Lay} {t t2 : Tab} {k N : Nat} (hn : t2.n = t.n) (hm : t2.m = t.m) (hc : t2.cost = t.cost) (hb : t2.basis = t.basis) (ho : t2.over = t.over) (hk : L.r.length + 1 = k) : List.take 2 (tC L t) ++ AV.own L.q k :: List.drop 3 (tC L t) = tC (rowL L N) t2 := by
  unfold tC rowL
  simp [hn, hm, hc, hb, ho, hk]
theorem keep_tab {C : Ctx} {N h0 : Nat} {ρ ρ' : List (Nat × AV)} {Hh P T : List Blk} (hT : Hh = P ++ T) (h : ∀ p ∈ ρ', getA ρ p.1 = p.2) (hm : h0 ≤ P.length) (hρ : ∀ p ∈ ρ', p.2.cleanF P.length = true) (hP : ∀ b ∈ P, b.deep = true ∨ ∀ r ∈ b.rows, ∀ c ∈ r, c.cleanF P.length = true) : Weak C N h0 ⟨ρ, Hh⟩ ⟨ρ', P⟩ := by
  subst hT
  exact weak_keepF P.length h hm hρ (by rw [List.take_left]; exact hP) List.take_left
def inR (l : Lin) (i k : Nat) : List Fr := mixF k (fun c => putE l i (ix (ix l.A i) c)) (List.replicate (l.C.length + l.A.length + 1) F01)
theorem inR_len (l : Lin) (i k : Nat) : (inR l i k).length = l.C.length + l.A.length + 1 := by unfold inR; rw [mixF_len, List.length_replicate]
theorem inR_succ {l : Lin} {i k : Nat} (hk : k < l.C.length + l.A.length + 1) {v : Fr} (hv : v = putE l i (ix (ix l.A i) k)) : (inR l i k).set k v = inR l i (k + 1) := by
  unfold inR
  exact mixF_set (g := fun c => putE l i (ix (ix l.A i) c)) hv (by rw [List.length_replicate]; exact hk)
abbrev BeX := Lin × List Blk
def preBe : BeX → Prop := fun γ => Good γ.1 ∧ CleanH γ.2
def endB (l : Lin) (H : List Blk) : List Blk := putT (layB H.length l l.A.length) (tabB l l.A.length) (H ++ garB l l.A.length)
noncomputable def gBegin : List AV → List Blk → Option (Prop × AV × List Blk) :=
  anyG (fun γ : BeX => [Enc.enc γ.1]) (fun γ => γ.2) preBe (fun γ => .ptr (γ.2.length + 1) 1 29 0 0) (fun γ => endB γ.1 γ.2)
theorem begin_at {l : Lin} {H : List Blk} (g : Good l) (hH : CleanH H) : gBegin [Enc.enc l] H = some (True, .ptr (H.length + 1) 1 29 0 0, endB l H) := by
  refine anyG_at (a := fun γ : BeX => [Enc.enc γ.1]) (h := fun γ : BeX => γ.2) (pre := preBe) (res := fun γ => .ptr (γ.2.length + 1) 1 29 0 0) (h' := fun γ => endB γ.1 γ.2) ?_ (γ := (l, H)) ⟨g, hH⟩
  rintro ⟨l1, H1⟩ ⟨l2, H2⟩ _ _ ea eh
  simp only [List.cons.injEq, and_true] at ea
  have el : l1 = l2 := by
    have := congrArg (Enc.dec : AV → Lin) ea
    simpa [Enc.dec_enc] using this
  simp only at eh
  subst el eh
  exact ⟨rfl, rfl⟩
theorem begin_inv {args : List AV} {H : List Blk} {ob : Prop} {r : AV} {H' : List Blk} (e : gBegin args H = some (ob, r, H')) :
    ∃ l, Good l ∧ CleanH H ∧ args = [Enc.enc l] ∧ r = .ptr (H.length + 1) 1 29 0 0 ∧ H' = endB l H := by
  obtain ⟨⟨l, H1⟩, ⟨h1, h2⟩, e1, e2, e3, e4⟩ := anyG_inv e
  simp only at e2
  subst e2
  exact ⟨l, h1, h2, e1.symm, e3.symm, e4.symm⟩
noncomputable def CBe : Ctx := mkC Tryd.prog G0 [(60, .gen gEmpty), (30, .pure sNeg)]
@[simp] theorem CBe_P : CBe.P = Tryd.prog := rfl
@[simp] theorem CBe_G : CBe.G = G0 := rfl
@[simp] theorem CBe_1 : CBe.S 60 = .gen gEmpty := rfl
@[simp] theorem CBe_2 : CBe.S 30 = .pure sNeg := rfl
theorem mixCBe : CBe.P.follows .mixedOrders = true := mixed
theorem sigCBe : SigOK CBe := sigOK_cons (entryGen (emptyTP) Tryd.func60 rfl (by decide)) (sigOK_cons (entryPure (negP) Tryd.func30 rfl (by decide)) (sigOK_nil _ _))
set_option maxHeartbeats 16000000 in
theorem beginTP : GenOK Tryd.prog G0 36 gBegin := by
  refine gen_of_avcD (C := CBe) sigCBe mixCBe [14, 15, 17, 18, 19] Tryd.func36 rfl rfl rfl (by kernel_rfl) (fun avs H ob r H' hp hob => ?_)
  obtain ⟨l, g, hH, rfl, rfl, rfl⟩ := begin_inv hp
  clear hp hob ob
  refine ⟨(by show 1 ≤ _; decide), ?_⟩
  simp [aev, cav, look, acallPure, abin, abinN, abinP, abinI, abinS, aun, aconv, afield, afieldAddr, aindexAddr, aindex, aslice, alow, ahigh, abuild, abuildGo, cellsOf, splice, fieldTy, alen, apick, amax, amin, aload, headV, aparts, abuildSlice, elParts, abytesStr, astore, amake, aappend, aclear, anew, arith, aresults, aresList, ares, spec0, spec1, spec2, spec3, spec4, eqCells, eqCell, argsρ]
  refine AW.weak (weak_nilcell (H.length + 1) 0 2 1 23 (b := ⟨54, 29, [[.int .i64 l.C.length, .int .i64 l.A.length, .slice 1 true [], .slice 2 true [], .int .i64 0, .int .i64 0, .int .i64 0, .int .i64 0, .int .i64 0, .int .i64 0, .int .i64 0, .int .i64 0, .int .i64 0, .int .i64 0, .int .i64 0, .int .i64 0, .int .i64 0, .int .i64 0, .int .i64 0, .int .i64 0, .int .i64 0, .int .i64 0, .int .i64 0, .int .i64 0, .int .i64 0, .int .i64 0, .int .i64 0, .int .i64 0, .bool false]], true, true⟩) (by simp) rfl rfl (by decide)) ?_
  refine AW.weak (weak_open (H.length + 2) (b := ⟨23, 1, [], true, true⟩) (by simp)) ?_
  refine loop_ruleH (C := CBe) sigCBe mixCBe [14, 15, 17, 18, 19] (fun i : Nat => ⟨[(1, .ptr H.length 1 3 0 0), (3, .ptr (H.length + 1) 1 29 0 0), (19, Enc.enc l.A), (20, .int .i64 l.A.length), (21, .int .i64 i)], putT (layB H.length l i) (tabB l i) (H ++ garB l i)⟩) (fun i => i ≤ l.A.length) (fun i => l.A.length - i) (by kernel_rfl) ⟨0, by simp, weak_eq (by simp) ?e0⟩ (fun i hi => ?_)
  case e0 =>
    rw [← begin_zero]
    simp [CB, tC, tabB, layB, basK, cC, List.replicate]
  have hL := layB_lens g hH hi
  have hS := tabB_shape g H.length hi
  by_cases hil : i < l.A.length
  · have cb := fun t X => begin_cb (l := l) (H := H) i t X
    have hsL := layB_succ g H hi
    have hsG : H ++ garB l (i + 1) = (H ++ garB l i) ++ (R2B [] :: FBs (ix l.A i)) := by rw [List.append_assoc]; rfl
    have hsr : (tabB l (i + 1)).rows = (tabB l i).rows ++ [rowB l i] := by unfold tabB; rw [List.range_succ, List.map_append]; rfl
    have hsb : (tabB l (i + 1)).basis = (tabB l i).basis.set i (if keepB l i then (l.C.length : Int) + l.A.length + i else (l.C.length : Int) + i) := rfl
    have htn : (tabB l i).n = l.C.length := rfl
    have htm : (tabB l i).m = l.A.length := rfl
    have htw : (tabB l i).w = l.C.length + l.A.length := rfl
    have hLp : (layB H.length l i).p = H.length + 1 := rfl
    have hLc : (layB H.length l i).c = none := rfl
    have hlr : (layB H.length l i).r.length = i := by unfold layB; simp
    obtain ⟨K, hK⟩ : ∃ K, H ++ garB l i = K := ⟨_, rfl⟩
    obtain ⟨L, hLL⟩ : ∃ L, layB H.length l i = L := ⟨_, rfl⟩
    obtain ⟨t, ht⟩ : ∃ t, tabB l i = t := ⟨_, rfl⟩
    rw [hLL, hK] at hL hsL
    rw [hLL, ht] at hS
    rw [hK] at hsG
    rw [ht] at hsr hsb htn htm htw
    rw [hLL] at hLp hLc hlr
    simp only [hLL, hK] at cb
    rw [hK, hLL, ht, ← hLp]
    have gd := get0 (t := t) hL
    have n1 := tC_len (L := L) hS.bas
    have hem := empty_at hL hS
    have hrow : (ix l.A i).length = l.C.length := g.row _ (ix_mem hil)
    have hiB : i < l.B.length := by rw [g.b]; exact hil
    have hn12 := g.n12
    have hm24 := g.m24
    have i2 : I64 ((i : Int) + 1) := by unfold I64; omega
    have hil' : (i : Int) < l.A.length := by omega
    have cb0 := cb t []
    rw [List.append_nil] at cb0
    simp [aev, cav, look, acallPure, abin, abinN, abinP, abinI, abinS, aun, aconv, afield, afieldAddr, aindexAddr, aindex, aslice, alow, ahigh, abuild, abuildGo, cellsOf, splice, fieldTy, alen, apick, amax, amin, aload, headV, aparts, abuildSlice, elParts, abytesStr, astore, amake, aappend, aclear, anew, arith, aresults, aresList, ares, spec0, spec1, spec2, spec3, spec4, eqCells, eqCell, put_len, hem, hil, cb, CB, hiB, rowAt_enc]
    obtain ⟨row, hrw⟩ : ∃ row, ix l.A i = row := ⟨_, rfl⟩
    have hin := fun k (hk : k < l.C.length + l.A.length + 1) v hv => inR_succ (l := l) (i := i) hk (v := v) hv
    have hi0 : inR l i 0 = rowE t := by unfold inR rowE; rw [mixF_zero, htw]
    have hke : ∀ a, putE l i a = if keepB l i then a else negF a := fun a => rfl
    have hkd : decide (0 < (ix l.B i).N) = keepB l i := rfl
    rw [hrw] at hrow hin hsG
    rw [hrw]
    refine loop_ruleH (C := CBe) sigCBe mixCBe [14, 15, 17, 18, 19] (fun k : Nat => ⟨[(1, .ptr H.length 1 3 0 0), (3, .ptr L.p 1 29 0 0), (4, .int .i64 i), (6, .own K.length (t.w + 1)), (7, .bool (keepB l i)), (19, Enc.enc l.A), (20, .int .i64 l.A.length), (21, .int .i64 i), (35, Enc.enc row), (36, .int .i64 row.length), (37, .int .i64 k)], putT L t K ++ (R2B (inR l i k) :: FBs (row.take k))⟩) (fun k => k ≤ l.C.length) (fun k => l.C.length - k) (by kernel_rfl) ⟨0, by simp, weak_eq (by simp [hkd]) (by rw [hi0]; rfl)⟩ (fun k hk => ?_)
    have gl0 := gd.l0
    have gl := gd.l
    have gs0 := gd.sl0
    have gs := gd.sl
    have hfl : (FBs (row.take k)).length = k := by simp [FBs]; omega
    have hlen := inR_len l i k
    rw [← htw] at hlen
    by_cases hkl : k < l.C.length
    · have hkr : k < row.length := by omega
      have hkw : k < t.w + 1 := by omega
      have hkw' : k < l.C.length + l.A.length + 1 := by omega
      have i3 : I64 ((k : Int) + 1) := by unfold I64; omega
      have hft : FBs (row.take (k + 1)) = FBs (row.take k) ++ [FB (ix row k)] := by
        unfold FBs
        rw [List.take_succ_eq_append_getElem hkr, List.map_append, ix_lt hkr]
        rfl
      cases hkp : keepB l i with
      | true =>
        have hstep := hin k hkw' (ix row k) (by rw [hke, hkp]; rfl)
        simp [aev, cav, look, acallPure, abin, abinN, abinP, abinI, abinS, aun, aconv, afield, afieldAddr, aindexAddr, aindex, aslice, alow, ahigh, abuild, abuildGo, cellsOf, splice, fieldTy, alen, apick, amax, amin, aload, headV, aparts, abuildSlice, elParts, abytesStr, astore, amake, aappend, aclear, anew, arith, aresults, aresList, ares, spec0, spec1, spec2, spec3, spec4, eqCells, eqCell, R2B, FB, put_len, hkr, rowAt_enc, gl0, gl, gs0, gs, hfl, hlen, hkw, i3]
        exact ⟨by omega, k + 1, by omega, by omega, weak_eq (by simp) (by simp only [hft, FB, ← hstep, R2B])⟩
      | false =>
        have hstep := hin k hkw' (negF (ix row k)) (by rw [hke, hkp]; rfl)
        simp [aev, cav, look, acallPure, abin, abinN, abinP, abinI, abinS, aun, aconv, afield, afieldAddr, aindexAddr, aindex, aslice, alow, ahigh, abuild, abuildGo, cellsOf, splice, fieldTy, alen, apick, amax, amin, aload, headV, aparts, abuildSlice, elParts, abytesStr, astore, amake, aappend, aclear, anew, arith, aresults, aresList, ares, spec0, spec1, spec2, spec3, spec4, eqCells, eqCell, R2B, FB, put_len, hkr, rowAt_enc, gl0, gl, gs0, gs, hfl, hlen, hkw, i3, sNeg]
        exact ⟨by omega, k + 1, by omega, by omega, weak_eq (by simp) (by simp only [hft, FB, ← hstep, R2B])⟩
    · have hkn : k = row.length := by omega
      subst hkn
      rw [List.take_length]
      rw [List.take_length] at hfl
      obtain ⟨q, hq⟩ : ∃ q, q = t.n + i := ⟨_, rfl⟩
      obtain ⟨q2, hq2⟩ : ∃ q, q = t.w + i := ⟨_, rfl⟩
      have wq : w64 ((t.n : Int) + (i : Int)) = (q : Int) := by rw [w64_in (by unfold I64; omega), hq]; omega
      have wq2 : w64 ((t.w : Int) + (i : Int)) = (q2 : Int) := by rw [w64_in (by unfold I64; omega), hq2]; omega
      have hww := shape_w0 hS
      have hqw : q < t.w + 1 := by omega
      have htw1 : t.w < t.w + 1 := by omega
      have h24 : i < 24 := by omega
      obtain ⟨R, hR⟩ : ∃ R, inR l i row.length = R := ⟨_, rfl⟩
      have hRB : rowB l i = if keepB l i then ((((R.set q F11).set t.w (negF (ix l.B i))).set q ⟨-1, 1⟩).set t.w (ix l.B i)) else ((R.set q F11).set t.w (negF (ix l.B i))) := by
        rw [← hR, hq, htw, htn, hrow]
        rfl
      rw [hR] at hlen ⊢
      simp [aev, cav, look, acallPure, abin, abinN, abinP, abinI, abinS, aun, aconv, afield, afieldAddr, aindexAddr, aindex, aslice, alow, ahigh, abuild, abuildGo, cellsOf, splice, fieldTy, alen, apick, amax, amin, aload, headV, aparts, abuildSlice, elParts, abytesStr, astore, amake, aappend, aclear, anew, arith, aresults, aresList, ares, spec0, spec1, spec2, spec3, spec4, eqCells, eqCell, R2B, put_len]
      refine AW_regionF sigCBe mixCBe [.pure, .pure, .pure, .pure, .read, .pure, .pure, .pure, .pure, .pure, .pure, .read, .pure, .pure, .pure, .read, .pure, .pure, .pure, .read, .pure, .pure, .read, .read, .pure, .eff, .pure, .eff] [[],[],[1],[1,2],[2,1,3],[],[5,3,1,2,4],[],[],[8],[8,9],[9,8,10],[],[12],[12,13],[13,12,14],[14,12,13,15,10,8,9,11],[],[],[18],[],[20,18,19],[19,18,20,21],[21,20,18,19,22],[23,21,20,18,19,22,17,14,12,13,15,10,8,9,11,4,2,1,3,5,6,0],[0,6,5,3,1,2,4,11,9,8,10,15,13,12,14,17,22,19,18,20,21,23,24],[25,24,23,22,21,20,19,18,17,6,5,4,3,2,1,0,11,9,8,10,15,13,12,14,16,7],[7,16,14,12,13,15,10,8,9,11,0,1,2,3,4,5,6,17,18,19,20,21,22,23,24,25,26]] (by kernel_rfl) (by kernel_rfl) (by kernel_rfl) (by kernel_rfl) ?_
      simp [aev, cav, look, acallPure, abin, abinN, abinP, abinI, abinS, aun, aconv, afield, afieldAddr, aindexAddr, aindex, aslice, alow, ahigh, abuild, abuildGo, cellsOf, splice, fieldTy, alen, apick, amax, amin, aload, headV, aparts, abuildSlice, elParts, abytesStr, astore, amake, aappend, aclear, anew, arith, aresults, aresList, ares, spec0, spec1, spec2, spec3, spec4, eqCells, eqCell, R2B, put_len, gl0, gs0, gd.p, n1, tC_e0, tC_e1, hww, wq, hqw, htw1, hlen, cb, CB, hiB, rowAt_enc, sNeg]
      refine ⟨by omega, by omega, ?_⟩
      obtain ⟨R1, hR1⟩ : ∃ R1, (R.set q (⟨1, 1⟩ : Fr)).set t.w (negF (ix l.B i)) = R1 := ⟨_, rfl⟩
      have hl1 : R1.length = t.w + 1 := by rw [← hR1, List.length_set, List.length_set, hlen]
      rw [show F11 = (⟨1, 1⟩ : Fr) from rfl, hR1] at hRB
      rw [hR1]
      have hsb1 := tC_sb (L := L) hS.bas h24 (q : Int)
      have sp1 := fun X => gd.sp X { t with basis := t.basis.set i (q : Int) } rfl rfl rfl
      have hb1 : (t.basis.set i (q : Int)).length = 24 := by rw [List.length_set]; exact hS.bas
      have h1w : ({ t with basis := t.basis.set i (q : Int) } : Tab).w = t.w := rfl
      have h1n : ({ t with basis := t.basis.set i (q : Int) } : Tab).n = t.n := rfl
      have h1m : ({ t with basis := t.basis.set i (q : Int) } : Tab).m = t.m := rfl
      have h1r : ({ t with basis := t.basis.set i (q : Int) } : Tab).rows = t.rows := rfl
      have h1b : ({ t with basis := t.basis.set i (q : Int) } : Tab).basis = t.basis.set i (q : Int) := rfl
      obtain ⟨t1, ht1⟩ : ∃ t1, ({ t with basis := t.basis.set i (q : Int) } : Tab) = t1 := ⟨_, rfl⟩
      rw [ht1] at h1w h1n h1m h1r h1b
      rw [ht1] at hsb1
      simp only [ht1] at sp1
      have g1 := get0 (t := t1) hL
      have n2 := tC_len (L := L) (t := t1) (by rw [h1b]; exact hb1)
      refine AW_regionF sigCBe mixCBe [.pure, .pure, .pure, .pure, .pure, .read, .pure, .pure, .pure, .pure, .pure, .eff] [[],[],[],[2],[2,3],[3,2,4],[],[6,4,2,3,5],[0],[0,8],[7,6,5,4,3,2,1,8,0,9],[9,0,8,1,2,3,4,5,6,7,10]] (by kernel_rfl) (by kernel_rfl) (by kernel_rfl) (by kernel_rfl) ?_
      cases hkp : keepB l i with
      | true =>
        simp [aev, cav, look, acallPure, abin, abinN, abinP, abinI, abinS, aun, aconv, afield, afieldAddr, aindexAddr, aindex, aslice, alow, ahigh, abuild, abuildGo, cellsOf, splice, fieldTy, alen, apick, amax, amin, aload, headV, aparts, abuildSlice, elParts, abytesStr, astore, amake, aappend, aclear, anew, arith, aresults, aresList, ares, spec0, spec1, spec2, spec3, spec4, eqCells, eqCell, R2B, put_len, gl0, gs0, gd.p, n1, tC_e0, tC_e1, hww, wq, h24, hsb1, sp1]
        refine ⟨by omega, by omega, ?_⟩
        have k0 := g1.l0
        have ks0 := g1.sl0
        have hww1 : w64 ((t1.n : Int) + t1.m) = t.w := by rw [h1n, h1m]; exact hww
        have wq1 : w64 ((t1.n : Int) + (i : Int)) = (q : Int) := by rw [h1n]; exact wq
        refine AW_regionF sigCBe mixCBe [.pure, .pure, .pure, .pure, .read, .pure, .pure, .pure, .pure, .pure, .pure, .read, .pure, .pure, .pure, .read, .pure, .pure, .pure, .read, .pure, .pure, .read, .pure, .eff, .pure, .eff] [[],[],[1],[1,2],[2,1,3],[],[5,3,1,2,4],[],[],[8],[8,9],[9,8,10],[],[12],[12,13],[13,12,14],[14,12,13,15,10,8,9,11],[],[],[18],[],[20,18,19],[19,18,20,21],[21,20,18,19,22,17,14,12,13,15,10,8,9,11,4,2,1,3,5,6,0],[0,6,5,3,1,2,4,11,9,8,10,15,13,12,14,17,22,19,18,20,21,23],[24,23,22,21,20,19,18,17,6,5,4,3,2,1,0,11,9,8,10,15,13,12,14,16,7],[7,16,14,12,13,15,10,8,9,11,0,1,2,3,4,5,6,17,18,19,20,21,22,23,24,25]] (by kernel_rfl) (by kernel_rfl) (by kernel_rfl) (by kernel_rfl) ?_
        simp [aev, cav, look, acallPure, abin, abinN, abinP, abinI, abinS, aun, aconv, afield, afieldAddr, aindexAddr, aindex, aslice, alow, ahigh, abuild, abuildGo, cellsOf, splice, fieldTy, alen, apick, amax, amin, aload, headV, aparts, abuildSlice, elParts, abytesStr, astore, amake, aappend, aclear, anew, arith, aresults, aresList, ares, spec0, spec1, spec2, spec3, spec4, eqCells, eqCell, R2B, put_len, k0, ks0, g1.p, n2, tC_e0, tC_e1, hww1, wq1, hqw, htw1, hl1, cb, CB, hiB, rowAt_enc]
        refine ⟨by omega, by omega, ?_⟩
        obtain ⟨R3, hR3⟩ : ∃ R3, (R1.set q (⟨-1, 1⟩ : Fr)).set t.w (ix l.B i) = R3 := ⟨_, rfl⟩
        rw [hR3] at hRB
        rw [hR3]
        have hbs1 : t1.basis.length = 24 := by rw [h1b]; exact hb1
        have hsb3 := tC_sb (L := L) hbs1 h24 (q2 : Int)
        have sp3 := fun X => g1.sp X { t1 with basis := t1.basis.set i (q2 : Int) } rfl rfl rfl
        have h3w : ({ t1 with basis := t1.basis.set i (q2 : Int) } : Tab).w = t.w := h1w
        have h3n : ({ t1 with basis := t1.basis.set i (q2 : Int) } : Tab).n = t.n := h1n
        have h3m : ({ t1 with basis := t1.basis.set i (q2 : Int) } : Tab).m = t.m := h1m
        have h3r : ({ t1 with basis := t1.basis.set i (q2 : Int) } : Tab).rows = t.rows := h1r
        have h3b : ({ t1 with basis := t1.basis.set i (q2 : Int) } : Tab).basis = t.basis.set i (q2 : Int) := by show t1.basis.set i _ = _; rw [h1b, List.set_set]
        obtain ⟨t3, ht3⟩ : ∃ t3, ({ t1 with basis := t1.basis.set i (q2 : Int) } : Tab) = t3 := ⟨_, rfl⟩
        rw [ht3] at h3w h3n h3m h3r h3b
        rw [ht3] at hsb3
        simp only [ht3] at sp3
        have g3 := get0 (t := t3) hL
        have n3 := tC_len (L := L) (t := t3) (by rw [h3b, List.length_set]; exact hS.bas)
        refine AW_regionF sigCBe mixCBe [.pure, .pure, .pure, .pure, .pure, .read, .pure, .pure, .pure, .read, .pure, .pure, .pure, .pure, .pure, .pure, .eff] [[],[],[],[2],[2,3],[3,2,4],[],[6],[6,7],[7,6,8],[8,6,7,9,4,2,3,5],[],[11,5,3,2,4,9,7,6,8,10],[0],[0,13],[12,11,10,9,8,7,6,5,4,3,2,1,13,0,14],[14,0,13,1,2,3,4,5,6,7,8,9,10,11,12,15]] (by kernel_rfl) (by kernel_rfl) (by kernel_rfl) (by kernel_rfl) ?_
        simp [aev, cav, look, acallPure, abin, abinN, abinP, abinI, abinS, aun, aconv, afield, afieldAddr, aindexAddr, aindex, aslice, alow, ahigh, abuild, abuildGo, cellsOf, splice, fieldTy, alen, apick, amax, amin, aload, headV, aparts, abuildSlice, elParts, abytesStr, astore, amake, aappend, aclear, anew, arith, aresults, aresList, ares, spec0, spec1, spec2, spec3, spec4, eqCells, eqCell, R2B, put_len, k0, ks0, g1.p, n2, tC_e0, tC_e1, hww1, wq2, h24, hsb3, sp3]
        refine ⟨by omega, by omega, ?_⟩
        refine AW_regionO sigCBe (by kernel_rfl) ?_
        have gpq : ∀ X b, ((putT L t3 K ++ X).set L.q b)[L.p]? = some ⟨54, 29, [tC L t3], true, false⟩ := fun X b => by rw [List.getElem?_set_ne hL.pq.symm]; exact g3.p X
        have h2b : (tabB l (i + 1)).basis = t3.basis := by rw [hsb, hkp, h3b, hq2, htw]; rfl
        have hsq := tC_sq (L := L) (t := t3) (t2 := tabB l (i + 1)) (N := K.length) (k := i + 1) (by rw [h3n, htn]; rfl) (by rw [h3m, htm]; rfl) (by rw [← ht3, ← ht1, ← ht]; rfl) h2b (by rw [← ht3, ← ht1, ← ht]; rfl) (by rw [hlr])
        have hRB : rowB l i = R3 := by rw [hRB, hkp]; rfl
        have hadd := add_row (t := t3) (t' := tabB l (i + 1)) (K := K) (x := R3) (X := FBs row ++ [⟨23, 1, [[.own K.length (t.w + 1)]], true, false⟩]) hL hLc (by rw [h3r, hS.m]) (by rw [hsr, hRB, h3r]) (by rw [h3w, htw]; rfl)
        rw [h3w] at hadd
        simp [aev, cav, look, acallPure, abin, abinN, abinP, abinI, abinS, aun, aconv, afield, afieldAddr, aindexAddr, aindex, aslice, alow, ahigh, abuild, abuildGo, cellsOf, splice, fieldTy, alen, apick, amax, amin, aload, headV, aparts, abuildSlice, elParts, abytesStr, astore, amake, aappend, aclear, anew, arith, aresults, aresList, ares, spec0, spec1, spec2, spec3, spec4, eqCells, eqCell, R2B, put_len, abuildOwn, g3.p, g3.q, n3, tC_e2, hlr, g3.l, g3.sl, i2, gpq, h3w, hsq]
        have hL' := layB_lens g hH (show i + 1 ≤ l.A.length by omega)
        have hT := hadd.trans (show _ = putT (layB H.length l (i + 1)) (tabB l (i + 1)) (H ++ garB l (i + 1)) ++ [⟨23, 1, [[.own K.length (t.w + 1)]], true, false⟩] by rw [← put_app hL', hsL, hsG, List.append_assoc]; rfl)
        have hPl : (putT (layB H.length l (i + 1)) (tabB l (i + 1)) (H ++ garB l (i + 1))).length = H.length + (garB l (i + 1)).length := by rw [put_len, List.length_append]
        have hgl := garB_len g (show i + 1 ≤ l.A.length by omega)
        exact ⟨by omega, i + 1, by omega, by omega, keep_tab hT (by simp [hLp]) (by omega) (by simp [AV.cleanF, AV.clean2, AV.clean1, hPl]; omega) (by rw [put_len]; exact put_clean hL' _)⟩
      | false =>
        simp [aev, cav, look, acallPure, abin, abinN, abinP, abinI, abinS, aun, aconv, afield, afieldAddr, aindexAddr, aindex, aslice, alow, ahigh, abuild, abuildGo, cellsOf, splice, fieldTy, alen, apick, amax, amin, aload, headV, aparts, abuildSlice, elParts, abytesStr, astore, amake, aappend, aclear, anew, arith, aresults, aresList, ares, spec0, spec1, spec2, spec3, spec4, eqCells, eqCell, R2B, put_len, gl0, gs0, gd.p, n1, tC_e0, tC_e1, hww, wq, h24, hsb1, sp1]
        refine ⟨by omega, by omega, ?_⟩
        refine AW_regionO sigCBe (by kernel_rfl) ?_
        have gpq : ∀ X b, ((putT L t1 K ++ X).set L.q b)[L.p]? = some ⟨54, 29, [tC L t1], true, false⟩ := fun X b => by rw [List.getElem?_set_ne hL.pq.symm]; exact g1.p X
        have h2b : (tabB l (i + 1)).basis = t1.basis := by rw [hsb, hkp, h1b, hq, htn]; rfl
        have hsq := tC_sq (L := L) (t := t1) (t2 := tabB l (i + 1)) (N := K.length) (k := i + 1) (by rw [h1n, htn]; rfl) (by rw [h1m, htm]; rfl) (by rw [← ht1, ← ht]; rfl) h2b (by rw [← ht1, ← ht]; rfl) (by rw [hlr])
        have hRB : rowB l i = R1 := by rw [hRB, hkp]; rfl
        have hadd := add_row (t := t1) (t' := tabB l (i + 1)) (K := K) (x := R1) (X := FBs row ++ [⟨23, 1, [[.own K.length (t.w + 1)]], true, false⟩]) hL hLc (by rw [h1r, hS.m]) (by rw [hsr, hRB, h1r]) (by rw [h1w, htw]; rfl)
        rw [h1w] at hadd
        simp [aev, cav, look, acallPure, abin, abinN, abinP, abinI, abinS, aun, aconv, afield, afieldAddr, aindexAddr, aindex, aslice, alow, ahigh, abuild, abuildGo, cellsOf, splice, fieldTy, alen, apick, amax, amin, aload, headV, aparts, abuildSlice, elParts, abytesStr, astore, amake, aappend, aclear, anew, arith, aresults, aresList, ares, spec0, spec1, spec2, spec3, spec4, eqCells, eqCell, R2B, put_len, abuildOwn, g1.p, g1.q, n2, tC_e2, hlr, g1.l, g1.sl, i2, gpq, h1w, hsq]
        have hL' := layB_lens g hH (show i + 1 ≤ l.A.length by omega)
        have hT := hadd.trans (show _ = putT (layB H.length l (i + 1)) (tabB l (i + 1)) (H ++ garB l (i + 1)) ++ [⟨23, 1, [[.own K.length (t.w + 1)]], true, false⟩] by rw [← put_app hL', hsL, hsG, List.append_assoc]; rfl)
        have hPl : (putT (layB H.length l (i + 1)) (tabB l (i + 1)) (H ++ garB l (i + 1))).length = H.length + (garB l (i + 1)).length := by rw [put_len, List.length_append]
        have hgl := garB_len g (show i + 1 ≤ l.A.length by omega)
        exact ⟨by omega, i + 1, by omega, by omega, keep_tab hT (by simp [hLp]) (by omega) (by simp [AV.cleanF, AV.clean2, AV.clean1, hPl]; omega) (by rw [put_len]; exact put_clean hL' _)⟩
  · have hie : i = l.A.length := by omega
    subst hie
    have hgl := garB_len g hi
    have hPl : (putT (layB H.length l l.A.length) (tabB l l.A.length) (H ++ garB l l.A.length)).length = (H ++ garB l l.A.length).length := put_len _ _ _
    simp [aev, cav, look, acallPure, abin, abinN, abinP, abinI, abinS, aun, aconv, afield, afieldAddr, aindexAddr, aindex, aslice, alow, ahigh, abuild, abuildGo, cellsOf, splice, fieldTy, alen, apick, amax, amin, aload, headV, aparts, abuildSlice, elParts, abytesStr, astore, amake, aappend, aclear, anew, arith, aresults, aresList, ares, spec0, spec1, spec2, spec3, spec4, eqCells, eqCell, put_len]
    exact ⟨(H ++ garB l l.A.length).length, by rw [List.length_append]; omega, by rw [← hPl, List.take_length]; rfl, by simp [AV.cleanF, AV.clean2, AV.clean1]; omega, put_clean hL _⟩
end Go.Proofs.YtifbaegnkodneaaDoor

/-
  layer 30: what Solve computes, in plain words.
-/
namespace Go.Proofs.YtifbaegnkodneaaDoor
open Go.RowKit
set_option linter.unusedSimpArgs false
set_option linter.unusedVariables false
set_option maxRecDepth 100000

def begF (l : Lin) : Tab := tabB l l.A.length
def xK (t : Tab) : Nat → List Fr
  | 0 => List.replicate t.n F01
  | k + 1 => if ix t.basis k < t.n then (xK t k).set (ix t.basis k).toNat (ix (ix t.rows k) t.w) else xK t k
def xF (t : Tab) : List Fr := xK t t.m
noncomputable def solveF (l : Lin) : List Fr × Fr × Int :=
  if checkF l ≠ 0 then ([], F00, checkF l)
  else if (firstF (begF l)).2.over = true then ([], F00, 24)
  else if (firstF (begF l)).1 = false then ([], F00, 23)
  else if (secondF (firstF (begF l)).2 l.C).2.over = true then ([], F00, 24)
  else if (secondF (firstF (begF l)).2 l.C).1 = false then ([], F00, 19)
  else (xF (secondF (firstF (begF l)).2 l.C).2, negF (ix (secondF (firstF (begF l)).2 l.C).2.cost (secondF (firstF (begF l)).2 l.C).2.w), 0)
/-- Both phases come to an end. -/
structure HaltsL (l : Lin) : Prop where
  f : HaltsF (begF l)
  s : (firstF (begF l)).2.over = false → (firstF (begF l)).1 = true → HaltsS (firstF (begF l)).2 l.C
structure PreSolve (l : Lin) : Prop where
  small : SmallL l
  halts : checkF l = 0 → HaltsL l
theorem goodL_of {l : Lin} (h : checkF l = 0) : Good l := by
  obtain ⟨k1, k2, k3, k4, k5, k6, k7⟩ := check_zero h
  exact ⟨by cases hC : l.C with | nil => exact absurd hC k3 | cons a r => simp, k1, k2, k4, fun r hr => (k7 r hr).1⟩
section
variable {L : Lay} {t : Tab} {K : List Blk}
theorem firstF_shape (hS : Shape L t) (hL : L.c = none) (hh : HaltsF t) : ((firstF t).2.cost = [] ∧ Shape L (firstF t).2) ∨ ((firstF t).2.cost ≠ [] ∧ Shape (newC L K) (firstF t).2) := by
  have h1 := f1K_shape (K := K) hS (Nat.le_refl t.m)
  have h2 := f1K_same t t.m
  have ne : ∀ {u : Tab} {n : Nat}, u.cost.length = n + 1 → u.cost ≠ [] := fun h h' => by rw [h'] at h; simp at h
  unfold firstF
  split
  · exact .inr ⟨ne h2.2.2.1, h1⟩
  · rename_i hn
    obtain ⟨h3, h4⟩ := phaseF_shape h1 (hh hn)
    have h5 : (phaseF (f1T t)).2.cost.length = t.w + 1 := h4.cost.trans h2.2.2.1
    split
    · exact .inr ⟨ne h5, h3⟩
    · split
      · exact .inr ⟨ne h5, h3⟩
      · have hS3 : Shape L { (phaseF (f1T t)).2 with cost := [] } := ⟨h3.m, h3.r, h3.n1, h3.n12, h3.m24, h3.row, .inl ⟨hL, rfl⟩, h3.bas, h3.b64⟩
        have hm3 : (phaseF (f1T t)).2.m = t.m := h4.m.trans h2.2.1
        obtain ⟨h6, h7⟩ := repK_shape hS3 (k := t.m) (by show t.m ≤ (phaseF (f1T t)).2.m; omega)
        exact .inl ⟨List.length_eq_zero_iff.1 (by rw [h7.cost]; rfl), h6⟩
/-- How a tableau lies after a call: the struct where it was, the caller's other blocks as they were. -/
structure Lies (L : Lay) (K : List Blk) (H : List Blk) (u : Tab) (L1 : Lay) (K1 : List Blk) : Prop where
  h : H = putT L1 u K1
  l : Lens L1 K1
  s : Shape L1 u
  p : L1.p = L.p
  q : L1.q = L.q
  r : L1.r = L.r
  c : ∀ k, k < K.length → L.c ≠ some k → L1.c ≠ some k
  n : K.length ≤ K1.length
  k : ∀ k, k < K.length → L.c ≠ some k → K1[k]? = K[k]?
theorem newC_lies (hL : Lens L K) {u : Tab} (hS : Shape (newC L K) u) : Lies L K (outN L t K u) u (newC L K) (baseN L t K) where
  h := outN_eq hL
  l := newC_lens hL
  s := hS
  p := rfl
  q := rfl
  r := rfl
  c k hk _ := by intro h; injection h with h; omega
  n := by rw [baseN_len]; omega
  k k hk hc := by
    unfold baseN
    rw [List.getElem?_append_left (by rw [setC_len]; exact hk), setC_out hc]
theorem first_lies (hL : Lens L K) (hS : Shape L t) (hc : t.cost = []) (hh : HaltsF t) : ∃ L1 K1, Lies L K (outFi L t K) (firstF t).2 L1 K1 := by
  have hLc : L.c = none := hS.cost.elim (fun h => h.1) (fun h => by rw [hc] at h; have := h.2; simp at this)
  unfold outFi
  rcases firstF_shape (K := K) hS hLc hh with ⟨h1, h2⟩ | ⟨h1, h2⟩
  · rw [if_pos h1]
    exact ⟨L, K, rfl, hL, h2, rfl, rfl, rfl, fun _ _ h => h, Nat.le_refl _, fun _ _ _ => rfl⟩
  · rw [if_neg h1]
    exact ⟨_, _, newC_lies hL h2⟩
theorem second_lies (hL : Lens L K) (hS : Shape L t) {cs : List Fr} (hc : cs.length = t.n) (hh : HaltsS t cs) : Lies L K (outN L t K (secondF t cs).2) (secondF t cs).2 (newC L K) (baseN L t K) :=
  newC_lies hL (secondF_same hS hc hh).1
/-- A block of the caller's is found again. -/
theorem Lies.out {H : List Blk} {u : Tab} {L1 : Lay} {K1 : List Blk} (h : Lies L K H u L1 K1) {k : Nat} (hk : k < K.length) (hp : k ≠ L.p) (hq : k ≠ L.q) (hr : k ∉ L.r) (hc : L.c ≠ some k) (X : List Blk) : (putT L1 u K1 ++ X)[k]? = K[k]? := by
  rw [List.getElem?_append_left (by rw [put_len]; have := h.n; omega), put_out (by rw [h.p]; exact hp) (by rw [h.q]; exact hq) (h.c k hk hc) (by rw [h.r]; exact hr), h.k k hk hc]
end
end Go.Proofs.YtifbaegnkodneaaDoor

/-
  layer 30: Solve, the program's side.
-/
namespace Go.Proofs.YtifbaegnkodneaaDoor
open Go.RowKit
set_option linter.unusedSimpArgs false
set_option linter.unusedVariables false
set_option maxRecDepth 100000

theorem mixF_all (n : Nat) : mixF n (fun _ => F01) (List.replicate n F00) = List.replicate n F01 := by
  refine List.ext_getElem (by rw [mixF_len]; simp) fun j h1 h2 => ?_
  rw [mixF_len, List.length_replicate] at h1
  have := mixF_ix (k := n) (g := fun _ => F01) (row := List.replicate n F00) (j := j) (by simpa using h1)
  rw [ix_lt (by rw [mixF_len]; simpa using h1), if_pos h1] at this
  rw [this]
  exact (List.getElem_replicate (a := F01) (n := n) (h := h2)).symm
theorem xK_len (t : Tab) : ∀ k, (xK t k).length = t.n
  | 0 => List.length_replicate
  | k + 1 => by
    unfold xK
    split
    · rw [List.length_set]; exact xK_len t k
    · exact xK_len t k
noncomputable def sSolve : List AV → Option (Prop × AV) := spec1 PreSolve (fun l => .tup [Enc.enc (solveF l).1, Enc.enc (solveF l).2.1, .int .i64 (solveF l).2.2])
noncomputable def CSo : Ctx := mkC Tryd.prog G0 [(15, .pure sCheckF), (36, .gen gBegin), (37, .gen gFirst), (38, .gen gSecond), (39, .pure (spec0 (Enc.enc F01))), (30, .pure sNeg)]
@[simp] theorem CSo_P : CSo.P = Tryd.prog := rfl
@[simp] theorem CSo_G : CSo.G = G0 := rfl
@[simp] theorem CSo_1 : CSo.S 15 = .pure sCheckF := rfl
@[simp] theorem CSo_2 : CSo.S 36 = .gen gBegin := rfl
@[simp] theorem CSo_3 : CSo.S 37 = .gen gFirst := rfl
@[simp] theorem CSo_4 : CSo.S 38 = .gen gSecond := rfl
@[simp] theorem CSo_5 : CSo.S 39 = .pure (spec0 (Enc.enc F01)) := rfl
@[simp] theorem CSo_6 : CSo.S 30 = .pure sNeg := rfl
theorem mixCSo : CSo.P.follows .mixedOrders = true := mixed
theorem sigCSo : SigOK CSo := sigOK_cons (entryPure (checkP) Tryd.func15 rfl (by decide)) (sigOK_cons (entryGen (beginTP) Tryd.func36 rfl (by decide)) (sigOK_cons (entryGen (firstTP) Tryd.func37 rfl (by decide)) (sigOK_cons (entryGen (secondTP) Tryd.func38 rfl (by decide)) (sigOK_cons (entryPure (zeroP) Tryd.func39 rfl (by decide)) (sigOK_cons (entryPure (negP) Tryd.func30 rfl (by decide)) (sigOK_nil _ _))))))
set_option maxHeartbeats 16000000 in
theorem solveP : PureOK Tryd.prog G0 20 sSolve := by
  refine pureH1 (C := CSo) sigCSo mixCSo Tryd.func20 rfl rfl rfl [26, 28] (by kernel_rfl) (by decide) (fun l hp => ?_)
  have hs := hp.small
  by_cases h1 : checkF l = 0
  case neg =>
    have e : solveF l = ([], F00, checkF l) := if_pos h1
    simp [aev, cav, look, acallPure, abin, abinN, abinP, abinI, abinS, aun, aconv, afield, afieldAddr, aindexAddr, aindex, aslice, alow, ahigh, abuild, abuildGo, cellsOf, splice, fieldTy, alen, apick, amax, amin, aload, headV, aparts, abuildSlice, elParts, abytesStr, astore, amake, aappend, aclear, anew, arith, aresults, aresList, ares, spec0, spec1, spec2, spec3, spec4, eqCells, eqCell, sCheckF, hs, h1, e, F00]
  obtain ⟨hf, hh2⟩ := hp.halts h1
  have g := goodL_of h1
  have hCH : CleanH [CB l, FB F00] := fun b hb => by
    simp only [List.mem_cons, List.not_mem_nil, or_false] at hb
    rcases hb with rfl | rfl <;> exact .inl rfl
  have hbeg := begin_at g hCH
  have hL0 := layB_lens g hCH (Nat.le_refl l.A.length)
  have hS0 := (tabB_shape g 2 (Nat.le_refl l.A.length)).full (by simp [layB, tabB])
  have hT0 : tabB l l.A.length = begF l := rfl
  unfold endB at hbeg
  simp only [List.length_cons, List.length_nil, Nat.zero_add] at hbeg hL0
  rw [hT0] at hbeg hS0
  have hp0 : (layB 2 l l.A.length).p = 3 := rfl
  have hq0 : (layB 2 l l.A.length).q = 4 := rfl
  have hc0 : (layB 2 l l.A.length).c = none := rfl
  have hr0 : ∀ x ∈ (layB 2 l l.A.length).r, 5 ≤ x := fun x hx => by
    obtain ⟨j, _, rfl⟩ := List.mem_map.1 hx
    omega
  have hk0 : ([CB l, FB F00] ++ garB l l.A.length)[0]? = some (CB l) := rfl
  have hk1 : ([CB l, FB F00] ++ garB l l.A.length)[1]? = some (FB F00) := rfl
  have hkl : 2 ≤ ([CB l, FB F00] ++ garB l l.A.length).length := by simp
  obtain ⟨K, hK⟩ : ∃ K, [CB l, FB F00] ++ garB l l.A.length = K := ⟨_, rfl⟩
  obtain ⟨L, hL⟩ : ∃ L, layB 2 l l.A.length = L := ⟨_, rfl⟩
  rw [hK, hL] at hL0 hbeg
  rw [hK] at hk0 hk1 hkl
  rw [hL] at hS0 hp0 hq0 hc0 hr0
  obtain ⟨t, ht⟩ : ∃ t, begF l = t := ⟨_, rfl⟩
  have htc : t.cost = [] := by rw [← ht]; rfl
  have htn : t.n = l.C.length := by rw [← ht]; rfl
  have htm : t.m = l.A.length := by rw [← ht]; rfl
  rw [ht] at hf hh2 hbeg hS0
  have hfst := first_at hL0 hS0 htc hf
  obtain ⟨L1, K1, hlie⟩ := first_lies hL0 hS0 htc hf
  have hF : solveF l = if (firstF t).2.over = true then ([], F00, 24)
    else if (firstF t).1 = false then ([], F00, 23)
    else if (secondF (firstF t).2 l.C).2.over = true then ([], F00, 24)
    else if (secondF (firstF t).2 l.C).1 = false then ([], F00, 19)
    else (xF (secondF (firstF t).2 l.C).2, negF (ix (secondF (firstF t).2 l.C).2.cost (secondF (firstF t).2 l.C).2.w), 0) := by rw [← ht]; exact if_neg (fun h => h h1)
  have hsame := firstF_same hS0 hf
  obtain ⟨fb, u, hfu⟩ : ∃ fb u, firstF t = (fb, u) := ⟨_, _, rfl⟩
  rw [hfu] at hF hfst hlie hh2 hsame
  simp only at hF hfst hlie hh2 hsame
  rw [hlie.h, hp0] at hfst
  have hbeg : gBegin [.agg [.slice 1 false (encRows l.A), .slice 2 false (encRows l.B), .slice 2 false (encRows l.C)]] [⟨25, 3, [[.slice 1 false (encRows l.A), .slice 2 false (encRows l.B), .slice 2 false (encRows l.C)]], true, true⟩, ⟨29, 2, [[.int .i64 0, .int .i64 0]], true, true⟩] = some (True, .ptr 3 1 29 0 0, putT L t K) := hbeg
  have hcb := fun X => hlie.out (k := 0) (by omega) (by omega) (by omega) (fun h => by have := hr0 _ h; omega) (by rw [hc0]; intro h; cases h) X
  have hrc := fun X => hlie.out (k := 1) (by omega) (by omega) (by omega) (fun h => by have := hr0 _ h; omega) (by rw [hc0]; intro h; cases h) X
  rw [hk0] at hcb
  rw [hk1] at hrc
  have G1 := getT hlie.l hlie.s
  have p1 := G1.p0
  rw [hlie.p, hp0] at p1
  have n1 := tC_len (L := L1) hlie.s.bas
  have hcb0 := hcb []
  have hrc0 := hrc []
  rw [List.append_nil] at hcb0 hrc0
  have hn1 := hlie.n
  have hst1 : ∀ b, ((putT L1 u K1).set 1 b)[1]? = some b := fun b => List.getElem?_set_self (by rw [put_len]; omega)
  have e28 : ∀ h, (tC L1 u)[28]'h = .bool u.over := fun h => tC_e28 hlie.s.bas h
  cases hO : u.over with
  | true =>
    have hF : solveF l = ([], F00, 24) := by rw [hF, if_pos hO]
    rw [hO] at e28
    simp [aev, cav, look, acallPure, abin, abinN, abinP, abinI, abinS, aun, aconv, afield, afieldAddr, aindexAddr, aindex, aslice, alow, ahigh, abuild, abuildGo, cellsOf, splice, fieldTy, alen, apick, amax, amin, aload, headV, aparts, abuildSlice, elParts, abytesStr, astore, amake, aappend, aclear, anew, arith, aresults, aresList, ares, spec0, spec1, spec2, spec3, spec4, eqCells, eqCell, sCheckF, hs, h1, hbeg, hfst, p1, n1, e28, hrc0, FB, hst1, hF]
    exact ⟨rfl, rfl⟩
  | false =>
  rw [if_neg (by rw [hO]; decide)] at hF
  rw [hO] at e28
  cases fb with
  | false =>
    have hF : solveF l = ([], F00, 23) := by rw [hF, if_pos rfl]
    simp [aev, cav, look, acallPure, abin, abinN, abinP, abinI, abinS, aun, aconv, afield, afieldAddr, aindexAddr, aindex, aslice, alow, ahigh, abuild, abuildGo, cellsOf, splice, fieldTy, alen, apick, amax, amin, aload, headV, aparts, abuildSlice, elParts, abytesStr, astore, amake, aappend, aclear, anew, arith, aresults, aresList, ares, spec0, spec1, spec2, spec3, spec4, eqCells, eqCell, sCheckF, hs, h1, hbeg, hfst, p1, n1, e28, hrc0, FB, hst1, hF]
    exact ⟨rfl, rfl⟩
  | true =>
  rw [if_neg (by decide)] at hF
  have hH2 := hh2 hO rfl
  have hcs : l.C.length = u.n := by rw [hsame.2.1, htn]
  have hsec := second_at hlie.l hlie.s hcs hH2
  have hlie2 := second_lies hlie.l hlie.s hcs hH2
  have hc1 : ∀ k, k < 2 → L1.c ≠ some k := fun k hk => hlie.c k (by omega) (by rw [hc0]; intro h; cases h)
  have hr1 : ∀ k, k < 2 → k ∉ L1.r := fun k hk h => by rw [hlie.r] at h; have := hr0 _ h; omega
  have hp1 := hlie.p
  have hq1 := hlie.q
  have hkk0 : K1[0]? = some (CB l) := by rw [hlie.k 0 (by omega) (by rw [hc0]; intro h; cases h), hk0]
  have hkk1 : K1[1]? = some (FB F00) := by rw [hlie.k 1 (by omega) (by rw [hc0]; intro h; cases h), hk1]
  have hdb := fun X => hlie2.out (k := 0) (by omega) (by omega) (by omega) (hr1 0 (by omega)) (hc1 0 (by omega)) X
  have hdc := fun X => hlie2.out (k := 1) (by omega) (by omega) (by omega) (hr1 1 (by omega)) (hc1 1 (by omega)) X
  rw [hkk0] at hdb
  rw [hkk1] at hdc
  have hsame2 := secondF_same (K := K1) hlie.s hcs hH2
  obtain ⟨sb, v, hsv⟩ : ∃ sb v, secondF u l.C = (sb, v) := ⟨_, _, rfl⟩
  rw [hsv] at hF hsec hlie2 hsame2 hdb hdc
  simp only at hF hsec hlie2 hsame2 hdb hdc
  have hvp : (newC L1 K1).p = 3 := by show L1.p = 3; omega
  have hvc : (newC L1 K1).c = some K1.length := rfl
  rw [hlie2.h] at hsec
  obtain ⟨L2, hL2⟩ : ∃ L2, newC L1 K1 = L2 := ⟨_, rfl⟩
  obtain ⟨K2, hK2⟩ : ∃ K2, baseN L1 u K1 = K2 := ⟨_, rfl⟩
  rw [hL2, hK2] at hlie2 hsec hdb hdc
  rw [hL2] at hvp hvc
  rw [show L1.p = 3 by omega] at hsec
  have hsec : gSecond [.ptr 3 1 29 0 0, .slice 2 false (encRows l.C)] (putT L1 u K1) = some (True, .bool sb, putT L2 v K2) := hsec
  have hdb0 := hdb []
  have hdc0 := hdc []
  rw [List.append_nil] at hdb0 hdc0
  have hn2 := hlie2.n
  have hst2 : ∀ b, ((putT L2 v K2).set 1 b)[1]? = some b := fun b => List.getElem?_set_self (by rw [put_len]; omega)
  have G2 := getT hlie2.l hlie2.s
  have p2 := G2.p0
  rw [hvp] at p2
  have n2 := tC_len (L := L2) hlie2.s.bas
  have f28 : ∀ h, (tC L2 v)[28]'h = .bool v.over := fun h => tC_e28 hlie2.s.bas h
  cases hO2 : v.over with
  | true =>
    have hF : solveF l = ([], F00, 24) := by rw [hF, if_pos hO2]
    rw [hO2] at f28
    simp [aev, cav, look, acallPure, abin, abinN, abinP, abinI, abinS, aun, aconv, afield, afieldAddr, aindexAddr, aindex, aslice, alow, ahigh, abuild, abuildGo, cellsOf, splice, fieldTy, alen, apick, amax, amin, aload, headV, aparts, abuildSlice, elParts, abytesStr, astore, amake, aappend, aclear, anew, arith, aresults, aresList, ares, spec0, spec1, spec2, spec3, spec4, eqCells, eqCell, sCheckF, hs, h1, hbeg, hfst, p1, n1, e28, hcb0, CB, hsec, p2, n2, f28, hdc0, FB, hst2, hF]
    exact ⟨rfl, rfl⟩
  | false =>
  rw [if_neg (by rw [hO2]; decide)] at hF
  rw [hO2] at f28
  cases sb with
  | false =>
    have hF : solveF l = ([], F00, 19) := by rw [hF, if_pos rfl]
    simp [aev, cav, look, acallPure, abin, abinN, abinP, abinI, abinS, aun, aconv, afield, afieldAddr, aindexAddr, aindex, aslice, alow, ahigh, abuild, abuildGo, cellsOf, splice, fieldTy, alen, apick, amax, amin, aload, headV, aparts, abuildSlice, elParts, abytesStr, astore, amake, aappend, aclear, anew, arith, aresults, aresList, ares, spec0, spec1, spec2, spec3, spec4, eqCells, eqCell, sCheckF, hs, h1, hbeg, hfst, p1, n1, e28, hcb0, CB, hsec, p2, n2, f28, hdc0, FB, hst2, hF]
    exact ⟨rfl, rfl⟩
  | true =>
  rw [if_neg (by decide)] at hF
  have e0 : ∀ h, (tC L2 v)[0]'h = .int .i64 v.n := fun h => tC_e0 h
  have hvn := hlie2.s.n12
  simp [aev, cav, look, acallPure, abin, abinN, abinP, abinI, abinS, aun, aconv, afield, afieldAddr, aindexAddr, aindex, aslice, alow, ahigh, abuild, abuildGo, cellsOf, splice, fieldTy, alen, apick, amax, amin, aload, headV, aparts, abuildSlice, elParts, abytesStr, astore, amake, aappend, aclear, anew, arith, aresults, aresList, ares, spec0, spec1, spec2, spec3, spec4, eqCells, eqCell, sCheckF, hs, h1, hbeg, hfst, p1, n1, e28, hcb0, CB, hsec, p2, n2, f28, e0]
  have l2 := G2.l0
  have s2 := G2.sl0
  have p2X := G2.p
  rw [hvp] at p2X
  have q2X := G2.q
  have r2X := G2.r
  have hr2 := hlie2.s.r
  have hm24 := hlie2.s.m24
  have hx0 : putT L2 v K2 ++ [⟨29, 2, List.replicate v.n [.int .i64 0, .int .i64 0], true, true⟩] = putT L2 v K2 ++ [R2B (mixF 0 (fun _ => F01) (List.replicate v.n F00))] := by rw [mixF_zero]; unfold R2B; rw [enc_rep]; rfl
  refine ⟨⟨by omega, by omega⟩, ?_⟩
  refine loop_ruleH (C := CSo) sigCSo mixCSo [26, 28] (fun k : Nat => ⟨[(1, .ptr 0 1 3 0 0), (3, .ptr 1 1 2 0 0), (4, .int .i64 0), (6, .ptr 3 1 29 0 0), (9, .own K2.length v.n), (50, .int .i64 v.n), (51, .int .i64 k)], putT L2 v K2 ++ [R2B (mixF k (fun _ => F01) (List.replicate v.n F00))]⟩) (fun k => k ≤ v.n) (fun k => v.n - k) (by kernel_rfl) ⟨0, by simp, weak_eq (by simp [put_len]) hx0⟩ (fun k hk => ?_)
  have hm := mixF_len k (fun _ => F01) (List.replicate v.n F00)
  rw [List.length_replicate] at hm
  by_cases hkl : k < v.n
  · have i2 : I64 ((k : Int) + 1) := by unfold I64; omega
    simp [aev, cav, look, acallPure, abin, abinN, abinP, abinI, abinS, aun, aconv, afield, afieldAddr, aindexAddr, aindex, aslice, alow, ahigh, abuild, abuildGo, cellsOf, splice, fieldTy, alen, apick, amax, amin, aload, headV, aparts, abuildSlice, elParts, abytesStr, astore, amake, aappend, aclear, anew, arith, aresults, aresList, ares, spec0, spec1, spec2, spec3, spec4, eqCells, eqCell, R2B, put_len, l2, s2, hkl, hm, i2, rowAt_enc]
    exact ⟨k + 1, by omega, by omega, weak_eq (by simp) (by rw [mixF_set (g := fun _ => F01) (v := F01) rfl (by rw [List.length_replicate]; exact hkl)])⟩
  · have hke : k = v.n := by omega
    subst hke
    rw [mixF_all]
    simp [aev, cav, look, acallPure, abin, abinN, abinP, abinI, abinS, aun, aconv, afield, afieldAddr, aindexAddr, aindex, aslice, alow, ahigh, abuild, abuildGo, cellsOf, splice, fieldTy, alen, apick, amax, amin, aload, headV, aparts, abuildSlice, elParts, abytesStr, astore, amake, aappend, aclear, anew, arith, aresults, aresList, ares, spec0, spec1, spec2, spec3, spec4, eqCells, eqCell, put_len, p2X, n2, tC_e2, hr2]
    refine loop_ruleH (C := CSo) sigCSo mixCSo [26, 28] (fun k : Nat => ⟨[(1, .ptr 0 1 3 0 0), (3, .ptr 1 1 2 0 0), (4, .int .i64 0), (6, .ptr 3 1 29 0 0), (9, .own K2.length v.n), (62, .own L2.q v.m), (63, .int .i64 v.m), (64, .int .i64 k)], putT L2 v K2 ++ [R2B (xK v k)]⟩) (fun k => k ≤ v.m) (fun k => v.m - k) (by kernel_rfl) ⟨0, by simp, weak_eq (by simp) rfl⟩ (fun k hk => ?_)
    have hxl := xK_len v k
    have hww := shape_w hlie2.s
    have e1 : ∀ h, (tC L2 v)[1]'h = .int .i64 v.m := fun h => tC_e1 h
    have htw : v.w < v.w + 1 := by omega
    by_cases hkl : k < v.m
    · have i2 : I64 ((k : Int) + 1) := by unfold I64; omega
      have hk24 : k < 24 := by omega
      have hkr : k < L2.r.length := by omega
      have hbk := tC_b (L := L2) hlie2.s.bas hk24
      have hrk := r2X
      have hrow : (ix v.rows k).length = v.w + 1 := hlie2.s.row _ (ix_mem (by rw [hlie2.s.m]; exact hkl))
      have rk := fun X => r2X X k hkl
      have hb64 : 0 ≤ ix v.basis k := (hlie2.s.b64 _ (ix_mem (by rw [hlie2.s.bas]; omega))).1
      obtain ⟨bn, hbn⟩ : ∃ bn : Nat, ix v.basis k = bn := ⟨(ix v.basis k).toNat, by omega⟩
      rw [hbn] at hbk
      by_cases hbl : bn < v.n
      · have es : xK v (k + 1) = (xK v k).set bn (ix (ix v.rows k) v.w) := by
          conv => { lhs; unfold xK; rw [if_pos (by rw [hbn]; omega), hbn, Int.toNat_natCast] }
        simp [aev, cav, look, acallPure, abin, abinN, abinP, abinI, abinS, aun, aconv, afield, afieldAddr, aindexAddr, aindex, aslice, alow, ahigh, abuild, abuildGo, cellsOf, splice, fieldTy, alen, apick, amax, amin, aload, headV, aparts, abuildSlice, elParts, abytesStr, astore, amake, aappend, aclear, anew, arith, aresults, aresList, ares, spec0, spec1, spec2, spec3, spec4, eqCells, eqCell, put_len, p2X, q2X, n2, hkl, hr2, hkr, rowAt_q, hbk, hk24, e0, hbl]
        refine ⟨by omega, by omega, ?_⟩
        refine AW_regionF sigCSo mixCSo [.pure, .pure, .pure, .pure, .pure, .pure, .read, .pure, .pure, .pure, .read, .pure, .pure, .read, .pure, .eff] [[],[],[],[],[3],[3,4],[4,3,5],[],[7],[7,8],[8,7,9],[9,7,8,10,5,3,4,6],[6,4,3,5,10,8,7,9,11,2],[2,11,9,7,8,10,5,3,4,6,12],[13,12,11,10,9,8,7,6,5,4,3,2,1,0],[0,1,2,3,4,5,6,7,8,9,10,11,12,13,14]] (by kernel_rfl) (by kernel_rfl) (by kernel_rfl) (by kernel_rfl) ?_
        have hxb : bn < (xK v k).length := by omega
        simp [aev, cav, look, acallPure, abin, abinN, abinP, abinI, abinS, aun, aconv, afield, afieldAddr, aindexAddr, aindex, aslice, alow, ahigh, abuild, abuildGo, cellsOf, splice, fieldTy, alen, apick, amax, amin, aload, headV, aparts, abuildSlice, elParts, abytesStr, astore, amake, aappend, aclear, anew, arith, aresults, aresList, ares, spec0, spec1, spec2, spec3, spec4, eqCells, eqCell, R2B, put_len, p2X, n2, e0, e1, hww, rk, hrow, htw, rowAt_enc, l2, s2, hxl, hbl, hxb, i2]
        exact ⟨by omega, k + 1, by omega, by omega, weak_eq (by simp) (by rw [es])⟩
      · have es : xK v (k + 1) = xK v k := by
          conv => { lhs; unfold xK; rw [if_neg (by rw [hbn]; omega)] }
        simp [aev, cav, look, acallPure, abin, abinN, abinP, abinI, abinS, aun, aconv, afield, afieldAddr, aindexAddr, aindex, aslice, alow, ahigh, abuild, abuildGo, cellsOf, splice, fieldTy, alen, apick, amax, amin, aload, headV, aparts, abuildSlice, elParts, abytesStr, astore, amake, aappend, aclear, anew, arith, aresults, aresList, ares, spec0, spec1, spec2, spec3, spec4, eqCells, eqCell, put_len, p2X, q2X, n2, hkl, hr2, hkr, rowAt_q, hbk, hk24, e0, hbl, i2]
        exact ⟨by omega, by omega, k + 1, by omega, by omega, weak_eq (by simp) (by rw [es])⟩
    · have hke : k = v.m := by omega
      subst hke
      simp [aev, cav, look, acallPure, abin, abinN, abinP, abinI, abinS, aun, aconv, afield, afieldAddr, aindexAddr, aindex, aslice, alow, ahigh, abuild, abuildGo, cellsOf, splice, fieldTy, alen, apick, amax, amin, aload, headV, aparts, abuildSlice, elParts, abytesStr, astore, amake, aappend, aclear, anew, arith, aresults, aresList, ares, spec0, spec1, spec2, spec3, spec4, eqCells, eqCell, put_len]
      refine AW_regionF sigCSo mixCSo [.pure, .pure, .pure, .pure, .read, .pure, .pure, .pure, .read, .pure, .pure, .pure, .read, .pure, .pure, .read, .read, .pure, .eff, .pure] [[],[],[1],[1,2],[2,1,3],[],[5],[5,6],[6,5,7],[],[9],[9,10],[10,9,11],[11,9,10,12,7,5,6,8],[8,6,5,7,12,10,9,11,13,3,1,2,4],[4,2,1,3,13,11,9,10,12,7,5,6,8,14],[14,8,6,5,7,12,10,9,11,13,3,1,2,4,15],[15,4,2,1,3,13,11,9,10,12,7,5,6,8,14,16,0],[0,17,15,4,2,1,3,13,11,9,10,12,7,5,6,8,14,16],[16,14,8,6,5,7,12,10,9,11,13,3,1,2,4,15,17,0,18]] (by kernel_rfl) (by kernel_rfl) (by kernel_rfl) (by kernel_rfl) ?_
      have hvcl : v.cost.length = v.w + 1 := by rw [hsame2.2.2.2.2]; unfold Tab.w; omega
      have c2 := fun X => G2.c X _ hvc
      have e3 : ∀ h, (tC L2 v)[3]'h = .own K1.length (v.w + 1) := fun h => by rw [tC_e3 h, hvc, hvcl]; rfl
      have hst3 : ∀ X b, ((putT L2 v K2 ++ X).set 1 b)[1]? = some b := fun X b => List.getElem?_set_self (by rw [List.length_append, put_len]; omega)
      have hg4 : ∀ b h, ((putT L2 v K2 ++ [R2B (xK v v.m)]).set 1 b)[K2.length]'h = ⟨29, 2, encRows (xK v v.m), true, true⟩ := fun b h => by
        have := List.getElem?_eq_getElem h
        rw [List.getElem?_set_ne (by omega), l2] at this
        injection this with this
        exact this.symm
      have hg3 : ∀ X b, ((putT L2 v K2 ++ X).set 1 b)[K2.length]? = X[0]? := fun X b => by rw [List.getElem?_set_ne (by omega)]; exact l2 X
      simp [aev, cav, look, acallPure, abin, abinN, abinP, abinI, abinS, aun, aconv, afield, afieldAddr, aindexAddr, aindex, aslice, alow, ahigh, abuild, abuildGo, cellsOf, splice, fieldTy, alen, apick, amax, amin, aload, headV, aparts, abuildSlice, elParts, abytesStr, astore, amake, aappend, aclear, anew, arith, aresults, aresList, ares, spec0, spec1, spec2, spec3, spec4, eqCells, eqCell, put_len, p2X, n2, e0, e1, e3, hww, c2, hvcl, htw, rowAt_enc, sNeg, hdc, FB, hst3, hg3, hg4, hxl, hF, xF]
      omega
end Go.Proofs.YtifbaegnkodneaaDoor

/-
  layer 30: Solve by fuel, for the examples.
-/
namespace Go.Proofs.YtifbaegnkodneaaDoor
open Go.RowKit
set_option linter.unusedSimpArgs false
set_option linter.unusedVariables false
set_option maxRecDepth 100000

def firstN (n : Nat) (t : Tab) : Option (Bool × Tab) :=
  if anyK t.m (artP t) = false ∨ (f1T t).over = true then some (true, f1T t)
  else match runF n (f1T t) with
  | none => none
  | some r => if r.2.over = true then some (true, r.2)
    else if (ix r.2.cost t.w).N < 0 then some (false, r.2)
    else some (true, repK { r.2 with cost := [] } t.m)
theorem firstN_eq {n : Nat} {t : Tab} {r : Bool × Tab} (h : firstN n t = some r) : HaltsF t ∧ firstF t = r := by
  unfold firstN at h
  unfold HaltsF firstF
  by_cases h1 : anyK t.m (artP t) = false ∨ (f1T t).over = true
  · rw [if_pos h1] at h ⊢
    injection h with h
    exact ⟨fun h' => absurd h1 h', h⟩
  · rw [if_neg h1] at h ⊢
    cases h2 : runF n (f1T t) with
    | none => rw [h2] at h; cases h
    | some q =>
      rw [h2] at h
      rw [phaseF_eq h2]
      refine ⟨fun _ => ⟨q, n, h2⟩, ?_⟩
      simp only at h
      split at h
      · rename_i h3; injection h with h; rw [if_pos h3]; exact h
      · rename_i h3
        rw [if_neg h3]
        split at h
        · rename_i h4; injection h with h; rw [if_pos h4]; exact h
        · rename_i h4; injection h with h; rw [if_neg h4]; exact h
def secondN (n : Nat) (t : Tab) (cs : List Fr) : Option (Bool × Tab) := if (s1T t cs).over = true then some (true, s1T t cs) else runF n (s1T t cs)
theorem secondN_eq {n : Nat} {t : Tab} {cs : List Fr} {r : Bool × Tab} (h : secondN n t cs = some r) : HaltsS t cs ∧ secondF t cs = r := by
  unfold secondN at h
  unfold HaltsS secondF
  by_cases h1 : (s1T t cs).over = true
  · rw [if_pos h1] at h ⊢
    injection h with h
    exact ⟨fun h' => absurd h1 h', h⟩
  · rw [if_neg h1] at h ⊢
    exact ⟨fun _ => ⟨r, n, h⟩, phaseF_eq h⟩
def solveN (n : Nat) (l : Lin) : Option (List Fr × Fr × Int) :=
  if checkF l ≠ 0 then some ([], F00, checkF l)
  else match firstN n (begF l) with
  | none => none
  | some f => if f.2.over = true then some ([], F00, 24)
    else if f.1 = false then some ([], F00, 23)
    else match secondN n f.2 l.C with
    | none => none
    | some s => if s.2.over = true then some ([], F00, 24)
      else if s.1 = false then some ([], F00, 19)
      else some (xF s.2, negF (ix s.2.cost s.2.w), 0)
theorem solveN_eq {n : Nat} {l : Lin} {r : List Fr × Fr × Int} (h : solveN n l = some r) : (checkF l = 0 → HaltsL l) ∧ solveF l = r := by
  unfold solveN at h
  unfold solveF
  by_cases h1 : checkF l ≠ 0
  · rw [if_pos h1] at h ⊢
    injection h with h
    exact ⟨fun h' => absurd h' h1, h⟩
  rw [if_neg h1] at h ⊢
  cases h2 : firstN n (begF l) with
  | none => rw [h2] at h; cases h
  | some f =>
    rw [h2] at h
    obtain ⟨k1, k2⟩ := firstN_eq h2
    simp only at h
    rw [k2]
    by_cases h3 : f.2.over = true
    · rw [if_pos h3] at h ⊢
      injection h with h
      exact ⟨fun _ => ⟨k1, fun h4 _ => by rw [k2, h3] at h4; cases h4⟩, h⟩
    rw [if_neg h3] at h ⊢
    by_cases h4 : f.1 = false
    · rw [if_pos h4] at h ⊢
      injection h with h
      exact ⟨fun _ => ⟨k1, fun _ h5 => by rw [k2, h4] at h5; cases h5⟩, h⟩
    rw [if_neg h4] at h ⊢
    cases h5 : secondN n f.2 l.C with
    | none => rw [h5] at h; cases h
    | some s =>
      rw [h5] at h
      obtain ⟨k3, k4⟩ := secondN_eq h5
      simp only at h
      rw [k4]
      refine ⟨fun _ => ⟨k1, fun _ _ => by rw [k2]; exact k3⟩, ?_⟩
      split at h
      · rename_i h6; injection h with h; rw [if_pos h6]; exact h
      · rename_i h6
        rw [if_neg h6]
        split at h
        · rename_i h7; injection h with h; rw [if_pos h7]; exact h
        · rename_i h7; injection h with h; rw [if_neg h7]; exact h
def Fh : Fr := ⟨1, 2⟩
theorem ex1 : solveN 20 triL = some ([Fh, Fh, Fh], ⟨3, 2⟩, 0) := by kernel_rfl
def lin2 : Lin := ⟨[[⟨-1, 1⟩]], [F11], [F11]⟩
theorem ex2 : solveN 20 lin2 = some ([], F00, 23) := by kernel_rfl
def lin3 : Lin := ⟨[], [], [⟨-1, 1⟩]⟩
theorem ex3 : solveN 20 lin3 = some ([], F00, 19) := by kernel_rfl
end Go.Proofs.YtifbaegnkodneaaDoor

/-
  layer 30: the examples.
-/
namespace Go.Proofs.YtifbaegnkodneaaDoor
open Go.RowKit
set_option linter.unusedSimpArgs false
set_option linter.unusedVariables false
set_option maxRecDepth 100000

def lin4 : Lin := ⟨[[F11, F11]], [⟨3, 1⟩], [⟨2, 1⟩, F11]⟩
theorem dual4 : dualF lin4 = (⟨[[⟨-1, 1⟩], [⟨-1, 1⟩]], [⟨-2, 1⟩, ⟨-1, 1⟩], [⟨-3, 1⟩]⟩, 0) := by kernel_rfl
theorem val4 : valueF triL [F11, ⟨2, 1⟩, F01] = (⟨3, 1⟩, true) := by kernel_rfl
theorem feas4 : feasB triL [Fh, Fh, Fh] = true := by
  unfold feasB
  refine @decide_eq_true _ (Classical.propDecidable _) ⟨by kernel_rfl, rfl, ?_, ?_⟩
  · intro f hf
    simp only [List.mem_cons, List.not_mem_nil, or_false, or_self] at hf
    subst hf
    exact ⟨by decide, by decide⟩
  · intro i hi
    have hi : i < 3 := hi
    match i with
    | 0 => exact ⟨F11, by kernel_rfl, by decide⟩
    | 1 => exact ⟨F11, by kernel_rfl, by decide⟩
    | 2 => exact ⟨F11, by kernel_rfl, by decide⟩
    | k + 3 => omega
theorem small1 : SmallL triL := ⟨by decide, by decide, by decide, by decide⟩
theorem small2 : SmallL lin2 := ⟨by decide, by decide, by decide, by decide⟩
theorem small3 : SmallL lin3 := ⟨by decide, by decide, by decide, by decide⟩
theorem small4 : SmallL lin4 := ⟨by decide, by decide, by decide, by decide⟩
theorem ps1 : PreSolve triL := ⟨small1, (solveN_eq ex1).1⟩
theorem ps2 : PreSolve lin2 := ⟨small2, (solveN_eq ex2).1⟩
theorem ps3 : PreSolve lin3 := ⟨small3, (solveN_eq ex3).1⟩
theorem sv1 : solveF triL = ([Fh, Fh, Fh], ⟨3, 2⟩, 0) := (solveN_eq ex1).2
theorem sv2 : solveF lin2 = ([], F00, 23) := (solveN_eq ex2).2
theorem sv3 : solveF lin3 = ([], F00, 19) := (solveN_eq ex3).2
noncomputable def CAl : Ctx := mkC Tryd.prog G0 [(27, .pure (spec0 (Enc.enc triL))), (20, .pure sSolve), (25, .pure sWhole), (13, .pure sDual), (11, .pure sValueF), (22, .pure sFracs), (17, .pure sFeas)]
@[simp] theorem CAl_P : CAl.P = Tryd.prog := rfl
@[simp] theorem CAl_G : CAl.G = G0 := rfl
@[simp] theorem CAl_1 : CAl.S 27 = .pure (spec0 (Enc.enc triL)) := rfl
@[simp] theorem CAl_2 : CAl.S 20 = .pure sSolve := rfl
@[simp] theorem CAl_3 : CAl.S 25 = .pure sWhole := rfl
@[simp] theorem CAl_4 : CAl.S 13 = .pure sDual := rfl
@[simp] theorem CAl_5 : CAl.S 11 = .pure sValueF := rfl
@[simp] theorem CAl_6 : CAl.S 22 = .pure sFracs := rfl
@[simp] theorem CAl_7 : CAl.S 17 = .pure sFeas := rfl
theorem mixCAl : CAl.P.follows .mixedOrders = true := mixed
theorem sigCAl : SigOK CAl := sigOK_cons (entryPure (triP) Tryd.func27 rfl (by decide)) (sigOK_cons (entryPure (solveP) Tryd.func20 rfl (by decide)) (sigOK_cons (entryPure (wholeP) Tryd.func25 rfl (by decide)) (sigOK_cons (entryPure (dualP) Tryd.func13 rfl (by decide)) (sigOK_cons (entryPure (valueP) Tryd.func11 rfl (by decide)) (sigOK_cons (entryPure (fracsR) Tryd.func22 rfl (by decide)) (sigOK_cons (entryPure (feasibleP) Tryd.func17 rfl (by decide)) (sigOK_nil _ _)))))))
set_option maxHeartbeats 16000000 in
theorem aliveP : PureOK Tryd.prog G0 10 (spec0 (.bool true)) := by
  refine pureH0 (C := CAl) sigCAl mixCAl Tryd.func10 rfl rfl rfl [7] (by kernel_rfl) ?_
  have s22 : isScalT CAl 22 = false := by show isScalT ⟨Tryd.prog, fun _ => .no, G0⟩ 22 = false; kernel_rfl
  have s23 : isScalT CAl 23 = true := by show isScalT ⟨Tryd.prog, fun _ => .no, G0⟩ 23 = true; kernel_rfl
  have q2 : PreSolve ⟨[[⟨-1, 1⟩]], [⟨1, 1⟩], [⟨1, 1⟩]⟩ := ps2
  have q3 : PreSolve ⟨[], [], [⟨-1, 1⟩]⟩ := ps3
  have v2 : solveF ⟨[[⟨-1, 1⟩]], [⟨1, 1⟩], [⟨1, 1⟩]⟩ = ([], F00, 23) := sv2
  have v3 : solveF ⟨[], [], [⟨-1, 1⟩]⟩ = ([], F00, 19) := sv3
  have d4 : dualF ⟨[[⟨1, 1⟩, ⟨1, 1⟩]], [⟨3, 1⟩], [⟨2, 1⟩, ⟨1, 1⟩]⟩ = (⟨[[⟨-1, 1⟩], [⟨-1, 1⟩]], [⟨-2, 1⟩, ⟨-1, 1⟩], [⟨-3, 1⟩]⟩, 0) := dual4
  have z4 : SmallL ⟨[[⟨1, 1⟩, ⟨1, 1⟩]], [⟨3, 1⟩], [⟨2, 1⟩, ⟨1, 1⟩]⟩ := small4
  have w4 : valueF triL [⟨1, 1⟩, ⟨2, 1⟩, ⟨0, 1⟩] = (⟨3, 1⟩, true) := val4
  have f4 : feasB triL [⟨1, 2⟩, ⟨1, 2⟩, ⟨1, 2⟩] = true := feas4
  have c4 : triL.C.length = 3 := rfl
  simp [aev, cav, look, acallPure, abin, abinN, abinP, abinI, abinS, aun, aconv, afield, afieldAddr, aindexAddr, aindex, aslice, alow, ahigh, abuild, abuildGo, cellsOf, splice, fieldTy, alen, apick, amax, amin, aload, headV, aparts, abuildSlice, elParts, abytesStr, astore, amake, aappend, aclear, anew, arith, aresults, aresList, ares, spec0, spec1, spec2, spec3, spec4, eqCells, eqCell, sWhole, s22, s23, sSolve, abuildSlice, aparts, ps1, sv1, q2, q3, v2, v3, sDual, d4, z4, sValueF, w4, c4, Fh, F00]
  refine AW_regionF sigCAl mixCAl [.pure, .pure, .pure, .read, .pure, .pure, .pure, .pure, .pure, .read, .read, .read, .read, .read, .pure, .pure, .read, .pure, .read, .pure, .pure, .pure, .pure, .pure, .pure, .pure, .pure, .pure, .pure, .pure, .pure, .pure, .pure, .pure, .read, .pure, .pure, .pure, .pure, .pure, .read, .pure, .pure, .pure, .pure, .pure, .read, .pure, .read, .read, .pure, .pure, .pure, .pure, .pure, .pure, .read, .read, .pure, .pure, .pure] [[],[0],[0,1],[1,0,2],[1,0,2],[4,2,0,1,3],[3,4,5,1,0,2],[2,0,1,5,4,3,6],[6,3,4,5,1,0,2,7],[6,3,4,5,1,0,2,7],[6,3,4,5,1,0,2,7],[6,3,4,5,1,0,2,7],[11,10,7,2,0,1,5,4,3,6,9],[9,10,11,12,7,2,0,1,5,4,3,6,8],[8,12,11,10,9,13,6,3,4,5,1,0,2,7],[7,2,0,1,5,4,3,6,13,9,10,11,12,8,14],[14,8,12,11,10,9,13,6,3,4,5,1,0,2,7,15],[14,8,12,11,10,9,13,6,3,4,5,1,0,2,7,15],[17,15,7,2,0,1,5,4,3,6,13,9,10,11,12,8,14,16],[16,17,18,14,8,12,11,10,9,13,6,3,4,5,1,0,2,7,15],[15,7,2,0,1,5,4,3,6,13,9,10,11,12,8,14,18,17,16,19],[19,16,17,18,14,8,12,11,10,9,13,6,3,4,5,1,0,2,7,15,20],[20,15,7,2,0,1,5,4,3,6,13,9,10,11,12,8,14,18,17,16,19,21],[21,22,19,16,17,18,14,8,12,11,10,9,13,6,3,4,5,1,0,2,7,15,20],[20,15,7,2,0,1,5,4,3,6,13,9,10,11,12,8,14,18,17,16,19,22,21,23],[23,21,22,19,16,17,18,14,8,12,11,10,9,13,6,3,4,5,1,0,2,7,15,20,24],[24,20,15,7,2,0,1,5,4,3,6,13,9,10,11,12,8,14,18,17,16,19,22,21,23,25],[25,26,23,21,22,19,16,17,18,14,8,12,11,10,9,13,6,3,4,5,1,0,2,7,15,20,24],[24,20,15,7,2,0,1,5,4,3,6,13,9,10,11,12,8,14,18,17,16,19,22,21,23,26,25,27],[27,25,26,23,21,22,19,16,17,18,14,8,12,11,10,9,13,6,3,4,5,1,0,2,7,15,20,24,28],[28,24,20,15,7,2,0,1,5,4,3,6,13,9,10,11,12,8,14,18,17,16,19,22,21,23,26,25,27,29],[29,30,27,25,26,23,21,22,19,16,17,18,14,8,12,11,10,9,13,6,3,4,5,1,0,2,7,15,20,24,28],[28,24,20,15,7,2,0,1,5,4,3,6,13,9,10,11,12,8,14,18,17,16,19,22,21,23,26,25,27,30,29,31],[31,29,30,27,25,26,23,21,22,19,16,17,18,14,8,12,11,10,9,13,6,3,4,5,1,0,2,7,15,20,24,28,32],[32,28,24,20,15,7,2,0,1,5,4,3,6,13,9,10,11,12,8,14,18,17,16,19,22,21,23,26,25,27,30,29,31,33],[33,31,29,30,27,25,26,23,21,22,19,16,17,18,14,8,12,11,10,9,13,6,3,4,5,1,0,2,7,15,20,24,28,32,34],[34,32,28,24,20,15,7,2,0,1,5,4,3,6,13,9,10,11,12,8,14,18,17,16,19,22,21,23,26,25,27,30,29,31,33,35],[35,33,34,36,31,29,30,27,25,26,23,21,22,19,16,17,18,14,8,12,11,10,9,13,6,3,4,5,1,0,2,7,15,20,24,28,32],[32,28,24,20,15,7,2,0,1,5,4,3,6,13,9,10,11,12,8,14,18,17,16,19,22,21,23,26,25,27,30,29,31,36,34,33,35,37],[37,35,33,34,36,31,29,30,27,25,26,23,21,22,19,16,17,18,14,8,12,11,10,9,13,6,3,4,5,1,0,2,7,15,20,24,28,32,38],[38,32,28,24,20,15,7,2,0,1,5,4,3,6,13,9,10,11,12,8,14,18,17,16,19,22,21,23,26,25,27,30,29,31,36,34,33,35,37,39],[39,37,35,33,34,36,31,29,30,27,25,26,23,21,22,19,16,17,18,14,8,12,11,10,9,13,6,3,4,5,1,0,2,7,15,20,24,28,32,38,40],[40,38,32,28,24,20,15,7,2,0,1,5,4,3,6,13,9,10,11,12,8,14,18,17,16,19,22,21,23,26,25,27,30,29,31,36,34,33,35,37,39,41],[41,39,40,42,37,35,33,34,36,31,29,30,27,25,26,23,21,22,19,16,17,18,14,8,12,11,10,9,13,6,3,4,5,1,0,2,7,15,20,24,28,32,38],[38,32,28,24,20,15,7,2,0,1,5,4,3,6,13,9,10,11,12,8,14,18,17,16,19,22,21,23,26,25,27,30,29,31,36,34,33,35,37,42,40,39,41,43],[43,41,39,40,42,37,35,33,34,36,31,29,30,27,25,26,23,21,22,19,16,17,18,14,8,12,11,10,9,13,6,3,4,5,1,0,2,7,15,20,24,28,32,38,44],[44,38,32,28,24,20,15,7,2,0,1,5,4,3,6,13,9,10,11,12,8,14,18,17,16,19,22,21,23,26,25,27,30,29,31,36,34,33,35,37,42,40,39,41,43,45],[45,43,41,39,40,42,37,35,33,34,36,31,29,30,27,25,26,23,21,22,19,16,17,18,14,8,12,11,10,9,13,6,3,4,5,1,0,2,7,15,20,24,28,32,38,44,46],[46,44,38,32,28,24,20,15,7,2,0,1,5,4,3,6,13,9,10,11,12,8,14,18,17,16,19,22,21,23,26,25,27,30,29,31,36,34,33,35,37,42,40,39,41,43,45,47],[43,41,39,40,42,37,35,33,34,36,31,29,30,27,25,26,23,21,22,19,16,17,18,14,8,12,11,10,9,13,6,3,4,5,1,0,2,7,15,20,24,28,32,38,44],[49,47,45,43,41,39,40,42,37,35,33,34,36,31,29,30,27,25,26,23,21,22,19,16,17,18,14,8,12,11,10,9,13,6,3,4,5,1,0,2,7,15,20,24,28,32,38,44,46,48],[48,46,45,47,49,50,43,41,39,40,42,37,35,33,34,36,31,29,30,27,25,26,23,21,22,19,16,17,18,14,8,12,11,10,9,13,6,3,4,5,1,0,2,7,15,20,24,28,32,38,44],[44,38,32,28,24,20,15,7,2,0,1,5,4,3,6,13,9,10,11,12,8,14,18,17,16,19,22,21,23,26,25,27,30,29,31,36,34,33,35,37,42,40,39,41,43,50,49,47,45,46,48,51],[51,48,46,45,47,49,50,43,41,39,40,42,37,35,33,34,36,31,29,30,27,25,26,23,21,22,19,16,17,18,14,8,12,11,10,9,13,6,3,4,5,1,0,2,7,15,20,24,28,32,38,44,52],[53,51,48,46,45,47,49,50,43,41,39,40,42,37,35,33,34,36,31,29,30,27,25,26,23,21,22,19,16,17,18,14,8,12,11,10,9,13,6,3,4,5,1,0,2,7,15,20,24,28,32,38,44,52],[52,44,38,32,28,24,20,15,7,2,0,1,5,4,3,6,13,9,10,11,12,8,14,18,17,16,19,22,21,23,26,25,27,30,29,31,36,34,33,35,37,42,40,39,41,43,50,49,47,45,46,48,51,53,54],[54,53,51,48,46,45,47,49,50,43,41,39,40,42,37,35,33,34,36,31,29,30,27,25,26,23,21,22,19,16,17,18,14,8,12,11,10,9,13,6,3,4,5,1,0,2,7,15,20,24,28,32,38,44,52,55],[54,53,51,48,46,45,47,49,50,43,41,39,40,42,37,35,33,34,36,31,29,30,27,25,26,23,21,22,19,16,17,18,14,8,12,11,10,9,13,6,3,4,5,1,0,2,7,15,20,24,28,32,38,44,52,55],[57,55,52,44,38,32,28,24,20,15,7,2,0,1,5,4,3,6,13,9,10,11,12,8,14,18,17,16,19,22,21,23,26,25,27,30,29,31,36,34,33,35,37,42,40,39,41,43,50,49,47,45,46,48,51,53,54,56],[56,57,58,54,53,51,48,46,45,47,49,50,43,41,39,40,42,37,35,33,34,36,31,29,30,27,25,26,23,21,22,19,16,17,18,14,8,12,11,10,9,13,6,3,4,5,1,0,2,7,15,20,24,28,32,38,44,52,55],[55,52,44,38,32,28,24,20,15,7,2,0,1,5,4,3,6,13,9,10,11,12,8,14,18,17,16,19,22,21,23,26,25,27,30,29,31,36,34,33,35,37,42,40,39,41,43,50,49,47,45,46,48,51,53,54,58,57,56,59]] (by kernel_rfl) (by kernel_rfl) (by kernel_rfl) (by kernel_rfl) ?_
  simp [aev, cav, look, acallPure, abin, abinN, abinP, abinI, abinS, aun, aconv, afield, afieldAddr, aindexAddr, aindex, aslice, alow, ahigh, abuild, abuildGo, cellsOf, splice, fieldTy, alen, apick, amax, amin, aload, headV, aparts, abuildSlice, elParts, abytesStr, astore, amake, aappend, aclear, anew, arith, aresults, aresList, ares, spec0, spec1, spec2, spec3, spec4, eqCells, eqCell, sWhole, s22, s23, abuildSlice, aparts, sFracs, sFeas, small1, f4]
  done
end Go.Proofs.YtifbaegnkodneaaDoor

/-
  layer 30: SimplexReads.
-/
namespace Go.Proofs.YtifbaegnkodneaaDoor
open Go.RowKit
set_option linter.unusedSimpArgs false
set_option linter.unusedVariables false
set_option maxRecDepth 100000

noncomputable def CRe : Ctx := mkC Tryd.prog G0 [(9, .pure sFew), (10, .pure (spec0 (.bool true))), (11, .pure sValueF), (12, .pure sValueF), (13, .pure sDual), (14, .pure sDual), (15, .pure sCheckF), (16, .pure sCheckF), (17, .pure sFeas), (18, .pure sFeas), (19, .pure sSameL)]
@[simp] theorem CRe_P : CRe.P = Tryd.prog := rfl
@[simp] theorem CRe_G : CRe.G = G0 := rfl
@[simp] theorem CRe_1 : CRe.S 9 = .pure sFew := rfl
@[simp] theorem CRe_2 : CRe.S 10 = .pure (spec0 (.bool true)) := rfl
@[simp] theorem CRe_3 : CRe.S 11 = .pure sValueF := rfl
@[simp] theorem CRe_4 : CRe.S 12 = .pure sValueF := rfl
@[simp] theorem CRe_5 : CRe.S 13 = .pure sDual := rfl
@[simp] theorem CRe_6 : CRe.S 14 = .pure sDual := rfl
@[simp] theorem CRe_7 : CRe.S 15 = .pure sCheckF := rfl
@[simp] theorem CRe_8 : CRe.S 16 = .pure sCheckF := rfl
@[simp] theorem CRe_9 : CRe.S 17 = .pure sFeas := rfl
@[simp] theorem CRe_10 : CRe.S 18 = .pure sFeas := rfl
@[simp] theorem CRe_11 : CRe.S 19 = .pure sSameL := rfl
theorem mixCRe : CRe.P.follows .mixedOrders = true := mixed
theorem sigCRe : SigOK CRe := sigOK_cons (entryPure (fewP) Tryd.func9 rfl (by decide)) (sigOK_cons (entryPure (aliveP) Tryd.func10 rfl (by decide)) (sigOK_cons (entryPure (valueP) Tryd.func11 rfl (by decide)) (sigOK_cons (entryPure (valueR) Tryd.func12 rfl (by decide)) (sigOK_cons (entryPure (dualP) Tryd.func13 rfl (by decide)) (sigOK_cons (entryPure (dualR) Tryd.func14 rfl (by decide)) (sigOK_cons (entryPure (checkP) Tryd.func15 rfl (by decide)) (sigOK_cons (entryPure (checkR) Tryd.func16 rfl (by decide)) (sigOK_cons (entryPure (feasibleP) Tryd.func17 rfl (by decide)) (sigOK_cons (entryPure (feasibleR) Tryd.func18 rfl (by decide)) (sigOK_cons (entryPure (sameR) Tryd.func19 rfl (by decide)) (sigOK_nil _ _)))))))))))
theorem small_dualF {l : Lin} (h : SmallL l) : SmallL (dualF l).1 := by
  unfold dualF
  split
  · exact ⟨by simp [L00], by simp [L00], by simp [L00], by simp [L00]⟩
  · split
    · exact ⟨by simp [L00], by simp [L00], by simp [L00], by simp [L00]⟩
    · exact small_dual h
set_option maxHeartbeats 16000000 in
theorem lawReads : PureOK Tryd.prog G0 3 (spec2 (fun (_ : Lin) (_ : List Fr) => True) (fun _ _ => .bool true)) := by
  refine pureH2 (C := CRe) sigCRe mixCRe Tryd.func3 rfl rfl rfl [7] (by kernel_rfl) (by decide) (fun l x _ => ?_)
  by_cases h1 : FewL l
  case neg => simp [aev, cav, look, acallPure, abin, abinN, abinP, abinI, abinS, aun, aconv, afield, afieldAddr, aindexAddr, aindex, aslice, alow, ahigh, abuild, abuildGo, cellsOf, splice, fieldTy, alen, apick, amax, amin, aload, headV, aparts, abuildSlice, elParts, abytesStr, astore, amake, aappend, aclear, anew, arith, aresults, aresList, ares, spec0, spec1, spec2, spec3, spec4, eqCells, eqCell, sFew, h1]
  by_cases h2 : (60 : Int) < x.length
  · simp [aev, cav, look, acallPure, abin, abinN, abinP, abinI, abinS, aun, aconv, afield, afieldAddr, aindexAddr, aindex, aslice, alow, ahigh, abuild, abuildGo, cellsOf, splice, fieldTy, alen, apick, amax, amin, aload, headV, aparts, abuildSlice, elParts, abytesStr, astore, amake, aappend, aclear, anew, arith, aresults, aresList, ares, spec0, spec1, spec2, spec3, spec4, eqCells, eqCell, sFew, h1, h2]
  have hs := few_small h1
  have hc : l.C.length ≤ 1000 := hs.c
  have hx : x.length ≤ 1000 := by omega
  have hd := small_dualF hs
  obtain ⟨v, vb, hv⟩ : ∃ v vb, valueF l x = (v, vb) := ⟨_, _, rfl⟩
  obtain ⟨d, e, hde⟩ : ∃ d e, dualF l = (d, e) := ⟨_, _, rfl⟩
  rw [hde] at hd
  obtain ⟨fb, hfb⟩ : ∃ b, feasB l x = b := ⟨_, rfl⟩
  simp [aev, cav, look, acallPure, abin, abinN, abinP, abinI, abinS, aun, aconv, afield, afieldAddr, aindexAddr, aindex, aslice, alow, ahigh, abuild, abuildGo, cellsOf, splice, fieldTy, alen, apick, amax, amin, aload, headV, aparts, abuildSlice, elParts, abytesStr, astore, amake, aappend, aclear, anew, arith, aresults, aresList, ares, spec0, spec1, spec2, spec3, spec4, eqCells, eqCell, sFew, h1, h2, sValueF, hc, hv, sDual, hs, hde]
  refine AW_regionF sigCRe mixCRe [.read, .read, .read, .read, .pure, .pure, .read, .pure, .read, .read, .pure, .read, .pure, .pure, .pure, .read, .read, .pure, .pure, .pure, .pure, .pure, .pure, .pure, .pure, .read, .read, .read, .pure, .pure, .pure, .pure, .pure, .pure, .pure, .read, .pure, .pure] [[],[0],[],[0,1,2],[2,3,0,1],[1,0,3,2,4],[4,2,3,0,1,5],[4,2,3,0,1,5],[7,5,1,0,3,2,4,6],[4,2,3,0,1,5],[4,2,3,0,1,5],[6,7,8,10,5,1,0,3,2,4,9],[9,10,11,6,4,2,3,0,1,5,7,8],[8,7,6,11,10,9,12,4,2,3,0,1,5],[5,1,0,3,2,4,12,9,10,11,6,7,8,13],[13,8,7,6,11,10,9,12,4,2,3,0,1,5,14],[13,8,7,6,11,10,9,12,4,2,3,0,1,5,14],[16,14,5,1,0,3,2,4,12,9,10,11,6,7,8,13,15],[15,16,17,13,8,7,6,11,10,9,12,4,2,3,0,1,5,14],[14,5,1,0,3,2,4,12,9,10,11,6,7,8,13,17,16,15,18],[18,15,16,17,13,8,7,6,11,10,9,12,4,2,3,0,1,5,14,19],[18,15,16,17,13,8,7,6,11,10,9,12,4,2,3,0,1,5,14,19],[21,19,14,5,1,0,3,2,4,12,9,10,11,6,7,8,13,17,16,15,18,20],[20,21,22,18,15,16,17,13,8,7,6,11,10,9,12,4,2,3,0,1,5,14,19],[19,14,5,1,0,3,2,4,12,9,10,11,6,7,8,13,17,16,15,18,22,21,20,23],[23,20,21,22,18,15,16,17,13,8,7,6,11,10,9,12,4,2,3,0,1,5,14,19,24],[23,20,21,22,18,15,16,17,13,8,7,6,11,10,9,12,4,2,3,0,1,5,14,19,24],[26,24,19,14,5,1,0,3,2,4,12,9,10,11,6,7,8,13,17,16,15,18,22,21,20,23,25],[25,26,27,23,20,21,22,18,15,16,17,13,8,7,6,11,10,9,12,4,2,3,0,1,5,14,19,24],[24,19,14,5,1,0,3,2,4,12,9,10,11,6,7,8,13,17,16,15,18,22,21,20,23,27,26,25,28],[28,25,26,27,23,20,21,22,18,15,16,17,13,8,7,6,11,10,9,12,4,2,3,0,1,5,14,19,24,29],[28,25,26,27,23,20,21,22,18,15,16,17,13,8,7,6,11,10,9,12,4,2,3,0,1,5,14,19,24,29],[31,29,24,19,14,5,1,0,3,2,4,12,9,10,11,6,7,8,13,17,16,15,18,22,21,20,23,27,26,25,28,30],[30,31,32,28,25,26,27,23,20,21,22,18,15,16,17,13,8,7,6,11,10,9,12,4,2,3,0,1,5,14,19,24,29],[29,24,19,14,5,1,0,3,2,4,12,9,10,11,6,7,8,13,17,16,15,18,22,21,20,23,27,26,25,28,32,31,30,33],[33,30,31,32,28,25,26,27,23,20,21,22,18,15,16,17,13,8,7,6,11,10,9,12,4,2,3,0,1,5,14,19,24,29,34],[35,33,30,31,32,28,25,26,27,23,20,21,22,18,15,16,17,13,8,7,6,11,10,9,12,4,2,3,0,1,5,14,19,24,29,34],[34,29,24,19,14,5,1,0,3,2,4,12,9,10,11,6,7,8,13,17,16,15,18,22,21,20,23,27,26,25,28,32,31,30,33,35,36]] (by kernel_rfl) (by kernel_rfl) (by kernel_rfl) (by kernel_rfl) ?_
  simp [aev, cav, look, acallPure, abin, abinN, abinP, abinI, abinS, aun, aconv, afield, afieldAddr, aindexAddr, aindex, aslice, alow, ahigh, abuild, abuildGo, cellsOf, splice, fieldTy, alen, apick, amax, amin, aload, headV, aparts, abuildSlice, elParts, abytesStr, astore, amake, aappend, aclear, anew, arith, aresults, aresList, ares, spec0, spec1, spec2, spec3, spec4, eqCells, eqCell, sCheckF, hs, sFeas, hx, hfb, sSameL, hd, LinEq]
  done
end Go.Proofs.YtifbaegnkodneaaDoor

/-
  layer 30: SimplexTwice.
-/
namespace Go.Proofs.YtifbaegnkodneaaDoor
open Go.RowKit
set_option linter.unusedSimpArgs false
set_option linter.unusedVariables false
set_option maxRecDepth 100000

theorem negF_negF {a : Fr} (h : ValidF a) : negF (negF a) = a := by
  rw [negF_valid (valid_neg h), negF_valid h]
  simp
theorem map_neg2 {l : List Fr} (h : AllV l) : (l.map negF).map negF = l := by
  rw [List.map_map]
  conv => { rhs; rw [← List.map_id l] }
  exact List.map_congr_left fun a ha => negF_negF (h a ha)
theorem allV_neg {l : List Fr} (h : AllV l) : AllV (l.map negF) := fun f hf => by
  obtain ⟨a, ha, rfl⟩ := List.mem_map.1 hf
  exact valid_neg (h a ha)
theorem ix_mapN {α β : Type} [Inhabited α] [Inhabited β] {f : α → β} {l : List α} {i : Nat} (h : i < l.length) : ix (l.map f) i = f (ix l i) := by
  rw [ix_lt (by rw [List.length_map]; exact h), List.getElem_map, ix_lt h]
theorem ix_range {β : Type} [Inhabited β] {f : Nat → β} {n i : Nat} (h : i < n) : ix ((List.range n).map f) i = f i := by
  rw [ix_lt (by rw [List.length_map, List.length_range]; exact h), List.getElem_map, List.getElem_range]
theorem dual_dual {l : Lin} (h : checkF l = 0) : dualL (dualL l) = l := by
  obtain ⟨k1, k2, k3, k4, k5, k6, k7⟩ := check_zero h
  have hA : (List.range (dualL l).C.length).map (fun j => (dualL l).A.map fun a => negF (ix a j)) = l.A := by
    refine List.ext_getElem (by simp [dualL, k4]) fun i h1 h2 => ?_
    have hi : i < l.A.length := h2
    obtain ⟨q1, q2⟩ := k7 _ (List.getElem_mem h2)
    rw [List.getElem_map, List.getElem_range]
    refine List.ext_getElem (by simp [dualL, q1]) fun j h3 h4 => ?_
    have hj : j < l.C.length := by rw [← q1]; exact h4
    rw [List.getElem_map]
    have e : ∀ h, ((dualL l).A)[j]'h = l.A.map (fun a => negF (ix a j)) := fun h => by simp [dualL]
    rw [e, ix_mapN hi, ix_lt hi, ix_lt h4]
    exact negF_negF (q2 _ (List.getElem_mem h4))
  show Lin.mk _ _ _ = l
  rw [hA]
  show Lin.mk l.A ((l.B.map negF).map negF) ((l.C.map negF).map negF) = l
  rw [map_neg2 k5, map_neg2 k6]
theorem dualF_ok {l : Lin} (h : (dualF l).2 = 0) : checkF l = 0 ∧ checkF (dualL l) = 0 ∧ dualF l = (dualL l, 0) := by
  unfold dualF at h ⊢
  by_cases h1 : checkF l = 0
  · rw [if_neg (fun h => h h1)] at h ⊢
    by_cases h2 : checkF (dualL l) = 0
    · rw [if_neg (fun h => h h2)]
      exact ⟨h1, h2, rfl⟩
    · rw [if_pos h2] at h
      exact absurd h h2
  · rw [if_pos h1] at h
    exact absurd h h1
theorem dual_twice {l : Lin} (h : (dualF l).2 = 0) : dualF (dualF l).1 = (l, 0) := by
  obtain ⟨h1, h2, h3⟩ := dualF_ok h
  rw [h3]
  show dualF (dualL l) = (l, 0)
  unfold dualF
  rw [if_neg (fun h => h h2), dual_dual h1, if_neg (fun h => h h1)]
noncomputable def CTw : Ctx := mkC Tryd.prog G0 [(9, .pure sFew), (10, .pure (spec0 (.bool true))), (13, .pure sDual), (19, .pure sSameL)]
@[simp] theorem CTw_P : CTw.P = Tryd.prog := rfl
@[simp] theorem CTw_G : CTw.G = G0 := rfl
@[simp] theorem CTw_1 : CTw.S 9 = .pure sFew := rfl
@[simp] theorem CTw_2 : CTw.S 10 = .pure (spec0 (.bool true)) := rfl
@[simp] theorem CTw_3 : CTw.S 13 = .pure sDual := rfl
@[simp] theorem CTw_4 : CTw.S 19 = .pure sSameL := rfl
theorem mixCTw : CTw.P.follows .mixedOrders = true := mixed
theorem sigCTw : SigOK CTw := sigOK_cons (entryPure (fewP) Tryd.func9 rfl (by decide)) (sigOK_cons (entryPure (aliveP) Tryd.func10 rfl (by decide)) (sigOK_cons (entryPure (dualP) Tryd.func13 rfl (by decide)) (sigOK_cons (entryPure (sameR) Tryd.func19 rfl (by decide)) (sigOK_nil _ _))))
set_option maxHeartbeats 16000000 in
theorem lawTwice : PureOK Tryd.prog G0 7 (spec1 (fun (_ : Lin) => True) (fun _ => .bool true)) := by
  refine pureH1 (C := CTw) sigCTw mixCTw Tryd.func7 rfl rfl rfl [] (by kernel_rfl) (by decide) (fun l _ => ?_)
  by_cases h1 : FewL l
  case neg => simp [aev, cav, look, acallPure, abin, abinN, abinP, abinI, abinS, aun, aconv, afield, afieldAddr, aindexAddr, aindex, aslice, alow, ahigh, abuild, abuildGo, cellsOf, splice, fieldTy, alen, apick, amax, amin, aload, headV, aparts, abuildSlice, elParts, abytesStr, astore, amake, aappend, aclear, anew, arith, aresults, aresList, ares, spec0, spec1, spec2, spec3, spec4, eqCells, eqCell, sFew, h1]
  have hs := few_small h1
  have hd := small_dualF hs
  obtain ⟨d, e, hde⟩ : ∃ d e, dualF l = (d, e) := ⟨_, _, rfl⟩
  have ht := dual_twice (l := l)
  rw [hde] at hd ht
  by_cases h2 : e = 0
  · have ht := ht h2
    subst h2
    simp [aev, cav, look, acallPure, abin, abinN, abinP, abinI, abinS, aun, aconv, afield, afieldAddr, aindexAddr, aindex, aslice, alow, ahigh, abuild, abuildGo, cellsOf, splice, fieldTy, alen, apick, amax, amin, aload, headV, aparts, abuildSlice, elParts, abytesStr, astore, amake, aappend, aclear, anew, arith, aresults, aresList, ares, spec0, spec1, spec2, spec3, spec4, eqCells, eqCell, sFew, h1, sDual, hs, hde, hd, ht, sSameL, LinEq]
  · simp [aev, cav, look, acallPure, abin, abinN, abinP, abinI, abinS, aun, aconv, afield, afieldAddr, aindexAddr, aindex, aslice, alow, ahigh, abuild, abuildGo, cellsOf, splice, fieldTy, alen, apick, amax, amin, aload, headV, aparts, abuildSlice, elParts, abytesStr, astore, amake, aappend, aclear, anew, arith, aresults, aresList, ares, spec0, spec1, spec2, spec3, spec4, eqCells, eqCell, sFew, h1, sDual, hs, hde, h2]
end Go.Proofs.YtifbaegnkodneaaDoor

/-
  layer 30: arguments read as fractions and programs.
-/
namespace Go.Proofs.YtifbaegnkodneaaDoor
open Go.RowKit
set_option linter.unusedSimpArgs false
set_option linter.unusedVariables false
set_option maxRecDepth 100000

theorem reads_i : Reads Tryd.prog 3 Int I64 := reads_int (by kernel_rfl)
def WfFr (f : Fr) : Prop := I64 f.N ∧ I64 f.D
theorem reads_fr : Reads Tryd.prog 29 Fr WfFr := fun n => by
  intro H enc w held cs x hx
  obtain ⟨m, rfl, hl, hf⟩ := struct_cells ⟨_, rfl⟩ hx
  obtain ⟨y0, t0⟩ := hf 0 0 3 (by kernel_rfl)
  obtain ⟨y1, t1⟩ := hf 1 1 3 (by kernel_rfl)
  obtain ⟨a, wa, ca⟩ := reads_i m enc w held _ _ t0
  obtain ⟨b, wb, cb⟩ := reads_i m enc w held _ _ t1
  exact ⟨⟨a, b⟩, ⟨wa, wb⟩, CellsD.split (o := 0) (s := 1) ca (CellsD.split (s := 1) cb (CellsD.last (by rw [hl, show szT Tryd.prog 29 = 2 by kernel_rfl]; exact Nat.le_refl _)))⟩
theorem reads_frs : Reads Tryd.prog 23 (List Fr) (WfL WfFr) := reads_list (by kernel_rfl) (by kernel_rfl) (of_decide_eq_true (by kernel_rfl)) reads_fr
theorem reads_frss : Reads Tryd.prog 22 (List (List Fr)) (WfL (WfL WfFr)) := reads_list (e := 23) (by kernel_rfl) (by kernel_rfl) (of_decide_eq_true (by kernel_rfl)) reads_frs
def WfLin (l : Lin) : Prop := WfL (WfL WfFr) l.A ∧ WfL WfFr l.B ∧ WfL WfFr l.C
theorem reads_lin : Reads Tryd.prog 25 Lin WfLin := fun n => by
  intro H enc w held cs x hx
  obtain ⟨m, rfl, hl, hf⟩ := struct_cells ⟨_, rfl⟩ hx
  obtain ⟨y0, t0⟩ := hf 0 0 22 (by kernel_rfl)
  obtain ⟨y1, t1⟩ := hf 1 1 23 (by kernel_rfl)
  obtain ⟨y2, t2⟩ := hf 2 2 23 (by kernel_rfl)
  obtain ⟨a, wa, ca⟩ := reads_frss m enc w held _ _ t0
  obtain ⟨b, wb, cb⟩ := reads_frs m enc w held _ _ t1
  obtain ⟨c, wc, cc⟩ := reads_frs m enc w held _ _ t2
  exact ⟨⟨a, b, c⟩, ⟨wa, wb, wc⟩, CellsD.split (o := 0) (s := 1) ca (CellsD.split (s := 1) cb (CellsD.split (s := 1) cc (CellsD.last (by rw [hl, show szT Tryd.prog 25 = 3 by kernel_rfl]; exact Nat.le_refl _))))⟩
abbrev laidZ : List (String × DataW Unit) := [("graphdb/frac.zero", Rows.laid_graphdb_frac_zero)]
theorem trod_i {w : World} {n : Nat} {cs : List Value} {z : Int} {p : List MemPlace} (h : DataW.trod (fun _ => ()) Tryd.prog w 0 (fun _ => true) false n 3 cs = some (.lit (.int .i64 z), p)) : cs = [.int .i64 z] := by
  cases n with
  | zero => simp [DataW.trod] at h
  | succ n =>
    unfold DataW.trod at h
    have hu : Tryd.prog.underlying 3 = some (.int .i64) := by kernel_rfl
    rw [hu] at h
    split at h <;> simp_all
theorem hG_of_laid {W : World} (h : laidMetH Tryd.prog laidZ W) : ∀ g, RepD W (fun _ => False) (.pointer (some ⟨g, 0, none⟩)) (G0 g) := by
  rw [MakeChecks.laidMetH_plain _ _ _ (by kernel_rfl)] at h
  obtain ⟨ps, ⟨g0, t0, cs0, f0, p0, q0, hg, ht, hv, hd, _, _⟩, _, _⟩ := h
  have hgt : Tryd.prog.globalNamed "graphdb/frac.zero" = some 0 := by kernel_rfl
  have htt : (Tryd.prog.globals[0]?).map (·.type) = some 29 := by kernel_rfl
  obtain rfl := Option.some.inj (hgt.symm.trans hg)
  obtain rfl := Option.some.inj (htt.symm.trans ht)
  obtain ⟨y0, y1, m, hda, hl, k0, k1⟩   := ChangeShapes.trod_struct2 (P := Tryd.prog) (t := 29) Tryd.underlying29 hd
  have hl : cs0.toList.length = 2 := hl
  have k0 : DataW.trod (fun _ => ()) Tryd.prog W 0 (fun _ => true) false m 3 ((cs0.toList.drop 0).take 1) = some y0 := k0
  have k1 : DataW.trod (fun _ => ()) Tryd.prog W 0 (fun _ => true) false m 3 ((cs0.toList.drop 1).take 1) = some y1 := k1
  have e : (DataW.lit (Lit.int .i64 0) : DataW Unit) = y0.1 ∧ (DataW.lit (Lit.int .i64 1) : DataW Unit) = y1.1 := by
    have := congrArg Prod.fst hda
    simp only [Rows.laid_graphdb_frac_zero, DataW.agg.injEq, List.cons.injEq, and_true] at this
    exact this
  obtain ⟨a0, b0⟩ := y0
  obtain ⟨a1, b1⟩ := y1
  obtain ⟨rfl, rfl⟩ := e
  have c0 := trod_i k0
  have c1 := trod_i k1
  have hcs : cs0.toList = [.int .i64 0, .int .i64 1] := by
    match hc : cs0.toList with
    | [x, y] => rw [hc] at c0 c1; simp at c0 c1; rw [c0, c1]
    | [] => rw [hc] at hl; simp at hl
    | [_] => rw [hc] at hl; simp at hl
    | _ :: _ :: _ :: _ => rw [hc] at hl; simp at hl
  intro g
  unfold G0
  split
  · rename_i hg0
    subst hg0
    unfold World.var? at hv
    rw [hgt] at hv
    simp only [Option.bind_some] at hv
    split at hv
    · rename_i cs t fr hb
      injection hv with hv
      subst hv
      have hcell : ∀ j, W.cell? ⟨0, 0 + j, none⟩ = cs.toList[j]? := fun j => by
        unfold World.cell?
        simp [hb]
      refine .iptr 0 0 _ (fun j => if j = 0 then .int .i64 0 else .int .i64 1) (by have := (Array.getElem?_eq_some_iff.1 hb).1; exact this) id (fun j hj => ?_) (fun j v hj => ?_)
      · have hj : j < 2 := hj
        rw [hcell, hcs]
        match j, hj with
        | 0, _ => exact ⟨rfl, rfl⟩
        | 1, _ => exact ⟨rfl, rfl⟩
      · match j, hj with
        | 0, hj => simp at hj; rw [← hj]; exact .int _ _
        | 1, hj => simp at hj; rw [← hj]; exact .int _ _
        | j + 2, hj => simp at hj
    · cases hv
  · exact .undef _
end Go.Proofs.YtifbaegnkodneaaDoor
