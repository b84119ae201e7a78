/-
  layer 18: how many parts a clause has, as the reference adds them up.
-/
import Derived.Test.YthcfnaglgoaikaaGreatS17
namespace Go.Proofs.YthcfnaglgoaikaaGreat
open Go.RowKit
set_option linter.unusedSimpArgs false
set_option linter.unusedVariables false
set_option maxRecDepth 100000

def exprsL (l : List NodePat) : List Expr := l.flatMap fun x => x.props.map (·.e)
def nsum (l : List NodePat) : Nat := (l.map fun x => x.props.length).sum
def esum (l : List EdgePat) : Nat := (l.map fun x => x.props.length).sum
theorem exprsL_len : ∀ (ns : List NodePat) (es : List EdgePat), (exprsL (partsL ns es)).length ≤ nsum ns + esum es
  | [], es => by simp [partsL, exprsL]
  | n :: ns, [] => by
    have := exprsL_len ns []
    simp only [partsL, exprsL, List.flatMap_cons, List.length_append, List.length_map, nsum, esum, List.map_cons, List.sum_cons, List.map_nil, List.sum_nil] at this ⊢
    omega
  | n :: ns, e :: es => by
    have := exprsL_len ns es
    simp only [partsL, exprsL, List.flatMap_cons, List.length_append, List.length_map, nsum, esum, List.map_cons, List.sum_cons, edgeN] at this ⊢
    omega
theorem nsum_take : ∀ (l : List NodePat) (i : Nat), i < l.length → nsum (l.take i) + (ix l i).props.length ≤ nsum l
  | n :: l, 0, _ => by simp [nsum, ix]
  | n :: l, i + 1, h => by
    have := nsum_take l i (by simpa using h)
    have e : ix (n :: l) (i + 1) = ix l i := rfl
    rw [e]
    simp only [List.take_succ_cons, nsum, List.map_cons, List.sum_cons] at this ⊢
    omega
theorem esum_ge {e : EdgePat} : ∀ {l : List EdgePat}, e ∈ l → e.props.length ≤ esum l
  | y :: r, h => by
    simp only [esum, List.map_cons, List.sum_cons]
    rcases List.mem_cons.1 h with rfl | h
    · omega
    · have := esum_ge h
      simp only [esum] at this
      omega
/-- Where the expressions of the first i nodes (and their edges) stand. -/
theorem exprs_at (ns : List NodePat) (es : List EdgePat) (i : Nat) (h : i < ns.length) : exprsL (partsL (ns.take (i + 1)) es) = exprsL (partsL (ns.take i) es) ++ ((ix ns i).props.map (·.e) ++ if i < es.length then (ix es i).props.map (·.e) else []) := by
  rw [partsL_take ns es i h]
  unfold exprsL
  rw [List.flatMap_append, List.flatMap_cons]
  split <;> simp [edgeN]
theorem exprs_bound (ns : List NodePat) (es : List EdgePat) (i : Nat) (h : i < ns.length) : (exprsL (partsL (ns.take i) es)).length + (ix ns i).props.length + (if i < es.length then (ix es i).props.length else 0) ≤ nsum ns + esum es := by
  have h1 := exprsL_len (ns.take (i + 1)) es
  rw [exprs_at ns es i h] at h1
  have h2 : nsum (ns.take (i + 1)) ≤ nsum ns := by
    rcases Nat.lt_or_ge (i + 1) ns.length with h3 | h3
    · have := nsum_take ns (i + 1) h3; omega
    · rw [List.take_of_length_le h3]; exact Nat.le_refl _
  simp only [List.length_append, List.length_map] at h1
  split at h1 <;> rename_i h3
  · rw [if_pos h3]
    simp only [List.length_map] at h1
    omega
  · rw [if_neg h3]
    simp only [List.length_nil] at h1
    omega
theorem take_succ' {α : Type} [Inhabited α] {l : List α} {k : Nat} (h : k < l.length) : l.take (k + 1) = l.take k ++ [ix l k] := by
  rw [List.take_add_one, List.getElem?_eq_getElem h, ix_lt h]
  rfl
theorem ix_map_e {l : List PropPat} {k : Nat} (h : k < l.length) : ix (l.map (·.e)) k = (ix l k).e := by
  rw [ix_lt (by simpa using h), ix_lt h]
  simp
def WfPS (p : PathPat) : Prop := WfP p ∧ nsum p.nodes + esum p.edges ≤ 1048576
def OX (l : List Expr) : Blk := ⟨33, 9, encRows l, true, true⟩

section
variable {m : Int}
def sProps : List AV → Option (Prop × AV) := spec1 (fun (p : PathPat) => WfPS p) (fun p => Enc.enc (exprsL (partsL p.nodes p.edges)))
set_option maxHeartbeats 8000000 in
theorem propsR : PureOK Tryz.prog (G m) 18 sProps := by
  refine pure1 (C := CE m) (sigCE m) (mixCE m) Tryz.func18 rfl rfl rfl (by kernel_rfl) (by decide) (fun p ⟨⟨wv, ⟨wn, wN⟩, we, wE⟩, hb⟩ => ?_)
  have we' := maxLen_le we
  simp [aev, cav, look, acallPure, abin, abinN, abinP, abinI, abinS, aun, aconv, afield, afieldAddr, aindexAddr, aindex, aslice, alow, ahigh, abuild, abuildGo, cellsOf, splice, fieldTy, alen, apick, amax, amin, aload, headV, aparts, abuildSlice, elParts, abytesStr, astore, amake, aappend, anew, arith, aresults, aresList, ares, spec0, spec1, spec2, spec3, spec4, eqCells, eqCell]
  refine loop_rule (C := CE m) (sigCE m) (mixCE m) (fun i : Nat => ⟨[(1, .ptr 0 1 3 0 0), (3, .own 1 (exprsL (partsL (p.nodes.take i) p.edges)).length), (4, .int .i64 i)], [PB p, OX (exprsL (partsL (p.nodes.take i) p.edges))]⟩) (fun i => i ≤ p.nodes.length) (fun i => p.nodes.length - i) (by kernel_rfl) ⟨0, by simp, (weak_nil 3 9 33 (by simp) (by decide)).trans (weak_slots (by simp [partsL, exprsL, PB]))⟩ (fun i hi => ?_)
  by_cases hlt : i < p.nodes.length
  · have i1 : I64 ((i : Int) + 1) := by unfold I64; omega
    obtain ⟨w1, _, w4, w5⟩ := wN _ (ix_mem hlt)
    have hbd := exprs_bound p.nodes p.edges i hlt
    have hat := exprs_at p.nodes p.edges i hlt
    obtain ⟨L, hL⟩ : ∃ L, L = exprsL (partsL (p.nodes.take i) p.edges) := ⟨_, rfl⟩
    rw [← hL] at hbd hat
    obtain ⟨X, hX⟩ : ∃ X, X = (ix p.nodes i).props.map (·.e) := ⟨_, rfl⟩
    have hXl : X.length = (ix p.nodes i).props.length := by rw [hX]; simp
    rw [← hX] at hat
    simp [aev, cav, look, acallPure, abin, abinN, abinP, abinI, abinS, aun, aconv, afield, afieldAddr, aindexAddr, aindex, aslice, alow, ahigh, abuild, abuildGo, cellsOf, splice, fieldTy, alen, apick, amax, amin, aload, headV, aparts, abuildSlice, elParts, abytesStr, astore, amake, aappend, anew, arith, aresults, aresList, ares, spec0, spec1, spec2, spec3, spec4, eqCells, eqCell, PB, OX, hlt, rowAt_enc hlt, ← hL]
    refine loop_rule (C := CE m) (sigCE m) (mixCE m) (fun k : Nat => ⟨[(1, .ptr 0 1 3 0 0), (3, .own 1 (L ++ X.take k).length), (4, .int .i64 i), (5, .int .i64 k)], [PB p, OX (L ++ X.take k)]⟩) (fun k => k ≤ X.length) (fun k => X.length - k) (by kernel_rfl) ⟨0, by simp, weak_keep 2 (by simp) (by simp) (by simp [AV.clean, AV.clean1]) (by simp) (by simp [PB, OX])⟩ (fun k hk => ?_)
    by_cases hkl : k < X.length
    · have i2 : I64 ((k : Int) + 1) := by unfold I64; omega
      have hkl2 : k < (ix p.nodes i).props.length := by omega
      have hXk : ix X k = (ix (ix p.nodes i).props k).e := by rw [hX]; exact ix_map_e hkl2
      have hmin : min k X.length = k := by omega
      have hmin2 : min (k + 1) X.length = k + 1 := by omega
      simp [aev, cav, look, acallPure, abin, abinN, abinP, abinI, abinS, aun, aconv, afield, afieldAddr, aindexAddr, aindex, aslice, alow, ahigh, abuild, abuildGo, cellsOf, splice, fieldTy, alen, apick, amax, amin, aload, headV, aparts, abuildSlice, elParts, abytesStr, astore, amake, aappend, anew, arith, aresults, aresList, ares, spec0, spec1, spec2, spec3, spec4, eqCells, eqCell, PB, OX, hlt, hkl2, rowAt_enc hlt, ← hL, rowAt_enc hkl2, i2, hmin]
      refine ⟨⟨by omega, by omega⟩, k + 1, by omega, by omega, ?_⟩
      exact weak_keep 2 (by simp [hmin, hmin2] <;> omega) (by simp) (by simp [AV.clean, AV.clean1]) (by simp) (by simp [PB, OX, encRows, take_succ' hkl, hXk])
    have hkl2 : ¬ k < (ix p.nodes i).props.length := by omega
    have hk2 : X.take k = X := List.take_of_length_le (by omega)
    rw [hk2]
    by_cases h2 : i < p.edges.length
    · rw [if_pos h2] at hbd hat
      obtain ⟨M, hM⟩ : ∃ M, M = L ++ X := ⟨_, rfl⟩
      have hMl : M.length = L.length + X.length := by rw [hM]; simp
      obtain ⟨Y, hY⟩ : ∃ Y, Y = (ix p.edges i).props.map (·.e) := ⟨_, rfl⟩
      have hYl : Y.length = (ix p.edges i).props.length := by rw [hY]; simp
      have hML : M.length = L.length + X.length := hMl
      rw [← hM]
      have hlen2 : L.length + X.length = M.length := hMl.symm
      have hat2 : exprsL (partsL (p.nodes.take (i + 1)) p.edges) = M ++ Y := by rw [hat, hM, hY, List.append_assoc]
      simp [aev, cav, look, acallPure, abin, abinN, abinP, abinI, abinS, aun, aconv, afield, afieldAddr, aindexAddr, aindex, aslice, alow, ahigh, abuild, abuildGo, cellsOf, splice, fieldTy, alen, apick, amax, amin, aload, headV, aparts, abuildSlice, elParts, abytesStr, astore, amake, aappend, anew, arith, aresults, aresList, ares, spec0, spec1, spec2, spec3, spec4, eqCells, eqCell, PB, OX, hlt, rowAt_enc hlt, h2, rowAt_enc h2, hkl2]
      refine loop_rule (C := CE m) (sigCE m) (mixCE m) (fun k : Nat => ⟨[(1, .ptr 0 1 3 0 0), (3, .own 1 (M ++ Y.take k).length), (4, .int .i64 i), (6, .int .i64 k)], [PB p, OX (M ++ Y.take k)]⟩) (fun k => k ≤ Y.length) (fun k => Y.length - k) (by kernel_rfl) ⟨0, by simp, weak_keep 2 (by simp) (by simp) (by simp [AV.clean, AV.clean1]) (by simp) (by simp [PB, OX])⟩ (fun k hk => ?_)
      by_cases hkl : k < Y.length
      · have i2 : I64 ((k : Int) + 1) := by unfold I64; omega
        have hkl2 : k < (ix p.edges i).props.length := by omega
        have hXk : ix Y k = (ix (ix p.edges i).props k).e := by rw [hY]; exact ix_map_e hkl2
        have hmin : min k Y.length = k := by omega
        have hmin2 : min (k + 1) Y.length = k + 1 := by omega
        simp [aev, cav, look, acallPure, abin, abinN, abinP, abinI, abinS, aun, aconv, afield, afieldAddr, aindexAddr, aindex, aslice, alow, ahigh, abuild, abuildGo, cellsOf, splice, fieldTy, alen, apick, amax, amin, aload, headV, aparts, abuildSlice, elParts, abytesStr, astore, amake, aappend, anew, arith, aresults, aresList, ares, spec0, spec1, spec2, spec3, spec4, eqCells, eqCell, PB, OX, hlt, hkl2, rowAt_enc hlt, h2, rowAt_enc h2, rowAt_enc hkl2, i2, hmin]
        refine ⟨⟨by omega, by omega⟩, k + 1, by omega, by omega, ?_⟩
        exact weak_keep 2 (by simp [hmin, hmin2] <;> omega) (by simp) (by simp [AV.clean, AV.clean1]) (by simp) (by simp [PB, OX, encRows, take_succ' hkl, hXk])
      have hkl2 : ¬ k < (ix p.edges i).props.length := by omega
      have hk2 : Y.take k = Y := List.take_of_length_le (by omega)
      rw [hk2]
      simp [aev, cav, look, acallPure, abin, abinN, abinP, abinI, abinS, aun, aconv, afield, afieldAddr, aindexAddr, aindex, aslice, alow, ahigh, abuild, abuildGo, cellsOf, splice, fieldTy, alen, apick, amax, amin, aload, headV, aparts, abuildSlice, elParts, abytesStr, astore, amake, aappend, anew, arith, aresults, aresList, ares, spec0, spec1, spec2, spec3, spec4, eqCells, eqCell, PB, OX, hlt, hkl2, h2, rowAt_enc hlt, rowAt_enc h2, i1]
      refine ⟨i + 1, by omega, by omega, ?_⟩
      rw [hat2]
      exact weak_keep 2 (by simp) (by simp) (by simp [AV.clean, AV.clean1]) (by simp) (by simp [PB, OX])
    · rw [if_neg h2, List.append_nil] at hat
      simp [aev, cav, look, acallPure, abin, abinN, abinP, abinI, abinS, aun, aconv, afield, afieldAddr, aindexAddr, aindex, aslice, alow, ahigh, abuild, abuildGo, cellsOf, splice, fieldTy, alen, apick, amax, amin, aload, headV, aparts, abuildSlice, elParts, abytesStr, astore, amake, aappend, anew, arith, aresults, aresList, ares, spec0, spec1, spec2, spec3, spec4, eqCells, eqCell, PB, OX, hlt, hkl2, h2, rowAt_enc hlt, i1]
      refine ⟨i + 1, by omega, by omega, ?_⟩
      rw [hat]
      exact weak_keep 2 (by simp) (by simp) (by simp [AV.clean, AV.clean1]) (by simp) (by simp [PB, OX])
  · have e : p.nodes.take i = p.nodes := List.take_of_length_le (by omega)
    simp [aev, cav, look, acallPure, abin, abinN, abinP, abinI, abinS, aun, aconv, afield, afieldAddr, aindexAddr, aindex, aslice, alow, ahigh, abuild, abuildGo, cellsOf, splice, fieldTy, alen, apick, amax, amin, aload, headV, aparts, abuildSlice, elParts, abytesStr, astore, amake, aappend, anew, arith, aresults, aresList, ares, spec0, spec1, spec2, spec3, spec4, eqCells, eqCell, PB, OX, hlt, e]

def exprW (n : Int) (e : Expr) : Int := w64 (n + sizeE e)
def edgeW (n : Int) (x : EdgePat) : Int := w64 (w64 (n + x.types.length) + x.props.length)
def nodeW (n : Int) (x : NodePat) : Int := w64 (w64 (n + x.labels.length) + x.props.length)
def pathW (n : Int) (p : PathPat) : Int := p.nodes.foldl nodeW (p.edges.foldl edgeW ((exprsL (partsL p.nodes p.edges)).foldl exprW (w64 (w64 (n + p.nodes.length) + p.edges.length))))
def itemW (n : Int) (x : Item) : Int := w64 (n + sizeE x.e)
def sortW (n : Int) (x : SortK) : Int := w64 (n + sizeE x.e)
def setW (n : Int) (x : SetI) : Int := w64 (n + sizeE x.e)
def manyE (c : Clause) : Int := c.sets.foldl setW (c.order.foldl sortW (c.items.foldl itemW (c.wh.foldl exprW (c.paths.foldl pathW (w64 ((c.names.length : Int) + sizeE c.e))))))
def WfCS (c : Clause) : Prop := WfC c ∧ ∀ p ∈ c.paths, WfPS p
noncomputable def CMn (m : Int) : Ctx := mkC Tryz.prog (G m) [(17, .pure sSzA), (18, .pure sProps)]
@[simp] theorem CMn_P (m : Int) : (CMn m).P = Tryz.prog := rfl
@[simp] theorem CMn_1 (m : Int) : (CMn m).S 17 = .pure sSzA := rfl
@[simp] theorem CMn_2 (m : Int) : (CMn m).S 18 = .pure sProps := rfl
theorem mixCMn (m : Int) : (CMn m).P.follows .mixedOrders = true := mixed
theorem sigCMn (m : Int) : SigOK (CMn m) := sigOK_cons (entryPure sizeR_ Tryz.func17 rfl (by decide)) (sigOK_cons (entryPure propsR Tryz.func18 rfl (by decide)) (sigOK_nil _ _))
theorem exprsL_wf {l : List NodePat} (h : ∀ x ∈ l, WfN x) : ∀ e ∈ exprsL l, WfE e := by
  intro e he
  obtain ⟨x, hx, h2⟩ := List.mem_flatMap.1 he
  obtain ⟨q, hq, rfl⟩ := List.mem_map.1 h2
  exact ((h x hx).2.2.2 q hq).2
def sMany : List AV → Option (Prop × AV) := spec1 (fun (c : Clause) => WfCS c) (fun c => .int .i64 (manyE c))
set_option maxHeartbeats 16000000 in
theorem manyR : PureOK Tryz.prog (G m) 6 sMany := by
  refine pure1 (C := CMn m) (sigCMn m) (mixCMn m) Tryz.func6 rfl rfl rfl (by kernel_rfl) (by decide) (fun c ⟨⟨⟨l1, w1⟩, ⟨l2, w2⟩, w3, ⟨l4, w4⟩, ⟨l5, w5⟩, ⟨l6, w6⟩, l7⟩, wp⟩ => ?_)
  have l1' := maxLen_le l1
  have l2' := maxLen_le l2
  have l4' := maxLen_le l4
  have l5' := maxLen_le l5
  have l6' := maxLen_le l6
  have l7' := maxLen_le l7
  obtain ⟨n0, hn0⟩ : ∃ n0, n0 = w64 ((c.names.length : Int) + sizeE c.e) := ⟨_, rfl⟩
  simp [aev, cav, look, acallPure, abin, abinN, abinP, abinI, abinS, aun, aconv, afield, afieldAddr, aindexAddr, aindex, aslice, alow, ahigh, abuild, abuildGo, cellsOf, splice, fieldTy, alen, apick, amax, amin, aload, headV, aparts, abuildSlice, elParts, abytesStr, astore, amake, aappend, anew, arith, aresults, aresList, ares, spec0, spec1, spec2, spec3, spec4, eqCells, eqCell, sSzA, w3, ← hn0]
  refine loop_rule (C := CMn m) (sigCMn m) (mixCMn m) (fun q : Nat × Int => ⟨[(1, .ptr 0 1 21 0 0), (3, .int .i64 q.2), (4, .int .i64 q.1)], [CB c]⟩) (fun q => q.1 ≤ c.paths.length ∧ (c.paths.drop q.1).foldl pathW q.2 = c.paths.foldl pathW n0) (fun q => c.paths.length - q.1) (by kernel_rfl) ⟨(0, n0), by simp, weak_slots (by simp)⟩ (fun ⟨i, x⟩ ⟨hi, hs⟩ => ?_)
  simp only at hi hs ⊢
  by_cases hlt : i < c.paths.length
  · have i1 : I64 ((i : Int) + 1) := by unfold I64; omega
    have wps := wp _ (ix_mem hlt)
    have wps2 := wps
    obtain ⟨⟨pv, ⟨pn, pN⟩, pe, pE⟩, pb⟩ := wps2
    have pe' := maxLen_le pe
    rw [foldl_drop hlt] at hs
    obtain ⟨P, hP⟩ : ∃ P, P = ix c.paths i := ⟨_, rfl⟩
    rw [← hP] at pv pn pN pe pE pb pe' hs wps
    obtain ⟨X, hX⟩ : ∃ X, X = exprsL (partsL P.nodes P.edges) := ⟨_, rfl⟩
    have hXw : ∀ e ∈ X, WfE e := by rw [hX]; exact exprsL_wf (partsL_wf _ _ pN pE)
    have hXl : X.length ≤ 1048576 := by have := exprsL_len P.nodes P.edges; rw [← hX] at this; omega
    obtain ⟨x0, hx0⟩ : ∃ x0, x0 = w64 (w64 (x + P.nodes.length) + P.edges.length) := ⟨_, rfl⟩
    simp [aev, cav, look, acallPure, abin, abinN, abinP, abinI, abinS, aun, aconv, afield, afieldAddr, aindexAddr, aindex, aslice, alow, ahigh, abuild, abuildGo, cellsOf, splice, fieldTy, alen, apick, amax, amin, aload, headV, aparts, abuildSlice, elParts, abytesStr, astore, amake, aappend, anew, arith, aresults, aresList, ares, spec0, spec1, spec2, spec3, spec4, eqCells, eqCell, CB, hlt, rowAt_enc hlt, ← hP, sProps, wps, ← hX, ← hx0]
    refine loop_rule (C := CMn m) (sigCMn m) (mixCMn m) (fun q : Nat × Int => ⟨[(1, .ptr 0 1 21 0 0), (3, .int .i64 q.2), (4, .int .i64 i), (5, Enc.enc X), (6, .int .i64 q.1)], [CB c]⟩) (fun q => q.1 ≤ X.length ∧ (X.drop q.1).foldl exprW q.2 = X.foldl exprW x0) (fun q => X.length - q.1) (by kernel_rfl) ⟨(0, x0), by simp, weak_slots (by simp [CB])⟩ (fun ⟨k, y⟩ ⟨hk, hs1⟩ => ?_)
    simp only at hk hs1 ⊢
    by_cases hkl : k < X.length
    · have i2 : I64 ((k : Int) + 1) := by unfold I64; omega
      have we := hXw _ (ix_mem hkl)
      rw [foldl_drop hkl] at hs1
      simp [aev, cav, look, acallPure, abin, abinN, abinP, abinI, abinS, aun, aconv, afield, afieldAddr, aindexAddr, aindex, aslice, alow, ahigh, abuild, abuildGo, cellsOf, splice, fieldTy, alen, apick, amax, amin, aload, headV, aparts, abuildSlice, elParts, abytesStr, astore, amake, aappend, anew, arith, aresults, aresList, ares, spec0, spec1, spec2, spec3, spec4, eqCells, eqCell, CB, hkl, rowAt_enc hkl, sSzA, we, i2]
      exact ⟨k + 1, exprW y (ix X k), ⟨by omega, hs1⟩, by omega, weak_slots (by simp [exprW])⟩
    rw [List.drop_eq_nil_of_le (by omega), List.foldl_nil] at hs1
    simp [aev, cav, look, acallPure, abin, abinN, abinP, abinI, abinS, aun, aconv, afield, afieldAddr, aindexAddr, aindex, aslice, alow, ahigh, abuild, abuildGo, cellsOf, splice, fieldTy, alen, apick, amax, amin, aload, headV, aparts, abuildSlice, elParts, abytesStr, astore, amake, aappend, anew, arith, aresults, aresList, ares, spec0, spec1, spec2, spec3, spec4, eqCells, eqCell, CB, hkl]
    refine loop_rule (C := CMn m) (sigCMn m) (mixCMn m) (fun q : Nat × Int => ⟨[(1, .ptr 0 1 21 0 0), (3, .int .i64 q.2), (4, .int .i64 i), (7, .int .i64 q.1)], [CB c]⟩) (fun q => q.1 ≤ P.edges.length ∧ (P.edges.drop q.1).foldl edgeW q.2 = P.edges.foldl edgeW (X.foldl exprW x0)) (fun q => P.edges.length - q.1) (by kernel_rfl) ⟨(0, y), ⟨by omega, by rw [hs1]; rfl⟩, weak_slots (by simp [CB])⟩ (fun ⟨k, y⟩ ⟨hk, hs2⟩ => ?_)
    simp only at hk hs2 ⊢
    by_cases hkl : k < P.edges.length
    · have i2 : I64 ((k : Int) + 1) := by unfold I64; omega
      rw [foldl_drop hkl] at hs2
      simp [aev, cav, look, acallPure, abin, abinN, abinP, abinI, abinS, aun, aconv, afield, afieldAddr, aindexAddr, aindex, aslice, alow, ahigh, abuild, abuildGo, cellsOf, splice, fieldTy, alen, apick, amax, amin, aload, headV, aparts, abuildSlice, elParts, abytesStr, astore, amake, aappend, anew, arith, aresults, aresList, ares, spec0, spec1, spec2, spec3, spec4, eqCells, eqCell, CB, hlt, rowAt_enc hlt, ← hP, hkl, rowAt_enc hkl, i2]
      exact ⟨k + 1, edgeW y (ix P.edges k), ⟨by omega, hs2⟩, by omega, weak_slots (by simp [edgeW])⟩
    rw [List.drop_eq_nil_of_le (by omega), List.foldl_nil] at hs2
    simp [aev, cav, look, acallPure, abin, abinN, abinP, abinI, abinS, aun, aconv, afield, afieldAddr, aindexAddr, aindex, aslice, alow, ahigh, abuild, abuildGo, cellsOf, splice, fieldTy, alen, apick, amax, amin, aload, headV, aparts, abuildSlice, elParts, abytesStr, astore, amake, aappend, anew, arith, aresults, aresList, ares, spec0, spec1, spec2, spec3, spec4, eqCells, eqCell, CB, hlt, rowAt_enc hlt, ← hP, hkl]
    refine loop_rule (C := CMn m) (sigCMn m) (mixCMn m) (fun q : Nat × Int => ⟨[(1, .ptr 0 1 21 0 0), (3, .int .i64 q.2), (4, .int .i64 i), (8, .int .i64 q.1)], [CB c]⟩) (fun q => q.1 ≤ P.nodes.length ∧ (P.nodes.drop q.1).foldl nodeW q.2 = pathW x P) (fun q => P.nodes.length - q.1) (by kernel_rfl) ⟨(0, y), ⟨by omega, by rw [hs2, hx0, hX]; rfl⟩, weak_slots (by simp [CB])⟩ (fun ⟨k, y⟩ ⟨hk, hs3⟩ => ?_)
    simp only at hk hs3 ⊢
    by_cases hkl : k < P.nodes.length
    · have i2 : I64 ((k : Int) + 1) := by unfold I64; omega
      rw [foldl_drop hkl] at hs3
      simp [aev, cav, look, acallPure, abin, abinN, abinP, abinI, abinS, aun, aconv, afield, afieldAddr, aindexAddr, aindex, aslice, alow, ahigh, abuild, abuildGo, cellsOf, splice, fieldTy, alen, apick, amax, amin, aload, headV, aparts, abuildSlice, elParts, abytesStr, astore, amake, aappend, anew, arith, aresults, aresList, ares, spec0, spec1, spec2, spec3, spec4, eqCells, eqCell, CB, hlt, rowAt_enc hlt, ← hP, hkl, rowAt_enc hkl, i2]
      exact ⟨k + 1, nodeW y (ix P.nodes k), ⟨by omega, hs3⟩, by omega, weak_slots (by simp [nodeW])⟩
    rw [List.drop_eq_nil_of_le (by omega), List.foldl_nil] at hs3
    simp [aev, cav, look, acallPure, abin, abinN, abinP, abinI, abinS, aun, aconv, afield, afieldAddr, aindexAddr, aindex, aslice, alow, ahigh, abuild, abuildGo, cellsOf, splice, fieldTy, alen, apick, amax, amin, aload, headV, aparts, abuildSlice, elParts, abytesStr, astore, amake, aappend, anew, arith, aresults, aresList, ares, spec0, spec1, spec2, spec3, spec4, eqCells, eqCell, CB, hlt, rowAt_enc hlt, ← hP, hkl, i1]
    exact ⟨i + 1, y, ⟨by omega, by rw [hs3]; exact hs⟩, by omega, weak_slots (by simp [CB])⟩
  rw [List.drop_eq_nil_of_le (by omega), List.foldl_nil] at hs
  subst hs
  obtain ⟨n1, hn1⟩ : ∃ n1, n1 = c.paths.foldl pathW n0 := ⟨_, rfl⟩
  rw [← hn1]
  simp [aev, cav, look, acallPure, abin, abinN, abinP, abinI, abinS, aun, aconv, afield, afieldAddr, aindexAddr, aindex, aslice, alow, ahigh, abuild, abuildGo, cellsOf, splice, fieldTy, alen, apick, amax, amin, aload, headV, aparts, abuildSlice, elParts, abytesStr, astore, amake, aappend, anew, arith, aresults, aresList, ares, spec0, spec1, spec2, spec3, spec4, eqCells, eqCell, CB, hlt]
  refine loop_rule (C := CMn m) (sigCMn m) (mixCMn m) (fun q : Nat × Int => ⟨[(1, .ptr 0 1 21 0 0), (3, .int .i64 q.2), (9, .int .i64 q.1)], [CB c]⟩) (fun q => q.1 ≤ c.wh.length ∧ (c.wh.drop q.1).foldl exprW q.2 = c.wh.foldl exprW n1) (fun q => c.wh.length - q.1) (by kernel_rfl) ⟨(0, n1), by simp, weak_slots (by simp [CB])⟩ (fun ⟨i, x⟩ ⟨hi, hs⟩ => ?_)
  simp only at hi hs ⊢
  by_cases hlt : i < c.wh.length
  · have i1 : I64 ((i : Int) + 1) := by unfold I64; omega
    have w := w2 _ (ix_mem hlt)
    rw [foldl_drop hlt] at hs
    simp [aev, cav, look, acallPure, abin, abinN, abinP, abinI, abinS, aun, aconv, afield, afieldAddr, aindexAddr, aindex, aslice, alow, ahigh, abuild, abuildGo, cellsOf, splice, fieldTy, alen, apick, amax, amin, aload, headV, aparts, abuildSlice, elParts, abytesStr, astore, amake, aappend, anew, arith, aresults, aresList, ares, spec0, spec1, spec2, spec3, spec4, eqCells, eqCell, CB, hlt, rowAt_enc hlt, sSzA, w, i1]
    exact ⟨i + 1, exprW x (ix c.wh i), ⟨by omega, hs⟩, by omega, weak_slots (by simp [exprW])⟩
  rw [List.drop_eq_nil_of_le (by omega), List.foldl_nil] at hs
  simp [aev, cav, look, acallPure, abin, abinN, abinP, abinI, abinS, aun, aconv, afield, afieldAddr, aindexAddr, aindex, aslice, alow, ahigh, abuild, abuildGo, cellsOf, splice, fieldTy, alen, apick, amax, amin, aload, headV, aparts, abuildSlice, elParts, abytesStr, astore, amake, aappend, anew, arith, aresults, aresList, ares, spec0, spec1, spec2, spec3, spec4, eqCells, eqCell, CB, hlt]
  refine loop_rule (C := CMn m) (sigCMn m) (mixCMn m) (fun q : Nat × Int => ⟨[(1, .ptr 0 1 21 0 0), (3, .int .i64 q.2), (10, .int .i64 q.1)], [CB c]⟩) (fun q => q.1 ≤ c.items.length ∧ (c.items.drop q.1).foldl itemW q.2 = c.items.foldl itemW (c.wh.foldl exprW n1)) (fun q => c.items.length - q.1) (by kernel_rfl) ⟨(0, x), ⟨by omega, by rw [hs]; rfl⟩, weak_slots (by simp [CB])⟩ (fun ⟨i, x⟩ ⟨hi, hs⟩ => ?_)
  simp only at hi hs ⊢
  by_cases hlt : i < c.items.length
  · have i1 : I64 ((i : Int) + 1) := by unfold I64; omega
    have w := w4 _ (ix_mem hlt)
    rw [foldl_drop hlt] at hs
    simp [aev, cav, look, acallPure, abin, abinN, abinP, abinI, abinS, aun, aconv, afield, afieldAddr, aindexAddr, aindex, aslice, alow, ahigh, abuild, abuildGo, cellsOf, splice, fieldTy, alen, apick, amax, amin, aload, headV, aparts, abuildSlice, elParts, abytesStr, astore, amake, aappend, anew, arith, aresults, aresList, ares, spec0, spec1, spec2, spec3, spec4, eqCells, eqCell, CB, hlt, rowAt_enc hlt, sSzA, w, i1]
    exact ⟨i + 1, itemW x (ix c.items i), ⟨by omega, hs⟩, by omega, weak_slots (by simp [itemW])⟩
  rw [List.drop_eq_nil_of_le (by omega), List.foldl_nil] at hs
  simp [aev, cav, look, acallPure, abin, abinN, abinP, abinI, abinS, aun, aconv, afield, afieldAddr, aindexAddr, aindex, aslice, alow, ahigh, abuild, abuildGo, cellsOf, splice, fieldTy, alen, apick, amax, amin, aload, headV, aparts, abuildSlice, elParts, abytesStr, astore, amake, aappend, anew, arith, aresults, aresList, ares, spec0, spec1, spec2, spec3, spec4, eqCells, eqCell, CB, hlt]
  refine loop_rule (C := CMn m) (sigCMn m) (mixCMn m) (fun q : Nat × Int => ⟨[(1, .ptr 0 1 21 0 0), (3, .int .i64 q.2), (11, .int .i64 q.1)], [CB c]⟩) (fun q => q.1 ≤ c.order.length ∧ (c.order.drop q.1).foldl sortW q.2 = c.order.foldl sortW (c.items.foldl itemW (c.wh.foldl exprW n1))) (fun q => c.order.length - q.1) (by kernel_rfl) ⟨(0, x), ⟨by omega, by rw [hs]; rfl⟩, weak_slots (by simp [CB])⟩ (fun ⟨i, x⟩ ⟨hi, hs⟩ => ?_)
  simp only at hi hs ⊢
  by_cases hlt : i < c.order.length
  · have i1 : I64 ((i : Int) + 1) := by unfold I64; omega
    have w := w5 _ (ix_mem hlt)
    rw [foldl_drop hlt] at hs
    simp [aev, cav, look, acallPure, abin, abinN, abinP, abinI, abinS, aun, aconv, afield, afieldAddr, aindexAddr, aindex, aslice, alow, ahigh, abuild, abuildGo, cellsOf, splice, fieldTy, alen, apick, amax, amin, aload, headV, aparts, abuildSlice, elParts, abytesStr, astore, amake, aappend, anew, arith, aresults, aresList, ares, spec0, spec1, spec2, spec3, spec4, eqCells, eqCell, CB, hlt, rowAt_enc hlt, sSzA, w, i1]
    exact ⟨i + 1, sortW x (ix c.order i), ⟨by omega, hs⟩, by omega, weak_slots (by simp [sortW])⟩
  rw [List.drop_eq_nil_of_le (by omega), List.foldl_nil] at hs
  simp [aev, cav, look, acallPure, abin, abinN, abinP, abinI, abinS, aun, aconv, afield, afieldAddr, aindexAddr, aindex, aslice, alow, ahigh, abuild, abuildGo, cellsOf, splice, fieldTy, alen, apick, amax, amin, aload, headV, aparts, abuildSlice, elParts, abytesStr, astore, amake, aappend, anew, arith, aresults, aresList, ares, spec0, spec1, spec2, spec3, spec4, eqCells, eqCell, CB, hlt]
  refine loop_rule (C := CMn m) (sigCMn m) (mixCMn m) (fun q : Nat × Int => ⟨[(1, .ptr 0 1 21 0 0), (3, .int .i64 q.2), (12, .int .i64 q.1)], [CB c]⟩) (fun q => q.1 ≤ c.sets.length ∧ (c.sets.drop q.1).foldl setW q.2 = manyE c) (fun q => c.sets.length - q.1) (by kernel_rfl) ⟨(0, x), ⟨by omega, by rw [hs, hn1, hn0]; rfl⟩, weak_slots (by simp [CB])⟩ (fun ⟨i, x⟩ ⟨hi, hs⟩ => ?_)
  simp only at hi hs ⊢
  by_cases hlt : i < c.sets.length
  · have i1 : I64 ((i : Int) + 1) := by unfold I64; omega
    have w := w6 _ (ix_mem hlt)
    rw [foldl_drop hlt] at hs
    simp [aev, cav, look, acallPure, abin, abinN, abinP, abinI, abinS, aun, aconv, afield, afieldAddr, aindexAddr, aindex, aslice, alow, ahigh, abuild, abuildGo, cellsOf, splice, fieldTy, alen, apick, amax, amin, aload, headV, aparts, abuildSlice, elParts, abytesStr, astore, amake, aappend, anew, arith, aresults, aresList, ares, spec0, spec1, spec2, spec3, spec4, eqCells, eqCell, CB, hlt, rowAt_enc hlt, sSzA, w, i1]
    exact ⟨i + 1, setW x (ix c.sets i), ⟨by omega, hs⟩, by omega, weak_slots (by simp [setW])⟩
  rw [List.drop_eq_nil_of_le (by omega), List.foldl_nil] at hs
  simp [aev, cav, look, acallPure, abin, abinN, abinP, abinI, abinS, aun, aconv, afield, afieldAddr, aindexAddr, aindex, aslice, alow, ahigh, abuild, abuildGo, cellsOf, splice, fieldTy, alen, apick, amax, amin, aload, headV, aparts, abuildSlice, elParts, abytesStr, astore, amake, aappend, anew, arith, aresults, aresList, ares, spec0, spec1, spec2, spec3, spec4, eqCells, eqCell, CB, hlt, hs]

def clauseW (n : Int) (c : Clause) : Int := w64 (n + manyE c)
def lightB (q : Query) : Bool := decide (q.clauses.foldl clauseW 0 ≤ 3000)
def WfQS (q : Query) : Prop := q.clauses.length ≤ maxLen ∧ ∀ c ∈ q.clauses, WfCS c
noncomputable def CLg (m : Int) : Ctx := mkC Tryz.prog (G m) [(6, .pure sMany)]
@[simp] theorem CLg_P (m : Int) : (CLg m).P = Tryz.prog := rfl
@[simp] theorem CLg_1 (m : Int) : (CLg m).S 6 = .pure sMany := rfl
theorem mixCLg (m : Int) : (CLg m).P.follows .mixedOrders = true := mixed
theorem sigCLg (m : Int) : SigOK (CLg m) := sigOK_cons (entryPure manyR Tryz.func6 rfl (by decide)) (sigOK_nil _ _)
def sLight : List AV → Option (Prop × AV) := spec1 (fun (q : Query) => WfQS q) (fun q => .bool (lightB q))
set_option maxHeartbeats 4000000 in
theorem lightR : PureOK Tryz.prog (G m) 12 sLight := by
  refine pure1 (C := CLg m) (sigCLg m) (mixCLg m) Tryz.func12 rfl rfl rfl (by kernel_rfl) (by decide) (fun q ⟨hl, hw⟩ => ?_)
  have hl' := maxLen_le hl
  simp [aev, cav, look, acallPure, abin, abinN, abinP, abinI, abinS, aun, aconv, afield, afieldAddr, aindexAddr, aindex, aslice, alow, ahigh, abuild, abuildGo, cellsOf, splice, fieldTy, alen, apick, amax, amin, aload, headV, aparts, abuildSlice, elParts, abytesStr, astore, amake, aappend, anew, arith, aresults, aresList, ares, spec0, spec1, spec2, spec3, spec4, eqCells, eqCell]
  refine loop_rule (C := CLg m) (sigCLg m) (mixCLg m) (fun r : Nat × Int => ⟨[(1, .ptr 0 1 1 0 0), (3, .int .i64 r.2), (4, .int .i64 r.1)], [QB q]⟩) (fun r => r.1 ≤ q.clauses.length ∧ (q.clauses.drop r.1).foldl clauseW r.2 = q.clauses.foldl clauseW 0) (fun r => q.clauses.length - r.1) (by kernel_rfl) ⟨(0, 0), by simp, weak_slots (by simp)⟩ (fun ⟨i, x⟩ ⟨hi, hs⟩ => ?_)
  simp only at hi hs ⊢
  by_cases hlt : i < q.clauses.length
  · have i1 : I64 ((i : Int) + 1) := by unfold I64; omega
    have w := hw _ (ix_mem hlt)
    rw [foldl_drop hlt] at hs
    simp [aev, cav, look, acallPure, abin, abinN, abinP, abinI, abinS, aun, aconv, afield, afieldAddr, aindexAddr, aindex, aslice, alow, ahigh, abuild, abuildGo, cellsOf, splice, fieldTy, alen, apick, amax, amin, aload, headV, aparts, abuildSlice, elParts, abytesStr, astore, amake, aappend, anew, arith, aresults, aresList, ares, spec0, spec1, spec2, spec3, spec4, eqCells, eqCell, QB, hlt, rowAt_enc hlt, sMany, w, i1]
    exact ⟨i + 1, clauseW x (ix q.clauses i), ⟨by omega, hs⟩, by omega, weak_slots (by simp [clauseW])⟩
  rw [List.drop_eq_nil_of_le (by omega), List.foldl_nil] at hs
  simp [aev, cav, look, acallPure, abin, abinN, abinP, abinI, abinS, aun, aconv, afield, afieldAddr, aindexAddr, aindex, aslice, alow, ahigh, abuild, abuildGo, cellsOf, splice, fieldTy, alen, apick, amax, amin, aload, headV, aparts, abuildSlice, elParts, abytesStr, astore, amake, aappend, anew, arith, aresults, aresList, ares, spec0, spec1, spec2, spec3, spec4, eqCells, eqCell, QB, hlt, lightB, hs]
end
end Go.Proofs.YthcfnaglgoaikaaGreat
