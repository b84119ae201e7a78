/-
  layer 18: unused fields and counts, the reference's side.
-/
import Derived.Test.YthcfnaglgoaikaaGreatR4
namespace Go.Proofs.YthcfnaglgoaikaaGreat
open Go.RowKit
set_option linter.unusedSimpArgs false
set_option linter.unusedVariables false
set_option maxRecDepth 100000

def uP (c : Clause) : Bool := decide (0 < c.paths.length) && !isK [1, 5, 6] c.kind
def uW (c : Clause) : Bool := decide (0 < c.wh.length) && !isK [1, 3] c.kind
def uE (c : Clause) : Bool := !isK [2] c.kind && (!zeroE c.e || !decide (c.name = ⟨#[]⟩))
def uI (c : Clause) : Bool := !colsB c && (decide (0 < c.items.length) || decide (0 < c.order.length) || decide (0 < c.skip) || decide (0 < c.limit))
def unusedB (c : Clause) : Bool := !strayA c && !uP c && !uW c && !uE c && !uI c && !strayI c
def rangeB (c : Clause) : Bool := decide (c.skip < -1) || decide (1000000000000000 < c.skip) || decide (c.limit < -1) || decide (1000000000000000 < c.limit)
theorem absB_eq (n : Int) : absB n = (!decide (0 < n) && !decide (n < -1)) := by
  unfold absB
  by_cases h1 : 0 < n
  · have h2 : ¬ n = 0 := by omega
    have h3 : ¬ n = -1 := by omega
    simp [h1, h2, h3]
  · by_cases h2 : n < -1
    · have h3 : ¬ n = 0 := by omega
      have h4 : ¬ n = -1 := by omega
      simp [h2, h3, h4]
    · by_cases h3 : n = 0
      · simp [h3]
      · have h4 : n = -1 := by omega
        simp [h4]
theorem stray_eq (c : Clause) : strayB c = (!unusedB c || rangeB c) := by
  have e1 : strayC c = (uP c || uW c) := rfl
  have e2 : strayE c = (uE c || (!colsB c && (decide (0 < c.items.length) || decide (0 < c.order.length)))) := rfl
  have e3 : strayG c = ((!colsB c && (!absB c.skip || !absB c.limit)) || rangeB c) := rfl
  unfold strayB unusedB
  rw [e1, e2, e3, absB_eq, absB_eq]
  unfold uI rangeB
  generalize strayA c = A
  generalize uP c = P
  generalize uW c = W
  generalize uE c = E
  generalize strayI c = I
  generalize colsB c = K
  generalize decide (0 < c.items.length) = X
  generalize decide (0 < c.order.length) = Y
  generalize decide (0 < c.skip) = S
  generalize decide (0 < c.limit) = L
  generalize decide (c.skip < -1) = s
  generalize decide (c.limit < -1) = l
  generalize decide (1000000000000000 < c.skip) = S2
  generalize decide (1000000000000000 < c.limit) = L2
  cases A
  case true => simp
  cases P
  case true => simp
  cases W
  case true => simp
  cases E
  case true => simp
  cases I
  case true => simp
  cases s
  case true => simp
  cases l
  case true => simp
  cases S2
  case true => simp
  cases L2
  case true => simp
  cases K <;> cases X <;> cases Y <;> cases S <;> cases L <;> rfl

theorem keep_foldl {α : Type} {f : Int → α → Int} (h : ∀ x a, x ≠ 0 → f x a = x) {x : Int} (hx : x ≠ 0) : ∀ l : List α, l.foldl f x = x
  | [] => rfl
  | a :: r => by rw [List.foldl_cons, h x a hx, keep_foldl h hx r]
theorem keep_add {x e : Int} (h : x ≠ 0) : addE x e = x := by unfold addE; rw [if_neg h]
theorem add_zero (e : Int) : addE 0 e = e := rfl
theorem kPath (k : Int) : ∀ (x : Int) (a : PathPat), x ≠ 0 → pathS k x a = x := fun x a h => keep_add h
theorem kExpr : ∀ (x : Int) (a : Expr), x ≠ 0 → exprS x a = x := fun x a h => keep_add h
theorem kItem : ∀ (x : Int) (a : Item), x ≠ 0 → itemS x a = x := fun x a h => by unfold itemS; rw [keep_add h, keep_add h]
theorem kSort : ∀ (x : Int) (a : SortK), x ≠ 0 → sortS x a = x := fun x a h => keep_add h
theorem kSet : ∀ (x : Int) (a : SetI), x ≠ 0 → setS x a = x := fun x a h => keep_add h
theorem kName : ∀ (x : Int) (a : ByteArray), x ≠ 0 → nameS x a = x := fun x a h => keep_add h
theorem pc6 {c : Clause} {e : Int} (h : c.sets.foldl setS (c.order.foldl sortS (c.items.foldl itemS (partsB c))) = e) (he : e ≠ 0) : partsC c = e := by
  unfold partsC; rw [h, keep_foldl kName he]
theorem pc5 {c : Clause} {e : Int} (h : c.order.foldl sortS (c.items.foldl itemS (partsB c)) = e) (he : e ≠ 0) : partsC c = e := pc6 (by rw [h, keep_foldl kSet he]) he
theorem pc4 {c : Clause} {e : Int} (h : c.items.foldl itemS (partsB c) = e) (he : e ≠ 0) : partsC c = e := pc5 (by rw [h, keep_foldl kSort he]) he
theorem pc3 {c : Clause} {e : Int} (h : partsB c = e) (he : e ≠ 0) : partsC c = e := pc4 (by rw [h, keep_foldl kItem he]) he
theorem pc2 {c : Clause} {e : Int} (h : partsA c = e) (he : e ≠ 0) : partsC c = e := pc3 (by unfold partsB; rw [h]; split; rw [keep_add he, keep_add he]; rfl) he
theorem pc1 {c : Clause} {e : Int} (h : c.paths.foldl (pathS c.kind) 0 = e) (he : e ≠ 0) : partsC c = e := pc2 (by unfold partsA; rw [h, keep_foldl kExpr he]) he
theorem names_fold : ∀ l : List ByteArray, l.foldl nameS 0 = if l.all wordB = true then 0 else 6
  | [] => rfl
  | s :: r => by
    rw [List.foldl_cons, List.all_cons]
    have e : nameS 0 s = needE s := rfl
    rw [e]
    unfold needE
    cases h : wordB s
    · rw [if_neg (by simp), keep_foldl kName (by decide)]
      simp
    · rw [if_pos rfl, names_fold r]
      simp

section
variable {m : Int}
noncomputable def CUn (m : Int) : Ctx := mkC Tryz.prog (G m) [(69, .pure sZE)]
@[simp] theorem CUn_P (m : Int) : (CUn m).P = Tryz.prog := rfl
@[simp] theorem CUn_1 (m : Int) : (CUn m).S 69 = .pure sZE := rfl
theorem mixCUn (m : Int) : (CUn m).P.follows .mixedOrders = true := mixed
theorem sigCUn (m : Int) : SigOK (CUn m) := sigOK_cons (entryPure noneR Tryz.func69 rfl (by decide)) (sigOK_nil _ _)
def uS (c : Clause) (t : Nat) (b : Bool) : ASt := ⟨[(1, .ptr 0 1 21 0 0), (3, .int .i64 c.kind), (4, .bool (colsB c)), (t, .bool b)], [CB c]⟩
def sUnused : List AV → Option (Prop × AV) := spec1 (fun (_ : Clause) => True) (fun c => .bool (unusedB c))
set_option maxHeartbeats 16000000 in
theorem unusedR : PureOK Tryz.prog (G m) 43 sUnused := by
  refine pure1W (C := CUn m) Tryz.func43 rfl rfl rfl (by decide) (fun c _ => ?_)
  refine AW_seq (avc_sound (sigCUn m) (mixCUn m) _ (by kernel_rfl) ?_)
  simp [aev, cav, look, acallPure, abin, abinN, abinP, abinI, abinS, aun, aconv, afield, afieldAddr, aindexAddr, aindex, aslice, alow, ahigh, abuild, abuildGo, cellsOf, splice, fieldTy, alen, apick, amax, amin, aload, headV, aparts, abuildSlice, elParts, abytesStr, astore, amake, aappend, anew, arith, aresults, aresList, ares, spec0, spec1, spec2, spec3, spec4, eqCells, eqCell]
  refine AW_seq (avc_sound (sigCUn m) (mixCUn m) _ (by kernel_rfl) ?_)
  simp [aev, cav, look, acallPure, abin, abinN, abinP, abinI, abinS, aun, aconv, afield, afieldAddr, aindexAddr, aindex, aslice, alow, ahigh, abuild, abuildGo, cellsOf, splice, fieldTy, alen, apick, amax, amin, aload, headV, aparts, abuildSlice, elParts, abytesStr, astore, amake, aappend, anew, arith, aresults, aresList, ares, spec0, spec1, spec2, spec3, spec4, eqCells, eqCell]
  refine AW_cut (uS c 4 (colsB c)) (avc_sound (sigCUn m) (mixCUn m) _ (by kernel_rfl) ?_) ?_
  · rcases em2 (c.kind = 3) with k3 | k3 <;> rcases em2 (c.kind = 4) with k4 | k4 <;> simp [aev, cav, look, acallPure, abin, abinN, abinP, abinI, abinS, aun, aconv, afield, afieldAddr, aindexAddr, aindex, aslice, alow, ahigh, abuild, abuildGo, cellsOf, splice, fieldTy, alen, apick, amax, amin, aload, headV, aparts, abuildSlice, elParts, abytesStr, astore, amake, aappend, anew, arith, aresults, aresList, ares, spec0, spec1, spec2, spec3, spec4, eqCells, eqCell, k3, k4] <;> exact weak_slots (by simp [uS, CB, colsB, isK, k3, k4])
  refine AW_seq (AW_cut (uS c 30 (strayA c)) (avc_sound (sigCUn m) (mixCUn m) _ (by kernel_rfl) ?_) ?_)
  · rcases em2 (c.kind = 1) with k1 | k1 <;> rcases em2 (c.kind = 8) with k8 | k8 <;> cases ho : c.opt <;> cases hd : c.dist <;> cases hc : colsB c <;> simp [aev, cav, look, acallPure, abin, abinN, abinP, abinI, abinS, aun, aconv, afield, afieldAddr, aindexAddr, aindex, aslice, alow, ahigh, abuild, abuildGo, cellsOf, splice, fieldTy, alen, apick, amax, amin, aload, headV, aparts, abuildSlice, elParts, abytesStr, astore, amake, aappend, anew, arith, aresults, aresList, ares, spec0, spec1, spec2, spec3, spec4, eqCells, eqCell, uS, CB, k1, k8, ho, hd, hc] <;> exact weak_slots (by simp [strayA, isK, k1, k8, ho, hd, hc])
  refine AW_cond (strayA c) (by simp [uS]) (fun h1 => avc_sound (sigCUn m) (mixCUn m) _ (by kernel_rfl) ?_) (fun h1 => avc_sound (sigCUn m) (mixCUn m) _ (by kernel_rfl) ?_)
  · simp [aev, cav, look, acallPure, abin, abinN, abinP, abinI, abinS, aun, aconv, afield, afieldAddr, aindexAddr, aindex, aslice, alow, ahigh, abuild, abuildGo, cellsOf, splice, fieldTy, alen, apick, amax, amin, aload, headV, aparts, abuildSlice, elParts, abytesStr, astore, amake, aappend, anew, arith, aresults, aresList, ares, spec0, spec1, spec2, spec3, spec4, eqCells, eqCell, uS, CB, unusedB, h1]
  simp [aev, cav, look, acallPure, abin, abinN, abinP, abinI, abinS, aun, aconv, afield, afieldAddr, aindexAddr, aindex, aslice, alow, ahigh, abuild, abuildGo, cellsOf, splice, fieldTy, alen, apick, amax, amin, aload, headV, aparts, abuildSlice, elParts, abytesStr, astore, amake, aappend, anew, arith, aresults, aresList, ares, spec0, spec1, spec2, spec3, spec4, eqCells, eqCell]
  refine AW_seq (AW_cut (uS c 46 (uP c)) (avc_sound (sigCUn m) (mixCUn m) _ (by kernel_rfl) ?_) ?_)
  · rcases em2 (0 < c.paths.length) with h0 | h0 <;> rcases em2 (c.kind = 1) with k1 | k1 <;> rcases em2 (c.kind = 5) with k5 | k5 <;> rcases em2 (c.kind = 6) with k6 | k6 <;> simp [aev, cav, look, acallPure, abin, abinN, abinP, abinI, abinS, aun, aconv, afield, afieldAddr, aindexAddr, aindex, aslice, alow, ahigh, abuild, abuildGo, cellsOf, splice, fieldTy, alen, apick, amax, amin, aload, headV, aparts, abuildSlice, elParts, abytesStr, astore, amake, aappend, anew, arith, aresults, aresList, ares, spec0, spec1, spec2, spec3, spec4, eqCells, eqCell, uS, CB, h0, k1, k5, k6] <;> exact weak_slots (by simp [uP, isK, h0, k1, k5, k6])
  refine AW_cond (uP c) (by simp [uS]) (fun h2 => avc_sound (sigCUn m) (mixCUn m) _ (by kernel_rfl) ?_) (fun h2 => avc_sound (sigCUn m) (mixCUn m) _ (by kernel_rfl) ?_)
  · simp [aev, cav, look, acallPure, abin, abinN, abinP, abinI, abinS, aun, aconv, afield, afieldAddr, aindexAddr, aindex, aslice, alow, ahigh, abuild, abuildGo, cellsOf, splice, fieldTy, alen, apick, amax, amin, aload, headV, aparts, abuildSlice, elParts, abytesStr, astore, amake, aappend, anew, arith, aresults, aresList, ares, spec0, spec1, spec2, spec3, spec4, eqCells, eqCell, uS, CB, unusedB, h2]
  simp [aev, cav, look, acallPure, abin, abinN, abinP, abinI, abinS, aun, aconv, afield, afieldAddr, aindexAddr, aindex, aslice, alow, ahigh, abuild, abuildGo, cellsOf, splice, fieldTy, alen, apick, amax, amin, aload, headV, aparts, abuildSlice, elParts, abytesStr, astore, amake, aappend, anew, arith, aresults, aresList, ares, spec0, spec1, spec2, spec3, spec4, eqCells, eqCell]
  refine AW_seq (AW_cut (uS c 58 (uW c)) (avc_sound (sigCUn m) (mixCUn m) _ (by kernel_rfl) ?_) ?_)
  · rcases em2 (0 < c.wh.length) with h0 | h0 <;> rcases em2 (c.kind = 1) with k1 | k1 <;> rcases em2 (c.kind = 3) with k3 | k3 <;> simp [aev, cav, look, acallPure, abin, abinN, abinP, abinI, abinS, aun, aconv, afield, afieldAddr, aindexAddr, aindex, aslice, alow, ahigh, abuild, abuildGo, cellsOf, splice, fieldTy, alen, apick, amax, amin, aload, headV, aparts, abuildSlice, elParts, abytesStr, astore, amake, aappend, anew, arith, aresults, aresList, ares, spec0, spec1, spec2, spec3, spec4, eqCells, eqCell, uS, CB, h0, k1, k3] <;> exact weak_slots (by simp [uW, isK, h0, k1, k3])
  refine AW_cond (uW c) (by simp [uS]) (fun h3 => avc_sound (sigCUn m) (mixCUn m) _ (by kernel_rfl) ?_) (fun h3 => avc_sound (sigCUn m) (mixCUn m) _ (by kernel_rfl) ?_)
  · simp [aev, cav, look, acallPure, abin, abinN, abinP, abinI, abinS, aun, aconv, afield, afieldAddr, aindexAddr, aindex, aslice, alow, ahigh, abuild, abuildGo, cellsOf, splice, fieldTy, alen, apick, amax, amin, aload, headV, aparts, abuildSlice, elParts, abytesStr, astore, amake, aappend, anew, arith, aresults, aresList, ares, spec0, spec1, spec2, spec3, spec4, eqCells, eqCell, uS, CB, unusedB, h3]
  simp [aev, cav, look, acallPure, abin, abinN, abinP, abinI, abinS, aun, aconv, afield, afieldAddr, aindexAddr, aindex, aslice, alow, ahigh, abuild, abuildGo, cellsOf, splice, fieldTy, alen, apick, amax, amin, aload, headV, aparts, abuildSlice, elParts, abytesStr, astore, amake, aappend, anew, arith, aresults, aresList, ares, spec0, spec1, spec2, spec3, spec4, eqCells, eqCell]
  refine AW_seq (AW_cut (uS c 71 (uE c)) (avc_sound (sigCUn m) (mixCUn m) _ (by kernel_rfl) ?_) ?_)
  · rcases em2 (c.kind = 2) with k2 | k2 <;> cases hz : zeroE c.e <;> rcases em2 (c.name = ⟨#[]⟩) with hn | hn <;> simp [aev, cav, look, acallPure, abin, abinN, abinP, abinI, abinS, aun, aconv, afield, afieldAddr, aindexAddr, aindex, aslice, alow, ahigh, abuild, abuildGo, cellsOf, splice, fieldTy, alen, apick, amax, amin, aload, headV, aparts, abuildSlice, elParts, abytesStr, astore, amake, aappend, anew, arith, aresults, aresList, ares, spec0, spec1, spec2, spec3, spec4, eqCells, eqCell, uS, CB, sZE, k2, hz, hn] <;> exact weak_slots (by simp [uE, isK, k2, hz, hn])
  refine AW_cond (uE c) (by simp [uS]) (fun h4 => avc_sound (sigCUn m) (mixCUn m) _ (by kernel_rfl) ?_) (fun h4 => avc_sound (sigCUn m) (mixCUn m) _ (by kernel_rfl) ?_)
  · simp [aev, cav, look, acallPure, abin, abinN, abinP, abinI, abinS, aun, aconv, afield, afieldAddr, aindexAddr, aindex, aslice, alow, ahigh, abuild, abuildGo, cellsOf, splice, fieldTy, alen, apick, amax, amin, aload, headV, aparts, abuildSlice, elParts, abytesStr, astore, amake, aappend, anew, arith, aresults, aresList, ares, spec0, spec1, spec2, spec3, spec4, eqCells, eqCell, uS, CB, unusedB, h4]
  simp [aev, cav, look, acallPure, abin, abinN, abinP, abinI, abinS, aun, aconv, afield, afieldAddr, aindexAddr, aindex, aslice, alow, ahigh, abuild, abuildGo, cellsOf, splice, fieldTy, alen, apick, amax, amin, aload, headV, aparts, abuildSlice, elParts, abytesStr, astore, amake, aappend, anew, arith, aresults, aresList, ares, spec0, spec1, spec2, spec3, spec4, eqCells, eqCell]
  refine AW_seq (AW_cut (uS c 95 (uI c)) (avc_sound (sigCUn m) (mixCUn m) _ (by kernel_rfl) ?_) ?_)
  · cases hc : colsB c <;> rcases em2 (0 < c.items.length) with x1 | x1 <;> rcases em2 (0 < c.order.length) with x2 | x2 <;> rcases em2 (0 < c.skip) with x3 | x3 <;> rcases em2 (0 < c.limit) with x4 | x4 <;> simp [aev, cav, look, acallPure, abin, abinN, abinP, abinI, abinS, aun, aconv, afield, afieldAddr, aindexAddr, aindex, aslice, alow, ahigh, abuild, abuildGo, cellsOf, splice, fieldTy, alen, apick, amax, amin, aload, headV, aparts, abuildSlice, elParts, abytesStr, astore, amake, aappend, anew, arith, aresults, aresList, ares, spec0, spec1, spec2, spec3, spec4, eqCells, eqCell, uS, CB, hc, x1, x2, x3, x4] <;> exact weak_slots (by simp [uI, hc, x1, x2, x3, x4])
  refine AW_cond (uI c) (by simp [uS]) (fun h5 => avc_sound (sigCUn m) (mixCUn m) _ (by kernel_rfl) ?_) (fun h5 => avc_sound (sigCUn m) (mixCUn m) _ (by kernel_rfl) ?_)
  · simp [aev, cav, look, acallPure, abin, abinN, abinP, abinI, abinS, aun, aconv, afield, afieldAddr, aindexAddr, aindex, aslice, alow, ahigh, abuild, abuildGo, cellsOf, splice, fieldTy, alen, apick, amax, amin, aload, headV, aparts, abuildSlice, elParts, abytesStr, astore, amake, aappend, anew, arith, aresults, aresList, ares, spec0, spec1, spec2, spec3, spec4, eqCells, eqCell, uS, CB, unusedB, h5]
  simp [aev, cav, look, acallPure, abin, abinN, abinP, abinI, abinS, aun, aconv, afield, afieldAddr, aindexAddr, aindex, aslice, alow, ahigh, abuild, abuildGo, cellsOf, splice, fieldTy, alen, apick, amax, amin, aload, headV, aparts, abuildSlice, elParts, abytesStr, astore, amake, aappend, anew, arith, aresults, aresList, ares, spec0, spec1, spec2, spec3, spec4, eqCells, eqCell]
  refine avc_sound (sigCUn m) (mixCUn m) _ (by kernel_rfl) ?_
  rcases em2 (c.sets = []) with y1 | y1 <;> rcases em2 (c.names = []) with y2 | y2 <;> rcases em2 (c.kind = 7) with k7 | k7 <;> rcases em2 (c.kind = 8) with k8 | k8 <;> simp [aev, cav, look, acallPure, abin, abinN, abinP, abinI, abinS, aun, aconv, afield, afieldAddr, aindexAddr, aindex, aslice, alow, ahigh, abuild, abuildGo, cellsOf, splice, fieldTy, alen, apick, amax, amin, aload, headV, aparts, abuildSlice, elParts, abytesStr, astore, amake, aappend, anew, arith, aresults, aresList, ares, spec0, spec1, spec2, spec3, spec4, eqCells, eqCell, uS, CB, unusedB, strayI, isK, List.length_pos_iff, h1, h2, h3, h4, h5, y1, y2, k7, k8]

def sCounts : List AV → Option (Prop × AV) := spec1 (fun (_ : Clause) => True) (fun c => .bool (!crowdB c))
set_option maxHeartbeats 8000000 in
theorem countsR : PureOK Tryz.prog (G m) 44 sCounts := by
  refine pure1 (C := CE m) (sigCE m) (mixCE m) Tryz.func44 rfl rfl rfl (by kernel_rfl) (by decide) (fun c _ => ?_)
  obtain ⟨k, o, d, ps, wh, e, nm, its, ord, sk, lim, sets, nms⟩ := c
  have hw : (decide ((1 : Int) < wh.length)) = !decide ((wh.length : Int) ≤ 1) := by by_cases h : (wh.length : Int) ≤ 1 <;> simp [h] <;> omega
  have hw2 : (decide ((16 : Int) < ord.length)) = !decide ((ord.length : Int) ≤ 16) := by by_cases h : (ord.length : Int) ≤ 16 <;> simp [h] <;> omega
  by_cases h1 : k = 1
  · subst h1
    rcases em2 ((1 : Int) ≤ ps.length) with a | a <;> rcases em2 ((ps.length : Int) ≤ 6) with b | b <;> rcases em2 ((wh.length : Int) ≤ 1) with x | x <;> simp [aev, cav, look, acallPure, abin, abinN, abinP, abinI, abinS, aun, aconv, afield, afieldAddr, aindexAddr, aindex, aslice, alow, ahigh, abuild, abuildGo, cellsOf, splice, fieldTy, alen, apick, amax, amin, aload, headV, aparts, abuildSlice, elParts, abytesStr, astore, amake, aappend, anew, arith, aresults, aresList, ares, spec0, spec1, spec2, spec3, spec4, eqCells, eqCell, crowdB, inRg, hw, a, b, x]
  by_cases h5 : k = 5
  · subst h5
    rcases em2 ((1 : Int) ≤ ps.length) with a | a <;> rcases em2 ((ps.length : Int) ≤ 6) with b | b <;> rcases em2 ((wh.length : Int) ≤ 1) with x | x <;> simp [aev, cav, look, acallPure, abin, abinN, abinP, abinI, abinS, aun, aconv, afield, afieldAddr, aindexAddr, aindex, aslice, alow, ahigh, abuild, abuildGo, cellsOf, splice, fieldTy, alen, apick, amax, amin, aload, headV, aparts, abuildSlice, elParts, abytesStr, astore, amake, aappend, anew, arith, aresults, aresList, ares, spec0, spec1, spec2, spec3, spec4, eqCells, eqCell, crowdB, inRg, hw, a, b, x]
  by_cases h6 : k = 6
  · subst h6
    by_cases h' : ps.length = 1
    · simp [aev, cav, look, acallPure, abin, abinN, abinP, abinI, abinS, aun, aconv, afield, afieldAddr, aindexAddr, aindex, aslice, alow, ahigh, abuild, abuildGo, cellsOf, splice, fieldTy, alen, apick, amax, amin, aload, headV, aparts, abuildSlice, elParts, abytesStr, astore, amake, aappend, anew, arith, aresults, aresList, ares, spec0, spec1, spec2, spec3, spec4, eqCells, eqCell, crowdB, h']
    · have h'' : ¬ (ps.length : Int) = 1 := by omega
      simp [aev, cav, look, acallPure, abin, abinN, abinP, abinI, abinS, aun, aconv, afield, afieldAddr, aindexAddr, aindex, aslice, alow, ahigh, abuild, abuildGo, cellsOf, splice, fieldTy, alen, apick, amax, amin, aload, headV, aparts, abuildSlice, elParts, abytesStr, astore, amake, aappend, anew, arith, aresults, aresList, ares, spec0, spec1, spec2, spec3, spec4, eqCells, eqCell, crowdB, h', h'']
  by_cases h3 : k = 3
  · subst h3
    rcases em2 ((1 : Int) ≤ its.length) with a | a <;> rcases em2 ((its.length : Int) ≤ 16) with b | b <;> rcases em2 ((ord.length : Int) ≤ 16) with y | y <;> rcases em2 ((wh.length : Int) ≤ 1) with x | x <;> simp [aev, cav, look, acallPure, abin, abinN, abinP, abinI, abinS, aun, aconv, afield, afieldAddr, aindexAddr, aindex, aslice, alow, ahigh, abuild, abuildGo, cellsOf, splice, fieldTy, alen, apick, amax, amin, aload, headV, aparts, abuildSlice, elParts, abytesStr, astore, amake, aappend, anew, arith, aresults, aresList, ares, spec0, spec1, spec2, spec3, spec4, eqCells, eqCell, crowdB, inRg, hw, hw2, a, b, x, y]
  by_cases h4 : k = 4
  · subst h4
    rcases em2 ((1 : Int) ≤ its.length) with a | a <;> rcases em2 ((its.length : Int) ≤ 16) with b | b <;> rcases em2 ((ord.length : Int) ≤ 16) with y | y <;> rcases em2 ((wh.length : Int) ≤ 1) with x | x <;> simp [aev, cav, look, acallPure, abin, abinN, abinP, abinI, abinS, aun, aconv, afield, afieldAddr, aindexAddr, aindex, aslice, alow, ahigh, abuild, abuildGo, cellsOf, splice, fieldTy, alen, apick, amax, amin, aload, headV, aparts, abuildSlice, elParts, abytesStr, astore, amake, aappend, anew, arith, aresults, aresList, ares, spec0, spec1, spec2, spec3, spec4, eqCells, eqCell, crowdB, inRg, hw, hw2, a, b, x, y]
  by_cases h7 : k = 7
  · subst h7
    rcases em2 ((1 : Int) ≤ sets.length) with a | a <;> rcases em2 ((sets.length : Int) ≤ 16) with b | b <;> simp [aev, cav, look, acallPure, abin, abinN, abinP, abinI, abinS, aun, aconv, afield, afieldAddr, aindexAddr, aindex, aslice, alow, ahigh, abuild, abuildGo, cellsOf, splice, fieldTy, alen, apick, amax, amin, aload, headV, aparts, abuildSlice, elParts, abytesStr, astore, amake, aappend, anew, arith, aresults, aresList, ares, spec0, spec1, spec2, spec3, spec4, eqCells, eqCell, crowdB, inRg, a, b]
  by_cases h8 : k = 8
  · subst h8
    rcases em2 ((1 : Int) ≤ nms.length) with a | a <;> rcases em2 ((nms.length : Int) ≤ 16) with b | b <;> simp [aev, cav, look, acallPure, abin, abinN, abinP, abinI, abinS, aun, aconv, afield, afieldAddr, aindexAddr, aindex, aslice, alow, ahigh, abuild, abuildGo, cellsOf, splice, fieldTy, alen, apick, amax, amin, aload, headV, aparts, abuildSlice, elParts, abytesStr, astore, amake, aappend, anew, arith, aresults, aresList, ares, spec0, spec1, spec2, spec3, spec4, eqCells, eqCell, crowdB, inRg, a, b]
  simp [aev, cav, look, acallPure, abin, abinN, abinP, abinI, abinS, aun, aconv, afield, afieldAddr, aindexAddr, aindex, aslice, alow, ahigh, abuild, abuildGo, cellsOf, splice, fieldTy, alen, apick, amax, amin, aload, headV, aparts, abuildSlice, elParts, abytesStr, astore, amake, aappend, anew, arith, aresults, aresList, ares, spec0, spec1, spec2, spec3, spec4, eqCells, eqCell, crowdB, h1, h5, h6, h3, h4, h7, h8]
end
end Go.Proofs.YthcfnaglgoaikaaGreat
