/-
  layer 18: the check of a path pattern, the reference's side.
-/
import Derived.Test.YthcfnaglgoaikaaGreatR2
namespace Go.Proofs.YthcfnaglgoaikaaGreat
open Go.RowKit
set_option linter.unusedSimpArgs false
set_option linter.unusedVariables false
set_option maxRecDepth 100000

def oN (x : NodePat) : Bool := freeB x.var && (x.labels.all wordB && (keysL x.props).all wordB)
def uN (x : NodePat) : Bool := risesB x.labels && risesB (keysL x.props)
def oG (x : EdgePat) : Bool := freeB x.var && (x.types.all wordB && (keysL x.props).all wordB)
def uG (x : EdgePat) : Bool := risesB x.types && risesB (keysL x.props)
theorem parts_all {f : NodePat → Bool} : ∀ (ns : List NodePat) (es : List EdgePat), es.length ≤ ns.length → (partsL ns es).all f = (ns.all f && es.all fun e => f (edgeN e))
  | [], [], _ => rfl
  | [], e :: es, h => by simp at h
  | n :: ns, [], h => by
    have := parts_all (f := f) ns [] (by simp)
    simp only [partsL, List.all_cons, List.all_nil, Bool.and_true] at this ⊢
    rw [this]
  | n :: ns, e :: es, h => by
    have := parts_all (f := f) ns es (by simpa using h)
    simp only [partsL, List.all_cons] at this ⊢
    rw [this]
    cases f n <;> cases f (edgeN e) <;> cases ns.all f <;> simp
def errX : List Expr → Int
  | [] => 0
  | e :: r => if checkE e ≠ 0 then checkE e else errX r
theorem errX_append : ∀ a b : List Expr, errX (a ++ b) = if errX a ≠ 0 then errX a else errX b
  | [], b => by simp [errX]
  | e :: r, b => by
    rw [List.cons_append, errX, errX]
    by_cases h : checkE e = 0
    · rw [if_neg (by simp [h]), errX_append r b]; simp only [ne_eq, h, not_true_eq_false, if_false]
    · rw [if_pos h, if_pos h, if_pos h]
theorem errQ_X : ∀ l : List PropPat, errQ l = errX (l.map (·.e))
  | [] => rfl
  | q :: r => by rw [errQ, List.map_cons, errX, errQ_X r]
theorem errPs_X : ∀ l : List NodePat, errPs l = errX (exprsL l)
  | [] => rfl
  | x :: r => by
    have e : exprsL (x :: r) = x.props.map (·.e) ++ exprsL r := rfl
    rw [errPs, e, errX_append, errPs_X r, errQ_X]
theorem aggPs_X : ∀ l : List NodePat, aggPs l = (exprsL l).any aggE
  | [] => rfl
  | x :: r => by
    have e : exprsL (x :: r) = x.props.map (·.e) ++ exprsL r := rfl
    have h := aggPs_X r
    unfold aggPs at h ⊢
    rw [List.any_cons, h, e, List.any_append]
    congr 1
    unfold aggQ
    rw [List.any_map]
    rfl
theorem errX_drop {l : List Expr} {i : Nat} (h : i < l.length) : errX (l.drop i) = if checkE (ix l i) ≠ 0 then checkE (ix l i) else errX (l.drop (i + 1)) := by
  rw [List.drop_eq_getElem_cons h, errX, ix_lt h]
def shapeE (p : PathPat) : Int :=
  if longB p = true then 4 else if ¬ p.nodes.length = p.edges.length + 1 then 1 else if p.edges.all hopB = false then 1
  else if (freeB p.var && (p.edges.all oG && p.nodes.all oN)) = false then 6 else if (p.edges.all uG && p.nodes.all uN) = false then 26 else 0
theorem pathE_shape (p : PathPat) (c : Bool) : pathE p c = if shapeE p ≠ 0 then shapeE p else if errX (exprsL (partsL p.nodes p.edges)) ≠ 0 then errX (exprsL (partsL p.nodes p.edges)) else if (exprsL (partsL p.nodes p.edges)).any aggE = true then 9 else if c = true ∧ p.edges.all creB = false then 1 else 0 := by
  unfold pathE shapeE
  rw [← errPs_X, ← aggPs_X]
  cases hl : longB p
  case true => simp
  by_cases h1 : p.nodes.length = p.edges.length + 1
  case neg => simp [h1]
  cases h2 : p.edges.all hopB
  case false => simp [h1]
  have e1 : (partsL p.nodes p.edges).all partOK = (p.edges.all oG && p.nodes.all oN) := by
    rw [parts_all _ _ (by omega), Bool.and_comm]
    have a1 : (fun e => partOK (edgeN e)) = oG := by funext e; simp only [partOK, oG, edgeN, Bool.and_assoc]
    have a2 : partOK = oN := by funext e; simp only [partOK, oN, Bool.and_assoc]
    rw [a1, a2]
  have e2 : (partsL p.nodes p.edges).all partUp = (p.edges.all uG && p.nodes.all uN) := by
    rw [parts_all _ _ (by omega), Bool.and_comm]
    rfl
  rw [e1, e2]
  generalize (p.edges.all oG && p.nodes.all oN) = A
  generalize (p.edges.all uG && p.nodes.all uN) = B
  cases freeB p.var <;> cases A <;> cases B <;> simp [h1]

theorem five (a f w k : Bool) : (a = false) ∨ (a = true ∧ f = false) ∨ (a = true ∧ f = true ∧ w = false) ∨ (a = true ∧ f = true ∧ w = true ∧ k = false) ∨ (a = true ∧ f = true ∧ w = true ∧ k = true) := by cases a <;> cases f <;> cases w <;> cases k <;> simp
theorem four (a w k : Bool) : (a = false) ∨ (a = true ∧ w = false) ∨ (a = true ∧ w = true ∧ k = false) ∨ (a = true ∧ w = true ∧ k = true) := by cases a <;> cases w <;> cases k <;> simp
structure B2 where
  a : Bool
  b : Bool

section
variable {m : Int}
noncomputable def CSh (m : Int) : Ctx := mkC Tryz.prog (G m) [(56, .pure sHp), (57, .pure sFree), (58, .pure sHop), (59, .pure sWs), (60, .pure sKs), (61, .pure sRs)]
@[simp] theorem CSh_P (m : Int) : (CSh m).P = Tryz.prog := rfl
@[simp] theorem CSh_1 (m : Int) : (CSh m).S 56 = .pure sHp := rfl
@[simp] theorem CSh_2 (m : Int) : (CSh m).S 57 = .pure sFree := rfl
@[simp] theorem CSh_3 (m : Int) : (CSh m).S 58 = .pure sHop := rfl
@[simp] theorem CSh_4 (m : Int) : (CSh m).S 59 = .pure sWs := rfl
@[simp] theorem CSh_5 (m : Int) : (CSh m).S 60 = .pure sKs := rfl
@[simp] theorem CSh_6 (m : Int) : (CSh m).S 61 = .pure sRs := rfl
theorem mixCSh (m : Int) : (CSh m).P.follows .mixedOrders = true := mixed
theorem sigCSh (m : Int) : SigOK (CSh m) := sigOK_cons (entryPure hopsR Tryz.func56 rfl (by decide)) (sigOK_cons (entryPure freeR Tryz.func57 rfl (by decide)) (sigOK_cons (entryPure boundsR Tryz.func58 rfl (by decide)) (sigOK_cons (entryPure wsR Tryz.func59 rfl (by decide)) (sigOK_cons (entryPure keysR Tryz.func60 rfl (by decide)) (sigOK_cons (entryPure risesR Tryz.func61 rfl (by decide)) (sigOK_nil _ _))))))
def sShape : List AV → Option (Prop × AV) := spec1 (fun (p : PathPat) => WfP p) (fun p => .int .i64 (shapeE p))
set_option maxHeartbeats 16000000 in
theorem shapeR : PureOK Tryz.prog (G m) 35 sShape := by
  refine pure1 (C := CSh m) (sigCSh m) (mixCSh m) Tryz.func35 rfl rfl rfl (by kernel_rfl) (by decide) (fun p ⟨wv, ⟨wn, wN⟩, we, wE⟩ => ?_)
  have we' := maxLen_le we
  cases hl : longB p
  case true => simp [aev, cav, look, acallPure, abin, abinN, abinP, abinI, abinS, aun, aconv, afield, afieldAddr, aindexAddr, aindex, aslice, alow, ahigh, abuild, abuildGo, cellsOf, splice, fieldTy, alen, apick, amax, amin, aload, headV, aparts, abuildSlice, elParts, abytesStr, astore, amake, aappend, anew, arith, aresults, aresList, ares, spec0, spec1, spec2, spec3, spec4, eqCells, eqCell, sHp, we, hl, shapeE]
  have hel : p.edges.length ≤ 6 := by
    unfold longB at hl
    simp only [Bool.or_eq_false_iff, decide_eq_false_iff_not] at hl
    omega
  have i0 : I64 ((p.edges.length : Int) + 1) := by unfold I64; omega
  by_cases h2 : p.nodes.length = p.edges.length + 1
  case neg =>
    have h2' : ((p.nodes.length : Int) = (p.edges.length : Int) + 1) = False := eq_false (by omega)
    simp [aev, cav, look, acallPure, abin, abinN, abinP, abinI, abinS, aun, aconv, afield, afieldAddr, aindexAddr, aindex, aslice, alow, ahigh, abuild, abuildGo, cellsOf, splice, fieldTy, alen, apick, amax, amin, aload, headV, aparts, abuildSlice, elParts, abytesStr, astore, amake, aappend, anew, arith, aresults, aresList, ares, spec0, spec1, spec2, spec3, spec4, eqCells, eqCell, sHp, we, hl, i0, h2, h2', shapeE]
  have h2' : ((p.nodes.length : Int) = (p.edges.length : Int) + 1) = True := eq_true (by omega)
  obtain ⟨HB, hHB⟩ : ∃ b, b = p.edges.all hopB := ⟨_, rfl⟩
  obtain ⟨OG, hOG⟩ : ∃ b, b = p.edges.all oG := ⟨_, rfl⟩
  obtain ⟨UG, hUG⟩ : ∃ b, b = p.edges.all uG := ⟨_, rfl⟩
  obtain ⟨ON, hON⟩ : ∃ b, b = p.nodes.all oN := ⟨_, rfl⟩
  obtain ⟨UN, hUN⟩ : ∃ b, b = p.nodes.all uN := ⟨_, rfl⟩
  have hE : shapeE p = if HB = false then 1 else if (freeB p.var && (OG && ON)) = false then 6 else if (UG && UN) = false then 26 else 0 := by
    unfold shapeE
    rw [if_neg (by rw [hl]; simp), if_neg (by simp [h2]), hHB, hOG, hUG, hON, hUN]
  rw [hE]
  obtain ⟨FV, hFV⟩ : ∃ b, b = freeB p.var := ⟨_, rfl⟩
  rw [← hFV]
  obtain ⟨Z1, hZ1⟩ : ∃ b, b = (FV && (OG && ON)) := ⟨_, rfl⟩
  obtain ⟨Z2, hZ2⟩ : ∃ b, b = (UG && UN) := ⟨_, rfl⟩
  rw [← hZ1, ← hZ2]
  simp [aev, cav, look, acallPure, abin, abinN, abinP, abinI, abinS, aun, aconv, afield, afieldAddr, aindexAddr, aindex, aslice, alow, ahigh, abuild, abuildGo, cellsOf, splice, fieldTy, alen, apick, amax, amin, aload, headV, aparts, abuildSlice, elParts, abytesStr, astore, amake, aappend, anew, arith, aresults, aresList, ares, spec0, spec1, spec2, spec3, spec4, eqCells, eqCell, sHp, sFree, we, hl, i0, h2', ← hFV]
  refine loop_rule (C := CSh m) (sigCSh m) (mixCSh m) (fun q : Nat × B2 => ⟨[(1, .ptr 0 1 3 0 0), (3, .bool q.2.a), (4, .bool q.2.b), (5, .int .i64 q.1)], [PB p]⟩) (fun q => q.1 ≤ p.edges.length ∧ (p.edges.drop q.1).all hopB = HB ∧ (q.2.a && (p.edges.drop q.1).all oG) = (FV && OG) ∧ (q.2.b && (p.edges.drop q.1).all uG) = UG) (fun q => p.edges.length - q.1) (by kernel_rfl) ⟨(0, ⟨FV, true⟩), ⟨by omega, by rw [hHB]; rfl, by rw [hOG]; rfl, by rw [hUG]; simp⟩, weak_slots (by simp)⟩ (fun ⟨i, ⟨a, b⟩⟩ ⟨hi, hh, ho, hu⟩ => ?_)
  simp only at hi hh ho hu ⊢
  by_cases hlt : i < p.edges.length
  · have i1 : I64 ((i : Int) + 1) := by unfold I64; omega
    obtain ⟨x1, ⟨x2, x3⟩, x4, x5⟩ := wE _ (ix_mem hlt)
    have y2 : (ix p.edges i).types.length ≤ maxLen := x2
    have y4 : (ix p.edges i).props.length ≤ 1048576 := x4
    have y6 : (keysL (ix p.edges i).props).length ≤ maxLen := by unfold keysL; rw [List.length_map]; exact small_max y4
    rw [all_drop hlt] at hh ho hu
    cases hhop : hopB (ix p.edges i)
    · rw [hhop, Bool.false_and] at hh
      simp [aev, cav, look, acallPure, abin, abinN, abinP, abinI, abinS, aun, aconv, afield, afieldAddr, aindexAddr, aindex, aslice, alow, ahigh, abuild, abuildGo, cellsOf, splice, fieldTy, alen, apick, amax, amin, aload, headV, aparts, abuildSlice, elParts, abytesStr, astore, amake, aappend, anew, arith, aresults, aresList, ares, spec0, spec1, spec2, spec3, spec4, eqCells, eqCell, PB, hlt, rowAt_enc hlt, sHop, hhop, ← hh]
    rw [hhop, Bool.true_and] at hh
    rw [← Bool.and_assoc] at ho hu
    rcases five a (freeB (ix p.edges i).var) ((ix p.edges i).types.all wordB) ((keysL (ix p.edges i).props).all wordB) with rfl | ⟨rfl, f1⟩ | ⟨rfl, f1, f2⟩ | ⟨rfl, f1, f2, f3⟩ | ⟨rfl, f1, f2, f3⟩
    · have ho2 : (false && (List.drop (i + 1) p.edges).all oG) = (FV && OG) := by
        rw [← ho]; simp [oG]
      rcases four b (risesB (ix p.edges i).types) (risesB (keysL (ix p.edges i).props)) with rfl | ⟨rfl, g1⟩ | ⟨rfl, g1, g2⟩ | ⟨rfl, g1, g2⟩
      · have hu2 : (false && (List.drop (i + 1) p.edges).all uG) = (UG) := by
          rw [← hu]; simp [uG]
        simp [aev, cav, look, acallPure, abin, abinN, abinP, abinI, abinS, aun, aconv, afield, afieldAddr, aindexAddr, aindex, aslice, alow, ahigh, abuild, abuildGo, cellsOf, splice, fieldTy, alen, apick, amax, amin, aload, headV, aparts, abuildSlice, elParts, abytesStr, astore, amake, aappend, anew, arith, aresults, aresList, ares, spec0, spec1, spec2, spec3, spec4, eqCells, eqCell, PB, hlt, rowAt_enc hlt, sHop, sFree, sWs, sKs, sRs, hhop, y2, y4, y6, i1]
        exact ⟨i + 1, ⟨false, false⟩, ⟨by omega, hh, ho2, hu2⟩, by omega, weak_keep 1 (by simp) (by simp) (by simp [AV.clean, AV.clean1]) (by simp) (by simp [PB])⟩
      · have hu2 : (false && (List.drop (i + 1) p.edges).all uG) = (UG) := by
          rw [← hu]; simp [uG, g1]
        simp [aev, cav, look, acallPure, abin, abinN, abinP, abinI, abinS, aun, aconv, afield, afieldAddr, aindexAddr, aindex, aslice, alow, ahigh, abuild, abuildGo, cellsOf, splice, fieldTy, alen, apick, amax, amin, aload, headV, aparts, abuildSlice, elParts, abytesStr, astore, amake, aappend, anew, arith, aresults, aresList, ares, spec0, spec1, spec2, spec3, spec4, eqCells, eqCell, PB, hlt, rowAt_enc hlt, sHop, sFree, sWs, sKs, sRs, hhop, y2, y4, y6, i1, g1]
        exact ⟨i + 1, ⟨false, false⟩, ⟨by omega, hh, ho2, hu2⟩, by omega, weak_keep 1 (by simp) (by simp) (by simp [AV.clean, AV.clean1]) (by simp) (by simp [PB])⟩
      · have hu2 : (false && (List.drop (i + 1) p.edges).all uG) = (UG) := by
          rw [← hu]; simp [uG, g1, g2]
        simp [aev, cav, look, acallPure, abin, abinN, abinP, abinI, abinS, aun, aconv, afield, afieldAddr, aindexAddr, aindex, aslice, alow, ahigh, abuild, abuildGo, cellsOf, splice, fieldTy, alen, apick, amax, amin, aload, headV, aparts, abuildSlice, elParts, abytesStr, astore, amake, aappend, anew, arith, aresults, aresList, ares, spec0, spec1, spec2, spec3, spec4, eqCells, eqCell, PB, hlt, rowAt_enc hlt, sHop, sFree, sWs, sKs, sRs, hhop, y2, y4, y6, i1, g1, g2]
        exact ⟨i + 1, ⟨false, false⟩, ⟨by omega, hh, ho2, hu2⟩, by omega, weak_keep 1 (by simp) (by simp) (by simp [AV.clean, AV.clean1]) (by simp) (by simp [PB])⟩
      · have hu2 : (true && (List.drop (i + 1) p.edges).all uG) = (UG) := by
          rw [← hu]; simp [uG, g1, g2]
        simp [aev, cav, look, acallPure, abin, abinN, abinP, abinI, abinS, aun, aconv, afield, afieldAddr, aindexAddr, aindex, aslice, alow, ahigh, abuild, abuildGo, cellsOf, splice, fieldTy, alen, apick, amax, amin, aload, headV, aparts, abuildSlice, elParts, abytesStr, astore, amake, aappend, anew, arith, aresults, aresList, ares, spec0, spec1, spec2, spec3, spec4, eqCells, eqCell, PB, hlt, rowAt_enc hlt, sHop, sFree, sWs, sKs, sRs, hhop, y2, y4, y6, i1, g1, g2]
        exact ⟨i + 1, ⟨false, true⟩, ⟨by omega, hh, ho2, hu2⟩, by omega, weak_keep 1 (by simp) (by simp) (by simp [AV.clean, AV.clean1]) (by simp) (by simp [PB])⟩
    · have ho2 : (false && (List.drop (i + 1) p.edges).all oG) = (FV && OG) := by
        rw [← ho]; simp [oG, f1]
      rcases four b (risesB (ix p.edges i).types) (risesB (keysL (ix p.edges i).props)) with rfl | ⟨rfl, g1⟩ | ⟨rfl, g1, g2⟩ | ⟨rfl, g1, g2⟩
      · have hu2 : (false && (List.drop (i + 1) p.edges).all uG) = (UG) := by
          rw [← hu]; simp [uG]
        simp [aev, cav, look, acallPure, abin, abinN, abinP, abinI, abinS, aun, aconv, afield, afieldAddr, aindexAddr, aindex, aslice, alow, ahigh, abuild, abuildGo, cellsOf, splice, fieldTy, alen, apick, amax, amin, aload, headV, aparts, abuildSlice, elParts, abytesStr, astore, amake, aappend, anew, arith, aresults, aresList, ares, spec0, spec1, spec2, spec3, spec4, eqCells, eqCell, PB, hlt, rowAt_enc hlt, sHop, sFree, sWs, sKs, sRs, hhop, y2, y4, y6, i1, f1]
        exact ⟨i + 1, ⟨false, false⟩, ⟨by omega, hh, ho2, hu2⟩, by omega, weak_keep 1 (by simp) (by simp) (by simp [AV.clean, AV.clean1]) (by simp) (by simp [PB])⟩
      · have hu2 : (false && (List.drop (i + 1) p.edges).all uG) = (UG) := by
          rw [← hu]; simp [uG, g1]
        simp [aev, cav, look, acallPure, abin, abinN, abinP, abinI, abinS, aun, aconv, afield, afieldAddr, aindexAddr, aindex, aslice, alow, ahigh, abuild, abuildGo, cellsOf, splice, fieldTy, alen, apick, amax, amin, aload, headV, aparts, abuildSlice, elParts, abytesStr, astore, amake, aappend, anew, arith, aresults, aresList, ares, spec0, spec1, spec2, spec3, spec4, eqCells, eqCell, PB, hlt, rowAt_enc hlt, sHop, sFree, sWs, sKs, sRs, hhop, y2, y4, y6, i1, f1, g1]
        exact ⟨i + 1, ⟨false, false⟩, ⟨by omega, hh, ho2, hu2⟩, by omega, weak_keep 1 (by simp) (by simp) (by simp [AV.clean, AV.clean1]) (by simp) (by simp [PB])⟩
      · have hu2 : (false && (List.drop (i + 1) p.edges).all uG) = (UG) := by
          rw [← hu]; simp [uG, g1, g2]
        simp [aev, cav, look, acallPure, abin, abinN, abinP, abinI, abinS, aun, aconv, afield, afieldAddr, aindexAddr, aindex, aslice, alow, ahigh, abuild, abuildGo, cellsOf, splice, fieldTy, alen, apick, amax, amin, aload, headV, aparts, abuildSlice, elParts, abytesStr, astore, amake, aappend, anew, arith, aresults, aresList, ares, spec0, spec1, spec2, spec3, spec4, eqCells, eqCell, PB, hlt, rowAt_enc hlt, sHop, sFree, sWs, sKs, sRs, hhop, y2, y4, y6, i1, f1, g1, g2]
        exact ⟨i + 1, ⟨false, false⟩, ⟨by omega, hh, ho2, hu2⟩, by omega, weak_keep 1 (by simp) (by simp) (by simp [AV.clean, AV.clean1]) (by simp) (by simp [PB])⟩
      · have hu2 : (true && (List.drop (i + 1) p.edges).all uG) = (UG) := by
          rw [← hu]; simp [uG, g1, g2]
        simp [aev, cav, look, acallPure, abin, abinN, abinP, abinI, abinS, aun, aconv, afield, afieldAddr, aindexAddr, aindex, aslice, alow, ahigh, abuild, abuildGo, cellsOf, splice, fieldTy, alen, apick, amax, amin, aload, headV, aparts, abuildSlice, elParts, abytesStr, astore, amake, aappend, anew, arith, aresults, aresList, ares, spec0, spec1, spec2, spec3, spec4, eqCells, eqCell, PB, hlt, rowAt_enc hlt, sHop, sFree, sWs, sKs, sRs, hhop, y2, y4, y6, i1, f1, g1, g2]
        exact ⟨i + 1, ⟨false, true⟩, ⟨by omega, hh, ho2, hu2⟩, by omega, weak_keep 1 (by simp) (by simp) (by simp [AV.clean, AV.clean1]) (by simp) (by simp [PB])⟩
    · have ho2 : (false && (List.drop (i + 1) p.edges).all oG) = (FV && OG) := by
        rw [← ho]; simp [oG, f1, f2]
      rcases four b (risesB (ix p.edges i).types) (risesB (keysL (ix p.edges i).props)) with rfl | ⟨rfl, g1⟩ | ⟨rfl, g1, g2⟩ | ⟨rfl, g1, g2⟩
      · have hu2 : (false && (List.drop (i + 1) p.edges).all uG) = (UG) := by
          rw [← hu]; simp [uG]
        simp [aev, cav, look, acallPure, abin, abinN, abinP, abinI, abinS, aun, aconv, afield, afieldAddr, aindexAddr, aindex, aslice, alow, ahigh, abuild, abuildGo, cellsOf, splice, fieldTy, alen, apick, amax, amin, aload, headV, aparts, abuildSlice, elParts, abytesStr, astore, amake, aappend, anew, arith, aresults, aresList, ares, spec0, spec1, spec2, spec3, spec4, eqCells, eqCell, PB, hlt, rowAt_enc hlt, sHop, sFree, sWs, sKs, sRs, hhop, y2, y4, y6, i1, f1, f2]
        exact ⟨i + 1, ⟨false, false⟩, ⟨by omega, hh, ho2, hu2⟩, by omega, weak_keep 1 (by simp) (by simp) (by simp [AV.clean, AV.clean1]) (by simp) (by simp [PB])⟩
      · have hu2 : (false && (List.drop (i + 1) p.edges).all uG) = (UG) := by
          rw [← hu]; simp [uG, g1]
        simp [aev, cav, look, acallPure, abin, abinN, abinP, abinI, abinS, aun, aconv, afield, afieldAddr, aindexAddr, aindex, aslice, alow, ahigh, abuild, abuildGo, cellsOf, splice, fieldTy, alen, apick, amax, amin, aload, headV, aparts, abuildSlice, elParts, abytesStr, astore, amake, aappend, anew, arith, aresults, aresList, ares, spec0, spec1, spec2, spec3, spec4, eqCells, eqCell, PB, hlt, rowAt_enc hlt, sHop, sFree, sWs, sKs, sRs, hhop, y2, y4, y6, i1, f1, f2, g1]
        exact ⟨i + 1, ⟨false, false⟩, ⟨by omega, hh, ho2, hu2⟩, by omega, weak_keep 1 (by simp) (by simp) (by simp [AV.clean, AV.clean1]) (by simp) (by simp [PB])⟩
      · have hu2 : (false && (List.drop (i + 1) p.edges).all uG) = (UG) := by
          rw [← hu]; simp [uG, g1, g2]
        simp [aev, cav, look, acallPure, abin, abinN, abinP, abinI, abinS, aun, aconv, afield, afieldAddr, aindexAddr, aindex, aslice, alow, ahigh, abuild, abuildGo, cellsOf, splice, fieldTy, alen, apick, amax, amin, aload, headV, aparts, abuildSlice, elParts, abytesStr, astore, amake, aappend, anew, arith, aresults, aresList, ares, spec0, spec1, spec2, spec3, spec4, eqCells, eqCell, PB, hlt, rowAt_enc hlt, sHop, sFree, sWs, sKs, sRs, hhop, y2, y4, y6, i1, f1, f2, g1, g2]
        exact ⟨i + 1, ⟨false, false⟩, ⟨by omega, hh, ho2, hu2⟩, by omega, weak_keep 1 (by simp) (by simp) (by simp [AV.clean, AV.clean1]) (by simp) (by simp [PB])⟩
      · have hu2 : (true && (List.drop (i + 1) p.edges).all uG) = (UG) := by
          rw [← hu]; simp [uG, g1, g2]
        simp [aev, cav, look, acallPure, abin, abinN, abinP, abinI, abinS, aun, aconv, afield, afieldAddr, aindexAddr, aindex, aslice, alow, ahigh, abuild, abuildGo, cellsOf, splice, fieldTy, alen, apick, amax, amin, aload, headV, aparts, abuildSlice, elParts, abytesStr, astore, amake, aappend, anew, arith, aresults, aresList, ares, spec0, spec1, spec2, spec3, spec4, eqCells, eqCell, PB, hlt, rowAt_enc hlt, sHop, sFree, sWs, sKs, sRs, hhop, y2, y4, y6, i1, f1, f2, g1, g2]
        exact ⟨i + 1, ⟨false, true⟩, ⟨by omega, hh, ho2, hu2⟩, by omega, weak_keep 1 (by simp) (by simp) (by simp [AV.clean, AV.clean1]) (by simp) (by simp [PB])⟩
    · have ho2 : (false && (List.drop (i + 1) p.edges).all oG) = (FV && OG) := by
        rw [← ho]; simp [oG, f1, f2, f3]
      rcases four b (risesB (ix p.edges i).types) (risesB (keysL (ix p.edges i).props)) with rfl | ⟨rfl, g1⟩ | ⟨rfl, g1, g2⟩ | ⟨rfl, g1, g2⟩
      · have hu2 : (false && (List.drop (i + 1) p.edges).all uG) = (UG) := by
          rw [← hu]; simp [uG]
        simp [aev, cav, look, acallPure, abin, abinN, abinP, abinI, abinS, aun, aconv, afield, afieldAddr, aindexAddr, aindex, aslice, alow, ahigh, abuild, abuildGo, cellsOf, splice, fieldTy, alen, apick, amax, amin, aload, headV, aparts, abuildSlice, elParts, abytesStr, astore, amake, aappend, anew, arith, aresults, aresList, ares, spec0, spec1, spec2, spec3, spec4, eqCells, eqCell, PB, hlt, rowAt_enc hlt, sHop, sFree, sWs, sKs, sRs, hhop, y2, y4, y6, i1, f1, f2, f3]
        exact ⟨i + 1, ⟨false, false⟩, ⟨by omega, hh, ho2, hu2⟩, by omega, weak_keep 1 (by simp) (by simp) (by simp [AV.clean, AV.clean1]) (by simp) (by simp [PB])⟩
      · have hu2 : (false && (List.drop (i + 1) p.edges).all uG) = (UG) := by
          rw [← hu]; simp [uG, g1]
        simp [aev, cav, look, acallPure, abin, abinN, abinP, abinI, abinS, aun, aconv, afield, afieldAddr, aindexAddr, aindex, aslice, alow, ahigh, abuild, abuildGo, cellsOf, splice, fieldTy, alen, apick, amax, amin, aload, headV, aparts, abuildSlice, elParts, abytesStr, astore, amake, aappend, anew, arith, aresults, aresList, ares, spec0, spec1, spec2, spec3, spec4, eqCells, eqCell, PB, hlt, rowAt_enc hlt, sHop, sFree, sWs, sKs, sRs, hhop, y2, y4, y6, i1, f1, f2, f3, g1]
        exact ⟨i + 1, ⟨false, false⟩, ⟨by omega, hh, ho2, hu2⟩, by omega, weak_keep 1 (by simp) (by simp) (by simp [AV.clean, AV.clean1]) (by simp) (by simp [PB])⟩
      · have hu2 : (false && (List.drop (i + 1) p.edges).all uG) = (UG) := by
          rw [← hu]; simp [uG, g1, g2]
        simp [aev, cav, look, acallPure, abin, abinN, abinP, abinI, abinS, aun, aconv, afield, afieldAddr, aindexAddr, aindex, aslice, alow, ahigh, abuild, abuildGo, cellsOf, splice, fieldTy, alen, apick, amax, amin, aload, headV, aparts, abuildSlice, elParts, abytesStr, astore, amake, aappend, anew, arith, aresults, aresList, ares, spec0, spec1, spec2, spec3, spec4, eqCells, eqCell, PB, hlt, rowAt_enc hlt, sHop, sFree, sWs, sKs, sRs, hhop, y2, y4, y6, i1, f1, f2, f3, g1, g2]
        exact ⟨i + 1, ⟨false, false⟩, ⟨by omega, hh, ho2, hu2⟩, by omega, weak_keep 1 (by simp) (by simp) (by simp [AV.clean, AV.clean1]) (by simp) (by simp [PB])⟩
      · have hu2 : (true && (List.drop (i + 1) p.edges).all uG) = (UG) := by
          rw [← hu]; simp [uG, g1, g2]
        simp [aev, cav, look, acallPure, abin, abinN, abinP, abinI, abinS, aun, aconv, afield, afieldAddr, aindexAddr, aindex, aslice, alow, ahigh, abuild, abuildGo, cellsOf, splice, fieldTy, alen, apick, amax, amin, aload, headV, aparts, abuildSlice, elParts, abytesStr, astore, amake, aappend, anew, arith, aresults, aresList, ares, spec0, spec1, spec2, spec3, spec4, eqCells, eqCell, PB, hlt, rowAt_enc hlt, sHop, sFree, sWs, sKs, sRs, hhop, y2, y4, y6, i1, f1, f2, f3, g1, g2]
        exact ⟨i + 1, ⟨false, true⟩, ⟨by omega, hh, ho2, hu2⟩, by omega, weak_keep 1 (by simp) (by simp) (by simp [AV.clean, AV.clean1]) (by simp) (by simp [PB])⟩
    · have ho2 : (true && (List.drop (i + 1) p.edges).all oG) = (FV && OG) := by
        rw [← ho]; simp [oG, f1, f2, f3]
      rcases four b (risesB (ix p.edges i).types) (risesB (keysL (ix p.edges i).props)) with rfl | ⟨rfl, g1⟩ | ⟨rfl, g1, g2⟩ | ⟨rfl, g1, g2⟩
      · have hu2 : (false && (List.drop (i + 1) p.edges).all uG) = (UG) := by
          rw [← hu]; simp [uG]
        simp [aev, cav, look, acallPure, abin, abinN, abinP, abinI, abinS, aun, aconv, afield, afieldAddr, aindexAddr, aindex, aslice, alow, ahigh, abuild, abuildGo, cellsOf, splice, fieldTy, alen, apick, amax, amin, aload, headV, aparts, abuildSlice, elParts, abytesStr, astore, amake, aappend, anew, arith, aresults, aresList, ares, spec0, spec1, spec2, spec3, spec4, eqCells, eqCell, PB, hlt, rowAt_enc hlt, sHop, sFree, sWs, sKs, sRs, hhop, y2, y4, y6, i1, f1, f2, f3]
        exact ⟨i + 1, ⟨true, false⟩, ⟨by omega, hh, ho2, hu2⟩, by omega, weak_keep 1 (by simp) (by simp) (by simp [AV.clean, AV.clean1]) (by simp) (by simp [PB])⟩
      · have hu2 : (false && (List.drop (i + 1) p.edges).all uG) = (UG) := by
          rw [← hu]; simp [uG, g1]
        simp [aev, cav, look, acallPure, abin, abinN, abinP, abinI, abinS, aun, aconv, afield, afieldAddr, aindexAddr, aindex, aslice, alow, ahigh, abuild, abuildGo, cellsOf, splice, fieldTy, alen, apick, amax, amin, aload, headV, aparts, abuildSlice, elParts, abytesStr, astore, amake, aappend, anew, arith, aresults, aresList, ares, spec0, spec1, spec2, spec3, spec4, eqCells, eqCell, PB, hlt, rowAt_enc hlt, sHop, sFree, sWs, sKs, sRs, hhop, y2, y4, y6, i1, f1, f2, f3, g1]
        exact ⟨i + 1, ⟨true, false⟩, ⟨by omega, hh, ho2, hu2⟩, by omega, weak_keep 1 (by simp) (by simp) (by simp [AV.clean, AV.clean1]) (by simp) (by simp [PB])⟩
      · have hu2 : (false && (List.drop (i + 1) p.edges).all uG) = (UG) := by
          rw [← hu]; simp [uG, g1, g2]
        simp [aev, cav, look, acallPure, abin, abinN, abinP, abinI, abinS, aun, aconv, afield, afieldAddr, aindexAddr, aindex, aslice, alow, ahigh, abuild, abuildGo, cellsOf, splice, fieldTy, alen, apick, amax, amin, aload, headV, aparts, abuildSlice, elParts, abytesStr, astore, amake, aappend, anew, arith, aresults, aresList, ares, spec0, spec1, spec2, spec3, spec4, eqCells, eqCell, PB, hlt, rowAt_enc hlt, sHop, sFree, sWs, sKs, sRs, hhop, y2, y4, y6, i1, f1, f2, f3, g1, g2]
        exact ⟨i + 1, ⟨true, false⟩, ⟨by omega, hh, ho2, hu2⟩, by omega, weak_keep 1 (by simp) (by simp) (by simp [AV.clean, AV.clean1]) (by simp) (by simp [PB])⟩
      · have hu2 : (true && (List.drop (i + 1) p.edges).all uG) = (UG) := by
          rw [← hu]; simp [uG, g1, g2]
        simp [aev, cav, look, acallPure, abin, abinN, abinP, abinI, abinS, aun, aconv, afield, afieldAddr, aindexAddr, aindex, aslice, alow, ahigh, abuild, abuildGo, cellsOf, splice, fieldTy, alen, apick, amax, amin, aload, headV, aparts, abuildSlice, elParts, abytesStr, astore, amake, aappend, anew, arith, aresults, aresList, ares, spec0, spec1, spec2, spec3, spec4, eqCells, eqCell, PB, hlt, rowAt_enc hlt, sHop, sFree, sWs, sKs, sRs, hhop, y2, y4, y6, i1, f1, f2, f3, g1, g2]
        exact ⟨i + 1, ⟨true, true⟩, ⟨by omega, hh, ho2, hu2⟩, by omega, weak_keep 1 (by simp) (by simp) (by simp [AV.clean, AV.clean1]) (by simp) (by simp [PB])⟩
  rw [List.drop_eq_nil_of_le (by omega), List.all_nil] at hh
  rw [List.drop_eq_nil_of_le (by omega), List.all_nil, Bool.and_true] at ho hu
  subst ho
  simp [aev, cav, look, acallPure, abin, abinN, abinP, abinI, abinS, aun, aconv, afield, afieldAddr, aindexAddr, aindex, aslice, alow, ahigh, abuild, abuildGo, cellsOf, splice, fieldTy, alen, apick, amax, amin, aload, headV, aparts, abuildSlice, elParts, abytesStr, astore, amake, aappend, anew, arith, aresults, aresList, ares, spec0, spec1, spec2, spec3, spec4, eqCells, eqCell, PB, hlt]
  refine loop_rule (C := CSh m) (sigCSh m) (mixCSh m) (fun q : Nat × B2 => ⟨[(1, .ptr 0 1 3 0 0), (3, .bool q.2.a), (4, .bool q.2.b), (7, .int .i64 q.1)], [PB p]⟩) (fun q => q.1 ≤ p.nodes.length ∧ (q.2.a && (p.nodes.drop q.1).all oN) = Z1 ∧ (q.2.b && (p.nodes.drop q.1).all uN) = Z2) (fun q => p.nodes.length - q.1) (by kernel_rfl) ⟨(0, ⟨FV && OG, b⟩), ⟨by omega, by rw [hZ1, hON, ← Bool.and_assoc]; rfl, by rw [hZ2, hu, hUN]; rfl⟩, weak_slots (by simp [PB])⟩ (fun ⟨i, ⟨a, b⟩⟩ ⟨hi, ho, hu⟩ => ?_)
  simp only at hi ho hu ⊢
  by_cases hlt : i < p.nodes.length
  · have i1 : I64 ((i : Int) + 1) := by unfold I64; omega
    obtain ⟨x1, ⟨y2, x3⟩, y4, x5⟩ := wN _ (ix_mem hlt)
    have y6 : (keysL (ix p.nodes i).props).length ≤ maxLen := by unfold keysL; rw [List.length_map]; exact small_max y4
    rw [all_drop hlt] at ho hu
    rw [← Bool.and_assoc] at ho hu
    rcases five a (freeB (ix p.nodes i).var) ((ix p.nodes i).labels.all wordB) ((keysL (ix p.nodes i).props).all wordB) with rfl | ⟨rfl, f1⟩ | ⟨rfl, f1, f2⟩ | ⟨rfl, f1, f2, f3⟩ | ⟨rfl, f1, f2, f3⟩
    · have ho2 : (false && (List.drop (i + 1) p.nodes).all oN) = Z1 := by
        rw [← ho]; simp [oN]
      rcases four b (risesB (ix p.nodes i).labels) (risesB (keysL (ix p.nodes i).props)) with rfl | ⟨rfl, g1⟩ | ⟨rfl, g1, g2⟩ | ⟨rfl, g1, g2⟩
      · have hu2 : (false && (List.drop (i + 1) p.nodes).all uN) = Z2 := by
          rw [← hu]; simp [uN]
        simp [aev, cav, look, acallPure, abin, abinN, abinP, abinI, abinS, aun, aconv, afield, afieldAddr, aindexAddr, aindex, aslice, alow, ahigh, abuild, abuildGo, cellsOf, splice, fieldTy, alen, apick, amax, amin, aload, headV, aparts, abuildSlice, elParts, abytesStr, astore, amake, aappend, anew, arith, aresults, aresList, ares, spec0, spec1, spec2, spec3, spec4, eqCells, eqCell, PB, hlt, rowAt_enc hlt, sHop, sFree, sWs, sKs, sRs, y2, y4, y6, i1]
        exact ⟨i + 1, ⟨false, false⟩, ⟨by omega, ho2, hu2⟩, by omega, weak_keep 1 (by simp) (by simp) (by simp [AV.clean, AV.clean1]) (by simp) (by simp [PB])⟩
      · have hu2 : (false && (List.drop (i + 1) p.nodes).all uN) = Z2 := by
          rw [← hu]; simp [uN, g1]
        simp [aev, cav, look, acallPure, abin, abinN, abinP, abinI, abinS, aun, aconv, afield, afieldAddr, aindexAddr, aindex, aslice, alow, ahigh, abuild, abuildGo, cellsOf, splice, fieldTy, alen, apick, amax, amin, aload, headV, aparts, abuildSlice, elParts, abytesStr, astore, amake, aappend, anew, arith, aresults, aresList, ares, spec0, spec1, spec2, spec3, spec4, eqCells, eqCell, PB, hlt, rowAt_enc hlt, sHop, sFree, sWs, sKs, sRs, y2, y4, y6, i1, g1]
        exact ⟨i + 1, ⟨false, false⟩, ⟨by omega, ho2, hu2⟩, by omega, weak_keep 1 (by simp) (by simp) (by simp [AV.clean, AV.clean1]) (by simp) (by simp [PB])⟩
      · have hu2 : (false && (List.drop (i + 1) p.nodes).all uN) = Z2 := by
          rw [← hu]; simp [uN, g1, g2]
        simp [aev, cav, look, acallPure, abin, abinN, abinP, abinI, abinS, aun, aconv, afield, afieldAddr, aindexAddr, aindex, aslice, alow, ahigh, abuild, abuildGo, cellsOf, splice, fieldTy, alen, apick, amax, amin, aload, headV, aparts, abuildSlice, elParts, abytesStr, astore, amake, aappend, anew, arith, aresults, aresList, ares, spec0, spec1, spec2, spec3, spec4, eqCells, eqCell, PB, hlt, rowAt_enc hlt, sHop, sFree, sWs, sKs, sRs, y2, y4, y6, i1, g1, g2]
        exact ⟨i + 1, ⟨false, false⟩, ⟨by omega, ho2, hu2⟩, by omega, weak_keep 1 (by simp) (by simp) (by simp [AV.clean, AV.clean1]) (by simp) (by simp [PB])⟩
      · have hu2 : (true && (List.drop (i + 1) p.nodes).all uN) = Z2 := by
          rw [← hu]; simp [uN, g1, g2]
        simp [aev, cav, look, acallPure, abin, abinN, abinP, abinI, abinS, aun, aconv, afield, afieldAddr, aindexAddr, aindex, aslice, alow, ahigh, abuild, abuildGo, cellsOf, splice, fieldTy, alen, apick, amax, amin, aload, headV, aparts, abuildSlice, elParts, abytesStr, astore, amake, aappend, anew, arith, aresults, aresList, ares, spec0, spec1, spec2, spec3, spec4, eqCells, eqCell, PB, hlt, rowAt_enc hlt, sHop, sFree, sWs, sKs, sRs, y2, y4, y6, i1, g1, g2]
        exact ⟨i + 1, ⟨false, true⟩, ⟨by omega, ho2, hu2⟩, by omega, weak_keep 1 (by simp) (by simp) (by simp [AV.clean, AV.clean1]) (by simp) (by simp [PB])⟩
    · have ho2 : (false && (List.drop (i + 1) p.nodes).all oN) = Z1 := by
        rw [← ho]; simp [oN, f1]
      rcases four b (risesB (ix p.nodes i).labels) (risesB (keysL (ix p.nodes i).props)) with rfl | ⟨rfl, g1⟩ | ⟨rfl, g1, g2⟩ | ⟨rfl, g1, g2⟩
      · have hu2 : (false && (List.drop (i + 1) p.nodes).all uN) = Z2 := by
          rw [← hu]; simp [uN]
        simp [aev, cav, look, acallPure, abin, abinN, abinP, abinI, abinS, aun, aconv, afield, afieldAddr, aindexAddr, aindex, aslice, alow, ahigh, abuild, abuildGo, cellsOf, splice, fieldTy, alen, apick, amax, amin, aload, headV, aparts, abuildSlice, elParts, abytesStr, astore, amake, aappend, anew, arith, aresults, aresList, ares, spec0, spec1, spec2, spec3, spec4, eqCells, eqCell, PB, hlt, rowAt_enc hlt, sHop, sFree, sWs, sKs, sRs, y2, y4, y6, i1, f1]
        exact ⟨i + 1, ⟨false, false⟩, ⟨by omega, ho2, hu2⟩, by omega, weak_keep 1 (by simp) (by simp) (by simp [AV.clean, AV.clean1]) (by simp) (by simp [PB])⟩
      · have hu2 : (false && (List.drop (i + 1) p.nodes).all uN) = Z2 := by
          rw [← hu]; simp [uN, g1]
        simp [aev, cav, look, acallPure, abin, abinN, abinP, abinI, abinS, aun, aconv, afield, afieldAddr, aindexAddr, aindex, aslice, alow, ahigh, abuild, abuildGo, cellsOf, splice, fieldTy, alen, apick, amax, amin, aload, headV, aparts, abuildSlice, elParts, abytesStr, astore, amake, aappend, anew, arith, aresults, aresList, ares, spec0, spec1, spec2, spec3, spec4, eqCells, eqCell, PB, hlt, rowAt_enc hlt, sHop, sFree, sWs, sKs, sRs, y2, y4, y6, i1, f1, g1]
        exact ⟨i + 1, ⟨false, false⟩, ⟨by omega, ho2, hu2⟩, by omega, weak_keep 1 (by simp) (by simp) (by simp [AV.clean, AV.clean1]) (by simp) (by simp [PB])⟩
      · have hu2 : (false && (List.drop (i + 1) p.nodes).all uN) = Z2 := by
          rw [← hu]; simp [uN, g1, g2]
        simp [aev, cav, look, acallPure, abin, abinN, abinP, abinI, abinS, aun, aconv, afield, afieldAddr, aindexAddr, aindex, aslice, alow, ahigh, abuild, abuildGo, cellsOf, splice, fieldTy, alen, apick, amax, amin, aload, headV, aparts, abuildSlice, elParts, abytesStr, astore, amake, aappend, anew, arith, aresults, aresList, ares, spec0, spec1, spec2, spec3, spec4, eqCells, eqCell, PB, hlt, rowAt_enc hlt, sHop, sFree, sWs, sKs, sRs, y2, y4, y6, i1, f1, g1, g2]
        exact ⟨i + 1, ⟨false, false⟩, ⟨by omega, ho2, hu2⟩, by omega, weak_keep 1 (by simp) (by simp) (by simp [AV.clean, AV.clean1]) (by simp) (by simp [PB])⟩
      · have hu2 : (true && (List.drop (i + 1) p.nodes).all uN) = Z2 := by
          rw [← hu]; simp [uN, g1, g2]
        simp [aev, cav, look, acallPure, abin, abinN, abinP, abinI, abinS, aun, aconv, afield, afieldAddr, aindexAddr, aindex, aslice, alow, ahigh, abuild, abuildGo, cellsOf, splice, fieldTy, alen, apick, amax, amin, aload, headV, aparts, abuildSlice, elParts, abytesStr, astore, amake, aappend, anew, arith, aresults, aresList, ares, spec0, spec1, spec2, spec3, spec4, eqCells, eqCell, PB, hlt, rowAt_enc hlt, sHop, sFree, sWs, sKs, sRs, y2, y4, y6, i1, f1, g1, g2]
        exact ⟨i + 1, ⟨false, true⟩, ⟨by omega, ho2, hu2⟩, by omega, weak_keep 1 (by simp) (by simp) (by simp [AV.clean, AV.clean1]) (by simp) (by simp [PB])⟩
    · have ho2 : (false && (List.drop (i + 1) p.nodes).all oN) = Z1 := by
        rw [← ho]; simp [oN, f1, f2]
      rcases four b (risesB (ix p.nodes i).labels) (risesB (keysL (ix p.nodes i).props)) with rfl | ⟨rfl, g1⟩ | ⟨rfl, g1, g2⟩ | ⟨rfl, g1, g2⟩
      · have hu2 : (false && (List.drop (i + 1) p.nodes).all uN) = Z2 := by
          rw [← hu]; simp [uN]
        simp [aev, cav, look, acallPure, abin, abinN, abinP, abinI, abinS, aun, aconv, afield, afieldAddr, aindexAddr, aindex, aslice, alow, ahigh, abuild, abuildGo, cellsOf, splice, fieldTy, alen, apick, amax, amin, aload, headV, aparts, abuildSlice, elParts, abytesStr, astore, amake, aappend, anew, arith, aresults, aresList, ares, spec0, spec1, spec2, spec3, spec4, eqCells, eqCell, PB, hlt, rowAt_enc hlt, sHop, sFree, sWs, sKs, sRs, y2, y4, y6, i1, f1, f2]
        exact ⟨i + 1, ⟨false, false⟩, ⟨by omega, ho2, hu2⟩, by omega, weak_keep 1 (by simp) (by simp) (by simp [AV.clean, AV.clean1]) (by simp) (by simp [PB])⟩
      · have hu2 : (false && (List.drop (i + 1) p.nodes).all uN) = Z2 := by
          rw [← hu]; simp [uN, g1]
        simp [aev, cav, look, acallPure, abin, abinN, abinP, abinI, abinS, aun, aconv, afield, afieldAddr, aindexAddr, aindex, aslice, alow, ahigh, abuild, abuildGo, cellsOf, splice, fieldTy, alen, apick, amax, amin, aload, headV, aparts, abuildSlice, elParts, abytesStr, astore, amake, aappend, anew, arith, aresults, aresList, ares, spec0, spec1, spec2, spec3, spec4, eqCells, eqCell, PB, hlt, rowAt_enc hlt, sHop, sFree, sWs, sKs, sRs, y2, y4, y6, i1, f1, f2, g1]
        exact ⟨i + 1, ⟨false, false⟩, ⟨by omega, ho2, hu2⟩, by omega, weak_keep 1 (by simp) (by simp) (by simp [AV.clean, AV.clean1]) (by simp) (by simp [PB])⟩
      · have hu2 : (false && (List.drop (i + 1) p.nodes).all uN) = Z2 := by
          rw [← hu]; simp [uN, g1, g2]
        simp [aev, cav, look, acallPure, abin, abinN, abinP, abinI, abinS, aun, aconv, afield, afieldAddr, aindexAddr, aindex, aslice, alow, ahigh, abuild, abuildGo, cellsOf, splice, fieldTy, alen, apick, amax, amin, aload, headV, aparts, abuildSlice, elParts, abytesStr, astore, amake, aappend, anew, arith, aresults, aresList, ares, spec0, spec1, spec2, spec3, spec4, eqCells, eqCell, PB, hlt, rowAt_enc hlt, sHop, sFree, sWs, sKs, sRs, y2, y4, y6, i1, f1, f2, g1, g2]
        exact ⟨i + 1, ⟨false, false⟩, ⟨by omega, ho2, hu2⟩, by omega, weak_keep 1 (by simp) (by simp) (by simp [AV.clean, AV.clean1]) (by simp) (by simp [PB])⟩
      · have hu2 : (true && (List.drop (i + 1) p.nodes).all uN) = Z2 := by
          rw [← hu]; simp [uN, g1, g2]
        simp [aev, cav, look, acallPure, abin, abinN, abinP, abinI, abinS, aun, aconv, afield, afieldAddr, aindexAddr, aindex, aslice, alow, ahigh, abuild, abuildGo, cellsOf, splice, fieldTy, alen, apick, amax, amin, aload, headV, aparts, abuildSlice, elParts, abytesStr, astore, amake, aappend, anew, arith, aresults, aresList, ares, spec0, spec1, spec2, spec3, spec4, eqCells, eqCell, PB, hlt, rowAt_enc hlt, sHop, sFree, sWs, sKs, sRs, y2, y4, y6, i1, f1, f2, g1, g2]
        exact ⟨i + 1, ⟨false, true⟩, ⟨by omega, ho2, hu2⟩, by omega, weak_keep 1 (by simp) (by simp) (by simp [AV.clean, AV.clean1]) (by simp) (by simp [PB])⟩
    · have ho2 : (false && (List.drop (i + 1) p.nodes).all oN) = Z1 := by
        rw [← ho]; simp [oN, f1, f2, f3]
      rcases four b (risesB (ix p.nodes i).labels) (risesB (keysL (ix p.nodes i).props)) with rfl | ⟨rfl, g1⟩ | ⟨rfl, g1, g2⟩ | ⟨rfl, g1, g2⟩
      · have hu2 : (false && (List.drop (i + 1) p.nodes).all uN) = Z2 := by
          rw [← hu]; simp [uN]
        simp [aev, cav, look, acallPure, abin, abinN, abinP, abinI, abinS, aun, aconv, afield, afieldAddr, aindexAddr, aindex, aslice, alow, ahigh, abuild, abuildGo, cellsOf, splice, fieldTy, alen, apick, amax, amin, aload, headV, aparts, abuildSlice, elParts, abytesStr, astore, amake, aappend, anew, arith, aresults, aresList, ares, spec0, spec1, spec2, spec3, spec4, eqCells, eqCell, PB, hlt, rowAt_enc hlt, sHop, sFree, sWs, sKs, sRs, y2, y4, y6, i1, f1, f2, f3]
        exact ⟨i + 1, ⟨false, false⟩, ⟨by omega, ho2, hu2⟩, by omega, weak_keep 1 (by simp) (by simp) (by simp [AV.clean, AV.clean1]) (by simp) (by simp [PB])⟩
      · have hu2 : (false && (List.drop (i + 1) p.nodes).all uN) = Z2 := by
          rw [← hu]; simp [uN, g1]
        simp [aev, cav, look, acallPure, abin, abinN, abinP, abinI, abinS, aun, aconv, afield, afieldAddr, aindexAddr, aindex, aslice, alow, ahigh, abuild, abuildGo, cellsOf, splice, fieldTy, alen, apick, amax, amin, aload, headV, aparts, abuildSlice, elParts, abytesStr, astore, amake, aappend, anew, arith, aresults, aresList, ares, spec0, spec1, spec2, spec3, spec4, eqCells, eqCell, PB, hlt, rowAt_enc hlt, sHop, sFree, sWs, sKs, sRs, y2, y4, y6, i1, f1, f2, f3, g1]
        exact ⟨i + 1, ⟨false, false⟩, ⟨by omega, ho2, hu2⟩, by omega, weak_keep 1 (by simp) (by simp) (by simp [AV.clean, AV.clean1]) (by simp) (by simp [PB])⟩
      · have hu2 : (false && (List.drop (i + 1) p.nodes).all uN) = Z2 := by
          rw [← hu]; simp [uN, g1, g2]
        simp [aev, cav, look, acallPure, abin, abinN, abinP, abinI, abinS, aun, aconv, afield, afieldAddr, aindexAddr, aindex, aslice, alow, ahigh, abuild, abuildGo, cellsOf, splice, fieldTy, alen, apick, amax, amin, aload, headV, aparts, abuildSlice, elParts, abytesStr, astore, amake, aappend, anew, arith, aresults, aresList, ares, spec0, spec1, spec2, spec3, spec4, eqCells, eqCell, PB, hlt, rowAt_enc hlt, sHop, sFree, sWs, sKs, sRs, y2, y4, y6, i1, f1, f2, f3, g1, g2]
        exact ⟨i + 1, ⟨false, false⟩, ⟨by omega, ho2, hu2⟩, by omega, weak_keep 1 (by simp) (by simp) (by simp [AV.clean, AV.clean1]) (by simp) (by simp [PB])⟩
      · have hu2 : (true && (List.drop (i + 1) p.nodes).all uN) = Z2 := by
          rw [← hu]; simp [uN, g1, g2]
        simp [aev, cav, look, acallPure, abin, abinN, abinP, abinI, abinS, aun, aconv, afield, afieldAddr, aindexAddr, aindex, aslice, alow, ahigh, abuild, abuildGo, cellsOf, splice, fieldTy, alen, apick, amax, amin, aload, headV, aparts, abuildSlice, elParts, abytesStr, astore, amake, aappend, anew, arith, aresults, aresList, ares, spec0, spec1, spec2, spec3, spec4, eqCells, eqCell, PB, hlt, rowAt_enc hlt, sHop, sFree, sWs, sKs, sRs, y2, y4, y6, i1, f1, f2, f3, g1, g2]
        exact ⟨i + 1, ⟨false, true⟩, ⟨by omega, ho2, hu2⟩, by omega, weak_keep 1 (by simp) (by simp) (by simp [AV.clean, AV.clean1]) (by simp) (by simp [PB])⟩
    · have ho2 : (true && (List.drop (i + 1) p.nodes).all oN) = Z1 := by
        rw [← ho]; simp [oN, f1, f2, f3]
      rcases four b (risesB (ix p.nodes i).labels) (risesB (keysL (ix p.nodes i).props)) with rfl | ⟨rfl, g1⟩ | ⟨rfl, g1, g2⟩ | ⟨rfl, g1, g2⟩
      · have hu2 : (false && (List.drop (i + 1) p.nodes).all uN) = Z2 := by
          rw [← hu]; simp [uN]
        simp [aev, cav, look, acallPure, abin, abinN, abinP, abinI, abinS, aun, aconv, afield, afieldAddr, aindexAddr, aindex, aslice, alow, ahigh, abuild, abuildGo, cellsOf, splice, fieldTy, alen, apick, amax, amin, aload, headV, aparts, abuildSlice, elParts, abytesStr, astore, amake, aappend, anew, arith, aresults, aresList, ares, spec0, spec1, spec2, spec3, spec4, eqCells, eqCell, PB, hlt, rowAt_enc hlt, sHop, sFree, sWs, sKs, sRs, y2, y4, y6, i1, f1, f2, f3]
        exact ⟨i + 1, ⟨true, false⟩, ⟨by omega, ho2, hu2⟩, by omega, weak_keep 1 (by simp) (by simp) (by simp [AV.clean, AV.clean1]) (by simp) (by simp [PB])⟩
      · have hu2 : (false && (List.drop (i + 1) p.nodes).all uN) = Z2 := by
          rw [← hu]; simp [uN, g1]
        simp [aev, cav, look, acallPure, abin, abinN, abinP, abinI, abinS, aun, aconv, afield, afieldAddr, aindexAddr, aindex, aslice, alow, ahigh, abuild, abuildGo, cellsOf, splice, fieldTy, alen, apick, amax, amin, aload, headV, aparts, abuildSlice, elParts, abytesStr, astore, amake, aappend, anew, arith, aresults, aresList, ares, spec0, spec1, spec2, spec3, spec4, eqCells, eqCell, PB, hlt, rowAt_enc hlt, sHop, sFree, sWs, sKs, sRs, y2, y4, y6, i1, f1, f2, f3, g1]
        exact ⟨i + 1, ⟨true, false⟩, ⟨by omega, ho2, hu2⟩, by omega, weak_keep 1 (by simp) (by simp) (by simp [AV.clean, AV.clean1]) (by simp) (by simp [PB])⟩
      · have hu2 : (false && (List.drop (i + 1) p.nodes).all uN) = Z2 := by
          rw [← hu]; simp [uN, g1, g2]
        simp [aev, cav, look, acallPure, abin, abinN, abinP, abinI, abinS, aun, aconv, afield, afieldAddr, aindexAddr, aindex, aslice, alow, ahigh, abuild, abuildGo, cellsOf, splice, fieldTy, alen, apick, amax, amin, aload, headV, aparts, abuildSlice, elParts, abytesStr, astore, amake, aappend, anew, arith, aresults, aresList, ares, spec0, spec1, spec2, spec3, spec4, eqCells, eqCell, PB, hlt, rowAt_enc hlt, sHop, sFree, sWs, sKs, sRs, y2, y4, y6, i1, f1, f2, f3, g1, g2]
        exact ⟨i + 1, ⟨true, false⟩, ⟨by omega, ho2, hu2⟩, by omega, weak_keep 1 (by simp) (by simp) (by simp [AV.clean, AV.clean1]) (by simp) (by simp [PB])⟩
      · have hu2 : (true && (List.drop (i + 1) p.nodes).all uN) = Z2 := by
          rw [← hu]; simp [uN, g1, g2]
        simp [aev, cav, look, acallPure, abin, abinN, abinP, abinI, abinS, aun, aconv, afield, afieldAddr, aindexAddr, aindex, aslice, alow, ahigh, abuild, abuildGo, cellsOf, splice, fieldTy, alen, apick, amax, amin, aload, headV, aparts, abuildSlice, elParts, abytesStr, astore, amake, aappend, anew, arith, aresults, aresList, ares, spec0, spec1, spec2, spec3, spec4, eqCells, eqCell, PB, hlt, rowAt_enc hlt, sHop, sFree, sWs, sKs, sRs, y2, y4, y6, i1, f1, f2, f3, g1, g2]
        exact ⟨i + 1, ⟨true, true⟩, ⟨by omega, ho2, hu2⟩, by omega, weak_keep 1 (by simp) (by simp) (by simp [AV.clean, AV.clean1]) (by simp) (by simp [PB])⟩
  rw [List.drop_eq_nil_of_le (by omega), List.all_nil, Bool.and_true] at ho hu
  rw [← hh, ← ho, ← hu]
  cases a
  · simp [aev, cav, look, acallPure, abin, abinN, abinP, abinI, abinS, aun, aconv, afield, afieldAddr, aindexAddr, aindex, aslice, alow, ahigh, abuild, abuildGo, cellsOf, splice, fieldTy, alen, apick, amax, amin, aload, headV, aparts, abuildSlice, elParts, abytesStr, astore, amake, aappend, anew, arith, aresults, aresList, ares, spec0, spec1, spec2, spec3, spec4, eqCells, eqCell, PB, hlt]
  · cases b <;> simp [aev, cav, look, acallPure, abin, abinN, abinP, abinI, abinS, aun, aconv, afield, afieldAddr, aindexAddr, aindex, aslice, alow, ahigh, abuild, abuildGo, cellsOf, splice, fieldTy, alen, apick, amax, amin, aload, headV, aparts, abuildSlice, elParts, abytesStr, astore, amake, aappend, anew, arith, aresults, aresList, ares, spec0, spec1, spec2, spec3, spec4, eqCells, eqCell, PB, hlt]
end
end Go.Proofs.YthcfnaglgoaikaaGreat
