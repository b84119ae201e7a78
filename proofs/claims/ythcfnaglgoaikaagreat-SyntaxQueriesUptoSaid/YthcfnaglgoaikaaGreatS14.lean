/-
  layer 18: the check of a path pattern, the program's side.
-/
import Derived.Test.YthcfnaglgoaikaaGreatS13
import Derived.Test.YthcfnaglgoaikaaGreatS11
namespace Go.Proofs.YthcfnaglgoaikaaGreat
open Go.RowKit
set_option linter.unusedSimpArgs false
set_option linter.unusedVariables false
set_option maxRecDepth 100000

theorem any_hop (l : List EdgePat) : l.any (hopT true) = !l.all hopB := by
  induction l with
  | nil => rfl
  | cons x r ih => rw [List.any_cons, List.all_cons, ih]; simp [hopT]
theorem any_cre (l : List EdgePat) : l.any (hopT false) = !l.all creB := by
  induction l with
  | nil => rfl
  | cons x r ih => rw [List.any_cons, List.all_cons, ih]; simp [hopT]
theorem partsL_wf : ∀ (ns : List NodePat) (es : List EdgePat), (∀ n ∈ ns, WfN n) → (∀ e ∈ es, WfG e) → ∀ x ∈ partsL ns es, WfN x
  | [], es, _, _, x, h => by simp [partsL] at h
  | n :: ns, [], hn, he, x, h => by
    simp only [partsL, List.mem_cons] at h
    rcases h with rfl | h
    · exact hn _ (by simp)
    · exact partsL_wf ns [] (fun y hy => hn y (by simp [hy])) he x h
  | n :: ns, e :: es, hn, he, x, h => by
    simp only [partsL, List.mem_cons] at h
    rcases h with rfl | rfl | h
    · exact hn _ (by simp)
    · exact he e (by simp)
    · exact partsL_wf ns es (fun y hy => hn y (by simp [hy])) (fun y hy => he y (by simp [hy])) x h
theorem aggQ_drop {l : List PropPat} {i : Nat} (h : i < l.length) : aggQ (l.drop i) = (aggE (ix l i).e || aggQ (l.drop (i + 1))) := any_drop h
theorem aggPs_drop {l : List NodePat} {i : Nat} (h : i < l.length) : aggPs (l.drop i) = (aggQ (ix l i).props || aggPs (l.drop (i + 1))) := any_drop h
theorem small_max {n : Nat} (h : n ≤ 1048576) : n ≤ maxLen := by unfold maxLen; omega
def NB (x : NodePat) : Blk := ⟨76, 3, [[.str x.var, .slice 1 false (encRows x.labels), .slice 10 false (encRows x.props)]], true, true⟩

section
variable {m : Int}
noncomputable def CPa (m : Int) : Ctx := mkC Tryz.prog (G m) [(24, .pure sLg), (25, .pure sCoE), (28, .pure sPt), (29, .pure sWord), (30, .pure sWs), (31, .pure sKs), (32, .pure sRs), (20, .pure sChk), (22, .pure sHasA)]
@[simp] theorem CPa_P (m : Int) : (CPa m).P = Tryz.prog := rfl
@[simp] theorem CPa_1 (m : Int) : (CPa m).S 24 = .pure sLg := rfl
@[simp] theorem CPa_2 (m : Int) : (CPa m).S 25 = .pure sCoE := rfl
@[simp] theorem CPa_3 (m : Int) : (CPa m).S 28 = .pure sPt := rfl
@[simp] theorem CPa_4 (m : Int) : (CPa m).S 29 = .pure sWord := rfl
@[simp] theorem CPa_5 (m : Int) : (CPa m).S 30 = .pure sWs := rfl
@[simp] theorem CPa_6 (m : Int) : (CPa m).S 31 = .pure sKs := rfl
@[simp] theorem CPa_7 (m : Int) : (CPa m).S 32 = .pure sRs := rfl
@[simp] theorem CPa_8 (m : Int) : (CPa m).S 20 = .pure sChk := rfl
@[simp] theorem CPa_9 (m : Int) : (CPa m).S 22 = .pure sHasA := rfl
theorem mixCPa (m : Int) : (CPa m).P.follows .mixedOrders = true := mixed
theorem sigCPa (m : Int) : SigOK (CPa m) := sigOK_cons (entryPure longP Tryz.func24 rfl (by decide)) (sigOK_cons (entryPure coE Tryz.func25 rfl (by decide)) (sigOK_cons (entryPure partsP Tryz.func28 rfl (by decide)) (sigOK_cons (entryPure wordP Tryz.func29 rfl (by decide)) (sigOK_cons (entryPure wordsP Tryz.func30 rfl (by decide)) (sigOK_cons (entryPure keysP Tryz.func31 rfl (by decide)) (sigOK_cons (entryPure risesP Tryz.func32 rfl (by decide)) (sigOK_cons (entryPure checkP Tryz.func20 rfl (by decide)) (sigOK_cons (entryPure hasP Tryz.func22 rfl (by decide)) (sigOK_nil _ _)))))))))

def sPathC : List AV → Option (Prop × AV) := spec2 (fun (p : PathPat) (_ : Bool) => WfP p) (fun p c => .int .i64 (pathE p c))
set_option maxHeartbeats 16000000 in
theorem checkPathP : PureOK Tryz.prog (G m) 8 sPathC := by
  refine pure2 (C := CPa m) (sigCPa m) (mixCPa m) Tryz.func8 rfl rfl rfl (by kernel_rfl) (by decide) (fun p c ⟨wv, ⟨wn, wN⟩, we, wE⟩ => ?_)
  cases hl : longB p
  case true => simp [aev, cav, look, acallPure, abin, abinN, abinP, abinI, abinS, aun, aconv, afield, afieldAddr, aindexAddr, aindex, aslice, alow, ahigh, abuild, abuildGo, cellsOf, splice, fieldTy, alen, apick, amax, amin, aload, headV, aparts, abuildSlice, elParts, abytesStr, astore, amake, aappend, anew, arith, aresults, aresList, ares, spec0, spec1, spec2, spec3, spec4, eqCells, eqCell, sLg, we, hl, pathE]
  have hel : p.edges.length ≤ 6 := by
    unfold longB at hl
    simp only [Bool.or_eq_false_iff, decide_eq_false_iff_not] at hl
    omega
  have i0 : I64 ((p.edges.length : Int) + 1) := by unfold I64; omega
  by_cases h2 : p.nodes.length = p.edges.length + 1
  case neg =>
    have h2' : ((p.nodes.length : Int) = (p.edges.length : Int) + 1) = False := eq_false (by omega)
    simp [aev, cav, look, acallPure, abin, abinN, abinP, abinI, abinS, aun, aconv, afield, afieldAddr, aindexAddr, aindex, aslice, alow, ahigh, abuild, abuildGo, cellsOf, splice, fieldTy, alen, apick, amax, amin, aload, headV, aparts, abuildSlice, elParts, abytesStr, astore, amake, aappend, anew, arith, aresults, aresList, ares, spec0, spec1, spec2, spec3, spec4, eqCells, eqCell, sLg, we, hl, i0, h2, h2', pathE]
  have h2' : ((p.nodes.length : Int) = (p.edges.length : Int) + 1) = True := eq_true (by omega)
  cases h3 : p.edges.all hopB
  case false => simp [aev, cav, look, acallPure, abin, abinN, abinP, abinI, abinS, aun, aconv, afield, afieldAddr, aindexAddr, aindex, aslice, alow, ahigh, abuild, abuildGo, cellsOf, splice, fieldTy, alen, apick, amax, amin, aload, headV, aparts, abuildSlice, elParts, abytesStr, astore, amake, aappend, anew, arith, aresults, aresList, ares, spec0, spec1, spec2, spec3, spec4, eqCells, eqCell, sLg, sCoE, we, hl, i0, h2', any_hop, h3, pathE]
  obtain ⟨P, hP⟩ : ∃ P, P = partsL p.nodes p.edges := ⟨_, rfl⟩
  have hwf : ∀ x ∈ P, WfN x := by rw [hP]; exact partsL_wf _ _ wN wE
  have hPl : P.length ≤ 2097152 := by have := partsL_len p.nodes p.edges; rw [← hP] at this; omega
  obtain ⟨OK, hOK⟩ : ∃ b, b = P.all partOK := ⟨_, rfl⟩
  obtain ⟨UP, hUP⟩ : ∃ b, b = P.all partUp := ⟨_, rfl⟩
  obtain ⟨CR, hCR⟩ : ∃ b, b = p.edges.all creB := ⟨_, rfl⟩
  have hpath : pathE p c = if freeB p.var = false then 6 else if OK = false then 6 else if UP = false then 26 else if errPs P ≠ 0 then errPs P else if aggPs P = true then 9 else if c = true ∧ CR = false then 1 else 0 := by
    rw [hOK, hUP, hCR]
    unfold pathE
    rw [if_neg (by rw [hl]; simp), if_neg (by rw [h3]; simp [h2]), ← hP]
  rw [hpath]
  have hfree : freeB p.var = (decide (p.var = ⟨#[]⟩) || wordB p.var) := rfl
  have hstart : freeB p.var = false ∨ (freeB p.var = true ∧ ((p.var = ⟨#[]⟩) = True ∨ ((p.var = ⟨#[]⟩) = False ∧ wordB p.var = true))) := by
    rcases em2 (p.var = ⟨#[]⟩) with h | h <;> cases h' : wordB p.var <;> simp [hfree, h, h']
  rcases hstart with hf | ⟨hf, hv⟩
  · have hv1 : (p.var = ⟨#[]⟩) = False := by rcases em2 (p.var = ⟨#[]⟩) with h | h <;> simp_all [freeB]
    have hv2 : wordB p.var = false := by cases h : wordB p.var <;> simp_all [freeB]
    simp [aev, cav, look, acallPure, abin, abinN, abinP, abinI, abinS, aun, aconv, afield, afieldAddr, aindexAddr, aindex, aslice, alow, ahigh, abuild, abuildGo, cellsOf, splice, fieldTy, alen, apick, amax, amin, aload, headV, aparts, abuildSlice, elParts, abytesStr, astore, amake, aappend, anew, arith, aresults, aresList, ares, spec0, spec1, spec2, spec3, spec4, eqCells, eqCell, sLg, sCoE, sPt, sWord, we, wn, hl, i0, h2', any_hop, h3, ← hP, hf, hv1, hv2]
  rcases hv with hv | ⟨hv, hv2⟩
  · simp [aev, cav, look, acallPure, abin, abinN, abinP, abinI, abinS, aun, aconv, afield, afieldAddr, aindexAddr, aindex, aslice, alow, ahigh, abuild, abuildGo, cellsOf, splice, fieldTy, alen, apick, amax, amin, aload, headV, aparts, abuildSlice, elParts, abytesStr, astore, amake, aappend, anew, arith, aresults, aresList, ares, spec0, spec1, spec2, spec3, spec4, eqCells, eqCell, sLg, sCoE, sPt, sWord, we, wn, hl, i0, h2', any_hop, h3, ← hP, hf, hv, hv]
    refine loop_rule (C := CPa m) (sigCPa m) (mixCPa m) (fun i : Nat => ⟨[(1, .bool c), (2, .ptr 0 1 3 0 0), (5, Enc.enc P), (42, Enc.enc P), (43, .int .i64 P.length), (44, .int .i64 i)], [PB p]⟩) (fun i => i ≤ P.length ∧ (P.drop i).all partOK = OK) (fun i => P.length - i) (by kernel_rfl) ⟨0, ⟨by omega, by rw [hOK]; rfl⟩, weak_slots (by simp)⟩ (fun i ⟨hi, hs⟩ => ?_)
    by_cases hlt : i < P.length
    · have i1 : I64 ((i : Int) + 1) := by unfold I64; omega
      obtain ⟨w1, ⟨w2, w3⟩, w4, w5⟩ := hwf _ (ix_mem hlt)
      have w6 : (keysL (ix P i).props).length ≤ maxLen := by unfold keysL; rw [List.length_map]; exact small_max w4
      rw [all_drop hlt] at hs
      cases hok : partOK (ix P i)
      · rw [hok, Bool.false_and] at hs
        rcases em2 ((ix P i).var = ⟨#[]⟩) with v1 | v1 <;> cases v2 : wordB (ix P i).var <;> cases v3 : (ix P i).labels.all wordB <;> cases v4 : (keysL (ix P i).props).all wordB <;> first | (exfalso; simp [partOK, freeB, v1, v2, v3, v4] at hok; done) | simp [aev, cav, look, acallPure, abin, abinN, abinP, abinI, abinS, aun, aconv, afield, afieldAddr, aindexAddr, aindex, aslice, alow, ahigh, abuild, abuildGo, cellsOf, splice, fieldTy, alen, apick, amax, amin, aload, headV, aparts, abuildSlice, elParts, abytesStr, astore, amake, aappend, anew, arith, aresults, aresList, ares, spec0, spec1, spec2, spec3, spec4, eqCells, eqCell, PB, hlt, rowAt_enc hlt, sWord, sWs, sKs, w2, w4, w6, v1, v2, v3, v4, ← hs]
      · rw [hok, Bool.true_and] at hs
        rcases em2 ((ix P i).var = ⟨#[]⟩) with v1 | v1 <;> cases v2 : wordB (ix P i).var <;> cases v3 : (ix P i).labels.all wordB <;> cases v4 : (keysL (ix P i).props).all wordB <;> first | (exfalso; simp [partOK, freeB, v1, v2, v3, v4] at hok; done) | (simp [aev, cav, look, acallPure, abin, abinN, abinP, abinI, abinS, aun, aconv, afield, afieldAddr, aindexAddr, aindex, aslice, alow, ahigh, abuild, abuildGo, cellsOf, splice, fieldTy, alen, apick, amax, amin, aload, headV, aparts, abuildSlice, elParts, abytesStr, astore, amake, aappend, anew, arith, aresults, aresList, ares, spec0, spec1, spec2, spec3, spec4, eqCells, eqCell, PB, hlt, rowAt_enc hlt, sWord, sWs, sKs, w2, w4, w6, v1, v2, v3, v4, i1]; exact ⟨i + 1, ⟨by omega, hs⟩, by omega, weak_keep 1 (by simp) (by simp) (by simp [AV.clean, AV.clean1]) (by simp) (by simp [PB])⟩)
    rw [List.drop_eq_nil_of_le (by omega), List.all_nil] at hs
    simp [aev, cav, look, acallPure, abin, abinN, abinP, abinI, abinS, aun, aconv, afield, afieldAddr, aindexAddr, aindex, aslice, alow, ahigh, abuild, abuildGo, cellsOf, splice, fieldTy, alen, apick, amax, amin, aload, headV, aparts, abuildSlice, elParts, abytesStr, astore, amake, aappend, anew, arith, aresults, aresList, ares, spec0, spec1, spec2, spec3, spec4, eqCells, eqCell, PB, hlt, ← hs]
    refine loop_rule (C := CPa m) (sigCPa m) (mixCPa m) (fun i : Nat => ⟨[(1, .bool c), (2, .ptr 0 1 3 0 0), (5, Enc.enc P), (71, Enc.enc P), (72, .int .i64 P.length), (73, .int .i64 i)], [PB p]⟩) (fun i => i ≤ P.length ∧ (P.drop i).all partUp = UP) (fun i => P.length - i) (by kernel_rfl) ⟨0, ⟨by omega, by rw [hUP]; rfl⟩, weak_slots (by simp [PB])⟩ (fun i ⟨hi, hs2⟩ => ?_)
    by_cases hlt : i < P.length
    · have i1 : I64 ((i : Int) + 1) := by unfold I64; omega
      obtain ⟨w1, ⟨w2, w3⟩, w4, w5⟩ := hwf _ (ix_mem hlt)
      have w6 : (keysL (ix P i).props).length ≤ maxLen := by unfold keysL; rw [List.length_map]; exact small_max w4
      rw [all_drop hlt] at hs2
      cases hok : partUp (ix P i)
      · rw [hok, Bool.false_and] at hs2
        cases v3 : risesB (ix P i).labels <;> cases v4 : risesB (keysL (ix P i).props) <;> first | (exfalso; simp [partUp, v3, v4] at hok; done) | simp [aev, cav, look, acallPure, abin, abinN, abinP, abinI, abinS, aun, aconv, afield, afieldAddr, aindexAddr, aindex, aslice, alow, ahigh, abuild, abuildGo, cellsOf, splice, fieldTy, alen, apick, amax, amin, aload, headV, aparts, abuildSlice, elParts, abytesStr, astore, amake, aappend, anew, arith, aresults, aresList, ares, spec0, spec1, spec2, spec3, spec4, eqCells, eqCell, PB, hlt, rowAt_enc hlt, sRs, sKs, w2, w4, w6, v3, v4, ← hs, ← hs2]
      · rw [hok, Bool.true_and] at hs2
        cases v3 : risesB (ix P i).labels <;> cases v4 : risesB (keysL (ix P i).props) <;> first | (exfalso; simp [partUp, v3, v4] at hok; done) | (simp [aev, cav, look, acallPure, abin, abinN, abinP, abinI, abinS, aun, aconv, afield, afieldAddr, aindexAddr, aindex, aslice, alow, ahigh, abuild, abuildGo, cellsOf, splice, fieldTy, alen, apick, amax, amin, aload, headV, aparts, abuildSlice, elParts, abytesStr, astore, amake, aappend, anew, arith, aresults, aresList, ares, spec0, spec1, spec2, spec3, spec4, eqCells, eqCell, PB, hlt, rowAt_enc hlt, sRs, sKs, w2, w4, w6, v3, v4, i1]; exact ⟨i + 1, ⟨by omega, hs2⟩, by omega, weak_keep 1 (by simp) (by simp) (by simp [AV.clean, AV.clean1]) (by simp) (by simp [PB])⟩)
    rw [List.drop_eq_nil_of_le (by omega), List.all_nil] at hs2
    simp [aev, cav, look, acallPure, abin, abinN, abinP, abinI, abinS, aun, aconv, afield, afieldAddr, aindexAddr, aindex, aslice, alow, ahigh, abuild, abuildGo, cellsOf, splice, fieldTy, alen, apick, amax, amin, aload, headV, aparts, abuildSlice, elParts, abytesStr, astore, amake, aappend, anew, arith, aresults, aresList, ares, spec0, spec1, spec2, spec3, spec4, eqCells, eqCell, PB, hlt, ← hs, ← hs2]
    refine loop_rule (C := CPa m) (sigCPa m) (mixCPa m) (fun q : Nat × HopF => ⟨[(1, .bool c), (2, .ptr 0 1 3 0 0), (10, .bool q.2.v), (89, Enc.enc P), (90, .int .i64 P.length), (91, .int .i64 q.1)], [PB p]⟩) (fun q => q.1 ≤ P.length ∧ errPs (P.drop q.1) = errPs P ∧ (q.2.v || aggPs (P.drop q.1)) = aggPs P) (fun q => P.length - q.1) (by kernel_rfl) ⟨(0, ⟨false⟩), by simp, weak_slots (by simp [PB])⟩ (fun ⟨i, ⟨a⟩⟩ ⟨hi, he, ha⟩ => ?_)
    simp only at hi he ha ⊢
    by_cases hlt : i < P.length
    · have i1 : I64 ((i : Int) + 1) := by unfold I64; omega
      obtain ⟨w1, ⟨w2, w3⟩, w4, w5⟩ := hwf _ (ix_mem hlt)
      rw [errPs_drop hlt] at he
      rw [aggPs_drop hlt] at ha
      simp [aev, cav, look, acallPure, abin, abinN, abinP, abinI, abinS, aun, aconv, afield, afieldAddr, aindexAddr, aindex, aslice, alow, ahigh, abuild, abuildGo, cellsOf, splice, fieldTy, alen, apick, amax, amin, aload, headV, aparts, abuildSlice, elParts, abytesStr, astore, amake, aappend, anew, arith, aresults, aresList, ares, spec0, spec1, spec2, spec3, spec4, eqCells, eqCell, PB, hlt, rowAt_enc hlt]
      refine loop_rule (C := CPa m) (sigCPa m) (mixCPa m) (fun q : Nat × HopF => ⟨[(1, .bool c), (2, .ptr 0 1 3 0 0), (10, .bool q.2.v), (89, Enc.enc P), (90, .int .i64 P.length), (91, .int .i64 i), (96, Enc.enc (ix P i).props), (97, .int .i64 (ix P i).props.length), (98, .int .i64 q.1)], [PB p]⟩) (fun q => q.1 ≤ (ix P i).props.length ∧ errQ ((ix P i).props.drop q.1) = errQ (ix P i).props ∧ (q.2.v || aggQ ((ix P i).props.drop q.1)) = (a || aggQ (ix P i).props)) (fun q => (ix P i).props.length - q.1) (by kernel_rfl) ⟨(0, ⟨a⟩), by simp, weak_keep 1 (by simp) (by simp) (by simp [AV.clean, AV.clean1]) (by simp) (by simp [PB])⟩ (fun ⟨k, ⟨b⟩⟩ ⟨hk, hke, hka⟩ => ?_)
      simp only at hk hke hka ⊢
      by_cases hkl : k < (ix P i).props.length
      · have i2 : I64 ((k : Int) + 1) := by unfold I64; omega
        obtain ⟨w6, w7⟩ := w5 _ (ix_mem hkl)
        rw [errQ_drop hkl] at hke
        rw [aggQ_drop hkl] at hka
        by_cases hc0 : checkE (ix (ix P i).props k).e = 0
        · rw [if_neg (by rw [hc0]; simp)] at hke
          cases b
          · rw [Bool.false_or] at hka
            simp [aev, cav, look, acallPure, abin, abinN, abinP, abinI, abinS, aun, aconv, afield, afieldAddr, aindexAddr, aindex, aslice, alow, ahigh, abuild, abuildGo, cellsOf, splice, fieldTy, alen, apick, amax, amin, aload, headV, aparts, abuildSlice, elParts, abytesStr, astore, amake, aappend, anew, arith, aresults, aresList, ares, spec0, spec1, spec2, spec3, spec4, eqCells, eqCell, PB, hkl, rowAt_enc hkl, sChk, sHasA, w7, hc0, i2]
            exact ⟨k + 1, ⟨aggE (ix (ix P i).props k).e⟩, ⟨by omega, hke, hka⟩, by omega, weak_keep 1 (by simp) (by simp) (by simp [AV.clean, AV.clean1]) (by simp) (by simp [PB])⟩
          · rw [Bool.true_or] at hka
            simp [aev, cav, look, acallPure, abin, abinN, abinP, abinI, abinS, aun, aconv, afield, afieldAddr, aindexAddr, aindex, aslice, alow, ahigh, abuild, abuildGo, cellsOf, splice, fieldTy, alen, apick, amax, amin, aload, headV, aparts, abuildSlice, elParts, abytesStr, astore, amake, aappend, anew, arith, aresults, aresList, ares, spec0, spec1, spec2, spec3, spec4, eqCells, eqCell, PB, hkl, rowAt_enc hkl, sChk, sHasA, w7, hc0, i2]
            exact ⟨k + 1, ⟨true⟩, ⟨by omega, hke, by rw [Bool.true_or]; exact hka⟩, by omega, weak_keep 1 (by simp) (by simp) (by simp [AV.clean, AV.clean1]) (by simp) (by simp [PB])⟩
        · rw [if_pos hc0] at hke
          rw [← hke, if_pos hc0] at he
          simp [aev, cav, look, acallPure, abin, abinN, abinP, abinI, abinS, aun, aconv, afield, afieldAddr, aindexAddr, aindex, aslice, alow, ahigh, abuild, abuildGo, cellsOf, splice, fieldTy, alen, apick, amax, amin, aload, headV, aparts, abuildSlice, elParts, abytesStr, astore, amake, aappend, anew, arith, aresults, aresList, ares, spec0, spec1, spec2, spec3, spec4, eqCells, eqCell, PB, hkl, rowAt_enc hkl, sChk, w7, hc0, ← hs, ← hs2, ← he]
      · rw [List.drop_eq_nil_of_le (by omega), errQ] at hke
        rw [List.drop_eq_nil_of_le (by omega), show aggQ [] = false from rfl, Bool.or_false] at hka
        rw [← hke, if_neg (by simp)] at he
        rw [← Bool.or_assoc, ← hka] at ha
        simp [aev, cav, look, acallPure, abin, abinN, abinP, abinI, abinS, aun, aconv, afield, afieldAddr, aindexAddr, aindex, aslice, alow, ahigh, abuild, abuildGo, cellsOf, splice, fieldTy, alen, apick, amax, amin, aload, headV, aparts, abuildSlice, elParts, abytesStr, astore, amake, aappend, anew, arith, aresults, aresList, ares, spec0, spec1, spec2, spec3, spec4, eqCells, eqCell, PB, hkl, i1]
        exact ⟨i + 1, ⟨b⟩, ⟨by omega, he, ha⟩, by omega, weak_slots (by simp [PB])⟩
    rw [List.drop_eq_nil_of_le (by omega), errPs] at he
    rw [List.drop_eq_nil_of_le (by omega), show aggPs [] = false from rfl, Bool.or_false] at ha
    cases a
    case true => simp [aev, cav, look, acallPure, abin, abinN, abinP, abinI, abinS, aun, aconv, afield, afieldAddr, aindexAddr, aindex, aslice, alow, ahigh, abuild, abuildGo, cellsOf, splice, fieldTy, alen, apick, amax, amin, aload, headV, aparts, abuildSlice, elParts, abytesStr, astore, amake, aappend, anew, arith, aresults, aresList, ares, spec0, spec1, spec2, spec3, spec4, eqCells, eqCell, PB, hlt, ← hs, ← hs2, ← he, ← ha]
    cases c
    case false => simp [aev, cav, look, acallPure, abin, abinN, abinP, abinI, abinS, aun, aconv, afield, afieldAddr, aindexAddr, aindex, aslice, alow, ahigh, abuild, abuildGo, cellsOf, splice, fieldTy, alen, apick, amax, amin, aload, headV, aparts, abuildSlice, elParts, abytesStr, astore, amake, aappend, anew, arith, aresults, aresList, ares, spec0, spec1, spec2, spec3, spec4, eqCells, eqCell, PB, hlt, ← hs, ← hs2, ← he, ← ha]
    cases CR <;> simp [aev, cav, look, acallPure, abin, abinN, abinP, abinI, abinS, aun, aconv, afield, afieldAddr, aindexAddr, aindex, aslice, alow, ahigh, abuild, abuildGo, cellsOf, splice, fieldTy, alen, apick, amax, amin, aload, headV, aparts, abuildSlice, elParts, abytesStr, astore, amake, aappend, anew, arith, aresults, aresList, ares, spec0, spec1, spec2, spec3, spec4, eqCells, eqCell, PB, hlt, ← hs, ← hs2, ← he, ← ha, sCoE, we, any_cre, ← hCR]
  · simp [aev, cav, look, acallPure, abin, abinN, abinP, abinI, abinS, aun, aconv, afield, afieldAddr, aindexAddr, aindex, aslice, alow, ahigh, abuild, abuildGo, cellsOf, splice, fieldTy, alen, apick, amax, amin, aload, headV, aparts, abuildSlice, elParts, abytesStr, astore, amake, aappend, anew, arith, aresults, aresList, ares, spec0, spec1, spec2, spec3, spec4, eqCells, eqCell, sLg, sCoE, sPt, sWord, we, wn, hl, i0, h2', any_hop, h3, ← hP, hf, hv, hv2]
    refine loop_rule (C := CPa m) (sigCPa m) (mixCPa m) (fun i : Nat => ⟨[(1, .bool c), (2, .ptr 0 1 3 0 0), (5, Enc.enc P), (42, Enc.enc P), (43, .int .i64 P.length), (44, .int .i64 i)], [PB p]⟩) (fun i => i ≤ P.length ∧ (P.drop i).all partOK = OK) (fun i => P.length - i) (by kernel_rfl) ⟨0, ⟨by omega, by rw [hOK]; rfl⟩, weak_slots (by simp)⟩ (fun i ⟨hi, hs⟩ => ?_)
    by_cases hlt : i < P.length
    · have i1 : I64 ((i : Int) + 1) := by unfold I64; omega
      obtain ⟨w1, ⟨w2, w3⟩, w4, w5⟩ := hwf _ (ix_mem hlt)
      have w6 : (keysL (ix P i).props).length ≤ maxLen := by unfold keysL; rw [List.length_map]; exact small_max w4
      rw [all_drop hlt] at hs
      cases hok : partOK (ix P i)
      · rw [hok, Bool.false_and] at hs
        rcases em2 ((ix P i).var = ⟨#[]⟩) with v1 | v1 <;> cases v2 : wordB (ix P i).var <;> cases v3 : (ix P i).labels.all wordB <;> cases v4 : (keysL (ix P i).props).all wordB <;> first | (exfalso; simp [partOK, freeB, v1, v2, v3, v4] at hok; done) | simp [aev, cav, look, acallPure, abin, abinN, abinP, abinI, abinS, aun, aconv, afield, afieldAddr, aindexAddr, aindex, aslice, alow, ahigh, abuild, abuildGo, cellsOf, splice, fieldTy, alen, apick, amax, amin, aload, headV, aparts, abuildSlice, elParts, abytesStr, astore, amake, aappend, anew, arith, aresults, aresList, ares, spec0, spec1, spec2, spec3, spec4, eqCells, eqCell, PB, hlt, rowAt_enc hlt, sWord, sWs, sKs, w2, w4, w6, v1, v2, v3, v4, ← hs]
      · rw [hok, Bool.true_and] at hs
        rcases em2 ((ix P i).var = ⟨#[]⟩) with v1 | v1 <;> cases v2 : wordB (ix P i).var <;> cases v3 : (ix P i).labels.all wordB <;> cases v4 : (keysL (ix P i).props).all wordB <;> first | (exfalso; simp [partOK, freeB, v1, v2, v3, v4] at hok; done) | (simp [aev, cav, look, acallPure, abin, abinN, abinP, abinI, abinS, aun, aconv, afield, afieldAddr, aindexAddr, aindex, aslice, alow, ahigh, abuild, abuildGo, cellsOf, splice, fieldTy, alen, apick, amax, amin, aload, headV, aparts, abuildSlice, elParts, abytesStr, astore, amake, aappend, anew, arith, aresults, aresList, ares, spec0, spec1, spec2, spec3, spec4, eqCells, eqCell, PB, hlt, rowAt_enc hlt, sWord, sWs, sKs, w2, w4, w6, v1, v2, v3, v4, i1]; exact ⟨i + 1, ⟨by omega, hs⟩, by omega, weak_keep 1 (by simp) (by simp) (by simp [AV.clean, AV.clean1]) (by simp) (by simp [PB])⟩)
    rw [List.drop_eq_nil_of_le (by omega), List.all_nil] at hs
    simp [aev, cav, look, acallPure, abin, abinN, abinP, abinI, abinS, aun, aconv, afield, afieldAddr, aindexAddr, aindex, aslice, alow, ahigh, abuild, abuildGo, cellsOf, splice, fieldTy, alen, apick, amax, amin, aload, headV, aparts, abuildSlice, elParts, abytesStr, astore, amake, aappend, anew, arith, aresults, aresList, ares, spec0, spec1, spec2, spec3, spec4, eqCells, eqCell, PB, hlt, ← hs]
    refine loop_rule (C := CPa m) (sigCPa m) (mixCPa m) (fun i : Nat => ⟨[(1, .bool c), (2, .ptr 0 1 3 0 0), (5, Enc.enc P), (71, Enc.enc P), (72, .int .i64 P.length), (73, .int .i64 i)], [PB p]⟩) (fun i => i ≤ P.length ∧ (P.drop i).all partUp = UP) (fun i => P.length - i) (by kernel_rfl) ⟨0, ⟨by omega, by rw [hUP]; rfl⟩, weak_slots (by simp [PB])⟩ (fun i ⟨hi, hs2⟩ => ?_)
    by_cases hlt : i < P.length
    · have i1 : I64 ((i : Int) + 1) := by unfold I64; omega
      obtain ⟨w1, ⟨w2, w3⟩, w4, w5⟩ := hwf _ (ix_mem hlt)
      have w6 : (keysL (ix P i).props).length ≤ maxLen := by unfold keysL; rw [List.length_map]; exact small_max w4
      rw [all_drop hlt] at hs2
      cases hok : partUp (ix P i)
      · rw [hok, Bool.false_and] at hs2
        cases v3 : risesB (ix P i).labels <;> cases v4 : risesB (keysL (ix P i).props) <;> first | (exfalso; simp [partUp, v3, v4] at hok; done) | simp [aev, cav, look, acallPure, abin, abinN, abinP, abinI, abinS, aun, aconv, afield, afieldAddr, aindexAddr, aindex, aslice, alow, ahigh, abuild, abuildGo, cellsOf, splice, fieldTy, alen, apick, amax, amin, aload, headV, aparts, abuildSlice, elParts, abytesStr, astore, amake, aappend, anew, arith, aresults, aresList, ares, spec0, spec1, spec2, spec3, spec4, eqCells, eqCell, PB, hlt, rowAt_enc hlt, sRs, sKs, w2, w4, w6, v3, v4, ← hs, ← hs2]
      · rw [hok, Bool.true_and] at hs2
        cases v3 : risesB (ix P i).labels <;> cases v4 : risesB (keysL (ix P i).props) <;> first | (exfalso; simp [partUp, v3, v4] at hok; done) | (simp [aev, cav, look, acallPure, abin, abinN, abinP, abinI, abinS, aun, aconv, afield, afieldAddr, aindexAddr, aindex, aslice, alow, ahigh, abuild, abuildGo, cellsOf, splice, fieldTy, alen, apick, amax, amin, aload, headV, aparts, abuildSlice, elParts, abytesStr, astore, amake, aappend, anew, arith, aresults, aresList, ares, spec0, spec1, spec2, spec3, spec4, eqCells, eqCell, PB, hlt, rowAt_enc hlt, sRs, sKs, w2, w4, w6, v3, v4, i1]; exact ⟨i + 1, ⟨by omega, hs2⟩, by omega, weak_keep 1 (by simp) (by simp) (by simp [AV.clean, AV.clean1]) (by simp) (by simp [PB])⟩)
    rw [List.drop_eq_nil_of_le (by omega), List.all_nil] at hs2
    simp [aev, cav, look, acallPure, abin, abinN, abinP, abinI, abinS, aun, aconv, afield, afieldAddr, aindexAddr, aindex, aslice, alow, ahigh, abuild, abuildGo, cellsOf, splice, fieldTy, alen, apick, amax, amin, aload, headV, aparts, abuildSlice, elParts, abytesStr, astore, amake, aappend, anew, arith, aresults, aresList, ares, spec0, spec1, spec2, spec3, spec4, eqCells, eqCell, PB, hlt, ← hs, ← hs2]
    refine loop_rule (C := CPa m) (sigCPa m) (mixCPa m) (fun q : Nat × HopF => ⟨[(1, .bool c), (2, .ptr 0 1 3 0 0), (10, .bool q.2.v), (89, Enc.enc P), (90, .int .i64 P.length), (91, .int .i64 q.1)], [PB p]⟩) (fun q => q.1 ≤ P.length ∧ errPs (P.drop q.1) = errPs P ∧ (q.2.v || aggPs (P.drop q.1)) = aggPs P) (fun q => P.length - q.1) (by kernel_rfl) ⟨(0, ⟨false⟩), by simp, weak_slots (by simp [PB])⟩ (fun ⟨i, ⟨a⟩⟩ ⟨hi, he, ha⟩ => ?_)
    simp only at hi he ha ⊢
    by_cases hlt : i < P.length
    · have i1 : I64 ((i : Int) + 1) := by unfold I64; omega
      obtain ⟨w1, ⟨w2, w3⟩, w4, w5⟩ := hwf _ (ix_mem hlt)
      rw [errPs_drop hlt] at he
      rw [aggPs_drop hlt] at ha
      simp [aev, cav, look, acallPure, abin, abinN, abinP, abinI, abinS, aun, aconv, afield, afieldAddr, aindexAddr, aindex, aslice, alow, ahigh, abuild, abuildGo, cellsOf, splice, fieldTy, alen, apick, amax, amin, aload, headV, aparts, abuildSlice, elParts, abytesStr, astore, amake, aappend, anew, arith, aresults, aresList, ares, spec0, spec1, spec2, spec3, spec4, eqCells, eqCell, PB, hlt, rowAt_enc hlt]
      refine loop_rule (C := CPa m) (sigCPa m) (mixCPa m) (fun q : Nat × HopF => ⟨[(1, .bool c), (2, .ptr 0 1 3 0 0), (10, .bool q.2.v), (89, Enc.enc P), (90, .int .i64 P.length), (91, .int .i64 i), (96, Enc.enc (ix P i).props), (97, .int .i64 (ix P i).props.length), (98, .int .i64 q.1)], [PB p]⟩) (fun q => q.1 ≤ (ix P i).props.length ∧ errQ ((ix P i).props.drop q.1) = errQ (ix P i).props ∧ (q.2.v || aggQ ((ix P i).props.drop q.1)) = (a || aggQ (ix P i).props)) (fun q => (ix P i).props.length - q.1) (by kernel_rfl) ⟨(0, ⟨a⟩), by simp, weak_keep 1 (by simp) (by simp) (by simp [AV.clean, AV.clean1]) (by simp) (by simp [PB])⟩ (fun ⟨k, ⟨b⟩⟩ ⟨hk, hke, hka⟩ => ?_)
      simp only at hk hke hka ⊢
      by_cases hkl : k < (ix P i).props.length
      · have i2 : I64 ((k : Int) + 1) := by unfold I64; omega
        obtain ⟨w6, w7⟩ := w5 _ (ix_mem hkl)
        rw [errQ_drop hkl] at hke
        rw [aggQ_drop hkl] at hka
        by_cases hc0 : checkE (ix (ix P i).props k).e = 0
        · rw [if_neg (by rw [hc0]; simp)] at hke
          cases b
          · rw [Bool.false_or] at hka
            simp [aev, cav, look, acallPure, abin, abinN, abinP, abinI, abinS, aun, aconv, afield, afieldAddr, aindexAddr, aindex, aslice, alow, ahigh, abuild, abuildGo, cellsOf, splice, fieldTy, alen, apick, amax, amin, aload, headV, aparts, abuildSlice, elParts, abytesStr, astore, amake, aappend, anew, arith, aresults, aresList, ares, spec0, spec1, spec2, spec3, spec4, eqCells, eqCell, PB, hkl, rowAt_enc hkl, sChk, sHasA, w7, hc0, i2]
            exact ⟨k + 1, ⟨aggE (ix (ix P i).props k).e⟩, ⟨by omega, hke, hka⟩, by omega, weak_keep 1 (by simp) (by simp) (by simp [AV.clean, AV.clean1]) (by simp) (by simp [PB])⟩
          · rw [Bool.true_or] at hka
            simp [aev, cav, look, acallPure, abin, abinN, abinP, abinI, abinS, aun, aconv, afield, afieldAddr, aindexAddr, aindex, aslice, alow, ahigh, abuild, abuildGo, cellsOf, splice, fieldTy, alen, apick, amax, amin, aload, headV, aparts, abuildSlice, elParts, abytesStr, astore, amake, aappend, anew, arith, aresults, aresList, ares, spec0, spec1, spec2, spec3, spec4, eqCells, eqCell, PB, hkl, rowAt_enc hkl, sChk, sHasA, w7, hc0, i2]
            exact ⟨k + 1, ⟨true⟩, ⟨by omega, hke, by rw [Bool.true_or]; exact hka⟩, by omega, weak_keep 1 (by simp) (by simp) (by simp [AV.clean, AV.clean1]) (by simp) (by simp [PB])⟩
        · rw [if_pos hc0] at hke
          rw [← hke, if_pos hc0] at he
          simp [aev, cav, look, acallPure, abin, abinN, abinP, abinI, abinS, aun, aconv, afield, afieldAddr, aindexAddr, aindex, aslice, alow, ahigh, abuild, abuildGo, cellsOf, splice, fieldTy, alen, apick, amax, amin, aload, headV, aparts, abuildSlice, elParts, abytesStr, astore, amake, aappend, anew, arith, aresults, aresList, ares, spec0, spec1, spec2, spec3, spec4, eqCells, eqCell, PB, hkl, rowAt_enc hkl, sChk, w7, hc0, ← hs, ← hs2, ← he]
      · rw [List.drop_eq_nil_of_le (by omega), errQ] at hke
        rw [List.drop_eq_nil_of_le (by omega), show aggQ [] = false from rfl, Bool.or_false] at hka
        rw [← hke, if_neg (by simp)] at he
        rw [← Bool.or_assoc, ← hka] at ha
        simp [aev, cav, look, acallPure, abin, abinN, abinP, abinI, abinS, aun, aconv, afield, afieldAddr, aindexAddr, aindex, aslice, alow, ahigh, abuild, abuildGo, cellsOf, splice, fieldTy, alen, apick, amax, amin, aload, headV, aparts, abuildSlice, elParts, abytesStr, astore, amake, aappend, anew, arith, aresults, aresList, ares, spec0, spec1, spec2, spec3, spec4, eqCells, eqCell, PB, hkl, i1]
        exact ⟨i + 1, ⟨b⟩, ⟨by omega, he, ha⟩, by omega, weak_slots (by simp [PB])⟩
    rw [List.drop_eq_nil_of_le (by omega), errPs] at he
    rw [List.drop_eq_nil_of_le (by omega), show aggPs [] = false from rfl, Bool.or_false] at ha
    cases a
    case true => simp [aev, cav, look, acallPure, abin, abinN, abinP, abinI, abinS, aun, aconv, afield, afieldAddr, aindexAddr, aindex, aslice, alow, ahigh, abuild, abuildGo, cellsOf, splice, fieldTy, alen, apick, amax, amin, aload, headV, aparts, abuildSlice, elParts, abytesStr, astore, amake, aappend, anew, arith, aresults, aresList, ares, spec0, spec1, spec2, spec3, spec4, eqCells, eqCell, PB, hlt, ← hs, ← hs2, ← he, ← ha]
    cases c
    case false => simp [aev, cav, look, acallPure, abin, abinN, abinP, abinI, abinS, aun, aconv, afield, afieldAddr, aindexAddr, aindex, aslice, alow, ahigh, abuild, abuildGo, cellsOf, splice, fieldTy, alen, apick, amax, amin, aload, headV, aparts, abuildSlice, elParts, abytesStr, astore, amake, aappend, anew, arith, aresults, aresList, ares, spec0, spec1, spec2, spec3, spec4, eqCells, eqCell, PB, hlt, ← hs, ← hs2, ← he, ← ha]
    cases CR <;> simp [aev, cav, look, acallPure, abin, abinN, abinP, abinI, abinS, aun, aconv, afield, afieldAddr, aindexAddr, aindex, aslice, alow, ahigh, abuild, abuildGo, cellsOf, splice, fieldTy, alen, apick, amax, amin, aload, headV, aparts, abuildSlice, elParts, abytesStr, astore, amake, aappend, anew, arith, aresults, aresList, ares, spec0, spec1, spec2, spec3, spec4, eqCells, eqCell, PB, hlt, ← hs, ← hs2, ← he, ← ha, sCoE, we, any_cre, ← hCR]
end
end Go.Proofs.YthcfnaglgoaikaaGreat
