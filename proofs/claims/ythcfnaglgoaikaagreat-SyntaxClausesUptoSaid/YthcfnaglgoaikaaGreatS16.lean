/-
  layer 18: the check of a clause, the program's side.
-/
import Derived.Test.YthcfnaglgoaikaaGreatS15
namespace Go.Proofs.YthcfnaglgoaikaaGreat
open Go.RowKit
set_option linter.unusedSimpArgs false
set_option linter.unusedVariables false
set_option maxRecDepth 100000

def crowdB (c : Clause) : Bool :=
  if c.kind = 1 ∨ c.kind = 5 then !inRg c.paths.length 1 6 || decide ((1 : Int) < c.wh.length)
  else if c.kind = 6 then !decide (c.paths.length = 1)
  else if c.kind = 3 ∨ c.kind = 4 then !inRg c.items.length 1 16 || decide ((16 : Int) < c.order.length) || decide ((1 : Int) < c.wh.length)
  else if c.kind = 7 then !inRg c.sets.length 1 16
  else if c.kind = 8 then !inRg c.names.length 1 16 else false
def setE (s : SetI) : Int :=
  if (¬ s.label = ⟨#[]⟩ ∧ (¬ s.key = ⟨#[]⟩ ∨ zeroE s.e = false)) ∨ (s.label = ⟨#[]⟩ ∧ s.off = true) then 1
  else if wordB s.var = false ∨ (¬ s.label = ⟨#[]⟩ ∧ wordB s.label = false) ∨ (s.label = ⟨#[]⟩ ∧ wordB s.key = false) then 6
  else if s.label = ⟨#[]⟩ then checkE s.e else 0
def addE (x e : Int) : Int := if x = 0 then e else x
def needE (s : ByteArray) : Int := if wordB s = true then 0 else 6
def pathS (k : Int) (x : Int) (p : PathPat) : Int := addE x (pathE p (decide (k = 5)))
def exprS (x : Int) (e : Expr) : Int := addE x (checkE e)
def itemS (x : Int) (i : Item) : Int := addE (addE x (checkE i.e)) (needE i.as_)
def sortS (x : Int) (i : SortK) : Int := addE x (checkE i.e)
def setS (x : Int) (s : SetI) : Int := addE x (setE s)
def nameS (x : Int) (s : ByteArray) : Int := addE x (needE s)
def partsA (c : Clause) : Int := c.wh.foldl exprS (c.paths.foldl (pathS c.kind) 0)
def partsB (c : Clause) : Int := if c.kind = 2 then addE (addE (partsA c) (checkE c.e)) (needE c.name) else partsA c
def partsC (c : Clause) : Int := c.names.foldl nameS (c.sets.foldl setS (c.order.foldl sortS (c.items.foldl itemS (partsB c))))
def clauseE (c : Clause) : Int := if c.kind < 1 ∨ 8 < c.kind ∨ strayB c = true then 1 else if crowdB c = true then 4 else partsC c
theorem foldl_drop {α : Type} [Inhabited α] {f : Int → α → Int} {l : List α} {i : Nat} {x : Int} (h : i < l.length) : (l.drop i).foldl f x = (l.drop (i + 1)).foldl f (f x (ix l i)) := by
  rw [List.drop_eq_getElem_cons h, List.foldl_cons, ix_lt h]
def LB (x : Int) : Blk := ⟨83, 1, [[.int .i64 x]], true, true⟩
def WfC (c : Clause) : Prop := (c.paths.length ≤ maxLen ∧ ∀ p ∈ c.paths, WfP p) ∧ (c.wh.length ≤ maxLen ∧ ∀ e ∈ c.wh, WfE e) ∧ WfE c.e ∧ (c.items.length ≤ maxLen ∧ ∀ i ∈ c.items, WfE i.e) ∧ (c.order.length ≤ maxLen ∧ ∀ i ∈ c.order, WfE i.e) ∧ (c.sets.length ≤ maxLen ∧ ∀ i ∈ c.sets, WfE i.e) ∧ c.names.length ≤ maxLen

section
variable {m : Int}
theorem entryGen {P : Program} {G : Nat → AV} {f : FuncId} {fn : Func} {p : List AV → List Blk → Option (Prop × AV × List Blk)} (h : GenOK P G f p) (hf : P.funcs[f]? = some fn) (hb : fn.body.isSome = true) (hn : fn.name ≠ "runtime.NumGoroutine") : EntryOK P G f (.gen p) := ⟨h, fn, hf, hn, hb⟩
def sAdd : List AV → List Blk → Option (Prop × AV × List Blk) := fun args H => match args with
  | [.ptr l 1 1 0 0, .int .i64 e] => match H[l]? with
    | some ⟨t, 1, [[.int .i64 x]], true, true⟩ => some (True, .tup [], H.set l ⟨t, 1, [[.int .i64 (addE x e)]], true, true⟩)
    | _ => none
  | _ => none
def sNeed : List AV → List Blk → Option (Prop × AV × List Blk) := fun args H => match args with
  | [.ptr l 1 1 0 0, .str s] => match H[l]? with
    | some ⟨t, 1, [[.int .i64 x]], true, true⟩ => some (True, .tup [], H.set l ⟨t, 1, [[.int .i64 (addE x (needE s))]], true, true⟩)
    | _ => none
  | _ => none
theorem sAdd_eq {l : Nat} {e : Int} {H : List Blk} {t : TypeId} {x : Int} (h : H[l]? = some ⟨t, 1, [[.int .i64 x]], true, true⟩) : sAdd [.ptr l 1 1 0 0, .int .i64 e] H = some (True, .tup [], H.set l ⟨t, 1, [[.int .i64 (addE x e)]], true, true⟩) := by simp [sAdd, h]
theorem sNeed_eq {l : Nat} {s : ByteArray} {H : List Blk} {t : TypeId} {x : Int} (h : H[l]? = some ⟨t, 1, [[.int .i64 x]], true, true⟩) : sNeed [.ptr l 1 1 0 0, .str s] H = some (True, .tup [], H.set l ⟨t, 1, [[.int .i64 (addE x (needE s))]], true, true⟩) := by simp [sNeed, h]
theorem sAdd_inv {args : List AV} {H : List Blk} {ob : Prop} {r : AV} {H' : List Blk} (h : sAdd args H = some (ob, r, H')) : ∃ l e t x, args = [.ptr l 1 1 0 0, .int .i64 e] ∧ H[l]? = some ⟨t, 1, [[.int .i64 x]], true, true⟩ ∧ r = .tup [] ∧ H' = H.set l ⟨t, 1, [[.int .i64 (addE x e)]], true, true⟩ := by
  unfold sAdd at h
  split at h
  · split at h
    · rename_i hl
      simp only [Option.some.injEq, Prod.mk.injEq] at h
      exact ⟨_, _, _, _, rfl, hl, h.2.1.symm, h.2.2.symm⟩
    · cases h
  · cases h
theorem sNeed_inv {args : List AV} {H : List Blk} {ob : Prop} {r : AV} {H' : List Blk} (h : sNeed args H = some (ob, r, H')) : ∃ l s t x, args = [.ptr l 1 1 0 0, .str s] ∧ H[l]? = some ⟨t, 1, [[.int .i64 x]], true, true⟩ ∧ r = .tup [] ∧ H' = H.set l ⟨t, 1, [[.int .i64 (addE x (needE s))]], true, true⟩ := by
  unfold sNeed at h
  split at h
  · split at h
    · rename_i hl
      simp only [Option.some.injEq, Prod.mk.injEq] at h
      exact ⟨_, _, _, _, rfl, hl, h.2.1.symm, h.2.2.symm⟩
    · cases h
  · cases h
theorem set_same {α : Type} {l : List α} {i : Nat} {x : α} (h : l[i]? = some x) : l.set i x = l := by
  refine List.ext_getElem? fun j => ?_
  by_cases e : i = j
  · subst e
    obtain ⟨hi, rfl⟩ := List.getElem?_eq_some_iff.1 h
    simp [hi]
  · simp [e]
set_option maxHeartbeats 4000000 in
theorem addP : GenOK Tryz.prog (G m) 40 sAdd := by
  refine gen_of_avc (C := CE m) (sigCE m) (mixCE m) Tryz.func40 rfl (by kernel_rfl) (fun avs H ob r H' h hob => ?_)
  obtain ⟨l, e, t, x, rfl, hl, rfl, rfl⟩ := sAdd_inv h
  refine ⟨(by show 2 ≤ _; decide), ?_⟩
  rcases em2 (x = 0) with h0 | h0
  · simp [aev, cav, look, acallPure, abin, abinN, abinP, abinI, abinS, aun, aconv, afield, afieldAddr, aindexAddr, aindex, aslice, alow, ahigh, abuild, abuildGo, cellsOf, splice, fieldTy, alen, apick, amax, amin, aload, headV, aparts, abuildSlice, elParts, abytesStr, astore, amake, aappend, anew, arith, aresults, aresList, ares, spec0, spec1, spec2, spec3, spec4, eqCells, eqCell, argsρ, hl, h0, addE]
    exact ⟨True, trivial⟩
  · simp [aev, cav, look, acallPure, abin, abinN, abinP, abinI, abinS, aun, aconv, afield, afieldAddr, aindexAddr, aindex, aslice, alow, ahigh, abuild, abuildGo, cellsOf, splice, fieldTy, alen, apick, amax, amin, aload, headV, aparts, abuildSlice, elParts, abytesStr, astore, amake, aappend, anew, arith, aresults, aresList, ares, spec0, spec1, spec2, spec3, spec4, eqCells, eqCell, argsρ, hl, h0, addE, set_same hl]
    exact ⟨True, trivial⟩
noncomputable def CNd (m : Int) : Ctx := mkC Tryz.prog (G m) [(40, .gen sAdd), (29, .pure sWord)]
@[simp] theorem CNd_P (m : Int) : (CNd m).P = Tryz.prog := rfl
@[simp] theorem CNd_1 (m : Int) : (CNd m).S 40 = .gen sAdd := rfl
@[simp] theorem CNd_2 (m : Int) : (CNd m).S 29 = .pure sWord := rfl
theorem mixCNd (m : Int) : (CNd m).P.follows .mixedOrders = true := mixed
theorem sigCNd (m : Int) : SigOK (CNd m) := sigOK_cons (entryGen addP Tryz.func40 rfl (by decide)) (sigOK_cons (entryPure wordP Tryz.func29 rfl (by decide)) (sigOK_nil _ _))
set_option maxHeartbeats 4000000 in
theorem needP : GenOK Tryz.prog (G m) 41 sNeed := by
  refine gen_of_avc (C := CNd m) (sigCNd m) (mixCNd m) Tryz.func41 rfl (by kernel_rfl) (fun avs H ob r H' h hob => ?_)
  obtain ⟨l, s, t, x, rfl, hl, rfl, rfl⟩ := sNeed_inv h
  refine ⟨(by show 2 ≤ _; decide), ?_⟩
  cases hw : wordB s
  · simp [aev, cav, look, acallPure, abin, abinN, abinP, abinI, abinS, aun, aconv, afield, afieldAddr, aindexAddr, aindex, aslice, alow, ahigh, abuild, abuildGo, cellsOf, splice, fieldTy, alen, apick, amax, amin, aload, headV, aparts, abuildSlice, elParts, abytesStr, astore, amake, aappend, anew, arith, aresults, aresList, ares, spec0, spec1, spec2, spec3, spec4, eqCells, eqCell, argsρ, hl, hw, sWord, needE, sAdd_eq hl]
    exact ⟨True, trivial⟩
  · have e0 : addE x 0 = x := by unfold addE; split <;> omega
    simp [aev, cav, look, acallPure, abin, abinN, abinP, abinI, abinS, aun, aconv, afield, afieldAddr, aindexAddr, aindex, aslice, alow, ahigh, abuild, abuildGo, cellsOf, splice, fieldTy, alen, apick, amax, amin, aload, headV, aparts, abuildSlice, elParts, abytesStr, astore, amake, aappend, anew, arith, aresults, aresList, ares, spec0, spec1, spec2, spec3, spec4, eqCells, eqCell, argsρ, hl, hw, sWord, needE, e0, set_same hl]
    exact ⟨True, trivial⟩

noncomputable def CCw (m : Int) : Ctx := mkC Tryz.prog (G m) [(68, .pure sIn3)]
@[simp] theorem CCw_P (m : Int) : (CCw m).P = Tryz.prog := rfl
@[simp] theorem CCw_1 (m : Int) : (CCw m).S 68 = .pure sIn3 := rfl
theorem mixCCw (m : Int) : (CCw m).P.follows .mixedOrders = true := mixed
theorem sigCCw (m : Int) : SigOK (CCw m) := sigOK_cons (entryPure inRP Tryz.func68 rfl (by decide)) (sigOK_nil _ _)
def sCrowd : List AV → Option (Prop × AV) := spec1 (fun (_ : Clause) => True) (fun c => .bool (crowdB c))
set_option maxHeartbeats 8000000 in
theorem crowdP : PureOK Tryz.prog (G m) 39 sCrowd := by
  refine pure1 (C := CCw m) (sigCCw m) (mixCCw m) Tryz.func39 rfl rfl rfl (by kernel_rfl) (by decide) (fun c _ => ?_)
  obtain ⟨k, o, d, ps, wh, e, nm, its, ord, sk, lim, sets, nms⟩ := c
  by_cases h1 : k = 1
  · subst h1
    cases h : inRg ps.length 1 6 <;> by_cases h' : (1 : Int) < wh.length <;> simp [aev, cav, look, acallPure, abin, abinN, abinP, abinI, abinS, aun, aconv, afield, afieldAddr, aindexAddr, aindex, aslice, alow, ahigh, abuild, abuildGo, cellsOf, splice, fieldTy, alen, apick, amax, amin, aload, headV, aparts, abuildSlice, elParts, abytesStr, astore, amake, aappend, anew, arith, aresults, aresList, ares, spec0, spec1, spec2, spec3, spec4, eqCells, eqCell, crowdB, sIn3, h, h']
  by_cases h5 : k = 5
  · subst h5
    cases h : inRg ps.length 1 6 <;> by_cases h' : (1 : Int) < wh.length <;> simp [aev, cav, look, acallPure, abin, abinN, abinP, abinI, abinS, aun, aconv, afield, afieldAddr, aindexAddr, aindex, aslice, alow, ahigh, abuild, abuildGo, cellsOf, splice, fieldTy, alen, apick, amax, amin, aload, headV, aparts, abuildSlice, elParts, abytesStr, astore, amake, aappend, anew, arith, aresults, aresList, ares, spec0, spec1, spec2, spec3, spec4, eqCells, eqCell, crowdB, sIn3, h, h']
  by_cases h6 : k = 6
  · subst h6
    by_cases h' : ps.length = 1
    · simp [aev, cav, look, acallPure, abin, abinN, abinP, abinI, abinS, aun, aconv, afield, afieldAddr, aindexAddr, aindex, aslice, alow, ahigh, abuild, abuildGo, cellsOf, splice, fieldTy, alen, apick, amax, amin, aload, headV, aparts, abuildSlice, elParts, abytesStr, astore, amake, aappend, anew, arith, aresults, aresList, ares, spec0, spec1, spec2, spec3, spec4, eqCells, eqCell, crowdB, h']
    · have h'' : ¬ (ps.length : Int) = 1 := by omega
      simp [aev, cav, look, acallPure, abin, abinN, abinP, abinI, abinS, aun, aconv, afield, afieldAddr, aindexAddr, aindex, aslice, alow, ahigh, abuild, abuildGo, cellsOf, splice, fieldTy, alen, apick, amax, amin, aload, headV, aparts, abuildSlice, elParts, abytesStr, astore, amake, aappend, anew, arith, aresults, aresList, ares, spec0, spec1, spec2, spec3, spec4, eqCells, eqCell, crowdB, h', h'']
  by_cases h3 : k = 3
  · subst h3
    cases h : inRg its.length 1 16 <;> by_cases h' : (16 : Int) < ord.length <;> by_cases h'' : (1 : Int) < wh.length <;> simp [aev, cav, look, acallPure, abin, abinN, abinP, abinI, abinS, aun, aconv, afield, afieldAddr, aindexAddr, aindex, aslice, alow, ahigh, abuild, abuildGo, cellsOf, splice, fieldTy, alen, apick, amax, amin, aload, headV, aparts, abuildSlice, elParts, abytesStr, astore, amake, aappend, anew, arith, aresults, aresList, ares, spec0, spec1, spec2, spec3, spec4, eqCells, eqCell, crowdB, sIn3, h, h', h'']
  by_cases h4 : k = 4
  · subst h4
    cases h : inRg its.length 1 16 <;> by_cases h' : (16 : Int) < ord.length <;> by_cases h'' : (1 : Int) < wh.length <;> simp [aev, cav, look, acallPure, abin, abinN, abinP, abinI, abinS, aun, aconv, afield, afieldAddr, aindexAddr, aindex, aslice, alow, ahigh, abuild, abuildGo, cellsOf, splice, fieldTy, alen, apick, amax, amin, aload, headV, aparts, abuildSlice, elParts, abytesStr, astore, amake, aappend, anew, arith, aresults, aresList, ares, spec0, spec1, spec2, spec3, spec4, eqCells, eqCell, crowdB, sIn3, h, h', h'']
  by_cases h7 : k = 7
  · subst h7
    cases h : inRg sets.length 1 16 <;> simp [aev, cav, look, acallPure, abin, abinN, abinP, abinI, abinS, aun, aconv, afield, afieldAddr, aindexAddr, aindex, aslice, alow, ahigh, abuild, abuildGo, cellsOf, splice, fieldTy, alen, apick, amax, amin, aload, headV, aparts, abuildSlice, elParts, abytesStr, astore, amake, aappend, anew, arith, aresults, aresList, ares, spec0, spec1, spec2, spec3, spec4, eqCells, eqCell, crowdB, sIn3, h]
  by_cases h8 : k = 8
  · subst h8
    cases h : inRg nms.length 1 16 <;> simp [aev, cav, look, acallPure, abin, abinN, abinP, abinI, abinS, aun, aconv, afield, afieldAddr, aindexAddr, aindex, aslice, alow, ahigh, abuild, abuildGo, cellsOf, splice, fieldTy, alen, apick, amax, amin, aload, headV, aparts, abuildSlice, elParts, abytesStr, astore, amake, aappend, anew, arith, aresults, aresList, ares, spec0, spec1, spec2, spec3, spec4, eqCells, eqCell, crowdB, sIn3, h]
  simp [aev, cav, look, acallPure, abin, abinN, abinP, abinI, abinS, aun, aconv, afield, afieldAddr, aindexAddr, aindex, aslice, alow, ahigh, abuild, abuildGo, cellsOf, splice, fieldTy, alen, apick, amax, amin, aload, headV, aparts, abuildSlice, elParts, abytesStr, astore, amake, aappend, anew, arith, aresults, aresList, ares, spec0, spec1, spec2, spec3, spec4, eqCells, eqCell, crowdB, h1, h5, h6, h3, h4, h7, h8]

noncomputable def CSs (m : Int) : Ctx := mkC Tryz.prog (G m) [(66, .pure sZE), (29, .pure sWord), (20, .pure sChk)]
@[simp] theorem CSs_P (m : Int) : (CSs m).P = Tryz.prog := rfl
@[simp] theorem CSs_1 (m : Int) : (CSs m).S 66 = .pure sZE := rfl
@[simp] theorem CSs_2 (m : Int) : (CSs m).S 29 = .pure sWord := rfl
@[simp] theorem CSs_3 (m : Int) : (CSs m).S 20 = .pure sChk := rfl
theorem mixCSs (m : Int) : (CSs m).P.follows .mixedOrders = true := mixed
theorem sigCSs (m : Int) : SigOK (CSs m) := sigOK_cons (entryPure zeroP Tryz.func66 rfl (by decide)) (sigOK_cons (entryPure wordP Tryz.func29 rfl (by decide)) (sigOK_cons (entryPure checkP Tryz.func20 rfl (by decide)) (sigOK_nil _ _)))
def sSetE : List AV → Option (Prop × AV) := spec1 (fun (s : SetI) => WfE s.e) (fun s => .int .i64 (setE s))
set_option maxHeartbeats 8000000 in
theorem setP : PureOK Tryz.prog (G m) 42 sSetE := by
  refine pure1 (C := CSs m) (sigCSs m) (mixCSs m) Tryz.func42 rfl rfl rfl (by kernel_rfl) (by decide) (fun s hw => ?_)
  rcases em2 (s.label = ⟨#[]⟩) with h1 | h1
  · cases h2 : s.off
    case true => simp [aev, cav, look, acallPure, abin, abinN, abinP, abinI, abinS, aun, aconv, afield, afieldAddr, aindexAddr, aindex, aslice, alow, ahigh, abuild, abuildGo, cellsOf, splice, fieldTy, alen, apick, amax, amin, aload, headV, aparts, abuildSlice, elParts, abytesStr, astore, amake, aappend, anew, arith, aresults, aresList, ares, spec0, spec1, spec2, spec3, spec4, eqCells, eqCell, setE, sZE, h1, h2]
    cases h3 : wordB s.var
    case false => simp [aev, cav, look, acallPure, abin, abinN, abinP, abinI, abinS, aun, aconv, afield, afieldAddr, aindexAddr, aindex, aslice, alow, ahigh, abuild, abuildGo, cellsOf, splice, fieldTy, alen, apick, amax, amin, aload, headV, aparts, abuildSlice, elParts, abytesStr, astore, amake, aappend, anew, arith, aresults, aresList, ares, spec0, spec1, spec2, spec3, spec4, eqCells, eqCell, setE, sZE, sWord, h1, h2, h3]
    cases h4 : wordB s.key <;> simp [aev, cav, look, acallPure, abin, abinN, abinP, abinI, abinS, aun, aconv, afield, afieldAddr, aindexAddr, aindex, aslice, alow, ahigh, abuild, abuildGo, cellsOf, splice, fieldTy, alen, apick, amax, amin, aload, headV, aparts, abuildSlice, elParts, abytesStr, astore, amake, aappend, anew, arith, aresults, aresList, ares, spec0, spec1, spec2, spec3, spec4, eqCells, eqCell, setE, sZE, sWord, sChk, h1, h2, h3, h4, hw]
  · rcases em2 (s.key = ⟨#[]⟩) with h2 | h2
    case inr => simp [aev, cav, look, acallPure, abin, abinN, abinP, abinI, abinS, aun, aconv, afield, afieldAddr, aindexAddr, aindex, aslice, alow, ahigh, abuild, abuildGo, cellsOf, splice, fieldTy, alen, apick, amax, amin, aload, headV, aparts, abuildSlice, elParts, abytesStr, astore, amake, aappend, anew, arith, aresults, aresList, ares, spec0, spec1, spec2, spec3, spec4, eqCells, eqCell, setE, sZE, h1, h2]
    cases h3 : zeroE s.e
    case false => simp [aev, cav, look, acallPure, abin, abinN, abinP, abinI, abinS, aun, aconv, afield, afieldAddr, aindexAddr, aindex, aslice, alow, ahigh, abuild, abuildGo, cellsOf, splice, fieldTy, alen, apick, amax, amin, aload, headV, aparts, abuildSlice, elParts, abytesStr, astore, amake, aappend, anew, arith, aresults, aresList, ares, spec0, spec1, spec2, spec3, spec4, eqCells, eqCell, setE, sZE, h1, h2, h3]
    cases h4 : wordB s.var
    case false => simp [aev, cav, look, acallPure, abin, abinN, abinP, abinI, abinS, aun, aconv, afield, afieldAddr, aindexAddr, aindex, aslice, alow, ahigh, abuild, abuildGo, cellsOf, splice, fieldTy, alen, apick, amax, amin, aload, headV, aparts, abuildSlice, elParts, abytesStr, astore, amake, aappend, anew, arith, aresults, aresList, ares, spec0, spec1, spec2, spec3, spec4, eqCells, eqCell, setE, sZE, sWord, h1, h2, h3, h4]
    cases h5 : wordB s.label <;> simp [aev, cav, look, acallPure, abin, abinN, abinP, abinI, abinS, aun, aconv, afield, afieldAddr, aindexAddr, aindex, aslice, alow, ahigh, abuild, abuildGo, cellsOf, splice, fieldTy, alen, apick, amax, amin, aload, headV, aparts, abuildSlice, elParts, abytesStr, astore, amake, aappend, anew, arith, aresults, aresList, ares, spec0, spec1, spec2, spec3, spec4, eqCells, eqCell, setE, sZE, sWord, sChk, h1, h2, h3, h4, h5]

noncomputable def CCl (m : Int) : Ctx := mkC Tryz.prog (G m) [(38, .pure sStray), (39, .pure sCrowd), (8, .pure sPathC), (20, .pure sChk), (42, .pure sSetE), (40, .gen sAdd), (41, .gen sNeed)]
@[simp] theorem CCl_P (m : Int) : (CCl m).P = Tryz.prog := rfl
@[simp] theorem CCl_1 (m : Int) : (CCl m).S 38 = .pure sStray := rfl
@[simp] theorem CCl_2 (m : Int) : (CCl m).S 39 = .pure sCrowd := rfl
@[simp] theorem CCl_3 (m : Int) : (CCl m).S 8 = .pure sPathC := rfl
@[simp] theorem CCl_4 (m : Int) : (CCl m).S 20 = .pure sChk := rfl
@[simp] theorem CCl_5 (m : Int) : (CCl m).S 42 = .pure sSetE := rfl
@[simp] theorem CCl_6 (m : Int) : (CCl m).S 40 = .gen sAdd := rfl
@[simp] theorem CCl_7 (m : Int) : (CCl m).S 41 = .gen sNeed := rfl
theorem mixCCl (m : Int) : (CCl m).P.follows .mixedOrders = true := mixed
theorem sigCCl (m : Int) : SigOK (CCl m) := sigOK_cons (entryPure strayP Tryz.func38 rfl (by decide)) (sigOK_cons (entryPure crowdP Tryz.func39 rfl (by decide)) (sigOK_cons (entryPure checkPathP Tryz.func8 rfl (by decide)) (sigOK_cons (entryPure checkP Tryz.func20 rfl (by decide)) (sigOK_cons (entryPure setP Tryz.func42 rfl (by decide)) (sigOK_cons (entryGen addP Tryz.func40 rfl (by decide)) (sigOK_cons (entryGen needP Tryz.func41 rfl (by decide)) (sigOK_nil _ _)))))))

def sClause : List AV → Option (Prop × AV) := spec1 (fun (c : Clause) => WfC c) (fun c => .int .i64 (clauseE c))
set_option maxHeartbeats 16000000 in
theorem clauseP : PureOK Tryz.prog (G m) 10 sClause := by
  refine pure1 (C := CCl m) (sigCCl m) (mixCCl m) Tryz.func10 rfl rfl rfl (by kernel_rfl) (by decide) (fun c ⟨⟨l1, w1⟩, ⟨l2, w2⟩, w3, ⟨l4, w4⟩, ⟨l5, w5⟩, ⟨l6, w6⟩, l7⟩ => ?_)
  have l1' := maxLen_le l1
  have l2' := maxLen_le l2
  have l4' := maxLen_le l4
  have l5' := maxLen_le l5
  have l6' := maxLen_le l6
  have l7' := maxLen_le l7
  by_cases k1 : c.kind < 1
  · simp [aev, cav, look, acallPure, abin, abinN, abinP, abinI, abinS, aun, aconv, afield, afieldAddr, aindexAddr, aindex, aslice, alow, ahigh, abuild, abuildGo, cellsOf, splice, fieldTy, alen, apick, amax, amin, aload, headV, aparts, abuildSlice, elParts, abytesStr, astore, amake, aappend, anew, arith, aresults, aresList, ares, spec0, spec1, spec2, spec3, spec4, eqCells, eqCell, clauseE, k1]
  by_cases k2 : 8 < c.kind
  · simp [aev, cav, look, acallPure, abin, abinN, abinP, abinI, abinS, aun, aconv, afield, afieldAddr, aindexAddr, aindex, aslice, alow, ahigh, abuild, abuildGo, cellsOf, splice, fieldTy, alen, apick, amax, amin, aload, headV, aparts, abuildSlice, elParts, abytesStr, astore, amake, aappend, anew, arith, aresults, aresList, ares, spec0, spec1, spec2, spec3, spec4, eqCells, eqCell, clauseE, k1, k2]
  cases hst : strayB c
  case true => simp [aev, cav, look, acallPure, abin, abinN, abinP, abinI, abinS, aun, aconv, afield, afieldAddr, aindexAddr, aindex, aslice, alow, ahigh, abuild, abuildGo, cellsOf, splice, fieldTy, alen, apick, amax, amin, aload, headV, aparts, abuildSlice, elParts, abytesStr, astore, amake, aappend, anew, arith, aresults, aresList, ares, spec0, spec1, spec2, spec3, spec4, eqCells, eqCell, clauseE, sStray, k1, k2, hst]
  cases hcr : crowdB c
  case true => simp [aev, cav, look, acallPure, abin, abinN, abinP, abinI, abinS, aun, aconv, afield, afieldAddr, aindexAddr, aindex, aslice, alow, ahigh, abuild, abuildGo, cellsOf, splice, fieldTy, alen, apick, amax, amin, aload, headV, aparts, abuildSlice, elParts, abytesStr, astore, amake, aappend, anew, arith, aresults, aresList, ares, spec0, spec1, spec2, spec3, spec4, eqCells, eqCell, clauseE, sStray, sCrowd, k1, k2, hst, hcr]
  have hC : clauseE c = partsC c := by simp [clauseE, k1, k2, hst, hcr]
  rw [hC]
  simp [aev, cav, look, acallPure, abin, abinN, abinP, abinI, abinS, aun, aconv, afield, afieldAddr, aindexAddr, aindex, aslice, alow, ahigh, abuild, abuildGo, cellsOf, splice, fieldTy, alen, apick, amax, amin, aload, headV, aparts, abuildSlice, elParts, abytesStr, astore, amake, aappend, anew, arith, aresults, aresList, ares, spec0, spec1, spec2, spec3, spec4, eqCells, eqCell, sStray, sCrowd, k1, k2, hst, hcr]
  refine loop_rule (C := CCl m) (sigCCl m) (mixCCl m) (fun q : Nat × Int => ⟨[(1, .ptr 0 1 21 0 0), (3, .ptr 1 1 1 0 0), (31, Enc.enc c.paths), (32, .int .i64 c.paths.length), (33, .int .i64 q.1)], [CB c, LB q.2]⟩) (fun q => q.1 ≤ c.paths.length ∧ (c.paths.drop q.1).foldl (pathS c.kind) q.2 = c.paths.foldl (pathS c.kind) 0) (fun q => c.paths.length - q.1) (by kernel_rfl) ⟨(0, 0), by simp, weak_slots (by simp)⟩ (fun ⟨i, x⟩ ⟨hi, hs⟩ => ?_)
  simp only at hi hs ⊢
  by_cases hlt : i < c.paths.length
  · have i1 : I64 ((i : Int) + 1) := by unfold I64; omega
    have w := w1 _ (ix_mem hlt)
    rw [foldl_drop hlt] at hs
    simp [aev, cav, look, acallPure, abin, abinN, abinP, abinI, abinS, aun, aconv, afield, afieldAddr, aindexAddr, aindex, aslice, alow, ahigh, abuild, abuildGo, cellsOf, splice, fieldTy, alen, apick, amax, amin, aload, headV, aparts, abuildSlice, elParts, abytesStr, astore, amake, aappend, anew, arith, aresults, aresList, ares, spec0, spec1, spec2, spec3, spec4, eqCells, eqCell, CB, LB, hlt, rowAt_enc hlt, sPathC, sAdd, w, i1]
    exact ⟨i + 1, pathS c.kind x (ix c.paths i), ⟨by omega, hs⟩, by omega, weak_keep 2 (by simp) (by simp) (by simp [AV.clean, AV.clean1]) (by simp) (by simp [CB, LB, pathS])⟩
  rw [List.drop_eq_nil_of_le (by omega), List.foldl_nil] at hs
  simp [aev, cav, look, acallPure, abin, abinN, abinP, abinI, abinS, aun, aconv, afield, afieldAddr, aindexAddr, aindex, aslice, alow, ahigh, abuild, abuildGo, cellsOf, splice, fieldTy, alen, apick, amax, amin, aload, headV, aparts, abuildSlice, elParts, abytesStr, astore, amake, aappend, anew, arith, aresults, aresList, ares, spec0, spec1, spec2, spec3, spec4, eqCells, eqCell, CB, LB, hlt]
  refine loop_rule (C := CCl m) (sigCCl m) (mixCCl m) (fun q : Nat × Int => ⟨[(1, .ptr 0 1 21 0 0), (3, .ptr 1 1 1 0 0), (45, Enc.enc c.wh), (46, .int .i64 c.wh.length), (47, .int .i64 q.1)], [CB c, LB q.2]⟩) (fun q => q.1 ≤ c.wh.length ∧ (c.wh.drop q.1).foldl exprS q.2 = partsA c) (fun q => c.wh.length - q.1) (by kernel_rfl) ⟨(0, x), ⟨by omega, by rw [hs]; rfl⟩, weak_keep 2 (by simp) (by simp) (by simp [AV.clean, AV.clean1]) (by simp) (by simp [CB, LB])⟩ (fun ⟨i, x⟩ ⟨hi, hs⟩ => ?_)
  simp only at hi hs ⊢
  by_cases hlt : i < c.wh.length
  · have i1 : I64 ((i : Int) + 1) := by unfold I64; omega
    have w := w2 _ (ix_mem hlt)
    rw [foldl_drop hlt] at hs
    simp [aev, cav, look, acallPure, abin, abinN, abinP, abinI, abinS, aun, aconv, afield, afieldAddr, aindexAddr, aindex, aslice, alow, ahigh, abuild, abuildGo, cellsOf, splice, fieldTy, alen, apick, amax, amin, aload, headV, aparts, abuildSlice, elParts, abytesStr, astore, amake, aappend, anew, arith, aresults, aresList, ares, spec0, spec1, spec2, spec3, spec4, eqCells, eqCell, CB, LB, hlt, rowAt_enc hlt, sChk, sAdd, w, i1]
    exact ⟨i + 1, exprS x (ix c.wh i), ⟨by omega, hs⟩, by omega, weak_keep 2 (by simp) (by simp) (by simp [AV.clean, AV.clean1]) (by simp) (by simp [CB, LB, exprS])⟩
  rw [List.drop_eq_nil_of_le (by omega), List.foldl_nil] at hs
  subst hs
  rcases em2 (c.kind = 2) with hk | hk
  case' inl => have hB : addE (addE (partsA c) (checkE c.e)) (needE c.name) = partsB c := by simp [partsB, hk]
  case' inr => have hB : partsA c = partsB c := by simp [partsB, hk]
  all_goals
    simp [aev, cav, look, acallPure, abin, abinN, abinP, abinI, abinS, aun, aconv, afield, afieldAddr, aindexAddr, aindex, aslice, alow, ahigh, abuild, abuildGo, cellsOf, splice, fieldTy, alen, apick, amax, amin, aload, headV, aparts, abuildSlice, elParts, abytesStr, astore, amake, aappend, anew, arith, aresults, aresList, ares, spec0, spec1, spec2, spec3, spec4, eqCells, eqCell, CB, LB, hlt, hk, sChk, sAdd, sNeed, w3, hB]
    refine loop_rule (C := CCl m) (sigCCl m) (mixCCl m) (fun q : Nat × Int => ⟨[(1, .ptr 0 1 21 0 0), (3, .ptr 1 1 1 0 0), (66, Enc.enc c.items), (67, .int .i64 c.items.length), (68, .int .i64 q.1)], [CB c, LB q.2]⟩) (fun q => q.1 ≤ c.items.length ∧ (c.items.drop q.1).foldl itemS q.2 = c.items.foldl itemS (partsB c)) (fun q => c.items.length - q.1) (by kernel_rfl) ⟨(0, partsB c), ⟨by omega, rfl⟩, weak_keep 2 (by simp) (by simp) (by simp [AV.clean, AV.clean1]) (by simp) (by simp [CB, LB])⟩ (fun ⟨i, x⟩ ⟨hi, hs⟩ => ?_)
    simp only at hi hs ⊢
    by_cases hlt : i < c.items.length
    · have i1 : I64 ((i : Int) + 1) := by unfold I64; omega
      have w := w4 _ (ix_mem hlt)
      rw [foldl_drop hlt] at hs
      simp [aev, cav, look, acallPure, abin, abinN, abinP, abinI, abinS, aun, aconv, afield, afieldAddr, aindexAddr, aindex, aslice, alow, ahigh, abuild, abuildGo, cellsOf, splice, fieldTy, alen, apick, amax, amin, aload, headV, aparts, abuildSlice, elParts, abytesStr, astore, amake, aappend, anew, arith, aresults, aresList, ares, spec0, spec1, spec2, spec3, spec4, eqCells, eqCell, CB, LB, hlt, rowAt_enc hlt, sChk, sAdd, sNeed, w, i1]
      exact ⟨i + 1, itemS x (ix c.items i), ⟨by omega, hs⟩, by omega, weak_keep 2 (by simp) (by simp) (by simp [AV.clean, AV.clean1]) (by simp) (by simp [CB, LB, itemS])⟩
    rw [List.drop_eq_nil_of_le (by omega), List.foldl_nil] at hs
    simp [aev, cav, look, acallPure, abin, abinN, abinP, abinI, abinS, aun, aconv, afield, afieldAddr, aindexAddr, aindex, aslice, alow, ahigh, abuild, abuildGo, cellsOf, splice, fieldTy, alen, apick, amax, amin, aload, headV, aparts, abuildSlice, elParts, abytesStr, astore, amake, aappend, anew, arith, aresults, aresList, ares, spec0, spec1, spec2, spec3, spec4, eqCells, eqCell, CB, LB, hlt]
    refine loop_rule (C := CCl m) (sigCCl m) (mixCCl m) (fun q : Nat × Int => ⟨[(1, .ptr 0 1 21 0 0), (3, .ptr 1 1 1 0 0), (81, Enc.enc c.order), (82, .int .i64 c.order.length), (83, .int .i64 q.1)], [CB c, LB q.2]⟩) (fun q => q.1 ≤ c.order.length ∧ (c.order.drop q.1).foldl sortS q.2 = c.order.foldl sortS (c.items.foldl itemS (partsB c))) (fun q => c.order.length - q.1) (by kernel_rfl) ⟨(0, x), ⟨by omega, by rw [hs]; rfl⟩, weak_keep 2 (by simp) (by simp) (by simp [AV.clean, AV.clean1]) (by simp) (by simp [CB, LB])⟩ (fun ⟨i, x⟩ ⟨hi, hs⟩ => ?_)
    simp only at hi hs ⊢
    by_cases hlt : i < c.order.length
    · have i1 : I64 ((i : Int) + 1) := by unfold I64; omega
      have w := w5 _ (ix_mem hlt)
      rw [foldl_drop hlt] at hs
      simp [aev, cav, look, acallPure, abin, abinN, abinP, abinI, abinS, aun, aconv, afield, afieldAddr, aindexAddr, aindex, aslice, alow, ahigh, abuild, abuildGo, cellsOf, splice, fieldTy, alen, apick, amax, amin, aload, headV, aparts, abuildSlice, elParts, abytesStr, astore, amake, aappend, anew, arith, aresults, aresList, ares, spec0, spec1, spec2, spec3, spec4, eqCells, eqCell, CB, LB, hlt, rowAt_enc hlt, sChk, sAdd, sNeed, w, i1]
      exact ⟨i + 1, sortS x (ix c.order i), ⟨by omega, hs⟩, by omega, weak_keep 2 (by simp) (by simp) (by simp [AV.clean, AV.clean1]) (by simp) (by simp [CB, LB, sortS])⟩
    rw [List.drop_eq_nil_of_le (by omega), List.foldl_nil] at hs
    simp [aev, cav, look, acallPure, abin, abinN, abinP, abinI, abinS, aun, aconv, afield, afieldAddr, aindexAddr, aindex, aslice, alow, ahigh, abuild, abuildGo, cellsOf, splice, fieldTy, alen, apick, amax, amin, aload, headV, aparts, abuildSlice, elParts, abytesStr, astore, amake, aappend, anew, arith, aresults, aresList, ares, spec0, spec1, spec2, spec3, spec4, eqCells, eqCell, CB, LB, hlt]
    refine loop_rule (C := CCl m) (sigCCl m) (mixCCl m) (fun q : Nat × Int => ⟨[(1, .ptr 0 1 21 0 0), (3, .ptr 1 1 1 0 0), (93, Enc.enc c.sets), (94, .int .i64 c.sets.length), (95, .int .i64 q.1)], [CB c, LB q.2]⟩) (fun q => q.1 ≤ c.sets.length ∧ (c.sets.drop q.1).foldl setS q.2 = c.sets.foldl setS (c.order.foldl sortS (c.items.foldl itemS (partsB c)))) (fun q => c.sets.length - q.1) (by kernel_rfl) ⟨(0, x), ⟨by omega, by rw [hs]; rfl⟩, weak_keep 2 (by simp) (by simp) (by simp [AV.clean, AV.clean1]) (by simp) (by simp [CB, LB])⟩ (fun ⟨i, x⟩ ⟨hi, hs⟩ => ?_)
    simp only at hi hs ⊢
    by_cases hlt : i < c.sets.length
    · have i1 : I64 ((i : Int) + 1) := by unfold I64; omega
      have w := w6 _ (ix_mem hlt)
      rw [foldl_drop hlt] at hs
      simp [aev, cav, look, acallPure, abin, abinN, abinP, abinI, abinS, aun, aconv, afield, afieldAddr, aindexAddr, aindex, aslice, alow, ahigh, abuild, abuildGo, cellsOf, splice, fieldTy, alen, apick, amax, amin, aload, headV, aparts, abuildSlice, elParts, abytesStr, astore, amake, aappend, anew, arith, aresults, aresList, ares, spec0, spec1, spec2, spec3, spec4, eqCells, eqCell, CB, LB, hlt, rowAt_enc hlt, sSetE, sAdd, sNeed, w, i1]
      exact ⟨i + 1, setS x (ix c.sets i), ⟨by omega, hs⟩, by omega, weak_keep 2 (by simp) (by simp) (by simp [AV.clean, AV.clean1]) (by simp) (by simp [CB, LB, setS])⟩
    rw [List.drop_eq_nil_of_le (by omega), List.foldl_nil] at hs
    simp [aev, cav, look, acallPure, abin, abinN, abinP, abinI, abinS, aun, aconv, afield, afieldAddr, aindexAddr, aindex, aslice, alow, ahigh, abuild, abuildGo, cellsOf, splice, fieldTy, alen, apick, amax, amin, aload, headV, aparts, abuildSlice, elParts, abytesStr, astore, amake, aappend, anew, arith, aresults, aresList, ares, spec0, spec1, spec2, spec3, spec4, eqCells, eqCell, CB, LB, hlt]
    refine loop_rule (C := CCl m) (sigCCl m) (mixCCl m) (fun q : Nat × Int => ⟨[(1, .ptr 0 1 21 0 0), (3, .ptr 1 1 1 0 0), (104, Enc.enc c.names), (105, .int .i64 c.names.length), (106, .int .i64 q.1)], [CB c, LB q.2]⟩) (fun q => q.1 ≤ c.names.length ∧ (c.names.drop q.1).foldl nameS q.2 = partsC c) (fun q => c.names.length - q.1) (by kernel_rfl) ⟨(0, x), ⟨by omega, by rw [hs]; rfl⟩, weak_keep 2 (by simp) (by simp) (by simp [AV.clean, AV.clean1]) (by simp) (by simp [CB, LB])⟩ (fun ⟨i, x⟩ ⟨hi, hs⟩ => ?_)
    simp only at hi hs ⊢
    by_cases hlt : i < c.names.length
    · have i1 : I64 ((i : Int) + 1) := by unfold I64; omega
      rw [foldl_drop hlt] at hs
      simp [aev, cav, look, acallPure, abin, abinN, abinP, abinI, abinS, aun, aconv, afield, afieldAddr, aindexAddr, aindex, aslice, alow, ahigh, abuild, abuildGo, cellsOf, splice, fieldTy, alen, apick, amax, amin, aload, headV, aparts, abuildSlice, elParts, abytesStr, astore, amake, aappend, anew, arith, aresults, aresList, ares, spec0, spec1, spec2, spec3, spec4, eqCells, eqCell, CB, LB, hlt, rowAt_enc hlt, sAdd, sNeed, i1]
      exact ⟨i + 1, nameS x (ix c.names i), ⟨by omega, hs⟩, by omega, weak_keep 2 (by simp) (by simp) (by simp [AV.clean, AV.clean1]) (by simp) (by simp [CB, LB, nameS])⟩
    rw [List.drop_eq_nil_of_le (by omega), List.foldl_nil] at hs
    simp [aev, cav, look, acallPure, abin, abinN, abinP, abinI, abinS, aun, aconv, afield, afieldAddr, aindexAddr, aindex, aslice, alow, ahigh, abuild, abuildGo, cellsOf, splice, fieldTy, alen, apick, amax, amin, aload, headV, aparts, abuildSlice, elParts, abytesStr, astore, amake, aappend, anew, arith, aresults, aresList, ares, spec0, spec1, spec2, spec3, spec4, eqCells, eqCell, CB, LB, hlt, hs]
end
end Go.Proofs.YthcfnaglgoaikaaGreat
