/-
  layer 18: the fields of a clause that its kind does not have.
-/
import Derived.Test.YthcfnaglgoaikaaGreatS14
import Derived.Test.YthcfnaglgoaikaaGreatAmF
namespace Go.Proofs.YthcfnaglgoaikaaGreat
open Go.RowKit
set_option linter.unusedSimpArgs false
set_option linter.unusedVariables false
set_option maxRecDepth 100000

/-! Conditions put together by hand: a cut, a branch. -/
section
variable {C : Ctx} {N h0 : Nat}
theorem AW_cut {a b : Code} {st : ASt} {Q : Exit → ASt → Prop} (S : ASt) (h1 : AW C N h0 a st (fun ex st' => ex = .normal ∧ Weak C N h0 st' S)) (h2 : AW C N h0 b S Q) : AW C N h0 (.seq a b) st Q :=
  AW_seq fun X w0 β0 H0 x w hl hr => Code.wp_mono (fun ex a' w' ⟨st', ⟨he, hw⟩, hr'⟩ => by
    subst he
    exact ⟨S, h2, hw X w0 β0 H0 a' w' hl hr'⟩) (h1 X w0 β0 H0 x w hl hr)
theorem AW_cond {c : Operand} {x y : Code} {st : ASt} {Q : Exit → ASt → Prop} (b : Bool) (hb : aev C st.ρ 0 c = .bool b) (ht : b = true → AW C N h0 x st Q) (hf : b = false → AW C N h0 y st Q) : AW C N h0 (.cond c x y) st Q := fun X w0 β0 H0 a w hl hr => by
  have hr0 := hr
  obtain ⟨β, R, S0, Tr, G, hN, hdef⟩ := hr0
  have hE := aev_sound Tr G 0 c
  rw [hb] at hE
  exact wp_cond_split (rep_bool hE) (fun h => ht h X w0 β0 H0 a w hl hr) (fun h => hf h X w0 β0 H0 a w hl hr)
theorem pure1W {α : Type} [Enc α] {f : FuncId} {fn : Func} {body : Code} {rs : List ResultVar} {n : Nat} (hf : C.P.funcs[f]? = some fn) (hb : fn.body = some body) (hrs : fn.results.toList = rs) (hn : fn.ntmps = n) (hnn : 1 ≤ n) {pre : α → Prop} {res : α → AV} (h : ∀ a, pre a → AW C n 0 body ⟨[(0, Enc.enc a)], []⟩ (postP C rs (res a))) : PureOK C.P C.G f (spec1 pre res) :=
  pure_of_AW hf hb hrs hn fun avs ob r' hp hob => by
    unfold spec1 at hp
    split at hp
    · injection hp with hp; injection hp with e1 e2; subst e1 e2
      refine ⟨hnn, ?_⟩
      have := h _ hob.2
      rw [← hob.1] at this
      exact this
    · cases hp
end

/-- A pointer to a clause, as it is handed to a closure. -/
structure PCl where
  c : Clause
instance : Enc PCl where
  sz := 1
  cells p := [.iptr (Enc.cells p.c)]
  enc p := .iptr (Enc.cells p.c)
  unc l := match l with | [.iptr c] => ⟨Enc.unc c⟩ | _ => ⟨default⟩
  dec v := match v with | .iptr c => ⟨Enc.unc c⟩ | _ => ⟨default⟩
  unc_cells p := by simp only [Enc.unc_cells]
  dec_enc p := by simp only [Enc.unc_cells]
@[simp] theorem enc_pcl (p : PCl) : Enc.enc p = .iptr (Enc.cells p.c) := rfl
@[simp] theorem dec_pcl (l : List AV) : (Enc.dec (.iptr l) : PCl) = ⟨Enc.unc l⟩ := rfl
theorem dec_ints (s : Nat) (f : Bool) (rows : List (List AV)) : (Enc.dec (.slice s f rows) : List Int) = rows.map Enc.unc := rfl

def isK (l : List Int) (n : Int) : Bool := l.any fun x => decide (n = x)
def zeroE (e : Expr) : Bool := decide (e.op = 0) && zeroV e.v && decide (e.name = ⟨#[]⟩) && !e.dist && decide (e.kids = [])
def absB (n : Int) : Bool := decide (n = 0) || decide (n = -1)
def inRg (n lo hi : Int) : Bool := decide (lo ≤ n) && decide (n ≤ hi)
def colsB (c : Clause) : Bool := isK [3, 4] c.kind
def strayA (c : Clause) : Bool := (c.opt && !isK [1, 8] c.kind) || (c.dist && !colsB c)
def strayC (c : Clause) : Bool := (decide (0 < c.paths.length) && !isK [1, 5, 6] c.kind) || (decide (0 < c.wh.length) && !isK [1, 3] c.kind)
def strayE (c : Clause) : Bool := (!isK [2] c.kind && (!zeroE c.e || !decide (c.name = ⟨#[]⟩))) || (!colsB c && (decide (0 < c.items.length) || decide (0 < c.order.length)))
def strayG (c : Clause) : Bool := (!colsB c && (!absB c.skip || !absB c.limit)) || (decide (c.skip < -1) || decide (1000000000000000 < c.skip) || decide (c.limit < -1) || decide (1000000000000000 < c.limit))
def strayI (c : Clause) : Bool := (decide (0 < c.sets.length) && !isK [7] c.kind) || (decide (0 < c.names.length) && !isK [8] c.kind)
def strayB (c : Clause) : Bool := strayA c || (strayC c || (strayE c || (strayG c || strayI c)))

def CB (c : Clause) : Blk := ⟨39, 21, [[.int .i64 c.kind, .bool c.opt, .bool c.dist, .slice 3 false (encRows c.paths), .slice 9 false (encRows c.wh), .int .i64 c.e.op, .int .i64 c.e.v.kind, .int .i64 c.e.v.n, .int .i64 c.e.v.d, .str c.e.v.s, .slice 5 false (encRows c.e.v.l), .str c.e.name, .bool c.e.dist, .slice 9 false (encRows c.e.kids), .str c.name, .slice 10 false (encRows c.items), .slice 10 false (encRows c.order), .int .i64 c.skip, .int .i64 c.limit, .slice 13 false (encRows c.sets), .slice 1 false (encRows c.names)]], true, true⟩

section
variable {m : Int}
def sIxI : List AV → Option (Prop × AV) := spec2 (fun (l : List Int) (_ : Int) => l.length ≤ maxLen) (fun l n => .int .i64 (findAt (fun x => decide (n = x)) l 0))
set_option maxHeartbeats 4000000 in
theorem ixI : PureOK Tryz.prog (G m) 83 sIxI := by
  refine pure2 (C := CE m) (sigCE m) (mixCE m) Tryz.func83 rfl rfl rfl (by kernel_rfl) (by decide) (fun l n hl => ?_)
  have hl' := maxLen_le hl
  simp [aev, cav, look, acallPure, abin, abinN, abinP, abinI, abinS, aun, aconv, afield, afieldAddr, aindexAddr, aindex, aslice, alow, ahigh, abuild, abuildGo, cellsOf, splice, fieldTy, alen, apick, amax, amin, aload, headV, aparts, abuildSlice, elParts, abytesStr, astore, amake, aappend, anew, arith, aresults, aresList, ares, spec0, spec1, spec2, spec3, spec4, eqCells, eqCell]
  refine loop_rule (C := CE m) (sigCE m) (mixCE m) (fun i : Nat => ⟨[(0, Enc.enc l), (1, .int .i64 n), (7, .int .i64 l.length), (8, .int .i64 i)], []⟩) (fun i => i ≤ l.length ∧ findAt (fun x => decide (n = x)) (l.drop i) i = findAt (fun x => decide (n = x)) l 0) (fun i => l.length - i) (by kernel_rfl) ⟨0, by simp, weak_slots (by simp)⟩ (fun i ⟨hi, hs⟩ => ?_)
  by_cases hlt : i < l.length
  · have i1 : I64 ((i : Int) + 1) := by unfold I64; omega
    rw [findAt_drop hlt] at hs
    rcases em2 (n = ix l i) with h3 | h3
    · rw [if_pos (decide_eq_true (of_eq_true h3))] at hs
      simp [aev, cav, look, acallPure, abin, abinN, abinP, abinI, abinS, aun, aconv, afield, afieldAddr, aindexAddr, aindex, aslice, alow, ahigh, abuild, abuildGo, cellsOf, splice, fieldTy, alen, apick, amax, amin, aload, headV, aparts, abuildSlice, elParts, abytesStr, astore, amake, aappend, anew, arith, aresults, aresList, ares, spec0, spec1, spec2, spec3, spec4, eqCells, eqCell, hlt, rowAt_enc hlt, h3, ← hs]
    · rw [if_neg (by simp only [decide_eq_true_eq]; exact of_eq_false h3)] at hs
      simp [aev, cav, look, acallPure, abin, abinN, abinP, abinI, abinS, aun, aconv, afield, afieldAddr, aindexAddr, aindex, aslice, alow, ahigh, abuild, abuildGo, cellsOf, splice, fieldTy, alen, apick, amax, amin, aload, headV, aparts, abuildSlice, elParts, abytesStr, astore, amake, aappend, anew, arith, aresults, aresList, ares, spec0, spec1, spec2, spec3, spec4, eqCells, eqCell, hlt, rowAt_enc hlt, h3, i1]
      exact ⟨i + 1, ⟨by omega, hs⟩, by omega, weak_slots (by simp)⟩
  · rw [List.drop_eq_nil_of_le (by omega), findAt] at hs
    simp [aev, cav, look, acallPure, abin, abinN, abinP, abinI, abinS, aun, aconv, afield, afieldAddr, aindexAddr, aindex, aslice, alow, ahigh, abuild, abuildGo, cellsOf, splice, fieldTy, alen, apick, amax, amin, aload, headV, aparts, abuildSlice, elParts, abytesStr, astore, amake, aappend, anew, arith, aresults, aresList, ares, spec0, spec1, spec2, spec3, spec4, eqCells, eqCell, hlt, ← hs]
def sCoI : List AV → Option (Prop × AV) := spec2 (fun (l : List Int) (_ : Int) => l.length ≤ maxLen) (fun l n => .bool (isK l n))
theorem coI : PureOK Tryz.prog (G m) 65 sCoI := by
  have sig : SigOK (mkC Tryz.prog (G m) [(83, .pure sIxI)]) := sigOK_cons (entryPure ixI Tryz.func83 rfl (by decide)) (sigOK_nil _ _)
  refine pure2 (C := mkC Tryz.prog (G m) [(83, .pure sIxI)]) sig mixed Tryz.func65 rfl rfl rfl (by kernel_rfl) (by decide) (fun l n hl => ?_)
  simp [aev, cav, look, acallPure, abin, abinN, abinP, abinI, abinS, aun, aconv, afield, afieldAddr, aindexAddr, aindex, aslice, alow, ahigh, abuild, abuildGo, cellsOf, splice, fieldTy, alen, apick, amax, amin, aload, headV, aparts, abuildSlice, elParts, abytesStr, astore, amake, aappend, anew, arith, aresults, aresList, ares, spec0, spec1, spec2, spec3, spec4, eqCells, eqCell, sIxI, hl, findAt_iff, isK]
def sIs : List AV → Option (Prop × AV) := spec2 (fun (l : List Int) (_ : PCl) => l.length ≤ maxLen) (fun l p => .bool (isK l p.c.kind))
theorem isP : PureOK Tryz.prog (G m) 64 sIs := by
  have sig : SigOK (mkC Tryz.prog (G m) [(65, .pure sCoI)]) := sigOK_cons (entryPure coI Tryz.func65 rfl (by decide)) (sigOK_nil _ _)
  refine pure2 (C := mkC Tryz.prog (G m) [(65, .pure sCoI)]) sig mixed Tryz.func64 rfl rfl rfl (by kernel_rfl) (by decide) (fun l p hl => ?_)
  simp [aev, cav, look, acallPure, abin, abinN, abinP, abinI, abinS, aun, aconv, afield, afieldAddr, aindexAddr, aindex, aslice, alow, ahigh, abuild, abuildGo, cellsOf, splice, fieldTy, alen, apick, amax, amin, aload, headV, aparts, abuildSlice, elParts, abytesStr, astore, amake, aappend, anew, arith, aresults, aresList, ares, spec0, spec1, spec2, spec3, spec4, eqCells, eqCell, sCoI, hl]

def sZE : List AV → Option (Prop × AV) := spec1 (fun (_ : Expr) => True) (fun e => .bool (zeroE e))
set_option maxHeartbeats 4000000 in
theorem zeroP : PureOK Tryz.prog (G m) 66 sZE := by
  have sig : SigOK (mkC Tryz.prog (G m) [(84, .pure sZ)]) := sigOK_cons (entryPure blankP Tryz.func84 rfl (by decide)) (sigOK_nil _ _)
  refine pure1 (C := mkC Tryz.prog (G m) [(84, .pure sZ)]) sig mixed Tryz.func66 rfl rfl rfl (by kernel_rfl) (by decide) (fun e _ => ?_)
  rcases em2 (e.op = 0) with h1 | h1
  case inr => simp [aev, cav, look, acallPure, abin, abinN, abinP, abinI, abinS, aun, aconv, afield, afieldAddr, aindexAddr, aindex, aslice, alow, ahigh, abuild, abuildGo, cellsOf, splice, fieldTy, alen, apick, amax, amin, aload, headV, aparts, abuildSlice, elParts, abytesStr, astore, amake, aappend, anew, arith, aresults, aresList, ares, spec0, spec1, spec2, spec3, spec4, eqCells, eqCell, zeroE, h1]
  cases h2 : zeroV e.v
  case false => simp [aev, cav, look, acallPure, abin, abinN, abinP, abinI, abinS, aun, aconv, afield, afieldAddr, aindexAddr, aindex, aslice, alow, ahigh, abuild, abuildGo, cellsOf, splice, fieldTy, alen, apick, amax, amin, aload, headV, aparts, abuildSlice, elParts, abytesStr, astore, amake, aappend, anew, arith, aresults, aresList, ares, spec0, spec1, spec2, spec3, spec4, eqCells, eqCell, zeroE, sZ, h1, h2]
  rcases em2 (e.name = ⟨#[]⟩) with h3 | h3
  case inr => simp [aev, cav, look, acallPure, abin, abinN, abinP, abinI, abinS, aun, aconv, afield, afieldAddr, aindexAddr, aindex, aslice, alow, ahigh, abuild, abuildGo, cellsOf, splice, fieldTy, alen, apick, amax, amin, aload, headV, aparts, abuildSlice, elParts, abytesStr, astore, amake, aappend, anew, arith, aresults, aresList, ares, spec0, spec1, spec2, spec3, spec4, eqCells, eqCell, zeroE, sZ, h1, h2, h3]
  cases h4 : e.dist
  case true => simp [aev, cav, look, acallPure, abin, abinN, abinP, abinI, abinS, aun, aconv, afield, afieldAddr, aindexAddr, aindex, aslice, alow, ahigh, abuild, abuildGo, cellsOf, splice, fieldTy, alen, apick, amax, amin, aload, headV, aparts, abuildSlice, elParts, abytesStr, astore, amake, aappend, anew, arith, aresults, aresList, ares, spec0, spec1, spec2, spec3, spec4, eqCells, eqCell, zeroE, sZ, h1, h2, h3, h4, eta_d h4]
  rcases em2 (e.kids = []) with h5 | h5 <;> simp [aev, cav, look, acallPure, abin, abinN, abinP, abinI, abinS, aun, aconv, afield, afieldAddr, aindexAddr, aindex, aslice, alow, ahigh, abuild, abuildGo, cellsOf, splice, fieldTy, alen, apick, amax, amin, aload, headV, aparts, abuildSlice, elParts, abytesStr, astore, amake, aappend, anew, arith, aresults, aresList, ares, spec0, spec1, spec2, spec3, spec4, eqCells, eqCell, zeroE, sZ, h1, h2, h3, h4, eta_d h4, h5]
def sAb : List AV → Option (Prop × AV) := spec1 (fun (_ : Int) => True) (fun n => .bool (absB n))
theorem absP : PureOK Tryz.prog (G m) 67 sAb := by
  refine pure1 (C := CE m) (sigCE m) (mixCE m) Tryz.func67 rfl rfl rfl (by kernel_rfl) (by decide) (fun n _ => ?_)
  rcases em2 (n = 0) with h1 | h1 <;> rcases em2 (n = -1) with h2 | h2 <;> simp [aev, cav, look, acallPure, abin, abinN, abinP, abinI, abinS, aun, aconv, afield, afieldAddr, aindexAddr, aindex, aslice, alow, ahigh, abuild, abuildGo, cellsOf, splice, fieldTy, alen, apick, amax, amin, aload, headV, aparts, abuildSlice, elParts, abytesStr, astore, amake, aappend, anew, arith, aresults, aresList, ares, spec0, spec1, spec2, spec3, spec4, eqCells, eqCell, absB, h1, h2]
def sIn3 : List AV → Option (Prop × AV) := spec3 (fun (_ _ _ : Int) => True) (fun n lo hi => .bool (inRg n lo hi))
theorem inRP : PureOK Tryz.prog (G m) 68 sIn3 := by
  refine pure3 (C := CE m) (sigCE m) (mixCE m) Tryz.func68 rfl rfl rfl (by kernel_rfl) (by decide) (fun n lo hi _ => ?_)
  by_cases h1 : lo ≤ n <;> by_cases h2 : n ≤ hi <;> simp [aev, cav, look, acallPure, abin, abinN, abinP, abinI, abinS, aun, aconv, afield, afieldAddr, aindexAddr, aindex, aslice, alow, ahigh, abuild, abuildGo, cellsOf, splice, fieldTy, alen, apick, amax, amin, aload, headV, aparts, abuildSlice, elParts, abytesStr, astore, amake, aappend, anew, arith, aresults, aresList, ares, spec0, spec1, spec2, spec3, spec4, eqCells, eqCell, inRg, h1, h2]

noncomputable def CSt (m : Int) : Ctx := mkC Tryz.prog (G m) [(64, .pure sIs), (66, .pure sZE), (67, .pure sAb)]
@[simp] theorem CSt_P (m : Int) : (CSt m).P = Tryz.prog := rfl
@[simp] theorem CSt_1 (m : Int) : (CSt m).S 64 = .pure sIs := rfl
@[simp] theorem CSt_2 (m : Int) : (CSt m).S 66 = .pure sZE := rfl
@[simp] theorem CSt_3 (m : Int) : (CSt m).S 67 = .pure sAb := rfl
theorem mixCSt (m : Int) : (CSt m).P.follows .mixedOrders = true := mixed
theorem sigCSt (m : Int) : SigOK (CSt m) := sigOK_cons (entryPure isP Tryz.func64 rfl (by decide)) (sigOK_cons (entryPure zeroP Tryz.func66 rfl (by decide)) (sigOK_cons (entryPure absP Tryz.func67 rfl (by decide)) (sigOK_nil _ _)))
/-- What stands in stray between its tests. -/
def stS (c : Clause) (t : Nat) (b : Bool) : ASt := ⟨[(1, .ptr 0 1 21 0 0), (3, .fn 64 [.ptr 0 1 21 0 0]), (4, .bool (colsB c)), (t, .bool b)], [CB c]⟩
def sStray : List AV → Option (Prop × AV) := spec1 (fun (_ : Clause) => True) (fun c => .bool (strayB c))
set_option maxHeartbeats 8000000 in
theorem strayP : PureOK Tryz.prog (G m) 38 sStray := by
  refine pure1W (C := CSt m) Tryz.func38 rfl rfl rfl (by decide) (fun c _ => ?_)
  have m1 : 1 ≤ maxLen := by unfold maxLen; omega
  have m2 : 2 ≤ maxLen := by unfold maxLen; omega
  have m3 : 3 ≤ maxLen := by unfold maxLen; omega
  refine AW_seq (avc_sound (sigCSt m) (mixCSt m) _ (by kernel_rfl) ?_)
  simp [aev, cav, look, acallPure, abin, abinN, abinP, abinI, abinS, aun, aconv, afield, afieldAddr, aindexAddr, aindex, aslice, alow, ahigh, abuild, abuildGo, cellsOf, splice, fieldTy, alen, apick, amax, amin, aload, headV, aparts, abuildSlice, elParts, abytesStr, astore, amake, aappend, anew, arith, aresults, aresList, ares, spec0, spec1, spec2, spec3, spec4, eqCells, eqCell]
  refine AW_seq (avc_sound (sigCSt m) (mixCSt m) _ (by kernel_rfl) ?_)
  simp [aev, cav, look, acallPure, abin, abinN, abinP, abinI, abinS, aun, aconv, afield, afieldAddr, aindexAddr, aindex, aslice, alow, ahigh, abuild, abuildGo, cellsOf, splice, fieldTy, alen, apick, amax, amin, aload, headV, aparts, abuildSlice, elParts, abytesStr, astore, amake, aappend, anew, arith, aresults, aresList, ares, spec0, spec1, spec2, spec3, spec4, eqCells, eqCell]
  refine AW_cut (stS c 4 (colsB c)) (avc_sound (sigCSt m) (mixCSt m) _ (by kernel_rfl) ?_) ?_
  · simp [aev, cav, look, acallPure, abin, abinN, abinP, abinI, abinS, aun, aconv, afield, afieldAddr, aindexAddr, aindex, aslice, alow, ahigh, abuild, abuildGo, cellsOf, splice, fieldTy, alen, apick, amax, amin, aload, headV, aparts, abuildSlice, elParts, abytesStr, astore, amake, aappend, anew, arith, aresults, aresList, ares, spec0, spec1, spec2, spec3, spec4, eqCells, eqCell, sIs, dec_ints, unc_int, m2]
    exact weak_slots (by simp [stS, colsB, CB])
  refine AW_seq (AW_block ?_)
  refine AW_cut (stS c 9 (strayA c)) (avc_sound (sigCSt m) (mixCSt m) _ (by kernel_rfl) ?_) ?_
  · cases h1 : c.opt <;> cases h2 : isK [1, 8] c.kind <;> cases h3 : c.dist <;> cases h4 : colsB c <;> simp [aev, cav, look, acallPure, abin, abinN, abinP, abinI, abinS, aun, aconv, afield, afieldAddr, aindexAddr, aindex, aslice, alow, ahigh, abuild, abuildGo, cellsOf, splice, fieldTy, alen, apick, amax, amin, aload, headV, aparts, abuildSlice, elParts, abytesStr, astore, amake, aappend, anew, arith, aresults, aresList, ares, spec0, spec1, spec2, spec3, spec4, eqCells, eqCell, stS, CB, sIs, sZE, sAb, dec_ints, unc_int, m1, m2, m3, strayA, h1, h2, h3, h4] <;> exact weak_slots (by simp [stS, CB, h1, h3, h4])
  refine AW_cond (strayA c) (by simp [stS]) (fun h => ?_) (fun h => ?_)
  · refine avc_sound (sigCSt m) (mixCSt m) _ (by kernel_rfl) ?_
    simp [aev, cav, look, acallPure, abin, abinN, abinP, abinI, abinS, aun, aconv, afield, afieldAddr, aindexAddr, aindex, aslice, alow, ahigh, abuild, abuildGo, cellsOf, splice, fieldTy, alen, apick, amax, amin, aload, headV, aparts, abuildSlice, elParts, abytesStr, astore, amake, aappend, anew, arith, aresults, aresList, ares, spec0, spec1, spec2, spec3, spec4, eqCells, eqCell, stS, CB, sIs, sZE, sAb, dec_ints, unc_int, m1, m2, m3, strayB, h]
  refine AW_cut (stS c 24 (strayC c)) (avc_sound (sigCSt m) (mixCSt m) _ (by kernel_rfl) ?_) ?_
  · rcases em2 (0 < c.paths.length) with h1 | h1 <;> cases h2 : isK [1, 5, 6] c.kind <;> rcases em2 (0 < c.wh.length) with h3 | h3 <;> cases h4 : isK [1, 3] c.kind <;> simp [aev, cav, look, acallPure, abin, abinN, abinP, abinI, abinS, aun, aconv, afield, afieldAddr, aindexAddr, aindex, aslice, alow, ahigh, abuild, abuildGo, cellsOf, splice, fieldTy, alen, apick, amax, amin, aload, headV, aparts, abuildSlice, elParts, abytesStr, astore, amake, aappend, anew, arith, aresults, aresList, ares, spec0, spec1, spec2, spec3, spec4, eqCells, eqCell, stS, CB, sIs, sZE, sAb, dec_ints, unc_int, m1, m2, m3, strayC, h1, h2, h3, h4] <;> exact weak_slots (by simp [stS, CB])
  refine AW_cond (strayC c) (by simp [stS]) (fun h' => ?_) (fun h' => ?_)
  · refine avc_sound (sigCSt m) (mixCSt m) _ (by kernel_rfl) ?_
    simp [aev, cav, look, acallPure, abin, abinN, abinP, abinI, abinS, aun, aconv, afield, afieldAddr, aindexAddr, aindex, aslice, alow, ahigh, abuild, abuildGo, cellsOf, splice, fieldTy, alen, apick, amax, amin, aload, headV, aparts, abuildSlice, elParts, abytesStr, astore, amake, aappend, anew, arith, aresults, aresList, ares, spec0, spec1, spec2, spec3, spec4, eqCells, eqCell, stS, CB, sIs, sZE, sAb, dec_ints, unc_int, m1, m2, m3, strayB, h, h']
  refine AW_cut (stS c 45 (strayE c)) (avc_sound (sigCSt m) (mixCSt m) _ (by kernel_rfl) ?_) ?_
  · cases h1 : isK [2] c.kind <;> cases h2 : zeroE c.e <;> rcases em2 (c.name = ⟨#[]⟩) with h3 | h3 <;> cases h4 : colsB c <;> rcases em2 (0 < c.items.length) with h5 | h5 <;> rcases em2 (0 < c.order.length) with h6 | h6 <;> simp [aev, cav, look, acallPure, abin, abinN, abinP, abinI, abinS, aun, aconv, afield, afieldAddr, aindexAddr, aindex, aslice, alow, ahigh, abuild, abuildGo, cellsOf, splice, fieldTy, alen, apick, amax, amin, aload, headV, aparts, abuildSlice, elParts, abytesStr, astore, amake, aappend, anew, arith, aresults, aresList, ares, spec0, spec1, spec2, spec3, spec4, eqCells, eqCell, stS, CB, sIs, sZE, sAb, dec_ints, unc_int, m1, m2, m3, strayE, h1, h2, h3, h4, h5, h6] <;> exact weak_slots (by simp [stS, CB, h4])
  refine AW_cond (strayE c) (by simp [stS]) (fun h'' => ?_) (fun h'' => ?_)
  · refine avc_sound (sigCSt m) (mixCSt m) _ (by kernel_rfl) ?_
    simp [aev, cav, look, acallPure, abin, abinN, abinP, abinI, abinS, aun, aconv, afield, afieldAddr, aindexAddr, aindex, aslice, alow, ahigh, abuild, abuildGo, cellsOf, splice, fieldTy, alen, apick, amax, amin, aload, headV, aparts, abuildSlice, elParts, abytesStr, astore, amake, aappend, anew, arith, aresults, aresList, ares, spec0, spec1, spec2, spec3, spec4, eqCells, eqCell, stS, CB, sIs, sZE, sAb, dec_ints, unc_int, m1, m2, m3, strayB, h, h', h'']
  refine AW_cut (stS c 75 (strayG c)) (avc_sound (sigCSt m) (mixCSt m) _ (by kernel_rfl) ?_) ?_
  · cases h1 : colsB c <;> cases h2 : absB c.skip <;> cases h3 : absB c.limit <;> by_cases h4 : c.skip < -1 <;> by_cases h5 : 1000000000000000 < c.skip <;> by_cases h6 : c.limit < -1 <;> by_cases h7 : 1000000000000000 < c.limit <;> simp [aev, cav, look, acallPure, abin, abinN, abinP, abinI, abinS, aun, aconv, afield, afieldAddr, aindexAddr, aindex, aslice, alow, ahigh, abuild, abuildGo, cellsOf, splice, fieldTy, alen, apick, amax, amin, aload, headV, aparts, abuildSlice, elParts, abytesStr, astore, amake, aappend, anew, arith, aresults, aresList, ares, spec0, spec1, spec2, spec3, spec4, eqCells, eqCell, stS, CB, sIs, sZE, sAb, dec_ints, unc_int, m1, m2, m3, strayG, h1, h2, h3, h4, h5, h6, h7] <;> exact weak_slots (by simp [stS, CB, h1])
  refine AW_cond (strayG c) (by simp [stS]) (fun h3 => ?_) (fun h3 => ?_)
  · refine avc_sound (sigCSt m) (mixCSt m) _ (by kernel_rfl) ?_
    simp [aev, cav, look, acallPure, abin, abinN, abinP, abinI, abinS, aun, aconv, afield, afieldAddr, aindexAddr, aindex, aslice, alow, ahigh, abuild, abuildGo, cellsOf, splice, fieldTy, alen, apick, amax, amin, aload, headV, aparts, abuildSlice, elParts, abytesStr, astore, amake, aappend, anew, arith, aresults, aresList, ares, spec0, spec1, spec2, spec3, spec4, eqCells, eqCell, stS, CB, sIs, sZE, sAb, dec_ints, unc_int, m1, m2, m3, strayB, h, h', h'', h3]
  refine avc_sound (sigCSt m) (mixCSt m) _ (by kernel_rfl) ?_
  simp [aev, cav, look, acallPure, abin, abinN, abinP, abinI, abinS, aun, aconv, afield, afieldAddr, aindexAddr, aindex, aslice, alow, ahigh, abuild, abuildGo, cellsOf, splice, fieldTy, alen, apick, amax, amin, aload, headV, aparts, abuildSlice, elParts, abytesStr, astore, amake, aappend, anew, arith, aresults, aresList, ares, spec0, spec1, spec2, spec3, spec4, eqCells, eqCell, stS]
  refine avc_sound (sigCSt m) (mixCSt m) _ (by kernel_rfl) ?_
  rcases em2 (0 < c.sets.length) with h5 | h5 <;> cases h6 : isK [7] c.kind <;> rcases em2 (0 < c.names.length) with h7 | h7 <;> cases h8 : isK [8] c.kind <;> simp [aev, cav, look, acallPure, abin, abinN, abinP, abinI, abinS, aun, aconv, afield, afieldAddr, aindexAddr, aindex, aslice, alow, ahigh, abuild, abuildGo, cellsOf, splice, fieldTy, alen, apick, amax, amin, aload, headV, aparts, abuildSlice, elParts, abytesStr, astore, amake, aappend, anew, arith, aresults, aresList, ares, spec0, spec1, spec2, spec3, spec4, eqCells, eqCell, stS, CB, sIs, sZE, sAb, dec_ints, unc_int, m1, m2, m3, strayB, strayI, h, h', h'', h3, h5, h6, h7, h8]
end
end Go.Proofs.YthcfnaglgoaikaaGreat
