/-
  layer 18: the reference's validity of values.
-/
import Derived.Test.YthcfnaglgoaikaaGreatS2
namespace Go.Proofs.YthcfnaglgoaikaaGreat
open Go.RowKit
set_option linter.unusedSimpArgs false
set_option linter.unusedVariables false
set_option maxRecDepth 100000

/-! ### Contracts of five arguments -/
def spec5 {α β γ δ ε : Type} [Enc α] [Enc β] [Enc γ] [Enc δ] [Enc ε] (pre : α → β → γ → δ → ε → Prop) (res : α → β → γ → δ → ε → AV) : List AV → Option (Prop × AV)
  | [a, b, c, d, e] => some (nrmV a = Enc.enc (Enc.dec a : α) ∧ nrmV b = Enc.enc (Enc.dec b : β) ∧ nrmV c = Enc.enc (Enc.dec c : γ) ∧ nrmV d = Enc.enc (Enc.dec d : δ) ∧ nrmV e = Enc.enc (Enc.dec e : ε) ∧ pre (Enc.dec a) (Enc.dec b) (Enc.dec c) (Enc.dec d) (Enc.dec e), res (Enc.dec a) (Enc.dec b) (Enc.dec c) (Enc.dec d) (Enc.dec e))
  | _ => none
theorem pure5 {C : Ctx} (hS : SigOK C) (hM : C.P.follows .mixedOrders = true) {f : FuncId} {fn : Func} {body : Code} {rs : List ResultVar} {n : Nat} (hf : C.P.funcs[f]? = some fn) (hb : fn.body = some body) (hrs : fn.results.toList = rs) (hn : fn.ntmps = n) {α β γ δ ε : Type} [Enc α] [Enc β] [Enc γ] [Enc δ] [Enc ε] (hok : codeOK C n body = true) (hnn : 5 ≤ n) {pre : α → β → γ → δ → ε → Prop} {res : α → β → γ → δ → ε → AV}
    (h : ∀ a b c d e, pre a b c d e → avc C n 0 body ⟨[(0, Enc.enc a), (1, Enc.enc b), (2, Enc.enc c), (3, Enc.enc d), (4, Enc.enc e)], []⟩ (postP C rs (res a b c d e))) : PureOK C.P C.G f (spec5 pre res) :=
  pure_of hS hM hf hb hrs hn hok fun avs ob r' hp hob => by
    unfold spec5 at hp
    split at hp
    · injection hp with hp; injection hp with e1 e2; subst e1 e2
      refine ⟨hnn, ?_⟩
      have := h _ _ _ _ _ hob.2.2.2.2.2
      rw [← hob.1, ← hob.2.1, ← hob.2.2.1, ← hob.2.2.2.1, ← hob.2.2.2.2.1] at this
      exact this
    · cases hp

section
variable {m : Int}
theorem wrap64 {n : Int} (h : I64 n) : IntKind.wrap .i64 n = n := by 
  unfold I64 at h
  have e : IntKind.bits .i64 = 64 := rfl
  have s : IntKind.signed .i64 = true := rfl
  simp only [IntKind.wrap, e, s, Bool.true_and, decide_eq_true_eq]
  split <;> omega
def inB (n : Int) : Bool := decide (-1000000000000000 ≤ n) && decide (n ≤ 1000000000000000)
theorem inP : PureOK Tryz.prog (G m) 101 (spec1 (fun (_ : Int) => True) (fun n => .bool (inB n))) := by
  refine pure1 (C := CE m) (sigCE m) (mixCE m) Tryz.func101 rfl rfl rfl (by kernel_rfl) (by decide) (fun n _ => ?_)
  by_cases h1 : -1000000000000000 ≤ n <;> by_cases h2 : n ≤ 1000000000000000 <;> simp [aev, cav, look, acallPure, abin, abinN, abinP, abinI, abinS, aun, aconv, afield, afieldAddr, aindexAddr, aindex, aslice, alow, ahigh, abuild, abuildGo, cellsOf, splice, fieldTy, alen, apick, amax, amin, aload, headV, aparts, abuildSlice, elParts, abytesStr, astore, amake, aappend, anew, arith, aresults, aresList, ares, spec0, spec1, spec2, spec3, spec4, eqCells, eqCell, inB, h1, h2]
theorem inR : PureOK Tryz.prog (G m) 111 (spec1 (fun (_ : Int) => True) (fun n => .bool (inB n))) := by
  refine pure1 (C := CE m) (sigCE m) (mixCE m) Tryz.func111 rfl rfl rfl (by kernel_rfl) (by decide) (fun n _ => ?_)
  by_cases h1 : -1000000000000000 ≤ n <;> by_cases h2 : n ≤ 1000000000000000 <;> simp [aev, cav, look, acallPure, abin, abinN, abinP, abinI, abinS, aun, aconv, afield, afieldAddr, aindexAddr, aindex, aslice, alow, ahigh, abuild, abuildGo, cellsOf, splice, fieldTy, alen, apick, amax, amin, aload, headV, aparts, abuildSlice, elParts, abytesStr, astore, amake, aappend, anew, arith, aresults, aresList, ares, spec0, spec1, spec2, spec3, spec4, eqCells, eqCell, inB, h1, h2]
theorem sizeR : PureOK Tryz.prog (G m) 121 (spec1 (fun (n : Int) => inB n = true) (fun n => .int .i64 n.natAbs)) := by
  refine pure1 (C := CE m) (sigCE m) (mixCE m) Tryz.func121 rfl rfl rfl (by kernel_rfl) (by decide) (fun n hn => ?_)
  simp [inB] at hn
  by_cases h1 : n < 0
  · have h2 : I64 (-n) := by unfold I64; omega
    have h3 : (n.natAbs : Int) = -n := by omega
    rw [h3]
    simp [aev, cav, look, acallPure, abin, abinN, abinP, abinI, abinS, aun, aconv, afield, afieldAddr, aindexAddr, aindex, aslice, alow, ahigh, abuild, abuildGo, cellsOf, splice, fieldTy, alen, apick, amax, amin, aload, headV, aparts, abuildSlice, elParts, abytesStr, astore, amake, aappend, anew, arith, aresults, aresList, ares, spec0, spec1, spec2, spec3, spec4, eqCells, eqCell, h1, h2, wrap64 h2]
  · have h3 : (n.natAbs : Int) = n := by omega
    rw [h3]
    simp [aev, cav, look, acallPure, abin, abinN, abinP, abinI, abinS, aun, aconv, afield, afieldAddr, aindexAddr, aindex, aslice, alow, ahigh, abuild, abuildGo, cellsOf, splice, fieldTy, alen, apick, amax, amin, aload, headV, aparts, abuildSlice, elParts, abytesStr, astore, amake, aappend, anew, arith, aresults, aresList, ares, spec0, spec1, spec2, spec3, spec4, eqCells, eqCell, h1]
set_option maxHeartbeats 2000000 in
theorem gcdR : PureOK Tryz.prog (G m) 120 (spec2 (fun (a b : Int) => 0 ≤ a ∧ 0 ≤ b) (fun a b => .int .i64 (Nat.gcd a.toNat b.toNat))) := by
  refine pure2 (C := CE m) (sigCE m) (mixCE m) Tryz.func120 rfl rfl rfl (by kernel_rfl) (by decide) (fun a b ⟨ha, hb⟩ => ?_)
  obtain ⟨a, rfl⟩ := Int.eq_ofNat_of_zero_le ha
  obtain ⟨b, rfl⟩ := Int.eq_ofNat_of_zero_le hb
  simp [aev, cav, look, acallPure, abin, abinN, abinP, abinI, abinS, aun, aconv, afield, afieldAddr, aindexAddr, aindex, aslice, alow, ahigh, abuild, abuildGo, cellsOf, splice, fieldTy, alen, apick, amax, amin, aload, headV, aparts, abuildSlice, elParts, abytesStr, astore, amake, aappend, anew, arith, aresults, aresList, ares, spec0, spec1, spec2, spec3, spec4, eqCells, eqCell]
  refine loop_rule (C := CE m) (sigCE m) (mixCE m) (fun p : Nat × Nat => ⟨[(0, .int .i64 p.1), (1, .int .i64 p.2)], []⟩) (fun p => Nat.gcd p.1 p.2 = Nat.gcd a b) (fun p => p.2) (by kernel_rfl) ⟨(a, b), rfl, weak_slots (by simp)⟩ (fun ⟨x, y⟩ hg => ?_)
  simp only at hg ⊢
  by_cases h : 0 < y
  · have h0 : ¬ (y : Int) = 0 := by omega
    simp [aev, cav, look, acallPure, abin, abinN, abinP, abinI, abinS, aun, aconv, afield, afieldAddr, aindexAddr, aindex, aslice, alow, ahigh, abuild, abuildGo, cellsOf, splice, fieldTy, alen, apick, amax, amin, aload, headV, aparts, abuildSlice, elParts, abytesStr, astore, amake, aappend, anew, arith, aresults, aresList, ares, spec0, spec1, spec2, spec3, spec4, eqCells, eqCell, h, h0]
    refine ⟨by omega, y, x % y, ?_, Nat.mod_lt _ h, weak_slots (by simp [Int.tmod_eq_emod_of_nonneg (show (0 : Int) ≤ (x : Int) by omega)])⟩
    rw [Nat.gcd_comm, ← hg, Nat.gcd_comm x y, Nat.gcd_rec y x, Nat.gcd_comm]
  · have h0 : y = 0 := by omega
    subst h0
    rw [Nat.gcd_zero_right] at hg
    simp [aev, cav, look, acallPure, abin, abinN, abinP, abinI, abinS, aun, aconv, afield, afieldAddr, aindexAddr, aindex, aslice, alow, ahigh, abuild, abuildGo, cellsOf, splice, fieldTy, alen, apick, amax, amin, aload, headV, aparts, abuildSlice, elParts, abytesStr, astore, amake, aappend, anew, arith, aresults, aresList, ares, spec0, spec1, spec2, spec3, spec4, eqCells, eqCell, hg]
def fracB (n d : Int) : Bool := decide (1 ≤ d) && decide (d ≤ 1000000000000000) && inB n && decide (Nat.gcd n.natAbs d.toNat = 1)
def strB (s : ByteArray) : Bool := decide (∀ j, j < s.size → 32 ≤ btA s j ∧ btA s j ≤ 126) && decide (s.size ≤ 100)
set_option maxHeartbeats 2000000 in
theorem strR : PureOK Tryz.prog (G m) 113 (spec1 (fun (s : ByteArray) => s.size ≤ maxLen) (fun s => .bool (strB s))) := by
  refine pure1 (C := CE m) (sigCE m) (mixCE m) Tryz.func113 rfl rfl rfl (by kernel_rfl) (by decide) (fun s hs => ?_)
  have hs' : s.size ≤ 9223372036854775807 := by unfold maxLen at hs; omega
  simp [aev, cav, look, acallPure, abin, abinN, abinP, abinI, abinS, aun, aconv, afield, afieldAddr, aindexAddr, aindex, aslice, alow, ahigh, abuild, abuildGo, cellsOf, splice, fieldTy, alen, apick, amax, amin, aload, headV, aparts, abuildSlice, elParts, abytesStr, astore, amake, aappend, anew, arith, aresults, aresList, ares, spec0, spec1, spec2, spec3, spec4, eqCells, eqCell]
  refine loop_rule (C := CE m) (sigCE m) (mixCE m) (fun i : Nat => ⟨[(0, .str s), (3, .int .i64 i)], []⟩) (fun i => i ≤ s.size ∧ ∀ j, j < i → 32 ≤ btA s j ∧ btA s j ≤ 126) (fun i => s.size - i) (by kernel_rfl) ⟨0, by simp, weak_slots (by simp)⟩ (fun i ⟨hi, hall⟩ => ?_)
  by_cases hlt : i < s.size
  · have i1 : I64 ((i : Int) + 1) := by unfold I64; omega
    by_cases h1 : (btA s i : Int) < 32
    · have h1' : btA s i < 32 := by omega
      have e : strB s = false := by
        unfold strB
        rw [decide_eq_false (fun h => by have := h i hlt; omega), Bool.false_and]
      simp [aev, cav, look, acallPure, abin, abinN, abinP, abinI, abinS, aun, aconv, afield, afieldAddr, aindexAddr, aindex, aslice, alow, ahigh, abuild, abuildGo, cellsOf, splice, fieldTy, alen, apick, amax, amin, aload, headV, aparts, abuildSlice, elParts, abytesStr, astore, amake, aappend, anew, arith, aresults, aresList, ares, spec0, spec1, spec2, spec3, spec4, eqCells, eqCell, hlt, h1, h1', e]
    · have h1' : ¬ btA s i < 32 := by omega
      by_cases h2 : 126 < (btA s i : Int)
      · have h2' : 126 < btA s i := by omega
        have e : strB s = false := by
          unfold strB
          rw [decide_eq_false (fun h => by have := h i hlt; omega), Bool.false_and]
        simp [aev, cav, look, acallPure, abin, abinN, abinP, abinI, abinS, aun, aconv, afield, afieldAddr, aindexAddr, aindex, aslice, alow, ahigh, abuild, abuildGo, cellsOf, splice, fieldTy, alen, apick, amax, amin, aload, headV, aparts, abuildSlice, elParts, abytesStr, astore, amake, aappend, anew, arith, aresults, aresList, ares, spec0, spec1, spec2, spec3, spec4, eqCells, eqCell, hlt, h1, h1', h2, h2', e]
      · have h2' : ¬ 126 < btA s i := by omega
        simp [aev, cav, look, acallPure, abin, abinN, abinP, abinI, abinS, aun, aconv, afield, afieldAddr, aindexAddr, aindex, aslice, alow, ahigh, abuild, abuildGo, cellsOf, splice, fieldTy, alen, apick, amax, amin, aload, headV, aparts, abuildSlice, elParts, abytesStr, astore, amake, aappend, anew, arith, aresults, aresList, ares, spec0, spec1, spec2, spec3, spec4, eqCells, eqCell, hlt, h1, h1', h2, h2', i1]
        refine ⟨i + 1, ⟨by omega, fun j hj => ?_⟩, by omega, weak_slots (by simp)⟩
        rcases Nat.lt_or_ge j i with h | h
        · exact hall j h
        · rw [show j = i by omega]; omega
  · have e : strB s = decide (s.size ≤ 100) := by
      unfold strB
      rw [decide_eq_true (fun j hj => hall j (by omega)), Bool.true_and]
    by_cases h3 : s.size ≤ 100
    · have h3' : (s.size : Int) ≤ 100 := by omega
      simp [aev, cav, look, acallPure, abin, abinN, abinP, abinI, abinS, aun, aconv, afield, afieldAddr, aindexAddr, aindex, aslice, alow, ahigh, abuild, abuildGo, cellsOf, splice, fieldTy, alen, apick, amax, amin, aload, headV, aparts, abuildSlice, elParts, abytesStr, astore, amake, aappend, anew, arith, aresults, aresList, ares, spec0, spec1, spec2, spec3, spec4, eqCells, eqCell, hlt, e, h3, h3']
    · have h3' : ¬ (s.size : Int) ≤ 100 := by omega
      simp [aev, cav, look, acallPure, abin, abinN, abinP, abinI, abinS, aun, aconv, afield, afieldAddr, aindexAddr, aindex, aslice, alow, ahigh, abuild, abuildGo, cellsOf, splice, fieldTy, alen, apick, amax, amin, aload, headV, aparts, abuildSlice, elParts, abytesStr, astore, amake, aappend, anew, arith, aresults, aresList, ares, spec0, spec1, spec2, spec3, spec4, eqCells, eqCell, hlt, e, h3, h3']

def zeroV (v : Val) : Bool := decide (v.kind = 0) && decide (v.n = 0) && decide (v.d = 0) && decide (v.s = ⟨#[]⟩) && v.l.isEmpty
theorem empty_or (l : List Val) : (l = [] ∧ l.isEmpty = true) ∨ (¬ l = [] ∧ l.isEmpty = false) := by cases l <;> simp
set_option maxHeartbeats 2000000 in
theorem blankP : PureOK Tryz.prog (G m) 84 (spec1 (fun (_ : Val) => True) (fun v => .bool (zeroV v))) := by
  refine pure1 (C := CE m) (sigCE m) (mixCE m) Tryz.func84 rfl rfl rfl (by kernel_rfl) (by decide) (fun v _ => ?_)
  by_cases h1 : v.kind = 0
  rotate_left
  · simp [aev, cav, look, acallPure, abin, abinN, abinP, abinI, abinS, aun, aconv, afield, afieldAddr, aindexAddr, aindex, aslice, alow, ahigh, abuild, abuildGo, cellsOf, splice, fieldTy, alen, apick, amax, amin, aload, headV, aparts, abuildSlice, elParts, abytesStr, astore, amake, aappend, anew, arith, aresults, aresList, ares, spec0, spec1, spec2, spec3, spec4, eqCells, eqCell, zeroV, h1]
  by_cases h2 : v.n = 0
  rotate_left
  · simp [aev, cav, look, acallPure, abin, abinN, abinP, abinI, abinS, aun, aconv, afield, afieldAddr, aindexAddr, aindex, aslice, alow, ahigh, abuild, abuildGo, cellsOf, splice, fieldTy, alen, apick, amax, amin, aload, headV, aparts, abuildSlice, elParts, abytesStr, astore, amake, aappend, anew, arith, aresults, aresList, ares, spec0, spec1, spec2, spec3, spec4, eqCells, eqCell, zeroV, h1, h2]
  by_cases h3 : v.d = 0
  rotate_left
  · simp [aev, cav, look, acallPure, abin, abinN, abinP, abinI, abinS, aun, aconv, afield, afieldAddr, aindexAddr, aindex, aslice, alow, ahigh, abuild, abuildGo, cellsOf, splice, fieldTy, alen, apick, amax, amin, aload, headV, aparts, abuildSlice, elParts, abytesStr, astore, amake, aappend, anew, arith, aresults, aresList, ares, spec0, spec1, spec2, spec3, spec4, eqCells, eqCell, zeroV, h1, h2, h3]
  by_cases h4 : v.s = ⟨#[]⟩
  rotate_left
  · simp [aev, cav, look, acallPure, abin, abinN, abinP, abinI, abinS, aun, aconv, afield, afieldAddr, aindexAddr, aindex, aslice, alow, ahigh, abuild, abuildGo, cellsOf, splice, fieldTy, alen, apick, amax, amin, aload, headV, aparts, abuildSlice, elParts, abytesStr, astore, amake, aappend, anew, arith, aresults, aresList, ares, spec0, spec1, spec2, spec3, spec4, eqCells, eqCell, zeroV, h1, h2, h3, h4]
  rcases empty_or v.l with ⟨h5, h6⟩ | ⟨h5, h6⟩ <;> simp [aev, cav, look, acallPure, abin, abinN, abinP, abinI, abinS, aun, aconv, afield, afieldAddr, aindexAddr, aindex, aslice, alow, ahigh, abuild, abuildGo, cellsOf, splice, fieldTy, alen, apick, amax, amin, aload, headV, aparts, abuildSlice, elParts, abytesStr, astore, amake, aappend, anew, arith, aresults, aresList, ares, spec0, spec1, spec2, spec3, spec4, eqCells, eqCell, zeroV, h1, h2, h3, h4, h5, h6]
set_option maxHeartbeats 2000000 in
theorem zeroR : PureOK Tryz.prog (G m) 85 (spec1 (fun (_ : Val) => True) (fun v => .bool (zeroV v))) := by
  refine pure1 (C := CE m) (sigCE m) (mixCE m) Tryz.func85 rfl rfl rfl (by kernel_rfl) (by decide) (fun v _ => ?_)
  by_cases h1 : v.kind = 0
  rotate_left
  · simp [aev, cav, look, acallPure, abin, abinN, abinP, abinI, abinS, aun, aconv, afield, afieldAddr, aindexAddr, aindex, aslice, alow, ahigh, abuild, abuildGo, cellsOf, splice, fieldTy, alen, apick, amax, amin, aload, headV, aparts, abuildSlice, elParts, abytesStr, astore, amake, aappend, anew, arith, aresults, aresList, ares, spec0, spec1, spec2, spec3, spec4, eqCells, eqCell, zeroV, h1]
  by_cases h2 : v.n = 0
  rotate_left
  · simp [aev, cav, look, acallPure, abin, abinN, abinP, abinI, abinS, aun, aconv, afield, afieldAddr, aindexAddr, aindex, aslice, alow, ahigh, abuild, abuildGo, cellsOf, splice, fieldTy, alen, apick, amax, amin, aload, headV, aparts, abuildSlice, elParts, abytesStr, astore, amake, aappend, anew, arith, aresults, aresList, ares, spec0, spec1, spec2, spec3, spec4, eqCells, eqCell, zeroV, h1, h2]
  by_cases h3 : v.d = 0
  rotate_left
  · simp [aev, cav, look, acallPure, abin, abinN, abinP, abinI, abinS, aun, aconv, afield, afieldAddr, aindexAddr, aindex, aslice, alow, ahigh, abuild, abuildGo, cellsOf, splice, fieldTy, alen, apick, amax, amin, aload, headV, aparts, abuildSlice, elParts, abytesStr, astore, amake, aappend, anew, arith, aresults, aresList, ares, spec0, spec1, spec2, spec3, spec4, eqCells, eqCell, zeroV, h1, h2, h3]
  by_cases h4 : v.s = ⟨#[]⟩
  rotate_left
  · simp [aev, cav, look, acallPure, abin, abinN, abinP, abinI, abinS, aun, aconv, afield, afieldAddr, aindexAddr, aindex, aslice, alow, ahigh, abuild, abuildGo, cellsOf, splice, fieldTy, alen, apick, amax, amin, aload, headV, aparts, abuildSlice, elParts, abytesStr, astore, amake, aappend, anew, arith, aresults, aresList, ares, spec0, spec1, spec2, spec3, spec4, eqCells, eqCell, zeroV, h1, h2, h3, h4]
  rcases empty_or v.l with ⟨h5, h6⟩ | ⟨h5, h6⟩ <;> simp [aev, cav, look, acallPure, abin, abinN, abinP, abinI, abinS, aun, aconv, afield, afieldAddr, aindexAddr, aindex, aslice, alow, ahigh, abuild, abuildGo, cellsOf, splice, fieldTy, alen, apick, amax, amin, aload, headV, aparts, abuildSlice, elParts, abytesStr, astore, amake, aappend, anew, arith, aresults, aresList, ares, spec0, spec1, spec2, spec3, spec4, eqCells, eqCell, zeroV, h1, h2, h3, h4, h5, h6]
theorem or3 (b : Bool) (p : Prop) : (b = false ∧ ¬ p) ∨ (b = true ∧ b = true) ∨ (b = false ∧ p) := by
  by_cases h : p <;> cases b <;> simp [h]
def bareB (v : Val) (n d s l : Bool) : Bool := (n || decide (v.n = 0)) && (d || decide (v.d = 0)) && (s || decide (v.s = ⟨#[]⟩)) && (l || v.l.isEmpty)
set_option maxHeartbeats 4000000 in
theorem bareR : PureOK Tryz.prog (G m) 110 (spec5 (fun (_ : Val) (_ _ _ _ : Bool) => True) (fun v n d s l => .bool (bareB v n d s l))) := by
  refine pure5 (C := CE m) (sigCE m) (mixCE m) Tryz.func110 rfl rfl rfl (by kernel_rfl) (by decide) (fun v n d s l _ => ?_)
  rcases or3 n (v.n = 0) with ⟨h, h1⟩ | ⟨h, h1⟩ | ⟨h, h1⟩
  · simp [aev, cav, look, acallPure, abin, abinN, abinP, abinI, abinS, aun, aconv, afield, afieldAddr, aindexAddr, aindex, aslice, alow, ahigh, abuild, abuildGo, cellsOf, splice, fieldTy, alen, apick, amax, amin, aload, headV, aparts, abuildSlice, elParts, abytesStr, astore, amake, aappend, anew, arith, aresults, aresList, ares, spec0, spec1, spec2, spec3, spec4, eqCells, eqCell, bareB, h, h1]
  all_goals
    rcases or3 d (v.d = 0) with ⟨h2, h3⟩ | ⟨h2, h3⟩ | ⟨h2, h3⟩
    · simp [aev, cav, look, acallPure, abin, abinN, abinP, abinI, abinS, aun, aconv, afield, afieldAddr, aindexAddr, aindex, aslice, alow, ahigh, abuild, abuildGo, cellsOf, splice, fieldTy, alen, apick, amax, amin, aload, headV, aparts, abuildSlice, elParts, abytesStr, astore, amake, aappend, anew, arith, aresults, aresList, ares, spec0, spec1, spec2, spec3, spec4, eqCells, eqCell, bareB, h, h1, h2, h3]
    all_goals
      rcases or3 s (v.s = ⟨#[]⟩) with ⟨h4, h5⟩ | ⟨h4, h5⟩ | ⟨h4, h5⟩
      · simp [aev, cav, look, acallPure, abin, abinN, abinP, abinI, abinS, aun, aconv, afield, afieldAddr, aindexAddr, aindex, aslice, alow, ahigh, abuild, abuildGo, cellsOf, splice, fieldTy, alen, apick, amax, amin, aload, headV, aparts, abuildSlice, elParts, abytesStr, astore, amake, aappend, anew, arith, aresults, aresList, ares, spec0, spec1, spec2, spec3, spec4, eqCells, eqCell, bareB, h, h1, h2, h3, h4, h5]
      all_goals
        rcases empty_or v.l with ⟨h6, h7⟩ | ⟨h6, h7⟩ <;> cases l <;> simp [aev, cav, look, acallPure, abin, abinN, abinP, abinI, abinS, aun, aconv, afield, afieldAddr, aindexAddr, aindex, aslice, alow, ahigh, abuild, abuildGo, cellsOf, splice, fieldTy, alen, apick, amax, amin, aload, headV, aparts, abuildSlice, elParts, abytesStr, astore, amake, aappend, anew, arith, aresults, aresList, ares, spec0, spec1, spec2, spec3, spec4, eqCells, eqCell, bareB, h, h1, h2, h3, h4, h5, h6, h7]
end
end Go.Proofs.YthcfnaglgoaikaaGreat
