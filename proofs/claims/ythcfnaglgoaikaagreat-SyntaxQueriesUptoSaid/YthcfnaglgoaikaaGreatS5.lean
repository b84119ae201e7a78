/-
  layer 18: the program's validity of the values that a constant may hold.
-/
import Derived.Test.YthcfnaglgoaikaaGreatS4
import Derived.Test.YthcfnaglgoaikaaGreatShelf
import Derived.Laws.RangeAny
namespace Go.Proofs.YthcfnaglgoaikaaGreat
open Go.RowKit
set_option linter.unusedSimpArgs false
set_option linter.unusedVariables false
set_option maxRecDepth 100000

def badR (r : Nat) : Bool := decide (r < 32) || decide (126 < r)
theorem get_btA (s : ByteArray) (j : Nat) (h : j < s.size) : (s[j]'h).toNat = btA s j := by
  unfold btA
  rw [List.getD_eq_getElem?_getD, List.getElem?_eq_getElem (by simpa using h)]
  rfl
theorem dec_low {s : ByteArray} {j : Nat} (h : j < s.size) (ha : btA s j < 128) : Utf8.decode s j = (btA s j, 1) := by
  rw [decode_ascii s j h (by rw [get_btA]; exact ha), get_btA]
theorem idx_good (s : ByteArray) : ∀ (f pos : Nat), (∀ j, pos ≤ j → j < s.size → 32 ≤ btA s j ∧ btA s j ≤ 126) → Lib.idxFuncFrom badR true s f pos = -1
  | 0, _, _ => rfl
  | f + 1, pos, h => by
    unfold Lib.idxFuncFrom
    by_cases hp : pos < s.size
    · have := h pos (Nat.le_refl _) hp
      rw [if_pos hp, dec_low hp (by omega), if_neg (by simp [badR]; omega)]
      exact idx_good s f (pos + 1) fun j hj hs => h j (by omega) hs
    · rw [if_neg hp]
theorem idx_bad (s : ByteArray) : ∀ (f pos j : Nat), s.size - pos ≤ f → pos ≤ j → j < s.size → ¬ (32 ≤ btA s j ∧ btA s j ≤ 126) → 0 ≤ Lib.idxFuncFrom badR true s f pos
  | 0, pos, j, hf, h1, h2, _ => by omega
  | f + 1, pos, j, hf, h1, h2, h3 => by
    unfold Lib.idxFuncFrom
    have hp : pos < s.size := by omega
    rw [if_pos hp]
    by_cases hg : 32 ≤ btA s pos ∧ btA s pos ≤ 126
    · rw [dec_low hp (by omega), if_neg (by simp [badR]; omega)]
      exact idx_bad s f (pos + 1) j (by omega) (by rcases Nat.lt_or_ge pos j with h | h; exact h; rw [show pos = j by omega] at hg; exact absurd hg h3) h2 h3
    · rw [if_pos ?_]
      · omega
      · by_cases hl : btA s pos < 128
        · rw [dec_low hp hl]
          simp [badR]
          omega
        · have := (decode_high s pos hp (by rw [get_btA]; omega)).1
          simp [badR]
          omega
theorem idx_iff (s : ByteArray) : decide (Lib.idxFunc badR true s < 0) = decide (∀ j, j < s.size → 32 ≤ btA s j ∧ btA s j ≤ 126) := by
  by_cases h : ∀ j, j < s.size → 32 ≤ btA s j ∧ btA s j ≤ 126
  · rw [decide_eq_true h, Lib.idxFunc, idx_good s _ _ fun j _ hj => h j hj]
    rfl
  · rw [decide_eq_false h]
    obtain ⟨j, hj⟩ := Classical.not_forall.1 h
    obtain ⟨hj, hb⟩ := Classical.not_imp.1 hj
    have := idx_bad s s.size 0 j (by omega) (by omega) hj hb
    exact decide_eq_false (by unfold Lib.idxFunc; omega)

set_option maxHeartbeats 1000000 in
theorem bad85 (c : Int) (w : World) : Calls Tryz.prog 104 #[.int .i32 c] w fun e w' => e = .returned (.bool (decide (c < 32) || decide (126 < c))) ∧ w = w' := by
  by_cases h1 : c < 32 <;> by_cases h2 : 126 < c
  all_goals
    go_enter Tryz.func104, Tryz.ntmps104
    go_wp2
    go_ret
    exact ⟨ret_bool (by simp [h1, h2]), rfl⟩

section
variable {m : Int}
theorem idxP : PureOK Tryz.prog (G m) 103 (spec2 (fun (s : ByteArray) (_ : FnV 104) => True) (fun s _ => .int .i64 (Lib.idxFunc badR true s))) := pure2_calls fun w X v v1 s f hX hG _ h h1 => by
  obtain rfl := repS h
  obtain rfl : v1 = .func (.func 104) #[] #[] := by
    cases h1 with
    | fn f cs cells val hl hm hv =>
      have : cs = #[] := by simpa using hl
      rw [this]
  refine (Tryz.strings_IndexFunc 104 #[] (enters_of Tryz.func104 (by kernel_rfl) rfl) badR s w (fun W x _ => ?_)).mono fun e w' ⟨he, hb⟩ => ⟨_, he, keeps_of_below hb (Nat.le_refl _), .int _ _⟩
  refine (bad85 (x : Int) W).mono ?_
  rintro e w' ⟨he, rfl⟩
  have e2 : badR x = (decide ((x : Int) < 32) || decide (126 < (x : Int))) := by unfold badR; congr 1 <;> exact decide_eq_decide.2 (by omega)
  exact ⟨by rw [he, e2], 0, rfl⟩

def sIdx : List AV → Option (Prop × AV) := spec2 (fun (s : ByteArray) (_ : FnV 104) => True) (fun s _ => .int .i64 (Lib.idxFunc badR true s))
noncomputable def CP (m : Int) : Ctx := mkC Tryz.prog (G m) [(103, .pure sIdx), (101, .pure sIn)]
@[simp] theorem CP_P (m : Int) : (CP m).P = Tryz.prog := rfl
@[simp] theorem CP_1 (m : Int) : (CP m).S 103 = .pure sIdx := rfl
@[simp] theorem CP_2 (m : Int) : (CP m).S 101 = .pure sIn := rfl
theorem sigCP (m : Int) : SigOK (CP m) := sigOK_cons (entryPure idxP Tryz.func103 rfl (by decide)) (sigOK_cons (entryPure inP Tryz.func101 rfl (by decide)) (sigOK_nil _ _))
theorem mixCP (m : Int) : (CP m).P.follows .mixedOrders = true := mixed

set_option maxHeartbeats 8000000 in
theorem validP : PureOK Tryz.prog (G m) 98 (spec2 (fun (v : Val) (k : Int) => WfV v ∧ (v.kind = 1 ∨ v.kind = 2 ∨ v.kind = 4)) (fun v _ => .bool (okR v 8))) := by
  refine pure2 (C := CP m) (sigCP m) (mixCP m) Tryz.func98 rfl rfl rfl (by kernel_rfl) (by decide) (fun v k ⟨hw, hk⟩ => ?_)
  rw [okR_eq]
  by_cases hd : v.d = 0
  rotate_left
  · have hb : ∀ a b, bareB v a false b false = false := fun a b => by simp [bareB, hd]
    rcases hk with c | c | c <;> simp [aev, cav, look, acallPure, abin, abinN, abinP, abinI, abinS, aun, aconv, afield, afieldAddr, aindexAddr, aindex, aslice, alow, ahigh, abuild, abuildGo, cellsOf, splice, fieldTy, alen, apick, amax, amin, aload, headV, aparts, abuildSlice, elParts, abytesStr, astore, amake, aappend, anew, arith, aresults, aresList, ares, spec0, spec1, spec2, spec3, spec4, eqCells, eqCell, c, hd, hb]
  rcases empty_or v.l with ⟨hl, hl'⟩ | ⟨hl, hl'⟩
  rotate_left
  · have hb : ∀ a b, bareB v a false b false = false := fun a b => by simp [bareB, hl, hl']
    have hlen : (0 : Int) < v.l.length := by
      have := List.length_pos_iff.2 hl
      omega
    have hlen' : 0 < v.l.length := by omega
    by_cases hs : v.s = ⟨#[]⟩ <;> rcases hk with c | c | c <;> simp [aev, cav, look, acallPure, abin, abinN, abinP, abinI, abinS, aun, aconv, afield, afieldAddr, aindexAddr, aindex, aslice, alow, ahigh, abuild, abuildGo, cellsOf, splice, fieldTy, alen, apick, amax, amin, aload, headV, aparts, abuildSlice, elParts, abytesStr, astore, amake, aappend, anew, arith, aresults, aresList, ares, spec0, spec1, spec2, spec3, spec4, eqCells, eqCell, c, hd, hs, hb, hl, hlen, hlen']
  rcases hk with c | c | c
  · by_cases hs : v.s = ⟨#[]⟩
    · by_cases h0 : v.n = 0 <;> by_cases h1 : v.n = 1 <;> simp [aev, cav, look, acallPure, abin, abinN, abinP, abinI, abinS, aun, aconv, afield, afieldAddr, aindexAddr, aindex, aslice, alow, ahigh, abuild, abuildGo, cellsOf, splice, fieldTy, alen, apick, amax, amin, aload, headV, aparts, abuildSlice, elParts, abytesStr, astore, amake, aappend, anew, arith, aresults, aresList, ares, spec0, spec1, spec2, spec3, spec4, eqCells, eqCell, c, hd, hs, hl, bareB, h0, h1]
    · simp [aev, cav, look, acallPure, abin, abinN, abinP, abinI, abinS, aun, aconv, afield, afieldAddr, aindexAddr, aindex, aslice, alow, ahigh, abuild, abuildGo, cellsOf, splice, fieldTy, alen, apick, amax, amin, aload, headV, aparts, abuildSlice, elParts, abytesStr, astore, amake, aappend, anew, arith, aresults, aresList, ares, spec0, spec1, spec2, spec3, spec4, eqCells, eqCell, c, hd, hs, hl, bareB]
  · by_cases hs : v.s = ⟨#[]⟩
    · simp [aev, cav, look, acallPure, abin, abinN, abinP, abinI, abinS, aun, aconv, afield, afieldAddr, aindexAddr, aindex, aslice, alow, ahigh, abuild, abuildGo, cellsOf, splice, fieldTy, alen, apick, amax, amin, aload, headV, aparts, abuildSlice, elParts, abytesStr, astore, amake, aappend, anew, arith, aresults, aresList, ares, spec0, spec1, spec2, spec3, spec4, eqCells, eqCell, c, hd, hs, hl, bareB, sIn]
    · simp [aev, cav, look, acallPure, abin, abinN, abinP, abinI, abinS, aun, aconv, afield, afieldAddr, aindexAddr, aindex, aslice, alow, ahigh, abuild, abuildGo, cellsOf, splice, fieldTy, alen, apick, amax, amin, aload, headV, aparts, abuildSlice, elParts, abytesStr, astore, amake, aappend, anew, arith, aresults, aresList, ares, spec0, spec1, spec2, spec3, spec4, eqCells, eqCell, c, hd, hs, hl, bareB]
  · have hi := idx_iff v.s
    by_cases h0 : v.n = 0
    · by_cases h1 : v.s.size ≤ 100
      · have h1' : (v.s.size : Int) ≤ 100 := by omega
        simp [aev, cav, look, acallPure, abin, abinN, abinP, abinI, abinS, aun, aconv, afield, afieldAddr, aindexAddr, aindex, aslice, alow, ahigh, abuild, abuildGo, cellsOf, splice, fieldTy, alen, apick, amax, amin, aload, headV, aparts, abuildSlice, elParts, abytesStr, astore, amake, aappend, anew, arith, aresults, aresList, ares, spec0, spec1, spec2, spec3, spec4, eqCells, eqCell, c, hd, hl, bareB, h0, h1, h1', sIdx, strB, hi]
      · have h1' : ¬ (v.s.size : Int) ≤ 100 := by omega
        simp [aev, cav, look, acallPure, abin, abinN, abinP, abinI, abinS, aun, aconv, afield, afieldAddr, aindexAddr, aindex, aslice, alow, ahigh, abuild, abuildGo, cellsOf, splice, fieldTy, alen, apick, amax, amin, aload, headV, aparts, abuildSlice, elParts, abytesStr, astore, amake, aappend, anew, arith, aresults, aresList, ares, spec0, spec1, spec2, spec3, spec4, eqCells, eqCell, c, hd, hl, bareB, h0, h1, h1', strB]
    · simp [aev, cav, look, acallPure, abin, abinN, abinP, abinI, abinS, aun, aconv, afield, afieldAddr, aindexAddr, aindex, aslice, alow, ahigh, abuild, abuildGo, cellsOf, splice, fieldTy, alen, apick, amax, amin, aload, headV, aparts, abuildSlice, elParts, abytesStr, astore, amake, aappend, anew, arith, aresults, aresList, ares, spec0, spec1, spec2, spec3, spec4, eqCells, eqCell, c, hd, hl, bareB, h0]

def sVP : List AV → Option (Prop × AV) := spec2 (fun (v : Val) (k : Int) => WfV v ∧ (v.kind = 1 ∨ v.kind = 2 ∨ v.kind = 4)) (fun v _ => .bool (okR v 8))
def sVR : List AV → Option (Prop × AV) := spec2 (fun (v : Val) (k : Int) => WfV v ∧ 0 ≤ k ∧ k ≤ 8) (fun v k => .bool (okR v k))
theorem validRA : PureOK Tryz.prog (G m) 100 sVR := pure2_all (fun v _ => SizeOf.sizeOf v) fun n => validR n
noncomputable def CQ (m : Int) : Ctx := mkC Tryz.prog (G m) [(98, .pure sVP), (100, .pure sVR)]
@[simp] theorem CQ_P (m : Int) : (CQ m).P = Tryz.prog := rfl
@[simp] theorem CQ_1 (m : Int) : (CQ m).S 98 = .pure sVP := rfl
@[simp] theorem CQ_2 (m : Int) : (CQ m).S 100 = .pure sVR := rfl
theorem sigCQ (m : Int) : SigOK (CQ m) := sigOK_cons (entryPure validP Tryz.func98 rfl (by decide)) (sigOK_cons (entryPure validRA Tryz.func100 rfl (by decide)) (sigOK_nil _ _))
theorem mixCQ (m : Int) : (CQ m).P.follows .mixedOrders = true := mixed
theorem vP : PureOK Tryz.prog (G m) 88 (spec1 (fun (v : Val) => WfV v ∧ (v.kind = 1 ∨ v.kind = 2 ∨ v.kind = 4)) (fun v => .bool (okR v 8))) := by
  refine pure1 (C := CQ m) (sigCQ m) (mixCQ m) Tryz.func88 rfl rfl rfl (by kernel_rfl) (by decide) (fun v ⟨hw, hk⟩ => ?_)
  simp [aev, cav, look, acallPure, abin, abinN, abinP, abinI, abinS, aun, aconv, afield, afieldAddr, aindexAddr, aindex, aslice, alow, ahigh, abuild, abuildGo, cellsOf, splice, fieldTy, alen, apick, amax, amin, aload, headV, aparts, abuildSlice, elParts, abytesStr, astore, amake, aappend, anew, arith, aresults, aresList, ares, spec0, spec1, spec2, spec3, spec4, eqCells, eqCell, sVP, hw, hk]
theorem vR : PureOK Tryz.prog (G m) 92 (spec1 (fun (v : Val) => WfV v) (fun v => .bool (okR v 8))) := by
  refine pure1 (C := CQ m) (sigCQ m) (mixCQ m) Tryz.func92 rfl rfl rfl (by kernel_rfl) (by decide) (fun v hw => ?_)
  simp [aev, cav, look, acallPure, abin, abinN, abinP, abinI, abinS, aun, aconv, afield, afieldAddr, aindexAddr, aindex, aslice, alow, ahigh, abuild, abuildGo, cellsOf, splice, fieldTy, alen, apick, amax, amin, aload, headV, aparts, abuildSlice, elParts, abytesStr, astore, amake, aappend, anew, arith, aresults, aresList, ares, spec0, spec1, spec2, spec3, spec4, eqCells, eqCell, sVR, hw]
end
end Go.Proofs.YthcfnaglgoaikaaGreat
