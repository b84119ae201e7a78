/-
  lex: the reference's quoted, one, Tokens; the tokens' comparison.
-/
import Derived.Test.YtogepfcmmmokdaaL1
namespace Go.Proofs.Ytogepfcmmmokdaa
open Go.RowKit
set_option linter.unusedSimpArgs false
set_option linter.unusedVariables false
set_option maxRecDepth 100000

theorem btA_lt (s : ByteArray) (i : Nat) : btA s i < 256 := UInt8.toNat_lt _
theorem bt_btA (s : ByteArray) (j : Nat) : btA s j = bt s j := rfl
theorem byteAt_toNat (s : ByteArray) (j : Nat) : (byteAt s j).toNat = btA s j := rfl
@[simp] theorem rows_snoc_u8 (l : List UInt8) (s : ByteArray) (j : Nat) : encRows l ++ [[.int .u8 (btA s j : Int)]] = encRows (l ++ [byteAt s j]) := by rw [encRows_append]; rfl
@[simp] theorem sz_u8' : Enc.sz UInt8 = 1 := rfl
theorem bytesRows_enc (l : List UInt8) : bytesRows (bs l) = encRows l := by
  simp only [bytesRows, bs, encRows]
  rfl
theorem unB_enc (l : List UInt8) : unB (encRows l) = bs l := by
  refine ByteArray.ext (Array.ext' ?_)
  simp only [unB, bs, encRows, List.map_map]
  induction l with
  | nil => rfl
  | cons x r ih =>
    simp only [List.map_cons, Function.comp_apply, Enc.cells]
    congr 1
    simp

def s42 : List AV → Option (Prop × AV) := spec2 (fun (_ _ : Int) => True) (fun a c => resAV (.err a c))
noncomputable def D0 (m : Int) : Ctx := mkC Try.prog (G m) [(42, .pure s42)]
@[simp] theorem D0_P (m : Int) : (D0 m).P = Try.prog := rfl
@[simp] theorem D0_42 (m : Int) : (D0 m).S 42 = .pure s42 := rfl
theorem sigD0 (m : Int) : SigOK (D0 m) := sigOK_cons (entryPure p42 Try.func42 rfl (by decide)) (sigOK_nil _ _)
theorem mixD0 (m : Int) : (D0 m).P.follows .mixedOrders = true := mixed

section
variable {m : Int}

set_option maxHeartbeats 4000000 in
theorem p35 : PureOK Try.prog (G m) 35 (spec2 (fun (s : ByteArray) (k : Int) => s.size ≤ 2000 ∧ 0 ≤ k ∧ k < s.size) (resP textR)) := by
  refine pure2 (C := D0 m) (sigD0 m) (mixD0 m) Try.func35 rfl rfl rfl (by kernel_rfl) (by decide) (fun s k0 ⟨hs, hk0, hk⟩ => ?_)
  obtain ⟨k, rfl⟩ := Int.eq_ofNat_of_zero_le hk0
  have i1 : I64 ((k : Int) + 1) := by unfold I64; omega
  have e0 : resP textR s (k : Int) = resAV (textGo s k (k + 1) []) := rfl
  rw [e0]
  simp [aev, cav, look, acallPure, abin, abinN, abinP, abinI, abinS, aun, aconv, afield, afieldAddr, aindexAddr, aindex, aslice, alow, ahigh, abuild, abuildGo, cellsOf, splice, fieldTy, alen, apick, amax, amin, aload, headV, aparts, abuildSlice, elParts, abytesStr, astore, amake, aappend, anew, arith, aresults, aresList, ares, spec0, spec1, spec2, spec3, spec4, eqCells, eqCell, i1]
  refine loop_rule (C := D0 m) (sigD0 m) (mixD0 m) (fun p : Nat × List UInt8 => ⟨[(0, .str s), (1, .int .i64 k), (4, .ptr 0 1 8 0 0), (5, .int .i64 p.1), (6, .own 1 p.2.length)], [⟨42, 8, [[.int .i64 0, .int .i64 0, .int .i64 0, .int .i64 0, .str ByteArray.empty, .int .i64 0, .int .i64 0, .int .i64 0]], true, true⟩, ⟨5, 1, encRows p.2, true, true⟩]⟩)
    (fun p => p.1 ≤ s.size ∧ p.2.length ≤ p.1 ∧ textGo s k p.1 p.2 = textGo s k (k + 1) []) (fun p => s.size - p.1) (by kernel_rfl)
    ⟨(k + 1, []), ⟨by omega, by simp, rfl⟩, (weak_nil 6 1 5 (by simp) (by decide)).trans (weak_slots (by simp))⟩ (fun ⟨j, acc⟩ ⟨hj, hl, hr⟩ => ?_)
  simp only at hj hl hr ⊢
  rw [← hr]
  have hb := btA_lt s j
  by_cases hlt : j < s.size
  · have i2 : I64 ((j : Int) + 1) := by unfold I64; omega
    have i3 : I64 ((j : Int) + 1 + 1) := by unfold I64; omega
    have e1 : ((j : Int) + 1).toNat = j + 1 := by omega
    by_cases h1 : btA s j = 39
    · have h1' : (btA s j : Int) = 39 := by omega
      by_cases h2 : j + 1 < s.size ∧ btA s (j + 1) = 39
      · obtain ⟨h2, h3⟩ := h2
        have h2' : ¬ (j : Int) + 1 = s.size := by omega
        have h3' : (btA s (j + 1) : Int) = 39 := by omega
        have hbyte : byteAt s j = 39 := UInt8.toNat_inj.1 h1
        have hstep : textGo s k j acc = textGo s k (j + 2) (acc ++ [39]) := by rw [textGo, if_pos hlt, if_pos ⟨h1, h2, h3⟩]
        have hrow : encRows acc ++ [[AV.int .u8 39]] = encRows (acc ++ [39]) := by rw [encRows_append]; rfl
        simp [aev, cav, look, acallPure, abin, abinN, abinP, abinI, abinS, aun, aconv, afield, afieldAddr, aindexAddr, aindex, aslice, alow, ahigh, abuild, abuildGo, cellsOf, splice, fieldTy, alen, apick, amax, amin, aload, headV, aparts, abuildSlice, elParts, abytesStr, astore, amake, aappend, anew, arith, aresults, aresList, ares, spec0, spec1, spec2, spec3, spec4, eqCells, eqCell, hlt, h1, h1', h2', h3, h3', i2, i3, e1, h2, hrow]
        exact ⟨by omega, by omega, j + 2, _, ⟨by omega, by simp; omega, hstep.symm⟩, by omega, weak_slots (by simp; omega)⟩
      · have h2n : ¬ (bt s j = 39 ∧ j + 1 < s.size ∧ bt s (j + 1) = 39) := fun h => h2 ⟨h.2.1, h.2.2⟩
        by_cases h4 : 100 < acc.length
        · have h4' : (100 : Int) < acc.length := by omega
          have hstep : textGo s k j acc = .err k 4 := by rw [textGo, if_pos hlt, if_neg h2n, if_pos (show bt s j = 39 from h1), if_pos h4]
          rw [hstep]
          by_cases h3 : j + 1 < s.size
          · have h3' : ¬ (j : Int) + 1 = s.size := by omega
            have h5 : ¬ btA s (j + 1) = 39 := fun h => h2 ⟨h3, h⟩
            have h5' : ¬ (btA s (j + 1) : Int) = 39 := by omega
            simp [aev, cav, look, acallPure, abin, abinN, abinP, abinI, abinS, aun, aconv, afield, afieldAddr, aindexAddr, aindex, aslice, alow, ahigh, abuild, abuildGo, cellsOf, splice, fieldTy, alen, apick, amax, amin, aload, headV, aparts, abuildSlice, elParts, abytesStr, astore, amake, aappend, anew, arith, aresults, aresList, ares, spec0, spec1, spec2, spec3, spec4, eqCells, eqCell, hlt, h1, h1', h3', h5, h5', i2, i3, e1, h3, h4, h4', s42, resAV]
            omega
          · have h3' : (j : Int) + 1 = s.size := by omega
            have i5 : I64 (s.size : Int) := by unfold I64; omega
            simp [aev, cav, look, acallPure, abin, abinN, abinP, abinI, abinS, aun, aconv, afield, afieldAddr, aindexAddr, aindex, aslice, alow, ahigh, abuild, abuildGo, cellsOf, splice, fieldTy, alen, apick, amax, amin, aload, headV, aparts, abuildSlice, elParts, abytesStr, astore, amake, aappend, anew, arith, aresults, aresList, ares, spec0, spec1, spec2, spec3, spec4, eqCells, eqCell, hlt, h1, h1', h3', i2, i3, i5, e1, h3, h4, h4', s42, resAV]
        · have h4' : ¬ (100 : Int) < acc.length := by omega
          have hstep : textGo s k j acc = .ok ⟨4, k, (j : Int) + 1 - k, 0, bs acc⟩ (j + 1) := by rw [textGo, if_pos hlt, if_neg h2n, if_pos (show bt s j = 39 from h1), if_neg h4]; rfl
          have i4 : I64 ((j : Int) + 1 - k) := by unfold I64; omega
          rw [hstep]
          by_cases h3 : j + 1 < s.size
          · have h3' : ¬ (j : Int) + 1 = s.size := by omega
            have h5 : ¬ btA s (j + 1) = 39 := fun h => h2 ⟨h3, h⟩
            have h5' : ¬ (btA s (j + 1) : Int) = 39 := by omega
            simp [aev, cav, look, acallPure, abin, abinN, abinP, abinI, abinS, aun, aconv, afield, afieldAddr, aindexAddr, aindex, aslice, alow, ahigh, abuild, abuildGo, cellsOf, splice, fieldTy, alen, apick, amax, amin, aload, headV, aparts, abuildSlice, elParts, abytesStr, astore, amake, aappend, anew, arith, aresults, aresList, ares, spec0, spec1, spec2, spec3, spec4, eqCells, eqCell, hlt, h1, h1', h3', h5, h5', i2, i3, i4, e1, h3, h4, h4', s42, resAV, unB_enc, bytesRows_enc]
            omega
          · have h3' : (j : Int) + 1 = s.size := by omega
            have i5 : I64 (s.size : Int) := by unfold I64; omega
            have i6 : I64 ((s.size : Int) - k) := by unfold I64; omega
            simp [aev, cav, look, acallPure, abin, abinN, abinP, abinI, abinS, aun, aconv, afield, afieldAddr, aindexAddr, aindex, aslice, alow, ahigh, abuild, abuildGo, cellsOf, splice, fieldTy, alen, apick, amax, amin, aload, headV, aparts, abuildSlice, elParts, abytesStr, astore, amake, aappend, anew, arith, aresults, aresList, ares, spec0, spec1, spec2, spec3, spec4, eqCells, eqCell, hlt, h1, h1', h3', i2, i3, i4, i5, i6, e1, h3, h4, h4', s42, resAV, unB_enc, bytesRows_enc]
    · have h1' : ¬ (btA s j : Int) = 39 := by omega
      have h1n : ¬ (bt s j = 39 ∧ j + 1 < s.size ∧ bt s (j + 1) = 39) := fun h => h1 h.1
      by_cases h2 : btA s j < 32
      · have h2' : (btA s j : Int) < 32 := by omega
        have hstep : textGo s k j acc = .err j 2 := by rw [textGo, if_pos hlt, if_neg h1n, if_neg (show ¬ bt s j = 39 from h1), if_pos (show bt s j < 32 ∨ 126 < bt s j from .inl h2)]
        rw [hstep]
        simp [aev, cav, look, acallPure, abin, abinN, abinP, abinI, abinS, aun, aconv, afield, afieldAddr, aindexAddr, aindex, aslice, alow, ahigh, abuild, abuildGo, cellsOf, splice, fieldTy, alen, apick, amax, amin, aload, headV, aparts, abuildSlice, elParts, abytesStr, astore, amake, aappend, anew, arith, aresults, aresList, ares, spec0, spec1, spec2, spec3, spec4, eqCells, eqCell, hlt, h1, h1', h2', s42, resAV]
      · have h2' : ¬ (btA s j : Int) < 32 := by omega
        by_cases h3 : 126 < btA s j
        · have h3' : (126 : Int) < btA s j := by omega
          have hstep : textGo s k j acc = .err j 2 := by rw [textGo, if_pos hlt, if_neg h1n, if_neg (show ¬ bt s j = 39 from h1), if_pos (show bt s j < 32 ∨ 126 < bt s j from .inr h3)]
          rw [hstep]
          simp [aev, cav, look, acallPure, abin, abinN, abinP, abinI, abinS, aun, aconv, afield, afieldAddr, aindexAddr, aindex, aslice, alow, ahigh, abuild, abuildGo, cellsOf, splice, fieldTy, alen, apick, amax, amin, aload, headV, aparts, abuildSlice, elParts, abytesStr, astore, amake, aappend, anew, arith, aresults, aresList, ares, spec0, spec1, spec2, spec3, spec4, eqCells, eqCell, hlt, h1, h1', h2', h3', s42, resAV]
        · have h3' : ¬ (126 : Int) < btA s j := by omega
          have hstep : textGo s k j acc = textGo s k (j + 1) (acc ++ [byteAt s j]) := by
            rw [textGo, if_pos hlt, if_neg h1n, if_neg (show ¬ bt s j = 39 from h1), if_neg]
            rintro (h | h)
            · exact h2 h
            · exact h3 h
          simp [aev, cav, look, acallPure, abin, abinN, abinP, abinI, abinS, aun, aconv, afield, afieldAddr, aindexAddr, aindex, aslice, alow, ahigh, abuild, abuildGo, cellsOf, splice, fieldTy, alen, apick, amax, amin, aload, headV, aparts, abuildSlice, elParts, abytesStr, astore, amake, aappend, anew, arith, aresults, aresList, ares, spec0, spec1, spec2, spec3, spec4, eqCells, eqCell, hlt, h1, h1', h2', h3', i2]
          exact ⟨by omega, j + 1, _, ⟨by omega, by simp; omega, hstep.symm⟩, by omega, weak_slots (by simp)⟩
  · have hje : j = s.size := by omega
    subst hje
    have hstep : textGo s k s.size acc = .err s.size 3 := by rw [textGo, if_neg hlt]
    rw [hstep]
    simp [aev, cav, look, acallPure, abin, abinN, abinP, abinI, abinS, aun, aconv, afield, afieldAddr, aindexAddr, aindex, aslice, alow, ahigh, abuild, abuildGo, cellsOf, splice, fieldTy, alen, apick, amax, amin, aload, headV, aparts, abuildSlice, elParts, abytesStr, astore, amake, aappend, anew, arith, aresults, aresList, ares, spec0, spec1, spec2, spec3, spec4, eqCells, eqCell, hlt, s42, resAV]

theorem p31 : PureOK Try.prog (G m) 31 (fun avs => match avs with | [.int .u8 c] => some (True, .bool (letterB c)) | _ => none) := by
  intro w X args avs ob r hX hG hsz harg hp hob
  simp only at hp
  split at hp
  · rename_i c
    injection hp with hp; injection hp with e1 e2; subst e1 e2
    obtain ⟨v, hv, hr⟩ := harg 0 _ rfl
    cases hr
    obtain rfl : args = #[.int .u8 c] := by
      match args, hsz, hv with
      | ⟨[x]⟩, _, hv => simp at hv; subst hv; rfl
    exact (letter31 c w).mono fun e w' ⟨he, hw⟩ => ⟨_, he, by rw [← hw]; exact Keeps.refl _ _, .bool _⟩
  · cases hp
theorem p33 : PureOK Try.prog (G m) 33 (fun avs => match avs with | [.int .u8 c] => some (True, .bool (digitB c)) | _ => none) := by
  intro w X args avs ob r hX hG hsz harg hp hob
  simp only at hp
  split at hp
  · rename_i c
    injection hp with hp; injection hp with e1 e2; subst e1 e2
    obtain ⟨v, hv, hr⟩ := harg 0 _ rfl
    cases hr
    obtain rfl : args = #[.int .u8 c] := by
      match args, hsz, hv with
      | ⟨[x]⟩, _, hv => simp at hv; subst hv; rfl
    exact (digit33 c w).mono fun e w' ⟨he, hw⟩ => ⟨_, he, by rw [← hw]; exact Keeps.refl _ _, .bool _⟩
  · cases hp
end

def s31 : List AV → Option (Prop × AV) := fun avs => match avs with | [.int .u8 c] => some (True, .bool (letterB c)) | _ => none
def s33 : List AV → Option (Prop × AV) := fun avs => match avs with | [.int .u8 c] => some (True, .bool (digitB c)) | _ => none
def s32 : List AV → Option (Prop × AV) := spec2 (fun (s : ByteArray) (k : Int) => s.size ≤ 2000 ∧ 0 ≤ k ∧ k < s.size) (resP wordR)
def s34 : List AV → Option (Prop × AV) := spec2 (fun (s : ByteArray) (k : Int) => s.size ≤ 2000 ∧ 0 ≤ k ∧ k < s.size) (resP numR)
def s35 : List AV → Option (Prop × AV) := spec2 (fun (s : ByteArray) (k : Int) => s.size ≤ 2000 ∧ 0 ≤ k ∧ k < s.size) (resP textR)
def s36 : List AV → Option (Prop × AV) := spec2 (fun (s : ByteArray) (k : Int) => s.size ≤ 2000 ∧ 0 ≤ k ∧ k < s.size) (resP signR)
noncomputable def D1 (m : Int) : Ctx := mkC Try.prog (G m) [(31, .pure s31), (33, .pure s33), (32, .pure s32), (34, .pure s34), (35, .pure s35), (36, .pure s36), (42, .pure s42)]
@[simp] theorem D1_P (m : Int) : (D1 m).P = Try.prog := rfl
@[simp] theorem D1_31 (m : Int) : (D1 m).S 31 = .pure s31 := rfl
@[simp] theorem D1_33 (m : Int) : (D1 m).S 33 = .pure s33 := rfl
@[simp] theorem D1_32 (m : Int) : (D1 m).S 32 = .pure s32 := rfl
@[simp] theorem D1_34 (m : Int) : (D1 m).S 34 = .pure s34 := rfl
@[simp] theorem D1_35 (m : Int) : (D1 m).S 35 = .pure s35 := rfl
@[simp] theorem D1_36 (m : Int) : (D1 m).S 36 = .pure s36 := rfl
@[simp] theorem D1_42 (m : Int) : (D1 m).S 42 = .pure s42 := rfl
theorem sigD1 (m : Int) : SigOK (D1 m) := sigOK_cons (entryPure p31 Try.func31 rfl (by decide)) (sigOK_cons (entryPure p33 Try.func33 rfl (by decide)) (sigOK_cons (entryPure p32 Try.func32 rfl (by decide)) (sigOK_cons (entryPure p34 Try.func34 rfl (by decide)) (sigOK_cons (entryPure p35 Try.func35 rfl (by decide)) (sigOK_cons (entryPure p36 Try.func36 rfl (by decide)) (sigD0 m))))))
theorem mixD1 (m : Int) : (D1 m).P.follows .mixedOrders = true := mixed

theorem resAV_form (r : Res) : ∃ a b c d s e f g, resAV r = .agg [.int .i64 a, .int .i64 b, .int .i64 c, .int .i64 d, .str s, .int .i64 e, .int .i64 f, .int .i64 g] := by
  cases r with
  | ok t en => exact ⟨_, _, _, _, _, _, _, _, rfl⟩
  | err a c => exact ⟨_, _, _, _, _, _, _, _, rfl⟩

section
variable {m : Int}
set_option maxHeartbeats 4000000 in
theorem p21 : PureOK Try.prog (G m) 21 (spec2 (fun (s : ByteArray) (k : Int) => s.size ≤ 2000 ∧ 0 ≤ k ∧ k < s.size) (resP stepR)) := by
  refine pure2 (C := D1 m) (sigD1 m) (mixD1 m) Try.func21 rfl rfl rfl (by kernel_rfl) (by decide) (fun s k0 ⟨hs, hk0, hk⟩ => ?_)
  obtain ⟨k, rfl⟩ := Int.eq_ofNat_of_zero_le hk0
  have hk' : k < s.size := by omega
  have e0 : ∀ f, resP f s (k : Int) = resAV (f s k) := fun f => rfl
  have hst : stepR s k = if letterB (btA s k) = true then wordR s k else if digitB (btA s k) = true then numR s k else if btA s k = 39 then textR s k else signR s k := rfl
  rw [e0, hst]
  cases h1 : letterB (btA s k)
  · cases h2 : digitB (btA s k)
    · by_cases h3 : btA s k = 39
      · have h3' : (btA s k : Int) = 39 := by omega
        obtain ⟨a, b, c, d, t, e, f, g, hr⟩ := resAV_form (textR s k)
        have l1 : letterB 39 = false := by decide
        have l2 : digitB 39 = false := by decide
        simp [aev, cav, look, acallPure, abin, abinN, abinP, abinI, abinS, aun, aconv, afield, afieldAddr, aindexAddr, aindex, aslice, alow, ahigh, abuild, abuildGo, cellsOf, splice, fieldTy, alen, apick, amax, amin, aload, headV, aparts, abuildSlice, elParts, abytesStr, astore, amake, aappend, anew, arith, aresults, aresList, ares, spec0, spec1, spec2, spec3, spec4, eqCells, eqCell, hk', hs, h1, h2, h3, h3', l1, l2, s31, s33, s35, e0, hr]
      · have h3' : ¬ (btA s k : Int) = 39 := by omega
        obtain ⟨a, b, c, d, t, e, f, g, hr⟩ := resAV_form (signR s k)
        simp [aev, cav, look, acallPure, abin, abinN, abinP, abinI, abinS, aun, aconv, afield, afieldAddr, aindexAddr, aindex, aslice, alow, ahigh, abuild, abuildGo, cellsOf, splice, fieldTy, alen, apick, amax, amin, aload, headV, aparts, abuildSlice, elParts, abytesStr, astore, amake, aappend, anew, arith, aresults, aresList, ares, spec0, spec1, spec2, spec3, spec4, eqCells, eqCell, hk', hs, h1, h2, h3, h3', s31, s33, s36, e0, hr]
    · obtain ⟨a, b, c, d, t, e, f, g, hr⟩ := resAV_form (numR s k)
      simp [aev, cav, look, acallPure, abin, abinN, abinP, abinI, abinS, aun, aconv, afield, afieldAddr, aindexAddr, aindex, aslice, alow, ahigh, abuild, abuildGo, cellsOf, splice, fieldTy, alen, apick, amax, amin, aload, headV, aparts, abuildSlice, elParts, abytesStr, astore, amake, aappend, anew, arith, aresults, aresList, ares, spec0, spec1, spec2, spec3, spec4, eqCells, eqCell, hk', hs, h1, h2, s31, s33, s34, e0, hr]
  · obtain ⟨a, b, c, d, t, e, f, g, hr⟩ := resAV_form (wordR s k)
    simp [aev, cav, look, acallPure, abin, abinN, abinP, abinI, abinS, aun, aconv, afield, afieldAddr, aindexAddr, aindex, aslice, alow, ahigh, abuild, abuildGo, cellsOf, splice, fieldTy, alen, apick, amax, amin, aload, headV, aparts, abuildSlice, elParts, abytesStr, astore, amake, aappend, anew, arith, aresults, aresList, ares, spec0, spec1, spec2, spec3, spec4, eqCells, eqCell, hk', hs, h1, s31, s32, e0, hr]
end
end Go.Proofs.Ytogepfcmmmokdaa
