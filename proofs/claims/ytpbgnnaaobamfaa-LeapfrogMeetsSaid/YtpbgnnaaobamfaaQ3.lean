/-
  Texts joined: J9 D2 J10 J11 J12 J13 V1 V2 V3.
-/
import Derived.Test.YtpbgnnaaobamfaaQ2
import Derived.Test.YtpbgnnaaobamfaaQ1
/-
  layer 33: Join of the program.
-/
namespace Go.Proofs.Ytpbgnnaaobamfaa
open Go.RowKit
set_option linter.unusedSimpArgs false
set_option linter.unusedVariables false
set_option maxRecDepth 100000

theorem ren_cntV (l n c : Nat) : ren1 (up 1) (cntV l n c) = cntV (l + 1) n c := by unfold cntV; split <;> rfl
theorem renB_bI (s : Nat → Nat) (l : List Int) : renB s (bI l) = bI l := by unfold renB bI; simp
theorem renB_bR (s : Nat → Nat) (l : List (List Int)) : renB s (bR l) = bR l := by unfold renB bR; simp
theorem relsX_up : ∀ (p : Nat) (l : List RelS), (relsX p l).map (renB (up 1)) = relsX (p + 1) l
  | _, [] => rfl
  | p, r :: q => by
    simp only [relsX, List.map_cons, relsX_up (p + 2) q, renB_bI]
    have e : renB (up 1) (relB r (p + 1)) = relB r (p + 1 + 1) := by
      unfold renB relB
      simp only [List.map_cons, List.map_nil, ren_cntV]
      rfl
    rw [e, show p + 1 + 2 = p + 2 + 1 by omega]
theorem joinX_up (o : Nat) (j : JSt) : (joinX o j).map (renB (up 1)) = joinX (o + 1) j := by
  unfold joinX coreX
  rw [List.map_append, relsX_up]
  have e1 : renB (up 1) (joinB o j) = joinB (o + 1) j := by
    unfold renB joinB
    simp only [List.map_cons, List.map_nil, ren_cntV]
    have a (l : Nat) (n : Nat) : ren1 (up 1) (.own l n) = .own (l + 1) n := rfl
    simp only [a, Nat.add_right_comm o _ 1]
    rfl
  have e2 : renB (up 1) (relsB (o + 7) j.rels.length) = relsB (o + 1 + 7) j.rels.length := by
    unfold renB relsB ptrsF
    simp only [List.map_map]
    congr 1
    refine List.map_congr_left fun i _ => ?_
    show [AV.ptr (o + 7 + 2 * i + 1) 1 3 0 0] = [.ptr (o + 1 + 7 + 2 * i) 1 3 0 0]
    rw [show o + 7 + 2 * i + 1 = o + 1 + 7 + 2 * i by omega]
  simp only [List.map_cons, List.map_nil, renB_bI, renB_bR, e1, e2]
  try rw [show o + 7 + 1 = o + 1 + 7 by omega]
end Go.Proofs.Ytpbgnnaaobamfaa

/-
  layer 33: the steps of a join. Printed by wip/enc.py.
-/
namespace Go.Proofs.Ytpbgnnaaobamfaa
open Go.RowKit
set_option linter.unusedSimpArgs false
set_option linter.unusedVariables false

structure Stp where
  binds : List (Int)
  mins : List (Int)
  seeks : List (Int)
instance : Inhabited Stp := ⟨⟨[], [], []⟩⟩
@[simp] theorem Stp.eta (x : Stp) : Stp.mk x.binds x.mins x.seeks = x := rfl
def Stp.cells (x : Stp) : List AV := [.slice 1 false (encRows x.binds), .slice 1 false (encRows x.mins), .slice 1 false (encRows x.seeks)]
def Stp.unc (c : List AV) : Stp :=
  match c with
  | [.slice _ _ a0, .slice _ _ a1, .slice _ _ a2] => ⟨(a0.map Enc.unc), (a1.map Enc.unc), (a2.map Enc.unc)⟩
  | _ => default
theorem Stp.unc_cells (x : Stp) : Stp.unc x.cells = x := by
  cases x
  simp only [Stp.cells, Stp.unc, map_unc]
instance : Enc Stp where
  sz := 3
  cells := Stp.cells
  enc x := .agg x.cells
  unc := Stp.unc
  dec v := match v with | .agg c => Stp.unc c | _ => default
  unc_cells := Stp.unc_cells
  dec_enc x := Stp.unc_cells x
@[simp] theorem sz_Stp : Enc.sz Stp = 3 := rfl
@[simp] theorem cells_Stp (x : Stp) : Enc.cells x = [.slice 1 false (encRows x.binds), .slice 1 false (encRows x.mins), .slice 1 false (encRows x.seeks)] := rfl
@[simp] theorem enc_Stp (x : Stp) : Enc.enc x = .agg [.slice 1 false (encRows x.binds), .slice 1 false (encRows x.mins), .slice 1 false (encRows x.seeks)] := rfl
@[simp] theorem unc_Stp (s0 : Nat) (f0 : Bool) (a0 : List (List AV)) (s1 : Nat) (f1 : Bool) (a1 : List (List AV)) (s2 : Nat) (f2 : Bool) (a2 : List (List AV)) : (Enc.unc [.slice s0 f0 a0, .slice s1 f1 a1, .slice s2 f2 a2] : Stp) = ⟨(Enc.dec (.slice s0 f0 a0)), (Enc.dec (.slice s1 f1 a1)), (Enc.dec (.slice s2 f2 a2))⟩ := rfl
@[simp] theorem dec_Stp (l : List AV) : (Enc.dec (.agg l) : Stp) = Enc.unc l := rfl

end Go.Proofs.Ytpbgnnaaobamfaa

/-
  layer 33: Join of the program: its contract.
-/
namespace Go.Proofs.Ytpbgnnaaobamfaa
open Go.RowKit
set_option linter.unusedSimpArgs false
set_option linter.unusedVariables false
set_option maxRecDepth 100000

def levs (N : Net) (f : List Int → Nat) (n : Nat) : List Int := (List.range n).map fun i => (sumT N f i [] : Int)
theorem levs_len (N : Net) (f : List Int → Nat) (n : Nat) : (levs N f n).length = n := by simp [levs]
theorem levs_ix {N : Net} {f : List Int → Nat} {n i : Nat} (h : i < n) : ix (levs N f n) i = (sumT N f i [] : Int) := by
  rw [ix_lt (by rw [levs_len]; exact h)]
  simp [levs]
theorem grown_zer {N : Net} {f : List Int → Nat} {n : Nat} {L : List Int} (h : Grown N f n [] (zer n) L) : L = levs N f n := by
  obtain ⟨h1, h2⟩ := h
  have hz : (zer n).length = n := by simp [zer]
  refine List.ext_getElem (by rw [h1, hz, levs_len]) fun i a b => ?_
  have e := h2 i
  rw [zer_ix, ix_lt a] at e
  rw [levs_len] at b
  rw [if_pos ⟨Nat.zero_le _, by simpa using b⟩] at e
  rw [e]
  simp [levs]
structure JRes where
  out : List (List Int)
  s : Stp
  e : Int
noncomputable def joinF (n : Int) (rels : List Rela) (vars : List (List Int)) : JRes := if jchkF n rels vars = 0 then ⟨outs (netOf rels vars) n.toNat [], ⟨levs (netOf rels vars) (cntT (netOf rels vars)) n.toNat, levs (netOf rels vars) (minT (netOf rels vars)) n.toNat, levs (netOf rels vars) (seekT (netOf rels vars)) n.toNat⟩, 0⟩ else ⟨[], ⟨[], [], []⟩, jchkF n rels vars⟩
def resJ (q : JRes) : AV := .tup [Enc.enc q.out, Enc.enc q.s, .int .i64 q.e]
def JoinPre (n : Int) (rels : List Rela) (vars : List (List Int)) : Prop := ChkPre n rels vars ∧ (jchkF n rels vars = 0 → Light (netOf rels vars) n.toNat)
noncomputable def sJoin : List AV → Option (Prop × AV) := spec3 JoinPre (fun n rels vars => resJ (joinF n rels vars))
theorem scalCPf : isScalT CPf 39 = false := by show isScalT ⟨Try.prog, fun _ => .no, G0⟩ 39 = false; kernel_rfl
theorem scalCPf2 : isScalT CPf 22 = false := by show isScalT ⟨Try.prog, fun _ => .no, G0⟩ 22 = false; kernel_rfl
set_option maxHeartbeats 8000000 in
theorem joinP : PureOK Try.prog G0 19 sJoin := by
  refine pureH3 (C := CPf) sigCPf mixCPf Try.func19 rfl rfl rfl [6] (by kernel_rfl) (by decide) (fun n rels vars ⟨hP, hL⟩ => ?_)
  rcases em2 (jchkF n rels vars = 0) with hc | hc
  case inr =>
    have e : joinF n rels vars = ⟨[], ⟨[], [], []⟩, jchkF n rels vars⟩ := by unfold joinF; rw [if_neg (of_eq_false hc)]
    simp [aev, cav, look, acallPure, abin, abinN, abinP, abinI, abinS, aun, aconv, afield, afieldAddr, aindexAddr, aindex, aslice, alow, ahigh, abuild, abuildGo, cellsOf, splice, fieldTy, alen, apick, amax, amin, aload, headV, aparts, abuildSlice, elParts, abytesStr, astore, amake, aappend, aclear, anew, arith, aresults, aresList, ares, spec0, spec1, spec2, spec3, spec4, eqCells, eqCell, sJChk, hP, hc, e, resJ]
  have e : joinF n rels vars = ⟨outs (netOf rels vars) n.toNat [], ⟨levs (netOf rels vars) (cntT (netOf rels vars)) n.toNat, levs (netOf rels vars) (minT (netOf rels vars)) n.toNat, levs (netOf rels vars) (seekT (netOf rels vars)) n.toNat⟩, 0⟩ := by unfold joinF; rw [if_pos (of_eq_true hc)]
  have hOK := chk_ok (of_eq_true hc)
  have n1 := hOK.n1
  obtain ⟨m, rfl⟩ : ∃ m : Nat, n = m := ⟨n.toNat, by omega⟩
  have hn24 := hOK.n24
  have hLt := hL (of_eq_true hc)
  obtain ⟨r1, r2⟩ := run_ok hOK (k := m) (by omega) hLt
  obtain ⟨j, hj⟩ : ∃ j, j = join0 m rels vars rels.length := ⟨_, rfl⟩
  obtain ⟨j', hj'⟩ : ∃ j', j' = extF m 0 j := ⟨_, rfl⟩
  rw [← hj] at r1 r2
  rw [← hj'] at r2
  have hB : BegPre (m : Int) rels vars := ⟨⟨m, rfl, by omega⟩, by have := hOK.len; omega, by have := hOK.r12; omega, hP.2.1⟩
  obtain ⟨c, hcE⟩ : ∃ c : Blk, c = ⟨39, 3, [[.slice 1 true [], .slice 1 true [], .slice 1 true []]], true, true⟩ := ⟨_, rfl⟩
  have hmap : c :: (joinX 0 (join0 (m : Int).toNat rels vars rels.length)).map (renB (up 1)) = baseJ [c] j ++ [] := by
    rw [List.append_nil, baseJ_eq, joinX_up, hj]
    rfl
  have hext := ext_at (D := 30) (P := [c]) (Y := []) (by omega) r1 (fun b hb => by rw [List.append_nil, List.mem_singleton] at hb; subst hb; exact .inl (by rw [hcE]))
  rw [← hj', ← hmap] at hext
  have hext : gExt 30 [.ptr 4 1 7 0 0, .int .i64 0] (c :: (joinX 0 (join0 (m : Int).toNat rels vars rels.length)).map (renB (up 1))) = some (True, .tup [], baseJ [c] j') := by simpa using hext
  have g3 : (baseJ [c] j')[4]? = some ⟨59, 7, [jCells 1 j'], true, false⟩ := by have := base_g3 (P := [c]) (jc := jCells 1 j') (B := j'.B) (M := j'.M) (K := j'.K) (T := j'.T) (O := j'.O) (m := j'.rels.length) (rs := j'.rels) (Y := []); rw [List.append_nil] at this; exact this
  have gB : (baseJ [c] j')[1]? = some ⟨3, 1, encRows j'.B, true, true⟩ := by have := base_g0 (P := [c]) (jc := jCells 1 j') (B := j'.B) (M := j'.M) (K := j'.K) (T := j'.T) (O := j'.O) (m := j'.rels.length) (rs := j'.rels) (Y := []); rw [List.append_nil] at this; exact this
  have gM : (baseJ [c] j')[2]? = some ⟨3, 1, encRows j'.M, true, true⟩ := by have := base_g1 (P := [c]) (jc := jCells 1 j') (B := j'.B) (M := j'.M) (K := j'.K) (T := j'.T) (O := j'.O) (m := j'.rels.length) (rs := j'.rels) (Y := []); rw [List.append_nil] at this; exact this
  have gK : (baseJ [c] j')[3]? = some ⟨3, 1, encRows j'.K, true, true⟩ := by have := base_g2 (P := [c]) (jc := jCells 1 j') (B := j'.B) (M := j'.M) (K := j'.K) (T := j'.T) (O := j'.O) (m := j'.rels.length) (rs := j'.rels) (Y := []); rw [List.append_nil] at this; exact this
  have g6 : (baseJ [c] j')[7]? = some ⟨25, 1, encRows j'.O, true, true⟩ := by have := base_g6 (P := [c]) (jc := jCells 1 j') (B := j'.B) (M := j'.M) (K := j'.K) (T := j'.T) (O := j'.O) (m := j'.rels.length) (rs := j'.rels) (Y := []); rw [List.append_nil] at this; exact this
  have gC : ∃ R, baseJ [c] j' = c :: R := ⟨_, by rw [baseJ_eq]; rfl⟩
  obtain ⟨R, hR⟩ := gC
  have hO : j'.O = outs (netOf rels vars) m [] := by rw [r2.o, hj]; rfl
  have hBB : j'.B = levs (netOf rels vars) (cntT (netOf rels vars)) m := grown_zer (by have := r2.b; rw [hj] at this; exact this)
  have hMM : j'.M = levs (netOf rels vars) (minT (netOf rels vars)) m := grown_zer (by have := r2.m; rw [hj] at this; exact this)
  have hKK : j'.K = levs (netOf rels vars) (seekT (netOf rels vars)) m := grown_zer (by have := r2.k; rw [hj] at this; exact this)
  rw [e]
  simp only [Int.toNat_natCast] at hext ⊢
  have g0 : (baseJ [c] j')[0]? = some ⟨39, 3, [[.slice 1 true [], .slice 1 true [], .slice 1 true []]], true, true⟩ := by rw [hR, ← hcE]; rfl
  obtain ⟨H, hH⟩ : ∃ H, H = baseJ [c] j' := ⟨_, rfl⟩
  rw [← hH] at hext g0 g3 gB gM gK g6
  have hl : 7 < H.length := by
    apply Classical.byContradiction; intro hn
    rw [List.getElem?_eq_none (by omega)] at g6; cases g6
  rw [hcE] at hext
  clear hcE hR hmap
  simp [aev, cav, look, acallPure, abin, abinN, abinP, abinI, abinS, aun, aconv, afield, afieldAddr, aindexAddr, aindex, aslice, alow, ahigh, abuild, abuildGo, cellsOf, splice, fieldTy, alen, apick, amax, amin, aload, headV, aparts, abuildSlice, elParts, abytesStr, astore, amake, aappend, aclear, anew, arith, aresults, aresList, ares, spec0, spec1, spec2, spec3, spec4, eqCells, eqCell, sJChk, hP, hc, nBegin, hB, hext, resJ]
  refine AW_regionF sigCPf mixCPf [.pure, .pure, .pure, .read, .pure, .pure, .pure, .read, .pure, .eff, .pure] [[],[0],[0,1],[1,0,2],[],[4],[4,5],[5,4,6],[2,0,1,3],[3,1,0,2,8,6,4,5,7],[7,5,4,6,8,2,0,1,3,9]] (by kernel_rfl) (by kernel_rfl) (by kernel_rfl) (by kernel_rfl) ?_
  have hs : ∀ b : Blk, (H.set 0 b)[1]? = H[1]? ∧ (H.set 0 b)[2]? = H[2]? ∧ (H.set 0 b)[3]? = H[3]? ∧ (H.set 0 b)[7]? = H[7]? := fun b => by simp [List.getElem?_set]
  have h00 : ∀ b : Blk, (H.set 0 b)[0]? = some b := fun b => by rw [List.getElem?_set_self (by omega)]
  simp [aev, cav, look, acallPure, abin, abinN, abinP, abinI, abinS, aun, aconv, afield, afieldAddr, aindexAddr, aindex, aslice, alow, ahigh, abuild, abuildGo, cellsOf, splice, fieldTy, alen, apick, amax, amin, aload, headV, aparts, abuildSlice, elParts, abytesStr, astore, amake, aappend, aclear, anew, arith, aresults, aresList, ares, spec0, spec1, spec2, spec3, spec4, eqCells, eqCell, g0, g3, gB, gM, gK, g6, jCells, hO, hBB, hMM, hKK, scalCPf, scalCPf2, hs, h00, levs_len]
end Go.Proofs.Ytpbgnnaaobamfaa

/-
  layer 33: the comparisons of tuples and of steps; the chapter's relation.
-/
namespace Go.Proofs.Ytpbgnnaaobamfaa
open Go.RowKit
set_option linter.unusedSimpArgs false
set_option linter.unusedVariables false
set_option maxRecDepth 100000

theorem lists_ext_ix {a b : List (List Int)} (hl : a.length = b.length) (h : ∀ j, j < a.length → ix a j = ix b j) : a = b :=
  List.ext_getElem hl fun i h1 h2 => by have := h i h1; rwa [ix_lt h1, ix_lt h2] at this
def TupPre (a b : List (List Int)) : Prop := (a.length ≤ 1000000000000 ∧ ∀ r ∈ a, r.length ≤ 10000000) ∧ (b.length ≤ 1000000000000 ∧ ∀ r ∈ b, r.length ≤ 10000000)
def sTup : List AV → Option (Prop × AV) := spec2 TupPre (fun a b => .bool (decide (a = b)))
noncomputable def CTu : Ctx := mkC Try.prog G0 [(13, .pure sInts)]
@[simp] theorem CTu_P : CTu.P = Try.prog := rfl
@[simp] theorem CTu_G : CTu.G = G0 := rfl
@[simp] theorem CTu_1 : CTu.S 13 = .pure sInts := rfl
theorem mixCTu : CTu.P.follows .mixedOrders = true := mixed
theorem sigCTu : SigOK CTu := sigOK_cons (entryPure (intsP) Try.func13 rfl (by decide)) (sigOK_nil _ _)
set_option maxHeartbeats 8000000 in
theorem tuplesP : PureOK Try.prog G0 20 sTup := by
  refine pure2 (C := CTu) sigCTu mixCTu Try.func20 rfl rfl rfl (by kernel_rfl) (by decide) (fun a b ⟨⟨ha, ha2⟩, hb, hb2⟩ => ?_)
  rcases em2 (a.length = b.length) with hl | hl
  · have hl' := of_eq_true hl
    have hl2 : ((a.length : Int) = b.length) = True := eq_true (by omega)
    simp [aev, cav, look, acallPure, abin, abinN, abinP, abinI, abinS, aun, aconv, afield, afieldAddr, aindexAddr, aindex, aslice, alow, ahigh, abuild, abuildGo, cellsOf, splice, fieldTy, alen, apick, amax, amin, aload, headV, aparts, abuildSlice, elParts, abytesStr, astore, amake, aappend, aclear, anew, arith, aresults, aresList, ares, spec0, spec1, spec2, spec3, spec4, eqCells, eqCell, hl, hl2]
    refine loop_rule (C := CTu) sigCTu mixCTu (fun i : Nat => ⟨[(0, Enc.enc a), (1, Enc.enc b), (5, .int .i64 i)], []⟩) (fun i => i ≤ a.length ∧ ∀ j, j < i → ix a j = ix b j) (fun i => a.length - i) (by kernel_rfl) ⟨0, ⟨Nat.zero_le _, fun j hj => by omega⟩, weak_slots (by simp)⟩ (fun i ⟨h0, h1⟩ => ?_)
    by_cases hi : i < a.length
    · have i1 : I64 ((i : Int) + 1) := by unfold I64; omega
      have hib : i < b.length := by omega
      have la := ha2 _ (ix_mem hi)
      have lb := hb2 _ (ix_mem hib)
      rcases em2 (ix a i = ix b i) with e | e
      · simp [aev, cav, look, acallPure, abin, abinN, abinP, abinI, abinS, aun, aconv, afield, afieldAddr, aindexAddr, aindex, aslice, alow, ahigh, abuild, abuildGo, cellsOf, splice, fieldTy, alen, apick, amax, amin, aload, headV, aparts, abuildSlice, elParts, abytesStr, astore, amake, aappend, aclear, anew, arith, aresults, aresList, ares, spec0, spec1, spec2, spec3, spec4, eqCells, eqCell, hi, hib, rowAt_enc hi, rowAt_enc hib, e, i1, sInts, la, lb]
        exact ⟨i + 1, ⟨by omega, fun j hj => by
          rcases Nat.lt_or_eq_of_le (Nat.le_of_lt_succ hj) with h | rfl
          · exact h1 j h
          · exact of_eq_true e⟩, by omega, weak_slots (by simp)⟩
      · have hne : (a = b) = False := eq_false fun h => of_eq_false e (by rw [h])
        simp [aev, cav, look, acallPure, abin, abinN, abinP, abinI, abinS, aun, aconv, afield, afieldAddr, aindexAddr, aindex, aslice, alow, ahigh, abuild, abuildGo, cellsOf, splice, fieldTy, alen, apick, amax, amin, aload, headV, aparts, abuildSlice, elParts, abytesStr, astore, amake, aappend, aclear, anew, arith, aresults, aresList, ares, spec0, spec1, spec2, spec3, spec4, eqCells, eqCell, hi, hib, rowAt_enc hi, rowAt_enc hib, e, hne, sInts, la, lb]
    · have hab : (a = b) = True := eq_true (lists_ext_ix hl' fun j hj => h1 j (by omega))
      simp [aev, cav, look, acallPure, abin, abinN, abinP, abinI, abinS, aun, aconv, afield, afieldAddr, aindexAddr, aindex, aslice, alow, ahigh, abuild, abuildGo, cellsOf, splice, fieldTy, alen, apick, amax, amin, aload, headV, aparts, abuildSlice, elParts, abytesStr, astore, amake, aappend, aclear, anew, arith, aresults, aresList, ares, spec0, spec1, spec2, spec3, spec4, eqCells, eqCell, hi, hab]
  · have hne : (a = b) = False := eq_false fun h => of_eq_false hl (by rw [h])
    have hl2 : ((a.length : Int) = b.length) = False := eq_false fun h => of_eq_false hl (by omega)
    simp [aev, cav, look, acallPure, abin, abinN, abinP, abinI, abinS, aun, aconv, afield, afieldAddr, aindexAddr, aindex, aslice, alow, ahigh, abuild, abuildGo, cellsOf, splice, fieldTy, alen, apick, amax, amin, aload, headV, aparts, abuildSlice, elParts, abytesStr, astore, amake, aappend, aclear, anew, arith, aresults, aresList, ares, spec0, spec1, spec2, spec3, spec4, eqCells, eqCell, hl, hl2, hne]
def StpOK (s : Stp) : Prop := s.binds.length ≤ 10000000 ∧ s.mins.length ≤ 10000000 ∧ s.seeks.length ≤ 10000000
instance : DecidableEq Stp := fun a b => decidable_of_iff (a.binds = b.binds ∧ a.mins = b.mins ∧ a.seeks = b.seeks) ⟨fun ⟨h1, h2, h3⟩ => by cases a; cases b; simp_all, fun h => by subst h; exact ⟨rfl, rfl, rfl⟩⟩
def sSame : List AV → Option (Prop × AV) := spec2 (fun (a b : Stp) => StpOK a ∧ StpOK b) (fun a b => .bool (decide (a = b)))
set_option maxHeartbeats 8000000 in
theorem sameP : PureOK Try.prog G0 24 sSame := by
  refine pure2 (C := CTu) sigCTu mixCTu Try.func24 rfl rfl rfl (by kernel_rfl) (by decide) (fun a b ⟨⟨ha1, ha2, ha3⟩, hb1, hb2, hb3⟩ => ?_)
  obtain ⟨x1, x2, x3⟩ := a
  obtain ⟨y1, y2, y3⟩ := b
  simp only at ha1 ha2 ha3 hb1 hb2 hb3
  have hd : decide ((⟨x1, x2, x3⟩ : Stp) = ⟨y1, y2, y3⟩) = (decide (x1 = y1) && decide (x2 = y2) && decide (x3 = y3)) := by
    by_cases h1 : x1 = y1 <;> by_cases h2 : x2 = y2 <;> by_cases h3 : x3 = y3 <;> simp [h1, h2, h3]
  rcases em2 (x1 = y1) with e1 | e1 <;> rcases em2 (x2 = y2) with e2 | e2 <;> rcases em2 (x3 = y3) with e3 | e3 <;>
    simp [aev, cav, look, acallPure, abin, abinN, abinP, abinI, abinS, aun, aconv, afield, afieldAddr, aindexAddr, aindex, aslice, alow, ahigh, abuild, abuildGo, cellsOf, splice, fieldTy, alen, apick, amax, amin, aload, headV, aparts, abuildSlice, elParts, abytesStr, astore, amake, aappend, aclear, anew, arith, aresults, aresList, ares, spec0, spec1, spec2, spec3, spec4, eqCells, eqCell, sInts, ha1, ha2, ha3, hb1, hb2, hb3, e1, e2, e3, hd]
def threeR : Rela := ⟨2, [[1, 2], [1, 3], [2, 3]]⟩
theorem threeP : PureOK Try.prog G0 27 (spec0 (Enc.enc threeR)) := by
  refine pure0 (C := CE) sigCE mixCE Try.func27 rfl rfl rfl (by kernel_rfl) ?_
  have s22 : isScalT CE 22 = false := by show isScalT ⟨Try.prog, fun _ => .no, G0⟩ 22 = false; kernel_rfl
  have s25 : isScalT CE 25 = true := by show isScalT ⟨Try.prog, fun _ => .no, G0⟩ 25 = true; kernel_rfl
  simp [aev, cav, look, acallPure, abin, abinN, abinP, abinI, abinS, aun, aconv, afield, afieldAddr, aindexAddr, aindex, aslice, alow, ahigh, abuild, abuildGo, cellsOf, splice, fieldTy, alen, apick, amax, amin, aload, headV, aparts, abuildSlice, elParts, abytesStr, astore, amake, aappend, aclear, anew, arith, aresults, aresList, ares, spec0, spec1, spec2, spec3, spec4, eqCells, eqCell, abuildSlice, aparts, threeR, s22, s25]
  done
end Go.Proofs.Ytpbgnnaaobamfaa

/-
  layer 33: the examples.
-/
namespace Go.Proofs.Ytpbgnnaaobamfaa
open Go.RowKit
set_option linter.unusedSimpArgs false
set_option linter.unusedVariables false
set_option maxRecDepth 100000

theorem ok_jchk {n : Int} {rels : List Rela} {vars : List (List Int)} (h : ChkOK n rels vars) : jchkF n rels vars = 0 := by
  unfold jchkF
  rw [if_neg (by rintro (h1 | h1 | h1); exact absurd h.n1 (by omega); exact absurd h.n24 (by omega); exact h1 h.len), if_neg (fun h1 => h1 h.var), if_neg (by have := h.r12; omega), if_neg (fun h1 => h1 (relErr_none fun j hj => h.chk j hj)), if_pos h.any]
def net3 : Net := [(threeR, [0, 1]), (threeR, [1, 2]), (threeR, [0, 2])]
def rels3 : List Rela := [threeR, threeR, threeR]
def vars3 : List (List Int) := [[0, 1], [1, 2], [0, 2]]
theorem net3_eq : netOf rels3 vars3 = net3 := by kernel_rfl
theorem chk3 : checkF threeR = 0 := by
  unfold checkF
  have h1 : WideR threeR.arity threeR.rows := by
    refine ⟨by decide, by decide, ?_⟩
    intro r hr
    simp only [threeR, List.mem_cons, List.not_mem_nil, or_false] at hr
    rcases hr with rfl | rfl | rfl <;> rfl
  have h2 : RisesR threeR.rows := by
    intro i hi
    match i, hi with
    | 0, _ => exact of_decide_eq_true (by kernel_rfl)
    | 1, _ => exact of_decide_eq_true (by kernel_rfl)
    | k + 2, hi => exact absurd hi (by show ¬ k + 3 < 3; omega)
  rw [if_pos h1, if_neg (by decide), if_pos h2]
theorem chkOK3 : ChkOK 3 rels3 vars3 := by
  refine ⟨by decide, by decide, rfl, fun i hi => ?_, by decide, fun i hi => ?_, fun v hv => ?_⟩
  · match i, hi with
    | 0, _ => exact ⟨rfl, by kernel_rfl, fun _ => by decide, fun _ => by decide⟩
    | 1, _ => exact ⟨rfl, by kernel_rfl, fun _ => by decide, fun _ => by decide⟩
    | 2, _ => exact ⟨rfl, by kernel_rfl, fun _ => by decide, fun _ => by decide⟩
    | k + 3, hi => exact absurd hi (by show ¬ k + 3 < 3; omega)
  · match i, hi with
    | 0, _ => exact chk3
    | 1, _ => exact chk3
    | 2, _ => exact chk3
    | k + 3, hi => exact absurd hi (by show ¬ k + 3 < 3; omega)
  · have : v = 0 ∨ v = 1 ∨ v = 2 := by omega
    rcases this with rfl | rfl | rfl
    · exact ⟨[0, 1], by decide, by decide⟩
    · exact ⟨[0, 1], by decide, by decide⟩
    · exact ⟨[1, 2], by decide, by decide⟩
theorem light3 : Light net3 3 := by
  refine ⟨by decide, of_decide_eq_true (by kernel_rfl), fun i hi => ?_, fun i hi => ?_, fun i hi => ?_⟩
  all_goals (have : i = 0 ∨ i = 1 ∨ i = 2 := by omega)
  all_goals (rcases this with rfl | rfl | rfl)
  all_goals exact of_decide_eq_true (by kernel_rfl)
theorem join3 : joinF 3 rels3 vars3 = ⟨[[1, 2, 3]], ⟨[2, 1, 1], [2, 3, 1], [2, 2, 1]⟩, 0⟩ := by
  unfold joinF
  rw [if_pos (ok_jchk chkOK3), net3_eq]
  kernel_rfl
theorem small_dec {l : List (List Int)} (h : (decide (l.length ≤ 1000000) && l.all fun r => decide (r.length ≤ 1000000)) = true) : SmallRs l := by
  rw [Bool.and_eq_true] at h
  exact ⟨of_decide_eq_true h.1, fun r hr => of_decide_eq_true (p := r.length ≤ 1000000) (List.all_eq_true.1 h.2 r hr)⟩
theorem pre3 : JoinPre 3 rels3 vars3 := ⟨⟨by decide, fun r hr => by simp only [rels3, List.mem_cons, List.not_mem_nil, or_false, or_self] at hr; subst hr; exact small_dec rfl, small_dec rfl⟩, fun _ => by rw [net3_eq]; exact light3⟩
theorem jchk2 : jchkF 2 [⟨1, []⟩] [[0]] = 25 := by
  have hc : checkF ⟨1, []⟩ = 0 := by
    unfold checkF
    rw [if_pos ⟨by decide, by decide, fun r hr => by cases hr⟩, if_neg (by decide), if_pos (show RisesR [] from fun i hi => by cases hi)]
  unfold jchkF
  have hv : AllVar 2 [⟨1, []⟩] [[0]] ([[0]] : List (List Int)).length := fun i hi => by
    match i, hi with
    | 0, _ => exact ⟨rfl, by kernel_rfl, fun _ => by decide, fun _ => by decide⟩
  rw [if_neg (by decide), if_neg (fun h => h hv), if_neg (by decide), if_neg (fun h => h (by unfold relErr; rw [if_pos hc]; rfl)), if_neg (fun h => ?_)]
  obtain ⟨l, h1, h2⟩ := h 1 (by decide)
  rw [List.mem_singleton.1 h1] at h2
  revert h2; decide
theorem join2 : joinF 2 [⟨1, []⟩] [[0]] = ⟨[], ⟨[], [], []⟩, 25⟩ := by
  unfold joinF
  rw [if_neg (by rw [jchk2]; decide), jchk2]
theorem pre2 : JoinPre 2 [⟨1, []⟩] [[0]] := ⟨⟨by decide, fun r hr => by rw [List.mem_singleton.1 hr]; exact small_dec rfl, small_dec rfl⟩, fun h => by rw [jchk2] at h; cases h⟩
theorem meet1 : meetF ([[1, 3, 5, 7], [3, 4, 7], [1, 3, 7, 9]].map of) = ([3, 7], 6) := by kernel_rfl
end Go.Proofs.Ytpbgnnaaobamfaa

/-
  layer 33: the worked examples hold.
-/
namespace Go.Proofs.Ytpbgnnaaobamfaa
open Go.RowKit
set_option linter.unusedSimpArgs false
set_option linter.unusedVariables false
set_option maxRecDepth 100000

noncomputable def sThree : List AV → Option (Prop × AV) := spec0 (Enc.enc threeR)
noncomputable def CAl : Ctx := mkC Try.prog G0 [(11, .pure sMeet), (19, .pure sJoin), (27, .pure sThree), (13, .pure sInts), (20, .pure sTup)]
@[simp] theorem CAl_P : CAl.P = Try.prog := rfl
@[simp] theorem CAl_G : CAl.G = G0 := rfl
@[simp] theorem CAl_1 : CAl.S 11 = .pure sMeet := rfl
@[simp] theorem CAl_2 : CAl.S 19 = .pure sJoin := rfl
@[simp] theorem CAl_3 : CAl.S 27 = .pure sThree := rfl
@[simp] theorem CAl_4 : CAl.S 13 = .pure sInts := rfl
@[simp] theorem CAl_5 : CAl.S 20 = .pure sTup := rfl
theorem mixCAl : CAl.P.follows .mixedOrders = true := mixed
theorem sigCAl : SigOK CAl := sigOK_cons (entryPure (meetT) Try.func11 rfl (by decide)) (sigOK_cons (entryPure (joinP) Try.func19 rfl (by decide)) (sigOK_cons (entryPure (threeP) Try.func27 rfl (by decide)) (sigOK_cons (entryPure (intsP) Try.func13 rfl (by decide)) (sigOK_cons (entryPure (tuplesP) Try.func20 rfl (by decide)) (sigOK_nil _ _)))))
set_option maxHeartbeats 16000000 in
theorem aliveP : PureOK Try.prog G0 10 (spec0 (.bool true)) := by
  refine pure0 (C := CAl) sigCAl mixCAl Try.func10 rfl rfl rfl (by kernel_rfl) ?_
  have s22 : isScalT CAl 22 = false := by show isScalT ⟨Try.prog, fun _ => .no, G0⟩ 22 = false; kernel_rfl
  have s25 : isScalT CAl 25 = true := by show isScalT ⟨Try.prog, fun _ => .no, G0⟩ 25 = true; kernel_rfl
  have s31 : isScalT CAl 31 = false := by show isScalT ⟨Try.prog, fun _ => .no, G0⟩ 31 = false; kernel_rfl
  have s39 : isScalT CAl 39 = false := by show isScalT ⟨Try.prog, fun _ => .no, G0⟩ 39 = false; kernel_rfl
  have m1 : meetF [of [1, 3, 5, 7], of [3, 4, 7], of [1, 3, 7, 9]] = ([3, 7], 6) := meet1
  have p1 : MeetIn [[1, 3, 5, 7], [3, 4, 7], [1, 3, 7, 9]] := ⟨by decide, by decide⟩
  have q3 : JoinPre 3 [⟨2, [[1, 2], [1, 3], [2, 3]]⟩, ⟨2, [[1, 2], [1, 3], [2, 3]]⟩, ⟨2, [[1, 2], [1, 3], [2, 3]]⟩] [[0, 1], [1, 2], [0, 2]] := pre3
  have j3 : joinF 3 [⟨2, [[1, 2], [1, 3], [2, 3]]⟩, ⟨2, [[1, 2], [1, 3], [2, 3]]⟩, ⟨2, [[1, 2], [1, 3], [2, 3]]⟩] [[0, 1], [1, 2], [0, 2]] = ⟨[[1, 2, 3]], ⟨[2, 1, 1], [2, 3, 1], [2, 2, 1]⟩, 0⟩ := join3
  have j2 := join2
  have q2 := pre2
  have t1 : TupPre [[1, 2, 3]] [[1, 2, 3]] := ⟨⟨by decide, by decide⟩, by decide, by decide⟩
  simp [aev, cav, look, acallPure, abin, abinN, abinP, abinI, abinS, aun, aconv, afield, afieldAddr, aindexAddr, aindex, aslice, alow, ahigh, abuild, abuildGo, cellsOf, splice, fieldTy, alen, apick, amax, amin, aload, headV, aparts, abuildSlice, elParts, abytesStr, astore, amake, aappend, aclear, anew, arith, aresults, aresList, ares, spec0, spec1, spec2, spec3, spec4, eqCells, eqCell, abuildSlice, aparts, sThree, threeR, s22, s25, s31, s39, sMeet, m1, p1, resM, sJoin, q3, j3, resJ, q2, j2, sTup, t1, sInts]
  done
end Go.Proofs.Ytpbgnnaaobamfaa

/-
  layer 33: the law LeapfrogMeet.
-/
namespace Go.Proofs.Ytpbgnnaaobamfaa
open Go.RowKit
set_option linter.unusedSimpArgs false
set_option linter.unusedVariables false
set_option maxRecDepth 100000

theorem meetIn_brief {ls : List (List Int)} (h : Brief ls) : MeetIn ls := ⟨by have := h.1; omega, fun l hl => by have := h.2 l hl; omega⟩
theorem meetF_len {ls : List (List Int)} (h : Brief ls) : (meetF (ls.map of)).1.length ≤ 60 := by
  by_cases h0 : ls = []
  · subst h0; decide
  · have hS : ∀ l ∈ ls.map of, Inc l := fun l hl => by obtain ⟨a, _, rfl⟩ := List.mem_map.1 hl; exact of_sorted a
    have hg := meetF_good hS (by simpa using h0)
    rw [hg.1]
    have h1 : (common (ls.map of)).length ≤ (ix (ls.map of) 0).length := List.length_filter_le _ _
    have hp : 0 < ls.length := List.length_pos_iff.2 h0
    rw [ix_map hp] at h1
    have h2 := of_len (ix ls 0)
    have h3 := h.2 _ (ix_mem hp)
    omega
noncomputable def sAlive : List AV → Option (Prop × AV) := spec0 (.bool true)
noncomputable def CV1 : Ctx := mkC Try.prog G0 [(9, .pure sBrief), (10, .pure sAlive), (11, .pure sMeet), (12, .pure sMeet), (13, .pure sInts)]
@[simp] theorem CV1_P : CV1.P = Try.prog := rfl
@[simp] theorem CV1_G : CV1.G = G0 := rfl
@[simp] theorem CV1_1 : CV1.S 9 = .pure sBrief := rfl
@[simp] theorem CV1_2 : CV1.S 10 = .pure sAlive := rfl
@[simp] theorem CV1_3 : CV1.S 11 = .pure sMeet := rfl
@[simp] theorem CV1_4 : CV1.S 12 = .pure sMeet := rfl
@[simp] theorem CV1_5 : CV1.S 13 = .pure sInts := rfl
theorem mixCV1 : CV1.P.follows .mixedOrders = true := mixed
theorem sigCV1 : SigOK CV1 := sigOK_cons (entryPure (briefP) Try.func9 rfl (by decide)) (sigOK_cons (entryPure (aliveP) Try.func10 rfl (by decide)) (sigOK_cons (entryPure (meetT) Try.func11 rfl (by decide)) (sigOK_cons (entryPure (meetR) Try.func12 rfl (by decide)) (sigOK_cons (entryPure (intsP) Try.func13 rfl (by decide)) (sigOK_nil _ _)))))
set_option maxHeartbeats 8000000 in
theorem lawMeet : PureOK Try.prog G0 3 (spec1 (fun (_ : List (List Int)) => True) fun _ => .bool true) := by
  refine pure1 (C := CV1) sigCV1 mixCV1 Try.func3 rfl rfl rfl (by kernel_rfl) (by decide) (fun ls _ => ?_)
  by_cases hB : Brief ls
  case neg => simp [aev, cav, look, acallPure, abin, abinN, abinP, abinI, abinS, aun, aconv, afield, afieldAddr, aindexAddr, aindex, aslice, alow, ahigh, abuild, abuildGo, cellsOf, splice, fieldTy, alen, apick, amax, amin, aload, headV, aparts, abuildSlice, elParts, abytesStr, astore, amake, aappend, aclear, anew, arith, aresults, aresList, ares, spec0, spec1, spec2, spec3, spec4, eqCells, eqCell, sBrief, hB, sAlive]
  have hm := meetIn_brief hB
  have hl : (meetF (ls.map of)).1.length ≤ 10000000 := Nat.le_trans (meetF_len hB) (by decide)
  simp [aev, cav, look, acallPure, abin, abinN, abinP, abinI, abinS, aun, aconv, afield, afieldAddr, aindexAddr, aindex, aslice, alow, ahigh, abuild, abuildGo, cellsOf, splice, fieldTy, alen, apick, amax, amin, aload, headV, aparts, abuildSlice, elParts, abytesStr, astore, amake, aappend, aclear, anew, arith, aresults, aresList, ares, spec0, spec1, spec2, spec3, spec4, eqCells, eqCell, sBrief, hB, sAlive, sMeet, hm, resM, sInts, hl]
end Go.Proofs.Ytpbgnnaaobamfaa

/-
  layer 33: arguments read as rows and relations.
-/
namespace Go.Proofs.Ytpbgnnaaobamfaa
open Go.RowKit
set_option linter.unusedSimpArgs false
set_option linter.unusedVariables false
set_option maxRecDepth 100000

def WfI (l : List Int) : Prop := WfL I64 l
theorem reads_i : Reads Try.prog 3 Int I64 := reads_int (by kernel_rfl)
theorem reads_ints : Reads Try.prog 25 (List Int) WfI := reads_list (by kernel_rfl) (by kernel_rfl) (of_decide_eq_true (by kernel_rfl)) reads_i
theorem reads_rows : Reads Try.prog 22 (List (List Int)) (WfL WfI) := reads_list (e := 25) (by kernel_rfl) (by kernel_rfl) (of_decide_eq_true (by kernel_rfl)) reads_ints
def WfRel (r : Rela) : Prop := I64 r.arity ∧ WfL WfI r.rows
theorem reads_rel : Reads Try.prog 36 Rela WfRel := fun n => by
  intro H enc w held cs x hx
  obtain ⟨m, rfl, hl, hf⟩ := struct_cells ⟨_, rfl⟩ hx
  obtain ⟨y0, t0⟩ := hf 0 0 3 (by kernel_rfl)
  obtain ⟨y1, t1⟩ := hf 1 1 22 (by kernel_rfl)
  obtain ⟨a, wa, ca⟩ := reads_i m enc w held _ _ t0
  obtain ⟨b, wb, cb⟩ := reads_rows m enc w held _ _ t1
  exact ⟨⟨a, b⟩, ⟨wa, wb⟩, CellsD.split (o := 0) (s := 1) ca (CellsD.split (s := 1) cb (CellsD.last (by rw [hl, show szT Try.prog 36 = 2 by kernel_rfl]; exact Nat.le_refl _)))⟩
theorem reads_rels : Reads Try.prog 31 (List Rela) (WfL WfRel) := reads_list (e := 36) (by kernel_rfl) (by kernel_rfl) (of_decide_eq_true (by kernel_rfl)) reads_rel
end Go.Proofs.Ytpbgnnaaobamfaa

/-
  layer 33: the law LeapfrogMeets.
-/
namespace Go.Proofs.Ytpbgnnaaobamfaa
open Go.RowKit
set_option linter.unusedSimpArgs false
set_option linter.unusedVariables false
set_option maxRecDepth 100000

/-- What the law wants of the result. -/
structure MeetsOK (ls : List (List Int)) (l : List Int) (n : Nat) : Prop where
  mem : ∀ z, z ∈ l ↔ ∀ a ∈ ls, z ∈ a
  inc : Inc l
  few : ∀ j, j < ls.length → n ≤ ls.length * ((of (ix ls j)).length + 1)
theorem meets_ok {ls : List (List Int)} (h0 : ls ≠ []) : MeetsOK ls (meetF (ls.map of)).1 (meetF (ls.map of)).2 := by
  have hS : ∀ l ∈ ls.map of, Inc l := fun l hl => by obtain ⟨a, _, rfl⟩ := List.mem_map.1 hl; exact of_sorted a
  have hne : ls.map of ≠ [] := by simpa using h0
  have hp : 0 < ls.length := List.length_pos_iff.2 h0
  obtain ⟨g1, g2⟩ := meetF_good hS hne
  refine ⟨fun z => ?_, ?_, fun j hj => ?_⟩
  · rw [g1, mem_common hne]
    constructor
    · intro h a ha
      have := h _ (List.mem_map_of_mem ha)
      rwa [mem_of] at this
    · intro h l hl
      obtain ⟨a, ha, rfl⟩ := List.mem_map.1 hl
      rw [mem_of]; exact h a ha
  · rw [g1]
    exact (hS _ (ix_mem (by rw [List.length_map]; exact hp))).sublist List.filter_sublist
  · have := g2 j (by rw [List.length_map]; exact hj)
    rw [List.length_map, ix_map hj] at this
    exact this
theorem lt_true {a b : Int} (h : a < b) : (b ≤ a) = False := eq_false (by omega)
def LeastAt (ls : List (List Int)) (i m : Nat) : Prop := i = 0 ∧ m = 60 ∨ ∃ j, j < i ∧ m = (of (ix ls j)).length
noncomputable def CLb : Ctx := mkC Try.prog G0 [(9, .pure sBrief), (10, .pure sAlive), (11, .pure sMeet), (14, .pure sOfR), (15, .pure sHas)]
@[simp] theorem CLb_P : CLb.P = Try.prog := rfl
@[simp] theorem CLb_G : CLb.G = G0 := rfl
@[simp] theorem CLb_1 : CLb.S 9 = .pure sBrief := rfl
@[simp] theorem CLb_2 : CLb.S 10 = .pure sAlive := rfl
@[simp] theorem CLb_3 : CLb.S 11 = .pure sMeet := rfl
@[simp] theorem CLb_4 : CLb.S 14 = .pure sOfR := rfl
@[simp] theorem CLb_5 : CLb.S 15 = .pure sHas := rfl
theorem mixCLb : CLb.P.follows .mixedOrders = true := mixed
theorem sigCLb : SigOK CLb := sigOK_cons (entryPure (briefP) Try.func9 rfl (by decide)) (sigOK_cons (entryPure (aliveP) Try.func10 rfl (by decide)) (sigOK_cons (entryPure (meetT) Try.func11 rfl (by decide)) (sigOK_cons (entryPure (ofR) Try.func14 rfl (by decide)) (sigOK_cons (entryPure (hasP) Try.func15 rfl (by decide)) (sigOK_nil _ _)))))
structure M1 where
  i : Nat
  m : Nat
structure M2 where
  i : Nat
  a : Bool
set_option maxHeartbeats 32000000 in
theorem lawMeets : PureOK Try.prog G0 4 (spec1 (WfL WfI) fun _ => .bool true) := by
  refine pure1 (C := CLb) sigCLb mixCLb Try.func4 rfl rfl rfl (by kernel_rfl) (by decide) (fun ls hW => ?_)
  by_cases hB : Brief ls
  case neg => simp [aev, cav, look, acallPure, abin, abinN, abinP, abinI, abinS, aun, aconv, afield, afieldAddr, aindexAddr, aindex, aslice, alow, ahigh, abuild, abuildGo, cellsOf, splice, fieldTy, alen, apick, amax, amin, aload, headV, aparts, abuildSlice, elParts, abytesStr, astore, amake, aappend, aclear, anew, arith, aresults, aresList, ares, spec0, spec1, spec2, spec3, spec4, eqCells, eqCell, sBrief, hB, sAlive]
  have hm := meetIn_brief hB
  have hl60 := meetF_len hB
  by_cases h0 : ls.length = 0
  · have hls : ls = [] := List.length_eq_zero_iff.1 h0
    subst hls
    have e1 : meetF [] = ([], 0) := rfl
    simp [aev, cav, look, acallPure, abin, abinN, abinP, abinI, abinS, aun, aconv, afield, afieldAddr, aindexAddr, aindex, aslice, alow, ahigh, abuild, abuildGo, cellsOf, splice, fieldTy, alen, apick, amax, amin, aload, headV, aparts, abuildSlice, elParts, abytesStr, astore, amake, aappend, aclear, anew, arith, aresults, aresList, ares, spec0, spec1, spec2, spec3, spec4, eqCells, eqCell, sBrief, hB, sAlive, sMeet, hm, resM, e1]
  have hne : ls ≠ [] := fun e => h0 (by rw [e]; rfl)
  have hp : 0 < ls.length := by omega
  have hM := meets_ok hne
  obtain ⟨l, hl⟩ : ∃ l, l = (meetF (ls.map of)).1 := ⟨_, rfl⟩
  obtain ⟨n, hn⟩ : ∃ n, n = (meetF (ls.map of)).2 := ⟨_, rfl⟩
  rw [← hl, ← hn] at hM
  rw [← hl] at hl60
  have h30 := hB.1
  have h00 : ((ls.length : Int) = 0) = False := eq_false (by omega)
  have hn2 : n ≤ 30 * 61 := by
    have h1 := hM.few 0 hp
    have h2 := of_len (ix ls 0)
    have h3 := hB.2 _ (ix_mem hp)
    exact Nat.le_trans h1 (Nat.mul_le_mul h30 (by omega))
  simp [aev, cav, look, acallPure, abin, abinN, abinP, abinI, abinS, aun, aconv, afield, afieldAddr, aindexAddr, aindex, aslice, alow, ahigh, abuild, abuildGo, cellsOf, splice, fieldTy, alen, apick, amax, amin, aload, headV, aparts, abuildSlice, elParts, abytesStr, astore, amake, aappend, aclear, anew, arith, aresults, aresList, ares, spec0, spec1, spec2, spec3, spec4, eqCells, eqCell, sBrief, hB, sAlive, sMeet, hm, resM, ← hl, ← hn, h0, h00]
  refine loop_rule (C := CLb) sigCLb mixCLb (fun s : M1 => ⟨[(0, Enc.enc ls), (3, Enc.enc l), (4, .int .i64 n), (5, .int .i64 s.m), (6, .int .i64 s.i)], []⟩) (fun s => s.i ≤ ls.length ∧ LeastAt ls s.i s.m) (fun s => ls.length - s.i) (by kernel_rfl) ⟨⟨0, 60⟩, ⟨Nat.zero_le _, .inl ⟨rfl, rfl⟩⟩, weak_slots (by simp)⟩ (fun s ⟨h1, h2⟩ => ?_)
  obtain ⟨i, m⟩ := s
  simp only at h1 h2 ⊢
  have m60 : m ≤ 60 := by
    rcases h2 with ⟨_, rfl⟩ | ⟨j, hj, rfl⟩
    · exact Nat.le_refl _
    · exact Nat.le_trans (of_len _) (hB.2 _ (ix_mem (by omega)))
  by_cases hi : i < ls.length
  · have i1 : I64 ((i : Int) + 1) := by unfold I64; omega
    have hli := hB.2 _ (ix_mem hi)
    have hof := of_len (ix ls i)
    have ho9 : (ix ls i).length ≤ 900000 := by omega
    have hsr : SmallR (ix ls i) := by unfold SmallR; omega
    obtain ⟨m', hm'⟩ : ∃ m', m' = min m (of (ix ls i)).length := ⟨_, rfl⟩
    have hmi : min (m : Int) ((of (ix ls i)).length : Int) = (m' : Int) := by omega
    have hle : (if (of (ix ls i)).length < m then ((of (ix ls i)).length : Int) else (m : Int)) = (m' : Int) := by split <;> omega
    simp [aev, cav, look, acallPure, abin, abinN, abinP, abinI, abinS, aun, aconv, afield, afieldAddr, aindexAddr, aindex, aslice, alow, ahigh, abuild, abuildGo, cellsOf, splice, fieldTy, alen, apick, amax, amin, aload, headV, aparts, abuildSlice, elParts, abytesStr, astore, amake, aappend, aclear, anew, arith, aresults, aresList, ares, spec0, spec1, spec2, spec3, spec4, eqCells, eqCell, hi, rowAt_enc hi, sOfR, ho9, hmi, hle]
    refine loop_rule (C := CLb) sigCLb mixCLb (fun k : Nat => ⟨[(0, Enc.enc ls), (3, Enc.enc l), (4, .int .i64 n), (5, .int .i64 m'), (6, .int .i64 i), (7, .int .i64 k)], []⟩) (fun k => k ≤ l.length) (fun k => l.length - k) (by kernel_rfl) ⟨0, Nat.zero_le _, weak_slots (by simp [hmi, hle])⟩ (fun k hk0 => ?_)
    by_cases hk : k < l.length
    · have k1 : I64 ((k : Int) + 1) := by unfold I64; omega
      have hmem : ix l k ∈ ix ls i := (hM.mem _).1 (ix_mem hk) _ (ix_mem hi)
      rcases Nat.eq_zero_or_pos k with hz | hz
      · subst hz
        simp [aev, cav, look, acallPure, abin, abinN, abinP, abinI, abinS, aun, aconv, afield, afieldAddr, aindexAddr, aindex, aslice, alow, ahigh, abuild, abuildGo, cellsOf, splice, fieldTy, alen, apick, amax, amin, aload, headV, aparts, abuildSlice, elParts, abytesStr, astore, amake, aappend, aclear, anew, arith, aresults, aresList, ares, spec0, spec1, spec2, spec3, spec4, eqCells, eqCell, hi, rowAt_enc hi, hk, rowAt_enc hk, sHas, hsr, hmem, k1]
        exact ⟨1, by omega, by omega, weak_slots (by simp; rfl)⟩
      · obtain ⟨q, rfl⟩ : ∃ q, k = q + 1 := ⟨k - 1, by omega⟩
        have hq : q < l.length := by omega
        have hlt := inc_ix hM.inc (Nat.lt_succ_self q) hk
        have hle2 := lt_true hlt
        have q1 : I64 ((q : Int) + 1 + 1) := by unfold I64; omega
        have q2 : ((0 : Int) < (q : Int) + 1) = True := eq_true (by omega)
        have q3 : I64 (q : Int) := by unfold I64; omega
        have hrow := rowAt_enc hk
        have hkI : ((q : Int) + 1 < (l.length : Int)) = True := eq_true (by omega)
        have hkI2 : ((q : Int) + 1).toNat = q + 1 := by omega
        simp [aev, cav, look, acallPure, abin, abinN, abinP, abinI, abinS, aun, aconv, afield, afieldAddr, aindexAddr, aindex, aslice, alow, ahigh, abuild, abuildGo, cellsOf, splice, fieldTy, alen, apick, amax, amin, aload, headV, aparts, abuildSlice, elParts, abytesStr, astore, amake, aappend, aclear, anew, arith, aresults, aresList, ares, spec0, spec1, spec2, spec3, spec4, eqCells, eqCell, hi, rowAt_enc hi, hk, hrow, hq, rowAt_enc hq, sHas, hsr, hmem, k1, hlt, hle2, q1, q2, q3, hkI, hkI2]
        exact ⟨by omega, q + 2, by omega, by omega, weak_slots (by simp; omega)⟩
    · simp [aev, cav, look, acallPure, abin, abinN, abinP, abinI, abinS, aun, aconv, afield, afieldAddr, aindexAddr, aindex, aslice, alow, ahigh, abuild, abuildGo, cellsOf, splice, fieldTy, alen, apick, amax, amin, aload, headV, aparts, abuildSlice, elParts, abytesStr, astore, amake, aappend, aclear, anew, arith, aresults, aresList, ares, spec0, spec1, spec2, spec3, spec4, eqCells, eqCell, hk, i1]
      exact ⟨⟨i + 1, m'⟩, ⟨by simp only; omega, .inr (by
        rcases Nat.le_total m (of (ix ls i)).length with h | h
        · have e : m' = m := by omega
          rcases h2 with ⟨rfl, rfl⟩ | ⟨j, hj, he⟩
          · exact ⟨0, by simp, by simp only; omega⟩
          · exact ⟨j, by simp only; omega, by simp only; omega⟩
        · exact ⟨i, by simp, by simp only; omega⟩)⟩, by simp only; omega, weak_slots (by simp)⟩
  · have hii : i = ls.length := by omega
    subst hii
    simp [aev, cav, look, acallPure, abin, abinN, abinP, abinI, abinS, aun, aconv, afield, afieldAddr, aindexAddr, aindex, aslice, alow, ahigh, abuild, abuildGo, cellsOf, splice, fieldTy, alen, apick, amax, amin, aload, headV, aparts, abuildSlice, elParts, abytesStr, astore, amake, aappend, aclear, anew, arith, aresults, aresList, ares, spec0, spec1, spec2, spec3, spec4, eqCells, eqCell, hi]
    obtain ⟨t, ht⟩ : ∃ t, t = ix ls 0 := ⟨_, rfl⟩
    have ht60 := hB.2 _ (ix_mem hp)
    rw [← ht] at ht60
    have hsl : SmallR l := by unfold SmallR; omega
    have hr0 : rowAt (encRows ls) 0 = Enc.cells t := by rw [rowAt_enc hp, ht]
    refine loop_rule (C := CLb) sigCLb mixCLb (fun k : Nat => ⟨[(0, Enc.enc ls), (3, Enc.enc l), (4, .int .i64 n), (5, .int .i64 m), (8, .int .i64 k)], []⟩) (fun k => k ≤ t.length) (fun k => t.length - k) (by kernel_rfl) ⟨0, Nat.zero_le _, weak_slots (by simp)⟩ (fun k hk0 => ?_)
    by_cases hk : k < t.length
    · have k1 : I64 ((k : Int) + 1) := by unfold I64; omega
      simp [aev, cav, look, acallPure, abin, abinN, abinP, abinI, abinS, aun, aconv, afield, afieldAddr, aindexAddr, aindex, aslice, alow, ahigh, abuild, abuildGo, cellsOf, splice, fieldTy, alen, apick, amax, amin, aload, headV, aparts, abuildSlice, elParts, abytesStr, astore, amake, aappend, aclear, anew, arith, aresults, aresList, ares, spec0, spec1, spec2, spec3, spec4, eqCells, eqCell, hp, hr0, hk]
      refine loop_rule (C := CLb) sigCLb mixCLb (fun s : M2 => ⟨[(0, Enc.enc ls), (3, Enc.enc l), (4, .int .i64 n), (5, .int .i64 m), (8, .int .i64 k), (9, .bool s.a), (10, .int .i64 s.i)], []⟩) (fun s => s.i ≤ ls.length ∧ (s.a = true ↔ ∀ j, j < s.i → ix t k ∈ ix ls j)) (fun s => ls.length - s.i) (by kernel_rfl) ⟨⟨0, true⟩, ⟨Nat.zero_le _, by simp⟩, weak_slots (by simp)⟩ (fun s ⟨g1, g2⟩ => ?_)
      obtain ⟨i, a⟩ := s
      simp only at g1 g2 ⊢
      by_cases hi : i < ls.length
      · have i1 : I64 ((i : Int) + 1) := by unfold I64; omega
        have hli := hB.2 _ (ix_mem hi)
        have hsr : SmallR (ix ls i) := by unfold SmallR; omega
        cases a with
        | false =>
          simp [aev, cav, look, acallPure, abin, abinN, abinP, abinI, abinS, aun, aconv, afield, afieldAddr, aindexAddr, aindex, aslice, alow, ahigh, abuild, abuildGo, cellsOf, splice, fieldTy, alen, apick, amax, amin, aload, headV, aparts, abuildSlice, elParts, abytesStr, astore, amake, aappend, aclear, anew, arith, aresults, aresList, ares, spec0, spec1, spec2, spec3, spec4, eqCells, eqCell, hi, rowAt_enc hi, i1]
          exact ⟨⟨i + 1, false⟩, ⟨by simp only; omega, by
            simp only [Bool.false_eq_true, false_iff] at g2 ⊢
            exact fun h => g2 fun j hj => h j (by omega)⟩, by simp only; omega, weak_slots (by simp)⟩
        | true =>
          rcases em2 (ix t k ∈ ix ls i) with e | e
          · simp [aev, cav, look, acallPure, abin, abinN, abinP, abinI, abinS, aun, aconv, afield, afieldAddr, aindexAddr, aindex, aslice, alow, ahigh, abuild, abuildGo, cellsOf, splice, fieldTy, alen, apick, amax, amin, aload, headV, aparts, abuildSlice, elParts, abytesStr, astore, amake, aappend, aclear, anew, arith, aresults, aresList, ares, spec0, spec1, spec2, spec3, spec4, eqCells, eqCell, hi, rowAt_enc hi, hp, hr0, hk, rowAt_enc hk, sHas, hsr, e, i1]
            exact ⟨⟨i + 1, true⟩, ⟨by simp only; omega, by
              simp only [true_iff] at g2 ⊢
              intro j hj
              rcases Nat.lt_or_eq_of_le (Nat.le_of_lt_succ hj) with h | rfl
              · exact g2 j h
              · exact of_eq_true e⟩, by simp only; omega, weak_slots (by simp)⟩
          · simp [aev, cav, look, acallPure, abin, abinN, abinP, abinI, abinS, aun, aconv, afield, afieldAddr, aindexAddr, aindex, aslice, alow, ahigh, abuild, abuildGo, cellsOf, splice, fieldTy, alen, apick, amax, amin, aload, headV, aparts, abuildSlice, elParts, abytesStr, astore, amake, aappend, aclear, anew, arith, aresults, aresList, ares, spec0, spec1, spec2, spec3, spec4, eqCells, eqCell, hi, rowAt_enc hi, hp, hr0, hk, rowAt_enc hk, sHas, hsr, e, i1]
            exact ⟨⟨i + 1, false⟩, ⟨by simp only; omega, by
              simp only [Bool.false_eq_true, false_iff]
              exact fun h => of_eq_false e (h i (by simp))⟩, by simp only; omega, weak_slots (by simp)⟩
      · have e : i = ls.length := by omega
        subst e
        have hiff : a = true ↔ ix t k ∈ l := by
          rw [g2, hM.mem]
          constructor
          · intro h b hb
            obtain ⟨j, hj, rfl⟩ := mem_ix hb
            exact h j hj
          · intro h j hj
            exact h _ (ix_mem hj)
        have hdec : decide (ix t k ∈ l) = a := by
          cases a with
          | true => exact decide_eq_true (hiff.1 rfl)
          | false => exact decide_eq_false fun h => Bool.false_ne_true (hiff.2 h)
        simp [aev, cav, look, acallPure, abin, abinN, abinP, abinI, abinS, aun, aconv, afield, afieldAddr, aindexAddr, aindex, aslice, alow, ahigh, abuild, abuildGo, cellsOf, splice, fieldTy, alen, apick, amax, amin, aload, headV, aparts, abuildSlice, elParts, abytesStr, astore, amake, aappend, aclear, anew, arith, aresults, aresList, ares, spec0, spec1, spec2, spec3, spec4, eqCells, eqCell, hi, hp, hr0, hk, rowAt_enc hk, sHas, hsl, hdec, k1]
        exact ⟨k + 1, by omega, by omega, weak_slots (by simp)⟩
    · have hseek : ∃ j, j < ls.length ∧ m = (of (ix ls j)).length := by
        rcases h2 with ⟨h, _⟩ | h
        · omega
        · exact h
      obtain ⟨j, hj, hmj⟩ := hseek
      have hfew := hM.few j hj
      rw [← hmj] at hfew
      have f1 : ((n : Int) ≤ (ls.length : Int) * ((m : Int) + 1)) = True := eq_true (by
        have : ((ls.length * (m + 1) : Nat) : Int) = (ls.length : Int) * ((m : Int) + 1) := by simp
        omega)
      have f2 : I64 ((m : Int) + 1) := by unfold I64; omega
      have f3 : I64 ((ls.length : Int) * ((m : Int) + 1)) := by
        have : ((ls.length * (m + 1) : Nat) : Int) = (ls.length : Int) * ((m : Int) + 1) := by simp
        have h4 : ls.length * (m + 1) ≤ 30 * 61 := Nat.mul_le_mul h30 (by omega)
        unfold I64; omega
      simp [aev, cav, look, acallPure, abin, abinN, abinP, abinI, abinS, aun, aconv, afield, afieldAddr, aindexAddr, aindex, aslice, alow, ahigh, abuild, abuildGo, cellsOf, splice, fieldTy, alen, apick, amax, amin, aload, headV, aparts, abuildSlice, elParts, abytesStr, astore, amake, aappend, aclear, anew, arith, aresults, aresList, ares, spec0, spec1, spec2, spec3, spec4, eqCells, eqCell, hp, hr0, hk, sAlive, f1, f2, f3]
end Go.Proofs.Ytpbgnnaaobamfaa
