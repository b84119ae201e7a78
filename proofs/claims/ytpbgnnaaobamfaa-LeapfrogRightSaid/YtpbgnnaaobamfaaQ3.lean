/-
  Texts joined: J9 D2 J10 J11 J12 J13 V1 V2 V3 K1 K2 K3 D3 P10 K4 K5 K6 K7 K8 V4 V5 P11 V6 V7 P12 V8.
-/
import Derived.Test.YtpbgnnaaobamfaaQ2
import Derived.Test.YtpbgnnaaobamfaaQ1
/-
  layer 33: Join of the program.
-/
namespace Go.Proofs.Ytpbgnnaaobamfaa
open Go.RowKit
set_option linter.unusedSimpArgs false
set_option linter.unusedVariables false
set_option maxRecDepth 100000

theorem ren_cntV (l n c : Nat) : ren1 (up 1) (cntV l n c) = cntV (l + 1) n c := by unfold cntV; split <;> rfl
theorem renB_bI (s : Nat → Nat) (l : List Int) : renB s (bI l) = bI l := by unfold renB bI; simp
theorem renB_bR (s : Nat → Nat) (l : List (List Int)) : renB s (bR l) = bR l := by unfold renB bR; simp
theorem relsX_up : ∀ (p : Nat) (l : List RelS), (relsX p l).map (renB (up 1)) = relsX (p + 1) l
  | _, [] => rfl
  | p, r :: q => by
    simp only [relsX, List.map_cons, relsX_up (p + 2) q, renB_bI]
    have e : renB (up 1) (relB r (p + 1)) = relB r (p + 1 + 1) := by
      unfold renB relB
      simp only [List.map_cons, List.map_nil, ren_cntV]
      rfl
    rw [e, show p + 1 + 2 = p + 2 + 1 by omega]
theorem joinX_up (o : Nat) (j : JSt) : (joinX o j).map (renB (up 1)) = joinX (o + 1) j := by
  unfold joinX coreX
  rw [List.map_append, relsX_up]
  have e1 : renB (up 1) (joinB o j) = joinB (o + 1) j := by
    unfold renB joinB
    simp only [List.map_cons, List.map_nil, ren_cntV]
    have a (l : Nat) (n : Nat) : ren1 (up 1) (.own l n) = .own (l + 1) n := rfl
    simp only [a, Nat.add_right_comm o _ 1]
    rfl
  have e2 : renB (up 1) (relsB (o + 7) j.rels.length) = relsB (o + 1 + 7) j.rels.length := by
    unfold renB relsB ptrsF
    simp only [List.map_map]
    congr 1
    refine List.map_congr_left fun i _ => ?_
    show [AV.ptr (o + 7 + 2 * i + 1) 1 3 0 0] = [.ptr (o + 1 + 7 + 2 * i) 1 3 0 0]
    rw [show o + 7 + 2 * i + 1 = o + 1 + 7 + 2 * i by omega]
  simp only [List.map_cons, List.map_nil, renB_bI, renB_bR, e1, e2]
  try rw [show o + 7 + 1 = o + 1 + 7 by omega]
end Go.Proofs.Ytpbgnnaaobamfaa

/-
  layer 33: the steps of a join. Printed by wip/enc.py.
-/
namespace Go.Proofs.Ytpbgnnaaobamfaa
open Go.RowKit
set_option linter.unusedSimpArgs false
set_option linter.unusedVariables false

structure Stp where
  binds : List (Int)
  mins : List (Int)
  seeks : List (Int)
instance : Inhabited Stp := ⟨⟨[], [], []⟩⟩
@[simp] theorem Stp.eta (x : Stp) : Stp.mk x.binds x.mins x.seeks = x := rfl
def Stp.cells (x : Stp) : List AV := [.slice 1 false (encRows x.binds), .slice 1 false (encRows x.mins), .slice 1 false (encRows x.seeks)]
def Stp.unc (c : List AV) : Stp :=
  match c with
  | [.slice _ _ a0, .slice _ _ a1, .slice _ _ a2] => ⟨(a0.map Enc.unc), (a1.map Enc.unc), (a2.map Enc.unc)⟩
  | _ => default
theorem Stp.unc_cells (x : Stp) : Stp.unc x.cells = x := by
  cases x
  simp only [Stp.cells, Stp.unc, map_unc]
instance : Enc Stp where
  sz := 3
  cells := Stp.cells
  enc x := .agg x.cells
  unc := Stp.unc
  dec v := match v with | .agg c => Stp.unc c | _ => default
  unc_cells := Stp.unc_cells
  dec_enc x := Stp.unc_cells x
@[simp] theorem sz_Stp : Enc.sz Stp = 3 := rfl
@[simp] theorem cells_Stp (x : Stp) : Enc.cells x = [.slice 1 false (encRows x.binds), .slice 1 false (encRows x.mins), .slice 1 false (encRows x.seeks)] := rfl
@[simp] theorem enc_Stp (x : Stp) : Enc.enc x = .agg [.slice 1 false (encRows x.binds), .slice 1 false (encRows x.mins), .slice 1 false (encRows x.seeks)] := rfl
@[simp] theorem unc_Stp (s0 : Nat) (f0 : Bool) (a0 : List (List AV)) (s1 : Nat) (f1 : Bool) (a1 : List (List AV)) (s2 : Nat) (f2 : Bool) (a2 : List (List AV)) : (Enc.unc [.slice s0 f0 a0, .slice s1 f1 a1, .slice s2 f2 a2] : Stp) = ⟨(Enc.dec (.slice s0 f0 a0)), (Enc.dec (.slice s1 f1 a1)), (Enc.dec (.slice s2 f2 a2))⟩ := rfl
@[simp] theorem dec_Stp (l : List AV) : (Enc.dec (.agg l) : Stp) = Enc.unc l := rfl

end Go.Proofs.Ytpbgnnaaobamfaa

/-
  layer 33: Join of the program: its contract.
-/
namespace Go.Proofs.Ytpbgnnaaobamfaa
open Go.RowKit
set_option linter.unusedSimpArgs false
set_option linter.unusedVariables false
set_option maxRecDepth 100000

def levs (N : Net) (f : List Int → Nat) (n : Nat) : List Int := (List.range n).map fun i => (sumT N f i [] : Int)
theorem levs_len (N : Net) (f : List Int → Nat) (n : Nat) : (levs N f n).length = n := by simp [levs]
theorem levs_ix {N : Net} {f : List Int → Nat} {n i : Nat} (h : i < n) : ix (levs N f n) i = (sumT N f i [] : Int) := by
  rw [ix_lt (by rw [levs_len]; exact h)]
  simp [levs]
theorem grown_zer {N : Net} {f : List Int → Nat} {n : Nat} {L : List Int} (h : Grown N f n [] (zer n) L) : L = levs N f n := by
  obtain ⟨h1, h2⟩ := h
  have hz : (zer n).length = n := by simp [zer]
  refine List.ext_getElem (by rw [h1, hz, levs_len]) fun i a b => ?_
  have e := h2 i
  rw [zer_ix, ix_lt a] at e
  rw [levs_len] at b
  rw [if_pos ⟨Nat.zero_le _, by simpa using b⟩] at e
  rw [e]
  simp [levs]
structure JRes where
  out : List (List Int)
  s : Stp
  e : Int
noncomputable def joinF (n : Int) (rels : List Rela) (vars : List (List Int)) : JRes := if jchkF n rels vars = 0 then ⟨outs (netOf rels vars) n.toNat [], ⟨levs (netOf rels vars) (cntT (netOf rels vars)) n.toNat, levs (netOf rels vars) (minT (netOf rels vars)) n.toNat, levs (netOf rels vars) (seekT (netOf rels vars)) n.toNat⟩, 0⟩ else ⟨[], ⟨[], [], []⟩, jchkF n rels vars⟩
def resJ (q : JRes) : AV := .tup [Enc.enc q.out, Enc.enc q.s, .int .i64 q.e]
def JoinPre (n : Int) (rels : List Rela) (vars : List (List Int)) : Prop := ChkPre n rels vars ∧ (jchkF n rels vars = 0 → Light (netOf rels vars) n.toNat)
noncomputable def sJoin : List AV → Option (Prop × AV) := spec3 JoinPre (fun n rels vars => resJ (joinF n rels vars))
theorem scalCPf : isScalT CPf 39 = false := by show isScalT ⟨Try.prog, fun _ => .no, G0⟩ 39 = false; kernel_rfl
theorem scalCPf2 : isScalT CPf 22 = false := by show isScalT ⟨Try.prog, fun _ => .no, G0⟩ 22 = false; kernel_rfl
set_option maxHeartbeats 8000000 in
theorem joinP : PureOK Try.prog G0 19 sJoin := by
  refine pureH3 (C := CPf) sigCPf mixCPf Try.func19 rfl rfl rfl [6] (by kernel_rfl) (by decide) (fun n rels vars ⟨hP, hL⟩ => ?_)
  rcases em2 (jchkF n rels vars = 0) with hc | hc
  case inr =>
    have e : joinF n rels vars = ⟨[], ⟨[], [], []⟩, jchkF n rels vars⟩ := by unfold joinF; rw [if_neg (of_eq_false hc)]
    simp [aev, cav, look, acallPure, abin, abinN, abinP, abinI, abinS, aun, aconv, afield, afieldAddr, aindexAddr, aindex, aslice, alow, ahigh, abuild, abuildGo, cellsOf, splice, fieldTy, alen, apick, amax, amin, aload, headV, aparts, abuildSlice, elParts, abytesStr, astore, amake, aappend, aclear, anew, arith, aresults, aresList, ares, spec0, spec1, spec2, spec3, spec4, eqCells, eqCell, sJChk, hP, hc, e, resJ]
  have e : joinF n rels vars = ⟨outs (netOf rels vars) n.toNat [], ⟨levs (netOf rels vars) (cntT (netOf rels vars)) n.toNat, levs (netOf rels vars) (minT (netOf rels vars)) n.toNat, levs (netOf rels vars) (seekT (netOf rels vars)) n.toNat⟩, 0⟩ := by unfold joinF; rw [if_pos (of_eq_true hc)]
  have hOK := chk_ok (of_eq_true hc)
  have n1 := hOK.n1
  obtain ⟨m, rfl⟩ : ∃ m : Nat, n = m := ⟨n.toNat, by omega⟩
  have hn24 := hOK.n24
  have hLt := hL (of_eq_true hc)
  obtain ⟨r1, r2⟩ := run_ok hOK (k := m) (by omega) hLt
  obtain ⟨j, hj⟩ : ∃ j, j = join0 m rels vars rels.length := ⟨_, rfl⟩
  obtain ⟨j', hj'⟩ : ∃ j', j' = extF m 0 j := ⟨_, rfl⟩
  rw [← hj] at r1 r2
  rw [← hj'] at r2
  have hB : BegPre (m : Int) rels vars := ⟨⟨m, rfl, by omega⟩, by have := hOK.len; omega, by have := hOK.r12; omega, hP.2.1⟩
  obtain ⟨c, hcE⟩ : ∃ c : Blk, c = ⟨39, 3, [[.slice 1 true [], .slice 1 true [], .slice 1 true []]], true, true⟩ := ⟨_, rfl⟩
  have hmap : c :: (joinX 0 (join0 (m : Int).toNat rels vars rels.length)).map (renB (up 1)) = baseJ [c] j ++ [] := by
    rw [List.append_nil, baseJ_eq, joinX_up, hj]
    rfl
  have hext := ext_at (D := 30) (P := [c]) (Y := []) (by omega) r1 (fun b hb => by rw [List.append_nil, List.mem_singleton] at hb; subst hb; exact .inl (by rw [hcE]))
  rw [← hj', ← hmap] at hext
  have hext : gExt 30 [.ptr 4 1 7 0 0, .int .i64 0] (c :: (joinX 0 (join0 (m : Int).toNat rels vars rels.length)).map (renB (up 1))) = some (True, .tup [], baseJ [c] j') := by simpa using hext
  have g3 : (baseJ [c] j')[4]? = some ⟨59, 7, [jCells 1 j'], true, false⟩ := by have := base_g3 (P := [c]) (jc := jCells 1 j') (B := j'.B) (M := j'.M) (K := j'.K) (T := j'.T) (O := j'.O) (m := j'.rels.length) (rs := j'.rels) (Y := []); rw [List.append_nil] at this; exact this
  have gB : (baseJ [c] j')[1]? = some ⟨3, 1, encRows j'.B, true, true⟩ := by have := base_g0 (P := [c]) (jc := jCells 1 j') (B := j'.B) (M := j'.M) (K := j'.K) (T := j'.T) (O := j'.O) (m := j'.rels.length) (rs := j'.rels) (Y := []); rw [List.append_nil] at this; exact this
  have gM : (baseJ [c] j')[2]? = some ⟨3, 1, encRows j'.M, true, true⟩ := by have := base_g1 (P := [c]) (jc := jCells 1 j') (B := j'.B) (M := j'.M) (K := j'.K) (T := j'.T) (O := j'.O) (m := j'.rels.length) (rs := j'.rels) (Y := []); rw [List.append_nil] at this; exact this
  have gK : (baseJ [c] j')[3]? = some ⟨3, 1, encRows j'.K, true, true⟩ := by have := base_g2 (P := [c]) (jc := jCells 1 j') (B := j'.B) (M := j'.M) (K := j'.K) (T := j'.T) (O := j'.O) (m := j'.rels.length) (rs := j'.rels) (Y := []); rw [List.append_nil] at this; exact this
  have g6 : (baseJ [c] j')[7]? = some ⟨25, 1, encRows j'.O, true, true⟩ := by have := base_g6 (P := [c]) (jc := jCells 1 j') (B := j'.B) (M := j'.M) (K := j'.K) (T := j'.T) (O := j'.O) (m := j'.rels.length) (rs := j'.rels) (Y := []); rw [List.append_nil] at this; exact this
  have gC : ∃ R, baseJ [c] j' = c :: R := ⟨_, by rw [baseJ_eq]; rfl⟩
  obtain ⟨R, hR⟩ := gC
  have hO : j'.O = outs (netOf rels vars) m [] := by rw [r2.o, hj]; rfl
  have hBB : j'.B = levs (netOf rels vars) (cntT (netOf rels vars)) m := grown_zer (by have := r2.b; rw [hj] at this; exact this)
  have hMM : j'.M = levs (netOf rels vars) (minT (netOf rels vars)) m := grown_zer (by have := r2.m; rw [hj] at this; exact this)
  have hKK : j'.K = levs (netOf rels vars) (seekT (netOf rels vars)) m := grown_zer (by have := r2.k; rw [hj] at this; exact this)
  rw [e]
  simp only [Int.toNat_natCast] at hext ⊢
  have g0 : (baseJ [c] j')[0]? = some ⟨39, 3, [[.slice 1 true [], .slice 1 true [], .slice 1 true []]], true, true⟩ := by rw [hR, ← hcE]; rfl
  obtain ⟨H, hH⟩ : ∃ H, H = baseJ [c] j' := ⟨_, rfl⟩
  rw [← hH] at hext g0 g3 gB gM gK g6
  have hl : 7 < H.length := by
    apply Classical.byContradiction; intro hn
    rw [List.getElem?_eq_none (by omega)] at g6; cases g6
  rw [hcE] at hext
  clear hcE hR hmap
  simp [aev, cav, look, acallPure, abin, abinN, abinP, abinI, abinS, aun, aconv, afield, afieldAddr, aindexAddr, aindex, aslice, alow, ahigh, abuild, abuildGo, cellsOf, splice, fieldTy, alen, apick, amax, amin, aload, headV, aparts, abuildSlice, elParts, abytesStr, astore, amake, aappend, aclear, anew, arith, aresults, aresList, ares, spec0, spec1, spec2, spec3, spec4, eqCells, eqCell, sJChk, hP, hc, nBegin, hB, hext, resJ]
  refine AW_regionF sigCPf mixCPf [.pure, .pure, .pure, .read, .pure, .pure, .pure, .read, .pure, .eff, .pure] [[],[0],[0,1],[1,0,2],[],[4],[4,5],[5,4,6],[2,0,1,3],[3,1,0,2,8,6,4,5,7],[7,5,4,6,8,2,0,1,3,9]] (by kernel_rfl) (by kernel_rfl) (by kernel_rfl) (by kernel_rfl) ?_
  have hs : ∀ b : Blk, (H.set 0 b)[1]? = H[1]? ∧ (H.set 0 b)[2]? = H[2]? ∧ (H.set 0 b)[3]? = H[3]? ∧ (H.set 0 b)[7]? = H[7]? := fun b => by simp [List.getElem?_set]
  have h00 : ∀ b : Blk, (H.set 0 b)[0]? = some b := fun b => by rw [List.getElem?_set_self (by omega)]
  simp [aev, cav, look, acallPure, abin, abinN, abinP, abinI, abinS, aun, aconv, afield, afieldAddr, aindexAddr, aindex, aslice, alow, ahigh, abuild, abuildGo, cellsOf, splice, fieldTy, alen, apick, amax, amin, aload, headV, aparts, abuildSlice, elParts, abytesStr, astore, amake, aappend, aclear, anew, arith, aresults, aresList, ares, spec0, spec1, spec2, spec3, spec4, eqCells, eqCell, g0, g3, gB, gM, gK, g6, jCells, hO, hBB, hMM, hKK, scalCPf, scalCPf2, hs, h00, levs_len]
end Go.Proofs.Ytpbgnnaaobamfaa

/-
  layer 33: the comparisons of tuples and of steps; the chapter's relation.
-/
namespace Go.Proofs.Ytpbgnnaaobamfaa
open Go.RowKit
set_option linter.unusedSimpArgs false
set_option linter.unusedVariables false
set_option maxRecDepth 100000

theorem lists_ext_ix {a b : List (List Int)} (hl : a.length = b.length) (h : ∀ j, j < a.length → ix a j = ix b j) : a = b :=
  List.ext_getElem hl fun i h1 h2 => by have := h i h1; rwa [ix_lt h1, ix_lt h2] at this
def TupPre (a b : List (List Int)) : Prop := (a.length ≤ 1000000000000 ∧ ∀ r ∈ a, r.length ≤ 10000000) ∧ (b.length ≤ 1000000000000 ∧ ∀ r ∈ b, r.length ≤ 10000000)
def sTup : List AV → Option (Prop × AV) := spec2 TupPre (fun a b => .bool (decide (a = b)))
noncomputable def CTu : Ctx := mkC Try.prog G0 [(13, .pure sInts)]
@[simp] theorem CTu_P : CTu.P = Try.prog := rfl
@[simp] theorem CTu_G : CTu.G = G0 := rfl
@[simp] theorem CTu_1 : CTu.S 13 = .pure sInts := rfl
theorem mixCTu : CTu.P.follows .mixedOrders = true := mixed
theorem sigCTu : SigOK CTu := sigOK_cons (entryPure (intsP) Try.func13 rfl (by decide)) (sigOK_nil _ _)
set_option maxHeartbeats 8000000 in
theorem tuplesP : PureOK Try.prog G0 20 sTup := by
  refine pure2 (C := CTu) sigCTu mixCTu Try.func20 rfl rfl rfl (by kernel_rfl) (by decide) (fun a b ⟨⟨ha, ha2⟩, hb, hb2⟩ => ?_)
  rcases em2 (a.length = b.length) with hl | hl
  · have hl' := of_eq_true hl
    have hl2 : ((a.length : Int) = b.length) = True := eq_true (by omega)
    simp [aev, cav, look, acallPure, abin, abinN, abinP, abinI, abinS, aun, aconv, afield, afieldAddr, aindexAddr, aindex, aslice, alow, ahigh, abuild, abuildGo, cellsOf, splice, fieldTy, alen, apick, amax, amin, aload, headV, aparts, abuildSlice, elParts, abytesStr, astore, amake, aappend, aclear, anew, arith, aresults, aresList, ares, spec0, spec1, spec2, spec3, spec4, eqCells, eqCell, hl, hl2]
    refine loop_rule (C := CTu) sigCTu mixCTu (fun i : Nat => ⟨[(0, Enc.enc a), (1, Enc.enc b), (5, .int .i64 i)], []⟩) (fun i => i ≤ a.length ∧ ∀ j, j < i → ix a j = ix b j) (fun i => a.length - i) (by kernel_rfl) ⟨0, ⟨Nat.zero_le _, fun j hj => by omega⟩, weak_slots (by simp)⟩ (fun i ⟨h0, h1⟩ => ?_)
    by_cases hi : i < a.length
    · have i1 : I64 ((i : Int) + 1) := by unfold I64; omega
      have hib : i < b.length := by omega
      have la := ha2 _ (ix_mem hi)
      have lb := hb2 _ (ix_mem hib)
      rcases em2 (ix a i = ix b i) with e | e
      · simp [aev, cav, look, acallPure, abin, abinN, abinP, abinI, abinS, aun, aconv, afield, afieldAddr, aindexAddr, aindex, aslice, alow, ahigh, abuild, abuildGo, cellsOf, splice, fieldTy, alen, apick, amax, amin, aload, headV, aparts, abuildSlice, elParts, abytesStr, astore, amake, aappend, aclear, anew, arith, aresults, aresList, ares, spec0, spec1, spec2, spec3, spec4, eqCells, eqCell, hi, hib, rowAt_enc hi, rowAt_enc hib, e, i1, sInts, la, lb]
        exact ⟨i + 1, ⟨by omega, fun j hj => by
          rcases Nat.lt_or_eq_of_le (Nat.le_of_lt_succ hj) with h | rfl
          · exact h1 j h
          · exact of_eq_true e⟩, by omega, weak_slots (by simp)⟩
      · have hne : (a = b) = False := eq_false fun h => of_eq_false e (by rw [h])
        simp [aev, cav, look, acallPure, abin, abinN, abinP, abinI, abinS, aun, aconv, afield, afieldAddr, aindexAddr, aindex, aslice, alow, ahigh, abuild, abuildGo, cellsOf, splice, fieldTy, alen, apick, amax, amin, aload, headV, aparts, abuildSlice, elParts, abytesStr, astore, amake, aappend, aclear, anew, arith, aresults, aresList, ares, spec0, spec1, spec2, spec3, spec4, eqCells, eqCell, hi, hib, rowAt_enc hi, rowAt_enc hib, e, hne, sInts, la, lb]
    · have hab : (a = b) = True := eq_true (lists_ext_ix hl' fun j hj => h1 j (by omega))
      simp [aev, cav, look, acallPure, abin, abinN, abinP, abinI, abinS, aun, aconv, afield, afieldAddr, aindexAddr, aindex, aslice, alow, ahigh, abuild, abuildGo, cellsOf, splice, fieldTy, alen, apick, amax, amin, aload, headV, aparts, abuildSlice, elParts, abytesStr, astore, amake, aappend, aclear, anew, arith, aresults, aresList, ares, spec0, spec1, spec2, spec3, spec4, eqCells, eqCell, hi, hab]
  · have hne : (a = b) = False := eq_false fun h => of_eq_false hl (by rw [h])
    have hl2 : ((a.length : Int) = b.length) = False := eq_false fun h => of_eq_false hl (by omega)
    simp [aev, cav, look, acallPure, abin, abinN, abinP, abinI, abinS, aun, aconv, afield, afieldAddr, aindexAddr, aindex, aslice, alow, ahigh, abuild, abuildGo, cellsOf, splice, fieldTy, alen, apick, amax, amin, aload, headV, aparts, abuildSlice, elParts, abytesStr, astore, amake, aappend, aclear, anew, arith, aresults, aresList, ares, spec0, spec1, spec2, spec3, spec4, eqCells, eqCell, hl, hl2, hne]
def StpOK (s : Stp) : Prop := s.binds.length ≤ 10000000 ∧ s.mins.length ≤ 10000000 ∧ s.seeks.length ≤ 10000000
instance : DecidableEq Stp := fun a b => decidable_of_iff (a.binds = b.binds ∧ a.mins = b.mins ∧ a.seeks = b.seeks) ⟨fun ⟨h1, h2, h3⟩ => by cases a; cases b; simp_all, fun h => by subst h; exact ⟨rfl, rfl, rfl⟩⟩
def sSame : List AV → Option (Prop × AV) := spec2 (fun (a b : Stp) => StpOK a ∧ StpOK b) (fun a b => .bool (decide (a = b)))
set_option maxHeartbeats 8000000 in
theorem sameP : PureOK Try.prog G0 24 sSame := by
  refine pure2 (C := CTu) sigCTu mixCTu Try.func24 rfl rfl rfl (by kernel_rfl) (by decide) (fun a b ⟨⟨ha1, ha2, ha3⟩, hb1, hb2, hb3⟩ => ?_)
  obtain ⟨x1, x2, x3⟩ := a
  obtain ⟨y1, y2, y3⟩ := b
  simp only at ha1 ha2 ha3 hb1 hb2 hb3
  have hd : decide ((⟨x1, x2, x3⟩ : Stp) = ⟨y1, y2, y3⟩) = (decide (x1 = y1) && decide (x2 = y2) && decide (x3 = y3)) := by
    by_cases h1 : x1 = y1 <;> by_cases h2 : x2 = y2 <;> by_cases h3 : x3 = y3 <;> simp [h1, h2, h3]
  rcases em2 (x1 = y1) with e1 | e1 <;> rcases em2 (x2 = y2) with e2 | e2 <;> rcases em2 (x3 = y3) with e3 | e3 <;>
    simp [aev, cav, look, acallPure, abin, abinN, abinP, abinI, abinS, aun, aconv, afield, afieldAddr, aindexAddr, aindex, aslice, alow, ahigh, abuild, abuildGo, cellsOf, splice, fieldTy, alen, apick, amax, amin, aload, headV, aparts, abuildSlice, elParts, abytesStr, astore, amake, aappend, aclear, anew, arith, aresults, aresList, ares, spec0, spec1, spec2, spec3, spec4, eqCells, eqCell, sInts, ha1, ha2, ha3, hb1, hb2, hb3, e1, e2, e3, hd]
def threeR : Rela := ⟨2, [[1, 2], [1, 3], [2, 3]]⟩
theorem threeP : PureOK Try.prog G0 27 (spec0 (Enc.enc threeR)) := by
  refine pure0 (C := CE) sigCE mixCE Try.func27 rfl rfl rfl (by kernel_rfl) ?_
  have s22 : isScalT CE 22 = false := by show isScalT ⟨Try.prog, fun _ => .no, G0⟩ 22 = false; kernel_rfl
  have s25 : isScalT CE 25 = true := by show isScalT ⟨Try.prog, fun _ => .no, G0⟩ 25 = true; kernel_rfl
  simp [aev, cav, look, acallPure, abin, abinN, abinP, abinI, abinS, aun, aconv, afield, afieldAddr, aindexAddr, aindex, aslice, alow, ahigh, abuild, abuildGo, cellsOf, splice, fieldTy, alen, apick, amax, amin, aload, headV, aparts, abuildSlice, elParts, abytesStr, astore, amake, aappend, aclear, anew, arith, aresults, aresList, ares, spec0, spec1, spec2, spec3, spec4, eqCells, eqCell, abuildSlice, aparts, threeR, s22, s25]
  done
end Go.Proofs.Ytpbgnnaaobamfaa

/-
  layer 33: the examples.
-/
namespace Go.Proofs.Ytpbgnnaaobamfaa
open Go.RowKit
set_option linter.unusedSimpArgs false
set_option linter.unusedVariables false
set_option maxRecDepth 100000

theorem ok_jchk {n : Int} {rels : List Rela} {vars : List (List Int)} (h : ChkOK n rels vars) : jchkF n rels vars = 0 := by
  unfold jchkF
  rw [if_neg (by rintro (h1 | h1 | h1); exact absurd h.n1 (by omega); exact absurd h.n24 (by omega); exact h1 h.len), if_neg (fun h1 => h1 h.var), if_neg (by have := h.r12; omega), if_neg (fun h1 => h1 (relErr_none fun j hj => h.chk j hj)), if_pos h.any]
def net3 : Net := [(threeR, [0, 1]), (threeR, [1, 2]), (threeR, [0, 2])]
def rels3 : List Rela := [threeR, threeR, threeR]
def vars3 : List (List Int) := [[0, 1], [1, 2], [0, 2]]
theorem net3_eq : netOf rels3 vars3 = net3 := by kernel_rfl
theorem chk3 : checkF threeR = 0 := by
  unfold checkF
  have h1 : WideR threeR.arity threeR.rows := by
    refine ⟨by decide, by decide, ?_⟩
    intro r hr
    simp only [threeR, List.mem_cons, List.not_mem_nil, or_false] at hr
    rcases hr with rfl | rfl | rfl <;> rfl
  have h2 : RisesR threeR.rows := by
    intro i hi
    match i, hi with
    | 0, _ => exact of_decide_eq_true (by kernel_rfl)
    | 1, _ => exact of_decide_eq_true (by kernel_rfl)
    | k + 2, hi => exact absurd hi (by show ¬ k + 3 < 3; omega)
  rw [if_pos h1, if_neg (by decide), if_pos h2]
theorem chkOK3 : ChkOK 3 rels3 vars3 := by
  refine ⟨by decide, by decide, rfl, fun i hi => ?_, by decide, fun i hi => ?_, fun v hv => ?_⟩
  · match i, hi with
    | 0, _ => exact ⟨rfl, by kernel_rfl, fun _ => by decide, fun _ => by decide⟩
    | 1, _ => exact ⟨rfl, by kernel_rfl, fun _ => by decide, fun _ => by decide⟩
    | 2, _ => exact ⟨rfl, by kernel_rfl, fun _ => by decide, fun _ => by decide⟩
    | k + 3, hi => exact absurd hi (by show ¬ k + 3 < 3; omega)
  · match i, hi with
    | 0, _ => exact chk3
    | 1, _ => exact chk3
    | 2, _ => exact chk3
    | k + 3, hi => exact absurd hi (by show ¬ k + 3 < 3; omega)
  · have : v = 0 ∨ v = 1 ∨ v = 2 := by omega
    rcases this with rfl | rfl | rfl
    · exact ⟨[0, 1], by decide, by decide⟩
    · exact ⟨[0, 1], by decide, by decide⟩
    · exact ⟨[1, 2], by decide, by decide⟩
theorem light3 : Light net3 3 := by
  refine ⟨by decide, of_decide_eq_true (by kernel_rfl), fun i hi => ?_, fun i hi => ?_, fun i hi => ?_⟩
  all_goals (have : i = 0 ∨ i = 1 ∨ i = 2 := by omega)
  all_goals (rcases this with rfl | rfl | rfl)
  all_goals exact of_decide_eq_true (by kernel_rfl)
theorem join3 : joinF 3 rels3 vars3 = ⟨[[1, 2, 3]], ⟨[2, 1, 1], [2, 3, 1], [2, 2, 1]⟩, 0⟩ := by
  unfold joinF
  rw [if_pos (ok_jchk chkOK3), net3_eq]
  kernel_rfl
theorem small_dec {l : List (List Int)} (h : (decide (l.length ≤ 9223372036854775807) && l.all fun r => decide (r.length ≤ 1000000)) = true) : SmallRs l := by
  rw [Bool.and_eq_true] at h
  exact ⟨of_decide_eq_true h.1, fun r hr => of_decide_eq_true (p := r.length ≤ 1000000) (List.all_eq_true.1 h.2 r hr)⟩
theorem pre3 : JoinPre 3 rels3 vars3 := ⟨⟨by decide, fun r hr => by simp only [rels3, List.mem_cons, List.not_mem_nil, or_false, or_self] at hr; subst hr; exact small_dec rfl, small_dec rfl⟩, fun _ => by rw [net3_eq]; exact light3⟩
theorem jchk2 : jchkF 2 [⟨1, []⟩] [[0]] = 25 := by
  have hc : checkF ⟨1, []⟩ = 0 := by
    unfold checkF
    rw [if_pos ⟨by decide, by decide, fun r hr => by cases hr⟩, if_neg (by decide), if_pos (show RisesR [] from fun i hi => by cases hi)]
  unfold jchkF
  have hv : AllVar 2 [⟨1, []⟩] [[0]] ([[0]] : List (List Int)).length := fun i hi => by
    match i, hi with
    | 0, _ => exact ⟨rfl, by kernel_rfl, fun _ => by decide, fun _ => by decide⟩
  rw [if_neg (by decide), if_neg (fun h => h hv), if_neg (by decide), if_neg (fun h => h (by unfold relErr; rw [if_pos hc]; rfl)), if_neg (fun h => ?_)]
  obtain ⟨l, h1, h2⟩ := h 1 (by decide)
  rw [List.mem_singleton.1 h1] at h2
  revert h2; decide
theorem join2 : joinF 2 [⟨1, []⟩] [[0]] = ⟨[], ⟨[], [], []⟩, 25⟩ := by
  unfold joinF
  rw [if_neg (by rw [jchk2]; decide), jchk2]
theorem pre2 : JoinPre 2 [⟨1, []⟩] [[0]] := ⟨⟨by decide, fun r hr => by rw [List.mem_singleton.1 hr]; exact small_dec rfl, small_dec rfl⟩, fun h => by rw [jchk2] at h; cases h⟩
theorem meet1 : meetF ([[1, 3, 5, 7], [3, 4, 7], [1, 3, 7, 9]].map of) = ([3, 7], 6) := by kernel_rfl
end Go.Proofs.Ytpbgnnaaobamfaa

/-
  layer 33: the worked examples hold.
-/
namespace Go.Proofs.Ytpbgnnaaobamfaa
open Go.RowKit
set_option linter.unusedSimpArgs false
set_option linter.unusedVariables false
set_option maxRecDepth 100000

noncomputable def sThree : List AV → Option (Prop × AV) := spec0 (Enc.enc threeR)
noncomputable def CAl : Ctx := mkC Try.prog G0 [(11, .pure sMeet), (19, .pure sJoin), (27, .pure sThree), (13, .pure sInts), (20, .pure sTup)]
@[simp] theorem CAl_P : CAl.P = Try.prog := rfl
@[simp] theorem CAl_G : CAl.G = G0 := rfl
@[simp] theorem CAl_1 : CAl.S 11 = .pure sMeet := rfl
@[simp] theorem CAl_2 : CAl.S 19 = .pure sJoin := rfl
@[simp] theorem CAl_3 : CAl.S 27 = .pure sThree := rfl
@[simp] theorem CAl_4 : CAl.S 13 = .pure sInts := rfl
@[simp] theorem CAl_5 : CAl.S 20 = .pure sTup := rfl
theorem mixCAl : CAl.P.follows .mixedOrders = true := mixed
theorem sigCAl : SigOK CAl := sigOK_cons (entryPure (meetT) Try.func11 rfl (by decide)) (sigOK_cons (entryPure (joinP) Try.func19 rfl (by decide)) (sigOK_cons (entryPure (threeP) Try.func27 rfl (by decide)) (sigOK_cons (entryPure (intsP) Try.func13 rfl (by decide)) (sigOK_cons (entryPure (tuplesP) Try.func20 rfl (by decide)) (sigOK_nil _ _)))))
set_option maxHeartbeats 16000000 in
theorem aliveP : PureOK Try.prog G0 10 (spec0 (.bool true)) := by
  refine pure0 (C := CAl) sigCAl mixCAl Try.func10 rfl rfl rfl (by kernel_rfl) ?_
  have s22 : isScalT CAl 22 = false := by show isScalT ⟨Try.prog, fun _ => .no, G0⟩ 22 = false; kernel_rfl
  have s25 : isScalT CAl 25 = true := by show isScalT ⟨Try.prog, fun _ => .no, G0⟩ 25 = true; kernel_rfl
  have s31 : isScalT CAl 31 = false := by show isScalT ⟨Try.prog, fun _ => .no, G0⟩ 31 = false; kernel_rfl
  have s39 : isScalT CAl 39 = false := by show isScalT ⟨Try.prog, fun _ => .no, G0⟩ 39 = false; kernel_rfl
  have m1 : meetF [of [1, 3, 5, 7], of [3, 4, 7], of [1, 3, 7, 9]] = ([3, 7], 6) := meet1
  have p1 : MeetIn [[1, 3, 5, 7], [3, 4, 7], [1, 3, 7, 9]] := ⟨by decide, by decide⟩
  have q3 : JoinPre 3 [⟨2, [[1, 2], [1, 3], [2, 3]]⟩, ⟨2, [[1, 2], [1, 3], [2, 3]]⟩, ⟨2, [[1, 2], [1, 3], [2, 3]]⟩] [[0, 1], [1, 2], [0, 2]] := pre3
  have j3 : joinF 3 [⟨2, [[1, 2], [1, 3], [2, 3]]⟩, ⟨2, [[1, 2], [1, 3], [2, 3]]⟩, ⟨2, [[1, 2], [1, 3], [2, 3]]⟩] [[0, 1], [1, 2], [0, 2]] = ⟨[[1, 2, 3]], ⟨[2, 1, 1], [2, 3, 1], [2, 2, 1]⟩, 0⟩ := join3
  have j2 := join2
  have q2 := pre2
  have t1 : TupPre [[1, 2, 3]] [[1, 2, 3]] := ⟨⟨by decide, by decide⟩, by decide, by decide⟩
  simp [aev, cav, look, acallPure, abin, abinN, abinP, abinI, abinS, aun, aconv, afield, afieldAddr, aindexAddr, aindex, aslice, alow, ahigh, abuild, abuildGo, cellsOf, splice, fieldTy, alen, apick, amax, amin, aload, headV, aparts, abuildSlice, elParts, abytesStr, astore, amake, aappend, aclear, anew, arith, aresults, aresList, ares, spec0, spec1, spec2, spec3, spec4, eqCells, eqCell, abuildSlice, aparts, sThree, threeR, s22, s25, s31, s39, sMeet, m1, p1, resM, sJoin, q3, j3, resJ, q2, j2, sTup, t1, sInts]
  done
end Go.Proofs.Ytpbgnnaaobamfaa

/-
  layer 33: the law LeapfrogMeet.
-/
namespace Go.Proofs.Ytpbgnnaaobamfaa
open Go.RowKit
set_option linter.unusedSimpArgs false
set_option linter.unusedVariables false
set_option maxRecDepth 100000

theorem meetIn_brief {ls : List (List Int)} (h : Brief ls) : MeetIn ls := ⟨by have := h.1; omega, fun l hl => by have := h.2 l hl; omega⟩
theorem meetF_len {ls : List (List Int)} (h : Brief ls) : (meetF (ls.map of)).1.length ≤ 60 := by
  by_cases h0 : ls = []
  · subst h0; decide
  · have hS : ∀ l ∈ ls.map of, Inc l := fun l hl => by obtain ⟨a, _, rfl⟩ := List.mem_map.1 hl; exact of_sorted a
    have hg := meetF_good hS (by simpa using h0)
    rw [hg.1]
    have h1 : (common (ls.map of)).length ≤ (ix (ls.map of) 0).length := List.length_filter_le _ _
    have hp : 0 < ls.length := List.length_pos_iff.2 h0
    rw [ix_map hp] at h1
    have h2 := of_len (ix ls 0)
    have h3 := h.2 _ (ix_mem hp)
    omega
noncomputable def sAlive : List AV → Option (Prop × AV) := spec0 (.bool true)
noncomputable def CV1 : Ctx := mkC Try.prog G0 [(9, .pure sBrief), (10, .pure sAlive), (11, .pure sMeet), (12, .pure sMeet), (13, .pure sInts)]
@[simp] theorem CV1_P : CV1.P = Try.prog := rfl
@[simp] theorem CV1_G : CV1.G = G0 := rfl
@[simp] theorem CV1_1 : CV1.S 9 = .pure sBrief := rfl
@[simp] theorem CV1_2 : CV1.S 10 = .pure sAlive := rfl
@[simp] theorem CV1_3 : CV1.S 11 = .pure sMeet := rfl
@[simp] theorem CV1_4 : CV1.S 12 = .pure sMeet := rfl
@[simp] theorem CV1_5 : CV1.S 13 = .pure sInts := rfl
theorem mixCV1 : CV1.P.follows .mixedOrders = true := mixed
theorem sigCV1 : SigOK CV1 := sigOK_cons (entryPure (briefP) Try.func9 rfl (by decide)) (sigOK_cons (entryPure (aliveP) Try.func10 rfl (by decide)) (sigOK_cons (entryPure (meetT) Try.func11 rfl (by decide)) (sigOK_cons (entryPure (meetR) Try.func12 rfl (by decide)) (sigOK_cons (entryPure (intsP) Try.func13 rfl (by decide)) (sigOK_nil _ _)))))
set_option maxHeartbeats 8000000 in
theorem lawMeet : PureOK Try.prog G0 3 (spec1 (fun (_ : List (List Int)) => True) fun _ => .bool true) := by
  refine pure1 (C := CV1) sigCV1 mixCV1 Try.func3 rfl rfl rfl (by kernel_rfl) (by decide) (fun ls _ => ?_)
  by_cases hB : Brief ls
  case neg => simp [aev, cav, look, acallPure, abin, abinN, abinP, abinI, abinS, aun, aconv, afield, afieldAddr, aindexAddr, aindex, aslice, alow, ahigh, abuild, abuildGo, cellsOf, splice, fieldTy, alen, apick, amax, amin, aload, headV, aparts, abuildSlice, elParts, abytesStr, astore, amake, aappend, aclear, anew, arith, aresults, aresList, ares, spec0, spec1, spec2, spec3, spec4, eqCells, eqCell, sBrief, hB, sAlive]
  have hm := meetIn_brief hB
  have hl : (meetF (ls.map of)).1.length ≤ 10000000 := Nat.le_trans (meetF_len hB) (by decide)
  simp [aev, cav, look, acallPure, abin, abinN, abinP, abinI, abinS, aun, aconv, afield, afieldAddr, aindexAddr, aindex, aslice, alow, ahigh, abuild, abuildGo, cellsOf, splice, fieldTy, alen, apick, amax, amin, aload, headV, aparts, abuildSlice, elParts, abytesStr, astore, amake, aappend, aclear, anew, arith, aresults, aresList, ares, spec0, spec1, spec2, spec3, spec4, eqCells, eqCell, sBrief, hB, sAlive, sMeet, hm, resM, sInts, hl]
end Go.Proofs.Ytpbgnnaaobamfaa

/-
  layer 33: arguments read as rows and relations.
-/
namespace Go.Proofs.Ytpbgnnaaobamfaa
open Go.RowKit
set_option linter.unusedSimpArgs false
set_option linter.unusedVariables false
set_option maxRecDepth 100000

def WfI (l : List Int) : Prop := WfL I64 l
theorem reads_i : Reads Try.prog 3 Int I64 := reads_int (by kernel_rfl)
theorem reads_ints : Reads Try.prog 25 (List Int) WfI := reads_list (by kernel_rfl) (by kernel_rfl) (of_decide_eq_true (by kernel_rfl)) reads_i
theorem reads_rows : Reads Try.prog 22 (List (List Int)) (WfL WfI) := reads_list (e := 25) (by kernel_rfl) (by kernel_rfl) (of_decide_eq_true (by kernel_rfl)) reads_ints
def WfRel (r : Rela) : Prop := I64 r.arity ∧ WfL WfI r.rows
theorem reads_rel : Reads Try.prog 36 Rela WfRel := fun n => by
  intro H enc w held cs x hx
  obtain ⟨m, rfl, hl, hf⟩ := struct_cells ⟨_, rfl⟩ hx
  obtain ⟨y0, t0⟩ := hf 0 0 3 (by kernel_rfl)
  obtain ⟨y1, t1⟩ := hf 1 1 22 (by kernel_rfl)
  obtain ⟨a, wa, ca⟩ := reads_i m enc w held _ _ t0
  obtain ⟨b, wb, cb⟩ := reads_rows m enc w held _ _ t1
  exact ⟨⟨a, b⟩, ⟨wa, wb⟩, CellsD.split (o := 0) (s := 1) ca (CellsD.split (s := 1) cb (CellsD.last (by rw [hl, show szT Try.prog 36 = 2 by kernel_rfl]; exact Nat.le_refl _)))⟩
theorem reads_rels : Reads Try.prog 31 (List Rela) (WfL WfRel) := reads_list (e := 36) (by kernel_rfl) (by kernel_rfl) (of_decide_eq_true (by kernel_rfl)) reads_rel
end Go.Proofs.Ytpbgnnaaobamfaa

/-
  layer 33: the law LeapfrogMeets.
-/
namespace Go.Proofs.Ytpbgnnaaobamfaa
open Go.RowKit
set_option linter.unusedSimpArgs false
set_option linter.unusedVariables false
set_option maxRecDepth 100000

/-- What the law wants of the result. -/
structure MeetsOK (ls : List (List Int)) (l : List Int) (n : Nat) : Prop where
  mem : ∀ z, z ∈ l ↔ ∀ a ∈ ls, z ∈ a
  inc : Inc l
  few : ∀ j, j < ls.length → n ≤ ls.length * ((of (ix ls j)).length + 1)
theorem meets_ok {ls : List (List Int)} (h0 : ls ≠ []) : MeetsOK ls (meetF (ls.map of)).1 (meetF (ls.map of)).2 := by
  have hS : ∀ l ∈ ls.map of, Inc l := fun l hl => by obtain ⟨a, _, rfl⟩ := List.mem_map.1 hl; exact of_sorted a
  have hne : ls.map of ≠ [] := by simpa using h0
  have hp : 0 < ls.length := List.length_pos_iff.2 h0
  obtain ⟨g1, g2⟩ := meetF_good hS hne
  refine ⟨fun z => ?_, ?_, fun j hj => ?_⟩
  · rw [g1, mem_common hne]
    constructor
    · intro h a ha
      have := h _ (List.mem_map_of_mem ha)
      rwa [mem_of] at this
    · intro h l hl
      obtain ⟨a, ha, rfl⟩ := List.mem_map.1 hl
      rw [mem_of]; exact h a ha
  · rw [g1]
    exact (hS _ (ix_mem (by rw [List.length_map]; exact hp))).sublist List.filter_sublist
  · have := g2 j (by rw [List.length_map]; exact hj)
    rw [List.length_map, ix_map hj] at this
    exact this
theorem lt_true {a b : Int} (h : a < b) : (b ≤ a) = False := eq_false (by omega)
def LeastAt (ls : List (List Int)) (i m : Nat) : Prop := i = 0 ∧ m = 60 ∨ ∃ j, j < i ∧ m = (of (ix ls j)).length
noncomputable def CLb : Ctx := mkC Try.prog G0 [(9, .pure sBrief), (10, .pure sAlive), (11, .pure sMeet), (14, .pure sOfR), (15, .pure sHas)]
@[simp] theorem CLb_P : CLb.P = Try.prog := rfl
@[simp] theorem CLb_G : CLb.G = G0 := rfl
@[simp] theorem CLb_1 : CLb.S 9 = .pure sBrief := rfl
@[simp] theorem CLb_2 : CLb.S 10 = .pure sAlive := rfl
@[simp] theorem CLb_3 : CLb.S 11 = .pure sMeet := rfl
@[simp] theorem CLb_4 : CLb.S 14 = .pure sOfR := rfl
@[simp] theorem CLb_5 : CLb.S 15 = .pure sHas := rfl
theorem mixCLb : CLb.P.follows .mixedOrders = true := mixed
theorem sigCLb : SigOK CLb := sigOK_cons (entryPure (briefP) Try.func9 rfl (by decide)) (sigOK_cons (entryPure (aliveP) Try.func10 rfl (by decide)) (sigOK_cons (entryPure (meetT) Try.func11 rfl (by decide)) (sigOK_cons (entryPure (ofR) Try.func14 rfl (by decide)) (sigOK_cons (entryPure (hasP) Try.func15 rfl (by decide)) (sigOK_nil _ _)))))
structure M1 where
  i : Nat
  m : Nat
structure M2 where
  i : Nat
  a : Bool
set_option maxHeartbeats 32000000 in
theorem lawMeets : PureOK Try.prog G0 4 (spec1 (WfL WfI) fun _ => .bool true) := by
  refine pure1 (C := CLb) sigCLb mixCLb Try.func4 rfl rfl rfl (by kernel_rfl) (by decide) (fun ls hW => ?_)
  by_cases hB : Brief ls
  case neg => simp [aev, cav, look, acallPure, abin, abinN, abinP, abinI, abinS, aun, aconv, afield, afieldAddr, aindexAddr, aindex, aslice, alow, ahigh, abuild, abuildGo, cellsOf, splice, fieldTy, alen, apick, amax, amin, aload, headV, aparts, abuildSlice, elParts, abytesStr, astore, amake, aappend, aclear, anew, arith, aresults, aresList, ares, spec0, spec1, spec2, spec3, spec4, eqCells, eqCell, sBrief, hB, sAlive]
  have hm := meetIn_brief hB
  have hl60 := meetF_len hB
  by_cases h0 : ls.length = 0
  · have hls : ls = [] := List.length_eq_zero_iff.1 h0
    subst hls
    have e1 : meetF [] = ([], 0) := rfl
    simp [aev, cav, look, acallPure, abin, abinN, abinP, abinI, abinS, aun, aconv, afield, afieldAddr, aindexAddr, aindex, aslice, alow, ahigh, abuild, abuildGo, cellsOf, splice, fieldTy, alen, apick, amax, amin, aload, headV, aparts, abuildSlice, elParts, abytesStr, astore, amake, aappend, aclear, anew, arith, aresults, aresList, ares, spec0, spec1, spec2, spec3, spec4, eqCells, eqCell, sBrief, hB, sAlive, sMeet, hm, resM, e1]
  have hne : ls ≠ [] := fun e => h0 (by rw [e]; rfl)
  have hp : 0 < ls.length := by omega
  have hM := meets_ok hne
  obtain ⟨l, hl⟩ : ∃ l, l = (meetF (ls.map of)).1 := ⟨_, rfl⟩
  obtain ⟨n, hn⟩ : ∃ n, n = (meetF (ls.map of)).2 := ⟨_, rfl⟩
  rw [← hl, ← hn] at hM
  rw [← hl] at hl60
  have h30 := hB.1
  have h00 : ((ls.length : Int) = 0) = False := eq_false (by omega)
  have hn2 : n ≤ 30 * 61 := by
    have h1 := hM.few 0 hp
    have h2 := of_len (ix ls 0)
    have h3 := hB.2 _ (ix_mem hp)
    exact Nat.le_trans h1 (Nat.mul_le_mul h30 (by omega))
  simp [aev, cav, look, acallPure, abin, abinN, abinP, abinI, abinS, aun, aconv, afield, afieldAddr, aindexAddr, aindex, aslice, alow, ahigh, abuild, abuildGo, cellsOf, splice, fieldTy, alen, apick, amax, amin, aload, headV, aparts, abuildSlice, elParts, abytesStr, astore, amake, aappend, aclear, anew, arith, aresults, aresList, ares, spec0, spec1, spec2, spec3, spec4, eqCells, eqCell, sBrief, hB, sAlive, sMeet, hm, resM, ← hl, ← hn, h0, h00]
  refine loop_rule (C := CLb) sigCLb mixCLb (fun s : M1 => ⟨[(0, Enc.enc ls), (3, Enc.enc l), (4, .int .i64 n), (5, .int .i64 s.m), (6, .int .i64 s.i)], []⟩) (fun s => s.i ≤ ls.length ∧ LeastAt ls s.i s.m) (fun s => ls.length - s.i) (by kernel_rfl) ⟨⟨0, 60⟩, ⟨Nat.zero_le _, .inl ⟨rfl, rfl⟩⟩, weak_slots (by simp)⟩ (fun s ⟨h1, h2⟩ => ?_)
  obtain ⟨i, m⟩ := s
  simp only at h1 h2 ⊢
  have m60 : m ≤ 60 := by
    rcases h2 with ⟨_, rfl⟩ | ⟨j, hj, rfl⟩
    · exact Nat.le_refl _
    · exact Nat.le_trans (of_len _) (hB.2 _ (ix_mem (by omega)))
  by_cases hi : i < ls.length
  · have i1 : I64 ((i : Int) + 1) := by unfold I64; omega
    have hli := hB.2 _ (ix_mem hi)
    have hof := of_len (ix ls i)
    have ho9 : (ix ls i).length ≤ 900000 := by omega
    have hsr : SmallR (ix ls i) := by unfold SmallR; omega
    obtain ⟨m', hm'⟩ : ∃ m', m' = min m (of (ix ls i)).length := ⟨_, rfl⟩
    have hmi : min (m : Int) ((of (ix ls i)).length : Int) = (m' : Int) := by omega
    have hle : (if (of (ix ls i)).length < m then ((of (ix ls i)).length : Int) else (m : Int)) = (m' : Int) := by split <;> omega
    simp [aev, cav, look, acallPure, abin, abinN, abinP, abinI, abinS, aun, aconv, afield, afieldAddr, aindexAddr, aindex, aslice, alow, ahigh, abuild, abuildGo, cellsOf, splice, fieldTy, alen, apick, amax, amin, aload, headV, aparts, abuildSlice, elParts, abytesStr, astore, amake, aappend, aclear, anew, arith, aresults, aresList, ares, spec0, spec1, spec2, spec3, spec4, eqCells, eqCell, hi, rowAt_enc hi, sOfR, ho9, hmi, hle]
    refine loop_rule (C := CLb) sigCLb mixCLb (fun k : Nat => ⟨[(0, Enc.enc ls), (3, Enc.enc l), (4, .int .i64 n), (5, .int .i64 m'), (6, .int .i64 i), (7, .int .i64 k)], []⟩) (fun k => k ≤ l.length) (fun k => l.length - k) (by kernel_rfl) ⟨0, Nat.zero_le _, weak_slots (by simp [hmi, hle])⟩ (fun k hk0 => ?_)
    by_cases hk : k < l.length
    · have k1 : I64 ((k : Int) + 1) := by unfold I64; omega
      have hmem : ix l k ∈ ix ls i := (hM.mem _).1 (ix_mem hk) _ (ix_mem hi)
      rcases Nat.eq_zero_or_pos k with hz | hz
      · subst hz
        simp [aev, cav, look, acallPure, abin, abinN, abinP, abinI, abinS, aun, aconv, afield, afieldAddr, aindexAddr, aindex, aslice, alow, ahigh, abuild, abuildGo, cellsOf, splice, fieldTy, alen, apick, amax, amin, aload, headV, aparts, abuildSlice, elParts, abytesStr, astore, amake, aappend, aclear, anew, arith, aresults, aresList, ares, spec0, spec1, spec2, spec3, spec4, eqCells, eqCell, hi, rowAt_enc hi, hk, rowAt_enc hk, sHas, hsr, hmem, k1]
        exact ⟨1, by omega, by omega, weak_slots (by simp; rfl)⟩
      · obtain ⟨q, rfl⟩ : ∃ q, k = q + 1 := ⟨k - 1, by omega⟩
        have hq : q < l.length := by omega
        have hlt := inc_ix hM.inc (Nat.lt_succ_self q) hk
        have hle2 := lt_true hlt
        have q1 : I64 ((q : Int) + 1 + 1) := by unfold I64; omega
        have q2 : ((0 : Int) < (q : Int) + 1) = True := eq_true (by omega)
        have q3 : I64 (q : Int) := by unfold I64; omega
        have hrow := rowAt_enc hk
        have hkI : ((q : Int) + 1 < (l.length : Int)) = True := eq_true (by omega)
        have hkI2 : ((q : Int) + 1).toNat = q + 1 := by omega
        simp [aev, cav, look, acallPure, abin, abinN, abinP, abinI, abinS, aun, aconv, afield, afieldAddr, aindexAddr, aindex, aslice, alow, ahigh, abuild, abuildGo, cellsOf, splice, fieldTy, alen, apick, amax, amin, aload, headV, aparts, abuildSlice, elParts, abytesStr, astore, amake, aappend, aclear, anew, arith, aresults, aresList, ares, spec0, spec1, spec2, spec3, spec4, eqCells, eqCell, hi, rowAt_enc hi, hk, hrow, hq, rowAt_enc hq, sHas, hsr, hmem, k1, hlt, hle2, q1, q2, q3, hkI, hkI2]
        exact ⟨by omega, q + 2, by omega, by omega, weak_slots (by simp; omega)⟩
    · simp [aev, cav, look, acallPure, abin, abinN, abinP, abinI, abinS, aun, aconv, afield, afieldAddr, aindexAddr, aindex, aslice, alow, ahigh, abuild, abuildGo, cellsOf, splice, fieldTy, alen, apick, amax, amin, aload, headV, aparts, abuildSlice, elParts, abytesStr, astore, amake, aappend, aclear, anew, arith, aresults, aresList, ares, spec0, spec1, spec2, spec3, spec4, eqCells, eqCell, hk, i1]
      exact ⟨⟨i + 1, m'⟩, ⟨by simp only; omega, .inr (by
        rcases Nat.le_total m (of (ix ls i)).length with h | h
        · have e : m' = m := by omega
          rcases h2 with ⟨rfl, rfl⟩ | ⟨j, hj, he⟩
          · exact ⟨0, by simp, by simp only; omega⟩
          · exact ⟨j, by simp only; omega, by simp only; omega⟩
        · exact ⟨i, by simp, by simp only; omega⟩)⟩, by simp only; omega, weak_slots (by simp)⟩
  · have hii : i = ls.length := by omega
    subst hii
    simp [aev, cav, look, acallPure, abin, abinN, abinP, abinI, abinS, aun, aconv, afield, afieldAddr, aindexAddr, aindex, aslice, alow, ahigh, abuild, abuildGo, cellsOf, splice, fieldTy, alen, apick, amax, amin, aload, headV, aparts, abuildSlice, elParts, abytesStr, astore, amake, aappend, aclear, anew, arith, aresults, aresList, ares, spec0, spec1, spec2, spec3, spec4, eqCells, eqCell, hi]
    obtain ⟨t, ht⟩ : ∃ t, t = ix ls 0 := ⟨_, rfl⟩
    have ht60 := hB.2 _ (ix_mem hp)
    rw [← ht] at ht60
    have hsl : SmallR l := by unfold SmallR; omega
    have hr0 : rowAt (encRows ls) 0 = Enc.cells t := by rw [rowAt_enc hp, ht]
    refine loop_rule (C := CLb) sigCLb mixCLb (fun k : Nat => ⟨[(0, Enc.enc ls), (3, Enc.enc l), (4, .int .i64 n), (5, .int .i64 m), (8, .int .i64 k)], []⟩) (fun k => k ≤ t.length) (fun k => t.length - k) (by kernel_rfl) ⟨0, Nat.zero_le _, weak_slots (by simp)⟩ (fun k hk0 => ?_)
    by_cases hk : k < t.length
    · have k1 : I64 ((k : Int) + 1) := by unfold I64; omega
      simp [aev, cav, look, acallPure, abin, abinN, abinP, abinI, abinS, aun, aconv, afield, afieldAddr, aindexAddr, aindex, aslice, alow, ahigh, abuild, abuildGo, cellsOf, splice, fieldTy, alen, apick, amax, amin, aload, headV, aparts, abuildSlice, elParts, abytesStr, astore, amake, aappend, aclear, anew, arith, aresults, aresList, ares, spec0, spec1, spec2, spec3, spec4, eqCells, eqCell, hp, hr0, hk]
      refine loop_rule (C := CLb) sigCLb mixCLb (fun s : M2 => ⟨[(0, Enc.enc ls), (3, Enc.enc l), (4, .int .i64 n), (5, .int .i64 m), (8, .int .i64 k), (9, .bool s.a), (10, .int .i64 s.i)], []⟩) (fun s => s.i ≤ ls.length ∧ (s.a = true ↔ ∀ j, j < s.i → ix t k ∈ ix ls j)) (fun s => ls.length - s.i) (by kernel_rfl) ⟨⟨0, true⟩, ⟨Nat.zero_le _, by simp⟩, weak_slots (by simp)⟩ (fun s ⟨g1, g2⟩ => ?_)
      obtain ⟨i, a⟩ := s
      simp only at g1 g2 ⊢
      by_cases hi : i < ls.length
      · have i1 : I64 ((i : Int) + 1) := by unfold I64; omega
        have hli := hB.2 _ (ix_mem hi)
        have hsr : SmallR (ix ls i) := by unfold SmallR; omega
        cases a with
        | false =>
          simp [aev, cav, look, acallPure, abin, abinN, abinP, abinI, abinS, aun, aconv, afield, afieldAddr, aindexAddr, aindex, aslice, alow, ahigh, abuild, abuildGo, cellsOf, splice, fieldTy, alen, apick, amax, amin, aload, headV, aparts, abuildSlice, elParts, abytesStr, astore, amake, aappend, aclear, anew, arith, aresults, aresList, ares, spec0, spec1, spec2, spec3, spec4, eqCells, eqCell, hi, rowAt_enc hi, i1]
          exact ⟨⟨i + 1, false⟩, ⟨by simp only; omega, by
            simp only [Bool.false_eq_true, false_iff] at g2 ⊢
            exact fun h => g2 fun j hj => h j (by omega)⟩, by simp only; omega, weak_slots (by simp)⟩
        | true =>
          rcases em2 (ix t k ∈ ix ls i) with e | e
          · simp [aev, cav, look, acallPure, abin, abinN, abinP, abinI, abinS, aun, aconv, afield, afieldAddr, aindexAddr, aindex, aslice, alow, ahigh, abuild, abuildGo, cellsOf, splice, fieldTy, alen, apick, amax, amin, aload, headV, aparts, abuildSlice, elParts, abytesStr, astore, amake, aappend, aclear, anew, arith, aresults, aresList, ares, spec0, spec1, spec2, spec3, spec4, eqCells, eqCell, hi, rowAt_enc hi, hp, hr0, hk, rowAt_enc hk, sHas, hsr, e, i1]
            exact ⟨⟨i + 1, true⟩, ⟨by simp only; omega, by
              simp only [true_iff] at g2 ⊢
              intro j hj
              rcases Nat.lt_or_eq_of_le (Nat.le_of_lt_succ hj) with h | rfl
              · exact g2 j h
              · exact of_eq_true e⟩, by simp only; omega, weak_slots (by simp)⟩
          · simp [aev, cav, look, acallPure, abin, abinN, abinP, abinI, abinS, aun, aconv, afield, afieldAddr, aindexAddr, aindex, aslice, alow, ahigh, abuild, abuildGo, cellsOf, splice, fieldTy, alen, apick, amax, amin, aload, headV, aparts, abuildSlice, elParts, abytesStr, astore, amake, aappend, aclear, anew, arith, aresults, aresList, ares, spec0, spec1, spec2, spec3, spec4, eqCells, eqCell, hi, rowAt_enc hi, hp, hr0, hk, rowAt_enc hk, sHas, hsr, e, i1]
            exact ⟨⟨i + 1, false⟩, ⟨by simp only; omega, by
              simp only [Bool.false_eq_true, false_iff]
              exact fun h => of_eq_false e (h i (by simp))⟩, by simp only; omega, weak_slots (by simp)⟩
      · have e : i = ls.length := by omega
        subst e
        have hiff : a = true ↔ ix t k ∈ l := by
          rw [g2, hM.mem]
          constructor
          · intro h b hb
            obtain ⟨j, hj, rfl⟩ := mem_ix hb
            exact h j hj
          · intro h j hj
            exact h _ (ix_mem hj)
        have hdec : decide (ix t k ∈ l) = a := by
          cases a with
          | true => exact decide_eq_true (hiff.1 rfl)
          | false => exact decide_eq_false fun h => Bool.false_ne_true (hiff.2 h)
        simp [aev, cav, look, acallPure, abin, abinN, abinP, abinI, abinS, aun, aconv, afield, afieldAddr, aindexAddr, aindex, aslice, alow, ahigh, abuild, abuildGo, cellsOf, splice, fieldTy, alen, apick, amax, amin, aload, headV, aparts, abuildSlice, elParts, abytesStr, astore, amake, aappend, aclear, anew, arith, aresults, aresList, ares, spec0, spec1, spec2, spec3, spec4, eqCells, eqCell, hi, hp, hr0, hk, rowAt_enc hk, sHas, hsl, hdec, k1]
        exact ⟨k + 1, by omega, by omega, weak_slots (by simp)⟩
    · have hseek : ∃ j, j < ls.length ∧ m = (of (ix ls j)).length := by
        rcases h2 with ⟨h, _⟩ | h
        · omega
        · exact h
      obtain ⟨j, hj, hmj⟩ := hseek
      have hfew := hM.few j hj
      rw [← hmj] at hfew
      have f1 : ((n : Int) ≤ (ls.length : Int) * ((m : Int) + 1)) = True := eq_true (by
        have : ((ls.length * (m + 1) : Nat) : Int) = (ls.length : Int) * ((m : Int) + 1) := by simp
        omega)
      have f2 : I64 ((m : Int) + 1) := by unfold I64; omega
      have f3 : I64 ((ls.length : Int) * ((m : Int) + 1)) := by
        have : ((ls.length * (m + 1) : Nat) : Int) = (ls.length : Int) * ((m : Int) + 1) := by simp
        have h4 : ls.length * (m + 1) ≤ 30 * 61 := Nat.mul_le_mul h30 (by omega)
        unfold I64; omega
      simp [aev, cav, look, acallPure, abin, abinN, abinP, abinI, abinS, aun, aconv, afield, afieldAddr, aindexAddr, aindex, aslice, alow, ahigh, abuild, abuildGo, cellsOf, splice, fieldTy, alen, apick, amax, amin, aload, headV, aparts, abuildSlice, elParts, abytesStr, astore, amake, aappend, aclear, anew, arith, aresults, aresList, ares, spec0, spec1, spec2, spec3, spec4, eqCells, eqCell, hp, hr0, hk, sAlive, f1, f2, f3]
end Go.Proofs.Ytpbgnnaaobamfaa

/-
  layer 33, the reference: column, columns, Check.
-/
namespace Go.Proofs.Ytpbgnnaaobamfaa
open Go.RowKit
set_option linter.unusedSimpArgs false
set_option linter.unusedVariables false
set_option maxRecDepth 100000

def colN : List Int → Int → Nat
  | [], _ => 0
  | x :: r, v => if x = v then 0 else colN r v + 1
def colF (l : List Int) (v : Int) : Int := if v ∈ l then (colN l v : Int) else -1
theorem colN_at : ∀ {l : List Int} {v : Int} {i : Nat}, i < l.length → (∀ j, j < i → ix l j ≠ v) → ix l i = v → colN l v = i
  | x :: r, v, 0, _, _, h => by
    have h : x = v := h
    show (if x = v then 0 else colN r v + 1) = 0
    rw [if_pos h]
  | x :: r, v, i + 1, hi, hz, h => by
    have h0 : x ≠ v := hz 0 (by omega)
    show (if x = v then 0 else colN r v + 1) = i + 1
    rw [if_neg h0, colN_at (l := r) (i := i) (by simpa using hi) (fun j hj => hz (j + 1) (by omega)) h]
theorem col_lbd {l : List Int} {v : Int} (h : Inc l) (hm : v ∈ l) : colF l v = (lbd l v : Int) := by
  obtain ⟨i, hi, e⟩ := mem_ix hm
  have h1 : ∀ j, j < i → ix l j < v := fun j hj => by rw [← e]; exact inc_ix h hj hi
  unfold colF
  rw [if_pos hm, colN_at hi (fun j hj => by have := h1 j hj; omega) e, lbd_at h1 (Nat.le_of_lt hi) (fun _ => by omega)]
theorem col_ge {l : List Int} {v : Int} : 0 ≤ colF l v ↔ v ∈ l := by
  unfold colF
  split
  · rename_i h; exact ⟨fun _ => h, fun _ => by omega⟩
  · rename_i h; exact ⟨fun h2 => absurd h2 (by decide), fun h2 => absurd h2 h⟩
def sCol : List AV → Option (Prop × AV) := spec2 (fun (l : List Int) (_ : Int) => SmallR l) (fun l v => .int .i64 (colF l v))
set_option maxHeartbeats 8000000 in
theorem colR : PureOK Try.prog G0 34 sCol := by
  refine pure2 (C := CE) sigCE mixCE Try.func34 rfl rfl rfl (by kernel_rfl) (by decide) (fun l v hl => ?_)
  unfold SmallR at hl
  simp [aev, cav, look, acallPure, abin, abinN, abinP, abinI, abinS, aun, aconv, afield, afieldAddr, aindexAddr, aindex, aslice, alow, ahigh, abuild, abuildGo, cellsOf, splice, fieldTy, alen, apick, amax, amin, aload, headV, aparts, abuildSlice, elParts, abytesStr, astore, amake, aappend, aclear, anew, arith, aresults, aresList, ares, spec0, spec1, spec2, spec3, spec4, eqCells, eqCell]
  refine loop_rule (C := CE) sigCE mixCE (fun i : Nat => ⟨[(0, Enc.enc l), (1, .int .i64 v), (5, .int .i64 i)], []⟩) (fun i => i ≤ l.length ∧ ∀ j, j < i → ix l j ≠ v) (fun i => l.length - i) (by kernel_rfl) ⟨0, ⟨Nat.zero_le _, fun j hj => by omega⟩, weak_slots (by simp)⟩ (fun i ⟨h0, h1⟩ => ?_)
  by_cases hi : i < l.length
  · have i1 : I64 ((i : Int) + 1) := by unfold I64; omega
    rcases em2 (ix l i = v) with e | e
    · have hc : colF l v = (i : Int) := by unfold colF; rw [if_pos (of_eq_true e ▸ ix_mem hi), colN_at hi h1 (of_eq_true e)]
      simp [aev, cav, look, acallPure, abin, abinN, abinP, abinI, abinS, aun, aconv, afield, afieldAddr, aindexAddr, aindex, aslice, alow, ahigh, abuild, abuildGo, cellsOf, splice, fieldTy, alen, apick, amax, amin, aload, headV, aparts, abuildSlice, elParts, abytesStr, astore, amake, aappend, aclear, anew, arith, aresults, aresList, ares, spec0, spec1, spec2, spec3, spec4, eqCells, eqCell, hi, rowAt_enc hi, e, hc]
    · simp [aev, cav, look, acallPure, abin, abinN, abinP, abinI, abinS, aun, aconv, afield, afieldAddr, aindexAddr, aindex, aslice, alow, ahigh, abuild, abuildGo, cellsOf, splice, fieldTy, alen, apick, amax, amin, aload, headV, aparts, abuildSlice, elParts, abytesStr, astore, amake, aappend, aclear, anew, arith, aresults, aresList, ares, spec0, spec1, spec2, spec3, spec4, eqCells, eqCell, hi, rowAt_enc hi, e, i1]
      exact ⟨i + 1, ⟨by omega, fun j hj => by
        rcases Nat.lt_or_eq_of_le (Nat.le_of_lt_succ hj) with h | rfl
        · exact h1 j h
        · exact of_eq_false e⟩, by omega, weak_slots (by simp)⟩
  · have hc : colF l v = -1 := by
      unfold colF
      rw [if_neg fun hx => by
        obtain ⟨j, hj, e⟩ := mem_ix hx
        exact h1 j (by omega) e]
    simp [aev, cav, look, acallPure, abin, abinN, abinP, abinI, abinS, aun, aconv, afield, afieldAddr, aindexAddr, aindex, aslice, alow, ahigh, abuild, abuildGo, cellsOf, splice, fieldTy, alen, apick, amax, amin, aload, headV, aparts, abuildSlice, elParts, abytesStr, astore, amake, aappend, aclear, anew, arith, aresults, aresList, ares, spec0, spec1, spec2, spec3, spec4, eqCells, eqCell, hi, hc]

/-! ### The variables of a relation -/
def VarAt (n : Int) (l : List Int) (k : Nat) : Prop := ∀ c, c < k → 0 ≤ ix l c ∧ ix l c < n ∧ (0 < c → ix l (c - 1) < ix l c)
theorem varOK_of {n : Int} {r : Rela} {l : List Int} (h : (l.length : Int) = r.arity) (hA : VarAt n l l.length) : VarOK n r l := by
  refine ⟨h, valid_true fun i hi => ?_, fun hne => ?_, fun hne => ?_⟩
  · have := (hA (i + 1) hi).2.2 (by omega)
    rwa [Nat.add_sub_cancel, ix_lt hi, ix_lt (show i < l.length by omega)] at this
  · exact (hA 0 (List.length_pos_iff.2 hne)).1
  · have := List.length_pos_iff.2 hne
    exact (hA (l.length - 1) (by omega)).2.1
theorem varOK_at {n : Int} {r : Rela} {l : List Int} (h : VarOK n r l) : VarAt n l l.length := fun c hc => by
  have hne : l ≠ [] := List.length_pos_iff.1 (by omega)
  have hinc : Inc l := by have h := h.inc; unfold valid at h; exact of_decide_eq_true (p := l.Pairwise (· < ·)) h
  have h1 := inc_le hinc (Nat.zero_le c) hc
  have h2 := inc_le hinc (show c ≤ l.length - 1 by omega) (show l.length - 1 < l.length by omega)
  have h3 := h.lo hne
  have h4 := h.hi hne
  exact ⟨by omega, by omega, fun h0 => inc_ix hinc (by omega) hc⟩
open Classical in
noncomputable def sCols : List AV → Option (Prop × AV) := spec3 (fun (_ : Int) (_ : Rela) (l : List Int) => SmallR l) (fun n r l => .bool (decide (VarOK n r l)))
set_option maxHeartbeats 16000000 in
open Classical in
theorem colsR : PureOK Try.prog G0 32 sCols := by
  refine pure3 (C := CE) sigCE mixCE Try.func32 rfl rfl rfl (by kernel_rfl) (by decide) (fun n r l hl => ?_)
  unfold SmallR at hl
  rcases em2 ((l.length : Int) = r.arity) with ha | ha
  case inr =>
    have e : VarOK n r l = False := eq_false fun h => of_eq_false ha h.len
    simp [aev, cav, look, acallPure, abin, abinN, abinP, abinI, abinS, aun, aconv, afield, afieldAddr, aindexAddr, aindex, aslice, alow, ahigh, abuild, abuildGo, cellsOf, splice, fieldTy, alen, apick, amax, amin, aload, headV, aparts, abuildSlice, elParts, abytesStr, astore, amake, aappend, aclear, anew, arith, aresults, aresList, ares, spec0, spec1, spec2, spec3, spec4, eqCells, eqCell, ha, e]
  have ha' := of_eq_true ha
  simp [aev, cav, look, acallPure, abin, abinN, abinP, abinI, abinS, aun, aconv, afield, afieldAddr, aindexAddr, aindex, aslice, alow, ahigh, abuild, abuildGo, cellsOf, splice, fieldTy, alen, apick, amax, amin, aload, headV, aparts, abuildSlice, elParts, abytesStr, astore, amake, aappend, aclear, anew, arith, aresults, aresList, ares, spec0, spec1, spec2, spec3, spec4, eqCells, eqCell, ha]
  refine loop_rule (C := CE) sigCE mixCE (fun i : Nat => ⟨[(0, .int .i64 n), (2, Enc.enc l), (7, .int .i64 i)], [RB r]⟩) (fun i => i ≤ l.length ∧ VarAt n l i) (fun i => l.length - i) (by kernel_rfl) ⟨0, ⟨Nat.zero_le _, fun j hj => by omega⟩, weak_slots (by simp [RB])⟩ (fun i ⟨h0, h1⟩ => ?_)
  by_cases hi : i < l.length
  · have i1 : I64 ((i : Int) + 1) := by unfold I64; omega
    have bad : ¬ (0 ≤ ix l i ∧ ix l i < n ∧ (0 < i → ix l (i - 1) < ix l i)) → VarOK n r l = False := fun hb => eq_false fun h => hb (varOK_at h i hi)
    by_cases c1 : ix l i < 0
    · have e := bad fun h => by omega
      simp [aev, cav, look, acallPure, abin, abinN, abinP, abinI, abinS, aun, aconv, afield, afieldAddr, aindexAddr, aindex, aslice, alow, ahigh, abuild, abuildGo, cellsOf, splice, fieldTy, alen, apick, amax, amin, aload, headV, aparts, abuildSlice, elParts, abytesStr, astore, amake, aappend, aclear, anew, arith, aresults, aresList, ares, spec0, spec1, spec2, spec3, spec4, eqCells, eqCell, hi, rowAt_enc hi, c1, e]
    by_cases c2 : n ≤ ix l i
    · have e := bad fun h => by omega
      simp [aev, cav, look, acallPure, abin, abinN, abinP, abinI, abinS, aun, aconv, afield, afieldAddr, aindexAddr, aindex, aslice, alow, ahigh, abuild, abuildGo, cellsOf, splice, fieldTy, alen, apick, amax, amin, aload, headV, aparts, abuildSlice, elParts, abytesStr, astore, amake, aappend, aclear, anew, arith, aresults, aresList, ares, spec0, spec1, spec2, spec3, spec4, eqCells, eqCell, hi, rowAt_enc hi, c1, c2, e]
    rcases Nat.eq_zero_or_pos i with hz | hz
    · subst hz
      simp [aev, cav, look, acallPure, abin, abinN, abinP, abinI, abinS, aun, aconv, afield, afieldAddr, aindexAddr, aindex, aslice, alow, ahigh, abuild, abuildGo, cellsOf, splice, fieldTy, alen, apick, amax, amin, aload, headV, aparts, abuildSlice, elParts, abytesStr, astore, amake, aappend, aclear, anew, arith, aresults, aresList, ares, spec0, spec1, spec2, spec3, spec4, eqCells, eqCell, hi, rowAt_enc hi, c1, c2]
      exact ⟨1, ⟨by omega, fun c hc => by
        have : c = 0 := by omega
        subst this
        exact ⟨by omega, by omega, fun h => absurd h (by omega)⟩⟩, by omega, weak_slots (by simp; rfl)⟩
    · obtain ⟨q, rfl⟩ : ∃ q, i = q + 1 := ⟨i - 1, by omega⟩
      have hq : q < l.length := by omega
      have q2 : ((0 : Int) < (q : Int) + 1) = True := eq_true (by omega)
      have q3 : I64 (q : Int) := by unfold I64; omega
      have q4 : I64 ((q : Int) + 1 + 1) := by unfold I64; omega
      have hkI : ((q : Int) + 1 < (l.length : Int)) = True := eq_true (by omega)
      have hkI2 : ((q : Int) + 1).toNat = q + 1 := by omega
      have hkI3 : ((0 : Int) ≤ (q : Int) + 1) = True := eq_true (by omega)
      by_cases c3 : ix l (q + 1) ≤ ix l q
      · have e := bad fun h => by have := h.2.2 (by omega); rw [Nat.add_sub_cancel] at this; omega
        simp [aev, cav, look, acallPure, abin, abinN, abinP, abinI, abinS, aun, aconv, afield, afieldAddr, aindexAddr, aindex, aslice, alow, ahigh, abuild, abuildGo, cellsOf, splice, fieldTy, alen, apick, amax, amin, aload, headV, aparts, abuildSlice, elParts, abytesStr, astore, amake, aappend, aclear, anew, arith, aresults, aresList, ares, spec0, spec1, spec2, spec3, spec4, eqCells, eqCell, hi, hq, rowAt_enc hi, rowAt_enc hq, c1, c2, c3, q2, q3, hkI, hkI2, hkI3, e]
        try omega
      · simp [aev, cav, look, acallPure, abin, abinN, abinP, abinI, abinS, aun, aconv, afield, afieldAddr, aindexAddr, aindex, aslice, alow, ahigh, abuild, abuildGo, cellsOf, splice, fieldTy, alen, apick, amax, amin, aload, headV, aparts, abuildSlice, elParts, abytesStr, astore, amake, aappend, aclear, anew, arith, aresults, aresList, ares, spec0, spec1, spec2, spec3, spec4, eqCells, eqCell, hi, hq, rowAt_enc hi, rowAt_enc hq, c1, c2, c3, q2, q3, q4, hkI, hkI2, hkI3]
        refine ⟨q + 2, ⟨by omega, fun c hc => ?_⟩, by omega, weak_slots (by simp; omega)⟩
        rcases Nat.lt_or_eq_of_le (Nat.le_of_lt_succ hc) with h | rfl
        · exact h1 c h
        · exact ⟨by omega, by omega, fun _ => by rw [Nat.add_sub_cancel]; omega⟩
  · have e : VarOK n r l = True := eq_true (varOK_of ha' (by have : i = l.length := by omega
                                                             rw [← this]; exact h1))
    simp [aev, cav, look, acallPure, abin, abinN, abinP, abinI, abinS, aun, aconv, afield, afieldAddr, aindexAddr, aindex, aslice, alow, ahigh, abuild, abuildGo, cellsOf, splice, fieldTy, alen, apick, amax, amin, aload, headV, aparts, abuildSlice, elParts, abytesStr, astore, amake, aappend, aclear, anew, arith, aresults, aresList, ares, spec0, spec1, spec2, spec3, spec4, eqCells, eqCell, hi, e]
end Go.Proofs.Ytpbgnnaaobamfaa

/-
  layer 33, the reference: Check.
-/
namespace Go.Proofs.Ytpbgnnaaobamfaa
open Go.RowKit
set_option linter.unusedSimpArgs false
set_option linter.unusedVariables false
set_option maxRecDepth 100000

structure M3 where
  i : Nat
  a : Bool
noncomputable def CK17 : Ctx := mkC Try.prog G0 [(32, .pure sCols), (34, .pure sCol), (33, .pure sCheck)]
@[simp] theorem CK17_P : CK17.P = Try.prog := rfl
@[simp] theorem CK17_G : CK17.G = G0 := rfl
@[simp] theorem CK17_1 : CK17.S 32 = .pure sCols := rfl
@[simp] theorem CK17_2 : CK17.S 34 = .pure sCol := rfl
@[simp] theorem CK17_3 : CK17.S 33 = .pure sCheck := rfl
theorem mixCK17 : CK17.P.follows .mixedOrders = true := mixed
theorem sigCK17 : SigOK CK17 := sigOK_cons (entryPure (colsR) Try.func32 rfl (by decide)) (sigOK_cons (entryPure (colR) Try.func34 rfl (by decide)) (sigOK_cons (entryPure (checkR) Try.func33 rfl (by decide)) (sigOK_nil _ _)))
set_option maxHeartbeats 32000000 in
open Classical in
theorem jchkR : PureOK Try.prog G0 17 sJChk := by
  refine pure3 (C := CK17) sigCK17 mixCK17 Try.func17 rfl rfl rfl (by kernel_rfl) (by decide) (fun n rels vars ⟨hrl, hrS, hvl, hvS⟩ => ?_)
  have one : (n < 1 ∨ 24 < n ∨ vars.length ≠ rels.length) → jchkF n rels vars = 1 := fun h => by unfold jchkF; rw [if_pos h]
  by_cases h1 : n < 1
  · simp [aev, cav, look, acallPure, abin, abinN, abinP, abinI, abinS, aun, aconv, afield, afieldAddr, aindexAddr, aindex, aslice, alow, ahigh, abuild, abuildGo, cellsOf, splice, fieldTy, alen, apick, amax, amin, aload, headV, aparts, abuildSlice, elParts, abytesStr, astore, amake, aappend, aclear, anew, arith, aresults, aresList, ares, spec0, spec1, spec2, spec3, spec4, eqCells, eqCell, h1, one (.inl h1)]
  by_cases h2 : 24 < n
  · simp [aev, cav, look, acallPure, abin, abinN, abinP, abinI, abinS, aun, aconv, afield, afieldAddr, aindexAddr, aindex, aslice, alow, ahigh, abuild, abuildGo, cellsOf, splice, fieldTy, alen, apick, amax, amin, aload, headV, aparts, abuildSlice, elParts, abytesStr, astore, amake, aappend, aclear, anew, arith, aresults, aresList, ares, spec0, spec1, spec2, spec3, spec4, eqCells, eqCell, h1, h2, one (.inr (.inl h2))]
  rcases em2 ((vars.length : Int) = rels.length) with h3 | h3
  case inr =>
    have h3' : vars.length ≠ rels.length := fun e => of_eq_false h3 (by omega)
    simp [aev, cav, look, acallPure, abin, abinN, abinP, abinI, abinS, aun, aconv, afield, afieldAddr, aindexAddr, aindex, aslice, alow, ahigh, abuild, abuildGo, cellsOf, splice, fieldTy, alen, apick, amax, amin, aload, headV, aparts, abuildSlice, elParts, abytesStr, astore, amake, aappend, aclear, anew, arith, aresults, aresList, ares, spec0, spec1, spec2, spec3, spec4, eqCells, eqCell, h1, h2, h3, one (.inr (.inr h3'))]
  have h3' : vars.length = rels.length := by have := of_eq_true h3; omega
  have hno : ¬ (n < 1 ∨ 24 < n ∨ vars.length ≠ rels.length) := by rintro (h | h | h); exact h1 h; exact h2 h; exact h h3'
  simp [aev, cav, look, acallPure, abin, abinN, abinP, abinI, abinS, aun, aconv, afield, afieldAddr, aindexAddr, aindex, aslice, alow, ahigh, abuild, abuildGo, cellsOf, splice, fieldTy, alen, apick, amax, amin, aload, headV, aparts, abuildSlice, elParts, abytesStr, astore, amake, aappend, aclear, anew, arith, aresults, aresList, ares, spec0, spec1, spec2, spec3, spec4, eqCells, eqCell, h1, h2, h3]
  refine loop_rule (C := CK17) sigCK17 mixCK17 (fun i : Nat => ⟨[(0, .int .i64 n), (1, Enc.enc rels), (2, Enc.enc vars), (7, .int .i64 i)], []⟩) (fun i => i ≤ vars.length ∧ AllVar n rels vars i) (fun i => vars.length - i) (by kernel_rfl) ⟨0, ⟨Nat.zero_le _, fun i hi => absurd hi (Nat.not_lt_zero _)⟩, weak_slots (by simp)⟩ (fun i ⟨hi, hA⟩ => ?_)
  by_cases hlt : i < vars.length
  · have hlr : i < rels.length := by omega
    have i1 : I64 ((i : Int) + 1) := by unfold I64; omega
    have hsl := hvS _ (ix_mem hlt)
    rcases em2 (VarOK n (ix rels i) (ix vars i)) with hv | hv
    · simp [aev, cav, look, acallPure, abin, abinN, abinP, abinI, abinS, aun, aconv, afield, afieldAddr, aindexAddr, aindex, aslice, alow, ahigh, abuild, abuildGo, cellsOf, splice, fieldTy, alen, apick, amax, amin, aload, headV, aparts, abuildSlice, elParts, abytesStr, astore, amake, aappend, aclear, anew, arith, aresults, aresList, ares, spec0, spec1, spec2, spec3, spec4, eqCells, eqCell, hlt, hlr, rowAt_enc hlt, rowAt_enc hlr, sCols, hsl, hv, i1]
      exact ⟨i + 1, ⟨by omega, hA.succ (of_eq_true hv)⟩, by omega, weak_slots (by simp)⟩
    · have e : jchkF n rels vars = 1 := by
        unfold jchkF
        rw [if_neg hno, if_pos (fun (h : AllVar n rels vars vars.length) => of_eq_false hv (h i hlt))]
      simp [aev, cav, look, acallPure, abin, abinN, abinP, abinI, abinS, aun, aconv, afield, afieldAddr, aindexAddr, aindex, aslice, alow, ahigh, abuild, abuildGo, cellsOf, splice, fieldTy, alen, apick, amax, amin, aload, headV, aparts, abuildSlice, elParts, abytesStr, astore, amake, aappend, aclear, anew, arith, aresults, aresList, ares, spec0, spec1, spec2, spec3, spec4, eqCells, eqCell, hlt, hlr, rowAt_enc hlt, rowAt_enc hlr, sCols, hsl, hv, e]
  have hie : i = vars.length := by omega
  subst hie
  have hlt' : ¬ vars.length < rels.length := by omega
  by_cases h12 : 12 < rels.length
  · have h12' : (12 : Int) < rels.length := by omega
    have e : jchkF n rels vars = 4 := by unfold jchkF; rw [if_neg hno, if_neg (fun h => h hA), if_pos h12]
    simp [aev, cav, look, acallPure, abin, abinN, abinP, abinI, abinS, aun, aconv, afield, afieldAddr, aindexAddr, aindex, aslice, alow, ahigh, abuild, abuildGo, cellsOf, splice, fieldTy, alen, apick, amax, amin, aload, headV, aparts, abuildSlice, elParts, abytesStr, astore, amake, aappend, aclear, anew, arith, aresults, aresList, ares, spec0, spec1, spec2, spec3, spec4, eqCells, eqCell, hlt', h12, h12', e]
  have h12' : ¬ (12 : Int) < rels.length := by omega
  simp [aev, cav, look, acallPure, abin, abinN, abinP, abinI, abinS, aun, aconv, afield, afieldAddr, aindexAddr, aindex, aslice, alow, ahigh, abuild, abuildGo, cellsOf, splice, fieldTy, alen, apick, amax, amin, aload, headV, aparts, abuildSlice, elParts, abytesStr, astore, amake, aappend, aclear, anew, arith, aresults, aresList, ares, spec0, spec1, spec2, spec3, spec4, eqCells, eqCell, hlt', h12, h12']
  refine loop_rule (C := CK17) sigCK17 mixCK17 (fun i : Nat => ⟨[(0, .int .i64 n), (1, Enc.enc rels), (2, Enc.enc vars), (8, .int .i64 i)], []⟩) (fun i => i ≤ rels.length ∧ ∀ j, j < i → checkF (ix rels j) = 0) (fun i => rels.length - i) (by kernel_rfl) ⟨0, ⟨Nat.zero_le _, fun i hi => absurd hi (Nat.not_lt_zero _)⟩, weak_slots (by simp)⟩ (fun i ⟨hi2, hZ⟩ => ?_)
  by_cases hlt2 : i < rels.length
  · have i1 : I64 ((i : Int) + 1) := by unfold I64; omega
    have hr := hrS _ (ix_mem hlt2)
    rcases em2 (checkF (ix rels i) = 0) with z | z
    · simp [aev, cav, look, acallPure, abin, abinN, abinP, abinI, abinS, aun, aconv, afield, afieldAddr, aindexAddr, aindex, aslice, alow, ahigh, abuild, abuildGo, cellsOf, splice, fieldTy, alen, apick, amax, amin, aload, headV, aparts, abuildSlice, elParts, abytesStr, astore, amake, aappend, aclear, anew, arith, aresults, aresList, ares, spec0, spec1, spec2, spec3, spec4, eqCells, eqCell, hlt2, rowAt_enc hlt2, sCheck, hr, z, i1]
      exact ⟨i + 1, ⟨by omega, fun j hj => by
        rcases Nat.lt_or_eq_of_le (Nat.le_of_lt_succ hj) with h | rfl
        · exact hZ j h
        · exact of_eq_true z⟩, by omega, weak_slots (by simp)⟩
    · have e : jchkF n rels vars = checkF (ix rels i) := by
        have g := relErr_at hlt2 hZ (of_eq_false z)
        unfold jchkF
        rw [if_neg hno, if_neg (fun h => h hA), if_neg h12, g, if_pos (of_eq_false z)]
      simp [aev, cav, look, acallPure, abin, abinN, abinP, abinI, abinS, aun, aconv, afield, afieldAddr, aindexAddr, aindex, aslice, alow, ahigh, abuild, abuildGo, cellsOf, splice, fieldTy, alen, apick, amax, amin, aload, headV, aparts, abuildSlice, elParts, abytesStr, astore, amake, aappend, aclear, anew, arith, aresults, aresList, ares, spec0, spec1, spec2, spec3, spec4, eqCells, eqCell, hlt2, rowAt_enc hlt2, sCheck, hr, z, e]
  have hie : i = rels.length := by omega
  subst hie
  have hE := relErr_none hZ
  simp [aev, cav, look, acallPure, abin, abinN, abinP, abinI, abinS, aun, aconv, afield, afieldAddr, aindexAddr, aindex, aslice, alow, ahigh, abuild, abuildGo, cellsOf, splice, fieldTy, alen, apick, amax, amin, aload, headV, aparts, abuildSlice, elParts, abytesStr, astore, amake, aappend, aclear, anew, arith, aresults, aresList, ares, spec0, spec1, spec2, spec3, spec4, eqCells, eqCell, hlt2]
  refine loop_rule (C := CK17) sigCK17 mixCK17 (fun v : Nat => ⟨[(0, .int .i64 n), (2, Enc.enc vars), (10, .int .i64 v)], []⟩) (fun v => (v : Int) ≤ n ∧ ∀ u : Nat, u < v → AnyV vars u) (fun v => n.toNat - v) (by kernel_rfl) ⟨0, ⟨by show (0 : Int) ≤ n; omega, fun i hi => absurd hi (Nat.not_lt_zero _)⟩, weak_slots (by simp)⟩ (fun v ⟨hv, hY⟩ => ?_)
  by_cases hvn : (v : Int) < n
  · have i1 : I64 ((v : Int) + 1) := by unfold I64; omega
    simp [aev, cav, look, acallPure, abin, abinN, abinP, abinI, abinS, aun, aconv, afield, afieldAddr, aindexAddr, aindex, aslice, alow, ahigh, abuild, abuildGo, cellsOf, splice, fieldTy, alen, apick, amax, amin, aload, headV, aparts, abuildSlice, elParts, abytesStr, astore, amake, aappend, aclear, anew, arith, aresults, aresList, ares, spec0, spec1, spec2, spec3, spec4, eqCells, eqCell, hvn]
    refine loop_rule (C := CK17) sigCK17 mixCK17 (fun s : M3 => ⟨[(0, .int .i64 n), (2, Enc.enc vars), (10, .int .i64 v), (11, .bool s.a), (12, .int .i64 s.i)], []⟩) (fun s => s.i ≤ vars.length ∧ (s.a = true ↔ ∃ j, j < s.i ∧ (v : Int) ∈ ix vars j)) (fun s => vars.length - s.i) (by kernel_rfl) ⟨⟨0, false⟩, ⟨Nat.zero_le _, by simp⟩, weak_slots (by simp)⟩ (fun s ⟨g1, g2⟩ => ?_)
    obtain ⟨i, a⟩ := s
    simp only at g1 g2 ⊢
    by_cases hi : i < vars.length
    · have j1 : I64 ((i : Int) + 1) := by unfold I64; omega
      have hsl := hvS _ (ix_mem hi)
      cases a with
      | true =>
        simp [aev, cav, look, acallPure, abin, abinN, abinP, abinI, abinS, aun, aconv, afield, afieldAddr, aindexAddr, aindex, aslice, alow, ahigh, abuild, abuildGo, cellsOf, splice, fieldTy, alen, apick, amax, amin, aload, headV, aparts, abuildSlice, elParts, abytesStr, astore, amake, aappend, aclear, anew, arith, aresults, aresList, ares, spec0, spec1, spec2, spec3, spec4, eqCells, eqCell, hi, j1]
        exact ⟨⟨i + 1, true⟩, ⟨by simp only; omega, by
          simp only [true_iff] at g2 ⊢
          obtain ⟨j, hj, h⟩ := g2
          exact ⟨j, by omega, h⟩⟩, by simp only; omega, weak_slots (by simp)⟩
      | false =>
        simp only [Bool.false_eq_true, false_iff] at g2
        rcases em2 ((v : Int) ∈ ix vars i) with e | e
        · have hc : (0 ≤ colF (ix vars i) (v : Int)) = True := eq_true (col_ge.2 (of_eq_true e))
          simp [aev, cav, look, acallPure, abin, abinN, abinP, abinI, abinS, aun, aconv, afield, afieldAddr, aindexAddr, aindex, aslice, alow, ahigh, abuild, abuildGo, cellsOf, splice, fieldTy, alen, apick, amax, amin, aload, headV, aparts, abuildSlice, elParts, abytesStr, astore, amake, aappend, aclear, anew, arith, aresults, aresList, ares, spec0, spec1, spec2, spec3, spec4, eqCells, eqCell, hi, rowAt_enc hi, sCol, hsl, hc, j1]
          exact ⟨⟨i + 1, true⟩, ⟨by simp only; omega, by
            simp only [true_iff]
            exact ⟨i, by simp, of_eq_true e⟩⟩, by simp only; omega, weak_slots (by simp)⟩
        · have hc : (0 ≤ colF (ix vars i) (v : Int)) = False := eq_false fun h => of_eq_false e (col_ge.1 h)
          simp [aev, cav, look, acallPure, abin, abinN, abinP, abinI, abinS, aun, aconv, afield, afieldAddr, aindexAddr, aindex, aslice, alow, ahigh, abuild, abuildGo, cellsOf, splice, fieldTy, alen, apick, amax, amin, aload, headV, aparts, abuildSlice, elParts, abytesStr, astore, amake, aappend, aclear, anew, arith, aresults, aresList, ares, spec0, spec1, spec2, spec3, spec4, eqCells, eqCell, hi, rowAt_enc hi, sCol, hsl, hc, j1]
          exact ⟨⟨i + 1, false⟩, ⟨by simp only; omega, by
            simp only [Bool.false_eq_true, false_iff]
            rintro ⟨j, hj, h⟩
            rcases Nat.lt_or_eq_of_le (Nat.le_of_lt_succ hj) with h4 | rfl
            · exact g2 ⟨j, h4, h⟩
            · exact of_eq_false e h⟩, by simp only; omega, weak_slots (by simp)⟩
    · have e : i = vars.length := by omega
      subst e
      have hiff : a = true ↔ AnyV vars (v : Int) := by
        rw [g2]
        constructor
        · rintro ⟨j, hj, h⟩
          exact ⟨_, ix_mem hj, h⟩
        · rintro ⟨l, hl, h⟩
          obtain ⟨j, hj, rfl⟩ := mem_ix hl
          exact ⟨j, hj, h⟩
      cases a with
      | true =>
        simp [aev, cav, look, acallPure, abin, abinN, abinP, abinI, abinS, aun, aconv, afield, afieldAddr, aindexAddr, aindex, aslice, alow, ahigh, abuild, abuildGo, cellsOf, splice, fieldTy, alen, apick, amax, amin, aload, headV, aparts, abuildSlice, elParts, abytesStr, astore, amake, aappend, aclear, anew, arith, aresults, aresList, ares, spec0, spec1, spec2, spec3, spec4, eqCells, eqCell, hi, i1]
        exact ⟨v + 1, ⟨by omega, fun u hu => by
          rcases Nat.lt_or_eq_of_le (Nat.le_of_lt_succ hu) with h | rfl
          · exact hY u h
          · exact hiff.1 rfl⟩, by omega, weak_slots (by simp)⟩
      | false =>
        have e : jchkF n rels vars = 25 := by
          unfold jchkF
          rw [if_neg hno, if_neg (fun h => h hA), if_neg h12, if_neg (fun h => h hE), if_neg (fun h => Bool.false_ne_true (hiff.2 (h v hvn)))]
        simp [aev, cav, look, acallPure, abin, abinN, abinP, abinI, abinS, aun, aconv, afield, afieldAddr, aindexAddr, aindex, aslice, alow, ahigh, abuild, abuildGo, cellsOf, splice, fieldTy, alen, apick, amax, amin, aload, headV, aparts, abuildSlice, elParts, abytesStr, astore, amake, aappend, aclear, anew, arith, aresults, aresList, ares, spec0, spec1, spec2, spec3, spec4, eqCells, eqCell, hi, e]
  · have e : jchkF n rels vars = 0 := by
      unfold jchkF
      rw [if_neg hno, if_neg (fun h => h hA), if_neg h12, if_neg (fun h => h hE), if_pos (fun u hu => hY u (by omega))]
    simp [aev, cav, look, acallPure, abin, abinN, abinP, abinI, abinS, aun, aconv, afield, afieldAddr, aindexAddr, aindex, aslice, alow, ahigh, abuild, abuildGo, cellsOf, splice, fieldTy, alen, apick, amax, amin, aload, headV, aparts, abuildSlice, elParts, abytesStr, astore, amake, aappend, aclear, anew, arith, aresults, aresList, ares, spec0, spec1, spec2, spec3, spec4, eqCells, eqCell, hvn, e]
end Go.Proofs.Ytpbgnnaaobamfaa

/-
  layer 33, the reference: the candidates.
-/
namespace Go.Proofs.Ytpbgnnaaobamfaa
open Go.RowKit
set_option linter.unusedSimpArgs false
set_option linter.unusedVariables false
set_option maxRecDepth 100000

/-- What the reference's candidates need. -/
structure CandPre (R : Rela) (vs t : List Int) : Prop where
  mem : (t.length : Int) ∈ vs
  inc : Inc vs
  v0 : ∀ u ∈ vs, 0 ≤ u
  rows : ∀ row ∈ R.rows, vs.length ≤ row.length
  big : R.rows.length ≤ 100000
  sm : SmallR vs
  tl : t.length ≤ 1000
def candI (R : Rela) (vs t : List Int) (c i : Nat) : List Int := ((R.rows.take i).filter fun row => decide (row.take c = pathF vs t c)).map fun row => ix row c
theorem candI_len (R : Rela) (vs t : List Int) (c i : Nat) : (candI R vs t c i).length ≤ R.rows.length := by
  unfold candI
  rw [List.length_map]
  refine Nat.le_trans (List.length_filter_le _ _) ?_
  rw [List.length_take]; omega
theorem candI_all (R : Rela) (vs t : List Int) (c : Nat) : candI R vs t c R.rows.length = candV R vs t c := by
  unfold candI candV
  rw [List.take_of_length_le (Nat.le_refl _)]
theorem candI_succ {R : Rela} {vs t : List Int} {c i : Nat} (h : i < R.rows.length) : candI R vs t c (i + 1) = candI R vs t c i ++ (if (ix R.rows i).take c = pathF vs t c then [ix (ix R.rows i) c] else []) := by
  unfold candI
  rw [take_snoc h, List.filter_append, List.map_append]
  congr 1
  by_cases e : (ix R.rows i).take c = pathF vs t c
  · simp [e]
  · simp [e]
theorem row_path {row vs t : List Int} {c : Nat} (h1 : c ≤ row.length) (h2 : c ≤ vs.length) : row.take c = pathF vs t c ↔ ∀ k, k < c → ix row k = ix t (ix vs k).toNat := by
  have hl : (pathF vs t c).length = c := pathF_len h2
  have hx : ∀ k, k < c → ix (pathF vs t c) k = ix t (ix vs k).toNat := fun k hk => by
    unfold pathF
    rw [ix_map (by rw [List.length_take]; omega), ix_take _ hk]
  constructor
  · intro h k hk
    rw [← hx k hk, ← h, ix_take _ hk]
  · intro h
    refine list_ext_ix (by rw [List.length_take, hl]; omega) fun j hj => ?_
    rw [List.length_take] at hj
    rw [ix_take _ (by omega), hx j (by omega), h j (by omega)]
theorem CandPre.at {R : Rela} {vs t : List Int} (h : CandPre R vs t) : ∃ c, lbd vs t.length = c ∧ c < vs.length ∧ ix vs c = t.length ∧ (∀ k, k < c → ix vs k < t.length) ∧ ∀ k, k < c → 0 ≤ ix vs k := by
  obtain ⟨i, hi, e⟩ := mem_ix h.mem
  have h1 : ∀ j, j < i → ix vs j < (t.length : Int) := fun j hj => by rw [← e]; exact inc_ix h.inc hj hi
  exact ⟨i, lbd_at h1 (Nat.le_of_lt hi) (fun _ => by omega), hi, e, h1, fun k hk => h.v0 _ (ix_mem (by omega))⟩
def sCand : List AV → Option (Prop × AV) := spec3 CandPre (fun R vs t => Enc.enc (of (candV R vs t (lbd vs t.length))))
noncomputable def CK53 : Ctx := mkC Try.prog G0 [(34, .pure sCol), (14, .pure sOfR)]
@[simp] theorem CK53_P : CK53.P = Try.prog := rfl
@[simp] theorem CK53_G : CK53.G = G0 := rfl
@[simp] theorem CK53_1 : CK53.S 34 = .pure sCol := rfl
@[simp] theorem CK53_2 : CK53.S 14 = .pure sOfR := rfl
theorem mixCK53 : CK53.P.follows .mixedOrders = true := mixed
theorem sigCK53 : SigOK CK53 := sigOK_cons (entryPure (colR) Try.func34 rfl (by decide)) (sigOK_cons (entryPure (ofR) Try.func14 rfl (by decide)) (sigOK_nil _ _))
set_option maxHeartbeats 32000000 in
theorem candR : PureOK Try.prog G0 53 sCand := by
  refine pureH3 (C := CK53) sigCK53 mixCK53 Try.func53 rfl rfl rfl [13] (by kernel_rfl) (by decide) (fun R vs t hP => ?_)
  obtain ⟨c, hc, hcl, hce, hc1, hc0⟩ := hP.at
  have hcol : colF vs (t.length : Int) = (c : Int) := by rw [col_lbd hP.inc hP.mem, hc]
  have hsm := hP.sm
  have hbig := hP.big
  have htl := hP.tl
  have hrows := hP.rows
  have hvl : vs.length ≤ 1000000 := hsm
  simp [aev, cav, look, acallPure, abin, abinN, abinP, abinI, abinS, aun, aconv, afield, afieldAddr, aindexAddr, aindex, aslice, alow, ahigh, abuild, abuildGo, cellsOf, splice, fieldTy, alen, apick, amax, amin, aload, headV, aparts, abuildSlice, elParts, abytesStr, astore, amake, aappend, aclear, anew, arith, aresults, aresList, ares, spec0, spec1, spec2, spec3, spec4, eqCells, eqCell, sCol, hsm, hcol]
  refine loop_ruleH (C := CK53) sigCK53 mixCK53 [13] (fun i : Nat => ⟨[(1, Enc.enc vs), (2, Enc.enc t), (3, .ptr 0 1 2 0 0), (7, .int .i64 c), (8, .own 1 (candI R vs t c i).length), (9, .int .i64 i)], [RB R, bI (candI R vs t c i)]⟩) (fun i => i ≤ R.rows.length) (fun i => R.rows.length - i) (by kernel_rfl) ⟨0, Nat.zero_le _, (weak_nil 8 1 3 rfl (by decide)).trans (weak_eq (by simp [candI]) (by simp [RB, bI, candI]))⟩ (fun i hi => ?_)
  have hL := candI_len R vs t c i
  obtain ⟨L, hLe⟩ : ∃ L, L = candI R vs t c i := ⟨_, rfl⟩
  rw [← hLe] at hL ⊢
  by_cases hlt : i < R.rows.length
  · have i1 : I64 ((i : Int) + 1) := by unfold I64; omega
    obtain ⟨row, hrow⟩ : ∃ row, row = ix R.rows i := ⟨_, rfl⟩
    have hrl := hrows _ (ix_mem hlt)
    have hs := candI_succ (R := R) (vs := vs) (t := t) (c := c) hlt
    have hri : rowAt (encRows R.rows) i = Enc.cells row := by rw [rowAt_enc hlt, hrow]
    rw [← hrow] at hrl hs
    rw [← hLe] at hs
    have hcr : c < row.length := by omega
    simp [aev, cav, look, acallPure, abin, abinN, abinP, abinI, abinS, aun, aconv, afield, afieldAddr, aindexAddr, aindex, aslice, alow, ahigh, abuild, abuildGo, cellsOf, splice, fieldTy, alen, apick, amax, amin, aload, headV, aparts, abuildSlice, elParts, abytesStr, astore, amake, aappend, aclear, anew, arith, aresults, aresList, ares, spec0, spec1, spec2, spec3, spec4, eqCells, eqCell, RB, bI, hlt]
    refine loop_ruleH (C := CK53) sigCK53 mixCK53 [13] (fun s : M3 => ⟨[(1, Enc.enc vs), (2, Enc.enc t), (3, .ptr 0 1 2 0 0), (7, .int .i64 c), (8, .own 1 L.length), (9, .int .i64 i), (10, .bool s.a), (11, .int .i64 s.i)], [RB R, bI L]⟩) (fun s => s.i ≤ c ∧ (s.a = true ↔ ∀ k, k < s.i → ix row k = ix t (ix vs k).toNat)) (fun s => c - s.i) (by kernel_rfl) ⟨⟨0, true⟩, ⟨Nat.zero_le _, by simp⟩, weak_eq (by simp) (by simp [RB, bI])⟩ (fun s ⟨g1, g2⟩ => ?_)
    obtain ⟨k, a⟩ := s
    simp only at g1 g2 ⊢
    by_cases hk : k < c
    · have k1 : I64 ((k : Int) + 1) := by unfold I64; omega
      have hkr : k < row.length := by omega
      have hkv : k < vs.length := by omega
      have hv0 := hc0 k hk
      have hv1 := hc1 k hk
      obtain ⟨u, hu⟩ : ∃ u : Nat, ix vs k = u := ⟨(ix vs k).toNat, by omega⟩
      have hut : u < t.length := by omega
      rw [hu] at hv0 hv1
      have hun : (ix vs k).toNat = u := by omega
      cases a with
      | false =>
        simp [aev, cav, look, acallPure, abin, abinN, abinP, abinI, abinS, aun, aconv, afield, afieldAddr, aindexAddr, aindex, aslice, alow, ahigh, abuild, abuildGo, cellsOf, splice, fieldTy, alen, apick, amax, amin, aload, headV, aparts, abuildSlice, elParts, abytesStr, astore, amake, aappend, aclear, anew, arith, aresults, aresList, ares, spec0, spec1, spec2, spec3, spec4, eqCells, eqCell, RB, bI, hk, k1]
        exact ⟨⟨k + 1, false⟩, ⟨by simp only; omega, by
          simp only [Bool.false_eq_true, false_iff] at g2 ⊢
          exact fun h => g2 fun j hj => h j (by omega)⟩, by simp only; omega, weak_eq (by simp) (by simp [RB, bI])⟩
      | true =>
        rcases em2 (ix row k = ix t u) with e | e
        · simp [aev, cav, look, acallPure, abin, abinN, abinP, abinI, abinS, aun, aconv, afield, afieldAddr, aindexAddr, aindex, aslice, alow, ahigh, abuild, abuildGo, cellsOf, splice, fieldTy, alen, apick, amax, amin, aload, headV, aparts, abuildSlice, elParts, abytesStr, astore, amake, aappend, aclear, anew, arith, aresults, aresList, ares, spec0, spec1, spec2, spec3, spec4, eqCells, eqCell, RB, bI, hk, hlt, hri, hkr, rowAt_enc hkr, hkv, rowAt_enc hkv, hu, hut, rowAt_enc hut, e, k1]
          exact ⟨⟨k + 1, true⟩, ⟨by simp only; omega, by
            simp only [true_iff] at g2 ⊢
            intro j hj
            rcases Nat.lt_or_eq_of_le (Nat.le_of_lt_succ hj) with h | rfl
            · exact g2 j h
            · rw [hun]; exact of_eq_true e⟩, by simp only; omega, weak_eq (by simp) (by simp [RB, bI])⟩
        · simp [aev, cav, look, acallPure, abin, abinN, abinP, abinI, abinS, aun, aconv, afield, afieldAddr, aindexAddr, aindex, aslice, alow, ahigh, abuild, abuildGo, cellsOf, splice, fieldTy, alen, apick, amax, amin, aload, headV, aparts, abuildSlice, elParts, abytesStr, astore, amake, aappend, aclear, anew, arith, aresults, aresList, ares, spec0, spec1, spec2, spec3, spec4, eqCells, eqCell, RB, bI, hk, hlt, hri, hkr, rowAt_enc hkr, hkv, rowAt_enc hkv, hu, hut, rowAt_enc hut, e, k1]
          exact ⟨⟨k + 1, false⟩, ⟨by simp only; omega, by
            simp only [Bool.false_eq_true, false_iff]
            intro h
            have := h k (by simp)
            rw [hun] at this
            exact of_eq_false e this⟩, by simp only; omega, weak_eq (by simp) (by simp [RB, bI])⟩
    · have hkc : k = c := by omega
      subst hkc
      have hiff : a = true ↔ row.take k = pathF vs t k := by rw [g2, row_path (by omega) (by omega)]
      cases a with
      | true =>
        rw [if_pos (hiff.1 rfl)] at hs
        simp [aev, cav, look, acallPure, abin, abinN, abinP, abinI, abinS, aun, aconv, afield, afieldAddr, aindexAddr, aindex, aslice, alow, ahigh, abuild, abuildGo, cellsOf, splice, fieldTy, alen, apick, amax, amin, aload, headV, aparts, abuildSlice, elParts, abytesStr, astore, amake, aappend, aclear, anew, arith, aresults, aresList, ares, spec0, spec1, spec2, spec3, spec4, eqCells, eqCell, RB, bI, hk, hlt, hri, hcr, rowAt_enc hcr, i1]
        refine ⟨by omega, i + 1, by omega, by omega, weak_keep 2 (by simp [hs]) (by simp) (by simp [AV.clean, AV.clean1]) (by simp) (by simp [RB, bI, hs])⟩
      | false =>
        rw [if_neg (fun h => Bool.false_ne_true (hiff.2 h)), List.append_nil] at hs
        simp [aev, cav, look, acallPure, abin, abinN, abinP, abinI, abinS, aun, aconv, afield, afieldAddr, aindexAddr, aindex, aslice, alow, ahigh, abuild, abuildGo, cellsOf, splice, fieldTy, alen, apick, amax, amin, aload, headV, aparts, abuildSlice, elParts, abytesStr, astore, amake, aappend, aclear, anew, arith, aresults, aresList, ares, spec0, spec1, spec2, spec3, spec4, eqCells, eqCell, RB, bI, hk, i1]
        exact ⟨i + 1, by omega, by omega, weak_eq (by simp [hs]) (by simp [RB, bI, hs])⟩
  · have hie : i = R.rows.length := by omega
    rw [hie, candI_all] at hLe
    have hL9 : L.length ≤ 900000 := by omega
    subst hLe
    simp [aev, cav, look, acallPure, abin, abinN, abinP, abinI, abinS, aun, aconv, afield, afieldAddr, aindexAddr, aindex, aslice, alow, ahigh, abuild, abuildGo, cellsOf, splice, fieldTy, alen, apick, amax, amin, aload, headV, aparts, abuildSlice, elParts, abytesStr, astore, amake, aappend, aclear, anew, arith, aresults, aresList, ares, spec0, spec1, spec2, spec3, spec4, eqCells, eqCell, RB, bI, hlt]
    refine AW.weak (weak_view 8) ?_
    refine AW_regionS sigCK53 mixCK53 (by kernel_rfl) ?_
    simp [aev, cav, look, acallPure, abin, abinN, abinP, abinI, abinS, aun, aconv, afield, afieldAddr, aindexAddr, aindex, aslice, alow, ahigh, abuild, abuildGo, cellsOf, splice, fieldTy, alen, apick, amax, amin, aload, headV, aparts, abuildSlice, elParts, abytesStr, astore, amake, aappend, aclear, anew, arith, aresults, aresList, ares, spec0, spec1, spec2, spec3, spec4, eqCells, eqCell, sOfR, hL9, hc]
end Go.Proofs.Ytpbgnnaaobamfaa

/-
  layer 33: the state of the reference join. Printed by wip/enc.py.
-/
namespace Go.Proofs.Ytpbgnnaaobamfaa
open Go.RowKit
set_option linter.unusedSimpArgs false
set_option linter.unusedVariables false

structure Sta where
  tups : List (List Int)
  binds : List (Int)
  mins : List (Int)
  seeks : List (Int)
instance : Inhabited Sta := ⟨⟨[], [], [], []⟩⟩
@[simp] theorem Sta.eta (x : Sta) : Sta.mk x.tups x.binds x.mins x.seeks = x := rfl
def Sta.cells (x : Sta) : List AV := [.slice 1 false (encRows x.tups), .slice 1 false (encRows x.binds), .slice 1 false (encRows x.mins), .slice 1 false (encRows x.seeks)]
def Sta.unc (c : List AV) : Sta :=
  match c with
  | [.slice _ _ a0, .slice _ _ a1, .slice _ _ a2, .slice _ _ a3] => ⟨(a0.map Enc.unc), (a1.map Enc.unc), (a2.map Enc.unc), (a3.map Enc.unc)⟩
  | _ => default
theorem Sta.unc_cells (x : Sta) : Sta.unc x.cells = x := by
  cases x
  simp only [Sta.cells, Sta.unc, map_unc]
instance : Enc Sta where
  sz := 4
  cells := Sta.cells
  enc x := .agg x.cells
  unc := Sta.unc
  dec v := match v with | .agg c => Sta.unc c | _ => default
  unc_cells := Sta.unc_cells
  dec_enc x := Sta.unc_cells x
@[simp] theorem sz_Sta : Enc.sz Sta = 4 := rfl
@[simp] theorem cells_Sta (x : Sta) : Enc.cells x = [.slice 1 false (encRows x.tups), .slice 1 false (encRows x.binds), .slice 1 false (encRows x.mins), .slice 1 false (encRows x.seeks)] := rfl
@[simp] theorem enc_Sta (x : Sta) : Enc.enc x = .agg [.slice 1 false (encRows x.tups), .slice 1 false (encRows x.binds), .slice 1 false (encRows x.mins), .slice 1 false (encRows x.seeks)] := rfl
@[simp] theorem unc_Sta (s0 : Nat) (f0 : Bool) (a0 : List (List AV)) (s1 : Nat) (f1 : Bool) (a1 : List (List AV)) (s2 : Nat) (f2 : Bool) (a2 : List (List AV)) (s3 : Nat) (f3 : Bool) (a3 : List (List AV)) : (Enc.unc [.slice s0 f0 a0, .slice s1 f1 a1, .slice s2 f2 a2, .slice s3 f3 a3] : Sta) = ⟨(Enc.dec (.slice s0 f0 a0)), (Enc.dec (.slice s1 f1 a1)), (Enc.dec (.slice s2 f2 a2)), (Enc.dec (.slice s3 f3 a3))⟩ := rfl
@[simp] theorem dec_Sta (l : List AV) : (Enc.dec (.agg l) : Sta) = Enc.unc l := rfl

end Go.Proofs.Ytpbgnnaaobamfaa

/-
  layer 33, plain: the tuples level by level; what bounds them.
-/
namespace Go.Proofs.Ytpbgnnaaobamfaa
set_option linter.unusedSimpArgs false
set_option linter.unusedVariables false

/-! ### Sums and lengths -/
theorem sum_flat {α β : Type} (f : β → Nat) (g : α → List β) : ∀ l : List α, ((l.flatMap g).map f).sum = (l.map fun x => ((g x).map f).sum).sum
  | [] => rfl
  | a :: r => by
    rw [List.flatMap_cons, List.map_append, List.sum_append, List.map_cons, List.sum_cons, sum_flat f g r]
theorem len_flat {α β : Type} (g : α → List β) : ∀ l : List α, (l.flatMap g).length = (l.map fun x => (g x).length).sum
  | [] => rfl
  | a :: r => by
    rw [List.flatMap_cons, List.length_append, List.map_cons, List.sum_cons, len_flat g r]
theorem sum_le {α : Type} {f g : α → Nat} : ∀ {l : List α}, (∀ x ∈ l, f x ≤ g x) → (l.map f).sum ≤ (l.map g).sum
  | [], _ => Nat.le_refl _
  | a :: r, h => by
    have ih := sum_le (l := r) fun x hx => h x (List.mem_cons_of_mem _ hx)
    have := h a (List.mem_cons_self ..)
    simp only [List.map_cons, List.sum_cons]; omega
theorem sum_const {α : Type} (k : Nat) : ∀ l : List α, (l.map fun _ => k).sum = k * l.length
  | [] => rfl
  | a :: r => by
    simp only [List.map_cons, List.sum_cons, sum_const k r, List.length_cons, Nat.mul_add]; omega
theorem sum_mul {α : Type} (k : Nat) (f : α → Nat) : ∀ l : List α, (l.map fun x => k * f x).sum = k * (l.map f).sum
  | [] => rfl
  | a :: r => by
    simp only [List.map_cons, List.sum_cons, sum_mul k f r, Nat.mul_add]
theorem sum_add {α : Type} (f g : α → Nat) : ∀ l : List α, (l.map fun x => f x + g x).sum = (l.map f).sum + (l.map g).sum
  | [] => rfl
  | a :: r => by
    simp only [List.map_cons, List.sum_cons, sum_add f g r]; omega
theorem nd_le {α : Type} [BEq α] [LawfulBEq α] : ∀ {a l : List α}, a.Nodup → (∀ x ∈ a, x ∈ l) → a.length ≤ l.length
  | [], _, _, _ => Nat.zero_le _
  | x :: r, l, hn, h => by
    have hx := h x (List.mem_cons_self ..)
    obtain ⟨n1, n2⟩ := List.nodup_cons.1 hn
    have ih := nd_le (a := r) (l := l.erase x) n2 fun y hy => by
      have hne : y ≠ x := fun e => n1 (e ▸ hy)
      exact (List.mem_erase_of_ne hne).2 (h y (List.mem_cons_of_mem _ hy))
    rw [List.length_erase_of_mem hx] at ih
    have := List.length_pos_of_mem hx
    simp only [List.length_cons]; omega
theorem inc_nd {l : List Int} (h : Inc l) : l.Nodup := h.imp fun {a b} hab e => by omega

/-! ### The levels -/
section
variable {N : Net}
def growT (N : Net) (u : List Int) : List (List Int) := (valsT N u).map fun x => u ++ [x]
theorem outs_succ : ∀ (d : Nat) (t : List Int), outs N (d + 1) t = (outs N d t).flatMap (growT N)
  | 0, t => by
    show ((valsT N t).flatMap fun x => [t ++ [x]]) = [t].flatMap (growT N)
    rw [List.flatMap_singleton, growT, List.map_eq_flatMap]
  | d + 1, t => by
    show ((valsT N t).flatMap fun x => outs N (d + 1) (t ++ [x])) = ((valsT N t).flatMap fun x => outs N d (t ++ [x])).flatMap (growT N)
    rw [List.flatMap_assoc]
    congr 1
    funext x
    exact outs_succ d _
theorem sumT_eq (f : List Int → Nat) : ∀ (i : Nat) (t : List Int), sumT N f i t = ((outs N i t).map f).sum
  | 0, t => by show f t = ([t].map f).sum; simp
  | i + 1, t => by
    show ((valsT N t).map fun x => sumT N f i (t ++ [x])).sum = (((valsT N t).flatMap fun x => outs N i (t ++ [x])).map f).sum
    rw [sum_flat]
    congr 1
    exact List.map_congr_left fun x _ => sumT_eq f i _
theorem outs_len : ∀ (d : Nat) (t : List Int), ∀ u ∈ outs N d t, u.length = t.length + d
  | 0, t, u, hu => by rw [List.mem_singleton.1 hu]; rfl
  | d + 1, t, u, hu => by
    obtain ⟨x, _, hx⟩ := List.mem_flatMap.1 hu
    have := outs_len d (t ++ [x]) u hx
    rw [List.length_append] at this
    simp only [List.length_cons, List.length_nil] at this
    omega
theorem cnt_eq (d : Nat) (t : List Int) : (outs N (d + 1) t).length = sumT N (cntT N) d t := by
  rw [outs_succ, len_flat, sumT_eq]
  congr 1
  exact List.map_congr_left fun u _ => by unfold growT cntT; rw [List.length_map]
end
end Go.Proofs.Ytpbgnnaaobamfaa

/-
  layer 33, the reference: one more variable, in words.
-/
namespace Go.Proofs.Ytpbgnnaaobamfaa
open Go.RowKit
set_option linter.unusedSimpArgs false
set_option linter.unusedVariables false
set_option maxRecDepth 100000

structure RefR (R : Rela) (vs : List Int) : Prop where
  inc : Inc vs
  v0 : ∀ u ∈ vs, 0 ≤ u
  rows : ∀ row ∈ R.rows, vs.length ≤ row.length
  big : R.rows.length ≤ 10000
  sm : SmallR vs
theorem RefR.cand {R : Rela} {vs t : List Int} (h : RefR R vs) (hm : (t.length : Int) ∈ vs) (ht : t.length ≤ 1000) : CandPre R vs t := ⟨hm, h.inc, h.v0, h.rows, by have := h.big; omega, h.sm, ht⟩
def nextF (N : Net) (x : Sta) : Sta := ⟨x.tups.flatMap (growT N), x.binds ++ [((x.tups.flatMap (growT N)).length : Int)], x.mins ++ [((x.tups.map (minT N)).sum : Int)], x.seeks ++ [((x.tups.map (seekT N)).sum : Int)]⟩
structure NextPre (x : Sta) (rels : List Rela) (vars : List (List Int)) (v : Int) : Prop where
  v0 : 0 ≤ v
  v1 : v ≤ 100
  tl : ∀ t ∈ x.tups, (t.length : Int) = v
  len : vars.length = rels.length
  r12 : rels.length ≤ 1000
  ok : ∀ i, i < rels.length → RefR (ix rels i) (ix vars i)
  any : ∃ i, i < rels.length ∧ v ∈ ix vars i
  o : (x.tups.flatMap (growT (netOf rels vars))).length ≤ 1000000000
  xl : x.tups.length ≤ 1000000000
  m : (x.tups.map (minT (netOf rels vars))).sum ≤ 1000000000000000000
  s : (x.tups.map (seekT (netOf rels vars))).sum ≤ 1000000000000000000
  b1 : x.binds.length ≤ 1000
  b2 : x.mins.length ≤ 1000
  b3 : x.seeks.length ≤ 1000
theorem listsT_app (A B : Net) (t : List Int) : listsT (A ++ B) t = listsT A t ++ listsT B t := by
  unfold listsT partT
  rw [List.filter_append, List.map_append]
theorem lists_snoc {N : Net} {t : List Int} {k : Nat} (h : k < N.length) : listsT (N.take (k + 1)) t = listsT (N.take k) t ++ (if (t.length : Int) ∈ (ix N k).2 then [of (candV (ix N k).1 (ix N k).2 t (lbd (ix N k).2 t.length))] else []) := by
  rw [take_snoc h, listsT_app]
  congr 1
  unfold listsT partT
  by_cases e : (t.length : Int) ∈ (ix N k).2
  · simp [e]
  · simp [e]
def leastR (ls : List (List Int)) : Int := if ls = [] then -1 else (leastF ls : Int)
theorem leastF_snoc {ls : List (List Int)} (h : ls ≠ []) (l : List Int) : leastF (ls ++ [l]) = min (leastF ls) l.length := by
  unfold leastF
  cases ls with
  | nil => exact absurd rfl h
  | cons a r =>
    show ((a :: r) ++ [l]).foldl _ a.length = min ((a :: r).foldl _ a.length) l.length
    rw [List.foldl_append]; rfl
theorem leastR_snoc (ls : List (List Int)) (l : List Int) : leastR (ls ++ [l]) = if leastR ls < 0 then (l.length : Int) else if (l.length : Int) < leastR ls then (l.length : Int) else leastR ls := by
  unfold leastR
  rw [if_neg (by simp)]
  by_cases h : ls = []
  · subst h
    rw [if_pos rfl, if_pos (by decide)]
    have : leastF ([] ++ [l]) = min l.length l.length := rfl
    rw [this]; omega
  · rw [if_neg h, if_neg (by omega), leastF_snoc h]
    split <;> omega
theorem of_of (l : List Int) : of (of l) = of l := of_valid (decide_eq_true (of_sorted l))
theorem lists_of (N : Net) (t : List Int) : (listsT N t).map of = listsT N t := by
  unfold listsT
  rw [List.map_map]
  exact List.map_congr_left fun q _ => of_of _
theorem sum_take_le {α : Type} (f : α → Nat) (l : List α) (i : Nat) : ((l.take i).map f).sum ≤ (l.map f).sum := by
  have e : l.map f = (l.take i).map f ++ (l.drop i).map f := by rw [← List.map_append, List.take_append_drop]
  rw [e, List.sum_append]; omega
theorem flat_take_le {α β : Type} (f : α → List β) (l : List α) (i : Nat) : ((l.take i).flatMap f).length ≤ (l.flatMap f).length := by
  have e : l.flatMap f = (l.take i).flatMap f ++ (l.drop i).flatMap f := by rw [← List.flatMap_append, List.take_append_drop]
  rw [e, List.length_append]; omega
theorem lists_len {N : Net} {t : List Int} : (listsT N t).length ≤ N.length := by
  unfold listsT partT
  rw [List.length_map]
  exact List.length_filter_le _ _
theorem lists_mem {N : Net} {t l : List Int} (h : l ∈ listsT N t) (hb : ∀ q ∈ N, q.1.rows.length ≤ 10000) : l.length ≤ 10000 := by
  unfold listsT at h
  obtain ⟨q, hq, rfl⟩ := List.mem_map.1 h
  have hq := (List.mem_filter.1 hq).1
  exact Nat.le_trans (of_len _) (Nat.le_trans (candV_len _ _ _ _) (hb q hq))
def XB (x : Sta) : Blk := ⟨61, 4, [[.slice 1 false (encRows x.tups), .slice 1 false (encRows x.binds), .slice 1 false (encRows x.mins), .slice 1 false (encRows x.seeks)]], true, true⟩
def ZB : Blk := ⟨61, 4, [[.slice 1 true [], .slice 1 true [], .slice 1 true [], .slice 1 true []]], true, true⟩
def outK (out : List (List Int)) (t vl : List Int) (k : Nat) : List (List Int) := out ++ (vl.take k).map fun y => t ++ [y]
theorem outK_zero (out : List (List Int)) (t vl : List Int) : outK out t vl 0 = out := by unfold outK; simp
theorem outK_succ {out : List (List Int)} {t vl : List Int} {k : Nat} (h : k < vl.length) : outK out t vl (k + 1) = outK out t vl k ++ [t ++ [ix vl k]] := by
  unfold outK
  rw [take_snoc h, List.map_append, ← List.append_assoc]; rfl
theorem outK_all (out : List (List Int)) (t vl : List Int) : outK out t vl vl.length = out ++ vl.map fun y => t ++ [y] := by unfold outK; rw [List.take_of_length_le (Nat.le_refl _)]
theorem outK_len {out : List (List Int)} {t vl : List Int} {k : Nat} : (outK out t vl k).length ≤ out.length + vl.length := by
  unfold outK
  rw [List.length_append, List.length_map, List.length_take]; omega
noncomputable def sNext : List AV → Option (Prop × AV) := spec4 NextPre (fun x rels vars _ => Enc.enc (nextF (netOf rels vars) x))
end Go.Proofs.Ytpbgnnaaobamfaa

/-
  layer 33, the reference: one more variable.
-/
namespace Go.Proofs.Ytpbgnnaaobamfaa
open Go.RowKit
set_option linter.unusedSimpArgs false
set_option linter.unusedVariables false
set_option maxRecDepth 100000

noncomputable def CK37 : Ctx := mkC Try.prog G0 [(34, .pure sCol), (53, .pure sCand), (12, .pure sMeet)]
@[simp] theorem CK37_P : CK37.P = Try.prog := rfl
@[simp] theorem CK37_G : CK37.G = G0 := rfl
@[simp] theorem CK37_1 : CK37.S 34 = .pure sCol := rfl
@[simp] theorem CK37_2 : CK37.S 53 = .pure sCand := rfl
@[simp] theorem CK37_3 : CK37.S 12 = .pure sMeet := rfl
theorem mixCK37 : CK37.P.follows .mixedOrders = true := mixed
theorem sigCK37 : SigOK CK37 := sigOK_cons (entryPure (colR) Try.func34 rfl (by decide)) (sigOK_cons (entryPure (candR) Try.func53 rfl (by decide)) (sigOK_cons (entryPure (meetR) Try.func12 rfl (by decide)) (sigOK_nil _ _)))
structure M5 where
  i : Nat
  m : Nat
  s : Nat
theorem scalK37 : isScalT CK37 22 = false := by show isScalT ⟨Try.prog, fun _ => .no, G0⟩ 22 = false; kernel_rfl
theorem scalK37b : isScalT CK37 25 = true := by show isScalT ⟨Try.prog, fun _ => .no, G0⟩ 25 = true; kernel_rfl
set_option maxHeartbeats 32000000 in
theorem nextR : PureOK Try.prog G0 37 sNext := by
  refine pureH4 (C := CK37) sigCK37 mixCK37 Try.func37 rfl rfl rfl [18] (by kernel_rfl) (by decide) (fun x rels vars v hP => ?_)
  obtain ⟨p1, p2, p3, p4, p5, p6, p7, p8, p9, p10, p11, p12, p13, p14⟩ := hP
  obtain ⟨N, hN⟩ : ∃ N, N = netOf rels vars := ⟨_, rfl⟩
  rw [← hN] at p8 p10 p11 ⊢
  have hNl : N.length = rels.length := by rw [hN, netOf_len]
  have hNi : ∀ k, k < rels.length → ix N k = (ix rels k, ix vars k) := fun k hk => by rw [hN, netOf_ix hk]
  have hNb : ∀ q ∈ N, q.1.rows.length ≤ 10000 := fun q hq => by
    obtain ⟨i, hi, rfl⟩ := mem_ix hq
    rw [hNi i (by omega)]
    exact (p6 i (by omega)).big
  simp [aev, cav, look, acallPure, abin, abinN, abinP, abinI, abinS, aun, aconv, afield, afieldAddr, aindexAddr, aindex, aslice, alow, ahigh, abuild, abuildGo, cellsOf, splice, fieldTy, alen, apick, amax, amin, aload, headV, aparts, abuildSlice, elParts, abytesStr, astore, amake, aappend, aclear, anew, arith, aresults, aresList, ares, spec0, spec1, spec2, spec3, spec4, eqCells, eqCell]
  refine loop_ruleH (C := CK37) sigCK37 mixCK37 [18] (fun q : M5 => ⟨[(1, Enc.enc rels), (2, Enc.enc vars), (3, .int .i64 v), (4, .ptr 0 1 4 0 0), (8, .ptr 1 1 4 0 0), (9, .own 2 ((x.tups.take q.i).flatMap (growT N)).length), (10, .int .i64 q.m), (11, .int .i64 q.s), (12, .int .i64 q.i)], [XB x, ZB, bR ((x.tups.take q.i).flatMap (growT N))]⟩) (fun q => q.i ≤ x.tups.length ∧ q.m = ((x.tups.take q.i).map (minT N)).sum ∧ q.s = ((x.tups.take q.i).map (seekT N)).sum) (fun q => x.tups.length - q.i) (by kernel_rfl) ⟨⟨0, 0, 0⟩, ⟨Nat.zero_le _, rfl, rfl⟩, (weak_nil 9 1 25 rfl (by decide)).trans (weak_eq (by simp) (by simp [XB, ZB, bR]))⟩ (fun q ⟨h1, h2, h3⟩ => ?_)
  obtain ⟨i, m, s⟩ := q
  simp only at h1 h2 h3 ⊢
  have hm := sum_take_le (minT N) x.tups i
  have hs := sum_take_le (seekT N) x.tups i
  rw [← h2] at hm
  rw [← h3] at hs
  obtain ⟨out, hout⟩ : ∃ out, out = (x.tups.take i).flatMap (growT N) := ⟨_, rfl⟩
  have hol := flat_take_le (growT N) x.tups i
  rw [← hout] at hol ⊢
  by_cases hi : i < x.tups.length
  · have i1 : I64 ((i : Int) + 1) := by unfold I64; omega
    obtain ⟨t, ht⟩ : ∃ t, t = ix x.tups i := ⟨_, rfl⟩
    have htl : (t.length : Int) = v := by rw [ht]; exact p3 _ (ix_mem hi)
    have hti : rowAt (encRows x.tups) i = Enc.cells t := by rw [rowAt_enc hi, ht]
    simp [aev, cav, look, acallPure, abin, abinN, abinP, abinI, abinS, aun, aconv, afield, afieldAddr, aindexAddr, aindex, aslice, alow, ahigh, abuild, abuildGo, cellsOf, splice, fieldTy, alen, apick, amax, amin, aload, headV, aparts, abuildSlice, elParts, abytesStr, astore, amake, aappend, aclear, anew, arith, aresults, aresList, ares, spec0, spec1, spec2, spec3, spec4, eqCells, eqCell, XB, ZB, bR, hi, hti]
    refine loop_ruleH (C := CK37) sigCK37 mixCK37 [18] (fun k : Nat => ⟨[(1, Enc.enc rels), (2, Enc.enc vars), (3, .int .i64 v), (4, .ptr 0 1 4 0 0), (8, .ptr 1 1 4 0 0), (9, .own 2 out.length), (10, .int .i64 m), (11, .int .i64 s), (12, .int .i64 i), (13, Enc.enc t), (14, .own 3 (listsT (N.take k) t).length), (15, .int .i64 (leastR (listsT (N.take k) t))), (16, .int .i64 k)], [XB x, ZB, bR out, bR (listsT (N.take k) t)]⟩) (fun k => k ≤ rels.length) (fun k => rels.length - k) (by kernel_rfl) ⟨0, Nat.zero_le _, (weak_nil 14 1 25 rfl (by decide)).trans (weak_eq (by simp [listsT, partT, leastR]) (by simp [XB, ZB, bR, listsT, partT]))⟩ (fun k hk0 => ?_)
    obtain ⟨ls, hls⟩ : ∃ ls, ls = listsT (N.take k) t := ⟨_, rfl⟩
    have hll : ls.length ≤ 1000 := by
      rw [hls]
      refine Nat.le_trans lists_len ?_
      rw [List.length_take]; omega
    rw [← hls]
    by_cases hk : k < rels.length
    · have k1 : I64 ((k : Int) + 1) := by unfold I64; omega
      have hkv : k < vars.length := by omega
      have hR := p6 k hk
      have hsm := hR.sm
      have hsn := lists_snoc (N := N) (t := t) (k := k) (by omega)
      rw [hNi k hk, ← hls, htl] at hsn
      simp only at hsn
      rcases em2 (v ∈ ix vars k) with hv | hv
      · have hv' := of_eq_true hv
        rw [if_pos hv'] at hsn
        have hc : (colF (ix vars k) v < 0) = False := eq_false (by have := col_ge.2 hv'; omega)
        have hcp : CandPre (ix rels k) (ix vars k) t := hR.cand (by rw [htl]; exact hv') (by omega)
        obtain ⟨l, hl⟩ : ∃ l, l = of (candV (ix rels k) (ix vars k) t (lbd (ix vars k) v)) := ⟨_, rfl⟩
        rw [← hl] at hsn
        have hl2 : of (candV (ix rels k) (ix vars k) t (lbd (ix vars k) (t.length : Int))) = l := by rw [htl, hl]
        have hls2 := leastR_snoc ls l
        obtain ⟨r, hr⟩ : ∃ r, r = leastR ls := ⟨_, rfl⟩
        rw [← hr] at hls2 ⊢
        have fin : ∀ (r' : Int), leastR (ls ++ [l]) = r' → True := fun _ _ => trivial
        rcases em2 (r < 0) with c1 | c1
        · rw [if_pos (of_eq_true c1)] at hls2
          simp [aev, cav, look, acallPure, abin, abinN, abinP, abinI, abinS, aun, aconv, afield, afieldAddr, aindexAddr, aindex, aslice, alow, ahigh, abuild, abuildGo, cellsOf, splice, fieldTy, alen, apick, amax, amin, aload, headV, aparts, abuildSlice, elParts, abytesStr, astore, amake, aappend, aclear, anew, arith, aresults, aresList, ares, spec0, spec1, spec2, spec3, spec4, eqCells, eqCell, XB, ZB, bR, hk, hkv, rowAt_enc hk, rowAt_enc hkv, sCol, hsm, hc, sCand, hcp, hl2, scalK37, c1, k1]
          exact ⟨by omega, k + 1, by omega, by omega, weak_keep 4 (by simp [hsn, hls2]) (by simp) (by simp [AV.clean, AV.clean1]) (by simp) (by simp [hsn, XB, ZB, bR])⟩
        · rw [if_neg (of_eq_false c1)] at hls2
          rcases em2 ((l.length : Int) < r) with c2 | c2
          · rw [if_pos (of_eq_true c2)] at hls2
            simp [aev, cav, look, acallPure, abin, abinN, abinP, abinI, abinS, aun, aconv, afield, afieldAddr, aindexAddr, aindex, aslice, alow, ahigh, abuild, abuildGo, cellsOf, splice, fieldTy, alen, apick, amax, amin, aload, headV, aparts, abuildSlice, elParts, abytesStr, astore, amake, aappend, aclear, anew, arith, aresults, aresList, ares, spec0, spec1, spec2, spec3, spec4, eqCells, eqCell, XB, ZB, bR, hk, hkv, rowAt_enc hk, rowAt_enc hkv, sCol, hsm, hc, sCand, hcp, hl2, scalK37, c1, c2, k1]
            exact ⟨by omega, k + 1, by omega, by omega, weak_keep 4 (by simp [hsn, hls2, hr]) (by simp) (by simp [AV.clean, AV.clean1]) (by simp) (by simp [hsn, XB, ZB, bR])⟩
          · rw [if_neg (of_eq_false c2)] at hls2
            simp [aev, cav, look, acallPure, abin, abinN, abinP, abinI, abinS, aun, aconv, afield, afieldAddr, aindexAddr, aindex, aslice, alow, ahigh, abuild, abuildGo, cellsOf, splice, fieldTy, alen, apick, amax, amin, aload, headV, aparts, abuildSlice, elParts, abytesStr, astore, amake, aappend, aclear, anew, arith, aresults, aresList, ares, spec0, spec1, spec2, spec3, spec4, eqCells, eqCell, XB, ZB, bR, hk, hkv, rowAt_enc hk, rowAt_enc hkv, sCol, hsm, hc, sCand, hcp, hl2, scalK37, c1, c2, k1]
            exact ⟨by omega, k + 1, by omega, by omega, weak_keep 4 (by simp [hsn, hls2, hr]) (by simp) (by simp [AV.clean, AV.clean1]) (by simp) (by simp [hsn, XB, ZB, bR])⟩
      · rw [if_neg (of_eq_false hv), List.append_nil] at hsn
        have hc : (colF (ix vars k) v < 0) = True := eq_true (by
          have h : ¬ 0 ≤ colF (ix vars k) v := fun h => of_eq_false hv (col_ge.1 h)
          omega)
        simp [aev, cav, look, acallPure, abin, abinN, abinP, abinI, abinS, aun, aconv, afield, afieldAddr, aindexAddr, aindex, aslice, alow, ahigh, abuild, abuildGo, cellsOf, splice, fieldTy, alen, apick, amax, amin, aload, headV, aparts, abuildSlice, elParts, abytesStr, astore, amake, aappend, aclear, anew, arith, aresults, aresList, ares, spec0, spec1, spec2, spec3, spec4, eqCells, eqCell, XB, ZB, bR, hk, hkv, rowAt_enc hkv, sCol, hsm, hc, k1]
        exact ⟨k + 1, by omega, by omega, weak_eq (by simp [hsn]) (by simp [hsn, XB, ZB, bR])⟩
    · have hke : k = rels.length := by omega
      have hNt : N.take k = N := List.take_of_length_le (by omega)
      rw [hNt] at hls
      simp [aev, cav, look, acallPure, abin, abinN, abinP, abinI, abinS, aun, aconv, afield, afieldAddr, aindexAddr, aindex, aslice, alow, ahigh, abuild, abuildGo, cellsOf, splice, fieldTy, alen, apick, amax, amin, aload, headV, aparts, abuildSlice, elParts, abytesStr, astore, amake, aappend, aclear, anew, arith, aresults, aresList, ares, spec0, spec1, spec2, spec3, spec4, eqCells, eqCell, XB, ZB, bR, hk]
      refine AW.weak (weak_view 14) ?_
      refine AW_regionS sigCK37 mixCK37 (by kernel_rfl) ?_
      have hMI : MeetIn ls := ⟨hll, fun l hl => by rw [hls] at hl; exact lists_mem hl hNb⟩
      have hlo : ls.map of = listsT N t := by rw [hls, lists_of]
      have hne : ls ≠ [] := by
        obtain ⟨j, hj, hv⟩ := p7
        intro e
        rw [hls] at e
        unfold listsT partT at e
        rw [List.map_eq_nil_iff] at e
        have : ix N j ∈ N.filter fun q => decide ((t.length : Int) ∈ q.2) := List.mem_filter.2 ⟨ix_mem (by omega), by rw [hNi j hj, htl]; simpa using hv⟩
        rw [e] at this
        cases this
      have hmin : leastR ls = (minT N t : Int) := by unfold leastR; rw [if_neg hne, hls]; rfl
      obtain ⟨vl, hvl⟩ : ∃ vl, vl = valsT N t := ⟨_, rfl⟩
      have hv1 : (meetF (listsT N t)).1 = vl := by rw [hvl]; rfl
      have hv2 : (meetF (listsT N t)).2 = seekT N t := rfl
      have m1 := sum_take_le (minT N) x.tups (i + 1)
      have s1 := sum_take_le (seekT N) x.tups (i + 1)
      have em1 : ((x.tups.take (i + 1)).map (minT N)).sum = m + minT N t := by rw [take_snoc hi, List.map_append, List.sum_append, ← h2, ht]; simp
      have es1 : ((x.tups.take (i + 1)).map (seekT N)).sum = s + seekT N t := by rw [take_snoc hi, List.map_append, List.sum_append, ← h3, ht]; simp
      rw [em1] at m1
      rw [es1] at s1
      have om1 : I64 ((m : Int) + (minT N t : Int)) := by unfold I64; omega
      have os1 : I64 ((s : Int) + (seekT N t : Int)) := by unfold I64; omega
      have ho1 : (x.tups.take (i + 1)).flatMap (growT N) = out ++ vl.map fun y => t ++ [y] := by
        rw [take_snoc hi, List.flatMap_append, ← hout, ← ht, hvl]; simp [growT]
      have ho2 := flat_take_le (growT N) x.tups (i + 1)
      rw [ho1, List.length_append, List.length_map] at ho2
      simp [aev, cav, look, acallPure, abin, abinN, abinP, abinI, abinS, aun, aconv, afield, afieldAddr, aindexAddr, aindex, aslice, alow, ahigh, abuild, abuildGo, cellsOf, splice, fieldTy, alen, apick, amax, amin, aload, headV, aparts, abuildSlice, elParts, abytesStr, astore, amake, aappend, aclear, anew, arith, aresults, aresList, ares, spec0, spec1, spec2, spec3, spec4, eqCells, eqCell, sMeet, hMI, resM, hlo, hv1, hv2, hmin, om1, os1]
      refine loop_ruleH (C := CK37) sigCK37 mixCK37 [18] (fun k : Nat => ⟨[(1, Enc.enc rels), (2, Enc.enc vars), (3, .int .i64 v), (4, .ptr 0 1 4 0 0), (8, .ptr 1 1 4 0 0), (9, .own 2 (outK out t vl k).length), (10, .int .i64 ((m : Int) + (minT N t : Int))), (11, .int .i64 ((s : Int) + (seekT N t : Int))), (12, .int .i64 i), (13, Enc.enc t), (18, Enc.enc vl), (20, .int .i64 k)], [XB x, ZB, bR (outK out t vl k)]⟩) (fun k => k ≤ vl.length) (fun k => vl.length - k) (by kernel_rfl) ⟨0, Nat.zero_le _, ?_⟩ (fun k hk0 => ?_)
      · exact weak_keep 3 (by simp [outK_zero]) (by simp) (by simp [AV.clean, AV.clean1]) (by simp) (by simp [XB, ZB, bR, outK_zero])
      · by_cases hk : k < vl.length
        · have k1 : I64 ((k : Int) + 1) := by unfold I64; omega
          have ek := outK_succ (out := out) (t := t) hk
          have ol : (outK out t vl k).length ≤ 1000000000 := Nat.le_trans outK_len (by omega)
          have ht100 : t.length ≤ 100 := by omega
          obtain ⟨o2, ho2e⟩ : ∃ o2, o2 = outK out t vl k := ⟨_, rfl⟩
          rw [← ho2e] at ol ek ⊢
          simp [aev, cav, look, acallPure, abin, abinN, abinP, abinI, abinS, aun, aconv, afield, afieldAddr, aindexAddr, aindex, aslice, alow, ahigh, abuild, abuildGo, cellsOf, splice, fieldTy, alen, apick, amax, amin, aload, headV, aparts, abuildSlice, elParts, abytesStr, astore, amake, aappend, aclear, anew, arith, aresults, aresList, ares, spec0, spec1, spec2, spec3, spec4, eqCells, eqCell, XB, ZB, bR, hk, rowAt_enc hk, scalK37, scalK37b, k1]
          exact ⟨by omega, by omega, by omega, k + 1, by omega, by omega, weak_keep 3 (by simp [ek]) (by simp) (by simp [AV.clean, AV.clean1]) (by simp) (by simp [XB, ZB, bR, ek])⟩
        · have hke : k = vl.length := by omega
          rw [hke, outK_all, ← ho1]
          simp [aev, cav, look, acallPure, abin, abinN, abinP, abinI, abinS, aun, aconv, afield, afieldAddr, aindexAddr, aindex, aslice, alow, ahigh, abuild, abuildGo, cellsOf, splice, fieldTy, alen, apick, amax, amin, aload, headV, aparts, abuildSlice, elParts, abytesStr, astore, amake, aappend, aclear, anew, arith, aresults, aresList, ares, spec0, spec1, spec2, spec3, spec4, eqCells, eqCell, XB, ZB, bR, i1]
          exact ⟨⟨i + 1, m + minT N t, s + seekT N t⟩, ⟨by simp only; omega, by simp only; rw [← List.map_take, em1], by simp only; rw [← List.map_take, es1]⟩, by simp only; omega, weak_eq (by simp) (by simp [XB, ZB, bR])⟩
  · have hie : i = x.tups.length := by omega
    rw [hie, List.take_of_length_le (Nat.le_refl _)] at hout h2 h3
    simp [aev, cav, look, acallPure, abin, abinN, abinP, abinI, abinS, aun, aconv, afield, afieldAddr, aindexAddr, aindex, aslice, alow, ahigh, abuild, abuildGo, cellsOf, splice, fieldTy, alen, apick, amax, amin, aload, headV, aparts, abuildSlice, elParts, abytesStr, astore, amake, aappend, aclear, anew, arith, aresults, aresList, ares, spec0, spec1, spec2, spec3, spec4, eqCells, eqCell, XB, ZB, bR, hi, nextF, hout, h2, h3]
    omega
end Go.Proofs.Ytpbgnnaaobamfaa

/-
  layer 33, the reference: Join and Prefix.
-/
namespace Go.Proofs.Ytpbgnnaaobamfaa
open Go.RowKit
set_option linter.unusedSimpArgs false
set_option linter.unusedVariables false
set_option maxRecDepth 100000

def stN (N : Net) (k : Nat) : Sta := ⟨outs N k [], levs N (cntT N) k, levs N (minT N) k, levs N (seekT N) k⟩
theorem levs_succ (N : Net) (f : List Int → Nat) (k : Nat) : levs N f (k + 1) = levs N f k ++ [(sumT N f k [] : Int)] := by
  unfold levs
  rw [List.range_succ, List.map_append]; rfl
theorem next_st (N : Net) (k : Nat) : nextF N (stN N k) = stN N (k + 1) := by
  unfold nextF stN
  simp only
  rw [← outs_succ, cnt_eq, levs_succ, levs_succ, levs_succ, sumT_eq (minT N), sumT_eq (seekT N)]
structure RLight (N : Net) (k : Nat) : Prop where
  l : Light N k
  o : ∀ i, i ≤ k → (outs N i []).length ≤ 1000000000
theorem refR_of {n : Int} {rels : List Rela} {vars : List (List Int)} (h : ChkOK n rels vars) {k : Nat} (hL : Light (netOf rels vars) k) {i : Nat} (hi : i < rels.length) : RefR (ix rels i) (ix vars i) := by
  have hlen := h.len
  have hv := h.var i (by omega)
  obtain ⟨⟨w1, w2, w3⟩, h20, hris⟩ := check_ok (h.chk i hi)
  have hat := varOK_at hv
  have hl := hv.len
  have hinc : Inc (ix vars i) := by have h := hv.inc; unfold valid at h; exact of_decide_eq_true (p := (ix vars i).Pairwise (· < ·)) h
  refine ⟨hinc, fun u hu => ?_, fun row hr => ?_, ?_, ?_⟩
  · obtain ⟨c, hc, rfl⟩ := mem_ix hu
    exact (hat c hc).1
  · have := w3 row hr
    omega
  · have := hL.rows _ (ix_mem (show i < (netOf rels vars).length by rw [netOf_len]; exact hi))
    rw [netOf_ix hi] at this
    exact this
  · unfold SmallR; omega
theorem next_pre {n : Int} {rels : List Rela} {vars : List (List Int)} (h : ChkOK n rels vars) {K : Nat} (hK : (K : Int) ≤ n) (hL : RLight (netOf rels vars) K) {k : Nat} (hk : k < K) : NextPre (stN (netOf rels vars) k) rels vars (k : Int) := by
  have h24 := h.n24
  have hr12 := h.r12
  have hlen := h.len
  refine ⟨by omega, by omega, fun t ht => ?_, h.len, by omega, fun i hi => refR_of h hL.l hi, ?_, ?_, hL.o k (by omega), ?_, ?_, ?_, ?_, ?_⟩
  · have h1 := outs_len k [] t ht
    have h2 : t.length = k := by simpa using h1
    omega
  · obtain ⟨l, hl, hm⟩ := h.any k (by omega)
    obtain ⟨i, hi, rfl⟩ := mem_ix hl
    exact ⟨i, by omega, hm⟩
  · show ((outs _ k []).flatMap _).length ≤ _
    rw [← outs_succ]
    exact hL.o (k + 1) (by omega)
  · show ((outs _ k []).map _).sum ≤ _
    rw [← sumT_eq]
    exact hL.l.m k hk
  · show ((outs _ k []).map _).sum ≤ _
    rw [← sumT_eq]
    exact hL.l.s k hk
  · show (levs _ _ _).length ≤ _
    rw [levs_len]; omega
  · show (levs _ _ _).length ≤ _
    rw [levs_len]; omega
  · show (levs _ _ _).length ≤ _
    rw [levs_len]; omega
def JoinPreR (n : Int) (rels : List Rela) (vars : List (List Int)) : Prop := ChkPre n rels vars ∧ (jchkF n rels vars = 0 → RLight (netOf rels vars) n.toNat)
noncomputable def sJoinR : List AV → Option (Prop × AV) := spec3 JoinPreR (fun n rels vars => resJ (joinF n rels vars))
def PrefPreR (n : Int) (rels : List Rela) (vars : List (List Int)) (k : Int) : Prop := ChkPre n rels vars ∧ (jchkF n rels vars = 0 → 0 ≤ k → k ≤ n → RLight (netOf rels vars) k.toNat)
noncomputable def sPrefR : List AV → Option (Prop × AV) := spec4 PrefPreR (fun n rels vars k => Enc.enc (prefF n rels vars k))
def XBf (f : Bool) (x : Sta) : Blk := ⟨61, 4, [[.slice 1 f (encRows x.tups), .slice 1 f (encRows x.binds), .slice 1 f (encRows x.mins), .slice 1 f (encRows x.seeks)]], true, true⟩
structure M6 where
  i : Nat
  f : Bool
noncomputable def CK22 : Ctx := mkC Try.prog G0 [(17, .pure sJChk), (37, .pure sNext)]
@[simp] theorem CK22_P : CK22.P = Try.prog := rfl
@[simp] theorem CK22_G : CK22.G = G0 := rfl
@[simp] theorem CK22_1 : CK22.S 17 = .pure sJChk := rfl
@[simp] theorem CK22_2 : CK22.S 37 = .pure sNext := rfl
theorem mixCK22 : CK22.P.follows .mixedOrders = true := mixed
theorem sigCK22 : SigOK CK22 := sigOK_cons (entryPure (jchkR) Try.func17 rfl (by decide)) (sigOK_cons (entryPure (nextR) Try.func37 rfl (by decide)) (sigOK_nil _ _))
theorem scalK22 : isScalT CK22 22 = false := by show isScalT ⟨Try.prog, fun _ => .no, G0⟩ 22 = false; kernel_rfl
theorem scalK22b : isScalT CK22 25 = true := by show isScalT ⟨Try.prog, fun _ => .no, G0⟩ 25 = true; kernel_rfl
theorem scalK22c : isScalT CK22 39 = false := by show isScalT ⟨Try.prog, fun _ => .no, G0⟩ 39 = false; kernel_rfl
theorem scalK22d : isScalT CK22 61 = false := by show isScalT ⟨Try.prog, fun _ => .no, G0⟩ 61 = false; kernel_rfl
theorem Sta.ext4 {a b c d} : (Enc.enc (⟨a, b, c, d⟩ : Sta)) = .agg [.slice 1 false (encRows a), .slice 1 false (encRows b), .slice 1 false (encRows c), .slice 1 false (encRows d)] := rfl
set_option maxHeartbeats 8000000 in
theorem prefR : PureOK Try.prog G0 26 sPrefR := by
  refine pure4 (C := CK22) sigCK22 mixCK22 Try.func26 rfl rfl rfl (by kernel_rfl) (by decide) (fun n rels vars k ⟨hP, hL⟩ => ?_)
  rcases em2 (jchkF n rels vars = 0) with hc | hc
  case inr =>
    have e : prefF n rels vars k = [] := by unfold prefF; rw [if_neg (of_eq_false hc)]
    simp [aev, cav, look, acallPure, abin, abinN, abinP, abinI, abinS, aun, aconv, afield, afieldAddr, aindexAddr, aindex, aslice, alow, ahigh, abuild, abuildGo, cellsOf, splice, fieldTy, alen, apick, amax, amin, aload, headV, aparts, abuildSlice, elParts, abytesStr, astore, amake, aappend, aclear, anew, arith, aresults, aresList, ares, spec0, spec1, spec2, spec3, spec4, eqCells, eqCell, sJChk, hP, hc, e]
  by_cases h0 : k < 0
  · have e : prefF n rels vars k = [] := by unfold prefF; rw [if_pos (of_eq_true hc), if_neg (by omega)]
    simp [aev, cav, look, acallPure, abin, abinN, abinP, abinI, abinS, aun, aconv, afield, afieldAddr, aindexAddr, aindex, aslice, alow, ahigh, abuild, abuildGo, cellsOf, splice, fieldTy, alen, apick, amax, amin, aload, headV, aparts, abuildSlice, elParts, abytesStr, astore, amake, aappend, aclear, anew, arith, aresults, aresList, ares, spec0, spec1, spec2, spec3, spec4, eqCells, eqCell, sJChk, hP, hc, h0, e]
  by_cases hn : n < k
  · have e : prefF n rels vars k = [] := by unfold prefF; rw [if_pos (of_eq_true hc), if_neg (by omega)]
    simp [aev, cav, look, acallPure, abin, abinN, abinP, abinI, abinS, aun, aconv, afield, afieldAddr, aindexAddr, aindex, aslice, alow, ahigh, abuild, abuildGo, cellsOf, splice, fieldTy, alen, apick, amax, amin, aload, headV, aparts, abuildSlice, elParts, abytesStr, astore, amake, aappend, aclear, anew, arith, aresults, aresList, ares, spec0, spec1, spec2, spec3, spec4, eqCells, eqCell, sJChk, hP, hc, h0, hn, e]
  have e : prefF n rels vars k = outs (netOf rels vars) k.toNat [] := by unfold prefF; rw [if_pos (of_eq_true hc), if_pos (by omega)]
  have hOK := chk_ok (of_eq_true hc)
  obtain ⟨m, rfl⟩ : ∃ m : Nat, k = m := ⟨k.toNat, by omega⟩
  have hn24 := hOK.n24
  have hLt := hL (of_eq_true hc) (by omega) (by omega)
  rw [Int.toNat_natCast] at hLt e
  have hpre : ∀ i, i < m → NextPre (stN (netOf rels vars) i) rels vars (i : Int) := fun i hi => next_pre hOK (K := m) (by omega) hLt hi
  rw [e]
  simp [aev, cav, look, acallPure, abin, abinN, abinP, abinI, abinS, aun, aconv, afield, afieldAddr, aindexAddr, aindex, aslice, alow, ahigh, abuild, abuildGo, cellsOf, splice, fieldTy, alen, apick, amax, amin, aload, headV, aparts, abuildSlice, elParts, abytesStr, astore, amake, aappend, aclear, anew, arith, aresults, aresList, ares, spec0, spec1, spec2, spec3, spec4, eqCells, eqCell, sJChk, hP, hc, h0, hn, scalK22, scalK22b, scalK22d, abuildSlice, aparts]
  refine loop_rule (C := CK22) sigCK22 mixCK22 (fun q : M6 => ⟨[(1, Enc.enc rels), (2, Enc.enc vars), (3, .int .i64 m), (9, .ptr 0 1 4 0 0), (10, .int .i64 q.i)], [XBf q.f (stN (netOf rels vars) q.i)]⟩) (fun q => q.i ≤ m) (fun q => m - q.i) (by kernel_rfl) ⟨⟨0, true⟩, Nat.zero_le _, ?_⟩ (fun q hi => ?_)
  · refine weak_eq (by simp) ?_
    rfl
  obtain ⟨i, f⟩ := q
  simp only at hi ⊢
  by_cases hlt : i < m
  · have i1 : I64 ((i : Int) + 1) := by unfold I64; omega
    have hp := hpre i hlt
    have hx := next_st (netOf rels vars) i
    simp [aev, cav, look, acallPure, abin, abinN, abinP, abinI, abinS, aun, aconv, afield, afieldAddr, aindexAddr, aindex, aslice, alow, ahigh, abuild, abuildGo, cellsOf, splice, fieldTy, alen, apick, amax, amin, aload, headV, aparts, abuildSlice, elParts, abytesStr, astore, amake, aappend, aclear, anew, arith, aresults, aresList, ares, spec0, spec1, spec2, spec3, spec4, eqCells, eqCell, XBf, hlt, sNext, hp, hx, i1]
    exact ⟨⟨i + 1, false⟩, by simp only; omega, by simp only; omega, weak_eq (by simp) (by simp [XBf])⟩
  · have : i = m := by omega
    subst this
    simp [aev, cav, look, acallPure, abin, abinN, abinP, abinI, abinS, aun, aconv, afield, afieldAddr, aindexAddr, aindex, aslice, alow, ahigh, abuild, abuildGo, cellsOf, splice, fieldTy, alen, apick, amax, amin, aload, headV, aparts, abuildSlice, elParts, abytesStr, astore, amake, aappend, aclear, anew, arith, aresults, aresList, ares, spec0, spec1, spec2, spec3, spec4, eqCells, eqCell, XBf, hlt]
    rfl
set_option maxHeartbeats 8000000 in
theorem joinR : PureOK Try.prog G0 22 sJoinR := by
  refine pureH3 (C := CK22) sigCK22 mixCK22 Try.func22 rfl rfl rfl [9] (by kernel_rfl) (by decide) (fun n rels vars ⟨hP, hL⟩ => ?_)
  rcases em2 (jchkF n rels vars = 0) with hc | hc
  case inr =>
    have e : joinF n rels vars = ⟨[], ⟨[], [], []⟩, jchkF n rels vars⟩ := by unfold joinF; rw [if_neg (of_eq_false hc)]
    simp [aev, cav, look, acallPure, abin, abinN, abinP, abinI, abinS, aun, aconv, afield, afieldAddr, aindexAddr, aindex, aslice, alow, ahigh, abuild, abuildGo, cellsOf, splice, fieldTy, alen, apick, amax, amin, aload, headV, aparts, abuildSlice, elParts, abytesStr, astore, amake, aappend, aclear, anew, arith, aresults, aresList, ares, spec0, spec1, spec2, spec3, spec4, eqCells, eqCell, sJChk, hP, hc, e, resJ]
  have hOK := chk_ok (of_eq_true hc)
  have n1 := hOK.n1
  obtain ⟨m, rfl⟩ : ∃ m : Nat, n = m := ⟨n.toNat, by omega⟩
  have hn24 := hOK.n24
  have hLt := hL (of_eq_true hc)
  rw [Int.toNat_natCast] at hLt
  have e : joinF (m : Int) rels vars = ⟨(stN (netOf rels vars) m).tups, ⟨(stN (netOf rels vars) m).binds, (stN (netOf rels vars) m).mins, (stN (netOf rels vars) m).seeks⟩, 0⟩ := by unfold joinF; rw [if_pos (of_eq_true hc), Int.toNat_natCast]; rfl
  have hpre : ∀ i, i < m → NextPre (stN (netOf rels vars) i) rels vars (i : Int) := fun i hi => next_pre hOK (K := m) (by omega) hLt hi
  rw [e]
  simp [aev, cav, look, acallPure, abin, abinN, abinP, abinI, abinS, aun, aconv, afield, afieldAddr, aindexAddr, aindex, aslice, alow, ahigh, abuild, abuildGo, cellsOf, splice, fieldTy, alen, apick, amax, amin, aload, headV, aparts, abuildSlice, elParts, abytesStr, astore, amake, aappend, aclear, anew, arith, aresults, aresList, ares, spec0, spec1, spec2, spec3, spec4, eqCells, eqCell, sJChk, hP, hc, scalK22, scalK22b, scalK22d, abuildSlice, aparts]
  refine loop_ruleH (C := CK22) sigCK22 mixCK22 [9] (fun q : M6 => ⟨[(0, .int .i64 m), (1, Enc.enc rels), (2, Enc.enc vars), (7, .ptr 0 1 3 0 0), (10, .ptr 1 1 4 0 0), (11, .int .i64 q.i)], [⟨39, 3, [[.slice 1 true [], .slice 1 true [], .slice 1 true []]], true, true⟩, XBf q.f (stN (netOf rels vars) q.i)]⟩) (fun q => q.i ≤ m) (fun q => m - q.i) (by kernel_rfl) ⟨⟨0, true⟩, Nat.zero_le _, ?_⟩ (fun q hi => ?_)
  · refine weak_eq (by simp) ?_
    rfl
  obtain ⟨i, f⟩ := q
  simp only at hi ⊢
  by_cases hlt : i < m
  · have i1 : I64 ((i : Int) + 1) := by unfold I64; omega
    have hp := hpre i hlt
    have hx := next_st (netOf rels vars) i
    simp [aev, cav, look, acallPure, abin, abinN, abinP, abinI, abinS, aun, aconv, afield, afieldAddr, aindexAddr, aindex, aslice, alow, ahigh, abuild, abuildGo, cellsOf, splice, fieldTy, alen, apick, amax, amin, aload, headV, aparts, abuildSlice, elParts, abytesStr, astore, amake, aappend, aclear, anew, arith, aresults, aresList, ares, spec0, spec1, spec2, spec3, spec4, eqCells, eqCell, XBf, hlt, sNext, hp, hx, i1]
    exact ⟨⟨i + 1, false⟩, by simp only; omega, by simp only; omega, weak_eq (by simp) (by simp [XBf])⟩
  · have : i = m := by omega
    subst this
    simp [aev, cav, look, acallPure, abin, abinN, abinP, abinI, abinS, aun, aconv, afield, afieldAddr, aindexAddr, aindex, aslice, alow, ahigh, abuild, abuildGo, cellsOf, splice, fieldTy, alen, apick, amax, amin, aload, headV, aparts, abuildSlice, elParts, abytesStr, astore, amake, aappend, aclear, anew, arith, aresults, aresList, ares, spec0, spec1, spec2, spec3, spec4, eqCells, eqCell, XBf, hlt]
    refine AW_regionF sigCK22 mixCK22 [.pure, .read, .pure, .read, .pure, .eff, .pure] [[],[0],[],[2],[0,1],[1,0,4,2,3],[3,2,4,0,1,5]] (by kernel_rfl) (by kernel_rfl) (by kernel_rfl) (by kernel_rfl) ?_
    simp [aev, cav, look, acallPure, abin, abinN, abinP, abinI, abinS, aun, aconv, afield, afieldAddr, aindexAddr, aindex, aslice, alow, ahigh, abuild, abuildGo, cellsOf, splice, fieldTy, alen, apick, amax, amin, aload, headV, aparts, abuildSlice, elParts, abytesStr, astore, amake, aappend, aclear, anew, arith, aresults, aresList, ares, spec0, spec1, spec2, spec3, spec4, eqCells, eqCell, scalK22, scalK22b, scalK22c, scalK22d, resJ]
end Go.Proofs.Ytpbgnnaaobamfaa

/-
  layer 33: few.
-/
namespace Go.Proofs.Ytpbgnnaaobamfaa
open Go.RowKit
set_option linter.unusedSimpArgs false
set_option linter.unusedVariables false
set_option maxRecDepth 100000

def shortR (l : List (List Int)) (b : Nat) : Prop := ∀ row ∈ l, row.length ≤ b
instance (l : List (List Int)) (b : Nat) : Decidable (shortR l b) := inferInstanceAs (Decidable (∀ row ∈ l, row.length ≤ b))
/-- The loop over the relations, with the sum as the machine adds. -/
def fewN : List Rela → Int → Bool
  | [], _ => true
  | r :: q, n => if 120 < w64 (n + (r.rows.length : Int)) then false else if shortR r.rows 20 then fewN q (w64 (n + (r.rows.length : Int))) else false
def fewB (rels : List Rela) (vars : List (List Int)) : Bool := if 14 < rels.length ∨ 14 < vars.length then false else if fewN rels 0 = true then decide (shortR vars 30) else false
def tot (rels : List Rela) : Nat := (rels.map fun r => r.rows.length).sum
/-- What few says: a sum of at most 120, or a relation so large that no join takes it. -/
structure Few (rels : List Rela) (vars : List (List Int)) : Prop where
  r14 : rels.length ≤ 14
  v14 : vars.length ≤ 14
  sh : ∀ r ∈ rels, shortR r.rows 20
  vs : shortR vars 30
  sum : tot rels ≤ 120 ∨ ∃ r ∈ rels, 20000 < r.rows.length
theorem fewN_spec : ∀ {rels : List Rela} {n : Int}, 0 ≤ n → n ≤ 120 → fewN rels n = true → (∀ r ∈ rels, shortR r.rows 20) ∧ (n + (tot rels : Int) ≤ 120 ∨ ∃ r ∈ rels, 20000 < r.rows.length)
  | [], n, h0, h1, _ => ⟨(fun r hr => by cases hr), .inl (by show n + ((0 : Nat) : Int) ≤ 120; omega)⟩
  | r :: q, n, h0, h1, h => by
    unfold fewN at h
    split at h
    · cases h
    rename_i a
    split at h
    case isFalse => cases h
    rename_i b
    by_cases hb : 20000 < r.rows.length
    · have hq : ∀ {q : List Rela} {m : Int}, fewN q m = true → ∀ r ∈ q, shortR r.rows 20 := by
        intro q
        induction q with
        | nil => intro m _ r hr; cases hr
        | cons x q ih =>
          intro m hm y hy
          unfold fewN at hm
          split at hm
          · cases hm
          split at hm
          case isFalse => cases hm
          rename_i hx
          rcases List.mem_cons.1 hy with rfl | hy
          · exact hx
          · exact ih hm y hy
      exact ⟨fun y hy => by
        rcases List.mem_cons.1 hy with rfl | hy
        · exact b
        · exact hq h y hy, .inr ⟨r, List.mem_cons_self .., hb⟩⟩
    · have hi : I64 (n + (r.rows.length : Int)) := by unfold I64; omega
      rw [w64_in hi] at a h
      obtain ⟨h2, h3⟩ := fewN_spec (rels := q) (by omega) (by omega) h
      have ht : tot (r :: q) = r.rows.length + tot q := by unfold tot; simp
      refine ⟨fun y hy => ?_, ?_⟩
      · rcases List.mem_cons.1 hy with rfl | hy
        · exact b
        · exact h2 y hy
      · rcases h3 with h3 | ⟨y, hy, h4⟩
        · left; rw [ht]; omega
        · exact .inr ⟨y, List.mem_cons_of_mem _ hy, h4⟩
theorem few_of {rels : List Rela} {vars : List (List Int)} (h : fewB rels vars = true) : Few rels vars := by
  unfold fewB at h
  split at h
  · cases h
  rename_i a
  split at h
  case isFalse => cases h
  rename_i b
  obtain ⟨h2, h3⟩ := fewN_spec (by decide) (by decide) b
  exact ⟨by omega, by omega, h2, of_decide_eq_true h, by
    rcases h3 with h3 | h3
    · left; omega
    · exact .inr h3⟩
theorem fewN_step {rels : List Rela} {i : Nat} (h : i < rels.length) (n : Int) : fewN (rels.drop i) n = if 120 < w64 (n + ((ix rels i).rows.length : Int)) then false else if shortR (ix rels i).rows 20 then fewN (rels.drop (i + 1)) (w64 (n + ((ix rels i).rows.length : Int))) else false := by
  rw [List.drop_eq_getElem_cons h, ix_lt h]
  rfl
def FewPre (rels : List Rela) (vars : List (List Int)) : Prop := ∀ r ∈ rels, r.rows.length ≤ maxLen
def sFew : List AV → Option (Prop × AV) := spec2 FewPre (fun rels vars => .bool (fewB rels vars))
structure M7 where
  i : Nat
  n : Int
set_option maxHeartbeats 16000000 in
theorem fewP : PureOK Try.prog G0 16 sFew := by
  refine pure2 (C := CE) sigCE mixCE Try.func16 rfl rfl rfl (by kernel_rfl) (by decide) (fun rels vars hP => ?_)
  by_cases h1 : 14 < rels.length
  · have h1' : (14 : Int) < rels.length := by omega
    have e : fewB rels vars = false := by unfold fewB; rw [if_pos (.inl h1)]
    simp [aev, cav, look, acallPure, abin, abinN, abinP, abinI, abinS, aun, aconv, afield, afieldAddr, aindexAddr, aindex, aslice, alow, ahigh, abuild, abuildGo, cellsOf, splice, fieldTy, alen, apick, amax, amin, aload, headV, aparts, abuildSlice, elParts, abytesStr, astore, amake, aappend, aclear, anew, arith, aresults, aresList, ares, spec0, spec1, spec2, spec3, spec4, eqCells, eqCell, h1, h1', e]
  have h1' : ¬ (14 : Int) < rels.length := by omega
  by_cases h2 : 14 < vars.length
  · have h2' : (14 : Int) < vars.length := by omega
    have e : fewB rels vars = false := by unfold fewB; rw [if_pos (.inr h2)]
    simp [aev, cav, look, acallPure, abin, abinN, abinP, abinI, abinS, aun, aconv, afield, afieldAddr, aindexAddr, aindex, aslice, alow, ahigh, abuild, abuildGo, cellsOf, splice, fieldTy, alen, apick, amax, amin, aload, headV, aparts, abuildSlice, elParts, abytesStr, astore, amake, aappend, aclear, anew, arith, aresults, aresList, ares, spec0, spec1, spec2, spec3, spec4, eqCells, eqCell, h1, h1', h2, h2', e]
  have h2' : ¬ (14 : Int) < vars.length := by omega
  have hF : fewB rels vars = if fewN rels 0 = true then decide (shortR vars 30) else false := by unfold fewB; rw [if_neg (by omega)]
  simp [aev, cav, look, acallPure, abin, abinN, abinP, abinI, abinS, aun, aconv, afield, afieldAddr, aindexAddr, aindex, aslice, alow, ahigh, abuild, abuildGo, cellsOf, splice, fieldTy, alen, apick, amax, amin, aload, headV, aparts, abuildSlice, elParts, abytesStr, astore, amake, aappend, aclear, anew, arith, aresults, aresList, ares, spec0, spec1, spec2, spec3, spec4, eqCells, eqCell, h1, h1', h2, h2']
  refine loop_rule (C := CE) sigCE mixCE (fun s : M7 => ⟨[(0, Enc.enc rels), (1, Enc.enc vars), (5, .int .i64 s.n), (6, .int .i64 s.i)], []⟩) (fun s => s.i ≤ rels.length ∧ fewN (rels.drop s.i) s.n = fewN rels 0) (fun s => rels.length - s.i) (by kernel_rfl) ⟨⟨0, 0⟩, ⟨Nat.zero_le _, by simp⟩, weak_slots (by simp)⟩ (fun s ⟨g1, g2⟩ => ?_)
  obtain ⟨i, n⟩ := s
  simp only at g1 g2 ⊢
  by_cases hi : i < rels.length
  · have i1 : I64 ((i : Int) + 1) := by unfold I64; omega
    obtain ⟨rows, hr⟩ : ∃ rows, rows = (ix rels i).rows := ⟨_, rfl⟩
    have hrl : rows.length ≤ maxLen := by rw [hr]; exact hP _ (ix_mem hi)
    have hrl2 : rows.length ≤ 9223372036854775807 := hrl
    rw [fewN_step hi, ← hr] at g2
    have hri : rowAt (encRows rels) i = [.int .i64 (ix rels i).arity, .slice 1 false (encRows rows)] := by rw [rowAt_enc hi, hr]; rfl
    by_cases c1 : 120 < w64 (n + (rows.length : Int))
    · rw [if_pos c1] at g2
      have e : fewB rels vars = false := by rw [hF, ← g2]; rfl
      simp [aev, cav, look, acallPure, abin, abinN, abinP, abinI, abinS, aun, aconv, afield, afieldAddr, aindexAddr, aindex, aslice, alow, ahigh, abuild, abuildGo, cellsOf, splice, fieldTy, alen, apick, amax, amin, aload, headV, aparts, abuildSlice, elParts, abytesStr, astore, amake, aappend, aclear, anew, arith, aresults, aresList, ares, spec0, spec1, spec2, spec3, spec4, eqCells, eqCell, hi, hri, c1, e]
    rw [if_neg c1] at g2
    simp [aev, cav, look, acallPure, abin, abinN, abinP, abinI, abinS, aun, aconv, afield, afieldAddr, aindexAddr, aindex, aslice, alow, ahigh, abuild, abuildGo, cellsOf, splice, fieldTy, alen, apick, amax, amin, aload, headV, aparts, abuildSlice, elParts, abytesStr, astore, amake, aappend, aclear, anew, arith, aresults, aresList, ares, spec0, spec1, spec2, spec3, spec4, eqCells, eqCell, hi, hri, c1]
    refine loop_rule (C := CE) sigCE mixCE (fun k : Nat => ⟨[(0, Enc.enc rels), (1, Enc.enc vars), (5, .int .i64 (w64 (n + (rows.length : Int)))), (6, .int .i64 i), (7, .int .i64 k)], []⟩) (fun k => k ≤ rows.length ∧ ∀ j, j < k → (ix rows j).length ≤ 20) (fun k => rows.length - k) (by kernel_rfl) ⟨0, ⟨Nat.zero_le _, fun j hj => absurd hj (Nat.not_lt_zero _)⟩, weak_slots (by simp)⟩ (fun k ⟨k1, k2⟩ => ?_)
    by_cases hk : k < rows.length
    · have j1 : I64 ((k : Int) + 1) := by unfold I64; omega
      by_cases c2 : 20 < (ix rows k).length
      · have c2' : (20 : Int) < (ix rows k).length := by omega
        have e : fewB rels vars = false := by
          rw [hF, ← g2, if_neg (fun (h : shortR rows 20) => by have := h _ (ix_mem hk); omega)]; rfl
        simp [aev, cav, look, acallPure, abin, abinN, abinP, abinI, abinS, aun, aconv, afield, afieldAddr, aindexAddr, aindex, aslice, alow, ahigh, abuild, abuildGo, cellsOf, splice, fieldTy, alen, apick, amax, amin, aload, headV, aparts, abuildSlice, elParts, abytesStr, astore, amake, aappend, aclear, anew, arith, aresults, aresList, ares, spec0, spec1, spec2, spec3, spec4, eqCells, eqCell, hi, hri, hk, rowAt_enc hk, c2, c2', e]
      · have c2' : ¬ (20 : Int) < (ix rows k).length := by omega
        simp [aev, cav, look, acallPure, abin, abinN, abinP, abinI, abinS, aun, aconv, afield, afieldAddr, aindexAddr, aindex, aslice, alow, ahigh, abuild, abuildGo, cellsOf, splice, fieldTy, alen, apick, amax, amin, aload, headV, aparts, abuildSlice, elParts, abytesStr, astore, amake, aappend, aclear, anew, arith, aresults, aresList, ares, spec0, spec1, spec2, spec3, spec4, eqCells, eqCell, hi, hri, hk, rowAt_enc hk, c2, c2', j1]
        exact ⟨k + 1, ⟨by omega, fun j hj => by
          rcases Nat.lt_or_eq_of_le (Nat.le_of_lt_succ hj) with h | rfl
          · exact k2 j h
          · omega⟩, by omega, weak_slots (by simp)⟩
    · have hs : shortR rows 20 := fun row hrow => by
        obtain ⟨j, hj, rfl⟩ := mem_ix hrow
        exact k2 j (by omega)
      rw [if_pos hs] at g2
      simp [aev, cav, look, acallPure, abin, abinN, abinP, abinI, abinS, aun, aconv, afield, afieldAddr, aindexAddr, aindex, aslice, alow, ahigh, abuild, abuildGo, cellsOf, splice, fieldTy, alen, apick, amax, amin, aload, headV, aparts, abuildSlice, elParts, abytesStr, astore, amake, aappend, aclear, anew, arith, aresults, aresList, ares, spec0, spec1, spec2, spec3, spec4, eqCells, eqCell, hi, hri, hk, i1]
      exact ⟨⟨i + 1, w64 (n + (rows.length : Int))⟩, ⟨by simp only; omega, g2⟩, by simp only; omega, weak_slots (by simp)⟩
  have hie : i = rels.length := by omega
  have hN : fewN rels 0 = true := by rw [← g2, hie, List.drop_of_length_le (Nat.le_refl _)]; rfl
  rw [if_pos hN] at hF
  simp [aev, cav, look, acallPure, abin, abinN, abinP, abinI, abinS, aun, aconv, afield, afieldAddr, aindexAddr, aindex, aslice, alow, ahigh, abuild, abuildGo, cellsOf, splice, fieldTy, alen, apick, amax, amin, aload, headV, aparts, abuildSlice, elParts, abytesStr, astore, amake, aappend, aclear, anew, arith, aresults, aresList, ares, spec0, spec1, spec2, spec3, spec4, eqCells, eqCell, hi]
  refine loop_rule (C := CE) sigCE mixCE (fun k : Nat => ⟨[(1, Enc.enc vars), (8, .int .i64 k)], []⟩) (fun k => k ≤ vars.length ∧ ∀ j, j < k → (ix vars j).length ≤ 30) (fun k => vars.length - k) (by kernel_rfl) ⟨0, ⟨Nat.zero_le _, fun j hj => absurd hj (Nat.not_lt_zero _)⟩, weak_slots (by simp)⟩ (fun k ⟨k1, k2⟩ => ?_)
  by_cases hk : k < vars.length
  · have j1 : I64 ((k : Int) + 1) := by unfold I64; omega
    by_cases c2 : 30 < (ix vars k).length
    · have c2' : (30 : Int) < (ix vars k).length := by omega
      have e : fewB rels vars = false := by
        rw [hF]
        exact decide_eq_false fun (h : shortR vars 30) => by have := h _ (ix_mem hk); omega
      simp [aev, cav, look, acallPure, abin, abinN, abinP, abinI, abinS, aun, aconv, afield, afieldAddr, aindexAddr, aindex, aslice, alow, ahigh, abuild, abuildGo, cellsOf, splice, fieldTy, alen, apick, amax, amin, aload, headV, aparts, abuildSlice, elParts, abytesStr, astore, amake, aappend, aclear, anew, arith, aresults, aresList, ares, spec0, spec1, spec2, spec3, spec4, eqCells, eqCell, hk, rowAt_enc hk, c2, c2', e]
    · have c2' : ¬ (30 : Int) < (ix vars k).length := by omega
      simp [aev, cav, look, acallPure, abin, abinN, abinP, abinI, abinS, aun, aconv, afield, afieldAddr, aindexAddr, aindex, aslice, alow, ahigh, abuild, abuildGo, cellsOf, splice, fieldTy, alen, apick, amax, amin, aload, headV, aparts, abuildSlice, elParts, abytesStr, astore, amake, aappend, aclear, anew, arith, aresults, aresList, ares, spec0, spec1, spec2, spec3, spec4, eqCells, eqCell, hk, rowAt_enc hk, c2, c2', j1]
      exact ⟨k + 1, ⟨by omega, fun j hj => by
        rcases Nat.lt_or_eq_of_le (Nat.le_of_lt_succ hj) with h | rfl
        · exact k2 j h
        · omega⟩, by omega, weak_slots (by simp)⟩
  · have hs : shortR vars 30 := fun row hrow => by
      obtain ⟨j, hj, rfl⟩ := mem_ix hrow
      exact k2 j (by omega)
    have e : fewB rels vars = true := by rw [hF]; exact decide_eq_true hs
    simp [aev, cav, look, acallPure, abin, abinN, abinP, abinI, abinS, aun, aconv, afield, afieldAddr, aindexAddr, aindex, aslice, alow, ahigh, abuild, abuildGo, cellsOf, splice, fieldTy, alen, apick, amax, amin, aload, headV, aparts, abuildSlice, elParts, abytesStr, astore, amake, aappend, aclear, anew, arith, aresults, aresList, ares, spec0, spec1, spec2, spec3, spec4, eqCells, eqCell, hk, e]
end Go.Proofs.Ytpbgnnaaobamfaa

/-
  layer 33: light; what few says of a join.
-/
namespace Go.Proofs.Ytpbgnnaaobamfaa
open Go.RowKit
set_option linter.unusedSimpArgs false
set_option linter.unusedVariables false
set_option maxRecDepth 100000

theorem lists_inc {N : Net} {t l : List Int} (h : l ∈ listsT N t) : Inc l := by
  unfold listsT at h
  obtain ⟨q, _, rfl⟩ := List.mem_map.1 h
  exact of_sorted _
theorem met_good {N : Net} {t : List Int} (h : listsT N t ≠ []) : Good (listsT N t) (metT N t) := meetF_good (fun l hl => lists_inc hl) h
theorem met_nil {N : Net} {t : List Int} (h : listsT N t = []) : metT N t = ([], 0) := by
  unfold metT meetF
  rw [if_pos (.inl h)]
theorem lists_mem_len {N : Net} {b : Nat} (hb : ∀ q ∈ N, q.1.rows.length ≤ b) {t l : List Int} (h : l ∈ listsT N t) : l.length ≤ b := by
  unfold listsT at h
  obtain ⟨q, hq, rfl⟩ := List.mem_map.1 h
  exact Nat.le_trans (of_len _) (Nat.le_trans (candV_len _ _ _ _) (hb q (List.mem_filter.1 hq).1))
theorem vals_le {N : Net} {t l : List Int} (h : l ∈ listsT N t) : cntT N t ≤ l.length := by
  have hne : listsT N t ≠ [] := fun e => by rw [e] at h; cases h
  have hg := met_good hne
  unfold cntT valsT
  rw [hg.1]
  exact nd_le (inc_nd (common_inc hne fun l hl => lists_inc hl)) fun x hx => (mem_common hne).1 hx l h
theorem foldl_min : ∀ (l : List (List Int)) (a : Nat), l.foldl (fun a l => min a l.length) a = a ∨ ∃ x ∈ l, l.foldl (fun a l => min a l.length) a = x.length
  | [], a => .inl rfl
  | x :: r, a => by
    rcases foldl_min r (min a x.length) with h | ⟨y, hy, h⟩
    · rcases Nat.le_total a x.length with h2 | h2
      · left; show r.foldl _ (min a x.length) = a; rw [h]; omega
      · right; exact ⟨x, List.mem_cons_self .., by show r.foldl _ (min a x.length) = _; rw [h]; omega⟩
    · exact .inr ⟨y, List.mem_cons_of_mem _ hy, h⟩
theorem least_mem {ls : List (List Int)} (h : ls ≠ []) : ∃ l ∈ ls, leastF ls = l.length := by
  unfold leastF
  have hp := List.length_pos_iff.2 h
  rcases foldl_min ls (ix ls 0).length with e | e
  · exact ⟨_, ix_mem hp, e⟩
  · exact e
theorem cnt_le_min {N : Net} {t : List Int} (h : listsT N t ≠ []) : cntT N t ≤ minT N t := by
  obtain ⟨l, hl, e⟩ := least_mem h
  unfold minT
  rw [e]; exact vals_le hl
theorem min_le {N : Net} {b : Nat} (hb : ∀ q ∈ N, q.1.rows.length ≤ b) (t : List Int) : minT N t ≤ b := by
  by_cases h : listsT N t = []
  · unfold minT; rw [h]; exact Nat.zero_le _
  · obtain ⟨l, hl, e⟩ := least_mem h
    unfold minT
    rw [e]; exact lists_mem_len hb hl
theorem seek_le {N : Net} (t : List Int) : seekT N t ≤ (listsT N t).length * (minT N t + 1) := by
  by_cases h : listsT N t = []
  · unfold seekT; rw [met_nil h]; exact Nat.zero_le _
  · obtain ⟨l, hl, e⟩ := least_mem h
    obtain ⟨j, hj, rfl⟩ := mem_ix hl
    have := (met_good h).2 j hj
    unfold seekT minT
    rw [e]; exact this
theorem cnt_le {N : Net} {b : Nat} (hb : ∀ q ∈ N, q.1.rows.length ≤ b) (t : List Int) : cntT N t ≤ b := by
  by_cases h : listsT N t = []
  · unfold cntT valsT; rw [met_nil h]; exact Nat.zero_le _
  · exact Nat.le_trans (cnt_le_min h) (min_le hb t)
theorem sum_le_mul {α : Type} {f : α → Nat} {b : Nat} {l : List α} (h : ∀ x ∈ l, f x ≤ b) : (l.map f).sum ≤ b * l.length := by
  have := sum_le (f := f) (g := fun _ => b) h
  rwa [sum_const] at this
theorem rlight {N : Net} {M k : Nat} (hb : ∀ q ∈ N, q.1.rows.length ≤ 120) (hN : N.length ≤ 14) (hM : M ≤ 2000000) (ho : ∀ i, i < k → (outs N i []).length ≤ M) : RLight N k := by
  have oc : ∀ i, i < k → (outs N (i + 1) []).length ≤ 120 * 2000000 := fun i hi => by
    rw [cnt_eq, sumT_eq]
    exact Nat.le_trans (sum_le_mul (b := 120) fun t _ => cnt_le hb t) (Nat.mul_le_mul_left _ (Nat.le_trans (ho i hi) hM))
  have oo : ∀ i, i ≤ k → (outs N i []).length ≤ 1000000000 := fun i hi => by
    cases i with
    | zero => show 1 ≤ _; omega
    | succ i => have := oc i (by omega); omega
  refine ⟨⟨fun q hq => by have := hb q hq; omega, oo k (Nat.le_refl _), fun i hi => ?_, fun i hi => ?_, fun i hi => ?_⟩, oo⟩
  · have := oc i hi
    rw [cnt_eq] at this; omega
  · rw [sumT_eq]
    exact Nat.le_trans (sum_le_mul (b := 120) fun t _ => min_le hb t) (Nat.le_trans (Nat.mul_le_mul_left _ (Nat.le_trans (ho i hi) hM)) (by decide))
  · rw [sumT_eq]
    refine Nat.le_trans (sum_le_mul (b := 14 * 121) fun t _ => ?_) (Nat.le_trans (Nat.mul_le_mul_left _ (Nat.le_trans (ho i hi) hM)) (by decide))
    refine Nat.le_trans (seek_le t) (Nat.mul_le_mul ?_ ?_)
    · exact Nat.le_trans lists_len hN
    · have := min_le hb t; omega
theorem lev_pow {N : Net} (hb : ∀ q ∈ N, q.1.rows.length ≤ 120) : ∀ i, (outs N i []).length ≤ 120 ^ i
  | 0 => Nat.le_refl _
  | i + 1 => by
    rw [cnt_eq, sumT_eq, Nat.pow_succ, Nat.mul_comm]
    exact Nat.le_trans (sum_le_mul (b := 120) fun t _ => cnt_le hb t) (Nat.mul_le_mul_left _ (lev_pow hb i))

/-! ### A join that few admits -/
theorem mem_le_sum : ∀ {l : List Nat} {x : Nat}, x ∈ l → x ≤ l.sum
  | y :: r, x, h => by
    rw [List.sum_cons]
    rcases List.mem_cons.1 h with rfl | h
    · omega
    · have := mem_le_sum h; omega
theorem Few.pre {n : Int} {rels : List Rela} {vars : List (List Int)} (h : Few rels vars) (hw : ∀ r ∈ rels, r.rows.length ≤ maxLen) : ChkPre n rels vars := by
  have h1 := h.r14
  have h2 := h.v14
  refine ⟨by omega, fun r hr => ⟨hw r hr, fun row hrow => ?_⟩, by omega, fun v hv => ?_⟩
  · have := h.sh r hr row hrow
    unfold SmallR; omega
  · have := h.vs v hv
    unfold SmallR; omega
theorem Few.net {n : Int} {rels : List Rela} {vars : List (List Int)} (h : Few rels vars) (hc : jchkF n rels vars = 0) : tot rels ≤ 120 ∧ (∀ q ∈ netOf rels vars, q.1.rows.length ≤ 120) ∧ (netOf rels vars).length ≤ 14 := by
  have hOK := chk_ok hc
  have ht : tot rels ≤ 120 := by
    rcases h.sum with h1 | ⟨r, hr, h1⟩
    · exact h1
    · obtain ⟨i, hi, rfl⟩ := mem_ix hr
      have := (check_ok (hOK.chk i hi)).2.1
      omega
  refine ⟨ht, fun q hq => ?_, by rw [netOf_len]; exact h.r14⟩
  obtain ⟨i, hi, rfl⟩ := mem_ix hq
  rw [netOf_len] at hi
  rw [netOf_ix hi]
  have : (ix rels i).rows.length ≤ tot rels := mem_le_sum (List.mem_map.2 ⟨_, ix_mem hi, rfl⟩)
  show (ix rels i).rows.length ≤ 120
  omega
open Classical in
noncomputable def lightB (n : Int) (rels : List Rela) (vars : List (List Int)) : Bool := if jchkF n rels vars = 0 then decide (∀ k : Nat, (k : Int) ≤ n → (outs (netOf rels vars) k []).length ≤ 2000) else true
def LightPre (n : Int) (rels : List Rela) (vars : List (List Int)) : Prop := Few rels vars ∧ ∀ r ∈ rels, r.rows.length ≤ maxLen
noncomputable def sLight : List AV → Option (Prop × AV) := spec3 LightPre (fun n rels vars => .bool (lightB n rels vars))
noncomputable def CLi : Ctx := mkC Try.prog G0 [(17, .pure sJChk), (26, .pure sPrefR)]
@[simp] theorem CLi_P : CLi.P = Try.prog := rfl
@[simp] theorem CLi_G : CLi.G = G0 := rfl
@[simp] theorem CLi_1 : CLi.S 17 = .pure sJChk := rfl
@[simp] theorem CLi_2 : CLi.S 26 = .pure sPrefR := rfl
theorem mixCLi : CLi.P.follows .mixedOrders = true := mixed
theorem sigCLi : SigOK CLi := sigOK_cons (entryPure (jchkR) Try.func17 rfl (by decide)) (sigOK_cons (entryPure (prefR) Try.func26 rfl (by decide)) (sigOK_nil _ _))
set_option maxHeartbeats 8000000 in
open Classical in
theorem lightP : PureOK Try.prog G0 21 sLight := by
  refine pure3 (C := CLi) sigCLi mixCLi Try.func21 rfl rfl rfl (by kernel_rfl) (by decide) (fun n rels vars ⟨hF, hw⟩ => ?_)
  have hP : ChkPre n rels vars := hF.pre hw
  rcases em2 (jchkF n rels vars = 0) with hc | hc
  case inr =>
    have e : lightB n rels vars = true := by unfold lightB; rw [if_neg (of_eq_false hc)]
    simp [aev, cav, look, acallPure, abin, abinN, abinP, abinI, abinS, aun, aconv, afield, afieldAddr, aindexAddr, aindex, aslice, alow, ahigh, abuild, abuildGo, cellsOf, splice, fieldTy, alen, apick, amax, amin, aload, headV, aparts, abuildSlice, elParts, abytesStr, astore, amake, aappend, aclear, anew, arith, aresults, aresList, ares, spec0, spec1, spec2, spec3, spec4, eqCells, eqCell, sJChk, hP, hc, e]
  have hc' := of_eq_true hc
  obtain ⟨hT, hb, hN⟩ := hF.net hc'
  have hOK := chk_ok hc'
  have n1 := hOK.n1
  have n24 := hOK.n24
  have hB : lightB n rels vars = decide (∀ k : Nat, (k : Int) ≤ n → (outs (netOf rels vars) k []).length ≤ 2000) := by unfold lightB; rw [if_pos hc']
  simp [aev, cav, look, acallPure, abin, abinN, abinP, abinI, abinS, aun, aconv, afield, afieldAddr, aindexAddr, aindex, aslice, alow, ahigh, abuild, abuildGo, cellsOf, splice, fieldTy, alen, apick, amax, amin, aload, headV, aparts, abuildSlice, elParts, abytesStr, astore, amake, aappend, aclear, anew, arith, aresults, aresList, ares, spec0, spec1, spec2, spec3, spec4, eqCells, eqCell, sJChk, hP, hc]
  refine loop_rule (C := CLi) sigCLi mixCLi (fun k : Nat => ⟨[(0, .int .i64 n), (1, Enc.enc rels), (2, Enc.enc vars), (7, .int .i64 k)], []⟩) (fun k => (k : Int) ≤ n + 1 ∧ ∀ i, i < k → (outs (netOf rels vars) i []).length ≤ 2000) (fun k => (n + 1).toNat - k) (by kernel_rfl) ⟨0, ⟨by show (0 : Int) ≤ _; omega, fun i hi => absurd hi (Nat.not_lt_zero _)⟩, weak_slots (by simp)⟩ (fun k ⟨k1, k2⟩ => ?_)
  by_cases hk : (k : Int) ≤ n
  · have i1 : I64 ((k : Int) + 1) := by unfold I64; omega
    have hpre : PrefPreR n rels vars (k : Int) := ⟨hP, fun _ _ _ => by
      rw [Int.toNat_natCast]
      exact rlight hb hN (by decide : 2000 ≤ 2000000) k2⟩
    have hpf : prefF n rels vars (k : Int) = outs (netOf rels vars) k [] := by unfold prefF; rw [if_pos hc', if_pos ⟨by omega, hk⟩, Int.toNat_natCast]
    by_cases c : 2000 < (outs (netOf rels vars) k []).length
    · have c' : (2000 : Int) < (outs (netOf rels vars) k []).length := by omega
      have e : lightB n rels vars = false := by
        rw [hB]
        exact decide_eq_false fun h => by have := h k hk; omega
      simp [aev, cav, look, acallPure, abin, abinN, abinP, abinI, abinS, aun, aconv, afield, afieldAddr, aindexAddr, aindex, aslice, alow, ahigh, abuild, abuildGo, cellsOf, splice, fieldTy, alen, apick, amax, amin, aload, headV, aparts, abuildSlice, elParts, abytesStr, astore, amake, aappend, aclear, anew, arith, aresults, aresList, ares, spec0, spec1, spec2, spec3, spec4, eqCells, eqCell, hk, sPrefR, hpre, hpf, c, c', e]
    · have c' : ¬ (2000 : Int) < (outs (netOf rels vars) k []).length := by omega
      simp [aev, cav, look, acallPure, abin, abinN, abinP, abinI, abinS, aun, aconv, afield, afieldAddr, aindexAddr, aindex, aslice, alow, ahigh, abuild, abuildGo, cellsOf, splice, fieldTy, alen, apick, amax, amin, aload, headV, aparts, abuildSlice, elParts, abytesStr, astore, amake, aappend, aclear, anew, arith, aresults, aresList, ares, spec0, spec1, spec2, spec3, spec4, eqCells, eqCell, hk, sPrefR, hpre, hpf, c, c', i1]
      exact ⟨k + 1, ⟨by omega, fun j hj => by
        rcases Nat.lt_or_eq_of_le (Nat.le_of_lt_succ hj) with h | rfl
        · exact k2 j h
        · omega⟩, by omega, weak_slots (by simp)⟩
  · have e : lightB n rels vars = true := by
      rw [hB]
      exact decide_eq_true fun i hi => k2 i (by omega)
    simp [aev, cav, look, acallPure, abin, abinN, abinP, abinI, abinS, aun, aconv, afield, afieldAddr, aindexAddr, aindex, aslice, alow, ahigh, abuild, abuildGo, cellsOf, splice, fieldTy, alen, apick, amax, amin, aload, headV, aparts, abuildSlice, elParts, abytesStr, astore, amake, aappend, aclear, anew, arith, aresults, aresList, ares, spec0, spec1, spec2, spec3, spec4, eqCells, eqCell, hk, e]
end Go.Proofs.Ytpbgnnaaobamfaa

/-
  layer 33: the law LeapfrogJoin.
-/
namespace Go.Proofs.Ytpbgnnaaobamfaa
open Go.RowKit
set_option linter.unusedSimpArgs false
set_option linter.unusedVariables false
set_option maxRecDepth 100000

/-- What holds of a join that few and light admit. -/
structure JoinFit (n : Int) (rels : List Rela) (vars : List (List Int)) : Prop where
  chk : ChkPre n rels vars
  lt : jchkF n rels vars = 0 → ∀ k : Nat, (k : Int) ≤ n → RLight (netOf rels vars) k
theorem JoinFit.j1 {n : Int} {rels : List Rela} {vars : List (List Int)} (h : JoinFit n rels vars) : JoinPre n rels vars := ⟨h.chk, fun hc => by
  have := (chk_ok hc).n1
  exact (h.lt hc n.toNat (by omega)).l⟩
theorem JoinFit.j2 {n : Int} {rels : List Rela} {vars : List (List Int)} (h : JoinFit n rels vars) : JoinPreR n rels vars := ⟨h.chk, fun hc => by
  have := (chk_ok hc).n1
  exact h.lt hc n.toNat (by omega)⟩
theorem JoinFit.p1 {n : Int} {rels : List Rela} {vars : List (List Int)} (h : JoinFit n rels vars) (k : Int) : PrefPre n rels vars k := ⟨h.chk, fun hc h0 h1 => (h.lt hc k.toNat (by omega)).l⟩
theorem JoinFit.p2 {n : Int} {rels : List Rela} {vars : List (List Int)} (h : JoinFit n rels vars) (k : Int) : PrefPreR n rels vars k := ⟨h.chk, fun hc h0 h1 => h.lt hc k.toNat (by omega)⟩
theorem outs_small {N : Net} {k : Nat} (h : RLight N k) (hk : k ≤ 100) : (outs N k []).length ≤ 1000000000 ∧ ∀ r ∈ outs N k [], r.length ≤ 100 := ⟨h.o k (Nat.le_refl _), fun r hr => by
  have := outs_len k [] r hr
  simp only [List.length_nil] at this
  omega⟩
theorem JoinFit.out {n : Int} {rels : List Rela} {vars : List (List Int)} (h : JoinFit n rels vars) : ((joinF n rels vars).out.length ≤ 1000000000 ∧ ∀ r ∈ (joinF n rels vars).out, r.length ≤ 100) ∧ StpOK (joinF n rels vars).s := by
  unfold joinF
  split
  · rename_i hc
    have h1 := (chk_ok hc).n1
    have h2 := (chk_ok hc).n24
    refine ⟨outs_small (h.lt hc n.toNat (by omega)) (by omega), ?_, ?_, ?_⟩
    all_goals (show (levs _ _ _).length ≤ _; rw [levs_len]; omega)
  · exact ⟨⟨by show 0 ≤ _; omega, fun r hr => by cases hr⟩, by show 0 ≤ _; omega, by show 0 ≤ _; omega, by show 0 ≤ _; omega⟩
theorem JoinFit.pre {n : Int} {rels : List Rela} {vars : List (List Int)} (h : JoinFit n rels vars) (k : Int) : (prefF n rels vars k).length ≤ 1000000000 ∧ ∀ r ∈ prefF n rels vars k, r.length ≤ 100 := by
  unfold prefF
  split
  · rename_i hc
    have h2 := (chk_ok hc).n24
    split
    · rename_i hk
      exact outs_small (h.lt hc k.toNat (by omega)) (by omega)
    · exact ⟨by decide, fun r hr => by cases hr⟩
  · exact ⟨by decide, fun r hr => by cases hr⟩
theorem tup_refl {l : List (List Int)} (h : l.length ≤ 1000000000 ∧ ∀ r ∈ l, r.length ≤ 100) : TupPre l l := ⟨⟨by omega, fun r hr => by have := h.2 r hr; omega⟩, by omega, fun r hr => by have := h.2 r hr; omega⟩
theorem fit_light {n : Int} {rels : List Rela} {vars : List (List Int)} (hF : Few rels vars) (hw : ∀ r ∈ rels, r.rows.length ≤ maxLen) (hl : lightB n rels vars = true) : JoinFit n rels vars := ⟨hF.pre hw, fun hc k hk => by
  obtain ⟨_, hb, hN⟩ := hF.net hc
  unfold lightB at hl
  rw [if_pos hc] at hl
  have hl := @of_decide_eq_true _ (Classical.propDecidable _) hl
  exact rlight hb hN (by decide : 2000 ≤ 2000000) fun i hi => hl i (by omega)⟩
noncomputable def CLj : Ctx := mkC Try.prog G0 [(16, .pure sFew), (21, .pure sLight), (10, .pure sAlive), (19, .pure sJoin), (22, .pure sJoinR), (23, .pure sJChk), (17, .pure sJChk), (20, .pure sTup), (24, .pure sSame), (25, .pure sPref), (26, .pure sPrefR)]
@[simp] theorem CLj_P : CLj.P = Try.prog := rfl
@[simp] theorem CLj_G : CLj.G = G0 := rfl
@[simp] theorem CLj_1 : CLj.S 16 = .pure sFew := rfl
@[simp] theorem CLj_2 : CLj.S 21 = .pure sLight := rfl
@[simp] theorem CLj_3 : CLj.S 10 = .pure sAlive := rfl
@[simp] theorem CLj_4 : CLj.S 19 = .pure sJoin := rfl
@[simp] theorem CLj_5 : CLj.S 22 = .pure sJoinR := rfl
@[simp] theorem CLj_6 : CLj.S 23 = .pure sJChk := rfl
@[simp] theorem CLj_7 : CLj.S 17 = .pure sJChk := rfl
@[simp] theorem CLj_8 : CLj.S 20 = .pure sTup := rfl
@[simp] theorem CLj_9 : CLj.S 24 = .pure sSame := rfl
@[simp] theorem CLj_10 : CLj.S 25 = .pure sPref := rfl
@[simp] theorem CLj_11 : CLj.S 26 = .pure sPrefR := rfl
theorem mixCLj : CLj.P.follows .mixedOrders = true := mixed
theorem sigCLj : SigOK CLj := sigOK_cons (entryPure (fewP) Try.func16 rfl (by decide)) (sigOK_cons (entryPure (lightP) Try.func21 rfl (by decide)) (sigOK_cons (entryPure (aliveP) Try.func10 rfl (by decide)) (sigOK_cons (entryPure (joinP) Try.func19 rfl (by decide)) (sigOK_cons (entryPure (joinR) Try.func22 rfl (by decide)) (sigOK_cons (entryPure (jchkP) Try.func23 rfl (by decide)) (sigOK_cons (entryPure (jchkR) Try.func17 rfl (by decide)) (sigOK_cons (entryPure (tuplesP) Try.func20 rfl (by decide)) (sigOK_cons (entryPure (sameP) Try.func24 rfl (by decide)) (sigOK_cons (entryPure (prefP) Try.func25 rfl (by decide)) (sigOK_cons (entryPure (prefR) Try.func26 rfl (by decide)) (sigOK_nil _ _)))))))))))
def RelsWf (rels : List Rela) : Prop := ∀ r ∈ rels, r.rows.length ≤ maxLen
theorem rels_wf {rels : List Rela} (h : WfL WfRel rels) : RelsWf rels := fun r hr => (h.2 r hr).2.1
def lawPre (_ : Int) (rels : List Rela) (_ : List (List Int)) : Prop := WfL WfRel rels
set_option maxHeartbeats 16000000 in
theorem lawJoin : PureOK Try.prog G0 7 (spec4 (fun n rels vars (_ : Int) => lawPre n rels vars) fun _ _ _ _ => .bool true) := by
  refine pure4 (C := CLj) sigCLj mixCLj Try.func7 rfl rfl rfl (by kernel_rfl) (by decide) (fun n rels vars k hW => ?_)
  have hw := rels_wf hW
  have hw' : FewPre rels vars := hw
  cases hf : fewB rels vars with
  | false => simp [aev, cav, look, acallPure, abin, abinN, abinP, abinI, abinS, aun, aconv, afield, afieldAddr, aindexAddr, aindex, aslice, alow, ahigh, abuild, abuildGo, cellsOf, splice, fieldTy, alen, apick, amax, amin, aload, headV, aparts, abuildSlice, elParts, abytesStr, astore, amake, aappend, aclear, anew, arith, aresults, aresList, ares, spec0, spec1, spec2, spec3, spec4, eqCells, eqCell, sFew, hw', hf, sAlive]
  | true =>
    have hF := few_of hf
    have hlp : LightPre n rels vars := ⟨hF, hw⟩
    cases hl : lightB n rels vars with
    | false => simp [aev, cav, look, acallPure, abin, abinN, abinP, abinI, abinS, aun, aconv, afield, afieldAddr, aindexAddr, aindex, aslice, alow, ahigh, abuild, abuildGo, cellsOf, splice, fieldTy, alen, apick, amax, amin, aload, headV, aparts, abuildSlice, elParts, abytesStr, astore, amake, aappend, aclear, anew, arith, aresults, aresList, ares, spec0, spec1, spec2, spec3, spec4, eqCells, eqCell, sFew, hw', hf, sLight, hlp, hl, sAlive]
    | true =>
      have hJ := fit_light hF hw hl
      have j1 := hJ.j1
      have j2 := hJ.j2
      have j3 := hJ.chk
      have p1 := hJ.p1 k
      have p2 := hJ.p2 k
      have t1 := tup_refl hJ.out.1
      have t2 := hJ.out.2
      have t3 := tup_refl (hJ.pre k)
      obtain ⟨q, hq⟩ : ∃ q, q = joinF n rels vars := ⟨_, rfl⟩
      rw [← hq] at t1 t2
      obtain ⟨q1, q2, q3⟩ := q
      obtain ⟨s1, s2, s3⟩ := q2
      simp only at t1 t2
      have s39 : isScalT CLj 39 = false := by show isScalT ⟨Try.prog, fun _ => .no, G0⟩ 39 = false; kernel_rfl
      simp [aev, cav, look, acallPure, abin, abinN, abinP, abinI, abinS, aun, aconv, afield, afieldAddr, aindexAddr, aindex, aslice, alow, ahigh, abuild, abuildGo, cellsOf, splice, fieldTy, alen, apick, amax, amin, aload, headV, aparts, abuildSlice, elParts, abytesStr, astore, amake, aappend, aclear, anew, arith, aresults, aresList, ares, spec0, spec1, spec2, spec3, spec4, eqCells, eqCell, sFew, hw', hf, sLight, hlp, hl, sAlive, sJoin, sJoinR, j1, j2, ← hq, resJ, sJChk, j3, sTup, t1, sSame, t2, sPref, sPrefR, p1, p2, t3, s39]
end Go.Proofs.Ytpbgnnaaobamfaa

/-
  layer 33: the law LeapfrogSteps.
-/
namespace Go.Proofs.Ytpbgnnaaobamfaa
open Go.RowKit
set_option linter.unusedSimpArgs false
set_option linter.unusedVariables false
set_option maxRecDepth 100000

def manyF (vars : List (List Int)) (v : Int) : Nat := (vars.filter fun l => decide (v ∈ l)).length
theorem manyF_le (vars : List (List Int)) (v : Int) : manyF vars v ≤ vars.length := List.length_filter_le _ _
theorem manyF_snoc {vars : List (List Int)} {v : Int} {i : Nat} (h : i < vars.length) : manyF (vars.take (i + 1)) v = manyF (vars.take i) v + (if v ∈ ix vars i then 1 else 0) := by
  unfold manyF
  rw [take_snoc h, List.filter_append, List.length_append]
  congr 1
  by_cases e : v ∈ ix vars i
  · simp [e]
  · simp [e]
theorem part_many {rels : List Rela} {vars : List (List Int)} (h : vars.length = rels.length) (v : Nat) : (partT (netOf rels vars) v).length = manyF vars v := by
  have hm : (netOf rels vars).map (fun q => q.2) = vars := by
    unfold netOf
    rw [List.map_map]
    refine List.ext_getElem (by simp [h]) fun i h1 h2 => ?_
    rw [List.getElem_map, List.getElem_range]
    exact ix_lt h2
  unfold manyF partT
  conv => rhs; rw [← hm]
  rw [List.filter_map, List.length_map]
  rfl
/-- What the steps of a variable are. -/
structure StepOK (rels : List Rela) (vars : List (List Int)) (v : Nat) : Prop where
  b : sumT (netOf rels vars) (cntT (netOf rels vars)) v [] ≤ sumT (netOf rels vars) (minT (netOf rels vars)) v []
  s : sumT (netOf rels vars) (seekT (netOf rels vars)) v [] ≤ manyF vars v * (sumT (netOf rels vars) (minT (netOf rels vars)) v [] + (outs (netOf rels vars) v []).length)
  m : sumT (netOf rels vars) (minT (netOf rels vars)) v [] ≤ 240000
  o : (outs (netOf rels vars) v []).length ≤ 2000
  c : manyF vars v ≤ 14
theorem step_ok {n : Int} {rels : List Rela} {vars : List (List Int)} (hF : Few rels vars) (hc : jchkF n rels vars = 0) (hl : ∀ k : Nat, (k : Int) ≤ n → (outs (netOf rels vars) k []).length ≤ 2000) {v : Nat} (hv : (v : Int) < n) : StepOK rels vars v := by
  have hOK := chk_ok hc
  obtain ⟨_, hb, hN⟩ := hF.net hc
  have hlen := hOK.len
  have ho := hl v (by omega)
  have hne : ∀ t ∈ outs (netOf rels vars) v [], listsT (netOf rels vars) t ≠ [] := fun t ht e => by
    have htl : t.length = v := by have := outs_len v [] t ht; simpa using this
    obtain ⟨l, hl, hm⟩ := hOK.any v hv
    obtain ⟨i, hi, rfl⟩ := mem_ix hl
    have hir : i < rels.length := by omega
    unfold listsT partT at e
    rw [List.map_eq_nil_iff] at e
    have : ix (netOf rels vars) i ∈ (netOf rels vars).filter fun q => decide ((t.length : Int) ∈ q.2) := List.mem_filter.2 ⟨ix_mem (by rw [netOf_len]; exact hir), by rw [netOf_ix hir, htl]; simpa using hm⟩
    rw [e] at this
    cases this
  refine ⟨?_, ?_, ?_, ho, ?_⟩
  · rw [sumT_eq, sumT_eq]
    exact sum_le fun t ht => cnt_le_min (hne t ht)
  · rw [sumT_eq, sumT_eq]
    have h1 : ((outs (netOf rels vars) v []).map (seekT (netOf rels vars))).sum ≤ ((outs (netOf rels vars) v []).map fun t => manyF vars v * (minT (netOf rels vars) t + 1)).sum := sum_le fun t ht => by
      have htl : t.length = v := by have := outs_len v [] t ht; simpa using this
      have h2 := seek_le (N := netOf rels vars) t
      have h3 : (listsT (netOf rels vars) t).length = manyF vars v := by unfold listsT; rw [List.length_map, htl, part_many hlen]
      rwa [h3] at h2
    rw [sum_mul, sum_add, sum_const, Nat.one_mul] at h1
    exact h1
  · rw [sumT_eq]
    exact Nat.le_trans (sum_le_mul (b := 120) fun t _ => min_le hb t) (Nat.le_trans (Nat.mul_le_mul_left _ ho) (by decide))
  · have := manyF_le vars v
    have := hF.v14
    omega
noncomputable def CLs : Ctx := mkC Try.prog G0 [(16, .pure sFew), (21, .pure sLight), (10, .pure sAlive), (19, .pure sJoin), (25, .pure sPref), (15, .pure sHas)]
@[simp] theorem CLs_P : CLs.P = Try.prog := rfl
@[simp] theorem CLs_G : CLs.G = G0 := rfl
@[simp] theorem CLs_1 : CLs.S 16 = .pure sFew := rfl
@[simp] theorem CLs_2 : CLs.S 21 = .pure sLight := rfl
@[simp] theorem CLs_3 : CLs.S 10 = .pure sAlive := rfl
@[simp] theorem CLs_4 : CLs.S 19 = .pure sJoin := rfl
@[simp] theorem CLs_5 : CLs.S 25 = .pure sPref := rfl
@[simp] theorem CLs_6 : CLs.S 15 = .pure sHas := rfl
theorem mixCLs : CLs.P.follows .mixedOrders = true := mixed
theorem sigCLs : SigOK CLs := sigOK_cons (entryPure (fewP) Try.func16 rfl (by decide)) (sigOK_cons (entryPure (lightP) Try.func21 rfl (by decide)) (sigOK_cons (entryPure (aliveP) Try.func10 rfl (by decide)) (sigOK_cons (entryPure (joinP) Try.func19 rfl (by decide)) (sigOK_cons (entryPure (prefP) Try.func25 rfl (by decide)) (sigOK_cons (entryPure (hasP) Try.func15 rfl (by decide)) (sigOK_nil _ _))))))
structure M8 where
  v : Nat
  p : Nat
structure M9 where
  i : Nat
  c : Nat
def SB (b m s : List Int) : Blk := ⟨39, 3, [[.slice 1 false (encRows b), .slice 1 false (encRows m), .slice 1 false (encRows s)]], true, true⟩
set_option maxHeartbeats 32000000 in
theorem lawSteps : PureOK Try.prog G0 8 (spec3 lawPre fun _ _ _ => .bool true) := by
  refine pure3 (C := CLs) sigCLs mixCLs Try.func8 rfl rfl rfl (by kernel_rfl) (by decide) (fun n rels vars hW => ?_)
  have hw := rels_wf hW
  have hw' : FewPre rels vars := hw
  cases hf : fewB rels vars with
  | false => simp [aev, cav, look, acallPure, abin, abinN, abinP, abinI, abinS, aun, aconv, afield, afieldAddr, aindexAddr, aindex, aslice, alow, ahigh, abuild, abuildGo, cellsOf, splice, fieldTy, alen, apick, amax, amin, aload, headV, aparts, abuildSlice, elParts, abytesStr, astore, amake, aappend, aclear, anew, arith, aresults, aresList, ares, spec0, spec1, spec2, spec3, spec4, eqCells, eqCell, sFew, hw', hf, sAlive]
  | true =>
  have hF := few_of hf
  have hlp : LightPre n rels vars := ⟨hF, hw⟩
  cases hl : lightB n rels vars with
  | false => simp [aev, cav, look, acallPure, abin, abinN, abinP, abinI, abinS, aun, aconv, afield, afieldAddr, aindexAddr, aindex, aslice, alow, ahigh, abuild, abuildGo, cellsOf, splice, fieldTy, alen, apick, amax, amin, aload, headV, aparts, abuildSlice, elParts, abytesStr, astore, amake, aappend, aclear, anew, arith, aresults, aresList, ares, spec0, spec1, spec2, spec3, spec4, eqCells, eqCell, sFew, hw', hf, sLight, hlp, hl, sAlive]
  | true =>
  have hJ := fit_light hF hw hl
  have j1 := hJ.j1
  have p1 := hJ.p1
  have s39 : isScalT CLs 39 = false := by show isScalT ⟨Try.prog, fun _ => .no, G0⟩ 39 = false; kernel_rfl
  rcases em2 (jchkF n rels vars = 0) with hc | hc
  case inr =>
    have e : joinF n rels vars = ⟨[], ⟨[], [], []⟩, jchkF n rels vars⟩ := by unfold joinF; rw [if_neg (of_eq_false hc)]
    have e0 : prefF n rels vars 0 = [] := by unfold prefF; rw [if_neg (of_eq_false hc)]
    simp [aev, cav, look, acallPure, abin, abinN, abinP, abinI, abinS, aun, aconv, afield, afieldAddr, aindexAddr, aindex, aslice, alow, ahigh, abuild, abuildGo, cellsOf, splice, fieldTy, alen, apick, amax, amin, aload, headV, aparts, abuildSlice, elParts, abytesStr, astore, amake, aappend, aclear, anew, arith, aresults, aresList, ares, spec0, spec1, spec2, spec3, spec4, eqCells, eqCell, sFew, hw', hf, sLight, hlp, hl, sAlive, sJoin, j1, e, resJ, s39, hc, sPref, p1, e0]
  have hc' := of_eq_true hc
  have hOK := chk_ok hc'
  have n1 := hOK.n1
  have n24 := hOK.n24
  have hlt : ∀ k : Nat, (k : Int) ≤ n → (outs (netOf rels vars) k []).length ≤ 2000 := by
    have h := hl
    unfold lightB at h
    rw [if_pos hc'] at h
    exact @of_decide_eq_true _ (Classical.propDecidable _) h
  obtain ⟨m, hm⟩ : ∃ m : Nat, n = m := ⟨n.toNat, by omega⟩
  subst hm
  have hsteps : ∀ v, v < m → StepOK rels vars v := fun v hv => step_ok hF hc' hlt (by omega)
  obtain ⟨N, hN⟩ : ∃ N, N = netOf rels vars := ⟨_, rfl⟩
  obtain ⟨B, hB⟩ : ∃ B, B = levs N (cntT N) m := ⟨_, rfl⟩
  obtain ⟨M, hM⟩ : ∃ M, M = levs N (minT N) m := ⟨_, rfl⟩
  obtain ⟨S, hS⟩ : ∃ S, S = levs N (seekT N) m := ⟨_, rfl⟩
  have e : joinF (m : Int) rels vars = ⟨outs N m [], ⟨B, M, S⟩, 0⟩ := by unfold joinF; rw [if_pos hc', Int.toNat_natCast, hB, hM, hS, hN]
  have ep : ∀ k : Nat, k ≤ m → prefF (m : Int) rels vars (k : Int) = outs N k [] := fun k hk => by unfold prefF; rw [if_pos hc', if_pos (by omega), Int.toNat_natCast, hN]
  have lB : B.length = m := by rw [hB, levs_len]
  have lM : M.length = m := by rw [hM, levs_len]
  have lS : S.length = m := by rw [hS, levs_len]
  have e0 : prefF (m : Int) rels vars 0 = [[]] := ep 0 (Nat.zero_le _)
  have hm1 : m - 1 < m := by omega
  have k1 : I64 ((m : Int) - 1) := by unfold I64; omega
  have k2 : ((m : Int) - 1).toNat = m - 1 := by omega
  have k3 : (0 : Int) ≤ (m : Int) - 1 := by omega
  have k4 : ((m : Int) - 1 < (m : Int)) = True := eq_true (by omega)
  have k5 : ((m : Int) < 1) = False := eq_false (by omega)
  have k6 : m - 1 < B.length := by omega
  have eb : ix B (m - 1) = ((outs N m []).length : Int) := by
    rw [hB, levs_ix hm1, ← cnt_eq, Nat.sub_add_cancel (by omega)]
  simp [aev, cav, look, acallPure, abin, abinN, abinP, abinI, abinS, aun, aconv, afield, afieldAddr, aindexAddr, aindex, aslice, alow, ahigh, abuild, abuildGo, cellsOf, splice, fieldTy, alen, apick, amax, amin, aload, headV, aparts, abuildSlice, elParts, abytesStr, astore, amake, aappend, aclear, anew, arith, aresults, aresList, ares, spec0, spec1, spec2, spec3, spec4, eqCells, eqCell, sFew, hw', hf, sLight, hlp, hl, sAlive, sJoin, j1, e, resJ, s39, hc, sPref, p1, e0, lB, lM, lS, k1, k2, k3, k4, k5, k6, rowAt_enc k6, eb]
  refine ⟨by omega, ?_⟩
  refine loop_rule (C := CLs) sigCLs mixCLs (fun s : M8 => ⟨[(0, .int .i64 m), (1, Enc.enc rels), (2, Enc.enc vars), (8, .ptr 0 1 3 0 0), (10, .int .i64 s.p), (11, .int .i64 s.v)], [SB B M S]⟩) (fun s => s.v ≤ m ∧ s.p = (outs N s.v []).length) (fun s => m - s.v) (by kernel_rfl) ⟨⟨0, 1⟩, ⟨Nat.zero_le _, rfl⟩, weak_eq (by simp) (by simp [SB])⟩ (fun s ⟨g1, g2⟩ => ?_)
  obtain ⟨v, p⟩ := s
  simp only at g1 g2 ⊢
  by_cases hv : v < m
  · have i1 : I64 ((v : Int) + 1) := by unfold I64; omega
    obtain ⟨st1, st2, st3, st4, st5⟩ := hsteps v hv
    rw [← hN] at st1 st2 st3 st4
    rw [← g2] at st2 st4
    simp [aev, cav, look, acallPure, abin, abinN, abinP, abinI, abinS, aun, aconv, afield, afieldAddr, aindexAddr, aindex, aslice, alow, ahigh, abuild, abuildGo, cellsOf, splice, fieldTy, alen, apick, amax, amin, aload, headV, aparts, abuildSlice, elParts, abytesStr, astore, amake, aappend, aclear, anew, arith, aresults, aresList, ares, spec0, spec1, spec2, spec3, spec4, eqCells, eqCell, hv]
    refine loop_rule (C := CLs) sigCLs mixCLs (fun s : M9 => ⟨[(0, .int .i64 m), (1, Enc.enc rels), (2, Enc.enc vars), (8, .ptr 0 1 3 0 0), (10, .int .i64 p), (11, .int .i64 v), (12, .int .i64 s.c), (13, .int .i64 s.i)], [SB B M S]⟩) (fun s => s.i ≤ vars.length ∧ s.c = manyF (vars.take s.i) v) (fun s => vars.length - s.i) (by kernel_rfl) ⟨⟨0, 0⟩, ⟨Nat.zero_le _, by simp [manyF]⟩, weak_eq (by simp) (by simp [SB])⟩ (fun s ⟨f1, f2⟩ => ?_)
    obtain ⟨i, c⟩ := s
    simp only at f1 f2 ⊢
    have hv14 := hF.v14
    by_cases hi : i < vars.length
    · have hi1 : I64 ((i : Int) + 1) := by unfold I64; omega
      have hsm : SmallR (ix vars i) := hJ.chk.2.2.2 _ (ix_mem hi)
      have hcl : c ≤ 14 := by
        rw [f2]
        refine Nat.le_trans (manyF_le _ _) ?_
        rw [List.length_take]; omega
      have hc1 : I64 ((c : Int) + 1) := by unfold I64; omega
      have hsn := manyF_snoc (v := (v : Int)) hi
      rw [← f2] at hsn
      rcases em2 ((v : Int) ∈ ix vars i) with d | d
      · rw [if_pos (of_eq_true d)] at hsn
        simp [aev, cav, look, acallPure, abin, abinN, abinP, abinI, abinS, aun, aconv, afield, afieldAddr, aindexAddr, aindex, aslice, alow, ahigh, abuild, abuildGo, cellsOf, splice, fieldTy, alen, apick, amax, amin, aload, headV, aparts, abuildSlice, elParts, abytesStr, astore, amake, aappend, aclear, anew, arith, aresults, aresList, ares, spec0, spec1, spec2, spec3, spec4, eqCells, eqCell, hi, rowAt_enc hi, sHas, hsm, d, hi1, hc1, SB]
        exact ⟨⟨i + 1, c + 1⟩, ⟨by simp only; omega, hsn.symm⟩, by simp only; omega, weak_eq (by simp) (by simp [SB])⟩
      · rw [if_neg (of_eq_false d), Nat.add_zero] at hsn
        simp [aev, cav, look, acallPure, abin, abinN, abinP, abinI, abinS, aun, aconv, afield, afieldAddr, aindexAddr, aindex, aslice, alow, ahigh, abuild, abuildGo, cellsOf, splice, fieldTy, alen, apick, amax, amin, aload, headV, aparts, abuildSlice, elParts, abytesStr, astore, amake, aappend, aclear, anew, arith, aresults, aresList, ares, spec0, spec1, spec2, spec3, spec4, eqCells, eqCell, hi, rowAt_enc hi, sHas, hsm, d, hi1, SB]
        exact ⟨⟨i + 1, c⟩, ⟨by simp only; omega, hsn.symm⟩, by simp only; omega, weak_eq (by simp) (by simp [SB])⟩
    · have hie : i = vars.length := by omega
      have hce : c = manyF vars v := by rw [f2, hie, List.take_of_length_le (Nat.le_refl _)]
      rw [← hce] at st2 st5
      have b1 : ix B v = (sumT N (cntT N) v [] : Int) := by rw [hB, levs_ix hv]
      have b2 : ix M v = (sumT N (minT N) v [] : Int) := by rw [hM, levs_ix hv]
      have b3 : ix S v = (sumT N (seekT N) v [] : Int) := by rw [hS, levs_ix hv]
      have ev : prefF (m : Int) rels vars ((v : Int) + 1) = outs N (v + 1) [] := ep (v + 1) (by omega)
      have el := cnt_eq (N := N) v []
      obtain ⟨b, hb⟩ : ∃ b, b = sumT N (cntT N) v [] := ⟨_, rfl⟩
      obtain ⟨mm, hmm⟩ : ∃ mm, mm = sumT N (minT N) v [] := ⟨_, rfl⟩
      obtain ⟨s, hs⟩ : ∃ s, s = sumT N (seekT N) v [] := ⟨_, rfl⟩
      rw [← hb] at b1 el st1
      rw [← hmm] at b2 st1 st2 st3
      rw [← hs] at b3 st2
      have vB : v < B.length := by omega
      have vM : v < M.length := by omega
      have vS : v < S.length := by omega
      have c1 : ((mm : Int) < (b : Int)) = False := eq_false (by omega)
      have c1' : (mm < b) = False := eq_false (by omega)
      have hprod : c * (mm + p) ≤ 14 * 242000 := Nat.mul_le_mul st5 (by omega)
      have hpc : ((c * (mm + p) : Nat) : Int) = (c : Int) * ((mm : Int) + (p : Int)) := by simp
      have c2 : ((c : Int) * ((mm : Int) + (p : Int)) < (s : Int)) = False := eq_false (by omega)
      have c3 : I64 ((mm : Int) + (p : Int)) := by unfold I64; omega
      have c4 : I64 ((c : Int) * ((mm : Int) + (p : Int))) := by unfold I64; omega
      have c5 : ((s : Int) < 0) = False := eq_false (by omega)
      simp [aev, cav, look, acallPure, abin, abinN, abinP, abinI, abinS, aun, aconv, afield, afieldAddr, aindexAddr, aindex, aslice, alow, ahigh, abuild, abuildGo, cellsOf, splice, fieldTy, alen, apick, amax, amin, aload, headV, aparts, abuildSlice, elParts, abytesStr, astore, amake, aappend, aclear, anew, arith, aresults, aresList, ares, spec0, spec1, spec2, spec3, spec4, eqCells, eqCell, hi, SB, vB, vM, vS, rowAt_enc vB, rowAt_enc vM, rowAt_enc vS, b1, b2, b3, sPref, p1, ev, el, c1, c1', c2, c3, c4, c5, i1]
      exact ⟨⟨v + 1, b⟩, ⟨by simp only; omega, el.symm⟩, by simp only; omega, weak_eq (by simp) (by simp [SB])⟩
  · simp [aev, cav, look, acallPure, abin, abinN, abinP, abinI, abinS, aun, aconv, afield, afieldAddr, aindexAddr, aindex, aslice, alow, ahigh, abuild, abuildGo, cellsOf, splice, fieldTy, alen, apick, amax, amin, aload, headV, aparts, abuildSlice, elParts, abytesStr, astore, amake, aappend, aclear, anew, arith, aresults, aresList, ares, spec0, spec1, spec2, spec3, spec4, eqCells, eqCell, hv, sAlive, SB]
end Go.Proofs.Ytpbgnnaaobamfaa

/-
  layer 33, plain: the join is the set of the tuples whose projections are rows, in order.
-/
namespace Go.Proofs.Ytpbgnnaaobamfaa
set_option linter.unusedSimpArgs false
set_option linter.unusedVariables false

/-- A row agrees with a tuple at the variables below k. -/
def agR (vs t row : List Int) (k : Nat) : Prop := ∀ c, c < vs.length → ix vs c < (k : Int) → ix row c = ix t (ix vs c).toNat
theorem agR_app {vs t row : List Int} {x : Int} {k : Nat} (h0 : ∀ u ∈ vs, 0 ≤ u) (hk : k ≤ t.length) : agR vs (t ++ [x]) row k ↔ agR vs t row k := by
  have e : ∀ c, c < vs.length → ix vs c < (k : Int) → ix (t ++ [x]) (ix vs c).toNat = ix t (ix vs c).toNat := fun c hc hlt => by
    have := h0 _ (ix_mem hc)
    exact ix_snoc_l (by omega)
  constructor
  · intro h c hc hlt; rw [h c hc hlt, e c hc hlt]
  · intro h c hc hlt; rw [h c hc hlt, e c hc hlt]
theorem ix_last (t : List Int) (x : Int) : ix (t ++ [x]) t.length = x := by
  rw [ix_lt (by simp)]; simp
theorem mem_cand {R : Rela} {vs t : List Int} {x : Int} (h : RefR R vs) (hm : (t.length : Int) ∈ vs) : x ∈ candV R vs t (lbd vs t.length) ↔ ∃ row ∈ R.rows, agR vs (t ++ [x]) row (t.length + 1) := by
  obtain ⟨i, hi, e⟩ := mem_ix hm
  have h1 : ∀ j, j < i → ix vs j < (t.length : Int) := fun j hj => by rw [← e]; exact inc_ix h.inc hj hi
  have hl : lbd vs t.length = i := lbd_at h1 (Nat.le_of_lt hi) (fun _ => by omega)
  rw [hl]
  unfold candV
  rw [List.mem_map]
  have key : ∀ row ∈ R.rows, (row.take i = pathF vs t i ∧ ix row i = x) ↔ agR vs (t ++ [x]) row (t.length + 1) := fun row hr => by
    have hrl := h.rows row hr
    rw [row_path (by omega) (by omega)]
    constructor
    · rintro ⟨g1, g2⟩ c hc hlt
      have h0 := h.v0 _ (ix_mem hc)
      rcases Nat.lt_trichotomy c i with hci | rfl | hci
      · have := h1 c hci
        rw [g1 c hci, ix_snoc_l (by omega)]
      · rw [g2, e, Int.toNat_natCast, ix_last]
      · have := inc_ix h.inc hci hc
        omega
    · intro g
      refine ⟨fun c hc => ?_, ?_⟩
      · have h2 := h1 c hc
        have h0 := h.v0 _ (ix_mem (show c < vs.length by omega))
        rw [g c (by omega) (by omega), ix_snoc_l (by omega)]
      · rw [g i hi (by omega), e, Int.toNat_natCast, ix_last]
  constructor
  · rintro ⟨row, hrow, rfl⟩
    obtain ⟨h2, h3⟩ := List.mem_filter.1 hrow
    exact ⟨row, h2, (key row h2).1 ⟨of_decide_eq_true h3, rfl⟩⟩
  · rintro ⟨row, hrow, h2⟩
    obtain ⟨h3, h4⟩ := (key row hrow).2 h2
    exact ⟨row, List.mem_filter.2 ⟨hrow, decide_eq_true h3⟩, h4⟩
/-- What the plain law asks of a net. -/
structure NetR (N : Net) (n : Nat) : Prop where
  ref : ∀ q ∈ N, RefR q.1 q.2
  ne : ∀ q ∈ N, q.2 ≠ []
  any : ∀ v, v < n → ∃ q ∈ N, (v : Int) ∈ q.2
  lt : ∀ q ∈ N, ∀ u ∈ q.2, u < (n : Int)
theorem mem_vals {N : Net} {n : Nat} (h : NetR N n) {t : List Int} (ht : t.length < n) {x : Int} : x ∈ valsT N t ↔ ∀ q ∈ N, (t.length : Int) ∈ q.2 → ∃ row ∈ q.1.rows, agR q.2 (t ++ [x]) row (t.length + 1) := by
  have hne : listsT N t ≠ [] := fun e => by
    obtain ⟨q, hq, hv⟩ := h.any _ ht
    unfold listsT partT at e
    rw [List.map_eq_nil_iff] at e
    have : q ∈ N.filter fun q => decide ((t.length : Int) ∈ q.2) := List.mem_filter.2 ⟨hq, by simpa using hv⟩
    rw [e] at this
    cases this
  have hg := met_good hne
  unfold valsT
  rw [hg.1, mem_common hne]
  unfold listsT partT
  constructor
  · intro g q hq hv
    have := g _ (List.mem_map.2 ⟨q, List.mem_filter.2 ⟨hq, by simpa using hv⟩, rfl⟩)
    rw [mem_of, mem_cand (h.ref q hq) hv] at this
    exact this
  · intro g l hl
    obtain ⟨q, hq, rfl⟩ := List.mem_map.1 hl
    obtain ⟨h1, h2⟩ := List.mem_filter.1 hq
    have h2 : (t.length : Int) ∈ q.2 := by simpa using h2
    rw [mem_of, mem_cand (h.ref q h1) h2]
    exact g q h1 h2
theorem vals_inc (N : Net) (t : List Int) : Inc (valsT N t) := by
  by_cases h : listsT N t = []
  · unfold valsT; rw [met_nil h]; exact .nil
  · unfold valsT; rw [(met_good h).1]; exact common_inc h fun l hl => lists_inc hl
def okT (N : Net) (t : List Int) : Prop := ∀ q ∈ N, ∃ row ∈ q.1.rows, ∀ c, c < q.2.length → ix row c = ix t (ix q.2 c).toNat
/-- Each relation that has a variable below k has a row that agrees so far. -/
def Cons (N : Net) (t : List Int) : Prop := ∀ q ∈ N, (∃ u ∈ q.2, u < (t.length : Int)) → ∃ row ∈ q.1.rows, agR q.2 t row t.length
theorem cons_nil {N : Net} {n : Nat} (h : NetR N n) : Cons N [] := fun q hq ⟨u, hu, hlt⟩ => by
  have h1 := (h.ref q hq).v0 u hu
  have hlt : u < 0 := hlt
  omega
theorem cons_full {N : Net} {n : Nat} (h : NetR N n) {t : List Int} (ht : t.length = n) : Cons N t ↔ okT N t := by
  have e : ∀ q ∈ N, ∀ row, agR q.2 t row t.length ↔ ∀ c, c < q.2.length → ix row c = ix t (ix q.2 c).toNat := fun q hq row =>
    ⟨fun g c hc => g c hc (by rw [ht]; exact h.lt q hq _ (ix_mem hc)), fun g c hc _ => g c hc⟩
  constructor
  · intro g q hq
    obtain ⟨u, hu⟩ := List.exists_mem_of_ne_nil _ (h.ne q hq)
    obtain ⟨row, hr, h1⟩ := g q hq ⟨u, hu, by rw [ht]; exact h.lt q hq u hu⟩
    exact ⟨row, hr, (e q hq row).1 h1⟩
  · intro g q hq _
    obtain ⟨row, hr, h1⟩ := g q hq
    exact ⟨row, hr, (e q hq row).2 h1⟩
theorem cons_snoc {N : Net} {n : Nat} (h : NetR N n) {t : List Int} (ht : t.length < n) (hc : Cons N t) {x : Int} (hx : x ∈ valsT N t) : Cons N (t ++ [x]) := fun q hq ⟨u, hu, hlt⟩ => by
  have hl : (t ++ [x]).length = t.length + 1 := by simp
  rw [hl] at hlt ⊢
  have hR := h.ref q hq
  by_cases hm : (t.length : Int) ∈ q.2
  · exact (mem_vals h ht).1 hx q hq hm
  · have hne : u ≠ (t.length : Int) := fun e => hm (e ▸ hu)
    obtain ⟨row, hr, h1⟩ := hc q hq ⟨u, hu, by omega⟩
    refine ⟨row, hr, fun c hcl hlt2 => ?_⟩
    have h2 : ix q.2 c ≠ (t.length : Int) := fun e => hm (e ▸ ix_mem hcl)
    exact (agR_app hR.v0 (Nat.le_refl _)).2 h1 c hcl (by omega)
/-- Tuples that begin with t and are complete. -/
theorem ok_vals {N : Net} {n : Nat} (h : NetR N n) {t u : List Int} {x : Int} (ht : t.length < n) (hu : okT N u) (hp : ∃ w, u = (t ++ [x]) ++ w) : x ∈ valsT N t := by
  rw [mem_vals h ht]
  intro q hq hm
  obtain ⟨row, hr, h1⟩ := hu q hq
  obtain ⟨w, rfl⟩ := hp
  refine ⟨row, hr, fun c hc hlt => ?_⟩
  have h0 := (h.ref q hq).v0 _ (ix_mem hc)
  rw [h1 c hc]
  exact ix_app_l (by simp; omega)
def en : Nat → List Int → List (List Int)
  | 0, t => [t]
  | d + 1, t => ([0, 1, 2, 3] : List Int).flatMap fun x => en d (t ++ [x])
theorem en_pre : ∀ (d : Nat) (t : List Int), ∀ u ∈ en d t, ∃ w, u = t ++ w ∧ w.length = d
  | 0, t, u, hu => ⟨[], by rw [List.mem_singleton.1 hu]; simp, rfl⟩
  | d + 1, t, u, hu => by
    obtain ⟨x, _, hx⟩ := List.mem_flatMap.1 hu
    obtain ⟨w, rfl, hw⟩ := en_pre d (t ++ [x]) u hx
    exact ⟨x :: w, by simp, by simp [hw]⟩
theorem flat_filter {α β : Type} (p : α → Bool) (f : α → List β) (h : ∀ x, p x = false → f x = []) : ∀ l : List α, l.flatMap f = (l.filter p).flatMap f
  | [] => rfl
  | x :: r => by
    cases hp : p x with
    | true => rw [List.filter_cons_of_pos hp, List.flatMap_cons, List.flatMap_cons, flat_filter p f h r]
    | false => rw [List.filter_cons_of_neg (by rw [hp]; decide), List.flatMap_cons, h x hp, List.nil_append, flat_filter p f h r]
theorem filter_flat {α β : Type} (p : β → Bool) (f : α → List β) : ∀ l : List α, (l.flatMap f).filter p = l.flatMap fun x => (f x).filter p
  | [] => rfl
  | x :: r => by rw [List.flatMap_cons, List.filter_append, filter_flat p f r, List.flatMap_cons]
open Classical in
theorem right_of {N : Net} {n : Nat} (h : NetR N n) (h03 : ∀ q ∈ N, ∀ row ∈ q.1.rows, ∀ y ∈ row, 0 ≤ y ∧ y ≤ 3) : ∀ (d : Nat) (t : List Int), t.length + d = n → Cons N t → outs N d t = (en d t).filter fun u => decide (okT N u)
  | 0, t, hd, hc => by
    show [t] = [t].filter _
    have hok := (cons_full h (by omega)).1 hc
    simp [hok]
  | d + 1, t, hd, hc => by
    have ht : t.length < n := by omega
    show (valsT N t).flatMap (fun x => outs N d (t ++ [x])) = (([0, 1, 2, 3] : List Int).flatMap fun x => en d (t ++ [x])).filter _
    rw [filter_flat, flat_filter (fun x => decide (x ∈ valsT N t)) (fun x => (en d (t ++ [x])).filter fun u => decide (okT N u)) (fun x hx => ?_) [0, 1, 2, 3]]
    · have e : ([0, 1, 2, 3] : List Int).filter (fun x => decide (x ∈ valsT N t)) = valsT N t := by
        refine sorted_ext (List.Pairwise.sublist List.filter_sublist (by decide)) (vals_inc N t) fun z => ?_
        rw [List.mem_filter]
        constructor
        · exact fun g => of_decide_eq_true g.2
        · intro g
          refine ⟨?_, decide_eq_true g⟩
          obtain ⟨q, hq, hv⟩ := h.any _ ht
          obtain ⟨row, hr, h1⟩ := (mem_vals h ht).1 g q hq hv
          obtain ⟨c, hcl, hce⟩ := mem_ix hv
          have h2 := h1 c hcl (by omega)
          rw [hce, Int.toNat_natCast, ix_last] at h2
          have hrl := (h.ref q hq).rows row hr
          have h3 := h03 q hq row hr _ (ix_mem (show c < row.length by omega))
          rw [h2] at h3
          have : z = 0 ∨ z = 1 ∨ z = 2 ∨ z = 3 := by omega
          rcases this with rfl | rfl | rfl | rfl <;> decide
      rw [e]
      have : ∀ {l : List Int} {f g : Int → List (List Int)}, (∀ x ∈ l, f x = g x) → l.flatMap f = l.flatMap g := by
        intro l f g hfg
        induction l with
        | nil => rfl
        | cons a r ih => rw [List.flatMap_cons, List.flatMap_cons, hfg a (List.mem_cons_self ..), ih fun x hx => hfg x (List.mem_cons_of_mem _ hx)]
      exact this fun x hx => right_of h h03 d (t ++ [x]) (by simp; omega) (cons_snoc h ht hc hx)
    · refine List.filter_eq_nil_iff.2 fun u hu hok => ?_
      have hok := of_decide_eq_true hok
      obtain ⟨w, rfl, _⟩ := en_pre d _ u hu
      exact of_decide_eq_false hx (ok_vals h ht hok ⟨w, rfl⟩)
end Go.Proofs.Ytpbgnnaaobamfaa

/-
  layer 33: agrees; the digits of the law LeapfrogRight.
-/
namespace Go.Proofs.Ytpbgnnaaobamfaa
open Go.RowKit
set_option linter.unusedSimpArgs false
set_option linter.unusedVariables false
set_option maxRecDepth 100000

def agrF (R : Rela) (vs t : List Int) : Prop := ∃ row ∈ R.rows, ∀ c, c < vs.length → ix row c = ix t (ix vs c).toNat
def rowAg (vs t row : List Int) : Prop := ∀ c, c < vs.length → ix row c = ix t (ix vs c).toNat
structure AgrPre (R : Rela) (vs t : List Int) : Prop where
  rows : ∀ row ∈ R.rows, vs.length ≤ row.length
  var : ∀ u ∈ vs, 0 ≤ u ∧ u < t.length
  big : R.rows.length ≤ 100000
  sm : SmallR vs
open Classical in
noncomputable def sAgr : List AV → Option (Prop × AV) := spec3 AgrPre (fun R vs t => .bool (decide (agrF R vs t)))
set_option maxHeartbeats 16000000 in
open Classical in
theorem agreesP : PureOK Try.prog G0 18 sAgr := by
  refine pure3 (C := CE) sigCE mixCE Try.func18 rfl rfl rfl (by kernel_rfl) (by decide) (fun R vs t ⟨hrows, hvs, hbig, hsm⟩ => ?_)
  have hvl : vs.length ≤ 1000000 := hsm
  simp [aev, cav, look, acallPure, abin, abinN, abinP, abinI, abinS, aun, aconv, afield, afieldAddr, aindexAddr, aindex, aslice, alow, ahigh, abuild, abuildGo, cellsOf, splice, fieldTy, alen, apick, amax, amin, aload, headV, aparts, abuildSlice, elParts, abytesStr, astore, amake, aappend, aclear, anew, arith, aresults, aresList, ares, spec0, spec1, spec2, spec3, spec4, eqCells, eqCell]
  refine loop_rule (C := CE) sigCE mixCE (fun i : Nat => ⟨[(1, Enc.enc vs), (2, Enc.enc t), (3, .ptr 0 1 2 0 0), (7, .int .i64 i)], [RB R]⟩) (fun i => i ≤ R.rows.length ∧ ∀ j, j < i → ¬ rowAg vs t (ix R.rows j)) (fun i => R.rows.length - i) (by kernel_rfl) ⟨0, ⟨Nat.zero_le _, fun j hj => absurd hj (Nat.not_lt_zero _)⟩, weak_eq (by simp) (by simp [RB])⟩ (fun i ⟨h1, h2⟩ => ?_)
  by_cases hi : i < R.rows.length
  · have i1 : I64 ((i : Int) + 1) := by unfold I64; omega
    obtain ⟨row, hrow⟩ : ∃ row, row = ix R.rows i := ⟨_, rfl⟩
    have hrl := hrows _ (ix_mem hi)
    have hri : rowAt (encRows R.rows) i = Enc.cells row := by rw [rowAt_enc hi, hrow]
    rw [← hrow] at hrl
    simp [aev, cav, look, acallPure, abin, abinN, abinP, abinI, abinS, aun, aconv, afield, afieldAddr, aindexAddr, aindex, aslice, alow, ahigh, abuild, abuildGo, cellsOf, splice, fieldTy, alen, apick, amax, amin, aload, headV, aparts, abuildSlice, elParts, abytesStr, astore, amake, aappend, aclear, anew, arith, aresults, aresList, ares, spec0, spec1, spec2, spec3, spec4, eqCells, eqCell, RB, hi]
    refine loop_rule (C := CE) sigCE mixCE (fun s : M3 => ⟨[(1, Enc.enc vs), (2, Enc.enc t), (3, .ptr 0 1 2 0 0), (7, .int .i64 i), (8, .bool s.a), (9, .int .i64 s.i)], [RB R]⟩) (fun s => s.i ≤ vs.length ∧ (s.a = true ↔ ∀ k, k < s.i → ix row k = ix t (ix vs k).toNat)) (fun s => vs.length - s.i) (by kernel_rfl) ⟨⟨0, true⟩, ⟨Nat.zero_le _, by simp⟩, weak_eq (by simp) (by simp [RB])⟩ (fun s ⟨g1, g2⟩ => ?_)
    obtain ⟨k, a⟩ := s
    simp only at g1 g2 ⊢
    by_cases hk : k < vs.length
    · have k1 : I64 ((k : Int) + 1) := by unfold I64; omega
      have hkr : k < row.length := by omega
      obtain ⟨hv0, hv1⟩ := hvs _ (ix_mem hk)
      obtain ⟨u, hu⟩ : ∃ u : Nat, ix vs k = u := ⟨(ix vs k).toNat, by omega⟩
      have hut : u < t.length := by omega
      have hun : (ix vs k).toNat = u := by omega
      cases a with
      | false =>
        simp [aev, cav, look, acallPure, abin, abinN, abinP, abinI, abinS, aun, aconv, afield, afieldAddr, aindexAddr, aindex, aslice, alow, ahigh, abuild, abuildGo, cellsOf, splice, fieldTy, alen, apick, amax, amin, aload, headV, aparts, abuildSlice, elParts, abytesStr, astore, amake, aappend, aclear, anew, arith, aresults, aresList, ares, spec0, spec1, spec2, spec3, spec4, eqCells, eqCell, RB, hk, k1]
        exact ⟨⟨k + 1, false⟩, ⟨by simp only; omega, by
          simp only [Bool.false_eq_true, false_iff] at g2 ⊢
          exact fun h => g2 fun j hj => h j (by omega)⟩, by simp only; omega, weak_eq (by simp) (by simp [RB])⟩
      | true =>
        rcases em2 (ix row k = ix t u) with e | e
        · simp [aev, cav, look, acallPure, abin, abinN, abinP, abinI, abinS, aun, aconv, afield, afieldAddr, aindexAddr, aindex, aslice, alow, ahigh, abuild, abuildGo, cellsOf, splice, fieldTy, alen, apick, amax, amin, aload, headV, aparts, abuildSlice, elParts, abytesStr, astore, amake, aappend, aclear, anew, arith, aresults, aresList, ares, spec0, spec1, spec2, spec3, spec4, eqCells, eqCell, RB, hk, hi, hri, hkr, rowAt_enc hkr, rowAt_enc hk, hu, hut, rowAt_enc hut, e, k1]
          exact ⟨⟨k + 1, true⟩, ⟨by simp only; omega, by
            simp only [true_iff] at g2 ⊢
            intro j hj
            rcases Nat.lt_or_eq_of_le (Nat.le_of_lt_succ hj) with h | rfl
            · exact g2 j h
            · rw [hun]; exact of_eq_true e⟩, by simp only; omega, weak_eq (by simp) (by simp [RB])⟩
        · simp [aev, cav, look, acallPure, abin, abinN, abinP, abinI, abinS, aun, aconv, afield, afieldAddr, aindexAddr, aindex, aslice, alow, ahigh, abuild, abuildGo, cellsOf, splice, fieldTy, alen, apick, amax, amin, aload, headV, aparts, abuildSlice, elParts, abytesStr, astore, amake, aappend, aclear, anew, arith, aresults, aresList, ares, spec0, spec1, spec2, spec3, spec4, eqCells, eqCell, RB, hk, hi, hri, hkr, rowAt_enc hkr, rowAt_enc hk, hu, hut, rowAt_enc hut, e, k1]
          exact ⟨⟨k + 1, false⟩, ⟨by simp only; omega, by
            simp only [Bool.false_eq_true, false_iff]
            intro h
            have := h k (by simp)
            rw [hun] at this
            exact of_eq_false e this⟩, by simp only; omega, weak_eq (by simp) (by simp [RB])⟩
    · have hkc : k = vs.length := by omega
      cases a with
      | true =>
        have e : agrF R vs t = True := eq_true ⟨row, by rw [hrow]; exact ix_mem hi, fun c hc => g2.1 rfl c (by omega)⟩
        simp [aev, cav, look, acallPure, abin, abinN, abinP, abinI, abinS, aun, aconv, afield, afieldAddr, aindexAddr, aindex, aslice, alow, ahigh, abuild, abuildGo, cellsOf, splice, fieldTy, alen, apick, amax, amin, aload, headV, aparts, abuildSlice, elParts, abytesStr, astore, amake, aappend, aclear, anew, arith, aresults, aresList, ares, spec0, spec1, spec2, spec3, spec4, eqCells, eqCell, RB, hk, e]
      | false =>
        simp [aev, cav, look, acallPure, abin, abinN, abinP, abinI, abinS, aun, aconv, afield, afieldAddr, aindexAddr, aindex, aslice, alow, ahigh, abuild, abuildGo, cellsOf, splice, fieldTy, alen, apick, amax, amin, aload, headV, aparts, abuildSlice, elParts, abytesStr, astore, amake, aappend, aclear, anew, arith, aresults, aresList, ares, spec0, spec1, spec2, spec3, spec4, eqCells, eqCell, RB, hk, i1]
        exact ⟨i + 1, ⟨by omega, fun j hj => by
          rcases Nat.lt_or_eq_of_le (Nat.le_of_lt_succ hj) with h | rfl
          · exact h2 j h
          · intro h
            rw [← hrow] at h
            exact Bool.false_ne_true (g2.2 fun c hc => h c (by omega))⟩, by omega, weak_eq (by simp) (by simp [RB])⟩
  · have e : agrF R vs t = False := eq_false fun ⟨row, hr, h⟩ => by
      obtain ⟨j, hj, rfl⟩ := mem_ix hr
      exact h2 j (by omega) h
    simp [aev, cav, look, acallPure, abin, abinN, abinP, abinI, abinS, aun, aconv, afield, afieldAddr, aindexAddr, aindex, aslice, alow, ahigh, abuild, abuildGo, cellsOf, splice, fieldTy, alen, apick, amax, amin, aload, headV, aparts, abuildSlice, elParts, abytesStr, astore, amake, aappend, aclear, anew, arith, aresults, aresList, ares, spec0, spec1, spec2, spec3, spec4, eqCells, eqCell, RB, hi, e]

/-! ### The digits -/
def pw (m j : Nat) : Nat := 4 ^ m / 4 ^ (j + 1)
def digs (m x : Nat) : List Int := (List.range m).map fun j => ((x / pw m j % 4 : Nat) : Int)
theorem digs_len (m x : Nat) : (digs m x).length = m := by simp [digs]
theorem pw_pos : ∀ m, m < 5 → ∀ j, j < 5 → (0 < pw m j ↔ j < m) := by decide
theorem pw_succ (m j : Nat) : pw m (j + 1) = pw m j / 4 := by
  unfold pw
  rw [Nat.div_div_eq_div_mul, Nat.pow_succ 4 (j + 1)]
theorem pw_le : ∀ m, m < 5 → ∀ j, j < 5 → pw m j ≤ 64 := by decide
theorem pw_zero : ∀ m, m < 5 → 4 ^ m / 4 = pw m 0 := by decide
theorem digs_snoc {m x j : Nat} (h : j < m) : (digs m x).take (j + 1) = (digs m x).take j ++ [((x / pw m j % 4 : Nat) : Int)] := by
  rw [take_snoc (by rw [digs_len]; exact h)]
  congr 2
  rw [ix_lt (by rw [digs_len]; exact h)]
  simp [digs]
theorem en_digs0 : en 0 [] = (List.range (4 ^ 0)).map (digs 0) := by kernel_rfl
theorem en_digs1 : en 1 [] = (List.range (4 ^ 1)).map (digs 1) := by kernel_rfl
theorem en_digs2 : en 2 [] = (List.range (4 ^ 2)).map (digs 2) := by kernel_rfl
theorem en_digs3 : en 3 [] = (List.range (4 ^ 3)).map (digs 3) := by kernel_rfl
theorem en_digs4 : en 4 [] = (List.range (4 ^ 4)).map (digs 4) := by kernel_rfl
theorem en_digs (m : Nat) (hm : m < 5) : en m [] = (List.range (4 ^ m)).map (digs m) := by
  have : m = 0 ∨ m = 1 ∨ m = 2 ∨ m = 3 ∨ m = 4 := by omega
  rcases this with rfl | rfl | rfl | rfl | rfl
  · exact en_digs0
  · exact en_digs1
  · exact en_digs2
  · exact en_digs3
  · exact en_digs4
open Classical in
noncomputable def wantI (N : Net) (m x : Nat) : List (List Int) := ((List.range x).map (digs m)).filter fun u => decide (okT N u)
open Classical in
theorem wantI_succ (N : Net) (m x : Nat) : wantI N m (x + 1) = wantI N m x ++ (if okT N (digs m x) then [digs m x] else []) := by
  unfold wantI
  rw [List.range_succ, List.map_append, List.filter_append]
  congr 1
  by_cases h : okT N (digs m x)
  · simp [h]
  · simp [h]
theorem wantI_len (N : Net) (m x : Nat) : (wantI N m x).length ≤ x := by
  unfold wantI
  refine Nat.le_trans (List.length_filter_le _ _) ?_
  simp
theorem okT_net {rels : List Rela} {vars : List (List Int)} {u : List Int} : okT (netOf rels vars) u ↔ ∀ i, i < rels.length → agrF (ix rels i) (ix vars i) u := by
  constructor
  · intro h i hi
    have := h _ (ix_mem (show i < (netOf rels vars).length by rw [netOf_len]; exact hi))
    rw [netOf_ix hi] at this
    exact this
  · intro h q hq
    obtain ⟨i, hi, rfl⟩ := mem_ix hq
    rw [netOf_len] at hi
    rw [netOf_ix hi]
    exact h i hi
end Go.Proofs.Ytpbgnnaaobamfaa

/-
  layer 33: the law LeapfrogRight.
-/
namespace Go.Proofs.Ytpbgnnaaobamfaa
open Go.RowKit
set_option linter.unusedSimpArgs false
set_option linter.unusedVariables false
set_option maxRecDepth 100000

theorem netR_of {n : Int} {m : Nat} (hm : n = m) {rels : List Rela} {vars : List (List Int)} (h : ChkOK n rels vars) {k : Nat} (hL : Light (netOf rels vars) k) : NetR (netOf rels vars) m := by
  subst hm
  have hlen := h.len
  refine ⟨fun q hq => ?_, fun q hq => ?_, fun v hv => ?_, fun q hq u hu => ?_⟩
  · obtain ⟨i, hi, rfl⟩ := mem_ix hq
    rw [netOf_len] at hi
    rw [netOf_ix hi]
    exact refR_of h hL hi
  · obtain ⟨i, hi, rfl⟩ := mem_ix hq
    rw [netOf_len] at hi
    rw [netOf_ix hi]
    have h1 := (check_ok (h.chk i hi)).1.1
    have h2 := (h.var i (by omega)).len
    exact List.length_pos_iff.1 (by show 0 < (ix vars i).length; omega)
  · obtain ⟨l, hl, hm⟩ := h.any v (by omega)
    obtain ⟨i, hi, rfl⟩ := mem_ix hl
    have hir : i < rels.length := by omega
    exact ⟨ix (netOf rels vars) i, ix_mem (by rw [netOf_len]; exact hir), by rw [netOf_ix hir]; exact hm⟩
  · obtain ⟨i, hi, rfl⟩ := mem_ix hq
    rw [netOf_len] at hi
    rw [netOf_ix hi] at hu
    obtain ⟨c, hc, rfl⟩ := mem_ix (show u ∈ ix vars i from hu)
    exact (varOK_at (h.var i (by omega)) c hc).2.1
theorem fit_few {n : Int} {rels : List Rela} {vars : List (List Int)} (hF : Few rels vars) (hw : ∀ r ∈ rels, r.rows.length ≤ maxLen) (h4 : n ≤ 4) : JoinFit n rels vars := ⟨hF.pre hw, fun hc k hk => by
  obtain ⟨_, hb, hN⟩ := hF.net hc
  refine rlight hb hN (by decide : 1728000 ≤ 2000000) fun i hi => Nat.le_trans (lev_pow hb i) ?_
  exact Nat.le_trans (Nat.pow_le_pow_right (by decide) (show i ≤ 3 by omega)) (by decide)⟩
noncomputable def CLr : Ctx := mkC Try.prog G0 [(16, .pure sFew), (17, .pure sJChk), (10, .pure sAlive), (19, .pure sJoin), (20, .pure sTup), (18, .pure sAgr)]
@[simp] theorem CLr_P : CLr.P = Try.prog := rfl
@[simp] theorem CLr_G : CLr.G = G0 := rfl
@[simp] theorem CLr_1 : CLr.S 16 = .pure sFew := rfl
@[simp] theorem CLr_2 : CLr.S 17 = .pure sJChk := rfl
@[simp] theorem CLr_3 : CLr.S 10 = .pure sAlive := rfl
@[simp] theorem CLr_4 : CLr.S 19 = .pure sJoin := rfl
@[simp] theorem CLr_5 : CLr.S 20 = .pure sTup := rfl
@[simp] theorem CLr_6 : CLr.S 18 = .pure sAgr := rfl
theorem mixCLr : CLr.P.follows .mixedOrders = true := mixed
theorem sigCLr : SigOK CLr := sigOK_cons (entryPure (fewP) Try.func16 rfl (by decide)) (sigOK_cons (entryPure (jchkR) Try.func17 rfl (by decide)) (sigOK_cons (entryPure (aliveP) Try.func10 rfl (by decide)) (sigOK_cons (entryPure (joinP) Try.func19 rfl (by decide)) (sigOK_cons (entryPure (tuplesP) Try.func20 rfl (by decide)) (sigOK_cons (entryPure (agreesP) Try.func18 rfl (by decide)) (sigOK_nil _ _))))))
def in03 (l : List Int) : Prop := ∀ y ∈ l, 0 ≤ y ∧ y ≤ 3
def In03 (rels : List Rela) (i : Nat) : Prop := ∀ j, j < i → ∀ row ∈ (ix rels j).rows, in03 row
structure M10 where
  i : Nat
  a : Bool
structure M11 where
  v : Nat
  z : Nat
theorem scalLr : isScalT CLr 22 = false := by show isScalT ⟨Try.prog, fun _ => .no, G0⟩ 22 = false; kernel_rfl
theorem scalLr2 : isScalT CLr 25 = true := by show isScalT ⟨Try.prog, fun _ => .no, G0⟩ 25 = true; kernel_rfl
theorem scalLr3 : isScalT CLr 39 = false := by show isScalT ⟨Try.prog, fun _ => .no, G0⟩ 39 = false; kernel_rfl
set_option maxHeartbeats 64000000 in
open Classical in
theorem lawRight : PureOK Try.prog G0 5 (spec3 lawPre fun _ _ _ => .bool true) := by
  refine pure3 (C := CLr) sigCLr mixCLr Try.func5 rfl rfl rfl (by kernel_rfl) (by decide) (fun n rels vars hW => ?_)
  have hw := rels_wf hW
  have hw' : FewPre rels vars := hw
  by_cases h4 : 4 < n
  · simp [aev, cav, look, acallPure, abin, abinN, abinP, abinI, abinS, aun, aconv, afield, afieldAddr, aindexAddr, aindex, aslice, alow, ahigh, abuild, abuildGo, cellsOf, splice, fieldTy, alen, apick, amax, amin, aload, headV, aparts, abuildSlice, elParts, abytesStr, astore, amake, aappend, aclear, anew, arith, aresults, aresList, ares, spec0, spec1, spec2, spec3, spec4, eqCells, eqCell, h4, sAlive]
  cases hf : fewB rels vars with
  | false => simp [aev, cav, look, acallPure, abin, abinN, abinP, abinI, abinS, aun, aconv, afield, afieldAddr, aindexAddr, aindex, aslice, alow, ahigh, abuild, abuildGo, cellsOf, splice, fieldTy, alen, apick, amax, amin, aload, headV, aparts, abuildSlice, elParts, abytesStr, astore, amake, aappend, aclear, anew, arith, aresults, aresList, ares, spec0, spec1, spec2, spec3, spec4, eqCells, eqCell, h4, sFew, hw', hf, sAlive]
  | true =>
  have hF := few_of hf
  have hJ : JoinFit n rels vars := fit_few hF hw (by omega)
  have j1 := hJ.j1
  have j3 := hJ.chk
  rcases em2 (jchkF n rels vars = 0) with hc | hc
  case inr => simp [aev, cav, look, acallPure, abin, abinN, abinP, abinI, abinS, aun, aconv, afield, afieldAddr, aindexAddr, aindex, aslice, alow, ahigh, abuild, abuildGo, cellsOf, splice, fieldTy, alen, apick, amax, amin, aload, headV, aparts, abuildSlice, elParts, abytesStr, astore, amake, aappend, aclear, anew, arith, aresults, aresList, ares, spec0, spec1, spec2, spec3, spec4, eqCells, eqCell, h4, sFew, hw', hf, sAlive, sJChk, j3, hc]
  have hc' := of_eq_true hc
  have hOK := chk_ok hc'
  have n1 := hOK.n1
  have hlen := hOK.len
  have hr14 := hF.r14
  simp [aev, cav, look, acallPure, abin, abinN, abinP, abinI, abinS, aun, aconv, afield, afieldAddr, aindexAddr, aindex, aslice, alow, ahigh, abuild, abuildGo, cellsOf, splice, fieldTy, alen, apick, amax, amin, aload, headV, aparts, abuildSlice, elParts, abytesStr, astore, amake, aappend, aclear, anew, arith, aresults, aresList, ares, spec0, spec1, spec2, spec3, spec4, eqCells, eqCell, h4, sFew, hw', hf, sAlive, sJChk, j3, hc]
  refine loop_rule (C := CLr) sigCLr mixCLr (fun i : Nat => ⟨[(0, .int .i64 n), (1, Enc.enc rels), (2, Enc.enc vars), (7, .int .i64 i)], []⟩) (fun i => i ≤ rels.length ∧ In03 rels i) (fun i => rels.length - i) (by kernel_rfl) ⟨0, ⟨Nat.zero_le _, fun j hj => absurd hj (Nat.not_lt_zero _)⟩, weak_slots (by simp)⟩ (fun i ⟨h1, h2⟩ => ?_)
  by_cases hi : i < rels.length
  · have i1 : I64 ((i : Int) + 1) := by unfold I64; omega
    obtain ⟨rows, hr⟩ : ∃ rows, rows = (ix rels i).rows := ⟨_, rfl⟩
    have hrl : rows.length ≤ 20000 := by rw [hr]; exact (check_ok (hOK.chk i hi)).2.1
    have hri : rowAt (encRows rels) i = [.int .i64 (ix rels i).arity, .slice 1 false (encRows rows)] := by rw [rowAt_enc hi, hr]; rfl
    simp [aev, cav, look, acallPure, abin, abinN, abinP, abinI, abinS, aun, aconv, afield, afieldAddr, aindexAddr, aindex, aslice, alow, ahigh, abuild, abuildGo, cellsOf, splice, fieldTy, alen, apick, amax, amin, aload, headV, aparts, abuildSlice, elParts, abytesStr, astore, amake, aappend, aclear, anew, arith, aresults, aresList, ares, spec0, spec1, spec2, spec3, spec4, eqCells, eqCell, hi]
    refine loop_rule (C := CLr) sigCLr mixCLr (fun k : Nat => ⟨[(0, .int .i64 n), (1, Enc.enc rels), (2, Enc.enc vars), (7, .int .i64 i), (8, .int .i64 k)], []⟩) (fun k => k ≤ rows.length ∧ ∀ j, j < k → in03 (ix rows j)) (fun k => rows.length - k) (by kernel_rfl) ⟨0, ⟨Nat.zero_le _, fun j hj => absurd hj (Nat.not_lt_zero _)⟩, weak_slots (by simp)⟩ (fun k ⟨k1, k2⟩ => ?_)
    by_cases hk : k < rows.length
    · have kk1 : I64 ((k : Int) + 1) := by unfold I64; omega
      obtain ⟨row, hrow⟩ : ∃ row, row = ix rows k := ⟨_, rfl⟩
      have hrr : rowAt (encRows rows) k = Enc.cells row := by rw [rowAt_enc hk, hrow]
      have hrl2 : row.length ≤ 20 := by
        rw [hrow]
        exact hF.sh _ (ix_mem hi) _ (by rw [← hr]; exact ix_mem hk)
      simp [aev, cav, look, acallPure, abin, abinN, abinP, abinI, abinS, aun, aconv, afield, afieldAddr, aindexAddr, aindex, aslice, alow, ahigh, abuild, abuildGo, cellsOf, splice, fieldTy, alen, apick, amax, amin, aload, headV, aparts, abuildSlice, elParts, abytesStr, astore, amake, aappend, aclear, anew, arith, aresults, aresList, ares, spec0, spec1, spec2, spec3, spec4, eqCells, eqCell, hi, hri, hk]
      refine loop_rule (C := CLr) sigCLr mixCLr (fun c : Nat => ⟨[(0, .int .i64 n), (1, Enc.enc rels), (2, Enc.enc vars), (7, .int .i64 i), (8, .int .i64 k), (9, .int .i64 c)], []⟩) (fun c => c ≤ row.length ∧ ∀ j, j < c → 0 ≤ ix row j ∧ ix row j ≤ 3) (fun c => row.length - c) (by kernel_rfl) ⟨0, ⟨Nat.zero_le _, fun j hj => absurd hj (Nat.not_lt_zero _)⟩, weak_slots (by simp)⟩ (fun c ⟨c1, c2⟩ => ?_)
      by_cases hcl : c < row.length
      · have cc1 : I64 ((c : Int) + 1) := by unfold I64; omega
        by_cases d1 : ix row c < 0
        · simp [aev, cav, look, acallPure, abin, abinN, abinP, abinI, abinS, aun, aconv, afield, afieldAddr, aindexAddr, aindex, aslice, alow, ahigh, abuild, abuildGo, cellsOf, splice, fieldTy, alen, apick, amax, amin, aload, headV, aparts, abuildSlice, elParts, abytesStr, astore, amake, aappend, aclear, anew, arith, aresults, aresList, ares, spec0, spec1, spec2, spec3, spec4, eqCells, eqCell, hi, hri, hk, hrr, hcl, rowAt_enc hcl, d1, sAlive]
        by_cases d2 : 3 < ix row c
        · simp [aev, cav, look, acallPure, abin, abinN, abinP, abinI, abinS, aun, aconv, afield, afieldAddr, aindexAddr, aindex, aslice, alow, ahigh, abuild, abuildGo, cellsOf, splice, fieldTy, alen, apick, amax, amin, aload, headV, aparts, abuildSlice, elParts, abytesStr, astore, amake, aappend, aclear, anew, arith, aresults, aresList, ares, spec0, spec1, spec2, spec3, spec4, eqCells, eqCell, hi, hri, hk, hrr, hcl, rowAt_enc hcl, d1, d2, sAlive]
        simp [aev, cav, look, acallPure, abin, abinN, abinP, abinI, abinS, aun, aconv, afield, afieldAddr, aindexAddr, aindex, aslice, alow, ahigh, abuild, abuildGo, cellsOf, splice, fieldTy, alen, apick, amax, amin, aload, headV, aparts, abuildSlice, elParts, abytesStr, astore, amake, aappend, aclear, anew, arith, aresults, aresList, ares, spec0, spec1, spec2, spec3, spec4, eqCells, eqCell, hi, hri, hk, hrr, hcl, rowAt_enc hcl, d1, d2, cc1]
        exact ⟨c + 1, ⟨by omega, fun j hj => by
          rcases Nat.lt_or_eq_of_le (Nat.le_of_lt_succ hj) with h | rfl
          · exact c2 j h
          · exact ⟨by omega, by omega⟩⟩, by omega, weak_slots (by simp)⟩
      · simp [aev, cav, look, acallPure, abin, abinN, abinP, abinI, abinS, aun, aconv, afield, afieldAddr, aindexAddr, aindex, aslice, alow, ahigh, abuild, abuildGo, cellsOf, splice, fieldTy, alen, apick, amax, amin, aload, headV, aparts, abuildSlice, elParts, abytesStr, astore, amake, aappend, aclear, anew, arith, aresults, aresList, ares, spec0, spec1, spec2, spec3, spec4, eqCells, eqCell, hi, hri, hk, hrr, hcl, kk1]
        exact ⟨k + 1, ⟨by omega, fun j hj => by
          rcases Nat.lt_or_eq_of_le (Nat.le_of_lt_succ hj) with h | rfl
          · exact k2 j h
          · intro y hy
            rw [← hrow] at hy
            obtain ⟨q, hq, rfl⟩ := mem_ix hy
            exact c2 q (by omega)⟩, by omega, weak_slots (by simp)⟩
    · simp [aev, cav, look, acallPure, abin, abinN, abinP, abinI, abinS, aun, aconv, afield, afieldAddr, aindexAddr, aindex, aslice, alow, ahigh, abuild, abuildGo, cellsOf, splice, fieldTy, alen, apick, amax, amin, aload, headV, aparts, abuildSlice, elParts, abytesStr, astore, amake, aappend, aclear, anew, arith, aresults, aresList, ares, spec0, spec1, spec2, spec3, spec4, eqCells, eqCell, hi, hri, hk, i1]
      exact ⟨i + 1, ⟨by omega, fun j hj => by
        rcases Nat.lt_or_eq_of_le (Nat.le_of_lt_succ hj) with h | rfl
        · exact h2 j h
        · intro row hrow
          rw [← hr] at hrow
          obtain ⟨q, hq, rfl⟩ := mem_ix hrow
          exact k2 q (by omega)⟩, by omega, weak_slots (by simp)⟩
  have hie : i = rels.length := by omega
  rw [hie] at h2
  clear h1
  have hni : ¬ i < rels.length := hi
  obtain ⟨m, hm⟩ : ∃ m : Nat, n = m := ⟨n.toNat, by omega⟩
  have hm5 : m < 5 := by omega
  have hLt := hJ.lt hc' m (by omega)
  have hNR := netR_of hm hOK hLt.l
  obtain ⟨N, hN⟩ : ∃ N, N = netOf rels vars := ⟨_, rfl⟩
  rw [← hN] at hNR
  have h03 : ∀ q ∈ N, ∀ row ∈ q.1.rows, ∀ y ∈ row, 0 ≤ y ∧ y ≤ 3 := fun q hq row hr y hy => by
    rw [hN] at hq
    obtain ⟨j, hj, rfl⟩ := mem_ix hq
    rw [netOf_len] at hj
    rw [netOf_ix hj] at hr
    exact h2 j hj row hr y hy
  have hR := right_of hNR h03 m [] (by simp) (cons_nil hNR)
  have hwant : outs N m [] = wantI N m (4 ^ m) := by rw [hR, en_digs m hm5]; rfl
  have e : joinF n rels vars = ⟨outs N m [], ⟨levs N (cntT N) m, levs N (minT N) m, levs N (seekT N) m⟩, 0⟩ := by unfold joinF; rw [if_pos hc', hm, Int.toNat_natCast, ← hN]
  have ho := hJ.out.1
  rw [e] at ho
  have hT := tup_refl ho
  clear hR
  obtain ⟨w4, hw4⟩ : ∃ w4, w4 = 4 ^ m := ⟨_, rfl⟩
  have hw256 : w4 ≤ 256 := by rw [hw4]; exact Nat.pow_le_pow_right (by decide) (show m ≤ 4 by omega)
  rw [← hw4] at hwant
  subst hm
  simp [aev, cav, look, acallPure, abin, abinN, abinP, abinI, abinS, aun, aconv, afield, afieldAddr, aindexAddr, aindex, aslice, alow, ahigh, abuild, abuildGo, cellsOf, splice, fieldTy, alen, apick, amax, amin, aload, headV, aparts, abuildSlice, elParts, abytesStr, astore, amake, aappend, aclear, anew, arith, aresults, aresList, ares, spec0, spec1, spec2, spec3, spec4, eqCells, eqCell, hi]
  refine loop_rule (C := CLr) sigCLr mixCLr (fun s : M11 => ⟨[(0, .int .i64 m), (1, Enc.enc rels), (2, Enc.enc vars), (10, .slice 1 true []), (11, .int .i64 s.z), (12, .int .i64 s.v)], []⟩) (fun s => s.v ≤ m ∧ s.z = 4 ^ s.v) (fun s => m - s.v) (by kernel_rfl) ⟨⟨0, 1⟩, ⟨Nat.zero_le _, rfl⟩, weak_slots (by simp)⟩ (fun s ⟨g1, g2⟩ => ?_)
  obtain ⟨v, z⟩ := s
  simp only at g1 g2 ⊢
  by_cases hv : v < m
  · have v1 : I64 ((v : Int) + 1) := by unfold I64; omega
    have hz : z ≤ 64 := by rw [g2]; exact Nat.pow_le_pow_right (by decide) (show v ≤ 3 by omega)
    have z1 : I64 ((z : Int) * 4) := by unfold I64; omega
    simp [aev, cav, look, acallPure, abin, abinN, abinP, abinI, abinS, aun, aconv, afield, afieldAddr, aindexAddr, aindex, aslice, alow, ahigh, abuild, abuildGo, cellsOf, splice, fieldTy, alen, apick, amax, amin, aload, headV, aparts, abuildSlice, elParts, abytesStr, astore, amake, aappend, aclear, anew, arith, aresults, aresList, ares, spec0, spec1, spec2, spec3, spec4, eqCells, eqCell, hv, v1, z1]
    exact ⟨⟨v + 1, z * 4⟩, ⟨by simp only; omega, by simp only; rw [g2, Nat.pow_succ]⟩, by simp only; omega, weak_slots (by simp)⟩
  have hve : v = m := by omega
  have hzw : z = w4 := by rw [g2, hve, hw4]
  subst hve hzw
  simp [aev, cav, look, acallPure, abin, abinN, abinP, abinI, abinS, aun, aconv, afield, afieldAddr, aindexAddr, aindex, aslice, alow, ahigh, abuild, abuildGo, cellsOf, splice, fieldTy, alen, apick, amax, amin, aload, headV, aparts, abuildSlice, elParts, abytesStr, astore, amake, aappend, aclear, anew, arith, aresults, aresList, ares, spec0, spec1, spec2, spec3, spec4, eqCells, eqCell]
  refine loop_rule (C := CLr) sigCLr mixCLr (fun x : Nat => ⟨[(0, .int .i64 v), (1, Enc.enc rels), (2, Enc.enc vars), (10, .own 0 (wantI N v x).length), (11, .int .i64 z), (13, .int .i64 x)], [bR (wantI N v x)]⟩) (fun x => x ≤ z) (fun x => z - x) (by kernel_rfl) ⟨0, Nat.zero_le _, (weak_nil 10 1 25 rfl (by decide)).trans (weak_eq (by simp [wantI]) (by simp [bR, wantI]))⟩ (fun x hx0 => ?_)
  have hwl := wantI_len N v x
  obtain ⟨want, hwa⟩ : ∃ want, want = wantI N v x := ⟨_, rfl⟩
  rw [← hwa] at hwl ⊢
  by_cases hx : x < z
  · have x1 : I64 ((x : Int) + 1) := by unfold I64; omega
    have hp0 : (z : Int).tdiv 4 = (pw v 0 : Int) := by
      rw [← pw_zero v hm5, ← hw4]; rfl
    have ip : ∀ j, j < 5 → I64 (pw v j : Int) := fun j hj => by have := pw_le v hm5 j hj; unfold I64; omega
    have ip0 := ip 0 (by decide)
    simp [aev, cav, look, acallPure, abin, abinN, abinP, abinI, abinS, aun, aconv, afield, afieldAddr, aindexAddr, aindex, aslice, alow, ahigh, abuild, abuildGo, cellsOf, splice, fieldTy, alen, apick, amax, amin, aload, headV, aparts, abuildSlice, elParts, abytesStr, astore, amake, aappend, aclear, anew, arith, aresults, aresList, ares, spec0, spec1, spec2, spec3, spec4, eqCells, eqCell, bR, hx, hp0, ip0]
    refine loop_rule (C := CLr) sigCLr mixCLr (fun j : Nat => ⟨[(0, .int .i64 v), (1, Enc.enc rels), (2, Enc.enc vars), (10, .own 0 want.length), (11, .int .i64 z), (13, .int .i64 x), (14, .own 1 ((digs v x).take j).length), (15, .int .i64 (pw v j))], [bR want, bI ((digs v x).take j)]⟩) (fun j => j ≤ v) (fun j => v - j) (by kernel_rfl) ⟨0, Nat.zero_le _, (weak_nil 14 1 3 rfl (by decide)).trans (weak_eq (by simp) (by simp [bR, bI]))⟩ (fun j hj0 => ?_)
    by_cases hj : j < v
    · have hpp : 0 < pw v j := (pw_pos v hm5 j (by omega)).2 hj
      have hpp' : ((0 : Int) < (pw v j : Int)) = True := eq_true (by omega)
      have hpn : ((pw v j : Int) = 0) = False := eq_false (by omega)
      obtain ⟨d, hd⟩ : ∃ d, d = x / pw v j := ⟨_, rfl⟩
      have hdx : d ≤ x := by rw [hd]; exact Nat.div_le_self _ _
      have d1 : (x : Int).tdiv (pw v j : Int) = (d : Int) := by rw [hd]; rfl
      obtain ⟨y, hy⟩ : ∃ y, y = d % 4 := ⟨_, rfl⟩
      have hy4 : y < 4 := by rw [hy]; exact Nat.mod_lt _ (by decide)
      have d2 : (d : Int).tmod 4 = (y : Int) := by rw [hy]; rfl
      have d3 : I64 (d : Int) := by unfold I64; omega
      have d4 : I64 (y : Int) := by unfold I64; omega
      have d5 : (pw v j : Int).tdiv 4 = (pw v (j + 1) : Int) := by rw [pw_succ]; rfl
      have d6 := ip (j + 1) (by omega)
      have hsn := digs_snoc (x := x) hj
      rw [← hd, ← hy] at hsn
      have htl : ((digs v x).take j).length = j := by rw [List.length_take, digs_len]; omega
      obtain ⟨t, ht⟩ : ∃ t, t = (digs v x).take j := ⟨_, rfl⟩
      rw [← ht] at hsn htl ⊢
      have hmin : min (j + 1) v = j + 1 := by omega
      simp [aev, cav, look, acallPure, abin, abinN, abinP, abinI, abinS, aun, aconv, afield, afieldAddr, aindexAddr, aindex, aslice, alow, ahigh, abuild, abuildGo, cellsOf, splice, fieldTy, alen, apick, amax, amin, aload, headV, aparts, abuildSlice, elParts, abytesStr, astore, amake, aappend, aclear, anew, arith, aresults, aresList, ares, spec0, spec1, spec2, spec3, spec4, eqCells, eqCell, bR, bI, hpp, hpp', hpn, d1, d2, d3, d4, d5, d6, htl]
      exact ⟨by omega, by omega, j + 1, by omega, by omega, weak_keep 2 (by simp [digs_len, hmin, htl]) (by simp) (by simp [AV.clean, AV.clean1]) (by simp) (by simp [bR, bI, hsn])⟩
    have hje : j = v := by omega
    subst hje
    have hpz : pw j j = 0 := by
      have := pw_pos j hm5 j hm5
      omega
    have hta : (digs j x).take j = digs j x := List.take_of_length_le (by rw [digs_len]; exact Nat.le_refl _)
    obtain ⟨t, ht⟩ : ∃ t, t = digs j x := ⟨_, rfl⟩
    rw [hta, ← ht]
    have htl : t.length = j := by rw [ht, digs_len]
    simp [aev, cav, look, acallPure, abin, abinN, abinP, abinI, abinS, aun, aconv, afield, afieldAddr, aindexAddr, aindex, aslice, alow, ahigh, abuild, abuildGo, cellsOf, splice, fieldTy, alen, apick, amax, amin, aload, headV, aparts, abuildSlice, elParts, abytesStr, astore, amake, aappend, aclear, anew, arith, aresults, aresList, ares, spec0, spec1, spec2, spec3, spec4, eqCells, eqCell, bR, bI, hpz]
    refine loop_rule (C := CLr) sigCLr mixCLr (fun s : M10 => ⟨[(0, .int .i64 j), (1, Enc.enc rels), (2, Enc.enc vars), (10, .own 0 want.length), (11, .int .i64 z), (13, .int .i64 x), (14, .own 1 t.length), (16, .bool s.a), (17, .int .i64 s.i)], [bR want, bI t]⟩) (fun s => s.i ≤ rels.length ∧ (s.a = true ↔ ∀ k, k < s.i → agrF (ix rels k) (ix vars k) t)) (fun s => rels.length - s.i) (by kernel_rfl) ⟨⟨0, true⟩, ⟨Nat.zero_le _, by simp⟩, weak_eq (by simp) (by simp [bR, bI])⟩ (fun s ⟨f1, f2⟩ => ?_)
    obtain ⟨q, a⟩ := s
    simp only at f1 f2 ⊢
    by_cases hq : q < rels.length
    · have q1 : I64 ((q : Int) + 1) := by unfold I64; omega
      have hqv : q < vars.length := by omega
      have hRq := refR_of hOK hLt.l hq
      have hagr : AgrPre (ix rels q) (ix vars q) t := ⟨hRq.rows, fun u hu => ⟨hRq.v0 u hu, by
        rw [htl]
        have := hNR.lt (ix N q) (by rw [hN]; exact ix_mem (by rw [netOf_len]; exact hq)) u (by rw [hN, netOf_ix hq]; exact hu)
        exact this⟩, by have := hRq.big; omega, hRq.sm⟩
      cases a with
      | false =>
        simp [aev, cav, look, acallPure, abin, abinN, abinP, abinI, abinS, aun, aconv, afield, afieldAddr, aindexAddr, aindex, aslice, alow, ahigh, abuild, abuildGo, cellsOf, splice, fieldTy, alen, apick, amax, amin, aload, headV, aparts, abuildSlice, elParts, abytesStr, astore, amake, aappend, aclear, anew, arith, aresults, aresList, ares, spec0, spec1, spec2, spec3, spec4, eqCells, eqCell, bR, bI, hq, q1]
        exact ⟨⟨q + 1, false⟩, ⟨by simp only; omega, by
          simp only [Bool.false_eq_true, false_iff] at f2 ⊢
          exact fun h => f2 fun k hk => h k (by omega)⟩, by simp only; omega, weak_eq (by simp) (by simp [bR, bI])⟩
      | true =>
        rcases em2 (agrF (ix rels q) (ix vars q) t) with g | g
        · simp [aev, cav, look, acallPure, abin, abinN, abinP, abinI, abinS, aun, aconv, afield, afieldAddr, aindexAddr, aindex, aslice, alow, ahigh, abuild, abuildGo, cellsOf, splice, fieldTy, alen, apick, amax, amin, aload, headV, aparts, abuildSlice, elParts, abytesStr, astore, amake, aappend, aclear, anew, arith, aresults, aresList, ares, spec0, spec1, spec2, spec3, spec4, eqCells, eqCell, bR, bI, hq, hqv, rowAt_enc hq, rowAt_enc hqv, sAgr, hagr, g, q1]
          exact ⟨⟨q + 1, true⟩, ⟨by simp only; omega, by
            simp only [true_iff] at f2 ⊢
            intro k hk
            rcases Nat.lt_or_eq_of_le (Nat.le_of_lt_succ hk) with h | rfl
            · exact f2 k h
            · exact of_eq_true g⟩, by simp only; omega, weak_eq (by simp) (by simp [bR, bI])⟩
        · simp [aev, cav, look, acallPure, abin, abinN, abinP, abinI, abinS, aun, aconv, afield, afieldAddr, aindexAddr, aindex, aslice, alow, ahigh, abuild, abuildGo, cellsOf, splice, fieldTy, alen, apick, amax, amin, aload, headV, aparts, abuildSlice, elParts, abytesStr, astore, amake, aappend, aclear, anew, arith, aresults, aresList, ares, spec0, spec1, spec2, spec3, spec4, eqCells, eqCell, bR, bI, hq, hqv, rowAt_enc hq, rowAt_enc hqv, sAgr, hagr, g, q1]
          exact ⟨⟨q + 1, false⟩, ⟨by simp only; omega, by
            simp only [Bool.false_eq_true, false_iff]
            exact fun h => of_eq_false g (h q (by simp))⟩, by simp only; omega, weak_eq (by simp) (by simp [bR, bI])⟩
    have hqe : q = rels.length := by omega
    have hiff : a = true ↔ okT N t := by rw [f2, hqe, hN, okT_net]
    have hsu := wantI_succ N j x
    rw [← hwa, ← ht] at hsu
    cases a with
    | true =>
      rw [if_pos (hiff.1 rfl)] at hsu
      simp [aev, cav, look, acallPure, abin, abinN, abinP, abinI, abinS, aun, aconv, afield, afieldAddr, aindexAddr, aindex, aslice, alow, ahigh, abuild, abuildGo, cellsOf, splice, fieldTy, alen, apick, amax, amin, aload, headV, aparts, abuildSlice, elParts, abytesStr, astore, amake, aappend, aclear, anew, arith, aresults, aresList, ares, spec0, spec1, spec2, spec3, spec4, eqCells, eqCell, bR, bI, hq, scalLr, scalLr2, x1]
      exact ⟨by omega, x + 1, by omega, by omega, weak_keep 1 (by simp [hsu]) (by simp) (by simp [AV.clean, AV.clean1]) (by simp) (by simp [bR, hsu])⟩
    | false =>
      rw [if_neg (fun h => Bool.false_ne_true (hiff.2 h)), List.append_nil] at hsu
      simp [aev, cav, look, acallPure, abin, abinN, abinP, abinI, abinS, aun, aconv, afield, afieldAddr, aindexAddr, aindex, aslice, alow, ahigh, abuild, abuildGo, cellsOf, splice, fieldTy, alen, apick, amax, amin, aload, headV, aparts, abuildSlice, elParts, abytesStr, astore, amake, aappend, aclear, anew, arith, aresults, aresList, ares, spec0, spec1, spec2, spec3, spec4, eqCells, eqCell, bR, bI, hq, x1]
      exact ⟨x + 1, by omega, by omega, weak_keep 1 (by simp [hsu]) (by simp) (by simp [AV.clean, AV.clean1]) (by simp) (by simp [bR, hsu])⟩
  have hxe : x = z := by omega
  rw [hxe] at hwa
  rw [hwant, ← hwa] at e hT
  simp [aev, cav, look, acallPure, abin, abinN, abinP, abinI, abinS, aun, aconv, afield, afieldAddr, aindexAddr, aindex, aslice, alow, ahigh, abuild, abuildGo, cellsOf, splice, fieldTy, alen, apick, amax, amin, aload, headV, aparts, abuildSlice, elParts, abytesStr, astore, amake, aappend, aclear, anew, arith, aresults, aresList, ares, spec0, spec1, spec2, spec3, spec4, eqCells, eqCell, bR, hx, sJoin, j1, e, resJ, scalLr3, sTup, hT, sAlive]
end Go.Proofs.Ytpbgnnaaobamfaa

/-
  layer 33, plain: the bound of the triangles.
-/
namespace Go.Proofs.Ytpbgnnaaobamfaa
set_option linter.unusedSimpArgs false
set_option linter.unusedVariables false

/-! ### What the join holds -/
theorem outs_ok {N : Net} {n : Nat} (h : NetR N n) : ∀ (d : Nat) (t : List Int), t.length + d = n → Cons N t → ∀ u ∈ outs N d t, okT N u
  | 0, t, hd, hc, u, hu => by
    rw [List.mem_singleton.1 hu]
    exact (cons_full h (by omega)).1 hc
  | d + 1, t, hd, hc, u, hu => by
    obtain ⟨x, hx, hu⟩ := List.mem_flatMap.1 hu
    exact outs_ok h d (t ++ [x]) (by simp; omega) (cons_snoc h (by omega) hc hx) u hu
theorem outs_pre {N : Net} : ∀ (d : Nat) (t : List Int), ∀ u ∈ outs N d t, ∃ w, u = t ++ w
  | 0, t, u, hu => ⟨[], by rw [List.mem_singleton.1 hu]; simp⟩
  | d + 1, t, u, hu => by
    obtain ⟨x, _, hx⟩ := List.mem_flatMap.1 hu
    obtain ⟨w, rfl⟩ := outs_pre d (t ++ [x]) u hx
    exact ⟨x :: w, by simp⟩
theorem outs_nd {N : Net} : ∀ (d : Nat) (t : List Int), (outs N d t).Nodup
  | 0, t => by show [t].Nodup; simp
  | d + 1, t => by
    show ((valsT N t).flatMap fun x => outs N d (t ++ [x])).Nodup
    refine List.pairwise_flatMap.2 ⟨fun x _ => outs_nd d _, (vals_inc N t).imp fun {a b} hab u hu v hv e => ?_⟩
    obtain ⟨w, rfl⟩ := outs_pre d _ u hu
    obtain ⟨w2, rfl⟩ := outs_pre d _ v hv
    have h1 : ix (t ++ [a] ++ w) t.length = a := by rw [ix_app_l (by simp), ix_last]
    have h2 : ix (t ++ [b] ++ w2) t.length = b := by rw [ix_app_l (by simp), ix_last]
    rw [e, h2] at h1
    omega

/-! ### Counting -/
theorem two_ab (a b : Nat) : 2 * (a * b) ≤ a * a + b * b := by
  rcases Nat.le_total a b with h | h
  · obtain ⟨d, rfl⟩ : ∃ d, b = a + d := ⟨b - a, by omega⟩
    simp only [Nat.mul_add, Nat.add_mul]
    have := Nat.mul_comm a d
    omega
  · obtain ⟨d, rfl⟩ : ∃ d, a = b + d := ⟨a - b, by omega⟩
    simp only [Nat.mul_add, Nat.add_mul]
    have := Nat.mul_comm b d
    omega
theorem two_sum (q : Nat) : ∀ l : List Nat, 2 * (q * l.sum) ≤ l.length * (q * q) + (l.map fun x => x * x).sum
  | [] => by simp
  | x :: r => by
    have ih := two_sum q r
    have h := two_ab q x
    simp only [List.sum_cons, List.length_cons, List.map_cons, Nat.mul_add, Nat.add_mul, Nat.one_mul]
    omega
theorem cauchy : ∀ l : List Nat, l.sum * l.sum ≤ l.length * (l.map fun x => x * x).sum
  | [] => by simp
  | q :: r => by
    have ih := cauchy r
    have h := two_sum q r
    simp only [List.sum_cons, List.length_cons, List.map_cons, Nat.mul_add, Nat.add_mul, Nat.one_mul]
    have := Nat.mul_comm q r.sum
    omega
theorem sum_comm {α β : Type} (f : α → β → Nat) (m : List β) : ∀ l : List α, (l.map fun x => (m.map fun y => f x y).sum).sum = (m.map fun y => (l.map fun x => f x y).sum).sum
  | [] => by
    simp only [List.map_nil, List.sum_nil]
    rw [sum_const, Nat.zero_mul]
  | a :: r => by
    simp only [List.map_cons, List.sum_cons]
    rw [sum_comm f m r, ← sum_add]
theorem len_sum {α : Type} (p : α → Bool) : ∀ l : List α, (l.filter p).length = (l.map fun x => if p x then 1 else 0).sum
  | [] => rfl
  | a :: r => by
    rw [List.map_cons, List.sum_cons, ← len_sum p r]
    cases h : p a
    · rw [List.filter_cons_of_neg (by rw [h]; decide), if_neg (by decide)]; omega
    · rw [List.filter_cons_of_pos h, if_pos rfl, List.length_cons]; omega
theorem len_classes {α β : Type} [BEq β] [LawfulBEq β] (f : α → β) (R : List β) (hR : R.Nodup) : ∀ L : List α, (∀ u ∈ L, f u ∈ R) → (R.map fun r => (L.filter fun u => f u == r).length).sum = L.length
  | [], _ => by
    simp only [List.filter_nil, List.length_nil]
    rw [sum_const, Nat.zero_mul]
  | a :: q, h => by
    have ih := len_classes f R hR q fun u hu => h u (List.mem_cons_of_mem _ hu)
    have e : ∀ r, ((a :: q).filter fun u => f u == r).length = (q.filter fun u => f u == r).length + (if f a == r then 1 else 0) := fun r => by
      by_cases hc : (f a == r) = true
      · rw [List.filter_cons_of_pos (p := fun u => f u == r) hc, if_pos hc, List.length_cons]
      · rw [List.filter_cons_of_neg (p := fun u => f u == r) hc, if_neg hc]; rfl
    simp only [e, List.length_cons]
    rw [sum_add, ih, ← len_sum]
    have h1 : (R.filter fun r => f a == r).length = 1 := by
      have hle : (R.filter fun r => f a == r).length ≤ [f a].length := nd_le (hR.sublist List.filter_sublist) fun x hx => by
        have := (List.mem_filter.1 hx).2
        rw [List.mem_singleton]
        exact (eq_of_beq this).symm
      have hge : 0 < (R.filter fun r => f a == r).length := List.length_pos_of_mem (List.mem_filter.2 ⟨h a (List.mem_cons_self ..), by simp⟩)
      simp only [List.length_cons, List.length_nil] at hle
      omega
    rw [h1]
theorem inj_le {α β : Type} [BEq β] [LawfulBEq β] {A : List α} {S : List β} {g : α → β} (hA : A.Nodup) (hg : ∀ u ∈ A, g u ∈ S) (hi : ∀ u ∈ A, ∀ v ∈ A, g u = g v → u = v) : A.length ≤ S.length := by
  have h : (A.map g).Nodup := List.pairwise_map.2 (List.Pairwise.imp_of_mem (fun {a b} ha hb hne e => hne (hi a ha b hb e)) hA)
  have := nd_le h fun x hx => by
    obtain ⟨u, hu, rfl⟩ := List.mem_map.1 hx
    exact hg u hu
  rwa [List.length_map] at this
/-- Triples whose pairs lie in three sets of pairs. -/
theorem triangles {L R S T : List (List Int)} (hL : L.Nodup) (hR : R.Nodup) (hl : ∀ u ∈ L, u = [ix u 0, ix u 1, ix u 2]) (h1 : ∀ u ∈ L, [ix u 0, ix u 1] ∈ R) (h2 : ∀ u ∈ L, [ix u 1, ix u 2] ∈ S) (h3 : ∀ u ∈ L, [ix u 0, ix u 2] ∈ T) (hRl : ∀ r ∈ R, r = [ix r 0, ix r 1]) : L.length * L.length ≤ R.length * S.length * T.length := by
  have hc := len_classes (fun u => [ix u 0, ix u 1]) R hR L h1
  obtain ⟨Q, hQ⟩ : ∃ Q : List Int → Nat, Q = fun r => (L.filter fun u => [ix u 0, ix u 1] == r).length := ⟨_, rfl⟩
  have hc : (R.map Q).sum = L.length := by rw [hQ]; exact hc
  have hca := cauchy (R.map Q)
  rw [hc, List.length_map, List.map_map] at hca
  have hcl : ∀ r, ∀ u ∈ L.filter (fun u => [ix u 0, ix u 1] == r), u ∈ L ∧ [ix u 0, ix u 1] = r := fun r u hu => ⟨(List.mem_filter.1 hu).1, eq_of_beq (List.mem_filter.1 hu).2⟩
  have qs : ∀ r ∈ R, Q r ≤ (S.filter fun s => ix s 0 == ix r 1).length := fun r hr => by
    rw [hQ]
    refine inj_le (g := fun u => [ix u 1, ix u 2]) (hL.sublist List.filter_sublist) (fun u hu => ?_) fun u hu v hv e => ?_
    · obtain ⟨a, b⟩ := hcl r u hu
      refine List.mem_filter.2 ⟨h2 u a, ?_⟩
      rw [← b]
      exact beq_self_eq_true _
    · obtain ⟨a, b⟩ := hcl r u hu
      obtain ⟨a2, b2⟩ := hcl r v hv
      rw [← b2] at b
      simp only [List.cons.injEq, and_true] at b e
      rw [hl u a, hl v a2, b.1, b.2, e.2]
  have qt : ∀ r ∈ R, Q r ≤ (T.filter fun s => ix s 0 == ix r 0).length := fun r hr => by
    rw [hQ]
    refine inj_le (g := fun u => [ix u 0, ix u 2]) (hL.sublist List.filter_sublist) (fun u hu => ?_) fun u hu v hv e => ?_
    · obtain ⟨a, b⟩ := hcl r u hu
      refine List.mem_filter.2 ⟨h3 u a, ?_⟩
      rw [← b]
      exact beq_self_eq_true _
    · obtain ⟨a, b⟩ := hcl r u hu
      obtain ⟨a2, b2⟩ := hcl r v hv
      rw [← b2] at b
      simp only [List.cons.injEq, and_true] at b e
      rw [hl u a, hl v a2, b.1, b.2, e.2]
  have hsum : (R.map fun r => Q r * Q r).sum ≤ S.length * T.length := by
    have s1 : (R.map fun r => Q r * Q r).sum ≤ (R.map fun r => (S.map fun s => (T.map fun t => (if ix s 0 == ix r 1 then 1 else 0) * (if ix t 0 == ix r 0 then 1 else 0)).sum).sum).sum := sum_le fun r hr => by
      have e : (S.map fun s => (T.map fun t => (if ix s 0 == ix r 1 then 1 else 0) * (if ix t 0 == ix r 0 then 1 else 0)).sum).sum = (S.filter fun s => ix s 0 == ix r 1).length * (T.filter fun s => ix s 0 == ix r 0).length := by
        rw [len_sum, len_sum]
        simp only [sum_mul]
        rw [Nat.mul_comm, ← sum_mul]
        congr 1
        exact List.map_congr_left fun s _ => Nat.mul_comm _ _
      rw [e]
      exact Nat.mul_le_mul (qs r hr) (qt r hr)
    refine Nat.le_trans s1 ?_
    rw [sum_comm]
    have s2 : ∀ s ∈ S, (R.map fun r => (T.map fun t => (if ix s 0 == ix r 1 then 1 else 0) * (if ix t 0 == ix r 0 then 1 else 0)).sum).sum ≤ T.length := fun s hs => by
      rw [sum_comm]
      have : ∀ t ∈ T, (R.map fun r => (if ix s 0 == ix r 1 then 1 else 0) * (if ix t 0 == ix r 0 then 1 else 0)).sum ≤ 1 := fun t ht => by
        have e : (R.map fun r => (if ix s 0 == ix r 1 then 1 else 0) * (if ix t 0 == ix r 0 then 1 else 0)) = R.map fun r => if (ix s 0 == ix r 1 && ix t 0 == ix r 0) = true then 1 else 0 := by
          refine List.map_congr_left fun r _ => ?_
          cases (ix s 0 == ix r 1) <;> cases (ix t 0 == ix r 0) <;> rfl
        rw [e, ← len_sum]
        have h5 : (R.filter fun r => (ix s 0 == ix r 1 && ix t 0 == ix r 0)).length ≤ [[ix t 0, ix s 0]].length := nd_le (hR.sublist List.filter_sublist) fun r hr => by
          obtain ⟨m1, m2⟩ := List.mem_filter.1 hr
          rw [Bool.and_eq_true] at m2
          rw [List.mem_singleton, hRl r m1, eq_of_beq m2.1, eq_of_beq m2.2]
        exact h5
      have h6 := sum_le_mul (b := 1) this
      omega
    have h7 := sum_le_mul s2
    rw [Nat.mul_comm] at h7
    exact h7
  refine Nat.le_trans hca ?_
  rw [Nat.mul_assoc]
  exact Nat.mul_le_mul_left _ hsum
end Go.Proofs.Ytpbgnnaaobamfaa

/-
  layer 33: the law LeapfrogTriangle.
-/
namespace Go.Proofs.Ytpbgnnaaobamfaa
open Go.RowKit
set_option linter.unusedSimpArgs false
set_option linter.unusedVariables false
set_option maxRecDepth 100000

theorem rises_lt {l : List (List Int)} (h : RisesR l) {i : Nat} : ∀ d, i + d + 1 < l.length → cmpL (ix l i) (ix l (i + d + 1)) < 0
  | 0, hd => h i (by omega)
  | d + 1, hd => cmpL_trans (rises_lt h d (by omega)) (h (i + d + 1) (by omega))
theorem rises_nd {l : List (List Int)} (h : RisesR l) : l.Nodup := List.pairwise_iff_getElem.2 fun i j hi hj hij e => by
  have h1 := rises_lt h (i := i) (j - i - 1) (by omega)
  rw [show i + (j - i - 1) + 1 = j by omega, ix_lt hi, ix_lt hj, e, cmpL_refl] at h1
  exact absurd h1 (by decide)
theorem two_ext {l : List Int} (h : l.length = 2) : l = [ix l 0, ix l 1] := by
  match l, h with
  | [a, b], _ => rfl
theorem three_ext {l : List Int} (h : l.length = 3) : l = [ix l 0, ix l 1, ix l 2] := by
  match l, h with
  | [a, b, c], _ => rfl
theorem triangle_le {r s t : Rela} (hc : jchkF 3 [r, s, t] vars3 = 0) (hJ : JoinFit 3 [r, s, t] vars3) : (outs (netOf [r, s, t] vars3) 3 []).length * (outs (netOf [r, s, t] vars3) 3 []).length ≤ r.rows.length * s.rows.length * t.rows.length := by
  have hOK := chk_ok hc
  have hLt := hJ.lt hc 3 (by decide)
  have hNR := netR_of (m := 3) rfl hOK hLt.l
  have hok := outs_ok hNR 3 [] rfl (cons_nil hNR)
  have hk : ∀ i, i < 3 → (ix [r, s, t] i).rows.Nodup ∧ ∀ row ∈ (ix [r, s, t] i).rows, row.length = 2 := fun i hi => by
    obtain ⟨⟨w1, w2, w3⟩, _, hris⟩ := check_ok (hOK.chk i hi)
    have hl := (hOK.var i hi).len
    have hv : (ix vars3 i).length = 2 := by
      match i, hi with
      | 0, _ => rfl
      | 1, _ => rfl
      | 2, _ => rfl
    exact ⟨rises_nd hris, fun row hr => by have := w3 row hr; omega⟩
  have hpair : ∀ (i a b : Nat), i < 3 → ix vars3 i = [(a : Int), (b : Int)] → ∀ u ∈ outs (netOf [r, s, t] vars3) 3 [], [ix u a, ix u b] ∈ (ix [r, s, t] i).rows := fun i a b hi hv u hu => by
    obtain ⟨row, hr, h1⟩ := okT_net.1 (hok u hu) i hi
    rw [hv] at h1
    have e0 : ix row 0 = ix u a := h1 0 (by show 0 < 2; decide)
    have e1 : ix row 1 = ix u b := h1 1 (by show 1 < 2; decide)
    have e := two_ext ((hk i hi).2 row hr)
    rw [e0, e1] at e
    rw [← e]; exact hr
  exact triangles (outs_nd 3 []) (hk 0 (by decide)).1 (fun u hu => three_ext (by have := outs_len 3 [] u hu; simpa using this)) (hpair 0 0 1 (by decide) rfl) (hpair 1 1 2 (by decide) rfl) (hpair 2 0 2 (by decide) rfl) fun row hrow => two_ext ((hk 0 (by decide)).2 row hrow)
theorem few_vars3 {rels : List Rela} (h : Few rels []) : Few rels vars3 := ⟨h.r14, by decide, h.sh, by decide, h.sum⟩
noncomputable def CLt : Ctx := mkC Try.prog G0 [(16, .pure sFew), (10, .pure sAlive), (19, .pure sJoin)]
@[simp] theorem CLt_P : CLt.P = Try.prog := rfl
@[simp] theorem CLt_G : CLt.G = G0 := rfl
@[simp] theorem CLt_1 : CLt.S 16 = .pure sFew := rfl
@[simp] theorem CLt_2 : CLt.S 10 = .pure sAlive := rfl
@[simp] theorem CLt_3 : CLt.S 19 = .pure sJoin := rfl
theorem mixCLt : CLt.P.follows .mixedOrders = true := mixed
theorem sigCLt : SigOK CLt := sigOK_cons (entryPure (fewP) Try.func16 rfl (by decide)) (sigOK_cons (entryPure (aliveP) Try.func10 rfl (by decide)) (sigOK_cons (entryPure (joinP) Try.func19 rfl (by decide)) (sigOK_nil _ _)))
def triPre (r s t : Rela) : Prop := WfRel r ∧ WfRel s ∧ WfRel t
set_option maxHeartbeats 16000000 in
theorem lawTriangle : PureOK Try.prog G0 6 (spec3 triPre fun _ _ _ => .bool true) := by
  refine pure3 (C := CLt) sigCLt mixCLt Try.func6 rfl rfl rfl (by kernel_rfl) (by decide) (fun r s t ⟨h1, h2, h3⟩ => ?_)
  have hw : RelsWf [r, s, t] := fun x hx => by
    simp only [List.mem_cons, List.not_mem_nil, or_false] at hx
    rcases hx with rfl | rfl | rfl
    · exact h1.2.1
    · exact h2.2.1
    · exact h3.2.1
  have hw' : FewPre [r, s, t] [] := hw
  have s22 : isScalT CLt 22 = false := by show isScalT ⟨Try.prog, fun _ => .no, G0⟩ 22 = false; kernel_rfl
  have s25 : isScalT CLt 25 = true := by show isScalT ⟨Try.prog, fun _ => .no, G0⟩ 25 = true; kernel_rfl
  have s31 : isScalT CLt 31 = false := by show isScalT ⟨Try.prog, fun _ => .no, G0⟩ 31 = false; kernel_rfl
  have s39 : isScalT CLt 39 = false := by show isScalT ⟨Try.prog, fun _ => .no, G0⟩ 39 = false; kernel_rfl
  have s36 : isScalT CLt 36 = false := by show isScalT ⟨Try.prog, fun _ => .no, G0⟩ 36 = false; kernel_rfl
  cases hf : fewB [r, s, t] [] with
  | false => simp [aev, cav, look, acallPure, abin, abinN, abinP, abinI, abinS, aun, aconv, afield, afieldAddr, aindexAddr, aindex, aslice, alow, ahigh, abuild, abuildGo, cellsOf, splice, fieldTy, alen, apick, amax, amin, aload, headV, aparts, abuildSlice, elParts, abytesStr, astore, amake, aappend, aclear, anew, arith, aresults, aresList, ares, spec0, spec1, spec2, spec3, spec4, eqCells, eqCell, abuildSlice, aparts, s22, s25, s31, s36, s39, sFew, hw', hf, sAlive]
  | true =>
  have hF := few_vars3 (few_of hf)
  have hJ : JoinFit 3 [r, s, t] vars3 := fit_few hF hw (by decide)
  have j1 : JoinPre 3 [r, s, t] [[0, 1], [1, 2], [0, 2]] := hJ.j1
  rcases em2 (jchkF 3 [r, s, t] [[0, 1], [1, 2], [0, 2]] = 0) with hc | hc
  case inr =>
    have e : joinF 3 [r, s, t] [[0, 1], [1, 2], [0, 2]] = ⟨[], ⟨[], [], []⟩, jchkF 3 [r, s, t] [[0, 1], [1, 2], [0, 2]]⟩ := by unfold joinF; rw [if_neg (of_eq_false hc)]
    simp [aev, cav, look, acallPure, abin, abinN, abinP, abinI, abinS, aun, aconv, afield, afieldAddr, aindexAddr, aindex, aslice, alow, ahigh, abuild, abuildGo, cellsOf, splice, fieldTy, alen, apick, amax, amin, aload, headV, aparts, abuildSlice, elParts, abytesStr, astore, amake, aappend, aclear, anew, arith, aresults, aresList, ares, spec0, spec1, spec2, spec3, spec4, eqCells, eqCell, abuildSlice, aparts, s22, s25, s31, s36, s39, sFew, hw', hf, sAlive, sJoin, j1, e, resJ, hc]
  have hc' := of_eq_true hc
  have htr := triangle_le hc' hJ
  obtain ⟨L, hL⟩ : ∃ L, L = joinF 3 [r, s, t] [[0, 1], [1, 2], [0, 2]] := ⟨_, rfl⟩
  have eo : L.out = outs (netOf [r, s, t] vars3) 3 [] := by
    rw [hL]; unfold joinF
    rw [if_pos hc']; rfl
  have ee : L.e = 0 := by
    rw [hL]; unfold joinF
    rw [if_pos hc']
  rw [← eo] at htr
  obtain ⟨o, ⟨s1, s2, s3⟩, er⟩ := L
  simp only at htr ee
  subst ee
  obtain ⟨hT, hb, _⟩ := hF.net hc'
  have hsum : r.rows.length + (s.rows.length + (t.rows.length + 0)) ≤ 120 := hT
  have b1 : r.rows.length * s.rows.length ≤ 120 * 120 := Nat.mul_le_mul (by omega) (by omega)
  have b2 : r.rows.length * s.rows.length * t.rows.length ≤ 120 * 120 * 120 := Nat.mul_le_mul b1 (by omega)
  have c1 : ((r.rows.length * s.rows.length : Nat) : Int) = (r.rows.length : Int) * (s.rows.length : Int) := by simp
  have c2 : ((r.rows.length * s.rows.length * t.rows.length : Nat) : Int) = (r.rows.length : Int) * (s.rows.length : Int) * (t.rows.length : Int) := by simp
  have c3 : ((o.length * o.length : Nat) : Int) = (o.length : Int) * (o.length : Int) := by simp
  have i1 : I64 ((r.rows.length : Int) * (s.rows.length : Int)) := by unfold I64; omega
  have i2 : I64 ((r.rows.length : Int) * (s.rows.length : Int) * (t.rows.length : Int)) := by unfold I64; omega
  have i3 : I64 ((o.length : Int) * (o.length : Int)) := by unfold I64; omega
  have hle : ((o.length : Int) * (o.length : Int) ≤ (r.rows.length : Int) * (s.rows.length : Int) * (t.rows.length : Int)) = True := eq_true (by omega)
  simp [aev, cav, look, acallPure, abin, abinN, abinP, abinI, abinS, aun, aconv, afield, afieldAddr, aindexAddr, aindex, aslice, alow, ahigh, abuild, abuildGo, cellsOf, splice, fieldTy, alen, apick, amax, amin, aload, headV, aparts, abuildSlice, elParts, abytesStr, astore, amake, aappend, aclear, anew, arith, aresults, aresList, ares, spec0, spec1, spec2, spec3, spec4, eqCells, eqCell, abuildSlice, aparts, s22, s25, s31, s36, s39, sFew, hw', hf, sAlive, sJoin, j1, ← hL, resJ, i1, i2, i3, hle]
end Go.Proofs.Ytpbgnnaaobamfaa
