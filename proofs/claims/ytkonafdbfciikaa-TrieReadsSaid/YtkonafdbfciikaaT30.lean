/-
  layer 14: the rows of a trie, the program's side: the closure's walk.
-/
import Derived.Test.YtkonafdbfciikaaT29
namespace Go.Proofs.Ytkonafdbfciikaa
open Go.RowKit
set_option linter.unusedSimpArgs false
set_option linter.unusedVariables false
set_option maxRecDepth 100000

theorem blocks_clean {t : Trie} {n : Nat} {R : List (List Int)} {rest : List Blk} (hr : ∀ b ∈ rest, b.deep = true) {m : Nat} (hm : 4 ≤ m) : ∀ b ∈ TB t :: oB n :: fB :: rB 35 (encRows R) :: rest, b.deep = true ∨ ∀ r ∈ b.rows, ∀ c ∈ r, c.cleanF m = true := by
  intro b hb
  simp only [List.mem_cons] at hb
  rcases hb with rfl | rfl | rfl | rfl | hb
  · exact .inl rfl
  · refine .inr fun r hr c hc => ?_
    simp only [oB, List.mem_singleton] at hr
    subst hr
    simp only [List.mem_singleton] at hc
    subst hc
    simp [AV.cleanF, AV.clean2, AV.clean1]
    omega
  · refine .inr fun r hr c hc => ?_
    simp only [fB, List.mem_singleton] at hr
    subst hr
    simp only [List.mem_singleton] at hc
    subst hc
    simp [caps, AV.cleanF, AV.clean2, AV.clean1]
    omega
  · exact .inl rfl
  · exact .inl (hr b hb)
theorem walkF_snoc {t : Trie} {k a i : Nat} {p : List Int} (h : a ≤ i) : walkF t k a (i + 1) p = walkF t k a i p ++ (subF (t.levels.drop k) i).map (p ++ ·) := by
  unfold walkF
  rw [rng_snoc h, List.flatMap_append, List.map_append, List.flatMap_cons, List.flatMap_nil, List.append_nil]
theorem sub_part {t : Trie} (hv : ValidT t) {k a i z : Nat} (hk : k < t.levels.length) (h1 : a ≤ i) (h2 : i < z) (h3 : z ≤ (ix t.levels k).keys.length) : ((rng a i).flatMap (subF (t.levels.drop k))).length + (subF (t.levels.drop k) i).length ≤ ((rng a z).flatMap (subF (t.levels.drop k))).length := by
  have ht := valid_tree hv (t.levels.length - 1 - k) k (by omega)
  have e : ix (t.levels.drop k) 0 = ix t.levels k := by rw [drop_ix hk]; rfl
  have l1 := sub_len ht (a := a) (z := z) (by omega) (by rw [e]; exact h3)
  have l2 := sub_len ht (a := a) (z := i + 1) (by omega) (by rw [e]; omega)
  have l3 := leaf_mono ht (i := i + 1) (j := z) (by omega) (by rw [e]; exact h3)
  rw [rng_snoc h1, List.flatMap_append, List.length_append, List.flatMap_cons, List.flatMap_nil, List.append_nil] at l2
  omega
noncomputable def CWk (D : Nat) : Ctx := mkC Try.prog G0 [(59, .gen (sWalk D)), (60, .pure sClip), (20, .pure sValid)]
@[simp] theorem CWk_P (D : Nat) : (CWk D).P = Try.prog := rfl
@[simp] theorem CWk_1 (D : Nat) : (CWk D).S 59 = .gen (sWalk D) := rfl
@[simp] theorem CWk_2 (D : Nat) : (CWk D).S 60 = .pure sClip := rfl
@[simp] theorem CWk_3 (D : Nat) : (CWk D).S 20 = .pure sValid := rfl
theorem mixCWk (D : Nat) : (CWk D).P.follows .mixedOrders = true := mixed
theorem sigCWk {D : Nat} (h : GenOK Try.prog G0 59 (sWalk D)) : SigOK (CWk D) := sigOK_cons (entryGen h Try.func59 rfl (by decide)) (sigOK_cons (entryPure clipP Try.func60 rfl (by decide)) (sigOK_cons (entryPure validP Try.func20 rfl (by decide)) (sigOK_nil _ _)))
theorem scalWk (D : Nat) : isScalT (CWk D) 22 = false := by show isScalT ⟨Try.prog, fun _ => .no, G0⟩ 22 = false; kernel_rfl
set_option maxHeartbeats 16000000 in
theorem walkN : ∀ D, GenOK Try.prog G0 59 (sWalk D)
  | 0 => fun w X β H args avs ob r H' R hG hsz harg hp hob => by
    obtain ⟨t, k, a, z, p, R, f, rest, h, _⟩ := walk_inv hp hob
    have h1 := h.deep
    have h2 := h.group.1
    omega
  | D + 1 => by
    have ih := walkN D
    refine gen_of_avcH (C := CWk D) (sigCWk ih) (mixCWk D) [4, 8] Try.func59 rfl rfl rfl (by kernel_rfl) (fun avs H ob r H' hp hob => ?_)
    obtain ⟨t, k, a, z, p, R, f, rest, h, hr, rfl, rfl, rfl, rfl⟩ := walk_inv hp hob
    clear hp hob ob
    refine ⟨(by show 7 ≤ _; decide), ?_⟩
    have hk : k < t.levels.length := h.group.1
    have hT := h.small
    have hv := h.valid
    have hD := h.deep
    have hl := hT.1.1
    obtain ⟨x1, x2⟩ := hT.1.2 _ (ix_mem hk)
    obtain ⟨g1, g2, g3⟩ := group_facts hv h.group
    simp [aev, cav, look, acallPure, abin, abinN, abinP, abinI, abinS, aun, aconv, afield, afieldAddr, aindexAddr, aindex, aslice, alow, ahigh, abuild, abuildGo, cellsOf, splice, fieldTy, alen, apick, amax, amin, aload, headV, aparts, abuildSlice, elParts, abytesStr, astore, amake, aappend, aclear, anew, arith, aresults, aresList, ares, spec0, spec1, spec2, spec3, spec4, eqCells, eqCell, argsρ, TB, oB, fB, caps, rB, hk, rowAt_enc hk]
    refine loop_ruleH (C := CWk D) (sigCWk ih) (mixCWk D) [4, 8] (fun q : Nat × List (List Int) => ⟨[(0, .int .i64 k), (1, .int .i64 a), (2, .int .i64 z), (3, .slice 1 f (encRows p)), (4, .ptr 0 1 1 0 0), (5, .ptr 1 1 1 0 0), (6, .ptr 2 1 1 0 0), (11, .ptr (rest.length + 4) 1 2 0 0), (12, .int .i64 q.1)], TB t :: oB q.2.length :: fB :: rB 35 (encRows q.2) :: (rest ++ [VB (ix t.levels k)])⟩) (fun q => a ≤ q.1 ∧ q.1 ≤ z ∧ q.2 = R ++ walkF t k a q.1 p) (fun q => z - q.1) (by kernel_rfl) ⟨(a, R), ⟨Nat.le_refl _, g1, by unfold walkF; rw [rng_nil (Nat.le_refl _)]; simp⟩, weak_eq (by simp) (by simp [TB, oB, fB, caps, rB, VB])⟩ (fun ⟨i, out⟩ ⟨b1, b2, b3⟩ => ?_)
    simp only at b1 b2 b3 ⊢
    by_cases hi : i < z
    · have hik : i < (ix t.levels k).keys.length := by omega
      have i1 : I64 ((i : Int) + 1) := by unfold I64; omega
      have hp1 : p.length ≤ 1000000 := by have := h.path; omega
      have hfew := sub_part hv hk b1 hi g2
      have hfew2 := h.few
      have hol : out.length = R.length + ((rng a i).flatMap (subF (t.levels.drop k))).length := by rw [b3, List.length_append]; unfold walkF; rw [List.length_map]
      have hra : ∀ b ∈ rest ++ [VB (ix t.levels k)], b.deep = true := fun b hb => by
        rcases List.mem_append.1 hb with hb | hb
        · exact hr b hb
        · rw [List.mem_singleton.1 hb]; rfl
      simp [aev, cav, look, acallPure, abin, abinN, abinP, abinI, abinS, aun, aconv, afield, afieldAddr, aindexAddr, aindex, aslice, alow, ahigh, abuild, abuildGo, cellsOf, splice, fieldTy, alen, apick, amax, amin, aload, headV, aparts, abuildSlice, elParts, abytesStr, astore, amake, aappend, aclear, anew, arith, aresults, aresList, ares, spec0, spec1, spec2, spec3, spec4, eqCells, eqCell, TB, oB, fB, caps, rB, VB, hi]
      refine AW_regionF (sigCWk ih) (mixCWk D) [.pure, .read, .pure, .read, .pure, .pure, .read, .read, .eff, .pure] [[],[0],[],[2],[],[4,2,3],[3,2,4,5],[5,4,2,3,6],[6,3,2,4,5,7,0,1],[1,0,7,5,4,2,3,6,8]] (by kernel_rfl) (by kernel_rfl) (by kernel_rfl) (by kernel_rfl) ?_
      by_cases hlast : k + 1 = t.levels.length
      · have hw : w64 ((t.levels.length : Int) - 1) = k := by rw [show (t.levels.length : Int) - 1 = k by omega]; exact w64_in (by unfold I64; omega)
        have es := sub_last (i := i) hlast
        rw [es, List.length_singleton] at hfew
        simp [aev, cav, look, acallPure, abin, abinN, abinP, abinI, abinS, aun, aconv, afield, afieldAddr, aindexAddr, aindex, aslice, alow, ahigh, abuild, abuildGo, cellsOf, splice, fieldTy, alen, apick, amax, amin, aload, headV, aparts, abuildSlice, elParts, abytesStr, astore, amake, aappend, aclear, anew, arith, aresults, aresList, ares, spec0, spec1, spec2, spec3, spec4, eqCells, eqCell, sClip, hp1, hik, rowAt_enc hik, hw, app_at0, app_at1, app_set0, app_set1, frz_rest, scalWk, i1]
        refine ⟨⟨by omega, by omega⟩, ⟨by omega, by omega⟩, i + 1, out ++ [p ++ [ix (ix t.levels k).keys i]], ⟨by omega, by omega, ?_⟩, by omega, weak_keepF (rest.length + 5) (by simp) (by omega) (by simp [AV.cleanF, AV.clean2, AV.clean1]) ?_ ?_⟩
        · rw [walkF_snoc b1, es, b3, List.append_assoc]; rfl
        · simp only [List.take_succ_cons, app_take1]
          exact blocks_clean (n := out.length + 1) hra (by omega)
        · simp only [List.take_succ_cons, app_take1, List.length_append, List.length_singleton]
      · have hw : ((k : Int) = w64 ((t.levels.length : Int) - 1)) = False := by rw [w64_in (by unfold I64; omega)]; exact eq_false (by omega)
        have hk1 : k + 1 < t.levels.length := by omega
        have i2 : I64 ((k : Int) + 1) := by unfold I64; omega
        have j1 : ((k : Int) + 1).toNat = k + 1 := by omega
        have j2 : (0 : Int) ≤ (k : Int) + 1 := by omega
        have j3 : (k : Int) + 1 < t.levels.length := by omega
        simp [aev, cav, look, acallPure, abin, abinN, abinP, abinI, abinS, aun, aconv, afield, afieldAddr, aindexAddr, aindex, aslice, alow, ahigh, abuild, abuildGo, cellsOf, splice, fieldTy, alen, apick, amax, amin, aload, headV, aparts, abuildSlice, elParts, abytesStr, astore, amake, aappend, aclear, anew, arith, aresults, aresList, ares, spec0, spec1, spec2, spec3, spec4, eqCells, eqCell, sClip, hp1, hik, rowAt_enc hik, hw, app_at0, app_at1, app_set0, app_set1, frz_rest, scalWk, i2, j1, j2, j3, hk1, rowAt_enc hk1]
        refine ⟨⟨by omega, by omega⟩, AW.weak (weak_view 13) ?_⟩
        refine AW_regionF (sigCWk ih) (mixCWk D) [.read, .pure, .pure, .pure, .read, .pure, .pure, .read, .pure, .read, .pure, .pure, .pure, .read, .pure, .eff] [[],[],[1],[],[3],[],[5,3,4],[4,3,5,6],[],[8],[],[10],[10,11,8,9],[9,8,11,10,12],[],[14,12,10,11,8,9,13,6,5,3,4,7,1,2,0]] (by kernel_rfl) (by kernel_rfl) (by kernel_rfl) (by kernel_rfl) ?_
        obtain ⟨f1, f2, f3, f4⟩ := group_below hv hk1 hik
        obtain ⟨q1, q2, q3⟩ := group_facts hv f2
        have es := sub_drop (t := t) (i := i) hk1
        generalize hc : nA (ix t.levels (k + 1)).first i = c at *
        generalize he : nA (ix t.levels (k + 1)).first (i + 1) = e at *
        unfold nA at hc he
        have ec : ix (ix t.levels (k + 1)).first i = c := by omega
        have ee : ix (ix t.levels (k + 1)).first (i + 1) = e := by omega
        rw [hc, he] at f2 q1
        rw [he] at q2
        have f0 : i < (ix t.levels (k + 1)).first.length := by omega
        have y2 := (hT.1.2 _ (ix_mem hk1)).2
        have j4 : ((i : Int) + 1).toNat = i + 1 := by omega
        have j5 : (0 : Int) ≤ (i : Int) + 1 := by omega
        have j6 : (i : Int) + 1 < (ix t.levels (k + 1)).first.length := by omega
        rw [es, List.length_map] at hfew
        have hpre : WalkPre D t (k + 1) c e (p ++ [ix (ix t.levels k).keys i]) out := ⟨hT, hv, by omega, f2, by rw [List.length_append, h.path]; rfl, by omega⟩
        obtain ⟨ob, hob, hcall⟩ := walk_meet (rest := rest ++ [VB (ix t.levels k), ⟨3, 1, encRows (p ++ [ix (ix t.levels k).keys i]), false, true⟩, VB (ix t.levels (k + 1))]) hpre false (fun b hb => by
          simp only [List.mem_append, List.mem_cons, List.not_mem_nil, or_false] at hb
          rcases hb with hb | rfl | rfl | rfl
          · exact hr b hb
          · rfl
          · rfl
          · rfl)
        have hcast : ((k + 1 : Nat) : Int) = (k : Int) + 1 := rfl
        rw [hcast] at hcall
        generalize hout : out ++ walkF t (k + 1) c e (p ++ [ix (ix t.levels k).keys i]) = out2 at hcall
        simp only [TB, oB, fB, caps, rB, VB] at hcall
        have hfW : (CWk D).S fW = .gen (sWalk D) := rfl
        simp [aev, cav, look, acallPure, abin, abinN, abinP, abinI, abinS, aun, aconv, afield, afieldAddr, aindexAddr, aindex, aslice, alow, ahigh, abuild, abuildGo, cellsOf, splice, fieldTy, alen, apick, amax, amin, aload, headV, aparts, abuildSlice, elParts, abytesStr, astore, amake, aappend, aclear, anew, arith, aresults, aresList, ares, spec0, spec1, spec2, spec3, spec4, eqCells, eqCell, app_at0, app_at1, app_at2, app_set0, app_set1, frz_rest, f1, f0, rowAt_enc f0, rowAt_enc f1, ec, ee, i1, i2, j4, j5, j6, hfW, hcall, hob]
        refine ⟨i + 1, out2, ⟨by omega, by omega, ?_⟩, by omega, weak_keepF (rest.length + 5) (by simp) (by omega) (by simp [AV.cleanF, AV.clean2, AV.clean1]) ?_ ?_⟩
        · rw [walkF_snoc b1, es, ← hout, b3, List.append_assoc]
          unfold walkF
          simp only [List.map_map, Function.comp_def, List.append_assoc, List.cons_append, List.nil_append]
        · simp only [List.take_succ_cons, app_take1]
          exact blocks_clean (n := out2.length) hra (by omega)
        · simp only [List.take_succ_cons, app_take1]
    · have hiz : i = z := by omega
      subst hiz
      simp [aev, cav, look, acallPure, abin, abinN, abinP, abinI, abinS, aun, aconv, afield, afieldAddr, aindexAddr, aindex, aslice, alow, ahigh, abuild, abuildGo, cellsOf, splice, fieldTy, alen, apick, amax, amin, aload, headV, aparts, abuildSlice, elParts, abytesStr, astore, amake, aappend, aclear, anew, arith, aresults, aresList, ares, spec0, spec1, spec2, spec3, spec4, eqCells, eqCell, hi]
      refine ⟨⟨[], _⟩, weak_keepF (rest.length + 4) (by simp) (by simp) (by simp) ?_ rfl, .inl rfl, True, rfl, trivial, ?_⟩
      · simp only [List.take_succ_cons, app_take0]
        exact blocks_clean hr (by omega)
      · simp only [List.take_succ_cons, app_take0, b3]
end Go.Proofs.Ytkonafdbfciikaa
