/-
  Texts joined: G11 G12 G13 G14 G15 G16 G17 G18 G19 G20 G21 G22 G23 G24 G25 G26 G27 G28 G29 B1 H1 B2 H2 H3 H4.
-/
import Derived.Test.YtfoipbjhaiimlaaGreatDoorW4
import Derived.Test.YtfoipbjhaiimlaaGreatDoorRows
import Derived.MakeChecks
import Derived.ChangeSame
import Derived.LaidMore

/-
  layer 30: empty — a row of zeros; whether a variable is artificial.
-/
namespace Go.Proofs.YtfoipbjhaiimlaaGreatDoor
open Go.RowKit
set_option linter.unusedSimpArgs false
set_option linter.unusedVariables false
set_option maxRecDepth 100000

section
variable {L : Lay} {t : Tab}
theorem tC_e0 (h : 0 < (tC L t).length) : (tC L t)[0]'h = .int .i64 t.n := rfl
theorem tC_e1 (h : 1 < (tC L t).length) : (tC L t)[1]'h = .int .i64 t.m := rfl
theorem tC_e2 (h : 2 < (tC L t).length) : (tC L t)[2]'h = .own L.q L.r.length := rfl
theorem tC_e3 (h : 3 < (tC L t).length) : (tC L t)[3]'h = cC L.c t.cost.length := rfl
end
theorem tab_drop0 {L : Lay} {t' : Tab} {K : List Blk} (h : Lens L K) {r : AV} (hr : r.cleanF K.length = true) : dropT K.length (putT L t' K) r (putT L t' K) := by
  have := tab_drop (X := []) h (t' := t') hr
  rwa [List.append_nil] at this
theorem shape_w {L : Lay} {t : Tab} (hS : Shape L t) : w64 ((t.n : Int) + t.m) = t.w := by
  have := hS.n12
  have := hS.m24
  rw [w64_in (by unfold I64; omega)]
  unfold Tab.w
  omega
/-! ### artificial -/
def aArt : Lay → Tab → Nat → List AV := fun _ _ i => [.int .i64 i]
noncomputable def gArt := tabG aArt (fun _ t i => i < t.m) (fun t i => .bool (decide ((t.w : Int) ≤ ix t.basis i))) (fun t _ => t)
theorem okArt : TabOK aArt (fun _ t i => i < t.m) (fun t _ => t) where
  inj := fun {L t K x x'} _ _ _ _ e => by
    unfold aArt at e
    simp only [List.cons.injEq, AV.int.injEq, and_true, true_and] at e
    omega
  rows := fun s _ => s.m
theorem art_call {L : Lay} {K : List Blk} {t : Tab} (hL : Lens L K) (hS : Shape L t) {i : Nat} (hi : i < t.m) (X : List Blk) (hX : ∀ b ∈ X, b.deep = true) : gArt [.ptr L.p 1 29 0 0, .int .i64 i] (putT L t K ++ X) = some (True, .bool (decide ((t.w : Int) ≤ ix t.basis i)), putT L t K ++ X) :=
  tabG_call okArt (x := i) hL hS hi X hX
noncomputable def CEm : Ctx := mkC Tryz.prog G0 [(64, .pure (spec0 (Enc.enc F01)))]
@[simp] theorem CEm_P : CEm.P = Tryz.prog := rfl
@[simp] theorem CEm_G : CEm.G = G0 := rfl
@[simp] theorem CEm_1 : CEm.S 64 = .pure (spec0 (Enc.enc F01)) := rfl
theorem mixCEm : CEm.P.follows .mixedOrders = true := mixed
theorem sigCEm : SigOK CEm := sigOK_cons (entryPure (zeroP) Tryz.func64 rfl (by decide)) (sigOK_nil _ _)
set_option maxHeartbeats 16000000 in
theorem artTP : GenOK Tryz.prog G0 100 gArt := by
  refine gen_of_avcD (C := CEm) sigCEm mixCEm [1] Tryz.func100 rfl rfl rfl (by kernel_rfl) (fun avs H ob r H' hp hob => ?_)
  obtain ⟨L, t, K, i, hL, hS, hi, rfl, rfl, rfl, rfl⟩ := tabG_inv hp
  clear hp hob ob
  refine ⟨(by show 2 ≤ _; decide), ?_⟩
  simp only [aArt]
  have G := getT hL hS
  have gp := G.p []
  rw [List.append_nil] at gp
  have bs := hS.bas
  have h24 : i < 24 := by have := hS.m24; omega
  have hb := tC_b (L := L) bs h24
  have hw : t.w ≤ 36 := by have := hS.n12; have := hS.m24; unfold Tab.w; omega
  have hl := tC_len (L := L) bs
  simp [argsρ, put_len, gp]
  refine AW_regionF sigCEm mixCEm [.pure, .pure, .pure, .pure, .pure, .read, .pure, .pure, .pure, .read, .pure, .pure, .pure, .read, .pure, .pure, .pure] [[],[],[0],[0,2],[1,2,0,3],[3,0,2,1,4],[],[6],[6,7],[7,6,8],[],[10],[10,11],[11,10,12],[12,10,11,13,8,6,7,9],[9,7,6,8,13,11,10,12,14,4,1,2,0,3,5],[5,3,0,2,1,4,14,12,10,11,13,8,6,7,9,15]] (by kernel_rfl) (by kernel_rfl) (by kernel_rfl) (by kernel_rfl) ?_
  simp [gp, hb, hl, h24, tC_e0, tC_e1, put_len, shape_w hS]
  exact ⟨by omega, by omega, tab_drop0 hL (by simp [AV.cleanF, AV.clean2, AV.clean1])⟩
  done
theorem shape_w0 {L : Lay} {t : Tab} (hS : Shape0 L t) : w64 ((t.n : Int) + t.m) = t.w := by
  have := hS.n12
  have := hS.m24
  rw [w64_in (by unfold I64; omega)]
  unfold Tab.w
  omega
/-! ### empty -/
abbrev EmX := Lay × Tab × List Blk
def preE : EmX → Prop := fun γ => Lens γ.1 γ.2.2 ∧ Shape0 γ.1 γ.2.1
def rowE (t : Tab) : List Fr := List.replicate (t.w + 1) F01
noncomputable def gEmpty : List AV → List Blk → Option (Prop × AV × List Blk) :=
  anyG (fun γ : EmX => [.ptr γ.1.p 1 29 0 0]) (fun γ => putT γ.1 γ.2.1 γ.2.2) preE (fun γ => .own γ.2.2.length (γ.2.1.w + 1)) (fun γ => putT γ.1 γ.2.1 γ.2.2 ++ [R2B (rowE γ.2.1)])
theorem empty_at {L : Lay} {t : Tab} {K : List Blk} (hL : Lens L K) (hS : Shape0 L t) : gEmpty [.ptr L.p 1 29 0 0] (putT L t K) = some (True, .own K.length (t.w + 1), putT L t K ++ [R2B (rowE t)]) := by
  refine anyG_at (a := fun γ : EmX => [.ptr γ.1.p 1 29 0 0]) (h := fun γ : EmX => putT γ.1 γ.2.1 γ.2.2) (pre := preE) (res := fun γ => .own γ.2.2.length (γ.2.1.w + 1)) (h' := fun γ => putT γ.1 γ.2.1 γ.2.2 ++ [R2B (rowE γ.2.1)]) ?_ (γ := (L, t, K)) ⟨hL, hS⟩
  rintro ⟨L1, t1, K1⟩ ⟨L2, t2, K2⟩ ⟨h1, s1⟩ ⟨h2, s2⟩ ea eh
  simp only [List.cons.injEq, AV.ptr.injEq, and_true] at ea
  obtain ⟨e1, e2, e3⟩ := put_inj0 h1 h2 s1 s2 ea eh
  simp only at e1 e2
  subst e1 e2
  have el : K1.length = K2.length := by
    have := congrArg List.length eh
    simpa [put_len] using this
  refine ⟨by simp only [el], ?_⟩
  simp only [e3 t1 s1.m]
theorem empty_inv {args : List AV} {H : List Blk} {ob : Prop} {r : AV} {H' : List Blk} (e : gEmpty args H = some (ob, r, H')) :
    ∃ L t K, Lens L K ∧ Shape0 L t ∧ args = [.ptr L.p 1 29 0 0] ∧ H = putT L t K ∧ r = .own K.length (t.w + 1) ∧ H' = putT L t K ++ [R2B (rowE t)] := by
  obtain ⟨⟨L, t, K⟩, ⟨h1, h2⟩, e1, e2, e3, e4⟩ := anyG_inv e
  exact ⟨L, t, K, h1, h2, e1.symm, e2.symm, e3.symm, e4.symm⟩
theorem tab_keep {L : Lay} {t' : Tab} {K X : List Blk} (h : Lens L K) (hX : ∀ b ∈ X, b.deep = true) {r : AV} (hr : r.cleanF (K.length + X.length) = true) : dropT K.length (putT L t' K ++ X) r (putT L t' K ++ X) :=
  ⟨K.length + X.length, Nat.le_add_right _ _, by rw [show K.length + X.length = (putT L t' K ++ X).length by rw [List.length_append, put_len], List.take_length], hr, fun b hb => by
    rcases List.mem_append.1 hb with hb | hb
    · exact (put_clean h t' b hb).imp id fun h1 r hr c hc => cleanF_mono (Nat.le_add_right _ _) (h1 r hr c hc)
    · exact .inl (hX b hb)⟩
theorem enc_rep (n : Nat) (a : Fr) : encRows (List.replicate n a) = List.replicate n (Enc.cells a) := by unfold encRows; rw [List.map_replicate]
theorem rowE_eq (t : Tab) : mixF (t.w + 1) (fun _ => F01) (List.replicate (t.w + 1) F00) = rowE t := by
  refine List.ext_getElem (by rw [mixF_len]; simp [rowE]) fun j h1 h2 => ?_
  rw [mixF_len, List.length_replicate] at h1
  have := mixF_ix (k := t.w + 1) (g := fun _ => F01) (row := List.replicate (t.w + 1) F00) (j := j) (by simpa using h1)
  rw [ix_lt (by rw [mixF_len]; simpa using h1), if_pos h1] at this
  rw [this]
  exact (List.getElem_replicate (a := F01) (n := t.w + 1) (h := h2)).symm
set_option maxHeartbeats 16000000 in
theorem emptyTP : GenOK Tryz.prog G0 99 gEmpty := by
  refine gen_of_avcD (C := CEm) sigCEm mixCEm [1] Tryz.func99 rfl rfl rfl (by kernel_rfl) (fun avs H ob r H' hp hob => ?_)
  obtain ⟨L, t, K, hL, hS, rfl, rfl, rfl, rfl⟩ := empty_inv hp
  clear hp hob ob
  refine ⟨(by show 1 ≤ _; decide), ?_⟩
  have G := get0 (t := t) hL
  have gp0 := G.p []
  rw [List.append_nil] at gp0
  have gp := G.p
  have gl0 := G.l0
  have gl := G.l
  have sl0 := G.sl0
  have hw : t.w ≤ 36 := by have := hS.n12; have := hS.m24; unfold Tab.w; omega
  have hl := tC_len (L := L) hS.bas
  have i1 : w64 ((t.w : Int) + 1) = (t.w : Int) + 1 := w64_in (by unfold I64; omega)
  simp [argsρ, put_len]
  refine AW_regionF sigCEm mixCEm [.pure, .pure, .pure, .read, .pure, .pure, .pure, .read, .pure, .pure, .eff, .pure] [[],[0],[0,1],[1,0,2],[],[4],[4,5],[5,4,6],[6,4,5,7,2,0,1,3],[3,1,0,2,7,5,4,6,8],[8,6,4,5,7,2,0,1,3,9],[9,3,1,0,2,7,5,4,6,8,10]] (by kernel_rfl) (by kernel_rfl) (by kernel_rfl) (by kernel_rfl) ?_
  simp [gp0, hl, tC_e0, tC_e1, put_len, shape_w0 hS, i1]
  have e0 : putT L t K ++ [⟨35, 2, List.replicate (t.w + 1) [.int .i64 0, .int .i64 0], true, true⟩] = putT L t K ++ [R2B (mixF 0 (fun _ => F01) (List.replicate (t.w + 1) F00))] := by rw [mixF_zero]; unfold R2B; rw [enc_rep]; rfl
  refine ⟨⟨by omega, by omega, by omega⟩, ?_⟩
  refine loop_ruleH (C := CEm) sigCEm mixCEm [1] (fun k : Nat => ⟨[(3, .own K.length (t.w + 1)), (17, .int .i64 ((t.w : Int) + 1)), (18, .int .i64 k)], putT L t K ++ [R2B (mixF k (fun _ => F01) (List.replicate (t.w + 1) F00))]⟩) (fun k => k ≤ t.w + 1) (fun k => t.w + 1 - k) (by kernel_rfl) ⟨0, by simp, weak_eq (by simp) e0⟩ (fun k hk => ?_)
  have hm := mixF_len k (fun _ => F01) (List.replicate (t.w + 1) F00)
  rw [List.length_replicate] at hm
  by_cases hkl : k < t.w + 1
  · have hkl' : (k : Int) < (t.w : Int) + 1 := by omega
    have i2 : I64 ((k : Int) + 1) := by unfold I64; omega
    simp [R2B, put_len, gl0, sl0, hkl', hkl, hm, i2, rowAt_enc]
    refine ⟨k + 1, by omega, by omega, weak_eq (by simp) ?_⟩
    rw [mixF_set (g := fun _ => F01) (v := F01) rfl (by rw [List.length_replicate]; exact hkl)]
  · have hke : k = t.w + 1 := by omega
    subst hke
    rw [rowE_eq]
    simp [put_len]
    exact tab_keep hL (by simp [R2B]) (by simp [AV.cleanF, AV.clean2, AV.clean1])
end Go.Proofs.YtfoipbjhaiimlaaGreatDoor


/-
  layer 30: leaving — the row that leaves.
-/
namespace Go.Proofs.YtfoipbjhaiimlaaGreatDoor
open Go.RowKit
set_option linter.unusedSimpArgs false
set_option linter.unusedVariables false
set_option maxRecDepth 100000

/-- Whether row k, at ratio r, goes ahead of s at low. -/
def lvTest (t : Tab) (s : Int) (low : Fr) (k : Nat) (r : Fr) : Prop := s < 0 ∨ cmpF r low < 0 ∨ (cmpF r low = 0 ∧ ix t.basis k < ix t.basis s.toNat)
instance (t : Tab) (s : Int) (low : Fr) (k : Nat) (r : Fr) : Decidable (lvTest t s low k r) := inferInstanceAs (Decidable (_ ∨ _ ∨ (_ ∧ _)))
/-- The best of the first k rows; none: too great. -/
def lvK (t : Tab) (j : Nat) : Nat → Option (Int × Fr)
  | 0 => some (-1, F00)
  | k + 1 => match lvK t j k with
    | none => none
    | some (s, low) => if (ix (ix t.rows k) j).N ≤ 0 then some (s, low) else match divO (ix (ix t.rows k) t.w) (ix (ix t.rows k) j) with
      | none => none
      | some r => if lvTest t s low k r then some ((k : Int), r) else some (s, low)
theorem lvK_none {t : Tab} {j k : Nat} (h : lvK t j k = none) : ∀ n, lvK t j (k + n) = none
  | 0 => h
  | n + 1 => by
    show lvK t j ((k + n) + 1) = none
    unfold lvK
    rw [lvK_none h n]
theorem lvK_s {t : Tab} {j : Nat} : ∀ {k : Nat} {s : Int} {low : Fr}, lvK t j k = some (s, low) → s = -1 ∨ (0 ≤ s ∧ s < k)
  | 0, s, low, h => by unfold lvK at h; injection h with h; injection h with h1 h2; exact .inl h1.symm
  | k + 1, s, low, h => by
    unfold lvK at h
    cases h1 : lvK t j k with
    | none => rw [h1] at h; cases h
    | some p =>
      obtain ⟨s', low'⟩ := p
      have ih := lvK_s h1
      rw [h1] at h
      simp only at h
      split at h
      · injection h with h; injection h with h2 h3; omega
      · split at h
        · cases h
        · split at h
          · injection h with h; injection h with h2 h3; omega
          · injection h with h; injection h with h2 h3; omega
theorem lvK_succ {t : Tab} {j k : Nat} {s : Int} {low : Fr} (h : lvK t j k = some (s, low)) : lvK t j (k + 1) = if (ix (ix t.rows k) j).N ≤ 0 then some (s, low) else match divO (ix (ix t.rows k) t.w) (ix (ix t.rows k) j) with
      | none => none
      | some r => if lvTest t s low k r then some ((k : Int), r) else some (s, low) := by
  conv => { lhs; unfold lvK; rw [h] }
/-- The row; -1 for none. Whether it was too great. -/
def leavF (t : Tab) (j : Nat) : Int × Bool := match lvK t j t.m with
  | none => (-1, true)
  | some (s, _) => (s, false)
def aJ : Lay → Tab → Nat → List AV := fun _ _ i => [.int .i64 i]
noncomputable def gLeav := tabG aJ (fun _ t j => j < t.w) (fun t j => .int .i64 (leavF t j).1) (fun t j => orT t (leavF t j).2)
theorem okLeav : TabOK aJ (fun _ t j => j < t.w) (fun t j => orT t (leavF t j).2) where
  inj := fun {L t K x x'} _ _ _ _ e => by
    unfold aJ at e
    simp only [List.cons.injEq, AV.int.injEq, and_true, true_and] at e
    omega
  rows := fun s _ => s.m
theorem leav_call {L : Lay} {K : List Blk} {t : Tab} (hL : Lens L K) (hS : Shape L t) {j : Nat} (hj : j < t.w) (X : List Blk) (hX : ∀ b ∈ X, b.deep = true) : gLeav [.ptr L.p 1 29 0 0, .int .i64 j] (putT L t K ++ X) = some (True, .int .i64 (leavF t j).1, putT L (orT t (leavF t j).2) K ++ X) :=
  tabG_call okLeav (x := j) hL hS hj X hX
theorem rowAt_q {L : Lay} {N k : Nat} (h : k < L.r.length) : rowAt (L.r.map fun l => [AV.own l N]) k = [.own (ix L.r k) N] := by
  rw [rowAt_get (by simpa using h), List.getElem_map, ix_lt h]
noncomputable def CLv : Ctx := mkC Tryz.prog G0 [(151, .pure sDivF), (152, .pure sCmpF)]
@[simp] theorem CLv_P : CLv.P = Tryz.prog := rfl
@[simp] theorem CLv_G : CLv.G = G0 := rfl
@[simp] theorem CLv_1 : CLv.S 151 = .pure sDivF := rfl
@[simp] theorem CLv_2 : CLv.S 152 = .pure sCmpF := rfl
theorem mixCLv : CLv.P.follows .mixedOrders = true := mixed
theorem sigCLv : SigOK CLv := sigOK_cons (entryPure (divP) Tryz.func151 rfl (by decide)) (sigOK_cons (entryPure (cmpP) Tryz.func152 rfl (by decide)) (sigOK_nil _ _))
set_option maxHeartbeats 16000000 in
theorem leavTP : GenOK Tryz.prog G0 131 gLeav := by
  refine gen_of_avcD (C := CLv) sigCLv mixCLv [7, 12, 13] Tryz.func131 rfl rfl rfl (by kernel_rfl) (fun avs H ob r H' hp hob => ?_)
  obtain ⟨L, t, K, j, hL, hS, hj, rfl, rfl, rfl, rfl⟩ := tabG_inv hp
  clear hp hob ob
  refine ⟨(by show 2 ≤ _; decide), ?_⟩
  simp only [aJ]
  have G := getT hL hS
  have gp := G.p
  have gq := G.q
  have gr := G.r
  have gl0 := G.l0
  have gl := G.l
  have sl0 := G.sl0
  have sl := G.sl
  have bs := hS.bas
  have hr := hS.r
  have hw : t.w ≤ 36 := by have := hS.n12; have := hS.m24; unfold Tab.w; omega
  have h24 := hS.m24
  have hl := tC_len (L := L) bs
  have sp := fun X => G.sp X { t with over := true } rfl rfl rfl
  have ts := tC_so (L := L) bs true
  simp [argsρ, put_len, gp, gq, hl, tC_e2, hr]
  refine loop_ruleH (C := CLv) sigCLv mixCLv [7, 12, 13] (fun q : Nat × Int × Fr × List Blk => ⟨[(0, .ptr L.p 1 29 0 0), (1, .int .i64 j), (4, .int .i64 0), (5, .int .i64 q.2.1), (6, .ptr K.length 1 2 0 0), (15, .own L.q t.m), (16, .int .i64 t.m), (17, .int .i64 q.1)], putT L t K ++ (FB q.2.2.1 :: q.2.2.2)⟩) (fun q => q.1 ≤ t.m ∧ lvK t j q.1 = some (q.2.1, q.2.2.1)) (fun q => t.m - q.1) (by kernel_rfl) ⟨(0, -1, F00, []), ⟨by simp, rfl⟩, weak_eq (by simp) (by simp [FB, F00])⟩ (fun ⟨k, s, low, Z⟩ ⟨hk, hv⟩ => ?_)
  simp only at hk hv ⊢
  by_cases hkl : k < t.m
  · have hkl' : (k : Int) < (t.m : Int) := by omega
    have i2 : I64 ((k : Int) + 1) := by unfold I64; omega
    have hkr : k < L.r.length := by omega
    have hrow : (ix t.rows k).length = t.w + 1 := hS.row _ (ix_mem (by rw [hS.m]; exact hkl))
    have grk := fun X => gr X k hkl
    have hjw : j < t.w + 1 := by omega
    have hvS := lvK_succ hv
    by_cases hN : (ix (ix t.rows k) j).N ≤ 0
    · rw [if_pos hN] at hvS
      simp [FB, put_len, gl0, gl, hkl, gq, hr, hkr, rowAt_q, grk, hrow, hjw, rowAt_enc, hN, i2]
      exact ⟨by omega, k + 1, s, low, ⟨by omega, hvS⟩, by omega, Z, weak_eq (by simp) rfl⟩
    rw [if_neg hN] at hvS
    simp [FB, put_len, gl0, gl, hkl, gq, hr, hkr, rowAt_q, grk, hrow, hjw, rowAt_enc, hN]
    refine ⟨by omega, ?_⟩
    have em := div_ofO (ix (ix t.rows k) t.w) (ix (ix t.rows k) j)
    have hww := shape_w hS
    have htw : t.w < t.w + 1 := by omega
    refine AW_regionF sigCLv mixCLv [.pure, .pure, .pure, .pure, .read, .pure, .pure, .pure, .read, .pure, .pure, .read, .pure, .pure, .pure, .read, .read, .pure, .pure, .pure, .eff, .eff, .pure] [[],[],[1],[1,2],[2,1,3],[],[5],[5,6],[6,5,7],[7,5,6,8,3,1,2,4],[4,2,1,3,8,6,5,7,9,0],[0,9,7,5,6,8,3,1,2,4,10],[],[],[13,12],[12,13,14],[14,13,12,15,10,4,2,1,3,8,6,5,7,9,0,11],[11,0,9,7,5,6,8,3,1,2,4,10,15,12,13,14,16],[16,14,13,12,15,10,4,2,1,3,8,6,5,7,9,0,11,17],[16,14,13,12,15,10,4,2,1,3,8,6,5,7,9,0,11,17],[],[17,11,0,9,7,5,6,8,3,1,2,4,10,15,12,13,14,16,18,20],[20,18,21,17,11,0,9,7,5,6,8,3,1,2,4,10,15,12,13,14,16,19]] (by kernel_rfl) (by kernel_rfl) (by kernel_rfl) (by kernel_rfl) ?_
    cases hd : divO (ix (ix t.rows k) t.w) (ix (ix t.rows k) j) with
    | none =>
      rw [hd] at hvS em
      simp [FB, put_len, gl0, gl, sl0, sl, gp, hl, tC_e0, tC_e1, hww, grk, hrow, hjw, htw, rowAt_enc, sDivF, em, ofO, F00, sp, ts]
      have e1 : leavF t j = (-1, true) := by
        unfold leavF
        have := lvK_none hvS (t.m - (k + 1))
        rw [show k + 1 + (t.m - (k + 1)) = t.m by omega] at this
        rw [this]
      rw [e1, orT_true]
      exact ⟨by omega, by omega, rfl, tab_drop hL (by simp [AV.cleanF, AV.clean2, AV.clean1])⟩
    | some r =>
      rw [hd] at hvS em
      simp [FB, put_len, gl0, gl, sl0, sl, gp, hl, tC_e0, tC_e1, hww, grk, hrow, hjw, htw, rowAt_enc, sDivF, sCmpF, em, ofO]
      refine ⟨by omega, by omega, ?_⟩
      simp only at hvS
      obtain ⟨c, hc⟩ : ∃ c, cmpF r low = c := ⟨_, rfl⟩
      have hb24 : k < 24 := by omega
      have hbk := tC_b (L := L) bs hb24
      have hL1 : ∀ {s : Int}, s < 0 → lvTest t s low k r := fun h => .inl h
      have hL2 : ∀ {s : Int}, c < 0 → lvTest t s low k r := fun h => .inr (.inl (by rw [hc]; exact h))
      have hL3 : ∀ {n : Nat}, c = 0 → ix t.basis k < ix t.basis n → lvTest t n low k r := fun h h' => .inr (.inr ⟨by rw [hc]; exact h, by rw [Int.toNat_natCast]; exact h'⟩)
      have hL4 : ∀ {n : Nat}, ¬ c < 0 → (c = 0 → ¬ ix t.basis k < ix t.basis n) → ¬ lvTest t n low k r := fun h h' => by
        unfold lvTest
        rw [hc, Int.toNat_natCast]
        rintro (h1 | h1 | ⟨h1, h2⟩)
        · omega
        · exact h h1
        · exact h' h1 h2
      simp only [hc]
      refine AW_regionF sigCLv mixCLv [.pure, .pure, .pure, .pure, .pure, .pure, .pure, .pure, .pure, .pure, .pure, .pure, .pure, .pure, .pure, .read, .pure, .pure, .pure, .pure, .pure, .read, .pure, .pure, .pure] [[],[0],[0,1],[1,0,2],[2,0,1,3],[3,4,1,0,2],[2,0,1,4,3,5],[5,3,4,1,0,2,6],[6,2,0,1,4,3,5,7],[7,5,3,4,1,0,2,6,8],[8,6,2,0,1,4,3,5,7,9],[8,6,2,0,1,4,3,5,7,9],[9,7,5,3,4,1,0,2,6,8,10],[10,8,6,2,0,1,4,3,5,7,9,12],[11,12,9,7,5,3,4,1,0,2,6,8,10,13],[13,10,8,6,2,0,1,4,3,5,7,9,12,11,14],[8,6,2,0,1,4,3,5,7,9],[8,6,2,0,1,4,3,5,7,9],[9,7,5,3,4,1,0,2,6,8,16],[16,8,6,2,0,1,4,3,5,7,9,18],[17,18,9,7,5,3,4,1,0,2,6,8,16,19],[19,16,8,6,2,0,1,4,3,5,7,9,18,17,20],[20,17,18,16,19,21,14,11,12,9,7,5,3,4,1,0,2,6,8,10,13,15],[15,13,10,12,11,14,21,19,16,18,17,20,22,8,6,2,0,1,4,3,5,7,9],[9,7,8,22,20,17,18,16,19,21,14,11,12,10,13,15,23,5,3,4,1,0,2,6]] (by kernel_rfl) (by kernel_rfl) (by kernel_rfl) (by kernel_rfl) ?_
      rcases lvK_s hv with hs | ⟨hs, hsk⟩
      · subst hs
        rw [if_pos (hL1 (by decide))] at hvS
        simp
        refine AW_regionF sigCLv mixCLv [.pure, .read, .pure, .eff] [[],[],[0],[0,2,1]] (by kernel_rfl) (by kernel_rfl) (by kernel_rfl) (by kernel_rfl) ?_
        simp [FB, put_len, gl0, gl, sl0, sl, i2]
        exact ⟨k + 1, k, r, ⟨by omega, hvS⟩, by omega, Z ++ [FB r], weak_eq (by simp) (by simp [FB])⟩
      · obtain ⟨sn, rfl⟩ : ∃ n : Nat, s = n := ⟨s.toNat, by omega⟩
        have hns : ¬ ((sn : Int) < 0) := by omega
        have hs24 : sn < 24 := by omega
        have hbs := tC_b (L := L) bs hs24
        rcases Int.lt_trichotomy c 0 with h1 | h1 | h1
        · rw [if_pos (hL2 h1)] at hvS
          simp [h1, hns]
          refine AW_regionF sigCLv mixCLv [.pure, .read, .pure, .eff] [[],[],[0],[0,2,1]] (by kernel_rfl) (by kernel_rfl) (by kernel_rfl) (by kernel_rfl) ?_
          simp [FB, put_len, gl0, gl, sl0, sl, i2]
          exact ⟨k + 1, k, r, ⟨by omega, hvS⟩, by omega, Z ++ [FB r], weak_eq (by simp) (by simp [FB])⟩
        · subst h1
          by_cases h2 : ix t.basis k < ix t.basis sn
          · rw [if_pos (hL3 rfl h2)] at hvS
            simp [hns, gp, hl, hbk, hbs, hb24, hs24, h2]
            refine ⟨by omega, by omega, by omega, by omega, ?_⟩
            refine AW_regionF sigCLv mixCLv [.pure, .read, .pure, .eff] [[],[],[0],[0,2,1]] (by kernel_rfl) (by kernel_rfl) (by kernel_rfl) (by kernel_rfl) ?_
            simp [FB, put_len, gl0, gl, sl0, sl, i2]
            exact ⟨k + 1, k, r, ⟨by omega, hvS⟩, by omega, Z ++ [FB r], weak_eq (by simp) (by simp [FB])⟩
          · rw [if_neg (hL4 (by omega) (fun _ => h2))] at hvS
            simp [hns, gp, hl, hbk, hbs, hb24, hs24, h2, i2]
            refine ⟨by omega, by omega, by omega, by omega, ?_⟩
            exact ⟨k + 1, sn, low, ⟨by omega, hvS⟩, by omega, Z ++ [FB r], weak_eq (by simp) (by simp [FB])⟩
        · have h3 : ¬ c < 0 := by omega
          have h4 : ¬ c = 0 := by omega
          rw [if_neg (hL4 (by omega) (fun h => absurd h h4))] at hvS
          simp [hns, h3, h4, i2]
          exact ⟨k + 1, sn, low, ⟨by omega, hvS⟩, by omega, Z ++ [FB r], weak_eq (by simp) (by simp [FB])⟩
  · have hke : k = t.m := by omega
    subst hke
    have e1 : leavF t j = (s, false) := by unfold leavF; rw [hv]
    rw [e1, orT_false]
    simp [put_len]
    exact tab_drop hL (by simp [AV.cleanF, AV.clean2, AV.clean1])
end Go.Proofs.YtfoipbjhaiimlaaGreatDoor


/-
  layer 30: pivot.
-/
namespace Go.Proofs.YtfoipbjhaiimlaaGreatDoor
open Go.RowKit
set_option linter.unusedSimpArgs false
set_option linter.unusedVariables false
set_option maxRecDepth 100000

theorem clear_call {L : Lay} {K : List Blk} {t : Tab} (hL : Lens L K) (hS : Shape L t) {g : Option Nat} {f : Fr} {i : Nat} (hp : PreClr L t ⟨g, f, i⟩) (X : List Blk) (hX : ∀ b ∈ X, b.deep = true) : gClear [.ptr L.p 1 29 0 0, .own (tgtI L g) (t.w + 1), .agg [.int .i64 f.N, .int .i64 f.D], .own (ix L.r i) (t.w + 1)] (putT L t K ++ X) = some (True, .tup [], putT L (clrT t ⟨g, f, i⟩) K ++ X) :=
  tabG_call okClear (x := ⟨g, f, i⟩) hL hS hp X hX
section
variable {t : Tab}
theorem clrK_n (x : ClrX) (k : Nat) : (clrK t x k).n = t.n := by unfold clrK; cases x.tgt <;> rfl
theorem clrK_m (x : ClrX) (k : Nat) : (clrK t x k).m = t.m := by unfold clrK; cases x.tgt <;> rfl
theorem clrK_bas (x : ClrX) (k : Nat) : (clrK t x k).basis = t.basis := by unfold clrK; cases x.tgt <;> rfl
theorem clrK_cost (x : ClrX) (k : Nat) : (clrK t x k).cost.length = t.cost.length := by
  unfold clrK
  cases h : x.tgt with
  | none => exact mixF_len _ _ _
  | some q => rfl
/-- Row i divided by its element j, the first k of it. -/
def pvK (t : Tab) (i j k : Nat) : Tab := orT (setTgt t (some i) (mixF k (fun c => (dvP (ix (ix t.rows i) c) (ix (ix t.rows i) j)).1) (ix t.rows i))) (anyK k fun c => (dvP (ix (ix t.rows i) c) (ix (ix t.rows i) j)).2)
def elim1 (t : Tab) (i j r : Nat) : Tab := if r ≠ i ∧ (ix (ix t.rows r) j).N ≠ 0 then clrT t ⟨some r, ix (ix t.rows r) j, i⟩ else t
def elimK (t : Tab) (i j : Nat) : Nat → Tab
  | 0 => t
  | k + 1 => elim1 (elimK t i j k) i j k
def elimC (t : Tab) (i j : Nat) : Tab := if t.cost ≠ [] ∧ (ix t.cost j).N ≠ 0 then clrT t ⟨none, ix t.cost j, i⟩ else t
def elimT (t : Tab) (i j : Nat) : Tab := elimC (elimK (pvK t i j (t.w + 1)) i j t.m) i j
def pivF (t : Tab) (i j : Nat) : Tab := { elimT t i j with basis := (elimT t i j).basis.set i j }
theorem pvK_m (i j k : Nat) : (pvK t i j k).m = t.m := rfl
theorem elim1_n (i j r : Nat) : (elim1 t i j r).n = t.n := by unfold elim1; split; exact clrK_n _ _; rfl
theorem elim1_m (i j r : Nat) : (elim1 t i j r).m = t.m := by unfold elim1; split; exact clrK_m _ _; rfl
theorem elim1_bas (i j r : Nat) : (elim1 t i j r).basis = t.basis := by unfold elim1; split; exact clrK_bas _ _; rfl
theorem elim1_cost (i j r : Nat) : (elim1 t i j r).cost.length = t.cost.length := by unfold elim1; split; exact clrK_cost _ _; rfl
theorem elimK_n (i j : Nat) : ∀ k, (elimK t i j k).n = t.n
  | 0 => rfl
  | k + 1 => (elim1_n i j k).trans (elimK_n i j k)
theorem elimK_m (i j : Nat) : ∀ k, (elimK t i j k).m = t.m
  | 0 => rfl
  | k + 1 => (elim1_m i j k).trans (elimK_m i j k)
theorem elimK_bas (i j : Nat) : ∀ k, (elimK t i j k).basis = t.basis
  | 0 => rfl
  | k + 1 => (elim1_bas i j k).trans (elimK_bas i j k)
theorem elimK_cost (i j : Nat) : ∀ k, (elimK t i j k).cost.length = t.cost.length
  | 0 => rfl
  | k + 1 => (elim1_cost i j k).trans (elimK_cost i j k)
theorem elimC_n (i j : Nat) : (elimC t i j).n = t.n := by unfold elimC; split; exact clrK_n _ _; rfl
theorem elimC_m (i j : Nat) : (elimC t i j).m = t.m := by unfold elimC; split; exact clrK_m _ _; rfl
theorem elimC_bas (i j : Nat) : (elimC t i j).basis = t.basis := by unfold elimC; split; exact clrK_bas _ _; rfl
theorem elimC_cost (i j : Nat) : (elimC t i j).cost.length = t.cost.length := by unfold elimC; split; exact clrK_cost _ _; rfl
theorem pivF_n (i j : Nat) : (pivF t i j).n = t.n := by show (elimT t i j).n = t.n; unfold elimT; rw [elimC_n, elimK_n]; rfl
theorem pivF_m (i j : Nat) : (pivF t i j).m = t.m := by show (elimT t i j).m = t.m; unfold elimT; rw [elimC_m, elimK_m]; rfl
theorem pivF_w (i j : Nat) : (pivF t i j).w = t.w := by unfold Tab.w; rw [pivF_n, pivF_m]
theorem pivF_bas (i j : Nat) : (pivF t i j).basis = t.basis.set i j := by show (elimT t i j).basis.set i j = _; unfold elimT; rw [elimC_bas, elimK_bas]; rfl
theorem pivF_cost (i j : Nat) : (pivF t i j).cost.length = t.cost.length := by show (elimT t i j).cost.length = _; unfold elimT; rw [elimC_cost, elimK_cost]; rfl
end
section
variable {L : Lay} {t : Tab}
theorem pvK_shape (hS : Shape L t) {i : Nat} (hi : i < t.m) (j k : Nat) : Shape L (pvK t i j k) :=
  shape_or (shape_tgt hS (fun h => by cases h) (by rw [mixF_len]; exact hS.row _ (ix_mem (by rw [hS.m]; exact hi)))) _
theorem elim1_pre {i j r : Nat} (hr : r < t.m) (hi : i < t.m) (h : r ≠ i) (f : Fr) : PreClr L t ⟨some r, f, i⟩ := ⟨hi, fun k hk => by injection hk with hk; subst hk; exact ⟨hr, h⟩, fun h => by cases h⟩
theorem elim1_shape (hS : Shape L t) {i r : Nat} (hi : i < t.m) (hr : r < t.m) (j : Nat) : Shape L (elim1 t i j r) := by
  unfold elim1
  split
  · rename_i h
    exact clrK_shape hS (elim1_pre (j := j) hr hi h.1 _) _
  · exact hS
theorem elimK_shape (hS : Shape L t) {i : Nat} (hi : i < t.m) (j : Nat) : ∀ {k}, k ≤ t.m → Shape L (elimK t i j k)
  | 0, _ => hS
  | k + 1, h => elim1_shape (elimK_shape hS hi j (by omega)) (by rw [elimK_m]; exact hi) (by rw [elimK_m]; omega) j
theorem elimC_pre {i : Nat} (hS : Shape L t) (hi : i < t.m) (h : t.cost ≠ []) (f : Fr) : PreClr L t ⟨none, f, i⟩ := ⟨hi, fun k hk => (by cases hk), fun _ => (hS.cost.resolve_left (fun h' => h h'.2)).2⟩
theorem elimC_shape (hS : Shape L t) {i : Nat} (hi : i < t.m) (j : Nat) : Shape L (elimC t i j) := by
  unfold elimC
  split
  · rename_i h
    exact clrK_shape hS (elimC_pre hS hi h.1 _) _
  · exact hS
theorem elimT_shape (hS : Shape L t) {i : Nat} (hi : i < t.m) (j : Nat) : Shape L (elimT t i j) :=
  elimC_shape (elimK_shape (pvK_shape hS hi j _) hi j (by rw [pvK_m]; exact Nat.le_refl _)) (by rw [elimK_m]; exact hi) j
theorem shape_bas (hS : Shape L t) (i : Nat) {j : Int} (h : 0 ≤ j ∧ j ≤ 1000) : Shape L { t with basis := t.basis.set i j } :=
  ⟨hS.m, hS.r, hS.n1, hS.n12, hS.m24, hS.row, hS.cost, by show (t.basis.set i j).length = 24; rw [List.length_set]; exact hS.bas, fun b hb => (List.mem_or_eq_of_mem_set hb).elim (hS.b64 b) (fun e => by rw [e]; exact h)⟩
theorem shape_w36 (hS : Shape L t) : t.w ≤ 36 := by
  have := hS.n12
  have := hS.m24
  unfold Tab.w
  omega
theorem pivF_shape (hS : Shape L t) {i j : Nat} (hi : i < t.m) (hj : j < t.w) : Shape L (pivF t i j) := shape_bas (elimT_shape hS hi j) i (by have := shape_w36 hS; omega)
end
structure PrePiv (L : Lay) (t : Tab) (x : Nat × Nat) : Prop where
  i : x.1 < t.m
  j : x.2 < t.w
def aIJ : Lay → Tab → Nat × Nat → List AV := fun _ _ x => [.int .i64 x.1, .int .i64 x.2]
noncomputable def gPiv := tabG aIJ PrePiv (fun _ _ => .tup []) (fun t x => pivF t x.1 x.2)
theorem okPiv : TabOK aIJ PrePiv (fun t x => pivF t x.1 x.2) where
  inj := fun {L t K x x'} _ _ _ _ e => by
    obtain ⟨a, b⟩ := x
    obtain ⟨a', b'⟩ := x'
    unfold aIJ at e
    simp only [List.cons.injEq, AV.int.injEq, and_true, true_and] at e
    obtain ⟨e1, e2⟩ := e
    congr 1 <;> omega
  rows := fun {L t x} s h => by rw [(pivF_shape s h.i h.j).m, pivF_m]
theorem piv_call {L : Lay} {K : List Blk} {t : Tab} (hL : Lens L K) (hS : Shape L t) {i j : Nat} (hi : i < t.m) (hj : j < t.w) (X : List Blk) (hX : ∀ b ∈ X, b.deep = true) : gPiv [.ptr L.p 1 29 0 0, .int .i64 i, .int .i64 j] (putT L t K ++ X) = some (True, .tup [], putT L (pivF t i j) K ++ X) :=
  tabG_call okPiv (x := (i, j)) hL hS ⟨hi, hj⟩ X hX
end Go.Proofs.YtfoipbjhaiimlaaGreatDoor


/-
  layer 30: pivot, the program's side.
-/
namespace Go.Proofs.YtfoipbjhaiimlaaGreatDoor
open Go.RowKit
set_option linter.unusedSimpArgs false
set_option linter.unusedVariables false
set_option maxRecDepth 100000

theorem dvP_eq (a p : Fr) : dvP a p = match divO a p with
  | some q => (q, false)
  | none => (F01, true) := rfl
theorem pvK_zero {t : Tab} (i j : Nat) : pvK t i j 0 = t := by
  unfold pvK
  rw [mixF_zero, anyK_zero, orT_false]
  show { t with rows := t.rows.set i (ix t.rows i) } = t
  by_cases hq : i < t.rows.length
  · rw [ix_lt hq, List.set_getElem_self]
  · rw [List.set_eq_of_length_le (by omega)]
theorem pvK_row {L : Lay} {t : Tab} (hS : Shape L t) {i : Nat} (hi : i < t.m) (j k : Nat) : ix (pvK t i j k).rows i = mixF k (fun c => (dvP (ix (ix t.rows i) c) (ix (ix t.rows i) j)).1) (ix t.rows i) := by
  show ix (t.rows.set i _) i = _
  rw [ix_lt (by rw [List.length_set, hS.m]; exact hi), List.getElem_set_self]
theorem pvK_succ {L : Lay} {t : Tab} (hS : Shape L t) {i j k : Nat} (hi : i < t.m) (hk : k < t.w + 1) :
    setTgt (orT (pvK t i j k) (dvP (ix (ix t.rows i) k) (ix (ix t.rows i) j)).2) (some i) ((mixF k (fun c => (dvP (ix (ix t.rows i) c) (ix (ix t.rows i) j)).1) (ix t.rows i)).set k (dvP (ix (ix t.rows i) k) (ix (ix t.rows i) j)).1) = pvK t i j (k + 1) := by
  have hrow : (ix t.rows i).length = t.w + 1 := hS.row _ (ix_mem (by rw [hS.m]; exact hi))
  rw [mixF_set (g := fun c => (dvP (ix (ix t.rows i) c) (ix (ix t.rows i) j)).1) (v := (dvP (ix (ix t.rows i) k) (ix (ix t.rows i) j)).1) rfl (by rw [hrow]; exact hk)]
  unfold pvK
  rw [anyK_succ]
  unfold setTgt orT
  simp [Bool.or_assoc]
section
variable {L : Lay} {t : Tab} {K : List Blk} (G : GetT L t K)
include G
theorem GetT.p0 : (putT L t K)[L.p]? = some ⟨118, 29, [tC L t], true, false⟩ := by have := G.p []; rwa [List.append_nil] at this
theorem GetT.q0 : (putT L t K)[L.q]? = some ⟨28, 1, L.r.map fun l => [.own l (t.w + 1)], true, false⟩ := by have := G.q []; rwa [List.append_nil] at this
theorem GetT.c0 {c : Nat} (hc : L.c = some c) : (putT L t K)[c]? = some ⟨35, 2, encRows t.cost, true, true⟩ := by have := G.c [] c hc; rwa [List.append_nil] at this
theorem GetT.r0 {i : Nat} (hi : i < t.m) : (putT L t K)[ix L.r i]? = some ⟨35, 2, encRows (ix t.rows i), true, true⟩ := by have := G.r [] i hi; rwa [List.append_nil] at this
end
theorem piv_fin {L : Lay} {t V : Tab} {K : List Blk} {i j : Nat} (hL : Lens L K) (hS : Shape L V) (hi : i < 24) (hV : elimT t i j = V) (Z : List Blk) :
    dropT K.length ((putT L V K ++ Z).set L.p ⟨118, 29, [List.take (4 + i) (tC L V) ++ AV.int .i64 j :: List.drop (4 + i + 1) (tC L V)], true, false⟩) (AV.tup []) (putT L (pivF t i j) K) := by
  rw [tC_sb hS.bas hi j, (getT hL hS).sp Z { V with basis := V.basis.set i j } rfl rfl rfl]
  have : pivF t i j = { V with basis := V.basis.set i j } := by rw [← hV]; rfl
  rw [this]
  exact tab_drop hL (by simp [AV.cleanF, AV.clean2, AV.clean1])
noncomputable def CPv : Ctx := mkC Tryz.prog G0 [(151, .pure sDivF), (64, .pure (spec0 (Enc.enc F01))), (101, .gen gClear)]
@[simp] theorem CPv_P : CPv.P = Tryz.prog := rfl
@[simp] theorem CPv_G : CPv.G = G0 := rfl
@[simp] theorem CPv_1 : CPv.S 151 = .pure sDivF := rfl
@[simp] theorem CPv_2 : CPv.S 64 = .pure (spec0 (Enc.enc F01)) := rfl
@[simp] theorem CPv_3 : CPv.S 101 = .gen gClear := rfl
theorem mixCPv : CPv.P.follows .mixedOrders = true := mixed
theorem sigCPv : SigOK CPv := sigOK_cons (entryPure (divP) Tryz.func151 rfl (by decide)) (sigOK_cons (entryPure (zeroP) Tryz.func64 rfl (by decide)) (sigOK_cons (entryGen (clearTP) Tryz.func101 rfl (by decide)) (sigOK_nil _ _)))
set_option maxHeartbeats 16000000 in
theorem pivTP : GenOK Tryz.prog G0 132 gPiv := by
  refine gen_of_avcD (C := CPv) sigCPv mixCPv [8, 15, 18] Tryz.func132 rfl rfl rfl (by kernel_rfl) (fun avs H ob r H' hp hob => ?_)
  obtain ⟨L, t, K, ⟨i, j⟩, hL, hS, ⟨hi, hj⟩, rfl, rfl, rfl, rfl⟩ := tabG_inv hp
  clear hp hob ob
  refine ⟨(by show 3 ≤ _; decide), ?_⟩
  simp only at hi hj
  simp only [aIJ]
  have G := getT hL hS
  have gp := G.p
  have gq := G.q
  have gri := fun X => G.r X i hi
  have hl := tC_len (L := L) hS.bas
  have hr := hS.r
  have hw := shape_w36 hS
  have hir : i < L.r.length := by omega
  have hjw : j < t.w + 1 := by omega
  have h24 := hS.m24
  have hrow : (ix t.rows i).length = t.w + 1 := hS.row _ (ix_mem (by rw [hS.m]; exact hi))
  have gp0 := G.p0
  have gq0 := G.q0
  have gri0 := G.r0 hi
  simp [argsρ, put_len, gp, gq, gp0, gq0, gri0, hl, tC_e2, hr, hi, hir, rowAt_q, gri, hrow, hjw, rowAt_enc]
  refine ⟨by omega, ?_⟩
  have hS1 := fun k => pvK_shape hS hi j k
  refine loop_ruleH (C := CPv) sigCPv mixCPv [8, 15, 18] (fun q : Nat × List Blk => ⟨[(0, .ptr L.p 1 29 0 0), (1, .int .i64 i), (2, .int .i64 j), (6, .ptr K.length 1 2 0 0), (30, .own (ix L.r i) (t.w + 1)), (31, .int .i64 ((t.w : Int) + 1)), (32, .int .i64 q.1)], putT L (pvK t i j q.1) K ++ (FB (ix (ix t.rows i) j) :: q.2)⟩) (fun q => q.1 ≤ t.w + 1 ∧ ∀ b ∈ q.2, b.deep = true) (fun q => t.w + 1 - q.1) (by kernel_rfl) ⟨(0, []), ⟨by simp, by simp⟩, weak_eq (by simp) (by rw [pvK_zero]; rfl)⟩ (fun ⟨k, Z⟩ ⟨hk, hZ⟩ => ?_)
  simp only at hk hZ ⊢
  by_cases hkl : k < t.w + 1
  · have hkl' : (k : Int) < (t.w : Int) + 1 := by omega
    have i2 : I64 ((k : Int) + 1) := by unfold I64; omega
    have hstep := pvK_succ hS (j := j) hi hkl
    obtain ⟨g, hg⟩ : ∃ g, (fun c => (dvP (ix (ix t.rows i) c) (ix (ix t.rows i) j)).1) = g := ⟨_, rfl⟩
    have hR := pvK_row hS hi j k
    rw [hg] at hR hstep
    have hmx := mixF_ix (k := k) (g := g) (show k < (ix t.rows i).length by omega)
    rw [if_neg (Nat.lt_irrefl k)] at hmx
    have hml := mixF_len k g (ix t.rows i)
    have hm1 : (pvK t i j k).m = t.m := rfl
    have hw1 : (pvK t i j k).w = t.w := rfl
    obtain ⟨T, hT⟩ : ∃ T, pvK t i j k = T := ⟨_, rfl⟩
    have hST := hS1 k
    rw [hT] at hR hm1 hw1 hST hstep
    rw [hT]
    have G1 := getT hL hST
    have p1 := G1.p
    have q1 : ∀ X, (putT L T K ++ X)[L.q]? = some ⟨28, 1, L.r.map fun l => [.own l (t.w + 1)], true, false⟩ := fun X => by rw [G1.q X, hw1]
    have r1 : ∀ X, (putT L T K ++ X)[ix L.r i]? = some ⟨35, 2, encRows (mixF k g (ix t.rows i)), true, true⟩ := fun X => by rw [G1.r X i (by omega), hR]
    have l1 := G1.l0
    have m1 := G1.l
    have sl1 := G1.sl0
    have sm1 := G1.sl
    have n1 := tC_len (L := L) hST.bas
    have sr1 := G1.sr
    have hj0 : ix (ix t.rows i) j = ix (ix t.rows i) j := rfl
    have em := div_ofO (ix (ix t.rows i) k) (ix (ix t.rows i) j)
    cases hd : divO (ix (ix t.rows i) k) (ix (ix t.rows i) j) with
    | none =>
      have e1 : dvP (ix (ix t.rows i) k) (ix (ix t.rows i) j) = (F01, true) := by rw [dvP_eq, hd]
      rw [hd] at em
      rw [e1] at hstep
      simp only at hstep
      have hSo := shape_or hST true
      have G2 := getT hL hSo
      have p2 := G2.p
      have q2 : ∀ X, (putT L (orT T true) K ++ X)[L.q]? = some ⟨28, 1, L.r.map fun l => [.own l (t.w + 1)], true, false⟩ := fun X => by rw [G2.q X, ← hw1]; rfl
      have r2 : ∀ X, (putT L (orT T true) K ++ X)[ix L.r i]? = some ⟨35, 2, encRows (mixF k g (ix t.rows i)), true, true⟩ := fun X => by rw [G2.r X i (show i < T.m by omega), ← hR]; rfl
      have l2 := G2.l0
      have m2 := G2.l
      have sl2 := G2.sl0
      have sm2 := G2.sl
      have n2 := tC_len (L := L) hSo.bas
      have sp : ∀ X, (putT L T K ++ X).set L.p ⟨118, 29, [tC L (orT T true)], true, false⟩ = putT L (orT T true) K ++ X := fun X => G1.sp X (orT T true) rfl rfl rfl
      have ts : List.take 28 (tC L T) ++ AV.bool true :: List.drop 29 (tC L T) = tC L (orT T true) := by rw [tC_so hST.bas true, orT_true]
      have hstep2 := fun X => (G2.sr X i ((mixF k g (ix t.rows i)).set k F01) (show i < T.m by omega)).trans (congrArg (fun u => putT L u K ++ X) hstep)
      simp [FB, put_len, hkl', hkl, r1, hml, hrow, hmx, rowAt_enc, p1, l1, m1, sl1, sm1, n1, sDivF, em, ofO, F00, sp, ts, l2, m2, sl2, sm2]
      refine AW_regionF sigCPv mixCPv [.pure, .pure, .pure, .read, .pure, .pure, .read, .pure, .read, .pure, .eff] [[],[0],[0,1],[1,0,2],[],[4,2,0,1,3],[3,1,0,2,4,5],[],[],[8,7,5,4,2,0,1,3,6],[6,3,1,0,2,4,5,7,8,9]] (by kernel_rfl) (by kernel_rfl) (by kernel_rfl) (by kernel_rfl) ?_
      have hr' : L.r.length = T.m := by omega
      simp [FB, put_len, p2, q2, r2, l2, m2, sl2, sm2, n2, tC_e2, show (orT T true).m = t.m from hm1, hr, hi, hir, hkl, rowAt_q, hml, hrow, hmx, rowAt_enc, i2]
      exact ⟨by omega, k + 1, Z ++ [FB (ix (ix t.rows i) k), FB F01], ⟨by omega, (by
        intro b hb
        rcases List.mem_append.1 hb with hb | hb
        · exact hZ b hb
        · simp at hb
          rcases hb with rfl | rfl <;> rfl)⟩, by omega, weak_eq (by simp) ((hstep2 _).trans (by simp [FB]))⟩
    | some d =>
      have e1 : dvP (ix (ix t.rows i) k) (ix (ix t.rows i) j) = (d, false) := by rw [dvP_eq, hd]
      rw [hd] at em
      rw [e1, orT_false] at hstep
      simp only at hstep
      have hstep2 := fun X => (G1.sr X i ((mixF k g (ix t.rows i)).set k d) (show i < T.m by omega)).trans (congrArg (fun u => putT L u K ++ X) hstep)
      simp [FB, put_len, hkl', hkl, r1, hml, hrow, hmx, rowAt_enc, p1, l1, m1, sl1, sm1, n1, sDivF, em, ofO]
      refine AW_regionF sigCPv mixCPv [.pure, .pure, .pure, .read, .pure, .pure, .read, .pure, .read, .pure, .eff] [[],[0],[0,1],[1,0,2],[],[4,2,0,1,3],[3,1,0,2,4,5],[],[],[8,7,5,4,2,0,1,3,6],[6,3,1,0,2,4,5,7,8,9]] (by kernel_rfl) (by kernel_rfl) (by kernel_rfl) (by kernel_rfl) ?_
      simp [FB, put_len, p1, q1, r1, l1, m1, sl1, sm1, n1, tC_e2, hm1, hr, hi, hir, hkl, rowAt_q, hml, hrow, hmx, rowAt_enc, i2]
      exact ⟨by omega, k + 1, Z ++ [FB (ix (ix t.rows i) k), FB d], ⟨by omega, (by
        intro b hb
        rcases List.mem_append.1 hb with hb | hb
        · exact hZ b hb
        · simp at hb
          rcases hb with rfl | rfl <;> rfl)⟩, by omega, weak_eq (by simp) ((hstep2 _).trans (by simp [FB]))⟩
  · have hke : k = t.w + 1 := by omega
    subst hke
    have hST := hS1 (t.w + 1)
    have hm1 : (pvK t i j (t.w + 1)).m = t.m := rfl
    have hw1 : (pvK t i j (t.w + 1)).w = t.w := rfl
    have hcl : (pvK t i j (t.w + 1)).cost = t.cost := rfl
    obtain ⟨T, hT⟩ : ∃ T, pvK t i j (t.w + 1) = T := ⟨_, rfl⟩
    rw [hT] at hm1 hw1 hST hcl
    rw [hT]
    have G1 := getT hL hST
    have p1 := G1.p
    have q1 : ∀ X, (putT L T K ++ X)[L.q]? = some ⟨28, 1, L.r.map fun l => [.own l (t.w + 1)], true, false⟩ := fun X => by rw [G1.q X, hw1]
    have n1 := tC_len (L := L) hST.bas
    simp [put_len, p1, n1, tC_e2, hr]
    refine loop_ruleH (C := CPv) sigCPv mixCPv [8, 15, 18] (fun q : Nat × List Blk => ⟨[(0, .ptr L.p 1 29 0 0), (1, .int .i64 i), (2, .int .i64 j), (63, .own L.q t.m), (64, .int .i64 t.m), (65, .int .i64 q.1)], putT L (elimK T i j q.1) K ++ q.2⟩) (fun q => q.1 ≤ t.m ∧ ∀ b ∈ q.2, b.deep = true) (fun q => t.m - q.1) (by kernel_rfl) ⟨(0, FB (ix (ix t.rows i) j) :: Z), ⟨by simp, by simpa [FB] using hZ⟩, weak_eq (by simp) rfl⟩ (fun ⟨k, Z⟩ ⟨hk, hZ⟩ => ?_)
    simp only at hk hZ ⊢
    have hSU := elimK_shape hST (show i < T.m by omega) j (show k ≤ T.m by omega)
    have hmU := (elimK_m (t := T) i j k).trans hm1
    have hwU : (elimK T i j k).w = t.w := by rw [← hw1]; unfold Tab.w; rw [elimK_n, elimK_m]
    by_cases hkl : k < t.m
    · have hkl' : (k : Int) < (t.m : Int) := by omega
      have i2 : I64 ((k : Int) + 1) := by unfold I64; omega
      have hU : elimK T i j (k + 1) = elim1 (elimK T i j k) i j k := rfl
      obtain ⟨U, hUU⟩ : ∃ U, elimK T i j k = U := ⟨_, rfl⟩
      rw [hUU] at hSU hmU hwU hU
      rw [hUU]
      have G2 := getT hL hSU
      have p2 := G2.p
      have q2 : ∀ X, (putT L U K ++ X)[L.q]? = some ⟨28, 1, L.r.map fun l => [.own l (t.w + 1)], true, false⟩ := fun X => by rw [G2.q X, hwU]
      have r2 := fun X => G2.r X k (by omega)
      have l2 := G2.l0
      have m2 := G2.l
      have sl2 := G2.sl0
      have sm2 := G2.sl
      have n2 := tC_len (L := L) hSU.bas
      have hkr : k < L.r.length := by omega
      have hrk : (ix U.rows k).length = t.w + 1 := by rw [← hwU]; exact hSU.row _ (ix_mem (by rw [hSU.m]; omega))
      by_cases hki : k = i
      · have hU : elimK T i j (k + 1) = U := by rw [hU]; exact if_neg (fun h => h.1 hki)
        subst hki
        simp [FB, put_len, hkl', hkl, q2, r2, hr, hkr, rowAt_q, hrk, hjw, rowAt_enc, l2, m2, sl2, sm2, i2]
        exact ⟨by omega, k + 1, Z ++ [FB (ix (ix U.rows k) j)], ⟨by omega, (by
          intro b hb
          rcases List.mem_append.1 hb with hb | hb
          · exact hZ b hb
          · rw [List.mem_singleton] at hb
            rw [hb]
            rfl)⟩, by omega, weak_eq (by simp) (by rw [hU]; simp [FB])⟩
      have hki' : ¬ (k : Int) = i := by omega
      by_cases hN : (ix (ix U.rows k) j).N = 0
      · have hU : elimK T i j (k + 1) = U := by rw [hU]; exact if_neg (fun h => h.2 hN)
        simp [FB, put_len, hkl', hkl, q2, r2, hr, hkr, rowAt_q, hrk, hjw, rowAt_enc, l2, m2, sl2, sm2, hki', hN, i2]
        exact ⟨by omega, k + 1, Z ++ [FB (ix (ix U.rows k) j)], ⟨by omega, (by
          intro b hb
          rcases List.mem_append.1 hb with hb | hb
          · exact hZ b hb
          · rw [List.mem_singleton] at hb
            rw [hb]
            rfl)⟩, by omega, weak_eq (by simp) (by rw [hU]; simp [FB, hN])⟩
      have hU : elimK T i j (k + 1) = clrT U ⟨some k, ix (ix U.rows k) j, i⟩ := by rw [hU]; exact if_pos ⟨hki, hN⟩
      simp [FB, put_len, hkl', hkl, q2, r2, hr, hkr, rowAt_q, hrk, hjw, rowAt_enc, l2, m2, sl2, sm2, hki', hN]
      refine ⟨by omega, ?_⟩
      have hcall := clear_call (g := some k) (f := ix (ix U.rows k) j) (i := i) hL hSU (elim1_pre (j := j) (by omega) (by omega) hki _) (Z ++ [FB (ix (ix U.rows k) j)]) (by
          intro b hb
          rcases List.mem_append.1 hb with hb | hb
          · exact hZ b hb
          · rw [List.mem_singleton] at hb
            rw [hb]
            rfl)
      simp only [tgtI, hwU, ← hU, FB] at hcall
      have ri2 := fun X => G2.r X i (by omega)
      refine AW_regionF sigCPv mixCPv [.pure, .pure, .read, .pure, .pure, .pure, .read, .pure, .pure, .read, .eff] [[],[],[],[],[3],[3,4],[4,3,5],[],[7,5,3,4,6],[6,4,3,5,7,8],[8,7,5,3,4,6,9,2,1,0]] (by kernel_rfl) (by kernel_rfl) (by kernel_rfl) (by kernel_rfl) ?_
      simp [FB, put_len, p2, n2, tC_e2, q2, hmU, hr, hi, hir, rowAt_q, l2, m2, hcall, i2]
      exact ⟨k + 1, Z ++ [FB (ix (ix U.rows k) j)], ⟨by omega, (by
          intro b hb
          rcases List.mem_append.1 hb with hb | hb
          · exact hZ b hb
          · rw [List.mem_singleton] at hb
            rw [hb]
            rfl)⟩, by omega, weak_eq (by simp) (by simp [FB])⟩
    · have hke : k = t.m := by omega
      subst hke
      have hUT : elimT t i j = elimC (elimK T i j t.m) i j := by unfold elimT; rw [hT]
      have hcU := (elimK_cost (t := T) i j t.m).trans (congrArg List.length hcl)
      obtain ⟨U, hUU⟩ : ∃ U, elimK T i j t.m = U := ⟨_, rfl⟩
      rw [hUU] at hSU hmU hwU hUT hcU
      rw [hUU]
      have G2 := getT hL hSU
      have p2 := G2.p
      have q2 : ∀ X, (putT L U K ++ X)[L.q]? = some ⟨28, 1, L.r.map fun l => [.own l (t.w + 1)], true, false⟩ := fun X => by rw [G2.q X, hwU]
      have l2 := G2.l0
      have m2 := G2.l
      have c2 := G2.c
      have n2 := tC_len (L := L) hSU.bas
      have h24i : i < 24 := by omega
      by_cases hc0 : U.cost = []
      · have hV : elimT t i j = U := by rw [hUT]; exact if_neg (fun h => h.1 hc0)
        have hcn : L.c = none := hSU.cost.elim (fun h => h.1) (fun h => by rw [hc0] at h; have := h.2; simp at this)
        simp [put_len, p2, n2, tC_e3, hcn, cC]
        exact ⟨by omega, by omega, piv_fin hL hSU h24i hV Z⟩
      obtain ⟨⟨cc, hcc⟩, hcl2⟩ := hSU.cost.resolve_left (fun h => hc0 h.2)
      have c2 := fun X => c2 X cc hcc
      rw [hwU] at hcl2
      by_cases hN : (ix U.cost j).N = 0
      · have hV : elimT t i j = U := by rw [hUT]; exact if_neg (fun h => h.2 hN)
        simp [put_len, p2, n2, tC_e3, hcc, cC, hcl2, c2, hjw, rowAt_enc, hN]
        exact ⟨by omega, by omega, by omega, piv_fin hL hSU h24i hV Z⟩
      have hV : elimT t i j = clrT U ⟨none, ix U.cost j, i⟩ := by rw [hUT]; exact if_pos ⟨hc0, hN⟩
      have hcall := clear_call (g := none) (f := ix U.cost j) (i := i) hL hSU (elimC_pre hSU (by omega) hc0 _) Z hZ
      simp only [tgtI, hwU, ← hV, hcc, Option.getD_some] at hcall
      simp [put_len, p2, n2, tC_e3, hcc, cC, hcl2, c2, hjw, rowAt_enc, hN]
      refine ⟨by omega, ?_⟩
      refine AW_regionF sigCPv mixCPv [.pure, .pure, .pure, .pure, .read, .pure, .pure, .pure, .read, .pure, .pure, .read, .pure, .pure, .pure, .read, .pure, .pure, .read, .eff] [[],[],[1],[1,2],[2,1,3],[],[5],[5,6],[6,5,7],[],[9,7,5,6,8],[8,6,5,7,9,10],[],[12],[12,13],[13,12,14],[],[16,14,12,13,15],[15,13,12,14,16,17],[17,16,14,12,13,15,18,10,9,7,5,6,8,11,3,1,2,4,0]] (by kernel_rfl) (by kernel_rfl) (by kernel_rfl) (by kernel_rfl) ?_
      have hSV := elimT_shape hS hi j
      obtain ⟨V, hVV⟩ : ∃ V, elimT t i j = V := ⟨_, rfl⟩
      rw [hVV] at hSV hcall
      have p3 := (getT hL hSV).p
      have n3 := tC_len (L := L) hSV.bas
      simp [put_len, p2, n2, tC_e2, tC_e3, hcc, cC, hcl2, c2, q2, hmU, hr, hi, hir, rowAt_q, hjw, rowAt_enc, hcall, p3, n3]
      exact ⟨by omega, by omega, by omega, piv_fin hL hSV h24i hVV Z⟩
end Go.Proofs.YtfoipbjhaiimlaaGreatDoor


/-
  layer 30: phase — pivots until nothing enters.
-/
namespace Go.Proofs.YtfoipbjhaiimlaaGreatDoor
open Go.RowKit
set_option linter.unusedSimpArgs false
set_option linter.unusedVariables false
set_option maxRecDepth 100000

theorem tC_e28 {L : Lay} {t : Tab} (s : t.basis.length = 24) (h : 28 < (tC L t).length) : (tC L t)[28]'h = .bool t.over := by
  have := tC_28 (L := L) s
  rw [List.getElem?_eq_getElem h] at this
  injection this
/-- The first of the first k columns whose cost is below zero. -/
def entK (t : Tab) : Nat → Option Nat
  | 0 => none
  | k + 1 => match entK t k with
    | some j => some j
    | none => if (ix t.cost k).N < 0 then some k else none
def enterF (t : Tab) : Option Nat := entK t t.w
theorem entK_mono {t : Tab} {k j : Nat} (h : entK t k = some j) : ∀ n, entK t (k + n) = some j
  | 0 => h
  | n + 1 => by
    show entK t ((k + n) + 1) = some j
    unfold entK
    rw [entK_mono h n]
theorem entK_succ {t : Tab} {k : Nat} (h : entK t k = none) : entK t (k + 1) = if (ix t.cost k).N < 0 then some k else none := by
  conv => { lhs; unfold entK; rw [h] }
def stepF (t : Tab) : (Bool × Tab) ⊕ Tab :=
  if t.over then .inl (true, t) else match enterF t with
  | none => .inl (true, t)
  | some j => if (leavF t j).2 then .inl (true, orT t true) else if (leavF t j).1 < 0 then .inl (false, t) else .inr (pivF t (leavF t j).1.toNat j)
def runF : Nat → Tab → Option (Bool × Tab)
  | 0, _ => none
  | n + 1, t => match stepF t with
    | .inl r => some r
    | .inr t' => runF n t'
theorem runF_more : ∀ {n : Nat} {t : Tab} {r : Bool × Tab} (k : Nat), runF n t = some r → runF (n + k) t = some r
  | 0, _, _, _, h => by cases h
  | n + 1, t, r, k, h => by
    rw [show n + 1 + k = (n + k) + 1 by omega]
    unfold runF at h ⊢
    cases hs : stepF t with
    | inl q => rw [hs] at h; exact h
    | inr t' => rw [hs] at h; exact runF_more k h
def Halts (t : Tab) : Prop := ∃ r, ∃ n, runF n t = some r
open Classical in
noncomputable def phaseF (t : Tab) : Bool × Tab := if h : Halts t then h.choose else (false, t)
theorem phaseF_eq {t : Tab} {n : Nat} {r : Bool × Tab} (h : runF n t = some r) : phaseF t = r := by
  have hx : Halts t := ⟨r, n, h⟩
  unfold phaseF
  rw [dif_pos hx]
  obtain ⟨k, hk⟩ := hx.choose_spec
  have h1 := runF_more k h
  have h2 := runF_more n hk
  rw [show k + n = n + k by omega, h1] at h2
  injection h2 with h2
  exact h2.symm
theorem leavF_in (t : Tab) (j : Nat) (h : ¬ (leavF t j).1 < 0) : ∃ i : Nat, i < t.m ∧ (leavF t j).1 = i := by
  unfold leavF at h ⊢
  cases h1 : lvK t j t.m with
  | none => rw [h1] at h; simp at h
  | some p =>
    obtain ⟨s, low⟩ := p
    rw [h1] at h
    simp only at h ⊢
    have := lvK_s h1
    exact ⟨s.toNat, by omega, by omega⟩
theorem entK_lt {t : Tab} : ∀ {k j : Nat}, entK t k = some j → j < k
  | 0, _, h => by cases h
  | k + 1, j, h => by
    cases h1 : entK t k with
    | some i =>
      have := entK_lt h1
      unfold entK at h
      rw [h1] at h
      injection h with h
      omega
    | none =>
      rw [entK_succ h1] at h
      split at h
      · injection h with h; omega
      · cases h
/-- What a phase leaves as it was. -/
structure Kin (t u : Tab) : Prop where
  n : u.n = t.n
  m : u.m = t.m
  cost : u.cost.length = t.cost.length
theorem Kin.w {t u : Tab} (h : Kin t u) : u.w = t.w := by unfold Tab.w; rw [h.n, h.m]
theorem Kin.refl (t : Tab) : Kin t t := ⟨rfl, rfl, rfl⟩
theorem Kin.trans {t u v : Tab} (h : Kin t u) (h' : Kin u v) : Kin t v := ⟨h'.n.trans h.n, h'.m.trans h.m, h'.cost.trans h.cost⟩
theorem kin_piv (t : Tab) (i j : Nat) : Kin t (pivF t i j) := ⟨pivF_n i j, pivF_m i j, pivF_cost i j⟩
theorem kin_or (t : Tab) (b : Bool) : Kin t (orT t b) := ⟨rfl, rfl, rfl⟩
theorem stepF_shape {L : Lay} {t : Tab} (hS : Shape L t) : match stepF t with
    | .inl r => Shape L r.2 ∧ Kin t r.2
    | .inr u => Shape L u ∧ Kin t u := by
  unfold stepF
  split
  · rename_i q h
    split at h
    · injection h with h; subst h; exact ⟨hS, Kin.refl t⟩
    · split at h
      · injection h with h; subst h; exact ⟨hS, Kin.refl t⟩
      · split at h
        · injection h with h; subst h; exact ⟨shape_or hS true, kin_or t true⟩
        · split at h
          · injection h with h; subst h; exact ⟨hS, Kin.refl t⟩
          · cases h
  · rename_i u h
    split at h
    · cases h
    · split at h
      · cases h
      · rename_i j hj
        split at h
        · cases h
        · split at h
          · cases h
          · rename_i hn
            injection h with h
            obtain ⟨i, hi, hii⟩ := leavF_in t j hn
            subst h
            rw [hii]
            exact ⟨pivF_shape hS (by simpa using hi) (entK_lt hj), kin_piv t _ j⟩
theorem runF_shape {L : Lay} : ∀ {n : Nat} {t : Tab} {r : Bool × Tab}, Shape L t → runF n t = some r → Shape L r.2 ∧ Kin t r.2
  | 0, _, _, _, h => by cases h
  | n + 1, t, r, hS, h => by
    have hs := stepF_shape hS
    unfold runF at h
    cases h1 : stepF t with
    | inl q =>
      rw [h1] at h hs
      injection h with h
      subst h
      exact hs
    | inr u =>
      rw [h1] at h hs
      have := runF_shape hs.1 h
      exact ⟨this.1, hs.2.trans this.2⟩
theorem phaseF_shape {L : Lay} {t : Tab} (hS : Shape L t) (h : Halts t) : Shape L (phaseF t).2 ∧ Kin t (phaseF t).2 := by
  obtain ⟨r, n, hn⟩ := h
  rw [phaseF_eq hn]
  exact runF_shape hS hn
structure PrePh (L : Lay) (t : Tab) (_ : Unit) : Prop where
  c : t.cost.length = t.w + 1
  h : Halts t
noncomputable def gPhase := tabG (fun _ _ (_ : Unit) => []) PrePh (fun t _ => .bool (phaseF t).1) (fun t _ => (phaseF t).2)
theorem okPhase : TabOK (fun _ _ (_ : Unit) => []) PrePh (fun t _ => (phaseF t).2) where
  inj := fun _ _ _ _ _ => rfl
  rows := fun {L t x} s h => by
    obtain ⟨h1, h2⟩ := phaseF_shape s h.h
    rw [h1.m, h2.m]
theorem phase_call {L : Lay} {K : List Blk} {t : Tab} (hL : Lens L K) (hS : Shape L t) (hc : t.cost.length = t.w + 1) (hh : Halts t) (X : List Blk) (hX : ∀ b ∈ X, b.deep = true) : gPhase [.ptr L.p 1 29 0 0] (putT L t K ++ X) = some (True, .bool (phaseF t).1, putT L (phaseF t).2 K ++ X) :=
  tabG_call okPhase (x := ()) hL hS ⟨hc, hh⟩ X hX
noncomputable def CPh : Ctx := mkC Tryz.prog G0 [(131, .gen gLeav), (132, .gen gPiv)]
@[simp] theorem CPh_P : CPh.P = Tryz.prog := rfl
@[simp] theorem CPh_G : CPh.G = G0 := rfl
@[simp] theorem CPh_1 : CPh.S 131 = .gen gLeav := rfl
@[simp] theorem CPh_2 : CPh.S 132 = .gen gPiv := rfl
theorem mixCPh : CPh.P.follows .mixedOrders = true := mixed
theorem sigCPh : SigOK CPh := sigOK_cons (entryGen (leavTP) Tryz.func131 rfl (by decide)) (sigOK_cons (entryGen (pivTP) Tryz.func132 rfl (by decide)) (sigOK_nil _ _))
set_option maxHeartbeats 16000000 in
theorem phaseTP : GenOK Tryz.prog G0 102 gPhase := by
  refine gen_of_avcD (C := CPh) sigCPh mixCPh [2] Tryz.func102 rfl rfl rfl (by kernel_rfl) (fun avs H ob r H' hp hob => ?_)
  obtain ⟨L, t, K, x, hL, hS, ⟨hct, hh⟩, rfl, rfl, rfl, rfl⟩ := tabG_inv hp
  clear hp hob ob
  refine ⟨(by show 1 ≤ _; decide), ?_⟩
  obtain ⟨R, n, hn⟩ := hh
  rw [phaseF_eq hn]
  simp [argsρ, put_len]
  refine loop_ruleH (C := CPh) sigCPh mixCPh [2] (fun q : Nat × Tab => ⟨[(0, .ptr L.p 1 29 0 0), (2, .bool false)], putT L q.2 K⟩) (fun q => runF q.1 q.2 = some R ∧ Shape L q.2 ∧ Kin t q.2) (fun q => q.1) (by kernel_rfl) ⟨(n, t), ⟨hn, hS, Kin.refl t⟩, weak_eq (by simp) rfl⟩ (fun ⟨n, U⟩ ⟨hn, hSU, hK⟩ => ?_)
  simp only at hn hSU hK ⊢
  have G1 := getT hL hSU
  have p1 := G1.p0
  have n1 := tC_len (L := L) hSU.bas
  have hw := shape_w36 hSU
  have hcU : U.cost.length = U.w + 1 := by rw [hK.cost, hct, hK.w]
  cases n with
  | zero => cases hn
  | succ n =>
    unfold runF at hn
    by_cases ho : U.over = true
    · have hs : stepF U = .inl (true, U) := if_pos ho
      rw [hs] at hn
      injection hn with hn
      subst hn
      simp [put_len, p1, n1, tC_e28 hSU.bas, ho]
      exact tab_drop0 hL (by simp [AV.cleanF, AV.clean2, AV.clean1])
    have ho' : U.over = false := by simpa using ho
    have hs : stepF U = match enterF U with
      | none => .inl (true, U)
      | some j => if (leavF U j).2 then .inl (true, orT U true) else if (leavF U j).1 < 0 then .inl (false, U) else .inr (pivF U (leavF U j).1.toNat j) := if_neg ho
    rw [hs] at hn
    simp [put_len, p1, n1, tC_e28 hSU.bas, ho']
    refine AW_regionF sigCPh mixCPh [.pure, .pure, .pure, .read, .pure, .pure, .pure, .read, .pure, .pure] [[],[0],[0,1],[1,0,2],[],[4],[4,5],[5,4,6],[6,4,5,7,2,0,1,3],[]] (by kernel_rfl) (by kernel_rfl) (by kernel_rfl) (by kernel_rfl) ?_
    simp [put_len, p1, n1, tC_e0, tC_e1, shape_w hSU]
    refine loop_ruleH (C := CPh) sigCPh mixCPh [2] (fun j : Nat => ⟨[(0, .ptr L.p 1 29 0 0), (2, .bool false), (18, .int .i64 U.w), (19, .int .i64 j)], putT L U K⟩) (fun j => j ≤ U.w ∧ entK U j = none) (fun j => U.w - j) (by kernel_rfl) ⟨0, ⟨by simp, rfl⟩, weak_eq (by simp) rfl⟩ (fun j ⟨hj, he⟩ => ?_)
    by_cases hjl : j < U.w
    · have hjl' : (j : Int) < U.w := by omega
      have i2 : I64 ((j : Int) + 1) := by unfold I64; omega
      obtain ⟨cc, hcc⟩ := cost_some hSU hcU
      have c1 := G1.c0 hcc
      have hjc : j < U.w + 1 := by omega
      have he2 := entK_succ he
      by_cases hN : (ix U.cost j).N < 0
      · rw [if_pos hN] at he2
        have hent : enterF U = some j := by
          have := entK_mono he2 (U.w - (j + 1))
          rwa [show j + 1 + (U.w - (j + 1)) = U.w by omega] at this
        rw [hent] at hn
        simp only at hn
        have hNp : ¬ 0 ≤ (ix U.cost j).N := by omega
        have hcall := leav_call hL hSU hjl [] (by simp)
        simp only [List.append_nil] at hcall
        obtain ⟨sv, ov, hv⟩ : ∃ sv ov, leavF U j = (sv, ov) := ⟨_, _, rfl⟩
        have hin := leavF_in U j
        rw [hv] at hn hcall hin
        cases ov with
        | true =>
          rw [if_pos rfl] at hn
          injection hn with hn
          subst hn
          have hSo := shape_or hSU true
          have p2 := (getT hL hSo).p0
          have n2 := tC_len (L := L) hSo.bas
          have e2 := tC_e28 (L := L) hSo.bas
          rw [show (orT U true).over = true by rw [orT_true]] at e2
          simp [put_len, p1, n1, tC_e3, hcc, cC, c1, hcU, hjl, hjc, rowAt_enc, hNp, hcall, p2, n2, e2]
          exact ⟨by omega, tab_drop0 hL (by simp [AV.cleanF, AV.clean2, AV.clean1])⟩
        | false =>
          rw [if_neg (by simp)] at hn
          simp only [orT_false] at hcall
          by_cases hsn : sv < 0
          · rw [if_pos hsn] at hn
            injection hn with hn
            subst hn
            simp [put_len, p1, n1, tC_e3, hcc, cC, c1, hcU, hjl, hjc, rowAt_enc, hNp, hcall, tC_e28 hSU.bas, ho', hsn]
            exact ⟨by omega, tab_drop0 hL (by simp [AV.cleanF, AV.clean2, AV.clean1])⟩
          · rw [if_neg hsn] at hn
            obtain ⟨i, hi, hii⟩ := hin hsn
            simp only at hii
            subst hii
            simp only [Int.toNat_natCast] at hn
            have hpc := piv_call hL hSU hi hjl [] (by simp)
            simp only [List.append_nil] at hpc
            simp [put_len, p1, n1, tC_e3, hcc, cC, c1, hcU, hjl, hjc, rowAt_enc, hNp, hcall, tC_e28 hSU.bas, ho', hsn, hpc]
            exact ⟨by omega, n, pivF U i j, ⟨hn, pivF_shape hSU hi hjl, hK.trans (kin_piv U i j)⟩, by omega, weak_eq (by simp) rfl⟩
      · rw [if_neg hN] at he2
        have hNp : 0 ≤ (ix U.cost j).N := by omega
        simp [put_len, p1, n1, tC_e3, hcc, cC, c1, hcU, hjl, hjc, rowAt_enc, hNp, i2]
        exact ⟨by omega, j + 1, ⟨by omega, he2⟩, by omega, weak_eq (by simp) rfl⟩
    · have hje : j = U.w := by omega
      subst hje
      have hent : enterF U = none := he
      rw [hent] at hn
      injection hn with hn
      subst hn
      simp [put_len]
      exact tab_drop0 hL (by simp [AV.cleanF, AV.clean2, AV.clean1])
end Go.Proofs.YtfoipbjhaiimlaaGreatDoor


/-
  layer 30: replace — an artificial variable leaves.
-/
namespace Go.Proofs.YtfoipbjhaiimlaaGreatDoor
open Go.RowKit
set_option linter.unusedSimpArgs false
set_option linter.unusedVariables false
set_option maxRecDepth 100000

/-- The first of the first k columns that is not zero in row i. -/
def colK (t : Tab) (i : Nat) : Nat → Option Nat
  | 0 => none
  | k + 1 => match colK t i k with
    | some j => some j
    | none => if (ix (ix t.rows i) k).N ≠ 0 then some k else none
theorem colK_mono {t : Tab} {i k j : Nat} (h : colK t i k = some j) : ∀ n, colK t i (k + n) = some j
  | 0 => h
  | n + 1 => by
    show colK t i ((k + n) + 1) = some j
    unfold colK
    rw [colK_mono h n]
theorem colK_succ {t : Tab} {i k : Nat} (h : colK t i k = none) : colK t i (k + 1) = if (ix (ix t.rows i) k).N ≠ 0 then some k else none := by
  conv => { lhs; unfold colK; rw [h] }
theorem colK_lt {t : Tab} {i : Nat} : ∀ {k j : Nat}, colK t i k = some j → j < k
  | 0, _, h => by cases h
  | k + 1, j, h => by
    cases h1 : colK t i k with
    | some i' =>
      have := colK_lt h1
      unfold colK at h
      rw [h1] at h
      injection h with h
      omega
    | none =>
      rw [colK_succ h1] at h
      split at h
      · injection h with h; omega
      · cases h
def repF (t : Tab) (i : Nat) : Tab := if (t.w : Int) ≤ ix t.basis i ∧ t.over = false then match colK t i t.w with
  | none => t
  | some j => pivF t i j else t
theorem repF_shape {L : Lay} {t : Tab} (hS : Shape L t) {i : Nat} (hi : i < t.m) : Shape L (repF t i) ∧ Kin t (repF t i) := by
  unfold repF
  split
  · split
    · exact ⟨hS, Kin.refl t⟩
    · rename_i j hj
      exact ⟨pivF_shape hS hi (colK_lt hj), kin_piv t i j⟩
  · exact ⟨hS, Kin.refl t⟩
noncomputable def gRep := tabG aJ (fun _ t i => i < t.m) (fun _ _ => .tup []) repF
theorem okRep : TabOK aJ (fun _ t i => i < t.m) repF where
  inj := fun {L t K x x'} _ _ _ _ e => by
    unfold aJ at e
    simp only [List.cons.injEq, AV.int.injEq, and_true, true_and] at e
    omega
  rows := fun {L t x} s h => by
    obtain ⟨h1, h2⟩ := repF_shape s h
    rw [h1.m, h2.m]
theorem rep_call {L : Lay} {K : List Blk} {t : Tab} (hL : Lens L K) (hS : Shape L t) {i : Nat} (hi : i < t.m) (X : List Blk) (hX : ∀ b ∈ X, b.deep = true) : gRep [.ptr L.p 1 29 0 0, .int .i64 i] (putT L t K ++ X) = some (True, .tup [], putT L (repF t i) K ++ X) :=
  tabG_call okRep (x := i) hL hS hi X hX
noncomputable def CRp : Ctx := mkC Tryz.prog G0 [(100, .gen gArt), (132, .gen gPiv)]
@[simp] theorem CRp_P : CRp.P = Tryz.prog := rfl
@[simp] theorem CRp_G : CRp.G = G0 := rfl
@[simp] theorem CRp_1 : CRp.S 100 = .gen gArt := rfl
@[simp] theorem CRp_2 : CRp.S 132 = .gen gPiv := rfl
theorem mixCRp : CRp.P.follows .mixedOrders = true := mixed
theorem sigCRp : SigOK CRp := sigOK_cons (entryGen (artTP) Tryz.func100 rfl (by decide)) (sigOK_cons (entryGen (pivTP) Tryz.func132 rfl (by decide)) (sigOK_nil _ _))
set_option maxHeartbeats 16000000 in
theorem repTP : GenOK Tryz.prog G0 103 gRep := by
  refine gen_of_avcD (C := CRp) sigCRp mixCRp [1] Tryz.func103 rfl rfl rfl (by kernel_rfl) (fun avs H ob r H' hp hob => ?_)
  obtain ⟨L, t, K, i, hL, hS, hi, rfl, rfl, rfl, rfl⟩ := tabG_inv hp
  clear hp hob ob
  refine ⟨(by show 2 ≤ _; decide), ?_⟩
  simp only [aJ]
  have G1 := getT hL hS
  have p1 := G1.p0
  have q1 := G1.q0
  have r1 := G1.r0 hi
  have n1 := tC_len (L := L) hS.bas
  have hr := hS.r
  have hir : i < L.r.length := by omega
  have hw := shape_w36 hS
  have hrow : (ix t.rows i).length = t.w + 1 := hS.row _ (ix_mem (by rw [hS.m]; exact hi))
  have hart := art_call hL hS hi [] (by simp)
  simp only [List.append_nil] at hart
  by_cases ha : (t.w : Int) ≤ ix t.basis i
  case neg =>
    have e1 : repF t i = t := if_neg (fun h => ha h.1)
    rw [e1]
    simp [argsρ, put_len, hart, ha]
    exact tab_drop0 hL (by simp [AV.cleanF, AV.clean2, AV.clean1])
  by_cases ho : t.over = false
  case neg =>
    have e1 : repF t i = t := if_neg (fun h => ho h.2)
    have ho' : t.over = true := by simpa using ho
    rw [e1]
    simp [argsρ, put_len, hart, ha, p1, n1, tC_e28 hS.bas, ho']
    exact tab_drop0 hL (by simp [AV.cleanF, AV.clean2, AV.clean1])
  have e1 : repF t i = match colK t i t.w with
    | none => t
    | some j => pivF t i j := if_pos ⟨ha, ho⟩
  rw [e1]
  simp [argsρ, put_len, hart, ha, p1, n1, tC_e28 hS.bas, ho]
  refine AW_regionF sigCRp mixCRp [.pure, .pure, .pure, .read, .pure, .pure, .pure, .read, .pure, .pure] [[],[0],[0,1],[1,0,2],[],[4],[4,5],[5,4,6],[6,4,5,7,2,0,1,3],[]] (by kernel_rfl) (by kernel_rfl) (by kernel_rfl) (by kernel_rfl) ?_
  simp [put_len, p1, n1, tC_e0, tC_e1, shape_w hS]
  refine loop_ruleH (C := CRp) sigCRp mixCRp [1] (fun j : Nat => ⟨[(0, .ptr L.p 1 29 0 0), (1, .int .i64 i), (23, .int .i64 t.w), (24, .int .i64 j)], putT L t K⟩) (fun j => j ≤ t.w ∧ colK t i j = none) (fun j => t.w - j) (by kernel_rfl) ⟨0, ⟨by simp, rfl⟩, weak_eq (by simp) rfl⟩ (fun j ⟨hj, he⟩ => ?_)
  by_cases hjl : j < t.w
  · have hjl' : (j : Int) < t.w := by omega
    have i2 : I64 ((j : Int) + 1) := by unfold I64; omega
    have hjc : j < t.w + 1 := by omega
    have he2 := colK_succ he
    by_cases hN : (ix (ix t.rows i) j).N = 0
    · rw [if_neg (fun h => h hN)] at he2
      simp [put_len, p1, n1, tC_e2, q1, hr, hi, hir, rowAt_q, r1, hrow, hjl, hjc, rowAt_enc, hN, i2]
      exact ⟨by omega, j + 1, ⟨by omega, he2⟩, by omega, weak_eq (by simp) rfl⟩
    · rw [if_pos hN] at he2
      have hent : colK t i t.w = some j := by
        have := colK_mono he2 (t.w - (j + 1))
        rwa [show j + 1 + (t.w - (j + 1)) = t.w by omega] at this
      rw [hent]
      have hpc := piv_call hL hS hi hjl [] (by simp)
      simp only [List.append_nil] at hpc
      simp [put_len, p1, n1, tC_e2, q1, hr, hi, hir, rowAt_q, r1, hrow, hjl, hjc, rowAt_enc, hN, hpc]
      exact ⟨by omega, tab_drop0 hL (by simp [AV.cleanF, AV.clean2, AV.clean1])⟩
  · have hje : j = t.w := by omega
    subst hje
    rw [he]
    simp [put_len]
    exact tab_drop0 hL (by simp [AV.cleanF, AV.clean2, AV.clean1])
end Go.Proofs.YtfoipbjhaiimlaaGreatDoor


/-
  layer 30: a new row of costs; what first computes.
-/
namespace Go.Proofs.YtfoipbjhaiimlaaGreatDoor
open Go.RowKit
set_option linter.unusedSimpArgs false
set_option linter.unusedVariables false
set_option maxRecDepth 100000

/-- The costs in the block that comes next. -/
def newC (L : Lay) (K : List Blk) : Lay := { L with c := some K.length }
def outN (L : Lay) (t : Tab) (K : List Blk) (u : Tab) : List Blk := (putT L { u with cost := t.cost } K ++ [R2B u.cost]).set L.p ⟨118, 29, [tC (newC L K) u], true, false⟩
def baseN (L : Lay) (t : Tab) (K : List Blk) : List Blk := setC L.c t.cost K ++ [R2B []]
section
variable {L : Lay} {t u : Tab} {K X : List Blk}
theorem baseN_len : (baseN L t K).length = K.length + 1 := by unfold baseN; rw [List.length_append, setC_len]; rfl
theorem outN_eq (hL : Lens L K) : outN L t K u = putT (newC L K) u (baseN L t K) := by
  have hp := hL.p
  have hq := hL.q
  unfold outN putT baseN newC
  simp only
  rw [List.set_append_left _ _ (by rw [setR_len, setC_len, List.length_set, List.length_set]; exact hp), ← setR_comm hL.pr, ← setC_comm hL.pc, List.set_comm _ _ hL.pq.symm, List.set_set]
  rw [List.set_append_left _ _ (by rw [setC_len]; exact hp), List.set_append_left _ _ (by rw [List.length_set, setC_len]; exact hq)]
  rw [setC_comm hL.qc, setC_comm hL.pc]
  show _ = setR L.r u.rows (List.set _ _ _)
  rw [List.set_append_right _ _ (by rw [List.length_set, List.length_set, setC_len]; exact Nat.le_refl _), List.length_set, List.length_set, setC_len, Nat.sub_self]
  rw [← setR_app (fun l hl => by rw [List.length_set, List.length_set, setC_len]; exact hL.r l hl)]
  rfl
theorem newC_lens (hL : Lens L K) : Lens (newC L K) (baseN L t K) := by
  have hp := hL.p
  have hq := hL.q
  refine ⟨by rw [baseN_len]; show L.p < _; omega, by rw [baseN_len]; show L.q < _; omega, fun c hc => by rw [baseN_len]; injection hc with hc; omega, fun l hl => by rw [baseN_len]; have := hL.r l hl; omega, hL.pq, ?_, ?_, hL.pr, hL.qr, ?_, hL.nd, fun b hb => ?_⟩
  · intro h; injection h with h; exact absurd h.symm (Nat.ne_of_lt hp)
  · intro h; injection h with h; exact absurd h.symm (Nat.ne_of_lt hq)
  · intro c hc hl
    injection hc with hc
    have := hL.r c hl
    omega
  · rw [baseN_len]
    rcases List.mem_append.1 hb with hb | hb
    · rcases setC_mem hb with hb | hb
      · exact (hL.cl b hb).imp id fun h1 r hr c hc => cleanF_mono (by omega) (h1 r hr c hc)
      · exact .inl hb
    · rw [List.mem_singleton] at hb
      rw [hb]
      exact .inl rfl
theorem shape_cost (hS : Shape L t) {x : List Fr} (hx : x.length = t.w + 1) : Shape (newC L K) { t with cost := x } := ⟨hS.m, hS.r, hS.n1, hS.n12, hS.m24, hS.row, .inr ⟨⟨_, rfl⟩, hx⟩, hS.bas, hS.b64⟩
theorem tC_sc {w : Nat} (x : List Fr) (hx : x.length = w) : List.take 3 (tC L t) ++ AV.own K.length w :: List.drop 4 (tC L t) = tC (newC L K) { t with cost := x } := by
  unfold tC newC cC
  simp [hx]
theorem tC_sn (hc : L.c = none) (M : List Blk) : List.take 3 (tC (newC L M) t) ++ AV.slice 2 true [] :: List.drop 4 (tC (newC L M) t) = tC L { t with cost := [] } := by
  unfold tC newC
  rw [hc]
  rfl
/-- The costs are given up. -/
theorem old_cost (hL : Lens L K) (hc : L.c = none) : (putT (newC L K) u (K ++ [R2B []])).set L.p ⟨118, 29, [tC L { u with cost := [] }], true, false⟩ = putT L { u with cost := [] } K ++ [R2B u.cost] := by
  have hp := hL.p
  have hq := hL.q
  unfold putT newC
  simp only
  rw [List.set_append_left _ _ hp, List.set_append_left _ _ (by rw [List.length_set]; exact hq)]
  show (setR L.r u.rows (List.set _ _ _)).set _ _ = _
  rw [List.set_append_right _ _ (by rw [List.length_set, List.length_set]; exact Nat.le_refl _), List.length_set, List.length_set, Nat.sub_self]
  rw [setR_app (fun l hl => by rw [List.length_set, List.length_set]; exact hL.r l hl)]
  rw [List.set_append_left _ _ (by rw [setR_len, List.length_set, List.length_set]; exact hp), ← setR_comm hL.pr, List.set_comm _ _ hL.pq.symm, List.set_set]
  rw [hc]
  rfl
end
/-! ### first -/
def artP (t : Tab) (k : Nat) : Bool := decide ((t.w : Int) ≤ ix t.basis k)
def f1K (t : Tab) : Nat → Tab
  | 0 => { t with cost := rowE t }
  | k + 1 => if artP t k then clrT (f1K t k) ⟨none, F11, k⟩ else f1K t k
def f1T (t : Tab) : Tab := f1K t t.m
def repK (t : Tab) : Nat → Tab
  | 0 => t
  | k + 1 => repF (repK t k) k
noncomputable def firstF (t : Tab) : Bool × Tab :=
  if anyK t.m (artP t) = false ∨ (f1T t).over = true then (true, f1T t)
  else if (phaseF (f1T t)).2.over = true then (true, (phaseF (f1T t)).2)
  else if (ix (phaseF (f1T t)).2.cost t.w).N < 0 then (false, (phaseF (f1T t)).2)
  else (true, repK { (phaseF (f1T t)).2 with cost := [] } t.m)
def HaltsF (t : Tab) : Prop := ¬ (anyK t.m (artP t) = false ∨ (f1T t).over = true) → Halts (f1T t)
section
variable {L : Lay} {t : Tab} {K : List Blk}
theorem rowE_len (t : Tab) : (rowE t).length = t.w + 1 := List.length_replicate
theorem f1K_same (t : Tab) : ∀ k, (f1K t k).n = t.n ∧ (f1K t k).m = t.m ∧ (f1K t k).cost.length = t.w + 1 ∧ (f1K t k).basis = t.basis
  | 0 => ⟨rfl, rfl, rowE_len t, rfl⟩
  | k + 1 => by
    obtain ⟨h1, h2, h3, h4⟩ := f1K_same t k
    unfold f1K
    split
    · exact ⟨(clrK_n _ _).trans h1, (clrK_m _ _).trans h2, (clrK_cost _ _).trans h3, (clrK_bas _ _).trans h4⟩
    · exact ⟨h1, h2, h3, h4⟩
theorem f1K_w (t : Tab) (k : Nat) : (f1K t k).w = t.w := by unfold Tab.w; rw [(f1K_same t k).1, (f1K_same t k).2.1]
theorem f1K_pre {k : Nat} (hk : k < t.m) : PreClr L (f1K t k) ⟨none, F11, k⟩ := ⟨by rw [(f1K_same t k).2.1]; exact hk, fun q hq => (by cases hq), fun _ => by rw [(f1K_same t k).2.2.1, f1K_w]⟩
theorem f1K_shape (hS : Shape L t) : ∀ {k}, k ≤ t.m → Shape (newC L K) (f1K t k)
  | 0, _ => shape_cost hS (rowE_len t)
  | k + 1, h => by
    unfold f1K
    split
    · exact clrK_shape (f1K_shape hS (by omega)) (f1K_pre (by omega)) _
    · exact f1K_shape hS (by omega)
theorem repK_shape (hS : Shape L t) : ∀ {k}, k ≤ t.m → Shape L (repK t k) ∧ Kin t (repK t k)
  | 0, _ => ⟨hS, Kin.refl t⟩
  | k + 1, h => by
    obtain ⟨h1, h2⟩ := repK_shape hS (k := k) (by omega)
    obtain ⟨h3, h4⟩ := repF_shape h1 (i := k) (by rw [h2.m]; omega)
    exact ⟨h3, h2.trans h4⟩
end
abbrev FiX := Lay × Tab × List Blk
def preFi : FiX → Prop := fun γ => Lens γ.1 γ.2.2 ∧ Shape γ.1 γ.2.1 ∧ γ.2.1.cost = [] ∧ HaltsF γ.2.1
open Classical in
noncomputable def outFi (L : Lay) (t : Tab) (K : List Blk) : List Blk := if (firstF t).2.cost = [] then putT L (firstF t).2 K else outN L t K (firstF t).2
noncomputable def gFirst : List AV → List Blk → Option (Prop × AV × List Blk) :=
  anyG (fun γ : FiX => [.ptr γ.1.p 1 29 0 0]) (fun γ => putT γ.1 γ.2.1 γ.2.2) preFi (fun γ => .bool (firstF γ.2.1).1) (fun γ => outFi γ.1 γ.2.1 γ.2.2)
theorem firstF_same {L : Lay} {t : Tab} (hS : Shape L t) (hh : HaltsF t) : (firstF t).2.rows.length = t.m ∧ (firstF t).2.n = t.n ∧ (firstF t).2.m = t.m := by
  have h1 := f1K_shape (K := []) hS (Nat.le_refl t.m)
  have h2 := f1K_same t t.m
  unfold firstF
  split
  · exact ⟨by rw [show (true, f1T t).2 = f1K t t.m from rfl, h1.m, h2.2.1], h2.1, h2.2.1⟩
  · rename_i hn
    obtain ⟨h3, h4⟩ := phaseF_shape h1 (hh hn)
    split
    · exact ⟨h3.m.trans (h4.m.trans h2.2.1), h4.n.trans h2.1, h4.m.trans h2.2.1⟩
    · split
      · exact ⟨h3.m.trans (h4.m.trans h2.2.1), h4.n.trans h2.1, h4.m.trans h2.2.1⟩
      · have hS3 : Shape { L with c := none } { (phaseF (f1T t)).2 with cost := [] } := ⟨h3.m, h3.r, h3.n1, h3.n12, h3.m24, h3.row, .inl ⟨rfl, rfl⟩, h3.bas, h3.b64⟩
        have hm3 : (phaseF (f1T t)).2.m = t.m := h4.m.trans h2.2.1
        obtain ⟨h5, h6⟩ := repK_shape hS3 (k := t.m) (by show t.m ≤ (phaseF (f1T t)).2.m; omega)
        exact ⟨h5.m.trans (h6.m.trans hm3), h6.n.trans (h4.n.trans h2.1), h6.m.trans hm3⟩
theorem first_at {L : Lay} {t : Tab} {K : List Blk} (hL : Lens L K) (hS : Shape L t) (hc : t.cost = []) (hh : HaltsF t) : gFirst [.ptr L.p 1 29 0 0] (putT L t K) = some (True, .bool (firstF t).1, outFi L t K) := by
  refine anyG_at (a := fun γ : FiX => [.ptr γ.1.p 1 29 0 0]) (h := fun γ : FiX => putT γ.1 γ.2.1 γ.2.2) (pre := preFi) (res := fun γ => .bool (firstF γ.2.1).1) (h' := fun γ => outFi γ.1 γ.2.1 γ.2.2) ?_ (γ := (L, t, K)) ⟨hL, hS, hc, hh⟩
  rintro ⟨L1, t1, K1⟩ ⟨L2, t2, K2⟩ ⟨h1, s1, c1, hh1⟩ ⟨h2, s2, c2, _⟩ ea eh
  simp only [List.cons.injEq, AV.ptr.injEq, and_true] at ea
  obtain ⟨e1, e2, e3⟩ := put_inj h1 h2 s1 s2 ea eh
  simp only at e1 e2
  subst e1 e2
  have el : K1.length = K2.length := by
    have := congrArg List.length eh
    simpa [put_len] using this
  have hr := (firstF_same s1 hh1).1
  refine ⟨rfl, ?_⟩
  show outFi L1 t1 K1 = outFi L1 t1 K2
  unfold outFi outN newC
  rw [el, e3 (firstF t1).2 (by rw [hr, s1.r]), e3 { (firstF t1).2 with cost := t1.cost } (by show (firstF t1).2.rows.length = _; rw [hr, s1.r])]
theorem first_inv {args : List AV} {H : List Blk} {ob : Prop} {r : AV} {H' : List Blk} (e : gFirst args H = some (ob, r, H')) :
    ∃ L t K, Lens L K ∧ Shape L t ∧ t.cost = [] ∧ HaltsF t ∧ args = [.ptr L.p 1 29 0 0] ∧ H = putT L t K ∧ r = .bool (firstF t).1 ∧ H' = outFi L t K := by
  obtain ⟨⟨L, t, K⟩, ⟨h1, h2, h3, h4⟩, e1, e2, e3, e4⟩ := anyG_inv e
  exact ⟨L, t, K, h1, h2, h3, h4, e1.symm, e2.symm, e3.symm, e4.symm⟩
end Go.Proofs.YtfoipbjhaiimlaaGreatDoor


/-
  layer 30: first, the program's side.
-/
namespace Go.Proofs.YtfoipbjhaiimlaaGreatDoor
open Go.RowKit
set_option linter.unusedSimpArgs false
set_option linter.unusedVariables false
set_option maxRecDepth 100000

theorem artB (t : Tab) (u : Tab) (h : u.w = t.w) (hb : u.basis = t.basis) (k : Nat) : decide ((u.w : Int) ≤ ix u.basis k) = artP t k := by unfold artP; rw [h, hb]
section
variable {L : Lay} {K : List Blk}
theorem newC_p : (newC L K).p = L.p := rfl
theorem newC_r : (newC L K).r = L.r := rfl
theorem newC_c : (newC L K).c = some K.length := rfl
theorem newC_t : tgtI (newC L K) none = K.length := rfl
/-- What can be read, the costs in the new block. -/
structure GetN (L : Lay) (K B : List Blk) (u : Tab) : Prop where
  p : (putT (newC L K) u B)[L.p]? = some ⟨118, 29, [tC (newC L K) u], true, false⟩
  q : (putT (newC L K) u B)[L.q]? = some ⟨28, 1, L.r.map fun l => [.own l (u.w + 1)], true, false⟩
  c : (putT (newC L K) u B)[K.length]? = some ⟨35, 2, encRows u.cost, true, true⟩
  d : ∀ h, (putT (newC L K) u B)[K.length]'h = ⟨35, 2, encRows u.cost, true, true⟩
  e0 : ∀ h, (tC (newC L K) u)[0]'h = .int .i64 u.n
  e1 : ∀ h, (tC (newC L K) u)[1]'h = .int .i64 u.m
  e2 : ∀ h, (tC (newC L K) u)[2]'h = .own L.q L.r.length
  e3 : ∀ h, (tC (newC L K) u)[3]'h = .own K.length u.cost.length
  e28 : ∀ h, (tC (newC L K) u)[28]'h = .bool u.over
  n : (tC (newC L K) u).length = 29
  art : ∀ i, i < u.m → gArt [.ptr L.p 1 29 0 0, .int .i64 i] (putT (newC L K) u B) = some (True, .bool (decide ((u.w : Int) ≤ ix u.basis i)), putT (newC L K) u B)
  clr : ∀ i f, i < u.m → u.cost.length = u.w + 1 → gClear [.ptr L.p 1 29 0 0, .own K.length (u.w + 1), .agg [.int .i64 f.N, .int .i64 f.D], .own (ix L.r i) (u.w + 1)] (putT (newC L K) u B) = some (True, .tup [], putT (newC L K) (clrT u ⟨none, f, i⟩) B)
  ph : u.cost.length = u.w + 1 → Halts u → gPhase [.ptr L.p 1 29 0 0] (putT (newC L K) u B) = some (True, .bool (phaseF u).1, putT (newC L K) (phaseF u).2 B)
theorem getN {B : List Blk} {u : Tab} (h : Lens (newC L K) B) (s : Shape (newC L K) u) : GetN L K B u where
  p := (getT h s).p0
  q := (getT h s).q0
  c := (getT h s).c0 newC_c
  d h := by
    have := (getT ‹Lens (newC L K) B› s).c0 newC_c
    rw [List.getElem?_eq_getElem h] at this
    injection this
  e0 h := tC_e0 h
  e1 h := tC_e1 h
  e2 h := tC_e2 h
  e3 h := tC_e3 h
  e28 h := tC_e28 s.bas h
  n := tC_len s.bas
  art i hi := by
    have := art_call h s hi [] (by simp)
    simpa only [List.append_nil, newC_p] using this
  clr i f hi hc := by
    have := clear_call (g := none) (f := f) (i := i) h s ⟨hi, fun q hq => (by cases hq), fun _ => hc⟩ [] (by simp)
    simpa only [List.append_nil, newC_p, newC_r, newC_t] using this
  ph hc hh := by
    have := phase_call h s hc hh [] (by simp)
    simpa only [List.append_nil, newC_p] using this
end
noncomputable def CFi : Ctx := mkC Tryz.prog G0 [(100, .gen gArt), (99, .gen gEmpty), (101, .gen gClear), (102, .gen gPhase), (103, .gen gRep)]
@[simp] theorem CFi_P : CFi.P = Tryz.prog := rfl
@[simp] theorem CFi_G : CFi.G = G0 := rfl
@[simp] theorem CFi_1 : CFi.S 100 = .gen gArt := rfl
@[simp] theorem CFi_2 : CFi.S 99 = .gen gEmpty := rfl
@[simp] theorem CFi_3 : CFi.S 101 = .gen gClear := rfl
@[simp] theorem CFi_4 : CFi.S 102 = .gen gPhase := rfl
@[simp] theorem CFi_5 : CFi.S 103 = .gen gRep := rfl
theorem mixCFi : CFi.P.follows .mixedOrders = true := mixed
theorem sigCFi : SigOK CFi := sigOK_cons (entryGen (artTP) Tryz.func100 rfl (by decide)) (sigOK_cons (entryGen (emptyTP) Tryz.func99 rfl (by decide)) (sigOK_cons (entryGen (clearTP) Tryz.func101 rfl (by decide)) (sigOK_cons (entryGen (phaseTP) Tryz.func102 rfl (by decide)) (sigOK_cons (entryGen (repTP) Tryz.func103 rfl (by decide)) (sigOK_nil _ _)))))
set_option maxHeartbeats 16000000 in
theorem firstTP : GenOK Tryz.prog G0 62 gFirst := by
  refine gen_of_avcD (C := CFi) sigCFi mixCFi [15] Tryz.func62 rfl rfl rfl (by kernel_rfl) (fun avs H ob r H' hp hob => ?_)
  obtain ⟨L, t, K, hL, hS, hc, hh, rfl, rfl, rfl, rfl⟩ := first_inv hp
  clear hp hob ob
  refine ⟨(by show 1 ≤ _; decide), ?_⟩
  have G1 := getT hL hS
  have p1 := G1.p
  have n1 := tC_len (L := L) hS.bas
  have hLc : L.c = none := hS.cost.elim (fun h => h.1) (fun h => by rw [hc] at h; have := h.2; simp at this)
  have hem := empty_at hL hS.to0
  have hK1 : baseN L t K = K ++ [R2B []] := by unfold baseN; rw [hLc]; rfl
  have hset : (putT L t K ++ [R2B (rowE t)]).set L.p ⟨118, 29, [List.take 3 (tC L t) ++ AV.own K.length (t.w + 1) :: List.drop 4 (tC L t)], true, false⟩ = putT (newC L K) (f1K t 0) (K ++ [R2B []]) := by
    rw [tC_sc (K := K) (rowE t) (rowE_len t), ← hK1]
    exact outN_eq (t := t) (u := f1K t 0) hL
  have hL1 : Lens (newC L K) (K ++ [R2B []]) := by rw [← hK1]; exact newC_lens hL
  have hw := shape_w36 hS
  have hr := hS.r
  have hl1 : (K ++ [R2B []]).length = K.length + 1 := by simp
  have hf0 := f1K_same t 0
  have g0 := getN hL1 (f1K_shape (K := K) hS (Nat.zero_le t.m))
  simp [argsρ, put_len, hem, p1, n1, hset, g0.p, g0.n, g0.e2, hr]
  refine loop_ruleH (C := CFi) sigCFi mixCFi [15] (fun k : Nat => ⟨[(0, .ptr L.p 1 29 0 0), (2, .bool false), (3, .bool (anyK k (artP t))), (15, .own L.q t.m), (16, .int .i64 t.m), (17, .int .i64 k)], putT (newC L K) (f1K t k) (K ++ [R2B []])⟩) (fun k => k ≤ t.m) (fun k => t.m - k) (by kernel_rfl) ⟨0, by simp, weak_eq (by simp [anyK_zero]) rfl⟩ (fun k hk => ?_)
  have hf := f1K_same t k
  have hfw := f1K_w t k
  have hfs := f1K_shape (K := K) hS hk
  have g := getN hL1 hfs
  have h24 := hS.m24
  by_cases hkl : k < t.m
  · have hkl' : (k : Int) < (t.m : Int) := by omega
    have i2 : I64 ((k : Int) + 1) := by unfold I64; omega
    have hkr : k < L.r.length := by omega
    have gq := g.q
    rw [hfw] at gq
    have ga := g.art k (by rw [hf.2.1]; exact hkl)
    rw [artB t _ hfw hf.2.2.2] at ga
    have ea := anyK_succ k (artP t)
    have e3 := g.e3
    rw [hf.2.2.1] at e3
    have gc := g.clr k F11 (by rw [hf.2.1]; exact hkl) (by rw [hf.2.2.1, hfw])
    rw [hfw] at gc
    by_cases hA : artP t k = true
    · have es : f1K t (k + 1) = clrT (f1K t k) ⟨none, F11, k⟩ := by conv => { lhs; unfold f1K; rw [if_pos hA] }
      rw [← es] at gc
      rw [hA, Bool.or_true] at ea
      rw [hA] at ga
      simp only [F11] at gc
      have g2 := getN hL1 (f1K_shape (K := K) hS (show k + 1 ≤ t.m by omega))
      simp [put_len, hkl, gq, hr, hkr, rowAt_q, ga, g.p, g.n, e3, gc, i2]
      exact ⟨k + 1, by omega, by omega, weak_eq (by simp [ea]) rfl⟩
    · have hA' : artP t k = false := by simpa using hA
      have es : f1K t (k + 1) = f1K t k := by conv => { lhs; unfold f1K; rw [if_neg hA] }
      rw [hA', Bool.or_false] at ea
      rw [hA'] at ga
      simp [put_len, hkl, gq, hr, hkr, rowAt_q, ga, g.p, g.n, e3, gc, i2]
      exact ⟨k + 1, by omega, by omega, weak_eq (by simp [ea]) (by rw [es])⟩
  · have hke : k = t.m := by omega
    subst hke
    have hUT : f1K t t.m = f1T t := rfl
    obtain ⟨U, hU⟩ : ∃ U, f1T t = U := ⟨_, rfl⟩
    have hF : firstF t = if anyK t.m (artP t) = false ∨ U.over = true then (true, U)
      else if (phaseF U).2.over = true then (true, (phaseF U).2)
      else if (ix (phaseF U).2.cost t.w).N < 0 then (false, (phaseF U).2)
      else (true, repK { (phaseF U).2 with cost := [] } t.m) := by rw [← hU]; rfl
    unfold HaltsF at hh
    rw [hU] at hh
    rw [hUT, hU] at hf hfw hfs g
    rw [hUT, hU]
    have fin : ∀ (V : Tab) (b : Bool), V.cost.length = t.w + 1 → firstF t = (b, V) → dropT K.length (putT (newC L K) V (K ++ [R2B []])) (.bool (firstF t).1) (outFi L t K) := fun V b hV hb => by
      have : outFi L t K = putT (newC L K) V (K ++ [R2B []]) := by
        unfold outFi
        rw [hb, if_neg (fun h => by rw [show (b, V).2.cost = V.cost from rfl] at h; rw [h] at hV; simp at hV), outN_eq hL, hK1]
      rw [this]
      exact ⟨K.length + 1, by omega, by rw [← hl1, ← put_len (newC L K) V, List.take_length], by simp [AV.cleanF, AV.clean2, AV.clean1], by rw [← hl1]; exact put_clean hL1 V⟩
    by_cases hA : anyK t.m (artP t) = false
    · have hF : firstF t = (true, U) := by rw [hF, if_pos (.inl hA)]
      simp [put_len, hA]
      rw [hF] at fin ⊢
      exact ⟨rfl, fin U true hf.2.2.1 rfl⟩
    have hA' : anyK t.m (artP t) = true := by simpa using hA
    by_cases hO : U.over = true
    · have hF : firstF t = (true, U) := by rw [hF, if_pos (.inr hO)]
      have e28 := g.e28
      rw [hO] at e28
      simp [put_len, hA', g.p, g.n, e28]
      rw [hF] at fin ⊢
      exact ⟨rfl, fin U true hf.2.2.1 rfl⟩
    have hn : ¬ (anyK t.m (artP t) = false ∨ U.over = true) := fun h => h.elim hA hO
    rw [if_neg hn] at hF
    have hO' : U.over = false := by simpa using hO
    have hH := hh hn
    obtain ⟨hVs, hVk⟩ := phaseF_shape hfs hH
    have gph := g.ph (by rw [hf.2.2.1, hfw]) hH
    obtain ⟨V, hV⟩ : ∃ V, (phaseF U).2 = V := ⟨_, rfl⟩
    rw [hV] at hF hVs hVk gph
    have hVw : V.w = t.w := hVk.w.trans hfw
    have hVc : V.cost.length = t.w + 1 := hVk.cost.trans hf.2.2.1
    have gv := getN hL1 hVs
    have e28 := g.e28
    rw [hO'] at e28
    have f28 := gv.e28
    by_cases hVO : V.over = true
    · rw [if_pos hVO] at hF
      rw [hVO] at f28
      simp [put_len, hA', g.p, g.n, e28, gph, gv.p, gv.n, f28]
      rw [hF] at fin ⊢
      exact ⟨rfl, fin V true hVc rfl⟩
    have hVO' : V.over = false := by simpa using hVO
    rw [if_neg hVO] at hF
    rw [hVO'] at f28
    simp [put_len, hA', g.p, g.n, e28, gph, gv.p, gv.n, f28]
    refine AW_regionF sigCFi mixCFi [.pure, .pure, .pure, .read, .pure, .pure, .pure, .read, .pure, .pure, .pure, .read, .pure, .pure, .pure, .read, .pure] [[],[0],[0,1],[1,0,2],[],[4],[4,5],[5,4,6],[],[8],[8,9],[9,8,10],[10,8,9,11,6,4,5,7],[7,5,4,6,11,9,8,10,12,2,0,1,3],[3,1,0,2,12,10,8,9,11,6,4,5,7,13],[13,7,5,4,6,11,9,8,10,12,2,0,1,3,14],[14,3,1,0,2,12,10,8,9,11,6,4,5,7,13,15]] (by kernel_rfl) (by kernel_rfl) (by kernel_rfl) (by kernel_rfl) ?_
    have f3 := gv.e3
    rw [hVc] at f3
    have hsw := shape_w hVs
    rw [hVw] at hsw
    have htw : t.w < t.w + 1 := by omega
    by_cases hN : (ix V.cost t.w).N < 0
    · rw [if_pos hN] at hF
      simp [put_len, gv.p, gv.n, f3, gv.e0, gv.e1, hsw, gv.d, hVc, htw, rowAt_enc, hN]
      rw [hF] at fin ⊢
      exact ⟨by omega, rfl, fin V false hVc rfl⟩
    rw [if_neg hN] at hF
    have hold := old_cost (u := V) hL hLc
    have hts := tC_sn (L := L) (t := V) hLc K
    have hSW : Shape L { V with cost := [] } := ⟨hVs.m, hVs.r, hVs.n1, hVs.n12, hVs.m24, hVs.row, .inl ⟨hLc, rfl⟩, hVs.bas, hVs.b64⟩
    have hWm : ({ V with cost := [] } : Tab).m = t.m := hVk.m.trans hf.2.1
    obtain ⟨W, hW⟩ : ∃ W, ({ V with cost := [] } : Tab) = W := ⟨_, rfl⟩
    have hWc : W.cost = [] := by rw [← hW]
    rw [hW] at hold hts hSW hWm hF
    have gw := getT hL hSW
    have pw := gw.p
    have nw := tC_len (L := L) hSW.bas
    simp [put_len, gv.p, gv.n, f3, gv.e0, gv.e1, hsw, gv.d, hVc, htw, rowAt_enc, hN, hts, hold, pw, nw, tC_e2, hr]
    refine ⟨by omega, ?_⟩
    refine loop_ruleH (C := CFi) sigCFi mixCFi [15] (fun k : Nat => ⟨[(0, .ptr L.p 1 29 0 0), (72, .int .i64 t.m), (73, .int .i64 k)], putT L (repK W k) K ++ [R2B V.cost]⟩) (fun k => k ≤ t.m) (fun k => t.m - k) (by kernel_rfl) ⟨0, by simp, weak_eq (by simp) rfl⟩ (fun k hk => ?_)
    obtain ⟨hRs, hRk⟩ := repK_shape hSW (k := k) (by omega)
    by_cases hkl : k < t.m
    · have hkl' : (k : Int) < (t.m : Int) := by omega
      have i2 : I64 ((k : Int) + 1) := by unfold I64; omega
      have hcall := rep_call hL hRs (i := k) (by rw [hRk.m]; omega) [R2B V.cost] (by simp [R2B])
      rw [show repF (repK W k) k = repK W (k + 1) from rfl] at hcall
      simp [put_len, hkl, hcall, i2]
      exact ⟨k + 1, by omega, by omega, weak_eq (by simp) rfl⟩
    · have hke : k = t.m := by omega
      subst hke
      have hRc : (repK W t.m).cost = [] := List.length_eq_zero_iff.1 (by rw [hRk.cost, hWc]; rfl)
      have : outFi L t K = putT L (repK W t.m) K := by
        unfold outFi
        rw [hF, if_pos hRc]
      simp [put_len, this, hF]
      exact tab_drop hL (by simp [AV.cleanF, AV.clean2, AV.clean1])
end Go.Proofs.YtfoipbjhaiimlaaGreatDoor


/-
  layer 30: second — the given costs.
-/
namespace Go.Proofs.YtfoipbjhaiimlaaGreatDoor
open Go.RowKit
set_option linter.unusedSimpArgs false
set_option linter.unusedVariables false
set_option maxRecDepth 100000

def rowC (t : Tab) (cs : List Fr) : List Fr := cs ++ (rowE t).drop cs.length
def useP (t : Tab) (cs : List Fr) (k : Nat) : Prop := ix t.basis k < t.n ∧ (ix cs (ix t.basis k).toNat).N ≠ 0
instance (t : Tab) (cs : List Fr) (k : Nat) : Decidable (useP t cs k) := inferInstanceAs (Decidable (_ ∧ _))
def s1K (t : Tab) (cs : List Fr) : Nat → Tab
  | 0 => { t with cost := rowC t cs }
  | k + 1 => if useP t cs k then clrT (s1K t cs k) ⟨none, ix cs (ix t.basis k).toNat, k⟩ else s1K t cs k
def s1T (t : Tab) (cs : List Fr) : Tab := s1K t cs t.m
noncomputable def secondF (t : Tab) (cs : List Fr) : Bool × Tab := if (s1T t cs).over = true then (true, s1T t cs) else phaseF (s1T t cs)
def HaltsS (t : Tab) (cs : List Fr) : Prop := ¬ (s1T t cs).over = true → Halts (s1T t cs)
section
variable {L : Lay} {t : Tab} {K : List Blk} {cs : List Fr}
theorem rowC_len (h : cs.length = t.n) : (rowC t cs).length = t.w + 1 := by
  unfold rowC
  rw [List.length_append, List.length_drop, rowE_len, h]
  unfold Tab.w
  omega
theorem s1K_same (h : cs.length = t.n) : ∀ k, (s1K t cs k).n = t.n ∧ (s1K t cs k).m = t.m ∧ (s1K t cs k).cost.length = t.w + 1 ∧ (s1K t cs k).basis = t.basis
  | 0 => ⟨rfl, rfl, rowC_len h, rfl⟩
  | k + 1 => by
    obtain ⟨h1, h2, h3, h4⟩ := s1K_same h k
    unfold s1K
    split
    · exact ⟨(clrK_n _ _).trans h1, (clrK_m _ _).trans h2, (clrK_cost _ _).trans h3, (clrK_bas _ _).trans h4⟩
    · exact ⟨h1, h2, h3, h4⟩
theorem s1K_w (h : cs.length = t.n) (k : Nat) : (s1K t cs k).w = t.w := by unfold Tab.w; rw [(s1K_same h k).1, (s1K_same h k).2.1]
theorem s1K_shape (hS : Shape L t) (h : cs.length = t.n) : ∀ {k}, k ≤ t.m → Shape (newC L K) (s1K t cs k)
  | 0, _ => shape_cost hS (rowC_len h)
  | k + 1, hk => by
    unfold s1K
    split
    · refine clrK_shape (s1K_shape hS h (by omega)) ⟨by rw [(s1K_same h k).2.1]; exact hk, fun q hq => (by cases hq), fun _ => ?_⟩ _
      rw [(s1K_same h k).2.2.1, s1K_w h]
    · exact s1K_shape hS h (by omega)
theorem secondF_same (hS : Shape L t) (h : cs.length = t.n) (hh : HaltsS t cs) : Shape (newC L K) (secondF t cs).2 ∧ (secondF t cs).2.rows.length = t.m ∧ (secondF t cs).2.n = t.n ∧ (secondF t cs).2.m = t.m ∧ (secondF t cs).2.cost.length = t.w + 1 := by
  have h1 := s1K_shape (K := K) hS h (Nat.le_refl t.m)
  obtain ⟨h2, h3, h4, h5⟩ := s1K_same h t.m
  unfold secondF
  split
  · exact ⟨h1, by rw [show (true, s1T t cs).2 = s1K t cs t.m from rfl, h1.m, h3], h2, h3, h4⟩
  · rename_i hn
    obtain ⟨h6, h7⟩ := phaseF_shape h1 (hh hn)
    exact ⟨h6, h6.m.trans (h7.m.trans h3), h7.n.trans h2, h7.m.trans h3, h7.cost.trans h4⟩
end
abbrev SeX := Lay × Tab × List Blk × List Fr
def preSe : SeX → Prop := fun γ => Lens γ.1 γ.2.2.1 ∧ Shape γ.1 γ.2.1 ∧ γ.2.2.2.length = γ.2.1.n ∧ HaltsS γ.2.1 γ.2.2.2
noncomputable def gSecond : List AV → List Blk → Option (Prop × AV × List Blk) :=
  anyG (fun γ : SeX => [.ptr γ.1.p 1 29 0 0, Enc.enc γ.2.2.2]) (fun γ => putT γ.1 γ.2.1 γ.2.2.1) preSe (fun γ => .bool (secondF γ.2.1 γ.2.2.2).1) (fun γ => outN γ.1 γ.2.1 γ.2.2.1 (secondF γ.2.1 γ.2.2.2).2)
theorem second_at {L : Lay} {t : Tab} {K : List Blk} {cs : List Fr} (hL : Lens L K) (hS : Shape L t) (hc : cs.length = t.n) (hh : HaltsS t cs) : gSecond [.ptr L.p 1 29 0 0, Enc.enc cs] (putT L t K) = some (True, .bool (secondF t cs).1, outN L t K (secondF t cs).2) := by
  refine anyG_at (a := fun γ : SeX => [.ptr γ.1.p 1 29 0 0, Enc.enc γ.2.2.2]) (h := fun γ : SeX => putT γ.1 γ.2.1 γ.2.2.1) (pre := preSe) (res := fun γ => .bool (secondF γ.2.1 γ.2.2.2).1) (h' := fun γ => outN γ.1 γ.2.1 γ.2.2.1 (secondF γ.2.1 γ.2.2.2).2) ?_ (γ := (L, t, K, cs)) ⟨hL, hS, hc, hh⟩
  rintro ⟨L1, t1, K1, c1⟩ ⟨L2, t2, K2, c2⟩ ⟨h1, s1, n1, hh1⟩ ⟨h2, s2, n2, _⟩ ea eh
  simp only [List.cons.injEq, AV.ptr.injEq, and_true] at ea
  obtain ⟨e1, e2, e3⟩ := put_inj h1 h2 s1 s2 ea.1 eh
  simp only at e1 e2
  subst e1 e2
  have ec : c1 = c2 := by
    have := congrArg (Enc.dec : AV → List Fr) ea.2
    simpa [Enc.dec_enc] using this
  subst ec
  have el : K1.length = K2.length := by
    have := congrArg List.length eh
    simpa [put_len] using this
  have hr := (secondF_same (K := K1) s1 n1 hh1).2.1
  refine ⟨rfl, ?_⟩
  show outN L1 t1 K1 _ = outN L1 t1 K2 _
  unfold outN newC
  rw [el, e3 { (secondF t1 c1).2 with cost := t1.cost } (by show (secondF t1 c1).2.rows.length = _; rw [hr, s1.r])]
theorem second_inv {args : List AV} {H : List Blk} {ob : Prop} {r : AV} {H' : List Blk} (e : gSecond args H = some (ob, r, H')) :
    ∃ L t K cs, Lens L K ∧ Shape L t ∧ cs.length = t.n ∧ HaltsS t cs ∧ args = [.ptr L.p 1 29 0 0, Enc.enc cs] ∧ H = putT L t K ∧ r = .bool (secondF t cs).1 ∧ H' = outN L t K (secondF t cs).2 := by
  obtain ⟨⟨L, t, K, cs⟩, ⟨h1, h2, h3, h4⟩, e1, e2, e3, e4⟩ := anyG_inv e
  exact ⟨L, t, K, cs, h1, h2, h3, h4, e1.symm, e2.symm, e3.symm, e4.symm⟩
noncomputable def CSe : Ctx := mkC Tryz.prog G0 [(99, .gen gEmpty), (101, .gen gClear), (102, .gen gPhase)]
@[simp] theorem CSe_P : CSe.P = Tryz.prog := rfl
@[simp] theorem CSe_G : CSe.G = G0 := rfl
@[simp] theorem CSe_1 : CSe.S 99 = .gen gEmpty := rfl
@[simp] theorem CSe_2 : CSe.S 101 = .gen gClear := rfl
@[simp] theorem CSe_3 : CSe.S 102 = .gen gPhase := rfl
theorem mixCSe : CSe.P.follows .mixedOrders = true := mixed
theorem sigCSe : SigOK CSe := sigOK_cons (entryGen (emptyTP) Tryz.func99 rfl (by decide)) (sigOK_cons (entryGen (clearTP) Tryz.func101 rfl (by decide)) (sigOK_cons (entryGen (phaseTP) Tryz.func102 rfl (by decide)) (sigOK_nil _ _)))
set_option maxHeartbeats 16000000 in
theorem secondTP : GenOK Tryz.prog G0 63 gSecond := by
  refine gen_of_avcD (C := CSe) sigCSe mixCSe [2, 8] Tryz.func63 rfl rfl rfl (by kernel_rfl) (fun avs H ob r H' hp hob => ?_)
  obtain ⟨L, t, K, cs, hL, hS, hcs, hh, rfl, rfl, rfl, rfl⟩ := second_inv hp
  clear hp hob ob
  refine ⟨(by show 2 ≤ _; decide), ?_⟩
  have G1 := getT hL hS
  have p1 := G1.p
  have n1 := tC_len (L := L) hS.bas
  have hem := empty_at hL hS.to0
  have hset : (putT L t K ++ [R2B (rowE t)]).set L.p ⟨118, 29, [List.take 3 (tC L t) ++ AV.own K.length (t.w + 1) :: List.drop 4 (tC L t)], true, false⟩ = putT (newC L K) { t with cost := rowE t } (baseN L t K) := by
    rw [tC_sc (K := K) (rowE t) (rowE_len t)]
    exact outN_eq (t := t) (u := { t with cost := rowE t }) hL
  have hL1 : Lens (newC L K) (baseN L t K) := newC_lens hL
  have hw := shape_w36 hS
  have hr := hS.r
  have hn1 := hS.n1
  have hl1 : (baseN L t K).length = K.length + 1 := baseN_len
  have hSE : Shape (newC L K) { t with cost := rowE t } := shape_cost hS (rowE_len t)
  have ge := getN hL1 hSE
  have ged : ∀ h, (putT (newC L K) { t with cost := rowE t } (baseN L t K))[K.length]'h = ⟨35, 2, encRows (rowE t), true, true⟩ := ge.d
  have ge3 : ∀ h, (tC (newC L K) { t with cost := rowE t })[3]'h = .own K.length (t.w + 1) := fun h => by rw [ge.e3 h]; show AV.own _ (rowE t).length = _; rw [rowE_len]
  simp [argsρ, put_len, hem, p1, n1, hset]
  refine AW_regionO sigCSe (by kernel_rfl) ?_
  have hs2 : (putT (newC L K) { t with cost := rowE t } (baseN L t K)).set K.length ⟨35, 2, encRows (cs ++ List.drop cs.length (rowE t)), true, true⟩ = putT (newC L K) (s1K t cs 0) (baseN L t K) :=
    put_set_c hL1 newC_c (rowC t cs) (by show _ = (rowE t).length; rw [rowE_len, rowC_len hcs])
  have hS0 := s1K_shape (K := K) hS hcs (Nat.zero_le t.m)
  have g0 := getN hL1 hS0
  have hwt : t.n ≤ t.w := by unfold Tab.w; omega
  simp [acopyO, ge.p, ge.n, ge3, ge.c, ge.d, hl1, put_len, hs2, g0.p, g0.n, g0.e2, hr]
  refine ⟨⟨rowE_len t, by omega, by omega⟩, ?_⟩
  refine loop_ruleH (C := CSe) sigCSe mixCSe [2, 8] (fun k : Nat => ⟨[(0, .ptr L.p 1 29 0 0), (1, Enc.enc cs), (4, .bool false), (22, .own L.q t.m), (23, .int .i64 t.m), (24, .int .i64 k)], putT (newC L K) (s1K t cs k) (baseN L t K)⟩) (fun k => k ≤ t.m) (fun k => t.m - k) (by kernel_rfl) ⟨0, by simp, weak_eq (by simp) rfl⟩ (fun k hk => ?_)
  have hf := s1K_same hcs k
  have hfw := s1K_w hcs k
  have hfs := s1K_shape (K := K) hS hcs hk
  have g := getN hL1 hfs
  have h24 := hS.m24
  by_cases hkl : k < t.m
  · have hkl' : (k : Int) < (t.m : Int) := by omega
    have i2 : I64 ((k : Int) + 1) := by unfold I64; omega
    have hkr : k < L.r.length := by omega
    have hk24 : k < 24 := by omega
    have gq := g.q
    rw [hfw] at gq
    have hbk := tC_b (L := newC L K) hfs.bas hk24
    rw [hf.2.2.2] at hbk
    have e0 := g.e0
    rw [hf.1] at e0
    have hb64 : 0 ≤ ix t.basis k := by
      have := hS.bas
      exact (hS.b64 _ (ix_mem (by omega))).1
    obtain ⟨bn, hbn⟩ : ∃ bn : Nat, ix t.basis k = bn := ⟨(ix t.basis k).toNat, by omega⟩
    have hu : useP t cs k ↔ (bn < t.n ∧ (ix cs bn).N ≠ 0) := by unfold useP; rw [hbn, Int.toNat_natCast]; omega
    rw [hbn] at hbk
    by_cases hbl : bn < t.n
    case neg =>
      have es : s1K t cs (k + 1) = s1K t cs k := by conv => { lhs; unfold s1K; rw [if_neg (fun h => hbl (hu.1 h).1)] }
      simp [put_len, hkl, gq, hr, hkr, rowAt_q, g.p, g.n, hbk, hk24, e0, hbl, i2]
      exact ⟨by omega, by omega, k + 1, by omega, by omega, weak_eq (by simp) (by rw [es])⟩
    by_cases hN : (ix cs bn).N = 0
    · have es : s1K t cs (k + 1) = s1K t cs k := by conv => { lhs; unfold s1K; rw [if_neg (fun h => (hu.1 h).2 hN)] }
      simp [put_len, hkl, gq, hr, hkr, rowAt_q, g.p, g.n, hbk, hk24, e0, hbl, hcs, rowAt_enc, hN, i2]
      exact ⟨by omega, by omega, k + 1, by omega, by omega, weak_eq (by simp) (by rw [es])⟩
    have es : s1K t cs (k + 1) = clrT (s1K t cs k) ⟨none, ix cs bn, k⟩ := by
      conv => { lhs; unfold s1K; rw [if_pos (hu.2 ⟨hbl, hN⟩)] }
      rw [hbn, Int.toNat_natCast]
    have gc := g.clr k (ix cs bn) (by rw [hf.2.1]; exact hkl) (by rw [hf.2.2.1, hfw])
    rw [hfw, ← es] at gc
    have e3 := g.e3
    rw [hf.2.2.1] at e3
    simp [put_len, hkl, gq, hr, hkr, rowAt_q, g.p, g.n, hbk, hk24, e0, hbl, hcs, rowAt_enc, hN, i2]
    refine ⟨by omega, by omega, ?_⟩
    refine AW_regionF sigCSe mixCSe [.pure, .pure, .pure, .pure, .read, .pure, .pure, .pure, .read, .pure, .eff] [[],[],[1],[1,2],[2,1,3],[],[],[6,5],[5,6,7],[],[9,7,6,5,8,3,1,2,4,0]] (by kernel_rfl) (by kernel_rfl) (by kernel_rfl) (by kernel_rfl) ?_
    simp [put_len, g.p, g.n, e3, hbl, hcs, rowAt_enc, gc, i2]
    exact ⟨k + 1, by omega, by omega, weak_eq (by simp) rfl⟩
  · have hke : k = t.m := by omega
    subst hke
    have hUT : s1K t cs t.m = s1T t cs := rfl
    obtain ⟨U, hU⟩ : ∃ U, s1T t cs = U := ⟨_, rfl⟩
    have hF : secondF t cs = if U.over = true then (true, U) else phaseF U := by rw [← hU]; rfl
    unfold HaltsS at hh
    rw [hU] at hh
    rw [hUT, hU] at hf hfw hfs g
    rw [hUT, hU]
    have fin : ∀ (V : Tab) (b : Bool), secondF t cs = (b, V) → dropT K.length (putT (newC L K) V (baseN L t K)) (.bool (secondF t cs).1) (outN L t K (secondF t cs).2) := fun V b hb => by
      rw [hb, outN_eq hL]
      exact ⟨K.length + 1, by omega, by rw [← hl1, ← put_len (newC L K) V, List.take_length], by simp [AV.cleanF, AV.clean2, AV.clean1], by rw [← hl1]; exact put_clean hL1 V⟩
    have e28 := g.e28
    by_cases hO : U.over = true
    · rw [if_pos hO] at hF
      rw [hO] at e28
      simp [put_len, g.p, g.n, e28]
      rw [hF] at fin ⊢
      exact ⟨rfl, fin U true rfl⟩
    have hO' : U.over = false := by simpa using hO
    rw [if_neg hO] at hF
    rw [hO'] at e28
    have gph := g.ph (by rw [hf.2.2.1, hfw]) (hh hO)
    simp [put_len, g.p, g.n, e28, gph, hF]
    rw [hF] at fin
    exact fin (phaseF U).2 (phaseF U).1 rfl
end Go.Proofs.YtfoipbjhaiimlaaGreatDoor


/-
  layer 30: begin — the tableau of a program, in plain words.
-/
namespace Go.Proofs.YtfoipbjhaiimlaaGreatDoor
open Go.RowKit
set_option linter.unusedSimpArgs false
set_option linter.unusedVariables false
set_option maxRecDepth 100000

section
variable {C : Ctx} {N h0 : Nat}
/-- A block is held to be open. -/
theorem weak_open {ρ : List (Nat × AV)} {H : List Blk} (l : Nat) {b : Blk} (hb : H[l]? = some b) : Weak C N h0 ⟨ρ, H⟩ ⟨ρ, H.set l { b with deep := false }⟩ := by
  intro X w0 β0 H0 a w hl hrel
  obtain ⟨β, R, S0, Tr, G, hN, hdef⟩ := hrel
  have hlt := (List.getElem?_eq_some_iff.1 hb).1
  obtain ⟨bi, hbi⟩ : ∃ bi, β[l]? = some bi := by
    refine ⟨β[l]'(by have h2 : β.length = H.length := R.len; omega), List.getElem?_eq_getElem _⟩
  have S2 := set_step R hb hbi bi { b with deep := false } rfl rfl (by simp) (fun _ => rfl) id (fun bk c e => .inr ⟨c, e⟩) (Keeps.refl _ w)
  have R2 := set_hrel R hb hbi bi { b with deep := false } S2 (fun _ _ _ _ _ => rfl) (by
    have hB := R.blk l bi b hbi hb
    cases bi with
    | nil => exact hB
    | lies bk cap =>
      obtain ⟨cur, k1, k2, k3, k4, k5, k6, k7⟩ := hB
      refine ⟨cur, k1, k2, k3, k4, k5, k6, fun i' j' r' av hr' hj' => ?_⟩
      obtain ⟨v, q1, q2, q3, q4⟩ := k7 i' j' r' av hr' hj'
      exact ⟨v, q1, q2, q3.keep S2, fun h => by cases h⟩)
    (fun bk c e => by subst e; exact R.lt l bk c hbi) (fun bk c l' c' e hne h => by subst e; exact hne (R.inj l' l bk c' c h hbi))
  exact ⟨_, R2, S0.trans S2, fun k => (Tr k).keep S2, fun g => (G g).keep (fun b hb hn => S2.keeps.block b hb (fun hm => hn (.inr hm))) S2.keeps.size (fun b hb => S2.mu b hb), hN, hdef⟩
end
def keepB (l : Lin) (i : Nat) : Bool := decide (0 < (ix l.B i).N)
def putE (l : Lin) (i : Nat) (a : Fr) : Fr := if keepB l i then a else negF a
def rowB (l : Lin) (i : Nat) : List Fr :=
  let n := l.C.length
  let w := l.C.length + l.A.length
  let r := ((mixF n (fun c => putE l i (ix (ix l.A i) c)) (List.replicate (w + 1) F01)).set (n + i) F11).set w (negF (ix l.B i))
  if keepB l i then (r.set (n + i) ⟨-1, 1⟩).set w (ix l.B i) else r
def basK (l : Lin) : Nat → List Int
  | 0 => List.replicate 24 0
  | i + 1 => (basK l i).set i (if keepB l i then (l.C.length : Int) + l.A.length + i else (l.C.length : Int) + i)
def tabB (l : Lin) (i : Nat) : Tab := ⟨l.C.length, l.A.length, (List.range i).map (rowB l), [], basK l i, false⟩
def layB (h : Nat) (l : Lin) (i : Nat) : Lay := ⟨h + 1, h + 2, none, (List.range i).map fun j => h + 3 + j * (l.C.length + 1)⟩
def FBs (l : List Fr) : List Blk := l.map FB
def garB (l : Lin) : Nat → List Blk
  | 0 => [CB l, R2B [], R2B []]
  | i + 1 => garB l i ++ (R2B [] :: FBs (ix l.A i))
structure Good (l : Lin) : Prop where
  n1 : 1 ≤ l.C.length
  n12 : l.C.length ≤ 12
  m24 : l.A.length ≤ 24
  b : l.B.length = l.A.length
  row : ∀ r ∈ l.A, r.length = l.C.length
section
variable {l : Lin}
theorem rowB_len (i : Nat) : (rowB l i).length = l.C.length + l.A.length + 1 := by
  unfold rowB
  simp only
  split
  · rw [List.length_set, List.length_set, List.length_set, List.length_set, mixF_len, List.length_replicate]
  · rw [List.length_set, List.length_set, mixF_len, List.length_replicate]
theorem basK_len : ∀ i, (basK l i).length = 24
  | 0 => List.length_replicate
  | i + 1 => by unfold basK; rw [List.length_set]; exact basK_len i
theorem basK_in (g : Good l) : ∀ {i}, i ≤ l.A.length → ∀ b ∈ basK l i, 0 ≤ b ∧ b ≤ 1000
  | 0, _, b, hb => by rw [(List.mem_replicate.1 hb).2]; omega
  | i + 1, h, b, hb => by
    rcases List.mem_or_eq_of_mem_set hb with hb | hb
    · exact basK_in g (by omega) b hb
    · have := g.n12
      have := g.m24
      rw [hb]
      split <;> omega
theorem garB_len (g : Good l) : ∀ {i}, i ≤ l.A.length → (garB l i).length = 3 + i * (l.C.length + 1)
  | 0, _ => by simp [garB]
  | i + 1, h => by
    have hr := g.row _ (ix_mem (show i < l.A.length by omega))
    unfold garB
    rw [List.length_append, garB_len g (by omega)]
    simp only [FBs, List.length_cons, List.length_map, hr]
    rw [Nat.add_mul]
    omega
theorem garB_deep : ∀ i, ∀ b ∈ garB l i, b.deep = true
  | 0, b, hb => by
    simp only [garB, List.mem_cons, List.not_mem_nil, or_false] at hb
    rcases hb with rfl | rfl | rfl <;> rfl
  | i + 1, b, hb => by
    unfold garB at hb
    rcases List.mem_append.1 hb with hb | hb
    · exact garB_deep i b hb
    · rcases List.mem_cons.1 hb with rfl | hb
      · rfl
      · unfold FBs at hb
        obtain ⟨f, _, rfl⟩ := List.mem_map.1 hb
        rfl
def CleanH (H : List Blk) : Prop := ∀ b ∈ H, b.deep = true ∨ ∀ r ∈ b.rows, ∀ c ∈ r, c.cleanF H.length = true
theorem mul_lt_step {j i c : Nat} (h : j < i) : j * c + c ≤ i * c := by
  have : (j + 1) * c ≤ i * c := Nat.mul_le_mul_right c h
  rw [Nat.add_mul, Nat.one_mul] at this
  exact this
theorem layB_lens (g : Good l) {H : List Blk} (hH : CleanH H) {i : Nat} (hi : i ≤ l.A.length) : Lens (layB H.length l i) (H ++ garB l i) := by
  have hg := garB_len g hi
  have hlen : (H ++ garB l i).length = H.length + 3 + i * (l.C.length + 1) := by rw [List.length_append, hg]; omega
  have hmem : ∀ x, x ∈ (layB H.length l i).r → ∃ j, j < i ∧ x = H.length + 3 + j * (l.C.length + 1) := fun x hx => by
    obtain ⟨j, hj, rfl⟩ := List.mem_map.1 hx
    exact ⟨j, List.mem_range.1 hj, rfl⟩
  refine ⟨by rw [hlen]; show H.length + 1 < _; omega, by rw [hlen]; show H.length + 2 < _; omega, fun c hc => (by cases hc), fun x hx => ?_, (by show H.length + 1 ≠ H.length + 2; omega), (by intro h; cases h), (by intro h; cases h), fun hx => ?_, fun hx => ?_, fun c hc => (by cases hc), ?_, fun b hb => ?_⟩
  · obtain ⟨j, hj, rfl⟩ := hmem x hx
    have := mul_lt_step (c := l.C.length + 1) hj
    rw [hlen]
    omega
  · obtain ⟨j, hj, e⟩ := hmem _ hx
    have e : H.length + 1 = _ := e
    omega
  · obtain ⟨j, hj, e⟩ := hmem _ hx
    have e : H.length + 2 = _ := e
    omega
  · show ((List.range i).map _).Nodup
    refine List.Pairwise.map _ ?_ List.pairwise_lt_range
    intro a b hab
    have := mul_lt_step (c := l.C.length + 1) hab
    omega
  · rcases List.mem_append.1 hb with hb | hb
    · exact (hH b hb).imp id fun h1 r hr c hc => cleanF_mono (by rw [List.length_append]; omega) (h1 r hr c hc)
    · exact .inl (garB_deep i b hb)
theorem tabB_shape (g : Good l) (h : Nat) {i : Nat} (hi : i ≤ l.A.length) : Shape0 (layB h l i) (tabB l i) := by
  refine ⟨by simp [tabB, layB], by simp [tabB, layB, hi], g.n1, g.n12, g.m24, fun r hr => ?_, .inl ⟨rfl, rfl⟩, basK_len i, basK_in g hi⟩
  obtain ⟨j, hj, rfl⟩ := List.mem_map.1 hr
  exact rowB_len j
end
end Go.Proofs.YtfoipbjhaiimlaaGreatDoor


/-
  layer 30: begin — how a row is added.
-/
namespace Go.Proofs.YtfoipbjhaiimlaaGreatDoor
open Go.RowKit
set_option linter.unusedSimpArgs false
set_option linter.unusedVariables false
set_option maxRecDepth 100000

theorem setR_snoc : ∀ {ls : List Nat} {rs : List (List Fr)} {x : Nat} {r : List Fr} {H : List Blk}, ls.length = rs.length → setR (ls ++ [x]) (rs ++ [r]) H = setR ls rs (H.set x (R2B r))
  | [], [], _, _, _, _ => rfl
  | [], _ :: _, _, _, _, h => by simp at h
  | _ :: _, [], _, _, _, h => by simp at h
  | l :: ls, r :: rs, x, r', H, h => by
    rw [List.cons_append, List.cons_append, setR, setR, setR_snoc (by simpa using h)]
def rowL (L : Lay) (k : Nat) : Lay := { L with r := L.r ++ [k] }
theorem add_row {L : Lay} {t t' : Tab} {K X : List Blk} {x : List Fr} (hL : Lens L K) (hc : L.c = none) (hm : L.r.length = t.rows.length) (hr : t'.rows = t.rows ++ [x]) (hw : t'.w = t.w) :
    ((putT L t K ++ (R2B x :: X)).set L.q ⟨28, 1, (L.r.map fun l => [.own l (t.w + 1)]) ++ [[.own K.length (t.w + 1)]], true, false⟩).set L.p ⟨118, 29, [tC (rowL L K.length) t'], true, false⟩ = putT (rowL L K.length) t' (K ++ (R2B [] :: X)) := by
  have hp := hL.p
  have hq := hL.q
  unfold putT rowL
  simp only
  rw [hr, setR_snoc hm, hc, hw]
  simp only [setC]
  rw [List.set_append_left _ _ (by rw [setR_len, List.length_set, List.length_set]; exact hq), List.set_append_left _ _ (by rw [List.length_set, setR_len, List.length_set, List.length_set]; exact hp)]
  rw [← setR_comm hL.qr, ← setR_comm hL.pr, List.set_set, List.set_comm _ _ hL.pq.symm, List.set_set]
  rw [List.set_append_left _ _ hp, List.set_append_left _ _ (by rw [List.length_set]; exact hq)]
  rw [List.set_append_right _ _ (by rw [List.length_set, List.length_set]; exact Nat.le_refl _), List.length_set, List.length_set, Nat.sub_self]
  rw [setR_app (fun l hl => by rw [List.length_set, List.length_set]; exact hL.r l hl)]
  congr 2
  unfold qB tB
  simp
end Go.Proofs.YtfoipbjhaiimlaaGreatDoor


/-
  layer 30: begin, the program's side.
-/
namespace Go.Proofs.YtfoipbjhaiimlaaGreatDoor
open Go.RowKit
set_option linter.unusedSimpArgs false
set_option linter.unusedVariables false
set_option maxRecDepth 100000

theorem put_out {L : Lay} {t : Tab} {K : List Blk} {k : Nat} (hp : k ≠ L.p) (hq : k ≠ L.q) (hc : L.c ≠ some k) (hr : k ∉ L.r) : (putT L t K)[k]? = K[k]? := by
  unfold putT
  rw [setR_out hr, setC_out hc, List.getElem?_set_ne hq.symm, List.getElem?_set_ne hp.symm]
theorem garB_head (l : Lin) : ∀ i, ∃ X, garB l i = CB l :: X
  | 0 => ⟨_, rfl⟩
  | i + 1 => by
    obtain ⟨X, hX⟩ := garB_head l i
    exact ⟨X ++ (R2B [] :: FBs (ix l.A i)), by unfold garB; rw [hX]; rfl⟩
theorem begin_cb {l : Lin} {H : List Blk} (i : Nat) (t : Tab) (X : List Blk) : (putT (layB H.length l i) t (H ++ garB l i) ++ X)[H.length]? = some (CB l) := by
  obtain ⟨Y, hY⟩ := garB_head l i
  rw [List.getElem?_append_left (by rw [put_len, List.length_append, hY]; simp), put_out (by show H.length ≠ H.length + 1; omega) (by show H.length ≠ H.length + 2; omega) (by intro h; cases h) (fun h => by
    obtain ⟨j, hj, e⟩ := List.mem_map.1 h
    omega), hY]
  simp
theorem begin_zero {l : Lin} {H : List Blk} : H ++ [CB l, ⟨118, 29, [tC (layB H.length l 0) (tabB l 0)], true, false⟩, ⟨28, 1, [], true, false⟩] = putT (layB H.length l 0) (tabB l 0) (H ++ garB l 0) := by
  unfold putT layB garB
  simp [setC, setR, qB, tB, tabB, layB]
theorem layB_succ {l : Lin} (g : Good l) (H : List Blk) {i : Nat} (hi : i ≤ l.A.length) : layB H.length l (i + 1) = rowL (layB H.length l i) (H ++ garB l i).length := by
  unfold layB rowL
  rw [List.length_append, garB_len g hi, List.range_succ, List.map_append]
  simp only [List.map_cons, List.map_nil]
  rw [show H.length + (3 + i * (l.C.length + 1)) = H.length + 3 + i * (l.C.length + 1) by omega]
theorem tC_sq {L : Lay} {t t2 : Tab} {k N : Nat} (hn : t2.n = t.n) (hm : t2.m = t.m) (hc : t2.cost = t.cost) (hb : t2.basis = t.basis) (ho : t2.over = t.over) (hk : L.r.length + 1 = k) : List.take 2 (tC L t) ++ AV.own L.q k :: List.drop 3 (tC L t) = tC (rowL L N) t2 := by
  unfold tC rowL
  simp [hn, hm, hc, hb, ho, hk]
theorem keep_tab {C : Ctx} {N h0 : Nat} {ρ ρ' : List (Nat × AV)} {Hh P T : List Blk} (hT : Hh = P ++ T) (h : ∀ p ∈ ρ', getA ρ p.1 = p.2) (hm : h0 ≤ P.length) (hρ : ∀ p ∈ ρ', p.2.cleanF P.length = true) (hP : ∀ b ∈ P, b.deep = true ∨ ∀ r ∈ b.rows, ∀ c ∈ r, c.cleanF P.length = true) : Weak C N h0 ⟨ρ, Hh⟩ ⟨ρ', P⟩ := by
  subst hT
  exact weak_keepF P.length h hm hρ (by rw [List.take_left]; exact hP) List.take_left
def inR (l : Lin) (i k : Nat) : List Fr := mixF k (fun c => putE l i (ix (ix l.A i) c)) (List.replicate (l.C.length + l.A.length + 1) F01)
theorem inR_len (l : Lin) (i k : Nat) : (inR l i k).length = l.C.length + l.A.length + 1 := by unfold inR; rw [mixF_len, List.length_replicate]
theorem inR_succ {l : Lin} {i k : Nat} (hk : k < l.C.length + l.A.length + 1) {v : Fr} (hv : v = putE l i (ix (ix l.A i) k)) : (inR l i k).set k v = inR l i (k + 1) := by
  unfold inR
  exact mixF_set (g := fun c => putE l i (ix (ix l.A i) c)) hv (by rw [List.length_replicate]; exact hk)
abbrev BeX := Lin × List Blk
def preBe : BeX → Prop := fun γ => Good γ.1 ∧ CleanH γ.2
def endB (l : Lin) (H : List Blk) : List Blk := putT (layB H.length l l.A.length) (tabB l l.A.length) (H ++ garB l l.A.length)
noncomputable def gBegin : List AV → List Blk → Option (Prop × AV × List Blk) :=
  anyG (fun γ : BeX => [Enc.enc γ.1]) (fun γ => γ.2) preBe (fun γ => .ptr (γ.2.length + 1) 1 29 0 0) (fun γ => endB γ.1 γ.2)
theorem begin_at {l : Lin} {H : List Blk} (g : Good l) (hH : CleanH H) : gBegin [Enc.enc l] H = some (True, .ptr (H.length + 1) 1 29 0 0, endB l H) := by
  refine anyG_at (a := fun γ : BeX => [Enc.enc γ.1]) (h := fun γ : BeX => γ.2) (pre := preBe) (res := fun γ => .ptr (γ.2.length + 1) 1 29 0 0) (h' := fun γ => endB γ.1 γ.2) ?_ (γ := (l, H)) ⟨g, hH⟩
  rintro ⟨l1, H1⟩ ⟨l2, H2⟩ _ _ ea eh
  simp only [List.cons.injEq, and_true] at ea
  have el : l1 = l2 := by
    have := congrArg (Enc.dec : AV → Lin) ea
    simpa [Enc.dec_enc] using this
  simp only at eh
  subst el eh
  exact ⟨rfl, rfl⟩
theorem begin_inv {args : List AV} {H : List Blk} {ob : Prop} {r : AV} {H' : List Blk} (e : gBegin args H = some (ob, r, H')) :
    ∃ l, Good l ∧ CleanH H ∧ args = [Enc.enc l] ∧ r = .ptr (H.length + 1) 1 29 0 0 ∧ H' = endB l H := by
  obtain ⟨⟨l, H1⟩, ⟨h1, h2⟩, e1, e2, e3, e4⟩ := anyG_inv e
  simp only at e2
  subst e2
  exact ⟨l, h1, h2, e1.symm, e3.symm, e4.symm⟩
noncomputable def CBe : Ctx := mkC Tryz.prog G0 [(99, .gen gEmpty), (65, .pure sNeg)]
@[simp] theorem CBe_P : CBe.P = Tryz.prog := rfl
@[simp] theorem CBe_G : CBe.G = G0 := rfl
@[simp] theorem CBe_1 : CBe.S 99 = .gen gEmpty := rfl
@[simp] theorem CBe_2 : CBe.S 65 = .pure sNeg := rfl
theorem mixCBe : CBe.P.follows .mixedOrders = true := mixed
theorem sigCBe : SigOK CBe := sigOK_cons (entryGen (emptyTP) Tryz.func99 rfl (by decide)) (sigOK_cons (entryPure (negP) Tryz.func65 rfl (by decide)) (sigOK_nil _ _))
set_option maxHeartbeats 16000000 in
theorem beginTP : GenOK Tryz.prog G0 61 gBegin := by
  refine gen_of_avcD (C := CBe) sigCBe mixCBe [14, 15, 17, 18, 19] Tryz.func61 rfl rfl rfl (by kernel_rfl) (fun avs H ob r H' hp hob => ?_)
  obtain ⟨l, g, hH, rfl, rfl, rfl⟩ := begin_inv hp
  clear hp hob ob
  refine ⟨(by show 1 ≤ _; decide), ?_⟩
  simp [argsρ]
  refine AW.weak (weak_nilcell (H.length + 1) 0 2 1 28 (b := ⟨118, 29, [[.int .i64 l.C.length, .int .i64 l.A.length, .slice 1 true [], .slice 2 true [], .int .i64 0, .int .i64 0, .int .i64 0, .int .i64 0, .int .i64 0, .int .i64 0, .int .i64 0, .int .i64 0, .int .i64 0, .int .i64 0, .int .i64 0, .int .i64 0, .int .i64 0, .int .i64 0, .int .i64 0, .int .i64 0, .int .i64 0, .int .i64 0, .int .i64 0, .int .i64 0, .int .i64 0, .int .i64 0, .int .i64 0, .int .i64 0, .bool false]], true, true⟩) (by simp) rfl rfl (by decide)) ?_
  refine AW.weak (weak_open (H.length + 2) (b := ⟨28, 1, [], true, true⟩) (by simp)) ?_
  refine loop_ruleH (C := CBe) sigCBe mixCBe [14, 15, 17, 18, 19] (fun i : Nat => ⟨[(1, .ptr H.length 1 3 0 0), (3, .ptr (H.length + 1) 1 29 0 0), (19, Enc.enc l.A), (20, .int .i64 l.A.length), (21, .int .i64 i)], putT (layB H.length l i) (tabB l i) (H ++ garB l i)⟩) (fun i => i ≤ l.A.length) (fun i => l.A.length - i) (by kernel_rfl) ⟨0, by simp, weak_eq (by simp) ?e0⟩ (fun i hi => ?_)
  case e0 =>
    rw [← begin_zero]
    simp [CB, tC, tabB, layB, basK, cC, List.replicate]
  have hL := layB_lens g hH hi
  have hS := tabB_shape g H.length hi
  by_cases hil : i < l.A.length
  · have cb := fun t X => begin_cb (l := l) (H := H) i t X
    have hsL := layB_succ g H hi
    have hsG : H ++ garB l (i + 1) = (H ++ garB l i) ++ (R2B [] :: FBs (ix l.A i)) := by rw [List.append_assoc]; rfl
    have hsr : (tabB l (i + 1)).rows = (tabB l i).rows ++ [rowB l i] := by unfold tabB; rw [List.range_succ, List.map_append]; rfl
    have hsb : (tabB l (i + 1)).basis = (tabB l i).basis.set i (if keepB l i then (l.C.length : Int) + l.A.length + i else (l.C.length : Int) + i) := rfl
    have htn : (tabB l i).n = l.C.length := rfl
    have htm : (tabB l i).m = l.A.length := rfl
    have htw : (tabB l i).w = l.C.length + l.A.length := rfl
    have hLp : (layB H.length l i).p = H.length + 1 := rfl
    have hLc : (layB H.length l i).c = none := rfl
    have hlr : (layB H.length l i).r.length = i := by unfold layB; simp
    obtain ⟨K, hK⟩ : ∃ K, H ++ garB l i = K := ⟨_, rfl⟩
    obtain ⟨L, hLL⟩ : ∃ L, layB H.length l i = L := ⟨_, rfl⟩
    obtain ⟨t, ht⟩ : ∃ t, tabB l i = t := ⟨_, rfl⟩
    rw [hLL, hK] at hL hsL
    rw [hLL, ht] at hS
    rw [hK] at hsG
    rw [ht] at hsr hsb htn htm htw
    rw [hLL] at hLp hLc hlr
    simp only [hLL, hK] at cb
    rw [hK, hLL, ht, ← hLp]
    have gd := get0 (t := t) hL
    have n1 := tC_len (L := L) hS.bas
    have hem := empty_at hL hS
    have hrow : (ix l.A i).length = l.C.length := g.row _ (ix_mem hil)
    have hiB : i < l.B.length := by rw [g.b]; exact hil
    have hn12 := g.n12
    have hm24 := g.m24
    have i2 : I64 ((i : Int) + 1) := by unfold I64; omega
    have hil' : (i : Int) < l.A.length := by omega
    have cb0 := cb t []
    rw [List.append_nil] at cb0
    simp [put_len, hem, hil, cb, CB, hiB, rowAt_enc]
    obtain ⟨row, hrw⟩ : ∃ row, ix l.A i = row := ⟨_, rfl⟩
    have hin := fun k (hk : k < l.C.length + l.A.length + 1) v hv => inR_succ (l := l) (i := i) hk (v := v) hv
    have hi0 : inR l i 0 = rowE t := by unfold inR rowE; rw [mixF_zero, htw]
    have hke : ∀ a, putE l i a = if keepB l i then a else negF a := fun a => rfl
    have hkd : decide (0 < (ix l.B i).N) = keepB l i := rfl
    rw [hrw] at hrow hin hsG
    rw [hrw]
    refine loop_ruleH (C := CBe) sigCBe mixCBe [14, 15, 17, 18, 19] (fun k : Nat => ⟨[(1, .ptr H.length 1 3 0 0), (3, .ptr L.p 1 29 0 0), (4, .int .i64 i), (6, .own K.length (t.w + 1)), (7, .bool (keepB l i)), (19, Enc.enc l.A), (20, .int .i64 l.A.length), (21, .int .i64 i), (35, Enc.enc row), (36, .int .i64 row.length), (37, .int .i64 k)], putT L t K ++ (R2B (inR l i k) :: FBs (row.take k))⟩) (fun k => k ≤ l.C.length) (fun k => l.C.length - k) (by kernel_rfl) ⟨0, by simp, weak_eq (by simp [hkd]) (by rw [hi0]; rfl)⟩ (fun k hk => ?_)
    have gl0 := gd.l0
    have gl := gd.l
    have gs0 := gd.sl0
    have gs := gd.sl
    have hfl : (FBs (row.take k)).length = k := by simp [FBs]; omega
    have hlen := inR_len l i k
    rw [← htw] at hlen
    by_cases hkl : k < l.C.length
    · have hkr : k < row.length := by omega
      have hkw : k < t.w + 1 := by omega
      have hkw' : k < l.C.length + l.A.length + 1 := by omega
      have i3 : I64 ((k : Int) + 1) := by unfold I64; omega
      have hft : FBs (row.take (k + 1)) = FBs (row.take k) ++ [FB (ix row k)] := by
        unfold FBs
        rw [List.take_succ_eq_append_getElem hkr, List.map_append, ix_lt hkr]
        rfl
      cases hkp : keepB l i with
      | true =>
        have hstep := hin k hkw' (ix row k) (by rw [hke, hkp]; rfl)
        simp [R2B, FB, put_len, hkr, rowAt_enc, gl0, gl, gs0, gs, hfl, hlen, hkw, i3]
        exact ⟨by omega, k + 1, by omega, by omega, weak_eq (by simp) (by simp only [hft, FB, ← hstep, R2B])⟩
      | false =>
        have hstep := hin k hkw' (negF (ix row k)) (by rw [hke, hkp]; rfl)
        simp [R2B, FB, put_len, hkr, rowAt_enc, gl0, gl, gs0, gs, hfl, hlen, hkw, i3, sNeg]
        exact ⟨by omega, k + 1, by omega, by omega, weak_eq (by simp) (by simp only [hft, FB, ← hstep, R2B])⟩
    · have hkn : k = row.length := by omega
      subst hkn
      rw [List.take_length]
      rw [List.take_length] at hfl
      obtain ⟨q, hq⟩ : ∃ q, q = t.n + i := ⟨_, rfl⟩
      obtain ⟨q2, hq2⟩ : ∃ q, q = t.w + i := ⟨_, rfl⟩
      have wq : w64 ((t.n : Int) + (i : Int)) = (q : Int) := by rw [w64_in (by unfold I64; omega), hq]; omega
      have wq2 : w64 ((t.w : Int) + (i : Int)) = (q2 : Int) := by rw [w64_in (by unfold I64; omega), hq2]; omega
      have hww := shape_w0 hS
      have hqw : q < t.w + 1 := by omega
      have htw1 : t.w < t.w + 1 := by omega
      have h24 : i < 24 := by omega
      obtain ⟨R, hR⟩ : ∃ R, inR l i row.length = R := ⟨_, rfl⟩
      have hRB : rowB l i = if keepB l i then ((((R.set q F11).set t.w (negF (ix l.B i))).set q ⟨-1, 1⟩).set t.w (ix l.B i)) else ((R.set q F11).set t.w (negF (ix l.B i))) := by
        rw [← hR, hq, htw, htn, hrow]
        rfl
      rw [hR] at hlen ⊢
      simp [R2B, put_len]
      refine AW_regionF sigCBe mixCBe [.pure, .pure, .pure, .pure, .read, .pure, .pure, .pure, .pure, .pure, .pure, .read, .pure, .pure, .pure, .read, .pure, .pure, .pure, .read, .pure, .pure, .read, .read, .pure, .eff, .pure, .eff] [[],[],[1],[1,2],[2,1,3],[],[5,3,1,2,4],[],[],[8],[8,9],[9,8,10],[],[12],[12,13],[13,12,14],[14,12,13,15,10,8,9,11],[],[],[18],[],[20,18,19],[19,18,20,21],[21,20,18,19,22],[23,21,20,18,19,22,17,14,12,13,15,10,8,9,11,4,2,1,3,5,6,0],[0,6,5,3,1,2,4,11,9,8,10,15,13,12,14,17,22,19,18,20,21,23,24],[25,24,23,22,21,20,19,18,17,6,5,4,3,2,1,0,11,9,8,10,15,13,12,14,16,7],[7,16,14,12,13,15,10,8,9,11,0,1,2,3,4,5,6,17,18,19,20,21,22,23,24,25,26]] (by kernel_rfl) (by kernel_rfl) (by kernel_rfl) (by kernel_rfl) ?_
      simp [R2B, put_len, gl0, gs0, gd.p, n1, tC_e0, tC_e1, hww, wq, hqw, htw1, hlen, cb, CB, hiB, rowAt_enc, sNeg]
      refine ⟨by omega, by omega, ?_⟩
      obtain ⟨R1, hR1⟩ : ∃ R1, (R.set q (⟨1, 1⟩ : Fr)).set t.w (negF (ix l.B i)) = R1 := ⟨_, rfl⟩
      have hl1 : R1.length = t.w + 1 := by rw [← hR1, List.length_set, List.length_set, hlen]
      rw [show F11 = (⟨1, 1⟩ : Fr) from rfl, hR1] at hRB
      rw [hR1]
      have hsb1 := tC_sb (L := L) hS.bas h24 (q : Int)
      have sp1 := fun X => gd.sp X { t with basis := t.basis.set i (q : Int) } rfl rfl rfl
      have hb1 : (t.basis.set i (q : Int)).length = 24 := by rw [List.length_set]; exact hS.bas
      have h1w : ({ t with basis := t.basis.set i (q : Int) } : Tab).w = t.w := rfl
      have h1n : ({ t with basis := t.basis.set i (q : Int) } : Tab).n = t.n := rfl
      have h1m : ({ t with basis := t.basis.set i (q : Int) } : Tab).m = t.m := rfl
      have h1r : ({ t with basis := t.basis.set i (q : Int) } : Tab).rows = t.rows := rfl
      have h1b : ({ t with basis := t.basis.set i (q : Int) } : Tab).basis = t.basis.set i (q : Int) := rfl
      obtain ⟨t1, ht1⟩ : ∃ t1, ({ t with basis := t.basis.set i (q : Int) } : Tab) = t1 := ⟨_, rfl⟩
      rw [ht1] at h1w h1n h1m h1r h1b
      rw [ht1] at hsb1
      simp only [ht1] at sp1
      have g1 := get0 (t := t1) hL
      have n2 := tC_len (L := L) (t := t1) (by rw [h1b]; exact hb1)
      refine AW_regionF sigCBe mixCBe [.pure, .pure, .pure, .pure, .pure, .read, .pure, .pure, .pure, .pure, .pure, .eff] [[],[],[],[2],[2,3],[3,2,4],[],[6,4,2,3,5],[0],[0,8],[7,6,5,4,3,2,1,8,0,9],[9,0,8,1,2,3,4,5,6,7,10]] (by kernel_rfl) (by kernel_rfl) (by kernel_rfl) (by kernel_rfl) ?_
      cases hkp : keepB l i with
      | true =>
        simp [R2B, put_len, gl0, gs0, gd.p, n1, tC_e0, tC_e1, hww, wq, h24, hsb1, sp1]
        refine ⟨by omega, by omega, ?_⟩
        have k0 := g1.l0
        have ks0 := g1.sl0
        have hww1 : w64 ((t1.n : Int) + t1.m) = t.w := by rw [h1n, h1m]; exact hww
        have wq1 : w64 ((t1.n : Int) + (i : Int)) = (q : Int) := by rw [h1n]; exact wq
        refine AW_regionF sigCBe mixCBe [.pure, .pure, .pure, .pure, .read, .pure, .pure, .pure, .pure, .pure, .pure, .read, .pure, .pure, .pure, .read, .pure, .pure, .pure, .read, .pure, .pure, .read, .pure, .eff, .pure, .eff] [[],[],[1],[1,2],[2,1,3],[],[5,3,1,2,4],[],[],[8],[8,9],[9,8,10],[],[12],[12,13],[13,12,14],[14,12,13,15,10,8,9,11],[],[],[18],[],[20,18,19],[19,18,20,21],[21,20,18,19,22,17,14,12,13,15,10,8,9,11,4,2,1,3,5,6,0],[0,6,5,3,1,2,4,11,9,8,10,15,13,12,14,17,22,19,18,20,21,23],[24,23,22,21,20,19,18,17,6,5,4,3,2,1,0,11,9,8,10,15,13,12,14,16,7],[7,16,14,12,13,15,10,8,9,11,0,1,2,3,4,5,6,17,18,19,20,21,22,23,24,25]] (by kernel_rfl) (by kernel_rfl) (by kernel_rfl) (by kernel_rfl) ?_
        simp [R2B, put_len, k0, ks0, g1.p, n2, tC_e0, tC_e1, hww1, wq1, hqw, htw1, hl1, cb, CB, hiB, rowAt_enc]
        refine ⟨by omega, by omega, ?_⟩
        obtain ⟨R3, hR3⟩ : ∃ R3, (R1.set q (⟨-1, 1⟩ : Fr)).set t.w (ix l.B i) = R3 := ⟨_, rfl⟩
        rw [hR3] at hRB
        rw [hR3]
        have hbs1 : t1.basis.length = 24 := by rw [h1b]; exact hb1
        have hsb3 := tC_sb (L := L) hbs1 h24 (q2 : Int)
        have sp3 := fun X => g1.sp X { t1 with basis := t1.basis.set i (q2 : Int) } rfl rfl rfl
        have h3w : ({ t1 with basis := t1.basis.set i (q2 : Int) } : Tab).w = t.w := h1w
        have h3n : ({ t1 with basis := t1.basis.set i (q2 : Int) } : Tab).n = t.n := h1n
        have h3m : ({ t1 with basis := t1.basis.set i (q2 : Int) } : Tab).m = t.m := h1m
        have h3r : ({ t1 with basis := t1.basis.set i (q2 : Int) } : Tab).rows = t.rows := h1r
        have h3b : ({ t1 with basis := t1.basis.set i (q2 : Int) } : Tab).basis = t.basis.set i (q2 : Int) := by show t1.basis.set i _ = _; rw [h1b, List.set_set]
        obtain ⟨t3, ht3⟩ : ∃ t3, ({ t1 with basis := t1.basis.set i (q2 : Int) } : Tab) = t3 := ⟨_, rfl⟩
        rw [ht3] at h3w h3n h3m h3r h3b
        rw [ht3] at hsb3
        simp only [ht3] at sp3
        have g3 := get0 (t := t3) hL
        have n3 := tC_len (L := L) (t := t3) (by rw [h3b, List.length_set]; exact hS.bas)
        refine AW_regionF sigCBe mixCBe [.pure, .pure, .pure, .pure, .pure, .read, .pure, .pure, .pure, .read, .pure, .pure, .pure, .pure, .pure, .pure, .eff] [[],[],[],[2],[2,3],[3,2,4],[],[6],[6,7],[7,6,8],[8,6,7,9,4,2,3,5],[],[11,5,3,2,4,9,7,6,8,10],[0],[0,13],[12,11,10,9,8,7,6,5,4,3,2,1,13,0,14],[14,0,13,1,2,3,4,5,6,7,8,9,10,11,12,15]] (by kernel_rfl) (by kernel_rfl) (by kernel_rfl) (by kernel_rfl) ?_
        simp [R2B, put_len, k0, ks0, g1.p, n2, tC_e0, tC_e1, hww1, wq2, h24, hsb3, sp3]
        refine ⟨by omega, by omega, ?_⟩
        refine AW_regionO sigCBe (by kernel_rfl) ?_
        have gpq : ∀ X b, ((putT L t3 K ++ X).set L.q b)[L.p]? = some ⟨118, 29, [tC L t3], true, false⟩ := fun X b => by rw [List.getElem?_set_ne hL.pq.symm]; exact g3.p X
        have h2b : (tabB l (i + 1)).basis = t3.basis := by rw [hsb, hkp, h3b, hq2, htw]; rfl
        have hsq := tC_sq (L := L) (t := t3) (t2 := tabB l (i + 1)) (N := K.length) (k := i + 1) (by rw [h3n, htn]; rfl) (by rw [h3m, htm]; rfl) (by rw [← ht3, ← ht1, ← ht]; rfl) h2b (by rw [← ht3, ← ht1, ← ht]; rfl) (by rw [hlr])
        have hRB : rowB l i = R3 := by rw [hRB, hkp]; rfl
        have hadd := add_row (t := t3) (t' := tabB l (i + 1)) (K := K) (x := R3) (X := FBs row ++ [⟨28, 1, [[.own K.length (t.w + 1)]], true, false⟩]) hL hLc (by rw [h3r, hS.m]) (by rw [hsr, hRB, h3r]) (by rw [h3w, htw]; rfl)
        rw [h3w] at hadd
        simp [R2B, put_len, abuildOwn, g3.p, g3.q, n3, tC_e2, hlr, g3.l, g3.sl, i2, gpq, h3w, hsq]
        have hL' := layB_lens g hH (show i + 1 ≤ l.A.length by omega)
        have hT := hadd.trans (show _ = putT (layB H.length l (i + 1)) (tabB l (i + 1)) (H ++ garB l (i + 1)) ++ [⟨28, 1, [[.own K.length (t.w + 1)]], true, false⟩] by rw [← put_app hL', hsL, hsG, List.append_assoc]; rfl)
        have hPl : (putT (layB H.length l (i + 1)) (tabB l (i + 1)) (H ++ garB l (i + 1))).length = H.length + (garB l (i + 1)).length := by rw [put_len, List.length_append]
        have hgl := garB_len g (show i + 1 ≤ l.A.length by omega)
        exact ⟨by omega, i + 1, by omega, by omega, keep_tab hT (by simp [hLp]) (by omega) (by simp [AV.cleanF, AV.clean2, AV.clean1, hPl]; omega) (by rw [put_len]; exact put_clean hL' _)⟩
      | false =>
        simp [R2B, put_len, gl0, gs0, gd.p, n1, tC_e0, tC_e1, hww, wq, h24, hsb1, sp1]
        refine ⟨by omega, by omega, ?_⟩
        refine AW_regionO sigCBe (by kernel_rfl) ?_
        have gpq : ∀ X b, ((putT L t1 K ++ X).set L.q b)[L.p]? = some ⟨118, 29, [tC L t1], true, false⟩ := fun X b => by rw [List.getElem?_set_ne hL.pq.symm]; exact g1.p X
        have h2b : (tabB l (i + 1)).basis = t1.basis := by rw [hsb, hkp, h1b, hq, htn]; rfl
        have hsq := tC_sq (L := L) (t := t1) (t2 := tabB l (i + 1)) (N := K.length) (k := i + 1) (by rw [h1n, htn]; rfl) (by rw [h1m, htm]; rfl) (by rw [← ht1, ← ht]; rfl) h2b (by rw [← ht1, ← ht]; rfl) (by rw [hlr])
        have hRB : rowB l i = R1 := by rw [hRB, hkp]; rfl
        have hadd := add_row (t := t1) (t' := tabB l (i + 1)) (K := K) (x := R1) (X := FBs row ++ [⟨28, 1, [[.own K.length (t.w + 1)]], true, false⟩]) hL hLc (by rw [h1r, hS.m]) (by rw [hsr, hRB, h1r]) (by rw [h1w, htw]; rfl)
        rw [h1w] at hadd
        simp [R2B, put_len, abuildOwn, g1.p, g1.q, n2, tC_e2, hlr, g1.l, g1.sl, i2, gpq, h1w, hsq]
        have hL' := layB_lens g hH (show i + 1 ≤ l.A.length by omega)
        have hT := hadd.trans (show _ = putT (layB H.length l (i + 1)) (tabB l (i + 1)) (H ++ garB l (i + 1)) ++ [⟨28, 1, [[.own K.length (t.w + 1)]], true, false⟩] by rw [← put_app hL', hsL, hsG, List.append_assoc]; rfl)
        have hPl : (putT (layB H.length l (i + 1)) (tabB l (i + 1)) (H ++ garB l (i + 1))).length = H.length + (garB l (i + 1)).length := by rw [put_len, List.length_append]
        have hgl := garB_len g (show i + 1 ≤ l.A.length by omega)
        exact ⟨by omega, i + 1, by omega, by omega, keep_tab hT (by simp [hLp]) (by omega) (by simp [AV.cleanF, AV.clean2, AV.clean1, hPl]; omega) (by rw [put_len]; exact put_clean hL' _)⟩
  · have hie : i = l.A.length := by omega
    subst hie
    have hgl := garB_len g hi
    have hPl : (putT (layB H.length l l.A.length) (tabB l l.A.length) (H ++ garB l l.A.length)).length = (H ++ garB l l.A.length).length := put_len _ _ _
    simp [put_len]
    exact ⟨(H ++ garB l l.A.length).length, by rw [List.length_append]; omega, by rw [← hPl, List.take_length]; rfl, by simp [AV.cleanF, AV.clean2, AV.clean1]; omega, put_clean hL _⟩
end Go.Proofs.YtfoipbjhaiimlaaGreatDoor


/-
  layer 30: what Solve computes, in plain words.
-/
namespace Go.Proofs.YtfoipbjhaiimlaaGreatDoor
open Go.RowKit
set_option linter.unusedSimpArgs false
set_option linter.unusedVariables false
set_option maxRecDepth 100000

def begF (l : Lin) : Tab := tabB l l.A.length
def xK (t : Tab) : Nat → List Fr
  | 0 => List.replicate t.n F01
  | k + 1 => if ix t.basis k < t.n then (xK t k).set (ix t.basis k).toNat (ix (ix t.rows k) t.w) else xK t k
def xF (t : Tab) : List Fr := xK t t.m
noncomputable def solveF (l : Lin) : List Fr × Fr × Int :=
  if checkF l ≠ 0 then ([], F00, checkF l)
  else if (firstF (begF l)).2.over = true then ([], F00, 24)
  else if (firstF (begF l)).1 = false then ([], F00, 23)
  else if (secondF (firstF (begF l)).2 l.C).2.over = true then ([], F00, 24)
  else if (secondF (firstF (begF l)).2 l.C).1 = false then ([], F00, 19)
  else (xF (secondF (firstF (begF l)).2 l.C).2, negF (ix (secondF (firstF (begF l)).2 l.C).2.cost (secondF (firstF (begF l)).2 l.C).2.w), 0)
/-- Both phases come to an end. -/
structure HaltsL (l : Lin) : Prop where
  f : HaltsF (begF l)
  s : (firstF (begF l)).2.over = false → (firstF (begF l)).1 = true → HaltsS (firstF (begF l)).2 l.C
structure PreSolve (l : Lin) : Prop where
  small : SmallL l
  halts : checkF l = 0 → HaltsL l
theorem goodL_of {l : Lin} (h : checkF l = 0) : Good l := by
  obtain ⟨k1, k2, k3, k4, k5, k6, k7⟩ := check_zero h
  exact ⟨by cases hC : l.C with | nil => exact absurd hC k3 | cons a r => simp, k1, k2, k4, fun r hr => (k7 r hr).1⟩
section
variable {L : Lay} {t : Tab} {K : List Blk}
theorem firstF_shape (hS : Shape L t) (hL : L.c = none) (hh : HaltsF t) : ((firstF t).2.cost = [] ∧ Shape L (firstF t).2) ∨ ((firstF t).2.cost ≠ [] ∧ Shape (newC L K) (firstF t).2) := by
  have h1 := f1K_shape (K := K) hS (Nat.le_refl t.m)
  have h2 := f1K_same t t.m
  have ne : ∀ {u : Tab} {n : Nat}, u.cost.length = n + 1 → u.cost ≠ [] := fun h h' => by rw [h'] at h; simp at h
  unfold firstF
  split
  · exact .inr ⟨ne h2.2.2.1, h1⟩
  · rename_i hn
    obtain ⟨h3, h4⟩ := phaseF_shape h1 (hh hn)
    have h5 : (phaseF (f1T t)).2.cost.length = t.w + 1 := h4.cost.trans h2.2.2.1
    split
    · exact .inr ⟨ne h5, h3⟩
    · split
      · exact .inr ⟨ne h5, h3⟩
      · have hS3 : Shape L { (phaseF (f1T t)).2 with cost := [] } := ⟨h3.m, h3.r, h3.n1, h3.n12, h3.m24, h3.row, .inl ⟨hL, rfl⟩, h3.bas, h3.b64⟩
        have hm3 : (phaseF (f1T t)).2.m = t.m := h4.m.trans h2.2.1
        obtain ⟨h6, h7⟩ := repK_shape hS3 (k := t.m) (by show t.m ≤ (phaseF (f1T t)).2.m; omega)
        exact .inl ⟨List.length_eq_zero_iff.1 (by rw [h7.cost]; rfl), h6⟩
/-- How a tableau lies after a call: the struct where it was, the caller's other blocks as they were. -/
structure Lies (L : Lay) (K : List Blk) (H : List Blk) (u : Tab) (L1 : Lay) (K1 : List Blk) : Prop where
  h : H = putT L1 u K1
  l : Lens L1 K1
  s : Shape L1 u
  p : L1.p = L.p
  q : L1.q = L.q
  r : L1.r = L.r
  c : ∀ k, k < K.length → L.c ≠ some k → L1.c ≠ some k
  n : K.length ≤ K1.length
  k : ∀ k, k < K.length → L.c ≠ some k → K1[k]? = K[k]?
theorem newC_lies (hL : Lens L K) {u : Tab} (hS : Shape (newC L K) u) : Lies L K (outN L t K u) u (newC L K) (baseN L t K) where
  h := outN_eq hL
  l := newC_lens hL
  s := hS
  p := rfl
  q := rfl
  r := rfl
  c k hk _ := by intro h; injection h with h; omega
  n := by rw [baseN_len]; omega
  k k hk hc := by
    unfold baseN
    rw [List.getElem?_append_left (by rw [setC_len]; exact hk), setC_out hc]
theorem first_lies (hL : Lens L K) (hS : Shape L t) (hc : t.cost = []) (hh : HaltsF t) : ∃ L1 K1, Lies L K (outFi L t K) (firstF t).2 L1 K1 := by
  have hLc : L.c = none := hS.cost.elim (fun h => h.1) (fun h => by rw [hc] at h; have := h.2; simp at this)
  unfold outFi
  rcases firstF_shape (K := K) hS hLc hh with ⟨h1, h2⟩ | ⟨h1, h2⟩
  · rw [if_pos h1]
    exact ⟨L, K, rfl, hL, h2, rfl, rfl, rfl, fun _ _ h => h, Nat.le_refl _, fun _ _ _ => rfl⟩
  · rw [if_neg h1]
    exact ⟨_, _, newC_lies hL h2⟩
theorem second_lies (hL : Lens L K) (hS : Shape L t) {cs : List Fr} (hc : cs.length = t.n) (hh : HaltsS t cs) : Lies L K (outN L t K (secondF t cs).2) (secondF t cs).2 (newC L K) (baseN L t K) :=
  newC_lies hL (secondF_same hS hc hh).1
/-- A block of the caller's is found again. -/
theorem Lies.out {H : List Blk} {u : Tab} {L1 : Lay} {K1 : List Blk} (h : Lies L K H u L1 K1) {k : Nat} (hk : k < K.length) (hp : k ≠ L.p) (hq : k ≠ L.q) (hr : k ∉ L.r) (hc : L.c ≠ some k) (X : List Blk) : (putT L1 u K1 ++ X)[k]? = K[k]? := by
  rw [List.getElem?_append_left (by rw [put_len]; have := h.n; omega), put_out (by rw [h.p]; exact hp) (by rw [h.q]; exact hq) (h.c k hk hc) (by rw [h.r]; exact hr), h.k k hk hc]
end
end Go.Proofs.YtfoipbjhaiimlaaGreatDoor


/-
  layer 30: Solve, the program's side.
-/
namespace Go.Proofs.YtfoipbjhaiimlaaGreatDoor
open Go.RowKit
set_option linter.unusedSimpArgs false
set_option linter.unusedVariables false
set_option maxRecDepth 100000

theorem mixF_all (n : Nat) : mixF n (fun _ => F01) (List.replicate n F00) = List.replicate n F01 := by
  refine List.ext_getElem (by rw [mixF_len]; simp) fun j h1 h2 => ?_
  rw [mixF_len, List.length_replicate] at h1
  have := mixF_ix (k := n) (g := fun _ => F01) (row := List.replicate n F00) (j := j) (by simpa using h1)
  rw [ix_lt (by rw [mixF_len]; simpa using h1), if_pos h1] at this
  rw [this]
  exact (List.getElem_replicate (a := F01) (n := n) (h := h2)).symm
theorem xK_len (t : Tab) : ∀ k, (xK t k).length = t.n
  | 0 => List.length_replicate
  | k + 1 => by
    unfold xK
    split
    · rw [List.length_set]; exact xK_len t k
    · exact xK_len t k
noncomputable def sSolve : List AV → Option (Prop × AV) := spec1 PreSolve (fun l => .tup [Enc.enc (solveF l).1, Enc.enc (solveF l).2.1, .int .i64 (solveF l).2.2])
noncomputable def CSo : Ctx := mkC Tryz.prog G0 [(60, .pure sCheckF), (61, .gen gBegin), (62, .gen gFirst), (63, .gen gSecond), (64, .pure (spec0 (Enc.enc F01))), (65, .pure sNeg)]
@[simp] theorem CSo_P : CSo.P = Tryz.prog := rfl
@[simp] theorem CSo_G : CSo.G = G0 := rfl
@[simp] theorem CSo_1 : CSo.S 60 = .pure sCheckF := rfl
@[simp] theorem CSo_2 : CSo.S 61 = .gen gBegin := rfl
@[simp] theorem CSo_3 : CSo.S 62 = .gen gFirst := rfl
@[simp] theorem CSo_4 : CSo.S 63 = .gen gSecond := rfl
@[simp] theorem CSo_5 : CSo.S 64 = .pure (spec0 (Enc.enc F01)) := rfl
@[simp] theorem CSo_6 : CSo.S 65 = .pure sNeg := rfl
theorem mixCSo : CSo.P.follows .mixedOrders = true := mixed
theorem sigCSo : SigOK CSo := sigOK_cons (entryPure (checkP) Tryz.func60 rfl (by decide)) (sigOK_cons (entryGen (beginTP) Tryz.func61 rfl (by decide)) (sigOK_cons (entryGen (firstTP) Tryz.func62 rfl (by decide)) (sigOK_cons (entryGen (secondTP) Tryz.func63 rfl (by decide)) (sigOK_cons (entryPure (zeroP) Tryz.func64 rfl (by decide)) (sigOK_cons (entryPure (negP) Tryz.func65 rfl (by decide)) (sigOK_nil _ _))))))
set_option maxHeartbeats 16000000 in
theorem solveP : PureOK Tryz.prog G0 31 sSolve := by
  refine pureH1 (C := CSo) sigCSo mixCSo Tryz.func31 rfl rfl rfl [26, 28] (by kernel_rfl) (by decide) (fun l hp => ?_)
  have hs := hp.small
  by_cases h1 : checkF l = 0
  case neg =>
    have e : solveF l = ([], F00, checkF l) := if_pos h1
    simp [sCheckF, hs, h1, e, F00]
  obtain ⟨hf, hh2⟩ := hp.halts h1
  have g := goodL_of h1
  have hCH : CleanH [CB l, FB F00] := fun b hb => by
    simp only [List.mem_cons, List.not_mem_nil, or_false] at hb
    rcases hb with rfl | rfl <;> exact .inl rfl
  have hbeg := begin_at g hCH
  have hL0 := layB_lens g hCH (Nat.le_refl l.A.length)
  have hS0 := (tabB_shape g 2 (Nat.le_refl l.A.length)).full (by simp [layB, tabB])
  have hT0 : tabB l l.A.length = begF l := rfl
  unfold endB at hbeg
  simp only [List.length_cons, List.length_nil, Nat.zero_add] at hbeg hL0
  rw [hT0] at hbeg hS0
  have hp0 : (layB 2 l l.A.length).p = 3 := rfl
  have hq0 : (layB 2 l l.A.length).q = 4 := rfl
  have hc0 : (layB 2 l l.A.length).c = none := rfl
  have hr0 : ∀ x ∈ (layB 2 l l.A.length).r, 5 ≤ x := fun x hx => by
    obtain ⟨j, _, rfl⟩ := List.mem_map.1 hx
    omega
  have hk0 : ([CB l, FB F00] ++ garB l l.A.length)[0]? = some (CB l) := rfl
  have hk1 : ([CB l, FB F00] ++ garB l l.A.length)[1]? = some (FB F00) := rfl
  have hkl : 2 ≤ ([CB l, FB F00] ++ garB l l.A.length).length := by simp
  obtain ⟨K, hK⟩ : ∃ K, [CB l, FB F00] ++ garB l l.A.length = K := ⟨_, rfl⟩
  obtain ⟨L, hL⟩ : ∃ L, layB 2 l l.A.length = L := ⟨_, rfl⟩
  rw [hK, hL] at hL0 hbeg
  rw [hK] at hk0 hk1 hkl
  rw [hL] at hS0 hp0 hq0 hc0 hr0
  obtain ⟨t, ht⟩ : ∃ t, begF l = t := ⟨_, rfl⟩
  have htc : t.cost = [] := by rw [← ht]; rfl
  have htn : t.n = l.C.length := by rw [← ht]; rfl
  have htm : t.m = l.A.length := by rw [← ht]; rfl
  rw [ht] at hf hh2 hbeg hS0
  have hfst := first_at hL0 hS0 htc hf
  obtain ⟨L1, K1, hlie⟩ := first_lies hL0 hS0 htc hf
  have hF : solveF l = if (firstF t).2.over = true then ([], F00, 24)
    else if (firstF t).1 = false then ([], F00, 23)
    else if (secondF (firstF t).2 l.C).2.over = true then ([], F00, 24)
    else if (secondF (firstF t).2 l.C).1 = false then ([], F00, 19)
    else (xF (secondF (firstF t).2 l.C).2, negF (ix (secondF (firstF t).2 l.C).2.cost (secondF (firstF t).2 l.C).2.w), 0) := by rw [← ht]; exact if_neg (fun h => h h1)
  have hsame := firstF_same hS0 hf
  obtain ⟨fb, u, hfu⟩ : ∃ fb u, firstF t = (fb, u) := ⟨_, _, rfl⟩
  rw [hfu] at hF hfst hlie hh2 hsame
  simp only at hF hfst hlie hh2 hsame
  rw [hlie.h, hp0] at hfst
  have hbeg : gBegin [.agg [.slice 1 false (encRows l.A), .slice 2 false (encRows l.B), .slice 2 false (encRows l.C)]] [⟨30, 3, [[.slice 1 false (encRows l.A), .slice 2 false (encRows l.B), .slice 2 false (encRows l.C)]], true, true⟩, ⟨35, 2, [[.int .i64 0, .int .i64 0]], true, true⟩] = some (True, .ptr 3 1 29 0 0, putT L t K) := hbeg
  have hcb := fun X => hlie.out (k := 0) (by omega) (by omega) (by omega) (fun h => by have := hr0 _ h; omega) (by rw [hc0]; intro h; cases h) X
  have hrc := fun X => hlie.out (k := 1) (by omega) (by omega) (by omega) (fun h => by have := hr0 _ h; omega) (by rw [hc0]; intro h; cases h) X
  rw [hk0] at hcb
  rw [hk1] at hrc
  have G1 := getT hlie.l hlie.s
  have p1 := G1.p0
  rw [hlie.p, hp0] at p1
  have n1 := tC_len (L := L1) hlie.s.bas
  have hcb0 := hcb []
  have hrc0 := hrc []
  rw [List.append_nil] at hcb0 hrc0
  have hn1 := hlie.n
  have hst1 : ∀ b, ((putT L1 u K1).set 1 b)[1]? = some b := fun b => List.getElem?_set_self (by rw [put_len]; omega)
  have e28 : ∀ h, (tC L1 u)[28]'h = .bool u.over := fun h => tC_e28 hlie.s.bas h
  cases hO : u.over with
  | true =>
    have hF : solveF l = ([], F00, 24) := by rw [hF, if_pos hO]
    rw [hO] at e28
    simp [sCheckF, hs, h1, hbeg, hfst, p1, n1, e28, hrc0, FB, hst1, hF]
    exact ⟨rfl, rfl⟩
  | false =>
  rw [if_neg (by rw [hO]; decide)] at hF
  rw [hO] at e28
  cases fb with
  | false =>
    have hF : solveF l = ([], F00, 23) := by rw [hF, if_pos rfl]
    simp [sCheckF, hs, h1, hbeg, hfst, p1, n1, e28, hrc0, FB, hst1, hF]
    exact ⟨rfl, rfl⟩
  | true =>
  rw [if_neg (by decide)] at hF
  have hH2 := hh2 hO rfl
  have hcs : l.C.length = u.n := by rw [hsame.2.1, htn]
  have hsec := second_at hlie.l hlie.s hcs hH2
  have hlie2 := second_lies hlie.l hlie.s hcs hH2
  have hc1 : ∀ k, k < 2 → L1.c ≠ some k := fun k hk => hlie.c k (by omega) (by rw [hc0]; intro h; cases h)
  have hr1 : ∀ k, k < 2 → k ∉ L1.r := fun k hk h => by rw [hlie.r] at h; have := hr0 _ h; omega
  have hp1 := hlie.p
  have hq1 := hlie.q
  have hkk0 : K1[0]? = some (CB l) := by rw [hlie.k 0 (by omega) (by rw [hc0]; intro h; cases h), hk0]
  have hkk1 : K1[1]? = some (FB F00) := by rw [hlie.k 1 (by omega) (by rw [hc0]; intro h; cases h), hk1]
  have hdb := fun X => hlie2.out (k := 0) (by omega) (by omega) (by omega) (hr1 0 (by omega)) (hc1 0 (by omega)) X
  have hdc := fun X => hlie2.out (k := 1) (by omega) (by omega) (by omega) (hr1 1 (by omega)) (hc1 1 (by omega)) X
  rw [hkk0] at hdb
  rw [hkk1] at hdc
  have hsame2 := secondF_same (K := K1) hlie.s hcs hH2
  obtain ⟨sb, v, hsv⟩ : ∃ sb v, secondF u l.C = (sb, v) := ⟨_, _, rfl⟩
  rw [hsv] at hF hsec hlie2 hsame2 hdb hdc
  simp only at hF hsec hlie2 hsame2 hdb hdc
  have hvp : (newC L1 K1).p = 3 := by show L1.p = 3; omega
  have hvc : (newC L1 K1).c = some K1.length := rfl
  rw [hlie2.h] at hsec
  obtain ⟨L2, hL2⟩ : ∃ L2, newC L1 K1 = L2 := ⟨_, rfl⟩
  obtain ⟨K2, hK2⟩ : ∃ K2, baseN L1 u K1 = K2 := ⟨_, rfl⟩
  rw [hL2, hK2] at hlie2 hsec hdb hdc
  rw [hL2] at hvp hvc
  rw [show L1.p = 3 by omega] at hsec
  have hsec : gSecond [.ptr 3 1 29 0 0, .slice 2 false (encRows l.C)] (putT L1 u K1) = some (True, .bool sb, putT L2 v K2) := hsec
  have hdb0 := hdb []
  have hdc0 := hdc []
  rw [List.append_nil] at hdb0 hdc0
  have hn2 := hlie2.n
  have hst2 : ∀ b, ((putT L2 v K2).set 1 b)[1]? = some b := fun b => List.getElem?_set_self (by rw [put_len]; omega)
  have G2 := getT hlie2.l hlie2.s
  have p2 := G2.p0
  rw [hvp] at p2
  have n2 := tC_len (L := L2) hlie2.s.bas
  have f28 : ∀ h, (tC L2 v)[28]'h = .bool v.over := fun h => tC_e28 hlie2.s.bas h
  cases hO2 : v.over with
  | true =>
    have hF : solveF l = ([], F00, 24) := by rw [hF, if_pos hO2]
    rw [hO2] at f28
    simp [sCheckF, hs, h1, hbeg, hfst, p1, n1, e28, hcb0, CB, hsec, p2, n2, f28, hdc0, FB, hst2, hF]
    exact ⟨rfl, rfl⟩
  | false =>
  rw [if_neg (by rw [hO2]; decide)] at hF
  rw [hO2] at f28
  cases sb with
  | false =>
    have hF : solveF l = ([], F00, 19) := by rw [hF, if_pos rfl]
    simp [sCheckF, hs, h1, hbeg, hfst, p1, n1, e28, hcb0, CB, hsec, p2, n2, f28, hdc0, FB, hst2, hF]
    exact ⟨rfl, rfl⟩
  | true =>
  rw [if_neg (by decide)] at hF
  have e0 : ∀ h, (tC L2 v)[0]'h = .int .i64 v.n := fun h => tC_e0 h
  have hvn := hlie2.s.n12
  simp [sCheckF, hs, h1, hbeg, hfst, p1, n1, e28, hcb0, CB, hsec, p2, n2, f28, e0]
  have l2 := G2.l0
  have s2 := G2.sl0
  have p2X := G2.p
  rw [hvp] at p2X
  have q2X := G2.q
  have r2X := G2.r
  have hr2 := hlie2.s.r
  have hm24 := hlie2.s.m24
  have hx0 : putT L2 v K2 ++ [⟨35, 2, List.replicate v.n [.int .i64 0, .int .i64 0], true, true⟩] = putT L2 v K2 ++ [R2B (mixF 0 (fun _ => F01) (List.replicate v.n F00))] := by rw [mixF_zero]; unfold R2B; rw [enc_rep]; rfl
  refine ⟨⟨by omega, by omega⟩, ?_⟩
  refine loop_ruleH (C := CSo) sigCSo mixCSo [26, 28] (fun k : Nat => ⟨[(1, .ptr 0 1 3 0 0), (3, .ptr 1 1 2 0 0), (4, .int .i64 0), (6, .ptr 3 1 29 0 0), (9, .own K2.length v.n), (50, .int .i64 v.n), (51, .int .i64 k)], putT L2 v K2 ++ [R2B (mixF k (fun _ => F01) (List.replicate v.n F00))]⟩) (fun k => k ≤ v.n) (fun k => v.n - k) (by kernel_rfl) ⟨0, by simp, weak_eq (by simp [put_len]) hx0⟩ (fun k hk => ?_)
  have hm := mixF_len k (fun _ => F01) (List.replicate v.n F00)
  rw [List.length_replicate] at hm
  by_cases hkl : k < v.n
  · have i2 : I64 ((k : Int) + 1) := by unfold I64; omega
    simp [R2B, put_len, l2, s2, hkl, hm, i2, rowAt_enc]
    exact ⟨k + 1, by omega, by omega, weak_eq (by simp) (by rw [mixF_set (g := fun _ => F01) (v := F01) rfl (by rw [List.length_replicate]; exact hkl)])⟩
  · have hke : k = v.n := by omega
    subst hke
    rw [mixF_all]
    simp [put_len, p2X, n2, tC_e2, hr2]
    refine loop_ruleH (C := CSo) sigCSo mixCSo [26, 28] (fun k : Nat => ⟨[(1, .ptr 0 1 3 0 0), (3, .ptr 1 1 2 0 0), (4, .int .i64 0), (6, .ptr 3 1 29 0 0), (9, .own K2.length v.n), (62, .own L2.q v.m), (63, .int .i64 v.m), (64, .int .i64 k)], putT L2 v K2 ++ [R2B (xK v k)]⟩) (fun k => k ≤ v.m) (fun k => v.m - k) (by kernel_rfl) ⟨0, by simp, weak_eq (by simp) rfl⟩ (fun k hk => ?_)
    have hxl := xK_len v k
    have hww := shape_w hlie2.s
    have e1 : ∀ h, (tC L2 v)[1]'h = .int .i64 v.m := fun h => tC_e1 h
    have htw : v.w < v.w + 1 := by omega
    by_cases hkl : k < v.m
    · have i2 : I64 ((k : Int) + 1) := by unfold I64; omega
      have hk24 : k < 24 := by omega
      have hkr : k < L2.r.length := by omega
      have hbk := tC_b (L := L2) hlie2.s.bas hk24
      have hrk := r2X
      have hrow : (ix v.rows k).length = v.w + 1 := hlie2.s.row _ (ix_mem (by rw [hlie2.s.m]; exact hkl))
      have rk := fun X => r2X X k hkl
      have hb64 : 0 ≤ ix v.basis k := (hlie2.s.b64 _ (ix_mem (by rw [hlie2.s.bas]; omega))).1
      obtain ⟨bn, hbn⟩ : ∃ bn : Nat, ix v.basis k = bn := ⟨(ix v.basis k).toNat, by omega⟩
      rw [hbn] at hbk
      by_cases hbl : bn < v.n
      · have es : xK v (k + 1) = (xK v k).set bn (ix (ix v.rows k) v.w) := by
          conv => { lhs; unfold xK; rw [if_pos (by rw [hbn]; omega), hbn, Int.toNat_natCast] }
        simp [put_len, p2X, q2X, n2, hkl, hr2, hkr, rowAt_q, hbk, hk24, e0, hbl]
        refine ⟨by omega, by omega, ?_⟩
        refine AW_regionF sigCSo mixCSo [.pure, .pure, .pure, .pure, .pure, .pure, .read, .pure, .pure, .pure, .read, .pure, .pure, .read, .pure, .eff] [[],[],[],[],[3],[3,4],[4,3,5],[],[7],[7,8],[8,7,9],[9,7,8,10,5,3,4,6],[6,4,3,5,10,8,7,9,11,2],[2,11,9,7,8,10,5,3,4,6,12],[13,12,11,10,9,8,7,6,5,4,3,2,1,0],[0,1,2,3,4,5,6,7,8,9,10,11,12,13,14]] (by kernel_rfl) (by kernel_rfl) (by kernel_rfl) (by kernel_rfl) ?_
        have hxb : bn < (xK v k).length := by omega
        simp [R2B, put_len, p2X, n2, e0, e1, hww, rk, hrow, htw, rowAt_enc, l2, s2, hxl, hbl, hxb, i2]
        exact ⟨by omega, k + 1, by omega, by omega, weak_eq (by simp) (by rw [es])⟩
      · have es : xK v (k + 1) = xK v k := by
          conv => { lhs; unfold xK; rw [if_neg (by rw [hbn]; omega)] }
        simp [put_len, p2X, q2X, n2, hkl, hr2, hkr, rowAt_q, hbk, hk24, e0, hbl, i2]
        exact ⟨by omega, by omega, k + 1, by omega, by omega, weak_eq (by simp) (by rw [es])⟩
    · have hke : k = v.m := by omega
      subst hke
      simp [put_len]
      refine AW_regionF sigCSo mixCSo [.pure, .pure, .pure, .pure, .read, .pure, .pure, .pure, .read, .pure, .pure, .pure, .read, .pure, .pure, .read, .read, .pure, .eff, .pure] [[],[],[1],[1,2],[2,1,3],[],[5],[5,6],[6,5,7],[],[9],[9,10],[10,9,11],[11,9,10,12,7,5,6,8],[8,6,5,7,12,10,9,11,13,3,1,2,4],[4,2,1,3,13,11,9,10,12,7,5,6,8,14],[14,8,6,5,7,12,10,9,11,13,3,1,2,4,15],[15,4,2,1,3,13,11,9,10,12,7,5,6,8,14,16,0],[0,17,15,4,2,1,3,13,11,9,10,12,7,5,6,8,14,16],[16,14,8,6,5,7,12,10,9,11,13,3,1,2,4,15,17,0,18]] (by kernel_rfl) (by kernel_rfl) (by kernel_rfl) (by kernel_rfl) ?_
      have hvcl : v.cost.length = v.w + 1 := by rw [hsame2.2.2.2.2]; unfold Tab.w; omega
      have c2 := fun X => G2.c X _ hvc
      have e3 : ∀ h, (tC L2 v)[3]'h = .own K1.length (v.w + 1) := fun h => by rw [tC_e3 h, hvc, hvcl]; rfl
      have hst3 : ∀ X b, ((putT L2 v K2 ++ X).set 1 b)[1]? = some b := fun X b => List.getElem?_set_self (by rw [List.length_append, put_len]; omega)
      have hg4 : ∀ b h, ((putT L2 v K2 ++ [R2B (xK v v.m)]).set 1 b)[K2.length]'h = ⟨35, 2, encRows (xK v v.m), true, true⟩ := fun b h => by
        have := List.getElem?_eq_getElem h
        rw [List.getElem?_set_ne (by omega), l2] at this
        injection this with this
        exact this.symm
      have hg3 : ∀ X b, ((putT L2 v K2 ++ X).set 1 b)[K2.length]? = X[0]? := fun X b => by rw [List.getElem?_set_ne (by omega)]; exact l2 X
      simp [put_len, p2X, n2, e0, e1, e3, hww, c2, hvcl, htw, rowAt_enc, sNeg, hdc, FB, hst3, hg3, hg4, hxl, hF, xF]
      omega
end Go.Proofs.YtfoipbjhaiimlaaGreatDoor


/-
  layer 30: Solve by fuel, for the examples.
-/
namespace Go.Proofs.YtfoipbjhaiimlaaGreatDoor
open Go.RowKit
set_option linter.unusedSimpArgs false
set_option linter.unusedVariables false
set_option maxRecDepth 100000

def firstN (n : Nat) (t : Tab) : Option (Bool × Tab) :=
  if anyK t.m (artP t) = false ∨ (f1T t).over = true then some (true, f1T t)
  else match runF n (f1T t) with
  | none => none
  | some r => if r.2.over = true then some (true, r.2)
    else if (ix r.2.cost t.w).N < 0 then some (false, r.2)
    else some (true, repK { r.2 with cost := [] } t.m)
theorem firstN_eq {n : Nat} {t : Tab} {r : Bool × Tab} (h : firstN n t = some r) : HaltsF t ∧ firstF t = r := by
  unfold firstN at h
  unfold HaltsF firstF
  by_cases h1 : anyK t.m (artP t) = false ∨ (f1T t).over = true
  · rw [if_pos h1] at h ⊢
    injection h with h
    exact ⟨fun h' => absurd h1 h', h⟩
  · rw [if_neg h1] at h ⊢
    cases h2 : runF n (f1T t) with
    | none => rw [h2] at h; cases h
    | some q =>
      rw [h2] at h
      rw [phaseF_eq h2]
      refine ⟨fun _ => ⟨q, n, h2⟩, ?_⟩
      simp only at h
      split at h
      · rename_i h3; injection h with h; rw [if_pos h3]; exact h
      · rename_i h3
        rw [if_neg h3]
        split at h
        · rename_i h4; injection h with h; rw [if_pos h4]; exact h
        · rename_i h4; injection h with h; rw [if_neg h4]; exact h
def secondN (n : Nat) (t : Tab) (cs : List Fr) : Option (Bool × Tab) := if (s1T t cs).over = true then some (true, s1T t cs) else runF n (s1T t cs)
theorem secondN_eq {n : Nat} {t : Tab} {cs : List Fr} {r : Bool × Tab} (h : secondN n t cs = some r) : HaltsS t cs ∧ secondF t cs = r := by
  unfold secondN at h
  unfold HaltsS secondF
  by_cases h1 : (s1T t cs).over = true
  · rw [if_pos h1] at h ⊢
    injection h with h
    exact ⟨fun h' => absurd h1 h', h⟩
  · rw [if_neg h1] at h ⊢
    exact ⟨fun _ => ⟨r, n, h⟩, phaseF_eq h⟩
def solveN (n : Nat) (l : Lin) : Option (List Fr × Fr × Int) :=
  if checkF l ≠ 0 then some ([], F00, checkF l)
  else match firstN n (begF l) with
  | none => none
  | some f => if f.2.over = true then some ([], F00, 24)
    else if f.1 = false then some ([], F00, 23)
    else match secondN n f.2 l.C with
    | none => none
    | some s => if s.2.over = true then some ([], F00, 24)
      else if s.1 = false then some ([], F00, 19)
      else some (xF s.2, negF (ix s.2.cost s.2.w), 0)
theorem solveN_eq {n : Nat} {l : Lin} {r : List Fr × Fr × Int} (h : solveN n l = some r) : (checkF l = 0 → HaltsL l) ∧ solveF l = r := by
  unfold solveN at h
  unfold solveF
  by_cases h1 : checkF l ≠ 0
  · rw [if_pos h1] at h ⊢
    injection h with h
    exact ⟨fun h' => absurd h' h1, h⟩
  rw [if_neg h1] at h ⊢
  cases h2 : firstN n (begF l) with
  | none => rw [h2] at h; cases h
  | some f =>
    rw [h2] at h
    obtain ⟨k1, k2⟩ := firstN_eq h2
    simp only at h
    rw [k2]
    by_cases h3 : f.2.over = true
    · rw [if_pos h3] at h ⊢
      injection h with h
      exact ⟨fun _ => ⟨k1, fun h4 _ => by rw [k2, h3] at h4; cases h4⟩, h⟩
    rw [if_neg h3] at h ⊢
    by_cases h4 : f.1 = false
    · rw [if_pos h4] at h ⊢
      injection h with h
      exact ⟨fun _ => ⟨k1, fun _ h5 => by rw [k2, h4] at h5; cases h5⟩, h⟩
    rw [if_neg h4] at h ⊢
    cases h5 : secondN n f.2 l.C with
    | none => rw [h5] at h; cases h
    | some s =>
      rw [h5] at h
      obtain ⟨k3, k4⟩ := secondN_eq h5
      simp only at h
      rw [k4]
      refine ⟨fun _ => ⟨k1, fun _ _ => by rw [k2]; exact k3⟩, ?_⟩
      split at h
      · rename_i h6; injection h with h; rw [if_pos h6]; exact h
      · rename_i h6
        rw [if_neg h6]
        split at h
        · rename_i h7; injection h with h; rw [if_pos h7]; exact h
        · rename_i h7; injection h with h; rw [if_neg h7]; exact h
def Fh : Fr := ⟨1, 2⟩
def lin2 : Lin := ⟨[[⟨-1, 1⟩]], [F11], [F11]⟩
theorem ex2 : solveN 20 lin2 = some ([], F00, 23) := by kernel_rfl
end Go.Proofs.YtfoipbjhaiimlaaGreatDoor


/-
  layer 30: the examples.
-/
namespace Go.Proofs.YtfoipbjhaiimlaaGreatDoor
open Go.RowKit
set_option linter.unusedSimpArgs false
set_option linter.unusedVariables false
set_option maxRecDepth 100000

end Go.Proofs.YtfoipbjhaiimlaaGreatDoor


/-
  layer 30: SimplexReads.
-/
namespace Go.Proofs.YtfoipbjhaiimlaaGreatDoor
open Go.RowKit
set_option linter.unusedSimpArgs false
set_option linter.unusedVariables false
set_option maxRecDepth 100000

end Go.Proofs.YtfoipbjhaiimlaaGreatDoor


/-
  layer 30: SimplexTwice.
-/
namespace Go.Proofs.YtfoipbjhaiimlaaGreatDoor
open Go.RowKit
set_option linter.unusedSimpArgs false
set_option linter.unusedVariables false
set_option maxRecDepth 100000

theorem ix_range {β : Type} [Inhabited β] {f : Nat → β} {n i : Nat} (h : i < n) : ix ((List.range n).map f) i = f i := by
  rw [ix_lt (by rw [List.length_map, List.length_range]; exact h), List.getElem_map, List.getElem_range]
end Go.Proofs.YtfoipbjhaiimlaaGreatDoor


/-
  layer 30: arguments read as fractions and programs.
-/
namespace Go.Proofs.YtfoipbjhaiimlaaGreatDoor
open Go.RowKit
set_option linter.unusedSimpArgs false
set_option linter.unusedVariables false
set_option maxRecDepth 100000

theorem reads_i : Reads Tryz.prog 3 Int I64 := reads_int (by kernel_rfl)
abbrev laidZ : List (String × DataW Unit) := [("graphdb/frac.zero", Rows.laid_graphdb_frac_zero)]
theorem trod_i {w : World} {n : Nat} {cs : List Value} {z : Int} {p : List MemPlace} (h : DataW.trod (fun _ => ()) Tryz.prog w 0 (fun _ => true) false n 3 cs = some (.lit (.int .i64 z), p)) : cs = [.int .i64 z] := by
  cases n with
  | zero => simp [DataW.trod] at h
  | succ n =>
    unfold DataW.trod at h
    have hu : Tryz.prog.underlying 3 = some (.int .i64) := by kernel_rfl
    rw [hu] at h
    split at h <;> simp_all
theorem hG_of_laid {W : World} (h : laidMetH Tryz.prog laidZ W) : ∀ g, RepD W (fun _ => False) (.pointer (some ⟨g, 0, none⟩)) (G0 g) := by
  rw [MakeChecks.laidMetH_plain _ _ _ (by kernel_rfl)] at h
  obtain ⟨ps, ⟨g0, t0, cs0, f0, p0, q0, hg, ht, hv, hd, _, _⟩, _, _⟩ := h
  have hgt : Tryz.prog.globalNamed "graphdb/frac.zero" = some 0 := by kernel_rfl
  have htt : (Tryz.prog.globals[0]?).map (·.type) = some 35 := by kernel_rfl
  obtain rfl := Option.some.inj (hgt.symm.trans hg)
  obtain rfl := Option.some.inj (htt.symm.trans ht)
  obtain ⟨y0, y1, m, hda, hl, k0, k1⟩   := ChangeShapes.trod_struct2 (P := Tryz.prog) (t := 35) Tryz.underlying35 hd
  have hl : cs0.toList.length = 2 := hl
  have k0 : DataW.trod (fun _ => ()) Tryz.prog W 0 (fun _ => true) false m 3 ((cs0.toList.drop 0).take 1) = some y0 := k0
  have k1 : DataW.trod (fun _ => ()) Tryz.prog W 0 (fun _ => true) false m 3 ((cs0.toList.drop 1).take 1) = some y1 := k1
  have e : (DataW.lit (Lit.int .i64 0) : DataW Unit) = y0.1 ∧ (DataW.lit (Lit.int .i64 1) : DataW Unit) = y1.1 := by
    have := congrArg Prod.fst hda
    simp only [Rows.laid_graphdb_frac_zero, DataW.agg.injEq, List.cons.injEq, and_true] at this
    exact this
  obtain ⟨a0, b0⟩ := y0
  obtain ⟨a1, b1⟩ := y1
  obtain ⟨rfl, rfl⟩ := e
  have c0 := trod_i k0
  have c1 := trod_i k1
  have hcs : cs0.toList = [.int .i64 0, .int .i64 1] := by
    match hc : cs0.toList with
    | [x, y] => rw [hc] at c0 c1; simp at c0 c1; rw [c0, c1]
    | [] => rw [hc] at hl; simp at hl
    | [_] => rw [hc] at hl; simp at hl
    | _ :: _ :: _ :: _ => rw [hc] at hl; simp at hl
  intro g
  unfold G0
  split
  · rename_i hg0
    subst hg0
    unfold World.var? at hv
    rw [hgt] at hv
    simp only [Option.bind_some] at hv
    split at hv
    · rename_i cs t fr hb
      injection hv with hv
      subst hv
      have hcell : ∀ j, W.cell? ⟨0, 0 + j, none⟩ = cs.toList[j]? := fun j => by
        unfold World.cell?
        simp [hb]
      refine .iptr 0 0 _ (fun j => if j = 0 then .int .i64 0 else .int .i64 1) (by have := (Array.getElem?_eq_some_iff.1 hb).1; exact this) id (fun j hj => ?_) (fun j v hj => ?_)
      · have hj : j < 2 := hj
        rw [hcell, hcs]
        match j, hj with
        | 0, _ => exact ⟨rfl, rfl⟩
        | 1, _ => exact ⟨rfl, rfl⟩
      · match j, hj with
        | 0, hj => simp at hj; rw [← hj]; exact .int _ _
        | 1, hj => simp at hj; rw [← hj]; exact .int _ _
        | j + 2, hj => simp at hj
    · cases hv
  · exact .undef _
end Go.Proofs.YtfoipbjhaiimlaaGreatDoor


/-
  layer 30: pivots by the least index come to an end. Plain words on tableaus of rational numbers; no program in sight.
-/
namespace Go.Proofs.YtfoipbjhaiimlaaGreatDoor
set_option linter.unusedVariables false

structure QT where
  T : Nat → Nat → Rat
  c : Nat → Rat
  b : Nat → Nat
def pivQ (t : QT) (r j : Nat) : QT where
  T i k := if i = r then t.T r k / t.T r j else t.T i k - t.T i j * (t.T r k / t.T r j)
  c k := t.c k - t.c j * (t.T r k / t.T r j)
  b i := if i = r then j else t.b i
structure WF (m w : Nat) (t : QT) : Prop where
  unit : ∀ i, i < m → t.b i < w → ∀ i', i' < m → t.T i' (t.b i) = if i' = i then 1 else 0
  cost : ∀ i, i < m → t.b i < w → t.c (t.b i) = 0
  rhs : ∀ i, i < m → 0 ≤ t.T i w
structure Bl (m w : Nat) (t : QT) (r j : Nat) : Prop where
  jw : j < w
  neg : t.c j < 0
  ent : ∀ k, k < j → 0 ≤ t.c k
  rm : r < m
  pos : 0 < t.T r j
  least : ∀ i, i < m → 0 < t.T i j → t.T r w / t.T r j < t.T i w / t.T i j ∨ (t.T r w / t.T r j = t.T i w / t.T i j ∧ t.b r ≤ t.b i)

theorem div_back {a p : Rat} (h : p ≠ 0) : a / p * p = a := by grind
theorem div_same {p : Rat} (h : p ≠ 0) : p / p = 1 := by grind
theorem nn_div {a p : Rat} (ha : 0 ≤ a) (hp : 0 < p) : 0 ≤ a / p := by
  rw [Rat.div_def]
  exact Rat.mul_nonneg ha (Rat.le_of_lt (Rat.inv_pos.2 hp))
theorem pos_ne {p : Rat} (hp : 0 < p) : p ≠ 0 := fun h => by rw [h] at hp; exact Rat.lt_irrefl hp

section
variable {m w : Nat} {t : QT} {r j : Nat}
theorem WF.inj (h : WF m w t) {i i' : Nat} (hi : i < m) (hi' : i' < m) (hb : t.b i < w) (e : t.b i = t.b i') : i = i' := by
  have h1 := h.unit i hi hb i hi
  have h2 := h.unit i' hi' (by rw [← e]; exact hb) i hi
  rw [← e, h1, if_pos rfl] at h2
  by_cases hh : i = i'
  · exact hh
  · rw [if_neg hh] at h2
    exact absurd h2 (by decide)
theorem WF.piv (h : WF m w t) (hB : Bl m w t r j) : WF m w (pivQ t r j) := by
  have hp := pos_ne hB.pos
  refine ⟨fun i hi hb i' hi' => ?_, fun i hi hb => ?_, fun i hi => ?_⟩
  · show (if i' = r then _ else _) = _
    by_cases hir : i = r
    · subst hir
      have e : (pivQ t i j).b i = j := if_pos rfl
      rw [e]
      by_cases hi2 : i' = i
      · subst hi2
        rw [if_pos rfl, if_pos rfl]
        exact div_same hp
      · rw [if_neg hi2, if_neg hi2, div_same hp]
        grind
    · have e : (pivQ t r j).b i = t.b i := if_neg hir
      rw [e] at hb ⊢
      have h0 : t.T r (t.b i) = 0 := by
        have := h.unit i hi hb r hB.rm
        rwa [if_neg (fun h => hir h.symm)] at this
      rw [h0]
      by_cases hi2 : i' = r
      · subst hi2
        rw [if_pos rfl, if_neg (fun h => hir h.symm)]
        grind
      · rw [if_neg hi2, h.unit i hi hb i' hi']
        grind
  · show t.c _ - t.c j * (t.T r _ / t.T r j) = 0
    by_cases hir : i = r
    · subst hir
      have e : (pivQ t i j).b i = j := if_pos rfl
      rw [e, div_same hp]
      grind
    · have e : (pivQ t r j).b i = t.b i := if_neg hir
      rw [e] at hb ⊢
      have h0 : t.T r (t.b i) = 0 := by
        have := h.unit i hi hb r hB.rm
        rwa [if_neg (fun h => hir h.symm)] at this
      rw [h0, h.cost i hi hb]
      grind
  · show 0 ≤ (if i = r then _ else _)
    have hth := nn_div (h.rhs r hB.rm) hB.pos
    split
    · exact hth
    · have hrw := h.rhs i hi
      by_cases hij : 0 < t.T i j
      · have hle : t.T r w / t.T r j ≤ t.T i w / t.T i j := by
          rcases hB.least i hi hij with h1 | ⟨h1, _⟩
          · exact Rat.le_of_lt h1
          · rw [h1]; exact Rat.le_refl
        have := Rat.mul_le_mul_of_nonneg_left hle (Rat.le_of_lt hij)
        have e : t.T i j * (t.T i w / t.T i j) = t.T i w := by rw [Rat.mul_comm]; exact div_back (pos_ne hij)
        rw [e] at this
        grind
      · have : 0 ≤ (- t.T i j) * (t.T r w / t.T r j) := Rat.mul_nonneg (by grind) hth
        grind
end

/-! ### Sums -/
def Sm : Nat → (Nat → Rat) → Rat
  | 0, _ => 0
  | n + 1, f => Sm n f + f n
theorem Sm_congr {f g : Nat → Rat} : ∀ {n : Nat}, (∀ i, i < n → f i = g i) → Sm n f = Sm n g
  | 0, _ => rfl
  | n + 1, h => by unfold Sm; rw [Sm_congr (fun i hi => h i (by omega)), h n (by omega)]
theorem Sm_zero : ∀ (n : Nat), Sm n (fun _ => 0) = 0
  | 0 => rfl
  | n + 1 => by unfold Sm; rw [Sm_zero n]; grind
theorem Sm_add (f g : Nat → Rat) : ∀ n, Sm n (fun i => f i + g i) = Sm n f + Sm n g
  | 0 => by unfold Sm; grind
  | n + 1 => by unfold Sm; rw [Sm_add f g n]; grind
theorem Sm_mul (a : Rat) (f : Nat → Rat) : ∀ n, Sm n (fun i => a * f i) = a * Sm n f
  | 0 => by unfold Sm; grind
  | n + 1 => by unfold Sm; rw [Sm_mul a f n]; grind
theorem Sm_pick {f : Nat → Rat} : ∀ {n i : Nat}, i < n → (∀ k, k < n → k ≠ i → f k = 0) → Sm n f = f i
  | 0, _, h, _ => by omega
  | n + 1, i, h, hz => by
    unfold Sm
    by_cases hi : i = n
    · subst hi
      rw [Sm_congr (g := fun _ => 0) (fun k hk => hz k (by omega) (by omega)), Sm_zero]
      grind
    · rw [Sm_pick (i := i) (by omega) (fun k hk hki => hz k (by omega) hki), hz n (by omega) (by omega)]
      grind
theorem Sm_pos {f : Nat → Rat} : ∀ {n : Nat}, 0 < Sm n f → ∃ i, i < n ∧ 0 < f i
  | 0, h => absurd h (by unfold Sm; decide)
  | n + 1, h => by
    unfold Sm at h
    by_cases hf : 0 < f n
    · exact ⟨n, by omega, hf⟩
    · obtain ⟨i, hi, hfi⟩ := Sm_pos (n := n) (f := f) (by grind)
      exact ⟨i, by omega, hfi⟩
theorem Sm_nonneg {f : Nat → Rat} : ∀ {n : Nat}, (∀ i, i < n → 0 ≤ f i) → 0 ≤ Sm n f
  | 0, _ => by unfold Sm; exact Rat.le_refl
  | n + 1, h => by
    have h1 := Sm_nonneg (n := n) (f := f) (fun i hi => h i (by omega))
    have h2 := h n (by omega)
    unfold Sm
    grind

/-! ### What rows span -/
inductive Sp (T : Nat → Nat → Rat) (N : Nat → Prop) : (Nat → Rat) → Prop
  | zero : Sp T N (fun _ => 0)
  | add {f : Nat → Rat} (l : Nat) (a : Rat) : N l → Sp T N f → Sp T N (fun k => f k + a * T l k)
section
variable {T T' : Nat → Nat → Rat} {N : Nat → Prop} {f g : Nat → Rat}
theorem Sp.eq (h : Sp T N f) (e : ∀ k, g k = f k) : Sp T N g := by
  rw [show g = f from funext e]
  exact h
theorem Sp.plus (hf : Sp T N f) (hg : Sp T N g) : Sp T N (fun k => f k + g k) := by
  induction hg with
  | zero => exact hf.eq (fun k => by grind)
  | add l a hl hg ih => exact (ih.add l a hl).eq (fun k => by grind)
theorem Sp.smul (a : Rat) (hf : Sp T N f) : Sp T N (fun k => a * f k) := by
  induction hf with
  | zero => exact Sp.zero.eq (fun k => by grind)
  | add l b hl hg ih => exact (ih.add l (a * b) hl).eq (fun k => by grind)
theorem Sp.row {l : Nat} (hl : N l) : Sp T N (T l) := (Sp.zero.add l 1 hl).eq (fun k => by grind)
theorem Sp.trans (h : ∀ l, N l → Sp T N (T' l)) (hf : Sp T' N f) : Sp T N f := by
  induction hf with
  | zero => exact Sp.zero
  | add l a hl _ ih => exact (ih.plus ((h l hl).smul a)).eq (fun k => by grind)
theorem Sp.coef {m : Nat} (hN : ∀ l, N l → l < m) (hf : Sp T N f) : ∃ L : Nat → Rat, (∀ l, ¬ N l → L l = 0) ∧ ∀ k, f k = Sm m (fun l => L l * T l k) := by
  induction hf with
  | zero => exact ⟨fun _ => 0, fun _ _ => rfl, fun k => by rw [Sm_congr (g := fun _ => 0) (fun i _ => by grind), Sm_zero]⟩
  | @add f l a hl _ ih =>
    obtain ⟨L, h1, h2⟩ := ih
    refine ⟨fun x => L x + if x = l then a else 0, fun x hx => ?_, fun k => ?_⟩
    · show L x + (if x = l then a else 0) = 0
      rw [h1 x hx, if_neg (fun e => hx (by rw [e]; exact hl))]
      grind
    · have e : Sm m (fun x => (L x + if x = l then a else 0) * T x k) = Sm m (fun x => L x * T x k) + Sm m (fun x => (if x = l then a else 0) * T x k) := by
        rw [← Sm_add]
        exact Sm_congr (fun i _ => by grind)
      show f k + a * T l k = _
      rw [e, Sm_pick (f := fun x => (if x = l then a else 0) * T x k) (hN l hl) (fun x _ hx => by show (if x = l then a else 0) * T x k = 0; rw [if_neg hx]; grind), h2 k]
      show _ = _ + (if l = l then a else 0) * T l k
      rw [if_pos rfl]
end
/-- The coefficients stand in the basic columns. -/
theorem Sp.coefB {m w : Nat} {t : QT} {N : Nat → Prop} {f : Nat → Rat} (h : WF m w t) (hN : ∀ l, N l → l < m ∧ t.b l < w) (hf : Sp t.T N f) : ∃ L : Nat → Rat, (∀ l, ¬ N l → L l = 0) ∧ (∀ l, N l → L l = f (t.b l)) ∧ ∀ k, f k = Sm m (fun l => L l * t.T l k) := by
  obtain ⟨L, h1, h2⟩ := hf.coef (fun l hl => (hN l hl).1)
  refine ⟨L, h1, fun l hl => ?_, h2⟩
  obtain ⟨k1, k2⟩ := hN l hl
  rw [h2, Sm_pick k1 (fun x hx hxl => by rw [h.unit l k1 k2 x hx, if_neg hxl]; grind), h.unit l k1 k2 l k1, if_pos rfl]
  grind
section
variable {m w : Nat} {t : QT} {r j : Nat} {N : Nat → Prop}
theorem piv_sp (hr : N r) (hp : t.T r j ≠ 0) : ∀ l, N l → Sp t.T N ((pivQ t r j).T l) := fun l hl => by
  by_cases hlr : l = r
  · subst hlr
    refine ((Sp.row hl).smul (1 / t.T l j)).eq (fun k => ?_)
    show (if l = l then _ else _) = _
    rw [if_pos rfl]
    grind
  · refine ((Sp.row hl).plus ((Sp.row hr).smul (- (t.T l j / t.T r j)))).eq (fun k => ?_)
    show (if l = r then _ else _) = _
    rw [if_neg hlr]
    grind
theorem piv_sp' (hr : N r) (hp : t.T r j ≠ 0) : ∀ l, N l → Sp (pivQ t r j).T N (t.T l) := fun l hl => by
  have er : ∀ k, (pivQ t r j).T r k = t.T r k / t.T r j := fun k => if_pos rfl
  by_cases hlr : l = r
  · subst hlr
    refine ((Sp.row hl).smul (t.T l j)).eq (fun k => ?_)
    rw [er]
    grind
  · refine ((Sp.row hl).plus ((Sp.row hr).smul (t.T l j))).eq (fun k => ?_)
    rw [er]
    have : (pivQ t r j).T l k = t.T l k - t.T l j * (t.T r k / t.T r j) := if_neg hlr
    rw [this]
    grind
theorem piv_cost (hr : N r) (hp : t.T r j ≠ 0) : Sp t.T N (fun k => (pivQ t r j).c k - t.c k) :=
  ((Sp.row hr).smul (- (t.c j / t.T r j))).eq (fun k => by
    show t.c k - t.c j * (t.T r k / t.T r j) - t.c k = _
    grind)
end

/-! ### No way round -/
theorem change_at {P : Nat → Prop} : ∀ {a b : Nat}, a ≤ b → P a → ¬ P b → ∃ n, a ≤ n ∧ n < b ∧ P n ∧ ¬ P (n + 1)
  | a, 0, h, ha, hb => absurd (by rw [show a = 0 by omega] at ha; exact ha) hb
  | a, b + 1, h, ha, hb => by
    by_cases hab : a = b + 1
    · rw [hab] at ha; exact absurd ha hb
    · by_cases hP : P b
      · exact ⟨b, by omega, by omega, hP, hb⟩
      · obtain ⟨n, h1, h2, h3⟩ := change_at (a := a) (b := b) (by omega) ha hP
        exact ⟨n, h1, by omega, h3⟩
theorem max_of {P : Nat → Prop} : ∀ {w : Nat}, (∀ v, P v → v < w) → (∃ v, P v) → ∃ v, P v ∧ ∀ u, P u → u ≤ v
  | 0, h, ⟨v, hv⟩ => absurd (h v hv) (by omega)
  | w + 1, h, ⟨v, hv⟩ => by
    by_cases hw : P w
    · exact ⟨w, hw, fun u hu => by have := h u hu; omega⟩
    · exact max_of (w := w) (fun u hu => by
        have := h u hu
        by_cases e : u = w
        · rw [e] at hu; exact absurd hu hw
        · omega) ⟨v, hv⟩
structure Run (m w d : Nat) (t : Nat → QT) (r j : Nat → Nat) : Prop where
  bl : ∀ n, n < d → Bl m w (t n) (r n) (j n)
  st : ∀ n, n < d → t (n + 1) = pivQ (t n) (r n) (j n)
  wf : WF m w (t 0)
section
variable {m w d : Nat} {t : Nat → QT} {r j : Nat → Nat}
theorem Run.wfn (R : Run m w d t r j) : ∀ {n}, n ≤ d → WF m w (t n)
  | 0, _ => R.wf
  | n + 1, h => by rw [R.st n (by omega)]; exact (R.wfn (n := n) (by omega)).piv (R.bl n (by omega))
theorem Run.bn (R : Run m w d t r j) {n : Nat} (h : n < d) (i : Nat) : (t (n + 1)).b i = if i = r n then j n else (t n).b i := by rw [R.st n h]; rfl
theorem Run.stay (R : Run m w d t r j) {i : Nat} : ∀ {n k}, n + k ≤ d → (t n).b i < w → (t (n + k)).b i < w
  | n, 0, _, h => h
  | n, k + 1, hk, h => by
    rw [show n + (k + 1) = (n + k) + 1 by omega, R.bn (by omega)]
    split
    · exact (R.bl (n + k) (by omega)).jw
    · exact R.stay (by omega) h
/-- No basis comes twice. -/
theorem Run.not_back (R : Run m w d t r j) (hd : 0 < d) (hb : ∀ i, i < m → (t d).b i = (t 0).b i) : False := by
  obtain ⟨N, hN⟩ : ∃ N : Nat → Prop, N = fun l => l < m ∧ (t 0).b l < w := ⟨_, rfl⟩
  have hNr : ∀ n, n < d → N (r n) := fun n hn => by
    have h1 : (t (n + 1)).b (r n) < w := by rw [R.bn hn, if_pos rfl]; exact (R.bl n hn).jw
    have h2 := R.stay (n := n + 1) (k := d - (n + 1)) (by omega) h1
    rw [show n + 1 + (d - (n + 1)) = d by omega, hb _ (R.bl n hn).rm] at h2
    rw [hN]
    exact ⟨(R.bl n hn).rm, h2⟩
  have hNn : ∀ n, n ≤ d → ∀ l, N l → l < m ∧ (t n).b l < w := fun n hn l hl => by
    rw [hN] at hl
    have := R.stay (n := 0) (k := n) (i := l) (by omega) hl.2
    rw [Nat.zero_add] at this
    exact ⟨hl.1, this⟩
  have hsp : ∀ n, n ≤ d → (∀ l, N l → Sp (t 0).T N ((t n).T l)) ∧ (∀ l, N l → Sp (t n).T N ((t 0).T l)) ∧ Sp (t 0).T N (fun k => (t n).c k - (t 0).c k) := by
    intro n
    induction n with
    | zero => exact fun _ => ⟨fun l hl => Sp.row hl, fun l hl => Sp.row hl, Sp.zero.eq (fun k => by grind)⟩
    | succ n ih =>
      intro hn
      obtain ⟨h1, h2, h3⟩ := ih (by omega)
      have hr := hNr n (by omega)
      have hp := pos_ne (R.bl n (by omega)).pos
      rw [R.st n (by omega)]
      refine ⟨fun l hl => Sp.trans h1 (piv_sp hr hp l hl), fun l hl => Sp.trans (piv_sp' hr hp) (h2 l hl), ?_⟩
      exact (h3.plus (Sp.trans h1 (piv_cost hr hp))).eq (fun k => by grind)
  have hcc : ∀ n n', n ≤ d → n' ≤ d → Sp (t n).T N (fun k => (t n').c k - (t n).c k) := fun n n' hn hn' =>
    Sp.trans (hsp n hn).2.1 (((hsp n' hn').2.2.plus ((hsp n hn).2.2.smul (-1))).eq (fun k => by grind))
  -- the costs are back where they were
  have hcd : (t d).c w = (t 0).c w := by
    obtain ⟨L, h1, h2, h3⟩ := (hcc 0 d (by omega) (by omega)).coefB R.wf (hNn 0 (by omega))
    have h4 := h3 w
    rw [Sm_congr (g := fun _ => 0) (fun l hl => ?_), Sm_zero] at h4
    · grind
    · by_cases hl' : N l
      · have h5 := h2 l hl'
        obtain ⟨q1, q2⟩ := hNn 0 (by omega) l hl'
        obtain ⟨q3, q4⟩ := hNn d (by omega) l hl'
        rw [R.wf.cost l q1 q2] at h5
        have h6 := (R.wfn (n := d) (by omega)).cost l q3 q4
        rw [hb l q1] at h6
        rw [h6] at h5
        rw [h5]
        grind
      · rw [h1 l hl']
        grind
  have hcs : ∀ n, n < d → (t (n + 1)).c w = (t n).c w - (t n).c (j n) * ((t n).T (r n) w / (t n).T (r n) (j n)) := fun n hn => by rw [R.st n hn]; rfl
  have hth : ∀ n, n < d → 0 ≤ (t n).T (r n) w / (t n).T (r n) (j n) := fun n hn => nn_div ((R.wfn (n := n) (by omega)).rhs _ (R.bl n hn).rm) (R.bl n hn).pos
  have hup : ∀ n, n < d → (t n).c w ≤ (t (n + 1)).c w := fun n hn => by
    have h1 := hcs n hn
    have h2 : 0 ≤ - (t n).c (j n) * ((t n).T (r n) w / (t n).T (r n) (j n)) := Rat.mul_nonneg (by have := (R.bl n hn).neg; grind) (hth n hn)
    grind
  have hmono : ∀ k n, n + k ≤ d → (t n).c w ≤ (t (n + k)).c w := by
    intro k
    induction k with
    | zero => exact fun n _ => Rat.le_refl
    | succ k ih => exact fun n hk => Rat.le_trans (ih n (by omega)) (hup (n + k) (by omega))
  have hz : ∀ n, n < d → (t n).T (r n) w / (t n).T (r n) (j n) = 0 := fun n hn => by
    have h1 := hmono n 0 (by omega)
    have h2 := hmono (d - (n + 1)) (n + 1) (by omega)
    rw [Nat.zero_add] at h1
    rw [show n + 1 + (d - (n + 1)) = d by omega, hcd] at h2
    have h3 := hcs n hn
    have h4 := hup n hn
    have h5 : (t n).c (j n) * ((t n).T (r n) w / (t n).T (r n) (j n)) = 0 := by grind
    rcases Rat.mul_eq_zero.1 h5 with h6 | h6
    · have := (R.bl n hn).neg
      rw [h6] at this
      exact absurd this Rat.lt_irrefl
    · exact h6
  have hrc : ∀ n, n ≤ d → ∀ i, i < m → (t n).T i w = (t 0).T i w := by
    intro n
    induction n with
    | zero => exact fun _ _ _ => rfl
    | succ n ih =>
      intro hn i hi
      have h1 := hz n (by omega)
      have h2 := ih (by omega) i hi
      rw [R.st n (by omega)]
      show (if i = r n then _ else _) = _
      rw [h1]
      split
      · rename_i h
        rw [← h2, h]
        have := div_back (a := (t n).T (r n) w) (pos_ne (R.bl n (by omega)).pos)
        rw [h1] at this
        grind
      · rw [h2]
        grind
  have hr0 : ∀ n, n < d → (t 0).T (r n) w = 0 := fun n hn => by
    have := div_back (a := (t n).T (r n) w) (pos_ne (R.bl n hn).pos)
    rw [hz n hn, hrc n (by omega) _ (R.bl n hn).rm] at this
    grind
  -- what is basic at some times and at others not
  obtain ⟨bas, hbas⟩ : ∃ bas : Nat → Nat → Prop, bas = fun n v => ∃ i, i < m ∧ (t n).b i = v := ⟨_, rfl⟩
  have nb : ∀ n, n ≤ d → ∀ v, v < w → (t n).c v ≠ 0 → ¬ bas n v := fun n hn v hv hc h => by
    rw [hbas] at h
    obtain ⟨i, hi, e⟩ := h
    exact hc (by rw [← e]; exact (R.wfn hn).cost i hi (by rw [e]; exact hv))
  have ej : ∀ n, n < d → ¬ bas n (j n) := fun n hn => nb n (by omega) _ (R.bl n hn).jw (fun h => by have := (R.bl n hn).neg; rw [h] at this; exact Rat.lt_irrefl this)
  have ej' : ∀ n, n < d → bas (n + 1) (j n) := fun n hn => by rw [hbas]; exact ⟨r n, (R.bl n hn).rm, by rw [R.bn hn, if_pos rfl]⟩
  have lv : ∀ n, n < d → ∀ v, bas n v → ¬ bas (n + 1) v → (t n).b (r n) = v := fun n hn v h1 h2 => by
    rw [hbas] at h1 h2
    obtain ⟨i, hi, e⟩ := h1
    by_cases hir : i = r n
    · rw [← hir]; exact e
    · exact absurd ⟨i, hi, by rw [R.bn hn, if_neg hir]; exact e⟩ h2
  have en : ∀ n, n < d → ∀ v, ¬ bas n v → bas (n + 1) v → j n = v := fun n hn v h1 h2 => by
    rw [hbas] at h1 h2
    obtain ⟨i, hi, e⟩ := h2
    rw [R.bn hn] at e
    by_cases hir : i = r n
    · rwa [if_pos hir] at e
    · rw [if_neg hir] at e
      exact absurd ⟨i, hi, e⟩ h1
  have b0d : ∀ v, bas d v ↔ bas 0 v := fun v => by
    rw [hbas]
    exact ⟨fun ⟨i, hi, e⟩ => ⟨i, hi, by rw [← hb i hi]; exact e⟩, fun ⟨i, hi, e⟩ => ⟨i, hi, by rw [hb i hi]; exact e⟩⟩
  obtain ⟨fk, hfk⟩ : ∃ fk : Nat → Prop, fk = fun v => v < w ∧ (∃ n, n ≤ d ∧ bas n v) ∧ ∃ n, n ≤ d ∧ ¬ bas n v := ⟨_, rfl⟩
  have fkj : ∀ n, n < d → fk (j n) := fun n hn => by rw [hfk]; exact ⟨(R.bl n hn).jw, ⟨n + 1, by omega, ej' n hn⟩, ⟨n, by omega, ej n hn⟩⟩
  have fk1 : ∀ v, fk v → ∃ n, n < d ∧ bas n v ∧ ¬ bas (n + 1) v := fun v h => by
    rw [hfk] at h
    obtain ⟨_, ⟨a, ha, hav⟩, ⟨b, hb', hbv⟩⟩ := h
    by_cases h0 : bas 0 v
    · obtain ⟨n, h1, h2, h3⟩ := change_at (P := fun n => bas n v) (Nat.zero_le b) h0 hbv
      exact ⟨n, by omega, h3⟩
    · obtain ⟨n, h1, h2, h3⟩ := change_at (P := fun n => bas n v) ha hav (fun h => h0 ((b0d v).1 h))
      exact ⟨n, by omega, h3⟩
  have fk2 : ∀ v, fk v → ∃ n, n < d ∧ ¬ bas n v ∧ bas (n + 1) v := fun v h => by
    rw [hfk] at h
    obtain ⟨_, ⟨a, ha, hav⟩, ⟨b, hb', hbv⟩⟩ := h
    by_cases h0 : bas 0 v
    · obtain ⟨n, h1, h2, h3, h4⟩ := change_at (P := fun n => ¬ bas n v) hb' hbv (fun h => h ((b0d v).2 h0))
      exact ⟨n, by omega, h3, Classical.byContradiction h4⟩
    · obtain ⟨n, h1, h2, h3, h4⟩ := change_at (P := fun n => ¬ bas n v) (Nat.zero_le a) h0 (fun h => h hav)
      exact ⟨n, by omega, h3, Classical.byContradiction h4⟩
  obtain ⟨v, hv, hmax⟩ := max_of (P := fk) (w := w) (fun v h => by rw [hfk] at h; exact h.1) ⟨_, fkj 0 hd⟩
  have hvw : v < w := by rw [hfk] at hv; exact hv.1
  obtain ⟨n1, hn1, q1, q2⟩ := fk1 v hv
  obtain ⟨n2, hn2, q3, q4⟩ := fk2 v hv
  have e1 := lv n1 hn1 v q1 q2
  have e2 := en n2 hn2 v q3 q4
  have B1 := R.bl n1 hn1
  have B2 := R.bl n2 hn2
  have W1 := R.wfn (n := n1) (by omega)
  have W2 := R.wfn (n := n2) (by omega)
  have hs := hmax _ (fkj n1 hn1)
  have hsv : j n1 ≠ v := fun h => ej n1 hn1 (by rw [h]; exact q1)
  have hc2 : 0 ≤ (t n2).c (j n1) := B2.ent _ (by omega)
  obtain ⟨L, h1, h2, h3⟩ := (hcc n1 n2 (by omega) (by omega)).coefB W1 (hNn n1 (by omega))
  have h4 := h3 (j n1)
  have hpos : 0 < Sm m (fun l => L l * (t n1).T l (j n1)) := by
    rw [← h4]
    have := B1.neg
    grind
  obtain ⟨l, hl, hlp⟩ := Sm_pos hpos
  by_cases hNl : N l
  case neg =>
    rw [h1 l hNl, Rat.zero_mul] at hlp
    exact Rat.lt_irrefl hlp
  obtain ⟨_, hlw⟩ := hNn n1 (by omega) l hNl
  have hLl := h2 l hNl
  rw [W1.cost l hl hlw] at hLl
  have hLl : L l = (t n2).c ((t n1).b l) := by rw [hLl]; grind
  rw [hLl] at hlp
  have hu1 : bas n1 ((t n1).b l) := by rw [hbas]; exact ⟨l, hl, rfl⟩
  have hu2 : ¬ bas n2 ((t n1).b l) := nb n2 (by omega) _ hlw (fun h => by rw [h, Rat.zero_mul] at hlp; exact Rat.lt_irrefl hlp)
  have hufk : fk ((t n1).b l) := by rw [hfk]; exact ⟨hlw, ⟨n1, by omega, hu1⟩, ⟨n2, by omega, hu2⟩⟩
  have huv := hmax _ hufk
  by_cases hue : (t n1).b l = v
  · have hlr : l = r n1 := W1.inj hl B1.rm hlw (by rw [hue, e1])
    rw [hue] at hlp
    have g1 := B1.pos
    have g2 := B2.neg
    rw [e2] at g2
    rw [hlr] at hlp
    have : 0 ≤ - (t n2).c v * (t n1).T (r n1) (j n1) := Rat.mul_nonneg (by grind) (Rat.le_of_lt g1)
    grind
  · have g1 : 0 ≤ (t n2).c ((t n1).b l) := B2.ent _ (by omega)
    have g2 : 0 < (t n1).T l (j n1) := by
      apply Classical.byContradiction
      intro hn
      have : 0 ≤ (t n2).c ((t n1).b l) * - (t n1).T l (j n1) := Rat.mul_nonneg g1 (by grind)
      grind
    -- row l is pivoted at some time: its right side is zero
    have hrow : ∃ n, n < d ∧ r n = l := by
      apply Classical.byContradiction
      intro hn
      have keep : ∀ n, n ≤ d → (t n).b l = (t 0).b l := by
        intro n
        induction n with
        | zero => exact fun _ => rfl
        | succ n ih => exact fun hn' => by rw [R.bn (by omega), if_neg (fun h => hn ⟨n, by omega, h.symm⟩)]; exact ih (by omega)
      refine hu2 ?_
      rw [hbas]
      exact ⟨l, hl, by rw [keep n2 (by omega), keep n1 (by omega)]⟩
    obtain ⟨n, hn, hnl⟩ := hrow
    have hl0 := hr0 n hn
    rw [hnl] at hl0
    have z1 := hrc n1 (by omega) l hl
    have z2 := hz n1 hn1
    rcases B1.least l hl g2 with h | ⟨_, h⟩
    · rw [z2, z1, hl0] at h
      grind
    · rw [e1] at h
      omega
end

/-! ### A basis comes again -/
def code (B : Nat) : Nat → (Nat → Nat) → Nat
  | 0, _ => 0
  | k + 1, f => code B k f * (B + 1) + f k
theorem code_lt {B : Nat} {f : Nat → Nat} : ∀ {m}, (∀ i, i < m → f i ≤ B) → code B m f < (B + 1) ^ m
  | 0, _ => by show 0 < (B + 1) ^ 0; rw [Nat.pow_zero]; exact Nat.one_pos
  | m + 1, h => by
    have h1 := code_lt (B := B) (f := f) (m := m) (fun i hi => h i (by omega))
    have h2 := h m (by omega)
    unfold code
    rw [Nat.pow_succ]
    have : (code B m f + 1) * (B + 1) ≤ (B + 1) ^ m * (B + 1) := Nat.mul_le_mul_right _ h1
    rw [Nat.add_mul] at this
    omega
theorem code_inj {B : Nat} {f g : Nat → Nat} : ∀ {m}, (∀ i, i < m → f i ≤ B) → (∀ i, i < m → g i ≤ B) → code B m f = code B m g → ∀ i, i < m → f i = g i
  | 0, _, _, _, i, hi => by omega
  | m + 1, hf, hg, e, i, hi => by
    unfold code at e
    have h1 := hf m (by omega)
    have h2 := hg m (by omega)
    have e1 : f m = g m := by
      have := congrArg (· % (B + 1)) e
      simp only [Nat.mul_add_mod_self_right, Nat.mod_eq_of_lt (show f m < B + 1 by omega), Nat.mod_eq_of_lt (show g m < B + 1 by omega)] at this
      exact this
    have e2 : code B m f = code B m g := by
      rw [e1] at e
      exact Nat.eq_of_mul_eq_mul_right (Nat.succ_pos B) (Nat.add_right_cancel e)
    by_cases him : i = m
    · rw [him]; exact e1
    · exact code_inj (fun k hk => hf k (by omega)) (fun k hk => hg k (by omega)) e2 i (by omega)
theorem pigeon {N : Nat} {f : Nat → Nat} (h : ∀ n, f n < N) : ∃ a b, a < b ∧ f a = f b := by
  apply Classical.byContradiction
  intro hn
  have inj : ∀ a b, f a = f b → a = b := fun a b e => by
    rcases Nat.lt_trichotomy a b with h1 | h1 | h1
    · exact absurd ⟨a, b, h1, e⟩ hn
    · exact h1
    · exact absurd ⟨b, a, h1, e.symm⟩ hn
  have hnd : ((List.range (N + 1)).map f).Nodup := List.Pairwise.map _ (fun a b (hab : a ≠ b) e => hab (inj a b e)) List.nodup_range
  have := hnd.length_le_of_subset (l₂ := List.range N) (fun x hx => by
    obtain ⟨a, _, rfl⟩ := List.mem_map.1 hx
    exact List.mem_range.2 (h a))
  simp only [List.length_map, List.length_range] at this
  omega
/-- Pivots by the least index come to an end. -/
theorem bland_ends {m w B : Nat} {t : Nat → QT} {r j : Nat → Nat} (h0 : WF m w (t 0)) (hw : w ≤ B) (hb : ∀ i, i < m → (t 0).b i ≤ B) (hB : ∀ n, Bl m w (t n) (r n) (j n)) (hs : ∀ n, t (n + 1) = pivQ (t n) (r n) (j n)) : False := by
  have hbn : ∀ n i, i < m → (t n).b i ≤ B := by
    intro n
    induction n with
    | zero => exact hb
    | succ n ih =>
      intro i hi
      rw [hs n]
      show (if i = r n then _ else _) ≤ B
      split
      · have := (hB n).jw; omega
      · exact ih i hi
  obtain ⟨a, b, hab, e⟩ := pigeon (f := fun n => code B m (t n).b) (fun n => code_lt (hbn n))
  have hwf : ∀ n, WF m w (t n) := by
    intro n
    induction n with
    | zero => exact h0
    | succ n ih => rw [hs n]; exact ih.piv (hB n)
  have R : Run m w (b - a) (fun n => t (a + n)) (fun n => r (a + n)) (fun n => j (a + n)) := ⟨fun n _ => hB _, fun n _ => hs _, hwf _⟩
  refine R.not_back (by omega) (fun i hi => ?_)
  show (t (a + (b - a))).b i = (t (a + 0)).b i
  rw [show a + (b - a) = b by omega, Nat.add_zero]
  exact (code_inj (hbn a) (hbn b) e i hi).symm
end Go.Proofs.YtfoipbjhaiimlaaGreatDoor


/-
  layer 30: fractions as rational numbers.
-/
namespace Go.Proofs.YtfoipbjhaiimlaaGreatDoor
open Go.RowKit
set_option linter.unusedSimpArgs false
set_option linter.unusedVariables false

def V (f : Fr) : Rat := (f.N : Rat) / (f.D : Rat)
theorem cast_pos {d : Int} (h : 1 ≤ d) : (0 : Rat) < (d : Rat) := by
  have : ((0 : Int) : Rat) < (d : Rat) := Rat.intCast_lt_intCast.2 (by omega)
  exact this
theorem norm_val {n d : Int} {p : Fr} (hd : 1 ≤ d) (h : toO (normF n d) = some p) : V p = (n : Rat) / (d : Rat) ∧ ValidF p := by
  have g1 : 0 < Int.gcd n d := Int.gcd_pos_of_ne_zero_right _ (by omega)
  obtain ⟨x, hx⟩ := Int.gcd_dvd_left n d
  obtain ⟨y, hy⟩ := Int.gcd_dvd_right n d
  have xy : Int.gcd x y = 1 := by
    have := Int.gcd_mul_left (Int.gcd n d) x y
    rw [← hx, ← hy, Int.natAbs_natCast] at this
    exact Nat.eq_of_mul_eq_mul_left g1 (by omega)
  unfold normF at h
  generalize hg : Int.gcd n d = g at *
  have q1 : n.tdiv g = x := by rw [hx, Int.mul_tdiv_cancel_left _ (by omega)]
  have q2 : d.tdiv g = y := by rw [hy, Int.mul_tdiv_cancel_left _ (by omega)]
  rw [q1, q2] at h
  have hr := rngO_in h
  unfold toO rngF at h
  by_cases h4 : InR x ∧ InR y
  case neg => rw [if_neg h4] at h; simp at h
  rw [if_pos h4, if_pos rfl] at h
  injection h with h
  subst h
  have hy1 : 1 ≤ y := by
    have hgp : (0 : Int) < (g : Int) := by omega
    have : 0 < (g : Int) * y := by omega
    have := Int.pos_of_mul_pos_right this hgp
    omega
  have c1 := cast_pos (d := (g : Int)) (by omega)
  have c2 := cast_pos hy1
  refine ⟨?_, hy1, h4.2.2, h4.1, xy⟩
  show (x : Rat) / (y : Rat) = _
  rw [hx, hy, Rat.intCast_mul, Rat.intCast_mul]
  grind
theorem mulO_some {a b p : Fr} (h : mulO a b = some p) : ValidF a ∧ ValidF b ∧ ValidF p ∧ V p = V a * V b := by
  unfold mulO mulF at h
  split at h
  · rename_i hv
    obtain ⟨⟨a1, a2, a3, a4⟩, ⟨b1, b2, b3, b4⟩⟩ := hv
    obtain ⟨h1, h2⟩ := norm_val (by have := Int.mul_pos (show 0 < a.D by omega) (show 0 < b.D by omega); omega) h
    refine ⟨⟨a1, a2, a3, a4⟩, ⟨b1, b2, b3, b4⟩, h2, ?_⟩
    have c1 := cast_pos a1
    have c2 := cast_pos b1
    rw [h1, Rat.intCast_mul, Rat.intCast_mul]
    unfold V
    grind
  · simp [toO] at h
theorem addO_some {a b p : Fr} (h : addO a b = some p) : ValidF a ∧ ValidF b ∧ ValidF p ∧ V p = V a + V b := by
  unfold addO addF at h
  split at h
  · rename_i hv
    obtain ⟨⟨a1, a2, a3, a4⟩, ⟨b1, b2, b3, b4⟩⟩ := hv
    obtain ⟨h1, h2⟩ := norm_val (by have := Int.mul_pos (show 0 < a.D by omega) (show 0 < b.D by omega); omega) h
    refine ⟨⟨a1, a2, a3, a4⟩, ⟨b1, b2, b3, b4⟩, h2, ?_⟩
    have c1 := cast_pos a1
    have c2 := cast_pos b1
    rw [h1, Rat.intCast_add, Rat.intCast_mul, Rat.intCast_mul, Rat.intCast_mul]
    unfold V
    grind
  · simp [toO] at h
theorem neg_N {a : Fr} (h : ValidF a) : (negF a).N = -a.N := by rw [negF_valid h]
theorem neg_val {a : Fr} (h : ValidF a) : V (negF a) = - V a := by
  unfold V
  rw [neg_N h, Rat.intCast_neg]
  show -(a.N : Rat) / (a.D : Rat) = _
  grind
theorem subO_some {a b p : Fr} (h : subO a b = some p) (hb : ValidF b) : ValidF a ∧ ValidF p ∧ V p = V a - V b := by
  obtain ⟨h1, h2, h3, h4⟩ := addO_some (show addO a (negF b) = some p from h)
  rw [neg_val hb] at h4
  exact ⟨h1, h3, by grind⟩
theorem divO_some {a b p : Fr} (h : divO a b = some p) : ValidF a ∧ ValidF b ∧ b.N ≠ 0 ∧ ValidF p ∧ V p = V a / V b := by
  unfold divO divF at h
  split at h
  · rename_i hv
    have c1 := cast_pos hv.1.1
    have c2 : (b.N : Rat) ≠ 0 := fun e => hv.2 (by
      have : (b.N : Rat) = ((0 : Int) : Rat) := e
      exact Rat.intCast_inj.1 this)
    split at h
    · obtain ⟨h1, h2, h3, h4⟩ := mulO_some (show mulO a ⟨-b.D, -b.N⟩ = some p from h)
      refine ⟨h1, hv.1, hv.2, h3, ?_⟩
      rw [h4]
      unfold V
      rw [Rat.intCast_neg, Rat.intCast_neg]
      grind
    · obtain ⟨h1, h2, h3, h4⟩ := mulO_some (show mulO a ⟨b.D, b.N⟩ = some p from h)
      refine ⟨h1, hv.1, hv.2, h3, ?_⟩
      rw [h4]
      unfold V
      grind
  · simp [toO] at h
theorem mnO_some {a f b p : Fr} (h : mnO a f b = some p) : ValidF a ∧ ValidF f ∧ ValidF b ∧ ValidF p ∧ V p = V a - V f * V b := by
  unfold mnO at h
  cases h1 : mulO f b with
  | none => rw [h1] at h; cases h
  | some q =>
    rw [h1] at h
    obtain ⟨k1, k2, k3, k4⟩ := mulO_some h1
    obtain ⟨k5, k6, k7⟩ := subO_some h k3
    exact ⟨k5, k1, k2, k6, by rw [k7, k4]⟩
theorem V_neg_iff {a : Fr} (h : ValidF a) : a.N < 0 ↔ V a < 0 := by
  have c := cast_pos h.1
  unfold V
  rw [Rat.div_lt_iff c, Rat.zero_mul]
  exact (Rat.intCast_lt_intCast (a := a.N) (b := 0)).symm
theorem V_pos_iff {a : Fr} (h : ValidF a) : 0 < a.N ↔ 0 < V a := by
  have c := cast_pos h.1
  unfold V
  rw [Rat.lt_div_iff c, Rat.zero_mul]
  exact (Rat.intCast_lt_intCast (a := 0) (b := a.N)).symm
theorem V_zero_iff {a : Fr} (h : ValidF a) : a.N = 0 ↔ V a = 0 := by
  have h1 := V_neg_iff h
  have h2 := V_pos_iff h
  constructor
  · intro e
    unfold V
    rw [e]
    show ((0 : Int) : Rat) / _ = 0
    grind
  · intro e
    rw [e] at h1 h2
    have q1 := mt h1.1 Rat.lt_irrefl
    have q2 := mt h2.1 Rat.lt_irrefl
    omega
theorem cross_lt {a b : Fr} (ha : ValidF a) (hb : ValidF b) : a.N * b.D < b.N * a.D ↔ V a < V b := by
  have c1 := cast_pos ha.1
  have c2 := cast_pos hb.1
  unfold V
  rw [Rat.div_lt_iff c1]
  have e : (b.N : Rat) / (b.D : Rat) * (a.D : Rat) = (b.N : Rat) * (a.D : Rat) / (b.D : Rat) := by grind
  rw [e, Rat.lt_div_iff c2, ← Rat.intCast_mul, ← Rat.intCast_mul, Rat.intCast_lt_intCast]
theorem dvd_mul_cop {a b c : Int} (h : a ∣ b * c) (hg : Int.gcd b a = 1) : a ∣ c := by
  rw [← Int.natAbs_dvd_natAbs] at h ⊢
  rw [Int.natAbs_mul] at h
  exact Nat.Coprime.dvd_of_dvd_mul_left (Nat.Coprime.symm hg) h
theorem V_inj {a b : Fr} (ha : ValidF a) (hb : ValidF b) (h : V a = V b) : a = b := by
  have h1 := cross_lt ha hb
  have h2 := cross_lt hb ha
  rw [h] at h1 h2
  have q1 := mt h1.1 Rat.lt_irrefl
  have q2 := mt h2.1 Rat.lt_irrefl
  have e : a.N * b.D = b.N * a.D := by omega
  obtain ⟨a1, a2, a3, a4⟩ := ha
  obtain ⟨b1, b2, b3, b4⟩ := hb
  have d1 : a.D ∣ b.D := by
    have : a.D ∣ a.N * b.D := by rw [e]; exact Int.dvd_mul_left _ _
    exact dvd_mul_cop this a4
  have d2 : b.D ∣ a.D := by
    have : b.D ∣ b.N * a.D := by rw [← e]; exact Int.dvd_mul_left _ _
    exact dvd_mul_cop this b4
  have eD : a.D = b.D := Int.le_antisymm (Int.le_of_dvd (by omega) d1) (Int.le_of_dvd (by omega) d2)
  have eN : a.N = b.N := by
    rw [eD] at e
    exact Int.eq_of_mul_eq_mul_right (by omega) e
  obtain ⟨x, y⟩ := a
  obtain ⟨u, v⟩ := b
  simp only at eD eN
  rw [eD, eN]
theorem cmp_lt {a b : Fr} (ha : ValidF a) (hb : ValidF b) : cmpF a b < 0 ↔ V a < V b := by
  rw [← cross_lt ha hb]
  unfold cmpF fixF sgn
  rw [if_pos ha, if_pos hb]
  split
  · constructor <;> intro <;> omega
  · split <;> constructor <;> intro <;> omega
theorem cmp_zero {a b : Fr} (ha : ValidF a) (hb : ValidF b) : cmpF a b = 0 ↔ V a = V b := by
  constructor
  · intro h
    have h1 := cross_lt ha hb
    have h2 := cross_lt hb ha
    unfold cmpF fixF sgn at h
    rw [if_pos ha, if_pos hb] at h
    have e : a.N * b.D - b.N * a.D = 0 := by
      split at h
      · omega
      · split at h <;> omega
    have q1 := mt h1.2 (by omega)
    have q2 := mt h2.2 (by omega)
    grind
  · intro h
    rw [V_inj ha hb h]
    unfold cmpF sgn
    rw [if_neg (by omega), if_neg (by omega)]
end Go.Proofs.YtfoipbjhaiimlaaGreatDoor


/-
  layer 30: linear programs over the rational numbers: equal systems, costs, certificates. No program in sight.
-/
namespace Go.Proofs.YtfoipbjhaiimlaaGreatDoor
set_option linter.unusedVariables false

def Lt (m : Nat) : Nat → Prop := fun l => l < m
/-- Two systems of m rows that span each other. -/
structure Eqv (m : Nat) (T T' : Nat → Nat → Rat) : Prop where
  to : ∀ l, l < m → Sp T (Lt m) (T' l)
  back : ∀ l, l < m → Sp T' (Lt m) (T l)
theorem Eqv.refl (m : Nat) (T : Nat → Nat → Rat) : Eqv m T T := ⟨fun l hl => Sp.row (N := Lt m) hl, fun l hl => Sp.row (N := Lt m) hl⟩
theorem Eqv.trans {m : Nat} {T T' T'' : Nat → Nat → Rat} (h : Eqv m T T') (h' : Eqv m T' T'') : Eqv m T T'' :=
  ⟨fun l hl => Sp.trans (N := Lt m) h.to (h'.to l hl), fun l hl => Sp.trans (N := Lt m) h'.back (h.back l hl)⟩
theorem Eqv.piv {m : Nat} {t : QT} {r j : Nat} (hr : r < m) (hp : t.T r j ≠ 0) : Eqv m t.T (pivQ t r j).T :=
  ⟨fun l hl => piv_sp (N := Lt m) hr hp l hl, fun l hl => piv_sp' (N := Lt m) hr hp l hl⟩
/-- What a row says of a point. -/
def val (w : Nat) (f z : Nat → Rat) : Rat := Sm w (fun k => f k * z k) - f w
def Sol (m w : Nat) (T : Nat → Nat → Rat) (z : Nat → Rat) : Prop := ∀ i, i < m → val w (T i) z = 0
section
variable {m w : Nat} {z : Nat → Rat} {T T' : Nat → Nat → Rat} {f g : Nat → Rat}
theorem val_add : val w (fun k => f k + g k) z = val w f z + val w g z := by
  unfold val
  rw [Sm_congr (g := fun k => f k * z k + g k * z k) (fun k _ => by grind), Sm_add]
  grind
theorem val_mul (a : Rat) : val w (fun k => a * f k) z = a * val w f z := by
  unfold val
  rw [Sm_congr (g := fun k => a * (f k * z k)) (fun k _ => by grind), Sm_mul]
  grind
theorem val_sp {N : Nat → Prop} (h : ∀ l, N l → val w (T l) z = 0) (hf : Sp T N f) : val w f z = 0 := by
  induction hf with
  | zero =>
    unfold val
    rw [Sm_congr (g := fun _ => 0) (fun k _ => by grind), Sm_zero]
    grind
  | @add f l a hl _ ih =>
    rw [val_add (f := f) (g := fun k => a * T l k), val_mul, h l hl, ih]
    grind
theorem Sol.eqv (h : Eqv m T T') (hs : Sol m w T z) : Sol m w T' z := fun i hi => val_sp (N := Lt m) hs (h.to i hi)
theorem Sol.eqv' (h : Eqv m T T') (hs : Sol m w T' z) : Sol m w T z := fun i hi => val_sp (N := Lt m) hs (h.back i hi)
end
/-- Costs that differ by rows. -/
def Dif (m : Nat) (T : Nat → Nat → Rat) (c c' : Nat → Rat) : Prop := Sp T (Lt m) (fun k => c' k - c k)
theorem Dif.refl {m : Nat} {T : Nat → Nat → Rat} {c : Nat → Rat} : Dif m T c c := Sp.zero.eq (fun k => by grind)
theorem Dif.trans {m : Nat} {T : Nat → Nat → Rat} {c c' c'' : Nat → Rat} (h : Dif m T c c') (h' : Dif m T c' c'') : Dif m T c c'' := (h.plus h').eq (fun k => by grind)
theorem Dif.eqv {m : Nat} {T T' : Nat → Nat → Rat} {c c' : Nat → Rat} (e : Eqv m T T') (h : Dif m T' c c') : Dif m T c c' := Sp.trans (N := Lt m) e.to h
theorem Dif.same {m w : Nat} {T : Nat → Nat → Rat} {c c' z : Nat → Rat} (h : Dif m T c c') (hs : Sol m w T z) : val w c' z = val w c z := by
  have h1 := val_sp (N := Lt m) hs h
  have e : val w (fun k => c' k - c k) z = val w c' z + (-1) * val w c z := by
    rw [← val_mul, ← val_add]
    congr 1
    funext k
    grind
  rw [e] at h1
  grind
theorem Dif.piv {m : Nat} {t : QT} {r j : Nat} (hr : r < m) (hp : t.T r j ≠ 0) : Dif m t.T t.c (pivQ t r j).c := piv_cost (N := Lt m) hr hp

/-! ### Phase one -/
def artS (m w : Nat) (t : QT) (k : Nat) : Rat := Sm m (fun i => if w ≤ t.b i then t.T i k else 0)
def P1 (m w : Nat) (t : QT) : Prop := ∀ k, t.c k = - artS m w t k
theorem P1.piv {m w : Nat} {t : QT} {r j : Nat} (h : P1 m w t) (hj : j < w) (hp : t.T r j ≠ 0) : P1 m w (pivQ t r j) := fun k => by
  show t.c k - t.c j * (t.T r k / t.T r j) = _
  have e : artS m w (pivQ t r j) k = Sm m (fun i => (if w ≤ t.b i then t.T i k else 0) + (- (t.T r k / t.T r j)) * (if w ≤ t.b i then t.T i j else 0)) := by
    refine Sm_congr (fun i _ => ?_)
    show (if w ≤ (if i = r then j else t.b i) then (if i = r then _ else _) else 0) = _
    by_cases hir : i = r
    · subst hir
      rw [if_pos rfl, if_neg (by omega)]
      split
      · grind
      · grind
    · rw [if_neg hir]
      split
      · grind
      · grind
  rw [e, Sm_add, Sm_mul, h k, h j]
  unfold artS
  grind
theorem Sm_zero_of {f : Nat → Rat} : ∀ {n : Nat}, (∀ i, i < n → 0 ≤ f i) → Sm n f ≤ 0 → ∀ i, i < n → f i = 0
  | 0, _, _, i, hi => by omega
  | n + 1, h, hs, i, hi => by
    have h1 := Sm_nonneg (n := n) (f := f) (fun i hi => h i (by omega))
    have h2 := h n (by omega)
    unfold Sm at hs
    by_cases hin : i = n
    · subst hin; grind
    · exact Sm_zero_of (n := n) (fun i hi => h i (by omega)) (by grind) i (by omega)
theorem P1.rhs {m w : Nat} {t : QT} (h : P1 m w t) (hw : WF m w t) (hc : 0 ≤ t.c w) : ∀ i, i < m → w ≤ t.b i → t.T i w = 0 := fun i hi hb => by
  have h1 : artS m w t w ≤ 0 := by have := h w; grind
  have h2 := Sm_zero_of (f := fun i => if w ≤ t.b i then t.T i w else 0) (fun i hi => by
    split
    · exact hw.rhs i hi
    · exact Rat.le_refl) h1 i hi
  have h2 : (if w ≤ t.b i then t.T i w else 0) = 0 := h2
  rwa [if_pos hb] at h2

/-! ### A pivot where the right side is zero -/
theorem WF.piv0 {m w : Nat} {t : QT} {r j : Nat} (h : WF m w t) (hr : r < m) (hj : j < w) (hp : t.T r j ≠ 0) (h0 : t.T r w = 0) (hc : ∀ k, t.c k = 0) : WF m w (pivQ t r j) := by
  refine ⟨fun i hi hb i' hi' => ?_, fun i hi hb => ?_, fun i hi => ?_⟩
  · show (if i' = r then _ else _) = _
    by_cases hir : i = r
    · subst hir
      have e : (pivQ t i j).b i = j := if_pos rfl
      rw [e]
      by_cases hi2 : i' = i
      · subst hi2
        rw [if_pos rfl, if_pos rfl]
        exact div_same hp
      · rw [if_neg hi2, if_neg hi2, div_same hp]
        grind
    · have e : (pivQ t r j).b i = t.b i := if_neg hir
      rw [e] at hb ⊢
      have h0 : t.T r (t.b i) = 0 := by
        have := h.unit i hi hb r hr
        rwa [if_neg (fun h => hir h.symm)] at this
      rw [h0]
      by_cases hi2 : i' = r
      · subst hi2
        rw [if_pos rfl, if_neg (fun h => hir h.symm)]
        grind
      · rw [if_neg hi2, h.unit i hi hb i' hi']
        grind
  · show t.c _ - t.c j * (t.T r _ / t.T r j) = 0
    rw [hc, hc]
    grind
  · show 0 ≤ (if i = r then _ else _)
    rw [h0]
    split
    · grind
    · have := h.rhs i hi
      grind

/-! ### The basic point -/
def bp (m w : Nat) (t : QT) (k : Nat) : Rat := Sm m (fun i => if t.b i = k then t.T i w else 0)
section
variable {m w : Nat} {t : QT}
theorem bp_nonneg (h : WF m w t) (k : Nat) : 0 ≤ bp m w t k := Sm_nonneg fun i hi => by
  split
  · exact h.rhs i hi
  · exact Rat.le_refl
/-- A sum over the columns at the basic point. -/
theorem bp_sum (f : Nat → Rat) : Sm w (fun k => f k * bp m w t k) = Sm m (fun i => if t.b i < w then f (t.b i) * t.T i w else 0) := by
  have sw : ∀ (m : Nat), Sm w (fun k => f k * Sm m (fun i => if t.b i = k then t.T i w else 0)) = Sm m (fun i => if t.b i < w then f (t.b i) * t.T i w else 0) := by
    intro m
    induction m with
    | zero => rw [Sm_congr (g := fun _ => 0) (fun k _ => by unfold Sm; grind), Sm_zero]; rfl
    | succ m ih =>
      show Sm w (fun k => f k * (Sm m (fun i => if t.b i = k then t.T i w else 0) + if t.b m = k then t.T m w else 0)) = Sm m _ + _
      rw [Sm_congr (g := fun k => f k * Sm m (fun i => if t.b i = k then t.T i w else 0) + f k * (if t.b m = k then t.T m w else 0)) (fun k _ => by grind), Sm_add, ih]
      congr 1
      show _ = if t.b m < w then _ else 0
      by_cases hb : t.b m < w
      · rw [if_pos hb, Sm_pick hb (fun k _ hk => by rw [if_neg (fun e => hk e.symm)]; grind), if_pos rfl]
      · rw [if_neg hb, Sm_congr (g := fun _ => 0) (fun k hk => by rw [if_neg (fun e => hb (by rw [e]; exact hk))]; grind), Sm_zero]
  exact sw m
/-- The basic point solves the system, if the other rows say nothing. -/
theorem bp_sol (h : WF m w t) (ha : ∀ i, i < m → w ≤ t.b i → t.T i w = 0) : Sol m w t.T (bp m w t) := fun i hi => by
  unfold val
  rw [bp_sum]
  by_cases hb : t.b i < w
  · rw [Sm_pick hi (fun x hx hxi => ?_), if_pos hb, h.unit i hi hb i hi, if_pos rfl]
    · grind
    · split
      · rename_i hbx
        rw [h.unit x hx hbx i hi, if_neg (fun e => hxi e.symm)]
        grind
      · rfl
  · rw [Sm_congr (g := fun _ => 0) (fun x hx => ?_), Sm_zero, ha i hi (by omega)]
    · grind
    · split
      · rename_i hbx
        rw [h.unit x hx hbx i hi, if_neg (fun e => hb (by rw [e]; exact hbx))]
        grind
      · rfl
theorem bp_cost (h : WF m w t) : val w t.c (bp m w t) = - t.c w := by
  unfold val
  rw [bp_sum, Sm_congr (g := fun _ => 0) (fun x hx => ?_), Sm_zero]
  · grind
  · split
    · rename_i hbx
      rw [h.cost x hx hbx]
      grind
    · rfl
end
/-! ### A direction -/
def ray (m w : Nat) (t : QT) (j k : Nat) : Rat := (if k = j then 1 else 0) - Sm m (fun i => if t.b i = k then t.T i j else 0)
section
variable {m w : Nat} {t : QT} {j : Nat}
theorem ray_sum (hj : j < w) (f : Nat → Rat) : Sm w (fun k => f k * ray m w t j k) = f j - Sm m (fun i => if t.b i < w then f (t.b i) * t.T i j else 0) := by
  unfold ray
  have e1 : Sm w (fun k => f k * ((if k = j then 1 else 0) - Sm m (fun i => if t.b i = k then t.T i j else 0))) = Sm w (fun k => f k * (if k = j then 1 else 0)) + Sm w (fun k => (-1) * (f k * Sm m (fun i => if t.b i = k then t.T i j else 0))) := by
    rw [← Sm_add]
    exact Sm_congr (fun k _ => by grind)
  have sw : ∀ (m : Nat), Sm w (fun k => f k * Sm m (fun i => if t.b i = k then t.T i j else 0)) = Sm m (fun i => if t.b i < w then f (t.b i) * t.T i j else 0) := by
    intro m
    induction m with
    | zero => rw [Sm_congr (g := fun _ => 0) (fun k _ => by unfold Sm; grind), Sm_zero]; rfl
    | succ m ih =>
      show Sm w (fun k => f k * (Sm m (fun i => if t.b i = k then t.T i j else 0) + if t.b m = k then t.T m j else 0)) = Sm m _ + _
      rw [Sm_congr (g := fun k => f k * Sm m (fun i => if t.b i = k then t.T i j else 0) + f k * (if t.b m = k then t.T m j else 0)) (fun k _ => by grind), Sm_add, ih]
      congr 1
      show _ = if t.b m < w then _ else 0
      by_cases hb : t.b m < w
      · rw [if_pos hb, Sm_pick hb (fun k _ hk => by rw [if_neg (fun e => hk e.symm)]; grind), if_pos rfl]
      · rw [if_neg hb, Sm_congr (g := fun _ => 0) (fun k hk => by rw [if_neg (fun e => hb (by rw [e]; exact hk))]; grind), Sm_zero]
  rw [e1, Sm_pick hj (fun k _ hk => by rw [if_neg hk]; grind), if_pos rfl, Sm_mul, sw]
  grind
theorem ray_nonneg (h : WF m w t) (hj : j < w) (hn : ∀ i, i < m → t.T i j ≤ 0) (hc : t.c j < 0) (k : Nat) : 0 ≤ ray m w t j k := by
  unfold ray
  have h1 : 0 ≤ Sm m (fun i => if t.b i = k then - t.T i j else 0) := Sm_nonneg fun i hi => by
    have := hn i hi
    split
    · grind
    · exact Rat.le_refl
  have e : Sm m (fun i => if t.b i = k then - t.T i j else 0) = (-1) * Sm m (fun i => if t.b i = k then t.T i j else 0) := by
    rw [← Sm_mul]
    exact Sm_congr (fun i _ => by split <;> grind)
  rw [e] at h1
  split <;> grind
/-- Homogeneous: the sum over the columns is zero for each row, if the other rows have nothing in the column. -/
theorem ray_sol (h : WF m w t) (hj : j < w) (ha : ∀ i, i < m → w ≤ t.b i → t.T i j = 0) : ∀ i, i < m → Sm w (fun k => t.T i k * ray m w t j k) = 0 := fun i hi => by
  rw [ray_sum hj]
  by_cases hb : t.b i < w
  · rw [Sm_pick hi (fun x hx hxi => ?_), if_pos hb, h.unit i hi hb i hi, if_pos rfl]
    · grind
    · split
      · rename_i hbx
        rw [h.unit x hx hbx i hi, if_neg (fun e => hxi e.symm)]
        grind
      · rfl
  · rw [Sm_congr (g := fun _ => 0) (fun x hx => ?_), Sm_zero, ha i hi (by omega)]
    · grind
    · split
      · rename_i hbx
        rw [h.unit x hx hbx i hi, if_neg (fun e => hb (by rw [e]; exact hbx))]
        grind
      · rfl
theorem ray_cost (h : WF m w t) (hj : j < w) : Sm w (fun k => t.c k * ray m w t j k) = t.c j := by
  rw [ray_sum hj, Sm_congr (g := fun _ => 0) (fun x hx => ?_), Sm_zero]
  · grind
  · split
    · rename_i hbx
      rw [h.cost x hx hbx]
      grind
    · rfl
end
end Go.Proofs.YtfoipbjhaiimlaaGreatDoor


/-
  layer 30: the tableau as a table of rational numbers; a pivot that is not too great.
-/
namespace Go.Proofs.YtfoipbjhaiimlaaGreatDoor
open Go.RowKit
set_option linter.unusedSimpArgs false
set_option linter.unusedVariables false

def Q (t : Tab) : QT := ⟨fun i k => V (ix (ix t.rows i) k), fun k => V (ix t.cost k), fun i => (ix t.basis i).toNat⟩
structure Vd (t : Tab) : Prop where
  rows : ∀ i k, i < t.m → k < t.w + 1 → ValidF (ix (ix t.rows i) k)
  cost : t.cost = [] ∨ ∀ k, k < t.w + 1 → ValidF (ix t.cost k)
theorem ix_ge {α : Type} [Inhabited α] {l : List α} {i : Nat} (h : l.length ≤ i) : ix l i = default := by
  unfold ix
  rw [List.getD_eq_getElem?_getD, List.getElem?_eq_none h]
  rfl
theorem ix_set {α : Type} [Inhabited α] {l : List α} {i q : Nat} {x : α} (hq : q < l.length) : ix (l.set q x) i = if i = q then x else ix l i := by
  by_cases hi : i < l.length
  · rw [ix_lt (by rw [List.length_set]; exact hi), List.getElem_set, ix_lt hi]
    by_cases h : q = i
    · rw [if_pos h, if_pos h.symm]
    · rw [if_neg h, if_neg (fun e => h e.symm)]
  · rw [ix_ge (by rw [List.length_set]; omega), if_neg (by omega), ix_ge (by omega)]
theorem V_def : V (default : Fr) = 0 := by
  show V ⟨0, 0⟩ = 0
  unfold V
  show ((0 : Int) : Rat) / ((0 : Int) : Rat) = 0
  have : ((0 : Int) : Rat) = 0 := rfl
  rw [this]
  grind
theorem QT.same {a b : QT} (h1 : ∀ i k, a.T i k = b.T i k) (h2 : ∀ k, a.c k = b.c k) (h3 : ∀ i, a.b i = b.b i) : a = b := by
  obtain ⟨x, y, z⟩ := a
  obtain ⟨x', y', z'⟩ := b
  have e1 : x = x' := funext fun i => funext fun k => h1 i k
  have e2 : y = y' := funext h2
  have e3 : z = z' := funext h3
  rw [e1, e2, e3]
theorem anyK_false {g : Nat → Bool} : ∀ {n : Nat}, anyK n g = false → ∀ k, k < n → g k = false
  | 0, _, k, hk => by omega
  | n + 1, h, k, hk => by
    rw [anyK_succ] at h
    simp only [Bool.or_eq_false_iff] at h
    by_cases hkn : k = n
    · rw [hkn]; exact h.2
    · exact anyK_false h.1 k (by omega)
theorem mnP_ok {a f b : Fr} (h : (mnP a f b).2 = false) : ValidF a ∧ ValidF f ∧ ValidF b ∧ ValidF (mnP a f b).1 ∧ V (mnP a f b).1 = V a - V f * V b := by
  unfold mnP at h ⊢
  cases h1 : mnO a f b with
  | none => rw [h1] at h; simp at h
  | some d => exact mnO_some h1
theorem dvP_ok {a p : Fr} (h : (dvP a p).2 = false) : ValidF a ∧ ValidF p ∧ p.N ≠ 0 ∧ ValidF (dvP a p).1 ∧ V (dvP a p).1 = V a / V p := by
  unfold dvP at h ⊢
  cases h1 : divO a p with
  | none => rw [h1] at h; simp at h
  | some d => exact divO_some h1
section
variable {L : Lay} {t : Tab}
theorem or_over {b : Bool} (h : (orT t b).over = false) : t.over = false ∧ b = false := by
  have h : (t.over || b) = false := h
  simpa using h
/-- A row that is new in its first places. -/
theorem V_mix {g : Nat → Fr} {row by_ : List Fr} {n : Nat} {f : Nat → Rat} (hl : row.length = n) (h : ∀ k, k < n → V (g k) = f k) (h0 : ∀ k, n ≤ k → f k = 0) (k : Nat) : V (ix (mixF n g row) k) = f k := by
  by_cases hk : k < n
  · rw [mixF_ix (by rw [hl]; exact hk), if_pos hk, h k hk]
  · rw [ix_ge (by rw [mixF_len, hl]; omega), V_def, h0 k (by omega)]
theorem row_out (hS : Shape L t) {i k : Nat} (hk : t.w + 1 ≤ k) : V (ix (ix t.rows i) k) = 0 := by
  by_cases hi : i < t.m
  · rw [ix_ge (by rw [hS.row _ (ix_mem (by rw [hS.m]; exact hi))]; exact hk), V_def]
  · rw [ix_ge (l := t.rows) (by rw [hS.m]; omega)]
    exact V_def
theorem row_len (hS : Shape L t) {i : Nat} (hi : i < t.m) : (ix t.rows i).length = t.w + 1 := hS.row _ (ix_mem (by rw [hS.m]; exact hi))
theorem cost_out (hS : Shape L t) {k : Nat} (hk : t.w + 1 ≤ k) : V (ix t.cost k) = 0 := by
  rw [ix_ge (l := t.cost) (by rcases hS.cost with ⟨_, h⟩ | ⟨_, h⟩
                              · rw [h]; exact Nat.zero_le _
                              · omega)]
  exact V_def
theorem clr_row (hS : Shape L t) {q i : Nat} {f : Fr} (hp : PreClr L t ⟨some q, f, i⟩) (ho : (clrT t ⟨some q, f, i⟩).over = false) : t.over = false ∧ Q (clrT t ⟨some q, f, i⟩) = ⟨fun i' k => if i' = q then (Q t).T q k - V f * (Q t).T i k else (Q t).T i' k, (Q t).c, (Q t).b⟩ ∧ (Vd t → Vd (clrT t ⟨some q, f, i⟩)) := by
  obtain ⟨hq, hqi⟩ := hp.row q rfl
  have hi := hp.i
  unfold clrT clrK at ho ⊢
  obtain ⟨h1, h2⟩ := or_over ho
  have h2 := anyK_false h2
  have h2 : ∀ k, k < t.w + 1 → (mnP (ix (ix t.rows q) k) f (ix (ix t.rows i) k)).2 = false := h2
  have hql := row_len hS hq
  refine ⟨h1, ?_, fun hv => ⟨fun i' k hi' hk => ?_, hv.cost⟩⟩
  · refine QT.same (fun i' k => ?_) (fun _ => rfl) (fun _ => rfl)
    show V (ix (ix (t.rows.set q _) i') k) = if i' = q then (Q t).T q k - V f * (Q t).T i k else (Q t).T i' k
    rw [ix_set (by rw [hS.m]; exact hq)]
    by_cases hiq : i' = q
    · rw [if_pos hiq, if_pos hiq]
      refine V_mix (by_ := []) (f := fun k => (Q t).T q k - V f * (Q t).T i k) hql (fun k hk => (mnP_ok (h2 k hk)).2.2.2.2) (fun k hk => ?_) k
      show V (ix (ix t.rows q) k) - V f * V (ix (ix t.rows i) k) = 0
      rw [row_out hS hk, row_out hS hk]
      grind
    · rw [if_neg hiq, if_neg hiq]
      rfl
  · show ValidF (ix (ix (t.rows.set q _) i') k)
    rw [ix_set (by rw [hS.m]; exact hq)]
    by_cases hiq : i' = q
    · rw [if_pos hiq]
      show ValidF (ix (mixF (t.w + 1) _ (ix t.rows q)) k)
      have hk : k < t.w + 1 := hk
      rw [mixF_ix (by rw [hql]; exact hk), if_pos hk]
      exact (mnP_ok (h2 k hk)).2.2.2.1
    · rw [if_neg hiq]
      exact hv.rows i' k hi' hk
theorem clr_cost (hS : Shape L t) {i : Nat} {f : Fr} (hp : PreClr L t ⟨none, f, i⟩) (ho : (clrT t ⟨none, f, i⟩).over = false) : t.over = false ∧ Q (clrT t ⟨none, f, i⟩) = ⟨(Q t).T, fun k => (Q t).c k - V f * (Q t).T i k, (Q t).b⟩ ∧ (Vd t → Vd (clrT t ⟨none, f, i⟩)) := by
  have hc := hp.cost rfl
  have hi := hp.i
  unfold clrT clrK at ho ⊢
  obtain ⟨h1, h2⟩ := or_over ho
  have h2 := anyK_false h2
  have h2 : ∀ k, k < t.w + 1 → (mnP (ix t.cost k) f (ix (ix t.rows i) k)).2 = false := h2
  refine ⟨h1, ?_, fun hv => ⟨hv.rows, .inr fun k hk => ?_⟩⟩
  · refine QT.same (fun _ _ => rfl) (fun k => ?_) (fun _ => rfl)
    show V (ix (mixF (t.w + 1) _ t.cost) k) = (Q t).c k - V f * (Q t).T i k
    refine V_mix (by_ := []) (f := fun k => (Q t).c k - V f * (Q t).T i k) hc (fun k hk => (mnP_ok (h2 k hk)).2.2.2.2) (fun k hk => ?_) k
    show V (ix t.cost k) - V f * V (ix (ix t.rows i) k) = 0
    rw [row_out hS hk, cost_out hS hk]
    grind
  · show ValidF (ix (mixF (t.w + 1) _ t.cost) k)
    have hk : k < t.w + 1 := hk
    rw [mixF_ix (by rw [hc]; exact hk), if_pos hk]
    exact (mnP_ok (h2 k hk)).2.2.2.1
theorem pv_Q (hS : Shape L t) {i j : Nat} (hi : i < t.m) (hj : j < t.w) (ho : (pvK t i j (t.w + 1)).over = false) : t.over = false ∧ (ix (ix t.rows i) j).N ≠ 0 ∧ V (ix (ix t.rows i) j) ≠ 0 ∧ Q (pvK t i j (t.w + 1)) = ⟨fun i' k => if i' = i then (Q t).T i k / (Q t).T i j else (Q t).T i' k, (Q t).c, (Q t).b⟩ ∧ (Vd t → Vd (pvK t i j (t.w + 1))) := by
  unfold pvK at ho ⊢
  obtain ⟨h1, h2⟩ := or_over ho
  have h2 := anyK_false h2
  have h2 : ∀ k, k < t.w + 1 → (dvP (ix (ix t.rows i) k) (ix (ix t.rows i) j)).2 = false := h2
  have hil := row_len hS hi
  have h3 := dvP_ok (h2 j (by omega))
  refine ⟨h1, h3.2.2.1, fun e => h3.2.2.1 ((V_zero_iff h3.1).2 e), ?_, fun hv => ⟨fun i' k hi' hk => ?_, hv.cost⟩⟩
  · refine QT.same (fun i' k => ?_) (fun _ => rfl) (fun _ => rfl)
    show V (ix (ix (t.rows.set i _) i') k) = if i' = i then (Q t).T i k / (Q t).T i j else (Q t).T i' k
    rw [ix_set (by rw [hS.m]; exact hi)]
    by_cases hiq : i' = i
    · rw [if_pos hiq, if_pos hiq]
      refine V_mix (by_ := []) (f := fun k => (Q t).T i k / (Q t).T i j) hil (fun k hk => (dvP_ok (h2 k hk)).2.2.2.2) (fun k hk => ?_) k
      show V (ix (ix t.rows i) k) / V (ix (ix t.rows i) j) = 0
      rw [row_out hS hk]
      grind
    · rw [if_neg hiq, if_neg hiq]
      rfl
  · show ValidF (ix (ix (t.rows.set i _) i') k)
    rw [ix_set (by rw [hS.m]; exact hi)]
    by_cases hiq : i' = i
    · rw [if_pos hiq]
      show ValidF (ix (mixF (t.w + 1) _ (ix t.rows i)) k)
      have hk : k < t.w + 1 := hk
      rw [mixF_ix (by rw [hil]; exact hk), if_pos hk]
      exact (dvP_ok (h2 k hk)).2.2.2.1
    · rw [if_neg hiq]
      exact hv.rows i' k hi' hk
theorem V_zero {a : Fr} (h : a.N = 0) : V a = 0 := by
  unfold V
  rw [h]
  show ((0 : Int) : Rat) / _ = 0
  have : ((0 : Int) : Rat) = 0 := rfl
  rw [this]
  grind
theorem elim_Q (hS : Shape L t) {i j : Nat} (hi : i < t.m) : ∀ {k : Nat}, k ≤ t.m → (elimK t i j k).over = false → t.over = false ∧ Q (elimK t i j k) = ⟨fun i' c => if i' < k ∧ i' ≠ i then (Q t).T i' c - (Q t).T i' j * (Q t).T i c else (Q t).T i' c, (Q t).c, (Q t).b⟩ ∧ (Vd t → Vd (elimK t i j k))
  | 0, _, ho => ⟨ho, by
      refine QT.same (fun i' c => ?_) (fun _ => rfl) (fun _ => rfl)
      simp only
      rw [if_neg (by omega)]
      rfl, fun h => h⟩
  | k + 1, hk, ho => by
    have hS1 := elimK_shape hS hi j (k := k) (by omega)
    have hm1 : (elimK t i j k).m = t.m := elimK_m i j k
    unfold elimK elim1 at ho ⊢
    have ihh := elim_Q hS hi (j := j) (k := k) (by omega)
    have rowk : ∀ {u : QT}, Q (elimK t i j k) = u → V (ix (ix (elimK t i j k).rows k) j) = u.T k j := fun e => by rw [← e]; rfl
    split at ho
    · rename_i hc
      obtain ⟨hki, hN⟩ := hc
      rw [if_pos ⟨hki, hN⟩]
      have hpre : PreClr L (elimK t i j k) ⟨some k, ix (ix (elimK t i j k).rows k) j, i⟩ := elim1_pre (j := j) (by omega) (by omega) hki _
      obtain ⟨h1, h2, h3⟩ := clr_row hS1 hpre ho
      obtain ⟨h4, h5, h6⟩ := ihh h1
      refine ⟨h4, ?_, fun hv => h3 (h6 hv)⟩
      have hr := rowk h5
      rw [h2, hr, h5]
      refine QT.same (fun i' c => ?_) (fun _ => rfl) (fun _ => rfl)
      simp only
      by_cases hik : i' = k
      · subst hik
        rw [if_pos rfl, if_neg (by omega), if_neg (by omega), if_neg (by omega), if_pos ⟨by omega, hki⟩]
      · rw [if_neg hik]
        by_cases hlt : i' < k ∧ i' ≠ i
        · rw [if_pos hlt, if_pos ⟨by omega, hlt.2⟩]
        · rw [if_neg hlt, if_neg (by omega)]
    · rename_i hc
      rw [if_neg hc]
      obtain ⟨h4, h5, h6⟩ := ihh ho
      refine ⟨h4, ?_, h6⟩
      have hr := rowk h5
      rw [h5]
      refine QT.same (fun i' c => ?_) (fun _ => rfl) (fun _ => rfl)
      simp only
      by_cases hik : i' = k
      · subst hik
        rw [if_neg (by omega)]
        by_cases hki : i' = i
        · rw [if_neg (by omega)]
        · rw [if_pos ⟨by omega, hki⟩]
          have hN : (ix (ix (elimK t i j i').rows i') j).N = 0 := Classical.byContradiction fun h => hc ⟨hki, h⟩
          rw [V_zero hN] at hr
          have hr : (0 : Rat) = if i' < i' ∧ i' ≠ i then _ else (Q t).T i' j := hr
          rw [if_neg (by omega)] at hr
          rw [← hr]
          grind
      · by_cases hlt : i' < k ∧ i' ≠ i
        · rw [if_pos hlt, if_pos ⟨by omega, hlt.2⟩]
        · rw [if_neg hlt, if_neg (by omega)]
theorem elimC_Q (hS : Shape L t) {i j : Nat} (hi : i < t.m) (ho : (elimC t i j).over = false) : t.over = false ∧ Q (elimC t i j) = ⟨(Q t).T, fun k => (Q t).c k - (Q t).c j * (Q t).T i k, (Q t).b⟩ ∧ (Vd t → Vd (elimC t i j)) := by
  unfold elimC at ho ⊢
  split at ho
  · rename_i hc
    rw [if_pos hc]
    exact clr_cost hS (elimC_pre hS hi hc.1 _) ho
  · rename_i hc
    rw [if_neg hc]
    refine ⟨ho, ?_, fun h => h⟩
    refine QT.same (fun _ _ => rfl) (fun k => ?_) (fun _ => rfl)
    show V (ix t.cost k) = V (ix t.cost k) - V (ix t.cost j) * V (ix (ix t.rows i) k)
    have : V (ix t.cost j) = 0 := by
      by_cases he : t.cost = []
      · rw [he]; exact V_def
      · exact V_zero (Classical.byContradiction fun h => hc ⟨he, h⟩)
    rw [this]
    grind
/-- A pivot that is not too great is a pivot of the rational numbers. -/
theorem piv_Q (hS : Shape L t) {i j : Nat} (hi : i < t.m) (hj : j < t.w) (ho : (pivF t i j).over = false) : t.over = false ∧ (Q t).T i j ≠ 0 ∧ Q (pivF t i j) = pivQ (Q t) i j ∧ (Vd t → Vd (pivF t i j)) := by
  have ho : (elimT t i j).over = false := ho
  have hS1 := pvK_shape hS hi j (t.w + 1)
  have hS2 := elimK_shape hS1 hi j (k := t.m) (by rw [pvK_m]; exact Nat.le_refl _)
  unfold elimT at ho
  obtain ⟨a1, a2, a3⟩ := elimC_Q hS2 (by rw [elimK_m, pvK_m]; exact hi) ho
  obtain ⟨b1, b2, b3⟩ := elim_Q hS1 (by rw [pvK_m]; exact hi) (by rw [pvK_m]; exact Nat.le_refl _) a1
  obtain ⟨c1, c2, c3, c4, c5⟩ := pv_Q hS hi hj b1
  have hb24 : i < t.basis.length := by rw [hS.bas]; have := hS.m24; omega
  have eQ : Q (elimT t i j) = ⟨fun i' k => if i' = i then (Q t).T i k / (Q t).T i j else (Q t).T i' k - (Q t).T i' j * ((Q t).T i k / (Q t).T i j), fun k => (Q t).c k - (Q t).c j * ((Q t).T i k / (Q t).T i j), (Q t).b⟩ := by
    unfold elimT
    rw [a2, b2, c4]
    refine QT.same (fun i' k => ?_) (fun k => ?_) (fun _ => rfl)
    · simp only
      by_cases hii : i' = i
      · subst hii
        rw [if_neg (by omega), if_pos rfl, if_pos rfl]
      · rw [if_neg hii]
        by_cases hm : i' < t.m
        · rw [if_pos ⟨hm, hii⟩, if_neg hii, if_neg hii, if_pos trivial]
        · rw [if_neg (by omega), if_neg hii]
          have z : ∀ k, (Q t).T i' k = 0 := fun k => by
            show V (ix (ix t.rows i') k) = 0
            rw [ix_ge (l := t.rows) (by rw [hS.m]; omega)]
            exact V_def
          rw [z, z]
          grind
    · simp only
      rw [if_neg (by omega), if_pos trivial]
  refine ⟨c1, c3, ?_, fun hv => ?_⟩
  · have e : Q (pivF t i j) = { Q (elimT t i j) with b := fun i' => (ix ((elimT t i j).basis.set i j) i').toNat } := rfl
    rw [e, eQ]
    refine QT.same (fun _ _ => rfl) (fun _ => rfl) (fun i' => ?_)
    show (ix ((elimT t i j).basis.set i j) i').toNat = if i' = i then j else (Q t).b i'
    have hbb : (elimT t i j).basis = t.basis := by unfold elimT; rw [elimC_bas, elimK_bas]; rfl
    rw [hbb, ix_set hb24]
    split
    · rfl
    · rfl
  · have hv' := a3 (b3 (c5 hv))
    exact ⟨hv'.rows, hv'.cost⟩
end
end Go.Proofs.YtfoipbjhaiimlaaGreatDoor


/-
  layer 30: a phase is a run of pivots by the least index; it comes to an end.
-/
namespace Go.Proofs.YtfoipbjhaiimlaaGreatDoor
open Go.RowKit
set_option linter.unusedSimpArgs false
set_option linter.unusedVariables false

theorem entK_some {t : Tab} : ∀ {k j : Nat}, entK t k = some j → (ix t.cost j).N < 0 ∧ ∀ i, i < j → ¬ (ix t.cost i).N < 0
  | 0, j, h => by cases h
  | k + 1, j, h => by
    cases h1 : entK t k with
    | some i =>
      have := entK_some h1
      unfold entK at h
      rw [h1] at h
      injection h with h
      rw [← h]
      exact this
    | none =>
      rw [entK_succ h1] at h
      split at h
      · rename_i hN
        injection h with h
        rw [← h]
        refine ⟨hN, fun i hi => ?_⟩
        exact (entK_none h1) i hi
      · cases h
where
  entK_none {t : Tab} : ∀ {k : Nat}, entK t k = none → ∀ i, i < k → ¬ (ix t.cost i).N < 0
  | 0, _, i, hi => by omega
  | k + 1, h, i, hi => by
    cases h1 : entK t k with
    | some i' => unfold entK at h; rw [h1] at h; cases h
    | none =>
      rw [entK_succ h1] at h
      split at h
      · cases h
      · rename_i hN
        by_cases hik : i = k
        · rw [hik]; exact hN
        · exact entK_none h1 i (by omega)
theorem entK_none {t : Tab} {k : Nat} (h : entK t k = none) : ∀ i, i < k → ¬ (ix t.cost i).N < 0 := entK_some.entK_none h
/-- The ratio of a row. -/
def rat (t : Tab) (j i : Nat) : Rat := (Q t).T i t.w / (Q t).T i j
structure Best (t : Tab) (j k r : Nat) (low : Fr) : Prop where
  lt : r < k
  pos : 0 < (ix (ix t.rows r) j).N
  lv : ValidF low ∧ V low = rat t j r
  best : ∀ i, i < k → 0 < (ix (ix t.rows i) j).N → V low < rat t j i ∨ (V low = rat t j i ∧ ix t.basis r ≤ ix t.basis i)
theorem lvK_best {t : Tab} {j : Nat} : ∀ {k : Nat} {s : Int} {low : Fr}, lvK t j k = some (s, low) → (s = -1 ∧ ∀ i, i < k → ¬ 0 < (ix (ix t.rows i) j).N) ∨ ∃ r : Nat, s = r ∧ Best t j k r low
  | 0, s, low, h => by
    unfold lvK at h
    injection h with h
    injection h with h1 h2
    exact .inl ⟨h1.symm, fun i hi => by omega⟩
  | k + 1, s, low, h => by
    cases h1 : lvK t j k with
    | none => unfold lvK at h; rw [h1] at h; cases h
    | some p =>
      obtain ⟨s', low'⟩ := p
      have ih := lvK_best h1
      rw [lvK_succ h1] at h
      by_cases hN : (ix (ix t.rows k) j).N ≤ 0
      · rw [if_pos hN] at h
        injection h with h
        injection h with h2 h3
        subst h2 h3
        rcases ih with ⟨e, hn⟩ | ⟨r, e, b⟩
        · exact .inl ⟨e, fun i hi => by
            by_cases hik : i = k
            · rw [hik]; omega
            · exact hn i (by omega)⟩
        · exact .inr ⟨r, e, ⟨by have := b.lt; omega, b.pos, b.lv, fun i hi hp => by
            by_cases hik : i = k
            · rw [hik] at hp; omega
            · exact b.best i (by omega) hp⟩⟩
      · rw [if_neg hN] at h
        cases h2 : divO (ix (ix t.rows k) t.w) (ix (ix t.rows k) j) with
        | none => rw [h2] at h; cases h
        | some q =>
          rw [h2] at h
          obtain ⟨d1, d2, d3, d4, d5⟩ := divO_some h2
          have hq : V q = rat t j k := d5
          simp only at h
          by_cases hT : lvTest t s' low' k q
          · rw [if_pos hT] at h
            injection h with h
            injection h with h3 h4
            subst h3 h4
            refine .inr ⟨k, rfl, ⟨by omega, by omega, ⟨d4, hq⟩, fun i hi hp => ?_⟩⟩
            by_cases hik : i = k
            · rw [hik]; exact .inr ⟨hq, Int.le_refl _⟩
            · rcases ih with ⟨e, hn⟩ | ⟨r, e, b⟩
              · exact absurd hp (hn i (by omega))
              · have hb := b.best i (by omega) hp
                subst e
                rcases hT with hT | hT | ⟨hT1, hT2⟩
                · omega
                · have := (cmp_lt d4 b.lv.1).1 hT
                  exact .inl (by rcases hb with hb | ⟨hb, _⟩ <;> grind)
                · have h5 := (cmp_zero d4 b.lv.1).1 hT1
                  simp only [Int.toNat_natCast] at hT2
                  rw [h5]
                  rcases hb with hb | ⟨hb, hb2⟩
                  · exact .inl hb
                  · exact .inr ⟨hb, by omega⟩
          · rw [if_neg hT] at h
            injection h with h
            injection h with h3 h4
            subst h3 h4
            rcases ih with ⟨e, hn⟩ | ⟨r, e, b⟩
            · exact absurd (.inl (by omega)) hT
            · refine .inr ⟨r, e, ⟨by have := b.lt; omega, b.pos, b.lv, fun i hi hp => ?_⟩⟩
              by_cases hik : i = k
              · subst hik
                subst e
                have n1 : ¬ V q < V low' := fun h => hT (.inr (.inl ((cmp_lt d4 b.lv.1).2 h)))
                have n2 : V q = V low' → ix t.basis r ≤ ix t.basis i := fun h => by
                  refine Int.not_lt.1 fun h' => hT (.inr (.inr ⟨(cmp_zero d4 b.lv.1).2 h, ?_⟩))
                  rw [Int.toNat_natCast]
                  exact h'
                rw [← hq]
                by_cases he : V q = V low'
                · exact .inr ⟨he.symm, n2 he⟩
                · exact .inl (by grind)
              · exact b.best i (by omega) hp
section
variable {L : Lay} {t : Tab}
theorem bas_nn (hS : Shape L t) (i : Nat) : 0 ≤ ix t.basis i ∧ ix t.basis i ≤ 1000 := by
  by_cases hi : i < t.basis.length
  · exact hS.b64 _ (ix_mem hi)
  · rw [ix_ge (by omega)]
    show (0 : Int) ≤ 0 ∧ (0 : Int) ≤ 1000
    omega
theorem cost_valid (hv : Vd t) (hc : t.cost.length = t.w + 1) {k : Nat} (hk : k < t.w + 1) : ValidF (ix t.cost k) := by
  rcases hv.cost with h | h
  · rw [h] at hc; simp at hc
  · exact h k hk
theorem lv_bl (hS : Shape L t) (hv : Vd t) (hc : t.cost.length = t.w + 1) {j r : Nat} {low : Fr} (hj : entK t t.w = some j) (b : Best t j t.m r low) : Bl t.m t.w (Q t) r j := by
  have hjw := entK_lt hj
  obtain ⟨e1, e2⟩ := entK_some hj
  have vj := fun i (hi : i < t.m) => hv.rows i j hi (by omega)
  refine ⟨hjw, (V_neg_iff (cost_valid hv hc (by omega))).1 e1, fun k hk => ?_, b.lt, (V_pos_iff (vj r b.lt)).1 b.pos, fun i hi hp => ?_⟩
  · have h1 := e2 k hk
    rw [V_neg_iff (cost_valid hv hc (by omega))] at h1
    show 0 ≤ V (ix t.cost k)
    grind
  · have h1 := b.best i hi ((V_pos_iff (vj i hi)).2 hp)
    rw [b.lv.2] at h1
    refine h1.imp id fun ⟨h2, h3⟩ => ⟨h2, ?_⟩
    have q1 := bas_nn hS r
    have q2 := bas_nn hS i
    show (ix t.basis r).toNat ≤ (ix t.basis i).toNat
    omega
theorem leav_best {j : Nat} (h1 : (leavF t j).2 = false) : (leavF t j).1 = -1 ∧ (∀ i, i < t.m → ¬ 0 < (ix (ix t.rows i) j).N) ∨ ∃ r low, (leavF t j).1 = (r : Nat) ∧ Best t j t.m r low := by
  unfold leavF at h1 ⊢
  cases h2 : lvK t j t.m with
  | none => rw [h2] at h1; simp at h1
  | some p =>
    obtain ⟨s, low⟩ := p
    rcases lvK_best h2 with h3 | ⟨r, h3, h4⟩
    · exact .inl h3
    · exact .inr ⟨r, low, h3, h4⟩
theorem step_Q (hS : Shape L t) (hv : Vd t) (hc : t.cost.length = t.w + 1) {u : Tab} (h : stepF t = .inr u) (ho : u.over = false) : ∃ r j, Bl t.m t.w (Q t) r j ∧ Q u = pivQ (Q t) r j ∧ Vd u := by
  unfold stepF at h
  split at h
  · cases h
  · split at h
    · cases h
    · rename_i j hj
      split at h
      · cases h
      · rename_i h1
        split at h
        · cases h
        · rename_i h2
          injection h with h
          rcases leav_best (t := t) (j := j) (by simpa using h1) with ⟨h3, _⟩ | ⟨r, low, h3, h4⟩
          · omega
          · rw [h3, Int.toNat_natCast] at h
            rw [← h] at ho ⊢
            obtain ⟨_, _, k3, k4⟩ := piv_Q hS h4.lt (entK_lt hj) ho
            exact ⟨r, j, lv_bl hS hv hc hj h4, k3, k4 hv⟩
theorem step_over {u : Tab} (h : stepF t = .inr u) : t.over = false := by
  unfold stepF at h
  split at h
  · cases h
  · rename_i h1
    simpa using h1
/-- A phase comes to an end. -/
theorem halts (hS : Shape L t) (hv : Vd t) (hc : t.cost.length = t.w + 1) (hW : WF t.m t.w (Q t)) : Halts t := by
  apply Classical.byContradiction
  intro hn
  obtain ⟨nxt, hnxt⟩ : ∃ nxt : Tab → Tab, nxt = fun t => match stepF t with | .inr v => v | .inl _ => t := ⟨_, rfl⟩
  obtain ⟨u, hu0, hus⟩ : ∃ u : Nat → Tab, u 0 = t ∧ ∀ n, u (n + 1) = nxt (u n) := ⟨fun n => Nat.rec t (fun _ x => nxt x) n, rfl, fun n => rfl⟩
  have step : ∀ x, ¬ Halts x → stepF x = .inr (nxt x) ∧ ¬ Halts (nxt x) := fun x hx => by
    cases h : stepF x with
    | inl r => exact absurd ⟨r, 1, by unfold runF; rw [h]⟩ hx
    | inr v =>
      have e : nxt x = v := by rw [hnxt]; simp only [h]
      rw [e]
      refine ⟨rfl, fun ⟨r, n, hr⟩ => hx ⟨r, n + 1, ?_⟩⟩
      unfold runF
      rw [h]
      exact hr
  have hnh : ∀ n, ¬ Halts (u n) := by
    intro n
    induction n with
    | zero => rw [hu0]; exact hn
    | succ n ih => rw [hus]; exact (step _ ih).2
  have hst : ∀ n, stepF (u n) = .inr (u (n + 1)) := fun n => by rw [hus]; exact (step _ (hnh n)).1
  have hov : ∀ n, (u n).over = false := fun n => step_over (hst n)
  have inv : ∀ n, Shape L (u n) ∧ Vd (u n) ∧ Kin t (u n) := by
    intro n
    induction n with
    | zero => rw [hu0]; exact ⟨hS, hv, Kin.refl t⟩
    | succ n ih =>
      obtain ⟨i1, i2, i3⟩ := ih
      have h1 := stepF_shape i1
      rw [hst n] at h1
      obtain ⟨_, _, _, _, h2⟩ := step_Q i1 i2 (by rw [i3.cost, hc, i3.w]) (hst n) (hov (n + 1))
      exact ⟨h1.1, h2, i3.trans h1.2⟩
  have hex : ∀ n, ∃ p : Nat × Nat, Bl t.m t.w (Q (u n)) p.1 p.2 ∧ Q (u (n + 1)) = pivQ (Q (u n)) p.1 p.2 := fun n => by
    obtain ⟨i1, i2, i3⟩ := inv n
    obtain ⟨r, j, h1, h2, _⟩ := step_Q i1 i2 (by rw [i3.cost, hc, i3.w]) (hst n) (hov (n + 1))
    rw [i3.m, i3.w] at h1
    exact ⟨(r, j), h1, h2⟩
  have hw := shape_w36 hS
  exact bland_ends (m := t.m) (w := t.w) (B := 1000) (t := fun n => Q (u n)) (r := fun n => (hex n).choose.1) (j := fun n => (hex n).choose.2) (by rw [hu0]; exact hW) (by omega) (fun i hi => by
    rw [hu0]
    have := bas_nn hS i
    show (ix t.basis i).toNat ≤ 1000
    omega) (fun n => (hex n).choose_spec.1) (fun n => (hex n).choose_spec.2)
end
/-- What stays true through a phase that is not too great is true at its end. -/
theorem runF_ind {P : Tab → Prop} (hst : ∀ t u, P t → stepF t = .inr u → u.over = false → P u) : ∀ {n : Nat} {t : Tab} {r : Bool × Tab}, runF n t = some r → P t → r.2.over = false → P r.2 ∧ stepF r.2 = .inl r
  | 0, _, _, h, _, _ => by cases h
  | n + 1, t, r, h, hP, ho => by
    unfold runF at h
    cases hs : stepF t with
    | inl q =>
      rw [hs] at h
      injection h with h
      subst h
      have e : q.2 = t := by
        unfold stepF at hs
        split at hs
        · injection hs with hs; rw [← hs]
        · split at hs
          · injection hs with hs; rw [← hs]
          · split at hs
            · injection hs with hs
              rw [← hs] at ho
              simp [orT] at ho
            · split at hs
              · injection hs with hs; rw [← hs]
              · cases hs
      rw [e]
      exact ⟨hP, hs⟩
    | inr u =>
      rw [hs] at h
      have hou : u.over = false := by
        cases hb : u.over with
        | false => rfl
        | true =>
          cases n with
          | zero => cases h
          | succ n =>
            unfold runF at h
            have : stepF u = .inl (true, u) := if_pos hb
            simp only [this] at h
            injection h with h
            rw [← h, hb] at ho
            cases ho
      exact runF_ind hst h (hst t u hP hs hou) ho
end Go.Proofs.YtfoipbjhaiimlaaGreatDoor


/-
  layer 30: the first tableau and phase one, as rational numbers.
-/
namespace Go.Proofs.YtfoipbjhaiimlaaGreatDoor
open Go.RowKit
set_option linter.unusedSimpArgs false
set_option linter.unusedVariables false

section
variable (l : Lin)
def aQ (i k : Nat) : Rat := V (ix (ix l.A i) k)
def bQ (i : Nat) : Rat := V (ix l.B i)
def cQ (k : Nat) : Rat := V (ix l.C k)
def sg (i : Nat) : Rat := if keepB l i then 1 else -1
def T0 (i k : Nat) : Rat := if k < l.C.length then sg l i * aQ l i k else if k = l.C.length + i then - sg l i else if k = l.C.length + l.A.length then sg l i * bQ l i else 0
end
theorem V_01 : V F01 = 0 := V_zero rfl
theorem V_11 : V F11 = 1 := by
  unfold V F11
  have : ((1 : Int) : Rat) = 1 := rfl
  rw [this]
  grind
theorem V_m1 : V ⟨-1, 1⟩ = -1 := by
  unfold V
  have h1 : ((1 : Int) : Rat) = 1 := rfl
  have h2 : ((-1 : Int) : Rat) = -1 := rfl
  rw [h1, h2]
  grind
theorem valid_01 : ValidF F01 := by decide
theorem valid_11 : ValidF F11 := by decide
theorem valid_m1 : ValidF ⟨-1, 1⟩ := by decide
section
variable {l : Lin}
/-- A valid program. -/
structure Ok (l : Lin) : Prop where
  g : Good l
  a : ∀ i k, i < l.A.length → k < l.C.length → ValidF (ix (ix l.A i) k)
  b : ∀ i, i < l.A.length → ValidF (ix l.B i)
  c : ∀ k, k < l.C.length → ValidF (ix l.C k)
theorem ok_of (h : checkF l = 0) : Ok l := by
  obtain ⟨k1, k2, k3, k4, k5, k6, k7⟩ := check_zero h
  refine ⟨goodL_of h, fun i k hi hk => ?_, fun i hi => k5 _ (ix_mem (by omega)), fun k hk => k6 _ (ix_mem hk)⟩
  obtain ⟨q1, q2⟩ := k7 _ (ix_mem hi)
  exact q2 _ (ix_mem (by omega))
theorem put_val (h : Ok l) {i k : Nat} (hi : i < l.A.length) (hk : k < l.C.length) : ValidF (putE l i (ix (ix l.A i) k)) ∧ V (putE l i (ix (ix l.A i) k)) = sg l i * aQ l i k := by
  have ha := h.a i k hi hk
  unfold putE sg aQ
  split
  · exact ⟨ha, by grind⟩
  · exact ⟨valid_neg ha, by rw [neg_val ha]; grind⟩
theorem ix_rep {α : Type} [Inhabited α] {a : α} {n k : Nat} (h : k < n) : ix (List.replicate n a) k = a := by
  rw [ix_lt (by rw [List.length_replicate]; exact h), List.getElem_replicate]
theorem rowB_val (h : Ok l) {i k : Nat} (hi : i < l.A.length) (hk : k < l.C.length + l.A.length + 1) : ValidF (ix (rowB l i) k) ∧ V (ix (rowB l i) k) = T0 l i k := by
  have hb := h.b i hi
  have hlen : (List.replicate (l.C.length + l.A.length + 1) F01).length = l.C.length + l.A.length + 1 := List.length_replicate
  have h0 : ValidF (ix (mixF l.C.length (fun c => putE l i (ix (ix l.A i) c)) (List.replicate (l.C.length + l.A.length + 1) F01)) k) ∧ V (ix (mixF l.C.length (fun c => putE l i (ix (ix l.A i) c)) (List.replicate (l.C.length + l.A.length + 1) F01)) k) = if k < l.C.length then sg l i * aQ l i k else 0 := by
    rw [mixF_ix (by rw [hlen]; exact hk)]
    by_cases hkn : k < l.C.length
    · rw [if_pos hkn, if_pos hkn]
      exact put_val h hi hkn
    · rw [if_neg hkn, if_neg hkn, ix_rep hk]
      exact ⟨valid_01, V_01⟩
  unfold rowB T0
  simp only
  by_cases hkeep : keepB l i = true
  · have hs : sg l i = 1 := if_pos hkeep
    rw [if_pos hkeep, ix_set (by simp only [List.length_set, mixF_len, hlen]; omega)]
    by_cases hkw : k = l.C.length + l.A.length
    · rw [if_pos hkw, if_neg (by omega), if_neg (by omega), if_pos hkw, hs]
      exact ⟨hb, by unfold bQ; grind⟩
    · rw [if_neg hkw, ix_set (by simp only [List.length_set, mixF_len, hlen]; omega)]
      by_cases hki : k = l.C.length + i
      · rw [if_pos hki, if_neg (by omega), if_pos hki, hs]
        exact ⟨valid_m1, V_m1⟩
      · rw [if_neg hki, ix_set (by simp only [List.length_set, mixF_len, hlen]; omega), if_neg hkw, ix_set (by simp only [mixF_len, hlen]; omega), if_neg hki]
        refine ⟨h0.1, h0.2.trans ?_⟩
        rw [if_neg hki, if_neg hkw]
  · have hs : sg l i = -1 := if_neg hkeep
    rw [if_neg hkeep, ix_set (by simp only [List.length_set, mixF_len, hlen]; omega)]
    by_cases hkw : k = l.C.length + l.A.length
    · rw [if_pos hkw, if_neg (by omega), if_neg (by omega), if_pos hkw, hs]
      exact ⟨valid_neg hb, by rw [neg_val hb]; unfold bQ; grind⟩
    · rw [if_neg hkw, ix_set (by simp only [mixF_len, hlen]; omega)]
      by_cases hki : k = l.C.length + i
      · rw [if_pos hki, if_neg (by omega), if_pos hki, hs]
        exact ⟨valid_11, by rw [V_11]; grind⟩
      · rw [if_neg hki]
        refine ⟨h0.1, h0.2.trans ?_⟩
        rw [if_neg hki, if_neg hkw]
theorem basK_at (h : Ok l) : ∀ {k i : Nat}, k ≤ l.A.length → i < k → ix (basK l k) i = if keepB l i then (l.C.length : Int) + l.A.length + i else (l.C.length : Int) + i
  | 0, i, _, hi => by omega
  | k + 1, i, hk, hi => by
    have := h.g.m24
    unfold basK
    rw [ix_set (by rw [basK_len]; omega)]
    by_cases hik : i = k
    · subst hik
      rw [if_pos rfl]
    · rw [if_neg hik]
      exact basK_at h (by omega) (by omega)
theorem beg_w : (begF l).w = l.C.length + l.A.length := rfl
theorem beg_shape (h : Ok l) : ∃ L : Lay, L.c = none ∧ Shape L (begF l) :=
  ⟨layB 2 l l.A.length, rfl, (tabB_shape h.g 2 (Nat.le_refl l.A.length)).full (by simp [layB, tabB])⟩
theorem beg_row {i : Nat} (hi : i < l.A.length) : ix (begF l).rows i = rowB l i := by
  show ix ((List.range l.A.length).map (rowB l)) i = _
  exact ix_range hi
theorem beg_T (h : Ok l) {i k : Nat} (hi : i < l.A.length) (hk : k < l.C.length + l.A.length + 1) : (Q (begF l)).T i k = T0 l i k := by
  show V (ix (ix (begF l).rows i) k) = _
  rw [beg_row hi]
  exact (rowB_val h hi hk).2
theorem beg_b (h : Ok l) {i : Nat} (hi : i < l.A.length) : (Q (begF l)).b i = if keepB l i then l.C.length + l.A.length + i else l.C.length + i := by
  show (ix (basK l l.A.length) i).toNat = _
  rw [basK_at h (Nat.le_refl _) hi]
  split <;> omega
theorem beg_vd (h : Ok l) : Vd (begF l) := ⟨fun i k hi hk => by rw [beg_row hi]; exact (rowB_val h hi hk).1, .inl rfl⟩
/-- The units of the first tableau, and its right side. -/
theorem beg_unit (h : Ok l) : ∀ i, i < l.A.length → (Q (begF l)).b i < l.C.length + l.A.length → ∀ i', i' < l.A.length → (Q (begF l)).T i' ((Q (begF l)).b i) = if i' = i then 1 else 0 := fun i hi hb i' hi' => by
  rw [beg_b h hi] at hb ⊢
  by_cases hk : keepB l i = true
  · rw [if_pos hk] at hb; omega
  · rw [if_neg hk, beg_T h hi' (by omega)]
    unfold T0
    rw [if_neg (by omega)]
    by_cases hii : i' = i
    · subst hii
      rw [if_pos rfl, if_pos rfl]
      unfold sg
      rw [if_neg hk]
      grind
    · rw [if_neg (by omega), if_neg (by omega), if_neg hii]
theorem beg_rhs (h : Ok l) : ∀ i, i < l.A.length → 0 ≤ (Q (begF l)).T i (l.C.length + l.A.length) := fun i hi => by
  rw [beg_T h hi (by omega)]
  unfold T0
  rw [if_neg (by omega), if_neg (by omega), if_pos rfl]
  have hb := h.b i hi
  have h1 := V_pos_iff hb
  have hd : keepB l i = decide (0 < (ix l.B i).N) := rfl
  unfold sg bQ
  by_cases hk : 0 < (ix l.B i).N
  · rw [if_pos (by rw [hd]; exact decide_eq_true hk)]
    have := h1.1 hk
    grind
  · rw [if_neg (by rw [hd]; simpa using hk)]
    have := mt h1.2 hk
    grind
/-! ### Phase one -/
theorem art_iff {L : Lay} {t : Tab} (hS : Shape L t) (i : Nat) : artP t i = true ↔ t.w ≤ (Q t).b i := by
  have := bas_nn hS i
  unfold artP
  show decide ((t.w : Int) ≤ ix t.basis i) = true ↔ t.w ≤ (ix t.basis i).toNat
  rw [decide_eq_true_iff]
  omega
theorem rowE_V (t : Tab) (k : Nat) : V (ix (rowE t) k) = 0 := by
  by_cases hk : k < t.w + 1
  · rw [show rowE t = List.replicate (t.w + 1) F01 from rfl, ix_rep hk]; exact V_01
  · rw [ix_ge (by rw [rowE_len]; omega)]; exact V_def
theorem f1_Q {L : Lay} {t : Tab} (hS : Shape L t) : ∀ {k : Nat}, k ≤ t.m → (f1K t k).over = false → t.over = false ∧ Q (f1K t k) = ⟨(Q t).T, fun c => - Sm k (fun i => if t.w ≤ (Q t).b i then (Q t).T i c else 0), (Q t).b⟩ ∧ (Vd t → Vd (f1K t k))
  | 0, _, ho => ⟨ho, by
      refine QT.same (fun _ _ => rfl) (fun k => ?_) (fun _ => rfl)
      show V (ix (rowE t) k) = - Sm 0 _
      rw [rowE_V]
      unfold Sm
      grind, fun hv => ⟨hv.rows, .inr fun k hk => by
        have hk : k < t.w + 1 := hk
        show ValidF (ix (rowE t) k)
        rw [show rowE t = List.replicate (t.w + 1) F01 from rfl, ix_rep hk]
        exact valid_01⟩⟩
  | k + 1, hk, ho => by
    have hS1 : Shape (newC L []) (f1K t k) := f1K_shape hS (by omega)
    have ih := f1_Q hS (k := k) (by omega)
    have hb : ∀ i, artP t i = true ↔ t.w ≤ (Q t).b i := art_iff hS
    unfold f1K at ho ⊢
    by_cases ha : artP t k = true
    · rw [if_pos ha] at ho ⊢
      obtain ⟨h1, h2, h3⟩ := clr_cost hS1 (f1K_pre hk) ho
      obtain ⟨h4, h5, h6⟩ := ih h1
      refine ⟨h4, ?_, fun hv => h3 (h6 hv)⟩
      rw [h2, h5, V_11]
      refine QT.same (fun _ _ => rfl) (fun c => ?_) (fun _ => rfl)
      simp only
      show _ = - (Sm k _ + if t.w ≤ (Q t).b k then (Q t).T k c else 0)
      rw [if_pos ((hb k).1 ha)]
      grind
    · rw [if_neg ha] at ho ⊢
      obtain ⟨h4, h5, h6⟩ := ih ho
      refine ⟨h4, ?_, h6⟩
      rw [h5]
      refine QT.same (fun _ _ => rfl) (fun c => ?_) (fun _ => rfl)
      simp only
      show _ = - (Sm k _ + if t.w ≤ (Q t).b k then (Q t).T k c else 0)
      rw [if_neg (fun h => ha ((hb k).2 h))]
      grind
/-- What is true through phase one. -/
structure In1 (l : Lin) (t : Tab) : Prop where
  s : ∃ L, Shape L t
  v : Vd t
  c : t.cost.length = t.w + 1
  n : t.n = l.C.length
  m : t.m = l.A.length
  wf : WF l.A.length (l.C.length + l.A.length) (Q t)
  p1 : P1 l.A.length (l.C.length + l.A.length) (Q t)
  e : Eqv l.A.length (Q (begF l)).T (Q t).T
theorem In1.w {t : Tab} (h : In1 l t) : t.w = l.C.length + l.A.length := by unfold Tab.w; rw [h.n, h.m]
theorem f1_in (h : Ok l) (ho : (f1T (begF l)).over = false) : In1 l (f1T (begF l)) := by
  obtain ⟨L, hLc, hS⟩ := beg_shape h
  obtain ⟨h1, h2, h3⟩ := f1_Q hS (k := (begF l).m) (Nat.le_refl _) ho
  obtain ⟨s1, s2, s3, s4⟩ := f1K_same (begF l) (begF l).m
  have hw : (f1K (begF l) (begF l).m).w = (begF l).w := f1K_w _ _
  refine ⟨⟨_, f1K_shape (K := []) hS (Nat.le_refl _)⟩, h3 (beg_vd h), ?_, s1, s2, ?_, ?_, ?_⟩
  · show (f1K (begF l) (begF l).m).cost.length = (f1K (begF l) (begF l).m).w + 1
    rw [s3, hw]
  · rw [show f1T (begF l) = f1K (begF l) (begF l).m from rfl, h2]
    refine ⟨beg_unit h, fun i hi hb => ?_, beg_rhs h⟩
    have hb : (Q (begF l)).b i < l.C.length + l.A.length := hb
    show - Sm (begF l).m (fun x => if (begF l).w ≤ (Q (begF l)).b x then (Q (begF l)).T x ((Q (begF l)).b i) else 0) = 0
    rw [Sm_congr (g := fun _ => 0) (fun x hx => ?_), Sm_zero]
    · grind
    · split
      · rename_i hx2
        rw [beg_unit h i hi hb x hx, if_neg (fun e => by rw [e] at hx2; exact absurd hb (by rw [beg_w] at hx2; omega))]
      · rfl
  · rw [show f1T (begF l) = f1K (begF l) (begF l).m from rfl, h2]
    exact fun k => rfl
  · rw [show f1T (begF l) = f1K (begF l) (begF l).m from rfl, h2]
    exact Eqv.refl _ _
theorem In1.step {t u : Tab} (h : In1 l t) (hs : stepF t = .inr u) (ho : u.over = false) : In1 l u := by
  obtain ⟨L, hS⟩ := h.s
  obtain ⟨r, j, hB, hQ, hv⟩ := step_Q hS h.v h.c hs ho
  have hsh := stepF_shape hS
  rw [hs] at hsh
  obtain ⟨k1, k2⟩ := hsh
  rw [h.m, h.w] at hB
  have hp := pos_ne hB.pos
  refine ⟨⟨L, k1⟩, hv, by rw [k2.cost, h.c, k2.w], k2.n.trans h.n, k2.m.trans h.m, ?_, ?_, ?_⟩
  · rw [hQ]; exact h.wf.piv hB
  · rw [hQ]; exact h.p1.piv hB.jw hp
  · rw [hQ]; exact h.e.trans (Eqv.piv hB.rm hp)
theorem In1.halts {t : Tab} (h : In1 l t) : Halts t := by
  obtain ⟨L, hS⟩ := h.s
  exact Go.Proofs.YtfoipbjhaiimlaaGreatDoor.halts hS h.v h.c (by rw [h.m, h.w]; exact h.wf)
theorem haltsF (h : Ok l) : HaltsF (begF l) := fun hn => (f1_in h (by
  cases ho : (f1T (begF l)).over with
  | false => rfl
  | true => exact absurd (.inr ho) hn)).halts
/-- The end of phase one. -/
theorem phase1_end (h : Ok l) (ho1 : (f1T (begF l)).over = false) (ho : (phaseF (f1T (begF l))).2.over = false) : In1 l (phaseF (f1T (begF l))).2 := by
  obtain ⟨r, n, hr⟩ := (f1_in h ho1).halts
  rw [phaseF_eq hr] at ho ⊢
  exact (runF_ind (P := In1 l) (fun t u ht hs ho => ht.step hs ho) hr (f1_in h ho1) ho).1
/-! ### Behind phase one -/
/-- What is true when the artificial variables below k have left. -/
structure In2 (l : Lin) (k : Nat) (t : Tab) : Prop where
  s : ∃ L, Shape L t
  v : Vd t
  n : t.n = l.C.length
  m : t.m = l.A.length
  wf : WF l.A.length (l.C.length + l.A.length) (Q t)
  e : Eqv l.A.length (Q (begF l)).T (Q t).T
  c : ∀ k, (Q t).c k = 0
  o : t.over = false
  r : ∀ i, i < l.A.length → l.C.length + l.A.length ≤ (Q t).b i → (Q t).T i (l.C.length + l.A.length) = 0
  z : ∀ i, i < k → i < l.A.length → l.C.length + l.A.length ≤ (Q t).b i → ∀ c, c < l.C.length + l.A.length → (Q t).T i c = 0
theorem In2.w {t : Tab} {k : Nat} (h : In2 l k t) : t.w = l.C.length + l.A.length := by unfold Tab.w; rw [h.n, h.m]
theorem colK_none {t : Tab} {i : Nat} : ∀ {k : Nat}, colK t i k = none → ∀ c, c < k → (ix (ix t.rows i) c).N = 0
  | 0, _, c, hc => by omega
  | k + 1, h, c, hc => by
    cases h1 : colK t i k with
    | some i' => unfold colK at h; rw [h1] at h; cases h
    | none =>
      rw [colK_succ h1] at h
      split at h
      · cases h
      · rename_i hN
        by_cases hck : c = k
        · rw [hck]; exact Classical.byContradiction hN
        · exact colK_none h1 c (by omega)
theorem In2.rep {t : Tab} {k : Nat} (h : In2 l k t) (hk : k < l.A.length) (ho : (repF t k).over = false) : In2 l (k + 1) (repF t k) := by
  obtain ⟨L, hS⟩ := h.s
  have hart := art_iff hS k
  have hw := h.w
  unfold repF at ho ⊢
  by_cases ha : (t.w : Int) ≤ ix t.basis k ∧ t.over = false
  · rw [if_pos ha] at ho ⊢
    have hbk : l.C.length + l.A.length ≤ (Q t).b k := by rw [← hw]; exact hart.1 (decide_eq_true ha.1)
    cases hc : colK t k t.w with
    | none =>
      refine ⟨h.s, h.v, h.n, h.m, h.wf, h.e, h.c, h.o, h.r, fun i hi hi2 hb c hc2 => ?_⟩
      by_cases hik : i = k
      · subst hik
        exact V_zero (colK_none hc c (by rw [hw]; exact hc2))
      · exact h.z i (by omega) hi2 hb c hc2
    | some j =>
      rw [hc] at ho
      simp only at ho ⊢
      have hj := colK_lt hc
      obtain ⟨p1, p2, p3, p4⟩ := piv_Q hS (by rw [h.m]; exact hk) hj ho
      have hj' : j < l.C.length + l.A.length := by omega
      have hr0 := h.r k hk hbk
      refine ⟨⟨L, pivF_shape hS (by rw [h.m]; exact hk) hj⟩, p4 h.v, (pivF_n k j).trans h.n, (pivF_m k j).trans h.m, ?_, ?_, ?_, ho, ?_, ?_⟩
      · rw [p3]; exact h.wf.piv0 hk hj' p2 hr0 h.c
      · rw [p3]; exact h.e.trans (Eqv.piv hk p2)
      · rw [p3]
        intro c
        show (Q t).c c - (Q t).c j * ((Q t).T k c / (Q t).T k j) = 0
        rw [h.c, h.c]
        grind
      · rw [p3]
        intro i hi hb
        have hb : _ ≤ (if i = k then j else (Q t).b i) := hb
        by_cases hik : i = k
        · rw [if_pos hik] at hb; omega
        · rw [if_neg hik] at hb
          show (if i = k then _ else _) = 0
          rw [if_neg hik, hr0, h.r i hi hb]
          grind
      · rw [p3]
        intro i hi hi2 hb c hc2
        have hb : _ ≤ (if i = k then j else (Q t).b i) := hb
        by_cases hik : i = k
        · rw [if_pos hik] at hb; omega
        · rw [if_neg hik] at hb
          show (if i = k then _ else _) = 0
          rw [if_neg hik, h.z i (by omega) hi2 hb c hc2, h.z i (by omega) hi2 hb j hj']
          grind
  · rw [if_neg ha] at ho ⊢
    refine ⟨h.s, h.v, h.n, h.m, h.wf, h.e, h.c, h.o, h.r, fun i hi hi2 hb c hc2 => ?_⟩
    by_cases hik : i = k
    · subst hik
      refine absurd ⟨?_, h.o⟩ ha
      have := hart.2 (by rw [hw]; exact hb)
      exact of_decide_eq_true this
    · exact h.z i (by omega) hi2 hb c hc2
theorem rep_over {t : Tab} {L : Lay} (hS : Shape L t) {k : Nat} (hk : k < t.m) (ho : (repF t k).over = false) : t.over = false := by
  unfold repF at ho
  split at ho
  · rename_i h; exact h.2
  · exact ho
theorem In2.reps {t : Tab} (h : In2 l 0 t) : ∀ {k : Nat}, k ≤ l.A.length → (repK t k).over = false → In2 l k (repK t k)
  | 0, _, _ => h
  | k + 1, hk, ho => by
    obtain ⟨L, hS⟩ := h.s
    have hsh := repK_shape hS (k := k) (by rw [h.m]; omega)
    have ho' : (repK t k).over = false := rep_over hsh.1 (by rw [hsh.2.m, h.m]; omega) ho
    exact (h.reps (k := k) (by omega) ho').rep (by omega) ho
/-- Phase one has a solution: the tableau that phase two begins with. -/
theorem first_in (h : Ok l) (ho : (firstF (begF l)).2.over = false) (hb : (firstF (begF l)).1 = true) : In2 l l.A.length (firstF (begF l)).2 := by
  obtain ⟨L, hLc, hS⟩ := beg_shape h
  unfold firstF at ho hb ⊢
  by_cases h1 : anyK (begF l).m (artP (begF l)) = false ∨ (f1T (begF l)).over = true
  · rw [if_pos h1] at ho ⊢
    have h2 : anyK (begF l).m (artP (begF l)) = false := h1.resolve_right (fun e => by rw [show (true, f1T (begF l)).2 = f1T (begF l) from rfl, e] at ho; cases ho)
    have ho : (f1T (begF l)).over = false := ho
    have hi := f1_in h ho
    obtain ⟨q1, q2, q3⟩ := f1_Q hS (k := (begF l).m) (Nat.le_refl _) ho
    have hQ : Q (f1T (begF l)) = ⟨(Q (begF l)).T, fun c => - Sm (begF l).m (fun i => if (begF l).w ≤ (Q (begF l)).b i then (Q (begF l)).T i c else 0), (Q (begF l)).b⟩ := q2
    have hna : ∀ i, i < l.A.length → ¬ l.C.length + l.A.length ≤ (Q (begF l)).b i := fun i hi hb => by
      have := anyK_false h2 i hi
      rw [(art_iff hS i).2 hb] at this
      cases this
    refine ⟨hi.s, hi.v, hi.n, hi.m, hi.wf, hi.e, fun k => ?_, ho, fun i hi hb => ?_, fun i _ hi hb => ?_⟩
    · rw [show (true, f1T (begF l)).2 = f1T (begF l) from rfl, hQ]
      show - Sm l.A.length _ = 0
      rw [Sm_congr (g := fun _ => 0) (fun i hi => by exact if_neg (hna i hi)), Sm_zero]
      grind
    · rw [show (true, f1T (begF l)).2 = f1T (begF l) from rfl, hQ] at hb
      exact absurd hb (hna i hi)
    · rw [show (true, f1T (begF l)).2 = f1T (begF l) from rfl, hQ] at hb
      exact absurd hb (hna i hi)
  · rw [if_neg h1] at ho hb ⊢
    have ho1 : (f1T (begF l)).over = false := by
      cases hh : (f1T (begF l)).over with
      | false => rfl
      | true => exact absurd (.inr hh) h1
    by_cases h2 : (phaseF (f1T (begF l))).2.over = true
    · rw [if_pos h2] at ho
      rw [show (true, (phaseF (f1T (begF l))).2).2 = (phaseF (f1T (begF l))).2 from rfl, h2] at ho
      cases ho
    rw [if_neg h2] at ho hb ⊢
    have h2 : (phaseF (f1T (begF l))).2.over = false := by simpa using h2
    have hi := phase1_end h ho1 h2
    by_cases h3 : (ix (phaseF (f1T (begF l))).2.cost (begF l).w).N < 0
    · rw [if_pos h3] at hb
      cases hb
    rw [if_neg h3] at ho ⊢
    generalize (phaseF (f1T (begF l))).2 = t at *
    have hc0 : 0 ≤ (Q t).c (l.C.length + l.A.length) := by
      have hv := cost_valid hi.v hi.c (k := t.w) (by omega)
      rw [beg_w, ← hi.w, V_neg_iff hv] at h3
      rw [← hi.w]
      show 0 ≤ V (ix t.cost t.w)
      grind
    have hr := hi.p1.rhs hi.wf hc0
    obtain ⟨L2, hS2⟩ := hi.s
    have hin : In2 l 0 { t with cost := [] } := by
      refine ⟨⟨{ L2 with c := none }, ⟨hS2.m, hS2.r, hS2.n1, hS2.n12, hS2.m24, hS2.row, .inl ⟨rfl, rfl⟩, hS2.bas, hS2.b64⟩⟩, ⟨hi.v.rows, .inl rfl⟩, hi.n, hi.m, ⟨hi.wf.unit, fun i _ _ => V_def, hi.wf.rhs⟩, hi.e, fun _ => V_def, h2, hr, fun i hi => by omega⟩
    exact hin.reps (Nat.le_refl _) ho
end
end Go.Proofs.YtfoipbjhaiimlaaGreatDoor
