/-
  Texts joined: B5 B6 S9 B7 SD B8 B9 B10 B11 B12 B13 S10 SP S12 S13 S11 S14 S15 B13W S16 S17 P2.
-/
import Derived.Test.YtgjljfbohpnfcaaGreatX4
import Derived.Test.YtgjljfbohpnfcaaGreatX3

namespace Go.Proofs.YtgjljfbohpnfcaaGreat
open Go.RowKit
set_option linter.unusedSimpArgs false
set_option linter.unusedVariables false
set_option maxRecDepth 100000
def SB (l : List ByteArray) : Blk := ⟨9, 1, encRows l, true, true⟩
def neb (s : ByteArray) (x : ByteArray) : Bool := decide (x ≠ s)
theorem putU_run {l : List ByteArray} {s : ByteArray} {i : Nat} (h : i < l.length) (hs : ltb (ix l i) s = true) (hi : putU l s = l.take i ++ putU (l.drop i) s) : putU l s = l.take (i + 1) ++ putU (l.drop (i + 1)) s := by
  rw [hi, List.drop_eq_getElem_cons h, putU_cons, ← ix_lt h, if_pos hs, List.take_succ_eq_append_getElem h, ← ix_lt h]
  simp
theorem putU_stop {l : List ByteArray} {s : ByteArray} {i : Nat} (hs : ∀ h : i < l.length, ltb (ix l i) s = false) : putU (l.drop i) s = s :: (l.drop i).filter (neb s) := by
  rcases Nat.lt_or_ge i l.length with h | h
  · rw [List.drop_eq_getElem_cons h, putU_cons, ← ix_lt h, if_neg (by rw [hs h]; simp)]
    rfl
  · rw [List.drop_eq_nil_of_le h]; rfl
theorem filter_drop {l : List ByteArray} {s : ByteArray} {i : Nat} (h : i < l.length) : (l.drop i).filter (neb s) = (if ix l i = s then [] else [ix l i]) ++ (l.drop (i + 1)).filter (neb s) := by
  rw [List.drop_eq_getElem_cons h, List.filter_cons, ← ix_lt h]
  unfold neb
  by_cases e : ix l i = s <;> simp [e]
theorem putU_len (l : List ByteArray) (s : ByteArray) : (putU l s).length ≤ l.length + 1 := by
  induction l with
  | nil => simp [putU_nil]
  | cons a r ih =>
    rw [putU_cons]
    split
    · simp; omega
    · have := List.length_filter_le (fun x => decide (x ≠ s)) (a :: r)
      simp only [List.length_cons] at this ⊢
      omega
section
variable {m : Int}
def sPut : List AV → Option (Prop × AV) := spec2 (fun (l : List ByteArray) (_ : ByteArray) => l.length ≤ 100000000000) (fun l s => Enc.enc (putU l s))
set_option maxHeartbeats 8000000 in
theorem putR : PureOK Tryz.prog (G m) 32 sPut := by
  refine pure2 (C := C0 m) (sigC0 m) (mixC0 m) Tryz.func32 rfl rfl rfl (by kernel_rfl) (by decide) (fun l s hl => ?_)
  obtain ⟨r, hr⟩ : ∃ r, putU l s = r := ⟨_, rfl⟩
  have hrl : r.length ≤ l.length + 1 := by rw [← hr]; exact putU_len l s
  rw [hr]
  simp
  refine AW.weak (weak_nil 5 1 9 rfl (by decide)) ?_
  refine loop_rule (C := C0 m) (sigC0 m) (mixC0 m) (fun i : Nat => ⟨[(0, Enc.enc l), (1, .str s), (5, .own 0 i), (6, .int .i64 i)], [SB (l.take i)]⟩) (fun i => i ≤ l.length ∧ putU l s = l.take i ++ putU (l.drop i) s) (fun i => l.length - i) (by kernel_rfl) ⟨0, by simp, weak_eq (by simp) (by simp [SB])⟩ (fun i ⟨hi, hs⟩ => ?_)
  have go : ∀ (hst : ∀ h : i < l.length, ltb (ix l i) s = false), ∃ acc, acc = l.take i ++ [s] ∧ acc ++ (l.drop i).filter (neb s) = r := fun hst => ⟨_, rfl, by rw [← hr, hs, putU_stop hst]; simp⟩
  have htl : (l.take i).length = i := by rw [List.length_take]; omega
  have i1 : I64 ((i : Int) + 1) := by unfold I64; omega
  by_cases hlt : i < l.length
  · cases h3 : ltb (ix l i) s
    · obtain ⟨acc, hacc, hs2⟩ := go fun _ => h3
      simp [SB, hlt, rowAt_enc hlt, less_ltb, h3, htl]
      refine ⟨by omega, ?_⟩
      have hal : acc.length = i + 1 := by rw [hacc]; simp; omega
      refine loop_rule (C := C0 m) (sigC0 m) (mixC0 m) (fun q : Nat × List ByteArray => ⟨[(0, Enc.enc l), (1, .str s), (5, .own 0 q.2.length), (6, .int .i64 q.1)], [SB q.2]⟩) (fun q => q.1 ≤ l.length ∧ q.2.length ≤ q.1 + 1 ∧ q.2 ++ (l.drop q.1).filter (neb s) = r) (fun q => l.length - q.1) (by kernel_rfl) ⟨(i, acc), ⟨hi, by simp only; omega, hs2⟩, weak_eq (by simp [hal]) (by simp [SB, hacc])⟩ (fun ⟨k, a⟩ ⟨hk, hka, hq⟩ => ?_)
      simp only at hk hka hq ⊢
      have k1 : I64 ((k : Int) + 1) := by unfold I64; omega
      by_cases hlt2 : k < l.length
      · rw [filter_drop hlt2] at hq
        by_cases he : ix l k = s
        · rw [if_pos he] at hq
          simp [SB, hlt2, rowAt_enc hlt2, he, k1]
          exact ⟨k + 1, a, ⟨by omega, by omega, hq⟩, by omega, weak_keep 1 (by simp) (by simp) (by simp [AV.clean, AV.clean1]) (by simp [AV.clean, AV.clean1]) (by simp [SB])⟩
        · rw [if_neg he, ← List.append_assoc] at hq
          simp [SB, hlt2, rowAt_enc hlt2, he, k1]
          exact ⟨by omega, k + 1, a ++ [ix l k], ⟨by omega, by simp; omega, hq⟩, by omega, weak_keep 1 (by simp) (by simp) (by simp [AV.clean, AV.clean1]) (by simp [AV.clean, AV.clean1]) (by simp [SB])⟩
      · rw [List.drop_eq_nil_of_le (by omega), List.filter_nil, List.append_nil] at hq
        simp [SB, hlt2, hq]
    · have hs2 := putU_run hlt h3 hs
      have ht : l.take (i + 1) = l.take i ++ [ix l i] := by rw [List.take_succ_eq_append_getElem hlt, ix_lt hlt]
      simp [SB, hlt, rowAt_enc hlt, less_ltb, h3, htl, i1]
      exact ⟨by omega, i + 1, ⟨by omega, hs2⟩, by omega, weak_keep 1 (by simp) (by simp) (by simp [AV.clean, AV.clean1]) (by simp [AV.clean, AV.clean1]) (by simp [SB, ht])⟩
  · obtain ⟨acc, hacc, hs2⟩ := go fun h => absurd h hlt
    simp [SB, hlt, htl]
    refine ⟨by omega, ?_⟩
    have hal : acc.length = i + 1 := by rw [hacc]; simp; omega
    refine loop_rule (C := C0 m) (sigC0 m) (mixC0 m) (fun q : Nat × List ByteArray => ⟨[(0, Enc.enc l), (1, .str s), (5, .own 0 q.2.length), (6, .int .i64 q.1)], [SB q.2]⟩) (fun q => q.1 ≤ l.length ∧ q.2.length ≤ q.1 + 1 ∧ q.2 ++ (l.drop q.1).filter (neb s) = r) (fun q => l.length - q.1) (by kernel_rfl) ⟨(i, acc), ⟨hi, by simp only; omega, hs2⟩, weak_eq (by simp [hal]) (by simp [SB, hacc])⟩ (fun ⟨k, a⟩ ⟨hk, hka, hq⟩ => ?_)
    simp only at hk hka hq ⊢
    have k1 : I64 ((k : Int) + 1) := by unfold I64; omega
    by_cases hlt2 : k < l.length
    · rw [filter_drop hlt2] at hq
      by_cases he : ix l k = s
      · rw [if_pos he] at hq
        simp [SB, hlt2, rowAt_enc hlt2, he, k1]
        exact ⟨k + 1, a, ⟨by omega, by omega, hq⟩, by omega, weak_keep 1 (by simp) (by simp) (by simp [AV.clean, AV.clean1]) (by simp [AV.clean, AV.clean1]) (by simp [SB])⟩
      · rw [if_neg he, ← List.append_assoc] at hq
        simp [SB, hlt2, rowAt_enc hlt2, he, k1]
        exact ⟨by omega, k + 1, a ++ [ix l k], ⟨by omega, by simp; omega, hq⟩, by omega, weak_keep 1 (by simp) (by simp) (by simp [AV.clean, AV.clean1]) (by simp [AV.clean, AV.clean1]) (by simp [SB])⟩
    · rw [List.drop_eq_nil_of_le (by omega), List.filter_nil, List.append_nil] at hq
      simp [SB, hlt2, hq]
end
end Go.Proofs.YtgjljfbohpnfcaaGreat


namespace Go.Proofs.YtgjljfbohpnfcaaGreat
open Go.RowKit
set_option linter.unusedSimpArgs false
set_option linter.unusedVariables false
set_option maxRecDepth 100000
theorem foldl_len : ∀ (l acc : List ByteArray), (l.foldl putU acc).length ≤ acc.length + l.length
  | [], acc => by simp
  | a :: r, acc => by
    have h1 := foldl_len r (putU acc a)
    have h2 := putU_len acc a
    rw [List.foldl_cons, List.length_cons]
    omega
def kidsU (acc : List ByteArray) (l : List Expr) : List ByteArray := l.foldl (fun a e => (usesF e).foldl putU a) acc
theorem kidsU_up {l : List Expr} : ∀ {acc : List ByteArray}, Up acc → Up (kidsU acc l) := by
  induction l with
  | nil => exact id
  | cons a r ih => exact fun h => ih (foldl_up h)
theorem kidsU_mem {x : ByteArray} : ∀ {l : List Expr} {acc : List ByteArray}, x ∈ kidsU acc l ↔ x ∈ acc ∨ x ∈ namesL l
  | [], acc => by simp [kidsU, namesL]
  | a :: r, acc => by
    show x ∈ kidsU _ r ↔ _
    rw [kidsU_mem, foldl_mem, namesL, List.mem_append]
    unfold usesF
    rw [mem_usesN, or_assoc]
theorem kidsU_eq (e : Expr) : kidsU (if e.op = 2 then [e.name] else []) e.kids = usesF e := by
  refine up_ext (kidsU_up (by split <;> simp [Up])) (up_usesN _) fun x => ?_
  unfold usesF
  rw [kidsU_mem, mem_usesN, namesE_eq, List.mem_append]
theorem kidsU_snoc {acc : List ByteArray} {l : List Expr} {i : Nat} (h : i < l.length) : kidsU acc (l.take (i + 1)) = (usesF (ix l i)).foldl putU (kidsU acc (l.take i)) := by
  unfold kidsU
  rw [List.take_succ_eq_append_getElem h, List.foldl_append, ix_lt h]
  rfl
theorem foldl_snoc {acc l : List ByteArray} {i : Nat} (h : i < l.length) : (l.take (i + 1)).foldl putU acc = putU ((l.take i).foldl putU acc) (ix l i) := by
  rw [List.take_succ_eq_append_getElem h, List.foldl_append, ix_lt h]
  rfl
theorem uses_len (e : Expr) : (usesF e).length ≤ (namesE e).length := by
  have := foldl_len (namesE e) []
  unfold usesF usesN
  simpa using this
theorem kidsU_len {l : List Expr} : ∀ {acc : List ByteArray}, (kidsU acc l).length ≤ acc.length + (namesL l).length := by
  induction l with
  | nil => intro acc; simp [kidsU]
  | cons a r ih =>
    intro acc
    have h1 := ih (acc := (usesF a).foldl putU acc)
    have h2 := foldl_len (usesF a) acc
    have h3 := uses_len a
    show (kidsU ((usesF a).foldl putU acc) r).length ≤ _
    rw [namesL, List.length_append]
    omega
theorem names_kid {e : Expr} {i : Nat} (h : i < e.kids.length) : (namesE (ix e.kids i)).length + (namesL (e.kids.take i)).length ≤ (namesE e).length := by
  have := congrArg List.length (namesL_append (e.kids.take (i + 1)) (e.kids.drop (i + 1)))
  rw [List.take_append_drop, List.length_append, namesL_take h, List.length_append] at this
  rw [namesE_eq e, List.length_append]
  omega
section
variable {m : Int}
def sUsesN (n : Nat) : List AV → Option (Prop × AV) := spec1 (fun (e : Expr) => (WfE e ∧ (namesE e).length ≤ 10000000000) ∧ SizeOf.sizeOf e ≤ n) (fun e => Enc.enc (usesF e))
noncomputable def CUr (m : Int) (n : Nat) : Ctx := mkC Tryz.prog (G m) [(19, .pure (sUsesN n)), (32, .pure sPut)]
@[simp] theorem CUr_P (m : Int) (n : Nat) : (CUr m n).P = Tryz.prog := rfl
@[simp] theorem CUr_1 (m : Int) (n : Nat) : (CUr m n).S 19 = .pure (sUsesN n) := rfl
@[simp] theorem CUr_2 (m : Int) (n : Nat) : (CUr m n).S 32 = .pure sPut := rfl
theorem mixCUr (m : Int) (n : Nat) : (CUr m n).P.follows .mixedOrders = true := mixed
set_option maxHeartbeats 8000000 in
theorem usesRn : ∀ n : Nat, PureOK Tryz.prog (G m) 19 (sUsesN n)
  | 0 => pure1_none fun e h => by have := exp_pos e; omega
  | n + 1 => by
    have sig : SigOK (CUr m n) := sigOK_cons (entryPure (usesRn n) Tryz.func19 rfl (by decide)) (sigOK_cons (entryPure putR Tryz.func32 rfl (by decide)) (sigOK_nil _ _))
    refine pure1 (C := CUr m n) sig (mixCUr m n) Tryz.func19 rfl rfl rfl (by kernel_rfl) (by decide) (fun e ⟨⟨hw, hc⟩, hn⟩ => ?_)
    have hl := hw.len'
    obtain ⟨r, hr⟩ : ∃ r, usesF e = r := ⟨_, rfl⟩
    rw [hr]
    rw [← kidsU_eq] at hr
    obtain ⟨a0, ha0⟩ : ∃ a0, (if e.op = 2 then [e.name] else []) = a0 := ⟨_, rfl⟩
    have hal : a0.length + (namesL e.kids).length ≤ 10000000000 := by
      rw [← ha0, ← List.length_append, ← namesE_eq]; exact hc
    rw [ha0] at hr
    rcases em2 (e.op = 2) with h2 | h2
    case' inl =>
      rw [if_pos (of_eq_true h2)] at ha0
      have hp1 : putU [] e.name = [e.name] := putU_nil _
      simp [h2, sPut, hp1]
    case' inr =>
      rw [if_neg (of_eq_false h2)] at ha0
      simp [h2]
      refine AW.weak (weak_nrmT 3 1 [] rfl) ?_
    all_goals
      refine loop_rule (C := CUr m n) sig (mixCUr m n) (fun i : Nat => ⟨[(1, .ptr 0 1 9 0 0), (3, Enc.enc (kidsU a0 (e.kids.take i))), (4, .int .i64 i)], [EB e]⟩) (fun i => i ≤ e.kids.length) (fun i => e.kids.length - i) (by kernel_rfl) ⟨0, Nat.zero_le _, weak_eq (by simp [← ha0, kidsU]) rfl⟩ (fun i hi => ?_)
      by_cases hlt : i < e.kids.length
      · have i1 : I64 ((i : Int) + 1) := by unfold I64; omega
        have w1 := hw.kid _ (ix_mem hlt)
        have w2 : SizeOf.sizeOf (ix e.kids i) ≤ n := by have := exp_mem (ix_mem hlt); omega
        have w3 := names_kid hlt
        have w4 : (namesE (ix e.kids i)).length ≤ 10000000000 := by omega
        simp [EB, hlt, rowAt_enc hlt, sUsesN, w1, w2, w4]
        obtain ⟨K, hK⟩ : ∃ K, kidsU a0 (e.kids.take i) = K := ⟨_, rfl⟩
        obtain ⟨u, hu⟩ : ∃ u, usesF (ix e.kids i) = u := ⟨_, rfl⟩
        have hKl : K.length ≤ 10000000000 := by
          rw [← hK]
          have h1 := kidsU_len (acc := a0) (l := e.kids.take i)
          have h2 := congrArg List.length (namesL_append (e.kids.take i) (e.kids.drop i))
          rw [List.take_append_drop, List.length_append] at h2
          omega
        have hul : u.length ≤ 10000000000 := by rw [← hu]; have := uses_len (ix e.kids i); omega
        have hsn := kidsU_snoc (acc := a0) hlt
        rw [hK, hu] at hsn
        rw [hu, hK]
        refine loop_rule (C := CUr m n) sig (mixCUr m n) (fun j : Nat => ⟨[(1, .ptr 0 1 9 0 0), (3, Enc.enc ((u.take j).foldl putU K)), (4, .int .i64 i), (5, Enc.enc u), (6, .int .i64 j)], [EB e]⟩) (fun j => j ≤ u.length) (fun j => u.length - j) (by kernel_rfl) ⟨0, Nat.zero_le _, weak_eq (by simp) (by simp [EB])⟩ (fun j hj => ?_)
        by_cases hlt2 : j < u.length
        · have j1 : I64 ((j : Int) + 1) := by unfold I64; omega
          have hpl : ((u.take j).foldl putU K).length ≤ 100000000000 := by
            have := foldl_len (u.take j) K
            rw [List.length_take] at this
            omega
          have hs2 := foldl_snoc (acc := K) hlt2
          simp [EB, hlt2, rowAt_enc hlt2, sPut, hpl, j1]
          exact ⟨j + 1, by omega, by omega, weak_eq (by simp [hs2]) (by simp [EB])⟩
        · obtain rfl : j = u.length := by omega
          rw [List.take_length, ← hsn]
          simp [EB, hlt2, i1]
          exact ⟨i + 1, by omega, by omega, weak_eq (by simp) (by simp [EB])⟩
      · obtain rfl : i = e.kids.length := by omega
        rw [List.take_length, hr]
        simp [EB, hlt]
def sUsesR : List AV → Option (Prop × AV) := spec1 (fun (e : Expr) => WfE e ∧ (namesE e).length ≤ 10000000000) (fun e => Enc.enc (usesF e))
theorem usesR : PureOK Tryz.prog (G m) 19 sUsesR := pure1_all (fun e => SizeOf.sizeOf e) fun n => usesRn n
noncomputable def CPu (m : Int) : Ctx := mkC Tryz.prog (G m) [(32, .pure sPut)]
@[simp] theorem CPu_P (m : Int) : (CPu m).P = Tryz.prog := rfl
@[simp] theorem CPu_1 (m : Int) : (CPu m).S 32 = .pure sPut := rfl
def sUnion : List AV → Option (Prop × AV) := spec2 (fun (a b : List ByteArray) => a.length ≤ 10000000000 ∧ b.length ≤ 10000000000) (fun a b => Enc.enc (b.foldl putU a))
theorem kindR : PureOK Tryz.prog (G m) 21 sKind := by
  refine pure2 (C := C0 m) (sigC0 m) (mixC0 m) Tryz.func21 rfl rfl rfl (by kernel_rfl) (by decide) (fun l n hl => ?_)
  have hl' : l.length ≤ 9223372036854775807 := hl
  simp
  refine loop_rule (C := C0 m) (sigC0 m) (mixC0 m) (fun i : Nat => ⟨[(0, Enc.enc l), (1, .str n), (5, .int .i64 i)], []⟩) (fun i => i ≤ l.length ∧ kindF (l.drop i) n = kindF l n) (fun i => l.length - i) (by kernel_rfl) ⟨0, by simp, weak_slots (by simp)⟩ (fun i ⟨hi, hs⟩ => ?_)
  by_cases hlt : i < l.length
  · have i1 : I64 ((i : Int) + 1) := by unfold I64; omega
    rw [kindF_drop hlt] at hs
    rcases em2 ((ix l i).Name = n) with h | h
    · rw [if_pos (of_eq_true h)] at hs
      simp [hlt, rowAt_enc hlt, h, i1, ← hs]
    · rw [if_neg (of_eq_false h)] at hs
      simp [hlt, rowAt_enc hlt, h, i1]
      exact ⟨i + 1, ⟨by omega, hs⟩, by omega, weak_slots (by simp)⟩
  · rw [List.drop_eq_nil_of_le (by omega), kindF] at hs
    simp [hlt, ← hs]
end
end Go.Proofs.YtgjljfbohpnfcaaGreat


namespace Go.Proofs.YtgjljfbohpnfcaaGreat
open Go.RowKit
set_option linter.unusedSimpArgs false
set_option linter.unusedVariables false
set_option maxRecDepth 100000
mutual
def aggE : Expr → Bool
  | .mk o _ _ _ k => decide (o = 24) || aggL k
def aggL : List Expr → Bool
  | [] => false
  | e :: r => aggE e || aggL r
end
theorem aggE_eq (e : Expr) : aggE e = (decide (e.op = 24) || aggL e.kids) := by cases e; rw [aggE]; rfl
def aggAt : List Expr → Nat → Int
  | [], _ => -1
  | e :: r, i => if aggE e = true then i else aggAt r (i + 1)
theorem aggAt_iff : ∀ (l : List Expr) (i : Nat), decide (0 ≤ aggAt l i) = aggL l
  | [], i => by simp [aggAt, aggL]
  | e :: r, i => by
    rw [aggAt, aggL]
    cases h : aggE e
    · simpa using aggAt_iff r (i + 1)
    · simp
theorem aggAt_drop {l : List Expr} {i k : Nat} (h : i < l.length) : aggAt (l.drop i) k = if aggE (ix l i) = true then (k : Int) else aggAt (l.drop (i + 1)) (k + 1) := by
  rw [List.drop_eq_getElem_cons h, aggAt, ix_lt h]
def KidsOK (n : Nat) (l : List Expr) : Prop := l.length ≤ maxLen ∧ ∀ x ∈ l, WfE x ∧ SizeOf.sizeOf x ≤ n
section
variable {m : Int}
def sHa (n : Nat) : List AV → Option (Prop × AV) := spec1 (fun (e : Expr) => WfE e ∧ SizeOf.sizeOf e ≤ n) (fun e => .bool (aggE e))
noncomputable def CHa (m : Int) (f n : Nat) : Ctx := mkC Tryz.prog (G m) [(f, .pure (sHa n))]
@[simp] theorem CHa_P (m : Int) (f n : Nat) : (CHa m f n).P = Tryz.prog := rfl
@[simp] theorem CHa_1 (m : Int) (n : Nat) : (CHa m 61 n).S 61 = .pure (sHa n) := rfl
@[simp] theorem CHa_2 (m : Int) (n : Nat) : (CHa m 68 n).S 68 = .pure (sHa n) := rfl
theorem mixCHa (m : Int) (f n : Nat) : (CHa m f n).P.follows .mixedOrders = true := mixed
set_option maxHeartbeats 4000000 in
theorem idxE {n : Nat} (ih : PureOK Tryz.prog (G m) 61 (sHa n)) : PureOK Tryz.prog (G m) 121 (spec2 (fun (l : List Expr) (_ : FnV 61) => KidsOK n l) (fun l _ => .int .i64 (aggAt l 0))) := by
  have sig : SigOK (CHa m 61 n) := sigOK_cons (entryPure ih Tryz.func61 rfl (by decide)) (sigOK_nil _ _)
  refine pure2 (C := CHa m 61 n) sig (mixCHa m _ n) Tryz.func121 rfl rfl rfl (by kernel_rfl) (by decide) (fun l f ⟨hl, hx⟩ => ?_)
  have hl' : l.length ≤ 9223372036854775807 := by unfold maxLen at hl; omega
  simp
  refine loop_rule (C := CHa m 61 n) sig (mixCHa m _ n) (fun i : Nat => ⟨[(0, Enc.enc l), (1, .fn 61 []), (7, .int .i64 l.length), (8, .int .i64 i)], []⟩) (fun i => i ≤ l.length ∧ aggAt (l.drop i) i = aggAt l 0) (fun i => l.length - i) (by kernel_rfl) ⟨0, by simp, weak_slots (by simp)⟩ (fun i ⟨hi, hs⟩ => ?_)
  by_cases hlt : i < l.length
  · have i1 : I64 ((i : Int) + 1) := by unfold I64; omega
    obtain ⟨w1, w2⟩ := hx _ (ix_mem hlt)
    rw [aggAt_drop hlt] at hs
    cases h3 : aggE (ix l i)
    · rw [if_neg (by simp [h3])] at hs
      simp [hlt, rowAt_enc hlt, sHa, w1, w2, h3, i1]
      exact ⟨i + 1, ⟨by omega, hs⟩, by omega, weak_slots (by simp)⟩
    · rw [if_pos h3] at hs
      simp [hlt, rowAt_enc hlt, sHa, w1, w2, h3, ← hs]
  · rw [List.drop_eq_nil_of_le (by omega), aggAt] at hs
    simp [hlt, ← hs]
def sIdxE (n : Nat) : List AV → Option (Prop × AV) := spec2 (fun (l : List Expr) (_ : FnV 61) => KidsOK n l) (fun l _ => .int .i64 (aggAt l 0))
def sConE (n : Nat) : List AV → Option (Prop × AV) := spec2 (fun (l : List Expr) (_ : FnV 61) => KidsOK n l) (fun l _ => .bool (aggL l))
noncomputable def CCo (m : Int) (n : Nat) : Ctx := mkC Tryz.prog (G m) [(121, .pure (sIdxE n)), (92, .pure (sConE n))]
@[simp] theorem CCo_P (m : Int) (n : Nat) : (CCo m n).P = Tryz.prog := rfl
@[simp] theorem CCo_1 (m : Int) (n : Nat) : (CCo m n).S 121 = .pure (sIdxE n) := rfl
@[simp] theorem CCo_2 (m : Int) (n : Nat) : (CCo m n).S 92 = .pure (sConE n) := rfl
theorem conE {n : Nat} (ih : PureOK Tryz.prog (G m) 61 (sHa n)) : PureOK Tryz.prog (G m) 92 (sConE n) := by
  have sig : SigOK (mkC Tryz.prog (G m) [(121, .pure (sIdxE n))]) := sigOK_cons (entryPure (idxE ih) Tryz.func121 rfl (by decide)) (sigOK_nil _ _)
  refine pure2 (C := mkC Tryz.prog (G m) [(121, .pure (sIdxE n))]) sig mixed Tryz.func92 rfl rfl rfl (by kernel_rfl) (by decide) (fun l f hx => ?_)
  simp [sIdxE, hx, aggAt_iff]
set_option maxHeartbeats 4000000 in
theorem hasPn : ∀ n : Nat, PureOK Tryz.prog (G m) 61 (sHa n)
  | 0 => pure1_none fun e h => by have := exp_pos e; omega
  | n + 1 => by
    have sig : SigOK (mkC Tryz.prog (G m) [(92, .pure (sConE n))]) := sigOK_cons (entryPure (conE (hasPn n)) Tryz.func92 rfl (by decide)) (sigOK_nil _ _)
    refine pure1 (C := mkC Tryz.prog (G m) [(92, .pure (sConE n))]) sig mixed Tryz.func61 rfl rfl rfl (by kernel_rfl) (by decide) (fun e ⟨hw, hn⟩ => ?_)
    have hk : KidsOK n e.kids := ⟨hw.len, fun x hx => ⟨hw.kid x hx, by have := exp_mem hx; omega⟩⟩
    rw [aggE_eq]
    rcases em2 (e.op = 24) with h | h <;> simp [sConE, h, hk]
theorem hasP : PureOK Tryz.prog (G m) 61 (spec1 (fun (e : Expr) => WfE e) (fun e => .bool (aggE e))) := pure1_all (fun e => SizeOf.sizeOf e) fun n => hasPn n
theorem aggL_drop {l : List Expr} {i : Nat} (h : i < l.length) : aggL (l.drop i) = (aggE (ix l i) || aggL (l.drop (i + 1))) := by
  rw [List.drop_eq_getElem_cons h, aggL, ix_lt h]
set_option maxHeartbeats 4000000 in
theorem hasRn : ∀ n : Nat, PureOK Tryz.prog (G m) 68 (sHa n)
  | 0 => pure1_none fun e h => by have := exp_pos e; omega
  | n + 1 => by
    have sig : SigOK (CHa m 68 n) := sigOK_cons (entryPure (hasRn n) Tryz.func68 rfl (by decide)) (sigOK_nil _ _)
    refine pure1 (C := CHa m 68 n) sig (mixCHa m _ n) Tryz.func68 rfl rfl rfl (by kernel_rfl) (by decide) (fun e ⟨hw, hn⟩ => ?_)
    have hl := hw.len'
    rw [aggE_eq]
    rcases em2 (e.op = 24) with h | h
    · simp [h]
    simp [h]
    refine loop_rule (C := CHa m 68 n) sig (mixCHa m _ n) (fun i : Nat => ⟨[(1, .ptr 0 1 9 0 0), (3, .int .i64 i)], [EB e]⟩) (fun i => i ≤ e.kids.length ∧ aggL (e.kids.drop i) = aggL e.kids) (fun i => e.kids.length - i) (by kernel_rfl) ⟨0, by simp, weak_slots (by simp)⟩ (fun i ⟨hi, hs⟩ => ?_)
    by_cases hlt : i < e.kids.length
    · have i1 : I64 ((i : Int) + 1) := by unfold I64; omega
      have w1 := hw.kid _ (ix_mem hlt)
      have w2 : SizeOf.sizeOf (ix e.kids i) ≤ n := by have := exp_mem (ix_mem hlt); omega
      rw [aggL_drop hlt] at hs
      cases h3 : aggE (ix e.kids i)
      · rw [h3, Bool.false_or] at hs
        simp [EB, hlt, rowAt_enc hlt, sHa, w1, w2, h3, i1]
        exact ⟨i + 1, ⟨by omega, hs⟩, by omega, weak_slots (by simp)⟩
      · rw [h3, Bool.true_or] at hs
        simp [EB, hlt, rowAt_enc hlt, sHa, w1, w2, h3, ← hs]
    · rw [List.drop_eq_nil_of_le (by omega), aggL] at hs
      simp [EB, hlt, ← hs, h]
theorem hasR : PureOK Tryz.prog (G m) 68 (spec1 (fun (e : Expr) => WfE e) (fun e => .bool (aggE e))) := pure1_all (fun e => SizeOf.sizeOf e) fun n => hasRn n
end
end Go.Proofs.YtgjljfbohpnfcaaGreat


namespace Go.Proofs.YtgjljfbohpnfcaaGreat
open Go.RowKit
set_option linter.unusedSimpArgs false
set_option linter.unusedVariables false
set_option maxRecDepth 100000
theorem eq_of_ix {α : Type} [Inhabited α] {a b : List α} (hl : a.length = b.length) (h : ∀ j, j < a.length → ix a j = ix b j) : a = b := by
  refine List.ext_getElem hl fun j h1 h2 => ?_
  have := h j h1
  rwa [ix_lt h1, ix_lt h2] at this
def badU (s : List Cnt) (l : List ByteArray) : Bool := l.any fun n => decide (kindF s n = 0)
theorem badU_drop {s : List Cnt} {l : List ByteArray} {i : Nat} (h : i < l.length) : badU s (l.drop i) = (decide (kindF s (ix l i) = 0) || badU s (l.drop (i + 1))) := by
  rw [List.drop_eq_getElem_cons h, badU, List.any_cons, ix_lt h]
  rfl
def checkX (s : List Cnt) (e : Expr) (whole : Bool) : Int := if badU s (usesF e) = true then 6 else if aggE e = true ∧ ¬ (whole = true ∧ e.op = 24) then 9 else 0
theorem cnt_eq {a b : Cnt} : a = b ↔ a.Name = b.Name ∧ a.N = b.N := by cases a; cases b; simp
instance : DecidableEq Cnt := fun a b => decidable_of_iff _ cnt_eq.symm
section
variable {m : Int}
def sTexts : List AV → Option (Prop × AV) := spec2 (fun (a b : List ByteArray) => a.length ≤ 1000000000000 ∧ b.length ≤ 1000000000000) (fun a b => .bool (decide (a = b)))
set_option maxHeartbeats 8000000 in
theorem textsR : PureOK Tryz.prog (G m) 16 sTexts := by
  refine pure2 (C := C0 m) (sigC0 m) (mixC0 m) Tryz.func16 rfl rfl rfl (by kernel_rfl) (by decide) (fun a b ⟨ha, hb⟩ => ?_)
  by_cases hl : a.length = b.length
  · have hl2 : (a.length : Int) = b.length := by omega
    simp [hl, hl2]
    refine loop_rule (C := C0 m) (sigC0 m) (mixC0 m) (fun i : Nat => ⟨[(0, Enc.enc a), (1, Enc.enc b), (5, .int .i64 i)], []⟩) (fun i => i ≤ a.length ∧ ∀ j, j < i → ix a j = ix b j) (fun i => a.length - i) (by kernel_rfl) ⟨0, by simp, weak_slots (by simp)⟩ (fun i ⟨hi, hs⟩ => ?_)
    by_cases hlt : i < a.length
    · have i1 : I64 ((i : Int) + 1) := by unfold I64; omega
      have hlt2 : i < b.length := by omega
      by_cases h : ix a i = ix b i
      · simp [hlt, hlt2, rowAt_enc hlt, rowAt_enc hlt2, h, i1]
        refine ⟨i + 1, ⟨by omega, fun j hj => ?_⟩, by omega, weak_slots (by simp)⟩
        rcases Nat.lt_or_eq_of_le (Nat.le_of_lt_succ hj) with h' | rfl
        · exact hs j h'
        · exact h
      · have hne : ¬ a = b := fun e => h (by rw [e])
        simp [hlt, hlt2, rowAt_enc hlt, rowAt_enc hlt2, h, hne]
    · obtain rfl : a = b := eq_of_ix hl fun j hj => hs j (by omega)
      simp [hlt]
  · have hl2 : ¬ (a.length : Int) = b.length := by omega
    have hne : ¬ a = b := fun e => hl (by rw [e])
    simp [hl, hl2, hne]
def sSame : List AV → Option (Prop × AV) := spec2 (fun (a b : List Cnt) => a.length ≤ 1000000000000 ∧ b.length ≤ 1000000000000) (fun a b => .bool (decide (a = b)))
set_option maxHeartbeats 8000000 in
theorem sameR : PureOK Tryz.prog (G m) 13 sSame := by
  refine pure2 (C := C0 m) (sigC0 m) (mixC0 m) Tryz.func13 rfl rfl rfl (by kernel_rfl) (by decide) (fun a b ⟨ha, hb⟩ => ?_)
  by_cases hl : a.length = b.length
  · have hl2 : (a.length : Int) = b.length := by omega
    simp [hl, hl2]
    refine loop_rule (C := C0 m) (sigC0 m) (mixC0 m) (fun i : Nat => ⟨[(0, Enc.enc a), (1, Enc.enc b), (5, .int .i64 i)], []⟩) (fun i => i ≤ a.length ∧ ∀ j, j < i → ix a j = ix b j) (fun i => a.length - i) (by kernel_rfl) ⟨0, by simp, weak_slots (by simp)⟩ (fun i ⟨hi, hs⟩ => ?_)
    by_cases hlt : i < a.length
    · have i1 : I64 ((i : Int) + 1) := by unfold I64; omega
      have hlt2 : i < b.length := by omega
      by_cases h : ix a i = ix b i
      · have h1 := cnt_eq.1 h
        simp [hlt, hlt2, rowAt_enc hlt, rowAt_enc hlt2, h1.1, h1.2, i1]
        refine ⟨i + 1, ⟨by omega, fun j hj => ?_⟩, by omega, weak_slots (by simp)⟩
        rcases Nat.lt_or_eq_of_le (Nat.le_of_lt_succ hj) with h' | rfl
        · exact hs j h'
        · exact h
      · have hne : ¬ a = b := fun e => h (by rw [e])
        by_cases h1 : (ix a i).Name = (ix b i).Name
        · have h2 : ¬ (ix a i).N = (ix b i).N := fun e => h (cnt_eq.2 ⟨h1, e⟩)
          simp [hlt, hlt2, rowAt_enc hlt, rowAt_enc hlt2, h1, h2, hne]
        · simp [hlt, hlt2, rowAt_enc hlt, rowAt_enc hlt2, h1, hne]
    · obtain rfl : a = b := eq_of_ix hl fun j hj => hs j (by omega)
      simp [hlt]
  · have hl2 : ¬ (a.length : Int) = b.length := by omega
    have hne : ¬ a = b := fun e => hl (by rw [e])
    simp [hl, hl2, hne]
def sCheckX : List AV → Option (Prop × AV) := spec3 (fun (s : List Cnt) (e : Expr) (_ : Bool) => s.length ≤ maxLen ∧ WfE e ∧ (namesE e).length ≤ 1000000000000) (fun s e w => .int .i64 (checkX s e w))
noncomputable def CChk (m : Int) : Ctx := mkC Tryz.prog (G m) [(18, .pure sUses), (38, .pure sKind), (61, .pure (spec1 (fun (e : Expr) => WfE e) (fun e => .bool (aggE e))))]
@[simp] theorem CChk_P (m : Int) : (CChk m).P = Tryz.prog := rfl
@[simp] theorem CChk_1 (m : Int) : (CChk m).S 18 = .pure sUses := rfl
@[simp] theorem CChk_2 (m : Int) : (CChk m).S 38 = .pure sKind := rfl
@[simp] theorem CChk_3 (m : Int) : (CChk m).S 61 = .pure (spec1 (fun (e : Expr) => WfE e) (fun e => .bool (aggE e))) := rfl
theorem mixCChk (m : Int) : (CChk m).P.follows .mixedOrders = true := mixed
theorem sigCChk (m : Int) : SigOK (CChk m) := sigOK_cons (entryPure usesP Tryz.func18 rfl (by decide)) (sigOK_cons (entryPure kindP Tryz.func38 rfl (by decide)) (sigOK_cons (entryPure hasP Tryz.func61 rfl (by decide)) (sigOK_nil _ _)))
set_option maxHeartbeats 8000000 in
theorem checkXP : PureOK Tryz.prog (G m) 37 sCheckX := by
  refine pure3 (C := CChk m) (sigCChk m) (mixCChk m) Tryz.func37 rfl rfl rfl (by kernel_rfl) (by decide) (fun s e whole ⟨hs, hw, hc⟩ => ?_)
  have hul : (usesF e).length ≤ 1000000000000 := by have := uses_len e; omega
  obtain ⟨r, hr⟩ : ∃ r, checkX s e whole = r := ⟨_, rfl⟩
  rw [hr]
  unfold checkX at hr
  simp [sUses, hw, hc]
  refine loop_rule (C := CChk m) (sigCChk m) (mixCChk m) (fun i : Nat => ⟨[(0, Enc.enc s), (2, .bool whole), (4, .ptr 0 1 9 0 0), (10, Enc.enc (usesF e)), (11, .int .i64 (usesF e).length), (12, .int .i64 i)], [EB e]⟩) (fun i => i ≤ (usesF e).length ∧ badU s ((usesF e).drop i) = badU s (usesF e)) (fun i => (usesF e).length - i) (by kernel_rfl) ⟨0, by simp, weak_eq (by simp) (by simp [EB])⟩ (fun i ⟨hi, hb⟩ => ?_)
  generalize usesF e = u at *
  by_cases hlt : i < u.length
  · have i1 : I64 ((i : Int) + 1) := by unfold I64; omega
    rw [badU_drop hlt] at hb
    rcases em2 (kindF s (ix u i) = 0) with h | h
    · have hb2 : badU s u = true := by rw [← hb]; simp [h]
      rw [if_pos hb2] at hr
      simp [EB, hlt, rowAt_enc hlt, sKind, hs, h, ← hr]
    · have hb2 : badU s (u.drop (i + 1)) = badU s u := by rw [← hb]; simp [h]
      simp [EB, hlt, rowAt_enc hlt, sKind, hs, h, i1]
      exact ⟨i + 1, ⟨by omega, hb2⟩, by omega, weak_eq (by simp) (by simp [EB])⟩
  · rw [List.drop_eq_nil_of_le (by omega)] at hb
    rw [← hb] at hr
    simp [badU] at hr
    cases ha : aggE e <;> cases whole <;> rcases em2 (e.op = 24) with h24 | h24 <;> simp [ha, h24] at hr <;> simp [EB, hlt, hw, ha, h24, ← hr]
end
end Go.Proofs.YtgjljfbohpnfcaaGreat


namespace Go.Proofs.YtgjljfbohpnfcaaGreat
open Go.RowKit
set_option linter.unusedSimpArgs false
set_option linter.unusedVariables false
theorem map_unc {α : Type} [Enc α] (l : List α) : (encRows l).map Enc.unc = l := by unfold encRows; simp only [List.map_map, Function.comp_def, Enc.unc_cells, List.map_id']
theorem expr_unc (e : Expr) : Enc.unc [.int .i64 e.op, .int .i64 e.v.kind, .int .i64 e.v.n, .int .i64 e.v.d, .str e.v.s, .slice 5 false (encRows e.v.l), .str e.name, .bool e.dist, .slice 9 false (encRows e.kids)] = e := by
  rw [← cells_expr]
  exact Enc.unc_cells e
structure PropPat where
  key : ByteArray
  e : Expr
instance : Inhabited PropPat := ⟨⟨ByteArray.empty, default⟩⟩
@[simp] theorem PropPat.eta (x : PropPat) : PropPat.mk x.key x.e = x := rfl
def PropPat.cells (x : PropPat) : List AV := [.str x.key, .int .i64 x.e.op, .int .i64 x.e.v.kind, .int .i64 x.e.v.n, .int .i64 x.e.v.d, .str x.e.v.s, .slice 5 false (encRows x.e.v.l), .str x.e.name, .bool x.e.dist, .slice 9 false (encRows x.e.kids)]
def PropPat.unc (c : List AV) : PropPat :=
  match c with
  | [.str a0, a1, a2, a3, a4, a5, a6, a7, a8, a9] => ⟨a0, (Enc.unc [a1, a2, a3, a4, a5, a6, a7, a8, a9])⟩
  | _ => default
theorem PropPat.unc_cells (x : PropPat) : PropPat.unc x.cells = x := by
  cases x
  simp only [PropPat.cells, PropPat.unc, map_unc, expr_unc]
instance : Enc PropPat where
  sz := 10
  cells := PropPat.cells
  enc x := .agg x.cells
  unc := PropPat.unc
  dec v := match v with | .agg c => PropPat.unc c | _ => default
  unc_cells := PropPat.unc_cells
  dec_enc x := PropPat.unc_cells x
@[simp] theorem sz_PropPat : Enc.sz PropPat = 10 := rfl
@[simp] theorem cells_PropPat (x : PropPat) : Enc.cells x = [.str x.key, .int .i64 x.e.op, .int .i64 x.e.v.kind, .int .i64 x.e.v.n, .int .i64 x.e.v.d, .str x.e.v.s, .slice 5 false (encRows x.e.v.l), .str x.e.name, .bool x.e.dist, .slice 9 false (encRows x.e.kids)] := rfl
@[simp] theorem enc_PropPat (x : PropPat) : Enc.enc x = .agg [.str x.key, .int .i64 x.e.op, .int .i64 x.e.v.kind, .int .i64 x.e.v.n, .int .i64 x.e.v.d, .str x.e.v.s, .slice 5 false (encRows x.e.v.l), .str x.e.name, .bool x.e.dist, .slice 9 false (encRows x.e.kids)] := rfl
@[simp] theorem unc_PropPat (a0 : ByteArray) (a1 a2 a3 a4 a5 a6 a7 a8 a9 : AV) : (Enc.unc [.str a0, a1, a2, a3, a4, a5, a6, a7, a8, a9] : PropPat) = ⟨a0, (Enc.unc [a1, a2, a3, a4, a5, a6, a7, a8, a9])⟩ := rfl
@[simp] theorem dec_PropPat (l : List AV) : (Enc.dec (.agg l) : PropPat) = Enc.unc l := rfl
structure NodePat where
  var : ByteArray
  labels : List ByteArray
  props : List PropPat
instance : Inhabited NodePat := ⟨⟨ByteArray.empty, [], []⟩⟩
@[simp] theorem NodePat.eta (x : NodePat) : NodePat.mk x.var x.labels x.props = x := rfl
def NodePat.cells (x : NodePat) : List AV := [.str x.var, .slice 1 false (encRows x.labels), .slice 10 false (encRows x.props)]
def NodePat.unc (c : List AV) : NodePat :=
  match c with
  | [.str a0, .slice _ _ a1, .slice _ _ a2] => ⟨a0, (a1.map Enc.unc), (a2.map Enc.unc)⟩
  | _ => default
theorem NodePat.unc_cells (x : NodePat) : NodePat.unc x.cells = x := by
  cases x
  simp only [NodePat.cells, NodePat.unc, map_unc, expr_unc]
instance : Enc NodePat where
  sz := 3
  cells := NodePat.cells
  enc x := .agg x.cells
  unc := NodePat.unc
  dec v := match v with | .agg c => NodePat.unc c | _ => default
  unc_cells := NodePat.unc_cells
  dec_enc x := NodePat.unc_cells x
@[simp] theorem sz_NodePat : Enc.sz NodePat = 3 := rfl
@[simp] theorem cells_NodePat (x : NodePat) : Enc.cells x = [.str x.var, .slice 1 false (encRows x.labels), .slice 10 false (encRows x.props)] := rfl
@[simp] theorem enc_NodePat (x : NodePat) : Enc.enc x = .agg [.str x.var, .slice 1 false (encRows x.labels), .slice 10 false (encRows x.props)] := rfl
@[simp] theorem unc_NodePat (a0 : ByteArray) (s1 : Nat) (f1 : Bool) (a1 : List (List AV)) (s2 : Nat) (f2 : Bool) (a2 : List (List AV)) : (Enc.unc [.str a0, .slice s1 f1 a1, .slice s2 f2 a2] : NodePat) = ⟨a0, (Enc.dec (.slice s1 f1 a1)), (Enc.dec (.slice s2 f2 a2))⟩ := rfl
@[simp] theorem dec_NodePat (l : List AV) : (Enc.dec (.agg l) : NodePat) = Enc.unc l := rfl
structure EdgePat where
  var : ByteArray
  types : List ByteArray
  dir : Int
  mode : Int
  lo : Int
  hi : Int
  props : List PropPat
instance : Inhabited EdgePat := ⟨⟨ByteArray.empty, [], 0, 0, 0, 0, []⟩⟩
@[simp] theorem EdgePat.eta (x : EdgePat) : EdgePat.mk x.var x.types x.dir x.mode x.lo x.hi x.props = x := rfl
def EdgePat.cells (x : EdgePat) : List AV := [.str x.var, .slice 1 false (encRows x.types), .int .i64 x.dir, .int .i64 x.mode, .int .i64 x.lo, .int .i64 x.hi, .slice 10 false (encRows x.props)]
def EdgePat.unc (c : List AV) : EdgePat :=
  match c with
  | [.str a0, .slice _ _ a1, .int _ a2, .int _ a3, .int _ a4, .int _ a5, .slice _ _ a6] => ⟨a0, (a1.map Enc.unc), a2, a3, a4, a5, (a6.map Enc.unc)⟩
  | _ => default
theorem EdgePat.unc_cells (x : EdgePat) : EdgePat.unc x.cells = x := by
  cases x
  simp only [EdgePat.cells, EdgePat.unc, map_unc, expr_unc]
instance : Enc EdgePat where
  sz := 7
  cells := EdgePat.cells
  enc x := .agg x.cells
  unc := EdgePat.unc
  dec v := match v with | .agg c => EdgePat.unc c | _ => default
  unc_cells := EdgePat.unc_cells
  dec_enc x := EdgePat.unc_cells x
@[simp] theorem sz_EdgePat : Enc.sz EdgePat = 7 := rfl
@[simp] theorem cells_EdgePat (x : EdgePat) : Enc.cells x = [.str x.var, .slice 1 false (encRows x.types), .int .i64 x.dir, .int .i64 x.mode, .int .i64 x.lo, .int .i64 x.hi, .slice 10 false (encRows x.props)] := rfl
@[simp] theorem enc_EdgePat (x : EdgePat) : Enc.enc x = .agg [.str x.var, .slice 1 false (encRows x.types), .int .i64 x.dir, .int .i64 x.mode, .int .i64 x.lo, .int .i64 x.hi, .slice 10 false (encRows x.props)] := rfl
@[simp] theorem unc_EdgePat (a0 : ByteArray) (s1 : Nat) (f1 : Bool) (a1 : List (List AV)) (k2 : IntKind) (a2 : Int) (k3 : IntKind) (a3 : Int) (k4 : IntKind) (a4 : Int) (k5 : IntKind) (a5 : Int) (s6 : Nat) (f6 : Bool) (a6 : List (List AV)) : (Enc.unc [.str a0, .slice s1 f1 a1, .int k2 a2, .int k3 a3, .int k4 a4, .int k5 a5, .slice s6 f6 a6] : EdgePat) = ⟨a0, (Enc.dec (.slice s1 f1 a1)), a2, a3, a4, a5, (Enc.dec (.slice s6 f6 a6))⟩ := rfl
@[simp] theorem dec_EdgePat (l : List AV) : (Enc.dec (.agg l) : EdgePat) = Enc.unc l := rfl
structure PathPat where
  var : ByteArray
  nodes : List NodePat
  edges : List EdgePat
instance : Inhabited PathPat := ⟨⟨ByteArray.empty, [], []⟩⟩
@[simp] theorem PathPat.eta (x : PathPat) : PathPat.mk x.var x.nodes x.edges = x := rfl
def PathPat.cells (x : PathPat) : List AV := [.str x.var, .slice 3 false (encRows x.nodes), .slice 7 false (encRows x.edges)]
def PathPat.unc (c : List AV) : PathPat :=
  match c with
  | [.str a0, .slice _ _ a1, .slice _ _ a2] => ⟨a0, (a1.map Enc.unc), (a2.map Enc.unc)⟩
  | _ => default
theorem PathPat.unc_cells (x : PathPat) : PathPat.unc x.cells = x := by
  cases x
  simp only [PathPat.cells, PathPat.unc, map_unc, expr_unc]
instance : Enc PathPat where
  sz := 3
  cells := PathPat.cells
  enc x := .agg x.cells
  unc := PathPat.unc
  dec v := match v with | .agg c => PathPat.unc c | _ => default
  unc_cells := PathPat.unc_cells
  dec_enc x := PathPat.unc_cells x
@[simp] theorem sz_PathPat : Enc.sz PathPat = 3 := rfl
@[simp] theorem cells_PathPat (x : PathPat) : Enc.cells x = [.str x.var, .slice 3 false (encRows x.nodes), .slice 7 false (encRows x.edges)] := rfl
@[simp] theorem enc_PathPat (x : PathPat) : Enc.enc x = .agg [.str x.var, .slice 3 false (encRows x.nodes), .slice 7 false (encRows x.edges)] := rfl
@[simp] theorem unc_PathPat (a0 : ByteArray) (s1 : Nat) (f1 : Bool) (a1 : List (List AV)) (s2 : Nat) (f2 : Bool) (a2 : List (List AV)) : (Enc.unc [.str a0, .slice s1 f1 a1, .slice s2 f2 a2] : PathPat) = ⟨a0, (Enc.dec (.slice s1 f1 a1)), (Enc.dec (.slice s2 f2 a2))⟩ := rfl
@[simp] theorem dec_PathPat (l : List AV) : (Enc.dec (.agg l) : PathPat) = Enc.unc l := rfl
structure Item where
  e : Expr
  as_ : ByteArray
instance : Inhabited Item := ⟨⟨default, ByteArray.empty⟩⟩
@[simp] theorem Item.eta (x : Item) : Item.mk x.e x.as_ = x := rfl
def Item.cells (x : Item) : List AV := [.int .i64 x.e.op, .int .i64 x.e.v.kind, .int .i64 x.e.v.n, .int .i64 x.e.v.d, .str x.e.v.s, .slice 5 false (encRows x.e.v.l), .str x.e.name, .bool x.e.dist, .slice 9 false (encRows x.e.kids), .str x.as_]
def Item.unc (c : List AV) : Item :=
  match c with
  | [a0, a1, a2, a3, a4, a5, a6, a7, a8, .str a9] => ⟨(Enc.unc [a0, a1, a2, a3, a4, a5, a6, a7, a8]), a9⟩
  | _ => default
theorem Item.unc_cells (x : Item) : Item.unc x.cells = x := by
  cases x
  simp only [Item.cells, Item.unc, map_unc, expr_unc]
instance : Enc Item where
  sz := 10
  cells := Item.cells
  enc x := .agg x.cells
  unc := Item.unc
  dec v := match v with | .agg c => Item.unc c | _ => default
  unc_cells := Item.unc_cells
  dec_enc x := Item.unc_cells x
@[simp] theorem sz_Item : Enc.sz Item = 10 := rfl
@[simp] theorem cells_Item (x : Item) : Enc.cells x = [.int .i64 x.e.op, .int .i64 x.e.v.kind, .int .i64 x.e.v.n, .int .i64 x.e.v.d, .str x.e.v.s, .slice 5 false (encRows x.e.v.l), .str x.e.name, .bool x.e.dist, .slice 9 false (encRows x.e.kids), .str x.as_] := rfl
@[simp] theorem enc_Item (x : Item) : Enc.enc x = .agg [.int .i64 x.e.op, .int .i64 x.e.v.kind, .int .i64 x.e.v.n, .int .i64 x.e.v.d, .str x.e.v.s, .slice 5 false (encRows x.e.v.l), .str x.e.name, .bool x.e.dist, .slice 9 false (encRows x.e.kids), .str x.as_] := rfl
@[simp] theorem unc_Item (a0 a1 a2 a3 a4 a5 a6 a7 a8 : AV) (a9 : ByteArray) : (Enc.unc [a0, a1, a2, a3, a4, a5, a6, a7, a8, .str a9] : Item) = ⟨(Enc.unc [a0, a1, a2, a3, a4, a5, a6, a7, a8]), a9⟩ := rfl
@[simp] theorem dec_Item (l : List AV) : (Enc.dec (.agg l) : Item) = Enc.unc l := rfl
structure SortK where
  e : Expr
  desc : Bool
instance : Inhabited SortK := ⟨⟨default, false⟩⟩
@[simp] theorem SortK.eta (x : SortK) : SortK.mk x.e x.desc = x := rfl
def SortK.cells (x : SortK) : List AV := [.int .i64 x.e.op, .int .i64 x.e.v.kind, .int .i64 x.e.v.n, .int .i64 x.e.v.d, .str x.e.v.s, .slice 5 false (encRows x.e.v.l), .str x.e.name, .bool x.e.dist, .slice 9 false (encRows x.e.kids), .bool x.desc]
def SortK.unc (c : List AV) : SortK :=
  match c with
  | [a0, a1, a2, a3, a4, a5, a6, a7, a8, .bool a9] => ⟨(Enc.unc [a0, a1, a2, a3, a4, a5, a6, a7, a8]), a9⟩
  | _ => default
theorem SortK.unc_cells (x : SortK) : SortK.unc x.cells = x := by
  cases x
  simp only [SortK.cells, SortK.unc, map_unc, expr_unc]
instance : Enc SortK where
  sz := 10
  cells := SortK.cells
  enc x := .agg x.cells
  unc := SortK.unc
  dec v := match v with | .agg c => SortK.unc c | _ => default
  unc_cells := SortK.unc_cells
  dec_enc x := SortK.unc_cells x
@[simp] theorem sz_SortK : Enc.sz SortK = 10 := rfl
@[simp] theorem cells_SortK (x : SortK) : Enc.cells x = [.int .i64 x.e.op, .int .i64 x.e.v.kind, .int .i64 x.e.v.n, .int .i64 x.e.v.d, .str x.e.v.s, .slice 5 false (encRows x.e.v.l), .str x.e.name, .bool x.e.dist, .slice 9 false (encRows x.e.kids), .bool x.desc] := rfl
@[simp] theorem enc_SortK (x : SortK) : Enc.enc x = .agg [.int .i64 x.e.op, .int .i64 x.e.v.kind, .int .i64 x.e.v.n, .int .i64 x.e.v.d, .str x.e.v.s, .slice 5 false (encRows x.e.v.l), .str x.e.name, .bool x.e.dist, .slice 9 false (encRows x.e.kids), .bool x.desc] := rfl
@[simp] theorem unc_SortK (a0 a1 a2 a3 a4 a5 a6 a7 a8 : AV) (a9 : Bool) : (Enc.unc [a0, a1, a2, a3, a4, a5, a6, a7, a8, .bool a9] : SortK) = ⟨(Enc.unc [a0, a1, a2, a3, a4, a5, a6, a7, a8]), a9⟩ := rfl
@[simp] theorem dec_SortK (l : List AV) : (Enc.dec (.agg l) : SortK) = Enc.unc l := rfl
structure SetI where
  var : ByteArray
  key : ByteArray
  label : ByteArray
  off : Bool
  e : Expr
instance : Inhabited SetI := ⟨⟨ByteArray.empty, ByteArray.empty, ByteArray.empty, false, default⟩⟩
@[simp] theorem SetI.eta (x : SetI) : SetI.mk x.var x.key x.label x.off x.e = x := rfl
def SetI.cells (x : SetI) : List AV := [.str x.var, .str x.key, .str x.label, .bool x.off, .int .i64 x.e.op, .int .i64 x.e.v.kind, .int .i64 x.e.v.n, .int .i64 x.e.v.d, .str x.e.v.s, .slice 5 false (encRows x.e.v.l), .str x.e.name, .bool x.e.dist, .slice 9 false (encRows x.e.kids)]
def SetI.unc (c : List AV) : SetI :=
  match c with
  | [.str a0, .str a1, .str a2, .bool a3, a4, a5, a6, a7, a8, a9, a10, a11, a12] => ⟨a0, a1, a2, a3, (Enc.unc [a4, a5, a6, a7, a8, a9, a10, a11, a12])⟩
  | _ => default
theorem SetI.unc_cells (x : SetI) : SetI.unc x.cells = x := by
  cases x
  simp only [SetI.cells, SetI.unc, map_unc, expr_unc]
instance : Enc SetI where
  sz := 13
  cells := SetI.cells
  enc x := .agg x.cells
  unc := SetI.unc
  dec v := match v with | .agg c => SetI.unc c | _ => default
  unc_cells := SetI.unc_cells
  dec_enc x := SetI.unc_cells x
@[simp] theorem sz_SetI : Enc.sz SetI = 13 := rfl
@[simp] theorem cells_SetI (x : SetI) : Enc.cells x = [.str x.var, .str x.key, .str x.label, .bool x.off, .int .i64 x.e.op, .int .i64 x.e.v.kind, .int .i64 x.e.v.n, .int .i64 x.e.v.d, .str x.e.v.s, .slice 5 false (encRows x.e.v.l), .str x.e.name, .bool x.e.dist, .slice 9 false (encRows x.e.kids)] := rfl
@[simp] theorem enc_SetI (x : SetI) : Enc.enc x = .agg [.str x.var, .str x.key, .str x.label, .bool x.off, .int .i64 x.e.op, .int .i64 x.e.v.kind, .int .i64 x.e.v.n, .int .i64 x.e.v.d, .str x.e.v.s, .slice 5 false (encRows x.e.v.l), .str x.e.name, .bool x.e.dist, .slice 9 false (encRows x.e.kids)] := rfl
@[simp] theorem unc_SetI (a0 : ByteArray) (a1 : ByteArray) (a2 : ByteArray) (a3 : Bool) (a4 a5 a6 a7 a8 a9 a10 a11 a12 : AV) : (Enc.unc [.str a0, .str a1, .str a2, .bool a3, a4, a5, a6, a7, a8, a9, a10, a11, a12] : SetI) = ⟨a0, a1, a2, a3, (Enc.unc [a4, a5, a6, a7, a8, a9, a10, a11, a12])⟩ := rfl
@[simp] theorem dec_SetI (l : List AV) : (Enc.dec (.agg l) : SetI) = Enc.unc l := rfl
structure Clause where
  kind : Int
  opt : Bool
  dist : Bool
  paths : List PathPat
  wh : List Expr
  e : Expr
  name : ByteArray
  items : List Item
  order : List SortK
  skip : Int
  limit : Int
  sets : List SetI
  names : List ByteArray
instance : Inhabited Clause := ⟨⟨0, false, false, [], [], default, ByteArray.empty, [], [], 0, 0, [], []⟩⟩
@[simp] theorem Clause.eta (x : Clause) : Clause.mk x.kind x.opt x.dist x.paths x.wh x.e x.name x.items x.order x.skip x.limit x.sets x.names = x := rfl
def Clause.cells (x : Clause) : List AV := [.int .i64 x.kind, .bool x.opt, .bool x.dist, .slice 3 false (encRows x.paths), .slice 9 false (encRows x.wh), .int .i64 x.e.op, .int .i64 x.e.v.kind, .int .i64 x.e.v.n, .int .i64 x.e.v.d, .str x.e.v.s, .slice 5 false (encRows x.e.v.l), .str x.e.name, .bool x.e.dist, .slice 9 false (encRows x.e.kids), .str x.name, .slice 10 false (encRows x.items), .slice 10 false (encRows x.order), .int .i64 x.skip, .int .i64 x.limit, .slice 13 false (encRows x.sets), .slice 1 false (encRows x.names)]
def Clause.unc (c : List AV) : Clause :=
  match c with
  | [.int _ a0, .bool a1, .bool a2, .slice _ _ a3, .slice _ _ a4, a5, a6, a7, a8, a9, a10, a11, a12, a13, .str a14, .slice _ _ a15, .slice _ _ a16, .int _ a17, .int _ a18, .slice _ _ a19, .slice _ _ a20] => ⟨a0, a1, a2, (a3.map Enc.unc), (a4.map Enc.unc), (Enc.unc [a5, a6, a7, a8, a9, a10, a11, a12, a13]), a14, (a15.map Enc.unc), (a16.map Enc.unc), a17, a18, (a19.map Enc.unc), (a20.map Enc.unc)⟩
  | _ => default
theorem Clause.unc_cells (x : Clause) : Clause.unc x.cells = x := by
  cases x
  simp only [Clause.cells, Clause.unc, map_unc, expr_unc]
instance : Enc Clause where
  sz := 21
  cells := Clause.cells
  enc x := .agg x.cells
  unc := Clause.unc
  dec v := match v with | .agg c => Clause.unc c | _ => default
  unc_cells := Clause.unc_cells
  dec_enc x := Clause.unc_cells x
@[simp] theorem sz_Clause : Enc.sz Clause = 21 := rfl
@[simp] theorem cells_Clause (x : Clause) : Enc.cells x = [.int .i64 x.kind, .bool x.opt, .bool x.dist, .slice 3 false (encRows x.paths), .slice 9 false (encRows x.wh), .int .i64 x.e.op, .int .i64 x.e.v.kind, .int .i64 x.e.v.n, .int .i64 x.e.v.d, .str x.e.v.s, .slice 5 false (encRows x.e.v.l), .str x.e.name, .bool x.e.dist, .slice 9 false (encRows x.e.kids), .str x.name, .slice 10 false (encRows x.items), .slice 10 false (encRows x.order), .int .i64 x.skip, .int .i64 x.limit, .slice 13 false (encRows x.sets), .slice 1 false (encRows x.names)] := rfl
@[simp] theorem enc_Clause (x : Clause) : Enc.enc x = .agg [.int .i64 x.kind, .bool x.opt, .bool x.dist, .slice 3 false (encRows x.paths), .slice 9 false (encRows x.wh), .int .i64 x.e.op, .int .i64 x.e.v.kind, .int .i64 x.e.v.n, .int .i64 x.e.v.d, .str x.e.v.s, .slice 5 false (encRows x.e.v.l), .str x.e.name, .bool x.e.dist, .slice 9 false (encRows x.e.kids), .str x.name, .slice 10 false (encRows x.items), .slice 10 false (encRows x.order), .int .i64 x.skip, .int .i64 x.limit, .slice 13 false (encRows x.sets), .slice 1 false (encRows x.names)] := rfl
@[simp] theorem unc_Clause (k0 : IntKind) (a0 : Int) (a1 : Bool) (a2 : Bool) (s3 : Nat) (f3 : Bool) (a3 : List (List AV)) (s4 : Nat) (f4 : Bool) (a4 : List (List AV)) (a5 a6 a7 a8 a9 a10 a11 a12 a13 : AV) (a14 : ByteArray) (s15 : Nat) (f15 : Bool) (a15 : List (List AV)) (s16 : Nat) (f16 : Bool) (a16 : List (List AV)) (k17 : IntKind) (a17 : Int) (k18 : IntKind) (a18 : Int) (s19 : Nat) (f19 : Bool) (a19 : List (List AV)) (s20 : Nat) (f20 : Bool) (a20 : List (List AV)) : (Enc.unc [.int k0 a0, .bool a1, .bool a2, .slice s3 f3 a3, .slice s4 f4 a4, a5, a6, a7, a8, a9, a10, a11, a12, a13, .str a14, .slice s15 f15 a15, .slice s16 f16 a16, .int k17 a17, .int k18 a18, .slice s19 f19 a19, .slice s20 f20 a20] : Clause) = ⟨a0, a1, a2, (Enc.dec (.slice s3 f3 a3)), (Enc.dec (.slice s4 f4 a4)), (Enc.unc [a5, a6, a7, a8, a9, a10, a11, a12, a13]), a14, (Enc.dec (.slice s15 f15 a15)), (Enc.dec (.slice s16 f16 a16)), a17, a18, (Enc.dec (.slice s19 f19 a19)), (Enc.dec (.slice s20 f20 a20))⟩ := rfl
@[simp] theorem dec_Clause (l : List AV) : (Enc.dec (.agg l) : Clause) = Enc.unc l := rfl
structure Query where
  clauses : List Clause
instance : Inhabited Query := ⟨⟨[]⟩⟩
@[simp] theorem Query.eta (x : Query) : Query.mk x.clauses = x := rfl
def Query.cells (x : Query) : List AV := [.slice 21 false (encRows x.clauses)]
def Query.unc (c : List AV) : Query :=
  match c with
  | [.slice _ _ a0] => ⟨(a0.map Enc.unc)⟩
  | _ => default
theorem Query.unc_cells (x : Query) : Query.unc x.cells = x := by
  cases x
  simp only [Query.cells, Query.unc, map_unc, expr_unc]
instance : Enc Query where
  sz := 1
  cells := Query.cells
  enc x := .agg x.cells
  unc := Query.unc
  dec v := match v with | .agg c => Query.unc c | _ => default
  unc_cells := Query.unc_cells
  dec_enc x := Query.unc_cells x
@[simp] theorem sz_Query : Enc.sz Query = 1 := rfl
@[simp] theorem cells_Query (x : Query) : Enc.cells x = [.slice 21 false (encRows x.clauses)] := rfl
@[simp] theorem enc_Query (x : Query) : Enc.enc x = .agg [.slice 21 false (encRows x.clauses)] := rfl
@[simp] theorem unc_Query (s0 : Nat) (f0 : Bool) (a0 : List (List AV)) : (Enc.unc [.slice s0 f0 a0] : Query) = ⟨(Enc.dec (.slice s0 f0 a0))⟩ := rfl
@[simp] theorem dec_Query (l : List AV) : (Enc.dec (.agg l) : Query) = Enc.unc l := rfl
end Go.Proofs.YtgjljfbohpnfcaaGreat


namespace Go.Proofs.YtgjljfbohpnfcaaGreat
open Go.RowKit
set_option linter.unusedSimpArgs false
set_option linter.unusedVariables false
set_option maxRecDepth 100000
structure Bn where
  old : List Cnt
  now : List Cnt
  e : Int
def BB (b : Bn) : Blk := ⟨75, 3, [[.slice 2 false (encRows b.old), .slice 2 false (encRows b.now), .int .i64 b.e]], true, true⟩
def unBB (k : Blk) : Bn := match k.rows with
  | [[o, n, .int _ x]] => ⟨Enc.dec o, Enc.dec n, x⟩
  | _ => ⟨[], [], 0⟩
def KB : BK Bn where
  B := BB
  un := unBB
  sz := 3
  e := 75
  un_B s := by
    have h1 : (Enc.dec (.slice 2 false (encRows s.old)) : List Cnt) = s.old := Enc.dec_enc s.old
    have h2 : (Enc.dec (.slice 2 false (encRows s.now)) : List Cnt) = s.now := Enc.dec_enc s.now
    simp only [unBB, BB, h1, h2]
  hsz _ := rfl
  he _ := rfl
  hmu _ := rfl
  hdeep _ := rfl
  hlen _ := rfl
def Bn.fail (b : Bn) (e : Int) : Bn := if b.e = 0 then { b with e := e } else b
def Bn.intro (b : Bn) (name : ByteArray) (kind : Int) : Bn := if 24 ≤ b.now.length then b.fail 4 else { b with now := b.now ++ [⟨name, kind⟩] }
def Bn.props (b : Bn) (l : List PropPat) : Bn := l.foldl (fun b p => b.fail (checkX b.old p.e false)) b
def fFail : List AV → Option ((Bn → Prop) × (Bn → Bn))
  | [.int .i64 e] => some (fun _ => True, fun b => b.fail e)
  | _ => none
def fIntro : List AV → Option ((Bn → Prop) × (Bn → Bn))
  | [.str s, .int .i64 k] => some (fun _ => True, fun b => b.intro s k)
  | _ => none
def gFail := gM KB fFail
def gIntro := gM KB fIntro
@[simp] theorem Bn.eta (b : Bn) : Bn.mk b.old b.now b.e = b := rfl
theorem Bn.fail_old (b : Bn) (e : Int) : (b.fail e).old = b.old := by unfold Bn.fail; split <;> rfl
theorem Bn.fail_now (b : Bn) (e : Int) : (b.fail e).now = b.now := by unfold Bn.fail; split <;> rfl
theorem gFail_l {o n : List Cnt} {x : Int} {Z : List Blk} {e : Int} : gFail [.ptr 0 1 3 0 0, .int .i64 e] (⟨75, 3, [[.slice 2 false (encRows o), .slice 2 false (encRows n), .int .i64 x]], true, true⟩ :: Z) = some (True, .tup [], BB (Bn.fail ⟨o, n, x⟩ e) :: Z) :=
  gM_eq KB (f := fFail) (l := 0) (rest := [.int .i64 e]) (s := ⟨o, n, x⟩) (H := BB ⟨o, n, x⟩ :: Z) rfl rfl rfl
theorem gIntro_l {o n : List Cnt} {x : Int} {Z : List Blk} {s : ByteArray} {k : Int} : gIntro [.ptr 0 1 3 0 0, .str s, .int .i64 k] (⟨75, 3, [[.slice 2 false (encRows o), .slice 2 false (encRows n), .int .i64 x]], true, true⟩ :: Z) = some (True, .tup [], BB (Bn.intro ⟨o, n, x⟩ s k) :: Z) :=
  gM_eq KB (f := fIntro) (l := 0) (rest := [.str s, .int .i64 k]) (s := ⟨o, n, x⟩) (H := BB ⟨o, n, x⟩ :: Z) rfl rfl rfl
section
variable {m : Int}
theorem fail_ne {b : Bn} {e : Int} (h : b.e ≠ 0) : b.fail e = b := by unfold Bn.fail; rw [if_neg h]
set_option maxHeartbeats 4000000 in
theorem failP : GenOK Tryz.prog (G m) 36 gFail := by
  refine gen_frame KB (gen_of_avcH (C := C0 m) (sigC0 m) (mixC0 m) [] Tryz.func36 rfl rfl rfl (by kernel_rfl) (fun avs H ob r H' h hob => ?_))
  obtain ⟨rest, s, p, st, rfl, rfl, hf, hp, rfl, rfl, hd⟩ := gM1_inv KB h hob
  unfold fFail at hf
  split at hf
  case h_2 => cases hf
  rename_i e
  simp only [Option.some.injEq, Prod.mk.injEq] at hf
  obtain ⟨rfl, rfl⟩ := hf
  refine ⟨(by show 2 ≤ _; decide), ?_⟩
  show avcH _ _ _ _ _ ⟨argsρ 0 [.ptr 0 1 3 0 0, .int .i64 e], [BB s]⟩ (wEnd _ _ _ fun ex st' => _ ∧ ∃ ob', _ ∧ _ ∧ st'.H = [BB (s.fail e)])
  rcases em2 (s.e = 0) with h0 | h0
  · rw [show s.fail e = { s with e := e } from by unfold Bn.fail; rw [if_pos (of_eq_true h0)]]
    simp [argsρ, BB, h0]
    refine ⟨_, Weak.refl _, ?_⟩
    exact ⟨.inl rfl, ⟨True, trivial⟩, by simp [BB]⟩
  · rw [fail_ne (of_eq_false h0)]
    simp [argsρ, BB, h0]
    refine ⟨_, Weak.refl _, ?_⟩
    exact ⟨.inl rfl, True, rfl, trivial, by simp [BB]⟩
def sClip : List AV → Option (Prop × AV) := spec1 (fun (_ : List Cnt) => True) (fun l => .slice 2 true (encRows l))
theorem clipP : PureOK Tryz.prog (G m) 62 sClip := by
  refine pureX1 (C := C0 m) (sigC0 m) (mixC0 m) Tryz.func62 rfl rfl rfl (by kernel_rfl) (by decide) (fun l _ => ?_)
  simp
noncomputable def CIn (m : Int) : Ctx := mkC Tryz.prog (G m) [(36, .gen gFail), (62, .pure sClip)]
@[simp] theorem CIn_P (m : Int) : (CIn m).P = Tryz.prog := rfl
@[simp] theorem CIn_1 (m : Int) : (CIn m).S 36 = .gen gFail := rfl
@[simp] theorem CIn_2 (m : Int) : (CIn m).S 62 = .pure sClip := rfl
theorem mixCIn (m : Int) : (CIn m).P.follows .mixedOrders = true := mixed
theorem sigCIn (m : Int) : SigOK (CIn m) := sigOK_cons (entryGen failP Tryz.func36 rfl (by decide)) (sigOK_cons (entryPure clipP Tryz.func62 rfl (by decide)) (sigOK_nil _ _))
set_option maxHeartbeats 4000000 in
theorem introP : GenOK Tryz.prog (G m) 39 gIntro := by
  refine gen_frame KB (gen_of_avcH (C := CIn m) (sigCIn m) (mixCIn m) [] Tryz.func39 rfl rfl rfl (by kernel_rfl) (fun avs H ob r H' h hob => ?_))
  obtain ⟨rest, s, p, st, rfl, rfl, hf, hp, rfl, rfl, hd⟩ := gM1_inv KB h hob
  unfold fIntro at hf
  split at hf
  case h_2 => cases hf
  rename_i name k
  simp only [Option.some.injEq, Prod.mk.injEq] at hf
  obtain ⟨rfl, rfl⟩ := hf
  refine ⟨(by show 3 ≤ _; decide), ?_⟩
  show avcH _ _ _ _ _ ⟨argsρ 0 [.ptr 0 1 3 0 0, .str name, .int .i64 k], [BB s]⟩ (wEnd _ _ _ fun ex st' => _ ∧ ∃ ob', _ ∧ _ ∧ st'.H = [BB (s.intro name k)])
  by_cases h0 : 24 ≤ s.now.length
  · have h1 : (24 : Int) ≤ s.now.length := by omega
    rw [show s.intro name k = s.fail 4 from by unfold Bn.intro; rw [if_pos h0]]
    simp [argsρ, BB, h1, h0, gFail_l]
    refine ⟨_, Weak.refl _, ?_⟩
    exact ⟨.inr rfl, True, rfl, trivial, by simp [BB]⟩
  · have h1 : ¬ (24 : Int) ≤ s.now.length := by omega
    simp [argsρ, BB, h1, h0, sClip, Bn.intro]
    refine ⟨by omega, ⟨[], [BB (s.intro name k)]⟩, (weak_shut 0 rfl [1] (by simp [reach]) (by decide)).trans (weak_keep 1 (by simp) (Nat.le_refl _) (by simp) (by simp) ?_), .inl rfl, ⟨True, trivial⟩, ?_⟩
    · simp [BB, Bn.intro, h0, view, nrmC, frzL, encRows]
    · simp [BB, Bn.intro, h0]
end
end Go.Proofs.YtgjljfbohpnfcaaGreat


namespace Go.Proofs.YtgjljfbohpnfcaaGreat
open Go.RowKit
set_option linter.unusedSimpArgs false
set_option linter.unusedVariables false
set_option maxRecDepth 100000
def GoodE (e : Expr) : Prop := WfE e ∧ ((namesE e).length ≤ 1000000000000 ∧ (namesE e).length ≤ 10000000000)
def OKB (b : Bn) : Prop := b.old.length ≤ 24 ∧ b.now.length ≤ 24
theorem OKB.fail {b : Bn} (h : OKB b) (e : Int) : OKB (b.fail e) := by unfold OKB; rw [Bn.fail_old, Bn.fail_now]; exact h
theorem OKB.intro {b : Bn} (h : OKB b) (s : ByteArray) (k : Int) : OKB (b.intro s k) := by
  unfold Bn.intro
  split
  · exact h.fail 4
  · obtain ⟨h1, h2⟩ := h
    refine ⟨h1, ?_⟩
    show (b.now ++ [_]).length ≤ 24
    rw [List.length_append]
    simp
    omega
def GoodPr (l : List PropPat) : Prop := l.length ≤ maxLen ∧ ∀ p ∈ l, GoodE p.e
theorem props_take {b : Bn} {l : List PropPat} {i : Nat} (h : i < l.length) : b.props (l.take (i + 1)) = (b.props (l.take i)).fail (checkX (b.props (l.take i)).old (ix l i).e false) := by
  unfold Bn.props
  rw [List.take_succ_eq_append_getElem h, List.foldl_append, ix_lt h]
  rfl
theorem props_old {l : List PropPat} : ∀ {b : Bn}, (b.props l).old = b.old := by
  induction l with
  | nil => intro b; rfl
  | cons a r ih => intro b; exact (ih (b := b.fail _)).trans (Bn.fail_old _ _)
theorem props_now {l : List PropPat} : ∀ {b : Bn}, (b.props l).now = b.now := by
  induction l with
  | nil => intro b; rfl
  | cons a r ih => intro b; exact (ih (b := b.fail _)).trans (Bn.fail_now _ _)
theorem OKB.props {b : Bn} (h : OKB b) (l : List PropPat) : OKB (b.props l) := by unfold OKB; rw [props_old, props_now]; exact h
def fProps : List AV → Option ((Bn → Prop) × (Bn → Bn))
  | [a] => some (fun b => OKB b ∧ a = Enc.enc (Enc.dec a : List PropPat) ∧ GoodPr (Enc.dec a), fun b => b.props (Enc.dec a))
  | _ => none
def gProps := gM KB fProps
theorem gProps_l {o n : List Cnt} {x : Int} {Z : List Blk} {l : List PropPat} : gProps [.ptr 0 1 3 0 0, .slice 10 false (encRows l)] (⟨75, 3, [[.slice 2 false (encRows o), .slice 2 false (encRows n), .int .i64 x]], true, true⟩ :: Z) = some (OKB ⟨o, n, x⟩ ∧ GoodPr l, .tup [], BB (Bn.props ⟨o, n, x⟩ l) :: Z) := by
  have h := gM_eq KB (f := fProps) (l := 0) (rest := [Enc.enc l]) (s := ⟨o, n, x⟩) (H := BB ⟨o, n, x⟩ :: Z) rfl rfl rfl
  have e1 : (Enc.dec (Enc.enc l) : List PropPat) = l := Enc.dec_enc l
  simp only [e1, true_and] at h
  exact h
def Bn.element (b : Bn) (name : ByteArray) (edges : Bool) : Bn :=
  if kindF b.now name = 0 then b.fail 6 else if kindF b.now name ≠ 1 ∧ (kindF b.now name ≠ 2 ∨ edges = false) then b.fail 8 else b
def fElement : List AV → Option ((Bn → Prop) × (Bn → Bn))
  | [.str s, .bool k] => some (fun b => OKB b, fun b => b.element s k)
  | _ => none
def gElement := gM KB fElement
theorem gElement_l {o n : List Cnt} {x : Int} {Z : List Blk} {s : ByteArray} {k : Bool} : gElement [.ptr 0 1 3 0 0, .str s, .bool k] (⟨75, 3, [[.slice 2 false (encRows o), .slice 2 false (encRows n), .int .i64 x]], true, true⟩ :: Z) = some (OKB ⟨o, n, x⟩, .tup [], BB (Bn.element ⟨o, n, x⟩ s k) :: Z) :=
  gM_eq KB (f := fElement) (l := 0) (rest := [.str s, .bool k]) (s := ⟨o, n, x⟩) (H := BB ⟨o, n, x⟩ :: Z) rfl rfl rfl
theorem len24 {l : List Cnt} (h : l.length ≤ 24) : l.length ≤ maxLen := by unfold maxLen; omega
section
variable {m : Int}
noncomputable def CPrp (m : Int) : Ctx := mkC Tryz.prog (G m) [(36, .gen gFail), (37, .pure sCheckX)]
@[simp] theorem CPrp_P (m : Int) : (CPrp m).P = Tryz.prog := rfl
@[simp] theorem CPrp_G (m : Int) : (CPrp m).G = (G m) := rfl
@[simp] theorem CPrp_1 (m : Int) : (CPrp m).S 36 = .gen gFail := rfl
@[simp] theorem CPrp_2 (m : Int) : (CPrp m).S 37 = .pure sCheckX := rfl
theorem mixCPrp (m : Int) : (CPrp m).P.follows .mixedOrders = true := mixed
theorem sigCPrp (m : Int) : SigOK (CPrp m) := sigOK_cons (entryGen (failP) Tryz.func36 rfl (by decide)) (sigOK_cons (entryPure (checkXP) Tryz.func37 rfl (by decide)) (sigOK_nil _ _))
set_option maxHeartbeats 4000000 in
theorem propsP : GenOK Tryz.prog (G m) 91 gProps := by
  refine gen_frame KB (gen_of_avcH (C := CPrp m) (sigCPrp m) (mixCPrp m) [3] Tryz.func91 rfl rfl rfl (by kernel_rfl) (fun avs H ob r H' h hob => ?_))
  obtain ⟨rest, s, p, st, rfl, rfl, hf, hp, rfl, rfl, hd⟩ := gM1_inv KB h hob
  unfold fProps at hf
  split at hf
  case h_2 => cases hf
  rename_i a
  simp only [Option.some.injEq, Prod.mk.injEq] at hf
  obtain ⟨rfl, rfl⟩ := hf
  obtain ⟨hs, ha, hl⟩ := hp
  generalize (Enc.dec a : List PropPat) = l at *
  subst ha
  refine ⟨(by show 2 ≤ _; decide), ?_⟩
  show avcH _ _ _ _ _ ⟨argsρ 0 [.ptr 0 1 3 0 0, Enc.enc l], [BB s]⟩ (wEnd _ _ _ fun ex st' => _ ∧ ∃ ob', _ ∧ _ ∧ st'.H = [BB (s.props l)])
  have hl' : l.length ≤ 9223372036854775807 := hl.1
  simp [argsρ, BB]
  refine loop_ruleH (C := CPrp m) (sigCPrp m) (mixCPrp m) [3] (fun i : Nat => ⟨[(0, .ptr 0 1 3 0 0), (6, Enc.enc l), (7, .int .i64 l.length), (8, .int .i64 i)], [BB (s.props (l.take i))]⟩) (fun i => i ≤ l.length) (fun i => l.length - i) (by kernel_rfl) ⟨0, Nat.zero_le _, weak_eq (by simp) (by simp [BB, Bn.props])⟩ (fun i hi => ?_)
  have hb := hs.props (l.take i)
  by_cases hlt : i < l.length
  · have i1 : I64 ((i : Int) + 1) := by unfold I64; omega
    have hg := hl.2 _ (ix_mem hlt)
    have ht := props_take (b := s) hlt
    generalize s.props (l.take i) = b at *
    have hbl := len24 hb.1
    simp [BB, hlt, rowAt_enc hlt]
    refine AW_regionF (sigCPrp m) (mixCPrp m) [.pure, .pure, .pure, .pure, .read, .pure, .read, .read, .eff] [[],[],[1],[1,2],[2,1,3],[],[5],[5,6,3,1,2,4],[4,2,1,3,6,5,7,0]] (by kernel_rfl) (by kernel_rfl) (by kernel_rfl) (by kernel_rfl) ?_
    simp [BB, hlt, rowAt_enc hlt, sCheckX, hbl, hg.1, hg.2, gFail_l, i1]
    exact ⟨i + 1, by omega, by omega, weak_keep 1 (by simp) (by simp) (by simp [AV.clean, AV.clean1]) (by simp) (by simp [BB, ht])⟩
  · obtain rfl : i = l.length := by omega
    rw [List.take_length]
    simp [BB, hlt]
    refine ⟨_, Weak.refl _, ?_⟩
    exact ⟨.inl rfl, ⟨True, trivial⟩, rfl⟩
noncomputable def CEl (m : Int) : Ctx := mkC Tryz.prog (G m) [(36, .gen gFail), (38, .pure sKind)]
@[simp] theorem CEl_P (m : Int) : (CEl m).P = Tryz.prog := rfl
@[simp] theorem CEl_G (m : Int) : (CEl m).G = (G m) := rfl
@[simp] theorem CEl_1 (m : Int) : (CEl m).S 36 = .gen gFail := rfl
@[simp] theorem CEl_2 (m : Int) : (CEl m).S 38 = .pure sKind := rfl
theorem mixCEl (m : Int) : (CEl m).P.follows .mixedOrders = true := mixed
theorem sigCEl (m : Int) : SigOK (CEl m) := sigOK_cons (entryGen (failP) Tryz.func36 rfl (by decide)) (sigOK_cons (entryPure (kindP) Tryz.func38 rfl (by decide)) (sigOK_nil _ _))
set_option maxHeartbeats 4000000 in
theorem elementP : GenOK Tryz.prog (G m) 41 gElement := by
  refine gen_frame KB (gen_of_avcH (C := CEl m) (sigCEl m) (mixCEl m) [] Tryz.func41 rfl rfl rfl (by kernel_rfl) (fun avs H ob r H' h hob => ?_))
  obtain ⟨rest, s, p, st, rfl, rfl, hf, hp, rfl, rfl, hd⟩ := gM1_inv KB h hob
  unfold fElement at hf
  split at hf
  case h_2 => cases hf
  rename_i name k
  simp only [Option.some.injEq, Prod.mk.injEq] at hf
  obtain ⟨rfl, rfl⟩ := hf
  refine ⟨(by show 3 ≤ _; decide), ?_⟩
  show avcH _ _ _ _ _ ⟨argsρ 0 [.ptr 0 1 3 0 0, .str name, .bool k], [BB s]⟩ (wEnd _ _ _ fun ex st' => _ ∧ ∃ ob', _ ∧ _ ∧ st'.H = [BB (s.element name k)])
  have hbl := len24 hp.2
  obtain ⟨r, hr⟩ : ∃ r, s.element name k = r := ⟨_, rfl⟩
  rw [hr]
  unfold Bn.element at hr
  by_cases h0 : kindF s.now name = 0
  · rw [if_pos h0] at hr
    subst hr
    simp [argsρ, BB, sKind, hbl, h0, gFail_l]
    (refine ⟨_, Weak.refl _, ?_⟩; first | exact ⟨.inl rfl, ⟨True, trivial⟩, by simp [BB]⟩ | exact ⟨.inl rfl, True, rfl, trivial, by simp [BB]⟩ | exact ⟨.inr rfl, ⟨True, trivial⟩, by simp [BB]⟩ | exact ⟨.inr rfl, True, rfl, trivial, by simp [BB]⟩)
  rw [if_neg h0] at hr
  by_cases h1 : kindF s.now name = 1
  · rw [if_neg (by simp [h1])] at hr
    subst hr
    simp [argsρ, BB, sKind, hbl, h1]
    (refine ⟨_, Weak.refl _, ?_⟩; first | exact ⟨.inl rfl, ⟨True, trivial⟩, by simp [BB]⟩ | exact ⟨.inl rfl, True, rfl, trivial, by simp [BB]⟩ | exact ⟨.inr rfl, ⟨True, trivial⟩, by simp [BB]⟩ | exact ⟨.inr rfl, True, rfl, trivial, by simp [BB]⟩)
  by_cases h2 : kindF s.now name = 2
  · cases k
    · rw [if_pos ⟨h1, .inr rfl⟩] at hr
      subst hr
      simp [argsρ, BB, sKind, hbl, h2, gFail_l]
      (refine ⟨_, Weak.refl _, ?_⟩; first | exact ⟨.inl rfl, ⟨True, trivial⟩, by simp [BB]⟩ | exact ⟨.inl rfl, True, rfl, trivial, by simp [BB]⟩ | exact ⟨.inr rfl, ⟨True, trivial⟩, by simp [BB]⟩ | exact ⟨.inr rfl, True, rfl, trivial, by simp [BB]⟩)
    · rw [if_neg (by simp [h2])] at hr
      subst hr
      simp [argsρ, BB, sKind, hbl, h2, gFail_l]
      (refine ⟨_, Weak.refl _, ?_⟩; first | exact ⟨.inl rfl, ⟨True, trivial⟩, by simp [BB]⟩ | exact ⟨.inl rfl, True, rfl, trivial, by simp [BB]⟩ | exact ⟨.inr rfl, ⟨True, trivial⟩, by simp [BB]⟩ | exact ⟨.inr rfl, True, rfl, trivial, by simp [BB]⟩)
  · rw [if_pos ⟨h1, .inl h2⟩] at hr
    subst hr
    simp [argsρ, BB, sKind, hbl, h0, h1, h2, gFail_l]
    (refine ⟨_, Weak.refl _, ?_⟩; first | exact ⟨.inl rfl, ⟨True, trivial⟩, by simp [BB]⟩ | exact ⟨.inl rfl, True, rfl, trivial, by simp [BB]⟩ | exact ⟨.inr rfl, ⟨True, trivial⟩, by simp [BB]⟩ | exact ⟨.inr rfl, True, rfl, trivial, by simp [BB]⟩)
end
end Go.Proofs.YtgjljfbohpnfcaaGreat


namespace Go.Proofs.YtgjljfbohpnfcaaGreat
open Go.RowKit
set_option linter.unusedSimpArgs false
set_option linter.unusedVariables false
set_option maxRecDepth 100000
def Bn.nodeK (b : Bn) (n : NodePat) (mt : Bool) : Bn :=
  if n.var = ⟨#[]⟩ then b else if kindF b.now n.var = 0 then b.intro n.var 1 else if kindF b.now n.var ≠ 1 then b.fail 8 else if mt = false ∧ (n.labels ≠ [] ∨ n.props ≠ []) then b.fail 7 else b
def Bn.node (b : Bn) (n : NodePat) (mt : Bool) : Bn := (b.nodeK n mt).props n.props
def Bn.edgeK (b : Bn) (x : EdgePat) (mt : Bool) : Bn :=
  if x.var = ⟨#[]⟩ then b else if kindF b.now x.var = 0 then (if x.mode = 0 then b.intro x.var 2 else b.intro x.var 4) else if mt = false ∨ x.mode ≠ 0 then b.fail 7 else if kindF b.now x.var ≠ 2 then b.fail 8 else b
def Bn.edge (b : Bn) (x : EdgePat) (mt : Bool) : Bn := (b.edgeK x mt).props x.props
theorem OKB.nodeK {b : Bn} (h : OKB b) (n : NodePat) (mt : Bool) : OKB (b.nodeK n mt) := by
  unfold Bn.nodeK
  repeat' split
  all_goals first | exact h | exact h.intro _ _ | exact h.fail _
theorem OKB.edgeK {b : Bn} (h : OKB b) (x : EdgePat) (mt : Bool) : OKB (b.edgeK x mt) := by
  unfold Bn.edgeK
  repeat' split
  all_goals first | exact h | exact h.intro _ _ | exact h.fail _
theorem OKB.node {b : Bn} (h : OKB b) (n : NodePat) (mt : Bool) : OKB (b.node n mt) := (h.nodeK n mt).props _
theorem OKB.edge {b : Bn} (h : OKB b) (x : EdgePat) (mt : Bool) : OKB (b.edge x mt) := (h.edgeK x mt).props _
def fNode : List AV → Option ((Bn → Prop) × (Bn → Bn))
  | [a, .bool mt] => some (fun b => OKB b ∧ a = Enc.enc (Enc.dec a : NodePat) ∧ GoodPr (Enc.dec a : NodePat).props, fun b => b.node (Enc.dec a) mt)
  | _ => none
def gNode := gM KB fNode
theorem gNode_l {o n : List Cnt} {x : Int} {Z : List Blk} {y : NodePat} {mt : Bool} : gNode [.ptr 0 1 3 0 0, .agg [.str y.var, .slice 1 false (encRows y.labels), .slice 10 false (encRows y.props)], .bool mt] (⟨75, 3, [[.slice 2 false (encRows o), .slice 2 false (encRows n), .int .i64 x]], true, true⟩ :: Z) = some (OKB ⟨o, n, x⟩ ∧ GoodPr y.props, .tup [], BB (Bn.node ⟨o, n, x⟩ y mt) :: Z) := by
  have h := gM_eq KB (f := fNode) (l := 0) (rest := [Enc.enc y, .bool mt]) (s := ⟨o, n, x⟩) (H := BB ⟨o, n, x⟩ :: Z) rfl rfl rfl
  have e1 : (Enc.dec (Enc.enc y) : NodePat) = y := Enc.dec_enc y
  simp only [e1, true_and] at h
  exact h
def fEdge : List AV → Option ((Bn → Prop) × (Bn → Bn))
  | [a, .bool mt] => some (fun b => OKB b ∧ a = Enc.enc (Enc.dec a : EdgePat) ∧ GoodPr (Enc.dec a : EdgePat).props, fun b => b.edge (Enc.dec a) mt)
  | _ => none
def gEdge := gM KB fEdge
theorem gEdge_l {o n : List Cnt} {x : Int} {Z : List Blk} {y : EdgePat} {mt : Bool} : gEdge [.ptr 0 1 3 0 0, .agg [.str y.var, .slice 1 false (encRows y.types), .int .i64 y.dir, .int .i64 y.mode, .int .i64 y.lo, .int .i64 y.hi, .slice 10 false (encRows y.props)], .bool mt] (⟨75, 3, [[.slice 2 false (encRows o), .slice 2 false (encRows n), .int .i64 x]], true, true⟩ :: Z) = some (OKB ⟨o, n, x⟩ ∧ GoodPr y.props, .tup [], BB (Bn.edge ⟨o, n, x⟩ y mt) :: Z) := by
  have h := gM_eq KB (f := fEdge) (l := 0) (rest := [Enc.enc y, .bool mt]) (s := ⟨o, n, x⟩) (H := BB ⟨o, n, x⟩ :: Z) rfl rfl rfl
  have e1 : (Enc.dec (Enc.enc y) : EdgePat) = y := Enc.dec_enc y
  simp only [e1, true_and] at h
  exact h
section
variable {m : Int}
noncomputable def CNo (m : Int) : Ctx := mkC Tryz.prog (G m) [(36, .gen gFail), (39, .gen gIntro), (91, .gen gProps), (38, .pure sKind)]
@[simp] theorem CNo_P (m : Int) : (CNo m).P = Tryz.prog := rfl
@[simp] theorem CNo_G (m : Int) : (CNo m).G = (G m) := rfl
@[simp] theorem CNo_1 (m : Int) : (CNo m).S 36 = .gen gFail := rfl
@[simp] theorem CNo_2 (m : Int) : (CNo m).S 39 = .gen gIntro := rfl
@[simp] theorem CNo_3 (m : Int) : (CNo m).S 91 = .gen gProps := rfl
@[simp] theorem CNo_4 (m : Int) : (CNo m).S 38 = .pure sKind := rfl
theorem mixCNo (m : Int) : (CNo m).P.follows .mixedOrders = true := mixed
theorem sigCNo (m : Int) : SigOK (CNo m) := sigOK_cons (entryGen (failP) Tryz.func36 rfl (by decide)) (sigOK_cons (entryGen (introP) Tryz.func39 rfl (by decide)) (sigOK_cons (entryGen (propsP) Tryz.func91 rfl (by decide)) (sigOK_cons (entryPure (kindP) Tryz.func38 rfl (by decide)) (sigOK_nil _ _))))
set_option maxHeartbeats 8000000 in
theorem nodeP : GenOK Tryz.prog (G m) 59 gNode := by
  refine gen_frame KB (gen_of_avcH (C := CNo m) (sigCNo m) (mixCNo m) [1] Tryz.func59 rfl rfl rfl (by kernel_rfl) (fun avs H ob r H' h hob => ?_))
  obtain ⟨rest, s, p, st, rfl, rfl, hf, hp, rfl, rfl, hd⟩ := gM1_inv KB h hob
  unfold fNode at hf
  split at hf
  case h_2 => cases hf
  rename_i a mt
  simp only [Option.some.injEq, Prod.mk.injEq] at hf
  obtain ⟨rfl, rfl⟩ := hf
  obtain ⟨hs, ha, hl⟩ := hp
  generalize (Enc.dec a : NodePat) = n at *
  subst ha
  refine ⟨(by show 3 ≤ _; decide), ?_⟩
  show avcH _ _ _ _ _ ⟨argsρ 0 [.ptr 0 1 3 0 0, Enc.enc n, .bool mt], [BB s]⟩ (wEnd _ _ _ fun ex st' => _ ∧ ∃ ob', _ ∧ _ ∧ st'.H = [BB (s.node n mt)])
  have hbl := len24 hs.2
  obtain ⟨b, hb⟩ : ∃ b, s.nodeK n mt = b := ⟨_, rfl⟩
  have hbo : OKB b := by rw [← hb]; exact hs.nodeK n mt
  have hr : s.node n mt = b.props n.props := by unfold Bn.node; rw [hb]
  rw [hr]
  clear h hr
  unfold Bn.nodeK at hb
  simp [argsρ, BB]
  refine AW_regionF (sigCNo m) (mixCNo m) [.pure, .pure, .pure, .read, .pure, .read, .read, .pure] [[],[0],[0,1],[1,0,2],[],[4],[4,5,2,0,1,3],[3,1,0,2,5,4,6]] (by kernel_rfl) (by kernel_rfl) (by kernel_rfl) (by kernel_rfl) ?_
  rcases em2 (n.var = ⟨#[]⟩) with h0 | h0
  · rw [if_pos (of_eq_true h0)] at hb
    subst hb
    simp [BB, sKind, hbl, h0, gProps_l, hbo, hl]
    (refine ⟨⟨[], _⟩, weak_keep 1 (by simp) (Nat.le_refl _) (by simp) (by simp) rfl, ?_⟩; first | exact ⟨.inl rfl, ⟨True, trivial⟩, by simp [BB]⟩ | exact ⟨.inl rfl, True, rfl, trivial, by simp [BB]⟩ | exact ⟨.inr rfl, ⟨True, trivial⟩, by simp [BB]⟩ | exact ⟨.inr rfl, True, rfl, trivial, by simp [BB]⟩)
  rw [if_neg (of_eq_false h0)] at hb
  by_cases h1 : kindF s.now n.var = 0
  · rw [if_pos h1] at hb
    subst hb
    simp [BB, sKind, hbl, h0, h1, gProps_l, gIntro_l, hbo, hl]
    (refine ⟨⟨[], _⟩, weak_keep 1 (by simp) (Nat.le_refl _) (by simp) (by simp) rfl, ?_⟩; first | exact ⟨.inl rfl, ⟨True, trivial⟩, by simp [BB]⟩ | exact ⟨.inl rfl, True, rfl, trivial, by simp [BB]⟩ | exact ⟨.inr rfl, ⟨True, trivial⟩, by simp [BB]⟩ | exact ⟨.inr rfl, True, rfl, trivial, by simp [BB]⟩)
  rw [if_neg h1] at hb
  by_cases h2 : kindF s.now n.var = 1
  case neg =>
    rw [if_pos h2] at hb
    subst hb
    simp [BB, sKind, hbl, h0, h1, h2, gProps_l, gFail_l, hbo, hl]
    (refine ⟨⟨[], _⟩, weak_keep 1 (by simp) (Nat.le_refl _) (by simp) (by simp) rfl, ?_⟩; first | exact ⟨.inl rfl, ⟨True, trivial⟩, by simp [BB]⟩ | exact ⟨.inl rfl, True, rfl, trivial, by simp [BB]⟩ | exact ⟨.inr rfl, ⟨True, trivial⟩, by simp [BB]⟩ | exact ⟨.inr rfl, True, rfl, trivial, by simp [BB]⟩)
  rw [if_neg (by simp [h2])] at hb
  cases mt
  · by_cases h3 : n.labels = []
    · by_cases h4 : n.props = []
      · rw [if_neg (by simp [h3, h4])] at hb
        subst hb
        have f3 : n.labels.length = 0 := by rw [h3]; rfl
        have f4 : n.props.length = 0 := by rw [h4]; rfl
        simp [BB, sKind, hbl, h0, h2, f3, f4, gProps_l, gFail_l, hbo, hl]
        (refine ⟨⟨[], _⟩, weak_keep 1 (by simp) (Nat.le_refl _) (by simp) (by simp) rfl, ?_⟩; first | exact ⟨.inl rfl, ⟨True, trivial⟩, by simp [BB]⟩ | exact ⟨.inl rfl, True, rfl, trivial, by simp [BB]⟩ | exact ⟨.inr rfl, ⟨True, trivial⟩, by simp [BB]⟩ | exact ⟨.inr rfl, True, rfl, trivial, by simp [BB]⟩)
      · rw [if_pos (by simp [h4])] at hb
        subst hb
        have f4 := List.length_pos_iff.2 h4
        have f3 : n.labels.length = 0 := by rw [h3]; rfl
        simp [BB, sKind, hbl, h0, h2, f3, f4, gProps_l, gFail_l, hbo, hl]
        (refine ⟨⟨[], _⟩, weak_keep 1 (by simp) (Nat.le_refl _) (by simp) (by simp) rfl, ?_⟩; first | exact ⟨.inl rfl, ⟨True, trivial⟩, by simp [BB]⟩ | exact ⟨.inl rfl, True, rfl, trivial, by simp [BB]⟩ | exact ⟨.inr rfl, ⟨True, trivial⟩, by simp [BB]⟩ | exact ⟨.inr rfl, True, rfl, trivial, by simp [BB]⟩)
    · rw [if_pos (by simp [h3])] at hb
      subst hb
      have f3 := List.length_pos_iff.2 h3
      simp [BB, sKind, hbl, h0, h2, f3, gProps_l, gFail_l, hbo, hl]
      (refine ⟨⟨[], _⟩, weak_keep 1 (by simp) (Nat.le_refl _) (by simp) (by simp) rfl, ?_⟩; first | exact ⟨.inl rfl, ⟨True, trivial⟩, by simp [BB]⟩ | exact ⟨.inl rfl, True, rfl, trivial, by simp [BB]⟩ | exact ⟨.inr rfl, ⟨True, trivial⟩, by simp [BB]⟩ | exact ⟨.inr rfl, True, rfl, trivial, by simp [BB]⟩)
  · rw [if_neg (by simp)] at hb
    subst hb
    simp [BB, sKind, hbl, h0, h2, gProps_l, gFail_l, hbo, hl]
    (refine ⟨⟨[], _⟩, weak_keep 1 (by simp) (Nat.le_refl _) (by simp) (by simp) rfl, ?_⟩; first | exact ⟨.inl rfl, ⟨True, trivial⟩, by simp [BB]⟩ | exact ⟨.inl rfl, True, rfl, trivial, by simp [BB]⟩ | exact ⟨.inr rfl, ⟨True, trivial⟩, by simp [BB]⟩ | exact ⟨.inr rfl, True, rfl, trivial, by simp [BB]⟩)
set_option maxHeartbeats 8000000 in
theorem edgeP : GenOK Tryz.prog (G m) 60 gEdge := by
  refine gen_frame KB (gen_of_avcH (C := CNo m) (sigCNo m) (mixCNo m) [1] Tryz.func60 rfl rfl rfl (by kernel_rfl) (fun avs H ob r H' h hob => ?_))
  obtain ⟨rest, s, p, st, rfl, rfl, hf, hp, rfl, rfl, hd⟩ := gM1_inv KB h hob
  unfold fEdge at hf
  split at hf
  case h_2 => cases hf
  rename_i a mt
  simp only [Option.some.injEq, Prod.mk.injEq] at hf
  obtain ⟨rfl, rfl⟩ := hf
  obtain ⟨hs, ha, hl⟩ := hp
  generalize (Enc.dec a : EdgePat) = n at *
  subst ha
  refine ⟨(by show 3 ≤ _; decide), ?_⟩
  show avcH _ _ _ _ _ ⟨argsρ 0 [.ptr 0 1 3 0 0, Enc.enc n, .bool mt], [BB s]⟩ (wEnd _ _ _ fun ex st' => _ ∧ ∃ ob', _ ∧ _ ∧ st'.H = [BB (s.edge n mt)])
  have hbl := len24 hs.2
  obtain ⟨b, hb⟩ : ∃ b, s.edgeK n mt = b := ⟨_, rfl⟩
  have hbo : OKB b := by rw [← hb]; exact hs.edgeK n mt
  have hr : s.edge n mt = b.props n.props := by unfold Bn.edge; rw [hb]
  rw [hr]
  clear h hr
  unfold Bn.edgeK at hb
  simp [argsρ, BB]
  refine AW_regionF (sigCNo m) (mixCNo m) [.pure, .pure, .pure, .read, .pure, .read, .read, .pure] [[],[0],[0,1],[1,0,2],[],[4],[4,5,2,0,1,3],[3,1,0,2,5,4,6]] (by kernel_rfl) (by kernel_rfl) (by kernel_rfl) (by kernel_rfl) ?_
  rcases em2 (n.var = ⟨#[]⟩) with h0 | h0
  · rw [if_pos (of_eq_true h0)] at hb
    subst hb
    simp [BB, sKind, hbl, h0, gProps_l, hbo, hl]
    (refine ⟨⟨[], _⟩, weak_keep 1 (by simp) (Nat.le_refl _) (by simp) (by simp) rfl, ?_⟩; first | exact ⟨.inl rfl, ⟨True, trivial⟩, by simp [BB]⟩ | exact ⟨.inl rfl, True, rfl, trivial, by simp [BB]⟩ | exact ⟨.inr rfl, ⟨True, trivial⟩, by simp [BB]⟩ | exact ⟨.inr rfl, True, rfl, trivial, by simp [BB]⟩)
  rw [if_neg (of_eq_false h0)] at hb
  rcases em2 (n.mode = 0) with h5 | h5
  · by_cases h1 : kindF s.now n.var = 0
    · rw [if_pos h1, if_pos (of_eq_true h5)] at hb
      subst hb
      simp [BB, sKind, hbl, h0, h1, h5, gProps_l, gIntro_l, hbo, hl]
      (refine ⟨⟨[], _⟩, weak_keep 1 (by simp) (Nat.le_refl _) (by simp) (by simp) rfl, ?_⟩; first | exact ⟨.inl rfl, ⟨True, trivial⟩, by simp [BB]⟩ | exact ⟨.inl rfl, True, rfl, trivial, by simp [BB]⟩ | exact ⟨.inr rfl, ⟨True, trivial⟩, by simp [BB]⟩ | exact ⟨.inr rfl, True, rfl, trivial, by simp [BB]⟩)
    rw [if_neg h1] at hb
    cases mt
    · rw [if_pos (.inl rfl)] at hb
      subst hb
      simp [BB, sKind, hbl, h0, h1, h5, gProps_l, gFail_l, hbo, hl]
      (refine ⟨⟨[], _⟩, weak_keep 1 (by simp) (Nat.le_refl _) (by simp) (by simp) rfl, ?_⟩; first | exact ⟨.inl rfl, ⟨True, trivial⟩, by simp [BB]⟩ | exact ⟨.inl rfl, True, rfl, trivial, by simp [BB]⟩ | exact ⟨.inr rfl, ⟨True, trivial⟩, by simp [BB]⟩ | exact ⟨.inr rfl, True, rfl, trivial, by simp [BB]⟩)
    rw [if_neg (by simp [h5])] at hb
    by_cases h2 : kindF s.now n.var = 2
    · rw [if_neg (by simp [h2])] at hb
      subst hb
      simp [BB, sKind, hbl, h0, h2, h5, gProps_l, gFail_l, hbo, hl]
      (refine ⟨⟨[], _⟩, weak_keep 1 (by simp) (Nat.le_refl _) (by simp) (by simp) rfl, ?_⟩; first | exact ⟨.inl rfl, ⟨True, trivial⟩, by simp [BB]⟩ | exact ⟨.inl rfl, True, rfl, trivial, by simp [BB]⟩ | exact ⟨.inr rfl, ⟨True, trivial⟩, by simp [BB]⟩ | exact ⟨.inr rfl, True, rfl, trivial, by simp [BB]⟩)
    · rw [if_pos h2] at hb
      subst hb
      simp [BB, sKind, hbl, h0, h1, h2, h5, gProps_l, gFail_l, hbo, hl]
      (refine ⟨⟨[], _⟩, weak_keep 1 (by simp) (Nat.le_refl _) (by simp) (by simp) rfl, ?_⟩; first | exact ⟨.inl rfl, ⟨True, trivial⟩, by simp [BB]⟩ | exact ⟨.inl rfl, True, rfl, trivial, by simp [BB]⟩ | exact ⟨.inr rfl, ⟨True, trivial⟩, by simp [BB]⟩ | exact ⟨.inr rfl, True, rfl, trivial, by simp [BB]⟩)
  · by_cases h1 : kindF s.now n.var = 0
    · rw [if_pos h1, if_neg (of_eq_false h5)] at hb
      subst hb
      simp [BB, sKind, hbl, h0, h1, h5, gProps_l, gIntro_l, hbo, hl]
      (refine ⟨⟨[], _⟩, weak_keep 1 (by simp) (Nat.le_refl _) (by simp) (by simp) rfl, ?_⟩; first | exact ⟨.inl rfl, ⟨True, trivial⟩, by simp [BB]⟩ | exact ⟨.inl rfl, True, rfl, trivial, by simp [BB]⟩ | exact ⟨.inr rfl, ⟨True, trivial⟩, by simp [BB]⟩ | exact ⟨.inr rfl, True, rfl, trivial, by simp [BB]⟩)
    rw [if_neg h1, if_pos (.inr (of_eq_false h5))] at hb
    subst hb
    cases mt
    · simp [BB, sKind, hbl, h0, h1, h5, gProps_l, gFail_l, hbo, hl]
      (refine ⟨⟨[], _⟩, weak_keep 1 (by simp) (Nat.le_refl _) (by simp) (by simp) rfl, ?_⟩; first | exact ⟨.inl rfl, ⟨True, trivial⟩, by simp [BB]⟩ | exact ⟨.inl rfl, True, rfl, trivial, by simp [BB]⟩ | exact ⟨.inr rfl, ⟨True, trivial⟩, by simp [BB]⟩ | exact ⟨.inr rfl, True, rfl, trivial, by simp [BB]⟩)
    · simp [BB, sKind, hbl, h0, h1, h5, gProps_l, gFail_l, hbo, hl]
      (refine ⟨⟨[], _⟩, weak_keep 1 (by simp) (Nat.le_refl _) (by simp) (by simp) rfl, ?_⟩; first | exact ⟨.inl rfl, ⟨True, trivial⟩, by simp [BB]⟩ | exact ⟨.inl rfl, True, rfl, trivial, by simp [BB]⟩ | exact ⟨.inr rfl, ⟨True, trivial⟩, by simp [BB]⟩ | exact ⟨.inr rfl, True, rfl, trivial, by simp [BB]⟩)
end
end Go.Proofs.YtgjljfbohpnfcaaGreat


namespace Go.Proofs.YtgjljfbohpnfcaaGreat
open Go.RowKit
set_option linter.unusedSimpArgs false
set_option linter.unusedVariables false
set_option maxRecDepth 100000
def Bn.walk (b : Bn) (p : PathPat) (mt : Bool) : Nat → Bn
  | 0 => b
  | k + 1 => if k < p.edges.length then ((b.walk p mt k).node (ix p.nodes k) mt).edge (ix p.edges k) mt else (b.walk p mt k).node (ix p.nodes k) mt
def Bn.pathV (b : Bn) (v : ByteArray) (kind : Int) : Bn :=
  if v = ⟨#[]⟩ then b else if kind = 5 then b.fail 8 else if kindF b.now v ≠ 0 then b.fail 7 else b.intro v 3
def Bn.path (b : Bn) (p : PathPat) (kind : Int) : Bn := (b.walk p (decide (kind = 1)) p.nodes.length).pathV p.var kind
def Bn.pathL (b : Bn) (l : List PathPat) (kind : Int) : Bn := l.foldl (fun b p => b.path p kind) b
def Bn.chks (b : Bn) (l : List Expr) : Bn := l.foldl (fun b e => b.fail (checkX b.now e false)) b
def Bn.paths (b : Bn) (c : Clause) : Bn := (b.pathL c.paths c.kind).chks c.wh
theorem OKB.walk {b : Bn} (h : OKB b) (p : PathPat) (mt : Bool) : ∀ k, OKB (b.walk p mt k)
  | 0 => h
  | k + 1 => by
    unfold Bn.walk
    have := h.walk p mt k
    split
    · exact (this.node _ _).edge _ _
    · exact this.node _ _
theorem OKB.pathV {b : Bn} (h : OKB b) (v : ByteArray) (kind : Int) : OKB (b.pathV v kind) := by
  unfold Bn.pathV
  repeat' split
  all_goals first | exact h | exact h.intro _ _ | exact h.fail _
theorem OKB.path {b : Bn} (h : OKB b) (p : PathPat) (kind : Int) : OKB (b.path p kind) := (h.walk _ _ _).pathV _ _
theorem OKB.pathL {kind : Int} : ∀ {l : List PathPat} {b : Bn}, OKB b → OKB (b.pathL l kind)
  | [], _, h => h
  | a :: r, b, h => OKB.pathL (l := r) (b := b.path a kind) (h.path a kind)
theorem OKB.chks : ∀ {l : List Expr} {b : Bn}, OKB b → OKB (b.chks l)
  | [], _, h => h
  | a :: r, b, h => OKB.chks (l := r) (b := b.fail _) (h.fail _)
theorem OKB.paths {b : Bn} (h : OKB b) (c : Clause) : OKB (b.paths c) := (h.pathL).chks
theorem pathL_take {b : Bn} {l : List PathPat} {kind : Int} {i : Nat} (h : i < l.length) : b.pathL (l.take (i + 1)) kind = (b.pathL (l.take i) kind).path (ix l i) kind := by
  unfold Bn.pathL
  rw [List.take_succ_eq_append_getElem h, List.foldl_append, ix_lt h]
  rfl
theorem chks_take {b : Bn} {l : List Expr} {i : Nat} (h : i < l.length) : b.chks (l.take (i + 1)) = (b.chks (l.take i)).fail (checkX (b.chks (l.take i)).now (ix l i) false) := by
  unfold Bn.chks
  rw [List.take_succ_eq_append_getElem h, List.foldl_append, ix_lt h]
  rfl
def GoodP (p : PathPat) : Prop := (p.nodes.length ≤ maxLen ∧ ∀ n ∈ p.nodes, GoodPr n.props) ∧ p.edges.length ≤ maxLen ∧ ∀ x ∈ p.edges, GoodPr x.props
def GoodEs (l : List Expr) : Prop := l.length ≤ maxLen ∧ ∀ e ∈ l, GoodE e
def GoodC (c : Clause) : Prop := (c.paths.length ≤ maxLen ∧ ∀ p ∈ c.paths, GoodP p) ∧ GoodEs c.wh ∧ GoodE c.e ∧ (c.items.length ≤ maxLen ∧ ∀ i ∈ c.items, GoodE i.e) ∧ (c.order.length ≤ maxLen ∧ ∀ i ∈ c.order, GoodE i.e) ∧ (c.sets.length ≤ maxLen ∧ ∀ i ∈ c.sets, GoodE i.e) ∧ c.names.length ≤ maxLen
def CBk (x : Clause) : Blk := ⟨57, 21, [[.int .i64 x.kind, .bool x.opt, .bool x.dist, .slice 3 false (encRows x.paths), .slice 9 false (encRows x.wh), .int .i64 x.e.op, .int .i64 x.e.v.kind, .int .i64 x.e.v.n, .int .i64 x.e.v.d, .str x.e.v.s, .slice 5 false (encRows x.e.v.l), .str x.e.name, .bool x.e.dist, .slice 9 false (encRows x.e.kids), .str x.name, .slice 10 false (encRows x.items), .slice 10 false (encRows x.order), .int .i64 x.skip, .int .i64 x.limit, .slice 13 false (encRows x.sets), .slice 1 false (encRows x.names)]], true, true⟩
def PBk (p : PathPat) : Blk := ⟨70, 3, [[.str p.var, .slice 3 false (encRows p.nodes), .slice 7 false (encRows p.edges)]], true, true⟩
def fPaths : List AV → Option ((Bn → Prop) × (Bn → Bn))
  | [a] => some (fun b => OKB b ∧ a = Enc.enc (Enc.dec a : Clause) ∧ GoodC (Enc.dec a), fun b => b.paths (Enc.dec a))
  | _ => none
def gPaths := gM KB fPaths
theorem gPaths_l {o n : List Cnt} {y : Int} {Z : List Blk} {x : Clause} : gPaths [.ptr 0 1 3 0 0, .agg [.int .i64 x.kind, .bool x.opt, .bool x.dist, .slice 3 false (encRows x.paths), .slice 9 false (encRows x.wh), .int .i64 x.e.op, .int .i64 x.e.v.kind, .int .i64 x.e.v.n, .int .i64 x.e.v.d, .str x.e.v.s, .slice 5 false (encRows x.e.v.l), .str x.e.name, .bool x.e.dist, .slice 9 false (encRows x.e.kids), .str x.name, .slice 10 false (encRows x.items), .slice 10 false (encRows x.order), .int .i64 x.skip, .int .i64 x.limit, .slice 13 false (encRows x.sets), .slice 1 false (encRows x.names)]] (⟨75, 3, [[.slice 2 false (encRows o), .slice 2 false (encRows n), .int .i64 y]], true, true⟩ :: Z) = some (OKB ⟨o, n, y⟩ ∧ GoodC x, .tup [], BB (Bn.paths ⟨o, n, y⟩ x) :: Z) := by
  have h := gM_eq KB (f := fPaths) (l := 0) (rest := [Enc.enc x]) (s := ⟨o, n, y⟩) (H := BB ⟨o, n, y⟩ :: Z) rfl rfl rfl
  have e1 : (Enc.dec (Enc.enc x) : Clause) = x := Enc.dec_enc x
  simp only [e1, true_and] at h
  exact h
section
variable {m : Int}
noncomputable def CPt (m : Int) : Ctx := mkC Tryz.prog (G m) [(36, .gen gFail), (39, .gen gIntro), (59, .gen gNode), (60, .gen gEdge), (38, .pure sKind), (37, .pure sCheckX)]
@[simp] theorem CPt_P (m : Int) : (CPt m).P = Tryz.prog := rfl
@[simp] theorem CPt_G (m : Int) : (CPt m).G = (G m) := rfl
@[simp] theorem CPt_1 (m : Int) : (CPt m).S 36 = .gen gFail := rfl
@[simp] theorem CPt_2 (m : Int) : (CPt m).S 39 = .gen gIntro := rfl
@[simp] theorem CPt_3 (m : Int) : (CPt m).S 59 = .gen gNode := rfl
@[simp] theorem CPt_4 (m : Int) : (CPt m).S 60 = .gen gEdge := rfl
@[simp] theorem CPt_5 (m : Int) : (CPt m).S 38 = .pure sKind := rfl
@[simp] theorem CPt_6 (m : Int) : (CPt m).S 37 = .pure sCheckX := rfl
theorem mixCPt (m : Int) : (CPt m).P.follows .mixedOrders = true := mixed
theorem sigCPt (m : Int) : SigOK (CPt m) := sigOK_cons (entryGen (failP) Tryz.func36 rfl (by decide)) (sigOK_cons (entryGen (introP) Tryz.func39 rfl (by decide)) (sigOK_cons (entryGen (nodeP) Tryz.func59 rfl (by decide)) (sigOK_cons (entryGen (edgeP) Tryz.func60 rfl (by decide)) (sigOK_cons (entryPure (kindP) Tryz.func38 rfl (by decide)) (sigOK_cons (entryPure (checkXP) Tryz.func37 rfl (by decide)) (sigOK_nil _ _))))))
set_option maxHeartbeats 16000000 in
theorem pathsP : GenOK Tryz.prog (G m) 35 gPaths := by
  refine gen_frame KB (gen_of_avcH (C := CPt m) (sigCPt m) (mixCPt m) [16, 22] Tryz.func35 rfl rfl rfl (by kernel_rfl) (fun avs H ob r H' h hob => ?_))
  obtain ⟨rest, s, p, st, rfl, rfl, hf, hp, rfl, rfl, hd⟩ := gM1_inv KB h hob
  unfold fPaths at hf
  split at hf
  case h_2 => cases hf
  rename_i a
  simp only [Option.some.injEq, Prod.mk.injEq] at hf
  obtain ⟨rfl, rfl⟩ := hf
  obtain ⟨hs, ha, hg⟩ := hp
  generalize (Enc.dec a : Clause) = c at *
  subst ha
  refine ⟨(by show 2 ≤ _; decide), ?_⟩
  show avcH _ _ _ _ _ ⟨argsρ 0 [.ptr 0 1 3 0 0, Enc.enc c], [BB s]⟩ (wEnd _ _ _ fun ex st' => _ ∧ ∃ ob', _ ∧ _ ∧ st'.H = [BB (s.paths c)])
  clear h hd
  obtain ⟨⟨g1, g2⟩, ⟨g3, g4⟩, _⟩ := hg
  have g1' : c.paths.length ≤ 9223372036854775807 := g1
  have g3' : c.wh.length ≤ 9223372036854775807 := g3
  simp [argsρ, BB]
  refine loop_ruleH (C := CPt m) (sigCPt m) (mixCPt m) [16, 22] (fun i : Nat => ⟨[(0, .ptr 0 1 3 0 0), (3, .ptr 1 1 21 0 0), (4, .bool (decide (c.kind = 1))), (15, Enc.enc c.paths), (16, .int .i64 c.paths.length), (17, .int .i64 i)], [BB (s.pathL (c.paths.take i) c.kind), CBk c]⟩) (fun i => i ≤ c.paths.length) (fun i => c.paths.length - i) (by kernel_rfl) ⟨0, Nat.zero_le _, weak_eq (by simp) (by simp [BB, CBk, Bn.pathL])⟩ (fun i hi => ?_)
  have hb : OKB (s.pathL (c.paths.take i) c.kind) := hs.pathL
  by_cases hlt : i < c.paths.length
  · have i1 : I64 ((i : Int) + 1) := by unfold I64; omega
    obtain ⟨⟨n1, n2⟩, n3, n4⟩ := g2 _ (ix_mem hlt)
    have ht := pathL_take (b := s) (kind := c.kind) hlt
    generalize s.pathL (c.paths.take i) c.kind = b at *
    generalize hp : ix c.paths i = p at *
    have n1' : p.nodes.length ≤ 9223372036854775807 := n1
    have n3' : p.edges.length ≤ 9223372036854775807 := n3
    simp [BB, CBk, hlt, rowAt_enc hlt, hp]
    refine loop_ruleH (C := CPt m) (sigCPt m) (mixCPt m) [16, 22] (fun j : Nat => ⟨[(0, .ptr 0 1 3 0 0), (3, .ptr 1 1 21 0 0), (4, .bool (decide (c.kind = 1))), (15, Enc.enc c.paths), (16, .int .i64 c.paths.length), (17, .int .i64 i), (6, .ptr 2 1 3 0 0), (22, Enc.enc p.nodes), (23, .int .i64 p.nodes.length), (24, .int .i64 j)], [BB (b.walk p (decide (c.kind = 1)) j), CBk c, PBk p]⟩) (fun j => j ≤ p.nodes.length) (fun j => p.nodes.length - j) (by kernel_rfl) ⟨0, Nat.zero_le _, weak_eq (by simp) (by simp [BB, CBk, PBk, Bn.walk])⟩ (fun j hj => ?_)
    have hbj := hb.walk p (decide (c.kind = 1)) j
    by_cases hlt2 : j < p.nodes.length
    · have j1 : I64 ((j : Int) + 1) := by unfold I64; omega
      have hn := n2 _ (ix_mem hlt2)
      by_cases hlt3 : j < p.edges.length
      · have hx := n4 _ (ix_mem hlt3)
        have hw : b.walk p (decide (c.kind = 1)) (j + 1) = ((b.walk p (decide (c.kind = 1)) j).node (ix p.nodes j) (decide (c.kind = 1))).edge (ix p.edges j) (decide (c.kind = 1)) := by rw [Bn.walk, if_pos hlt3]
        generalize b.walk p (decide (c.kind = 1)) j = B at *
        have hB2 := hbj.node (ix p.nodes j) (decide (c.kind = 1))
        simp [BB, CBk, PBk, hlt2, hlt3, rowAt_enc hlt2, rowAt_enc hlt3, gNode_l, gEdge_l, hbj, hB2, hn, hx, j1]
        exact ⟨j + 1, by omega, by omega, weak_keep 3 (by simp) (by simp) (by simp [AV.clean, AV.clean1]) (by simp) (by simp [BB, CBk, PBk, hw])⟩
      · have hw : b.walk p (decide (c.kind = 1)) (j + 1) = (b.walk p (decide (c.kind = 1)) j).node (ix p.nodes j) (decide (c.kind = 1)) := by rw [Bn.walk, if_neg hlt3]
        generalize b.walk p (decide (c.kind = 1)) j = B at *
        simp [BB, CBk, PBk, hlt2, hlt3, rowAt_enc hlt2, gNode_l, hbj, hn, j1]
        exact ⟨j + 1, by omega, by omega, weak_keep 3 (by simp) (by simp) (by simp [AV.clean, AV.clean1]) (by simp) (by simp [BB, CBk, PBk, hw])⟩
    · obtain rfl : j = p.nodes.length := by omega
      have ht2 : s.pathL (c.paths.take (i + 1)) c.kind = (b.walk p (decide (c.kind = 1)) p.nodes.length).pathV p.var c.kind := ht
      generalize b.walk p (decide (c.kind = 1)) p.nodes.length = B at *
      have hbl := len24 hbj.2
      unfold Bn.pathV at ht2
      rcases em2 (p.var = ⟨#[]⟩) with h0 | h0
      · rw [if_pos (of_eq_true h0)] at ht2
        simp [BB, CBk, PBk, hlt2, h0, i1]
        exact ⟨i + 1, by omega, by omega, weak_keep 2 (by simp) (by simp) (by simp [AV.clean, AV.clean1]) (by simp) (by simp [BB, CBk, ht2])⟩
      rw [if_neg (of_eq_false h0)] at ht2
      rcases em2 (c.kind = 5) with h5 | h5
      · rw [if_pos (of_eq_true h5)] at ht2
        simp [BB, CBk, PBk, hlt2, h0, h5, gFail_l, i1]
        exact ⟨i + 1, by omega, by omega, weak_keep 2 (by simp) (by simp) (by simp [AV.clean, AV.clean1]) (by simp) (by simp [BB, CBk, ht2])⟩
      rw [if_neg (of_eq_false h5)] at ht2
      simp [BB, CBk, PBk, hlt2, h0, h5]
      refine AW_regionF (sigCPt m) (mixCPt m) [.pure, .pure, .pure, .read, .pure, .read, .read, .pure, .pure] [[],[0],[0,1],[1,0,2],[],[4],[4,5,2,0,1,3],[3,1,0,2,5,4,6],[6,4,5,2,0,1,3,7]] (by kernel_rfl) (by kernel_rfl) (by kernel_rfl) (by kernel_rfl) ?_
      by_cases h6 : kindF B.now p.var = 0
      · rw [if_neg (by simp [h6])] at ht2
        simp [BB, CBk, PBk, sKind, hbl, h0, h6, gIntro_l, i1]
        exact ⟨i + 1, by omega, by omega, weak_keep 2 (by simp) (by simp) (by simp [AV.clean, AV.clean1]) (by simp) (by simp [BB, CBk, ht2])⟩
      · rw [if_pos h6] at ht2
        simp [BB, CBk, PBk, sKind, hbl, h0, h6, gFail_l, i1]
        exact ⟨i + 1, by omega, by omega, weak_keep 2 (by simp) (by simp) (by simp [AV.clean, AV.clean1]) (by simp) (by simp [BB, CBk, ht2])⟩
  · obtain rfl : i = c.paths.length := by omega
    have hr : s.paths c = (s.pathL (c.paths.take c.paths.length) c.kind).chks c.wh := by rw [List.take_length]; rfl
    rw [hr]
    generalize s.pathL (c.paths.take c.paths.length) c.kind = b at *
    simp [BB, CBk, hlt]
    refine loop_ruleH (C := CPt m) (sigCPt m) (mixCPt m) [16, 22] (fun i : Nat => ⟨[(0, .ptr 0 1 3 0 0), (74, Enc.enc c.wh), (75, .int .i64 c.wh.length), (76, .int .i64 i)], [BB (b.chks (c.wh.take i))]⟩) (fun i => i ≤ c.wh.length) (fun i => c.wh.length - i) (by kernel_rfl) ⟨0, Nat.zero_le _, weak_keep 1 (by simp) (by simp) (by simp [AV.clean, AV.clean1]) (by simp) (by simp [BB, Bn.chks])⟩ (fun i hi => ?_)
    have hbi : OKB (b.chks (c.wh.take i)) := hb.chks
    by_cases hlt2 : i < c.wh.length
    · have i1 : I64 ((i : Int) + 1) := by unfold I64; omega
      have hg := g4 _ (ix_mem hlt2)
      have ht := chks_take (b := b) hlt2
      generalize b.chks (c.wh.take i) = B at *
      have hbl := len24 hbi.2
      simp [BB, hlt2, rowAt_enc hlt2]
      refine AW_regionF (sigCPt m) (mixCPt m) [.pure, .pure, .pure, .pure, .read, .read, .read, .eff] [[],[],[1],[1,2],[2,1,3],[],[5,3,1,2,4],[4,2,1,3,5,6,0]] (by kernel_rfl) (by kernel_rfl) (by kernel_rfl) (by kernel_rfl) ?_
      simp [BB, hlt2, rowAt_enc hlt2, sCheckX, hbl, hg.1, hg.2, gFail_l, i1]
      exact ⟨i + 1, by omega, by omega, weak_keep 1 (by simp) (by simp) (by simp [AV.clean, AV.clean1]) (by simp) (by simp [BB, ht])⟩
    · obtain rfl : i = c.wh.length := by omega
      rw [List.take_length]
      simp [BB, hlt2]
      (refine ⟨_, Weak.refl _, ?_⟩; first | exact ⟨.inl rfl, ⟨True, trivial⟩, by simp [BB]⟩ | exact ⟨.inl rfl, True, rfl, trivial, by simp [BB]⟩ | exact ⟨.inr rfl, ⟨True, trivial⟩, by simp [BB]⟩ | exact ⟨.inr rfl, True, rfl, trivial, by simp [BB]⟩)
end
end Go.Proofs.YtgjljfbohpnfcaaGreat


namespace Go.Proofs.YtgjljfbohpnfcaaGreat
open Go.RowKit
set_option linter.unusedSimpArgs false
set_option linter.unusedVariables false
set_option maxRecDepth 100000
def Bn.item (b : Bn) (x : Item) : Bn :=
  let b1 := b.fail (checkX b.old x.e true)
  let b2 := if kindF b1.now x.as_ ≠ 0 then b1.fail 7 else b1
  b2.intro x.as_ (if x.e.op = 2 then kindF b2.old x.e.name else 4)
def Bn.itemL (b : Bn) (l : List Item) : Bn := l.foldl Bn.item b
def Bn.sorts (b : Bn) (l : List SortK) : Bn := l.foldl (fun b x => b.fail (checkX b.now x.e false)) b
def Bn.columns (b : Bn) (c : Clause) : Bn := ((Bn.itemL { b with now := [] } c.items).sorts c.order).chks c.wh
theorem OKB.item {b : Bn} (h : OKB b) (x : Item) : OKB (b.item x) := by
  unfold Bn.item
  have h1 := h.fail (checkX b.old x.e true)
  dsimp only
  split
  · exact (h1.fail 7).intro _ _
  · exact h1.intro _ _
theorem OKB.itemL : ∀ {l : List Item} {b : Bn}, OKB b → OKB (b.itemL l)
  | [], _, h => h
  | a :: r, b, h => OKB.itemL (l := r) (b := b.item a) (h.item a)
theorem OKB.sorts : ∀ {l : List SortK} {b : Bn}, OKB b → OKB (b.sorts l)
  | [], _, h => h
  | a :: r, b, h => OKB.sorts (l := r) (b := b.fail _) (h.fail _)
theorem OKB.start {b : Bn} (h : OKB b) : OKB { b with now := [] } := ⟨h.1, Nat.zero_le _⟩
theorem OKB.columns {b : Bn} (h : OKB b) (c : Clause) : OKB (b.columns c) := (h.start.itemL.sorts).chks
theorem itemL_take {b : Bn} {l : List Item} {i : Nat} (h : i < l.length) : b.itemL (l.take (i + 1)) = (b.itemL (l.take i)).item (ix l i) := by
  unfold Bn.itemL
  rw [List.take_succ_eq_append_getElem h, List.foldl_append, ix_lt h]
  rfl
theorem sorts_take {b : Bn} {l : List SortK} {i : Nat} (h : i < l.length) : b.sorts (l.take (i + 1)) = (b.sorts (l.take i)).fail (checkX (b.sorts (l.take i)).now (ix l i).e false) := by
  unfold Bn.sorts
  rw [List.take_succ_eq_append_getElem h, List.foldl_append, ix_lt h]
  rfl
def fColumns : List AV → Option ((Bn → Prop) × (Bn → Bn))
  | [a] => some (fun b => OKB b ∧ a = Enc.enc (Enc.dec a : Clause) ∧ GoodC (Enc.dec a), fun b => b.columns (Enc.dec a))
  | _ => none
def gColumns := gM KB fColumns
theorem gColumns_l {o n : List Cnt} {y : Int} {Z : List Blk} {x : Clause} : gColumns [.ptr 0 1 3 0 0, .agg [.int .i64 x.kind, .bool x.opt, .bool x.dist, .slice 3 false (encRows x.paths), .slice 9 false (encRows x.wh), .int .i64 x.e.op, .int .i64 x.e.v.kind, .int .i64 x.e.v.n, .int .i64 x.e.v.d, .str x.e.v.s, .slice 5 false (encRows x.e.v.l), .str x.e.name, .bool x.e.dist, .slice 9 false (encRows x.e.kids), .str x.name, .slice 10 false (encRows x.items), .slice 10 false (encRows x.order), .int .i64 x.skip, .int .i64 x.limit, .slice 13 false (encRows x.sets), .slice 1 false (encRows x.names)]] (⟨75, 3, [[.slice 2 false (encRows o), .slice 2 false (encRows n), .int .i64 y]], true, true⟩ :: Z) = some (OKB ⟨o, n, y⟩ ∧ GoodC x, .tup [], BB (Bn.columns ⟨o, n, y⟩ x) :: Z) := by
  have h := gM_eq KB (f := fColumns) (l := 0) (rest := [Enc.enc x]) (s := ⟨o, n, y⟩) (H := BB ⟨o, n, y⟩ :: Z) rfl rfl rfl
  have e1 : (Enc.dec (Enc.enc x) : Clause) = x := Enc.dec_enc x
  simp only [e1, true_and] at h
  exact h
section
variable {m : Int}
noncomputable def CCo2 (m : Int) : Ctx := mkC Tryz.prog (G m) [(36, .gen gFail), (39, .gen gIntro), (38, .pure sKind), (37, .pure sCheckX)]
@[simp] theorem CCo2_P (m : Int) : (CCo2 m).P = Tryz.prog := rfl
@[simp] theorem CCo2_G (m : Int) : (CCo2 m).G = (G m) := rfl
@[simp] theorem CCo2_1 (m : Int) : (CCo2 m).S 36 = .gen gFail := rfl
@[simp] theorem CCo2_2 (m : Int) : (CCo2 m).S 39 = .gen gIntro := rfl
@[simp] theorem CCo2_3 (m : Int) : (CCo2 m).S 38 = .pure sKind := rfl
@[simp] theorem CCo2_4 (m : Int) : (CCo2 m).S 37 = .pure sCheckX := rfl
theorem mixCCo2 (m : Int) : (CCo2 m).P.follows .mixedOrders = true := mixed
theorem sigCCo2 (m : Int) : SigOK (CCo2 m) := sigOK_cons (entryGen (failP) Tryz.func36 rfl (by decide)) (sigOK_cons (entryGen (introP) Tryz.func39 rfl (by decide)) (sigOK_cons (entryPure (kindP) Tryz.func38 rfl (by decide)) (sigOK_cons (entryPure (checkXP) Tryz.func37 rfl (by decide)) (sigOK_nil _ _))))
set_option maxHeartbeats 16000000 in
theorem columnsP : GenOK Tryz.prog (G m) 40 gColumns := by
  refine gen_frame KB (gen_of_avcH (C := CCo2 m) (sigCCo2 m) (mixCCo2 m) [5, 6, 10, 16, 21] Tryz.func40 rfl rfl rfl (by kernel_rfl) (fun avs H ob r H' h hob => ?_))
  obtain ⟨rest, s, p, st, rfl, rfl, hf, hp, rfl, rfl, hd⟩ := gM1_inv KB h hob
  unfold fColumns at hf
  split at hf
  case h_2 => cases hf
  rename_i a
  simp only [Option.some.injEq, Prod.mk.injEq] at hf
  obtain ⟨rfl, rfl⟩ := hf
  obtain ⟨hs, ha, hg⟩ := hp
  generalize (Enc.dec a : Clause) = c at *
  subst ha
  refine ⟨(by show 2 ≤ _; decide), ?_⟩
  show avcH _ _ _ _ _ ⟨argsρ 0 [.ptr 0 1 3 0 0, Enc.enc c], [BB s]⟩ (wEnd _ _ _ fun ex st' => _ ∧ ∃ ob', _ ∧ _ ∧ st'.H = [BB (s.columns c)])
  clear h hd
  obtain ⟨_, ⟨g3, g4⟩, _, ⟨g5, g6⟩, ⟨g7, g8⟩, _⟩ := hg
  have g3' : c.wh.length ≤ 9223372036854775807 := g3
  have g5' : c.items.length ≤ 9223372036854775807 := g5
  have g7' : c.order.length ≤ 9223372036854775807 := g7
  simp [argsρ, BB]
  refine loop_ruleH (C := CCo2 m) (sigCCo2 m) (mixCCo2 m) [5, 6, 10, 16, 21] (fun i : Nat => ⟨[(0, .ptr 0 1 3 0 0), (3, .ptr 1 1 21 0 0), (15, Enc.enc c.items), (16, .int .i64 c.items.length), (17, .int .i64 i)], [BB (Bn.itemL { s with now := [] } (c.items.take i)), CBk c]⟩) (fun i => i ≤ c.items.length) (fun i => c.items.length - i) (by kernel_rfl) ⟨0, Nat.zero_le _, ?_⟩ (fun i hi => ?_)
  · exact (weak_shut 0 rfl [] (by simp [reach]) (by simp)).trans (weak_eq (by simp) (by simp [view, nrmC, frzL, BB, CBk, Bn.itemL]))
  have hb : OKB (Bn.itemL { s with now := [] } (c.items.take i)) := hs.start.itemL
  by_cases hlt : i < c.items.length
  · have i1 : I64 ((i : Int) + 1) := by unfold I64; omega
    have hx := g6 _ (ix_mem hlt)
    have ht := itemL_take (b := { s with now := [] }) hlt
    generalize Bn.itemL { s with now := [] } (c.items.take i) = b at *
    generalize hp : ix c.items i = x at *
    have hbl := len24 hb.1
    simp [BB, CBk, hlt, rowAt_enc hlt, hp]
    refine AW_regionF (sigCCo2 m) (mixCCo2 m) [.pure, .pure, .pure, .pure, .read, .pure, .read, .read, .eff] [[],[],[1],[1,2],[2,1,3],[],[5],[5,6,3,1,2,4],[4,2,1,3,6,5,7,0]] (by kernel_rfl) (by kernel_rfl) (by kernel_rfl) (by kernel_rfl) ?_
    simp [BB, CBk, sCheckX, hbl, hx.1, hx.2, gFail_l]
    unfold Bn.item at ht
    dsimp only at ht
    have hb1 := hb.fail (checkX b.old x.e true)
    have ho1 : (b.fail (checkX b.old x.e true)).old = b.old := Bn.fail_old _ _
    generalize b.fail (checkX b.old x.e true) = b1 at *
    have hbl1 := len24 hb1.2
    have hbl2 := len24 hb1.1
    refine AW_regionF (sigCCo2 m) (mixCCo2 m) [.pure, .pure, .pure, .read, .pure, .read, .read, .pure] [[],[0],[0,1],[1,0,2],[],[4],[4,5,2,0,1,3],[3,1,0,2,5,4,6]] (by kernel_rfl) (by kernel_rfl) (by kernel_rfl) (by kernel_rfl) ?_
    by_cases h6 : kindF b1.now x.as_ = 0
    · rw [if_neg (by simp [h6])] at ht
      rcases em2 (x.e.op = 2) with h7 | h7
      · rw [if_pos (of_eq_true h7)] at ht
        simp [BB, CBk, sKind, hbl1, h6, h7]
        refine AW_regionF (sigCCo2 m) (mixCCo2 m) [.pure, .pure, .pure, .read, .pure, .pure, .read, .read, .pure] [[],[0],[0,1],[1,0,2],[],[4],[4,5],[5,4,6,2,0,1,3],[3,1,0,2,6,4,5,7]] (by kernel_rfl) (by kernel_rfl) (by kernel_rfl) (by kernel_rfl) ?_
        simp [BB, CBk, sKind, hbl2, h7, gIntro_l, i1]
        exact ⟨i + 1, by omega, by omega, weak_keep 2 (by simp) (by simp) (by simp [AV.clean, AV.clean1]) (by simp) (by simp [BB, CBk, ht])⟩
      · rw [if_neg (of_eq_false h7)] at ht
        simp [BB, CBk, sKind, hbl1, h6, h7, gIntro_l, i1]
        exact ⟨i + 1, by omega, by omega, weak_keep 2 (by simp) (by simp) (by simp [AV.clean, AV.clean1]) (by simp) (by simp [BB, CBk, ht])⟩
    · rw [if_pos h6] at ht
      have hb2 := len24 (hb1.fail 7).1
      rcases em2 (x.e.op = 2) with h7 | h7
      · rw [if_pos (of_eq_true h7)] at ht
        simp [BB, CBk, sKind, hbl1, h6, h7, gFail_l]
        refine AW_regionF (sigCCo2 m) (mixCCo2 m) [.pure, .pure, .pure, .read, .pure, .pure, .read, .read, .pure] [[],[0],[0,1],[1,0,2],[],[4],[4,5],[5,4,6,2,0,1,3],[3,1,0,2,6,4,5,7]] (by kernel_rfl) (by kernel_rfl) (by kernel_rfl) (by kernel_rfl) ?_
        simp [BB, CBk, sKind, hb2, h7, gIntro_l, i1]
        exact ⟨i + 1, by omega, by omega, weak_keep 2 (by simp) (by simp) (by simp [AV.clean, AV.clean1]) (by simp) (by simp [BB, CBk, ht])⟩
      · rw [if_neg (of_eq_false h7)] at ht
        simp [BB, CBk, sKind, hbl1, h6, h7, gFail_l, gIntro_l, i1]
        exact ⟨i + 1, by omega, by omega, weak_keep 2 (by simp) (by simp) (by simp [AV.clean, AV.clean1]) (by simp) (by simp [BB, CBk, ht])⟩
  · obtain rfl : i = c.items.length := by omega
    have hr : s.columns c = ((Bn.itemL { s with now := [] } (c.items.take c.items.length)).sorts c.order).chks c.wh := by rw [List.take_length]; rfl
    rw [hr]
    generalize Bn.itemL { s with now := [] } (c.items.take c.items.length) = b at *
    simp [BB, CBk, hlt]
    refine loop_ruleH (C := CCo2 m) (sigCCo2 m) (mixCCo2 m) [5, 6, 10, 16, 21] (fun i : Nat => ⟨[(0, .ptr 0 1 3 0 0), (3, .ptr 1 1 21 0 0), (59, Enc.enc c.order), (60, .int .i64 c.order.length), (61, .int .i64 i)], [BB (b.sorts (c.order.take i)), CBk c]⟩) (fun i => i ≤ c.order.length) (fun i => c.order.length - i) (by kernel_rfl) ⟨0, Nat.zero_le _, weak_eq (by simp) (by simp [BB, CBk, Bn.sorts])⟩ (fun i hi => ?_)
    have hbi : OKB (b.sorts (c.order.take i)) := hb.sorts
    by_cases hlt2 : i < c.order.length
    · have i1 : I64 ((i : Int) + 1) := by unfold I64; omega
      have hg := g8 _ (ix_mem hlt2)
      have ht := sorts_take (b := b) hlt2
      generalize b.sorts (c.order.take i) = B at *
      have hbl := len24 hbi.2
      simp [BB, CBk, hlt2, rowAt_enc hlt2]
      refine AW_regionF (sigCCo2 m) (mixCCo2 m) [.pure, .pure, .pure, .pure, .read, .pure, .read, .read, .eff] [[],[],[1],[1,2],[2,1,3],[],[5],[5,6,3,1,2,4],[4,2,1,3,6,5,7,0]] (by kernel_rfl) (by kernel_rfl) (by kernel_rfl) (by kernel_rfl) ?_
      simp [BB, CBk, hlt2, rowAt_enc hlt2, sCheckX, hbl, hg.1, hg.2, gFail_l, i1]
      exact ⟨i + 1, by omega, by omega, weak_keep 2 (by simp) (by simp) (by simp [AV.clean, AV.clean1]) (by simp) (by simp [BB, CBk, ht])⟩
    · obtain rfl : i = c.order.length := by omega
      generalize hB : b.sorts (c.order.take c.order.length) = B at *
      rw [List.take_length] at hB
      rw [hB]
      simp [BB, CBk, hlt2]
      refine loop_ruleH (C := CCo2 m) (sigCCo2 m) (mixCCo2 m) [5, 6, 10, 16, 21] (fun i : Nat => ⟨[(0, .ptr 0 1 3 0 0), (76, Enc.enc c.wh), (77, .int .i64 c.wh.length), (78, .int .i64 i)], [BB (B.chks (c.wh.take i))]⟩) (fun i => i ≤ c.wh.length) (fun i => c.wh.length - i) (by kernel_rfl) ⟨0, Nat.zero_le _, weak_keep 1 (by simp) (by simp) (by simp [AV.clean, AV.clean1]) (by simp) (by simp [BB, Bn.chks])⟩ (fun i hi => ?_)
      have hbi2 : OKB (B.chks (c.wh.take i)) := hbi.chks
      by_cases hlt3 : i < c.wh.length
      · have i1 : I64 ((i : Int) + 1) := by unfold I64; omega
        have hg := g4 _ (ix_mem hlt3)
        have ht := chks_take (b := B) hlt3
        generalize B.chks (c.wh.take i) = B2 at *
        have hbl := len24 hbi2.2
        simp [BB, hlt3, rowAt_enc hlt3]
        refine AW_regionF (sigCCo2 m) (mixCCo2 m) [.pure, .pure, .pure, .pure, .read, .read, .read, .eff] [[],[],[1],[1,2],[2,1,3],[],[5,3,1,2,4],[4,2,1,3,5,6,0]] (by kernel_rfl) (by kernel_rfl) (by kernel_rfl) (by kernel_rfl) ?_
        simp [BB, hlt3, rowAt_enc hlt3, sCheckX, hbl, hg.1, hg.2, gFail_l, i1]
        exact ⟨i + 1, by omega, by omega, weak_keep 1 (by simp) (by simp) (by simp [AV.clean, AV.clean1]) (by simp) (by simp [BB, ht])⟩
      · obtain rfl : i = c.wh.length := by omega
        rw [List.take_length]
        simp [BB, hlt3]
        (refine ⟨_, Weak.refl _, ?_⟩; first | exact ⟨.inl rfl, ⟨True, trivial⟩, by simp [BB]⟩ | exact ⟨.inl rfl, True, rfl, trivial, by simp [BB]⟩ | exact ⟨.inr rfl, ⟨True, trivial⟩, by simp [BB]⟩ | exact ⟨.inr rfl, True, rfl, trivial, by simp [BB]⟩)
end
end Go.Proofs.YtgjljfbohpnfcaaGreat


namespace Go.Proofs.YtgjljfbohpnfcaaGreat
open Go.RowKit
set_option linter.unusedSimpArgs false
set_option linter.unusedVariables false
set_option maxRecDepth 100000
def Bn.set1 (b : Bn) (x : SetI) : Bn := (b.element x.var (decide (x.label = ⟨#[]⟩))).fail (checkX (b.element x.var (decide (x.label = ⟨#[]⟩))).now x.e false)
def Bn.setL (b : Bn) (l : List SetI) : Bn := l.foldl Bn.set1 b
def Bn.nameL (b : Bn) (l : List ByteArray) : Bn := l.foldl (fun b n => b.element n true) b
def Bn.unwind (b : Bn) (c : Clause) : Bn :=
  let b1 := b.fail (checkX b.now c.e false)
  let b2 := if kindF b1.now c.name ≠ 0 then b1.fail 7 else b1
  b2.intro c.name 4
def Bn.clause (b : Bn) (c : Clause) : Bn :=
  if c.kind = 1 ∨ c.kind = 5 ∨ c.kind = 6 then Bn.paths { b with old := b.now } c else if c.kind = 2 then Bn.unwind { b with old := b.now } c else if c.kind = 3 ∨ c.kind = 4 then Bn.columns { b with old := b.now } c
  else if c.kind = 7 then Bn.setL { b with old := b.now } c.sets else if c.kind = 8 then Bn.nameL { b with old := b.now } c.names else { b with old := b.now }
theorem OKB.turn {b : Bn} (h : OKB b) : OKB { b with old := b.now } := ⟨h.2, h.2⟩
theorem OKB.element {b : Bn} (h : OKB b) (n : ByteArray) (k : Bool) : OKB (b.element n k) := by
  unfold Bn.element
  repeat' split
  all_goals first | exact h | exact h.fail _
theorem OKB.set1 {b : Bn} (h : OKB b) (x : SetI) : OKB (b.set1 x) := (h.element _ _).fail _
theorem OKB.setL : ∀ {l : List SetI} {b : Bn}, OKB b → OKB (b.setL l)
  | [], _, h => h
  | a :: r, b, h => OKB.setL (l := r) (b := b.set1 a) (h.set1 a)
theorem OKB.nameL : ∀ {l : List ByteArray} {b : Bn}, OKB b → OKB (b.nameL l)
  | [], _, h => h
  | a :: r, b, h => OKB.nameL (l := r) (b := b.element a true) (h.element a true)
theorem OKB.unwind {b : Bn} (h : OKB b) (c : Clause) : OKB (b.unwind c) := by
  unfold Bn.unwind
  have h1 := h.fail (checkX b.now c.e false)
  dsimp only
  split
  · exact (h1.fail 7).intro _ _
  · exact h1.intro _ _
theorem OKB.clause {b : Bn} (h : OKB b) (c : Clause) : OKB (b.clause c) := by
  unfold Bn.clause
  repeat' split
  · exact h.turn.paths c
  · exact h.turn.unwind c
  · exact h.turn.columns c
  · exact h.turn.setL
  · exact h.turn.nameL
  · exact h.turn
theorem setL_take {b : Bn} {l : List SetI} {i : Nat} (h : i < l.length) : b.setL (l.take (i + 1)) = (b.setL (l.take i)).set1 (ix l i) := by
  unfold Bn.setL
  rw [List.take_succ_eq_append_getElem h, List.foldl_append, ix_lt h]
  rfl
theorem nameL_take {b : Bn} {l : List ByteArray} {i : Nat} (h : i < l.length) : b.nameL (l.take (i + 1)) = (b.nameL (l.take i)).element (ix l i) true := by
  unfold Bn.nameL
  rw [List.take_succ_eq_append_getElem h, List.foldl_append, ix_lt h]
  rfl
def fClause : List AV → Option ((Bn → Prop) × (Bn → Bn))
  | [a] => some (fun b => OKB b ∧ a = Enc.enc (Enc.dec a : Clause) ∧ GoodC (Enc.dec a), fun b => b.clause (Enc.dec a))
  | _ => none
def gClause := gM KB fClause
end Go.Proofs.YtgjljfbohpnfcaaGreat


namespace Go.Proofs.YtgjljfbohpnfcaaGreat
open Go.RowKit
set_option linter.unusedSimpArgs false
set_option linter.unusedVariables false
set_option maxRecDepth 100000
def selfE (e : Expr) (w : Bool) : Int :=
  if e.op < 1 ∨ 24 < e.op ∨ operB e = false ∨ spareB e = false then 1 else if e.op = 1 ∧ constB e.v = false then 8 else if namelessB e = true then 6 else if e.op = 24 ∧ w = true then 9 else 0
mutual
def visitE : Expr → Bool → Int
  | .mk o v n d k, w => if selfE (.mk o v n d k) w ≠ 0 then selfE (.mk o v n d k) w else visitL k (w || decide (o = 24))
def visitL : List Expr → Bool → Int
  | [], _ => 0
  | e :: r, w => if visitE e w ≠ 0 then visitE e w else visitL r w
end
theorem visitE_eq (e : Expr) (w : Bool) : visitE e w = if selfE e w ≠ 0 then selfE e w else visitL e.kids (w || decide (e.op = 24)) := by cases e; rw [visitE]; rfl
theorem visitL_drop {w : Bool} {l : List Expr} {i : Nat} (h : i < l.length) : visitL (l.drop i) w = if visitE (ix l i) w ≠ 0 then visitE (ix l i) w else visitL (l.drop (i + 1)) w := by
  rw [List.drop_eq_getElem_cons h, visitL, ix_lt h]
theorem eta_d {e : Expr} {d : Bool} (h : e.dist = d) : Expr.mk e.op e.v e.name d e.kids = e := by rw [← h]; exact e.eta
def checkE (e : Expr) : Int := if 24 < depthE e then 5 else if 300 < sizeE e then 4 else visitE e false
section
variable {m : Int}
def sOp : List AV → Option (Prop × AV) := spec1 (fun (_ : Expr) => True) (fun e => .bool (operB e))
def sNm : List AV → Option (Prop × AV) := spec1 (fun (_ : Int) => True) (fun o => .bool (namedB o))
def sVal1 : List AV → Option (Prop × AV) := spec1 (fun (v : Val) => WfV v) (fun v => .bool (okRv v 8))
noncomputable def CSe (m : Int) : Ctx := mkC Tryz.prog (G m) [(153, .pure sOp), (154, .pure sNm), (122, .pure sZ), (155, .pure sVal1), (96, .pure sWord), (157, .pure sAr), (156, .pure sAgg)]
@[simp] theorem CSe_P (m : Int) : (CSe m).P = Tryz.prog := rfl
@[simp] theorem CSe_1 (m : Int) : (CSe m).S 153 = .pure sOp := rfl
@[simp] theorem CSe_2 (m : Int) : (CSe m).S 154 = .pure sNm := rfl
@[simp] theorem CSe_3 (m : Int) : (CSe m).S 122 = .pure sZ := rfl
@[simp] theorem CSe_4 (m : Int) : (CSe m).S 155 = .pure sVal1 := rfl
@[simp] theorem CSe_5 (m : Int) : (CSe m).S 96 = .pure sWord := rfl
@[simp] theorem CSe_6 (m : Int) : (CSe m).S 157 = .pure sAr := rfl
@[simp] theorem CSe_7 (m : Int) : (CSe m).S 156 = .pure sAgg := rfl
theorem sigCSe (m : Int) : SigOK (CSe m) := sigOK_cons (entryPure operR Tryz.func153 rfl (by decide)) (sigOK_cons (entryPure namedR Tryz.func154 rfl (by decide)) (sigOK_cons (entryPure zeroR Tryz.func122 rfl (by decide)) (sigOK_cons (entryPure vR Tryz.func155 rfl (by decide)) (sigOK_cons (entryPure wordR Tryz.func96 rfl (by decide)) (sigOK_cons (entryPure arityR Tryz.func157 rfl (by decide)) (sigOK_cons (entryPure aggR Tryz.func156 rfl (by decide)) (sigOK_nil _ _)))))))
theorem mixCSe (m : Int) : (CSe m).P.follows .mixedOrders = true := mixed
set_option maxHeartbeats 16000000 in
theorem selfR : PureOK Tryz.prog (G m) 146 (spec2 (fun (e : Expr) (_ : Bool) => WfV e.v) (fun e w => .int .i64 (selfE e w))) := by
  refine pure2 (C := CSe m) (sigCSe m) (mixCSe m) Tryz.func146 rfl rfl rfl (by kernel_rfl) (by decide) (fun e w hw => ?_)
  by_cases h : e.op = 1
  · skip
    have f1 : (e.op = 1) = True := eq_true h
    have f2 : (e.op = 2) = False := eq_false (by omega)
    have f3 : (e.op = 3) = False := eq_false (by omega)
    have f4 : (e.op = 4) = False := eq_false (by omega)
    have f23 : (e.op = 23) = False := eq_false (by omega)
    have f24 : (e.op = 24) = False := eq_false (by omega)
    have g1 : (e.op < 1) = False := eq_false (by omega)
    have g2 : (24 < e.op) = False := eq_false (by omega)
    cases ho : operB e
    · simp [selfE, spareB, constB, namelessB, namedB, sOp, sNm, sZ, sVal1, sWord, sAgg, sAr, g1, g2, ho, hw, f1, f2, f3, f4, f23, f24]
    rcases em2 (e.name = ⟨#[]⟩) with hn | hn <;> cases hd : e.dist <;> cases hz : zeroV e.v <;> cases hv : okRv e.v 8 <;> rcases em2 (e.v.kind = 1) with h1 | h1 <;> rcases em2 (e.v.kind = 2) with h2 | h2 <;> rcases em2 (e.v.kind = 4) with h4 | h4 <;> simp [selfE, spareB, constB, namelessB, namedB, sOp, sNm, sZ, sVal1, sWord, sAgg, sAr, g1, g2, ho, hw, f1, f2, f3, f4, f23, f24, hn, hd, eta_d hd, hz, hv, h1, h2, h4]
  by_cases h : e.op = 2
  · skip
    have f1 : (e.op = 1) = False := eq_false (by omega)
    have f2 : (e.op = 2) = True := eq_true h
    have f3 : (e.op = 3) = False := eq_false (by omega)
    have f4 : (e.op = 4) = False := eq_false (by omega)
    have f23 : (e.op = 23) = False := eq_false (by omega)
    have f24 : (e.op = 24) = False := eq_false (by omega)
    have g1 : (e.op < 1) = False := eq_false (by omega)
    have g2 : (24 < e.op) = False := eq_false (by omega)
    cases ho : operB e
    · simp [selfE, spareB, constB, namelessB, namedB, sOp, sNm, sZ, sVal1, sWord, sAgg, sAr, g1, g2, ho, hw, f1, f2, f3, f4, f23, f24]
    rcases em2 (e.name = ⟨#[]⟩) with hn | hn <;> cases hd : e.dist <;> cases hz : zeroV e.v <;> cases hb : wordB e.name <;> simp [selfE, spareB, constB, namelessB, namedB, sOp, sNm, sZ, sVal1, sWord, sAgg, sAr, g1, g2, ho, hw, f1, f2, f3, f4, f23, f24, hn, hd, eta_d hd, hz, hb]
  by_cases h : e.op = 3
  · skip
    have f1 : (e.op = 1) = False := eq_false (by omega)
    have f2 : (e.op = 2) = False := eq_false (by omega)
    have f3 : (e.op = 3) = True := eq_true h
    have f4 : (e.op = 4) = False := eq_false (by omega)
    have f23 : (e.op = 23) = False := eq_false (by omega)
    have f24 : (e.op = 24) = False := eq_false (by omega)
    have g1 : (e.op < 1) = False := eq_false (by omega)
    have g2 : (24 < e.op) = False := eq_false (by omega)
    cases ho : operB e
    · simp [selfE, spareB, constB, namelessB, namedB, sOp, sNm, sZ, sVal1, sWord, sAgg, sAr, g1, g2, ho, hw, f1, f2, f3, f4, f23, f24]
    rcases em2 (e.name = ⟨#[]⟩) with hn | hn <;> cases hd : e.dist <;> cases hz : zeroV e.v <;> cases hb : wordB e.name <;> simp [selfE, spareB, constB, namelessB, namedB, sOp, sNm, sZ, sVal1, sWord, sAgg, sAr, g1, g2, ho, hw, f1, f2, f3, f4, f23, f24, hn, hd, eta_d hd, hz, hb]
  by_cases h : e.op = 4
  · skip
    have f1 : (e.op = 1) = False := eq_false (by omega)
    have f2 : (e.op = 2) = False := eq_false (by omega)
    have f3 : (e.op = 3) = False := eq_false (by omega)
    have f4 : (e.op = 4) = True := eq_true h
    have f23 : (e.op = 23) = False := eq_false (by omega)
    have f24 : (e.op = 24) = False := eq_false (by omega)
    have g1 : (e.op < 1) = False := eq_false (by omega)
    have g2 : (24 < e.op) = False := eq_false (by omega)
    cases ho : operB e
    · simp [selfE, spareB, constB, namelessB, namedB, sOp, sNm, sZ, sVal1, sWord, sAgg, sAr, g1, g2, ho, hw, f1, f2, f3, f4, f23, f24]
    rcases em2 (e.name = ⟨#[]⟩) with hn | hn <;> cases hd : e.dist <;> cases hz : zeroV e.v <;> cases hb : wordB e.name <;> simp [selfE, spareB, constB, namelessB, namedB, sOp, sNm, sZ, sVal1, sWord, sAgg, sAr, g1, g2, ho, hw, f1, f2, f3, f4, f23, f24, hn, hd, eta_d hd, hz, hb]
  by_cases h : e.op = 23
  · skip
    have f1 : (e.op = 1) = False := eq_false (by omega)
    have f2 : (e.op = 2) = False := eq_false (by omega)
    have f3 : (e.op = 3) = False := eq_false (by omega)
    have f4 : (e.op = 4) = False := eq_false (by omega)
    have f23 : (e.op = 23) = True := eq_true h
    have f24 : (e.op = 24) = False := eq_false (by omega)
    have g1 : (e.op < 1) = False := eq_false (by omega)
    have g2 : (24 < e.op) = False := eq_false (by omega)
    cases ho : operB e
    · simp [selfE, spareB, constB, namelessB, namedB, sOp, sNm, sZ, sVal1, sWord, sAgg, sAr, g1, g2, ho, hw, f1, f2, f3, f4, f23, f24]
    by_cases ha : arLo e.name = 0
    · have hb := (arHi_lo e.name).2 ha
      rcases em2 (e.name = ⟨#[]⟩) with hn | hn <;> cases hd : e.dist <;> cases hz : zeroV e.v <;> simp [selfE, spareB, constB, namelessB, namedB, sOp, sNm, sZ, sVal1, sWord, sAgg, sAr, g1, g2, ho, hw, f1, f2, f3, f4, f23, f24, hn, hd, eta_d hd, hz, ha, hb]
    · have hb : ¬ arHi e.name = 0 := fun h => ha ((arHi_lo e.name).1 h)
      rcases em2 (e.name = ⟨#[]⟩) with hn | hn <;> cases hd : e.dist <;> cases hz : zeroV e.v <;> simp [selfE, spareB, constB, namelessB, namedB, sOp, sNm, sZ, sVal1, sWord, sAgg, sAr, g1, g2, ho, hw, f1, f2, f3, f4, f23, f24, hn, hd, eta_d hd, hz, ha, hb]
  by_cases h : e.op = 24
  · skip
    have f1 : (e.op = 1) = False := eq_false (by omega)
    have f2 : (e.op = 2) = False := eq_false (by omega)
    have f3 : (e.op = 3) = False := eq_false (by omega)
    have f4 : (e.op = 4) = False := eq_false (by omega)
    have f23 : (e.op = 23) = False := eq_false (by omega)
    have f24 : (e.op = 24) = True := eq_true h
    have g1 : (e.op < 1) = False := eq_false (by omega)
    have g2 : (24 < e.op) = False := eq_false (by omega)
    cases ho : operB e
    · simp [selfE, spareB, constB, namelessB, namedB, sOp, sNm, sZ, sVal1, sWord, sAgg, sAr, g1, g2, ho, hw, f1, f2, f3, f4, f23, f24]
    rcases em2 (e.name = ⟨#[]⟩) with hn | hn <;> cases hd : e.dist <;> by_cases ha : Agg e.name <;> cases hz : zeroV e.v <;> cases w <;> simp [selfE, spareB, constB, namelessB, namedB, sOp, sNm, sZ, sVal1, sWord, sAgg, sAr, g1, g2, ho, hw, f1, f2, f3, f4, f23, f24, hn, hd, eta_d hd, hz, ha]
  have f1 : (e.op = 1) = False := eq_false (by assumption)
  have f2 : (e.op = 2) = False := eq_false (by assumption)
  have f3 : (e.op = 3) = False := eq_false (by assumption)
  have f4 : (e.op = 4) = False := eq_false (by assumption)
  have f23 : (e.op = 23) = False := eq_false (by assumption)
  have f24 : (e.op = 24) = False := eq_false (by assumption)
  rcases em2 (e.op < 1) with g1 | g1
  · simp [selfE, g1]
  rcases em2 (24 < e.op) with g2 | g2
  · simp [selfE, g1, g2]
  cases ho : operB e
  · simp [selfE, spareB, constB, namelessB, namedB, sOp, sNm, sZ, sVal1, sWord, sAgg, sAr, g1, g2, ho, hw, f1, f2, f3, f4, f23, f24]
  rcases em2 (e.name = ⟨#[]⟩) with hn | hn <;> cases hd : e.dist <;> cases hz : zeroV e.v <;> simp [selfE, spareB, constB, namelessB, namedB, sOp, sNm, sZ, sVal1, sWord, sAgg, sAr, g1, g2, ho, hw, f1, f2, f3, f4, f23, f24, hn, hd, eta_d hd, hz]
end
end Go.Proofs.YtgjljfbohpnfcaaGreat

namespace Go.Proofs.YtgjljfbohpnfcaaGreat
open Go.RowKit
set_option linter.unusedSimpArgs false
set_option linter.unusedVariables false
def hopN (e : EdgePat) : Int := if e.mode = 0 then 1 else min (max e.hi 0) 13
def hopL : Int → List EdgePat → Int
  | n, [] => n
  | n, e :: r => hopL (n + hopN e) r
theorem hopN_in (e : EdgePat) : 0 ≤ hopN e ∧ hopN e ≤ 13 := by unfold hopN; split <;> omega
theorem hopL_ge : ∀ (l : List EdgePat) (n : Int), n ≤ hopL n l
  | [], n => Int.le_refl _
  | e :: r, n => by have := hopL_ge r (n + hopN e); have := hopN_in e; rw [hopL]; omega
theorem hopL_drop {n : Int} {l : List EdgePat} {i : Nat} (h : i < l.length) : hopL n (l.drop i) = hopL (n + hopN (ix l i)) (l.drop (i + 1)) := by
  rw [List.drop_eq_getElem_cons h, hopL, ix_lt h]
def longB (p : PathPat) : Bool := decide (p.nodes = []) || decide (6 < p.edges.length) || decide (12 < hopL 0 p.edges)
def hopB (e : EdgePat) : Bool := decide (1 ≤ e.dir ∧ e.dir ≤ 3 ∧ 0 ≤ e.mode ∧ e.mode ≤ 5) && (if e.mode = 0 then decide (e.lo = 0 ∧ e.hi = 0) else decide (0 ≤ e.lo ∧ e.lo ≤ e.hi ∧ 1 ≤ e.hi ∧ e.hi ≤ 6) && decide (e.props = []))
def creB (e : EdgePat) : Bool := decide (e.mode = 0 ∧ e.types.length = 1 ∧ ¬ e.dir = 3)
def risesB (l : List ByteArray) : Bool := decide (∀ i, i < l.length - 1 → Op.bytesLess (ix l i).toList (ix l (i + 1)).toList = true)
def keysL (l : List PropPat) : List ByteArray := l.map (·.key)
def freeB (s : ByteArray) : Bool := decide (s = ⟨#[]⟩) || wordB s
def edgeN (e : EdgePat) : NodePat := ⟨e.var, e.types, e.props⟩
def partsL : List NodePat → List EdgePat → List NodePat
  | [], _ => []
  | n :: ns, [] => n :: partsL ns []
  | n :: ns, e :: es => n :: edgeN e :: partsL ns es
def partOK (x : NodePat) : Bool := freeB x.var && x.labels.all wordB && (keysL x.props).all wordB
def partUp (x : NodePat) : Bool := risesB x.labels && risesB (keysL x.props)
def errQ : List PropPat → Int
  | [] => 0
  | q :: r => if checkE q.e ≠ 0 then checkE q.e else errQ r
def aggQ (l : List PropPat) : Bool := l.any fun q => aggE q.e
def errPs : List NodePat → Int
  | [] => 0
  | x :: r => if errQ x.props ≠ 0 then errQ x.props else errPs r
def aggPs (l : List NodePat) : Bool := l.any fun x => aggQ x.props
def pathE (p : PathPat) (create : Bool) : Int :=
  if longB p = true then 4 else if ¬ p.nodes.length = p.edges.length + 1 ∨ p.edges.all hopB = false then 1
  else if freeB p.var = false then 6 else if (partsL p.nodes p.edges).all partOK = false then 6 else if (partsL p.nodes p.edges).all partUp = false then 26
  else if errPs (partsL p.nodes p.edges) ≠ 0 then errPs (partsL p.nodes p.edges) else if aggPs (partsL p.nodes p.edges) = true then 9
  else if create = true ∧ p.edges.all creB = false then 1 else 0
def WfQ (q : PropPat) : Prop := q.key.size ≤ maxLen ∧ WfE q.e
def WfN (n : NodePat) : Prop := n.var.size ≤ maxLen ∧ (n.labels.length ≤ maxLen ∧ ∀ s ∈ n.labels, s.size ≤ maxLen) ∧ n.props.length ≤ 1048576 ∧ ∀ q ∈ n.props, WfQ q
def WfG (e : EdgePat) : Prop := WfN (edgeN e)
def WfP (p : PathPat) : Prop := p.var.size ≤ maxLen ∧ (p.nodes.length ≤ 1048576 ∧ ∀ n ∈ p.nodes, WfN n) ∧ p.edges.length ≤ maxLen ∧ ∀ e ∈ p.edges, WfG e
theorem all_drop {α : Type} [Inhabited α] {f : α → Bool} {l : List α} {i : Nat} (h : i < l.length) : (l.drop i).all f = (f (ix l i) && (l.drop (i + 1)).all f) := by
  rw [List.drop_eq_getElem_cons h, List.all_cons, ix_lt h]
theorem any_drop {α : Type} [Inhabited α] {f : α → Bool} {l : List α} {i : Nat} (h : i < l.length) : (l.drop i).any f = (f (ix l i) || (l.drop (i + 1)).any f) := by
  rw [List.drop_eq_getElem_cons h, List.any_cons, ix_lt h]
theorem errQ_drop {l : List PropPat} {i : Nat} (h : i < l.length) : errQ (l.drop i) = if checkE (ix l i).e ≠ 0 then checkE (ix l i).e else errQ (l.drop (i + 1)) := by
  rw [List.drop_eq_getElem_cons h, errQ, ix_lt h]
theorem errPs_drop {l : List NodePat} {i : Nat} (h : i < l.length) : errPs (l.drop i) = if errQ (ix l i).props ≠ 0 then errQ (ix l i).props else errPs (l.drop (i + 1)) := by
  rw [List.drop_eq_getElem_cons h, errPs, ix_lt h]
end Go.Proofs.YtgjljfbohpnfcaaGreat


namespace Go.Proofs.YtgjljfbohpnfcaaGreat
open Go.RowKit
set_option linter.unusedSimpArgs false
set_option linter.unusedVariables false
set_option maxRecDepth 100000
def findAt {α : Type} (f : α → Bool) : List α → Nat → Int
  | [], _ => -1
  | x :: r, i => if f x = true then i else findAt f r (i + 1)
theorem findAt_iff {α : Type} (f : α → Bool) : ∀ (l : List α) (i : Nat), decide (0 ≤ findAt f l i) = l.any f
  | [], i => by simp [findAt]
  | e :: r, i => by
    rw [findAt, List.any_cons]
    cases h : f e
    · simpa using findAt_iff f r (i + 1)
    · simp
theorem findAt_drop {α : Type} [Inhabited α] {f : α → Bool} {l : List α} {i k : Nat} (h : i < l.length) : findAt f (l.drop i) k = if f (ix l i) = true then (k : Int) else findAt f (l.drop (i + 1)) (k + 1) := by
  rw [List.drop_eq_getElem_cons h, findAt, ix_lt h]
theorem maxLen_le {n : Nat} (h : n ≤ maxLen) : n ≤ 9223372036854775807 := by unfold maxLen at h; omega
structure HopF where
  v : Bool
instance : Enc HopF where
  sz := 1
  cells b := [.fn (if b.v = true then 79 else 86) []]
  enc b := .fn (if b.v = true then 79 else 86) []
  unc c := match c with | [.fn k _] => ⟨decide (k = 79)⟩ | _ => ⟨false⟩
  dec c := match c with | .fn k _ => ⟨decide (k = 79)⟩ | _ => ⟨false⟩
  unc_cells b := by cases b with | mk v => cases v <;> rfl
  dec_enc b := by cases b with | mk v => cases v <;> rfl
@[simp] theorem enc_hopF1 : Enc.enc (⟨true⟩ : HopF) = .fn 79 [] := rfl
@[simp] theorem enc_hopF2 : Enc.enc (⟨false⟩ : HopF) = .fn 86 [] := rfl
@[simp] theorem dec_hopF1 : (Enc.dec (.fn 79 []) : HopF) = ⟨true⟩ := rfl
@[simp] theorem dec_hopF2 : (Enc.dec (.fn 86 []) : HopF) = ⟨false⟩ := rfl
def hopT (b : Bool) (e : EdgePat) : Bool := if b = true then !hopB e else !creB e
def PB (p : PathPat) : Blk := ⟨70, 3, [[.str p.var, .slice 3 false (encRows p.nodes), .slice 7 false (encRows p.edges)]], true, true⟩
section
variable {m : Int}
def sHop : List AV → Option (Prop × AV) := spec1 (fun (_ : EdgePat) => True) (fun e => .bool (hopB e))
def sCre : List AV → Option (Prop × AV) := spec1 (fun (_ : EdgePat) => True) (fun e => .bool (creB e))
set_option maxHeartbeats 8000000 in
theorem hopP : PureOK Tryz.prog (G m) 80 sHop := by
  refine pure1 (C := CE m) (sigCE m) (mixCE m) Tryz.func80 rfl rfl rfl (by kernel_rfl) (by decide) (fun e _ => ?_)
  by_cases h1 : e.dir < 1
  · have hB : hopB e = false := by simp only [hopB, Bool.and_eq_false_iff, decide_eq_false_iff_not]; left; omega
    simp [h1, hB]
  by_cases h2 : 3 < e.dir
  · have hB : hopB e = false := by simp only [hopB, Bool.and_eq_false_iff, decide_eq_false_iff_not]; left; omega
    simp [h1, h2, hB]
  by_cases h3 : e.mode < 0
  · have hB : hopB e = false := by simp only [hopB, Bool.and_eq_false_iff, decide_eq_false_iff_not]; left; omega
    simp [h1, h2, h3, hB]
  by_cases h4 : 5 < e.mode
  · have hB : hopB e = false := by simp only [hopB, Bool.and_eq_false_iff, decide_eq_false_iff_not]; left; omega
    simp [h1, h2, h3, h4, hB]
  have hd : decide (1 ≤ e.dir ∧ e.dir ≤ 3 ∧ 0 ≤ e.mode ∧ e.mode ≤ 5) = true := by rw [decide_eq_true_eq]; omega
  rcases em2 (e.mode = 0) with h5 | h5
  · have hB : hopB e = decide (e.lo = 0 ∧ e.hi = 0) := by unfold hopB; rw [hd, if_pos (of_eq_true h5)]; simp
    rcases em2 (e.lo = 0) with h6 | h6 <;> rcases em2 (e.hi = 0) with h7 | h7 <;> simp [h1, h2, h3, h4, h5, h6, h7, hB]
  · have hB : hopB e = (decide (0 ≤ e.lo ∧ e.lo ≤ e.hi ∧ 1 ≤ e.hi ∧ e.hi ≤ 6) && decide (e.props = [])) := by unfold hopB; rw [hd, if_neg (of_eq_false h5)]; simp
    by_cases h6 : 0 ≤ e.lo
    case neg => simp [h1, h2, h3, h4, h5, h6, hB]
    by_cases h7 : e.lo ≤ e.hi
    case neg => simp [h1, h2, h3, h4, h5, h6, h7, hB]
    by_cases h8 : 1 ≤ e.hi
    case neg => simp [h1, h2, h3, h4, h5, h6, h7, h8, hB]
    by_cases h9 : e.hi ≤ 6
    case neg => simp [h1, h2, h3, h4, h5, h6, h7, h8, h9, hB]
    rcases em2 (e.props = []) with h10 | h10 <;> simp [h1, h2, h3, h4, h5, h6, h7, h8, h9, h10, hB]
set_option maxHeartbeats 8000000 in
theorem creP : PureOK Tryz.prog (G m) 87 sCre := by
  refine pure1 (C := CE m) (sigCE m) (mixCE m) Tryz.func87 rfl rfl rfl (by kernel_rfl) (by decide) (fun e _ => ?_)
  rcases em2 (e.mode = 0) with h1 | h1
  case inr => simp [creB, h1]
  by_cases h2 : e.types.length = 1
  · rcases em2 (e.dir = 3) with h3 | h3 <;> simp [creB, h1, h2, h3]
  · have h2' : ¬ (e.types.length : Int) = 1 := by omega
    simp [creB, h1, h2, h2']
def sHop1 : List AV → Option (Prop × AV) := spec1 (fun (_ : EdgePat) => True) (fun e => .bool (hopT true e))
def sHop2 : List AV → Option (Prop × AV) := spec1 (fun (_ : EdgePat) => True) (fun e => .bool (hopT false e))
def sNW : List AV → Option (Prop × AV) := spec1 (fun (_ : ByteArray) => True) (fun e => .bool (!wordB e))
noncomputable def CLf (m : Int) : Ctx := mkC Tryz.prog (G m) [(80, .pure sHop), (87, .pure sCre), (82, .pure sWord)]
@[simp] theorem CLf_P (m : Int) : (CLf m).P = Tryz.prog := rfl
@[simp] theorem CLf_1 (m : Int) : (CLf m).S 80 = .pure sHop := rfl
@[simp] theorem CLf_2 (m : Int) : (CLf m).S 87 = .pure sCre := rfl
@[simp] theorem CLf_3 (m : Int) : (CLf m).S 82 = .pure sWord := rfl
theorem mixCLf (m : Int) : (CLf m).P.follows .mixedOrders = true := mixed
theorem sigCLf (m : Int) : SigOK (CLf m) := sigOK_cons (entryPure hopP Tryz.func80 rfl (by decide)) (sigOK_cons (entryPure creP Tryz.func87 rfl (by decide)) (sigOK_cons (entryPure wordP Tryz.func82 rfl (by decide)) (sigOK_nil _ _)))
theorem hop1P : PureOK Tryz.prog (G m) 79 sHop1 := by
  refine pure1 (C := CLf m) (sigCLf m) (mixCLf m) Tryz.func79 rfl rfl rfl (by kernel_rfl) (by decide) (fun e _ => ?_)
  simp [sHop, hopT]
theorem hop2P : PureOK Tryz.prog (G m) 86 sHop2 := by
  refine pure1 (C := CLf m) (sigCLf m) (mixCLf m) Tryz.func86 rfl rfl rfl (by kernel_rfl) (by decide) (fun e _ => ?_)
  simp [sCre, hopT]
theorem nwP : PureOK Tryz.prog (G m) 116 sNW := by
  refine pure1 (C := CLf m) (sigCLf m) (mixCLf m) Tryz.func116 rfl rfl rfl (by kernel_rfl) (by decide) (fun e _ => ?_)
  simp [sWord]
noncomputable def CIx (m : Int) : Ctx := mkC Tryz.prog (G m) [(79, .pure sHop1), (86, .pure sHop2), (116, .pure sNW)]
@[simp] theorem CIx_P (m : Int) : (CIx m).P = Tryz.prog := rfl
@[simp] theorem CIx_G (m : Int) : (CIx m).G = (G m) := rfl
@[simp] theorem CIx_1 (m : Int) : (CIx m).S 79 = .pure sHop1 := rfl
@[simp] theorem CIx_2 (m : Int) : (CIx m).S 86 = .pure sHop2 := rfl
@[simp] theorem CIx_3 (m : Int) : (CIx m).S 116 = .pure sNW := rfl
theorem mixCIx (m : Int) : (CIx m).P.follows .mixedOrders = true := mixed
theorem sigCIx (m : Int) : SigOK (CIx m) := sigOK_cons (entryPure (hop1P) Tryz.func79 rfl (by decide)) (sigOK_cons (entryPure (hop2P) Tryz.func86 rfl (by decide)) (sigOK_cons (entryPure (nwP) Tryz.func116 rfl (by decide)) (sigOK_nil _ _)))
def sIxS : List AV → Option (Prop × AV) := spec2 (fun (l : List ByteArray) (_ : (FnV 116)) => l.length ≤ maxLen) (fun l _ => .int .i64 (findAt (fun x : ByteArray => !wordB x) l 0))
def sCoS : List AV → Option (Prop × AV) := spec2 (fun (l : List ByteArray) (_ : (FnV 116)) => l.length ≤ maxLen) (fun l _ => .bool (l.any (fun x : ByteArray => !wordB x)))
set_option maxHeartbeats 4000000 in
theorem ixS : PureOK Tryz.prog (G m) 137 sIxS := by
  refine pure2 (C := CIx m) (sigCIx m) (mixCIx m) Tryz.func137 rfl rfl rfl (by kernel_rfl) (by decide) (fun l f hl => ?_)
  have hl' := maxLen_le hl
  simp
  refine loop_rule (C := CIx m) (sigCIx m) (mixCIx m) (fun i : Nat => ⟨[(0, Enc.enc l), (1, .fn 116 []), (7, .int .i64 l.length), (8, .int .i64 i)], []⟩) (fun i => i ≤ l.length ∧ findAt (fun x : ByteArray => !wordB x) (l.drop i) i = findAt (fun x : ByteArray => !wordB x) l 0) (fun i => l.length - i) (by kernel_rfl) ⟨0, by simp, weak_slots (by simp)⟩ (fun i ⟨hi, hs⟩ => ?_)
  by_cases hlt : i < l.length
  · have i1 : I64 ((i : Int) + 1) := by unfold I64; omega
    rw [findAt_drop hlt] at hs
    cases h3 : (fun x : ByteArray => !wordB x) (ix l i)
    · rw [if_neg (fun h => Bool.false_ne_true (h3.symm.trans h))] at hs
      try simp at h3
      simp [hlt, rowAt_enc hlt, sNW, h3, i1]
      exact ⟨i + 1, ⟨by omega, hs⟩, by omega, weak_slots (by simp)⟩
    · rw [if_pos h3] at hs
      try simp at h3
      simp [hlt, rowAt_enc hlt, sNW, h3, ← hs]
  · rw [List.drop_eq_nil_of_le (by omega), findAt] at hs
    simp [hlt, ← hs]
theorem coS : PureOK Tryz.prog (G m) 115 sCoS := by
  have sig : SigOK (mkC Tryz.prog (G m) [(137, .pure sIxS)]) := sigOK_cons (entryPure ixS Tryz.func137 rfl (by decide)) (sigOK_nil _ _)
  refine pure2 (C := mkC Tryz.prog (G m) [(137, .pure sIxS)]) sig mixed Tryz.func115 rfl rfl rfl (by kernel_rfl) (by decide) (fun l f hl => ?_)
  simp [sIxS, hl, findAt_iff]
def sIxE : List AV → Option (Prop × AV) := spec2 (fun (l : List EdgePat) (_ : HopF) => l.length ≤ maxLen) (fun l f => .int .i64 (findAt (hopT f.v) l 0))
def sCoE : List AV → Option (Prop × AV) := spec2 (fun (l : List EdgePat) (_ : HopF) => l.length ≤ maxLen) (fun l f => .bool (l.any (hopT f.v)))
set_option maxHeartbeats 4000000 in
theorem ixE : PureOK Tryz.prog (G m) 112 sIxE := by
  refine pure2 (C := CIx m) (sigCIx m) (mixCIx m) Tryz.func112 rfl rfl rfl (by kernel_rfl) (by decide) (fun l f hl => ?_)
  have hl' := maxLen_le hl
  obtain ⟨b⟩ := f
  cases b
  · simp
    refine loop_rule (C := CIx m) (sigCIx m) (mixCIx m) (fun i : Nat => ⟨[(0, Enc.enc l), (1, .fn 86 []), (7, .int .i64 l.length), (8, .int .i64 i)], []⟩) (fun i => i ≤ l.length ∧ findAt (hopT false) (l.drop i) i = findAt (hopT false) l 0) (fun i => l.length - i) (by kernel_rfl) ⟨0, by simp, weak_slots (by simp)⟩ (fun i ⟨hi, hs⟩ => ?_)
    by_cases hlt : i < l.length
    · have i1 : I64 ((i : Int) + 1) := by unfold I64; omega
      rw [findAt_drop hlt] at hs
      cases h3 : hopT false (ix l i)
      · rw [if_neg (fun h => Bool.false_ne_true (h3.symm.trans h))] at hs
        simp [hlt, rowAt_enc hlt, sHop2, h3, i1]
        exact ⟨i + 1, ⟨by omega, hs⟩, by omega, weak_slots (by simp)⟩
      · rw [if_pos h3] at hs
        simp [hlt, rowAt_enc hlt, sHop2, h3, ← hs]
    · rw [List.drop_eq_nil_of_le (by omega), findAt] at hs
      simp [hlt, ← hs]
  · simp
    refine loop_rule (C := CIx m) (sigCIx m) (mixCIx m) (fun i : Nat => ⟨[(0, Enc.enc l), (1, .fn 79 []), (7, .int .i64 l.length), (8, .int .i64 i)], []⟩) (fun i => i ≤ l.length ∧ findAt (hopT true) (l.drop i) i = findAt (hopT true) l 0) (fun i => l.length - i) (by kernel_rfl) ⟨0, by simp, weak_slots (by simp)⟩ (fun i ⟨hi, hs⟩ => ?_)
    by_cases hlt : i < l.length
    · have i1 : I64 ((i : Int) + 1) := by unfold I64; omega
      rw [findAt_drop hlt] at hs
      cases h3 : hopT true (ix l i)
      · rw [if_neg (fun h => Bool.false_ne_true (h3.symm.trans h))] at hs
        simp [hlt, rowAt_enc hlt, sHop1, h3, i1]
        exact ⟨i + 1, ⟨by omega, hs⟩, by omega, weak_slots (by simp)⟩
      · rw [if_pos h3] at hs
        simp [hlt, rowAt_enc hlt, sHop1, h3, ← hs]
    · rw [List.drop_eq_nil_of_le (by omega), findAt] at hs
      simp [hlt, ← hs]
theorem coE : PureOK Tryz.prog (G m) 78 sCoE := by
  have sig : SigOK (mkC Tryz.prog (G m) [(112, .pure sIxE)]) := sigOK_cons (entryPure ixE Tryz.func112 rfl (by decide)) (sigOK_nil _ _)
  refine pure2 (C := mkC Tryz.prog (G m) [(112, .pure sIxE)]) sig mixed Tryz.func78 rfl rfl rfl (by kernel_rfl) (by decide) (fun l f hl => ?_)
  obtain ⟨b⟩ := f
  cases b <;> simp [sIxE, hl, findAt_iff]
end
end Go.Proofs.YtgjljfbohpnfcaaGreat


namespace Go.Proofs.YtgjljfbohpnfcaaGreat
open Go.RowKit
set_option linter.unusedSimpArgs false
set_option linter.unusedVariables false
set_option maxRecDepth 100000
theorem not_any (l : List ByteArray) : (!l.any fun x => !wordB x) = l.all wordB := by simp [List.all_eq_not_any_not]
theorem partsL_take : ∀ (ns : List NodePat) (es : List EdgePat) (i : Nat), i < ns.length → partsL (ns.take (i + 1)) es = partsL (ns.take i) es ++ (ix ns i :: if i < es.length then [edgeN (ix es i)] else [])
  | n :: ns, [], 0, h => by simp [partsL, ix]
  | n :: ns, e :: es, 0, h => by simp [partsL, ix]
  | n :: ns, [], i + 1, h => by
    have := partsL_take ns [] i (by simpa using h)
    rw [List.take_succ_cons, List.take_succ_cons, partsL, partsL, this]
    simp [ix]
  | n :: ns, e :: es, i + 1, h => by
    have := partsL_take ns es i (by simpa using h)
    rw [List.take_succ_cons, List.take_succ_cons, partsL, partsL, this]
    simp [ix]
theorem partsL_len : ∀ (ns : List NodePat) (es : List EdgePat), (partsL ns es).length ≤ 2 * ns.length
  | [], es => by simp [partsL]
  | n :: ns, [] => by have := partsL_len ns []; simp only [partsL, List.length_cons]; omega
  | n :: ns, e :: es => by have := partsL_len ns es; simp only [partsL, List.length_cons]; omega
theorem keysL_take {l : List PropPat} {i : Nat} (h : i < l.length) : keysL (l.take (i + 1)) = keysL (l.take i) ++ [(ix l i).key] := by
  unfold keysL
  rw [List.take_add_one, List.map_append, List.getElem?_eq_getElem h, ix_lt h]
  rfl
section
variable {m : Int}
noncomputable def CWs (m : Int) : Ctx := mkC Tryz.prog (G m) [(115, .pure sCoS)]
@[simp] theorem CWs_P (m : Int) : (CWs m).P = Tryz.prog := rfl
@[simp] theorem CWs_1 (m : Int) : (CWs m).S 115 = .pure sCoS := rfl
theorem mixCWs (m : Int) : (CWs m).P.follows .mixedOrders = true := mixed
theorem sigCWs (m : Int) : SigOK (CWs m) := sigOK_cons (entryPure coS Tryz.func115 rfl (by decide)) (sigOK_nil _ _)
def sWs : List AV → Option (Prop × AV) := spec1 (fun (l : List ByteArray) => l.length ≤ maxLen) (fun l => .bool (l.all wordB))
theorem wordsP : PureOK Tryz.prog (G m) 83 sWs := by
  refine pure1 (C := CWs m) (sigCWs m) (mixCWs m) Tryz.func83 rfl rfl rfl (by kernel_rfl) (by decide) (fun l hl => ?_)
  simp [sCoS, hl]
  rw [← not_any l, Bool.not_not]
def sRs : List AV → Option (Prop × AV) := spec1 (fun (l : List ByteArray) => l.length ≤ maxLen) (fun l => .bool (risesB l))
set_option maxHeartbeats 4000000 in
theorem risesP : PureOK Tryz.prog (G m) 85 sRs := by
  refine pure1 (C := CE m) (sigCE m) (mixCE m) Tryz.func85 rfl rfl rfl (by kernel_rfl) (by decide) (fun l hl => ?_)
  have hl' := maxLen_le hl
  simp
  refine loop_rule (C := CE m) (sigCE m) (mixCE m) (fun i : Nat => ⟨[(0, Enc.enc l), (3, .int .i64 ((i : Int) + 1))], []⟩) (fun i => i ≤ l.length ∧ ∀ j, j < i → Op.bytesLess (ix l j).toList (ix l (j + 1)).toList = true) (fun i => l.length - i) (by kernel_rfl) ⟨0, by simp, weak_slots (by simp)⟩ (fun i ⟨hi, hs⟩ => ?_)
  by_cases hlt : i + 1 < l.length
  · have i0 : I64 (i : Int) := by unfold I64; omega
    have i1 : I64 ((i : Int) + 1) := by unfold I64; omega
    have i2 : I64 ((i : Int) + 1 + 1) := by unfold I64; omega
    have h1 : (i : Int) + 1 < l.length := by omega
    have h2 : i < l.length := by omega
    have e1 : ((i : Int) + 1).toNat = i + 1 := by omega
    cases h3 : Op.bytesLess (ix l i).toList (ix l (i + 1)).toList
    · have hB : risesB l = false := by
        unfold risesB
        rw [decide_eq_false_iff_not]
        intro h
        rw [h i (by omega)] at h3
        cases h3
      simp [h1, h2, hlt, e1, rowAt_enc h2, rowAt_enc hlt, i0, i1, i2, h3, hB]
      omega
    · simp [h1, h2, hlt, e1, rowAt_enc h2, rowAt_enc hlt, i0, i1, i2, h3]
      refine ⟨by omega, i + 1, ⟨by omega, fun j hj => ?_⟩, by omega, weak_slots (by simp)⟩
      rcases Nat.lt_or_eq_of_le (Nat.le_of_lt_succ hj) with h | rfl
      · exact hs j h
      · exact h3
  · have h1 : ¬ (i : Int) + 1 < l.length := by omega
    have hB : risesB l = true := by
      unfold risesB
      rw [decide_eq_true_eq]
      exact fun j hj => hs j (by omega)
    simp [h1, hB]
def sKs : List AV → Option (Prop × AV) := spec1 (fun (l : List PropPat) => l.length ≤ 1048576) (fun l => Enc.enc (keysL l))
set_option maxHeartbeats 4000000 in
theorem keysP : PureOK Tryz.prog (G m) 84 sKs := by
  refine pure1 (C := CE m) (sigCE m) (mixCE m) Tryz.func84 rfl rfl rfl (by kernel_rfl) (by decide) (fun l hl => ?_)
  simp
  refine loop_rule (C := CE m) (sigCE m) (mixCE m) (fun i : Nat => ⟨[(3, .own 0 (keysL (l.take i)).length), (6, Enc.enc l), (7, .int .i64 l.length), (8, .int .i64 i)], [⟨9, 1, encRows (keysL (l.take i)), true, true⟩]⟩) (fun i => i ≤ l.length) (fun i => l.length - i) (by kernel_rfl) ⟨0, by simp, (weak_nil 3 1 9 (by simp) (by decide)).trans (weak_slots (by simp [keysL]))⟩ (fun i hi => ?_)
  by_cases hlt : i < l.length
  · have i1 : I64 ((i : Int) + 1) := by unfold I64; omega
    have hk : (keysL (l.take i)).length = i := by simp [keysL]; omega
    simp [hlt, rowAt_enc hlt, i1, hk]
    refine ⟨⟨by omega, by omega⟩, i + 1, by omega, by omega, ?_⟩
    rw [keysL_take hlt]
    exact weak_keep 1 (by simp [hk]) (by simp) (by simp [AV.clean, AV.clean1]) (by simp) (by simp [encRows])
  · have e : l.take i = l := List.take_of_length_le (by omega)
    simp [hlt, e]
def sLg : List AV → Option (Prop × AV) := spec1 (fun (p : PathPat) => p.edges.length ≤ maxLen) (fun p => .bool (longB p))
set_option maxHeartbeats 4000000 in
theorem longP : PureOK Tryz.prog (G m) 77 sLg := by
  refine pure1 (C := CE m) (sigCE m) (mixCE m) Tryz.func77 rfl rfl rfl (by kernel_rfl) (by decide) (fun p hl => ?_)
  have hl' := maxLen_le hl
  rcases em2 (p.nodes = []) with h1 | h1
  · simp [longB, h1]
  by_cases h2 : 6 < p.edges.length
  · have h2' : (6 : Int) < p.edges.length := by omega
    simp [longB, h1, h2, h2']
  have h2' : ¬ (6 : Int) < p.edges.length := by omega
  have hB : longB p = decide (12 < hopL 0 p.edges) := by unfold longB; rw [decide_eq_false (of_eq_false h1), decide_eq_false h2]; simp
  rw [hB]
  simp [h1, h2, h2']
  refine loop_rule (C := CE m) (sigCE m) (mixCE m) (fun q : Nat × Int => ⟨[(1, .ptr 0 1 3 0 0), (3, .int .i64 q.2), (17, Enc.enc p.edges), (18, .int .i64 p.edges.length), (19, .int .i64 q.1)], [PB p]⟩) (fun q => q.1 ≤ p.edges.length ∧ 0 ≤ q.2 ∧ q.2 ≤ 13 * q.1 ∧ hopL q.2 (p.edges.drop q.1) = hopL 0 p.edges) (fun q => p.edges.length - q.1) (by kernel_rfl) ⟨(0, 0), by simp, weak_slots (by simp)⟩ (fun ⟨i, a⟩ ⟨hi, ha, hb, hs⟩ => ?_)
  simp only at hi ha hb hs ⊢
  by_cases hlt : i < p.edges.length
  · have i1 : I64 ((i : Int) + 1) := by unfold I64; omega
    have hn := hopN_in (ix p.edges i)
    rw [hopL_drop hlt] at hs
    rcases em2 ((ix p.edges i).mode = 0) with h3 | h3
    · have i2 : I64 (a + 1) := by unfold I64; omega
      have hN : hopN (ix p.edges i) = 1 := by simp [hopN, h3]
      rw [hN] at hs
      simp [PB, hlt, rowAt_enc hlt, i1, i2, h3]
      exact ⟨i + 1, a + 1, ⟨by omega, by omega, by omega, hs⟩, by omega, weak_keep 1 (by simp) (by simp) (by simp [AV.clean, AV.clean1]) (by simp) (by simp)⟩
    · have i2 : I64 (a + hopN (ix p.edges i)) := by unfold I64; omega
      have hN : (if 13 < (if (ix p.edges i).hi < 0 then 0 else (ix p.edges i).hi) then 13 else if (ix p.edges i).hi < 0 then 0 else (ix p.edges i).hi) = hopN (ix p.edges i) := by
        have hne := of_eq_false h3
        by_cases hneg : (ix p.edges i).hi < 0
        · simp only [hopN, hne, hneg, if_true, if_false]
          simp
          omega
        · simp only [hopN, hne, hneg, if_false]
          split <;> omega
      simp [PB, hlt, rowAt_enc hlt, i1, h3]
      rw [hN, w64_in i2]
      exact ⟨i + 1, a + hopN (ix p.edges i), ⟨by omega, by omega, by omega, hs⟩, by omega, weak_keep 1 (by simp) (by simp) (by simp [AV.clean, AV.clean1]) (by simp) (by simp)⟩
  · rw [List.drop_eq_nil_of_le (by omega), hopL] at hs
    simp [PB, hlt, hs]
def sPt : List AV → Option (Prop × AV) := spec1 (fun (p : PathPat) => p.nodes.length ≤ 1048576 ∧ p.edges.length ≤ maxLen) (fun p => Enc.enc (partsL p.nodes p.edges))
set_option maxHeartbeats 4000000 in
theorem partsP : PureOK Tryz.prog (G m) 81 sPt := by
  refine pure1 (C := CE m) (sigCE m) (mixCE m) Tryz.func81 rfl rfl rfl (by kernel_rfl) (by decide) (fun p ⟨hn, hl⟩ => ?_)
  have hl' := maxLen_le hl
  simp
  refine loop_rule (C := CE m) (sigCE m) (mixCE m) (fun i : Nat => ⟨[(1, .ptr 0 1 3 0 0), (3, .own 1 (partsL (p.nodes.take i) p.edges).length), (7, Enc.enc p.nodes), (8, .int .i64 p.nodes.length), (9, .int .i64 i)], [PB p, ⟨132, 3, encRows (partsL (p.nodes.take i) p.edges), true, true⟩]⟩) (fun i => i ≤ p.nodes.length) (fun i => p.nodes.length - i) (by kernel_rfl) ⟨0, by simp, (weak_nil 3 3 132 (by simp) (by decide)).trans (weak_slots (by simp [partsL, PB]))⟩ (fun i hi => ?_)
  by_cases hlt : i < p.nodes.length
  · have i1 : I64 ((i : Int) + 1) := by unfold I64; omega
    have hk := partsL_len (p.nodes.take i) p.edges
    rw [List.length_take] at hk
    have ht := partsL_take p.nodes p.edges i hlt
    by_cases h2 : i < p.edges.length
    · rw [if_pos h2] at ht
      simp [PB, hlt, rowAt_enc hlt, i1, h2, rowAt_enc h2]
      refine ⟨⟨by omega, by omega⟩, ⟨by omega, by omega⟩, i + 1, by omega, by omega, ?_⟩
      rw [ht]
      exact weak_keep 2 (by simp) (by simp) (by simp [AV.clean, AV.clean1]) (by simp) (by simp [encRows, PB, edgeN])
    · rw [if_neg h2] at ht
      simp [PB, hlt, rowAt_enc hlt, i1, h2]
      refine ⟨⟨by omega, by omega⟩, i + 1, by omega, by omega, ?_⟩
      rw [ht]
      exact weak_keep 2 (by simp) (by simp) (by simp [AV.clean, AV.clean1]) (by simp) (by simp [encRows, PB])
  · have e : p.nodes.take i = p.nodes := List.take_of_length_le (by omega)
    simp [PB, hlt, e]
end
end Go.Proofs.YtgjljfbohpnfcaaGreat


namespace Go.Proofs.YtgjljfbohpnfcaaGreat
open Go.RowKit
set_option linter.unusedSimpArgs false
set_option linter.unusedVariables false
set_option maxRecDepth 100000
section
variable {m : Int}
def sSpare : List AV → Option (Prop × AV) := spec1 (fun (_ : Expr) => True) (fun e => .bool (spareB e))
def sConst : List AV → Option (Prop × AV) := spec1 (fun (v : Val) => WfV v) (fun v => .bool (constB v))
def sNless : List AV → Option (Prop × AV) := spec1 (fun (_ : Expr) => True) (fun e => .bool (namelessB e))
def sSelf : List AV → Option (Prop × AV) := spec2 (fun (e : Expr) (_ : Bool) => WfV e.v) (fun e w => .int .i64 (selfE e w))
def sVis (n : Nat) : List AV → Option (Prop × AV) := spec2 (fun (e : Expr) (_ : Bool) => WfE e ∧ SizeOf.sizeOf e ≤ n) (fun e w => .int .i64 (visitE e w))
def sVisA : List AV → Option (Prop × AV) := spec2 (fun (e : Expr) (_ : Bool) => WfE e) (fun e w => .int .i64 (visitE e w))
noncomputable def CVs (m : Int) (n : Nat) : Ctx := mkC Tryz.prog (G m) [(117, .pure sOp), (118, .pure sSpare), (119, .pure sConst), (120, .pure sNless), (90, .pure (sVis n))]
@[simp] theorem CVs_P (m : Int) (n : Nat) : (CVs m n).P = Tryz.prog := rfl
@[simp] theorem CVs_1 (m : Int) (n : Nat) : (CVs m n).S 117 = .pure sOp := rfl
@[simp] theorem CVs_2 (m : Int) (n : Nat) : (CVs m n).S 118 = .pure sSpare := rfl
@[simp] theorem CVs_3 (m : Int) (n : Nat) : (CVs m n).S 119 = .pure sConst := rfl
@[simp] theorem CVs_4 (m : Int) (n : Nat) : (CVs m n).S 120 = .pure sNless := rfl
@[simp] theorem CVs_5 (m : Int) (n : Nat) : (CVs m n).S 90 = .pure (sVis n) := rfl
theorem mixCVs (m : Int) (n : Nat) : (CVs m n).P.follows .mixedOrders = true := mixed
theorem sigCVs {n : Nat} (h : PureOK Tryz.prog (G m) 90 (sVis n)) : SigOK (CVs m n) := sigOK_cons (entryPure operP Tryz.func117 rfl (by decide)) (sigOK_cons (entryPure spareP Tryz.func118 rfl (by decide)) (sigOK_cons (entryPure constP Tryz.func119 rfl (by decide)) (sigOK_cons (entryPure namelessP Tryz.func120 rfl (by decide)) (sigOK_cons (entryPure h Tryz.func90 rfl (by decide)) (sigOK_nil _ _)))))
set_option maxHeartbeats 8000000 in
theorem visitPn : ∀ n : Nat, PureOK Tryz.prog (G m) 90 (sVis n)
  | 0 => pure2_none fun e w h => by have := exp_pos e; omega
  | n + 1 => by
    refine pure2 (C := CVs m n) (sigCVs (visitPn n)) (mixCVs m n) Tryz.func90 rfl rfl rfl (by kernel_rfl) (by decide) (fun e w ⟨hw, hn⟩ => ?_)
    have hl := hw.len'
    have hv := hw.val
    rw [visitE_eq]
    rcases em2 (e.op < 1) with g1 | g1
    · simp [selfE, g1]
    rcases em2 (24 < e.op) with g2 | g2
    · simp [selfE, g1, g2]
    cases ho : operB e
    · simp [sOp, selfE, g1, g2, ho]
    cases hs : spareB e
    · simp [sOp, sSpare, selfE, g1, g2, ho, hs]
    rcases em2 (e.op = 24) with c24 | c24
    · have c1 : (e.op = 1) = False := eq_false (by have : e.op = 24 := by rw [c24]; trivial
                                                   omega)
      cases hnl : namelessB e
      case true => simp [sOp, sSpare, sConst, sNless, selfE, g1, g2, ho, hs, hv, c1, hnl]
      cases w
      case true => simp [sOp, sSpare, sConst, sNless, selfE, g1, g2, ho, hs, hv, c1, c24, hnl]
      have hself : selfE e false = 0 := by simp [selfE, g1, g2, ho, hs, c1, c24, hnl]
      simp [sOp, sSpare, sConst, sNless, hself, g1, g2, ho, hs, hv, c1, c24, hnl]
      refine loop_rule (C := CVs m n) (sigCVs (visitPn n)) (mixCVs m n) (fun i : Nat => ⟨[(1, .bool false), (2, .ptr 0 1 9 0 0), (44, Enc.enc e.kids), (45, .int .i64 e.kids.length), (46, .int .i64 i)], [EB e]⟩) (fun i => i ≤ e.kids.length ∧ visitL (e.kids.drop i) true = visitL e.kids true) (fun i => e.kids.length - i) (by kernel_rfl) ⟨0, by simp, weak_slots (by simp)⟩ (fun i ⟨hi, hs⟩ => ?_)
      by_cases hlt : i < e.kids.length
      · have i1 : I64 ((i : Int) + 1) := by unfold I64; omega
        have w1 := hw.kid _ (ix_mem hlt)
        have w2 : SizeOf.sizeOf (ix e.kids i) ≤ n := by have := exp_mem (ix_mem hlt); omega
        rw [visitL_drop hlt] at hs
        by_cases h0 : visitE (ix e.kids i) true = 0
        · rw [if_neg (by simp [h0])] at hs
          simp [EB, hlt, rowAt_enc hlt, sVis, w1, w2, hself, h0, i1, c24]
          exact ⟨i + 1, ⟨by omega, hs⟩, by omega, weak_keep 1 (by simp) (by simp) (by simp [AV.clean, AV.clean1]) (by simp) (by simp)⟩
        · rw [if_pos h0] at hs
          simp [EB, hlt, rowAt_enc hlt, sVis, w1, w2, hself, h0, i1, ← hs, c24]
      · rw [List.drop_eq_nil_of_le (by omega), visitL] at hs
        simp [EB, hlt, ← hs, hself, c24]
    have hself : namelessB e = false → (e.op = 1 → constB e.v = true) → selfE e w = 0 := by
      intro hnl hcc
      unfold selfE
      rw [if_neg (by rw [g1, g2, ho, hs]; simp), if_neg (by intro h; rw [hcc h.1] at h; simp at h), if_neg (by rw [hnl]; simp), if_neg (by rw [c24]; simp)]
    rcases em2 (e.op = 1) with c1 | c1
    · cases hcb : constB e.v
      · simp [sOp, sSpare, sConst, selfE, g1, g2, ho, hs, hv, c1, hcb]
      cases hnl : namelessB e
      case true => simp [sOp, sSpare, sConst, sNless, selfE, g1, g2, ho, hs, hv, c1, hcb, hnl]
      have hse := hself hnl (fun _ => hcb)
      simp [sOp, sSpare, sConst, sNless, hse, g1, g2, ho, hs, hv, c1, c24, hcb, hnl]
      cases w
      case false =>
        refine loop_rule (C := CVs m n) (sigCVs (visitPn n)) (mixCVs m n) (fun i : Nat => ⟨[(1, .bool false), (2, .ptr 0 1 9 0 0), (44, Enc.enc e.kids), (45, .int .i64 e.kids.length), (46, .int .i64 i)], [EB e]⟩) (fun i => i ≤ e.kids.length ∧ visitL (e.kids.drop i) false = visitL e.kids false) (fun i => e.kids.length - i) (by kernel_rfl) ⟨0, by simp, weak_slots (by simp)⟩ (fun i ⟨hi, hs⟩ => ?_)
        by_cases hlt : i < e.kids.length
        · have i1 : I64 ((i : Int) + 1) := by unfold I64; omega
          have w1 := hw.kid _ (ix_mem hlt)
          have w2 : SizeOf.sizeOf (ix e.kids i) ≤ n := by have := exp_mem (ix_mem hlt); omega
          rw [visitL_drop hlt] at hs
          by_cases h0 : visitE (ix e.kids i) false = 0
          · rw [if_neg (by simp [h0])] at hs
            simp [EB, hlt, rowAt_enc hlt, sVis, w1, w2, hse, h0, i1, c24]
            exact ⟨i + 1, ⟨by omega, hs⟩, by omega, weak_keep 1 (by simp) (by simp) (by simp [AV.clean, AV.clean1]) (by simp) (by simp)⟩
          · rw [if_pos h0] at hs
            simp [EB, hlt, rowAt_enc hlt, sVis, w1, w2, hse, h0, i1, ← hs, c24]
        · rw [List.drop_eq_nil_of_le (by omega), visitL] at hs
          simp [EB, hlt, ← hs, hse, c24]
      case true =>
        refine loop_rule (C := CVs m n) (sigCVs (visitPn n)) (mixCVs m n) (fun i : Nat => ⟨[(1, .bool true), (2, .ptr 0 1 9 0 0), (44, Enc.enc e.kids), (45, .int .i64 e.kids.length), (46, .int .i64 i)], [EB e]⟩) (fun i => i ≤ e.kids.length ∧ visitL (e.kids.drop i) true = visitL e.kids true) (fun i => e.kids.length - i) (by kernel_rfl) ⟨0, by simp, weak_slots (by simp)⟩ (fun i ⟨hi, hs⟩ => ?_)
        by_cases hlt : i < e.kids.length
        · have i1 : I64 ((i : Int) + 1) := by unfold I64; omega
          have w1 := hw.kid _ (ix_mem hlt)
          have w2 : SizeOf.sizeOf (ix e.kids i) ≤ n := by have := exp_mem (ix_mem hlt); omega
          rw [visitL_drop hlt] at hs
          by_cases h0 : visitE (ix e.kids i) true = 0
          · rw [if_neg (by simp [h0])] at hs
            simp [EB, hlt, rowAt_enc hlt, sVis, w1, w2, hse, h0, i1, c24]
            exact ⟨i + 1, ⟨by omega, hs⟩, by omega, weak_keep 1 (by simp) (by simp) (by simp [AV.clean, AV.clean1]) (by simp) (by simp)⟩
          · rw [if_pos h0] at hs
            simp [EB, hlt, rowAt_enc hlt, sVis, w1, w2, hse, h0, i1, ← hs, c24]
        · rw [List.drop_eq_nil_of_le (by omega), visitL] at hs
          simp [EB, hlt, ← hs, hse, c24]
    · cases hnl : namelessB e
      case true => simp [sOp, sSpare, sConst, sNless, selfE, g1, g2, ho, hs, hv, c1, hnl]
      have hse := hself hnl (fun h => by rw [c1] at h; exact h.elim)
      simp [sOp, sSpare, sConst, sNless, hse, g1, g2, ho, hs, hv, c1, c24, hnl]
      cases w
      case false =>
        refine loop_rule (C := CVs m n) (sigCVs (visitPn n)) (mixCVs m n) (fun i : Nat => ⟨[(1, .bool false), (2, .ptr 0 1 9 0 0), (44, Enc.enc e.kids), (45, .int .i64 e.kids.length), (46, .int .i64 i)], [EB e]⟩) (fun i => i ≤ e.kids.length ∧ visitL (e.kids.drop i) false = visitL e.kids false) (fun i => e.kids.length - i) (by kernel_rfl) ⟨0, by simp, weak_slots (by simp)⟩ (fun i ⟨hi, hs⟩ => ?_)
        by_cases hlt : i < e.kids.length
        · have i1 : I64 ((i : Int) + 1) := by unfold I64; omega
          have w1 := hw.kid _ (ix_mem hlt)
          have w2 : SizeOf.sizeOf (ix e.kids i) ≤ n := by have := exp_mem (ix_mem hlt); omega
          rw [visitL_drop hlt] at hs
          by_cases h0 : visitE (ix e.kids i) false = 0
          · rw [if_neg (by simp [h0])] at hs
            simp [EB, hlt, rowAt_enc hlt, sVis, w1, w2, hse, h0, i1, c24]
            exact ⟨i + 1, ⟨by omega, hs⟩, by omega, weak_keep 1 (by simp) (by simp) (by simp [AV.clean, AV.clean1]) (by simp) (by simp)⟩
          · rw [if_pos h0] at hs
            simp [EB, hlt, rowAt_enc hlt, sVis, w1, w2, hse, h0, i1, ← hs, c24]
        · rw [List.drop_eq_nil_of_le (by omega), visitL] at hs
          simp [EB, hlt, ← hs, hse, c24]
      case true =>
        refine loop_rule (C := CVs m n) (sigCVs (visitPn n)) (mixCVs m n) (fun i : Nat => ⟨[(1, .bool true), (2, .ptr 0 1 9 0 0), (44, Enc.enc e.kids), (45, .int .i64 e.kids.length), (46, .int .i64 i)], [EB e]⟩) (fun i => i ≤ e.kids.length ∧ visitL (e.kids.drop i) true = visitL e.kids true) (fun i => e.kids.length - i) (by kernel_rfl) ⟨0, by simp, weak_slots (by simp)⟩ (fun i ⟨hi, hs⟩ => ?_)
        by_cases hlt : i < e.kids.length
        · have i1 : I64 ((i : Int) + 1) := by unfold I64; omega
          have w1 := hw.kid _ (ix_mem hlt)
          have w2 : SizeOf.sizeOf (ix e.kids i) ≤ n := by have := exp_mem (ix_mem hlt); omega
          rw [visitL_drop hlt] at hs
          by_cases h0 : visitE (ix e.kids i) true = 0
          · rw [if_neg (by simp [h0])] at hs
            simp [EB, hlt, rowAt_enc hlt, sVis, w1, w2, hse, h0, i1, c24]
            exact ⟨i + 1, ⟨by omega, hs⟩, by omega, weak_keep 1 (by simp) (by simp) (by simp [AV.clean, AV.clean1]) (by simp) (by simp)⟩
          · rw [if_pos h0] at hs
            simp [EB, hlt, rowAt_enc hlt, sVis, w1, w2, hse, h0, i1, ← hs, c24]
        · rw [List.drop_eq_nil_of_le (by omega), visitL] at hs
          simp [EB, hlt, ← hs, hse, c24]
theorem visitP : PureOK Tryz.prog (G m) 90 sVisA := pure2_all (fun e _ => SizeOf.sizeOf e) fun n => visitPn n
def sDpA : List AV → Option (Prop × AV) := spec1 (fun (e : Expr) => WfE e) (fun e => .int .i64 (depthE e))
def sSzA : List AV → Option (Prop × AV) := spec1 (fun (e : Expr) => WfE e) (fun e => .int .i64 (sizeE e))
def sHasA : List AV → Option (Prop × AV) := spec1 (fun (e : Expr) => WfE e) (fun e => .bool (aggE e))
def sChk : List AV → Option (Prop × AV) := spec1 (fun (e : Expr) => WfE e) (fun e => .int .i64 (checkE e))
noncomputable def CCk (m : Int) : Ctx := mkC Tryz.prog (G m) [(88, .pure sDpA), (89, .pure sSzA), (90, .pure sVisA)]
@[simp] theorem CCk_P (m : Int) : (CCk m).P = Tryz.prog := rfl
@[simp] theorem CCk_1 (m : Int) : (CCk m).S 88 = .pure sDpA := rfl
@[simp] theorem CCk_2 (m : Int) : (CCk m).S 89 = .pure sSzA := rfl
@[simp] theorem CCk_3 (m : Int) : (CCk m).S 90 = .pure sVisA := rfl
theorem mixCCk (m : Int) : (CCk m).P.follows .mixedOrders = true := mixed
theorem sigCCk (m : Int) : SigOK (CCk m) := sigOK_cons (entryPure depthP_ Tryz.func88 rfl (by decide)) (sigOK_cons (entryPure sizeP_ Tryz.func89 rfl (by decide)) (sigOK_cons (entryPure visitP Tryz.func90 rfl (by decide)) (sigOK_nil _ _)))
theorem checkP : PureOK Tryz.prog (G m) 56 sChk := by
  refine pure1 (C := CCk m) (sigCCk m) (mixCCk m) Tryz.func56 rfl rfl rfl (by kernel_rfl) (by decide) (fun e hw => ?_)
  by_cases h1 : 24 < depthE e
  · simp [sDpA, hw, checkE, h1]
  by_cases h2 : 300 < sizeE e
  · simp [sDpA, sSzA, hw, checkE, h1, h2]
  · simp [sDpA, sSzA, sVisA, hw, checkE, h1, h2]
noncomputable def CRv (m : Int) (n : Nat) : Ctx := mkC Tryz.prog (G m) [(146, .pure sSelf), (125, .pure (sVis n))]
@[simp] theorem CRv_P (m : Int) (n : Nat) : (CRv m n).P = Tryz.prog := rfl
@[simp] theorem CRv_1 (m : Int) (n : Nat) : (CRv m n).S 146 = .pure sSelf := rfl
@[simp] theorem CRv_2 (m : Int) (n : Nat) : (CRv m n).S 125 = .pure (sVis n) := rfl
theorem mixCRv (m : Int) (n : Nat) : (CRv m n).P.follows .mixedOrders = true := mixed
theorem sigCRv {n : Nat} (h : PureOK Tryz.prog (G m) 125 (sVis n)) : SigOK (CRv m n) := sigOK_cons (entryPure selfR Tryz.func146 rfl (by decide)) (sigOK_cons (entryPure h Tryz.func125 rfl (by decide)) (sigOK_nil _ _))
set_option maxHeartbeats 8000000 in
theorem visitRn : ∀ n : Nat, PureOK Tryz.prog (G m) 125 (sVis n)
  | 0 => pure2_none fun e w h => by have := exp_pos e; omega
  | n + 1 => by
    refine pure2 (C := CRv m n) (sigCRv (visitRn n)) (mixCRv m n) Tryz.func125 rfl rfl rfl (by kernel_rfl) (by decide) (fun e w ⟨hw, hn⟩ => ?_)
    have hl := hw.len'
    have hv := hw.val
    rw [visitE_eq]
    by_cases hse : selfE e w = 0
    case neg => simp [sSelf, hv, hse]
    simp [sSelf, hv, hse]
    rcases em2 (e.op = 24) with c24 | c24 <;> simp only [c24, decide_true, decide_false, Bool.or_true, Bool.or_false] <;> cases w
    · refine loop_rule (C := CRv m n) (sigCRv (visitRn n)) (mixCRv m n) (fun i : Nat => ⟨[(1, .bool false), (2, .ptr 0 1 9 0 0), (6, .int .i64 i)], [EB e]⟩) (fun i => i ≤ e.kids.length ∧ visitL (e.kids.drop i) true = visitL e.kids true) (fun i => e.kids.length - i) (by kernel_rfl) ⟨0, by simp, weak_slots (by simp)⟩ (fun i ⟨hi, hs⟩ => ?_)
      by_cases hlt : i < e.kids.length
      · have i1 : I64 ((i : Int) + 1) := by unfold I64; omega
        have w1 := hw.kid _ (ix_mem hlt)
        have w2 : SizeOf.sizeOf (ix e.kids i) ≤ n := by have := exp_mem (ix_mem hlt); omega
        rw [visitL_drop hlt] at hs
        by_cases h0 : visitE (ix e.kids i) true = 0
        · rw [if_neg (by simp [h0])] at hs
          simp [EB, hlt, rowAt_enc hlt, sVis, w1, w2, hse, h0, i1, c24]
          exact ⟨i + 1, ⟨by omega, hs⟩, by omega, weak_slots (by simp)⟩
        · rw [if_pos h0] at hs
          simp [EB, hlt, rowAt_enc hlt, sVis, w1, w2, hse, h0, i1, ← hs, c24]
      · rw [List.drop_eq_nil_of_le (by omega), visitL] at hs
        simp [EB, hlt, ← hs, hse, c24]
    · refine loop_rule (C := CRv m n) (sigCRv (visitRn n)) (mixCRv m n) (fun i : Nat => ⟨[(1, .bool true), (2, .ptr 0 1 9 0 0), (6, .int .i64 i)], [EB e]⟩) (fun i => i ≤ e.kids.length ∧ visitL (e.kids.drop i) true = visitL e.kids true) (fun i => e.kids.length - i) (by kernel_rfl) ⟨0, by simp, weak_slots (by simp)⟩ (fun i ⟨hi, hs⟩ => ?_)
      by_cases hlt : i < e.kids.length
      · have i1 : I64 ((i : Int) + 1) := by unfold I64; omega
        have w1 := hw.kid _ (ix_mem hlt)
        have w2 : SizeOf.sizeOf (ix e.kids i) ≤ n := by have := exp_mem (ix_mem hlt); omega
        rw [visitL_drop hlt] at hs
        by_cases h0 : visitE (ix e.kids i) true = 0
        · rw [if_neg (by simp [h0])] at hs
          simp [EB, hlt, rowAt_enc hlt, sVis, w1, w2, hse, h0, i1, c24]
          exact ⟨i + 1, ⟨by omega, hs⟩, by omega, weak_slots (by simp)⟩
        · rw [if_pos h0] at hs
          simp [EB, hlt, rowAt_enc hlt, sVis, w1, w2, hse, h0, i1, ← hs, c24]
      · rw [List.drop_eq_nil_of_le (by omega), visitL] at hs
        simp [EB, hlt, ← hs, hse, c24]
    · refine loop_rule (C := CRv m n) (sigCRv (visitRn n)) (mixCRv m n) (fun i : Nat => ⟨[(1, .bool false), (2, .ptr 0 1 9 0 0), (6, .int .i64 i)], [EB e]⟩) (fun i => i ≤ e.kids.length ∧ visitL (e.kids.drop i) false = visitL e.kids false) (fun i => e.kids.length - i) (by kernel_rfl) ⟨0, by simp, weak_slots (by simp)⟩ (fun i ⟨hi, hs⟩ => ?_)
      by_cases hlt : i < e.kids.length
      · have i1 : I64 ((i : Int) + 1) := by unfold I64; omega
        have w1 := hw.kid _ (ix_mem hlt)
        have w2 : SizeOf.sizeOf (ix e.kids i) ≤ n := by have := exp_mem (ix_mem hlt); omega
        rw [visitL_drop hlt] at hs
        by_cases h0 : visitE (ix e.kids i) false = 0
        · rw [if_neg (by simp [h0])] at hs
          simp [EB, hlt, rowAt_enc hlt, sVis, w1, w2, hse, h0, i1, c24]
          exact ⟨i + 1, ⟨by omega, hs⟩, by omega, weak_slots (by simp)⟩
        · rw [if_pos h0] at hs
          simp [EB, hlt, rowAt_enc hlt, sVis, w1, w2, hse, h0, i1, ← hs, c24]
      · rw [List.drop_eq_nil_of_le (by omega), visitL] at hs
        simp [EB, hlt, ← hs, hse, c24]
    · refine loop_rule (C := CRv m n) (sigCRv (visitRn n)) (mixCRv m n) (fun i : Nat => ⟨[(1, .bool true), (2, .ptr 0 1 9 0 0), (6, .int .i64 i)], [EB e]⟩) (fun i => i ≤ e.kids.length ∧ visitL (e.kids.drop i) true = visitL e.kids true) (fun i => e.kids.length - i) (by kernel_rfl) ⟨0, by simp, weak_slots (by simp)⟩ (fun i ⟨hi, hs⟩ => ?_)
      by_cases hlt : i < e.kids.length
      · have i1 : I64 ((i : Int) + 1) := by unfold I64; omega
        have w1 := hw.kid _ (ix_mem hlt)
        have w2 : SizeOf.sizeOf (ix e.kids i) ≤ n := by have := exp_mem (ix_mem hlt); omega
        rw [visitL_drop hlt] at hs
        by_cases h0 : visitE (ix e.kids i) true = 0
        · rw [if_neg (by simp [h0])] at hs
          simp [EB, hlt, rowAt_enc hlt, sVis, w1, w2, hse, h0, i1, c24]
          exact ⟨i + 1, ⟨by omega, hs⟩, by omega, weak_slots (by simp)⟩
        · rw [if_pos h0] at hs
          simp [EB, hlt, rowAt_enc hlt, sVis, w1, w2, hse, h0, i1, ← hs, c24]
      · rw [List.drop_eq_nil_of_le (by omega), visitL] at hs
        simp [EB, hlt, ← hs, hse, c24]
theorem visitR : PureOK Tryz.prog (G m) 125 sVisA := pure2_all (fun e _ => SizeOf.sizeOf e) fun n => visitRn n
noncomputable def CCr (m : Int) : Ctx := mkC Tryz.prog (G m) [(124, .pure sDpA), (17, .pure sSzA), (125, .pure sVisA)]
@[simp] theorem CCr_P (m : Int) : (CCr m).P = Tryz.prog := rfl
@[simp] theorem CCr_1 (m : Int) : (CCr m).S 124 = .pure sDpA := rfl
@[simp] theorem CCr_2 (m : Int) : (CCr m).S 17 = .pure sSzA := rfl
@[simp] theorem CCr_3 (m : Int) : (CCr m).S 125 = .pure sVisA := rfl
theorem mixCCr (m : Int) : (CCr m).P.follows .mixedOrders = true := mixed
theorem sigCCr (m : Int) : SigOK (CCr m) := sigOK_cons (entryPure depthR_ Tryz.func124 rfl (by decide)) (sigOK_cons (entryPure sizeR_ Tryz.func17 rfl (by decide)) (sigOK_cons (entryPure visitR Tryz.func125 rfl (by decide)) (sigOK_nil _ _)))
theorem checkR : PureOK Tryz.prog (G m) 95 sChk := by
  refine pure1 (C := CCr m) (sigCCr m) (mixCCr m) Tryz.func95 rfl rfl rfl (by kernel_rfl) (by decide) (fun e hw => ?_)
  by_cases h1 : 24 < depthE e
  · simp [sDpA, hw, checkE, h1]
  by_cases h2 : 300 < sizeE e
  · simp [sDpA, sSzA, hw, checkE, h1, h2]
  · simp [sDpA, sSzA, sVisA, hw, checkE, h1, h2]
end
end Go.Proofs.YtgjljfbohpnfcaaGreat


namespace Go.Proofs.YtgjljfbohpnfcaaGreat
open Go.RowKit
set_option linter.unusedSimpArgs false
set_option linter.unusedVariables false
set_option maxRecDepth 100000
theorem any_hop (l : List EdgePat) : l.any (hopT true) = !l.all hopB := by
  induction l with
  | nil => rfl
  | cons x r ih => rw [List.any_cons, List.all_cons, ih]; simp [hopT]
theorem any_cre (l : List EdgePat) : l.any (hopT false) = !l.all creB := by
  induction l with
  | nil => rfl
  | cons x r ih => rw [List.any_cons, List.all_cons, ih]; simp [hopT]
theorem partsL_wf : ∀ (ns : List NodePat) (es : List EdgePat), (∀ n ∈ ns, WfN n) → (∀ e ∈ es, WfG e) → ∀ x ∈ partsL ns es, WfN x
  | [], es, _, _, x, h => by simp [partsL] at h
  | n :: ns, [], hn, he, x, h => by
    simp only [partsL, List.mem_cons] at h
    rcases h with rfl | h
    · exact hn _ (by simp)
    · exact partsL_wf ns [] (fun y hy => hn y (by simp [hy])) he x h
  | n :: ns, e :: es, hn, he, x, h => by
    simp only [partsL, List.mem_cons] at h
    rcases h with rfl | rfl | h
    · exact hn _ (by simp)
    · exact he e (by simp)
    · exact partsL_wf ns es (fun y hy => hn y (by simp [hy])) (fun y hy => he y (by simp [hy])) x h
theorem aggQ_drop {l : List PropPat} {i : Nat} (h : i < l.length) : aggQ (l.drop i) = (aggE (ix l i).e || aggQ (l.drop (i + 1))) := any_drop h
theorem aggPs_drop {l : List NodePat} {i : Nat} (h : i < l.length) : aggPs (l.drop i) = (aggQ (ix l i).props || aggPs (l.drop (i + 1))) := any_drop h
theorem small_max {n : Nat} (h : n ≤ 1048576) : n ≤ maxLen := by unfold maxLen; omega
section
variable {m : Int}
noncomputable def CPa (m : Int) : Ctx := mkC Tryz.prog (G m) [(77, .pure sLg), (78, .pure sCoE), (81, .pure sPt), (82, .pure sWord), (83, .pure sWs), (84, .pure sKs), (85, .pure sRs), (56, .pure sChk), (61, .pure sHasA)]
@[simp] theorem CPa_P (m : Int) : (CPa m).P = Tryz.prog := rfl
@[simp] theorem CPa_1 (m : Int) : (CPa m).S 77 = .pure sLg := rfl
@[simp] theorem CPa_2 (m : Int) : (CPa m).S 78 = .pure sCoE := rfl
@[simp] theorem CPa_3 (m : Int) : (CPa m).S 81 = .pure sPt := rfl
@[simp] theorem CPa_4 (m : Int) : (CPa m).S 82 = .pure sWord := rfl
@[simp] theorem CPa_5 (m : Int) : (CPa m).S 83 = .pure sWs := rfl
@[simp] theorem CPa_6 (m : Int) : (CPa m).S 84 = .pure sKs := rfl
@[simp] theorem CPa_7 (m : Int) : (CPa m).S 85 = .pure sRs := rfl
@[simp] theorem CPa_8 (m : Int) : (CPa m).S 56 = .pure sChk := rfl
@[simp] theorem CPa_9 (m : Int) : (CPa m).S 61 = .pure sHasA := rfl
theorem mixCPa (m : Int) : (CPa m).P.follows .mixedOrders = true := mixed
theorem sigCPa (m : Int) : SigOK (CPa m) := sigOK_cons (entryPure longP Tryz.func77 rfl (by decide)) (sigOK_cons (entryPure coE Tryz.func78 rfl (by decide)) (sigOK_cons (entryPure partsP Tryz.func81 rfl (by decide)) (sigOK_cons (entryPure wordP Tryz.func82 rfl (by decide)) (sigOK_cons (entryPure wordsP Tryz.func83 rfl (by decide)) (sigOK_cons (entryPure keysP Tryz.func84 rfl (by decide)) (sigOK_cons (entryPure risesP Tryz.func85 rfl (by decide)) (sigOK_cons (entryPure checkP Tryz.func56 rfl (by decide)) (sigOK_cons (entryPure hasP Tryz.func61 rfl (by decide)) (sigOK_nil _ _)))))))))
def sPathC : List AV → Option (Prop × AV) := spec2 (fun (p : PathPat) (_ : Bool) => WfP p) (fun p c => .int .i64 (pathE p c))
set_option maxHeartbeats 16000000 in
theorem checkPathP : PureOK Tryz.prog (G m) 55 sPathC := by
  refine pure2 (C := CPa m) (sigCPa m) (mixCPa m) Tryz.func55 rfl rfl rfl (by kernel_rfl) (by decide) (fun p c ⟨wv, ⟨wn, wN⟩, we, wE⟩ => ?_)
  cases hl : longB p
  case true => simp [sLg, we, hl, pathE]
  have hel : p.edges.length ≤ 6 := by
    unfold longB at hl
    simp only [Bool.or_eq_false_iff, decide_eq_false_iff_not] at hl
    omega
  have i0 : I64 ((p.edges.length : Int) + 1) := by unfold I64; omega
  by_cases h2 : p.nodes.length = p.edges.length + 1
  case neg =>
    have h2' : ((p.nodes.length : Int) = (p.edges.length : Int) + 1) = False := eq_false (by omega)
    simp [sLg, we, hl, i0, h2, h2', pathE]
  have h2' : ((p.nodes.length : Int) = (p.edges.length : Int) + 1) = True := eq_true (by omega)
  cases h3 : p.edges.all hopB
  case false => simp [sLg, sCoE, we, hl, i0, h2', any_hop, h3, pathE]
  obtain ⟨P, hP⟩ : ∃ P, P = partsL p.nodes p.edges := ⟨_, rfl⟩
  have hwf : ∀ x ∈ P, WfN x := by rw [hP]; exact partsL_wf _ _ wN wE
  have hPl : P.length ≤ 2097152 := by have := partsL_len p.nodes p.edges; rw [← hP] at this; omega
  obtain ⟨OK, hOK⟩ : ∃ b, b = P.all partOK := ⟨_, rfl⟩
  obtain ⟨UP, hUP⟩ : ∃ b, b = P.all partUp := ⟨_, rfl⟩
  obtain ⟨CR, hCR⟩ : ∃ b, b = p.edges.all creB := ⟨_, rfl⟩
  have hpath : pathE p c = if freeB p.var = false then 6 else if OK = false then 6 else if UP = false then 26 else if errPs P ≠ 0 then errPs P else if aggPs P = true then 9 else if c = true ∧ CR = false then 1 else 0 := by
    rw [hOK, hUP, hCR]
    unfold pathE
    rw [if_neg (by rw [hl]; simp), if_neg (by rw [h3]; simp [h2]), ← hP]
  rw [hpath]
  have hfree : freeB p.var = (decide (p.var = ⟨#[]⟩) || wordB p.var) := rfl
  have hstart : freeB p.var = false ∨ (freeB p.var = true ∧ ((p.var = ⟨#[]⟩) = True ∨ ((p.var = ⟨#[]⟩) = False ∧ wordB p.var = true))) := by
    rcases em2 (p.var = ⟨#[]⟩) with h | h <;> cases h' : wordB p.var <;> simp [hfree, h, h']
  rcases hstart with hf | ⟨hf, hv⟩
  · have hv1 : (p.var = ⟨#[]⟩) = False := by rcases em2 (p.var = ⟨#[]⟩) with h | h <;> simp_all [freeB]
    have hv2 : wordB p.var = false := by cases h : wordB p.var <;> simp_all [freeB]
    simp [sLg, sCoE, sPt, sWord, we, wn, hl, i0, h2', any_hop, h3, ← hP, hf, hv1, hv2]
  rcases hv with hv | ⟨hv, hv2⟩
  · simp [sLg, sCoE, sPt, sWord, we, wn, hl, i0, h2', any_hop, h3, ← hP, hf, hv, hv]
    refine loop_rule (C := CPa m) (sigCPa m) (mixCPa m) (fun i : Nat => ⟨[(1, .bool c), (2, .ptr 0 1 3 0 0), (5, Enc.enc P), (42, Enc.enc P), (43, .int .i64 P.length), (44, .int .i64 i)], [PB p]⟩) (fun i => i ≤ P.length ∧ (P.drop i).all partOK = OK) (fun i => P.length - i) (by kernel_rfl) ⟨0, ⟨by omega, by rw [hOK]; rfl⟩, weak_slots (by simp)⟩ (fun i ⟨hi, hs⟩ => ?_)
    by_cases hlt : i < P.length
    · have i1 : I64 ((i : Int) + 1) := by unfold I64; omega
      obtain ⟨w1, ⟨w2, w3⟩, w4, w5⟩ := hwf _ (ix_mem hlt)
      have w6 : (keysL (ix P i).props).length ≤ maxLen := by unfold keysL; rw [List.length_map]; exact small_max w4
      rw [all_drop hlt] at hs
      cases hok : partOK (ix P i)
      · rw [hok, Bool.false_and] at hs
        rcases em2 ((ix P i).var = ⟨#[]⟩) with v1 | v1 <;> cases v2 : wordB (ix P i).var <;> cases v3 : (ix P i).labels.all wordB <;> cases v4 : (keysL (ix P i).props).all wordB <;> first | (exfalso; simp [partOK, freeB, v1, v2, v3, v4] at hok; done) | simp [PB, hlt, rowAt_enc hlt, sWord, sWs, sKs, w2, w4, w6, v1, v2, v3, v4, ← hs]
      · rw [hok, Bool.true_and] at hs
        rcases em2 ((ix P i).var = ⟨#[]⟩) with v1 | v1 <;> cases v2 : wordB (ix P i).var <;> cases v3 : (ix P i).labels.all wordB <;> cases v4 : (keysL (ix P i).props).all wordB <;> first | (exfalso; simp [partOK, freeB, v1, v2, v3, v4] at hok; done) | (simp [PB, hlt, rowAt_enc hlt, sWord, sWs, sKs, w2, w4, w6, v1, v2, v3, v4, i1]; exact ⟨i + 1, ⟨by omega, hs⟩, by omega, weak_keep 1 (by simp) (by simp) (by simp [AV.clean, AV.clean1]) (by simp) (by simp [PB])⟩)
    rw [List.drop_eq_nil_of_le (by omega), List.all_nil] at hs
    simp [PB, hlt, ← hs]
    refine loop_rule (C := CPa m) (sigCPa m) (mixCPa m) (fun i : Nat => ⟨[(1, .bool c), (2, .ptr 0 1 3 0 0), (5, Enc.enc P), (71, Enc.enc P), (72, .int .i64 P.length), (73, .int .i64 i)], [PB p]⟩) (fun i => i ≤ P.length ∧ (P.drop i).all partUp = UP) (fun i => P.length - i) (by kernel_rfl) ⟨0, ⟨by omega, by rw [hUP]; rfl⟩, weak_slots (by simp [PB])⟩ (fun i ⟨hi, hs2⟩ => ?_)
    by_cases hlt : i < P.length
    · have i1 : I64 ((i : Int) + 1) := by unfold I64; omega
      obtain ⟨w1, ⟨w2, w3⟩, w4, w5⟩ := hwf _ (ix_mem hlt)
      have w6 : (keysL (ix P i).props).length ≤ maxLen := by unfold keysL; rw [List.length_map]; exact small_max w4
      rw [all_drop hlt] at hs2
      cases hok : partUp (ix P i)
      · rw [hok, Bool.false_and] at hs2
        cases v3 : risesB (ix P i).labels <;> cases v4 : risesB (keysL (ix P i).props) <;> first | (exfalso; simp [partUp, v3, v4] at hok; done) | simp [PB, hlt, rowAt_enc hlt, sRs, sKs, w2, w4, w6, v3, v4, ← hs, ← hs2]
      · rw [hok, Bool.true_and] at hs2
        cases v3 : risesB (ix P i).labels <;> cases v4 : risesB (keysL (ix P i).props) <;> first | (exfalso; simp [partUp, v3, v4] at hok; done) | (simp [PB, hlt, rowAt_enc hlt, sRs, sKs, w2, w4, w6, v3, v4, i1]; exact ⟨i + 1, ⟨by omega, hs2⟩, by omega, weak_keep 1 (by simp) (by simp) (by simp [AV.clean, AV.clean1]) (by simp) (by simp [PB])⟩)
    rw [List.drop_eq_nil_of_le (by omega), List.all_nil] at hs2
    simp [PB, hlt, ← hs, ← hs2]
    refine loop_rule (C := CPa m) (sigCPa m) (mixCPa m) (fun q : Nat × HopF => ⟨[(1, .bool c), (2, .ptr 0 1 3 0 0), (10, .bool q.2.v), (89, Enc.enc P), (90, .int .i64 P.length), (91, .int .i64 q.1)], [PB p]⟩) (fun q => q.1 ≤ P.length ∧ errPs (P.drop q.1) = errPs P ∧ (q.2.v || aggPs (P.drop q.1)) = aggPs P) (fun q => P.length - q.1) (by kernel_rfl) ⟨(0, ⟨false⟩), by simp, weak_slots (by simp [PB])⟩ (fun ⟨i, ⟨a⟩⟩ ⟨hi, he, ha⟩ => ?_)
    simp only at hi he ha ⊢
    by_cases hlt : i < P.length
    · have i1 : I64 ((i : Int) + 1) := by unfold I64; omega
      obtain ⟨w1, ⟨w2, w3⟩, w4, w5⟩ := hwf _ (ix_mem hlt)
      rw [errPs_drop hlt] at he
      rw [aggPs_drop hlt] at ha
      simp [PB, hlt, rowAt_enc hlt]
      refine loop_rule (C := CPa m) (sigCPa m) (mixCPa m) (fun q : Nat × HopF => ⟨[(1, .bool c), (2, .ptr 0 1 3 0 0), (10, .bool q.2.v), (89, Enc.enc P), (90, .int .i64 P.length), (91, .int .i64 i), (96, Enc.enc (ix P i).props), (97, .int .i64 (ix P i).props.length), (98, .int .i64 q.1)], [PB p]⟩) (fun q => q.1 ≤ (ix P i).props.length ∧ errQ ((ix P i).props.drop q.1) = errQ (ix P i).props ∧ (q.2.v || aggQ ((ix P i).props.drop q.1)) = (a || aggQ (ix P i).props)) (fun q => (ix P i).props.length - q.1) (by kernel_rfl) ⟨(0, ⟨a⟩), by simp, weak_keep 1 (by simp) (by simp) (by simp [AV.clean, AV.clean1]) (by simp) (by simp [PB])⟩ (fun ⟨k, ⟨b⟩⟩ ⟨hk, hke, hka⟩ => ?_)
      simp only at hk hke hka ⊢
      by_cases hkl : k < (ix P i).props.length
      · have i2 : I64 ((k : Int) + 1) := by unfold I64; omega
        obtain ⟨w6, w7⟩ := w5 _ (ix_mem hkl)
        rw [errQ_drop hkl] at hke
        rw [aggQ_drop hkl] at hka
        by_cases hc0 : checkE (ix (ix P i).props k).e = 0
        · rw [if_neg (by rw [hc0]; simp)] at hke
          cases b
          · rw [Bool.false_or] at hka
            simp [PB, hkl, rowAt_enc hkl, sChk, sHasA, w7, hc0, i2]
            exact ⟨k + 1, ⟨aggE (ix (ix P i).props k).e⟩, ⟨by omega, hke, hka⟩, by omega, weak_keep 1 (by simp) (by simp) (by simp [AV.clean, AV.clean1]) (by simp) (by simp [PB])⟩
          · rw [Bool.true_or] at hka
            simp [PB, hkl, rowAt_enc hkl, sChk, sHasA, w7, hc0, i2]
            exact ⟨k + 1, ⟨true⟩, ⟨by omega, hke, by rw [Bool.true_or]; exact hka⟩, by omega, weak_keep 1 (by simp) (by simp) (by simp [AV.clean, AV.clean1]) (by simp) (by simp [PB])⟩
        · rw [if_pos hc0] at hke
          rw [← hke, if_pos hc0] at he
          simp [PB, hkl, rowAt_enc hkl, sChk, w7, hc0, ← hs, ← hs2, ← he]
      · rw [List.drop_eq_nil_of_le (by omega), errQ] at hke
        rw [List.drop_eq_nil_of_le (by omega), show aggQ [] = false from rfl, Bool.or_false] at hka
        rw [← hke, if_neg (by simp)] at he
        rw [← Bool.or_assoc, ← hka] at ha
        simp [PB, hkl, i1]
        exact ⟨i + 1, ⟨b⟩, ⟨by omega, he, ha⟩, by omega, weak_slots (by simp [PB])⟩
    rw [List.drop_eq_nil_of_le (by omega), errPs] at he
    rw [List.drop_eq_nil_of_le (by omega), show aggPs [] = false from rfl, Bool.or_false] at ha
    cases a
    case true => simp [PB, hlt, ← hs, ← hs2, ← he, ← ha]
    cases c
    case false => simp [PB, hlt, ← hs, ← hs2, ← he, ← ha]
    cases CR <;> simp [PB, hlt, ← hs, ← hs2, ← he, ← ha, sCoE, we, any_cre, ← hCR]
  · simp [sLg, sCoE, sPt, sWord, we, wn, hl, i0, h2', any_hop, h3, ← hP, hf, hv, hv2]
    refine loop_rule (C := CPa m) (sigCPa m) (mixCPa m) (fun i : Nat => ⟨[(1, .bool c), (2, .ptr 0 1 3 0 0), (5, Enc.enc P), (42, Enc.enc P), (43, .int .i64 P.length), (44, .int .i64 i)], [PB p]⟩) (fun i => i ≤ P.length ∧ (P.drop i).all partOK = OK) (fun i => P.length - i) (by kernel_rfl) ⟨0, ⟨by omega, by rw [hOK]; rfl⟩, weak_slots (by simp)⟩ (fun i ⟨hi, hs⟩ => ?_)
    by_cases hlt : i < P.length
    · have i1 : I64 ((i : Int) + 1) := by unfold I64; omega
      obtain ⟨w1, ⟨w2, w3⟩, w4, w5⟩ := hwf _ (ix_mem hlt)
      have w6 : (keysL (ix P i).props).length ≤ maxLen := by unfold keysL; rw [List.length_map]; exact small_max w4
      rw [all_drop hlt] at hs
      cases hok : partOK (ix P i)
      · rw [hok, Bool.false_and] at hs
        rcases em2 ((ix P i).var = ⟨#[]⟩) with v1 | v1 <;> cases v2 : wordB (ix P i).var <;> cases v3 : (ix P i).labels.all wordB <;> cases v4 : (keysL (ix P i).props).all wordB <;> first | (exfalso; simp [partOK, freeB, v1, v2, v3, v4] at hok; done) | simp [PB, hlt, rowAt_enc hlt, sWord, sWs, sKs, w2, w4, w6, v1, v2, v3, v4, ← hs]
      · rw [hok, Bool.true_and] at hs
        rcases em2 ((ix P i).var = ⟨#[]⟩) with v1 | v1 <;> cases v2 : wordB (ix P i).var <;> cases v3 : (ix P i).labels.all wordB <;> cases v4 : (keysL (ix P i).props).all wordB <;> first | (exfalso; simp [partOK, freeB, v1, v2, v3, v4] at hok; done) | (simp [PB, hlt, rowAt_enc hlt, sWord, sWs, sKs, w2, w4, w6, v1, v2, v3, v4, i1]; exact ⟨i + 1, ⟨by omega, hs⟩, by omega, weak_keep 1 (by simp) (by simp) (by simp [AV.clean, AV.clean1]) (by simp) (by simp [PB])⟩)
    rw [List.drop_eq_nil_of_le (by omega), List.all_nil] at hs
    simp [PB, hlt, ← hs]
    refine loop_rule (C := CPa m) (sigCPa m) (mixCPa m) (fun i : Nat => ⟨[(1, .bool c), (2, .ptr 0 1 3 0 0), (5, Enc.enc P), (71, Enc.enc P), (72, .int .i64 P.length), (73, .int .i64 i)], [PB p]⟩) (fun i => i ≤ P.length ∧ (P.drop i).all partUp = UP) (fun i => P.length - i) (by kernel_rfl) ⟨0, ⟨by omega, by rw [hUP]; rfl⟩, weak_slots (by simp [PB])⟩ (fun i ⟨hi, hs2⟩ => ?_)
    by_cases hlt : i < P.length
    · have i1 : I64 ((i : Int) + 1) := by unfold I64; omega
      obtain ⟨w1, ⟨w2, w3⟩, w4, w5⟩ := hwf _ (ix_mem hlt)
      have w6 : (keysL (ix P i).props).length ≤ maxLen := by unfold keysL; rw [List.length_map]; exact small_max w4
      rw [all_drop hlt] at hs2
      cases hok : partUp (ix P i)
      · rw [hok, Bool.false_and] at hs2
        cases v3 : risesB (ix P i).labels <;> cases v4 : risesB (keysL (ix P i).props) <;> first | (exfalso; simp [partUp, v3, v4] at hok; done) | simp [PB, hlt, rowAt_enc hlt, sRs, sKs, w2, w4, w6, v3, v4, ← hs, ← hs2]
      · rw [hok, Bool.true_and] at hs2
        cases v3 : risesB (ix P i).labels <;> cases v4 : risesB (keysL (ix P i).props) <;> first | (exfalso; simp [partUp, v3, v4] at hok; done) | (simp [PB, hlt, rowAt_enc hlt, sRs, sKs, w2, w4, w6, v3, v4, i1]; exact ⟨i + 1, ⟨by omega, hs2⟩, by omega, weak_keep 1 (by simp) (by simp) (by simp [AV.clean, AV.clean1]) (by simp) (by simp [PB])⟩)
    rw [List.drop_eq_nil_of_le (by omega), List.all_nil] at hs2
    simp [PB, hlt, ← hs, ← hs2]
    refine loop_rule (C := CPa m) (sigCPa m) (mixCPa m) (fun q : Nat × HopF => ⟨[(1, .bool c), (2, .ptr 0 1 3 0 0), (10, .bool q.2.v), (89, Enc.enc P), (90, .int .i64 P.length), (91, .int .i64 q.1)], [PB p]⟩) (fun q => q.1 ≤ P.length ∧ errPs (P.drop q.1) = errPs P ∧ (q.2.v || aggPs (P.drop q.1)) = aggPs P) (fun q => P.length - q.1) (by kernel_rfl) ⟨(0, ⟨false⟩), by simp, weak_slots (by simp [PB])⟩ (fun ⟨i, ⟨a⟩⟩ ⟨hi, he, ha⟩ => ?_)
    simp only at hi he ha ⊢
    by_cases hlt : i < P.length
    · have i1 : I64 ((i : Int) + 1) := by unfold I64; omega
      obtain ⟨w1, ⟨w2, w3⟩, w4, w5⟩ := hwf _ (ix_mem hlt)
      rw [errPs_drop hlt] at he
      rw [aggPs_drop hlt] at ha
      simp [PB, hlt, rowAt_enc hlt]
      refine loop_rule (C := CPa m) (sigCPa m) (mixCPa m) (fun q : Nat × HopF => ⟨[(1, .bool c), (2, .ptr 0 1 3 0 0), (10, .bool q.2.v), (89, Enc.enc P), (90, .int .i64 P.length), (91, .int .i64 i), (96, Enc.enc (ix P i).props), (97, .int .i64 (ix P i).props.length), (98, .int .i64 q.1)], [PB p]⟩) (fun q => q.1 ≤ (ix P i).props.length ∧ errQ ((ix P i).props.drop q.1) = errQ (ix P i).props ∧ (q.2.v || aggQ ((ix P i).props.drop q.1)) = (a || aggQ (ix P i).props)) (fun q => (ix P i).props.length - q.1) (by kernel_rfl) ⟨(0, ⟨a⟩), by simp, weak_keep 1 (by simp) (by simp) (by simp [AV.clean, AV.clean1]) (by simp) (by simp [PB])⟩ (fun ⟨k, ⟨b⟩⟩ ⟨hk, hke, hka⟩ => ?_)
      simp only at hk hke hka ⊢
      by_cases hkl : k < (ix P i).props.length
      · have i2 : I64 ((k : Int) + 1) := by unfold I64; omega
        obtain ⟨w6, w7⟩ := w5 _ (ix_mem hkl)
        rw [errQ_drop hkl] at hke
        rw [aggQ_drop hkl] at hka
        by_cases hc0 : checkE (ix (ix P i).props k).e = 0
        · rw [if_neg (by rw [hc0]; simp)] at hke
          cases b
          · rw [Bool.false_or] at hka
            simp [PB, hkl, rowAt_enc hkl, sChk, sHasA, w7, hc0, i2]
            exact ⟨k + 1, ⟨aggE (ix (ix P i).props k).e⟩, ⟨by omega, hke, hka⟩, by omega, weak_keep 1 (by simp) (by simp) (by simp [AV.clean, AV.clean1]) (by simp) (by simp [PB])⟩
          · rw [Bool.true_or] at hka
            simp [PB, hkl, rowAt_enc hkl, sChk, sHasA, w7, hc0, i2]
            exact ⟨k + 1, ⟨true⟩, ⟨by omega, hke, by rw [Bool.true_or]; exact hka⟩, by omega, weak_keep 1 (by simp) (by simp) (by simp [AV.clean, AV.clean1]) (by simp) (by simp [PB])⟩
        · rw [if_pos hc0] at hke
          rw [← hke, if_pos hc0] at he
          simp [PB, hkl, rowAt_enc hkl, sChk, w7, hc0, ← hs, ← hs2, ← he]
      · rw [List.drop_eq_nil_of_le (by omega), errQ] at hke
        rw [List.drop_eq_nil_of_le (by omega), show aggQ [] = false from rfl, Bool.or_false] at hka
        rw [← hke, if_neg (by simp)] at he
        rw [← Bool.or_assoc, ← hka] at ha
        simp [PB, hkl, i1]
        exact ⟨i + 1, ⟨b⟩, ⟨by omega, he, ha⟩, by omega, weak_slots (by simp [PB])⟩
    rw [List.drop_eq_nil_of_le (by omega), errPs] at he
    rw [List.drop_eq_nil_of_le (by omega), show aggPs [] = false from rfl, Bool.or_false] at ha
    cases a
    case true => simp [PB, hlt, ← hs, ← hs2, ← he, ← ha]
    cases c
    case false => simp [PB, hlt, ← hs, ← hs2, ← he, ← ha]
    cases CR <;> simp [PB, hlt, ← hs, ← hs2, ← he, ← ha, sCoE, we, any_cre, ← hCR]
end
end Go.Proofs.YtgjljfbohpnfcaaGreat


namespace Go.Proofs.YtgjljfbohpnfcaaGreat
open Go.RowKit
set_option linter.unusedSimpArgs false
set_option linter.unusedVariables false
set_option maxRecDepth 100000
section
variable {C : Ctx} {N h0 : Nat}
theorem AW_cut {a b : Code} {st : ASt} {Q : Exit → ASt → Prop} (S : ASt) (h1 : AW C N h0 a st (fun ex st' => ex = .normal ∧ Weak C N h0 st' S)) (h2 : AW C N h0 b S Q) : AW C N h0 (.seq a b) st Q :=
  AW_seq fun X w0 β0 H0 x w hl hr => Code.wp_mono (fun ex a' w' ⟨st', ⟨he, hw⟩, hr'⟩ => by
    subst he
    exact ⟨S, h2, hw X w0 β0 H0 a' w' hl hr'⟩) (h1 X w0 β0 H0 x w hl hr)
theorem AW_cond {c : Operand} {x y : Code} {st : ASt} {Q : Exit → ASt → Prop} (b : Bool) (hb : aev C st.ρ 0 c = .bool b) (ht : b = true → AW C N h0 x st Q) (hf : b = false → AW C N h0 y st Q) : AW C N h0 (.cond c x y) st Q := fun X w0 β0 H0 a w hl hr => by
  have hr0 := hr
  obtain ⟨β, R, S0, Tr, G, hN, hdef⟩ := hr0
  have hE := aev_sound Tr G 0 c
  rw [hb] at hE
  exact wp_cond_split (rep_bool hE) (fun h => ht h X w0 β0 H0 a w hl hr) (fun h => hf h X w0 β0 H0 a w hl hr)
theorem pure1W {α : Type} [Enc α] {f : FuncId} {fn : Func} {body : Code} {rs : List ResultVar} {n : Nat} (hf : C.P.funcs[f]? = some fn) (hb : fn.body = some body) (hrs : fn.results.toList = rs) (hn : fn.ntmps = n) (hnn : 1 ≤ n) {pre : α → Prop} {res : α → AV} (h : ∀ a, pre a → AW C n 0 body ⟨[(0, Enc.enc a)], []⟩ (postP C rs (res a))) : PureOK C.P C.G f (spec1 pre res) :=
  pure_of_AW hf hb hrs hn fun avs ob r' hp hob => by
    unfold spec1 at hp
    split at hp
    · injection hp with hp; injection hp with e1 e2; subst e1 e2
      refine ⟨hnn, ?_⟩
      have := h _ hob.2
      rw [← hob.1] at this
      exact this
    · cases hp
end
structure PCl where
  c : Clause
instance : Enc PCl where
  sz := 1
  cells p := [.iptr (Enc.cells p.c)]
  enc p := .iptr (Enc.cells p.c)
  unc l := match l with | [.iptr c] => ⟨Enc.unc c⟩ | _ => ⟨default⟩
  dec v := match v with | .iptr c => ⟨Enc.unc c⟩ | _ => ⟨default⟩
  unc_cells p := by simp only [Enc.unc_cells]
  dec_enc p := by simp only [Enc.unc_cells]
@[simp] theorem enc_pcl (p : PCl) : Enc.enc p = .iptr (Enc.cells p.c) := rfl
@[simp] theorem dec_pcl (l : List AV) : (Enc.dec (.iptr l) : PCl) = ⟨Enc.unc l⟩ := rfl
theorem dec_ints (s : Nat) (f : Bool) (rows : List (List AV)) : (Enc.dec (.slice s f rows) : List Int) = rows.map Enc.unc := rfl
def isK (l : List Int) (n : Int) : Bool := l.any fun x => decide (n = x)
def zeroE (e : Expr) : Bool := decide (e.op = 0) && zeroV e.v && decide (e.name = ⟨#[]⟩) && !e.dist && decide (e.kids = [])
def absB (n : Int) : Bool := decide (n = 0) || decide (n = -1)
def inRg (n lo hi : Int) : Bool := decide (lo ≤ n) && decide (n ≤ hi)
def colsB (c : Clause) : Bool := isK [3, 4] c.kind
def strayA (c : Clause) : Bool := (c.opt && !isK [1, 8] c.kind) || (c.dist && !colsB c)
def strayC (c : Clause) : Bool := (decide (0 < c.paths.length) && !isK [1, 5, 6] c.kind) || (decide (0 < c.wh.length) && !isK [1, 3] c.kind)
def strayE (c : Clause) : Bool := (!isK [2] c.kind && (!zeroE c.e || !decide (c.name = ⟨#[]⟩))) || (!colsB c && (decide (0 < c.items.length) || decide (0 < c.order.length)))
def strayG (c : Clause) : Bool := (!colsB c && (!absB c.skip || !absB c.limit)) || (decide (c.skip < -1) || decide (1000000000000000 < c.skip) || decide (c.limit < -1) || decide (1000000000000000 < c.limit))
def strayI (c : Clause) : Bool := (decide (0 < c.sets.length) && !isK [7] c.kind) || (decide (0 < c.names.length) && !isK [8] c.kind)
def strayB (c : Clause) : Bool := strayA c || (strayC c || (strayE c || (strayG c || strayI c)))
def CB (c : Clause) : Blk := ⟨57, 21, [[.int .i64 c.kind, .bool c.opt, .bool c.dist, .slice 3 false (encRows c.paths), .slice 9 false (encRows c.wh), .int .i64 c.e.op, .int .i64 c.e.v.kind, .int .i64 c.e.v.n, .int .i64 c.e.v.d, .str c.e.v.s, .slice 5 false (encRows c.e.v.l), .str c.e.name, .bool c.e.dist, .slice 9 false (encRows c.e.kids), .str c.name, .slice 10 false (encRows c.items), .slice 10 false (encRows c.order), .int .i64 c.skip, .int .i64 c.limit, .slice 13 false (encRows c.sets), .slice 1 false (encRows c.names)]], true, true⟩
section
variable {m : Int}
def sIxI : List AV → Option (Prop × AV) := spec2 (fun (l : List Int) (_ : Int) => l.length ≤ maxLen) (fun l n => .int .i64 (findAt (fun x => decide (n = x)) l 0))
set_option maxHeartbeats 4000000 in
theorem ixI : PureOK Tryz.prog (G m) 110 sIxI := by
  refine pure2 (C := CE m) (sigCE m) (mixCE m) Tryz.func110 rfl rfl rfl (by kernel_rfl) (by decide) (fun l n hl => ?_)
  have hl' := maxLen_le hl
  simp
  refine loop_rule (C := CE m) (sigCE m) (mixCE m) (fun i : Nat => ⟨[(0, Enc.enc l), (1, .int .i64 n), (7, .int .i64 l.length), (8, .int .i64 i)], []⟩) (fun i => i ≤ l.length ∧ findAt (fun x => decide (n = x)) (l.drop i) i = findAt (fun x => decide (n = x)) l 0) (fun i => l.length - i) (by kernel_rfl) ⟨0, by simp, weak_slots (by simp)⟩ (fun i ⟨hi, hs⟩ => ?_)
  by_cases hlt : i < l.length
  · have i1 : I64 ((i : Int) + 1) := by unfold I64; omega
    rw [findAt_drop hlt] at hs
    rcases em2 (n = ix l i) with h3 | h3
    · rw [if_pos (decide_eq_true (of_eq_true h3))] at hs
      simp [hlt, rowAt_enc hlt, h3, ← hs]
    · rw [if_neg (by simp only [decide_eq_true_eq]; exact of_eq_false h3)] at hs
      simp [hlt, rowAt_enc hlt, h3, i1]
      exact ⟨i + 1, ⟨by omega, hs⟩, by omega, weak_slots (by simp)⟩
  · rw [List.drop_eq_nil_of_le (by omega), findAt] at hs
    simp [hlt, ← hs]
def sCoI : List AV → Option (Prop × AV) := spec2 (fun (l : List Int) (_ : Int) => l.length ≤ maxLen) (fun l n => .bool (isK l n))
theorem coI : PureOK Tryz.prog (G m) 73 sCoI := by
  have sig : SigOK (mkC Tryz.prog (G m) [(110, .pure sIxI)]) := sigOK_cons (entryPure ixI Tryz.func110 rfl (by decide)) (sigOK_nil _ _)
  refine pure2 (C := mkC Tryz.prog (G m) [(110, .pure sIxI)]) sig mixed Tryz.func73 rfl rfl rfl (by kernel_rfl) (by decide) (fun l n hl => ?_)
  simp [sIxI, hl, findAt_iff, isK]
def sIs : List AV → Option (Prop × AV) := spec2 (fun (l : List Int) (_ : PCl) => l.length ≤ maxLen) (fun l p => .bool (isK l p.c.kind))
theorem isP : PureOK Tryz.prog (G m) 72 sIs := by
  have sig : SigOK (mkC Tryz.prog (G m) [(73, .pure sCoI)]) := sigOK_cons (entryPure coI Tryz.func73 rfl (by decide)) (sigOK_nil _ _)
  refine pure2 (C := mkC Tryz.prog (G m) [(73, .pure sCoI)]) sig mixed Tryz.func72 rfl rfl rfl (by kernel_rfl) (by decide) (fun l p hl => ?_)
  simp [sCoI, hl]
def sZE : List AV → Option (Prop × AV) := spec1 (fun (_ : Expr) => True) (fun e => .bool (zeroE e))
set_option maxHeartbeats 4000000 in
theorem zeroP : PureOK Tryz.prog (G m) 74 sZE := by
  have sig : SigOK (mkC Tryz.prog (G m) [(111, .pure sZ)]) := sigOK_cons (entryPure blankP Tryz.func111 rfl (by decide)) (sigOK_nil _ _)
  refine pure1 (C := mkC Tryz.prog (G m) [(111, .pure sZ)]) sig mixed Tryz.func74 rfl rfl rfl (by kernel_rfl) (by decide) (fun e _ => ?_)
  rcases em2 (e.op = 0) with h1 | h1
  case inr => simp [zeroE, h1]
  cases h2 : zeroV e.v
  case false => simp [zeroE, sZ, h1, h2]
  rcases em2 (e.name = ⟨#[]⟩) with h3 | h3
  case inr => simp [zeroE, sZ, h1, h2, h3]
  cases h4 : e.dist
  case true => simp [zeroE, sZ, h1, h2, h3, h4, eta_d h4]
  rcases em2 (e.kids = []) with h5 | h5 <;> simp [zeroE, sZ, h1, h2, h3, h4, eta_d h4, h5]
def sAb : List AV → Option (Prop × AV) := spec1 (fun (_ : Int) => True) (fun n => .bool (absB n))
theorem absP : PureOK Tryz.prog (G m) 75 sAb := by
  refine pure1 (C := CE m) (sigCE m) (mixCE m) Tryz.func75 rfl rfl rfl (by kernel_rfl) (by decide) (fun n _ => ?_)
  rcases em2 (n = 0) with h1 | h1 <;> rcases em2 (n = -1) with h2 | h2 <;> simp [absB, h1, h2]
def sIn3 : List AV → Option (Prop × AV) := spec3 (fun (_ _ _ : Int) => True) (fun n lo hi => .bool (inRg n lo hi))
theorem inRP : PureOK Tryz.prog (G m) 76 sIn3 := by
  refine pure3 (C := CE m) (sigCE m) (mixCE m) Tryz.func76 rfl rfl rfl (by kernel_rfl) (by decide) (fun n lo hi _ => ?_)
  by_cases h1 : lo ≤ n <;> by_cases h2 : n ≤ hi <;> simp [inRg, h1, h2]
noncomputable def CSt (m : Int) : Ctx := mkC Tryz.prog (G m) [(72, .pure sIs), (74, .pure sZE), (75, .pure sAb)]
@[simp] theorem CSt_P (m : Int) : (CSt m).P = Tryz.prog := rfl
@[simp] theorem CSt_1 (m : Int) : (CSt m).S 72 = .pure sIs := rfl
@[simp] theorem CSt_2 (m : Int) : (CSt m).S 74 = .pure sZE := rfl
@[simp] theorem CSt_3 (m : Int) : (CSt m).S 75 = .pure sAb := rfl
theorem mixCSt (m : Int) : (CSt m).P.follows .mixedOrders = true := mixed
theorem sigCSt (m : Int) : SigOK (CSt m) := sigOK_cons (entryPure isP Tryz.func72 rfl (by decide)) (sigOK_cons (entryPure zeroP Tryz.func74 rfl (by decide)) (sigOK_cons (entryPure absP Tryz.func75 rfl (by decide)) (sigOK_nil _ _)))
def stS (c : Clause) (t : Nat) (b : Bool) : ASt := ⟨[(1, .ptr 0 1 21 0 0), (3, .fn 72 [.ptr 0 1 21 0 0]), (4, .bool (colsB c)), (t, .bool b)], [CB c]⟩
def sStray : List AV → Option (Prop × AV) := spec1 (fun (_ : Clause) => True) (fun c => .bool (strayB c))
set_option maxHeartbeats 8000000 in
theorem strayP : PureOK Tryz.prog (G m) 52 sStray := by
  refine pure1W (C := CSt m) Tryz.func52 rfl rfl rfl (by decide) (fun c _ => ?_)
  have m1 : 1 ≤ maxLen := by unfold maxLen; omega
  have m2 : 2 ≤ maxLen := by unfold maxLen; omega
  have m3 : 3 ≤ maxLen := by unfold maxLen; omega
  refine AW_seq (avc_sound (sigCSt m) (mixCSt m) _ (by kernel_rfl) ?_)
  simp
  refine AW_seq (avc_sound (sigCSt m) (mixCSt m) _ (by kernel_rfl) ?_)
  simp
  refine AW_cut (stS c 4 (colsB c)) (avc_sound (sigCSt m) (mixCSt m) _ (by kernel_rfl) ?_) ?_
  · simp [sIs, dec_ints, unc_int, m2]
    exact weak_slots (by simp [stS, colsB, CB])
  refine AW_seq (AW_block ?_)
  refine AW_cut (stS c 9 (strayA c)) (avc_sound (sigCSt m) (mixCSt m) _ (by kernel_rfl) ?_) ?_
  · cases h1 : c.opt <;> cases h2 : isK [1, 8] c.kind <;> cases h3 : c.dist <;> cases h4 : colsB c <;> simp [stS, CB, sIs, sZE, sAb, dec_ints, unc_int, m1, m2, m3, strayA, h1, h2, h3, h4] <;> exact weak_slots (by simp [stS, CB, h1, h3, h4])
  refine AW_cond (strayA c) (by simp [stS]) (fun h => ?_) (fun h => ?_)
  · refine avc_sound (sigCSt m) (mixCSt m) _ (by kernel_rfl) ?_
    simp [stS, CB, sIs, sZE, sAb, dec_ints, unc_int, m1, m2, m3, strayB, h]
  refine AW_cut (stS c 24 (strayC c)) (avc_sound (sigCSt m) (mixCSt m) _ (by kernel_rfl) ?_) ?_
  · rcases em2 (0 < c.paths.length) with h1 | h1 <;> cases h2 : isK [1, 5, 6] c.kind <;> rcases em2 (0 < c.wh.length) with h3 | h3 <;> cases h4 : isK [1, 3] c.kind <;> simp [stS, CB, sIs, sZE, sAb, dec_ints, unc_int, m1, m2, m3, strayC, h1, h2, h3, h4] <;> exact weak_slots (by simp [stS, CB])
  refine AW_cond (strayC c) (by simp [stS]) (fun h' => ?_) (fun h' => ?_)
  · refine avc_sound (sigCSt m) (mixCSt m) _ (by kernel_rfl) ?_
    simp [stS, CB, sIs, sZE, sAb, dec_ints, unc_int, m1, m2, m3, strayB, h, h']
  refine AW_cut (stS c 45 (strayE c)) (avc_sound (sigCSt m) (mixCSt m) _ (by kernel_rfl) ?_) ?_
  · cases h1 : isK [2] c.kind <;> cases h2 : zeroE c.e <;> rcases em2 (c.name = ⟨#[]⟩) with h3 | h3 <;> cases h4 : colsB c <;> rcases em2 (0 < c.items.length) with h5 | h5 <;> rcases em2 (0 < c.order.length) with h6 | h6 <;> simp [stS, CB, sIs, sZE, sAb, dec_ints, unc_int, m1, m2, m3, strayE, h1, h2, h3, h4, h5, h6] <;> exact weak_slots (by simp [stS, CB, h4])
  refine AW_cond (strayE c) (by simp [stS]) (fun h'' => ?_) (fun h'' => ?_)
  · refine avc_sound (sigCSt m) (mixCSt m) _ (by kernel_rfl) ?_
    simp [stS, CB, sIs, sZE, sAb, dec_ints, unc_int, m1, m2, m3, strayB, h, h', h'']
  refine AW_cut (stS c 75 (strayG c)) (avc_sound (sigCSt m) (mixCSt m) _ (by kernel_rfl) ?_) ?_
  · cases h1 : colsB c <;> cases h2 : absB c.skip <;> cases h3 : absB c.limit <;> by_cases h4 : c.skip < -1 <;> by_cases h5 : 1000000000000000 < c.skip <;> by_cases h6 : c.limit < -1 <;> by_cases h7 : 1000000000000000 < c.limit <;> simp [stS, CB, sIs, sZE, sAb, dec_ints, unc_int, m1, m2, m3, strayG, h1, h2, h3, h4, h5, h6, h7] <;> exact weak_slots (by simp [stS, CB, h1])
  refine AW_cond (strayG c) (by simp [stS]) (fun h3 => ?_) (fun h3 => ?_)
  · refine avc_sound (sigCSt m) (mixCSt m) _ (by kernel_rfl) ?_
    simp [stS, CB, sIs, sZE, sAb, dec_ints, unc_int, m1, m2, m3, strayB, h, h', h'', h3]
  refine avc_sound (sigCSt m) (mixCSt m) _ (by kernel_rfl) ?_
  simp [stS]
  refine avc_sound (sigCSt m) (mixCSt m) _ (by kernel_rfl) ?_
  rcases em2 (0 < c.sets.length) with h5 | h5 <;> cases h6 : isK [7] c.kind <;> rcases em2 (0 < c.names.length) with h7 | h7 <;> cases h8 : isK [8] c.kind <;> simp [stS, CB, sIs, sZE, sAb, dec_ints, unc_int, m1, m2, m3, strayB, strayI, h, h', h'', h3, h5, h6, h7, h8]
end
end Go.Proofs.YtgjljfbohpnfcaaGreat


namespace Go.Proofs.YtgjljfbohpnfcaaGreat
open Go.RowKit
set_option linter.unusedSimpArgs false
set_option linter.unusedVariables false
set_option maxRecDepth 100000
noncomputable def bcBody : Code := match Tryz.f25.body with | some b => b | none => .skip
noncomputable def bcX : Code := sq2 (sq2 (sq2 bcBody))
noncomputable def bcS : Code := inCd bcX
noncomputable def bcP : Code := cd1 (sq2 bcS)
noncomputable def bcE1 : Code := cd2 (sq2 bcS)
noncomputable def bcU : Code := cd1 (sq2 bcE1)
noncomputable def bcE2 : Code := cd2 (sq2 bcE1)
noncomputable def bcC : Code := cd1 (sq2 bcE2)
noncomputable def bcE3 : Code := cd2 (sq2 bcE2)
noncomputable def bcT : Code := cd1 (sq2 bcE3)
noncomputable def bcE4 : Code := cd2 (sq2 bcE3)
noncomputable def bcN : Code := cd1 (sq2 bcE4)
def bcSt (s : Bn) (c : Clause) : ASt := ⟨[(0, .ptr 0 1 3 0 0), (3, .ptr 1 1 21 0 0), (16, .int .i64 c.kind)], [BB s, CBk c]⟩
def bcSb (s : Bn) (c : Clause) (t : Nat) (b : Bool) : ASt := ⟨[(t, .bool b), (0, .ptr 0 1 3 0 0), (3, .ptr 1 1 21 0 0), (16, .int .i64 c.kind)], [BB s, CBk c]⟩
def BcTo (C : Ctx) (code : Code) (s : Bn) (c : Clause) (r : Bn) : Prop := AW C 94 1 code (bcSt s c) (outOf 0 (fun ex st' => ex = .normal ∧ Weak C 94 1 st' ⟨[], [BB r]⟩))
theorem bc_sb {C : Ctx} {s : Bn} {c : Clause} {t : Nat} {b : Bool} (h0 : t ≠ 0) (h3 : t ≠ 3) (h16 : t ≠ 16) : Weak C 94 1 (bcSb s c t b) (bcSt s c) := weak_slots (by simp [getA, h0, h3, h16])
section
variable {m : Int}
noncomputable def CBc (m : Int) : Ctx := mkC Tryz.prog (G m) [(36, .gen gFail), (39, .gen gIntro), (35, .gen gPaths), (40, .gen gColumns), (41, .gen gElement), (38, .pure sKind), (37, .pure sCheckX)]
@[simp] theorem CBc_P (m : Int) : (CBc m).P = Tryz.prog := rfl
@[simp] theorem CBc_G (m : Int) : (CBc m).G = (G m) := rfl
@[simp] theorem CBc_1 (m : Int) : (CBc m).S 36 = .gen gFail := rfl
@[simp] theorem CBc_2 (m : Int) : (CBc m).S 39 = .gen gIntro := rfl
@[simp] theorem CBc_3 (m : Int) : (CBc m).S 35 = .gen gPaths := rfl
@[simp] theorem CBc_4 (m : Int) : (CBc m).S 40 = .gen gColumns := rfl
@[simp] theorem CBc_5 (m : Int) : (CBc m).S 41 = .gen gElement := rfl
@[simp] theorem CBc_6 (m : Int) : (CBc m).S 38 = .pure sKind := rfl
@[simp] theorem CBc_7 (m : Int) : (CBc m).S 37 = .pure sCheckX := rfl
theorem mixCBc (m : Int) : (CBc m).P.follows .mixedOrders = true := mixed
theorem sigCBc (m : Int) : SigOK (CBc m) := sigOK_cons (entryGen (failP) Tryz.func36 rfl (by decide)) (sigOK_cons (entryGen (introP) Tryz.func39 rfl (by decide)) (sigOK_cons (entryGen (pathsP) Tryz.func35 rfl (by decide)) (sigOK_cons (entryGen (columnsP) Tryz.func40 rfl (by decide)) (sigOK_cons (entryGen (elementP) Tryz.func41 rfl (by decide)) (sigOK_cons (entryPure (kindP) Tryz.func38 rfl (by decide)) (sigOK_cons (entryPure (checkXP) Tryz.func37 rfl (by decide)) (sigOK_nil _ _)))))))
set_option maxHeartbeats 16000000 in
theorem bt_1 {s : Bn} {c : Clause} : AW (CBc m) 94 1 (sq1 bcS) (bcSt s c) (fun ex st' => ex = .normal ∧ Weak (CBc m) 94 1 st' (bcSb s c 17 (decide (c.kind = 1 ∨ c.kind = 5 ∨ c.kind = 6)))) := by
  unfold bcSt bcSb
  refine avcH_sound (sigCBc m) (mixCBc m) (hd := [8, 9, 20]) _ (by kernel_rfl) ?_
  dsimp only [bcBody, bcX, bcS, bcP, bcE1, bcU, bcE2, bcC, bcE3, bcT, bcE4, bcN, inCd, cd1, cd2, sq1, sq2, Tryz.f25]
  rcases em2 (c.kind = 1) with f1 | f1
  · simp [BB, CBk, f1]
    exact weak_eq (by simp [f1]) (by simp [BB, CBk])
  rcases em2 (c.kind = 5) with f5 | f5
  · simp [BB, CBk, f1, f5]
    exact weak_eq (by simp [f1, f5]) (by simp [BB, CBk])
  rcases em2 (c.kind = 6) with f6 | f6
  · simp [BB, CBk, f1, f5, f6]
    exact weak_eq (by simp [f1, f5, f6]) (by simp [BB, CBk])
  simp [BB, CBk, f1, f5, f6]
  exact weak_eq (by simp [f1, f5, f6]) (by simp [BB, CBk])
set_option maxHeartbeats 16000000 in
theorem bt_2 {s : Bn} {c : Clause} : AW (CBc m) 94 1 (sq1 bcE1) (bcSt s c) (fun ex st' => ex = .normal ∧ Weak (CBc m) 94 1 st' (bcSb s c 24 (decide (c.kind = 2)))) := by
  unfold bcSt bcSb
  refine avcH_sound (sigCBc m) (mixCBc m) (hd := [8, 9, 20]) _ (by kernel_rfl) ?_
  dsimp only [bcBody, bcX, bcS, bcP, bcE1, bcU, bcE2, bcC, bcE3, bcT, bcE4, bcN, inCd, cd1, cd2, sq1, sq2, Tryz.f25]
  rcases em2 (c.kind = 2) with f2 | f2
  · simp [BB, CBk, f2]
    exact weak_eq (by simp [f2]) (by simp [BB, CBk])
  simp [BB, CBk, f2]
  exact weak_eq (by simp [f2]) (by simp [BB, CBk])
set_option maxHeartbeats 16000000 in
theorem bt_3 {s : Bn} {c : Clause} : AW (CBc m) 94 1 (sq1 bcE2) (bcSt s c) (fun ex st' => ex = .normal ∧ Weak (CBc m) 94 1 st' (bcSb s c 49 (decide (c.kind = 3 ∨ c.kind = 4)))) := by
  unfold bcSt bcSb
  refine avcH_sound (sigCBc m) (mixCBc m) (hd := [8, 9, 20]) _ (by kernel_rfl) ?_
  dsimp only [bcBody, bcX, bcS, bcP, bcE1, bcU, bcE2, bcC, bcE3, bcT, bcE4, bcN, inCd, cd1, cd2, sq1, sq2, Tryz.f25]
  rcases em2 (c.kind = 3) with f3 | f3
  · simp [BB, CBk, f3]
    exact weak_eq (by simp [f3]) (by simp [BB, CBk])
  rcases em2 (c.kind = 4) with f4 | f4
  · simp [BB, CBk, f3, f4]
    exact weak_eq (by simp [f3, f4]) (by simp [BB, CBk])
  simp [BB, CBk, f3, f4]
  exact weak_eq (by simp [f3, f4]) (by simp [BB, CBk])
set_option maxHeartbeats 16000000 in
theorem bt_7 {s : Bn} {c : Clause} : AW (CBc m) 94 1 (sq1 bcE3) (bcSt s c) (fun ex st' => ex = .normal ∧ Weak (CBc m) 94 1 st' (bcSb s c 55 (decide (c.kind = 7)))) := by
  unfold bcSt bcSb
  refine avcH_sound (sigCBc m) (mixCBc m) (hd := [8, 9, 20]) _ (by kernel_rfl) ?_
  dsimp only [bcBody, bcX, bcS, bcP, bcE1, bcU, bcE2, bcC, bcE3, bcT, bcE4, bcN, inCd, cd1, cd2, sq1, sq2, Tryz.f25]
  rcases em2 (c.kind = 7) with f7 | f7
  · simp [BB, CBk, f7]
    exact weak_eq (by simp [f7]) (by simp [BB, CBk])
  simp [BB, CBk, f7]
  exact weak_eq (by simp [f7]) (by simp [BB, CBk])
set_option maxHeartbeats 16000000 in
theorem bt_8 {s : Bn} {c : Clause} : AW (CBc m) 94 1 (sq1 bcE4) (bcSt s c) (fun ex st' => ex = .normal ∧ Weak (CBc m) 94 1 st' (bcSb s c 81 (decide (c.kind = 8)))) := by
  unfold bcSt bcSb
  refine avcH_sound (sigCBc m) (mixCBc m) (hd := [8, 9, 20]) _ (by kernel_rfl) ?_
  dsimp only [bcBody, bcX, bcS, bcP, bcE1, bcU, bcE2, bcC, bcE3, bcT, bcE4, bcN, inCd, cd1, cd2, sq1, sq2, Tryz.f25]
  rcases em2 (c.kind = 8) with f8 | f8
  · simp [BB, CBk, f8]
    exact weak_eq (by simp [f8]) (by simp [BB, CBk])
  simp [BB, CBk, f8]
  exact weak_eq (by simp [f8]) (by simp [BB, CBk])
set_option maxHeartbeats 16000000 in
theorem bc_P {s : Bn} {c : Clause} (ht : OKB s) (hg : GoodC c) : BcTo (CBc m) bcP s c (Bn.paths s c) := by
  unfold BcTo bcSt
  refine avcH_sound (sigCBc m) (mixCBc m) (hd := [8, 9, 20]) _ (by kernel_rfl) ?_
  dsimp only [bcBody, bcX, bcS, bcP, bcE1, bcU, bcE2, bcC, bcE3, bcT, bcE4, bcN, inCd, cd1, cd2, sq1, sq2, Tryz.f25]
  simp [BB, CBk, gPaths_l, ht, hg]
  exact weak_keep 1 (by simp) (by simp) (by simp) (by simp) (by simp [BB])
set_option maxHeartbeats 16000000 in
theorem bc_C {s : Bn} {c : Clause} (ht : OKB s) (hg : GoodC c) : BcTo (CBc m) bcC s c (Bn.columns s c) := by
  unfold BcTo bcSt
  refine avcH_sound (sigCBc m) (mixCBc m) (hd := [8, 9, 20]) _ (by kernel_rfl) ?_
  dsimp only [bcBody, bcX, bcS, bcP, bcE1, bcU, bcE2, bcC, bcE3, bcT, bcE4, bcN, inCd, cd1, cd2, sq1, sq2, Tryz.f25]
  simp [BB, CBk, gColumns_l, ht, hg]
  exact weak_keep 1 (by simp) (by simp) (by simp) (by simp) (by simp [BB])
set_option maxHeartbeats 16000000 in
theorem bc_U {s : Bn} {c : Clause} (ht : OKB s) (g0 : GoodE c.e) : BcTo (CBc m) bcU s c (Bn.unwind s c) := by
  unfold BcTo bcSt
  refine avcH_sound (sigCBc m) (mixCBc m) (hd := [8, 9, 20]) _ (by kernel_rfl) ?_
  dsimp only [bcBody, bcX, bcS, bcP, bcE1, bcU, bcE2, bcC, bcE3, bcT, bcE4, bcN, inCd, cd1, cd2, sq1, sq2, Tryz.f25]
  obtain ⟨r, hr⟩ : ∃ r, s.unwind c = r := ⟨_, rfl⟩
  rw [hr]
  simp [BB, CBk]
  unfold Bn.unwind at hr
  dsimp only at hr
  have hbl := len24 ht.2
  refine AW_regionF (sigCBc m) (mixCBc m) [.pure, .pure, .pure, .pure, .read, .pure, .read, .read, .eff] [[],[],[1],[1,2],[2,1,3],[],[5],[5,6,3,1,2,4],[4,2,1,3,6,5,7,0]] (by kernel_rfl) (by kernel_rfl) (by kernel_rfl) (by kernel_rfl) ?_
  simp [BB, CBk, sCheckX, hbl, g0.1, g0.2, gFail_l]
  have hb1 := ht.fail (checkX s.now c.e false)
  generalize Bn.fail s (checkX s.now c.e false) = b1 at *
  have hbl1 := len24 hb1.2
  refine AW_regionF (sigCBc m) (mixCBc m) [.pure, .pure, .pure, .read, .pure, .read, .read, .pure] [[],[0],[0,1],[1,0,2],[],[4],[4,5,2,0,1,3],[3,1,0,2,5,4,6]] (by kernel_rfl) (by kernel_rfl) (by kernel_rfl) (by kernel_rfl) ?_
  by_cases h6 : kindF b1.now c.name = 0
  · rw [if_neg (by simp [h6])] at hr
    simp [BB, CBk, sKind, hbl1, h6, gIntro_l, hr]
    exact weak_keep 1 (by simp) (by simp) (by simp) (by simp) (by simp [BB])
  · rw [if_pos h6] at hr
    simp [BB, CBk, sKind, hbl1, h6, gFail_l, gIntro_l, hr]
    exact weak_keep 1 (by simp) (by simp) (by simp) (by simp) (by simp [BB])
set_option maxHeartbeats 16000000 in
theorem bc_T {s : Bn} {c : Clause} (ht : OKB s) (g9 : c.sets.length ≤ maxLen) (g10 : ∀ i ∈ c.sets, GoodE i.e) : BcTo (CBc m) bcT s c (Bn.setL s c.sets) := by
  unfold BcTo bcSt
  refine avcH_sound (sigCBc m) (mixCBc m) (hd := [8, 9, 20]) _ (by kernel_rfl) ?_
  dsimp only [bcBody, bcX, bcS, bcP, bcE1, bcU, bcE2, bcC, bcE3, bcT, bcE4, bcN, inCd, cd1, cd2, sq1, sq2, Tryz.f25]
  have g9' : c.sets.length ≤ 9223372036854775807 := g9
  simp [BB, CBk]
  refine loop_ruleH (C := CBc m) (sigCBc m) (mixCBc m) [8, 9, 20] (fun i : Nat => ⟨[(0, .ptr 0 1 3 0 0), (58, Enc.enc c.sets), (59, .int .i64 c.sets.length), (60, .int .i64 i)], [BB (Bn.setL s (c.sets.take i))]⟩) (fun i => i ≤ c.sets.length) (fun i => c.sets.length - i) (by kernel_rfl) ⟨0, Nat.zero_le _, weak_keep 1 (by simp) (by simp) (by simp [AV.clean, AV.clean1]) (by simp) (by simp [BB, Bn.setL])⟩ (fun i hi => ?_)
  have hb : OKB (Bn.setL s (c.sets.take i)) := ht.setL
  by_cases hlt : i < c.sets.length
  · have i1 : I64 ((i : Int) + 1) := by unfold I64; omega
    have hx := g10 _ (ix_mem hlt)
    have hn := setL_take (b := s) hlt
    generalize Bn.setL s (c.sets.take i) = b at *
    generalize hp : ix c.sets i = x at *
    have he := hb.element x.var (decide (x.label = ⟨#[]⟩))
    unfold Bn.set1 at hn
    simp [BB, hlt, rowAt_enc hlt, hp, gElement_l, hb]
    generalize b.element x.var (decide (x.label = ⟨#[]⟩)) = b1 at *
    have hbl := len24 he.2
    refine AW_regionF (sigCBc m) (mixCBc m) [.pure, .pure, .pure, .pure, .read, .pure, .read, .read, .eff] [[],[],[1],[1,2],[2,1,3],[],[5],[5,6,3,1,2,4],[4,2,1,3,6,5,7,0]] (by kernel_rfl) (by kernel_rfl) (by kernel_rfl) (by kernel_rfl) ?_
    simp [BB, sCheckX, hbl, hx.1, hx.2, gFail_l, i1]
    exact ⟨i + 1, by omega, by omega, weak_keep 1 (by simp) (by simp) (by simp [AV.clean, AV.clean1]) (by simp) (by simp [BB, hn])⟩
  · obtain rfl : i = c.sets.length := by omega
    rw [List.take_length]
    simp [BB, hlt]
    exact weak_eq (by simp) (by simp [BB])
set_option maxHeartbeats 16000000 in
theorem bc_N {s : Bn} {c : Clause} (ht : OKB s) (g11 : c.names.length ≤ maxLen) : BcTo (CBc m) bcN s c (Bn.nameL s c.names) := by
  unfold BcTo bcSt
  refine avcH_sound (sigCBc m) (mixCBc m) (hd := [8, 9, 20]) _ (by kernel_rfl) ?_
  dsimp only [bcBody, bcX, bcS, bcP, bcE1, bcU, bcE2, bcC, bcE3, bcT, bcE4, bcN, inCd, cd1, cd2, sq1, sq2, Tryz.f25]
  have g11' : c.names.length ≤ 9223372036854775807 := g11
  simp [BB, CBk]
  refine loop_ruleH (C := CBc m) (sigCBc m) (mixCBc m) [8, 9, 20] (fun i : Nat => ⟨[(0, .ptr 0 1 3 0 0), (84, Enc.enc c.names), (85, .int .i64 c.names.length), (86, .int .i64 i)], [BB (Bn.nameL s (c.names.take i))]⟩) (fun i => i ≤ c.names.length) (fun i => c.names.length - i) (by kernel_rfl) ⟨0, Nat.zero_le _, weak_keep 1 (by simp) (by simp) (by simp [AV.clean, AV.clean1]) (by simp) (by simp [BB, Bn.nameL])⟩ (fun i hi => ?_)
  have hb : OKB (Bn.nameL s (c.names.take i)) := ht.nameL
  by_cases hlt : i < c.names.length
  · have i1 : I64 ((i : Int) + 1) := by unfold I64; omega
    have hn := nameL_take (b := s) hlt
    generalize Bn.nameL s (c.names.take i) = b at *
    simp [BB, hlt, rowAt_enc hlt, gElement_l, hb, i1]
    exact ⟨i + 1, by omega, by omega, weak_keep 1 (by simp) (by simp) (by simp [AV.clean, AV.clean1]) (by simp) (by simp [BB, hn])⟩
  · obtain rfl : i = c.names.length := by omega
    rw [List.take_length]
    simp [BB, hlt]
    exact weak_eq (by simp) (by simp [BB])
set_option maxHeartbeats 16000000 in
theorem clauseBP : GenOK Tryz.prog (G m) 25 gClause := by
  refine gen_frame KB (gen_ofAW (C := CBc m) Tryz.func25 rfl rfl rfl (fun avs H ob r H' h hob => ?_))
  obtain ⟨rest, s, p, st, rfl, rfl, hf, hp, rfl, rfl, hd⟩ := gM1_inv KB h hob
  unfold fClause at hf
  split at hf
  case h_2 => cases hf
  rename_i a
  simp only [Option.some.injEq, Prod.mk.injEq] at hf
  obtain ⟨rfl, rfl⟩ := hf
  obtain ⟨hs, ha, hg⟩ := hp
  generalize (Enc.dec a : Clause) = c at *
  subst ha
  refine ⟨(by show 2 ≤ _; decide), ?_⟩
  show AW (CBc m) 94 1 (.seq (sq1 bcBody) (.seq (sq1 (sq2 bcBody)) (.seq (sq1 (sq2 (sq2 bcBody))) bcX))) ⟨argsρ 0 [.ptr 0 1 3 0 0, Enc.enc c], [BB s]⟩ (fun ex st' => (ex = .normal ∨ ex = .ret) ∧ ∃ ob', aresults (CBc m) st' [] = some (ob', .tup []) ∧ ob' ∧ st'.H = [BB (s.clause c)])
  clear h hd
  have ht := hs.turn
  have hgc := hg
  obtain ⟨_, _, g0, _, _, ⟨g9, g10⟩, g11⟩ := id hg
  refine AW_cut ⟨[(0, .ptr 0 1 3 0 0), (3, .ptr 1 1 21 0 0)], [BB s, CBk c]⟩ (avcH_sound (sigCBc m) (mixCBc m) (hd := [8, 9, 20]) _ (by kernel_rfl) ?_) ?_
  · dsimp only [bcBody, sq1, Tryz.f25]
    simp [argsρ, BB, CBk]
    exact weak_eq (by simp) (by simp [BB, CBk])
  refine AW_cut ⟨[(0, .ptr 0 1 3 0 0), (3, .ptr 1 1 21 0 0)], [BB { s with old := s.now }, CBk c]⟩ (avcH_sound (sigCBc m) (mixCBc m) (hd := [8, 9, 20]) _ (by kernel_rfl) ?_) ?_
  · dsimp only [bcBody, sq1, sq2, Tryz.f25]
    simp [BB, CBk]
    exact weak_eq (by simp) (by simp [BB, CBk])
  refine AW_cut (bcSt { s with old := s.now } c) (avcH_sound (sigCBc m) (mixCBc m) (hd := [8, 9, 20]) _ (by kernel_rfl) ?_) ?_
  · dsimp only [bcBody, sq1, sq2, Tryz.f25]
    simp [BB, CBk]
    exact weak_eq (by simp) (by simp [BB, CBk])
  refine AW_fin ⟨[], [BB (s.clause c)]⟩ ?_ ⟨.inl rfl, True, rfl, trivial, rfl⟩
  show AW (CBc m) 94 1 (.block 0 (.seq (sq1 bcS) (.cond (.tmp 17) bcP (.seq (sq1 bcE1) (.cond (.tmp 24) bcU (.seq (sq1 bcE2) (.cond (.tmp 49) bcC (.seq (sq1 bcE3) (.cond (.tmp 55) bcT (.seq (sq1 bcE4) (.cond (.tmp 81) bcN .skip)))))))))))  (bcSt { s with old := s.now } c) _
  generalize hs' : ({ s with old := s.now } : Bn) = s' at *
  unfold Bn.clause
  rw [hs']
  refine AW_block (AW_cut _ bt_1 (AW_cond (decide (c.kind = 1 ∨ c.kind = 5 ∨ c.kind = 6)) (by simp [bcSb]) (fun hb => ?_) (fun hb => ?_)))
  · rw [if_pos (of_decide_eq_true hb)]
    exact AW.weak (bc_sb (by decide) (by decide) (by decide)) (bc_P ht hgc)
  rw [if_neg (of_decide_eq_false hb)]
  refine AW.weak (bc_sb (by decide) (by decide) (by decide)) (AW_cut _ bt_2 (AW_cond (decide (c.kind = 2)) (by simp [bcSb]) (fun hb => ?_) (fun hb => ?_)))
  · rw [if_pos (of_decide_eq_true hb)]
    exact AW.weak (bc_sb (by decide) (by decide) (by decide)) (bc_U ht g0)
  rw [if_neg (of_decide_eq_false hb)]
  refine AW.weak (bc_sb (by decide) (by decide) (by decide)) (AW_cut _ bt_3 (AW_cond (decide (c.kind = 3 ∨ c.kind = 4)) (by simp [bcSb]) (fun hb => ?_) (fun hb => ?_)))
  · rw [if_pos (of_decide_eq_true hb)]
    exact AW.weak (bc_sb (by decide) (by decide) (by decide)) (bc_C ht hgc)
  rw [if_neg (of_decide_eq_false hb)]
  refine AW.weak (bc_sb (by decide) (by decide) (by decide)) (AW_cut _ bt_7 (AW_cond (decide (c.kind = 7)) (by simp [bcSb]) (fun hb => ?_) (fun hb => ?_)))
  · rw [if_pos (of_decide_eq_true hb)]
    exact AW.weak (bc_sb (by decide) (by decide) (by decide)) (bc_T ht g9 g10)
  rw [if_neg (of_decide_eq_false hb)]
  refine AW.weak (bc_sb (by decide) (by decide) (by decide)) (AW_cut _ bt_8 (AW_cond (decide (c.kind = 8)) (by simp [bcSb]) (fun hb => ?_) (fun hb => ?_)))
  · rw [if_pos (of_decide_eq_true hb)]
    exact AW.weak (bc_sb (by decide) (by decide) (by decide)) (bc_N ht g11)
  rw [if_neg (of_decide_eq_false hb)]
  refine avcH_sound (sigCBc m) (mixCBc m) (hd := [8, 9, 20]) _ (by kernel_rfl) ?_
  simp [bcSb]
  exact weak_keep 1 (by simp) (by simp) (by simp) (by simp [BB]) (by simp [BB])
end
end Go.Proofs.YtgjljfbohpnfcaaGreat


namespace Go.Proofs.YtgjljfbohpnfcaaGreat
open Go.RowKit
set_option linter.unusedSimpArgs false
set_option linter.unusedVariables false
set_option maxRecDepth 100000
def crowdB (c : Clause) : Bool :=
  if c.kind = 1 ∨ c.kind = 5 then !inRg c.paths.length 1 6 || decide ((1 : Int) < c.wh.length)
  else if c.kind = 6 then !decide (c.paths.length = 1)
  else if c.kind = 3 ∨ c.kind = 4 then !inRg c.items.length 1 16 || decide ((16 : Int) < c.order.length) || decide ((1 : Int) < c.wh.length)
  else if c.kind = 7 then !inRg c.sets.length 1 16
  else if c.kind = 8 then !inRg c.names.length 1 16 else false
def setE (s : SetI) : Int :=
  if (¬ s.label = ⟨#[]⟩ ∧ (¬ s.key = ⟨#[]⟩ ∨ zeroE s.e = false)) ∨ (s.label = ⟨#[]⟩ ∧ s.off = true) then 1
  else if wordB s.var = false ∨ (¬ s.label = ⟨#[]⟩ ∧ wordB s.label = false) ∨ (s.label = ⟨#[]⟩ ∧ wordB s.key = false) then 6
  else if s.label = ⟨#[]⟩ then checkE s.e else 0
def addE (x e : Int) : Int := if x = 0 then e else x
def needE (s : ByteArray) : Int := if wordB s = true then 0 else 6
def pathS (k : Int) (x : Int) (p : PathPat) : Int := addE x (pathE p (decide (k = 5)))
def exprS (x : Int) (e : Expr) : Int := addE x (checkE e)
def itemS (x : Int) (i : Item) : Int := addE (addE x (checkE i.e)) (needE i.as_)
def sortS (x : Int) (i : SortK) : Int := addE x (checkE i.e)
def setS (x : Int) (s : SetI) : Int := addE x (setE s)
def nameS (x : Int) (s : ByteArray) : Int := addE x (needE s)
def partsA (c : Clause) : Int := c.wh.foldl exprS (c.paths.foldl (pathS c.kind) 0)
def partsB (c : Clause) : Int := if c.kind = 2 then addE (addE (partsA c) (checkE c.e)) (needE c.name) else partsA c
def partsC (c : Clause) : Int := c.names.foldl nameS (c.sets.foldl setS (c.order.foldl sortS (c.items.foldl itemS (partsB c))))
def clauseE (c : Clause) : Int := if c.kind < 1 ∨ 8 < c.kind ∨ strayB c = true then 1 else if crowdB c = true then 4 else partsC c
theorem foldl_drop {α : Type} [Inhabited α] {f : Int → α → Int} {l : List α} {i : Nat} {x : Int} (h : i < l.length) : (l.drop i).foldl f x = (l.drop (i + 1)).foldl f (f x (ix l i)) := by
  rw [List.drop_eq_getElem_cons h, List.foldl_cons, ix_lt h]
def LB (x : Int) : Blk := ⟨107, 1, [[.int .i64 x]], true, true⟩
def WfC (c : Clause) : Prop := (c.paths.length ≤ maxLen ∧ ∀ p ∈ c.paths, WfP p) ∧ (c.wh.length ≤ maxLen ∧ ∀ e ∈ c.wh, WfE e) ∧ WfE c.e ∧ (c.items.length ≤ maxLen ∧ ∀ i ∈ c.items, WfE i.e) ∧ (c.order.length ≤ maxLen ∧ ∀ i ∈ c.order, WfE i.e) ∧ (c.sets.length ≤ maxLen ∧ ∀ i ∈ c.sets, WfE i.e) ∧ c.names.length ≤ maxLen
section
variable {m : Int}
theorem entryGenS {P : Program} {G : Nat → AV} {f : FuncId} {fn : Func} {p : List AV → List Blk → Option (Prop × AV × List Blk)} (h : GenOK P G f p) (hf : P.funcs[f]? = some fn) (hb : fn.body.isSome = true) (hn : fn.name ≠ "runtime.NumGoroutine") : EntryOK P G f (.gen p) := ⟨h, fn, hf, hn, hb⟩
def sAdd : List AV → List Blk → Option (Prop × AV × List Blk) := fun args H => match args with
  | [.ptr l 1 1 0 0, .int .i64 e] => match H[l]? with
    | some ⟨t, 1, [[.int .i64 x]], true, true⟩ => some (True, .tup [], H.set l ⟨t, 1, [[.int .i64 (addE x e)]], true, true⟩)
    | _ => none
  | _ => none
def sNeed : List AV → List Blk → Option (Prop × AV × List Blk) := fun args H => match args with
  | [.ptr l 1 1 0 0, .str s] => match H[l]? with
    | some ⟨t, 1, [[.int .i64 x]], true, true⟩ => some (True, .tup [], H.set l ⟨t, 1, [[.int .i64 (addE x (needE s))]], true, true⟩)
    | _ => none
  | _ => none
theorem sAdd_eq {l : Nat} {e : Int} {H : List Blk} {t : TypeId} {x : Int} (h : H[l]? = some ⟨t, 1, [[.int .i64 x]], true, true⟩) : sAdd [.ptr l 1 1 0 0, .int .i64 e] H = some (True, .tup [], H.set l ⟨t, 1, [[.int .i64 (addE x e)]], true, true⟩) := by simp [sAdd, h]
theorem sAdd_inv {args : List AV} {H : List Blk} {ob : Prop} {r : AV} {H' : List Blk} (h : sAdd args H = some (ob, r, H')) : ∃ l e t x, args = [.ptr l 1 1 0 0, .int .i64 e] ∧ H[l]? = some ⟨t, 1, [[.int .i64 x]], true, true⟩ ∧ r = .tup [] ∧ H' = H.set l ⟨t, 1, [[.int .i64 (addE x e)]], true, true⟩ := by
  unfold sAdd at h
  split at h
  · split at h
    · rename_i hl
      simp only [Option.some.injEq, Prod.mk.injEq] at h
      exact ⟨_, _, _, _, rfl, hl, h.2.1.symm, h.2.2.symm⟩
    · cases h
  · cases h
theorem sNeed_inv {args : List AV} {H : List Blk} {ob : Prop} {r : AV} {H' : List Blk} (h : sNeed args H = some (ob, r, H')) : ∃ l s t x, args = [.ptr l 1 1 0 0, .str s] ∧ H[l]? = some ⟨t, 1, [[.int .i64 x]], true, true⟩ ∧ r = .tup [] ∧ H' = H.set l ⟨t, 1, [[.int .i64 (addE x (needE s))]], true, true⟩ := by
  unfold sNeed at h
  split at h
  · split at h
    · rename_i hl
      simp only [Option.some.injEq, Prod.mk.injEq] at h
      exact ⟨_, _, _, _, rfl, hl, h.2.1.symm, h.2.2.symm⟩
    · cases h
  · cases h
theorem set_same {α : Type} {l : List α} {i : Nat} {x : α} (h : l[i]? = some x) : l.set i x = l := by
  refine List.ext_getElem? fun j => ?_
  by_cases e : i = j
  · subst e
    obtain ⟨hi, rfl⟩ := List.getElem?_eq_some_iff.1 h
    simp [hi]
  · simp [e]
set_option maxHeartbeats 4000000 in
theorem addP : GenOK Tryz.prog (G m) 54 sAdd := by
  refine gen_of_avc (C := CE m) (sigCE m) (mixCE m) Tryz.func54 rfl (by kernel_rfl) (fun avs H ob r H' h hob => ?_)
  obtain ⟨l, e, t, x, rfl, hl, rfl, rfl⟩ := sAdd_inv h
  refine ⟨(by show 2 ≤ _; decide), ?_⟩
  rcases em2 (x = 0) with h0 | h0
  · simp [argsρ, hl, h0, addE]
    exact ⟨True, trivial⟩
  · simp [argsρ, hl, h0, addE, set_same hl]
    exact ⟨True, trivial⟩
noncomputable def CNd (m : Int) : Ctx := mkC Tryz.prog (G m) [(54, .gen sAdd), (82, .pure sWord)]
@[simp] theorem CNd_P (m : Int) : (CNd m).P = Tryz.prog := rfl
@[simp] theorem CNd_1 (m : Int) : (CNd m).S 54 = .gen sAdd := rfl
@[simp] theorem CNd_2 (m : Int) : (CNd m).S 82 = .pure sWord := rfl
theorem mixCNd (m : Int) : (CNd m).P.follows .mixedOrders = true := mixed
theorem sigCNd (m : Int) : SigOK (CNd m) := sigOK_cons (entryGenS addP Tryz.func54 rfl (by decide)) (sigOK_cons (entryPure wordP Tryz.func82 rfl (by decide)) (sigOK_nil _ _))
set_option maxHeartbeats 4000000 in
theorem needP : GenOK Tryz.prog (G m) 57 sNeed := by
  refine gen_of_avc (C := CNd m) (sigCNd m) (mixCNd m) Tryz.func57 rfl (by kernel_rfl) (fun avs H ob r H' h hob => ?_)
  obtain ⟨l, s, t, x, rfl, hl, rfl, rfl⟩ := sNeed_inv h
  refine ⟨(by show 2 ≤ _; decide), ?_⟩
  cases hw : wordB s
  · simp [argsρ, hl, hw, sWord, needE, sAdd_eq hl]
    exact ⟨True, trivial⟩
  · have e0 : addE x 0 = x := by unfold addE; split <;> omega
    simp [argsρ, hl, hw, sWord, needE, e0, set_same hl]
    exact ⟨True, trivial⟩
noncomputable def CCw (m : Int) : Ctx := mkC Tryz.prog (G m) [(76, .pure sIn3)]
@[simp] theorem CCw_P (m : Int) : (CCw m).P = Tryz.prog := rfl
@[simp] theorem CCw_1 (m : Int) : (CCw m).S 76 = .pure sIn3 := rfl
theorem mixCCw (m : Int) : (CCw m).P.follows .mixedOrders = true := mixed
theorem sigCCw (m : Int) : SigOK (CCw m) := sigOK_cons (entryPure inRP Tryz.func76 rfl (by decide)) (sigOK_nil _ _)
def sCrowd : List AV → Option (Prop × AV) := spec1 (fun (_ : Clause) => True) (fun c => .bool (crowdB c))
set_option maxHeartbeats 8000000 in
theorem crowdP : PureOK Tryz.prog (G m) 53 sCrowd := by
  refine pure1 (C := CCw m) (sigCCw m) (mixCCw m) Tryz.func53 rfl rfl rfl (by kernel_rfl) (by decide) (fun c _ => ?_)
  obtain ⟨k, o, d, ps, wh, e, nm, its, ord, sk, lim, sets, nms⟩ := c
  by_cases h1 : k = 1
  · subst h1
    cases h : inRg ps.length 1 6 <;> by_cases h' : (1 : Int) < wh.length <;> simp [crowdB, sIn3, h, h']
  by_cases h5 : k = 5
  · subst h5
    cases h : inRg ps.length 1 6 <;> by_cases h' : (1 : Int) < wh.length <;> simp [crowdB, sIn3, h, h']
  by_cases h6 : k = 6
  · subst h6
    by_cases h' : ps.length = 1
    · simp [crowdB, h']
    · have h'' : ¬ (ps.length : Int) = 1 := by omega
      simp [crowdB, h', h'']
  by_cases h3 : k = 3
  · subst h3
    cases h : inRg its.length 1 16 <;> by_cases h' : (16 : Int) < ord.length <;> by_cases h'' : (1 : Int) < wh.length <;> simp [crowdB, sIn3, h, h', h'']
  by_cases h4 : k = 4
  · subst h4
    cases h : inRg its.length 1 16 <;> by_cases h' : (16 : Int) < ord.length <;> by_cases h'' : (1 : Int) < wh.length <;> simp [crowdB, sIn3, h, h', h'']
  by_cases h7 : k = 7
  · subst h7
    cases h : inRg sets.length 1 16 <;> simp [crowdB, sIn3, h]
  by_cases h8 : k = 8
  · subst h8
    cases h : inRg nms.length 1 16 <;> simp [crowdB, sIn3, h]
  simp [crowdB, h1, h5, h6, h3, h4, h7, h8]
noncomputable def CSs (m : Int) : Ctx := mkC Tryz.prog (G m) [(74, .pure sZE), (82, .pure sWord), (56, .pure sChk)]
@[simp] theorem CSs_P (m : Int) : (CSs m).P = Tryz.prog := rfl
@[simp] theorem CSs_1 (m : Int) : (CSs m).S 74 = .pure sZE := rfl
@[simp] theorem CSs_2 (m : Int) : (CSs m).S 82 = .pure sWord := rfl
@[simp] theorem CSs_3 (m : Int) : (CSs m).S 56 = .pure sChk := rfl
theorem mixCSs (m : Int) : (CSs m).P.follows .mixedOrders = true := mixed
theorem sigCSs (m : Int) : SigOK (CSs m) := sigOK_cons (entryPure zeroP Tryz.func74 rfl (by decide)) (sigOK_cons (entryPure wordP Tryz.func82 rfl (by decide)) (sigOK_cons (entryPure checkP Tryz.func56 rfl (by decide)) (sigOK_nil _ _)))
def sSetE : List AV → Option (Prop × AV) := spec1 (fun (s : SetI) => WfE s.e) (fun s => .int .i64 (setE s))
set_option maxHeartbeats 8000000 in
theorem setP : PureOK Tryz.prog (G m) 58 sSetE := by
  refine pure1 (C := CSs m) (sigCSs m) (mixCSs m) Tryz.func58 rfl rfl rfl (by kernel_rfl) (by decide) (fun s hw => ?_)
  rcases em2 (s.label = ⟨#[]⟩) with h1 | h1
  · cases h2 : s.off
    case true => simp [setE, sZE, h1, h2]
    cases h3 : wordB s.var
    case false => simp [setE, sZE, sWord, h1, h2, h3]
    cases h4 : wordB s.key <;> simp [setE, sZE, sWord, sChk, h1, h2, h3, h4, hw]
  · rcases em2 (s.key = ⟨#[]⟩) with h2 | h2
    case inr => simp [setE, sZE, h1, h2]
    cases h3 : zeroE s.e
    case false => simp [setE, sZE, h1, h2, h3]
    cases h4 : wordB s.var
    case false => simp [setE, sZE, sWord, h1, h2, h3, h4]
    cases h5 : wordB s.label <;> simp [setE, sZE, sWord, sChk, h1, h2, h3, h4, h5]
noncomputable def CCl (m : Int) : Ctx := mkC Tryz.prog (G m) [(52, .pure sStray), (53, .pure sCrowd), (55, .pure sPathC), (56, .pure sChk), (58, .pure sSetE), (54, .gen sAdd), (57, .gen sNeed)]
@[simp] theorem CCl_P (m : Int) : (CCl m).P = Tryz.prog := rfl
@[simp] theorem CCl_1 (m : Int) : (CCl m).S 52 = .pure sStray := rfl
@[simp] theorem CCl_2 (m : Int) : (CCl m).S 53 = .pure sCrowd := rfl
@[simp] theorem CCl_3 (m : Int) : (CCl m).S 55 = .pure sPathC := rfl
@[simp] theorem CCl_4 (m : Int) : (CCl m).S 56 = .pure sChk := rfl
@[simp] theorem CCl_5 (m : Int) : (CCl m).S 58 = .pure sSetE := rfl
@[simp] theorem CCl_6 (m : Int) : (CCl m).S 54 = .gen sAdd := rfl
@[simp] theorem CCl_7 (m : Int) : (CCl m).S 57 = .gen sNeed := rfl
theorem mixCCl (m : Int) : (CCl m).P.follows .mixedOrders = true := mixed
theorem sigCCl (m : Int) : SigOK (CCl m) := sigOK_cons (entryPure strayP Tryz.func52 rfl (by decide)) (sigOK_cons (entryPure crowdP Tryz.func53 rfl (by decide)) (sigOK_cons (entryPure checkPathP Tryz.func55 rfl (by decide)) (sigOK_cons (entryPure checkP Tryz.func56 rfl (by decide)) (sigOK_cons (entryPure setP Tryz.func58 rfl (by decide)) (sigOK_cons (entryGenS addP Tryz.func54 rfl (by decide)) (sigOK_cons (entryGenS needP Tryz.func57 rfl (by decide)) (sigOK_nil _ _)))))))
def sClause : List AV → Option (Prop × AV) := spec1 (fun (c : Clause) => WfC c) (fun c => .int .i64 (clauseE c))
set_option maxHeartbeats 16000000 in
theorem clauseP : PureOK Tryz.prog (G m) 33 sClause := by
  refine pure1 (C := CCl m) (sigCCl m) (mixCCl m) Tryz.func33 rfl rfl rfl (by kernel_rfl) (by decide) (fun c ⟨⟨l1, w1⟩, ⟨l2, w2⟩, w3, ⟨l4, w4⟩, ⟨l5, w5⟩, ⟨l6, w6⟩, l7⟩ => ?_)
  have l1' := maxLen_le l1
  have l2' := maxLen_le l2
  have l4' := maxLen_le l4
  have l5' := maxLen_le l5
  have l6' := maxLen_le l6
  have l7' := maxLen_le l7
  by_cases k1 : c.kind < 1
  · simp [clauseE, k1]
  by_cases k2 : 8 < c.kind
  · simp [clauseE, k1, k2]
  cases hst : strayB c
  case true => simp [clauseE, sStray, k1, k2, hst]
  cases hcr : crowdB c
  case true => simp [clauseE, sStray, sCrowd, k1, k2, hst, hcr]
  have hC : clauseE c = partsC c := by simp [clauseE, k1, k2, hst, hcr]
  rw [hC]
  simp [sStray, sCrowd, k1, k2, hst, hcr]
  refine loop_rule (C := CCl m) (sigCCl m) (mixCCl m) (fun q : Nat × Int => ⟨[(1, .ptr 0 1 21 0 0), (3, .ptr 1 1 1 0 0), (31, Enc.enc c.paths), (32, .int .i64 c.paths.length), (33, .int .i64 q.1)], [CB c, LB q.2]⟩) (fun q => q.1 ≤ c.paths.length ∧ (c.paths.drop q.1).foldl (pathS c.kind) q.2 = c.paths.foldl (pathS c.kind) 0) (fun q => c.paths.length - q.1) (by kernel_rfl) ⟨(0, 0), by simp, weak_slots (by simp)⟩ (fun ⟨i, x⟩ ⟨hi, hs⟩ => ?_)
  simp only at hi hs ⊢
  by_cases hlt : i < c.paths.length
  · have i1 : I64 ((i : Int) + 1) := by unfold I64; omega
    have w := w1 _ (ix_mem hlt)
    rw [foldl_drop hlt] at hs
    simp [CB, LB, hlt, rowAt_enc hlt, sPathC, sAdd, w, i1]
    exact ⟨i + 1, pathS c.kind x (ix c.paths i), ⟨by omega, hs⟩, by omega, weak_keep 2 (by simp) (by simp) (by simp [AV.clean, AV.clean1]) (by simp) (by simp [CB, LB, pathS])⟩
  rw [List.drop_eq_nil_of_le (by omega), List.foldl_nil] at hs
  simp [CB, LB, hlt]
  refine loop_rule (C := CCl m) (sigCCl m) (mixCCl m) (fun q : Nat × Int => ⟨[(1, .ptr 0 1 21 0 0), (3, .ptr 1 1 1 0 0), (45, Enc.enc c.wh), (46, .int .i64 c.wh.length), (47, .int .i64 q.1)], [CB c, LB q.2]⟩) (fun q => q.1 ≤ c.wh.length ∧ (c.wh.drop q.1).foldl exprS q.2 = partsA c) (fun q => c.wh.length - q.1) (by kernel_rfl) ⟨(0, x), ⟨by omega, by rw [hs]; rfl⟩, weak_keep 2 (by simp) (by simp) (by simp [AV.clean, AV.clean1]) (by simp) (by simp [CB, LB])⟩ (fun ⟨i, x⟩ ⟨hi, hs⟩ => ?_)
  simp only at hi hs ⊢
  by_cases hlt : i < c.wh.length
  · have i1 : I64 ((i : Int) + 1) := by unfold I64; omega
    have w := w2 _ (ix_mem hlt)
    rw [foldl_drop hlt] at hs
    simp [CB, LB, hlt, rowAt_enc hlt, sChk, sAdd, w, i1]
    exact ⟨i + 1, exprS x (ix c.wh i), ⟨by omega, hs⟩, by omega, weak_keep 2 (by simp) (by simp) (by simp [AV.clean, AV.clean1]) (by simp) (by simp [CB, LB, exprS])⟩
  rw [List.drop_eq_nil_of_le (by omega), List.foldl_nil] at hs
  subst hs
  rcases em2 (c.kind = 2) with hk | hk
  case' inl => have hB : addE (addE (partsA c) (checkE c.e)) (needE c.name) = partsB c := by simp [partsB, hk]
  case' inr => have hB : partsA c = partsB c := by simp [partsB, hk]
  all_goals
    simp [CB, LB, hlt, hk, sChk, sAdd, sNeed, w3, hB]
    refine loop_rule (C := CCl m) (sigCCl m) (mixCCl m) (fun q : Nat × Int => ⟨[(1, .ptr 0 1 21 0 0), (3, .ptr 1 1 1 0 0), (66, Enc.enc c.items), (67, .int .i64 c.items.length), (68, .int .i64 q.1)], [CB c, LB q.2]⟩) (fun q => q.1 ≤ c.items.length ∧ (c.items.drop q.1).foldl itemS q.2 = c.items.foldl itemS (partsB c)) (fun q => c.items.length - q.1) (by kernel_rfl) ⟨(0, partsB c), ⟨by omega, rfl⟩, weak_keep 2 (by simp) (by simp) (by simp [AV.clean, AV.clean1]) (by simp) (by simp [CB, LB])⟩ (fun ⟨i, x⟩ ⟨hi, hs⟩ => ?_)
    simp only at hi hs ⊢
    by_cases hlt : i < c.items.length
    · have i1 : I64 ((i : Int) + 1) := by unfold I64; omega
      have w := w4 _ (ix_mem hlt)
      rw [foldl_drop hlt] at hs
      simp [CB, LB, hlt, rowAt_enc hlt, sChk, sAdd, sNeed, w, i1]
      exact ⟨i + 1, itemS x (ix c.items i), ⟨by omega, hs⟩, by omega, weak_keep 2 (by simp) (by simp) (by simp [AV.clean, AV.clean1]) (by simp) (by simp [CB, LB, itemS])⟩
    rw [List.drop_eq_nil_of_le (by omega), List.foldl_nil] at hs
    simp [CB, LB, hlt]
    refine loop_rule (C := CCl m) (sigCCl m) (mixCCl m) (fun q : Nat × Int => ⟨[(1, .ptr 0 1 21 0 0), (3, .ptr 1 1 1 0 0), (81, Enc.enc c.order), (82, .int .i64 c.order.length), (83, .int .i64 q.1)], [CB c, LB q.2]⟩) (fun q => q.1 ≤ c.order.length ∧ (c.order.drop q.1).foldl sortS q.2 = c.order.foldl sortS (c.items.foldl itemS (partsB c))) (fun q => c.order.length - q.1) (by kernel_rfl) ⟨(0, x), ⟨by omega, by rw [hs]; rfl⟩, weak_keep 2 (by simp) (by simp) (by simp [AV.clean, AV.clean1]) (by simp) (by simp [CB, LB])⟩ (fun ⟨i, x⟩ ⟨hi, hs⟩ => ?_)
    simp only at hi hs ⊢
    by_cases hlt : i < c.order.length
    · have i1 : I64 ((i : Int) + 1) := by unfold I64; omega
      have w := w5 _ (ix_mem hlt)
      rw [foldl_drop hlt] at hs
      simp [CB, LB, hlt, rowAt_enc hlt, sChk, sAdd, sNeed, w, i1]
      exact ⟨i + 1, sortS x (ix c.order i), ⟨by omega, hs⟩, by omega, weak_keep 2 (by simp) (by simp) (by simp [AV.clean, AV.clean1]) (by simp) (by simp [CB, LB, sortS])⟩
    rw [List.drop_eq_nil_of_le (by omega), List.foldl_nil] at hs
    simp [CB, LB, hlt]
    refine loop_rule (C := CCl m) (sigCCl m) (mixCCl m) (fun q : Nat × Int => ⟨[(1, .ptr 0 1 21 0 0), (3, .ptr 1 1 1 0 0), (93, Enc.enc c.sets), (94, .int .i64 c.sets.length), (95, .int .i64 q.1)], [CB c, LB q.2]⟩) (fun q => q.1 ≤ c.sets.length ∧ (c.sets.drop q.1).foldl setS q.2 = c.sets.foldl setS (c.order.foldl sortS (c.items.foldl itemS (partsB c)))) (fun q => c.sets.length - q.1) (by kernel_rfl) ⟨(0, x), ⟨by omega, by rw [hs]; rfl⟩, weak_keep 2 (by simp) (by simp) (by simp [AV.clean, AV.clean1]) (by simp) (by simp [CB, LB])⟩ (fun ⟨i, x⟩ ⟨hi, hs⟩ => ?_)
    simp only at hi hs ⊢
    by_cases hlt : i < c.sets.length
    · have i1 : I64 ((i : Int) + 1) := by unfold I64; omega
      have w := w6 _ (ix_mem hlt)
      rw [foldl_drop hlt] at hs
      simp [CB, LB, hlt, rowAt_enc hlt, sSetE, sAdd, sNeed, w, i1]
      exact ⟨i + 1, setS x (ix c.sets i), ⟨by omega, hs⟩, by omega, weak_keep 2 (by simp) (by simp) (by simp [AV.clean, AV.clean1]) (by simp) (by simp [CB, LB, setS])⟩
    rw [List.drop_eq_nil_of_le (by omega), List.foldl_nil] at hs
    simp [CB, LB, hlt]
    refine loop_rule (C := CCl m) (sigCCl m) (mixCCl m) (fun q : Nat × Int => ⟨[(1, .ptr 0 1 21 0 0), (3, .ptr 1 1 1 0 0), (104, Enc.enc c.names), (105, .int .i64 c.names.length), (106, .int .i64 q.1)], [CB c, LB q.2]⟩) (fun q => q.1 ≤ c.names.length ∧ (c.names.drop q.1).foldl nameS q.2 = partsC c) (fun q => c.names.length - q.1) (by kernel_rfl) ⟨(0, x), ⟨by omega, by rw [hs]; rfl⟩, weak_keep 2 (by simp) (by simp) (by simp [AV.clean, AV.clean1]) (by simp) (by simp [CB, LB])⟩ (fun ⟨i, x⟩ ⟨hi, hs⟩ => ?_)
    simp only at hi hs ⊢
    by_cases hlt : i < c.names.length
    · have i1 : I64 ((i : Int) + 1) := by unfold I64; omega
      rw [foldl_drop hlt] at hs
      simp [CB, LB, hlt, rowAt_enc hlt, sAdd, sNeed, i1]
      exact ⟨i + 1, nameS x (ix c.names i), ⟨by omega, hs⟩, by omega, weak_keep 2 (by simp) (by simp) (by simp [AV.clean, AV.clean1]) (by simp) (by simp [CB, LB, nameS])⟩
    rw [List.drop_eq_nil_of_le (by omega), List.foldl_nil] at hs
    simp [CB, LB, hlt, hs]
end
end Go.Proofs.YtgjljfbohpnfcaaGreat


namespace Go.Proofs.YtgjljfbohpnfcaaGreat
open Go.RowKit
set_option linter.unusedSimpArgs false
set_option linter.unusedVariables false
set_option maxRecDepth 100000
def goQ (n : Nat) : List Clause → Nat → Int × Int
  | [], _ => (0, 0)
  | c :: r, i => if clauseE c ≠ 0 then (i, clauseE c) else if (¬ i + 1 = n ∧ c.kind = 4) ∨ (i + 1 = n ∧ c.kind ≤ 3) then (i, 26) else goQ n r (i + 1)
theorem goQ_drop {n : Nat} {l : List Clause} {i : Nat} (h : i < l.length) : goQ n (l.drop i) i = if clauseE (ix l i) ≠ 0 then ((i : Int), clauseE (ix l i)) else if (¬ i + 1 = n ∧ (ix l i).kind = 4) ∨ (i + 1 = n ∧ (ix l i).kind ≤ 3) then ((i : Int), 26) else goQ n (l.drop (i + 1)) (i + 1) := by
  rw [List.drop_eq_getElem_cons h, goQ, ix_lt h]
def queryE (q : Query) : Int × Int := if q.clauses = [] ∨ 12 < q.clauses.length then (0, 4) else goQ q.clauses.length q.clauses 0
def pairA (p : Int × Int) : AV := .tup [.int .i64 p.1, .int .i64 p.2]
@[simp] theorem pairA_mk (a b : Int) : pairA (a, b) = .tup [.int .i64 a, .int .i64 b] := rfl
def WfQy (q : Query) : Prop := q.clauses.length ≤ maxLen ∧ ∀ c ∈ q.clauses, WfC c
def QB (q : Query) : Blk := ⟨24, 1, [[.slice 21 false (encRows q.clauses)]], true, true⟩
section
variable {m : Int}
noncomputable def CQu (m : Int) : Ctx := mkC Tryz.prog (G m) [(33, .pure sClause)]
@[simp] theorem CQu_P (m : Int) : (CQu m).P = Tryz.prog := rfl
@[simp] theorem CQu_G (m : Int) : (CQu m).G = (G m) := rfl
@[simp] theorem CQu_1 (m : Int) : (CQu m).S 33 = .pure sClause := rfl
theorem mixCQu (m : Int) : (CQu m).P.follows .mixedOrders = true := mixed
theorem sigCQu (m : Int) : SigOK (CQu m) := sigOK_cons (entryPure (clauseP) Tryz.func33 rfl (by decide)) (sigOK_nil _ _)
def sQuery : List AV → Option (Prop × AV) := spec1 (fun (q : Query) => WfQy q) (fun q => pairA (queryE q))
set_option maxHeartbeats 8000000 in
theorem queryP : PureOK Tryz.prog (G m) 22 sQuery := by
  refine pure1 (C := CQu m) (sigCQu m) (mixCQu m) Tryz.func22 rfl rfl rfl (by kernel_rfl) (by decide) (fun q ⟨hl, hw⟩ => ?_)
  rcases em2 (q.clauses = []) with h1 | h1
  · have hq : queryE q = (0, 4) := by unfold queryE; rw [if_pos (.inl (of_eq_true h1))]
    simp [h1, hq]
  by_cases h2 : 12 < q.clauses.length
  · have hq : queryE q = (0, 4) := by unfold queryE; rw [if_pos (.inr h2)]
    have h2' : (12 : Int) < q.clauses.length := by omega
    simp [h1, h2', hq]
  have hq : queryE q = goQ q.clauses.length q.clauses 0 := by unfold queryE; rw [if_neg (by rintro (h | h); exact of_eq_false h1 h; exact h2 h)]
  have h2' : ¬ (12 : Int) < q.clauses.length := by omega
  simp [h1, h2', hq]
  refine loop_rule (C := CQu m) (sigCQu m) (mixCQu m) (fun i : Nat => ⟨[(1, .ptr 0 1 1 0 0), (19, Enc.enc q.clauses), (20, .int .i64 q.clauses.length), (21, .int .i64 i)], [QB q]⟩) (fun i => i ≤ q.clauses.length ∧ goQ q.clauses.length (q.clauses.drop i) i = goQ q.clauses.length q.clauses 0) (fun i => q.clauses.length - i) (by kernel_rfl) ⟨0, by simp, weak_slots (by simp)⟩ (fun i ⟨hi, hs⟩ => ?_)
  by_cases hlt : i < q.clauses.length
  · have i1 : I64 ((i : Int) + 1) := by unfold I64; omega
    have i2 : I64 ((q.clauses.length : Int) - 1) := by unfold I64; omega
    have w := hw _ (ix_mem hlt)
    rw [goQ_drop hlt] at hs
    by_cases hc : clauseE (ix q.clauses i) = 0
    case neg =>
      rw [if_pos hc] at hs
      simp [QB, hlt, rowAt_enc hlt, sClause, w, hc, ← hs]
    rw [if_neg (by simp [hc])] at hs
    by_cases hlast : i + 1 = q.clauses.length
    · have e1 : ((i : Int) = (q.clauses.length : Int) - 1) = True := eq_true (by omega)
      by_cases hk : (ix q.clauses i).kind ≤ 3
      · rw [if_pos (.inr ⟨hlast, hk⟩)] at hs
        simp [QB, hlt, rowAt_enc hlt, sClause, w, hc, e1, i2, hk, ← hs]
      · rw [if_neg (by simp [hlast, hk])] at hs
        simp [QB, hlt, rowAt_enc hlt, sClause, w, hc, e1, i2, hk, i1]
        exact ⟨i + 1, ⟨by omega, hs⟩, by omega, weak_keep 1 (by simp) (by simp) (by simp [AV.clean, AV.clean1]) (by simp) (by simp [QB])⟩
    · have e1 : ((i : Int) = (q.clauses.length : Int) - 1) = False := eq_false (by omega)
      rcases em2 ((ix q.clauses i).kind = 4) with hk | hk
      · rw [if_pos (.inl ⟨hlast, of_eq_true hk⟩)] at hs
        simp [QB, hlt, rowAt_enc hlt, sClause, w, hc, e1, i2, hk, ← hs]
      · rw [if_neg (by rintro (⟨_, h⟩ | ⟨h, _⟩); exact of_eq_false hk h; exact hlast h)] at hs
        simp [QB, hlt, rowAt_enc hlt, sClause, w, hc, e1, i2, hk, i1]
        exact ⟨i + 1, ⟨by omega, hs⟩, by omega, weak_keep 1 (by simp) (by simp) (by simp [AV.clean, AV.clean1]) (by simp) (by simp [QB])⟩
  · rw [List.drop_eq_nil_of_le (by omega), goQ] at hs
    simp [QB, hlt, ← hs]
end
end Go.Proofs.YtgjljfbohpnfcaaGreat


namespace Go.Proofs.YtgjljfbohpnfcaaGreat
set_option linter.unusedVariables false
structure Rs where
  old : List Cnt
  vars : List Cnt
  kind : Int
  e : Int
def Rs.fail (s : Rs) (x : Int) : Rs := if s.e = 0 then { s with e := x } else s
def Rs.intro (s : Rs) (n : ByteArray) (k : Int) : Rs :=
  let s1 := if 24 ≤ s.vars.length then s.fail 4 else s
  if s1.e = 0 then { s1 with vars := s1.vars ++ [⟨n, k⟩] } else s1
def Rs.props (s : Rs) (l : List PropPat) : Rs := l.foldl (fun s p => s.fail (checkX s.old p.e false)) s
def Rs.nodeK (s : Rs) (n : NodePat) : Rs :=
  if n.var ≠ ⟨#[]⟩ ∧ kindF s.vars n.var = 0 then s.intro n.var 1
  else if n.var ≠ ⟨#[]⟩ then
    let s1 := if kindF s.vars n.var ≠ 1 then s.fail 8 else s
    if s1.kind ≠ 1 ∧ 0 < n.labels.length + n.props.length then s1.fail 7 else s1
  else s
def Rs.node (s : Rs) (n : NodePat) : Rs := (s.nodeK n).props n.props
def Rs.edgeK (s : Rs) (x : EdgePat) : Rs :=
  if x.var ≠ ⟨#[]⟩ ∧ kindF s.vars x.var = 0 then s.intro x.var (if x.mode = 0 then 2 else 4)
  else if x.var ≠ ⟨#[]⟩ then
    let s1 := if s.kind ≠ 1 ∨ x.mode ≠ 0 then s.fail 7 else s
    if kindF s.vars x.var ≠ 2 then s1.fail 8 else s1
  else s
def Rs.edge (s : Rs) (x : EdgePat) : Rs := (s.edgeK x).props x.props
def Rs.walk (s : Rs) (p : PathPat) : Nat → Rs
  | 0 => s
  | k + 1 => if k < p.edges.length then ((s.walk p k).node (ix p.nodes k)).edge (ix p.edges k) else (s.walk p k).node (ix p.nodes k)
def Rs.pathV (s : Rs) (v : ByteArray) : Rs :=
  if v = ⟨#[]⟩ then s else
    let s1 := if s.kind = 5 then s.fail 8 else s
    let s2 := if kindF s1.vars v ≠ 0 then s1.fail 7 else s1
    s2.intro v 3
def Rs.path (s : Rs) (p : PathPat) : Rs := (s.walk p p.nodes.length).pathV p.var
def Rs.pathL (s : Rs) (l : List PathPat) : Rs := l.foldl Rs.path s
def Rs.chks (s : Rs) (l : List Expr) : Rs := l.foldl (fun s e => s.fail (checkX s.vars e false)) s
def Rs.element (s : Rs) (n : ByteArray) (node : Bool) : Rs :=
  let k := kindF s.vars n
  let s1 := if k = 0 then s.fail 6 else s
  if k ≠ 1 ∧ (k ≠ 2 ∨ node = true) then s1.fail 8 else s1
def Sim (b : Bn) (s : Rs) : Prop := b.e = s.e ∧ (b.e = 0 → b.now = s.vars ∧ b.old = s.old)
theorem Rs.fail_ne {s : Rs} {x : Int} (h : s.e ≠ 0) : s.fail x = s := by unfold Rs.fail; rw [if_neg h]
theorem Rs.fail_zero {s : Rs} {x : Int} (h : s.e = 0) : s.fail x = { s with e := x } := by unfold Rs.fail; rw [if_pos h]
theorem Bn.fail_zero {b : Bn} {x : Int} (h : b.e = 0) : b.fail x = { b with e := x } := by unfold Bn.fail; rw [if_pos h]
@[simp] theorem Rs.fail_kind (s : Rs) (x : Int) : (s.fail x).kind = s.kind := by unfold Rs.fail; split <;> rfl
theorem Rs.fail_vars (s : Rs) (x : Int) : (s.fail x).vars = s.vars := by unfold Rs.fail; split <;> rfl
theorem Rs.fail_old (s : Rs) (x : Int) : (s.fail x).old = s.old := by unfold Rs.fail; split <;> rfl
@[simp] theorem Rs.intro_kind (s : Rs) (n : ByteArray) (k : Int) : (s.intro n k).kind = s.kind := by
  unfold Rs.intro
  dsimp only
  repeat' split
  all_goals first | rfl | exact Rs.fail_kind _ _
theorem bn_intro_ne {b : Bn} {n : ByteArray} {k : Int} (h : b.e ≠ 0) : (b.intro n k).e = b.e := by
  unfold Bn.intro
  split
  · rw [fail_ne h]
  · rfl
theorem rs_intro_ne {s : Rs} {n : ByteArray} {k : Int} (h : s.e ≠ 0) : s.intro n k = s := by
  unfold Rs.intro
  have : (if 24 ≤ s.vars.length then s.fail 4 else s) = s := by split; exact Rs.fail_ne h; rfl
  rw [this]
  dsimp only
  rw [if_neg h]
theorem Sim.fail {b : Bn} {s : Rs} (h : Sim b s) (x : Int) : Sim (b.fail x) (s.fail x) := by
  by_cases h0 : b.e = 0
  · have h1 : s.e = 0 := h.1 ▸ h0
    obtain ⟨h2, h3⟩ := h.2 h0
    rw [Bn.fail_zero h0, Rs.fail_zero h1]
    exact ⟨rfl, fun _ => ⟨h2, h3⟩⟩
  · rw [fail_ne h0, Rs.fail_ne (h.1 ▸ h0)]
    exact h
theorem Sim.stay {b b' : Bn} {s s' : Rs} (h : Sim b s) (h0 : b.e ≠ 0) (h1 : b'.e = b.e) (h2 : s'.e = s.e) : Sim b' s' :=
  ⟨h1.trans (h.1.trans h2.symm), fun h3 => absurd (h1 ▸ h3) h0⟩
theorem Sim.intro {b : Bn} {s : Rs} (h : Sim b s) (n : ByteArray) (k : Int) : Sim (b.intro n k) (s.intro n k) := by
  by_cases h0 : b.e = 0
  · have h1 : s.e = 0 := h.1 ▸ h0
    obtain ⟨h2, h3⟩ := h.2 h0
    unfold Bn.intro Rs.intro
    rw [h2]
    by_cases h4 : 24 ≤ s.vars.length
    · rw [if_pos h4, if_pos h4]
      dsimp only
      have : (s.fail 4).e ≠ 0 := by rw [Rs.fail_zero h1]; show (4 : Int) ≠ 0; decide
      rw [if_neg this]
      exact h.fail 4
    · rw [if_neg h4, if_neg h4]
      dsimp only
      rw [if_pos h1]
      exact ⟨h.1, fun _ => ⟨rfl, h3⟩⟩
  · exact h.stay h0 (bn_intro_ne h0) (by rw [rs_intro_ne (h.1 ▸ h0)])
theorem Sim.chkO {b : Bn} {s : Rs} (h : Sim b s) (e : Expr) (w : Bool) : Sim (b.fail (checkX b.old e w)) (s.fail (checkX s.old e w)) := by
  by_cases h0 : b.e = 0
  · rw [(h.2 h0).2]; exact h.fail _
  · rw [fail_ne h0, Rs.fail_ne (h.1 ▸ h0)]; exact h
theorem Sim.chkN {b : Bn} {s : Rs} (h : Sim b s) (e : Expr) (w : Bool) : Sim (b.fail (checkX b.now e w)) (s.fail (checkX s.vars e w)) := by
  by_cases h0 : b.e = 0
  · rw [(h.2 h0).1]; exact h.fail _
  · rw [fail_ne h0, Rs.fail_ne (h.1 ▸ h0)]; exact h
theorem Sim.props : ∀ {l : List PropPat} {b : Bn} {s : Rs}, Sim b s → Sim (b.props l) (s.props l)
  | [], _, _, h => h
  | a :: r, b, s, h => Sim.props (l := r) (h.chkO a.e false)
theorem Sim.chks : ∀ {l : List Expr} {b : Bn} {s : Rs}, Sim b s → Sim (b.chks l) (s.chks l)
  | [], _, _, h => h
  | a :: r, b, s, h => Sim.chks (l := r) (h.chkN a false)
theorem Rs.props_kind : ∀ {l : List PropPat} {s : Rs}, (s.props l).kind = s.kind
  | [], _ => rfl
  | a :: r, s => (Rs.props_kind (l := r)).trans (Rs.fail_kind _ _)
theorem Rs.fail_fail {s : Rs} {x y : Int} (h : s.e = 0) (hx : x ≠ 0) : (s.fail x).fail y = s.fail x := by
  refine Rs.fail_ne ?_
  rw [Rs.fail_zero h]
  exact hx
theorem Sim.nodeK {b : Bn} {s : Rs} (h : Sim b s) (n : NodePat) : Sim (b.nodeK n (decide (s.kind = 1))) (s.nodeK n) := by
  by_cases h0 : b.e = 0
  · obtain ⟨h2, h3⟩ := h.2 h0
    have hs0 : s.e = 0 := h.1 ▸ h0
    by_cases hv : n.var = ⟨#[]⟩
    · simpa [Bn.nodeK, Rs.nodeK, hv] using h
    by_cases hk : kindF s.vars n.var = 0
    · simpa [Bn.nodeK, Rs.nodeK, hv, h2, hk] using h.intro n.var 1
    by_cases h1 : kindF s.vars n.var = 1
    · by_cases hm : s.kind = 1
      · simpa [Bn.nodeK, Rs.nodeK, hv, h2, h1, hm] using h
      · by_cases hl : n.labels = []
        · by_cases hp : n.props = []
          · simpa [Bn.nodeK, Rs.nodeK, hv, h2, h1, hm, hl, hp] using h
          · have := List.length_pos_iff.2 hp
            simpa [Bn.nodeK, Rs.nodeK, hv, h2, h1, hm, hl, hp, this] using h.fail 7
        · have := List.length_pos_iff.2 hl
          have h5 : 0 < n.labels.length + n.props.length := by omega
          have h6 : ¬ (n.labels.length = 0 ∧ n.props.length = 0) := by omega
          simpa [Bn.nodeK, Rs.nodeK, hv, h2, h1, hm, hl, h5] using h.fail 7
    · have := Rs.fail_fail (y := 7) hs0 (show (8 : Int) ≠ 0 by decide)
      simpa [Bn.nodeK, Rs.nodeK, hv, h2, hk, h1, this] using h.fail 8
  · have h1 : s.e ≠ 0 := h.1 ▸ h0
    refine h.stay h0 ?_ ?_
    · unfold Bn.nodeK
      repeat' split
      all_goals first | rfl | exact bn_intro_ne h0 | rw [fail_ne h0]
    · unfold Rs.nodeK
      dsimp only
      simp only [Rs.fail_ne h1, rs_intro_ne h1, ite_self]
theorem Sim.edgeK {b : Bn} {s : Rs} (h : Sim b s) (n : EdgePat) : Sim (b.edgeK n (decide (s.kind = 1))) (s.edgeK n) := by
  by_cases h0 : b.e = 0
  · obtain ⟨h2, h3⟩ := h.2 h0
    have hs0 : s.e = 0 := h.1 ▸ h0
    by_cases hv : n.var = ⟨#[]⟩
    · simpa [Bn.edgeK, Rs.edgeK, hv] using h
    by_cases hk : kindF s.vars n.var = 0
    · by_cases hd : n.mode = 0
      · simpa [Bn.edgeK, Rs.edgeK, hv, h2, hk, hd] using h.intro n.var 2
      · simpa [Bn.edgeK, Rs.edgeK, hv, h2, hk, hd] using h.intro n.var 4
    have h7 := Rs.fail_fail (y := 8) hs0 (show (7 : Int) ≠ 0 by decide)
    by_cases hm : s.kind = 1
    · by_cases hd : n.mode = 0
      · by_cases h1 : kindF s.vars n.var = 2
        · simpa [Bn.edgeK, Rs.edgeK, hv, h2, h1, hm, hd] using h
        · simpa [Bn.edgeK, Rs.edgeK, hv, h2, hk, h1, hm, hd] using h.fail 8
      · simpa [Bn.edgeK, Rs.edgeK, hv, h2, hk, hm, hd, h7] using h.fail 7
    · simpa [Bn.edgeK, Rs.edgeK, hv, h2, hk, hm, h7] using h.fail 7
  · have h1 : s.e ≠ 0 := h.1 ▸ h0
    refine h.stay h0 ?_ ?_
    · unfold Bn.edgeK
      repeat' split
      all_goals first | rfl | exact bn_intro_ne h0 | rw [fail_ne h0]
    · unfold Rs.edgeK
      dsimp only
      simp only [Rs.fail_ne h1, rs_intro_ne h1, ite_self]
@[simp] theorem Rs.nodeK_kind (s : Rs) (n : NodePat) : (s.nodeK n).kind = s.kind := by
  unfold Rs.nodeK
  dsimp only
  repeat' split
  all_goals simp
@[simp] theorem Rs.edgeK_kind (s : Rs) (n : EdgePat) : (s.edgeK n).kind = s.kind := by
  unfold Rs.edgeK
  dsimp only
  repeat' split
  all_goals simp
theorem Sim.node {b : Bn} {s : Rs} (h : Sim b s) (n : NodePat) : Sim (b.node n (decide (s.kind = 1))) (s.node n) := (h.nodeK n).props
theorem Sim.edge {b : Bn} {s : Rs} (h : Sim b s) (n : EdgePat) : Sim (b.edge n (decide (s.kind = 1))) (s.edge n) := (h.edgeK n).props
@[simp] theorem Rs.node_kind (s : Rs) (n : NodePat) : (s.node n).kind = s.kind := Rs.props_kind.trans (s.nodeK_kind n)
@[simp] theorem Rs.edge_kind (s : Rs) (n : EdgePat) : (s.edge n).kind = s.kind := Rs.props_kind.trans (s.edgeK_kind n)
@[simp] theorem Rs.walk_kind (s : Rs) (p : PathPat) : ∀ k, (s.walk p k).kind = s.kind
  | 0 => rfl
  | k + 1 => by
    have := s.walk_kind p k
    rw [Rs.walk]
    split <;> simp [this]
theorem Sim.walk {b : Bn} {s : Rs} (h : Sim b s) (p : PathPat) : ∀ k, Sim (b.walk p (decide (s.kind = 1)) k) (s.walk p k)
  | 0 => h
  | k + 1 => by
    have h1 := (h.walk p k).node (ix p.nodes k)
    rw [Rs.walk_kind] at h1
    rw [Bn.walk, Rs.walk]
    split
    · have h2 := h1.edge (ix p.edges k)
      rw [Rs.node_kind, Rs.walk_kind] at h2
      exact h2
    · exact h1
@[simp] theorem Rs.pathV_kind (s : Rs) (v : ByteArray) : (s.pathV v).kind = s.kind := by
  unfold Rs.pathV
  dsimp only
  repeat' split
  all_goals simp
theorem Sim.pathV {b : Bn} {s : Rs} (h : Sim b s) (v : ByteArray) : Sim (b.pathV v s.kind) (s.pathV v) := by
  by_cases h0 : b.e = 0
  · obtain ⟨h2, h3⟩ := h.2 h0
    have hs0 : s.e = 0 := h.1 ▸ h0
    by_cases hv : v = ⟨#[]⟩
    · simpa [Bn.pathV, Rs.pathV, hv] using h
    by_cases hk : s.kind = 5
    · have h8 : (s.fail 8).e ≠ 0 := by rw [Rs.fail_zero hs0]; show (8 : Int) ≠ 0; decide
      simpa [Bn.pathV, Rs.pathV, hv, hk, Rs.fail_ne h8, rs_intro_ne h8] using h.fail 8
    by_cases h1 : kindF s.vars v = 0
    · simpa [Bn.pathV, Rs.pathV, hv, hk, h2, h1] using h.intro v 3
    · have h8 : (s.fail 7).e ≠ 0 := by rw [Rs.fail_zero hs0]; show (7 : Int) ≠ 0; decide
      simpa [Bn.pathV, Rs.pathV, hv, hk, h2, h1, rs_intro_ne h8] using h.fail 7
  · have h1 : s.e ≠ 0 := h.1 ▸ h0
    refine h.stay h0 ?_ ?_
    · unfold Bn.pathV
      repeat' split
      all_goals first | rfl | exact bn_intro_ne h0 | rw [fail_ne h0]
    · unfold Rs.pathV
      dsimp only
      simp only [Rs.fail_ne h1, rs_intro_ne h1, ite_self]
theorem Sim.path {b : Bn} {s : Rs} (h : Sim b s) (p : PathPat) : Sim (b.path p s.kind) (s.path p) := by
  have h1 := (h.walk p p.nodes.length).pathV p.var
  rw [Rs.walk_kind] at h1
  exact h1
@[simp] theorem Rs.path_kind (s : Rs) (p : PathPat) : (s.path p).kind = s.kind := (Rs.pathV_kind _ _).trans (s.walk_kind p _)
theorem Sim.pathL {k : Int} : ∀ {l : List PathPat} {b : Bn} {s : Rs}, s.kind = k → Sim b s → Sim (b.pathL l k) (s.pathL l)
  | [], _, _, _, h => h
  | a :: r, b, s, hk, h => Sim.pathL (l := r) ((s.path_kind a).trans hk) (by have := h.path a; rwa [hk] at this)
theorem Sim.element {b : Bn} {s : Rs} (h : Sim b s) (n : ByteArray) (edges : Bool) : Sim (b.element n edges) (s.element n (!edges)) := by
  by_cases h0 : b.e = 0
  · obtain ⟨h2, h3⟩ := h.2 h0
    have hs0 : s.e = 0 := h.1 ▸ h0
    by_cases hk : kindF s.vars n = 0
    · have := Rs.fail_fail (y := 8) hs0 (show (6 : Int) ≠ 0 by decide)
      simpa [Bn.element, Rs.element, h2, hk, this] using h.fail 6
    by_cases h1 : kindF s.vars n = 1
    · simpa [Bn.element, Rs.element, h2, h1] using h
    by_cases h4 : kindF s.vars n = 2
    · cases edges
      · simpa [Bn.element, Rs.element, h2, h4] using h.fail 8
      · simpa [Bn.element, Rs.element, h2, h4] using h
    · simpa [Bn.element, Rs.element, h2, hk, h1, h4] using h.fail 8
  · have h1 : s.e ≠ 0 := h.1 ▸ h0
    refine h.stay h0 ?_ ?_
    · unfold Bn.element
      repeat' split
      all_goals first | rfl | rw [fail_ne h0]
    · unfold Rs.element
      dsimp only
      simp only [Rs.fail_ne h1, ite_self]
end Go.Proofs.YtgjljfbohpnfcaaGreat
