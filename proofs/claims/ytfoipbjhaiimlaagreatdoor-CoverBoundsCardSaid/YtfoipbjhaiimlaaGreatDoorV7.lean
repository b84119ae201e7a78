/-
  Texts joined.
-/
import Derived.Test.YtfoipbjhaiimlaaGreatDoorV6
import Derived.Test.YtfoipbjhaiimlaaGreatDoorV5
import Derived.Test.YtfoipbjhaiimlaaGreatDoorV3
import Derived.RangeFuncLeaves
import Derived.RangeFuncRecord
import Derived.TacticsIn
import Derived.RangeFuncBox
import Derived.RangeFuncWrites
import Derived.Shelf.Abstract
import Derived.WalkKit
import Derived.OwnWalkIn
import Derived.TacticsInMore
import Derived.LoopNIn
import Derived.LoopIn
namespace Go.Proofs.YtfoipbjhaiimlaaGreatDoor
open Nat (le_mul_of_pos_left le_of_lt_succ le_succ lt_or_eq_of_le mul_le_mul mul_le_mul_left pow_add pow_le_pow_left pow_le_pow_right pow_one sub_self zero_le zero_pow)
open List (append_assoc append_nil cons_append getElem?_map length_append length_cons length_eq_zero_iff length_map length_nil length_take map_append map_cons map_nil mem_append mem_cons mem_filter mem_map mem_range nil_append nodup_cons nodup_nil nodup_range range_succ reverse_nil sum_cons take_of_length_le)
open Rat (div_def div_mul_cancel mul_eq_zero mul_le_mul_of_nonneg_left mul_le_mul_of_nonneg_right mul_nonneg)
open Int (natAbs_mul)
open _root_.Go.Proofs.Tryz
noncomputable section
set_option maxHeartbeats 16000000
namespace Nt
open Go.RowKit
set_option linter.unusedSimpArgs false
set_option linter.unusedVariables false
theorem L8 : PureOK prog G0 124 (aN (fun a : List Int => a.length <= 1000000) (fun a => .bool (d8 a))) := by
  refine bj (C := C0) M6 Lg func124 rfl rfl rfl (by kernel_rfl) (by decide) (fun a ha => ?_)
  simp
  refine BX (fun h => ?_) (fun h => ?_)
  · simp at h
    simp [d8]
    omega
  simp at h
  simp
  refine am (C := C0) M6 Lg (fun i : Nat => ⟨[(0, Enc.enc a), (8, Enc.enc a), (9, .int .i64 a.length), (10, .int .i64 i)], []⟩) (fun i => i <= a.length /\ ∀ j < i, 0 <= ix a j /\ ix a j < 1000000000) (fun i => a.length - i) (by kernel_rfl) ⟨0, by simp, ah (by simp)⟩ (fun i ⟨hi, hb⟩ => ?_)
  simp
  by_cases h1 : i < a.length
  · have hm := aq h1
    by_cases h2 : ix a i < 0
    · simp [aa h1, h1, h2]
      refine decide_eq_false fun h => ?_
      have := h.2.1 _ hm; omega
    · by_cases h3 : ix a i ≥ 1000000000
      · simp [aa h1, h1, h2, h3]
        refine decide_eq_false fun h => ?_
        have := h.2.1 _ hm; omega
      · have i1 : I64 ((i : Int) + 1) := by unfold I64; omega
        simp [aa h1, h1, h2, h3, i1]
        refine ⟨i + 1, ⟨by omega, fun j hj => ?_⟩, by omega, ah (by simp)⟩
        rcases lt_or_eq_of_le (le_of_lt_succ hj) with h | h
        · exact hb j h
        · subst h; omega
  · have hall : ∀ x ∈ a, 0 <= x /\ x < 1000000000 := fun x hx => by
      obtain ⟨j, hj, rfl⟩ := List.mem_iff_getElem.1 hx
      have := hb j (by omega)
      rwa [az hj] at this
    by_cases h2 : a = []
    · subst h2
      simp [d8]
    · have h0 : a.length ≠ 0 := fun h => h2 (length_eq_zero_iff.1 h)
      have h3 : a.length - 1 < a.length := by omega
      have h4 : ((a.length : Int) - 1).toNat = a.length - 1 := by omega
      have h5 : I64 ((a.length : Int) - 1) := by unfold I64; omega
      simp [h1, h2, h4, aa h3, h5]
      refine ⟨by omega, ?_⟩
      by_cases h6 : ix a (a.length - 1) = 0
      · simp [d8, h6, h2]
      · simp [d8, h6, h2, hall]
        exact ⟨by omega, hall⟩
def s26 : PSp := aN (fun a : List Int => a.length <= 1000000) (fun a => .bool (d8 a))
theorem Tg : PureOK prog G0 125 (aN (fun _ : Int => True) (fun _ => .bool false)) := by
  refine bj (C := C0) M6 Lg func125 rfl rfl rfl (by kernel_rfl) (by decide) (fun a _ => ?_)
  simp
theorem of20 : PureOK prog G0 48 (aN (fun n : Int => I64 n) (fun n => Enc.enc (canon n.toNat))) := by
  refine bj Ek ae func48 rfl rfl rfl (by kernel_rfl) (by decide) (fun n hn => ?_)
  simp
  refine am Ek ae (fun x : Int × List Int => ⟨[(0, .int .i64 x.1), (3, .own 0 x.2.length)], [⟨3, 1, ac x.2, true, true⟩]⟩) (fun x => x.1 <= n /\ x.2 ++ canon x.1.toNat = canon n.toNat) (fun x => x.1.toNat) (by kernel_rfl) ⟨(n, []), by simp, (dw 3 1 3 (by simp) (by decide)).trans (ah (by simp))⟩ (fun ⟨m, out⟩ ⟨hm, hx⟩ => ?_)
  simp only at hm hx ⊢
  by_cases h : 0 < m
  · have hc : canon m.toNat = (m.tmod 1000000000) :: canon (m.tdiv 1000000000).toNat := by
      rw [eZ (by omega)]
      rw [Int.tmod_eq_emod_of_nonneg (by omega), Int.tdiv_eq_ediv_of_nonneg (by omega)]
      congr 1
      · unfold B9; omega
      · congr 1; unfold B9; omega
    have hl : (canon n.toNat).length <= 10 := canon_len 10 _ (by unfold B9; unfold I64 at hn; omega)
    have hl2 := congrArg List.length hx
    rw [length_append] at hl2
    have hd : m.tdiv 1000000000 = m / 1000000000 := Int.tdiv_eq_ediv_of_nonneg (by omega)
    have i1 : I64 (m.tdiv 1000000000) := by rw [hd]; unfold I64 at hn ⊢; omega
    simp [h, i1]
    refine ⟨by omega, m.tdiv 1000000000, out ++ [m.tmod 1000000000], ⟨by omega, ?_⟩, by omega, ah (by simp)⟩
    rw [<- hx, hc]
    simp
  · simp [h]
    have h0 : m.toNat = 0 := by omega
    rw [h0, canon_zero, append_nil] at hx
    rw [hx]
def s54 : PSp := aN (fun _ : Int => True) (fun _ => .bool false)
def s20 : PSp := aN (fun n : Int => I64 n) (fun n => Enc.enc (canon n.toNat))
noncomputable def C4 : Ctx := mkC prog G0 [(124, .pure s26), (125, .pure s54), (48, .pure s20)]
@[simp] theorem Z3 : C4.P = prog := rfl
@[simp] theorem YD : C4.S 124 = .pure s26 /\ C4.S 125 = .pure s54 /\ C4.S 48 = .pure s20 := ⟨rfl, rfl, rfl⟩
theorem Jo : au C4 := ap L8 func124 (ap Tg func125 (ap of20 func48 (ak _ _)))
theorem LD : C4.P.follows .mixedOrders = true := ae
theorem LM : PureOK prog G0 89 (aN (fun a : List Int => a.length <= 1000000) (fun a => Enc.enc (eC a))) := by
  refine bj (C := C4) Jo LD func89 rfl rfl rfl (by kernel_rfl) (by decide) (fun a ha => ?_)
  cases h : d8 a
  · simp [s26, h, ha, eC]
  · simp [s26, h, ha, eC]
theorem Tt : PureOK prog G0 91 (aC (fun (_ _ : Int) => True) (fun a b => .int .i64 (if a < b then -1 else if b < a then 1 else 0))) := by
  refine aX (C := C4) Jo LD func91 rfl rfl rfl (by kernel_rfl) (by decide) (fun a b _ => ?_)
  by_cases h : a < b
  · simp [s54, h]
  · by_cases h' : b < a
    · simp [s54, h, h']
    · simp [s54, h, h']
theorem Px : PureOK prog G0 126 (aN (fun a : List Int => Good a /\ a.length <= 1000000) (fun a => Enc.enc (canon (val a)))) := by
  refine bj (C := C4) Jo LD func126 rfl rfl rfl (by kernel_rfl) (by decide) (fun a ⟨hg, ha⟩ => ?_)
  simp
  refine am (C := C4) Jo LD (fun n : Nat => ⟨[(0, Enc.enc (a.take n))], []⟩) (fun n => n <= a.length /\ val (a.take n) = val a) id (by kernel_rfl) ⟨a.length, by simp, ah (by simp)⟩ (fun n ⟨hn, hv⟩ => ?_)
  have hl : (a.take n).length = n := by rw [length_take, Nat.min_eq_left hn]
  have fin : (n ≠ 0 -> ix (a.take n) (n - 1) ≠ 0) -> canon (val a) = a.take n := fun h => by
    rw [<- hv]
    refine canon_val (v9 n hg) fun hne => ?_
    have h0 : n ≠ 0 := fun h0 => hne (by rw [h0]; simp)
    rw [hl]
    exact h h0
  by_cases h0 : n = 0
  · subst h0
    simp
    rw [fin (by simp)]
    simp
  · have h1 : n - 1 < (a.take n).length := by omega
    have h2 : ((n : Int) - 1).toNat = n - 1 := by omega
    have h3 : I64 ((n : Int) - 1) := by unfold I64; omega
    have h4 : 0 < n := by omega
    have ht : (a.take n).take (n - 1) = a.take (n - 1) := by rw [List.take_take, Nat.min_eq_left (by omega)]
    have hx : ix (a.take n) (n - 1) = ix a (n - 1) := by
      unfold ix
      rw [List.getD_eq_getElem?_getD, List.getD_eq_getElem?_getD, List.getElem?_take, if_pos (by omega)]
    have hv' := dk (l := a) (i := n - 1) (by omega)
    rw [Nat.sub_add_cancel h4, hv] at hv'
    have row := aa h1
    by_cases h5 : ix (a.take n) (n - 1) = 0
    · rw [<- hx, h5] at hv'
      generalize a.take n = t at *
      simp [h0, h2, h3, h4, hl, row, h5]
      refine ⟨by omega, by omega, n - 1, ⟨by omega, by simpa using hv'.symm⟩, by omega, ah (by simp [ht])⟩
    · have := fin fun _ => h5
      rw [this]
      generalize a.take n = t at *
      simp [h0, h2, h3, h4, hl, row, h5]
      omega
def s33 : PSp := aN (fun a : List Int => a.length <= 1000000) (fun a => Enc.enc (eC a))
def s45 : PSp := aC (fun (_ _ : Int) => True) (fun a b => .int .i64 (if a < b then -1 else if b < a then 1 else 0))
def s39 : PSp := aN (fun a : List Int => Good a /\ a.length <= 1000000) (fun a => Enc.enc (canon (val a)))
noncomputable def C5 : Ctx := mkC prog G0 [(89, .pure s33), (91, .pure s45), (126, .frz s39), (124, .pure s26), (125, .pure s54), (48, .pure s20)]
@[simp] theorem ZD : C5.P = prog := rfl
@[simp] theorem Yy : C5.S 124 = .pure s26 /\ C5.S 125 = .pure s54 /\ C5.S 48 = .pure s20 /\ C5.S 89 = .pure s33 /\ C5.S 91 = .pure s45 /\ C5.S 126 = .frz s39 := ⟨rfl, rfl, rfl, rfl, rfl, rfl⟩
theorem CU : au C5 := ap LM func89 (ap Tt func91 (aL (oF Px func126 rfl (by decide)) Jo))
theorem GZ : C5.P.follows .mixedOrders = true := ae
end Nt
namespace Nt
open Go.RowKit
set_option linter.unusedSimpArgs false
set_option linter.unusedVariables false
theorem OJ : PureOK prog G0 92 (aN (fun l : List Int => Good l /\ l.length <= 1000000) (fun l => fitT (val l))) := by
  refine bj (C := C5) CU GZ func92 rfl rfl rfl (by kernel_rfl) (by decide) (fun a ⟨hg, ha⟩ => ?_)
  by_cases h : (canon (val a)).length <= 64
  · have h' : ¬ (64 : Int) < (canon (val a)).length := by omega
    simp [s39, hg, ha, h', fitT, h]
  · have h' : (64 : Int) < (canon (val a)).length := by omega
    simp [s39, hg, ha, h', fitT, h]
theorem cmp24 : PureOK prog G0 49 (aC (fun (a b : List Int) => a.length <= 1000000 /\ b.length <= 1000000) (fun a b => .int .i64 (cmpN (nv a) (nv b)))) := by
  refine aX (C := C5) CU GZ func49 rfl rfl rfl (by kernel_rfl) (by decide) (fun a b ⟨ha, hb⟩ => ?_)
  have hxl := iN a
  have hyl := iN b
  have hxg := gm a
  have hyg := gm b
  have hxn := qO a
  have hyn := qO b
  have e1 : cmpN (nv a) (nv b) = cmpN (val (eC a)) (val (eC b)) := rfl
  simp [s45, s33, ha, hb]
  rw [e1]
  generalize eC a = x at *
  generalize eC b = y at *
  by_cases hl : x.length = y.length
  · simp [s45, hl]
    have h1 : I64 ((y.length : Int) - 1) := by unfold I64; omega
    simp [h1]
    refine am (C := C5) CU GZ (fun n : Nat => ⟨[(0, Enc.enc x), (1, Enc.enc y), (6, .int .i64 ((n : Int) - 1))], []⟩) (fun n => n <= x.length /\ x.drop n = y.drop n) id (by kernel_rfl) ⟨x.length, ⟨by simp, by rw [List.drop_of_length_le (by simp), List.drop_of_length_le (by omega)]⟩, ah (by simp [hl])⟩ (fun n ⟨hn, hd⟩ => ?_)
    by_cases h2 : n = 0
    · subst h2
      simp at hd
      subst hd
      simp [s45, cmpN]
    · have h3 : n - 1 < x.length := by omega
      have h4 : n - 1 < y.length := by omega
      have h5 : ((n : Int) - 1).toNat = n - 1 := by omega
      have h6 : (1 : Int) <= n := by omega
      have h7 : 0 < n := by omega
      have e := Nat.sub_add_cancel h7
      by_cases h8 : ix x (n - 1) < ix y (n - 1)
      · have := sJ hxg hyg h3 h4 (by rwa [e]) h8
        simp [s45, h5, h6, h7, aa h3, aa h4, h8, cmpN, this]
        omega
      · by_cases h9 : ix y (n - 1) < ix x (n - 1)
        · have := sJ hyg hxg h4 h3 (by rw [e]; exact hd.symm) h9
          have h10 : ¬ val x < val y := by omega
          have h11 : ¬ val x = val y := by omega
          simp [s45, h5, h6, h7, aa h3, aa h4, h8, h9, cmpN, h10, h11]
          omega
        · have k5 : I64 ((n : Int) - 1 - 1) := by unfold I64; omega
          simp [s45, h5, h6, h7, aa h3, aa h4, h8, h9, k5]
          refine ⟨by omega, by omega, n - 1, ⟨by omega, ?_⟩, by omega, ah (by simp; omega)⟩
          rw [Eg h3, Eg h4, e, hd]
          congr 1
          omega
  · have hl' : ¬ (x.length : Int) = y.length := by omega
    by_cases h : x.length < y.length
    · have := KQ hxg hyg hyn h
      simp [s45, hl', h, cmpN, this]
    · have := KQ hyg hxg hxn (by omega)
      have h' : ¬ val x < val y := by omega
      have h'' : ¬ val x = val y := by omega
      have h10 : ¬ x.length <= y.length := by omega
      have h11 : y.length < x.length := by omega
      simp [s45, hl', h, cmpN, h', h'', h10, h11]
theorem Gk : PureOK prog G0 93 (aC (fun (x y : List Int) => (Good x /\ x.length <= 128) /\ Good y /\ y.length <= 128) (fun x y => Enc.enc (canon (val x * val y)))) := by
  refine aX (C := C5) CU GZ func93 rfl rfl rfl (by kernel_rfl) (by decide) (fun x y ⟨⟨hx, hxl⟩, hy, hyl⟩ => ?_)
  have h1 : I64 ((x.length : Int) + y.length) := by unfold I64; omega
  have h2 : ((x.length : Int) + y.length).toNat = x.length + y.length := by omega
  simp [h1, h2]
  refine ⟨by omega, ?_⟩
  refine am (C := C5) CU GZ (fun p : Nat × List Int => ⟨[(0, Enc.enc x), (1, Enc.enc y), (5, .own 0 (x.length + y.length)), (17, Enc.enc x), (18, .int .i64 x.length), (19, .int .i64 p.1)], [⟨3, 1, ac p.2, true, true⟩]⟩)
    (fun p => p.1 <= x.length /\ p.2.length = x.length + y.length /\ Good p.2 /\ val p.2 = val (x.take p.1) * val y /\ ∀ k, p.1 + y.length <= k -> ix p.2 k = 0)
    (fun p => x.length - p.1) (by kernel_rfl) ⟨(0, List.replicate (x.length + y.length) 0), ?_, ah (by simp)⟩ (fun ⟨i, out⟩ ⟨hi, hl, hg, hv, hz⟩ => ?_)
  · exact ⟨zero_le _, by simp, zq _, by simp [LJ, val], fun k _ => jZ _ k⟩
  simp only at hi hl hg hv hz ⊢
  by_cases h3 : i < x.length
  · simp [h3, aa h3]
    refine am (C := C5) CU GZ (fun p : Nat × Int × List Int => ⟨[(0, Enc.enc x), (1, Enc.enc y), (5, .own 0 (x.length + y.length)), (17, Enc.enc x), (18, .int .i64 x.length), (19, .int .i64 i), (6, .int .i64 i), (7, .int .i64 (ix x i)), (8, .int .i64 p.2.1), (24, Enc.enc y), (25, .int .i64 y.length), (26, .int .i64 p.1)], [⟨3, 1, ac p.2.2, true, true⟩]⟩)
      (fun p => p.1 <= y.length /\ p.2.2.length = x.length + y.length /\ Good p.2.2 /\ (0 <= p.2.1 /\ p.2.1 < 1000000000) /\ val p.2.2 + p.2.1.toNat * B9 ^ (i + p.1) = val (x.take i) * val y + (ix x i).toNat * B9 ^ i * val (y.take p.1) /\ ∀ k, i + y.length <= k -> ix p.2.2 k = 0)
      (fun p => y.length - p.1) (by kernel_rfl) ⟨(0, 0, out), ?_, ah (by simp)⟩ (fun ⟨j, c, o⟩ ⟨hj, hol, hog, hc, hov, hoz⟩ => ?_)
    · exact ⟨zero_le _, hl, hg, by simp, by simp [hv, val], hz⟩
    simp only at hj hol hog hc hov hoz ⊢
    by_cases h4 : j < y.length
    · have h5 : ((i : Int) + j).toNat = i + j := by omega
      have h6 : i + j < o.length := by omega
      have h7 : I64 ((i : Int) + j) := by unfold I64; omega
      have hxi := nc hx h3
      have hyj := nc hy h4
      have hoi := nc hog h6
      have hp := Lb hxi hyj
      have e : ∀ s : Int, 0 <= s -> s.tmod 1000000000 = s % 1000000000 := fun s hs => Int.tmod_eq_emod_of_nonneg hs
      have e' : ∀ s : Int, 0 <= s -> s.tdiv 1000000000 = s / 1000000000 := fun s hs => Int.tdiv_eq_ediv_of_nonneg hs
      have hs : 0 <= c + (ix o (i + j) + ix x i * ix y j) := by omega
      have k1 : I64 (ix x i * ix y j) := by unfold I64; omega
      have k2 : I64 (ix o (i + j) + ix x i * ix y j) := by unfold I64; omega
      have k3 : I64 (c + (ix o (i + j) + ix x i * ix y j)) := by unfold I64; omega
      have k4 : I64 ((c + (ix o (i + j) + ix x i * ix y j)) / 1000000000) := by unfold I64; omega
      have k5 : I64 ((j : Int) + 1) := by unfold I64; omega
      simp [h4, h3, h5, h6, h7, aa h6, aa h3, aa h4, e _ hs, e' _ hs, k1, k2, k3, k4, k5]
      refine ⟨by omega, by omega, by omega, by omega, j + 1, _, _, ⟨by omega, by simpa using hol, uK hog (v := (c + (ix o (i + j) + ix x i * ix y j)) % 1000000000) (by omega), (by omega : 0 <= (c + (ix o (i + j) + ix x i * ix y j)) / 1000000000 /\ (c + (ix o (i + j) + ix x i * ix y j)) / 1000000000 < 1000000000), ?_, fun k hk => ?_⟩, by omega, ah (by simp)⟩
      · rw [dk h4, <- Nat.add_assoc i j 1, Nat.pow_succ]
        refine KR _ _ _ _ _ _ _ _ _ _ _ _ _ _ (pow_add B9 i j) (yY h6) ?_ hov
        have : (ix x i * ix y j).toNat = (ix x i).toNat * (ix y j).toNat := Int.toNat_mul hxi.1 hyj.1
        rw [<- this]
        unfold B9
        omega
      · rw [dY h6, if_neg (by omega)]
        exact hoz k hk
    · have hje : j = y.length := by omega
      subst hje
      have h5 : ((i : Int) + y.length).toNat = i + y.length := by omega
      have h6 : i + y.length < o.length := by omega
      have h7 : I64 ((i : Int) + y.length) := by unfold I64; omega
      have hz0 : ix o (i + y.length) = 0 := hoz _ (Nat.le_refl _)
      have hc2 : I64 c := by unfold I64; omega
      have k5 : I64 ((i : Int) + 1) := by unfold I64; omega
      simp [h4, h5, h6, h7, aa h6, hz0, hc2, k5]
      refine ⟨by omega, ⟨hol, h3⟩, by omega, ⟨hol, h3⟩, i + 1, _, ⟨by omega, by simpa using hol, uK hog hc, ?_, fun k hk => ?_⟩, by omega, ah (by simp)⟩
      · rw [List.take_length] at hov
        exact H7 _ _ _ _ _ _ _ _ _ _ (yY h6) (by rw [hoz _ (Nat.le_refl _)]; rfl) hov (dk h3)
      · rw [dY h6, if_neg (by omega)]
        exact hoz k (by omega)
  · simp [h3, s39, hl]
    rw [lP (by omega)] at hv
    refine ⟨⟨hg, by omega⟩, by rw [hv]⟩
def s37 : PSp := aN (fun l : List Int => Good l /\ l.length <= 1000000) (fun l => fitT (val l))
def s24 : PSp := aC (fun (a b : List Int) => a.length <= 1000000 /\ b.length <= 1000000) (fun a b => .int .i64 (cmpN (nv a) (nv b)))
def s38 : PSp := aC (fun (x y : List Int) => (Good x /\ x.length <= 128) /\ Good y /\ y.length <= 128) (fun x y => Enc.enc (canon (val x * val y)))
noncomputable def C6 : Ctx := mkC prog G0 [(49, .pure s24), (93, .pure s38), (92, .frz s37), (89, .pure s33), (91, .pure s45), (126, .frz s39), (124, .pure s26), (125, .pure s54), (48, .pure s20)]
@[simp] theorem ZC : C6.P = prog := rfl
@[simp] theorem Xk : C6.S 124 = .pure s26 /\ C6.S 125 = .pure s54 /\ C6.S 48 = .pure s20 /\ C6.S 89 = .pure s33 /\ C6.S 91 = .pure s45 /\ C6.S 49 = .pure s24 /\ C6.S 93 = .pure s38 /\ C6.S 126 = .frz s39 /\ C6.S 92 = .frz s37 := ⟨rfl, rfl, rfl, rfl, rfl, rfl, rfl, rfl, rfl⟩
theorem MW : au C6 := ap cmp24 func49 (ap Gk func93 (aL (oF OJ func92 rfl (by decide)) CU))
theorem QC : C6.P.follows .mixedOrders = true := ae
end Nt
namespace Nt
open Go.RowKit
set_option linter.unusedSimpArgs false
set_option linter.unusedVariables false
theorem Bv {x y : List Int} (hx : Good x) (hy : Good y) (hxl : x.length <= 64) (hyl : y.length <= 64) : (canon (val x * val y)).length <= 128 := canon_len 128 _ (by
    have h5 := Nat.mul_lt_mul_of_lt_of_le (zP hx hxl) (Nat.le_of_lt (zP hy hyl)) (by decide)
    rwa [<- pow_add] at h5)
theorem mul15 : PureOK prog G0 51 (aC (fun (a b : List Int) => a.length <= 1000000 /\ b.length <= 1000000) (fun a b => fitT (nv a * nv b))) := by
  refine aX (C := C6) MW QC func51 rfl rfl rfl (by kernel_rfl) (by decide) (fun a b ⟨ha, hb⟩ => ?_)
  have hxl := iN a
  have hyl := iN b
  have hxg := gm a
  have hyg := gm b
  have hlen := Bv hxg hyg hxl hyl
  simp [s33, s38, s37, ha, hb, hxg, hyg, canon_good, val_canon, fitT]
  exact ⟨⟨by omega, by omega⟩, by omega, rfl, Iff.rfl⟩
theorem add22 : PureOK prog G0 54 (aC (fun (a b : List Int) => a.length <= 1000000 /\ b.length <= 1000000) (fun a b => fitT (nv a + nv b))) := by
  refine aX (C := C6) MW QC func54 rfl rfl rfl (by kernel_rfl) (by decide) (fun a b ⟨ha, hb⟩ => ?_)
  have hxl := iN a
  have hyl := iN b
  have hxg := gm a
  have hyg := gm b
  have e1 : fitT (nv a + nv b) = fitT (val (eC a) + val (eC b)) := rfl
  rw [e1]
  obtain ⟨m, hm, h1, h2, h3⟩ : ∃ m : Nat, (if (eC a).length < (eC b).length then ((eC b).length : Int) else (eC a).length) = m /\ (eC a).length <= m /\ (eC b).length <= m /\ m <= 64 := by
    by_cases h : (eC a).length < (eC b).length
    · exact ⟨(eC b).length, by rw [if_pos h], by omega, by omega, by omega⟩
    · exact ⟨(eC a).length, by rw [if_neg h], by omega, by omega, by omega⟩
  have k0 : I64 ((m : Int) + 1) := by unfold I64; omega
  have k1 : ((m : Int) + 1).toNat = m + 1 := by omega
  simp [s33, ha, hb, hm, k0, k1]
  refine ⟨by omega, ?_⟩
  generalize eC a = x at *
  generalize eC b = y at *
  refine am (C := C6) MW QC (fun p : Nat × Int × List Int => ⟨[(0, Enc.enc x), (1, Enc.enc y), (6, .own 0 (m + 1)), (7, .int .i64 p.2.1), (21, .int .i64 ((m : Int) + 1)), (22, .int .i64 p.1)], [⟨3, 1, ac p.2.2, true, true⟩]⟩)
    (fun p => p.1 <= m + 1 /\ p.2.2.length = m + 1 /\ Good p.2.2 /\ (0 <= p.2.1 /\ p.2.1 <= 1) /\ val (p.2.2.take p.1) + p.2.1.toNat * B9 ^ p.1 = val (x.take p.1) + val (y.take p.1))
    (fun p => m + 1 - p.1) (by kernel_rfl) ⟨(0, 0, List.replicate (m + 1) 0), ⟨zero_le _, by simp, zq _, by simp, by simp [val]⟩, ah (by simp)⟩ (fun ⟨i, c, o⟩ ⟨hi, hl, hg, hc, hv⟩ => ?_)
  simp only at hi hl hg hc hv ⊢
  by_cases h4 : i < m + 1
  · have h5 : (i : Int) < (m : Int) + 1 := by omega
    have h6 : i < o.length := by omega
    have hxi := At hxg i
    have hyi := At hyg i
    have hs : 0 <= c + ix x i + ix y i := by omega
    have fin : ∀ s : Int, s = c + ix x i + ix y i -> ((i + 1 <= m + 1 /\ (o.set i (s % 1000000000)).length = m + 1 /\ Good (o.set i (s % 1000000000)) /\ (0 <= s / 1000000000 /\ s / 1000000000 <= 1) /\ val ((o.set i (s % 1000000000)).take (i + 1)) + (s / 1000000000).toNat * B9 ^ (i + 1) = val (x.take (i + 1)) + val (y.take (i + 1))) /\ m + 1 - (i + 1) < m + 1 - i) /\ I64 s /\ I64 (s / 1000000000) /\ I64 ((i : Int) + 1) := by
      intro s hs
      refine ⟨⟨⟨by omega, by simp [hl], uK hg (by omega), by omega, ?_⟩, by omega⟩, by unfold I64; omega, by unfold I64; omega, by unfold I64; omega⟩
      rw [uZ h6, JL, length_take, Nat.min_eq_left (by omega), lV, lV, Nat.pow_succ]
      refine Ka _ _ _ _ _ _ _ _ _ _ hv ?_
      unfold B9
      omega
    by_cases h7 : i < x.length
    · have k2 : I64 (c + ix x i) := by unfold I64; omega
      by_cases h8 : i < y.length
      · obtain ⟨⟨hI, hd⟩, k3, k4, k5⟩ := fin _ rfl
        simp [h5, h7, h8, aa h7, aa h8, aa h6, k2, k3, k4, k5, DU hs, EV hs]
        exact ⟨by omega, _, _, _, hI, hd, ah (by simp)⟩
      · obtain ⟨⟨hI, hd⟩, k3, k4, k5⟩ := fin (c + ix x i) (by rw [qJ (l := y) (by omega)]; omega)
        have hs' : 0 <= c + ix x i := by omega
        simp [h5, h7, h8, aa h7, aa h6, k2, k3, k4, k5, DU hs', EV hs']
        exact ⟨by omega, _, _, _, hI, hd, ah (by simp)⟩
    · by_cases h8 : i < y.length
      · obtain ⟨⟨hI, hd⟩, k3, k4, k5⟩ := fin (c + ix y i) (by rw [qJ (l := x) (by omega)]; omega)
        have hs' : 0 <= c + ix y i := by omega
        simp [h5, h7, h8, aa h8, aa h6, k3, k4, k5, DU hs', EV hs']
        exact ⟨by omega, _, _, _, hI, hd, ah (by simp)⟩
      · obtain ⟨⟨hI, hd⟩, k3, k4, k5⟩ := fin c (by rw [qJ (l := x) (by omega), qJ (l := y) (by omega)]; omega)
        simp [h5, h7, h8, aa h6, k3, k4, k5, DU hc.1, EV hc.1]
        exact ⟨by omega, _, _, _, hI, hd, ah (by simp)⟩
  · have h5 : ¬ (i : Int) < (m : Int) + 1 := by omega
    have him : i = m + 1 := by omega
    subst him
    rw [take_of_length_le (by omega), lP (by omega), lP (by omega)] at hv
    have hc0 : c = 0 := by
      rcases Int.lt_or_le 0 c with h | h
      · have : c.toNat = 1 := by omega
        rw [this, Nat.pow_succ] at hv
        have e1 := Nat.lt_of_lt_of_le (val_lt hxg) (EE h1)
        have e2 := Nat.lt_of_lt_of_le (val_lt hyg) (EE h2)
        have e3 : B9 ^ m * 2 <= B9 ^ m * B9 := mul_le_mul_left _ (by decide)
        omega
      · omega
    subst hc0
    have e : val x + val y = val o := by simpa using hv.symm
    rw [e]
    simp [h5, s37, hg, hl, fitT]
    omega
def s15 : PSp := aC (fun (a b : List Int) => a.length <= 1000000 /\ b.length <= 1000000) (fun a b => fitT (nv a * nv b))
def s22 : PSp := aC (fun (a b : List Int) => a.length <= 1000000 /\ b.length <= 1000000) (fun a b => fitT (nv a + nv b))
end Nt
namespace Nt
open Go.RowKit
set_option linter.unusedSimpArgs false
set_option linter.unusedVariables false
theorem L4 : PureOK prog G0 90 (aN (fun l : List Int => l.length <= 1000000) (fun l => Enc.enc l)) := by
  refine bj (C := C0) M6 Lg func90 rfl rfl rfl (by kernel_rfl) (by decide) (fun l hl => ?_)
  by_cases h : l.length = 0
  · have h' : l = [] := length_eq_zero_iff.1 h
    subst h'
    simp
  · simp [h]
    omega
def s34 : PSp := aN (fun l : List Int => l.length <= 1000000) (fun l => Enc.enc l)
noncomputable def C7 : Ctx := mkC prog G0 [(51, .pure s15), (90, .pure s34), (49, .pure s24), (93, .pure s38), (92, .frz s37), (89, .pure s33), (91, .pure s45), (126, .frz s39), (124, .pure s26), (125, .pure s54), (48, .pure s20)]
@[simp] theorem ZZ : C7.P = prog := rfl
@[simp] theorem Xu : C7.S 51 = .pure s15 /\ C7.S 90 = .pure s34 /\ C7.S 49 = .pure s24 /\ C7.S 93 = .pure s38 /\ C7.S 89 = .pure s33 /\ C7.S 91 = .pure s45 /\ C7.S 124 = .pure s26 /\ C7.S 125 = .pure s54 /\ C7.S 48 = .pure s20 /\ C7.S 92 = .frz s37 /\ C7.S 126 = .frz s39 := ⟨rfl, rfl, rfl, rfl, rfl, rfl, rfl, rfl, rfl, rfl, rfl⟩
theorem Sl : au C7 := ap mul15 func51 (aL (wk L4 func90 rfl (by decide)) MW)
theorem SK : C7.P.follows .mixedOrders = true := ae
theorem Li {k : Int} (h : 0 <= k) (h' : k <= 9223372036854775807) : iQ .and .i64 k 1 = k % 2 := by
  obtain ⟨n, rfl⟩ := Int.eq_ofNat_of_zero_le h
  have e : (BitVec.ofInt 64 (n : Int) &&& BitVec.ofInt 64 1).toNat = n % 2 := by
    rw [BitVec.toNat_and]
    have h1 : (BitVec.ofInt 64 (n : Int)).toNat = n := by simp; omega
    have h2 : (BitVec.ofInt 64 1).toNat = 1 := by decide
    rw [h1, h2, Nat.and_one_is_mod]
  show IntKind.wrap .i64 ((BitVec.ofInt 64 (n : Int) &&& BitVec.ofInt 64 1).toNat : Int) = _
  rw [e]
  rcases Nat.mod_two_eq_zero_or_one n with h | h <;> rw [h] <;> first | (show (0 : Int) = _; omega) | (show (1 : Int) = _; omega)
theorem nv_canon {n : Nat} (h : (canon n).length <= 64) : nv (canon n) = n := by
  have : d8 (canon n) = true := validR_iff.2 ⟨h, canon_good n, CM n⟩
  unfold nv eC
  rw [if_pos this, val_canon]
theorem Ml {v K : Nat} {k : Int} {m : Nat} (h1 : ¬ k < 0) (hK : k.toNat = K) (hm : m <= v ^ K) (hl : 64 < (canon m).length) : powT v k = .tup [.slice 1 false [], .bool false] := by
  have := BL hm
  rw [pW h1 rfl, hK, if_neg (by omega), decide_eq_false (by omega)]
  rfl
theorem pow11 : PureOK prog G0 47 (aC (fun (a : List Int) (k : Int) => a.length <= 1000000 /\ I64 k) (fun a k => powT (nv a) k)) := by
  refine aX (C := C7) Sl SK func47 rfl rfl rfl (by kernel_rfl) (by decide) (fun a k ⟨ha, hk⟩ => ?_)
  have hxl := iN a
  have hxg := gm a
  have hxn := qO a
  by_cases h1 : k < 0
  · simp [h1, Jy]
  have e1 : powT (nv a) k = powT (val (eC a)) k := rfl
  rw [e1]
  simp [s33, ha, h1]
  generalize eC a = x at *
  have i1 : I64 1 := by unfold I64; omega
  by_cases h2 : k = 0
  · subst h2
    rw [pW (l := [1]) h1 (by simp [mM])]
    simp [s20, i1, mM]
  by_cases h3 : x.length = 0
  · obtain rfl := length_eq_zero_iff.1 h3
    rw [pW (l := []) h1 (by rw [val, zero_pow (by omega), canon_zero])]
    simp [h2, s34]
  have h0 : 0 < x.length := by omega
  by_cases h4 : x.length = 1 /\ ix x 0 = 1
  · obtain ⟨h5, h6⟩ := h4
    have hx1 : x = [1] := by
      obtain ⟨x0, rfl⟩ := List.length_eq_one_iff.1 h5
      obtain rfl : x0 = 1 := h6
      rfl
    rw [pW (l := x) h1 (by rw [hx1]; simp [val, mM])]
    have h7 : x ≠ [] := fun h => by subst h; simp at h0
    simp [h2, h7, h5, aa h0, h6, s34]
  have hv : 2 <= val x := by
    by_cases h5 : x.length = 1
    · obtain ⟨x0, rfl⟩ := List.length_eq_one_iff.1 h5
      have h6 : ¬ x0 = 1 := fun h => h4 ⟨h5, h⟩
      have := hxn (by simp)
      have h8 : ¬ x0 = 0 := this
      have := hxg.head
      simp [val]
      omega
    · have h6 := Fp hxg hxn (fun h => by subst h; simp at h0)
      have h7 : B9 ^ 1 <= B9 ^ (x.length - 1) := EE (by omega)
      rw [pow_one] at h7
      have : B9 = 1000000000 := rfl
      omega
  have hx0 : x ≠ [] := fun h => by subst h; simp at h0
  have fin : ∀ (o : List Int) (m : Nat), o = canon m -> m = val x ^ k.toNat -> o.length <= 64 -> powT (val x) k = .tup [.slice 1 false (ac o), .bool true] := fun o m h h' hl => by
    subst h
    rw [pW (l := canon m) h1 (by rw [<- h']), if_pos hl, decide_eq_true hl]
  have key : ∀ st : ASt, Weak C7 59 0 st ⟨[(1, .int .i64 k), (6, Enc.enc (canon 1)), (8, Enc.enc x)], []⟩ -> ∀ body Q, ci C7 59 body = true ->
    (∀ p : Nat × Nat × Nat, (0 < p.1 /\ p.1 <= k.toNat /\ 1 <= p.2.1 /\ 2 <= p.2.2 /\ p.2.1 * p.2.2 ^ p.1 = val x ^ k.toNat /\ (canon p.2.1).length <= 64 /\ (canon p.2.2).length <= 64) ->
      avc C7 59 0 body ⟨[(1, .int .i64 p.1), (6, Enc.enc (canon p.2.1)), (8, Enc.enc (canon p.2.2))], []⟩ (round (fun p : Nat × Nat × Nat => ⟨[(1, .int .i64 p.1), (6, Enc.enc (canon p.2.1)), (8, Enc.enc (canon p.2.2))], []⟩)
        (fun p => 0 < p.1 /\ p.1 <= k.toNat /\ 1 <= p.2.1 /\ 2 <= p.2.2 /\ p.2.1 * p.2.2 ^ p.1 = val x ^ k.toNat /\ (canon p.2.1).length <= 64 /\ (canon p.2.2).length <= 64) (fun p' => p'.1 < p.1) 59 0 C7 Q)) -> AW C7 59 0 (.loop body) st Q := by
    intro st hw body Q hok h
    refine am (C := C7) Sl SK _ _ (fun p => p.1) hok ⟨(k.toNat, 1, val x), ⟨by omega, Nat.le_refl _, Nat.le_refl _, hv, by simp, by simp [mM], by rw [canon_val hxg hxn]; exact hxl⟩, ?_⟩ h
    have e1 : ((k.toNat : Nat) : Int) = k := by omega
    rw [e1, canon_val hxg hxn]
    exact hw
  have h10 : k.toNat <= 9223372036854775807 := by unfold I64 at hk; omega
  by_cases h5 : x.length = 1
  have h6 : ¬ ix x 0 = 1 := fun h => h4 ⟨h5, h⟩
  simp [h2, hx0, h5, aa h0, h6, s34, s20, i1]
  refine key _ (ah (by simp)) _ _ (by kernel_rfl) (fun ⟨j, u, v⟩ ⟨hj0, hj, hu, hv2, hp, hul, hvl⟩ => ?_)
  rotate_left
  have h8 : ¬ (x.length : Int) = 1 := by omega
  simp [h2, hx0, h8, s34, s20, i1]
  refine ⟨by omega, key _ (ah (by simp)) _ _ (by kernel_rfl) (fun ⟨j, u, v⟩ ⟨hj0, hj, hu, hv2, hp, hul, hvl⟩ => ?_)⟩
  rotate_left
  all_goals
    simp only at hj0 hj hu hv2 hp hul hvl ⊢
    have e2 := Li (k := j) (by omega) (by omega)
    have e3 : Int.fdiv (j : Int) (2 ^ min 1 IntKind.i64.bits) = ((j / 2 : Nat) : Int) := by
      show Int.fdiv (j : Int) 2 = _
      rw [Int.fdiv_eq_ediv_of_nonneg _ (by omega)]; omega
    have nu := nv_canon hul
    have nw := nv_canon hvl
    have hdv : v ^ j = (v * v) ^ (j / 2) * v ^ (j % 2) := by rw [<- Nat.pow_two, <- Nat.pow_mul, <- pow_add, Nat.div_add_mod]
    have hsq : j / 2 ≠ 0 -> v * v <= v ^ j := fun hz => by
      rw [hdv]
      have h1 : (v * v) ^ 1 <= (v * v) ^ (j / 2) := pow_le_pow_right (Nat.mul_pos (by omega) (by omega)) (by omega)
      have h2 : 1 <= v ^ (j % 2) := Nat.pow_pos (by omega)
      have := mul_le_mul h1 h2
      rwa [pow_one, Nat.mul_one] at this
    have big : ∀ w : Nat, w <= val x ^ k.toNat -> 64 < (canon w).length -> powT (val x) k = .tup [.slice 1 false [], .bool false] := fun w hw hl => Ml h1 rfl hw hl
    have hvx : v ^ j <= val x ^ k.toNat := by rw [<- hp]; exact le_mul_of_pos_left _ hu
    by_cases hodd : j % 2 = 1
    · have ho : (j : Int) % 2 = 1 := by omega
      by_cases hf : (canon (u * v)).length <= 64
      · by_cases hz : j / 2 = 0
        · have hj1 : j = 1 := by omega
          rw [hj1, pow_one] at hp
          have hz' : (j : Int) / 2 = 0 := by omega
          rw [fin _ (u * v) rfl hp hf]
          simp [e2, ho, s15, nu, nw, fitT, hf, e3, hz']
          omega
        · have hz' : ¬ ((j : Int) / 2 = 0) := by omega
          by_cases hg : (canon (v * v)).length <= 64
          · simp [e2, ho, s15, nu, nw, fitT, hf, e3, hz', hg]
            exact ⟨⟨by omega, by omega⟩, by omega, j / 2, u * v, v * v, ⟨by omega, by omega, Nat.mul_pos (by omega) (by omega), Nat.le_trans hv2 (le_mul_of_pos_left v (by omega)), by rw [<- hp, hdv, hodd, pow_one, Nat.mul_assoc, Nat.mul_comm v], hf, hg⟩, by omega, ah (by simp)⟩
          · have := big (v * v) (Nat.le_trans (hsq hz) hvx) (by omega)
            rw [this]
            simp [e2, ho, s15, nu, nw, fitT, hf, e3, hz', hg]
            omega
      · have := big (u * v) (by
          rw [<- hp]
          refine mul_le_mul_left _ ?_
          have : v ^ 1 <= v ^ j := pow_le_pow_right (by omega) (by omega)
          rwa [pow_one] at this) (by omega)
        rw [this]
        simp [e2, ho, s15, nu, nw, fitT, hf]
        omega
    · have ho : (j : Int) % 2 = 0 := by omega
      have hz : j / 2 ≠ 0 := by omega
      have hz' : ¬ ((j : Int) / 2 = 0) := by omega
      by_cases hg : (canon (v * v)).length <= 64
      · simp [e2, ho, s15, nu, nw, fitT, e3, hz', hg]
        exact ⟨by omega, j / 2, u, v * v, ⟨by omega, by omega, hu, Nat.le_trans hv2 (le_mul_of_pos_left v (by omega)), by rw [<- hp, hdv, show j % 2 = 0 by omega, Nat.pow_zero, Nat.mul_one], hul, hg⟩, by omega, ah (by simp)⟩
      · have := big (v * v) (Nat.le_trans (hsq hz) hvx) (by omega)
        rw [this]
        simp [e2, ho, s15, nu, nw, fitT, e3, hz', hg]
        omega
end Nt
open Go.RowKit
set_option linter.unusedSimpArgs false
set_option linter.unusedVariables false
set_option maxRecDepth 100000
def qg {α : Type} [DecidableEq α] : List α -> α -> Int -> Int
 | [], _, _ => -1
 | a :: r, v, k => if v = a then k else qg r v (k + 1)
theorem xj {α : Type} [DecidableEq α] {v : α} : ∀ (l : List α) (k : Int), 0 <= k -> (0 <= qg l v k ↔ v ∈ l)
 | [], k, hk => by simp [qg]
 | a :: r, k, hk => by
  unfold qg
  by_cases h : v = a
  ·simp [h, hk]
  ·rw [if_neg h, xj r (k + 1) (by omega)]
   simp [h]
theorem wx {α : Type} [DecidableEq α] [Inhabited α] {l : List α} {i : Nat} (h : i < l.length) (v : α) : qg (l.drop i) v i = if v = ix l i then (i : Int) else qg (l.drop (i + 1)) v ((i + 1 : Nat) : Int) := by
 rw [List.drop_eq_getElem_cons h, az h]
 rfl
theorem zz {α : Type} [DecidableEq α] {l : List α} {i : Nat} (h : ¬ i < l.length) (v : α) : qg (l.drop i) v i = -1 := by
 rw [List.drop_eq_nil_of_le (by omega)]
 rfl
def EW : PSp := aC (λ (l : List Int) (_ : Int) => l.length <= 1000000) (λ l v => .int .i64 (qg l v 0))
theorem Ww : PureOK prog G0 58 EW := by
 refine aX aK ae func58 rfl rfl rfl (by kernel_rfl) (by decide) (λ l v hl => ?_)
 simp
 refine am aK ae (λ i : Nat => ⟨[(0, Enc.enc l), (1, .int .i64 v), (7, .int .i64 l.length), (8, .int .i64 i)], []⟩) (λ i => i <= l.length /\ qg (l.drop i) v i = qg l v 0) (λ i => l.length - i) (by kernel_rfl) ⟨0, by simp, ah (by simp)⟩ (λ i ⟨hi, hx⟩ => ?_)
 by_cases h : i < l.length
 ·rw [wx h] at hx
  by_cases e : v = ix l i
  ·rw [if_pos e] at hx
   simp [h, aa h, <- e, <- hx]
  ·rw [if_neg e] at hx
   have i1 : I64 ((i : Int) + 1) := by unfold I64; omega
   simp [h, aa h, e, i1]
   exact ⟨i + 1, ⟨by omega, hx⟩, by omega, ah (by simp)⟩
 ·rw [zz h] at hx
  simp [h, <- hx]
def rt : PSp := aC (λ (l : List Int) (_ : Int) => l.length <= 1000000) (λ l v => .bool (decide (v ∈ l)))
noncomputable def CIx : Ctx := mkC prog G0 [(58, .pure EW)]
@[simp] theorem X6 : CIx.P = prog := rfl
@[simp] theorem Xi : CIx.G = G0 := rfl
@[simp] theorem YO : CIx.S 58 = .pure EW := rfl
theorem OL : au CIx := ap (Ww) func58 (ak _ _)
theorem TF : PureOK prog G0 26 rt := by
 refine aX OL ae func26 rfl rfl rfl (by kernel_rfl) (by decide) (λ l v hl => ?_)
 simp [EW, hl, xj l 0 (Int.le_refl 0)]
def OkE (N : Int) (e : List Int) : Prop := e ≠ [] /\ ∀ k, k < e.length -> 0 <= ix e k /\ ix e k < N /\ (0 < k -> ix e (k - 1) < ix e k)
instance (N : Int) (e : List Int) : Decidable (OkE N e) := by unfold OkE; infer_instance
def cT (h : Hy) : Prop := 0 <= h.N /\ h.N <= 24 /\ h.E.length <= 12 /\ ∀ e ∈ h.E, OkE h.N e
instance (h : Hy) : Decidable (cT h) := by unfold cT; infer_instance
structure SmallH (h : Hy) : Prop where
 n : h.E.length <= 1000000
 e : ∀ e ∈ h.E, e.length <= 1000000
def Ad (N : Int) (e : List Int) (k : Nat) : Prop := ix e k < 0 ∨ N <= ix e k ∨ 0 < k /\ ix e k <= ix e (k - 1)
theorem GS {N : Int} {e : List Int} {k : Nat} (hk : k < e.length) (h : Ad N e k) : ¬ OkE N e := by
 rintro ⟨_, h2⟩
 obtain ⟨a, b, c⟩ := h2 k hk
 rcases h with h | h | ⟨h, h'⟩
 ·omega
 ·omega
 ·have := c h; omega
theorem IL {N : Int} {e : List Int} (h0 : e ≠ []) (h : ∀ k, k < e.length -> ¬ Ad N e k) : OkE N e := by
 refine ⟨h0, λ k hk => ?_⟩
 have := h k hk
 unfold Ad at this
 refine ⟨by omega, by omega, λ h => by omega⟩
def HyB (h : Hy) : Blk := ⟨24, 2, [[.int .i64 h.N, .slice 1 false (ac h.E)]], true, true⟩
def fB : PSp := aN SmallH (λ h => .bool (decide (cT h)))
theorem EU : PureOK prog G0 23 fB := by
 refine bj aK ae func23 rfl rfl rfl (by kernel_rfl) (by decide) (λ h hs => ?_)
 have hsn := hs.n
 by_cases h1 : h.N < 0
 ·have : ¬ cT h := λ hv => by have := hv.1; omega
  simp [h1, this]
 by_cases h2 : 24 < h.N
 ·have : ¬ cT h := λ hv => by have := hv.2.1; omega
  simp [h1, h2, this]
 by_cases h3 : (12 : Int) < h.E.length
 ·have : ¬ cT h := λ hv => by have := hv.2.2.1; omega
  simp [h1, h2, h3, this]
 simp [h1, h2, h3]
 refine am aK ae (λ i : Nat => ⟨[(1, .ptr 0 1 2 0 0), (22, Enc.enc h.E), (23, .int .i64 h.E.length), (24, .int .i64 i)], [HyB h]⟩) (λ i => i <= h.E.length /\ ∀ j < i, OkE h.N (ix h.E j)) (λ i => h.E.length - i) (by kernel_rfl) ⟨0, by simp, ag (by simp) (by simp [HyB])⟩ (λ i ⟨hi, hx⟩ => ?_)
 by_cases hl : i < h.E.length
 ·have hel : (ix h.E i).length <= 1000000 := hs.e _ (aq hl)
  by_cases he : ix h.E i = []
  ·have : ¬ cT h := λ hv => (hv.2.2.2 _ (aq hl)).1 he
   simp [HyB, hl, aa hl, he, this]
  have he0 : ¬ (ix h.E i).length = 0 := λ h => he (length_eq_zero_iff.1 h)
  simp [HyB, hl, aa hl, he, he0]
  refine am aK ae (λ k : Nat => ⟨[(1, .ptr 0 1 2 0 0), (4, Enc.enc (ix h.E i)), (22, Enc.enc h.E), (23, .int .i64 h.E.length), (24, .int .i64 i), (31, Enc.enc (ix h.E i)), (32, .int .i64 (ix h.E i).length), (33, .int .i64 k)], [HyB h]⟩) (λ k => k <= (ix h.E i).length /\ ∀ j < k, ¬ Ad h.N (ix h.E i) j) (λ k => (ix h.E i).length - k) (by kernel_rfl) ⟨0, by simp, ag (by simp) (by simp [HyB])⟩ (λ k ⟨hk, hy⟩ => ?_)
  by_cases hkl : k < (ix h.E i).length
  ·by_cases hb : Ad h.N (ix h.E i) k
   ·have hv : ¬ cT h := λ hv => GS hkl hb (hv.2.2.2 _ (aq hl))
    have hb' := hb
    unfold Ad at hb'
    by_cases q1 : ix (ix h.E i) k < 0
    ·simp [HyB, hkl, aa hkl, q1, hv]
    by_cases q2 : h.N <= ix (ix h.E i) k
    ·simp [HyB, hkl, aa hkl, q1, q2, hv]
    have q3 : 0 < k := by omega
    have q4 : ix (ix h.E i) k <= ix (ix h.E i) (k - 1) := by omega
    have q5 : k - 1 < (ix h.E i).length := by omega
    have q6 : ((k : Int) - 1).toNat = k - 1 := by omega
    have q7 : (k : Int) - 1 < (ix h.E i).length := by omega
    have q8 : (0 : Int) <= (k : Int) - 1 := by omega
    have q9 : I64 ((k : Int) - 1) := by unfold I64; omega
    simp [HyB, hkl, aa hkl, q1, q2, q3, q4, q6, q7, q8, q9, aa q5, hv]
    omega
   ·have hb' := hb
    unfold Ad at hb'
    have q1 : ¬ ix (ix h.E i) k < 0 := by omega
    have q2 : ¬ h.N <= ix (ix h.E i) k := by omega
    have i1 : I64 ((k : Int) + 1) := by unfold I64; omega
    have fin : ∀ j < k + 1, ¬ Ad h.N (ix h.E i) j := λ j hj => by
     rcases lt_or_eq_of_le (le_of_lt_succ hj) with h | rfl
     ·exact hy j h
     ·exact hb
    by_cases q3 : 0 < k
    ·have q4 : ¬ ix (ix h.E i) k <= ix (ix h.E i) (k - 1) := by omega
     have q5 : k - 1 < (ix h.E i).length := by omega
     have q6 : ((k : Int) - 1).toNat = k - 1 := by omega
     have q7 : (k : Int) - 1 < (ix h.E i).length := by omega
     have q8 : (0 : Int) <= (k : Int) - 1 := by omega
     have q9 : I64 ((k : Int) - 1) := by unfold I64; omega
     simp [HyB, hkl, aa hkl, q1, q2, q3, q4, q6, q7, q8, q9, aa q5, i1]
     exact ⟨by omega, k + 1, ⟨by omega, fin⟩, by omega, ag (by simp) (by simp [HyB])⟩
    ·simp [HyB, hkl, aa hkl, q1, q2, q3, i1]
     exact ⟨k + 1, ⟨by omega, fin⟩, by omega, ag (by simp) (by simp [HyB])⟩
  ·have i1 : I64 ((i : Int) + 1) := by unfold I64; omega
   simp [HyB, hkl, i1]
   refine ⟨i + 1, ⟨by omega, λ j hj => ?_⟩, by omega, ag (by simp) (by simp [HyB])⟩
   rcases lt_or_eq_of_le (le_of_lt_succ hj) with h | rfl
   ·exact hx j h
   ·exact IL he λ k hk => hy k (by omega)
 ·have : cT h := ⟨by omega, by omega, by omega, λ e he => by
   obtain ⟨j, hj, rfl⟩ := List.mem_iff_getElem.1 he
   have := hx j (by omega)
   rwa [az hj] at this⟩
  simp [HyB, hl, this]
structure LightH (h : Hy) : Prop where
 n : h.E.length <= 14
 e : ∀ e ∈ h.E, e.length <= 30
instance (h : Hy) : Decidable (LightH h) := decidable_of_iff (h.E.length <= 14 /\ ∀ e ∈ h.E, e.length <= 30) ⟨λ h => ⟨h.1, h.2⟩, λ h => ⟨h.n, h.e⟩⟩
theorem LightH.small {h : Hy} (l : LightH h) : SmallH h := ⟨by have := l.n; omega, λ e he => by have := l.e e he; omega⟩
instance : DecidableEq Fr := λ a b => if h : a.N = b.N /\ a.D = b.D then .isTrue (by cases a; cases b; simp_all) else .isFalse (λ e => h (by rw [e]; exact ⟨rfl, rfl⟩))
def Ef : PSp := aC (λ (l : List Fr) (_ : Fr) => l.length <= 1000000) (λ l v => .int .i64 (qg l v 0))
theorem Jx (a b : Fr) : (a = b) = (a.N = b.N /\ a.D = b.D) := by
 apply propext
 constructor
 ·rintro rfl; exact ⟨rfl, rfl⟩
 ·rintro ⟨h1, h2⟩; cases a; cases b; simp_all
theorem Td : PureOK prog G0 59 Ef := by
 refine aX aK ae func59 rfl rfl rfl (by kernel_rfl) (by decide) (λ l v hl => ?_)
 simp
 refine am aK ae (λ i : Nat => ⟨[(0, Enc.enc l), (3, .ptr 0 1 2 0 0), (7, .int .i64 l.length), (8, .int .i64 i)], [FB v]⟩) (λ i => i <= l.length /\ qg (l.drop i) v i = qg l v 0) (λ i => l.length - i) (by kernel_rfl) ⟨0, by simp, ag (by simp) (by simp [FB])⟩ (λ i ⟨hi, hx⟩ => ?_)
 by_cases h : i < l.length
 ·have i1 : I64 ((i : Int) + 1) := by unfold I64; omega
  rw [wx h] at hx
  by_cases e : v = ix l i
  ·rw [if_pos e] at hx
   rw [Jx] at e
   simp [FB, h, aa h, <- e.1, <- e.2, <- hx]
  ·rw [if_neg e] at hx
   rw [Jx] at e
   by_cases e1 : v.N = (ix l i).N
   ·have e2 : ¬ v.D = (ix l i).D := λ h => e ⟨e1, h⟩
    simp [FB, h, aa h, e1, e2, i1]
    exact ⟨i + 1, ⟨by omega, hx⟩, by omega, ag (by simp) (by simp [FB, e1])⟩
   ·simp [FB, h, aa h, e1, i1]
    exact ⟨i + 1, ⟨by omega, hx⟩, by omega, ag (by simp) (by simp [FB])⟩
 ·rw [zz h] at hx
  simp [FB, h, <- hx]
def zC : PSp := aC (λ (l : List Fr) (_ : Fr) => l.length <= 1000000) (λ l v => .bool (decide (v ∈ l)))
noncomputable def CIf : Ctx := mkC prog G0 [(59, .pure Ef)]
@[simp] theorem Yf : CIf.P = prog := rfl
@[simp] theorem XD : CIf.G = G0 := rfl
@[simp] theorem YE : CIf.S 59 = .pure Ef := rfl
theorem PJ : au CIf := ap (Td) func59 (ak _ _)
theorem Ud : PureOK prog G0 27 zC := by
 refine aX PJ ae func27 rfl rfl rfl (by kernel_rfl) (by decide) (λ l v hl => ?_)
 simp [Ef, hl, xj l 0 (Int.le_refl 0)]
def xX (b : Bool) : Fr := if b then F11 else F01
def kL : PSp := aN (λ (_ : Bool) => True) (λ b => Enc.enc (xX b))
theorem ID : PureOK prog G0 25 kL := by
 refine bj aK ae func25 rfl rfl rfl (by kernel_rfl) (by decide) (λ b _ => ?_)
 cases b <;> simp [xX, F11, F01]
noncomputable def CMu : Ctx := mkC prog G0 [(129, .pure lQ)]
@[simp] theorem XJ : CMu.P = prog := rfl
@[simp] theorem Yk : CMu.G = G0 := rfl
@[simp] theorem Xt : CMu.S 129 = .pure lQ := rfl
theorem PP : au CMu := ap (Iy) func129 (ak _ _)
def wA : List AV -> Option (Prop × AV)
 | [.int .u64 a, .int .u64 b] => some (a = 1 /\ 0 <= b /\ b <= 1000, .tup [.int .u64 0, .int .u64 b])
 | _ => none
theorem SN : PureOK prog G0 97 wA := by
 refine eK PP ae func97 rfl rfl rfl (by kernel_rfl) (λ avs ob r hp hob => ?_)
 unfold wA at hp
 split at hp
 case h_2 => cases hp
 injection hp with hp; injection hp with e1 e2; subst e1 e2
 rename_i a b
 obtain ⟨rfl, h1, h2⟩ := hob
 refine ⟨by show 2 <= _; decide, ?_⟩
 have q1 : W64 1 := by unfold W64; omega
 have q2 : W64 b := by unfold W64; omega
 have q3 : b / 18446744073709551616 = 0 := by omega
 have q4 : b % 18446744073709551616 = b := by omega
 simp [argsρ, lQ, q1, q2, q3, q4]
def rpK (f : Fr) (n k : Nat) : List Fr := List.replicate k f ++ List.replicate (n - k) F00
theorem La {f : Fr} {n k : Nat} (h : k <= n) : (rpK f n k).length = n := by unfold rpK; simp; omega
theorem Im {f : Fr} {n k : Nat} (h : k <= n) : (rpK f n k).take k ++ (((rpK f n k).drop 0).take k).take (n - k) ++ (rpK f n k).drop (k + min k (n - k)) = rpK f n (k + min k (n - k)) := by
 have e1 : (rpK f n k).take k = List.replicate k f := by unfold rpK; rw [List.take_left' (by simp)]
 rw [List.drop_zero, e1, List.take_replicate]
 unfold rpK
 rw [List.drop_append, List.drop_replicate, List.drop_replicate, List.length_replicate, show k - (k + min k (n - k)) = 0 by omega, List.replicate_zero, nil_append, List.replicate_append_replicate]
 congr 2
 ·omega
 ·omega
def sF : PSp := aC (λ (l : List Fr) (n : Int) => l.length = 1 /\ 0 <= n /\ n <= 1000) (λ l n => Enc.enc (List.replicate n.toNat (ix l 0)))
noncomputable def CRt : Ctx := mkC prog G0 [(97, .pure wA)]
@[simp] theorem XI : CRt.P = prog := rfl
@[simp] theorem XN : CRt.G = G0 := rfl
@[simp] theorem XW : CRt.S 97 = .pure wA := rfl
theorem Dk : au CRt := ap (SN) func97 (ak _ _)
theorem LY : PureOK prog G0 57 sF := by
 refine aX Dk ae func57 rfl rfl rfl (by kernel_rfl) (by decide) (λ l n ⟨hl, h1, h2⟩ => ?_)
 obtain ⟨f, rfl⟩ := List.length_eq_one_iff.1 hl
 obtain ⟨n, rfl⟩ := Int.eq_ofNat_of_zero_le h1
 have w1 : IntKind.wrap .u64 (n : Int) = n := by rw [IntKind.wrap_u64]; omega
 have w2 : IntKind.wrap .i64 (n : Int) = n := IntWalk.i64_in _ (by omega)
 have w3 : IntKind.wrap .u64 1 = 1 := by decide
 have w4 : ¬ (9223372036854775807 : Int) < n := by omega
 have w5 : ¬ (n : Int) < 0 := by omega
 by_cases n0 : n = 0
 ·subst n0
  have w0 : IntKind.wrap .u64 0 = 0 := by decide
  have w00 : IntKind.wrap .i64 0 = 0 := by decide
  simp [wA, w0, w00, w3]
  refine am Dk ae (λ _ : Nat => ⟨[(7, .own 0 0), (8, .int .i64 0)], [⟨35, 2, [], true, true⟩]⟩) (λ _ => True) (λ k => k) (by kernel_rfl) ⟨0, trivial, ag (by simp) (by simp)⟩ (λ _ _ => ?_)
  simp
 have n1 : min 1 n = 1 := by omega
 have n2 : List.take n [[AV.int .i64 f.N, AV.int .i64 f.D]] = [[.int .i64 f.N, .int .i64 f.D]] := take_of_length_le (by simp; omega)
 have e1 : [[AV.int .i64 f.N, AV.int .i64 f.D]] ++ List.replicate (n - 1) [AV.int .i64 0, AV.int .i64 0] = ac (rpK f n 1) := by
  unfold rpK
  rw [bz]
  simp [ac, F00]
 simp [wA, w1, w2, w3, w4, w5, h2]
 refine ⟨(by first | omega | (unfold I64; omega)), ?_⟩
 refine am Dk ae (λ k : Nat => ⟨[(7, .own 0 n), (8, .int .i64 k)], [⟨35, 2, ac (rpK f n k), true, true⟩]⟩) (λ k => 1 <= k /\ k <= n) (λ k => n - k) (by kernel_rfl) ⟨1, by omega, ag (by simp [n1]) (by rw [n1, n2]; simpa using e1)⟩ (λ k ⟨k1, k2⟩ => ?_)
 have hlen := La (f := f) k2
 by_cases hk : k < n
 ·have hst := Im (f := f) k2
  have i1 : I64 ((k : Int) + (min k (n - k) : Nat)) := by unfold I64; omega
  have k3 : (k : Int) <= n := by omega
  simp [hlen, hk, k3, i1]
  refine ⟨k + min k (n - k), by omega, by omega, ag (by simp) ?_⟩
  rw [List.drop_zero] at hst
  rw [<- hst]
  simp [append_assoc]
 ·have : k = n := by omega
  subst this
  simp [hk, hlen]
  simp [rpK]
  rfl
def EK : PSp := aN (λ (n : Int) => 0 <= n /\ n <= 1000) (λ n => Enc.enc (List.replicate n.toNat F11))
noncomputable def COn : Ctx := mkC prog G0 [(25, .pure kL), (57, .pure sF)]
@[simp] theorem Ys : COn.P = prog := rfl
@[simp] theorem Ya : COn.G = G0 := rfl
@[simp] theorem Ze : COn.S 25 = .pure kL /\ COn.S 57 = .pure sF := ⟨rfl, rfl⟩
theorem OE : au COn := ap (ID) func25 (ap (LY) func57 (ak _ _))
theorem T9 : PureOK prog G0 24 EK := by
 refine bj OE ae func24 rfl rfl rfl (by kernel_rfl) (by decide) (λ n ⟨h1, h2⟩ => ?_)
 have e : bV COn 28 = true := by show bV ⟨prog, λ _ => .no, G0⟩ 28 = true; kernel_rfl
 have e1 : Enc.dec (.slice 2 false [[.int .i64 1, .int .i64 1]]) = [F11] := rfl
 have e2 : ix [F11] 0 = F11 := rfl
 simp [kL, sF, xX, F11, h1, h2, e]
 rfl
def lD (h : Hy) (v : Nat) : List Fr := h.E.map λ e => xX (decide ((v : Int) ∈ e))
def nR (h : Hy) (k : Nat) : List (List Fr) := (List.range k).map (lD h)
theorem GY (h : Hy) (k : Nat) : nR h (k + 1) = nR h k ++ [lD h k] := by unfold nR; rw [range_succ, map_append]; rfl
theorem pu (h : Hy) (k : Nat) : (nR h k).length = k := by unfold nR; simp
def bH (h : Hy) : Lin := ⟨nR h h.N.toNat, List.replicate h.N.toNat F11, List.replicate h.E.length F11⟩
def pZ (h : Hy) (v : Nat) : Prop := ∃ e ∈ h.E, (v : Int) ∈ e
instance (h : Hy) (v : Nat) : Decidable (pZ h v) := by unfold pZ; infer_instance
def dt (h : Hy) : Lin × Int := if ¬ cT h ∨ h.N = 0 then (L00, 1) else if ∀ v, v < h.N.toNat -> pZ h v then (bH h, 0) else (L00, 23)
theorem Jd (h : Hy) (v : Nat) : F11 ∈ lD h v ↔ pZ h v := by
 unfold lD pZ
 rw [mem_map]
 constructor
 ·rintro ⟨e, he, h1⟩
  refine ⟨e, he, ?_⟩
  by_cases hv : (v : Int) ∈ e
  ·exact hv
  ·exfalso; rw [decide_eq_false hv] at h1; revert h1; decide
 ·rintro ⟨e, he, hv⟩
  exact ⟨e, he, by rw [decide_eq_true hv]; rfl⟩
def t8 (h : Hy) (v i : Nat) : List Fr := (lD h v).take i ++ List.replicate (h.E.length - i) F00
theorem jg (h : Hy) (v : Nat) : (lD h v).length = h.E.length := by unfold lD; simp
theorem Jz {h : Hy} {v i : Nat} (hi : i <= h.E.length) : (t8 h v i).length = h.E.length := by unfold t8; simp [jg]; omega
theorem IoQ {h : Hy} {v i : Nat} (hi : i < h.E.length) : (t8 h v i).set i (xX (decide ((v : Int) ∈ ix h.E i))) = t8 h v (i + 1) := by
 have hl := jg h v
 have e : ix (lD h v) i = xX (decide ((v : Int) ∈ ix h.E i)) := by
  rw [az (by omega), az hi]
  unfold lD
  rw [List.getElem_map]
 have ht : ((lD h v).take i).length = i := by rw [length_take]; omega
 unfold t8
 rw [List.set_append, if_neg (by rw [ht]; omega), ht, sub_self, show h.E.length - i = (h.E.length - (i + 1)) + 1 by omega, List.replicate_succ, List.set_cons_zero, List.take_succ_eq_append_getElem (by omega), <- az (show i < (lD h v).length by omega), e, append_assoc]
 rfl
theorem H5 (h : Hy) (v : Nat) : t8 h v h.E.length = lD h v := by unfold t8; rw [sub_self, take_of_length_le (by rw [jg]; exact Nat.le_refl _)]; simp
theorem Ii (h : Hy) (v : Nat) : t8 h v 0 = List.replicate h.E.length F00 := by unfold t8; simp
def PLB (h : Hy) (v : Nat) : Blk := ⟨30, 3, [[.own 3 v, .slice 2 false (ac (List.replicate h.N.toNat F11)), .slice 2 false (ac (List.replicate h.E.length F11))]], true, false⟩
@[simp] theorem NY (n : Nat) : List.replicate n [AV.int .i64 0, AV.int .i64 0] = ac (List.replicate n F00) := by simp [ac, F00]
@[simp] theorem VW : xX true = F11 := rfl
def wF : PSp := aN SmallH (λ h => .tup [Enc.enc (dt h).1, .int .i64 (dt h).2])
noncomputable def CPr : Ctx := mkC prog G0 [(23, .pure fB), (24, .pure EK), (25, .pure kL), (26, .pure rt), (27, .pure zC)]
@[simp] theorem YV : CPr.P = prog := rfl
@[simp] theorem X8 : CPr.G = G0 := rfl
@[simp] theorem Y6 : CPr.S 23 = .pure fB /\ CPr.S 24 = .pure EK /\ CPr.S 25 = .pure kL /\ CPr.S 26 = .pure rt /\ CPr.S 27 = .pure zC := ⟨rfl, rfl, rfl, rfl, rfl⟩
theorem w9 : au CPr := ap (EU) func23 (ap (T9) func24 (ap (ID) func25 (ap (TF) func26 (ap (Ud) func27 (ak _ _)))))
theorem J2 : PureOK prog G0 7 wF := by
 refine qZ w9 ae func7 rfl rfl rfl [3] (by kernel_rfl) (by decide) (λ h hs => ?_)
 by_cases hv : cT h
 case neg =>
  have e : dt h = (L00, 1) := if_pos (.inl hv)
  simp [fB, hs, hv, e, L00]
 by_cases h0 : h.N = 0
 ·have e : dt h = (L00, 1) := if_pos (.inr h0)
  have h0' : (h.N = 0) = True := eq_true h0
  simp [fB, hs, hv, h0', e, L00]
 obtain ⟨v1, v2, v3, v4⟩ := hv
 have hv : cT h := ⟨v1, v2, v3, v4⟩
 have hN : ((h.N.toNat : Nat) : Int) = h.N := by omega
 have hb : h.N <= 1000 := by omega
 have hb2 : (h.E.length : Int) <= 1000 := by omega
 have hp : dt h = if ∀ v, v < h.N.toNat -> pZ h v then (bH h, 0) else (L00, 23) := if_neg (by rintro (h | h) <;> contradiction)
 have sc : bV CPr 27 = false := by show bV ⟨prog, λ _ => .no, G0⟩ 27 = false; kernel_rfl
 obtain ⟨P, ec, hP⟩ : ∃ P ec, dt h = (P, ec) := ⟨_, _, rfl⟩
 simp [fB, hs, hv, h0, hP]
 refine aA w9 ae [.pure, .read, .read, .pure, .read, .pure, .read, .pure, .eff, .eff] [[],[0],[0,1],[],[3],[3,4],[1,0,2,4,3,5],[5,3,4,6,1,0,2],[],[2,0,1,6,4,3,5,7,8]] (by kernel_rfl) (by kernel_rfl) (by kernel_rfl) (by kernel_rfl) ?_
 simp [EK, v1, hb, hb2]
 refine AW.weak (kY 2 0 0 1 28 rfl rfl rfl (by decide)) ?_
 refine aB w9 ae [3] (λ v : Nat => ⟨[(1, .ptr 0 1 2 0 0), (2, .ptr 1 1 3 0 0), (4, .ptr 2 1 3 0 0), (27, .int .i64 h.N), (28, .int .i64 v)], [HyB h, ZLB, PLB h v, R1B (nR h v)]⟩) (λ v => v <= h.N.toNat /\ ∀ u < v, pZ h u) (λ v => h.N.toNat - v) (by kernel_rfl) ⟨0, by simp, ag (by simp) (by simp [HyB, ZLB, PLB, R1B, nR])⟩ (λ v ⟨hv1, hv2⟩ => ?_)
 have hml := pu h v
 by_cases hlt : v < h.N.toNat
 ·have hlt' : (v : Int) < h.N := by omega
  have i1 : I64 ((v : Int) + 1) := by unfold I64; omega
  simp [HyB, ZLB, PLB, R1B, hlt']
  refine ⟨(by first | omega | (unfold I64; omega)), ?_⟩
  refine aB w9 ae [3] (λ i : Nat => ⟨[(1, .ptr 0 1 2 0 0), (2, .ptr 1 1 3 0 0), (4, .ptr 2 1 3 0 0), (5, .int .i64 v), (6, .own 4 h.E.length), (27, .int .i64 h.N), (28, .int .i64 v), (36, Enc.enc h.E), (37, .int .i64 h.E.length), (38, .int .i64 i)], [HyB h, ZLB, PLB h v, R1B (nR h v), R2B (t8 h v i)]⟩) (λ i => i <= h.E.length) (λ i => h.E.length - i) (by kernel_rfl) ⟨0, by simp, ag (by simp) (by simp [HyB, ZLB, PLB, R1B, R2B, Ii])⟩ (λ i hi => ?_)
  have hri := Jz (v := v) hi
  by_cases hil : i < h.E.length
  ·have i2 : I64 ((i : Int) + 1) := by unfold I64; omega
   have hel : (ix h.E i).length <= 1000000 := hs.e _ (aq hil)
   have hset := IoQ (v := v) hil
   have hri' : i < (t8 h v i).length := by omega
   simp [HyB, ZLB, PLB, R1B, R2B, hil, aa hil, aa hri', rt, hel, kL, hri, i2]
   refine ⟨i + 1, by omega, by omega, ag (by simp) ?_⟩
   rw [<- hset]
  ·have : i = h.E.length := by omega
   subst this
   rw [H5]
   have hrl := jg h v
   have hm := Jd h v
   have hrl2 : h.E.length <= 1000000 := by omega
   by_cases hsome : pZ h v
   ·have hc : decide (F11 ∈ lD h v) = true := decide_eq_true (hm.2 hsome)
    simp [HyB, ZLB, PLB, R1B, R2B, hil, zC, kL, hrl, hrl2, hc, hml, i1, sc]
    refine ⟨(by first | omega | (unfold I64; omega)), v + 1, ⟨by omega, λ u hu => ?_⟩, by omega, bG 4 (by simp) (by simp) (by simp [AV.clean, AV.clean1]) ?_ ?_⟩
    ·rcases lt_or_eq_of_le (le_of_lt_succ hu) with hu | rfl
     ·exact hv2 u hu
     ·exact hsome
    ·simp [AV.clean, AV.clean1]
    ·rw [GY]
     simp [HyB, ZLB, PLB, R1B]
   ·have hc : decide (F11 ∈ lD h v) = false := decide_eq_false (λ e => hsome (hm.1 e))
    have e : dt h = (L00, 23) := by rw [hp, if_neg (λ hh => hsome (hh v hlt))]
    rw [hP] at e
    injection e with e1 e2
    subst e1 e2
    simp [HyB, ZLB, PLB, R1B, R2B, hil, zC, kL, hrl, hrl2, hc, hml, L00]
    done
 ·have hlt' : ¬ (v : Int) < h.N := by omega
  have hve : v = h.N.toNat := by omega
  have e : dt h = (bH h, 0) := by rw [hp, if_pos (λ u hu => hv2 u (by omega))]
  rw [hP] at e
  injection e with e1 e2
  subst e1 e2
  simp [HyB, ZLB, PLB, R1B, hlt', hml]
  simp [bH, hve]
def ja (h : Hy) : Fr × List Fr × Int := if (dt h).2 ≠ 0 then (F00, [], (dt h).2) else if (bF (dt h).1).2.2 ≠ 0 then (F00, [], (bF (dt h).1).2.2) else ((bF (dt h).1).2.1, (bF (dt h).1).1, 0)
def CS : PSp := aN SmallH (λ h => .tup [Enc.enc (ja h).1, Enc.enc (ja h).2.1, .int .i64 (ja h).2.2])
theorem DJ {h : Hy} (hs : SmallH h) : SmallL (dt h).1 := by
 unfold dt
 split
 ·exact ⟨by simp [L00], by simp [L00], by simp [L00], by simp [L00]⟩
 ·rename_i hv
  have hv : cT h /\ ¬ h.N = 0 := by
   rw [not_or] at hv
   exact ⟨Classical.not_not.1 hv.1, hv.2⟩
  obtain ⟨⟨v1, v2, v3, v4⟩, _⟩ := hv
  split
  ·refine ⟨?_, ?_, ?_, λ r hr => ?_⟩
   ·show (nR h _).length <= _
    rw [pu]; omega
   ·show (List.replicate _ _).length <= _
    rw [List.length_replicate]; omega
   ·show (List.replicate _ _).length <= _
    rw [List.length_replicate]; omega
   ·have hr : r ∈ nR h h.N.toNat := hr
    unfold nR at hr
    obtain ⟨v, _, rfl⟩ := mem_map.1 hr
    rw [jg]; omega
  ·exact ⟨by simp [L00], by simp [L00], by simp [L00], by simp [L00]⟩
noncomputable def CRo : Ctx := mkC prog G0 [(7, .pure wF), (31, .pure tH)]
@[simp] theorem XG : CRo.P = prog := rfl
@[simp] theorem Xb : CRo.G = G0 := rfl
@[simp] theorem Zr : CRo.S 7 = .pure wF /\ CRo.S 31 = .pure tH := ⟨rfl, rfl⟩
theorem Q3 : au CRo := ap (J2) func7 (ap (P3) func31 (ak _ _))
theorem Th : PureOK prog G0 9 CS := by
 refine qZ Q3 ae func9 rfl rfl rfl [] (by kernel_rfl) (by decide) (λ h hs => ?_)
 have hp := F4 (DJ hs)
 obtain ⟨P, ec, hP⟩ : ∃ P ec, dt h = (P, ec) := ⟨_, _, rfl⟩
 rw [hP] at hp
 obtain ⟨x, v, e, hv⟩ : ∃ x v e, bF P = (x, v, e) := ⟨_, _, _, rfl⟩
 by_cases h1 : ec = 0
 ·by_cases h2 : e = 0
  ·have e1 : ja h = (v, x, 0) := by unfold ja; rw [hP, if_neg (by simp [h1]), hv, if_neg (by simp [h2])]
   simp [wF, hs, hP, h1, tH, hp, hv, h2, e1]
  ·have e1 : ja h = (F00, [], e) := by unfold ja; rw [hP, if_neg (by simp [h1]), hv, if_pos h2]
   simp [wF, hs, hP, h1, tH, hp, hv, h2, e1, F00]
 ·have e1 : ja h = (F00, [], ec) := by unfold ja; rw [hP, if_pos h1]
  simp [wF, hs, hP, h1, e1, F00]
def wZ : Hy := ⟨3, [[0, 1], [1, 2], [0, 2]]⟩
theorem SM : PureOK prog G0 19 (dA (Enc.enc wZ)) := by
 refine KJ aK ae func19 rfl rfl rfl [] (by kernel_rfl) ?_
 simp [wZ]
 done
def ndS (p : Nat × Nat) (f : Fr) : Nat × Nat := (p.1 * f.D.toNat + p.2 * f.N.toNat, p.2 * f.D.toNat)
def ndF (l : List Fr) : Nat × Nat := l.foldl ndS (0, 1)
def Dy (l : List Fr) : Bool := decide ((ndF l).2 <= (ndF l).1)
structure WtF (f : Fr) : Prop where
 v : aj f
 n : 0 <= f.N
theorem WtF.b {f : Fr} (h : WtF f) : f.D.toNat <= 1000000000000000 /\ f.N.toNat <= 1000000000000000 /\ 0 < f.D.toNat := by
 have h1 := h.v
 have h2 := h.n
 unfold aj InR at h1
 omega
theorem tR {α : Type} {p : List α -> Prop} (h0 : p []) (h1 : ∀ l x, p l -> p (l ++ [x])) (l : List α) : p l := by
 have : ∀ m : List α, p m.reverse := by
  intro m
  induction m with
  | nil => exact h0
  | cons a r ih => rw [List.reverse_cons]; exact h1 _ _ ih
 have := this l.reverse
 rwa [List.reverse_reverse] at this
theorem lG (l : List Fr) (f : Fr) : ndF (l ++ [f]) = ndS (ndF l) f := by unfold ndF; rw [List.foldl_append]; rfl
theorem WW : ∀ (l : List Fr), (∀ f ∈ l, WtF f) -> (ndF l).1 <= l.length * 1000000000000000 ^ l.length /\ (ndF l).2 <= 1000000000000000 ^ l.length /\ 0 < (ndF l).2 := by
 refine tR ?_ λ l f ih => ?_
 ·intro _; simp [ndF]
 ·intro h
  obtain ⟨h1, h2, h3⟩ := ih λ g hg => h g (List.mem_append_left _ hg)
  obtain ⟨b1, b2, b3⟩ := (h f (by simp)).b
  rw [lG]
  unfold ndS
  simp only [length_append, length_cons, length_nil, Nat.zero_add, Nat.pow_succ]
  generalize 1000000000000000 ^ l.length = M at *
  refine ⟨?_, mul_le_mul h2 b1, Nat.mul_pos h3 b3⟩
  have e1 := mul_le_mul h1 b1
  have e2 := mul_le_mul h2 b2
  rw [Nat.add_mul, <- Nat.mul_assoc]
  omega
theorem Tc {l : List Fr} (h : (ndF l).2 <= (ndF l).1) : ∀ m : List Fr, (ndF (l ++ m)).2 <= (ndF (l ++ m)).1 := by
 refine tR ?_ λ m f ih => ?_
 ·rwa [append_nil]
 ·rw [<- append_assoc, lG]
  unfold ndS
  exact Nat.le_trans (Nat.mul_le_mul_right _ ih) (Nat.le_add_right _ _)
theorem Qp {l : List Fr} {f : Fr} (hf : f.D <= f.N) : (ndF (l ++ [f])).2 <= (ndF (l ++ [f])).1 := by
 rw [lG]
 unfold ndS
 exact Nat.le_trans (mul_le_mul_left _ (show f.D.toNat <= f.N.toNat by omega)) (Nat.le_add_left _ _)
theorem xH {n : Nat} (h : n < 1000000000 ^ 64) : (Nt.canon n).length <= 64 := Nt.canon_len 64 n h
theorem PN {l : List Fr} (hl : l.length <= 14) (h : ∀ f ∈ l, WtF f) : (ndF l).1 < 1000000000 ^ 60 /\ (ndF l).2 < 1000000000 ^ 60 := by
 obtain ⟨h1, h2, _⟩ := WW l h
 have e1 : 1000000000000000 ^ l.length <= 1000000000000000 ^ 14 := pow_le_pow_right (by decide) hl
 have e2 := mul_le_mul hl e1
 have e3 : (14 : Nat) * 1000000000000000 ^ 14 < 1000000000 ^ 60 := by decide
 have e4 : (1000000000000000 : Nat) ^ 14 < 1000000000 ^ 60 := by decide
 omega
theorem o8 {n : Nat} (h : n < 1000000000 ^ 64) : Nt.fitT n = .tup [Enc.enc (Nt.canon n), .bool true] := by
 have := xH h
 unfold Nt.fitT
 rw [if_pos this, decide_eq_true this]
theorem nC {n : Nat} (h : n < 1000000000 ^ 64) : Nt.nv (Nt.canon n) = n := Nt.nv_canon (xH h)
theorem nD {n : Nat} (h : n < 1000000000 ^ 64) : (Nt.canon n).length <= 1000000 := by have := xH h; omega
def mh : PSp := aN (λ l : List Fr => l.length <= 14 /\ ∀ f ∈ l, WtF f) (λ l => .bool (Dy l))
noncomputable def CCv : Ctx := mkC prog G0 [(48, .pure Nt.s20), (51, .pure Nt.s15), (54, .pure Nt.s22), (49, .pure Nt.s24)]
@[simp] theorem YI : CCv.P = prog := rfl
@[simp] theorem Y3 : CCv.G = G0 := rfl
@[simp] theorem XO : CCv.S 48 = .pure Nt.s20 /\ CCv.S 51 = .pure Nt.s15 /\ CCv.S 54 = .pure Nt.s22 /\ CCv.S 49 = .pure Nt.s24 := ⟨rfl, rfl, rfl, rfl⟩
theorem I5 : au CCv := ap (Nt.of20) func48 (ap (Nt.mul15) func51 (ap (Nt.add22) func54 (ap (Nt.cmp24) func49 (ak _ _))))
theorem Il {l : List Fr} {i : Nat} (h : i < l.length) : ndF (l.take (i + 1)) = ndS (ndF (l.take i)) (ix l i) := by
 rw [List.take_succ_eq_append_getElem h, lG, az h]
theorem IJ : PureOK prog G0 56 mh := by
 refine qZ I5 ae func56 rfl rfl rfl [] (by kernel_rfl) (by decide) (λ l ⟨hl, hw⟩ => ?_)
 have z0 : Nt.canon 0 = [] := Nt.canon_zero
 have i0 : I64 0 := by unfold I64; omega
 have i1 : I64 1 := by unfold I64; omega
 simp [Nt.s20, i0, i1]
 refine aB I5 ae [] (λ i : Nat => ⟨[(3, Enc.enc (Nt.canon (ndF (l.take i)).1)), (4, Enc.enc (Nt.canon (ndF (l.take i)).2)), (13, Enc.enc l), (14, .int .i64 l.length), (15, .int .i64 i)], []⟩) (λ i => i <= l.length) (λ i => l.length - i) (by kernel_rfl) ⟨0, by simp, ah (by simp [ndF])⟩ (λ i hi => ?_)
 have hwt : ∀ f ∈ l.take i, WtF f := λ f hf => hw f (List.mem_of_mem_take hf)
 obtain ⟨f1, f2⟩ := PN (l := l.take i) (by rw [length_take]; omega) hwt
 by_cases hil : i < l.length
 ·have j1 : I64 ((i : Int) + 1) := by unfold I64; omega
  have hf := hw _ (aq hil)
  obtain ⟨b1, b2, b3⟩ := hf.b
  have hs := Il hil
  by_cases hge : (ix l i).D <= (ix l i).N
  ·have hc : Dy l = true := by
    refine decide_eq_true ?_
    have := Qp (l := l.take i) hge
    have h2 := Tc this (l.drop (i + 1))
    rwa [show l.take i ++ [ix l i] ++ l.drop (i + 1) = l by rw [az hil, append_assoc, List.singleton_append, <- List.drop_eq_getElem_cons hil, List.take_append_drop]] at h2
   simp [hil, aa hil, hge, hc]
  ·have k1 : I64 (ix l i).D := by unfold I64; omega
   have k2 : I64 (ix l i).N := by have := hf.n; unfold I64; omega
   have p1 : (ndF (l.take i)).1 * (ix l i).D.toNat <= 1000000000 ^ 60 * 1000000000000000 := mul_le_mul (by omega) b1
   have p2 : (ndF (l.take i)).2 * (ix l i).N.toNat <= 1000000000 ^ 60 * 1000000000000000 := mul_le_mul (by omega) b2
   have p3 : (ndF (l.take i)).2 * (ix l i).D.toNat <= 1000000000 ^ 60 * 1000000000000000 := mul_le_mul (by omega) b1
   have e1 : (ndF (l.take (i + 1))).1 = (ndF (l.take i)).1 * (ix l i).D.toNat + (ndF (l.take i)).2 * (ix l i).N.toNat := by rw [hs]; rfl
   have e2 : (ndF (l.take (i + 1))).2 = (ndF (l.take i)).2 * (ix l i).D.toNat := by rw [hs]; rfl
   generalize (ndF (l.take i)).1 = n at *
   generalize (ndF (l.take i)).2 = d at *
   generalize ha : n * (ix l i).D.toNat = a at *
   generalize hb : d * (ix l i).N.toNat = b at *
   generalize hc : d * (ix l i).D.toNat = c at *
   have l1 : (1000000000 : Nat) ^ 60 * 1000000000000000 < 1000000000 ^ 62 := by decide
   have l2 : (1000000000 : Nat) ^ 62 + 1000000000 ^ 62 < 1000000000 ^ 64 := by decide
   have l3 : (1000000000 : Nat) ^ 60 < 1000000000 ^ 64 := by decide
   have l4 : (1000000000000000 : Nat) < 1000000000 ^ 64 := by decide
   have m0 : n < 1000000000 ^ 64 := by omega
   have m1 : d < 1000000000 ^ 64 := by omega
   have m2 : (ix l i).D.toNat < 1000000000 ^ 64 := by omega
   have m3 : (ix l i).N.toNat < 1000000000 ^ 64 := by omega
   have m4 : a < 1000000000 ^ 64 := by omega
   have m5 : b < 1000000000 ^ 64 := by omega
   have m6 : c < 1000000000 ^ 64 := by omega
   have m7 : a + b < 1000000000 ^ 64 := by omega
   clear l1 l2 l3 l4 f1 f2 p1 p2 p3
   simp [hil, aa hil, hge, Nt.s20, Nt.s15, Nt.s22, k1, k2, j1, nC m0, nC m1, nC m2, nC m3, nC m4, nC m5, nC m6, nD m0, nD m1, nD m2, nD m3, nD m4, nD m5, nD m6, ha, hb, hc, o8 m4, o8 m5, o8 m6, o8 m7]
   exact ⟨i + 1, by omega, by omega, bG 0 (by simp [e1, e2]) (by simp) (by simp [AV.clean, AV.clean1]) (by simp) rfl⟩
 ·have : i = l.length := by omega
  subst this
  rw [List.take_length] at f1 f2 ⊢
  have hc : Dy l = decide ((ndF l).2 <= (ndF l).1) := rfl
  have l3 : (1000000000 : Nat) ^ 60 < 1000000000 ^ 64 := by decide
  generalize (ndF l).1 = n at *
  generalize (ndF l).2 = d at *
  have m0 : n < 1000000000 ^ 64 := by omega
  have m1 : d < 1000000000 ^ 64 := by omega
  have e : decide (0 <= Nt.cmpN n d) = decide (d <= n) := by
   unfold Nt.cmpN
   by_cases h1 : n < d
   ·rw [if_pos h1, decide_eq_false (by omega), decide_eq_false (by omega)]
   ·rw [if_neg h1, decide_eq_true (show d <= n by omega)]
    split <;> rfl
  simp [hil, Nt.s24, nC m0, nC m1, nD m0, nD m1, hc]
  simpa using e
def jx (h : Hy) (x : List Fr) (v : Nat) : Nat -> List Fr
 | 0 => []
 | i + 1 => if (v : Int) ∈ ix h.E i then jx h x v i ++ [ix x i] else jx h x v i
theorem Af (h : Hy) (x : List Fr) (v : Nat) : ∀ i, (jx h x v i).length <= i
 | 0 => Nat.le_refl _
 | i + 1 => by
  have := Af h x v i
  unfold jx
  split
  ·rw [length_append]; simp; omega
  ·omega
theorem si {h : Hy} {x : List Fr} (v : Nat) (hx : ∀ f ∈ x, WtF f) : ∀ i, i <= x.length -> ∀ f ∈ jx h x v i, WtF f
 | 0, _ => λ f hf => by cases hf
 | i + 1, hi => λ f hf => by
  unfold jx at hf
  split at hf
  ·rcases mem_append.1 hf with hf | hf
   ·exact si v hx i (by omega) f hf
   ·rw [List.mem_singleton.1 hf]
    exact hx _ (aq (by omega))
  ·exact si v hx i (by omega) f hf
def Hp (h : Hy) (x : List Fr) (v : Nat) : Bool := Dy (jx h x v h.E.length)
instance (f : Fr) : Decidable (WtF f) := decidable_of_iff (aj f /\ 0 <= f.N) ⟨λ h => ⟨h.1, h.2⟩, λ h => ⟨h.v, h.n⟩⟩
def i6 (h : Hy) (x : List Fr) : Prop := cT h /\ x.length = h.E.length /\ (∀ f ∈ x, WtF f) /\ ∀ v, v < h.N.toNat -> Hp h x v = true
instance (h : Hy) (x : List Fr) : Decidable (i6 h x) := by unfold i6; infer_instance
def oD : PSp := aC (λ (h : Hy) (x : List Fr) => SmallH h /\ x.length <= 1000) (λ h x => .bool (decide (i6 h x)))
noncomputable def CIc : Ctx := mkC prog G0 [(23, .pure fB), (55, .pure ax), (26, .pure rt), (56, .pure mh)]
@[simp] theorem YQ : CIc.P = prog := rfl
@[simp] theorem Y2 : CIc.G = G0 := rfl
@[simp] theorem YZ : CIc.S 23 = .pure fB /\ CIc.S 55 = .pure ax /\ CIc.S 26 = .pure rt /\ CIc.S 56 = .pure mh := ⟨rfl, rfl, rfl, rfl⟩
theorem yq : au CIc := ap (EU) func23 (ap (sP) func55 (ap (TF) func26 (ap (IJ) func56 (ak _ _))))
theorem Iv : PureOK prog G0 21 oD := by
 refine lF yq ae func21 rfl rfl rfl [] (by kernel_rfl) (by decide) (λ h x ⟨hs, hxl⟩ => ?_)
 by_cases hv : cT h
 case neg =>
  have : ¬ i6 h x := λ c => hv c.1
  simp [fB, hs, hv, this]
 by_cases hlen : (x.length : Int) = h.E.length
 case neg =>
  have : ¬ i6 h x := λ c => hlen (by rw [c.2.1])
  have hlen' : ¬ x.length = h.E.length := λ c => hlen (by rw [c])
  simp [fB, hs, hv, hlen, hlen', this]
 have hlen' : x.length = h.E.length := by omega
 have hE := hv.2.2.1
 obtain ⟨v1, v2, v3, v4⟩ := hv
 have hv : cT h := ⟨v1, v2, v3, v4⟩
 obtain ⟨r, hr⟩ : ∃ r, decide (i6 h x) = r := ⟨_, rfl⟩
 rw [hr]
 simp [fB, hs, hv, hlen']
 refine aB yq ae [] (λ i : Nat => ⟨[(1, Enc.enc x), (2, .ptr 0 1 2 0 0), (22, Enc.enc x), (23, .int .i64 x.length), (24, .int .i64 i)], [HyB h]⟩) (λ i => i <= x.length /\ ∀ j < i, WtF (ix x j)) (λ i => x.length - i) (by kernel_rfl) ⟨0, by simp, ag (by simp [hlen']) (by simp [HyB])⟩ (λ i ⟨hi, hx⟩ => ?_)
 by_cases hil : i < x.length
 ·have i1 : I64 ((i : Int) + 1) := by unfold I64; omega
  by_cases q1 : aj (ix x i)
  ·by_cases q2 : (ix x i).N < 0
   ·have : r = false := by rw [<- hr]; exact decide_eq_false λ c => by have := (c.2.2.1 _ (aq hil)).n; omega
    subst this
    simp [HyB, hil, aa hil, ax, q1, q2]
   ·simp [HyB, hil, aa hil, ax, q1, q2, i1]
    refine ⟨i + 1, ⟨by omega, λ j hj => ?_⟩, by omega, bG 1 (by simp) (by simp) (by simp [AV.clean, AV.clean1]) (by simp) (by simp [HyB])⟩
    rcases lt_or_eq_of_le (le_of_lt_succ hj) with hj | rfl
    ·exact hx j hj
    ·exact ⟨q1, by omega⟩
  ·have : r = false := by rw [<- hr]; exact decide_eq_false λ c => q1 (c.2.2.1 _ (aq hil)).v
   subst this
   simp [HyB, hil, aa hil, ax, q1]
 ·have hwt : ∀ f ∈ x, WtF f := λ f hf => by
   obtain ⟨j, hj, rfl⟩ := List.mem_iff_getElem.1 hf
   have := hx j (by omega)
   rwa [az hj] at this
  simp [HyB, hil]
  refine aB yq ae [] (λ v : Nat => ⟨[(1, Enc.enc x), (2, .ptr 0 1 2 0 0), (38, .int .i64 h.N), (39, .int .i64 v)], [HyB h]⟩) (λ v => v <= h.N.toNat /\ ∀ u < v, Hp h x u = true) (λ v => h.N.toNat - v) (by kernel_rfl) ⟨0, by simp, ag (by simp) (by simp [HyB])⟩ (λ v ⟨hv1, hv2⟩ => ?_)
  by_cases hvl : v < h.N.toNat
  ·have hvl' : (v : Int) < h.N := by omega
   have i1 : I64 ((v : Int) + 1) := by unfold I64; omega
   simp [HyB, hvl']
   refine AW.weak (dw 8 2 35 rfl (by decide)) ?_
   refine aB yq ae [] (λ i : Nat => ⟨[(1, Enc.enc x), (2, .ptr 0 1 2 0 0), (7, .int .i64 v), (8, .own 1 (jx h x v i).length), (38, .int .i64 h.N), (39, .int .i64 v), (43, Enc.enc h.E), (44, .int .i64 h.E.length), (45, .int .i64 i)], [HyB h, R2B (jx h x v i)]⟩) (λ i => i <= h.E.length) (λ i => h.E.length - i) (by kernel_rfl) ⟨0, by simp, ag (by simp [jx]) (by simp [HyB, R2B, jx])⟩ (λ i hi => ?_)
   have hsl := Af h x v i
   by_cases hil2 : i < h.E.length
   ·have i2 : I64 ((i : Int) + 1) := by unfold I64; omega
    have hel : (ix h.E i).length <= 1000000 := hs.e _ (aq hil2)
    have hix : i < x.length := by omega
    have sc2 : bV CIc 28 = true := by show bV ⟨prog, λ _ => .no, G0⟩ 28 = true; kernel_rfl
    by_cases hm : (v : Int) ∈ ix h.E i
    ·have e : jx h x v (i + 1) = jx h x v i ++ [ix x i] := by rw [jx, if_pos hm]
     simp [HyB, R2B, hil2, aa hil2, aa hix, rt, hel, hm, sc2, i2, hix]
     refine ⟨(by first | omega | (unfold I64; omega)), i + 1, by omega, by omega, ag (by simp [e]) (by rw [e])⟩
    ·have e : jx h x v (i + 1) = jx h x v i := by rw [jx, if_neg hm]
     simp [HyB, R2B, hil2, aa hil2, rt, hel, hm, i2]
     refine ⟨i + 1, by omega, by omega, ag (by simp [e]) (by rw [e])⟩
   ·have : i = h.E.length := by omega
    subst this
    have hsw := si (h := h) v hwt h.E.length (by omega)
    have hs14 : (jx h x v h.E.length).length <= 14 := by omega
    have hcv : Dy (jx h x v h.E.length) = Hp h x v := rfl
    have hpre : ∀ f, f ∈ jx h x v h.E.length -> WtF f := hsw
    cases hc : Hp h x v with
    | true =>
     rw [hc] at hcv
     simp [HyB, R2B, hil2, mh, hs14, hcv, i1]
     refine ⟨hpre, v + 1, ⟨by omega, λ u hu => ?_⟩, by omega, bG 1 (by simp) (by simp) (by simp [AV.clean, AV.clean1]) (by simp) (by simp [HyB])⟩
     rcases lt_or_eq_of_le (le_of_lt_succ hu) with hu | rfl
     ·exact hv2 u hu
     ·exact hc
    | false =>
     rw [hc] at hcv
     have : r = false := by rw [<- hr]; exact decide_eq_false λ c => by have := c.2.2.2 v hvl; rw [hc] at this; cases this
     subst this
     simp [HyB, R2B, hil2, mh, hs14, hcv]
     exact hpre
  ·have hvl' : ¬ (v : Int) < h.N := by omega
   have : r = true := by rw [<- hr]; exact decide_eq_true ⟨hv, hlen', hwt, λ u hu => hv2 u (by omega)⟩
   subst this
   simp [HyB, hvl']
def cA : Nat := 1000000000 ^ 64
theorem lim64 {n : Nat} : (Nt.canon n).length <= 64 ↔ n < cA := by
 constructor
 ·intro h
  have h1 := Nt.val_lt (Nt.canon_good n)
  rw [Nt.val_canon] at h1
  exact Nat.lt_of_lt_of_le h1 (pow_le_pow_right (by decide) h)
 ·exact xH
theorem yf : (9223372036854775807 : Nat) < cA := by unfold cA; decide
theorem nvL {n : Nat} (h : n < cA) : Nt.nv (Nt.canon n) = n := nC h
theorem clL {n : Nat} (h : n < cA) : (Nt.canon n).length <= 1000000 := nD h
theorem xB {n : Nat} (h : n < cA) : Nt.fitT n = .tup [Enc.enc (Nt.canon n), .bool true] := o8 h
theorem r8 {n : Nat} (h : ¬ n < cA) : Nt.fitT n = .tup [.slice 1 false [], .bool false] := by
 have : ¬ (Nt.canon n).length <= 64 := λ e => h (lim64.1 e)
 unfold Nt.fitT
 rw [if_neg this, decide_eq_false this]
 rfl
theorem Gq {v : Nat} {k : Int} (hk : 0 <= k) (h : v ^ k.toNat < cA) : Nt.powT v k = .tup [Enc.enc (Nt.canon (v ^ k.toNat)), .bool true] := by
 unfold Nt.powT
 rw [if_neg (by omega), xB h]
theorem mO {v : Nat} {k : Int} (hk : 0 <= k) (h : ¬ v ^ k.toNat < cA) : Nt.powT v k = .tup [.slice 1 false [], .bool false] := by
 unfold Nt.powT
 rw [if_neg (by omega), r8 h]
theorem Ei (n d : Nat) : decide (Nt.cmpN n d <= 0) = decide (n <= d) := decide_eq_decide.2 Nt.cmpN_le
def gU (n : Int) (r : Fr) : Prop := 1 <= n /\ aj r /\ 0 <= r.N
instance (n : Int) (r : Fr) : Decidable (gU n r) := by unfold gU; infer_instance
def EZ (c n : Int) (r : Fr) : Prop := 0 <= c /\ gU n r /\ c.toNat ^ r.D.toNat < cA /\ n.toNat ^ r.N.toNat < cA /\ c.toNat ^ r.D.toNat <= n.toNat ^ r.N.toNat
open Classical in
def wj (c n : Int) (r : Fr) : Bool := decide (EZ c n r)
def eJ : PSp := aC (λ (_ : Int) (_ : Fr) => True) (λ n r => .bool (decide (gU n r)))
noncomputable def CUs : Ctx := mkC prog G0 [(55, .pure ax)]
@[simp] theorem YH : CUs.P = prog := rfl
@[simp] theorem Zk : CUs.G = G0 := rfl
@[simp] theorem Zs : CUs.S 55 = .pure ax := rfl
theorem Qh : au CUs := ap (sP) func55 (ak _ _)
theorem E5 : PureOK prog G0 46 eJ := by
 refine lF Qh ae func46 rfl rfl rfl [] (by kernel_rfl) (by decide) (λ n r _ => ?_)
 unfold gU
 by_cases h1 : 1 <= n
 ·by_cases h2 : aj r
  ·by_cases h3 : 0 <= r.N
   ·simp [ax, h1, h2, h3]
   ·simp [ax, h1, h2, h3]
  ·simp [ax, h1, h2]
 ·simp [ax, h1]
namespace Nt
def s11 : PSp := aC (λ (a : List Int) (k : Int) => a.length <= 1000000 /\ I64 k) (λ a k => powT (nv a) k)
end Nt
def sU : PSp := lu (λ (c n : Int) (_ : Fr) => I64 c /\ I64 n) (λ c n r => .bool (wj c n r))
noncomputable def CFt : Ctx := mkC prog G0 [(46, .pure eJ), (48, .pure Nt.s20), (47, .pure Nt.s11), (49, .pure Nt.s24)]
@[simp] theorem XH : CFt.P = prog := rfl
@[simp] theorem Xh : CFt.G = G0 := rfl
@[simp] theorem Zh : CFt.S 46 = .pure eJ /\ CFt.S 48 = .pure Nt.s20 /\ CFt.S 47 = .pure Nt.s11 /\ CFt.S 49 = .pure Nt.s24 := ⟨rfl, rfl, rfl, rfl⟩
theorem Q4 : au CFt := ap (E5) func46 (ap (Nt.of20) func48 (ap (Nt.pow11) func47 (ap (Nt.cmp24) func49 (ak _ _))))
theorem NM : PureOK prog G0 17 sU := by
 refine CH Q4 ae func17 rfl rfl rfl [] (by kernel_rfl) (by decide) (λ c n r ⟨hc, hn⟩ => ?_)
 obtain ⟨b, hb⟩ : ∃ b, wj c n r = b := ⟨_, rfl⟩
 have no : ¬ EZ c n r -> b = false := λ h => by rw [<- hb]; exact @decide_eq_false _ (Classical.propDecidable _) h
 have yes : EZ c n r -> b = true := λ h => by rw [<- hb]; exact @decide_eq_true _ (Classical.propDecidable _) h
 rw [hb]
 clear hb
 by_cases h1 : c < 0
 ·obtain rfl := no λ h => by have := h.1; omega
  simp [h1]
 by_cases h2 : gU n r
 case neg =>
  obtain rfl := no λ h => h2 h.2.1
  simp [h1, eJ, h2]
 obtain ⟨u1, u2, u3⟩ := h2
 have h2 : gU n r := ⟨u1, u2, u3⟩
 have hD : 0 <= r.D := by have := u2.1; omega
 have kD : I64 r.D := by have := u2.2.1; unfold I64; omega
 have kN : I64 r.N := by have := u2.2.2.1; unfold InR at this; unfold I64; omega
 have hl := yf
 have c1 : c.toNat < cA := by unfold I64 at hc; omega
 have n1 : n.toNat < cA := by unfold I64 at hn; omega
 clear hl
 by_cases hA : c.toNat ^ r.D.toNat < cA
 ·by_cases hB : n.toNat ^ r.N.toNat < cA
  ·have e : b = decide (c.toNat ^ r.D.toNat <= n.toNat ^ r.N.toNat) := by
    by_cases hle : c.toNat ^ r.D.toNat <= n.toNat ^ r.N.toNat
    ·rw [decide_eq_true hle]; exact yes ⟨by omega, h2, hA, hB, hle⟩
    ·rw [decide_eq_false hle]; exact no λ h => hle h.2.2.2.2
   have e2 := Ei (c.toNat ^ r.D.toNat) (n.toNat ^ r.N.toNat)
   simp [h1, eJ, h2, Nt.s20, Nt.s11, Nt.s24, hc, hn, nvL c1, nvL n1, clL c1, clL n1, Gq hD hA, Gq u3 hB, nvL hA, nvL hB, clL hA, clL hB, kD, kN, e, e2]
  ·obtain rfl := no λ h => hB h.2.2.2.1
   simp [h1, eJ, h2, Nt.s20, Nt.s11, Nt.s24, hc, hn, nvL c1, nvL n1, clL c1, clL n1, Gq hD hA, mO u3 hB, nvL hA, clL hA, kD, kN]
 ·obtain rfl := no λ h => hA h.2.2.1
  by_cases hB : n.toNat ^ r.N.toNat < cA
  ·simp [h1, eJ, h2, Nt.s20, Nt.s11, Nt.s24, hc, hn, nvL c1, nvL n1, clL c1, clL n1, mO hD hA, Gq u3 hB, kD, kN]
  ·simp [h1, eJ, h2, Nt.s20, Nt.s11, Nt.s24, hc, hn, nvL c1, nvL n1, clL c1, clL n1, mO hD hA, mO u3 hB, kD, kN]
namespace Nt
end Nt
def iS : PSp := lu (λ (a : List Int) (k : Int) (x : List Int) => a.length <= 1000000 /\ I64 k /\ 0 <= k /\ x.length <= 1000000 /\ Nt.nv x < cA) (λ a k x => .bool (decide (Nt.nv a ^ k.toNat <= Nt.nv x)))
noncomputable def CBw : Ctx := mkC prog G0 [(47, .pure Nt.s11), (49, .pure Nt.s24)]
@[simp] theorem Yo : CBw.P = prog := rfl
@[simp] theorem Yc : CBw.G = G0 := rfl
@[simp] theorem Yt : CBw.S 47 = .pure Nt.s11 /\ CBw.S 49 = .pure Nt.s24 := ⟨rfl, rfl⟩
theorem OH : au CBw := ap (Nt.pow11) func47 (ap (Nt.cmp24) func49 (ak _ _))
theorem Ps : PureOK prog G0 52 iS := by
 refine CH OH ae func52 rfl rfl rfl [] (by kernel_rfl) (by decide) (λ a k x ⟨ha, hk, hk0, hx, hxl⟩ => ?_)
 by_cases hA : Nt.nv a ^ k.toNat < cA
 ·have e2 := Ei (Nt.nv a ^ k.toNat) (Nt.nv x)
  simp [Nt.s11, Nt.s24, ha, hk, hx, Gq hk0 hA, nvL hA, clL hA, e2]
 ·have e : decide (Nt.nv a ^ k.toNat <= Nt.nv x) = false := decide_eq_false (by omega)
  simp [Nt.s11, Nt.s24, ha, hk, hx, mO hk0 hA]
  simpa using e
def ue (D T b : Nat) : Prop := b ^ D <= T /\ T < (b + 1) ^ D
def wD (D T : Nat) : Nat -> Nat
 | 0 => 0
 | k + 1 => if (k + 1) ^ D <= T then k + 1 else wD D T k
def gY (D T : Nat) : Nat := wD D T T
theorem te {D T : Nat} (hD : 1 <= D) : ∀ k, T < (k + 1) ^ D -> ue D T (wD D T k)
 | 0, h => ⟨by unfold wD; rw [zero_pow (by omega)]; exact zero_le _, by simpa [wD] using h⟩
 | k + 1, h => by
  unfold wD
  split
  ·rename_i h1; exact ⟨h1, h⟩
  ·rename_i h1; exact te hD k (by omega)
theorem qX {D T : Nat} (hD : 1 <= D) : ue D T (gY D T) := te hD T (by
 have : T + 1 <= (T + 1) ^ D := by
  have := pow_le_pow_right (n := T + 1) (by omega) hD
  rwa [pow_one] at this
 omega)
theorem GP {D T a b : Nat} (ha : ue D T a) (hb : ue D T b) : a = b := by
 rcases Nat.lt_trichotomy a b with h | h | h
 ·have := pow_le_pow_left (show a + 1 <= b by omega) D
  have := ha.2; have := hb.1; omega
 ·exact h
 ·have := pow_le_pow_left (show b + 1 <= a by omega) D
  have := hb.2; have := ha.1; omega
theorem DW {D T b : Nat} (hD : 1 <= D) (h : ue D T b) : gY D T = b := GP (qX hD) h
theorem Ej {D T c : Nat} (hD : 1 <= D) : c <= gY D T ↔ c ^ D <= T := by
 obtain ⟨h1, h2⟩ := qX (T := T) hD
 constructor
 ·intro h; exact Nat.le_trans (pow_le_pow_left h D) h1
 ·intro h
  apply Classical.byContradiction
  intro hc
  have := pow_le_pow_left (show gY D T + 1 <= c by omega) D
  omega
theorem Eb {D T : Nat} (hD : 1 <= D) : gY D T <= T := by
 have h := (qX (T := T) hD).1
 rcases Nat.eq_zero_or_pos (gY D T) with h0 | h0
 ·omega
 ·have := pow_le_pow_right h0 hD
  rw [pow_one] at this
  omega
theorem IT (T : Nat) : gY 1 T = T := DW (Nat.le_refl _) ⟨by rw [pow_one]; exact Nat.le_refl _, by rw [pow_one]; omega⟩
theorem O2 {m n : Nat} (h : m < n) : 2 ^ m < 2 ^ n := Nat.pow_lt_pow_right (by decide) h
theorem MD {a b k : Nat} (hb : cA <= (2 ^ a) ^ b) (hk : a * b < k) : cA < 2 ^ k := by
 rw [<- Nat.pow_mul] at hb
 exact Nat.lt_of_le_of_lt hb (O2 hk)
def re (n : Int) (r : Fr) : AV := if gU n r /\ n.toNat ^ r.N.toNat < cA then .tup [Enc.enc (Nt.canon (gY r.D.toNat (n.toNat ^ r.N.toNat))), .bool true] else .tup [.slice 1 false [], .bool false]
theorem uB {n : Int} {r : Fr} (h : gU n r) (h2 : n.toNat ^ r.N.toNat < cA) : re n r = .tup [Enc.enc (Nt.canon (gY r.D.toNat (n.toNat ^ r.N.toNat))), .bool true] := if_pos ⟨h, h2⟩
theorem GD {n : Int} {r : Fr} (h : ¬ gU n r) : re n r = .tup [.slice 1 false [], .bool false] := if_neg λ c => h c.1
theorem Di {n : Int} {r : Fr} (h : ¬ n.toNat ^ r.N.toNat < cA) : re n r = .tup [.slice 1 false [], .bool false] := if_neg λ c => h c.2
def ym : PSp := aC (λ (n : Int) (_ : Fr) => I64 n) re
def g6 (a : Act) (ds : List Deferred) : Act := { a with defers := a.defers ++ ds }
theorem iJ (a : Act) (ds : List Deferred) (d : Option Tmp) (v : Value) : g6 (a.put d v) ds = (g6 a ds).put d v := by
 cases d <;> rfl
theorem C2 (a : Act) (ds : List Deferred) : (g6 a ds).eval = a.eval := rfl
def PR (ds : List Deferred) (Q : Exit -> Act -> World -> Prop) (ex : Exit) (a' : Act) (w' : World) : Prop := ∃ a'', Q ex a'' w' /\ a' = g6 a'' ds
def lI (ro : Option Nat) : Fence := { Fence.wide with round := ro }
theorem Lw {ro : Option Nat} {n : Nat} {P : Program} {f : FuncId} {args : Array Value} {w : World} {R : Ending -> World -> Prop} (h : Calls P f args w R) : CallsIn (lI ro) n P f args w R := by
 have h := (callsIn_wide (n := n)).2 h
 cases ro with
 | none => exact h
 | some l => exact h
theorem Qa {ro : Option Nat} {n : Nat} {P : Program} {row : String} {args : Array Value} {w : World} {R : Value -> World -> Prop} (h : Rows P row args w R) : RowsIn (lI ro) n P row args w R := by
 intro c cs _
 obtain ⟨v, w', r, s⟩ := h c cs
 refine ⟨v, w', r, ?_⟩
 have : ∀ m m', Steps P m m' -> StepsIn (Machine.fenced P Fence.wide) P m m' := λ m m' h => stepsIn_wide.2 h
 exact this _ _ s
theorem KP {P : Program} {ro : Option Nat} {n : Nat} {ops : Array Oper} {Q : Exit -> Act -> World -> Prop} (hQ : ∀ a w, ¬ Q .outgrown a w) (ds : List Deferred) : ∀ (l : List Oper), (∀ o ∈ l, ∀ c, o.op ≠ .defer c) -> ∀ {a : Act} {w : World}, wpList P ops Q l a w ->
  wpListIn (lI ro) n P ops (PR ds Q) l (g6 a ds) w
 | [], _, a, w, h => ⟨a, h, rfl⟩
 | o :: r, hd, a, w, h => by
  have ih := λ {a : Act} {w : World} => KP (P := P) (ro := ro) (n := n) (ops := ops) hQ ds r (λ o ho => hd o (List.mem_cons_of_mem _ ho)) (a := a) (w := w)
  unfold wpList at h
  unfold wpListIn
  have hw : Region.wanted o (yielded ops (g6 a ds).tmps) = Region.wanted o (yielded ops a.tmps) := rfl
  rw [hw]
  split
  ·rename_i hw1
   rw [if_pos hw1] at h
   rcases h with h | ⟨_, a0, w0, h⟩
   ·refine ⟨λ _ _ => trivial, ?_⟩
    rw [C2, Oper.semAt_eq _ _ _ (hd o (List.mem_cons_self ..))]
    unfold Oper.wp at h
    generalize (execOp a.eval o).run P w = res at h
    unfold Oper.upon at h
    unfold Oper.uponIn
    split at h
    ·rename_i v w'
     show wpListIn (lI ro) n P ops (PR ds Q) r ((g6 a ds).put o.dst v) w'
     rw [<- iJ]; exact ih h
    ·rename_i w'
     show wpListIn (lI ro) n P ops (PR ds Q) r ((g6 a ds).put o.dst undef) w'
     rw [<- iJ]; exact ih h
    ·rename_i d w'
     have := ih h
     rw [iJ] at this
     exact this
    ·refine ⟨λ hd => (by cases hd), (Lw h).mono ?_⟩
     intro e w' he
     cases e with
     | returned v =>
      show wpListIn (lI ro) n P ops (PR ds Q) r ((g6 a ds).put o.dst v) w'
      rw [<- iJ]; exact ih he
     | panicked ch => exact ⟨a, he, rfl⟩
     | outgrown => obtain ⟨a0, w0, h0⟩ := he; exact absurd h0 (hQ _ _)
    ·refine ⟨λ hd => (by cases hd), (Qa h).mono ?_⟩
     intro v w' he
     show wpListIn (lI ro) n P ops (PR ds Q) r ((g6 a ds).put o.dst v) w'
     rw [<- iJ]; exact ih he
    ·exact ⟨a, h, rfl⟩
    ·exact h.elim
   ·exact absurd h (hQ _ _)
  ·rename_i hw1
   rw [if_neg hw1] at h
   refine ⟨λ _ _ => trivial, ?_⟩
   rw [<- iJ]
   exact ih h
def FH : Oper -> Bool
 | ⟨_, .defer _, _, _, _, _⟩ => false
 | _ => true
theorem Cn {o : Oper} (h : FH o = true) (c : Call) : o.op ≠ .defer c := by
 rintro e
 obtain ⟨d, op, t, p, af, g⟩ := o
 simp only at e
 subst e
 cases h
def kG (N : Nat) : Code -> Bool
 | .skip => true
 | .region _ ops draw => !draw && (ops.toList.all λ o => match o.dst with | some d => decide (d < N) | none => true) && ops.toList.all FH
 | .seq a b => kG N a && kG N b
 | .cond _ a b => kG N a && kG N b
 | .block _ b => kG N b
 | .ret => true
 | .exit _ => true
 | _ => false
section
variable {C : Ctx} {N h0 : Nat}
theorem dj (hS : au C) {ro : Option Nat} {n : Nat} {ds : List Deferred} {X : Nat -> Prop} {w0 : World} {β0 : List BI} {H0 : List Blk} : ∀ (code : Code) {st : ASt} {Q : Exit -> ASt -> Prop}, kG N code = true -> cz C [] N h0 code st Q -> ∀ {a : Act} {w : World}, Rel C N X w0 β0 H0 st a w ->
  code.wpIn (lI ro) n C.P (PR ds λ ex a' w' => ∃ st', Q ex st' /\ Rel C N X w0 β0 H0 st' a' w') (g6 a ds) w
 | .skip, st, Q, _, h, a, w, hr => wpIn_skip ⟨a, ⟨st, h, hr⟩, rfl⟩
 | .ret, st, Q, _, h, a, w, hr => wpIn_ret ⟨a, ⟨st, h, hr⟩, rfl⟩
 | .exit id, st, Q, _, h, a, w, hr => wpIn_exit ⟨a, ⟨st, h, hr⟩, rfl⟩
 | .region id ops draw, st, Q, hok, h, a, w, hr => by
  simp only [kG, Bool.and_eq_true, Bool.not_eq_true'] at hok
  obtain ⟨⟨hdr, hd⟩, hnd⟩ := hok
  subst hdr
  have h : gQ C ops ops.toList st (Q .normal) := h
  have hw := iU (Q := λ ex a' w' => ex = .normal /\ ∃ st', Q .normal st' /\ Rel C N X w0 β0 H0 st' a' w') hS (ops := ops) ops.toList (λ o ho d hd' => by
   have := List.all_eq_true.1 hd o ho
   rw [hd'] at this
   simpa using this) h hr λ st' a' w' hr' hk => ⟨rfl, st', hk, hr'⟩
  refine wpIn_mono (wpIn_region_list (KP (ro := ro) (n := n) (λ a w h => by cases h.1) ds ops.toList (λ o ho c => Cn (List.all_eq_true.1 hnd o ho) c) hw)) ?_
  rintro e a' w' ⟨a'', ⟨rfl, h1⟩, h2⟩
  exact ⟨a'', h1, h2⟩
 | .seq x y, st, Q, hok, h, a, w, hr => by
  simp only [kG, Bool.and_eq_true] at hok
  have h : cz C [] N h0 x st (r5 (λ st' => cz C [] N h0 y st' Q) Q) := h
  refine wpIn_seq (wpIn_mono (dj hS x hok.1 h hr) ?_)
  rintro e a' w' ⟨a'', ⟨st', hq, hr'⟩, rfl⟩
  cases e with
  | normal => exact dj hS y hok.2 hq hr'
  | _ => exact ⟨a'', ⟨st', hq, hr'⟩, rfl⟩
 | .block id x, st, Q, hok, h, a, w, hr => by
  simp only [kG] at hok
  have h : cz C [] N h0 x st (jL id Q) := h
  refine wpIn_block (wpIn_mono (dj hS x hok h hr) ?_)
  rintro e a' w' ⟨a'', ⟨st', hq, hr'⟩, rfl⟩
  cases e with
  | exit j =>
   simp only [Exit.inBlock, jL] at hq ⊢
   split
   ·rename_i e; rw [if_pos e] at hq; exact ⟨a'', ⟨st', hq, hr'⟩, rfl⟩
   ·rename_i e; rw [if_neg e] at hq; exact ⟨a'', ⟨st', hq, hr'⟩, rfl⟩
  | _ => exact ⟨a'', ⟨st', hq, hr'⟩, rfl⟩
 | .cond c x y, st, Q, hok, h, a, w, hr => by
  simp only [kG, Bool.and_eq_true] at hok
  have h : cD (aev C st.ρ 0 c) λ b => dP b (cz C [] N h0 x st Q) (cz C [] N h0 y st Q) := h
  have hr0 := hr
  obtain ⟨β, R, S0, Tr, G, hN, hdef⟩ := hr0
  have hE := bq Tr G 0 c
  unfold cD at h
  split at h
  ·rename_i b hb
   rw [hb] at hE
   have hc : (g6 a ds).eval c = .bool b := ct hE
   refine wpIn_cond hc ?_
   cases b
   ·exact dj hS y hok.2 (h.2 rfl) hr
   ·exact dj hS x hok.1 (h.1 rfl) hr
  ·rename_i hb
   rw [hb] at hE
   obtain ⟨b, hb'⟩ := mz hE
   have hc : (g6 a ds).eval c = .bool b := hb'
   refine wpIn_cond hc ?_
   cases b
   ·exact dj hS y hok.2 (h.2.2 rfl) hr
   ·exact dj hS x hok.1 (h.1.1 rfl) hr
  ·exact h.elim
end
def tn : Obj -> Bool
 | .loop _ => true
 | .deferred _ => true
 | _ => false
theorem Ku {w : World} {b c off : Nat} {v : Value} {o0 : Obj} (hb : w.heap[b]? = some o0) (ho : tn o0 = true) (hc : w.cell? ⟨c, off, none⟩ = some v) : c ≠ b := by
 rintro rfl
 unfold World.cell? at hc
 simp only at hc
 split at hc
 ·rename_i h
  rw [hb] at h
  cases h
  cases ho
 ·cases hc
theorem RepD.odd {w : World} {b : Nat} {o0 o : Obj} (hb : w.heap[b]? = some o0) (ho : tn o0 = true) {X : Nat -> Prop} {v : Value} {av : AV} (h : RepD w X v av) : RepD (w.putObj b o) X v av := by
 have hcell : ∀ {c off : Nat} {u : Value}, w.cell? ⟨c, off, none⟩ = some u -> (w.putObj b o).cell? ⟨c, off, none⟩ = some u := λ {c off u} hc => by
  have hne := Ku hb ho hc
  rw [<- hc]
  exact World.cell?_of_block (World.putObj_heap_other hne)
 induction h with
 | undef v => exact .undef v
 | bool b => exact .bool b
 | int k n => exact .int k n
 | str s => exact .str s
 | nilptr => exact .nilptr
 | anyb b => exact .anyb b
 | mapp b => exact .mapp b
 | tab c k zs t fr hc hx =>
  have hne : c ≠ b := by rintro rfl; rw [hb] at hc; cases hc; cases ho
  exact .tab c k zs t fr ((World.putObj_heap_other hne).trans hc) hx
 | slice sz full rows a n cap val hn h1 h2 h3 hr hm hv ih =>
  refine .slice sz full rows a n cap val hn h1 h2 h3 hr (λ h0 => ?_) ih
  obtain ⟨c, off, rfl, hlt, hx, hc⟩ := hm h0
  exact ⟨c, off, rfl, by rw [World.putObj_size]; exact hlt, hx, λ i j hi hj => ⟨hcell (hc i j hi hj).1, (hc i j hi hj).2⟩⟩
 | iptr c off cells val hlt hx hm hv ih => exact .iptr c off cells val (by rw [World.putObj_size]; exact hlt) hx (λ j hj => ⟨hcell (hm j hj).1, (hm j hj).2⟩) ih
 | agg cs cells val hl hm hv ih => exact .agg cs cells val hl hm ih
 | tup cs cells val hl hm hv ih => exact .tup cs cells val hl hm ih
 | fn f cs cells val hl hm hv ih => exact .fn f cs cells val hl hm ih
theorem Rep.odd {w : World} {b : Nat} {o0 o : Obj} (hb : w.heap[b]? = some o0) (ho : tn o0 = true) {X : Nat -> Prop} {β : List BI} {H : List Blk} {v : Value} {av : AV} (h : Rep w X β H v av) : Rep (w.putObj b o) X β H v av := by
 induction h with
 | deep h => exact .deep (h.odd hb ho)
 | own l n a cap b' hb' hn h0 hc hx => exact .own l n a cap b' hb' hn h0 hc hx
 | osl l n sz off len a cap b' hb' hn hle h0 hc hx => exact .osl l n sz off len a cap b' hb' hn hle h0 hc hx
 | ptr l n sz i f a b' hb' hn hx => exact .ptr l n sz i f a b' hb' hn hx
 | agg cs cells val hl hm hv ih => exact .agg cs cells val hl hm ih
 | tup cs cells val hl hm hv ih => exact .tup cs cells val hl hm ih
 | fn f cs cells val hl hm hv ih => exact .fn f cs cells val hl hm ih
theorem HRel.odd {w : World} {b : Nat} {o0 o : Obj} (hb : w.heap[b]? = some o0) (ho : tn o0 = true) {X : Nat -> Prop} {β : List BI} {H : List Blk} (h : HRel w X β H) : HRel (w.putObj b o) X β H := by
 refine ⟨h.len, λ l bi bk h1 h2 => ?_, λ l c cap h1 => by rw [World.putObj_size]; exact h.lt l c cap h1, h.inj, λ c hc => by rw [World.putObj_size]; exact h.base c hc⟩
 have := h.blk l bi bk h1 h2
 cases bi with
 | nil => exact this
 | lies c cap =>
  obtain ⟨cur, k1, k2, k3, k4, k5, k6, k7⟩ := this
  have hne : c ≠ b := by rintro rfl; rw [hb] at k1; cases k1; cases ho
  refine ⟨cur, (World.putObj_heap_other hne).trans k1, k2, k3, k4, k5, k6, λ i j r av hr hj => ?_⟩
  obtain ⟨v, q1, q2, q3, q4⟩ := k7 i j r av hr hj
  exact ⟨v, q1, q2, q3.odd hb ho, λ hd => (q4 hd).odd hb ho⟩
theorem GV.odd {P : Program} {w : World} {b : Nat} {o0 o : Obj} (hb : w.heap[b]? = some o0) (ho : tn o0 = true) {X : Nat -> Prop} {g : Nat} {av : AV} (h : GV P w X g av) : GV P (w.putObj b o) X g av := by
 cases av
 case mapof k e L =>
  obtain ⟨h1, h2⟩ := h
  refine ⟨h1.same (World.putObj_heap_other ?_), h2⟩
  rintro rfl
  obtain ⟨D, ⟨es, clock, q1, q2⟩, q3⟩ := h1
  rw [hb] at q1
  cases q1
  cases ho
 all_goals exact RepD.odd hb ho (show RepD w X _ _ from h)
section
variable {C : Ctx} {N : Nat} {X : Nat -> Prop} {w0 : World} {β0 : List BI} {H0 : List Blk} {st : ASt} {a : Act} {w : World}
theorem Rel.odd {b : Nat} {o0 o : Obj} (hb : w.heap[b]? = some o0) (ho : tn o0 = true) (hlo : w0.heap.size <= b) (h : Rel C N X w0 β0 H0 st a w) : Rel C N X w0 β0 H0 st a (w.putObj b o) := by
 obtain ⟨β, R, S, T, G, hN, hd⟩ := h
 refine ⟨β, R.odd hb ho, ⟨⟨S.keeps.os, S.keeps.tape, S.keeps.output, by rw [World.putObj_size]; exact S.keeps.size, λ c hc hn => (World.putObj_heap_other (by omega)).trans (S.keeps.block c hc hn), S.keeps.drawn⟩, S.grow, S.len⟩, λ t => (T t).odd hb ho, λ g => (G g).odd hb ho, hN, hd⟩
theorem Rel.alloc (o : Obj) (h : Rel C N X w0 β0 H0 st a w) : Rel C N X w0 β0 H0 st a (w.alloc o) := by
 obtain ⟨β, R, S, T, G, hN, hd⟩ := h
 have hk : Keeps (λ _ => False) w (w.alloc o) := Keeps.alloc _ _ _
 exact ⟨β, R.quiet hk, S.trans (StepR.quiet hk R.len), λ t => (T t).keep (StepR.quiet hk R.len), λ g => (G g).keep (λ b hb hn => hk.block b hb (λ h => h)) hk.size (λ b _ h => h), hN, hd⟩
theorem Rel.there {β1 : List BI} {w1 : World} {H1 : List Blk} (S0 : StepR w0 β0 H0 w1 β1 H1) (h : Rel C N X w1 β1 H1 st a w) : Rel C N X w0 β0 H0 st a w := by
 obtain ⟨β, R, S, T, G, hN, hd⟩ := h
 exact ⟨β, R, S0.trans S, T, G, hN, hd⟩
end
def RX (C : Ctx) (fn : Func) (r : AV) (X : Nat -> Prop) (w0 : World) : Exit -> Act -> World -> Prop :=
 bodyPostM Fence.wide 9 C.P fn λ e w' => ∃ v, e = .returned v /\ Keeps (λ _ => False) w0 w' /\ RepD w' X v r
def AWX (C : Ctx) (N : Nat) (fn : Func) (r : AV) (code : Code) (st : ASt) : Prop :=
 ∀ (X : Nat -> Prop) (w0 : World) (a : Act) (w : World), Rel C N X w0 [] [] st a w -> code.wpIn Fence.wide 9 C.P (RX C fn r X w0) a w
@[congr] theorem RL {C : Ctx} {N : Nat} {fn : Func} {r : AV} {code : Code} {st st' : ASt} (h : dh st = st') : AWX C N fn r code st = AWX C N fn r code st' := by rw [aR] at h; rw [h]
section
variable {C : Ctx} {N : Nat} {fn : Func} {r : AV}
theorem oo {X : Nat -> Prop} {w0 : World} {st : ASt} {a : Act} {w : World} (h : oK C fn.results.toList r st) (hr : Rel C N X w0 [] [] st a w) : LeavesIn Fence.wide 9 C.P fn a.tmps (λ e w' => ∃ v, e = .returned v /\ Keeps (λ _ => False) w0 w' /\ RepD w' X v r) [] .returning w := by
 unfold oK at h
 split at h
 ·rename_i ob' r' hres
  obtain ⟨hob', hview⟩ := h
  obtain ⟨β', R', S', T', G', hN', hdef'⟩ := hr
  obtain ⟨u, hu, hrep⟩ := dx R' T' hres hob'
  have hv := (bX R' (λ _ => True) 6 hrep (λ _ _ => trivial)).mono (X' := X) λ b _ hb => .inl hb
  have hv := e9 hv
  rw [hview] at hv
  exact ⟨u, hu, u, rfl, S'.keeps.weaken (λ b _ h => by obtain ⟨l, c, blk, h1, _, _⟩ := h; simp at h1), hv⟩
 ·exact h.elim
theorem J6 {X : Nat -> Prop} {w0 : World} {st : ASt} {a : Act} {w : World} {ex : Exit} (h : dV C fn.results.toList r ex st) (hr : Rel C N X w0 [] [] st a w) : RX C fn r X w0 ex a w := by
 have hd : a.defers = [] := by obtain ⟨_, _, _, _, _, _, h⟩ := hr; exact h
 cases ex with
 | normal => show LeavesInM _ _ _ _ _ _ a.defers _ _; rw [hd]; exact oo h hr
 | ret => show LeavesInM _ _ _ _ _ _ a.defers _ _; rw [hd]; exact oo h hr
 | _ => exact h.elim
theorem Mx {X : Nat -> Prop} {w0 : World} {st : ASt} {a : Act} {w : World} {ex : Exit} {D : Nat} (hD : w.heap[D]? = some (.deferred (some []))) (hlo : w0.heap.size <= D) (h : dV C fn.results.toList r ex st) (hr : Rel C N X w0 [] [] st a w) :
  RX C fn r X w0 ex (g6 a [{ target := .collected D, args := #[] }]) w := by
 have hd : a.defers = [] := by obtain ⟨_, _, _, _, _, _, h⟩ := hr; exact h
 have key : oK C fn.results.toList r st -> LeavesInM Fence.wide 9 C.P fn a.tmps (λ e w' => ∃ v, e = .returned v /\ Keeps (λ _ => False) w0 w' /\ RepD w' X v r) [{ target := .collected D, args := #[] }] .returning w := λ h =>
  ⟨by simp, .inl ⟨D, _, rfl, run_takeDeferred hD, oo h (hr.odd hD rfl hlo)⟩⟩
 cases ex with
 | normal => show LeavesInM _ _ _ _ _ _ (a.defers ++ _) _ _; rw [hd]; exact key h
 | ret => show LeavesInM _ _ _ _ _ _ (a.defers ++ _) _ _; rw [hd]; exact key h
 | _ => exact h.elim
theorem ij (hS : au C) (hM : C.P.follows .mixedOrders = true) (hd : List Nat) {a b : Code} {st : ASt} (hok : bN C hd N a = true) (h : cz C hd N 0 a st (r5 (AWX C N fn r b) (dV C fn.results.toList r))) : AWX C N fn r (.seq a b) st := λ X w0 x w hr => by
 refine wpIn_seq (wpIn_mono (wpIn_wide.2 (bf hS hM a hok h X w0 [] [] x w rfl hr)) ?_)
 rintro e a' w' ⟨st', hq, hr'⟩
 cases e with
 | normal => exact hq X w0 a' w' hr'
 | _ => exact J6 hq hr'
theorem AWX.weak {code : Code} {st st' : ASt} (hw : Weak C N 0 st st') (h : AWX C N fn r code st') : AWX C N fn r code st := λ X w0 a w hr => h X w0 a w (hw X w0 [] [] a w rfl hr)
def AWXb (C : Ctx) (N : Nat) (fn : Func) (r : AV) (b c : Code) (st : ASt) : Prop :=
 ∀ (X : Nat -> Prop) (w0 : World) (a : Act) (w : World), Rel C N X w0 [] [] st a w -> b.wpIn Fence.wide 9 C.P (Exit.then (c.wpIn Fence.wide 9 C.P (RX C fn r X w0)) (RX C fn r X w0)) a w
@[congr] theorem PH {C : Ctx} {N : Nat} {fn : Func} {r : AV} {b c : Code} {st st' : ASt} (h : dh st = st') : AWXb C N fn r b c st = AWXb C N fn r b c st' := by rw [aR] at h; rw [h]
theorem AWXb.weak {b c : Code} {st st' : ASt} (hw : Weak C N 0 st st') (h : AWXb C N fn r b c st') : AWXb C N fn r b c st := λ X w0 a w hr => h X w0 a w (hw X w0 [] [] a w rfl hr)
theorem zX (hS : au C) (hM : C.P.follows .mixedOrders = true) (hd : List Nat) {a b c : Code} {st : ASt} (hok : bN C hd N a = true) (h : cz C hd N 0 a st (r5 (AWXb C N fn r b c) (dV C fn.results.toList r))) : AWX C N fn r (.seq (.seq a b) c) st := λ X w0 x w hr => by
 refine wpIn_seq (wpIn_seq (wpIn_mono (wpIn_wide.2 (bf hS hM a hok h X w0 [] [] x w rfl hr)) ?_))
 rintro e a' w' ⟨st', hq, hr'⟩
 cases e with
 | normal => exact hq X w0 a' w' hr'
 | exit id => exact hq.elim
 | goto id => exact hq.elim
 | panic id => exact hq.elim
 | outgrown => exact hq.elim
 | ret =>
  have hq : dV C fn.results.toList r .ret st' := hq
  exact (J6 hq hr' : RX C fn r X w0 .ret a' w')
theorem PI {α β : Type} [Enc α] [Enc β] {f : FuncId} {body : Code} {n : Nat} (hf : C.P.funcs[f]? = some fn) (hb : fn.body = some body) (hn : fn.ntmps = n) (hnn : 2 <= n) {pre : α -> β -> Prop} {res : α -> β -> AV}
  (h : ∀ a b, pre a b -> AWX C n fn (res a b) body ⟨[(0, Enc.enc a), (1, Enc.enc b)], []⟩) : PureOK C.P C.G f (aC pre res) := by
 subst hn
 intro w X args avs0 ob r' hX hG hsz0 harg0 hp hob
 obtain ⟨r0, hlen0, hav0⟩ : ∃ _ : r' = r', avs0.length <= fn.ntmps /\ AWX C fn.ntmps fn r' body ⟨argsρ 0 (avs0.map cM), []⟩ := by
  unfold aC at hp
  split at hp
  ·injection hp with hp; injection hp with e1 e2; subst e1 e2
   refine ⟨rfl, hnn, ?_⟩
   have := h _ _ hob.2.2
   rw [<- hob.1, <- hob.2.1] at this
   exact this
  ·cases hp
 generalize havs : avs0.map cM = avs at hav0
 have hlen : avs.length <= fn.ntmps := by rw [<- havs]; simpa using hlen0
 have hsz : args.size = avs.length := by rw [<- havs]; simpa using hsz0
 have harg : ∀ (j : Nat) (u : AV), avs[j]? = some u -> ∃ v, args[j]? = some v /\ RepD w X v u := λ j u hu => by
  rw [<- havs, getElem?_map] at hu
  simp only [Option.map_eq_some_iff] at hu
  obtain ⟨av, hav, rfl⟩ := hu
  obtain ⟨v, h1, h2⟩ := harg0 j av hav
  exact ⟨v, h1, e9 h2⟩
 refine callsIn_wide.1 (callsIn_of_wp_marks (n := 9) hf hb trivial ?_)
 have hMu : ∀ b, Mu X [] [] b -> X b := by
  rintro b (h | ⟨l, c, blk, h1, _, _⟩)
  ·exact h
  ·simp at h1
 have R : HRel w X [] [] := ⟨rfl, λ l bi b h1 _ => by simp at h1, λ l b c h1 => by simp at h1, λ l l' b c c' h1 => by simp at h1, hX⟩
 have hr : Rel C fn.ntmps X w [] [] ⟨argsρ 0 avs, []⟩ { tmps := args ++ Array.replicate (fn.ntmps - args.size) undef, defers := [] } w :=
  ⟨[], R, StepR.refl _ _ _ rfl, j5 hsz (λ j u hj => let ⟨v, h1, h2⟩ := harg j u hj; ⟨v, h1, .deep (h2.mono λ b _ hb => hMu b hb)⟩), λ g => (hG g).mono λ b _ hb => hMu b hb, by simp; omega, rfl⟩
 exact hav0 X w _ w hr
end
open Go.RowKit Go.Shelf Go.Proofs
attribute [local go_sem] Oper.semAt_some
set_option maxRecDepth 100000 in
theorem Lx (F : Fence) (n : Nat) (h7 : F.fn 94) (hro : F.round = none) (hn : 1 <= n) (l Bs bo b off len cap : Nat) (hlen : len <= 1000000) (J : Nat -> World -> Prop)
  (hB : ∀ k W, J k W -> W.cell? ⟨Bs, bo, none⟩ = some (.slice (some ⟨b, off, none⟩) len cap))
  (hY : ∀ k W, J k W -> k < len -> ∃ v, W.cell? ⟨b, off + (len - 1 - k), none⟩ = some v /\ YieldAt F (n - 1) prog l #[.int .i64 ((len : Int) - 1 - k), v] W λ e W' => e = .returned (.bool true) /\ J (k + 1) W')
  (W : World) (h0 : J 0 W) :
  CallsIn F n prog 94 #[.func (.yield l) #[] #[], .pointer (some ⟨Bs, bo, none⟩)] W λ e W' => (∃ v, e = .returned v) /\ J len W' := by
 refine callsIn_of_wp func94 rfl h7 ?_ hro
 simp only [Tryz.ntmps94, List.size_toArray, length_cons, length_nil, Nat.reduceAdd, Nat.reduceSub, Array.replicate_succ, Array.replicate_zero, List.push_toArray, List.append_toArray, nil_append, cons_append]
 have hBs := hB 0 W h0
 gi_wp2
 gi_loopw [3] (λ i wr => ∃ k : Nat, k <= len /\ i = .int .i64 ((len : Int) - 1 - k) /\ J k wr)
  (λ i _ => (intOf i + 1).toNat)
 case atStart => exact ⟨0, zero_le _, by simp, h0⟩
 case round =>
  obtain ⟨k, hk, rfl, hJs⟩ := hrel
  have hBk := hB k wr hJs
  by_cases hlt : k < len
  ·obtain ⟨v, hv, fn, tmps, assign, body, hy, hR⟩ := hY k wr hJs hlt
   gi_wp2
   refine hR.mono ?_
   rintro e W3 ⟨rfl, hJ3⟩
   gi_wp2
   go_roundw
   case rel => exact ⟨k + 1, by omega, by simp; omega, hJ3⟩
   case measure => simp [intOf]; omega
  ·obtain rfl : k = len := by omega
   gi_wp2
   go_end0
   exact ⟨⟨_, rfl⟩, hJs⟩
section
variable {C : Ctx} {N : Nat} {X : Nat -> Prop} {w0 : World} {β0 : List BI} {H0 : List Blk}
theorem v6 {st : ASt} {a : Act} {w : World} (h : Rel C N X w0 β0 H0 st a w) {d : Tmp} (hd : d < N) {v : Value} {av : AV} (hv : ∀ β, HRel w X β st.H -> StepR w0 β0 H0 w β st.H -> Rep w (Mu X β st.H) β st.H v av) : Rel C N X w0 β0 H0 ⟨b7 st.ρ (some d) av, st.H⟩ (a.put (some d) v) w := by
 obtain ⟨β, R, S, T, G, hN, hdef⟩ := h
 exact dq S T G hN hdef R (StepR.refl _ _ _ R.len) (hv β R S) (some d) (λ d' e => by cases e; exact hd)
theorem mv {w w1 : World} {ex : ASt} {a' : Act} {β : List BI} {H : List Blk} {o : Obj} {L : Nat} (hL : w1.heap[L]? = some o) (ho : tn o = true) (R : HRel w1 X β H) (h' : Rel C N X w1 β H ex a' w) : w.heap[L]? = some o := by
 obtain ⟨β', R', S', _⟩ := h'
 have hlt : L < w1.heap.size := (Array.getElem?_eq_some_iff.1 hL).1
 rw [S'.keeps.block L hlt λ ⟨l, c, blk, k1, k2, k3⟩ => ?_, hL]
 obtain ⟨cur, q1, _⟩ := R.blk l _ _ k1 k2
 rw [hL] at q1
 cases q1
 cases ho
end
theorem ux {C : Ctx} (hP : C.P = prog) {N : Nat} {fn : Func} {r : AV} (hS : au C) {bid : Nat} {g p1 p2 : Tmp} {assign body tail : Code} {st : ASt} {vs : List AV} (hg : aZ st.ρ g = .fn 94 [.iptr [.slice 1 false (vs.map λ v => [v])]]) (h1 : vs.length ≠ 0) (hl : vs.length <= 1000000)
  (hp1 : p1 < N) (hp2 : p2 < N) (oka : kG N assign = true) (okb : kG N body = true) (okt : kG N tail = true) (Hf : Nat -> List Blk) (hH0 : Hf 0 = st.H)
  (hround : ∀ k v, k < vs.length -> vs[vs.length - 1 - k]? = some v -> cz C [] N 0 assign ⟨b7 (b7 st.ρ (some p1) (.int .i64 ((vs.length : Int) - 1 - k))) (some p2) v, Hf k⟩ λ ex st1 => ex = .normal /\ cz C [] N 0 body st1 λ ex2 st2 => ex2 = .normal /\ st2.H = Hf (k + 1))
  (htail : cz C [] N 0 tail ⟨st.ρ, Hf vs.length⟩ (dV C fn.results.toList r)) :
  AWXb C N fn r (.block bid (.rangeFunc (.tmp g) #[p1, p2] assign body)) tail st := λ X w0 a w hr => by
 obtain ⟨P0, Sg, Gv⟩ := C
 simp only at hP
 subst hP
 obtain ⟨β, R, S1, T, G, hN, hdef⟩ := hr
 have hbase : Rel ⟨prog, Sg, Gv⟩ N X w β st.H ⟨st.ρ, Hf 0⟩ a w := by rw [hH0]; exact ⟨β, R, StepR.refl _ _ _ R.len, T, G, hN, hdef⟩
 have T0 := T g
 rw [hg] at T0
 obtain ⟨Bs, bo, sv, hfv, hBs, hBm, hBc, hsv⟩ : ∃ Bs bo sv, a.tmps.getD g undef = .func (.func 94) #[] #[.pointer (some ⟨Bs, bo, none⟩)] /\ Bs < w.heap.size /\ ¬ Mu X β st.H Bs /\ w.cell? ⟨Bs, bo, none⟩ = some sv /\ RepD w (Mu X β st.H) sv (.slice 1 false (vs.map λ v => [v])) := by
  generalize a.tmps.getD g undef = fv at T0
  have key : ∀ cs : Array Value, cs.size = 1 -> (∀ q, cs[0]? = some q -> RepD w (Mu X β st.H) q (.iptr [.slice 1 false (vs.map λ v => [v])])) -> ∃ Bs bo sv, Value.func (.func 94) #[] cs = .func (.func 94) #[] #[.pointer (some ⟨Bs, bo, none⟩)] /\ Bs < w.heap.size /\ ¬ Mu X β st.H Bs /\ w.cell? ⟨Bs, bo, none⟩ = some sv /\ RepD w (Mu X β st.H) sv (.slice 1 false (vs.map λ v => [v])) := by
   intro cs hcs hq
   obtain ⟨q, rfl⟩ : ∃ q, cs = #[q] := by
    refine ⟨cs[0]'(by omega), ?_⟩
    apply Array.ext (by simpa using hcs)
    intro i h1 h2
    have : i = 0 := by omega
    subst this
    rfl
   have hq := hq q rfl
   cases hq with
   | iptr c o cells val hlt hx hm hv =>
    obtain ⟨m1, m2⟩ := hm 0 (by simp)
    exact ⟨c, o, _, rfl, hlt, hx, m1, hv 0 _ rfl⟩
  cases T0 with
  | deep h =>
   cases h with
   | fn f cs cells val hl hm hv =>
    refine key cs hl λ q hq => ?_
    rw [hm 0 (by simp)] at hq
    cases hq
    exact hv 0 _ rfl
  | fn f cs cells val hl hm hv =>
   refine key cs hl λ q hq => ?_
   rw [hm 0 (by simp)] at hq
   injection hq with hq
   have := hv 0 _ rfl
   rw [hq] at this
   exact jl this
 obtain ⟨a0, cap, val, rfl, k1, k2, k3, k4, k5, k6⟩ := dc hsv
 simp only [length_map] at k1 k5 hBc
 obtain ⟨b, off, rfl, hb, hbm, hbc⟩ := k5 h1
 refine wpIn_block (wpIn_rangeFunc ?_)
 intro fid hfn
 obtain ⟨rec, hrec⟩ : ∃ rec : LoopState -> Loop, rec = λ st => { state := st, pending := none, fn := fid, tmps := a.tmps, params := #[p1, p2], assign, body, defers := w.heap.size } := ⟨_, rfl⟩
 obtain ⟨W1, hW1⟩ : ∃ W1, (w.alloc (.deferred (some []))).alloc (.loop (rec .ready)) = W1 := ⟨_, rfl⟩
 obtain ⟨J, hJ⟩ : ∃ J : Nat -> World -> Prop, J = λ k W => Rel ⟨prog, Sg, Gv⟩ N X w β st.H ⟨st.ρ, Hf k⟩ a W /\ W.heap[w.heap.size + 1]? = some (.loop (rec .ready)) /\ W.heap[w.heap.size]? = some (.deferred (some [])) := ⟨_, rfl⟩
 have hJ0 : J 0 W1 := by
  rw [hJ, <- hW1]
  refine ⟨(hbase.alloc _).alloc _, ?_, ?_⟩
  ·have := World.alloc_heap_new (w.alloc (.deferred (some []))) (.loop (rec .ready)); rwa [World.size_alloc] at this
  ·exact (Below.heap_alloc _ _ _ (by simp)).trans (World.alloc_heap_new w _)
 have hkeep : ∀ k W, J k W -> ∀ c, c < w.heap.size -> ¬ Mu X β st.H c -> W.heap[c]? = w.heap[c]? := λ k W h c hc hm => by
  rw [hJ] at h
  obtain ⟨⟨β', R', S', _⟩, _⟩ := h
  exact S'.keeps.block c hc λ h => hm (.inr h)
 refine ⟨w.heap.size + 1, [{ target := .collected w.heap.size, args := #[] }], W1, { target := .fn (.func 94) #[.pointer (some ⟨Bs, bo, none⟩)], args := #[.func (.yield (w.heap.size + 1)) #[] #[]] }, W1, 94,
  #[.func (.yield (w.heap.size + 1)) #[] #[]] ++ #[.pointer (some ⟨Bs, bo, none⟩)], W1, ?_, ?_, λ _ _ => trivial, ?_, λ _ => by omega, ?_⟩
 ·rw [<- hW1, hrec]; exact run_enterLoop_outer _ _ _ _ _
 ·have he : a.eval (.tmp g) = .func (.func 94) #[] #[.pointer (some ⟨Bs, bo, none⟩)] := hfv
  simp only [resolve, he]
  simp [go_sem]
 ·simp [invoke, go_sem]
 ·have hY := Lx Fence.wide 8 trivial rfl (by omega) (w.heap.size + 1) Bs bo b off vs.length cap hl J (λ k W h => by
    rw [<- hBc]
    exact World.cell?_of_block (hkeep k W h Bs hBs hBm)) (λ k W h hk => ?_) W1 hJ0
  ·refine hY.mono ?_
   rintro e W2 ⟨⟨v, rfl⟩, h⟩
   rw [hJ] at h
   obtain ⟨h2, hl2, hd2⟩ := h
   have hr2 := run_endLoop (P := prog) hl2 (by rw [hrec]; simp)
   rw [hrec] at hr2
   refine ⟨none, _, hr2, ?_⟩
   have h3 := h2.odd (o := .loop { rec .ready with state := .exhausted }) hl2 rfl (le_succ _)
   have hd3 := (World.putObj_heap_other (o := .loop { rec .ready with state := .exhausted }) (show w.heap.size ≠ w.heap.size + 1 by omega)).trans hd2
   rw [hrec] at h3 hd3
   have h4 := h3.there S1
   obtain ⟨β6, R6, S6, T6, G6, hN6, hdef6⟩ := h4
   have h5 : Rel ⟨prog, Sg, Gv⟩ N X _ β6 (Hf vs.length) ⟨st.ρ, Hf vs.length⟩ a _ := ⟨β6, R6, StepR.refl _ _ _ R6.len, T6, G6, hN6, hdef6⟩
   have ht := dj hS (ro := none) (n := 9) (ds := [{ target := .collected w.heap.size, args := #[] }]) tail okt htail h5
   have ea : g6 a [{ target := .collected w.heap.size, args := #[] }] = { a with defers := [{ target := .collected w.heap.size, args := #[] }] ++ a.defers } := by
    unfold g6
    rw [hdef]; rfl
   rw [ea] at ht
   refine wpIn_mono ht ?_
   rintro e a' w' ⟨a'', ⟨st', hq, hr'⟩, rfl⟩
   exact Mx (mv hd3 rfl R6 hr') S1.keeps.size hq (hr'.there S6)
  ·rw [hJ] at h
   obtain ⟨hk1, hk2, hk3⟩ := h
   have hlt : vs.length - 1 - k < vs.length := by omega
   obtain ⟨av, hav⟩ : ∃ av, vs[vs.length - 1 - k]? = some av := ⟨_, List.getElem?_eq_getElem hlt⟩
   have hrow : (vs.map λ v => [v])[vs.length - 1 - k]? = some [av] := by rw [getElem?_map, hav]; rfl
   obtain ⟨hc1, hc2⟩ := hbc (vs.length - 1 - k) 0 hlt Nat.zero_lt_one
   have hv0 := k6 (vs.length - 1 - k) 0 [av] av hrow rfl
   rw [show off + (vs.length - 1 - k) * 1 + 0 = off + (vs.length - 1 - k) by omega] at hc1
   have hkW := hkeep k W (by rw [hJ]; exact ⟨hk1, hk2, hk3⟩)
   refine ⟨val (vs.length - 1 - k) 0, (World.cell?_of_block (hkW b hb hbm)).trans hc1, fid, (#[p1, p2].zip #[.int .i64 ((vs.length : Int) - 1 - k), val (vs.length - 1 - k) 0]).foldl (λ tmps (t, a) => tmps.setIfInBounds t a) a.tmps, assign, body, ?_, ?_⟩
   ·have hy := run_yield (P := prog) (args := #[.int .i64 ((vs.length : Int) - 1 - k), val (vs.length - 1 - k) 0]) hk2 (by rw [hrec]; rfl)
    rw [hrec] at hy
    exact hy
   refine roundIn_of_wpIn trivial ?_
   have hact : ({ tmps := (#[p1, p2].zip #[.int .i64 ((vs.length : Int) - 1 - k), val (vs.length - 1 - k) 0]).foldl (λ tmps (t, a) => tmps.setIfInBounds t a) a.tmps, defers := [] } : Act) = (a.put (some p1) (.int .i64 ((vs.length : Int) - 1 - k))).put (some p2) (val (vs.length - 1 - k) 0) := by
    simp [Act.put, hdef]
   have hA0 := v6 (v6 hk1 hp1 (v := .int .i64 ((vs.length : Int) - 1 - k)) (av := .int .i64 ((vs.length : Int) - 1 - k)) λ _ _ _ => .deep (.int .i64 _)) hp2 (v := val (vs.length - 1 - k) 0) (av := av) λ β' R' S' => Rep.keep S' (.deep hv0)
   rw [<- hact] at hA0
   obtain ⟨β2, R2, S2, T2, G2, hN2, hd2⟩ := hA0
   have hA1 : Rel ⟨prog, Sg, Gv⟩ N X W β2 (Hf k) _ _ W := ⟨β2, R2, StepR.refl _ _ _ R2.len, T2, G2, hN2, hd2⟩
   refine wpIn_mono (dj hS (ro := some (w.heap.size + 1)) (n := 7) (ds := []) assign oka (hround k av hk hav) hA1) ?_
   rintro e a1 w1 ⟨a1', ⟨st1, ⟨rfl, hb1⟩, hr3⟩, rfl⟩
   have hl1 := mv hk2 rfl R2 hr3
   have hd1 := mv hk3 rfl R2 hr3
   refine ⟨_, run_beginRound hl1 (by rw [hrec]), ?_⟩
   have hr4 := (hr3.there S2).odd (o := .loop { rec .ready with state := .busy }) hl1 rfl (le_succ _)
   have hlt1 : w.heap.size + 1 < w1.heap.size := (Array.getElem?_eq_some_iff.1 hl1).1
   obtain ⟨W2, hW2⟩ : ∃ W2, w1.putObj (w.heap.size + 1) (.loop { rec .ready with state := .busy }) = W2 := ⟨_, rfl⟩
   have hl2 : W2.heap[w.heap.size + 1]? = some (.loop { rec .ready with state := .busy }) := by rw [<- hW2]; exact World.putObj_heap_same hlt1
   have hd2' : W2.heap[w.heap.size]? = some (.deferred (some [])) := by rw [<- hW2]; exact (World.putObj_heap_other (by omega)).trans hd1
   rw [hW2] at hr4 ⊢
   obtain ⟨β4, R4, S4, T4, G4, hN4, hd4⟩ := hr4
   have hB1 : Rel ⟨prog, Sg, Gv⟩ N X W2 β4 st1.H st1 a1' W2 := ⟨β4, R4, StepR.refl _ _ _ R4.len, T4, G4, hN4, hd4⟩
   refine wpIn_mono (dj hS (ro := some (w.heap.size + 1)) (n := 7) (ds := []) body okb hb1 hB1) ?_
   rintro e a3 w3 ⟨a3', ⟨⟨ρ3, H3⟩, ⟨rfl, hH3⟩, hr5⟩, rfl⟩
   simp only at hH3
   subst hH3
   have hl3 := mv hl2 rfl R4 hr5
   have hd3 := mv hd2' rfl R4 hr5
   have hre := run_endRound (P := prog) none hl3
   refine ⟨_, _, hre, rfl, ?_⟩
   obtain ⟨β5, R5, S5, T5, G5, hN5, hd5⟩ := hr5.there S4
   have hr6 : Rel ⟨prog, Sg, Gv⟩ N X w β st.H ⟨st.ρ, Hf (k + 1)⟩ a w3 := ⟨β5, R5, S5, λ t => (T t).keep S5, G5, hN, hdef⟩
   have hlt3 : w.heap.size + 1 < w3.heap.size := (Array.getElem?_eq_some_iff.1 hl3).1
   rw [hJ]
   refine ⟨hr6.odd hl3 rfl (le_succ _), ?_, (World.putObj_heap_other (by omega)).trans hd3⟩
   rw [World.putObj_heap_same hlt3, hrec]
   rfl
def AI : PSp := aN (λ (l : List (List Int)) => True) (λ l => .fn 94 [.iptr [Enc.enc l]])
theorem TJ : PureOK prog G0 53 AI := by
 refine qZ aK ae func53 rfl rfl rfl [] (by kernel_rfl) (by decide) (λ l _ => ?_)
 simp
def fa (j : Nat) : List (List Int) := (List.range (j + 1)).map λ i => Nt.canon (2 ^ i)
theorem du (j : Nat) : (fa j).length = j + 1 := by simp [fa]
theorem FsQ (j : Nat) : fa (j + 1) = fa j ++ [Nt.canon (2 ^ (j + 1))] := by
 unfold fa
 rw [range_succ (n := j + 1), map_append]; rfl
theorem zt {j i : Nat} (h : i <= j) : (fa j)[i]? = some (Nt.canon (2 ^ i)) := by
 unfold fa
 rw [getElem?_map, List.getElem?_range (by omega)]; rfl
def PWB (j : Nat) : Blk := ⟨63, 1, ac (fa j), true, true⟩
def PWF (j : Nat) : Blk := ⟨63, 1, ac (fa j), false, true⟩
theorem v7 (l : List (List Int)) : (l.map Enc.enc).map (λ v : AV => [v]) = ac l := by
 unfold ac
 rw [List.map_map]; rfl
theorem Fw {j k : Nat} {v : AV} (hk : k < j + 1) (h : ((fa j).map Enc.enc)[j + 1 - 1 - k]? = some v) : v = Enc.enc (Nt.canon (2 ^ (j - k))) := by
 rw [getElem?_map, show j + 1 - 1 - k = j - k by omega, zt (by omega)] at h
 injection h with h
 exact h.symm
def lB (b m : Nat) : Nat -> Nat
 | 0 => 0
 | k + 1 => if lB b m k + 2 ^ (m - k) <= b then lB b m k + 2 ^ (m - k) else lB b m k
theorem pK {b m : Nat} (hb : b < 2 ^ (m + 1)) : ∀ k, k <= m + 1 -> lB b m k <= b /\ b < lB b m k + 2 ^ (m + 1 - k)
 | 0, _ => ⟨zero_le _, by simpa [lB] using hb⟩
 | k + 1, h => by
  obtain ⟨h1, h2⟩ := pK hb k (by omega)
  have e : 2 ^ (m + 1 - k) = 2 ^ (m - k) + 2 ^ (m - k) := by
   rw [show m + 1 - k = (m - k) + 1 by omega, Nat.pow_succ]; omega
  rw [show m + 1 - (k + 1) = m - k by omega]
  unfold lB
  split
  ·rename_i h3; exact ⟨h3, by omega⟩
  ·rename_i h3; exact ⟨h1, by omega⟩
theorem A8 {b m : Nat} (hb : b < 2 ^ (m + 1)) : lB b m (m + 1) = b := by
 obtain ⟨h1, h2⟩ := pK hb (m + 1) (Nat.le_refl _)
 rw [sub_self] at h2
 omega
theorem E0 {bb j k : Nat} (hj : 2 ^ j < cA) (hk : k < j + 1) : 2 ^ (j - k) < cA /\ lB bb j (k + 1) = if lB bb j k + 2 ^ (j - k) <= bb then lB bb j k + 2 ^ (j - k) else lB bb j k := by
 refine ⟨?_, rfl⟩
 have := pow_le_pow_right (n := 2) (by decide) (show j - k <= j by omega)
 omega
def NaB (n : Nat) : Blk := ⟨63, 1, [[Enc.enc (Nt.canon n)]], true, true⟩
def SfB (r : Fr) (T : Nat) : Nat -> ASt
 | 0 => ⟨[(3, .ptr 0 1 2 0 0), (6, .ptr 1 1 1 0 0), (8, .slice 1 true [[Enc.enc (Nt.canon 1)]])], [FB r, NaB T]⟩
 | j + 1 => ⟨[(3, .ptr 0 1 2 0 0), (6, .ptr 1 1 1 0 0), (8, .own 2 (j + 2))], [FB r, NaB T, PWB (j + 1)]⟩
def uC : PSp := aC (λ (a b : List Int) => a.length <= 1000000 /\ b.length <= 1000000) (λ a b => Nt.fitT (Nt.nv a * Nt.nv b))
noncomputable def CBo : Ctx := mkC prog G0 [(46, .pure eJ), (48, .pure Nt.s20), (47, .pure Nt.s11), (51, .pure uC), (54, .pure Nt.s22), (52, .pure iS), (53, .frz AI)]
@[simp] theorem Y7 : CBo.P = prog := rfl
@[simp] theorem XC : CBo.G = G0 := rfl
@[simp] theorem YW : CBo.S 46 = .pure eJ /\ CBo.S 48 = .pure Nt.s20 /\ CBo.S 47 = .pure Nt.s11 /\ CBo.S 51 = .pure uC /\ CBo.S 54 = .pure Nt.s22 /\ CBo.S 52 = .pure iS /\ CBo.S 53 = .frz AI := ⟨rfl, rfl, rfl, rfl, rfl, rfl, rfl⟩
theorem dn : au CBo := ap (E5) func46 (ap (Nt.of20) func48 (ap (Nt.pow11) func47 (ap (Nt.mul15) func51 (ap (Nt.add22) func54 (ap (Ps) func52 (aL (oF (TJ) func53 rfl (by decide)) (ak _ _)))))))
theorem Dq {Q : Exit -> ASt -> Prop} {ex : Exit} {st : ASt} (h : ex = .normal ∨ ex = .exit 0) : jL 0 Q ex st = Q .normal st := by
 rcases h with rfl | rfl <;> rfl
theorem O0 : PureOK prog G0 20 ym := by
 refine PI (C := CBo) func20 rfl rfl (by decide) (λ n r hn => ?_)
 obtain ⟨b, hb⟩ : ∃ b, re n r = b := ⟨_, rfl⟩
 rw [hb]
 refine ij (C := CBo) dn ae [] (by kernel_rfl) ?_
 simp
 refine ij (C := CBo) dn ae [] (by kernel_rfl) ?_
 by_cases hu : gU n r
 case neg =>
  rw [GD hu] at hb
  subst hb
  simp [hn, eJ, hu]
 simp [hn, eJ, hu]
 refine ij (C := CBo) dn ae [3] (by kernel_rfl) ?_
 have u2 := hu.2.1
 have u3 := hu.2.2
 have hD1 := u2.1
 have hD : 0 <= r.D := by omega
 have hDN : 1 <= r.D.toNat := by omega
 have kD : I64 r.D := by have := u2.2.1; unfold I64; omega
 have kN : I64 r.N := by have := u2.2.2.1; unfold InR at this; unfold I64; omega
 have hl := yf
 have n1 : n.toNat < cA := by unfold I64 at hn; omega
 have o1 : (1 : Nat) < cA := by omega
 have o2 : (2 : Nat) < cA := by omega
 have i1 : I64 1 := by unfold I64; omega
 have i2 : I64 2 := by unfold I64; omega
 have i0 : I64 0 := by unfold I64; omega
 clear hl
 by_cases hB : n.toNat ^ r.N.toNat < cA
 case neg =>
  rw [Di hB] at hb
  subst hb
  simp
  refine aA dn ae [.pure, .read, .pure, .read, .read, .pure, .pure, .pure, .eff, .eff, .pure] [[],[0],[],[2],[2,3,0,1],[1,0,3,2,4],[4,2,3,0,1,5],[4,2,3,0,1,5],[],[5,1,0,3,2,4,6,8],[8,6,9,5,1,0,3,2,4,7]] (by kernel_rfl) (by kernel_rfl) (by kernel_rfl) (by kernel_rfl) ?_
  simp [Nt.s20, Nt.s11, hn, nvL n1, clL n1, mO u3 hB, kN]
  refine ij (C := CBo) dn ae [] (by kernel_rfl) ?_
  simp
 rw [uB hu hB] at hb
 subst hb
 simp
 refine aA dn ae [.pure, .read, .pure, .read, .read, .pure, .pure, .pure, .eff, .eff, .pure] [[],[0],[],[2],[2,3,0,1],[1,0,3,2,4],[4,2,3,0,1,5],[4,2,3,0,1,5],[],[5,1,0,3,2,4,6,8],[8,6,9,5,1,0,3,2,4,7]] (by kernel_rfl) (by kernel_rfl) (by kernel_rfl) (by kernel_rfl) ?_
 simp [Nt.s20, Nt.s11, hn, nvL n1, clL n1, Gq u3 hB, kN]
 have hTpos : 1 <= n.toNat ^ r.N.toNat := Nat.pos_of_ne_zero λ h0 => by
  have := pow_le_pow_left (show 1 <= n.toNat by have := hu.1; omega) r.N.toNat
  rw [Nat.one_pow] at this
  omega
 generalize n.toNat ^ r.N.toNat = T at *
 refine ij (C := CBo) dn ae [] (by kernel_rfl) ?_
 simp
 refine ij (C := CBo) dn ae [] (by kernel_rfl) ?_
 by_cases hd1 : r.D = 1
 ·have e : gY 1 T = T := IT T
  simp [hd1, e]
 simp [hd1]
 refine ij (C := CBo) dn ae [] (by kernel_rfl) ?_
 simp [Nt.s20, i1]
 refine ij (C := CBo) dn ae [] (by kernel_rfl) ?_
 simp
 have hT1 : 1 <= T := hTpos
 refine AW.mono (Q := jL 0 (λ ex st' => ex = .normal /\ ∃ j, j <= 2000 /\ 2 ^ j < cA /\ gY r.D.toNat T < 2 ^ (j + 1) /\ Weak CBo 82 0 st' (SfB r T j))) ?_ ?_
 ·refine aB dn ae [9] (SfB r T) (λ j => j <= 2000 /\ 2 ^ j < cA /\ (2 ^ j) ^ r.D.toNat <= T) (λ j => 2000 - j) (by kernel_rfl) ⟨0, ⟨by omega, o1, by simpa using hT1⟩, ag (by simp) (by simp [FB, NaB])⟩ (λ j ⟨hj1, hj2, hj3⟩ => ?_)
  have hF2 : ∀ h : 2 ^ (j + 1) < cA, j + 1 <= 2000 := λ h => by
   apply Classical.byContradiction
   intro hc
   have := MD (a := 30) (b := 64) (k := j + 1) (pow_le_pow_left (by decide) 64) (by omega)
   omega
  have hex1 : ¬ 2 ^ (j + 1) < cA -> gY r.D.toNat T < 2 ^ (j + 1) := λ h => by
   have := Eb (T := T) hDN
   omega
  have hex2 : ¬ (2 ^ (j + 1)) ^ r.D.toNat <= T -> gY r.D.toNat T < 2 ^ (j + 1) := λ h => by
   have := mt (Ej (T := T) (c := 2 ^ (j + 1)) hDN).1 h
   omega
  have hn1 : 2 ^ j * 2 = 2 ^ (j + 1) := by rw [Nat.pow_succ]
  cases j with
  | zero =>
   rw [show SfB r T 0 = ⟨[(3, .ptr 0 1 2 0 0), (6, .ptr 1 1 1 0 0), (8, .slice 1 true [[Enc.enc (Nt.canon 1)]])], [FB r, NaB T]⟩ from rfl]
   simp [FB, NaB]
   refine aA dn ae [.pure, .pure, .pure, .pure, .pure, .read, .read, .read, .pure, .pure, .pure, .pure, .pure] [[],[],[1],[1,2],[2,1,3,0],[0,3,1,2,4],[],[6,4,2,1,3,0,5],[5,0,3,1,2,4,6,7],[7,6,4,2,1,3,0,5,8],[7,6,4,2,1,3,0,5,8],[8,5,0,3,1,2,4,6,7,9],[9,11,8,5,0,3,1,2,4,6,7,10]] (by kernel_rfl) (by kernel_rfl) (by kernel_rfl) (by kernel_rfl) ?_
   by_cases hA : 2 ^ r.D.toNat <= T
   ·simp [Nt.s20, uC, i2, i1, i0, nvL o1, nvL o2, clL o1, clL o2, xB o2, iS, nvL hB, clL hB, kD, hD, hB, hA]
    exact ⟨1, ⟨by omega, by simpa using o2, by simpa using hA⟩, by omega, ag (by simp) (by simp [FB, NaB, PWB, fa, range_succ, bz, xx, Bo])⟩
   ·simp [Nt.s20, uC, i2, i1, i0, nvL o1, nvL o2, clL o1, clL o2, xB o2, iS, nvL hB, clL hB, kD, hD, hB, hA]
    exact ⟨0, by omega, o1, hex2 (by simpa using hA), ag (by simp) (by simp [FB, NaB])⟩
  | succ j =>
   have hlen := du (j + 1)
   have hix : ix (fa (j + 1)) (j + 1) = Nt.canon (2 ^ (j + 1)) := by
    unfold ix
    rw [List.getD_eq_getElem?_getD, zt (Nat.le_refl _)]; rfl
   have hlt : j + 1 < (fa (j + 1)).length := by rw [hlen]; omega
   have hi1 : w64 ((j : Int) + 2 - 1) = (j : Int) + 1 := by rw [aT (by unfold I64; omega)]; omega
   have hi4 : (0 : Int) <= (j : Int) + 1 := by omega
   have hi5 : (j : Int) + 1 < (j : Int) + 2 := by omega
   have hi2 : ((j : Int) + 1).toNat = j + 1 := by omega
   have hi3 : I64 ((j : Int) + 1) := by unfold I64; omega
   have hap : ac (fa (j + 1)) ++ [[Enc.enc (Nt.canon (2 ^ (j + 1 + 1)))]] = ac (fa (j + 1 + 1)) := by
    rw [FsQ (j + 1), bz]; rfl
   rw [show SfB r T (j + 1) = ⟨[(3, .ptr 0 1 2 0 0), (6, .ptr 1 1 1 0 0), (8, .own 2 (j + 2))], [FB r, NaB T, PWB (j + 1)]⟩ from rfl]
   generalize hp2 : 2 ^ (j + 1) = p2 at *
   simp [FB, NaB, PWB, hlen]
   refine aA dn ae [.pure, .pure, .pure, .pure, .pure, .read, .read, .read, .pure, .pure, .pure, .pure, .pure] [[],[],[1],[1,2],[2,1,3,0],[0,3,1,2,4],[],[6,4,2,1,3,0,5],[5,0,3,1,2,4,6,7],[7,6,4,2,1,3,0,5,8],[7,6,4,2,1,3,0,5,8],[8,5,0,3,1,2,4,6,7,9],[9,11,8,5,0,3,1,2,4,6,7,10]] (by kernel_rfl) (by kernel_rfl) (by kernel_rfl) (by kernel_rfl) ?_
   by_cases hF : p2 * 2 < cA
   ·by_cases hA : (p2 * 2) ^ r.D.toNat <= T
    ·simp [Nt.s20, uC, i2, hi1, hi2, hi3, hi4, hi5, hlen, aa hlt, hix, nvL hj2, nvL o2, clL hj2, clL o2, nvL hF, clL hF, xB hF, iS, nvL hB, clL hB, kD, hD, hB, hA]
     have hj4 := hF2 (by rw [<- hn1]; exact hF)
     exact ⟨by omega, j + 2, ⟨hj4, by rw [<- hn1]; exact hF, by rw [<- hn1]; exact hA⟩, by omega, ag (by simp) (by simp [FB, NaB, PWB, <- hap, hn1])⟩
    ·simp [Nt.s20, uC, i2, hi1, hi2, hi3, hi4, hi5, hlen, aa hlt, hix, nvL hj2, nvL o2, clL hj2, clL o2, nvL hF, clL hF, xB hF, iS, nvL hB, clL hB, kD, hD, hB, hA]
     exact ⟨j + 1, hj1, by rw [hp2]; exact hj2, hex2 (by rw [<- hn1]; exact hA), ag (by simp) (by simp [FB, NaB, PWB])⟩
   ·simp [Nt.s20, uC, i2, hi1, hi2, hi3, hi4, hi5, hlen, aa hlt, hix, nvL hj2, nvL o2, clL hj2, clL o2, r8 hF]
    exact ⟨j + 1, hj1, by rw [hp2]; exact hj2, hex1 (by rw [<- hn1]; exact hF), ag (by simp) (by simp [FB, NaB, PWB])⟩
 ·intro ex st' h
  obtain ⟨hex, j, hj1, hj2, hj3, hw⟩ : (ex = .normal ∨ ex = .exit 0) /\ ∃ j, j <= 2000 /\ 2 ^ j < cA /\ gY r.D.toNat T < 2 ^ (j + 1) /\ Weak CBo 82 0 st' (SfB r T j) := by
   cases ex with
   | normal => exact ⟨.inl rfl, h.2⟩
   | exit i =>
    by_cases hi : i = 0
    ·subst hi; exact ⟨.inr rfl, h.2⟩
    ·have h : (if i = 0 then _ else _) := h
     rw [if_neg hi] at h
     exact absurd h.1 (by simp)
   | _ => exact absurd h.1 (by simp)
  rw [Dq hex]
  show AWX _ _ _ _ _ _
  refine AWX.weak hw ?_
  clear hw hex h st' ex
  generalize hbb : gY r.D.toNat T = bb at *
  have hle : ∀ c, c <= bb ↔ c ^ r.D.toNat <= T := λ c => by rw [<- hbb]; exact Ej hDN
  have hbT : bb <= T := by rw [<- hbb]; exact Eb hDN
  refine ij (C := CBo) dn ae [] (by kernel_rfl) ?_
  cases j with
  | zero =>
   rw [show SfB r T 0 = ⟨[(3, .ptr 0 1 2 0 0), (6, .ptr 1 1 1 0 0), (8, .slice 1 true [[Enc.enc (Nt.canon 1)]])], [FB r, NaB T]⟩ from rfl]
   simp [FB, NaB, Nt.s20, i0]
   refine zX (C := CBo) dn ae [] (by kernel_rfl) ?_
   simp [AI]
   refine AWXb.weak (st' := ⟨[(3, .ptr 0 1 2 0 0), (6, .ptr 1 1 1 0 0), (11, .ptr 2 1 1 0 0), (63, .fn 94 [.iptr [.slice 1 false (ac (fa 0))]])], [FB r, NaB T, NaB 0]⟩) (ag ?_ ?_) ?_
   ·simp [fa, range_succ]
   ·simp [FB, NaB, PWF]
   refine ux (C := CBo) rfl dn (vs := (fa 0).map Enc.enc) (by rw [v7]; simp [aZ]) (by rw [length_map, du]; omega) (by rw [length_map, du]; omega) (by decide) (by decide) (by kernel_rfl) (by kernel_rfl) (by kernel_rfl) (λ k => [FB r, NaB T, NaB (lB bb 0 k)]) rfl (λ k v hk hv => ?_) ?_
   ·rw [length_map, du] at hk hv ⊢
    obtain rfl := Fw hk hv
    obtain ⟨ho1, ho2⟩ := pK hj3 k (by omega)
    obtain ⟨hp1, hnx⟩ := E0 (bb := bb) hj2 hk
    generalize lB bb 0 (k + 1) = o' at *
    generalize lB bb 0 k = o at *
    generalize 2 ^ (0 - k) = p at *
    have hoL : o < cA := by omega
    simp [b7]
    by_cases hF : o + p < cA
    ·by_cases hA : (o + p) ^ r.D.toNat <= T
     ·rw [if_pos ((hle _).2 hA)] at hnx
      subst hnx
      simp [FB, NaB, PWF, Nt.s22, nvL hoL, clL hoL, nvL hp1, clL hp1, xB hF, nvL hF, clL hF, iS, nvL hB, clL hB, kD, hD, hB, hA]
     ·rw [if_neg (mt (hle _).1 hA)] at hnx
      subst hnx
      simp [FB, NaB, PWF, Nt.s22, nvL hoL, clL hoL, nvL hp1, clL hp1, xB hF, nvL hF, clL hF, iS, nvL hB, clL hB, kD, hD, hB, hA]
    ·rw [if_neg (by omega)] at hnx
     subst hnx
     simp [FB, NaB, PWF, Nt.s22, nvL hoL, clL hoL, nvL hp1, clL hp1, r8 hF]
   ·rw [length_map, du, A8 hj3]
    simp [FB, NaB, PWF]
  | succ j =>
   rw [show SfB r T (j + 1) = ⟨[(3, .ptr 0 1 2 0 0), (6, .ptr 1 1 1 0 0), (8, .own 2 (j + 2))], [FB r, NaB T, PWB (j + 1)]⟩ from rfl]
   simp [FB, NaB, PWB, Nt.s20, i0, du]
   refine zX (C := CBo) dn ae [] (by kernel_rfl) ?_
   simp [AI, du]
   refine AWXb.weak (st' := ⟨[(3, .ptr 0 1 2 0 0), (6, .ptr 1 1 1 0 0), (11, .ptr 3 1 1 0 0), (63, .fn 94 [.iptr [.slice 1 false (ac (fa (j + 1)))]])], [FB r, NaB T, PWF (j + 1), NaB 0]⟩) (ag ?_ ?_) ?_
   ·simp
   ·simp [FB, NaB, PWF]
   refine ux (C := CBo) rfl dn (vs := (fa (j + 1)).map Enc.enc) (by rw [v7]; simp [aZ]) (by rw [length_map, du]; omega) (by rw [length_map, du]; omega) (by decide) (by decide) (by kernel_rfl) (by kernel_rfl) (by kernel_rfl) (λ k => [FB r, NaB T, PWF (j + 1), NaB (lB bb (j + 1) k)]) rfl (λ k v hk hv => ?_) ?_
   ·rw [length_map, du] at hk hv ⊢
    obtain rfl := Fw hk hv
    obtain ⟨ho1, ho2⟩ := pK hj3 k (by omega)
    obtain ⟨hp1, hnx⟩ := E0 (bb := bb) hj2 hk
    generalize lB bb (j + 1) (k + 1) = o' at *
    generalize lB bb (j + 1) k = o at *
    generalize 2 ^ ((j + 1) - k) = p at *
    have hoL : o < cA := by omega
    simp [b7]
    by_cases hF : o + p < cA
    ·by_cases hA : (o + p) ^ r.D.toNat <= T
     ·rw [if_pos ((hle _).2 hA)] at hnx
      subst hnx
      simp [FB, NaB, PWF, Nt.s22, nvL hoL, clL hoL, nvL hp1, clL hp1, xB hF, nvL hF, clL hF, iS, nvL hB, clL hB, kD, hD, hB, hA]
     ·rw [if_neg (mt (hle _).1 hA)] at hnx
      subst hnx
      simp [FB, NaB, PWF, Nt.s22, nvL hoL, clL hoL, nvL hp1, clL hp1, xB hF, nvL hF, clL hF, iS, nvL hB, clL hB, kD, hD, hB, hA]
    ·rw [if_neg (by omega)] at hnx
     subst hnx
     simp [FB, NaB, PWF, Nt.s22, nvL hoL, clL hoL, nvL hp1, clL hp1, r8 hF]
   ·rw [length_map, du, A8 hj3]
    simp [FB, NaB, PWF]
def LU : Lin := ⟨[[F11, F01, F11], [F11, F11, F01], [F01, F11, F11]], [F11, F11, F11], [F11, F11, F11]⟩
theorem Me : bH wZ = LU := by kernel_rfl
theorem KN : dt wZ = (LU, 0) := by
 unfold dt
 rw [if_neg (by decide), if_pos (by decide), Me]
theorem exC : yR 20 LU = some ([Fh, Fh, Fh], ⟨3, 2⟩, 0) := by kernel_rfl
theorem svC : bF LU = ([Fh, Fh, Fh], ⟨3, 2⟩, 0) := (HF exC).2
theorem Lq : ja wZ = (⟨3, 2⟩, [Fh, Fh, Fh], 0) := by
 unfold ja
 rw [KN, if_neg (by decide), svC, if_neg (by decide)]
theorem Gz : SmallH wZ := by
 refine ⟨?_, ?_⟩ <;> decide
theorem us1 (n : Int) (h : 1 <= n) : gU n ⟨3, 2⟩ := ⟨h, by decide, by decide⟩
theorem qM {n : Nat} (h : n <= 1000) : n < cA := by have := yf; omega
theorem F6 : wj 8 4 ⟨3, 2⟩ = true := @decide_eq_true _ (Classical.propDecidable _) ⟨by decide, us1 4 (by decide), qM (by decide), qM (by decide), by decide⟩
theorem FZ : wj 9 4 ⟨3, 2⟩ = false := @decide_eq_false _ (Classical.propDecidable _) λ h => absurd h.2.2.2.2 (by decide)
theorem Ht : re 5 ⟨3, 2⟩ = .tup [Enc.enc (Nt.canon 11), .bool true] := by
 rw [uB (us1 5 (by decide)) (qM (by decide)), show gY (Fr.D ⟨3, 2⟩).toNat ((5 : Int).toNat ^ (Fr.N ⟨3, 2⟩).toNat) = 11 from DW (by decide) ⟨by decide, by decide⟩]
theorem LF : i6 wZ [Fh, Fh, Fh] := ⟨by decide, rfl, by decide, by decide⟩
theorem Mm : Nt.canon 11 = [11] := Nt.canon_val (l := [11]) (λ x hx => by rw [List.mem_singleton.1 hx]; decide) (λ _ => by decide)
noncomputable def CAlC : Ctx := mkC prog G0 [(19, .pure (dA (Enc.enc wZ))), (9, .pure CS), (20, .pure ym), (21, .pure oD), (17, .pure sU), (22, .pure Nt.s13)]
@[simp] theorem Wa : CAlC.P = prog := rfl
@[simp] theorem VF : CAlC.G = G0 := rfl
@[simp] theorem WH : CAlC.S 19 = .pure (dA (Enc.enc wZ)) /\ CAlC.S 9 = .pure CS /\ CAlC.S 20 = .pure ym /\ CAlC.S 21 = .pure oD /\ CAlC.S 17 = .pure sU /\ CAlC.S 22 = .pure Nt.s13 := ⟨rfl, rfl, rfl, rfl, rfl, rfl⟩
theorem Mn : au CAlC := ap (SM) func19 (ap (Th) func9 (ap (O0) func20 (ap (Iv) func21 (ap (NM) func17 (ap (Nt.same13) func22 (ak _ _))))))
theorem O9 : PureOK prog G0 6 (dA (.bool true)) := by
 refine KJ Mn ae func6 rfl rfl rfl [] (by kernel_rfl) ?_
 have b1 := Ht
 have r1 := Lq
 have c1 := LF
 simp only [Fh] at r1 c1
 have i4 : I64 4 := by unfold I64; omega
 have i5 : I64 5 := by unfold I64; omega
 have i8 : I64 8 := by unfold I64; omega
 have i9 : I64 9 := by unfold I64; omega
 have isc : bV CAlC 63 = true := by show bV ⟨prog, λ _ => .no, G0⟩ 63 = true; kernel_rfl
 simp [CS, Gz, r1, ym, b1, i5, i4, i8, i9, oD, c1, sU, F6, FZ, Nt.s13, Mm]
def pX (g : Gra) (l : List Atm) : Int := l.foldl (λ n a => if ((c9 g a).rows.length : Int) > n then ((c9 g a).rows.length : Int) else n) 1
theorem Gt {g : Gra} {l : List Atm} {i : Nat} (h : i < l.length) : pX g (l.take (i + 1)) = if ((c9 g (ix l i)).rows.length : Int) > pX g (l.take i) then ((c9 g (ix l i)).rows.length : Int) else pX g (l.take i) := by
 unfold pX
 rw [List.take_succ_eq_append_getElem h, List.foldl_append, az h]
 rfl
theorem Mv (g : Gra) (l : List Atm) : (∀ a, ((c9 g a).rows.length : Int) <= 4000) -> 1 <= pX g l /\ pX g l <= 4000 := by
 intro h
 have key : ∀ (l : List Atm) (n : Int), 1 <= n -> n <= 4000 -> 1 <= l.foldl (λ n a => if ((c9 g a).rows.length : Int) > n then ((c9 g a).rows.length : Int) else n) n /\ l.foldl (λ n a => if ((c9 g a).rows.length : Int) > n then ((c9 g a).rows.length : Int) else n) n <= 4000 := by
  intro l
  induction l with
  | nil => intro n h1 h2; exact ⟨h1, h2⟩
  | cons a r ih =>
   intro n h1 h2
   rw [List.foldl_cons]
   have := h a
   split
   ·exact ih _ (by omega) this
   ·exact ih _ h1 h2
 exact key l 1 (by omega) (by omega)
theorem rJ {g : Gra} {c : Cnj} (h : lT g c = true) : g.nodes.length <= 14 /\ g.edges.length <= 14 /\ c.atoms.length <= 6 := by
 unfold lT at h
 split at h
 ·cases h
 split at h
 ·cases h
 split at h
 ·cases h
 rename_i h1 h2 h3
 have h4 := of_decide_eq_true h
 have h5 : fY g 10 14 = true := by cases e : fY g 10 14 <;> simp_all
 unfold fY at h5
 simp only [Bool.and_eq_true, decide_eq_true_eq] at h5
 exact ⟨by omega, by omega, by omega⟩
def Ny (g : Gra) (c : Cnj) : Prop := lT g c = true -> dz c = 0 -> c.vars ≠ [] -> (ja (ofF c)).2.2 = 0 /\ wj (fM g c).length (pX g c.atoms) (ja (ofF c)).1 = true
def FcB (u : Fr) : Blk := ⟨35, 2, [[.int .i64 u.N, .int .i64 u.D]], true, true⟩
structure LawPre (g : Gra) (c : Cnj) : Prop where
 wg : WfG g
 wc : WfC c
theorem JR {c : Cnj} (h : dz c = 0) : SmallH (ofF c) := by
 obtain ⟨cv, ca, cf, _⟩ := dG h
 unfold ofF
 rw [if_neg (λ h2 => h2 h)]
 refine ⟨by simp; omega, λ e he => ?_⟩
 simp at he
 obtain ⟨a, ha, rfl⟩ := he
 have := iz a.vars
 have := (fR (cf a ha).1).2.1
 omega
noncomputable def CBn : Ctx := mkC prog G0 [(13, .pure DH), (14, .pure pm), (6, .pure (dA (.bool true))), (15, .pure MT), (9, .pure CS), (16, .pure Ca), (18, .pure MY), (17, .pure sU)]
@[simp] theorem Xf : CBn.P = prog := rfl
@[simp] theorem X7 : CBn.G = G0 := rfl
@[simp] theorem X4 : CBn.S 13 = .pure DH /\ CBn.S 14 = .pure pm /\ CBn.S 6 = .pure (dA (.bool true)) /\ CBn.S 15 = .pure MT /\ CBn.S 9 = .pure CS /\ CBn.S 16 = .pure Ca /\ CBn.S 18 = .pure MY /\ CBn.S 17 = .pure sU := ⟨rfl, rfl, rfl, rfl, rfl, rfl, rfl, rfl⟩
theorem Iz : au CBn := ap (Vu) func13 (ap (PY) func14 (ap (O9) func6 (ap (W8) func15 (ap (Th) func9 (ap (Tl) func16 (ap (VE) func18 (ap (NM) func17 (ak _ _))))))))
theorem GL (hpl : ∀ g c, Ny g c) : PureOK prog G0 4 (aC LawPre (λ _ _ => .bool true)) := by
 refine aX Iz ae func4 rfl rfl rfl (by kernel_rfl) (by decide) (λ g c hp => ?_)
 have hg := hp.wg
 have hc := hp.wc
 have hch : ChPre g c := ⟨hg, hc⟩
 cases h1 : lT g c
 ·simp [DH, hch, h1]
 rcases em2 (dz c = 0) with h2 | h2
 case inr => simp [DH, hch, h1, pm, hc, h2]
 rcases em2 (c.vars = []) with h3 | h3
 ·simp [DH, hch, h1, pm, hc, h2, h3]
 obtain ⟨q1, q2⟩ := hpl g c h1 (of_eq_true h2) (of_eq_false h3)
 obtain ⟨p1, p2, p3⟩ := rJ h1
 have hsm := JR (of_eq_true h2)
 have hrp : RowPre g c := ⟨hg, hc, p1, p2, p3⟩
 obtain ⟨u, hu⟩ : ∃ u, ja (ofF c) = u := ⟨_, rfl⟩
 obtain ⟨u1, u2, u3⟩ := u
 rw [hu] at q1 q2
 simp only at q1 q2
 subst q1
 simp [DH, hch, h1, pm, hc, h2, h3, MT, CS, hsm, hu]
 have hr14 : ∀ a, ((c9 g a).rows.length : Int) <= 4000 := λ a => by have := sd g a p1 p2; omega
 refine am Iz ae (λ i : Nat => ⟨[(2, .ptr 0 1 4 0 0), (3, .ptr 1 1 2 0 0), (5, .ptr 2 1 2 0 0), (8, .int .i64 (pX g (c.atoms.take i))), (37, Enc.enc c.atoms), (38, .int .i64 c.atoms.length), (39, .int .i64 i)], [GrB g, CjB c, FcB u1]⟩) (λ i => i <= c.atoms.length) (λ i => c.atoms.length - i) (by kernel_rfl) ⟨0, by omega, ag (by simp [pX]) (by simp [GrB, CjB, FcB])⟩ (λ i hi => ?_)
 obtain ⟨b1, b2⟩ := Mv g (c.atoms.take i) hr14
 by_cases hlt : i < c.atoms.length
 ·have i1 : I64 ((i : Int) + 1) := by unfold I64; omega
  have hwa := hc.a _ (aq hlt)
  have hRp : RelPre g (ix c.atoms i) := ⟨hg, hwa⟩
  have hs := Gt (g := g) hlt
  obtain ⟨a, ha⟩ : ∃ a, ix c.atoms i = a := ⟨_, rfl⟩
  obtain ⟨R, hR⟩ : ∃ R, c9 g a = R := ⟨_, rfl⟩
  rw [ha] at hRp hs
  rw [hR] at hs
  simp [GrB, CjB, FcB, hlt, aa hlt, ha, Ca, hRp, hR, uY, i1]
  refine ⟨i + 1, by omega, by omega, bG 3 (by simp [hs]) (by simp) (by simp [AV.clean, AV.clean1]) (by simp) (by simp [GrB, CjB, FcB])⟩
 ·have e : c.atoms.take i = c.atoms := take_of_length_le (by omega)
  rw [e] at b1 b2 ⊢
  have hl := pd (dX g c c.atoms.length)
  have hrl : (fM g c).length <= 7529536 := by
   unfold fM
   split
   ·exact zero_le _
   split
   ·exact zero_le _
   ·have h5 := kh p1 p2 c.atoms.length (Nat.le_refl _)
    have hpw : 14 ^ c.atoms.length <= 14 ^ 6 := pow_le_pow_right (by decide) p3
    have h7 : (14 ^ 6 : Nat) = 7529536 := by decide
    omega
  have f1 : I64 ((fM g c).length : Int) := by unfold I64; omega
  have f2 : I64 (pX g c.atoms) := by unfold I64; omega
  simp [GrB, CjB, FcB, hlt, MY, hrp, sU, f1, f2, q2]
abbrev Col := Nat -> Rat
def ex (v : Col) (F : List Nat -> Rat) : List Nat -> List Nat -> Rat
 | _, [] => 0
 | pre, r :: post => v r * F (pre.reverse ++ post) - ex v F (r :: pre) post
def det : List Col -> List Nat -> Rat
 | [], _ => 1
 | v :: vs, rows => ex v (det vs) [] rows
theorem lL {v : Col} {F G : List Nat -> Rat} (hF : ∀ l, F l = G l) : ∀ (rows pre : List Nat), ex v F pre rows = ex v G pre rows
 | [], _ => rfl
 | r :: post, pre => by rw [ex, ex, hF, lL hF post (r :: pre)]
theorem mi {v : Col} {F : List Nat -> Rat} (c : Rat) : ∀ (rows pre : List Nat), ex v (λ l => c * F l) pre rows = c * ex v F pre rows
 | [], _ => by rw [ex, ex]; grind
 | r :: post, pre => by rw [ex, ex, mi c post (r :: pre)]; grind
theorem Ke {v : Col} {F G : List Nat -> Rat} : ∀ (rows pre : List Nat), ex v (λ l => F l - G l) pre rows = ex v F pre rows - ex v G pre rows
 | [], _ => by rw [ex, ex, ex]; grind
 | r :: post, pre => by rw [ex, ex, ex, Ke post (r :: pre)]; grind
theorem Is {v w : Col} {F : List Nat -> Rat} : ∀ (rows pre : List Nat), ex (λ r => v r + w r) F pre rows = ex v F pre rows + ex w F pre rows
 | [], _ => by rw [ex, ex, ex]; grind
 | r :: post, pre => by rw [ex, ex, ex, Is post (r :: pre)]; grind
theorem JH {v : Col} {F : List Nat -> Rat} (a : Rat) : ∀ (rows pre : List Nat), ex (λ r => a * v r) F pre rows = a * ex v F pre rows
 | [], _ => by rw [ex, ex]; grind
 | r :: post, pre => by rw [ex, ex, JH a post (r :: pre)]; grind
theorem sM {v : Col} {F : List Nat -> Rat} (r : Nat) : ∀ (rows pre : List Nat), ex v F (pre ++ [r]) rows = ex v (λ l => F (r :: l)) pre rows
 | [], _ => rfl
 | s :: post, pre => by
  have e : s :: (pre ++ [r]) = (s :: pre) ++ [r] := rfl
  rw [ex, ex, e, sM r post (s :: pre)]
  simp
theorem Kf (u v : Col) (F : List Nat -> Rat) (r : Nat) (R : List Nat) : ex u (ex v F []) [] (r :: R) = u r * ex v F [] R - v r * ex u F [] R + ex u (ex v (λ l => F (r :: l)) []) [] R := by
 have e : ([r] : List Nat) = [] ++ [r] := rfl
 rw [ex, e, sM]
 have h : ∀ l, ex v F [] (r :: l) = v r * F l - ex v (λ l => F (r :: l)) [] l := λ l => by
  rw [ex]
  have e : ([r] : List Nat) = [] ++ [r] := rfl
  rw [e, sM]
  rfl
 rw [lL h, Ke, mi]
 simp only [reverse_nil, nil_append]
 grind
theorem E7 (u v : Col) : ∀ (rows : List Nat) (F : List Nat -> Rat), ex u (ex v F []) [] rows = - ex v (ex u F []) [] rows
 | [], F => by rw [ex, ex]; grind
 | r :: R, F => by rw [Kf, Kf, E7 u v R]; grind
theorem p7 (u v : Col) (vs : List Col) (rows : List Nat) : det (u :: v :: vs) rows = - det (v :: u :: vs) rows := E7 u v rows (det vs)
theorem G7 (v : Col) (vs : List Col) (rows : List Nat) : det (v :: v :: vs) rows = 0 := by have := p7 v v vs rows; grind
theorem If {vs ws : List Col} (h : vs.Perm ws) : ∃ s : Rat, s ≠ 0 /\ ∀ rows, det ws rows = s * det vs rows := by
 induction h with
 | nil => exact ⟨1, by decide, λ _ => by grind⟩
 | cons v _ ih =>
  obtain ⟨s, h1, h2⟩ := ih
  refine ⟨s, h1, λ rows => ?_⟩
  show ex v (det _) [] rows = s * ex v (det _) [] rows
  rw [lL h2, mi]
 | swap u v l => exact ⟨-1, by decide, λ rows => by rw [p7]; grind⟩
 | trans _ _ ih1 ih2 =>
  obtain ⟨s, h1, h2⟩ := ih1
  obtain ⟨t, h3, h4⟩ := ih2
  refine ⟨t * s, λ h => ?_, λ rows => by rw [h4, h2]; grind⟩
  rcases mul_eq_zero.1 h with e | e
  ·exact h3 e
  ·exact h1 e
theorem qV (asq bs : List Col) : ∃ s : Rat, s ≠ 0 /\ ∀ v rows, det (asq ++ v :: bs) rows = s * det (v :: (asq ++ bs)) rows := by
 induction asq with
 | nil => exact ⟨1, by decide, λ v rows => by rw [nil_append, nil_append]; grind⟩
 | cons a asq ih =>
  obtain ⟨s, h1, h2⟩ := ih
  refine ⟨-s, λ h => h1 (by grind), λ v rows => ?_⟩
  show ex a (det (asq ++ v :: bs)) [] rows = _
  rw [lL (h2 v), mi]
  have := p7 a v (asq ++ bs) rows
  show s * det (a :: v :: (asq ++ bs)) rows = -s * det (v :: a :: (asq ++ bs)) rows
  rw [this]; grind
theorem DV {F : List Nat -> Rat} : ∀ (rows pre : List Nat), ex (λ _ => 0) F pre rows = 0
 | [], _ => rfl
 | r :: post, pre => by rw [ex, DV post (r :: pre)]; grind
theorem Nh {F : List Nat -> Rat} (x : Nat -> Rat) (B : Nat -> Col) (rows : List Nat) : ∀ n, ex (λ r => Sm n λ i => x i * B i r) F [] rows = Sm n λ i => x i * ex (B i) F [] rows
 | 0 => DV rows []
 | n + 1 => by
  show ex (λ r => Sm n (λ i => x i * B i r) + x n * B n r) F [] rows = _
  rw [Is, Nh x B rows n, JH]
  rfl
theorem Es (x : Nat -> Rat) (B : Nat -> Col) (n : Nat) (asq bs : List Col) (rows : List Nat) : det (asq ++ (λ r => Sm n λ i => x i * B i r) :: bs) rows = Sm n λ i => x i * det (asq ++ B i :: bs) rows := by
 obtain ⟨s, _, h⟩ := qV asq bs
 rw [h]
 show s * ex _ (det (asq ++ bs)) [] rows = _
 rw [Nh, <- dl]
 refine ay λ i _ => ?_
 rw [h]
 show s * (x i * ex (B i) (det (asq ++ bs)) [] rows) = x i * (s * ex (B i) (det (asq ++ bs)) [] rows)
 grind
theorem El {asq bs : List Col} {v : Col} (h : v ∈ asq ++ bs) (rows : List Nat) : det (asq ++ v :: bs) rows = 0 := by
 obtain ⟨s, _, hs⟩ := qV asq bs
 rw [hs]
 obtain ⟨cs, ds, e⟩ := List.append_of_mem h
 rw [e]
 obtain ⟨t, _, ht⟩ := qV (v :: cs) ds
 have := ht v rows
 rw [cons_append, cons_append, G7] at this
 rw [this]; grind
def cK (B : Nat -> Col) (n : Nat) : List Col := (List.range n).map B
def BR (B : Nat -> Col) (n i : Nat) (c : Col) : List Col := (cK B n).set i c
theorem Kb (B : Nat -> Col) {n i : Nat} (h : i < n) : ∃ asq bs, (∀ c, BR B n i c = asq ++ c :: bs) /\ cK B n = asq ++ B i :: bs /\ ∀ k, k < n -> k ≠ i -> B k ∈ asq ++ bs := by
 refine ⟨(cK B n).take i, (cK B n).drop (i + 1), λ c => ?_, ?_, λ k hk hki => ?_⟩
 ·unfold BR
  rw [List.set_eq_take_append_cons_drop, if_pos (by simpa [cK] using h)]
 ·have hl : i < (cK B n).length := by simpa [cK] using h
  have : (cK B n)[i] = B i := by simp [cK]
  rw [<- this, List.getElem_cons_drop, List.take_append_drop]
 ·rw [mem_append]
  rcases Nat.lt_or_ge k i with q | q
  ·left
   refine List.mem_of_getElem? (i := k) ?_
   rw [List.getElem?_take, if_pos q]
   simp [cK, hk]
  ·right
   refine List.mem_of_getElem? (i := k - (i + 1)) ?_
   rw [List.getElem?_drop]
   have : i + 1 + (k - (i + 1)) = k := by omega
   rw [this]
   simp [cK, hk]
theorem Q8 {B : Nat -> Col} {x : Nat -> Rat} {c : Col} {n : Nat} (h : ∀ r, c r = Sm n λ i => x i * B i r) {i : Nat} (hi : i < n) (rows : List Nat) : det (BR B n i c) rows = x i * det (cK B n) rows := by
 obtain ⟨asq, bs, h1, h2, h3⟩ := Kb B hi
 have e : c = λ r => Sm n λ i => x i * B i r := funext h
 rw [h1, h2, e, Es]
 refine cZ hi λ k hk hki => ?_
 rw [El (h3 k hk hki)]
 grind
def IsI (q : Rat) : Prop := ∃ z : Int, q = (z : Rat)
theorem IsI.mul {a b : Rat} (ha : IsI a) (hb : IsI b) : IsI (a * b) := by
 obtain ⟨x, rfl⟩ := ha; obtain ⟨y, rfl⟩ := hb; exact ⟨x * y, by push_cast; rfl⟩
theorem IsI.sub {a b : Rat} (ha : IsI a) (hb : IsI b) : IsI (a - b) := by
 obtain ⟨x, rfl⟩ := ha; obtain ⟨y, rfl⟩ := hb; exact ⟨x - y, by push_cast; rfl⟩
theorem KG {v : Col} {F : List Nat -> Rat} (hv : ∀ r, IsI (v r)) (hF : ∀ l, IsI (F l)) : ∀ (rows pre : List Nat), IsI (ex v F pre rows)
 | [], _ => ⟨0, by rw [ex]; rfl⟩
 | r :: post, pre => by rw [ex]; exact ((hv r).mul (hF _)).sub (KG hv hF post (r :: pre))
theorem x7 : ∀ {vs : List Col}, (∀ v ∈ vs, ∀ r, IsI (v r)) -> ∀ rows, IsI (det vs rows)
 | [], _, rows => ⟨1, by rw [det]; rfl⟩
 | v :: vs, h, rows => KG (h v (by simp)) (x7 λ w hw => h w (by simp [hw])) rows []
def bZ (q : Rat) : Rat := if q < 0 then -q else q
theorem gR (q : Rat) : 0 <= bZ q := by unfold bZ; split <;> grind
theorem dC {a : Rat} (h : 0 <= a) : bZ a = a := by unfold bZ; rw [if_neg (by grind)]
theorem fu {a : Rat} (h : a <= 0) : bZ a = -a := by unfold bZ; split <;> grind
theorem tX (a b : Rat) : bZ (a * b) = bZ a * bZ b := by
 rcases Rat.le_total (a := 0) (b := a) with ha | ha
 ·rcases Rat.le_total (a := 0) (b := b) with hb | hb
  ·rw [dC ha, dC hb, dC (mul_nonneg ha hb)]
  ·have h := mul_nonneg ha (show 0 <= -b by grind)
   rw [dC ha, fu hb, fu (by grind)]; grind
 ·rcases Rat.le_total (a := 0) (b := b) with hb | hb
  ·have h := mul_nonneg (show 0 <= -a by grind) hb
   rw [fu ha, dC hb, fu (by grind)]; grind
  ·have h := mul_nonneg (show 0 <= -a by grind) (show 0 <= -b by grind)
   rw [fu ha, fu hb, dC (by grind)]; grind
theorem zA (a b : Rat) : bZ (a - b) <= bZ a + bZ b := by unfold bZ; split <;> split <;> split <;> grind
def nrm (v : Col) : List Nat -> Rat
 | [] => 0
 | r :: l => bZ (v r) + nrm v l
theorem db (v : Col) : ∀ l, 0 <= nrm v l
 | [] => by rw [nrm]; decide
 | r :: l => by rw [nrm]; have := db v l; have := gR (v r); grind
theorem iT (v : Col) (m : List Nat) : ∀ l, nrm v (l ++ m) = nrm v l + nrm v m
 | [] => by show nrm v m = 0 + _; grind
 | r :: l => by show bZ (v r) + nrm v (l ++ m) = bZ (v r) + nrm v l + _; rw [iT v m l]; grind
def fH : List Col -> List Nat -> Rat
 | [], _ => 1
 | v :: vs, rows => nrm v rows * fH vs rows
theorem gL (rows : List Nat) : ∀ vs, 0 <= fH vs rows
 | [] => by rw [fH]; decide
 | v :: vs => mul_nonneg (db v rows) (gL rows vs)
theorem xA {l rows : List Nat} (h : ∀ v, nrm v l <= nrm v rows) : ∀ vs, fH vs l <= fH vs rows
 | [] => by rw [fH, fH]; grind
 | v :: vs => by
  rw [fH, fH]
  have h1 := mul_le_mul_of_nonneg_right (h v) (gL l vs)
  have h2 := mul_le_mul_of_nonneg_left (xA h vs) (db v rows)
  grind
theorem Nq {v : Col} {F : List Nat -> Rat} {b : Rat} {all : List Nat} (hF : ∀ l, (∀ w, nrm w l <= nrm w all) -> bZ (F l) <= b) : ∀ (rows pre : List Nat), all = pre.reverse ++ rows -> bZ (ex v F pre rows) <= nrm v rows * b
 | [], _, _ => by rw [ex, nrm]; unfold bZ; split <;> grind
 | r :: post, pre, h => by
  rw [ex, nrm]
  have h1 := Nq (v := v) hF post (r :: pre) (by rw [h]; simp)
  have h2 := hF (pre.reverse ++ post) λ w => by
   rw [h, iT, iT]
   have : nrm w (r :: post) = bZ (w r) + nrm w post := rfl
   have := gR (w r)
   grind
  have h3 := zA (v r * F (pre.reverse ++ post)) (ex v F (r :: pre) post)
  rw [tX] at h3
  have h4 := mul_le_mul_of_nonneg_left h2 (gR (v r))
  grind
theorem xD : ∀ (vs : List Col) (rows : List Nat), bZ (det vs rows) <= fH vs rows
 | [], rows => by rw [det, fH]; unfold bZ; split <;> grind
 | v :: vs, rows => by
  rw [det, fH]
  refine Nq (all := rows) (λ l hl => ?_) rows [] rfl
  exact Rat.le_trans (xD vs l) (xA hl vs)
theorem bS {x : Rat} (h : 0 <= x) : ∀ n : Nat, 0 <= x ^ n
 | 0 => by rw [Rat.pow_zero]; decide
 | n + 1 => by rw [Rat.pow_succ]; exact mul_nonneg (bS h n) h
theorem gS (x y : Rat) : ∀ n : Nat, (x * y) ^ n = x ^ n * y ^ n
 | 0 => by simp only [Rat.pow_zero]; grind
 | n + 1 => by rw [Rat.pow_succ, Rat.pow_succ, Rat.pow_succ, gS x y n]; grind
theorem sj {x y : Rat} (h0 : 0 <= x) (h : x <= y) : ∀ n : Nat, x ^ n <= y ^ n
 | 0 => by simp only [Rat.pow_zero]; decide
 | n + 1 => by
  rw [Rat.pow_succ, Rat.pow_succ]
  have h1 := mul_le_mul_of_nonneg_right (sj h0 h n) h0
  have h2 := mul_le_mul_of_nonneg_left h (bS (by grind : 0 <= y) n)
  grind
theorem wL {n : Nat} (h : n ≠ 0) : (0 : Rat) ^ n = 0 := by
 obtain ⟨k, rfl⟩ := Nat.exists_eq_succ_of_ne_zero h
 rw [Rat.pow_succ]; grind
theorem oN : ∀ n : Nat, (1 : Rat) ^ n = 1
 | 0 => by rw [Rat.pow_zero]
 | n + 1 => by rw [Rat.pow_succ, oN n]; grind
theorem s7 (x : Rat) (m : Nat) : ∀ n : Nat, x ^ (m + n) = x ^ m * x ^ n
 | 0 => by rw [Nat.add_zero, Rat.pow_zero]; grind
 | n + 1 => by rw [<- Nat.add_assoc, Rat.pow_succ, Rat.pow_succ, s7 x m n]; grind
theorem Cg (t : Rat) : 0 <= t * t := by
 rcases Rat.le_total (a := 0) (b := t) with q | q
 ·exact mul_nonneg q q
 ·have e : t * t = (-t) * (-t) := by grind
  rw [e]; exact mul_nonneg (by grind) (by grind)
theorem aY (n : Nat) : (0 : Rat) <= n := by exact_mod_cast zero_le n
theorem TG {t : Rat} (h : 0 <= 1 + t) : ∀ n : Nat, 1 + (n : Rat) * t <= (1 + t) ^ n
 | 0 => by rw [Rat.pow_zero]; grind
 | n + 1 => by
  have ih := TG h n
  rw [Rat.pow_succ]
  have h1 : (1 + (n : Rat) * t) * (1 + t) <= (1 + t) ^ n * (1 + t) := mul_le_mul_of_nonneg_right ih h
  have h2 : (0 : Rat) <= n * (t * t) := mul_nonneg (aY n) (Cg t)
  have h3 : ((n + 1 : Nat) : Rat) = n + 1 := by push_cast; rfl
  rw [h3]
  grind
def cx : List Rat -> Rat
 | [] => 0
 | a :: r => a + cx r
def gK : List Rat -> Rat
 | [] => 1
 | a :: r => a * gK r
theorem iw : ∀ {l : List Rat}, (∀ a ∈ l, 0 <= a) -> 0 <= cx l
 | [], _ => by decide
 | a :: r, h => by
  have h1 := h a (by simp)
  have h2 := iw (l := r) λ x hx => h x (by simp [hx])
  show 0 <= a + cx r
  grind
theorem oY : ∀ {l : List Rat}, (∀ a ∈ l, 0 <= a) -> 0 <= gK l
 | [], _ => by decide
 | a :: r, h => mul_nonneg (h a (by simp)) (oY (l := r) λ x hx => h x (by simp [hx]))
theorem NV : ∀ {l : List Rat}, (∀ a ∈ l, 0 <= a) -> ((l.length : Nat) : Rat) ^ l.length * gK l <= cx l ^ l.length
 | [], _ => by
  simp only [length_nil, Rat.pow_zero]
  show (1 : Rat) * 1 <= 1
  grind
 | [a], _ => by
  simp only [length_cons, length_nil, gK, cx]
  have : ((0 + 1 : Nat) : Rat) = 1 := by decide
  rw [this, Nat.zero_add, Rat.pow_succ, Rat.pow_zero, Rat.pow_succ, Rat.pow_zero]
  grind
 | y :: b :: r, h => by
  have hl : ∀ a ∈ b :: r, 0 <= a := λ x hx => h x (by simp [hx])
  have ih := NV hl
  have hy := h y (by simp)
  have hS := iw hl
  show (((b :: r).length + 1 : Nat) : Rat) ^ ((b :: r).length + 1) * (y * gK (b :: r)) <= (y + cx (b :: r)) ^ ((b :: r).length + 1)
  have hP := oY hl
  generalize hk : (b :: r).length = K at *
  have hK : 1 <= K := by rw [<- hk]; simp
  generalize gK (b :: r) = P at *
  generalize cx (b :: r) = S at *
  have hKq : (0 : Rat) < K := by exact_mod_cast hK
  have hc : ((K + 1 : Nat) : Rat) = K + 1 := by push_cast; rfl
  rw [hc]
  rcases Rat.le_iff_lt_or_eq.1 hS with hS0 | hS0
  ·
   have hne : S ≠ 0 := by grind
   have h1K : (0 : Rat) < (K : Rat) + 1 := by grind
   have hd : (0 : Rat) < ((K : Rat) + 1) * S := Rat.mul_pos h1K hS0
   have hdn : ((K : Rat) + 1) * S ≠ 0 := by grind
   obtain ⟨u, hu⟩ : ∃ u : Rat, u * (((K : Rat) + 1) * S) = (y + S) * K := ⟨(y + S) * K / (((K : Rat) + 1) * S), div_mul_cancel hdn⟩
   have hu0 : 0 <= u := by
    rcases Rat.le_total (a := 0) (b := u) with q | q
    ·exact q
    ·have h5 : u * (((K : Rat) + 1) * S) <= 0 := by
      have := mul_le_mul_of_nonneg_right q (Rat.le_of_lt hd)
      grind
     have h6 : 0 <= (y + S) * K := mul_nonneg (by grind) (Rat.le_of_lt hKq)
     have h7 : u * (((K : Rat) + 1) * S) = 0 := by grind
     rcases mul_eq_zero.1 h7 with e | e
     ·rw [e]; decide
     ·exact absurd e hdn
   have hb := TG (t := u - 1) (by grind) (K + 1)
   rw [hc] at hb
   have e1 : (1 : Rat) + (u - 1) = u := by grind
   rw [e1] at hb
   -- (1 + (K+1)(u-1)) S = y K
   have e2 : (1 + ((K : Rat) + 1) * (u - 1)) * S = y * K := by grind
   have h8 : y * K <= u ^ (K + 1) * S := by rw [<- e2]; exact mul_le_mul_of_nonneg_right hb (Rat.le_of_lt hS0)
   -- multiply by ((K+1) ^ (K+1)) S^K / K
   have h9 : u ^ (K + 1) * (((K : Rat) + 1) ^ (K + 1) * S ^ (K + 1)) = (y + S) ^ (K + 1) * (K : Rat) ^ (K + 1) := by
    rw [<- gS, <- gS, <- gS, hu]
   have hp1 : 0 <= ((K : Rat) + 1) ^ (K + 1) := bS (Rat.le_of_lt h1K) _
   have hp2 : 0 <= S ^ K := bS hS _
   have h10 : (y * K) * (((K : Rat) + 1) ^ (K + 1) * S ^ K) <= (u ^ (K + 1) * S) * (((K : Rat) + 1) ^ (K + 1) * S ^ K) := mul_le_mul_of_nonneg_right h8 (mul_nonneg hp1 hp2)
   have e3 : (u ^ (K + 1) * S) * (((K : Rat) + 1) ^ (K + 1) * S ^ K) = (y + S) ^ (K + 1) * (K : Rat) ^ (K + 1) := by
    rw [<- h9, Rat.pow_succ S K]; grind
   rw [e3] at h10
   have h11 : (y * K) * (((K : Rat) + 1) ^ (K + 1) * ((K : Rat) ^ K * P)) <= (y * K) * (((K : Rat) + 1) ^ (K + 1) * S ^ K) :=
    mul_le_mul_of_nonneg_left (mul_le_mul_of_nonneg_left ih hp1) (mul_nonneg hy (Rat.le_of_lt hKq))
   have e4 : (y * K) * (((K : Rat) + 1) ^ (K + 1) * ((K : Rat) ^ K * P)) = (((K : Rat) + 1) ^ (K + 1) * (y * P)) * (K : Rat) ^ (K + 1) := by
    rw [Rat.pow_succ (K : Rat) K]; grind
   rw [e4] at h11
   have h12 : (((K : Rat) + 1) ^ (K + 1) * (y * P)) * (K : Rat) ^ (K + 1) <= (y + S) ^ (K + 1) * (K : Rat) ^ (K + 1) := Rat.le_trans h11 h10
   have hKp : (0 : Rat) < (K : Rat) ^ (K + 1) := Rat.pow_pos hKq
   exact Rat.le_of_mul_le_mul_right h12 hKp
  ·
   subst hS0
   rw [wL (by omega)] at ih
   have hKp : (0 : Rat) < (K : Rat) ^ K := Rat.pow_pos hKq
   have hP0 : P = 0 := by
    have h1 : (K : Rat) ^ K * P = 0 := by
     have := mul_nonneg (Rat.le_of_lt hKp) hP
     grind
    rcases mul_eq_zero.1 h1 with e | e
    ·grind
    ·exact e
   rw [hP0]
   have := bS (x := y + 0) (by grind) (K + 1)
   grind
def fG {α : Type} (xs : List α) (f : α -> Nat) : Nat := (xs.map f).sum
def yU {α : Type} : List (Nat × (α -> Nat)) -> Nat
 | [] => 0
 | p :: r => p.1 + yU r
def nJ {α : Type} (x : α) : List (Nat × (α -> Nat)) -> Nat
 | [] => 1
 | p :: r => p.2 x ^ p.1 * nJ x r
def pI {α : Type} (xs : List α) : List (Nat × (α -> Nat)) -> Nat
 | [] => 1
 | p :: r => fG xs p.2 ^ p.1 * pI xs r
def fm {α : Type} (xs : List α) (x : α) : List (Nat × (α -> Nat)) -> List Rat
 | [] => []
 | p :: r => List.replicate p.1 ((p.2 x : Rat) / (fG xs p.2 : Rat)) ++ fm xs x r
section
variable {α : Type}
theorem tf (xs : List α) (x : α) : ∀ ms : List (Nat × (α -> Nat)), (fm xs x ms).length = yU ms
 | [] => rfl
 | p :: r => by simp [fm, yU, tf xs x r]
theorem zN {b : Rat} (hb : 0 <= b) : 0 <= b⁻¹ := by
 by_cases h0 : b = 0
 ·rw [h0, Rat.inv_zero]; decide
 ·rcases Rat.le_total (a := 0) (b := b⁻¹) with q | q
  ·exact q
  ·have h1 := mul_le_mul_of_nonneg_left q hb
   rw [Rat.mul_inv_cancel b h0] at h1
   grind
theorem ma {a b : Rat} (ha : 0 <= a) (hb : 0 <= b) : 0 <= a / b := by
 rw [div_def]; exact mul_nonneg ha (zN hb)
theorem jT (xs : List α) (x : α) : ∀ ms : List (Nat × (α -> Nat)), ∀ a ∈ fm xs x ms, 0 <= a
 | [], a, h => by cases h
 | p :: r, a, h => by
  rcases mem_append.1 h with h | h
  ·rw [(List.mem_replicate.1 h).2]; exact ma (aY _) (aY _)
  ·exact jT xs x r a h
theorem pY : ∀ (l m : List Rat), gK (l ++ m) = gK l * gK m
 | [], m => by show gK m = 1 * gK m; grind
 | a :: r, m => by show a * gK (r ++ m) = a * gK r * gK m; rw [pY r m]; grind
theorem la : ∀ (l m : List Rat), cx (l ++ m) = cx l + cx m
 | [], m => by show cx m = 0 + cx m; grind
 | a :: r, m => by show a + cx (r ++ m) = a + cx r + cx m; rw [la r m]; grind
theorem wN (a : Rat) : ∀ n : Nat, gK (List.replicate n a) = a ^ n
 | 0 => by rw [Rat.pow_zero]; rfl
 | n + 1 => by rw [List.replicate_succ, Rat.pow_succ, <- wN a n]; show a * _ = _ * a; grind
theorem vU (a : Rat) : ∀ n : Nat, cx (List.replicate n a) = n * a
 | 0 => by show (0 : Rat) = (0 : Nat) * a; push_cast; grind
 | n + 1 => by rw [List.replicate_succ]; show a + cx _ = _; rw [vU a n]; push_cast; grind
theorem Er {xs : List α} {f : α -> Nat} {x : α} (h : x ∈ xs) : f x <= fG xs f := by
 unfold fG
 induction xs with
 | nil => cases h
 | cons y r ih =>
  simp only [map_cons, sum_cons]
  rcases mem_cons.1 h with rfl | h
  ·omega
  ·have := ih h; omega
theorem xN (a : Nat) : ∀ k : Nat, ((a ^ k : Nat) : Rat) = (a : Rat) ^ k
 | 0 => by rw [Rat.pow_zero]; rfl
 | k + 1 => by rw [Rat.pow_succ, Nat.pow_succ, <- xN a k]; push_cast; rfl
theorem rL {xs : List α} {x : α} (hx : x ∈ xs) : ∀ ms : List (Nat × (α -> Nat)), ((nJ x ms : Nat) : Rat) = (pI xs ms : Rat) * gK (fm xs x ms)
 | [] => by show ((1 : Nat) : Rat) = ((1 : Nat) : Rat) * 1; grind
 | p :: r => by
  show ((p.2 x ^ p.1 * nJ x r : Nat) : Rat) = ((fG xs p.2 ^ p.1 * pI xs r : Nat) : Rat) * gK (List.replicate p.1 _ ++ fm xs x r)
  rw [pY, wN]
  push_cast
  rw [rL hx r]
  have e : ((p.2 x : Nat) : Rat) ^ p.1 = ((fG xs p.2 : Nat) : Rat) ^ p.1 * (((p.2 x : Nat) : Rat) / ((fG xs p.2 : Nat) : Rat)) ^ p.1 := by
   rw [<- gS]
   congr 1
   by_cases h0 : fG xs p.2 = 0
   ·have h1 : p.2 x = 0 := by have := Er (f := p.2) hx; omega
    rw [h0, h1]; grind
   ·have h1 : ((fG xs p.2 : Nat) : Rat) ≠ 0 := by exact_mod_cast h0
    rw [Rat.mul_comm, div_mul_cancel h1]
  rw [e]
  grind
def eH (xs : List α) (f : α -> Rat) : Rat := cx (xs.map f)
theorem Am : ∀ (xs : List α) (f g : α -> Rat), eH xs (λ x => f x + g x) = eH xs f + eH xs g
 | [], f, g => by show (0 : Rat) = 0 + 0; grind
 | a :: r, f, g => by
  have := Am r f g
  unfold eH at *
  show f a + g a + _ = (f a + _) + (g a + _)
  rw [this]; grind
theorem jt (c : Rat) : ∀ (xs : List α) (f : α -> Rat), eH xs (λ x => c * f x) = c * eH xs f
 | [], f => by show (0 : Rat) = c * 0; grind
 | a :: r, f => by
  have := jt c r f
  unfold eH at *
  show c * f a + _ = c * (f a + _)
  rw [this]; grind
theorem mS : ∀ (xs : List α) (f : α -> Nat), ((fG xs f : Nat) : Rat) = eH xs (λ x => (f x : Rat))
 | [], f => rfl
 | a :: r, f => by
  have := mS r f
  unfold fG eH at *
  simp only [map_cons, sum_cons, cx]
  push_cast
  rw [this]
theorem xS : ∀ {xs : List α} {f g : α -> Rat}, (∀ x ∈ xs, f x <= g x) -> eH xs f <= eH xs g
 | [], f, g, _ => by show (0 : Rat) <= 0; grind
 | a :: r, f, g, h => by
  have h1 := h a (by simp)
  have h2 := xS (xs := r) (f := f) (g := g) λ x hx => h x (by simp [hx])
  unfold eH at *
  show f a + _ <= g a + _
  grind
theorem DO : ∀ {xs : List α} {f g : α -> Rat}, (∀ x ∈ xs, f x <= g x) -> (∃ x ∈ xs, f x < g x) -> eH xs f < eH xs g
 | [], f, g, _, h => by obtain ⟨x, hx, _⟩ := h; cases hx
 | a :: r, f, g, h, hs => by
  have h1 := h a (by simp)
  have hr : ∀ x ∈ r, f x <= g x := λ x hx => h x (by simp [hx])
  have h2 := xS (xs := r) hr
  obtain ⟨x, hx, hlt⟩ := hs
  rcases mem_cons.1 hx with rfl | hx
  ·unfold eH at *
   show f x + _ < g x + _
   grind
  ·have h3 := DO (xs := r) hr ⟨x, hx, hlt⟩
   unfold eH at *
   show f a + _ < g a + _
   grind
theorem D8 : ∀ {xs : List α} {f : α -> Rat} {x : α}, x ∈ xs -> (∀ y ∈ xs, 0 <= f y) -> f x <= eH xs f
 | [], f, x, h, _ => by cases h
 | a :: r, f, x, h, h0 => by
  have ha := h0 a (by simp)
  have hr : 0 <= eH r f := iw λ y hy => by
   obtain ⟨z, hz, rfl⟩ := mem_map.1 hy
   exact h0 z (by simp [hz])
  show f x <= f a + eH r f
  rcases mem_cons.1 h with rfl | h
  ·grind
  ·have := D8 h λ y hy => h0 y (by simp [hy])
   grind
theorem sN (xs : List α) : ∀ ms : List (Nat × (α -> Nat)), eH xs (λ x => cx (fm xs x ms)) <= yU ms
 | [] => by
  have : eH xs (λ _ => (0 : Rat) * 0) = 0 * eH xs (λ _ => (0 : Rat)) := jt 0 xs _
  have e : eH xs (λ x => cx (fm xs x [])) = eH xs (λ _ => (0 : Rat) * 0) := by
   congr 1; funext x; show (0 : Rat) = 0 * 0; grind
  rw [e, this]
  show (0 : Rat) * _ <= ((0 : Nat) : Rat)
  grind
 | p :: r => by
  have ih := sN xs r
  have e : eH xs (λ x => cx (fm xs x (p :: r))) = eH xs (λ x => ((p.1 : Nat) : Rat) * ((1 / ((fG xs p.2 : Nat) : Rat)) * ((p.2 x : Nat) : Rat))) + eH xs (λ x => cx (fm xs x r)) := by
   rw [<- Am]
   congr 1
   funext x
   show cx (List.replicate p.1 _ ++ fm xs x r) = _
   rw [la, vU, div_def, div_def]
   grind
  rw [e, jt, jt, <- mS]
  show _ <= ((p.1 + yU r : Nat) : Rat)
  have h1 : 1 / ((fG xs p.2 : Nat) : Rat) * ((fG xs p.2 : Nat) : Rat) <= 1 := by
   by_cases h0 : fG xs p.2 = 0
   ·rw [h0]; push_cast; grind
   ·have h1 : ((fG xs p.2 : Nat) : Rat) ≠ 0 := by exact_mod_cast h0
    rw [div_mul_cancel h1]; grind
  have h2 := mul_le_mul_of_nonneg_left h1 (aY p.1)
  push_cast
  grind
theorem Kp {x y : Rat} (hx : 0 <= x) (hy : 0 <= y) {n : Nat} (h : x ^ n < y ^ n) : x < y := by
 rcases Rat.le_total (a := y) (b := x) with q | q
 ·have := sj hy q n
  grind
 ·rcases Rat.le_iff_lt_or_eq.1 q with q | q
  ·exact q
  ·subst q; grind
theorem Ib {x y : Rat} (hx : 0 <= x) (hy : 0 <= y) {n : Nat} (hn : n ≠ 0) (h : x ^ n <= y ^ n) : x <= y := by
 rcases Rat.le_total (a := x) (b := y) with q | q
 ·exact q
 ·rcases Rat.le_iff_lt_or_eq.1 q with q | q
  ·
   exfalso
   have hlt : ∀ k : Nat, k ≠ 0 -> y ^ k < x ^ k := by
    intro k
    induction k with
    | zero => intro h; exact absurd rfl h
    | succ k ih =>
     intro _
     rw [Rat.pow_succ, Rat.pow_succ]
     by_cases hk : k = 0
     ·subst hk; simp only [Rat.pow_zero]; grind
     ·have h1 := ih hk
      have hx0 : 0 < x := by grind
      have h2 : y ^ k * y <= y ^ k * x := mul_le_mul_of_nonneg_left (by grind) (bS hy k)
      have h3 : y ^ k * x < x ^ k * x := Rat.mul_lt_mul_of_pos_right h1 hx0
      grind
   have := hlt n hn
   grind
  ·rw [q]; grind
theorem O3 {xs : List α} {f : α -> Nat} {A L : Nat} {ms : List (Nat × (α -> Nat))} (hL : 1 <= L) (hK : L <= yU ms) (h : ∀ x ∈ xs, f x ^ L <= A * nJ x ms) : fG xs f ^ L <= A * pI xs ms := by
 refine Nat.le_of_not_lt λ hlt => ?_
 obtain ⟨K, hKe⟩ : ∃ K, yU ms = K := ⟨_, rfl⟩
 rw [hKe] at hK
 have hKq : (0 : Rat) < K := by exact_mod_cast (by omega : 0 < K)
 have hKn : ((K : Nat) : Rat) ≠ 0 := by grind
 let τ : α -> Rat := λ x => 1 / (K : Rat) * cx (fm xs x ms)
 obtain ⟨F, hF⟩ : ∃ F, fG xs f = F := ⟨_, rfl⟩
 obtain ⟨P, hP⟩ : ∃ P, A * pI xs ms = P := ⟨_, rfl⟩
 rw [hF, hP] at hlt
 have hltq : (P : Rat) < (F : Rat) ^ L := by rw [<- xN]; exact_mod_cast hlt
 have hτ0 : ∀ x, 0 <= τ x := λ x => mul_nonneg (ma (by decide) (Rat.le_of_lt hKq)) (iw (jT xs x ms))
 have hτK : ∀ x, (K : Rat) * τ x = cx (fm xs x ms) := λ x => by
  show (K : Rat) * (1 / (K : Rat) * _) = _
  rw [<- Rat.mul_assoc, Rat.mul_comm (K : Rat), div_mul_cancel hKn]; grind
 have hsum : eH xs τ <= 1 := by
  have h1 := sN xs ms
  rw [hKe] at h1
  show eH xs (λ x => 1 / (K : Rat) * cx (fm xs x ms)) <= 1
  rw [jt]
  have h2 := mul_le_mul_of_nonneg_left h1 (ma (a := 1) (by decide) (Rat.le_of_lt hKq))
  rw [div_mul_cancel hKn] at h2
  exact h2
 have hτ1 : ∀ x ∈ xs, τ x <= 1 := λ x hx => by
  have h1 : τ x <= eH xs τ := D8 hx λ y _ => hτ0 y
  grind
 have hprod : ∀ x ∈ xs, ((nJ x ms : Nat) : Rat) <= (pI xs ms : Rat) * τ x ^ K := λ x hx => by
  rw [rL hx ms]
  refine mul_le_mul_of_nonneg_left ?_ (aY _)
  have h1 := NV (jT xs x ms)
  rw [tf, hKe, <- hτK, gS] at h1
  have hp : (0 : Rat) < (K : Rat) ^ K := Rat.pow_pos hKq
  exact Rat.le_of_mul_le_mul_left h1 hp
 have hfx : ∀ x ∈ xs, (f x : Rat) ^ L <= P * τ x ^ L := λ x hx => by
  have h1 : ((f x ^ L : Nat) : Rat) <= ((A * nJ x ms : Nat) : Rat) := by exact_mod_cast h x hx
  rw [xN] at h1
  push_cast at h1
  have h2 := mul_le_mul_of_nonneg_left (hprod x hx) (aY A)
  have h3 : τ x ^ K <= τ x ^ L := by
   obtain ⟨d, rfl⟩ := Nat.exists_eq_add_of_le hK
   rw [s7]
   have h4 := sj (hτ0 x) (hτ1 x hx) d
   rw [oN] at h4
   have h5 := mul_le_mul_of_nonneg_left h4 (bS (hτ0 x) L)
   grind
  have h4 := mul_le_mul_of_nonneg_left h3 (aY P)
  have h5 : (P : Rat) = (A : Rat) * (pI xs ms : Rat) := by rw [<- hP]; push_cast; rfl
  rw [h5] at h4 ⊢
  grind
 have hle : ∀ x ∈ xs, (f x : Rat) <= F * τ x := λ x hx => by
  refine Ib (aY _) (mul_nonneg (aY F) (hτ0 x)) (n := L) (by omega) ?_
  rw [gS]
  have h1 := mul_le_mul_of_nonneg_right (Rat.le_of_lt hltq) (bS (hτ0 x) L)
  exact Rat.le_trans (hfx x hx) h1
 have hex : ∃ x ∈ xs, 0 < τ x := by
  refine Classical.byContradiction λ hn => ?_
  have hz : ∀ x ∈ xs, (f x : Rat) <= 0 := λ x hx => by
   have h0 : τ x = 0 := by
    rcases Rat.le_iff_lt_or_eq.1 (hτ0 x) with q | q
    ·exact absurd ⟨x, hx, q⟩ hn
    ·exact q.symm
   have := hle x hx
   rw [h0] at this
   grind
  have hF0 : (F : Rat) <= 0 := by
   rw [<- hF, mS]
   have := xS (xs := xs) (g := λ _ => (0 : Rat) * 0) (λ x hx => by have := hz x hx; show (f x : Rat) <= 0 * 0; grind)
   rw [jt] at this
   grind
  have : (F : Rat) = 0 := by have := aY F; grind
  rw [this, wL (by omega)] at hltq
  have := aY P
  grind
 have hst : (F : Rat) < F * 1 := by
  have h1 : eH xs (λ x => (f x : Rat)) < eH xs (λ x => (F : Rat) * τ x) := by
   refine DO hle ?_
   obtain ⟨x, hx, hpos⟩ := hex
   refine ⟨x, hx, Kp (aY _) (mul_nonneg (aY F) (hτ0 x)) (n := L) ?_⟩
   rw [gS]
   have hp : (0 : Rat) < τ x ^ L := Rat.pow_pos hpos
   have h2 := Rat.mul_lt_mul_of_pos_right hltq hp
   have h3 := hfx x hx
   grind
  rw [<- mS, hF, jt] at h1
  have h2 := mul_le_mul_of_nonneg_left hsum (aY F)
  grind
 grind
end
def rT {α : Type} [DecidableEq α] : List α -> List α
 | [] => []
 | a :: r => if a ∈ rT r then rT r else a :: rT r
section
variable {α β : Type} [DecidableEq α] [DecidableEq β]
theorem mem_uniq {x : α} : ∀ {l : List α}, x ∈ rT l ↔ x ∈ l
 | [] => Iff.rfl
 | a :: r => by
  have ih := mem_uniq (x := x) (l := r)
  rw [rT]
  split
  ·rename_i h
   rw [ih, mem_cons]
   constructor
   ·exact .inr
   ·rintro (rfl | h')
    ·exact mem_uniq.1 h
    ·exact h'
  ·rw [mem_cons, mem_cons, ih]
theorem fS : ∀ l : List α, (rT l).Nodup
 | [] => nodup_nil
 | a :: r => by
  rw [rT]
  split
  ·exact fS r
  ·rename_i h
   exact nodup_cons.2 ⟨h, fS r⟩
theorem iE : ∀ {l m : List α}, l.Nodup -> (∀ x ∈ l, x ∈ m) -> l.length <= m.length
 | [], m, _, _ => zero_le _
 | a :: r, m, hn, hs => by
  obtain ⟨h1, h2⟩ := nodup_cons.1 hn
  have ha := hs a (by simp)
  have h3 := iE (l := r) (m := m.erase a) h2 λ x hx => by
   refine (List.mem_erase_of_ne ?_).2 (hs x (by simp [hx]))
   rintro rfl
   exact h1 hx
  rw [List.length_erase_of_mem ha] at h3
  have := List.length_pos_of_mem ha
  simp only [length_cons]
  omega
def cnt (l : List α) : Nat := (rT l).length
theorem Pe {l m : List α} (h : ∀ x ∈ l, x ∈ m) : cnt l <= cnt m := iE (fS l) λ x hx => mem_uniq.2 (h x (mem_uniq.1 hx))
theorem Hg {l m : List α} (h : ∀ x ∈ l, x ∈ m) : cnt l <= m.length := iE (fS l) λ x hx => h x (mem_uniq.1 hx)
def pick {α : Type} : List Bool -> List α -> List α
 | true :: m, x :: t => x :: pick m t
 | false :: m, _ :: t => pick m t
 | _, _ => []
def cU {α : Type} [DecidableEq α] (Q : List (List α)) (x : α) : List (List α) := (Q.filter λ t => decide (t.head? = some x)).map List.tail
def nB {α : Type} [DecidableEq α] (Q : List (List α)) : List α := rT (Q.filterMap List.head?)
theorem mem_tails {Q : List (List α)} {x : α} {t : List α} : t ∈ cU Q x ↔ (x :: t) ∈ Q := by
 unfold cU
 rw [mem_map]
 constructor
 ·rintro ⟨u, hu, rfl⟩
  obtain ⟨h1, h2⟩ := mem_filter.1 hu
  cases u with
  | nil => simp at h2
  | cons a u => simp at h2; subst h2; exact h1
 ·intro h
  exact ⟨x :: t, mem_filter.2 ⟨h, by simp⟩, rfl⟩
theorem mem_heads {Q : List (List α)} {x : α} : x ∈ nB Q ↔ ∃ t, (x :: t) ∈ Q := by
 unfold nB
 rw [mem_uniq, List.mem_filterMap]
 constructor
 ·rintro ⟨u, hu, h⟩
  cases u with
  | nil => cases h
  | cons a u => simp at h; subst h; exact ⟨u, hu⟩
 ·rintro ⟨t, h⟩
  exact ⟨_, h, rfl⟩
theorem BC {Q : List (List α)} (h : Q.Nodup) (x : α) : (cU Q x).Nodup := by
 unfold cU
 have h1 : (Q.filter λ t => decide (t.head? = some x)).Nodup := h.filter _
 have h2 : ∀ t ∈ Q.filter (λ t => decide (t.head? = some x)), t.head? = some x := λ t ht => by simpa using (mem_filter.1 ht).2
 generalize Q.filter (λ t => decide (t.head? = some x)) = l at *
 clear h
 induction l with
 | nil => exact nodup_nil
 | cons a r ih =>
  obtain ⟨h3, h4⟩ := nodup_cons.1 h1
  rw [map_cons]
  refine nodup_cons.2 ⟨λ hm => ?_, ih h4 λ t ht => h2 t (by simp [ht])⟩
  obtain ⟨b, hb, e⟩ := mem_map.1 hm
  have ea := h2 a (by simp)
  have eb := h2 b (by simp [hb])
  cases a with
  | nil => cases ea
  | cons y a =>
   cases b with
   | nil => cases eb
   | cons z b =>
    simp at ea eb e
    subst ea eb e
    exact h3 hb
theorem Hv {Q : List (List α)} (hQ : ∀ t ∈ Q, t ≠ []) {X : List α} (hX : ∀ x, x ∈ nB Q -> x ∈ X) : Q.length <= fG X (λ x => (cU Q x).length) := by
 induction Q with
 | nil => exact zero_le _
 | cons a r ih =>
  have h1 := ih (λ t ht => hQ t (by simp [ht])) λ x hx => hX x (by
   obtain ⟨t, ht⟩ := mem_heads.1 hx
   exact mem_heads.2 ⟨t, by simp [ht]⟩)
  cases a with
  | nil => exact absurd rfl (hQ [] (by simp))
  | cons y a =>
   have hy : y ∈ X := hX y (mem_heads.2 ⟨a, by simp⟩)
   have e : ∀ x, (cU ((y :: a) :: r) x).length = (cU r x).length + if x = y then 1 else 0 := λ x => by
    unfold cU
    rw [List.filter_cons]
    by_cases h : x = y
    ·subst h; simp
    ·have : ¬ y = x := λ q => h q.symm
     simp [h, this]
   have h2 : fG X (λ x => (cU ((y :: a) :: r) x).length) = fG X (λ x => (cU r x).length) + fG X (λ x => if x = y then 1 else 0) := by
    simp only [e]
    clear hX h1 hy e ih hQ
    unfold fG
    induction X with
    | nil => rfl
    | cons z X ih => simp only [map_cons, sum_cons, ih]; omega
   have h3 : 1 <= fG X (λ x => if x = y then 1 else 0) := by
    have := Er (f := λ x => if x = y then 1 else 0) hy
    simpa using this
   simp only [length_cons]
   omega
theorem KO {Q : List (List α)} {m : List Bool} : fG (nB Q) (λ x => cnt ((cU Q x).map (pick m))) <= cnt (Q.map (pick (true :: m))) := by
 have key : ∀ X : List α, X.Nodup -> ((X.flatMap λ x => (rT ((cU Q x).map (pick m))).map (x :: ·))).Nodup /\ (X.flatMap λ x => (rT ((cU Q x).map (pick m))).map (x :: ·)).length = fG X (λ x => cnt ((cU Q x).map (pick m))) := by
  intro X hX
  induction X with
  | nil => exact ⟨nodup_nil, rfl⟩
  | cons y X ih =>
   obtain ⟨h1, h2⟩ := nodup_cons.1 hX
   obtain ⟨h3, h4⟩ := ih h2
   rw [List.flatMap_cons]
   refine ⟨List.nodup_append.2 ⟨?_, h3, ?_⟩, ?_⟩
   ·have := fS ((cU Q y).map (pick m))
    generalize rT ((cU Q y).map (pick m)) = l at *
    clear h4 h3 ih
    induction l with
    | nil => exact nodup_nil
    | cons a r ih =>
     obtain ⟨q1, q2⟩ := nodup_cons.1 this
     rw [map_cons]
     refine nodup_cons.2 ⟨λ hm => ?_, ih q2⟩
     obtain ⟨b, hb, e⟩ := mem_map.1 hm
     injection e with _ e
     subst e
     exact q1 hb
   ·intro a ha b hb e
    subst e
    obtain ⟨u, _, rfl⟩ := mem_map.1 ha
    obtain ⟨z, hz, hb⟩ := List.mem_flatMap.1 hb
    obtain ⟨v, _, e⟩ := mem_map.1 hb
    injection e with e _
    subst e
    exact h1 hz
   ·rw [length_append, length_map, h4]
    rfl
 obtain ⟨k1, k2⟩ := key (nB Q) (fS _)
 rw [<- k2]
 refine iE k1 λ t ht => ?_
 obtain ⟨x, _, h⟩ := List.mem_flatMap.1 ht
 obtain ⟨u, hu, rfl⟩ := mem_map.1 h
 obtain ⟨v, hv, rfl⟩ := mem_map.1 (mem_uniq.1 hu)
 exact mem_uniq.2 (mem_map.2 ⟨x :: v, mem_tails.1 hv, rfl⟩)
theorem GH {Q : List (List α)} {m : List Bool} {x : α} : cnt ((cU Q x).map (pick m)) <= cnt (Q.map (pick (false :: m))) := by
 refine Pe λ t ht => ?_
 obtain ⟨v, hv, rfl⟩ := mem_map.1 ht
 exact mem_map.2 ⟨x :: v, mem_tails.1 hv, rfl⟩
def cov (M : List (Nat × List Bool)) (v : Nat) : Nat := (M.map λ p => if p.2.getD v false = true then p.1 else 0).sum
def qa (Q : List (List α)) (M : List (Nat × List Bool)) : Nat := (M.map λ p => cnt (Q.map (pick p.2)) ^ p.1).foldr (· * ·) 1
def rZ {α : Type} [DecidableEq α] (Q : List (List α)) : List (Nat × List Bool) -> List (Nat × (α -> Nat))
 | [] => []
 | (k, true :: m) :: r => (k, λ x => cnt ((cU Q x).map (pick m))) :: rZ Q r
 | _ :: r => rZ Q r
def aOf {α : Type} [DecidableEq α] (Q : List (List α)) : List (Nat × List Bool) -> Nat
 | [] => 1
 | (k, false :: m) :: r => cnt (Q.map (pick (false :: m))) ^ k * aOf Q r
 | _ :: r => aOf Q r
theorem jm (Q : List (List α)) (p : Nat × List Bool) (r : List (Nat × List Bool)) : qa Q (p :: r) = cnt (Q.map (pick p.2)) ^ p.1 * qa Q r := rfl
theorem kx (p : Nat × List Bool) (r : List (Nat × List Bool)) (v : Nat) : cov (p :: r) v = (if p.2.getD v false = true then p.1 else 0) + cov r v := by
 unfold cov; simp
theorem xM {Q : List (List α)} {x : α} : ∀ {M : List (Nat × List Bool)}, (∀ p ∈ M, p.2 ≠ []) -> qa (cU Q x) (M.map λ p => (p.1, p.2.tail)) <= aOf Q M * nJ x (rZ Q M)
 | [], _ => Nat.le_refl _
 | (k, []) :: r, h => absurd rfl (h (k, []) (by simp))
 | (k, true :: m) :: r, h => by
  have ih := xM (Q := Q) (x := x) (M := r) λ p hp => h p (by simp [hp])
  rw [map_cons, jm]
  show cnt ((cU Q x).map (pick m)) ^ k * _ <= aOf Q r * (cnt ((cU Q x).map (pick m)) ^ k * nJ x (rZ Q r))
  have := mul_le_mul_left (cnt ((cU Q x).map (pick m)) ^ k) ih
  refine Nat.le_trans this (Nat.le_of_eq ?_)
  rw [Nat.mul_left_comm]
 | (k, false :: m) :: r, h => by
  have ih := xM (Q := Q) (x := x) (M := r) λ p hp => h p (by simp [hp])
  rw [map_cons, jm]
  show cnt ((cU Q x).map (pick m)) ^ k * _ <= (cnt (Q.map (pick (false :: m))) ^ k * aOf Q r) * nJ x (rZ Q r)
  rw [Nat.mul_assoc]
  exact mul_le_mul (pow_le_pow_left GH k) ih
theorem Cs {Q : List (List α)} : ∀ {M : List (Nat × List Bool)}, (∀ p ∈ M, p.2 ≠ []) -> aOf Q M * pI (nB Q) (rZ Q M) <= qa Q M
 | [], _ => Nat.le_refl _
 | (k, []) :: r, h => absurd rfl (h (k, []) (by simp))
 | (k, true :: m) :: r, h => by
  have ih := Cs (Q := Q) (M := r) λ p hp => h p (by simp [hp])
  rw [jm]
  show aOf Q r * (fG (nB Q) (λ x => cnt ((cU Q x).map (pick m))) ^ k * pI (nB Q) (rZ Q r)) <= cnt (Q.map (pick (true :: m))) ^ k * qa Q r
  rw [Nat.mul_left_comm]
  exact mul_le_mul (pow_le_pow_left KO k) ih
 | (k, false :: m) :: r, h => by
  have ih := Cs (Q := Q) (M := r) λ p hp => h p (by simp [hp])
  rw [jm]
  show cnt (Q.map (pick (false :: m))) ^ k * aOf Q r * _ <= _
  rw [Nat.mul_assoc]
  exact mul_le_mul_left _ ih
theorem yj {Q : List (List α)} : ∀ {M : List (Nat × List Bool)}, yU (rZ Q M) = cov M 0
 | [] => rfl
 | (k, []) :: r => by rw [kx, <- yj (Q := Q) (M := r)]; simp [rZ]
 | (k, true :: m) :: r => by rw [kx, <- yj (Q := Q) (M := r)]; simp [rZ, yU]
 | (k, false :: m) :: r => by rw [kx, <- yj (Q := Q) (M := r)]; simp [rZ]
theorem A6 {v : Nat} : ∀ {M : List (Nat × List Bool)}, (∀ p ∈ M, p.2 ≠ []) -> cov (M.map λ p => (p.1, p.2.tail)) v = cov M (v + 1)
 | [], _ => rfl
 | (k, []) :: r, h => absurd rfl (h (k, []) (by simp))
 | (k, b :: m) :: r, h => by
  rw [map_cons, kx, kx, A6 (M := r) λ p hp => h p (by simp [hp])]
  simp
theorem Fd : ∀ {n : Nat} {Q : List (List α)} {M : List (Nat × List Bool)} {L : Nat}, 1 <= L -> Q.Nodup -> (∀ t ∈ Q, t.length = n) -> (∀ p ∈ M, p.2.length = n) -> (∀ v, v < n -> L <= cov M v) -> Q.length ^ L <= qa Q M
 | 0, Q, M, L, hL, hn, ht, hm, hc => by
  have h1 : Q.length <= 1 := iE (m := [[]]) hn λ t h => by
   have := List.eq_nil_of_length_eq_zero (ht t h)
   simp [this]
  rcases Nat.eq_zero_or_pos Q.length with h0 | h0
  ·rw [h0, zero_pow (by omega)]; exact zero_le _
  ·have e : Q.length = 1 := by omega
   rw [e, Nat.one_pow]
   have : ∀ M : List (Nat × List Bool), 1 <= qa Q M := λ M => by
    unfold qa
    induction M with
    | nil => exact Nat.le_refl _
    | cons p r ih =>
     simp only [map_cons, List.foldr_cons]
     refine Nat.mul_pos (Nat.pow_pos ?_) ih
     obtain ⟨t, htq⟩ := List.exists_mem_of_length_pos h0
     exact List.length_pos_of_mem (mem_uniq.2 (mem_map.2 ⟨t, htq, rfl⟩))
   exact this M
 | n + 1, Q, M, L, hL, hn, ht, hm, hc => by
  have hm0 : ∀ p ∈ M, p.2 ≠ [] := λ p hp e => by
   have := hm p hp
   rw [e] at this
   simp at this
  have hx : ∀ x ∈ nB Q, (cU Q x).length ^ L <= aOf Q M * nJ x (rZ Q M) := λ x _ => by
   refine Nat.le_trans (Fd (n := n) (M := M.map λ p => (p.1, p.2.tail)) hL (BC hn x) (λ t h => ?_) (λ p h => ?_) (λ v hv => ?_)) (xM hm0)
   ·have := ht _ (mem_tails.1 h)
    simpa using this
   ·obtain ⟨q, hq, rfl⟩ := mem_map.1 h
    have := hm q hq
    simp [this]
   ·rw [A6 hm0]
    exact hc (v + 1) (by omega)
  have h1 := O3 hL (by rw [yj]; exact hc 0 (by omega)) hx
  have h2 : Q.length <= fG (nB Q) (λ x => (cU Q x).length) := Hv (λ t h e => by
   have := ht t h
   rw [e] at this
   simp at this) λ x h => h
  exact Nat.le_trans (pow_le_pow_left h2 L) (Nat.le_trans h1 (Cs hm0))
end
def nG (p : Nat) : Col := λ l => if l = p then 1 else 0
theorem DX {v : Col} {F : List Nat -> Rat} : ∀ (rows pre : List Nat), (∀ r ∈ rows, v r = 0) -> ex v F pre rows = 0
 | [], _, _ => rfl
 | r :: post, pre, h => by rw [ex, h r (by simp), DX post (r :: pre) λ x hx => h x (by simp [hx])]; grind
theorem vI : ∀ (k p : Nat), det ((List.range' p k).map nG) (List.range' p k) = 1
 | 0, p => rfl
 | k + 1, p => by
  rw [List.range'_succ, map_cons, det, ex, DX (List.range' (p + 1) k) [p] (λ r hr => by
   have := List.mem_range'.1 hr
   unfold nG
   rw [if_neg (by omega)])]
  show nG p p * det ((List.range' (p + 1) k).map nG) ([].reverse ++ List.range' (p + 1) k) - 0 = 1
  rw [reverse_nil, nil_append, vI k (p + 1)]
  unfold nG
  rw [if_pos rfl]
  grind
theorem Fg {f : Nat -> Rat} : ∀ {n : Nat}, Sm n f ≠ 0 -> ∃ i, i < n /\ f i ≠ 0
 | 0, h => absurd rfl h
 | n + 1, h => by
  by_cases hf : f n = 0
  ·obtain ⟨i, hi, h2⟩ := Fg (n := n) (f := f) (λ e => h (by unfold Sm; rw [e, hf]; grind))
   exact ⟨i, by omega, h2⟩
  ·exact ⟨n, by omega, hf⟩
theorem vh {α : Type} [DecidableEq α] : ∀ {l : List α}, ¬ l.Nodup -> ∃ asq v bs, l = asq ++ v :: bs /\ v ∈ asq ++ bs
 | [], h => absurd nodup_nil h
 | a :: r, h => by
  by_cases ha : a ∈ r
  ·exact ⟨[], a, r, rfl, by simpa using ha⟩
  ·obtain ⟨asq, v, bs, e, hv⟩ := vh (l := r) λ q => h (nodup_cons.2 ⟨ha, q⟩)
   exact ⟨a :: asq, v, bs, by rw [e]; rfl, by rw [cons_append]; exact List.mem_cons_of_mem _ hv⟩
theorem Fl {α : Type} [DecidableEq α] : ∀ {l m : List α}, l.Nodup -> (∀ x ∈ l, x ∈ m) -> l.length = m.length -> l.Perm m
 | [], m, _, _, hl => by
  have := List.eq_nil_of_length_eq_zero hl.symm
  rw [this]
 | a :: r, m, hn, hs, hl => by
  obtain ⟨h1, h2⟩ := nodup_cons.1 hn
  have ha := hs a (by simp)
  have h3 := Fl (l := r) (m := m.erase a) h2 (λ x hx => by
   refine (List.mem_erase_of_ne ?_).2 (hs x (by simp [hx]))
   rintro rfl
   exact h1 hx) (by rw [List.length_erase_of_mem ha]; simp at hl; omega)
  exact (h3.cons a).trans (List.perm_cons_erase ha).symm
theorem Q9 {B : Nat -> Col} {m : Nat} (h : ∀ r, r < m -> ∃ y : Nat -> Rat, ∀ l, nG r l = Sm m λ i => y i * B i l) : det (cK B m) (List.range m) ≠ 0 := by
 have key : ∀ p, p <= m -> ∃ fs : List Nat, fs.length = p /\ (∀ i ∈ fs, i < m) /\ det (fs.map B ++ (List.range' p (m - p)).map nG) (List.range m) ≠ 0 := by
  intro p
  induction p with
  | zero =>
   intro _
   refine ⟨[], rfl, by simp, ?_⟩
   have := vI m 0
   rw [<- List.range_eq_range'] at this
   rw [map_nil, nil_append, Nat.sub_zero, <- List.range_eq_range', this]
   decide
  | succ p ih =>
   intro hp
   obtain ⟨fs, h1, h2, h3⟩ := ih (by omega)
   have e : m - p = (m - (p + 1)) + 1 := by omega
   rw [e, List.range'_succ, map_cons] at h3
   obtain ⟨y, hy⟩ := h p (by omega)
   have e2 : nG p = λ l => Sm m λ i => y i * B i l := funext hy
   rw [e2, Es] at h3
   obtain ⟨i, hi, hne⟩ := Fg h3
   refine ⟨fs ++ [i], by simp [h1], λ k hk => ?_, λ h0 => hne ?_⟩
   ·rcases mem_append.1 hk with hk | hk
    ·exact h2 k hk
    ·simp at hk; omega
   ·rw [map_append, append_assoc] at h0
    simp only [map_cons, map_nil, cons_append, nil_append] at h0
    rw [h0]; grind
 obtain ⟨fs, h1, h2, h3⟩ := key m (Nat.le_refl _)
 rw [sub_self, List.range'_zero, map_nil, append_nil] at h3
 have hn : fs.Nodup := Classical.byContradiction λ hn => h3 (by
  obtain ⟨asq, v, bs, e, hv⟩ := vh hn
  rw [e, map_append, map_cons]
  refine El ?_ _
  rw [<- map_append]
  exact mem_map.2 ⟨v, hv, rfl⟩)
 have hp : fs.Perm (List.range m) := Fl hn (λ x hx => mem_range.2 (h2 x hx)) (by rw [h1, List.length_range])
 obtain ⟨s, _, hs⟩ := If (hp.map B)
 intro h0
 exact h3 (by
  have := hs (List.range m)
  unfold cK at h0
  rw [h0] at this
  rename_i s0
  rcases mul_eq_zero.1 this.symm with e | e
  ·contradiction
  ·exact e)
def PGr (g : Nat -> Rat) : Nat -> Rat
 | 0 => 1
 | n + 1 => PGr g n * g n
theorem yW {g : Nat -> Rat} (h : ∀ i, 1 <= g i) : ∀ n, 1 <= PGr g n
 | 0 => by rw [PGr]; grind
 | n + 1 => by
  rw [PGr]
  have h1 := yW h n
  have h2 := mul_le_mul_of_nonneg_left (h n) (show 0 <= PGr g n by grind)
  grind
theorem eW (rows : List Nat) (ws : List Col) : ∀ vs, fH (vs ++ ws) rows = fH vs rows * fH ws rows
 | [] => by show fH ws rows = 1 * _; grind
 | v :: vs => by show nrm v rows * fH (vs ++ ws) rows = nrm v rows * fH vs rows * _; rw [eW rows ws vs]; grind
theorem uf (B : Nat -> Col) (n : Nat) : cK B (n + 1) = cK B n ++ [B n] := by unfold cK; rw [range_succ, map_append]; rfl
theorem qe (B : Nat -> Col) (n : Nat) : (cK B n).length = n := by simp [cK]
theorem qm {B : Nat -> Col} {g : Nat -> Rat} {rows : List Nat} (hg : ∀ i, 1 <= g i) : ∀ {n}, (∀ i, i < n -> nrm (B i) rows <= g i) -> fH (cK B n) rows <= PGr g n
 | 0, _ => by show (1 : Rat) <= 1; grind
 | n + 1, h => by
  rw [uf, eW, PGr]
  have ih := qm (B := B) (rows := rows) hg (n := n) λ i hi => h i (by omega)
  show _ * (nrm (B n) rows * 1) <= _
  have h1 := mul_le_mul_of_nonneg_right ih (db (B n) rows)
  have h2 := mul_le_mul_of_nonneg_left (h n (by omega)) (show 0 <= PGr g n by have := yW hg n; grind)
  grind
theorem zo {B : Nat -> Col} {g : Nat -> Rat} {rows : List Nat} {c : Col} (hg : ∀ i, 1 <= g i) : ∀ {n i}, i < n -> (∀ i, i < n -> nrm (B i) rows <= g i) -> fH (BR B n i c) rows <= nrm c rows * PGr g n
 | 0, i, hi, _ => by omega
 | n + 1, i, hi, h => by
  unfold BR
  rw [uf]
  have h0 := yW hg n
  by_cases e : i = n
  ·subst e
   rw [List.set_append_right _ _ (by rw [qe]; exact Nat.le_refl _), qe, sub_self, List.set_cons_zero, eW, PGr]
   have h1 := qm (B := B) (rows := rows) hg (n := i) λ k hk => h k (by omega)
   show _ * (nrm c rows * 1) <= _
   have h2 := mul_le_mul_of_nonneg_right h1 (db c rows)
   have h3 := mul_le_mul_of_nonneg_left (hg i) (show 0 <= nrm c rows * PGr g i from mul_nonneg (db c rows) (by grind))
   grind
  ·rw [List.set_append_left _ _ (by rw [qe]; omega), eW, PGr]
   have ih := zo (B := B) (rows := rows) (c := c) hg (n := n) (i := i) (by omega) λ k hk => h k (by omega)
   unfold BR at ih
   show _ * (nrm (B n) rows * 1) <= _
   have h2 := mul_le_mul_of_nonneg_right ih (db (B n) rows)
   have h3 := mul_le_mul_of_nonneg_left (h n (by omega)) (show 0 <= nrm c rows * PGr g n from mul_nonneg (db c rows) (by grind))
   grind
theorem wz {b : Nat -> Nat} {n : Nat} : ∀ {m}, PGr (λ i => if b i < n then 3 else 1) m = (3 : Rat) ^ ((List.range m).filter λ i => decide (b i < n)).length
 | 0 => by rw [PGr]; simp
 | m + 1 => by
  rw [PGr, wz (m := m), range_succ, List.filter_append, length_append]
  by_cases h : b m < n
  ·rw [if_pos h]
   simp [h, Rat.pow_succ]
  ·rw [if_neg h]
   simp [h]
theorem pB {a b : Nat} (h : a <= b) : (3 : Rat) ^ a <= 3 ^ b := by
 obtain ⟨d, rfl⟩ := Nat.exists_eq_add_of_le h
 rw [s7]
 have h1 : (1 : Rat) <= 3 ^ d := by
  have := sj (x := 1) (y := 3) (by decide) (by decide) d
  rw [oN] at this
  exact this
 have := mul_le_mul_of_nonneg_left h1 (bS (x := 3) (by decide) a)
 grind
theorem EQ {b : Nat -> Nat} {n m : Nat} (hi : ∀ i i', i < m -> i' < m -> b i < n -> b i = b i' -> i = i') : ((List.range m).filter λ i => decide (b i < n)).length <= n := by
 have h1 : (((List.range m).filter λ i => decide (b i < n)).map b).Nodup := by
  have hn : ((List.range m).filter λ i => decide (b i < n)).Nodup := nodup_range.filter _
  have hm : ∀ i ∈ (List.range m).filter (λ i => decide (b i < n)), i < m /\ b i < n := λ i h => by
   obtain ⟨h1, h2⟩ := mem_filter.1 h
   exact ⟨mem_range.1 h1, by simpa using h2⟩
  generalize (List.range m).filter (λ i => decide (b i < n)) = l at *
  induction l with
  | nil => exact nodup_nil
  | cons a r ih =>
   obtain ⟨q1, q2⟩ := nodup_cons.1 hn
   rw [map_cons]
   refine nodup_cons.2 ⟨λ hx => ?_, ih q2 λ i h => hm i (by simp [h])⟩
   obtain ⟨k, hk, e⟩ := mem_map.1 hx
   have h2 := hm a (by simp)
   have h3 := hm k (by simp [hk])
   have := hi a k h2.1 h3.1 h2.2 e.symm
   subst this
   exact q1 hk
 have := iE (m := List.range n) h1 λ x hx => by
  obtain ⟨k, hk, rfl⟩ := mem_map.1 hx
  exact mem_range.2 (by simpa using (mem_filter.1 hk).2)
 simpa using this
def cB (T0 : Nat -> Nat -> Rat) (m w : Nat) (b : Nat -> Nat) (i : Nat) : Col := λ l => if l < m then (if b i < w then T0 l (b i) else if l = b i - w then 1 else 0) else 0
def Rep0 (T0 : Nat -> Nat -> Rat) (m w : Nat) (t : QT) : Prop := ∀ l, l < m -> ∀ k, k <= w -> T0 l k = Sm m λ i => cB T0 m w t.b i l * t.T i k
theorem uQ {f : Nat -> Rat} {r : Nat} : ∀ {n}, r < n -> Sm n f = Sm n (λ i => if i = r then 0 else f i) + f r
 | 0, h => by omega
 | n + 1, h => by
  unfold Sm
  by_cases e : r = n
  ·subst e
   show Sm r f + f r = Sm r (λ i => if i = r then 0 else f i) + (if r = r then 0 else f r) + f r
   rw [if_pos rfl, ay (g := λ i => if i = r then 0 else f i) (n := r) λ i hi => by rw [if_neg (show ¬ i = r by omega)]]
   grind
  ·show Sm n f + f n = Sm n (λ i => if i = r then 0 else f i) + (if n = r then 0 else f n) + f r
   rw [uQ (n := n) (f := f) (r := r) (by omega), if_neg (by omega)]
   grind
theorem Ik (f g : Nat -> Rat) (n : Nat) : Sm n (λ i => f i - g i) = Sm n f - Sm n g := by
 have h := iL f (λ i => (-1) * g i) n
 rw [dl] at h
 have e : Sm n (λ i => f i - g i) = Sm n (λ i => f i + (-1) * g i) := ay λ i _ => by grind
 rw [e, h]; grind
theorem Rep0.piv {T0 : Nat -> Nat -> Rat} {m w : Nat} {t : QT} {r j : Nat} (h : Rep0 T0 m w t) (hr : r < m) (hj : j < w) (hp : t.T r j ≠ 0) : Rep0 T0 m w (cy t r j) := by
 intro l hl k hk
 have h1 := h l hl k hk
 have h2 := h l hl j (by omega)
 obtain ⟨q, hq⟩ : ∃ q, t.T r k / t.T r j = q := ⟨_, rfl⟩
 have hq' : q * t.T r j = t.T r k := by rw [<- hq]; exact div_mul_cancel hp
 have e1 : Sm m (λ i => cB T0 m w (cy t r j).b i l * (cy t r j).T i k) = Sm m (λ i => if i = r then 0 else cB T0 m w t.b i l * t.T i k - q * (cB T0 m w t.b i l * t.T i j)) + T0 l j * q := by
  rw [uQ hr]
  congr 1
  ·refine ay λ i _ => ?_
   by_cases e : i = r
   ·rw [if_pos e, if_pos e]
   ·rw [if_neg e, if_neg e]
    have e3 : cB T0 m w (cy t r j).b i l = cB T0 m w t.b i l := by unfold cB cy; simp only [if_neg e]
    have e4 : (cy t r j).T i k = t.T i k - t.T i j * q := by rw [<- hq]; unfold cy; simp only [if_neg e]
    rw [e3, e4]; grind
  ·have e3 : cB T0 m w (cy t r j).b r l = T0 l j := by unfold cB cy; simp [hl, hj]
   have e4 : (cy t r j).T r k = q := by rw [<- hq]; unfold cy; simp
   rw [e3, e4]
 rw [e1]
 have e2 : Sm m (λ i => if i = r then 0 else cB T0 m w t.b i l * t.T i k - q * (cB T0 m w t.b i l * t.T i j)) = (T0 l k - cB T0 m w t.b r l * t.T r k) - q * (T0 l j - cB T0 m w t.b r l * t.T r j) := by
  have h3 := uQ (f := λ i => cB T0 m w t.b i l * t.T i k - q * (cB T0 m w t.b i l * t.T i j)) hr
  have h4 : Sm m (λ i => cB T0 m w t.b i l * t.T i k - q * (cB T0 m w t.b i l * t.T i j)) = T0 l k - q * T0 l j := by
   rw [Ik, dl, <- h1, <- h2]
  rw [h4] at h3
  grind
 rw [e2]
 grind
structure Zero1 (T0 : Nat -> Nat -> Rat) (n m w : Nat) (R : Rat) : Prop where
 hw : w = n + m
 slack : ∀ l r, l < m -> r < m -> T0 l (n + r) = if l = r then -1 else 0
 int : ∀ l k, l < m -> k <= w -> IsI (T0 l k)
 low : ∀ k, k < n -> nrm (λ l => if l < m then T0 l k else 0) (List.range m) <= 3
 rhs : nrm (λ l => if l < m then T0 l w else 0) (List.range m) <= R
theorem xe {v : Col} {p : Nat} (h0 : ∀ r, r ≠ p -> v r = 0) (h1 : bZ (v p) <= 1) : ∀ {rows : List Nat}, rows.Nodup -> nrm v rows <= 1
 | [], _ => by rw [nrm]; decide
 | r :: l, hn => by
  obtain ⟨q1, q2⟩ := nodup_cons.1 hn
  rw [nrm]
  by_cases e : r = p
  ·subst e
   have : nrm v l = 0 := by
    clear hn q2
    induction l with
    | nil => rfl
    | cons s l ih =>
     rw [nrm, h0 s (λ e => q1 (by simp [e])), ih λ h => q1 (by simp [h])]
     unfold bZ; split <;> grind
   rw [this]; grind
  ·rw [h0 r e]
   have := xe h0 h1 q2
   unfold bZ
   split <;> grind
theorem IsI.zero : IsI 0 := ⟨0, rfl⟩
theorem IsI.one : IsI 1 := ⟨1, rfl⟩
section
variable {T0 : Nat -> Nat -> Rat} {n m w : Nat} {R : Rat} {t : QT}
theorem vn (Z : Zero1 T0 n m w R) {r : Nat} (hr : r < m) : nrm (λ l => if l < m then T0 l (n + r) else 0) (List.range m) <= 1 := by
 refine xe (p := r) (λ l hl => ?_) ?_ nodup_range
 ·show (if l < m then T0 l (n + r) else 0) = 0
  split
  ·rename_i h; rw [Z.slack l r h hr, if_neg hl]
  ·rfl
 ·show bZ (if r < m then T0 r (n + r) else 0) <= 1
  rw [if_pos hr, Z.slack r r hr hr, if_pos rfl]
  unfold bZ; split <;> grind
theorem oZ (Z : Zero1 T0 n m w R) (b : Nat -> Nat) (i : Nat) : nrm (cB T0 m w b i) (List.range m) <= if b i < n then 3 else 1 := by
 by_cases h1 : b i < n
 ·rw [if_pos h1]
  have e : cB T0 m w b i = λ l => if l < m then T0 l (b i) else 0 := by
   funext l
   have hw := Z.hw
   unfold cB
   rw [if_pos (show b i < w by omega)]
  rw [e]; exact Z.low _ h1
 ·rw [if_neg h1]
  by_cases h2 : b i < w
  ·have e : cB T0 m w b i = λ l => if l < m then T0 l (n + (b i - n)) else 0 := by
    funext l; unfold cB; rw [if_pos h2]
    have : n + (b i - n) = b i := by omega
    rw [this]
   rw [e]; exact vn Z (by have := Z.hw; omega)
  ·refine xe (p := b i - w) (λ l hl => ?_) ?_ nodup_range
   ·unfold cB; rw [if_neg h2, if_neg hl]; split <;> rfl
   ·unfold cB; rw [if_neg h2, if_pos rfl]; split <;> (unfold bZ; split <;> grind)
theorem y9 (Z : Zero1 T0 n m w R) (b : Nat -> Nat) (i l : Nat) : IsI (cB T0 m w b i l) := by
 unfold cB
 split
 ·rename_i hl
  split
  ·rename_i h; exact Z.int l _ hl (by omega)
  ·split
   ·exact .one
   ·exact .zero
 ·exact .zero
theorem Ed {z : Int} : bZ (z : Rat) = ((z.natAbs : Nat) : Rat) := by
 rcases Int.le_total 0 z with h | h
 ·rw [dC (by exact_mod_cast h)]
  have : (z.natAbs : Int) = z := by omega
  exact_mod_cast this.symm
 ·rw [fu (by exact_mod_cast h)]
  have : (z.natAbs : Int) = -z := by omega
  have h2 : ((z.natAbs : Nat) : Rat) = (((z.natAbs : Nat) : Int) : Rat) := by push_cast; rfl
  rw [h2, this]; push_cast; rfl
theorem Md (Z : Zero1 T0 n m w R) (h : Rep0 T0 m w t) (hi : ∀ i i', i < m -> i' < m -> t.b i < w -> t.b i = t.b i' -> i = i') : ∃ d : Int, 1 <= d /\ (d : Rat) = bZ (det (cK (cB T0 m w t.b) m) (List.range m)) /\ (d : Rat) <= 3 ^ n /\
  ∀ i, i < m -> ∀ k, k <= w -> ∃ z : Int, t.T i k * d = z /\ bZ (z : Rat) <= (if k < w then 3 else R) * 3 ^ n := by
 have hrows : ∀ i, 1 <= (if t.b i < n then (3 : Rat) else 1) := λ i => by split <;> grind
 have hP : PGr (λ i => if t.b i < n then 3 else 1) m <= 3 ^ n := by
  rw [wz]
  exact pB (EQ λ i i' h1 h2 h3 h4 => hi i i' h1 h2 (by have := Z.hw; omega) h4)
 have hD := qm (B := cB T0 m w t.b) (rows := List.range m) hrows (n := m) λ i _ => oZ Z t.b i
 have hne : det (cK (cB T0 m w t.b) m) (List.range m) ≠ 0 := by
  refine Q9 λ r hr => ⟨λ i => - t.T i (n + r), λ l => ?_⟩
  have hw := Z.hw
  by_cases hl : l < m
  ·have h1 := h l hl (n + r) (by omega)
   rw [Z.slack l r hl hr] at h1
   have e : Sm m (λ i => - t.T i (n + r) * cB T0 m w t.b i l) = (-1) * Sm m (λ i => cB T0 m w t.b i l * t.T i (n + r)) := by
    rw [<- dl]; exact ay λ i _ => by grind
   rw [e, <- h1]
   unfold nG
   split <;> grind
  ·have e : Sm m (λ i => - t.T i (n + r) * cB T0 m w t.b i l) = Sm m (λ _ => 0) := ay λ i _ => by
    unfold cB; rw [if_neg hl]; grind
   rw [e, bJ]
   unfold nG
   rw [if_neg (by omega)]
 obtain ⟨D, hDz⟩ := x7 (vs := cK (cB T0 m w t.b) m) (λ v hv r => by
  obtain ⟨i, _, rfl⟩ := mem_map.1 hv
  exact y9 Z t.b i r) (List.range m)
 have hDle := Rat.le_trans (Rat.le_trans (xD (cK (cB T0 m w t.b) m) (List.range m)) hD) hP
 have hcr : ∀ i, i < m -> ∀ k, k <= w -> ∃ z : Int, t.T i k * (D : Rat) = z /\ bZ (z : Rat) <= (if k < w then 3 else R) * 3 ^ n := by
  intro i him k hk
  have hc := Q8 (B := cB T0 m w t.b) (x := λ i => t.T i k) (c := λ l => if l < m then T0 l k else 0) (n := m) (λ l => by
   by_cases hl : l < m
   ·simp only [if_pos hl]
    rw [h l hl k hk]
    exact ay λ i _ => by grind
   ·simp only [if_neg hl]
    have e : Sm m (λ i => t.T i k * cB T0 m w t.b i l) = Sm m (λ _ => 0) := ay λ i _ => by
     unfold cB; rw [if_neg hl]; grind
    rw [e, bJ]) him (List.range m)
  obtain ⟨z, hz⟩ := x7 (vs := BR (cB T0 m w t.b) m i (λ l => if l < m then T0 l k else 0)) (λ v hv r => by
   rcases List.mem_or_eq_of_mem_set hv with hv | rfl
   ·obtain ⟨i, _, rfl⟩ := mem_map.1 hv
    exact y9 Z t.b i r
   ·show IsI (if r < m then T0 r k else 0)
    split
    ·rename_i hr; exact Z.int r k hr hk
    ·exact .zero) (List.range m)
  rw [hDz] at hc
  refine ⟨z, by rw [<- hz, hc], ?_⟩
  rw [<- hz]
  have h1 := zo (B := cB T0 m w t.b) (rows := List.range m) (c := λ l => if l < m then T0 l k else 0) hrows him λ i _ => oZ Z t.b i
  have h2 : nrm (λ l => if l < m then T0 l k else 0) (List.range m) <= if k < w then 3 else R := by
   by_cases hkw : k < w
   ·rw [if_pos hkw]
    by_cases hkn : k < n
    ·exact Z.low k hkn
    ·have hw := Z.hw
     have := vn Z (r := k - n) (by omega)
     have e : n + (k - n) = k := by omega
     rw [e] at this
     exact Rat.le_trans this (by decide)
   ·rw [if_neg hkw]
    have e : k = w := by omega
    rw [e]; exact Z.rhs
  have h0 := db (λ l => if l < m then T0 l k else 0) (List.range m)
  have h3 := mul_le_mul_of_nonneg_left hP h0
  have h4 := mul_le_mul_of_nonneg_right h2 (bS (x := 3) (by decide) n)
  exact Rat.le_trans (xD _ _) (Rat.le_trans h1 (Rat.le_trans h3 h4))
 rw [hDz] at hne hDle ⊢
 have hD0 : D ≠ 0 := λ e => hne (by rw [e]; rfl)
 rcases Int.lt_or_gt_of_ne hD0 with hneg | hpos
 ·have hab : bZ (D : Rat) = ((-D : Int) : Rat) := by rw [fu (by exact_mod_cast Int.le_of_lt hneg)]; push_cast; rfl
  refine ⟨-D, by omega, hab.symm, ?_, λ i him k hk => ?_⟩
  ·rw [<- hab]; exact hDle
  ·obtain ⟨z, h1, h2⟩ := hcr i him k hk
   refine ⟨-z, by push_cast; rw [<- h1]; grind, ?_⟩
   have : bZ ((-z : Int) : Rat) = bZ (z : Rat) := by rw [Ed, Ed]; congr 1; omega
   rw [this]; exact h2
 ·have hab : bZ (D : Rat) = (D : Rat) := dC (by exact_mod_cast Int.le_of_lt hpos)
  refine ⟨D, by omega, hab.symm, ?_, λ i him k hk => hcr i him k hk⟩
  rw [<- hab]; exact hDle
end
def Bd (N D : Nat) (f : Fr) : Prop := aj f /\ f.N.natAbs <= N /\ f.D.natAbs <= D
theorem Bd.mono {N D N' D' : Nat} {f : Fr} (h : Bd N D f) (h1 : N <= N') (h2 : D <= D') : Bd N' D' f := ⟨h.1, Nat.le_trans h.2.1 h1, Nat.le_trans h.2.2 h2⟩
theorem t7 {n d : Int} (hd : 1 <= d) (hn : n.natAbs <= 1000000000000000) (hdd : d.natAbs <= 1000000000000000) : ∃ p, toO (oG n d) = some p := by
 have g1 : 0 < Int.gcd n d := Int.gcd_pos_of_ne_zero_right _ (by omega)
 obtain ⟨x, hx⟩ := Int.gcd_dvd_left n d
 obtain ⟨y, hy⟩ := Int.gcd_dvd_right n d
 unfold oG
 generalize hg : Int.gcd n d = g at *
 have q1 : n.tdiv g = x := by rw [hx, Int.mul_tdiv_cancel_left _ (by omega)]
 have q2 : d.tdiv g = y := by rw [hy, Int.mul_tdiv_cancel_left _ (by omega)]
 rw [q1, q2]
 have hx1 : x.natAbs <= n.natAbs := by rw [hx, natAbs_mul, Int.natAbs_natCast]; exact le_mul_of_pos_left _ g1
 have hy1 : y.natAbs <= d.natAbs := by rw [hy, natAbs_mul, Int.natAbs_natCast]; exact le_mul_of_pos_left _ g1
 unfold toO mo
 rw [if_pos (⟨by unfold InR; omega, by unfold InR; omega⟩ : InR x /\ InR y)]
 exact ⟨_, rfl⟩
theorem lS {f : Fr} {d z : Int} {N D : Nat} (hf : aj f) (h : V f * (d : Rat) = (z : Rat)) (hd : 1 <= d) (hD : d.natAbs <= D) (hN : z.natAbs <= N) : Bd N D f := by
 obtain ⟨h1, h2, h3, h4⟩ := id hf
 have c1 := cq h1
 have c2 : (f.D : Rat) ≠ 0 := by grind
 have hc : (f.N : Rat) * (d : Rat) = (z : Rat) * (f.D : Rat) := by
  unfold V at h
  have h5 := div_mul_cancel (a := (f.N : Rat)) c2
  rw [<- h]
  grind
 have hi : f.N * d = z * f.D := by
  have h5 : ((f.N * d : Int) : Rat) = ((z * f.D : Int) : Rat) := by push_cast; exact hc
  exact_mod_cast h5
 have hdv : f.D ∣ d := l6 (b := f.N) ⟨z, by rw [hi, Int.mul_comm]⟩ h4
 obtain ⟨e, he⟩ := hdv
 have he0 : e ≠ 0 := by rintro rfl; omega
 have hz : z = f.N * e := by
  have h5 : (f.N * e) * f.D = z * f.D := by rw [<- hi, he, Int.mul_assoc, Int.mul_comm e]
  exact (Int.eq_of_mul_eq_mul_right (by omega) h5).symm
 have he1 : 0 < e.natAbs := Int.natAbs_pos.2 he0
 refine ⟨hf, ?_, ?_⟩
 ·have : f.N.natAbs <= z.natAbs := by rw [hz, natAbs_mul]; exact Nat.le_mul_of_pos_right _ he1
  omega
 ·have : f.D.natAbs <= d.natAbs := by rw [he, natAbs_mul]; exact Nat.le_mul_of_pos_right _ he1
  omega
theorem iO {x y : Int} {a b : Nat} (hx : x.natAbs <= a) (hy : y.natAbs <= b) : (x * y).natAbs <= a * b := by
 rw [natAbs_mul]; exact mul_le_mul hx hy
theorem vB {a b : Fr} (ha : aj a) (hb : aj b) : 1 <= a.D * b.D := by
 have := Int.mul_pos (show 0 < a.D by have := ha.1; omega) (show 0 < b.D by have := hb.1; omega)
 omega
theorem qG {a b : Fr} {N1 D1 N2 D2 : Nat} (ha : Bd N1 D1 a) (hb : Bd N2 D2 b) (h1 : N1 * N2 <= 1000000000000000) (h2 : D1 * D2 <= 1000000000000000) : ∃ p, nr a b = some p /\ Bd (N1 * N2) (D1 * D2) p := by
 have hn := iO ha.2.1 hb.2.1
 have hd := iO ha.2.2 hb.2.2
 have h3 := vB ha.1 hb.1
 obtain ⟨p, hp⟩ := t7 h3 (Nat.le_trans hn h1) (Nat.le_trans hd h2)
 have hm : nr a b = some p := by unfold nr lC; rw [if_pos ⟨ha.1, hb.1⟩]; exact hp
 refine ⟨p, hm, lS (d := a.D * b.D) (z := a.N * b.N) (kH hm).2.2.1 ?_ h3 hd hn⟩
 rw [(tu h3 hp).1]
 have c := cq h3
 have c0 : ((a.D * b.D : Int) : Rat) ≠ 0 := by grind
 exact div_mul_cancel c0
theorem Hw {a b : Fr} {N1 D1 N2 D2 : Nat} (ha : Bd N1 D1 a) (hb : Bd N2 D2 b) (h1 : N1 * D2 + N2 * D1 <= 1000000000000000) (h2 : D1 * D2 <= 1000000000000000) : ∃ p, Ho a b = some p := by
 have hn1 := iO ha.2.1 hb.2.2
 have hn2 := iO hb.2.1 ha.2.2
 have hd := iO ha.2.2 hb.2.2
 have h3 := vB ha.1 hb.1
 have hn : (a.N * b.D + -b.N * a.D).natAbs <= N1 * D2 + N2 * D1 := by
  have e : -b.N * a.D = -(b.N * a.D) := by rw [Int.neg_mul]
  rw [e]
  omega
 obtain ⟨p, hp⟩ := t7 h3 (Nat.le_trans hn h1) (Nat.le_trans hd h2)
 have hv : aj ⟨-b.N, b.D⟩ := by
  obtain ⟨b1, b2, b3, b4⟩ := hb.1
  exact ⟨b1, b2, by unfold InR at *; exact ⟨by show _ <= -b.N; omega, by show -b.N <= _; omega⟩, by show Int.gcd (-b.N) b.D = 1; rw [Int.neg_gcd]; exact b4⟩
 refine ⟨p, ?_⟩
 unfold Ho Cu
 rw [kO hb.1]
 unfold nA
 rw [if_pos ⟨ha.1, hv⟩]
 exact hp
theorem vH {a b : Fr} {N1 D1 N2 D2 : Nat} (ha : Bd N1 D1 a) (hb : Bd N2 D2 b) (h0 : b.N ≠ 0) (h1 : N1 * D2 <= 1000000000000000) (h2 : D1 * N2 <= 1000000000000000) : ∃ p, pg a b = some p := by
 obtain ⟨⟨b1, b2, b3, b4⟩, c2, c3⟩ := id hb
 unfold InR at b3
 unfold pg qy
 rw [if_pos ⟨hb.1, h0⟩]
 split
 ·have hv : Bd D2 N2 ⟨-b.D, -b.N⟩ := by
   refine ⟨⟨by show 1 <= -b.N; omega, by show -b.N <= _; omega, by unfold InR; exact ⟨by show _ <= -b.D; omega, by show -b.D <= _; omega⟩, ?_⟩, by show (-b.D).natAbs <= _; omega, by show (-b.N).natAbs <= _; omega⟩
   show Int.gcd (-b.D) (-b.N) = 1
   rw [Int.neg_gcd, Int.gcd_neg, Int.gcd_comm]; exact b4
  obtain ⟨p, hp, _⟩ := qG ha hv h1 h2
  exact ⟨p, hp⟩
 ·have hv : Bd D2 N2 ⟨b.D, b.N⟩ := by
   refine ⟨⟨by show 1 <= b.N; omega, by show b.N <= _; omega, by unfold InR; exact ⟨by show _ <= b.D; omega, by show b.D <= _; omega⟩, ?_⟩, c3, c2⟩
   show Int.gcd b.D b.N = 1
   rw [Int.gcd_comm]; exact b4
  obtain ⟨p, hp, _⟩ := qG ha hv h1 h2
  exact ⟨p, hp⟩
theorem oS {a f b : Fr} {Na Da Nf Df Nb Db : Nat} (ha : Bd Na Da a) (hf : Bd Nf Df f) (hb : Bd Nb Db b) (h1 : Nf * Nb <= 1000000000000000) (h2 : Df * Db <= 1000000000000000) (h3 : Na * (Df * Db) + (Nf * Nb) * Da <= 1000000000000000) (h4 : Da * (Df * Db) <= 1000000000000000) : (mnP a f b).2 = false := by
 obtain ⟨p, hp, hpb⟩ := qG hf hb h1 h2
 obtain ⟨q, hq⟩ := Hw ha hpb h3 h4
 have hm : mnO a f b = some q := by unfold mnO; rw [hp]; exact hq
 unfold mnP
 rw [hm]
theorem Kc {a p : Fr} {N1 D1 N2 D2 : Nat} (ha : Bd N1 D1 a) (hb : Bd N2 D2 p) (h0 : p.N ≠ 0) (h1 : N1 * D2 <= 1000000000000000) (h2 : D1 * N2 <= 1000000000000000) : (dvP a p).2 = false := by
 obtain ⟨q, hq⟩ := vH ha hb h0 h1 h2
 unfold dvP
 rw [hq]
theorem pQ {g : Nat -> Bool} : ∀ {n : Nat}, (∀ k, k < n -> g k = false) -> fF n g = false := λ {n} h => by
 unfold fF
 rw [List.any_eq_false]
 intro k hk
 simpa using h k (mem_range.1 hk)
def d3 (a b c d e f g h i : Int) : Int := a * (e * i - h * f) - b * (d * i - g * f) + c * (d * h - g * e)
def b2 (x : Bool) : Int := if x then 1 else 0
theorem Uf : ∀ a b c d e f g h i : Bool, (d3 (b2 a) (b2 b) (b2 c) (b2 d) (b2 e) (b2 f) (b2 g) (b2 h) (b2 i)).natAbs <= 2 := by decide +kernel
def Bin (v : Col) : Prop := ∀ r, v r = 0 ∨ v r = 1
theorem Bin.at {v : Col} (h : Bin v) (r : Nat) : ∃ x : Bool, v r = ((b2 x : Int) : Rat) := by
 rcases h r with e | e
 ·exact ⟨false, by rw [e]; rfl⟩
 ·exact ⟨true, by rw [e]; rfl⟩
theorem G9 {u v w : Col} (hu : Bin u) (hv : Bin v) (hw : Bin w) (p q r : Nat) : bZ (det [u, v, w] [p, q, r]) <= 2 := by
 obtain ⟨a, ha⟩ := hu.at p
 obtain ⟨b, hb⟩ := hu.at q
 obtain ⟨c, hc⟩ := hu.at r
 obtain ⟨d, hd⟩ := hv.at p
 obtain ⟨e, he⟩ := hv.at q
 obtain ⟨f, hf⟩ := hv.at r
 obtain ⟨g, hg⟩ := hw.at p
 obtain ⟨h, hh⟩ := hw.at q
 obtain ⟨i, hi⟩ := hw.at r
 have e1 : det [u, v, w] [p, q, r] = ((d3 (b2 a) (b2 b) (b2 c) (b2 d) (b2 e) (b2 f) (b2 g) (b2 h) (b2 i) : Int) : Rat) := by
  simp only [det, ex, reverse_nil, List.reverse_cons, nil_append, cons_append, append_nil, ha, hb, hc, hd, he, hf, hg, hh, hi, d3]
  push_cast
  grind
 rw [e1, Ed]
 exact_mod_cast Uf a b c d e f g h i
theorem HX {v : Col} {F : List Nat -> Rat} {b : Rat} {n : Nat} {all : List Nat} (hF : ∀ l, l.length = n -> (∀ w, nrm w l <= nrm w all) -> bZ (F l) <= b) : ∀ (rows pre : List Nat), all = pre.reverse ++ rows -> all.length = n + 1 -> bZ (ex v F pre rows) <= nrm v rows * b
 | [], _, _, _ => by rw [ex, nrm]; unfold bZ; split <;> grind
 | r :: post, pre, h, hl => by
  rw [ex, nrm]
  have h1 := HX (v := v) hF post (r :: pre) (by rw [h]; simp) hl
  have h2 := hF (pre.reverse ++ post) (by rw [h] at hl; simp at hl ⊢; omega) λ w => by
   rw [h, iT, iT]
   have : nrm w (r :: post) = bZ (w r) + nrm w post := rfl
   have := gR (w r)
   grind
  have h3 := zA (v r * F (pre.reverse ++ post)) (ex v F (r :: pre) post)
  rw [tX] at h3
  have h4 := mul_le_mul_of_nonneg_left h2 (gR (v r))
  grind
theorem D5 {ws : List Col} {b : Rat} (hb : 0 <= b) (hw : ∀ l : List Nat, l.length = ws.length -> bZ (det ws l) <= b) : ∀ (vs : List Col) (rows : List Nat), rows.length = vs.length + ws.length -> bZ (det (vs ++ ws) rows) <= fH vs rows * b
 | [], rows, h => by
  rw [nil_append, fH]
  have := hw rows (by simpa using h)
  grind
 | v :: vs, rows, h => by
  rw [cons_append, det, fH]
  have := HX (v := v) (F := det (vs ++ ws)) (n := vs.length + ws.length) (all := rows) (b := fH vs rows * b) (λ l hl hn => by
   refine Rat.le_trans (D5 hb hw vs l hl) ?_
   exact mul_le_mul_of_nonneg_right (xA hn vs) hb) rows [] rfl (by simp at h; omega)
  grind
theorem il {rows : List Nat} {c : Rat} (hc : 0 <= c) : ∀ {vs : List Col}, (∀ v ∈ vs, nrm v rows <= c) -> fH vs rows <= c ^ vs.length
 | [], _ => by rw [fH, length_nil, Rat.pow_zero]; grind
 | v :: vs, h => by
  rw [fH, length_cons, Rat.pow_succ]
  have h1 := h v (by simp)
  have h2 := il hc (vs := vs) λ w hw => h w (by simp [hw])
  have h3 := mul_le_mul_of_nonneg_right h1 (gL rows vs)
  have h4 := mul_le_mul_of_nonneg_left h2 hc
  grind
theorem KM {vs ws : List Col} (h : vs.Perm ws) : ∃ s : Rat, (s = 1 ∨ s = -1) /\ ∀ rows, det ws rows = s * det vs rows := by
 induction h with
 | nil => exact ⟨1, .inl rfl, λ _ => by grind⟩
 | cons v _ ih =>
  obtain ⟨s, h1, h2⟩ := ih
  refine ⟨s, h1, λ rows => ?_⟩
  show ex v (det _) [] rows = s * ex v (det _) [] rows
  rw [lL h2, mi]
 | swap u v l => exact ⟨-1, .inr rfl, λ rows => by rw [p7]; grind⟩
 | trans _ _ ih1 ih2 =>
  obtain ⟨s, h1, h2⟩ := ih1
  obtain ⟨t, h3, h4⟩ := ih2
  refine ⟨t * s, ?_, λ rows => by rw [h4, h2]; grind⟩
  rcases h1 with rfl | rfl
  ·rcases h3 with rfl | rfl
   ·exact .inl (by decide +kernel)
   ·exact .inr (by decide +kernel)
  ·rcases h3 with rfl | rfl
   ·exact .inr (by decide +kernel)
   ·exact .inl (by decide +kernel)
theorem GE {vs ws : List Col} (h : vs.Perm ws) (rows : List Nat) : bZ (det ws rows) = bZ (det vs rows) := by
 obtain ⟨s, hs, h2⟩ := KM h
 rw [h2, tX]
 have : bZ s = 1 := by
  rcases hs with rfl | rfl
  ·exact dC (by decide)
  ·rw [fu (by decide)]; grind
 rw [this]; grind
theorem OZ {B : Nat -> Col} {p : Nat -> Bool} {m n : Nat} (h1 : ∀ i, i < m -> p i = false -> nrm (B i) (List.range m) <= 1) (h2 : ∀ i, i < m -> p i = true -> Bin (B i) /\ nrm (B i) (List.range m) <= 3) (hk : ((List.range m).filter p).length <= 6) : bZ (det (cK B m) (List.range m)) <= 54 := by
 have hperm : ((List.range m).filter (λ i => !p i) ++ (List.range m).filter p).Perm (List.range m) :=
  (List.perm_append_comm).trans (List.filter_append_perm p _)
 have hp := hperm.map B
 rw [map_append] at hp
 rw [show cK B m = (List.range m).map B from rfl, GE hp]
 have hlow : ∀ v ∈ ((List.range m).filter p).map B, Bin v /\ nrm v (List.range m) <= 3 := λ v hv => by
  obtain ⟨i, hi, rfl⟩ := mem_map.1 hv
  obtain ⟨q1, q2⟩ := mem_filter.1 hi
  exact h2 i (mem_range.1 q1) q2
 have hhigh : ∀ v ∈ ((List.range m).filter (λ i => !p i)).map B, nrm v (List.range m) <= 1 := λ v hv => by
  obtain ⟨i, hi, rfl⟩ := mem_map.1 hv
  obtain ⟨q1, q2⟩ := mem_filter.1 hi
  exact h1 i (mem_range.1 q1) (by simpa using q2)
 have hlen : (((List.range m).filter (λ i => !p i)).map B).length + (((List.range m).filter p).map B).length = m := by
  have := hperm.length_eq
  simpa using this
 have hlk : (((List.range m).filter p).map B).length <= 6 := by simpa using hk
 generalize ((List.range m).filter (λ i => !p i)).map B = H at *
 generalize ((List.range m).filter p).map B = W at *
 have hH : fH H (List.range m) <= 1 := by
  have := il (c := 1) (by decide) hhigh
  rwa [oN] at this
 by_cases h3 : W.length <= 3
 ·
  have hb := xD (H ++ W) (List.range m)
  rw [eW] at hb
  have hW := il (c := 3) (rows := List.range m) (by decide) λ v hv => (hlow v hv).2
  have h27 : (3 : Rat) ^ W.length <= 27 := by
   have := pB h3
   have e : (3 : Rat) ^ 3 = 27 := by decide +kernel
   rw [e] at this; exact this
  have q1 := mul_le_mul_of_nonneg_right hH (gL (List.range m) W)
  grind
 ·
  obtain ⟨V, T, hVT, hT3⟩ : ∃ V T, W = V ++ T /\ T.length = 3 := ⟨W.take (W.length - 3), W.drop (W.length - 3), (List.take_append_drop _ _).symm, by rw [List.length_drop]; omega⟩
  subst hVT
  match T, hT3 with
  | [a, b, c], _ =>
   have ha := (hlow a (by simp)).1
   have hb := (hlow b (by simp)).1
   have hc := (hlow c (by simp)).1
   have h4 := D5 (ws := [a, b, c]) (b := 2) (by decide) (λ l hl => by
    match l, hl with
    | [p, q, r], _ => exact G9 ha hb hc p q r) (H ++ V) (List.range m) (by simp at hlen ⊢; omega)
   rw [append_assoc] at h4
   refine Rat.le_trans h4 ?_
   rw [eW]
   have hV := il (vs := V) (c := 3) (rows := List.range m) (by decide) λ v hv => (hlow v (by simp [hv])).2
   have h27 : (3 : Rat) ^ V.length <= 27 := by
    have := pB (show V.length <= 3 by simp at hlk; omega)
    have e : (3 : Rat) ^ 3 = 27 := by decide +kernel
    rw [e] at this; exact this
   have q1 := mul_le_mul_of_nonneg_right hH (gL (List.range m) V)
   grind
end
end Go.Proofs.YtfoipbjhaiimlaaGreatDoor