/-
  Texts joined.
-/
import Derived.Test.YtfoipbjhaiimlaaGreatDoorV4
import Derived.Test.YtfoipbjhaiimlaaGreatDoorV3
namespace Go.Proofs.YtfoipbjhaiimlaaGreatDoor
open Nat (le_of_lt_succ le_refl le_trans lt_irrefl lt_or_eq_of_le pow_succ)
open List (all_eq_true append_assoc append_nil drop_eq_getElem_cons drop_eq_nil_of_le ext_getElem getElem?_append_left getElem?_set_ne getElem?_set_self length_append length_set length_take mem_append mem_cons mem_cons_of_mem mem_cons_self mem_filterMap mem_iff_getElem mem_map mem_or_eq_of_mem_set mem_singleton nodup_cons pairwise_cons set_append_left set_append_right set_comm set_set take_of_length_le take_succ_eq_append_getElem)
open _root_.Go.Proofs.Tryz
noncomputable section
set_option maxHeartbeats 16000000
open Go.RowKit
set_option linter.unusedSimpArgs false
set_option linter.unusedVariables false
set_option maxRecDepth 100000
def oJ (k : Int) : Int := if k = 1 ∨ k = 2 ∨ k = 4 then 1 else if k = 3 then 3 else -1
def r6 : PSp := aN (λ (_ : Int) => True) (λ k => .int .i64 (oJ k))
theorem WK : PureOK prog G0 75 r6 := by
 refine bj aK ae func75 rfl rfl rfl (by kernel_rfl) (by decide) (λ k _ => ?_)
 by_cases h1 : k = 1
 ·subst h1; simp [oJ]
 by_cases h2 : k = 2
 ·subst h2; simp [oJ]
 by_cases h4 : k = 4
 ·subst h4; simp [oJ]
 by_cases h3 : k = 3
 ·subst h3; simp [oJ]
 have e : w64 (-1) = -1 := rfl
 simp [oJ, h1, h2, h3, h4, e]
def e8 (a : Atm) : Bool :=
 if ¬ oJ a.kind = a.vars.length then false else if uj a.types = false then false
 else if ¬ a.kind = 3 /\ ¬ a.types = [] then false else if ¬ a.kind = 1 /\ ¬ a.kind = 2 /\ ¬ a.name = ⟨#[]⟩ then false
 else if a.kind = 2 then cY a.v else eR a.v
def tP : PSp := aN (λ (a : Atm) => WfA a) (λ a => .bool (e8 a))
noncomputable def CFo2 : Ctx := mkC prog G0 [(75, .pure r6), (76, .pure l5), (78, .pure (dA (Enc.enc nullV))), (77, .pure u7), (79, .pure lU)]
@[simp] theorem Wb : CFo2.P = prog := rfl
@[simp] theorem WB : CFo2.G = G0 := rfl
@[simp] theorem Wl : CFo2.S 75 = .pure r6 /\ CFo2.S 76 = .pure l5 /\ CFo2.S 78 = .pure (dA (Enc.enc nullV)) /\ CFo2.S 77 = .pure u7 /\ CFo2.S 79 = .pure lU := ⟨rfl, rfl, rfl, rfl, rfl⟩
theorem LS : au CFo2 := ap (WK) func75 (ap (TW) func76 (ap (TK) func78 (ap (Vw) func77 (ap (IC) func79 (ak _ _)))))
theorem SH : PureOK prog G0 35 tP := by
 refine bj LS ae func35 rfl rfl rfl (by kernel_rfl) (by decide) (λ a hw => ?_)
 have hv := hw.v
 have htl := hw.tl
 obtain ⟨r, hr⟩ : ∃ r, e8 a = r := ⟨_, rfl⟩
 rw [hr]
 rcases em2 (oJ a.kind = (a.vars.length : Int)) with h1 | h1
 case inr =>
  have e : r = false := by rw [<- hr, e8, if_pos (of_eq_false h1)]
  subst e
  simp [r6, h1]
 have h1' := of_eq_true h1
 cases h2 : uj a.types
 ·have e : r = false := by rw [<- hr, e8, if_neg (λ h => h h1'), if_pos h2]
  subst e
  simp [r6, h1, l5, htl, h2]
 have h3 := hr
 rw [e8, if_neg (λ h => h h1'), if_neg (by rw [h2]; decide)] at h3
 have hty : (0 < (a.types.length : Int)) = True /\ (0 < a.types.length) = True /\ (a.types = []) = False ∨ (0 < (a.types.length : Int)) = False /\ (0 < a.types.length) = False /\ (a.types = []) = True := by
  rcases em2 (a.types = []) with h | h
  ·refine .inr ⟨eq_false ?_, eq_false ?_, h⟩ <;> rw [of_eq_true h] <;> decide
  ·have := List.length_pos_iff.2 (of_eq_false h)
   exact .inl ⟨eq_true (by omega), eq_true (by omega), h⟩
 have w1 : w64 1 = 1 := rfl
 rcases em2 (a.kind = 3) with k3 | k3
 ·have k1 : (a.kind = 1) = False := eq_false (by have := of_eq_true k3; omega)
  have k2 : (a.kind = 2) = False := eq_false (by have := of_eq_true k3; omega)
  rcases em2 (a.name = ⟨#[]⟩) with hm | hm
  ·simp [k1, k2, k3, hm] at h3
   subst h3
   cases hnl : eR a.v <;> simp [r6, h1, l5, htl, h2, u7, hv, k1, k2, k3, hm, hnl, w1]
  ·simp [k1, k2, k3, hm] at h3
   subst h3
   cases hnl : eR a.v <;> simp [r6, h1, l5, htl, h2, u7, hv, k1, k2, k3, hm, hnl, w1]
 rcases hty with ⟨ht, ht1, ht2⟩ | ⟨ht, ht1, ht2⟩
 ·simp [k3, ht2] at h3
  subst h3
  cases hnl : eR a.v <;> simp [r6, h1, l5, htl, h2, u7, hv, k3, ht, ht1, ht2, hnl, w1]
 rcases em2 (a.kind = 1) with k1 | k1
 ·have k2 : (a.kind = 2) = False := eq_false (by have := of_eq_true k1; omega)
  simp [k1, k2, k3, ht2] at h3
  subst h3
  cases hnl : eR a.v <;> simp [r6, h1, l5, htl, h2, u7, hv, k1, k2, k3, ht, ht1, ht2, hnl, w1]
 rcases em2 (a.kind = 2) with k2 | k2
 ·simp [k1, k2, k3, ht2] at h3
  subst h3
  cases hnl : eR a.v <;> simp [r6, h1, l5, htl, h2, u7, lU, hv, k1, k2, k3, ht, ht1, ht2, hnl, w1]
 rcases em2 (a.name = ⟨#[]⟩) with hm | hm
 ·simp [k1, k2, k3, ht2, hm] at h3
  subst h3
  cases hnl : eR a.v <;> simp [r6, h1, l5, htl, h2, u7, hv, k1, k2, k3, ht, ht1, ht2, hm, hnl, w1]
 ·simp [k1, k2, k3, ht2, hm] at h3
  subst h3
  cases hnl : eR a.v <;> simp [r6, h1, l5, htl, h2, u7, hv, k1, k2, k3, ht, ht1, ht2, hm, hnl, w1]
def o6 (a : Atm) : Bool := if jW a.types = false then false else if ¬ a.kind = 1 /\ ¬ a.kind = 2 then true else dW a.name
def yu : PSp := aN (λ (a : Atm) => a.types.length <= maxLen) (λ a => .bool (o6 a))
theorem Ug : PureOK prog G0 38 yu := by
 refine bj sy ae func38 rfl rfl rfl (by kernel_rfl) (by decide) (λ a hl => ?_)
 unfold maxLen at hl
 obtain ⟨r, hr⟩ : ∃ r, o6 a = r := ⟨_, rfl⟩
 rw [hr]
 simp
 refine am sy ae (λ i : Nat => ⟨[(1, .ptr 0 1 9 0 0), (3, .int .i64 i)], [AtB a]⟩) (λ i => i <= a.types.length /\ ∀ j, j < i -> dW (ix a.types j) = true) (λ i => a.types.length - i) (by kernel_rfl) ⟨0, by simp, ag (by simp) (by simp [AtB])⟩ (λ i ⟨hi, hall⟩ => ?_)
 by_cases hlt : i < a.types.length
 ·have i1 : I64 ((i : Int) + 1) := by unfold I64; omega
  cases hb : dW (ix a.types i)
  ·have e : jW a.types = false := decide_eq_false λ h => by
    have := h _ (aq hlt)
    rw [hb] at this
    cases this
   rw [o6, if_pos e] at hr
   subst hr
   simp [AtB, hlt, aa hlt, iX, hb]
  ·simp [AtB, hlt, aa hlt, iX, hb, i1]
   refine ⟨i + 1, ⟨by omega, λ j hj => ?_⟩, by omega, ag (by simp) (by simp [AtB])⟩
   rcases lt_or_eq_of_le (le_of_lt_succ hj) with h | rfl
   ·exact hall j h
   ·exact hb
 ·have e : jW a.types = true := decide_eq_true λ s hs => by
   obtain ⟨j, hj, rfl⟩ := mem_iff_getElem.1 hs
   have := hall j (by omega)
   rwa [az hj] at this
  rw [o6, if_neg (by rw [e]; decide)] at hr
  rcases em2 (a.kind = 1) with k1 | k1
  ·simp [k1] at hr
   simp [AtB, hlt, k1, iX, hr]
  rcases em2 (a.kind = 2) with k2 | k2
  ·simp [k1, k2] at hr
   simp [AtB, hlt, k1, k2, iX, hr]
  ·simp [k1, k2] at hr
   simp [AtB, hlt, k1, k2, iX, hr]
def yZ (a : Atm) (n : Int) : Bool := decide (∀ v ∈ a.vars, 0 <= v /\ v < n)
def IK : PSp := aC (λ (a : Atm) (_ : Int) => a.vars.length <= maxLen) (λ a n => .bool (yZ a n))
theorem VP : PureOK prog G0 36 IK := by
 refine aX aK ae func36 rfl rfl rfl (by kernel_rfl) (by decide) (λ a n hl => ?_)
 unfold maxLen at hl
 simp
 refine am aK ae (λ i : Nat => ⟨[(1, .int .i64 n), (2, .ptr 0 1 9 0 0), (5, .int .i64 i)], [AtB a]⟩) (λ i => i <= a.vars.length /\ ∀ j, j < i -> 0 <= ix a.vars j /\ ix a.vars j < n) (λ i => a.vars.length - i) (by kernel_rfl) ⟨0, by simp, ag (by simp) (by simp [AtB])⟩ (λ i ⟨hi, hall⟩ => ?_)
 by_cases hlt : i < a.vars.length
 ·have i1 : I64 ((i : Int) + 1) := by unfold I64; omega
  rcases em2 (ix a.vars i < 0) with hb | hb
  ·have e : yZ a n = false := decide_eq_false λ h => by
    have := h _ (aq hlt)
    have := of_eq_true hb
    omega
   simp [AtB, hlt, aa hlt, hb, e]
  rcases em2 (n <= ix a.vars i) with hb2 | hb2
  ·have e : yZ a n = false := decide_eq_false λ h => by
    have := h _ (aq hlt)
    have := of_eq_true hb2
    omega
   simp [AtB, hlt, aa hlt, hb, hb2, e]
  ·simp [AtB, hlt, aa hlt, hb, hb2, i1]
   refine ⟨i + 1, ⟨by omega, λ j hj => ?_⟩, by omega, ag (by simp) (by simp [AtB])⟩
   rcases lt_or_eq_of_le (le_of_lt_succ hj) with h | rfl
   ·exact hall j h
   ·have := of_eq_false hb
    have := of_eq_false hb2
    omega
 ·have e : yZ a n = true := decide_eq_true λ v hv => by
   obtain ⟨j, hj, rfl⟩ := mem_iff_getElem.1 hv
   have := hall j (by omega)
   rwa [az hj] at this
  simp [AtB, hlt, e]
def HZ (l : List ByteArray) : Bool := decide (∀ i, i < l.length -> ∀ k, k < i -> ix l i ≠ ix l k)
def KI : PSp := aN (λ (l : List ByteArray) => l.length <= maxLen) (λ l => .bool (!HZ l))
theorem Vq : PureOK prog G0 37 KI := by
 refine bj aK ae func37 rfl rfl rfl (by kernel_rfl) (by decide) (λ l hl => ?_)
 unfold maxLen at hl
 simp
 refine am aK ae (λ i : Nat => ⟨[(0, Enc.enc l), (3, .int .i64 i)], []⟩) (λ i => i <= l.length /\ ∀ j, j < i -> ∀ k, k < j -> ix l j ≠ ix l k) (λ i => l.length - i) (by kernel_rfl) ⟨0, by simp, ah (by simp)⟩ (λ i ⟨hi, hall⟩ => ?_)
 by_cases hlt : i < l.length
 ·have i1 : I64 ((i : Int) + 1) := by unfold I64; omega
  simp [hlt]
  refine am aK ae (λ k : Nat => ⟨[(0, Enc.enc l), (3, .int .i64 i), (4, .int .i64 k)], []⟩) (λ k => k <= i /\ ∀ j, j < k -> ix l i ≠ ix l j) (λ k => i - k) (by kernel_rfl) ⟨0, by simp, ah (by simp)⟩ (λ k ⟨hk, hall2⟩ => ?_)
  by_cases hkl : k < i
  ·have i2 : I64 ((k : Int) + 1) := by unfold I64; omega
   have hkl2 : k < l.length := by omega
   rcases em2 (ix l i = ix l k) with hb | hb
   ·have e : HZ l = false := decide_eq_false λ h => h i hlt k hkl (of_eq_true hb)
    simp [hlt, aa hlt, hkl, hkl2, aa hkl2, hb, e]
   ·simp [hlt, aa hlt, hkl, hkl2, aa hkl2, hb, i2]
    refine ⟨k + 1, ⟨by omega, λ j hj => ?_⟩, by omega, ah (by simp)⟩
    rcases lt_or_eq_of_le (le_of_lt_succ hj) with h | rfl
    ·exact hall2 j h
    ·exact of_eq_false hb
  ·simp [hkl, i1]
   refine ⟨i + 1, ⟨by omega, λ j hj => ?_⟩, by omega, ah (by simp)⟩
   rcases lt_or_eq_of_le (le_of_lt_succ hj) with h | rfl
   ·exact hall j h
   ·exact λ q hq => hall2 q (by omega)
 ·have e : HZ l = true := decide_eq_true λ j hj => hall j (by omega)
  simp [hlt, e]
def oC (l : List Atm) (v : Int) : Bool := decide (∃ a ∈ l, v ∈ a.vars)
def JB : PSp := aC (λ (l : List Atm) (_ : Int) => l.length <= maxLen /\ ∀ a ∈ l, a.vars.length <= maxLen) (λ l v => .bool (oC l v))
theorem VN : PureOK prog G0 39 JB := by
 refine aX aK ae func39 rfl rfl rfl (by kernel_rfl) (by decide) (λ l v ⟨hl, hla⟩ => ?_)
 unfold maxLen at hl
 simp
 refine am aK ae (λ i : Nat => ⟨[(0, Enc.enc l), (1, .int .i64 v), (5, .int .i64 i)], []⟩) (λ i => i <= l.length /\ ∀ j, j < i -> v ∉ (ix l j).vars) (λ i => l.length - i) (by kernel_rfl) ⟨0, by simp, ah (by simp)⟩ (λ i ⟨hi, hall⟩ => ?_)
 by_cases hlt : i < l.length
 ·have i1 : I64 ((i : Int) + 1) := by unfold I64; omega
  have hvl := hla _ (aq hlt)
  unfold maxLen at hvl
  obtain ⟨a, ha⟩ : ∃ a, ix l i = a := ⟨_, rfl⟩
  rw [ha] at hvl
  simp [hlt]
  refine am aK ae (λ k : Nat => ⟨[(0, Enc.enc l), (1, .int .i64 v), (5, .int .i64 i), (6, .int .i64 k)], []⟩) (λ k => k <= a.vars.length /\ ∀ j, j < k -> ix a.vars j ≠ v) (λ k => a.vars.length - k) (by kernel_rfl) ⟨0, by simp, ah (by simp)⟩ (λ k ⟨hk, hall2⟩ => ?_)
  by_cases hkl : k < a.vars.length
  ·have i2 : I64 ((k : Int) + 1) := by unfold I64; omega
   rcases em2 (ix a.vars k = v) with hb | hb
   ·have e : oC l v = true := decide_eq_true ⟨_, aq hlt, by rw [ha, <- of_eq_true hb]; exact aq hkl⟩
    simp [hlt, aa hlt, ha, hkl, aa hkl, hb, e]
   ·simp [hlt, aa hlt, ha, hkl, aa hkl, hb, i2]
    refine ⟨k + 1, ⟨by omega, λ j hj => ?_⟩, by omega, ah (by simp)⟩
    rcases lt_or_eq_of_le (le_of_lt_succ hj) with h | rfl
    ·exact hall2 j h
    ·exact of_eq_false hb
  ·simp [hlt, aa hlt, ha, hkl, i1]
   refine ⟨i + 1, ⟨by omega, λ j hj => ?_⟩, by omega, ah (by simp)⟩
   rcases lt_or_eq_of_le (le_of_lt_succ hj) with h | rfl
   ·exact hall j h
   ·rw [ha]
    intro hm
    obtain ⟨q, hq, he⟩ := mem_iff_getElem.1 hm
    exact hall2 q (by omega) (by rw [az hq]; exact he)
 ·have e : oC l v = false := decide_eq_false λ ⟨a, ha, hv⟩ => by
   obtain ⟨j, hj, rfl⟩ := mem_iff_getElem.1 ha
   exact hall j (by omega) (by rw [az hj]; exact hv)
  simp [hlt, e]
def Jj (c : Cnj) : Bool := decide (∀ a ∈ c.atoms, e8 a = true /\ yZ a c.vars.length = true)
def Pz (c : Cnj) : Bool := decide (∀ a ∈ c.atoms, o6 a = true)
def Id (c : Cnj) : Bool := decide (∀ v, v < c.vars.length -> oC c.atoms v = true)
def dz (c : Cnj) : Int :=
 if 24 < c.vars.length then 4 else if 12 < c.atoms.length then 4 else if Jj c = false then 1 else if HZ c.vars = false then 7
 else if Pz c = false then 6 else if Id c = false then 25 else 0
def pm : PSp := aN (λ (c : Cnj) => WfC c) (λ c => .int .i64 (dz c))
noncomputable def CChC : Ctx := mkC prog G0 [(35, .pure tP), (36, .pure IK), (37, .pure KI), (38, .pure yu), (39, .pure JB)]
@[simp] theorem VZ : CChC.P = prog := rfl
@[simp] theorem Wf : CChC.G = G0 := rfl
@[simp] theorem Vr : CChC.S 35 = .pure tP /\ CChC.S 36 = .pure IK /\ CChC.S 37 = .pure KI /\ CChC.S 38 = .pure yu /\ CChC.S 39 = .pure JB := ⟨rfl, rfl, rfl, rfl, rfl⟩
theorem sh : au CChC := ap (SH) func35 (ap (VP) func36 (ap (Vq) func37 (ap (Ug) func38 (ap (VN) func39 (ak _ _)))))
theorem PY : PureOK prog G0 14 pm := by
 refine bj sh ae func14 rfl rfl rfl (by kernel_rfl) (by decide) (λ c hw => ?_)
 have hvl := hw.vl
 have hal := hw.al
 have hua : ∀ a ∈ c.atoms, a.vars.length <= maxLen := λ a ha => (hw.a a ha).vl
 have hvl2 := hvl
 have hal2 := hal
 unfold maxLen at hvl2 hal2
 obtain ⟨r, hr⟩ : ∃ r, dz c = r := ⟨_, rfl⟩
 rw [hr]
 rcases em2 (24 < c.vars.length) with h1 | h1
 ·have h1' : ((24 : Int) < c.vars.length) = True := eq_true (by have := of_eq_true h1; omega)
  rw [dz, if_pos (of_eq_true h1)] at hr
  subst hr
  simp [h1']
 have h1' : ((24 : Int) < c.vars.length) = False := eq_false (by have := of_eq_false h1; omega)
 rcases em2 (12 < c.atoms.length) with h2 | h2
 ·have h2' : ((12 : Int) < c.atoms.length) = True := eq_true (by have := of_eq_true h2; omega)
  rw [dz, if_neg (of_eq_false h1), if_pos (of_eq_true h2)] at hr
  subst hr
  simp [h1', h2']
 have h2' : ((12 : Int) < c.atoms.length) = False := eq_false (by have := of_eq_false h2; omega)
 rw [dz, if_neg (of_eq_false h1), if_neg (of_eq_false h2)] at hr
 simp [h1', h2']
 refine am sh ae (λ i : Nat => ⟨[(1, .ptr 0 1 2 0 0), (3, .int .i64 i)], [CjB c]⟩) (λ i => i <= c.atoms.length /\ ∀ j, j < i -> e8 (ix c.atoms j) = true /\ yZ (ix c.atoms j) c.vars.length = true) (λ i => c.atoms.length - i) (by kernel_rfl) ⟨0, by simp, ag (by simp) (by simp [CjB])⟩ (λ i ⟨hi, hall⟩ => ?_)
 by_cases hlt : i < c.atoms.length
 ·have i1 : I64 ((i : Int) + 1) := by unfold I64; omega
  have hwa := hw.a _ (aq hlt)
  have hav := hwa.vl
  have no : ¬ (e8 (ix c.atoms i) = true /\ yZ (ix c.atoms i) c.vars.length = true) -> r = 1 := λ h => by
   rw [<- hr, if_pos (show Jj c = false from decide_eq_false λ h2 => h (h2 _ (aq hlt)))]
  cases hb : e8 (ix c.atoms i)
  ·have e := no λ h => by rw [hb] at h; cases h.1
   subst e
   simp [CjB, hlt, aa hlt, tP, hwa, hb]
  cases hb2 : yZ (ix c.atoms i) c.vars.length
  ·have e := no λ h => by rw [hb2] at h; cases h.2
   subst e
   simp [CjB, hlt, aa hlt, tP, hwa, hb, IK, hav, hb2]
  ·simp [CjB, hlt, aa hlt, tP, hwa, hb, IK, hav, hb2, i1]
   refine ⟨i + 1, ⟨by omega, λ j hj => ?_⟩, by omega, ag (by simp) (by simp [CjB])⟩
   rcases lt_or_eq_of_le (le_of_lt_succ hj) with h | rfl
   ·exact hall j h
   ·exact ⟨hb, hb2⟩
 have e1 : Jj c = true := decide_eq_true λ a ha => by
  obtain ⟨j, hj, rfl⟩ := mem_iff_getElem.1 ha
  have := hall j (by omega)
  rwa [az hj] at this
 rw [if_neg (by rw [e1]; decide)] at hr
 cases hb : HZ c.vars
 ·rw [if_pos hb] at hr
  subst hr
  simp [CjB, hlt, KI, hvl, hb]
 rw [if_neg (by rw [hb]; decide)] at hr
 simp [CjB, hlt, KI, hvl, hb]
 refine am sh ae (λ i : Nat => ⟨[(1, .ptr 0 1 2 0 0), (4, .int .i64 i)], [CjB c]⟩) (λ i => i <= c.atoms.length /\ ∀ j, j < i -> o6 (ix c.atoms j) = true) (λ i => c.atoms.length - i) (by kernel_rfl) ⟨0, by simp, ag (by simp) (by simp [CjB])⟩ (λ i ⟨hi, hall⟩ => ?_)
 by_cases hlt : i < c.atoms.length
 ·have i1 : I64 ((i : Int) + 1) := by unfold I64; omega
  have hwt := (hw.a _ (aq hlt)).tl
  cases hb : o6 (ix c.atoms i)
  ·rw [if_pos (show Pz c = false from decide_eq_false λ h2 => by have := h2 _ (aq hlt); rw [hb] at this; cases this)] at hr
   subst hr
   simp [CjB, hlt, aa hlt, yu, hwt, hb]
  ·simp [CjB, hlt, aa hlt, yu, hwt, hb, i1]
   refine ⟨i + 1, ⟨by omega, λ j hj => ?_⟩, by omega, ag (by simp) (by simp [CjB])⟩
   rcases lt_or_eq_of_le (le_of_lt_succ hj) with h | rfl
   ·exact hall j h
   ·exact hb
 have e1 : Pz c = true := decide_eq_true λ a ha => by
  obtain ⟨j, hj, rfl⟩ := mem_iff_getElem.1 ha
  have := hall j (by omega)
  rwa [az hj] at this
 rw [if_neg (by rw [e1]; decide)] at hr
 simp [CjB, hlt]
 refine am sh ae (λ i : Nat => ⟨[(1, .ptr 0 1 2 0 0), (5, .int .i64 i)], [CjB c]⟩) (λ i => i <= c.vars.length /\ ∀ j, j < i -> oC c.atoms j = true) (λ i => c.vars.length - i) (by kernel_rfl) ⟨0, by simp, ag (by simp) (by simp [CjB])⟩ (λ i ⟨hi, hall⟩ => ?_)
 by_cases hlt : i < c.vars.length
 ·have i1 : I64 ((i : Int) + 1) := by unfold I64; omega
  have hp : c.atoms.length <= maxLen /\ ∀ a ∈ c.atoms, a.vars.length <= maxLen := ⟨hal, hua⟩
  cases hb : oC c.atoms i
  ·rw [if_pos (show Id c = false from decide_eq_false λ h2 => by have := h2 _ hlt; rw [hb] at this; cases this)] at hr
   subst hr
   simp [CjB, hlt, JB, hal, hb]
   exact hua
  ·simp [CjB, hlt, JB, hal, hb, i1]
   refine ⟨hua, i + 1, ⟨by omega, λ j hj => ?_⟩, by omega, ag (by simp) (by simp [CjB])⟩
   rcases lt_or_eq_of_le (le_of_lt_succ hj) with h | rfl
   ·exact hall j h
   ·exact hb
 have e1 : Id c = true := decide_eq_true λ v hv => hall v (by omega)
 rw [if_neg (by rw [e1]; decide)] at hr
 subst hr
 simp [CjB, hlt]
section
variable {C : Ctx} {N h0 : Nat}
theorem wu {ρ : List (Nat × AV)} {H : List Blk} (t sz : Nat) (rows : List (List AV)) (h : aZ ρ t = .slice sz true rows) : Weak C N h0 ⟨ρ, H⟩ ⟨(t, .slice sz false rows) :: ρ, H⟩ := by
 intro X w0 β0 H0 a w hl hr
 obtain ⟨β, R, S0, Tr, G, hN, hdef⟩ := hr
 refine ⟨β, R, S0, λ k => ?_, G, hN, hdef⟩
 by_cases e : t = k
 ·subst e
  have h1 := Tr t
  simp only at h1
  rw [h] at h1
  rw [show aZ ((t, AV.slice sz false rows) :: ρ) t = .slice sz false rows from by simp [aZ]]
  exact .deep (kA (di h1))
 ·rw [show aZ ((t, AV.slice sz false rows) :: ρ) k = aZ ρ k from by simp [aZ, e]]
  exact Tr k
end
def cW : List Int -> Int -> Bool -> List Int
 | [], x, d => if d = true then [] else [x]
 | a :: r, x, d => if x < a /\ (d || decide (a = x)) = false then x :: a :: cW r x true else a :: cW r x (d || decide (a = x))
theorem iC : ∀ (l : List Int) (x : Int) (d : Bool) (v : Int), v ∈ cW l x d ↔ v ∈ l ∨ (d = false /\ v = x)
 | [], x, d, v => by cases d <;> simp [cW]
 | a :: r, x, d, v => by
  rw [cW]
  split
  ·rename_i h
   have hd : d = false := by cases d <;> simp_all
   rw [mem_cons, mem_cons, iC r x true v, mem_cons]
   simp only [hd, Bool.true_eq_false, false_and, or_false, true_and]
   constructor
   ·rintro (h | h | h)
    ·exact .inr h
    ·exact .inl (.inl h)
    ·exact .inl (.inr h)
   ·rintro ((h | h) | h)
    ·exact .inr (.inl h)
    ·exact .inr (.inr h)
    ·exact .inl h
  ·rw [mem_cons, iC r x _ v, mem_cons]
   by_cases e : a = x
   ·subst e
    simp only [decide_true, Bool.or_true, Bool.true_eq_false, false_and, or_false]
    constructor
    ·exact .inl
    ·rintro (h | ⟨_, h⟩)
     ·exact h
     ·exact .inl h
   ·simp only [e, decide_false, Bool.or_false, or_assoc]
theorem sX : ∀ (l : List Int) (x : Int) (d : Bool), l.Pairwise (· < ·) -> (cW l x d).Pairwise (· < ·)
 | [], x, d, _ => by cases d <;> simp [cW]
 | a :: r, x, d, h => by
  obtain ⟨h1, h2⟩ := pairwise_cons.1 h
  have ih1 := sX r x true h2
  rw [cW]
  split
  ·rename_i hc
   refine pairwise_cons.2 ⟨λ y hy => ?_, pairwise_cons.2 ⟨λ y hy => ?_, ih1⟩⟩
   ·rcases mem_cons.1 hy with rfl | hy
    ·exact hc.1
    ·rcases (iC r x true y).1 hy with h | ⟨h, _⟩
     ·have := h1 y h
      have := hc.1
      omega
     ·cases h
   ·rcases (iC r x true y).1 hy with h | ⟨h, _⟩
    ·exact h1 y h
    ·cases h
  ·rename_i hc
   refine pairwise_cons.2 ⟨λ y hy => ?_, sX r x _ h2⟩
   rcases (iC r x _ y).1 hy with h | ⟨h, rfl⟩
   ·exact h1 y h
   ·have e : a ≠ y := by rintro rfl; simp at h
    have : ¬ y < a := λ h3 => hc ⟨h3, h⟩
    omega
theorem qH : ∀ (l : List Int) (x : Int) (d : Bool), (cW l x d).length <= l.length + (if d = true then 0 else 1)
 | [], x, d => by cases d <;> simp [cW]
 | a :: r, x, d => by
  rw [cW]
  split
  ·rename_i h
   have hd : d = false := by cases d <;> simp_all
   have := qH r x true
   simp [hd] at this ⊢
   omega
  ·have := qH r x (d || decide (a = x))
   cases d
   ·cases hx : decide (a = x) <;> simp [hx] at this ⊢ <;> omega
   ·simp at this ⊢; omega
theorem Dr {l : List Int} {i : Nat} (h : i < l.length) (x : Int) (d : Bool) : cW (l.drop i) x d = if x < ix l i /\ (d || decide (ix l i = x)) = false then x :: ix l i :: cW (l.drop (i + 1)) x true else ix l i :: cW (l.drop (i + 1)) x (d || decide (ix l i = x)) := by
 rw [drop_eq_getElem_cons h, az h, cW]
def Ld : PSp := aC (λ (l : List Int) (_ : Int) => l.length <= 1000) (λ l x => Enc.enc (cW l x false))
theorem Vc : PureOK prog G0 81 Ld := by
 refine aX aK ae func81 rfl rfl rfl (by kernel_rfl) (by decide) (λ l x hl => ?_)
 obtain ⟨r, hr⟩ : ∃ r, cW l x false = r := ⟨_, rfl⟩
 rw [hr]
 simp
 refine am aK ae (λ q : Nat × Bool × List Int => ⟨[(0, Enc.enc l), (1, .int .i64 x), (5, .own 0 q.2.2.length), (6, .bool q.2.1), (7, .int .i64 q.1)], [rB 3 (ac q.2.2)]⟩) (λ q => q.1 <= l.length /\ q.2.2.length <= q.1 + (if q.2.1 = true then 1 else 0) /\ q.2.2 ++ cW (l.drop q.1) x q.2.1 = r) (λ q => l.length - q.1) (by kernel_rfl) ⟨(0, false, []), ⟨by omega, by simp, hr⟩, (dw 5 1 3 (by simp) (by decide)).trans (ah (by simp))⟩ (λ ⟨i, d, out⟩ ⟨h1, h2, h3⟩ => ?_)
 simp only at h1 h2 h3 ⊢
 have h2' : out.length <= i + 1 := by split at h2 <;> omega
 have h2f : d = false -> out.length <= i := λ h => by rw [h] at h2; simpa using h2
 by_cases hlt : i < l.length
 ·have i1 : I64 ((i : Int) + 1) := by unfold I64; omega
  rw [Dr hlt] at h3
  rcases em2 (ix l i = x) with e | e
  ·have ng : (x < ix l i) = False := eq_false (by have := of_eq_true e; omega)
   have e' : (d || decide (ix l i = x)) = true := by rw [decide_eq_true (of_eq_true e)]; simp
   rw [if_neg (by rintro ⟨h, _⟩; exact of_eq_false ng h), e'] at h3
   have ng' : (ix l i <= x) = True := eq_true (by have := of_eq_true e; omega)
   have nx : (x < x) = False := eq_false (by omega)
   cases d
   ·simp [-Bool.exists_bool, rB, hlt, aa hlt, e, ng, i1]
    refine ⟨by omega, i + 1, true, out ++ [ix l i], ⟨by omega, by simp at h2 ⊢; omega, ?_⟩, by omega, ag (by simp) (by simp [rB])⟩
    rw [append_assoc, <- h3]
    rfl
   ·simp [-Bool.exists_bool, rB, hlt, aa hlt, e, ng, i1]
    refine ⟨by omega, i + 1, true, out ++ [ix l i], ⟨by omega, by simp at h2 ⊢; omega, ?_⟩, by omega, ag (by simp) (by simp [rB])⟩
    rw [append_assoc, <- h3]
    rfl
  have e' : (d || decide (ix l i = x)) = d := by rw [decide_eq_false (of_eq_false e)]; simp
  rw [e'] at h3
  cases d
  ·rcases em2 (x < ix l i) with g | g
   ·rw [if_pos ⟨of_eq_true g, rfl⟩] at h3
    simp [-Bool.exists_bool, rB, hlt, aa hlt, e, g, i1]
    refine ⟨by omega, by omega, i + 1, true, out ++ [x, ix l i], ⟨by omega, by simp at h2 ⊢; omega, ?_⟩, by omega, ag (by simp) (by simp [rB])⟩
    rw [append_assoc, <- h3]
    rfl
   ·rw [if_neg (by rintro ⟨h, _⟩; exact of_eq_false g h)] at h3
    simp [-Bool.exists_bool, rB, hlt, aa hlt, e, g, i1]
    refine ⟨by omega, i + 1, false, out ++ [ix l i], ⟨by omega, by simp at h2 ⊢; omega, ?_⟩, by omega, ag (by simp) (by simp [rB])⟩
    rw [append_assoc, <- h3]
    rfl
  ·rw [if_neg (by rintro ⟨_, h⟩; cases h)] at h3
   rcases em2 (x < ix l i) with g | g
   ·simp [-Bool.exists_bool, rB, hlt, aa hlt, e, g, i1]
    refine ⟨by omega, i + 1, true, out ++ [ix l i], ⟨by omega, by simp at h2 ⊢; omega, ?_⟩, by omega, ag (by simp) (by simp [rB])⟩
    rw [append_assoc, <- h3]
    rfl
   ·simp [-Bool.exists_bool, rB, hlt, aa hlt, e, g, i1]
    refine ⟨by omega, i + 1, true, out ++ [ix l i], ⟨by omega, by simp at h2 ⊢; omega, ?_⟩, by omega, ag (by simp) (by simp [rB])⟩
    rw [append_assoc, <- h3]
    rfl
 ·rw [drop_eq_nil_of_le (by omega)] at h3
  cases d
  ·simp [cW] at h3
   have h4 := congrArg List.length h3
   have h5 := h2f rfl
   simp at h4
   simp [rB, hlt, h3]
   omega
  ·simp [cW] at h3
   simp [rB, hlt, h3]
def bA (l : List Int) : List Int := l.foldl (λ o v => cW o v false) []
theorem B4 {l : List Int} {i : Nat} (h : i < l.length) : bA (l.take (i + 1)) = cW (bA (l.take i)) (ix l i) false := by
 unfold bA
 rw [take_succ_eq_append_getElem h, List.foldl_append, az h]
 rfl
theorem iz (l : List Int) : (bA l).length <= l.length := by
 have key : ∀ (l o : List Int), (l.foldl (λ o v => cW o v false) o).length <= o.length + l.length := by
  intro l
  induction l with
  | nil => intro o; simp
  | cons a r ih =>
   intro o
   have h1 := ih (cW o a false)
   have h2 := qH o a false
   simp at h1 h2 ⊢
   omega
 have := key l []
 simpa [bA] using this
theorem fU (l : List Int) (v : Int) : v ∈ bA l ↔ v ∈ l := by
 have key : ∀ (l o : List Int), v ∈ l.foldl (λ o v => cW o v false) o ↔ v ∈ o ∨ v ∈ l := by
  intro l
  induction l with
  | nil => intro o; simp
  | cons a r ih =>
   intro o
   rw [List.foldl_cons, ih, iC]
   simp [or_assoc]
 have := key l []
 simpa [bA] using this
theorem Ab (l : List Int) : (bA l).Pairwise (· < ·) := by
 have key : ∀ (l o : List Int), o.Pairwise (· < ·) -> (l.foldl (λ o v => cW o v false) o).Pairwise (· < ·) := by
  intro l
  induction l with
  | nil => intro o h; exact h
  | cons a r ih => intro o h; exact ih _ (sX o a false h)
 exact key l [] List.Pairwise.nil
def oW : PSp := aN (λ (a : Atm) => a.vars.length <= 1000) (λ a => Enc.enc (bA a.vars))
noncomputable def CVrs : Ctx := mkC prog G0 [(81, .pure Ld)]
@[simp] theorem VO : CVrs.P = prog := rfl
@[simp] theorem V4 : CVrs.G = G0 := rfl
@[simp] theorem W0 : CVrs.S 81 = .pure Ld := rfl
theorem Ew : au CVrs := ap (Vc) func81 (ak _ _)
theorem MI : PureOK prog G0 40 oW := by
 refine bj Ew ae func40 rfl rfl rfl (by kernel_rfl) (by decide) (λ a hl => ?_)
 simp
 refine am Ew ae (λ i : Nat => ⟨[(1, .ptr 0 1 9 0 0), (3, Enc.enc (bA (a.vars.take i))), (4, .int .i64 i)], [AtB a]⟩) (λ i => i <= a.vars.length) (λ i => a.vars.length - i) (by kernel_rfl) ⟨0, by simp, (wu 3 1 [] (by simp)).trans (ag (by simp [bA]) (by simp [AtB]))⟩ (λ i hi => ?_)
 by_cases hlt : i < a.vars.length
 ·have i1 : I64 ((i : Int) + 1) := by unfold I64; omega
  have hvl := iz (a.vars.take i)
  rw [length_take] at hvl
  have hv2 : (bA (a.vars.take i)).length <= 1000 := by omega
  simp [AtB, hlt, aa hlt, Ld, hv2, i1]
  refine ⟨i + 1, by omega, by omega, ag (by simp [B4 hlt]) (by simp [AtB])⟩
 ·have e : a.vars.take i = a.vars := take_of_length_le (by omega)
  simp [AtB, hlt, e]
def mE (n : Nod) (a : Atm) : Bool := if a.kind = 1 then xp n.labels a.name else if a.kind = 2 then decide (eqP (jI n.props a.name) a.v = 2) else true
structure HoldPre (n : Nod) (a : Atm) : Prop where
 wn : WfN n
 wa : WfA a
 pl : ∀ p ∈ n.props, cY p.v = true
 pv : a.kind = 2 -> cY a.v = true
def Km : PSp := aC HoldPre (λ n a => .bool (mE n a))
theorem Bx : ∀ (l : List Prp) (k : ByteArray), (∀ p ∈ l, WfP p) -> (∀ p ∈ l, cY p.v = true) -> WfV (jI l k) /\ (jI l k = nullV ∨ cY (jI l k) = true)
 | [], k, _, _ => ⟨Bt, .inl rfl⟩
 | p :: r, k, h1, h2 => by
  rw [jI]
  split
  ·exact ⟨(h1 p (mem_cons_self ..)).v, .inr (h2 p (mem_cons_self ..))⟩
  ·exact Bx r k (λ q hq => h1 q (mem_cons_of_mem _ hq)) λ q hq => h2 q (mem_cons_of_mem _ hq)
noncomputable def CHld : Ctx := mkC prog G0 [(85, .pure EH), (87, .pure Ms), (86, .pure sEq)]
@[simp] theorem U4 : CHld.P = prog := rfl
@[simp] theorem WG : CHld.G = G0 := rfl
@[simp] theorem Wh : CHld.S 85 = .pure EH /\ CHld.S 87 = .pure Ms /\ CHld.S 86 = .pure sEq := ⟨rfl, rfl, rfl⟩
theorem LW : au CHld := ap (Uj) func85 (ap (Wy) func87 (ap (eqR) func86 (ak _ _)))
theorem WD : PureOK prog G0 44 Km := by
 refine aX LW ae func44 rfl rfl rfl (by kernel_rfl) (by decide) (λ n a hp => ?_)
 have hl := hp.wn.ll
 have hpl := hp.wn.pl
 have hv := hp.wa.v
 rcases em2 (a.kind = 1) with k1 | k1
 ·have e : mE n a = xp n.labels a.name := if_pos (of_eq_true k1)
  simp [k1, EH, hl, e]
 rcases em2 (a.kind = 2) with k2 | k2
 ·have e : mE n a = decide (eqP (jI n.props a.name) a.v = 2) := by rw [mE, if_neg (of_eq_false k1), if_pos (of_eq_true k2)]
  obtain ⟨h1, h2⟩ := Bx n.props a.name hp.wn.p hp.pl
  have h3 := hp.pv (of_eq_true k2)
  rw [e]
  simp [k1, k2, Ms, hpl, sEq, h1, h2, hv, h3]
 ·have e : mE n a = true := by rw [mE, if_neg (of_eq_false k1), if_neg (of_eq_false k2)]
  simp [k1, k2, e]
def iZ : List Int -> List Int -> Int -> Int -> Option Int
 | a :: p, i :: q, v, x => if a = v then (if x ≠ 0 /\ x ≠ i then none else iZ p q v i) else iZ p q v x
 | _, _, _, x => some x
def ql (vars ids : List Int) : List Int -> List Int -> Option (List Int)
 | [], out => some out
 | v :: r, out => match iZ vars ids v 0 with
  | none => none
  | some x => ql vars ids r (out ++ [x])
theorem C3 {p q : List Int} {k : Nat} (h : k < p.length) (h' : k < q.length) (v x : Int) : iZ (p.drop k) (q.drop k) v x = if ix p k = v then (if x ≠ 0 /\ x ≠ ix q k then none else iZ (p.drop (k + 1)) (q.drop (k + 1)) v (ix q k)) else iZ (p.drop (k + 1)) (q.drop (k + 1)) v x := by
 rw [drop_eq_getElem_cons h, drop_eq_getElem_cons h', az h, az h', iZ]
theorem G3 {p q : List Int} {k : Nat} (h : p.length <= k) (v x : Int) : iZ (p.drop k) (q.drop k) v x = some x := by
 rw [drop_eq_nil_of_le h]
 cases q.drop k <;> rfl
theorem FU {vars ids l : List Int} {i : Nat} (h : i < l.length) (out : List Int) : ql vars ids (l.drop i) out = match iZ vars ids (ix l i) 0 with | none => none | some x => ql vars ids (l.drop (i + 1)) (out ++ [x]) := by
 rw [drop_eq_getElem_cons h, az h, ql]
def o7 (e : Edg) : List Int := [e.frm, e.id, e.to]
def DG (a : Atm) (e : Edg) : Option (List Int) := ql a.vars (o7 e) (bA a.vars) []
def EgB (e : Edg) : Blk := ⟨88, 5, [[.int .i64 e.id, .int .i64 e.frm, .int .i64 e.to, .str e.type, .slice 6 false (ac e.props)]], true, true⟩
def FR : PSp := aC (λ (a : Atm) (_ : Edg) => a.vars.length = 3) (λ a e => .tup [Enc.enc ((DG a e).getD []), .bool (DG a e).isSome])
noncomputable def CTup : Ctx := mkC prog G0 [(40, .pure oW)]
@[simp] theorem V8 : CTup.P = prog := rfl
@[simp] theorem V6 : CTup.G = G0 := rfl
@[simp] theorem V9 : CTup.S 40 = .pure oW := rfl
theorem yb : au CTup := ap (MI) func40 (ak _ _)
theorem Wu : PureOK prog G0 42 FR := by
 refine aX yb ae func42 rfl rfl rfl (by kernel_rfl) (by decide) (λ a e hl => ?_)
 have hl2 : a.vars.length <= 1000 := by omega
 have hvl := iz a.vars
 obtain ⟨l, hle⟩ : ∃ l, bA a.vars = l := ⟨_, rfl⟩
 obtain ⟨r, hr⟩ : ∃ r, DG a e = r := ⟨_, rfl⟩
 have hr2 := hr
 unfold DG at hr2
 rw [hle] at hr2 hvl
 have hids : (o7 e).length = 3 := rfl
 rw [hr]
 simp [oW, hl2, hle]
 have rI : AV.slice 1 true [[.int .i64 e.frm], [.int .i64 e.id], [.int .i64 e.to]] = .slice 1 true (ac (o7 e)) := rfl
 refine am yb ae (λ q : Nat × List Int => ⟨[(2, .ptr 0 1 9 0 0), (3, .ptr 1 1 5 0 0), (6, .slice 1 true (ac (o7 e))), (7, Enc.enc l), (8, .own 2 q.2.length), (9, .int .i64 q.1)], [AtB a, EgB e, rB 3 (ac q.2)]⟩) (λ q => q.1 <= l.length /\ q.2.length = q.1 /\ ql a.vars (o7 e) (l.drop q.1) q.2 = r) (λ q => l.length - q.1) (by kernel_rfl) ⟨(0, []), ⟨by omega, rfl, hr2⟩, (dw 8 1 3 (by simp) (by decide)).trans (ag (by simp [rI]) (by simp [AtB, EgB, rB]))⟩ (λ ⟨i, out⟩ ⟨h1, h2, h3⟩ => ?_)
 simp only at h1 h2 h3 ⊢
 by_cases hlt : i < l.length
 ·have i1 : I64 ((i : Int) + 1) := by unfold I64; omega
  rw [FU hlt] at h3
  simp [AtB, EgB, rB, hlt]
  refine am yb ae (λ q : Nat × Int => ⟨[(2, .ptr 0 1 9 0 0), (3, .ptr 1 1 5 0 0), (6, .slice 1 true (ac (o7 e))), (7, Enc.enc l), (8, .own 2 out.length), (9, .int .i64 i), (10, .int .i64 q.2), (11, .int .i64 q.1)], [AtB a, EgB e, rB 3 (ac out)]⟩) (λ q => q.1 <= 3 /\ iZ (a.vars.drop q.1) ((o7 e).drop q.1) (ix l i) q.2 = iZ a.vars (o7 e) (ix l i) 0) (λ q => 3 - q.1) (by kernel_rfl) ⟨(0, 0), ⟨by omega, rfl⟩, ag (by simp) (by simp [AtB, EgB, rB])⟩ (λ ⟨k, x⟩ ⟨hk, hx⟩ => ?_)
  simp only at hk hx ⊢
  by_cases hkl : k < 3
  ·have k1 : I64 ((k : Int) + 1) := by unfold I64; omega
   have hka : k < a.vars.length := by omega
   have hki : k < (o7 e).length := by omega
   have hkl' : (k : Int) < 3 := by omega
   rw [C3 hka hki] at hx
   rcases em2 (ix a.vars k = ix l i) with c1 | c1
   ·rw [if_pos (of_eq_true c1)] at hx
    rcases em2 (x = 0) with c2 | c2
    ·rw [if_neg (λ h => h.1 (of_eq_true c2))] at hx
     simp [AtB, EgB, rB, hlt, aa hlt, hl, hkl, hkl', aa hka, aa hki, hids, c1, c2, k1]
     exact ⟨k + 1, ix (o7 e) k, ⟨by omega, hx⟩, by omega, ag (by simp) (by simp [AtB, EgB, rB])⟩
    rcases em2 (x = ix (o7 e) k) with c3 | c3
    ·rw [if_neg (λ h => h.2 (of_eq_true c3))] at hx
     simp [AtB, EgB, rB, hlt, aa hlt, hl, hkl, hkl', aa hka, aa hki, hids, c1, c2, c3, k1]
     exact ⟨k + 1, ix (o7 e) k, ⟨by omega, hx⟩, by omega, ag (by simp) (by simp [AtB, EgB, rB])⟩
    ·rw [if_pos ⟨of_eq_false c2, of_eq_false c3⟩] at hx
     rw [<- hx] at h3
     simp only at h3
     subst h3
     simp [AtB, EgB, rB, hlt, aa hlt, hl, hkl, hkl', aa hka, aa hki, hids, c1, c2, c3]
   ·rw [if_neg (of_eq_false c1)] at hx
    simp [AtB, EgB, rB, hlt, aa hlt, hl, hkl, hkl', aa hka, c1, k1]
    exact ⟨k + 1, x, ⟨by omega, hx⟩, by omega, ag (by simp) (by simp [AtB, EgB, rB])⟩
  ·have hkl' : ¬ (k : Int) < 3 := by omega
   rw [G3 (by omega)] at hx
   rw [<- hx] at h3
   simp only at h3
   simp [AtB, EgB, rB, hkl, hkl', i1]
   refine ⟨by omega, i + 1, out ++ [x], ⟨by omega, by simp; omega, h3⟩, by omega, ag (by simp) (by simp [AtB, EgB, rB])⟩
 ·rw [drop_eq_nil_of_le (by omega), ql] at h3
  subst h3
  simp [AtB, EgB, rB, hlt]
theorem By {vars ids : List Int} : ∀ {l out r : List Int}, ql vars ids l out = some r -> r.length = out.length + l.length
 | [], out, r, h => by rw [ql] at h; injection h with h; subst h; simp
 | v :: q, out, r, h => by
  rw [ql] at h
  split at h
  ·cases h
  ·have := By h
   simp at this ⊢
   omega
theorem AJ {a : Atm} {e : Edg} {r : List Int} (h : DG a e = some r) : r.length = (bA a.vars).length := by
 have := By h
 simpa using this
def OB (l : List Int) : Bool := decide (∃ v ∈ l, v < 0)
def nt (a : Atm) (e : Edg) : Option (List Int) := if (decide (a.types = []) || xp a.types e.type) = true then DG a e else none
def ie (g : Gra) (a : Atm) : List (List Int) := if a.kind = 3 then g.edges.filterMap (nt a) else g.nodes.filterMap λ n => if mE n a = true then some [n.id] else none
def c9 (g : Gra) (a : Atm) : Rlt :=
 if ¬ dm g = 0 then ⟨0, []⟩ else if e8 a = false then ⟨0, []⟩ else if o6 a = false then ⟨0, []⟩ else if OB a.vars = true then ⟨0, []⟩
 else ⟨(bA a.vars).length, srt (ie g a)⟩
theorem qh {α β : Type} [Inhabited α] (f : α -> Option β) {l : List α} {i : Nat} (h : i < l.length) : (l.take (i + 1)).filterMap f = (l.take i).filterMap f ++ (match f (ix l i) with | some b => [b] | none => []) := by
 rw [take_succ_eq_append_getElem h, List.filterMap_append, az h]
 congr 1
 cases hb : f l[i] <;> simp [hb]
theorem tM {α β : Type} (f : α -> Option β) (l : List α) (i : Nat) : ((l.take i).filterMap f).length <= i := by
 have := List.length_filterMap_le f (l.take i)
 rw [length_take] at this
 omega
theorem fR {a : Atm} (h : e8 a = true) : (a.kind = 3 -> a.vars.length = 3) /\ a.vars.length <= 3 /\ 1 <= a.vars.length := by
 unfold e8 at h
 split at h
 ·cases h
 ·rename_i h1
  have h1 : oJ a.kind = a.vars.length := by
   by_cases e : oJ a.kind = a.vars.length
   ·exact e
   ·exact absurd e h1
  unfold oJ at h1
  split at h1
  ·refine ⟨λ h => by omega, by omega, by omega⟩
  ·split at h1
   ·refine ⟨λ h => by omega, by omega, by omega⟩
   ·omega
theorem CZ {a : Atm} (h : e8 a = true) (hk : a.kind = 2) : cY a.v = true := by
 unfold e8 at h
 repeat' split at h
 all_goals first | exact h | (exfalso; exact absurd hk (by assumption)) | cases h
theorem rP {g : Gra} (h : dm g = 0) : g.nodes.length <= 2000 /\ g.edges.length <= 4000 /\ (∀ i, i < g.nodes.length -> fw g i = 0) /\ ∀ i, i < g.edges.length -> j6 g i = 0 := by
 unfold dm at h
 split at h
 ·cases h
 split at h
 ·cases h
 split at h
 ·cases h
 split at h
 ·cases h
 split at h
 ·cases h
 split at h
 ·cases h
 split at h
 ·rename_i h1; exact absurd h h1
 ·rename_i h1
  refine ⟨by omega, by omega, firN_zero.1 (by omega), firN_zero.1 h⟩
theorem Bq {l : List ByteArray} {ps : List Prp} (h : dv l ps = 0) : ∀ p ∈ ps, cY p.v = true := by
 unfold dv at h
 repeat' split at h
 all_goals first | (cases h; done) | skip
 rename_i h1
 have h2 : nk ps = true := by cases e : nk ps <;> simp_all
 exact of_decide_eq_true h2
theorem nV {g : Gra} {i : Nat} (h : fw g i = 0) : 1 <= (ix g.nodes i).id /\ dv (ix g.nodes i).labels (ix g.nodes i).props = 0 := by
 unfold fw at h
 split at h
 ·cases h
 split at h
 ·cases h
 split at h
 ·cases h
 exact ⟨by omega, h⟩
theorem C9 {g : Gra} {i : Nat} (h : j6 g i = 0) : 1 <= (ix g.edges i).id /\ (fJ g (ix g.edges i).frm).2 = true /\ (fJ g (ix g.edges i).to).2 = true := by
 unfold j6 at h
 split at h
 ·cases h
 split at h
 ·cases h
 split at h
 ·cases h
 split at h
 ·cases h
 split at h
 ·cases h
 rename_i h1 h2 h3 h4
 exact ⟨by omega, by simpa using h3, by simpa using h4⟩
def ZrB : Blk := ⟨58, 2, [[.int .i64 0, .slice 1 true []]], true, true⟩
structure RelPre (g : Gra) (a : Atm) : Prop where
 wg : WfG g
 wa : WfA a
def Ca : PSp := aC RelPre (λ g a => Enc.enc (c9 g a))
noncomputable def CRel : Ctx := mkC prog G0 [(41, .pure rW), (35, .pure tP), (38, .pure yu), (42, .pure FR), (43, .pure Az), (44, .pure Km), (40, .pure oW), (45, .pure im)]
@[simp] theorem U6 : CRel.P = prog := rfl
@[simp] theorem VD : CRel.G = G0 := rfl
@[simp] theorem WT : CRel.S 41 = .pure rW /\ CRel.S 35 = .pure tP /\ CRel.S 38 = .pure yu /\ CRel.S 42 = .pure FR /\ CRel.S 43 = .pure Az /\ CRel.S 44 = .pure Km /\ CRel.S 40 = .pure oW /\ CRel.S 45 = .pure im := ⟨rfl, rfl, rfl, rfl, rfl, rfl, rfl, rfl⟩
theorem mQ : au CRel := ap (SZ) func41 (ap (SH) func35 (ap (Ug) func38 (ap (Wu) func42 (ap (Sy) func43 (ap (WD) func44 (ap (MI) func40 (ap (Fa) func45 (ak _ _))))))))
theorem Tl : PureOK prog G0 16 Ca := by
 refine lF mQ ae func16 rfl rfl rfl [21] (by kernel_rfl) (by decide) (λ g a hp => ?_)
 have hg := hp.wg
 have ha := hp.wa
 have htl := ha.tl
 obtain ⟨r, hr⟩ : ∃ r, c9 g a = r := ⟨_, rfl⟩
 rw [hr]
 rcases em2 (dm g = 0) with h1 | h1
 case inr =>
  rw [c9, if_pos (of_eq_false h1)] at hr
  subst hr
  simp [rW, hg, h1]
 cases h2 : e8 a
 ·rw [c9, if_neg (λ h => h (of_eq_true h1)), if_pos h2] at hr
  subst hr
  simp [rW, hg, h1, tP, ha, h2]
 cases h3 : o6 a
 ·rw [c9, if_neg (λ h => h (of_eq_true h1)), if_neg (by rw [h2]; decide), if_pos h3] at hr
  subst hr
  simp [rW, hg, h1, tP, ha, h2, yu, htl, h3]
 rw [c9, if_neg (λ h => h (of_eq_true h1)), if_neg (by rw [h2]; decide), if_neg (by rw [h3]; decide)] at hr
 obtain ⟨v3, vl, v1⟩ := fR h2
 obtain ⟨cn, ce, cN, cE⟩ := rP (of_eq_true h1)
 simp [rW, hg, h1, tP, ha, h2, yu, htl, h3]
 refine aB mQ ae [21] (λ i : Nat => ⟨[(2, .ptr 0 1 4 0 0), (3, .ptr 1 1 9 0 0), (4, .ptr 2 1 2 0 0), (5, .int .i64 i)], [GrB g, AtB a, ZrB]⟩) (λ i => i <= a.vars.length /\ ∀ j, j < i -> 0 <= ix a.vars j) (λ i => a.vars.length - i) (by kernel_rfl) ⟨0, by simp, ag (by simp) (by simp [GrB, AtB, ZrB])⟩ (λ i ⟨hi, hall⟩ => ?_)
 by_cases hlt : i < a.vars.length
 ·have i1 : I64 ((i : Int) + 1) := by unfold I64; omega
  rcases em2 (ix a.vars i < 0) with hb | hb
  ·rw [if_pos (show OB a.vars = true from decide_eq_true ⟨_, aq hlt, of_eq_true hb⟩)] at hr
   subst hr
   simp [GrB, AtB, ZrB, hlt, aa hlt, hb]
  ·simp [GrB, AtB, ZrB, hlt, aa hlt, hb, i1]
   refine ⟨i + 1, ⟨by omega, λ j hj => ?_⟩, by omega, ag (by simp) (by simp [GrB, AtB, ZrB])⟩
   rcases lt_or_eq_of_le (le_of_lt_succ hj) with h | rfl
   ·exact hall j h
   ·have := of_eq_false hb
    omega
 have hng : OB a.vars = false := decide_eq_false λ ⟨v, hv, hv0⟩ => by
  obtain ⟨j, hj, rfl⟩ := mem_iff_getElem.1 hv
  have := hall j (by omega)
  rw [az hj] at this
  omega
 rw [if_neg (by rw [hng]; decide)] at hr
 subst hr
 have hvl := iz a.vars
 have vl2 : a.vars.length <= 1000 := by omega
 rcases em2 (a.kind = 3) with hk | hk
 ·have hl3 := v3 (of_eq_true hk)
  rw [ie, if_pos (of_eq_true hk)]
  simp [GrB, AtB, ZrB, hlt, hk]
  refine aB mQ ae [21] (λ i : Nat => ⟨[(2, .ptr 0 1 4 0 0), (3, .ptr 1 1 9 0 0), (4, .ptr 2 1 2 0 0), (6, .own 3 ((g.edges.take i).filterMap (nt a)).length), (7, .int .i64 i)], [GrB g, AtB a, ZrB, rB 51 (ac ((g.edges.take i).filterMap (nt a)))]⟩) (λ i => i <= g.edges.length) (λ i => g.edges.length - i) (by kernel_rfl) ⟨0, by simp, (dw 6 1 51 (by simp) (by decide)).trans (ag (by simp) (by simp [GrB, AtB, ZrB, rB]))⟩ (λ i hi => ?_)
  have hfl := tM (nt a) g.edges i
  by_cases hil : i < g.edges.length
  ·have i1 : I64 ((i : Int) + 1) := by unfold I64; omega
   have hs := qh (nt a) hil
   obtain ⟨out, ho⟩ : ∃ out, (g.edges.take i).filterMap (nt a) = out := ⟨_, rfl⟩
   rw [ho] at hs hfl ⊢
   obtain ⟨t, ht⟩ : ∃ t, DG a (ix g.edges i) = t := ⟨_, rfl⟩
   cases t with
   | none =>
    have e : nt a (ix g.edges i) = none := by unfold nt; rw [ht]; split <;> rfl
    rw [e] at hs
    simp at hs
    simp [GrB, AtB, ZrB, rB, hil, aa hil, FR, hl3, ht, i1]
    exact ⟨i + 1, by omega, by omega, ag (by simp [hs]) (by simp [GrB, AtB, ZrB, rB, hs])⟩
   | some t =>
    cases hT : (decide (a.types = []) || xp a.types (ix g.edges i).type)
    ·have e : nt a (ix g.edges i) = none := by unfold nt; rw [hT]; rfl
     rw [e] at hs
     simp at hs
     simp [GrB, AtB, ZrB, rB, hil, aa hil, FR, hl3, ht, Az, htl, hT, i1]
     exact ⟨i + 1, by omega, by omega, ag (by simp [hs]) (by simp [GrB, AtB, ZrB, rB, hs])⟩
    ·have e : nt a (ix g.edges i) = some t := by unfold nt; rw [hT, if_pos rfl, ht]
     rw [e] at hs
     simp at hs
     simp [GrB, AtB, ZrB, rB, hil, aa hil, FR, hl3, ht, Az, htl, hT, i1]
     exact ⟨by omega, i + 1, by omega, by omega, ag (by simp [hs]) (by simp [GrB, AtB, ZrB, rB, hs])⟩
  ·have e : g.edges.take i = g.edges := take_of_length_le (by omega)
   rw [e] at hfl ⊢
   have hS : gG (g.edges.filterMap (nt a)) := ⟨by omega, λ t ht => by
    obtain ⟨x, hx, hx2⟩ := mem_filterMap.1 ht
    unfold nt at hx2
    split at hx2
    ·have := AJ hx2
     unfold nS
     omega
    ·cases hx2⟩
   simp [GrB, AtB, ZrB, rB, hil]
   refine AW.weak (mT 6) ?_
   refine bm mQ ae _ (by kernel_rfl) ?_
   simp [oW, vl2, im, hS]
 ·have hf : ∀ n : Nod, (if mE n a = true then some [n.id] else none : Option (List Int)) = if mE n a = true then some [n.id] else none := λ _ => rfl
  rw [ie, if_neg (of_eq_false hk)]
  obtain ⟨f, hf⟩ : ∃ f : Nod -> Option (List Int), f = λ n => if mE n a = true then some [n.id] else none := ⟨_, rfl⟩
  rw [<- hf]
  simp [GrB, AtB, ZrB, hlt, hk]
  refine aB mQ ae [21] (λ i : Nat => ⟨[(2, .ptr 0 1 4 0 0), (3, .ptr 1 1 9 0 0), (4, .ptr 2 1 2 0 0), (6, .own 3 ((g.nodes.take i).filterMap f).length), (10, .int .i64 i)], [GrB g, AtB a, ZrB, rB 51 (ac ((g.nodes.take i).filterMap f))]⟩) (λ i => i <= g.nodes.length) (λ i => g.nodes.length - i) (by kernel_rfl) ⟨0, by simp, (dw 6 1 51 (by simp) (by decide)).trans (ag (by simp) (by simp [GrB, AtB, ZrB, rB]))⟩ (λ i hi => ?_)
  have hfl := tM f g.nodes i
  by_cases hil : i < g.nodes.length
  ·have i1 : I64 ((i : Int) + 1) := by unfold I64; omega
   have hs := qh f hil
   obtain ⟨out, ho⟩ : ∃ out, (g.nodes.take i).filterMap f = out := ⟨_, rfl⟩
   rw [ho] at hs hfl ⊢
   have hH : HoldPre (ix g.nodes i) a := ⟨hg.n _ (aq hil), ha, Bq (nV (cN i hil)).2, CZ h2⟩
   cases hB : mE (ix g.nodes i) a
   ·have e : f (ix g.nodes i) = none := by rw [hf]; simp [hB]
    rw [e] at hs
    simp at hs
    simp [GrB, AtB, ZrB, rB, hil, aa hil, Km, hH, hB, i1]
    exact ⟨i + 1, by omega, by omega, ag (by simp [hs]) (by simp [GrB, AtB, ZrB, rB, hs])⟩
   ·have e : f (ix g.nodes i) = some [(ix g.nodes i).id] := by rw [hf]; simp [hB]
    rw [e] at hs
    simp at hs
    simp [GrB, AtB, ZrB, rB, hil, aa hil, Km, hH, hB, i1]
    exact ⟨by omega, i + 1, by omega, by omega, ag (by simp [hs]) (by simp [GrB, AtB, ZrB, rB, hs]; exact (bz out [[(ix g.nodes i).id]]).symm)⟩
  ·have e : g.nodes.take i = g.nodes := take_of_length_le (by omega)
   rw [e] at hfl ⊢
   have hS : gG (g.nodes.filterMap f) := ⟨by omega, λ t ht => by
    obtain ⟨x, hx, hx2⟩ := mem_filterMap.1 ht
    rw [hf] at hx2
    simp only at hx2
    split at hx2
    ·injection hx2 with hx2
     subst hx2
     unfold nS
     simp
    ·cases hx2⟩
   simp [GrB, AtB, ZrB, rB, hil]
   refine AW.weak (mT 6) ?_
   refine bm mQ ae _ (by kernel_rfl) ?_
   simp [oW, vl2, im, hS]
def fd : List Int -> List Int -> List Int -> Option (List Int)
 | b, v :: vs, r :: rs => if ix b v.toNat ≠ 0 /\ ix b v.toNat ≠ r then none else fd (b.set v.toNat r) vs rs
 | b, _, _ => some b
theorem FP {vars row : List Int} {i : Nat} (h : i < vars.length) (h' : i < row.length) (b : List Int) : fd b (vars.drop i) (row.drop i) = if ix b (ix vars i).toNat ≠ 0 /\ ix b (ix vars i).toNat ≠ ix row i then none else fd (b.set (ix vars i).toNat (ix row i)) (vars.drop (i + 1)) (row.drop (i + 1)) := by
 rw [drop_eq_getElem_cons h, drop_eq_getElem_cons h', az h, az h', fd]
theorem KA {vars row : List Int} {i : Nat} (h : vars.length <= i) (b : List Int) : fd b (vars.drop i) (row.drop i) = some b := by
 rw [drop_eq_nil_of_le h]
 cases row.drop i <;> rfl
structure ExtPre (b vars row : List Int) : Prop where
 bl : b.length <= 1000
 vl : vars.length <= row.length
 rl : row.length <= 1000
 v : ∀ v ∈ vars, 0 <= v /\ v < b.length
def IU : PSp := lu ExtPre (λ b vars row => .tup [Enc.enc ((fd b vars row).getD []), .bool (fd b vars row).isSome])
theorem WC : PureOK prog G0 50 IU := by
 refine NE aK ae func50 rfl rfl rfl (by kernel_rfl) (by decide) (λ b vars row hp => ?_)
 have hbl := hp.bl
 have hvl := hp.vl
 have hrl := hp.rl
 obtain ⟨r, hr⟩ : ∃ r, fd b vars row = r := ⟨_, rfl⟩
 rw [hr]
 simp
 refine ⟨(by first | omega | (unfold I64; omega)), ?_⟩
 refine am aK ae (λ q : Nat × List Int => ⟨[(1, Enc.enc vars), (2, Enc.enc row), (8, .own 0 b.length), (9, .int .i64 q.1)], [rB 3 (ac q.2)]⟩) (λ q => q.1 <= vars.length /\ q.2.length = b.length /\ fd q.2 (vars.drop q.1) (row.drop q.1) = r) (λ q => vars.length - q.1) (by kernel_rfl) ⟨(0, b), ⟨by omega, rfl, hr⟩, ag (by simp) (by simp [rB])⟩ (λ ⟨i, c⟩ ⟨h1, h2, h3⟩ => ?_)
 simp only at h1 h2 h3 ⊢
 by_cases hlt : i < vars.length
 ·have i1 : I64 ((i : Int) + 1) := by unfold I64; omega
  have hri : i < row.length := by omega
  obtain ⟨v0, v1⟩ := hp.v _ (aq hlt)
  rw [FP hlt hri] at h3
  have hvc : (ix vars i).toNat < c.length := by omega
  have hvc' : ix vars i < (c.length : Int) := by omega
  have hvb : ix vars i < (b.length : Int) := v1
  rcases em2 (ix c (ix vars i).toNat = 0) with c1 | c1
  ·rw [if_neg (λ h => h.1 (of_eq_true c1))] at h3
   simp [rB, hlt, aa hlt, hri, aa hri, v0, hvc, hvc', hvb, h2, aa hvc, c1, i1]
   exact ⟨i + 1, c.set (ix vars i).toNat (ix row i), ⟨by omega, by simp [h2], h3⟩, by omega, ag (by simp) (by simp [rB])⟩
  rcases em2 (ix c (ix vars i).toNat = ix row i) with c2 | c2
  ·rw [if_neg (λ h => h.2 (of_eq_true c2))] at h3
   simp [rB, hlt, aa hlt, hri, aa hri, v0, hvc, hvc', hvb, h2, aa hvc, c1, c2, i1]
   exact ⟨i + 1, c.set (ix vars i).toNat (ix row i), ⟨by omega, by simp [h2], h3⟩, by omega, ag (by simp) (by simp [rB])⟩
  ·rw [if_pos ⟨of_eq_false c1, of_eq_false c2⟩] at h3
   subst h3
   simp [rB, hlt, aa hlt, hri, aa hri, v0, hvc, hvc', hvb, h2, aa hvc, c1, c2]
 ·rw [KA (by omega)] at h3
  subst h3
  simp [rB, hlt, h2]
def u0 (g : Gra) (a : Atm) (b : List Int) : List (List Int) := (c9 g a).rows.filterMap (fd b (bA a.vars))
def Jn (g : Gra) (l : List (List Int)) (a : Atm) : List (List Int) := l.flatMap (u0 g a)
def dX (g : Gra) (c : Cnj) (i : Nat) : List (List Int) := (c.atoms.take i).foldl (Jn g) [List.replicate c.vars.length 0]
def fM (g : Gra) (c : Cnj) : List (List Int) := if ¬ dm g = 0 then [] else if ¬ dz c = 0 then [] else srt (dX g c c.atoms.length)
structure RowPre (g : Gra) (c : Cnj) : Prop where
 wg : WfG g
 wc : WfC c
 nn : g.nodes.length <= 14
 ne : g.edges.length <= 14
 na : c.atoms.length <= 6
theorem dG {c : Cnj} (h : dz c = 0) : c.vars.length <= 24 /\ c.atoms.length <= 12 /\ (∀ a ∈ c.atoms, e8 a = true /\ yZ a c.vars.length = true) /\ ∀ v, v < c.vars.length -> oC c.atoms v = true := by
 unfold dz at h
 split at h
 ·cases h
 split at h
 ·cases h
 split at h
 ·cases h
 split at h
 ·cases h
 split at h
 ·cases h
 split at h
 ·cases h
 rename_i h1 h2 h3 h4 h5 h6
 have q1 : Jj c = true := by cases e : Jj c <;> simp_all
 have q2 : Id c = true := by cases e : Id c <;> simp_all
 exact ⟨by omega, by omega, of_decide_eq_true q1, of_decide_eq_true q2⟩
theorem sd (g : Gra) (a : Atm) (h1 : g.nodes.length <= 14) (h2 : g.edges.length <= 14) : (c9 g a).rows.length <= 14 := by
 unfold c9
 repeat' split
 all_goals first | (exact Nat.zero_le _) | skip
 have := pd (ie g a)
 have h3 : (ie g a).length <= 14 := by
  unfold ie
  split
  ·exact le_trans (List.length_filterMap_le _ _) h2
  ·exact le_trans (List.length_filterMap_le _ _) h1
 exact le_trans this h3
theorem EM {g : Gra} {a : Atm} {r : List Int} (h : r ∈ (c9 g a).rows) : e8 a = true /\ dm g = 0 /\ r ∈ ie g a := by
 unfold c9 at h
 split at h
 ·cases h
 split at h
 ·cases h
 split at h
 ·cases h
 split at h
 ·cases h
 rename_i h1 h2 h3 h4
 refine ⟨by cases e : e8 a <;> simp_all, by omega, (pF _ _).1 h⟩
theorem IY {l : List Int} (h : l.length = 1) : bA l = l := by
 match l, h with
 | [x], _ => rfl
theorem zc {a : Atm} (h : e8 a = true) (hk : ¬ a.kind = 3) : a.vars.length = 1 := by
 unfold e8 at h
 split at h
 ·cases h
 ·rename_i h1
  have h1 : oJ a.kind = a.vars.length := by
   by_cases e : oJ a.kind = a.vars.length
   ·exact e
   ·exact absurd e h1
  unfold oJ at h1
  split at h1
  ·omega
  ·exfalso; first | omega | (rw [if_neg hk] at h1; omega)
theorem DT {g : Gra} {a : Atm} {r : List Int} (h : r ∈ (c9 g a).rows) : r.length = (bA a.vars).length := by
 obtain ⟨hf, _, hm⟩ := EM h
 unfold ie at hm
 split at hm
 ·obtain ⟨e, _, he⟩ := mem_filterMap.1 hm
  unfold nt at he
  split at he
  ·exact AJ he
  ·cases he
 ·rename_i hk
  obtain ⟨n, _, hn⟩ := mem_filterMap.1 hm
  have := IY (zc hf hk)
  rw [this, zc hf hk]
  split at hn
  ·injection hn with hn; rw [<- hn]; rfl
  ·cases hn
theorem Ap : ∀ {b vars row r : List Int}, fd b vars row = some r -> r.length = b.length
 | b, v :: vs, x :: xs, r, h => by
  rw [fd] at h
  split at h
  ·cases h
  ·have := Ap h
   simpa using this
 | b, [], row, r, h => by
  have : fd b [] row = some b := by cases row <;> rfl
  rw [this] at h
  injection h with h
  rw [h]
 | b, v :: vs, [], r, h => by
  have : fd b (v :: vs) [] = some b := rfl
  rw [this] at h
  injection h with h
  rw [h]
theorem k9 {g : Gra} {c : Cnj} {i : Nat} (h : i < c.atoms.length) : dX g c (i + 1) = Jn g (dX g c i) (ix c.atoms i) := by
 unfold dX
 rw [take_succ_eq_append_getElem h, List.foldl_append, az h]
 rfl
theorem AE (g : Gra) (a : Atm) (h : (c9 g a).rows.length <= 14) : ∀ l : List (List Int), (Jn g l a).length <= l.length * 14
 | [] => by simp [Jn]
 | b :: r => by
  have ih := AE g a h r
  have : (u0 g a b).length <= 14 := le_trans (List.length_filterMap_le _ _) h
  unfold Jn at ih ⊢
  rw [List.flatMap_cons, length_append, List.length_cons]
  omega
theorem kh {g : Gra} {c : Cnj} (h1 : g.nodes.length <= 14) (h2 : g.edges.length <= 14) : ∀ i, i <= c.atoms.length -> (dX g c i).length <= 14 ^ i
 | 0, _ => by simp [dX]
 | i + 1, hi => by
  have ih := kh (c := c) h1 h2 i (by omega)
  rw [k9 (g := g) (show i < c.atoms.length by omega)]
  have := AE g (ix c.atoms i) (sd g _ h1 h2) (dX g c i)
  rw [pow_succ]
  omega
theorem iB {g : Gra} {c : Cnj} : ∀ i, i <= c.atoms.length -> ∀ b ∈ dX g c i, b.length = c.vars.length
 | 0, _, b, hb => by
  simp [dX] at hb
  rw [hb]
  simp
 | i + 1, hi, b, hb => by
  rw [k9 (g := g) (show i < c.atoms.length by omega)] at hb
  obtain ⟨b0, h0, h1⟩ := List.mem_flatMap.1 hb
  obtain ⟨r, _, h2⟩ := mem_filterMap.1 h1
  rw [Ap h2]
  exact iB (g := g) (c := c) i (by omega) b0 h0
def MY : PSp := aC RowPre (λ g c => Enc.enc (fM g c))
noncomputable def CRws : Ctx := mkC prog G0 [(41, .pure rW), (14, .pure pm), (40, .pure oW), (16, .pure Ca), (50, .pure IU), (45, .pure im)]
@[simp] theorem Vs : CRws.P = prog := rfl
@[simp] theorem VX : CRws.G = G0 := rfl
@[simp] theorem WU : CRws.S 41 = .pure rW /\ CRws.S 14 = .pure pm /\ CRws.S 40 = .pure oW /\ CRws.S 16 = .pure Ca /\ CRws.S 50 = .pure IU /\ CRws.S 45 = .pure im := ⟨rfl, rfl, rfl, rfl, rfl, rfl⟩
theorem kM : au CRws := ap (SZ) func41 (ap (PY) func14 (ap (MI) func40 (ap (Tl) func16 (ap (WC) func50 (ap (Fa) func45 (ak _ _))))))
def RlB (r : Rlt) : Blk := ⟨58, 2, [[.int .i64 r.arity, .slice 1 false (ac r.rows)]], true, true⟩
theorem VE : PureOK prog G0 18 MY := by
 refine lF kM ae func18 rfl rfl rfl [8, 25] (by kernel_rfl) (by decide) (λ g c hp => ?_)
 have hg := hp.wg
 have hc := hp.wc
 obtain ⟨r, hr⟩ : ∃ r, fM g c = r := ⟨_, rfl⟩
 rw [hr]
 rcases em2 (dm g = 0) with h1 | h1
 case inr =>
  rw [fM, if_pos (of_eq_false h1)] at hr
  subst hr
  simp [rW, hg, h1]
 rcases em2 (dz c = 0) with h2 | h2
 case inr =>
  rw [fM, if_neg (λ h => h (of_eq_true h1)), if_pos (of_eq_false h2)] at hr
  subst hr
  simp [rW, hg, h1, pm, hc, h2]
 rw [fM, if_neg (λ h => h (of_eq_true h1)), if_neg (λ h => h (of_eq_true h2))] at hr
 obtain ⟨cv, ca, cf, cu⟩ := dG (of_eq_true h2)
 have sc : bV CRws 99 = false := by show bV ⟨prog, λ _ => .no, G0⟩ 99 = false; kernel_rfl
 have sc1 : bV CRws 22 = false := by show bV ⟨prog, λ _ => .no, G0⟩ 22 = false; kernel_rfl
 simp [rW, hg, h1, pm, hc, h2, sc]
 have rI : AV.slice 1 true [[.slice 1 false (ac (List.replicate c.vars.length (0 : Int)))]] = .slice 1 true (ac [List.replicate c.vars.length (0 : Int)]) := rfl
 refine ⟨⟨by omega, by omega⟩, ?_⟩
 refine aB kM ae [8, 25] (λ i : Nat => ⟨[(2, .ptr 0 1 4 0 0), (3, .ptr 1 1 2 0 0), (5, Enc.enc (dX g c i)), (6, .int .i64 i)], [GrB g, CjB c]⟩) (λ i => i <= c.atoms.length) (λ i => c.atoms.length - i) (by kernel_rfl) ⟨0, by omega, (wu 5 1 (ac [List.replicate c.vars.length (0 : Int)]) (by simp [rI])).trans (bG 2 (by simp [dX]) (by simp) (by simp [AV.clean, AV.clean1]) (by simp) (by simp [GrB, CjB]))⟩ (λ i hi => ?_)
 by_cases hlt : i < c.atoms.length
 ·have i1 : I64 ((i : Int) + 1) := by unfold I64; omega
  have ha := aq hlt
  obtain ⟨a, hae⟩ : ∃ a, ix c.atoms i = a := ⟨_, rfl⟩
  rw [hae] at ha
  have hwa := hc.a a ha
  obtain ⟨hfm, hir⟩ := cf a ha
  obtain ⟨_, vl3, _⟩ := fR hfm
  have vl2 : a.vars.length <= 1000 := by omega
  have hRp : RelPre g a := ⟨hg, hwa⟩
  have hsu := k9 (g := g) hlt
  rw [hae] at hsu
  have hll := kh hp.nn hp.ne i hi
  have hlw := iB (g := g) i hi
  have hrl := sd g a hp.nn hp.ne
  have hpw : 14 ^ i <= 14 ^ 5 := Nat.pow_le_pow_right (by decide) (by have := hp.na; omega)
  have hll2 : (dX g c i).length <= 537824 := le_trans hll hpw
  obtain ⟨R, hR⟩ : ∃ R, c9 g a = R := ⟨_, rfl⟩
  obtain ⟨L, hL⟩ : ∃ L, dX g c i = L := ⟨_, rfl⟩
  obtain ⟨V, hV⟩ : ∃ V, bA a.vars = V := ⟨_, rfl⟩
  have hVl := iz a.vars
  have hwid : ∀ r ∈ R.rows, r.length = V.length := λ r hr => by rw [<- hR] at hr; rw [<- hV]; exact DT hr
  have hVm : ∀ v ∈ V, 0 <= v /\ v < (c.vars.length : Int) := λ v hv => by
   rw [<- hV, fU] at hv
   exact (of_decide_eq_true hir) v hv
  have hX : ∀ b, u0 g a b = R.rows.filterMap (fd b V) := λ b => by unfold u0; rw [hR, hV]
  rw [hL] at hll2 hlw hsu
  rw [hR] at hrl
  rw [hV] at hVl
  simp [GrB, CjB, hlt, aa hlt, hae, oW, vl2, hL, hV]
  refine aA kM ae [.read, .pure, .read, .pure, .pure, .read, .read, .eff, .eff] [[],[],[1],[],[3,1,2],[2,1,3,4],[4,3,1,2,5,0],[],[0,5,2,1,3,4,6,7]] (by kernel_rfl) (by kernel_rfl) (by kernel_rfl) (by kernel_rfl) ?_
  simp [hlt, aa hlt, hae, Ca, hRp, hR]
  refine aB kM ae [8, 25] (λ k : Nat => ⟨[(2, .ptr 0 1 4 0 0), (3, .ptr 1 1 2 0 0), (5, Enc.enc L), (6, .int .i64 i), (7, Enc.enc V), (8, .ptr 2 1 2 0 0), (9, .own 3 ((L.take k).flatMap (u0 g a)).length), (10, .int .i64 k)], [GrB g, CjB c, RlB R, rB 98 (ac ((L.take k).flatMap (u0 g a)))]⟩) (λ k => k <= L.length /\ ((L.take k).flatMap (u0 g a)).length <= k * 14) (λ k => L.length - k) (by kernel_rfl) ⟨0, ⟨by omega, by simp⟩, (dw 9 1 98 (by simp) (by decide)).trans (ag (by simp) (by simp [GrB, CjB, RlB, rB]))⟩ (λ k ⟨hk, hkl⟩ => ?_)
  obtain ⟨pre, hpre⟩ : ∃ pre, (L.take k).flatMap (u0 g a) = pre := ⟨_, rfl⟩
  rw [hpre] at hkl ⊢
  by_cases hkL : k < L.length
  ·have k1 : I64 ((k : Int) + 1) := by unfold I64; omega
   have hb := hlw _ (aq hkL)
   obtain ⟨b, hbe⟩ : ∃ b, ix L k = b := ⟨_, rfl⟩
   rw [hbe] at hb
   have hnext : (L.take (k + 1)).flatMap (u0 g a) = pre ++ R.rows.filterMap (fd b V) := by
    rw [take_succ_eq_append_getElem hkL, List.flatMap_append, hpre, <- az hkL, hbe]
    simp [hX]
   simp [GrB, CjB, RlB, rB, hkL]
   refine aB kM ae [8, 25] (λ j : Nat => ⟨[(2, .ptr 0 1 4 0 0), (3, .ptr 1 1 2 0 0), (5, Enc.enc L), (6, .int .i64 i), (7, Enc.enc V), (8, .ptr 2 1 2 0 0), (9, .own 3 (pre ++ (R.rows.take j).filterMap (fd b V)).length), (10, .int .i64 k), (11, .int .i64 j)], [GrB g, CjB c, RlB R, rB 98 (ac (pre ++ (R.rows.take j).filterMap (fd b V)))]⟩) (λ j => j <= R.rows.length) (λ j => R.rows.length - j) (by kernel_rfl) ⟨0, by omega, ag (by simp) (by simp [GrB, CjB, RlB, rB])⟩ (λ j hj => ?_)
   have hfl := tM (fd b V) R.rows j
   by_cases hjR : j < R.rows.length
   ·have j1 : I64 ((j : Int) + 1) := by unfold I64; omega
    have hs := qh (fd b V) hjR
    obtain ⟨out, ho⟩ : ∃ out, (R.rows.take j).filterMap (fd b V) = out := ⟨_, rfl⟩
    rw [ho] at hs hfl ⊢
    have hE : ExtPre b V (ix R.rows j) := ⟨by omega, by rw [hwid _ (aq hjR)]; omega, by rw [hwid _ (aq hjR)]; omega, λ v hv => by rw [hb]; exact hVm v hv⟩
    obtain ⟨t, ht⟩ : ∃ t, fd b V (ix R.rows j) = t := ⟨_, rfl⟩
    rw [ht] at hs
    obtain ⟨out2, ho2⟩ : ∃ out2, pre ++ out = out2 := ⟨_, rfl⟩
    have hol : out2.length <= k * 14 + 14 := by rw [<- ho2, length_append]; omega
    rw [ho2]
    cases t with
    | none =>
     have hs2 : pre ++ (R.rows.take (j + 1)).filterMap (fd b V) = out2 := by rw [hs]; simpa using ho2
     simp [GrB, CjB, RlB, rB, hkL, aa hkL, hbe, hjR, aa hjR, IU, hE, ht, j1]
     exact ⟨j + 1, by omega, by omega, ag (by simp [<- length_append, hs2]) (by simp [GrB, CjB, RlB, rB, hs2])⟩
    | some t =>
     have hs2 : pre ++ (R.rows.take (j + 1)).filterMap (fd b V) = out2 ++ [t] := by rw [hs, <- append_assoc, ho2]
     simp [GrB, CjB, RlB, rB, hkL, aa hkL, hbe, hjR, aa hjR, IU, hE, ht, j1, sc]
     refine ⟨by omega, j + 1, by omega, by omega, bG 4 (by simp [<- length_append, hs2]; rw [length_append]; rfl) (by simp) (by simp [AV.clean, AV.clean1]) (by simp) (by simp [GrB, CjB, RlB, rB, hs2])⟩
   ·have e : R.rows.take j = R.rows := take_of_length_le (by omega)
    rw [e] at hfl ⊢
    rw [<- hnext]
    have hnl : ((L.take (k + 1)).flatMap (u0 g a)).length <= (k + 1) * 14 := by rw [hnext, length_append]; omega
    simp [GrB, CjB, RlB, rB, hjR, k1]
    exact ⟨k + 1, ⟨by omega, by simpa using hnl⟩, by omega, ag (by simp) (by simp [GrB, CjB, RlB, rB])⟩
  ·have e : L.take k = L := take_of_length_le (by omega)
   have hst : dX g c (i + 1) = pre := by rw [hsu, <- hpre, e]; rfl
   simp [GrB, CjB, RlB, rB, hkL, i1]
   refine ⟨i + 1, by omega, by omega, (mT 5).trans (bG 2 (by simp [hst, bL]) (by simp) (by simp [AV.clean, AV.clean1]) (by simp) (by simp [GrB, CjB]))⟩
 ·obtain ⟨L, hL⟩ : ∃ L, dX g c i = L := ⟨_, rfl⟩
  obtain rfl : i = c.atoms.length := by omega
  have hll := kh hp.nn hp.ne c.atoms.length (le_refl _)
  have hlw := iB (g := g) c.atoms.length (le_refl _)
  have hpw : 14 ^ c.atoms.length <= 14 ^ 6 := Nat.pow_le_pow_right (by decide) hp.na
  have hll2 : (dX g c c.atoms.length).length <= 7529536 := le_trans hll hpw
  rw [hL] at hll2 hlw hr
  simp [GrB, CjB, hlt, hL]
  refine aB kM ae [8, 25] (λ k : Nat => ⟨[(5, Enc.enc L), (14, .own 2 (L.take k).length), (15, .int .i64 k)], [GrB g, CjB c, rB 51 (ac (L.take k))]⟩) (λ k => k <= L.length) (λ k => L.length - k) (by kernel_rfl) ⟨0, by omega, (dw 14 1 51 (by simp) (by decide)).trans (ag (by simp) (by simp [GrB, CjB, rB]))⟩ (λ k hk => ?_)
  have htl : (L.take k).length = k := by rw [length_take]; omega
  by_cases hkL : k < L.length
  ·have k1 : I64 ((k : Int) + 1) := by unfold I64; omega
   have e1 : L.take (k + 1) = L.take k ++ [ix L k] := by rw [take_succ_eq_append_getElem hkL, az hkL]
   have e2 : min (k + 1) L.length = k + 1 := by omega
   have e3 : min k L.length = k := by omega
   simp [GrB, CjB, rB, hkL, aa hkL, k1, sc1, e3]
   refine ⟨by omega, k + 1, by omega, by omega, bG 3 (by simp [e2]) (by simp) (by simp [AV.clean, AV.clean1]) (by simp) (by simp [GrB, CjB, rB, e1])⟩
  ·have e : L.take k = L := take_of_length_le (by omega)
   rw [e]
   have hS : gG L := ⟨by omega, λ b hb => by have := hlw b hb; unfold nS; omega⟩
   simp [GrB, CjB, rB, hkL]
   refine AW.weak (mT 14) ?_
   refine bm kM ae _ (by kernel_rfl) ?_
   simp [im, hS, hr]
structure Hy where
 N : Int
 E : List (List Int)
instance : Inhabited Hy := ⟨⟨0, []⟩⟩
@[simp] theorem Hy.eta (x : Hy) : Hy.mk x.N x.E = x := rfl
def Hy.cells (x : Hy) : List AV := [.int .i64 x.N, .slice 1 false (ac x.E)]
def Hy.unc (c : List AV) : Hy :=
 match c with
 | [.int _ a0, .slice _ _ a1] => ⟨a0, (a1.map Enc.unc)⟩
 | _ => default
theorem Hy.unc_cells (x : Hy) : Hy.unc x.cells = x := by
 cases x
 simp only [Hy.cells, Hy.unc, dK]
instance : Enc Hy where
 sz := 2
 cells := Hy.cells
 enc x := .agg x.cells
 unc := Hy.unc
 dec v := match v with | .agg c => Hy.unc c | _ => default
 unc_cells := Hy.unc_cells
 dec_enc x := Hy.unc_cells x
@[simp] theorem U7 (x : Hy) : Enc.enc x = .agg [.int .i64 x.N, .slice 1 false (ac x.E)] := rfl
@[simp] theorem Xa (k0 : IntKind) (a0 : Int) (s1 : Nat) (f1 : Bool) (a1 : List (List AV)) : (Enc.unc [.int k0 a0, .slice s1 f1 a1] : Hy) = ⟨a0, (Enc.dec (.slice s1 f1 a1))⟩ := rfl
@[simp] theorem W7 (l : List AV) : (Enc.dec (.agg l) : Hy) = Enc.unc l := rfl
def ofF (c : Cnj) : Hy := if ¬ dz c = 0 then ⟨0, []⟩ else ⟨c.vars.length, c.atoms.map λ a => bA a.vars⟩
def ZhB : Blk := ⟨24, 2, [[.int .i64 0, .slice 1 true []]], true, true⟩
def OhB (n i : Nat) : Blk := ⟨24, 2, [[.int .i64 n, .own 3 i]], true, false⟩
def MT : PSp := aN (λ (c : Cnj) => WfC c) (λ c => Enc.enc (ofF c))
noncomputable def COfC : Ctx := mkC prog G0 [(14, .pure pm), (40, .pure oW)]
@[simp] theorem VR : COfC.P = prog := rfl
@[simp] theorem Vp : COfC.G = G0 := rfl
@[simp] theorem WZ : COfC.S 14 = .pure pm /\ COfC.S 40 = .pure oW := ⟨rfl, rfl⟩
theorem x6 : au COfC := ap (PY) func14 (ap (MI) func40 (ak _ _))
theorem W8 : PureOK prog G0 15 MT := by
 refine qZ x6 ae func15 rfl rfl rfl [7] (by kernel_rfl) (by decide) (λ c hc => ?_)
 obtain ⟨r, hr⟩ : ∃ r, ofF c = r := ⟨_, rfl⟩
 rw [hr]
 rcases em2 (dz c = 0) with h2 | h2
 case inr =>
  rw [ofF, if_pos (of_eq_false h2)] at hr
  subst hr
  simp [pm, hc, h2]
 rw [ofF, if_neg (λ h => h (of_eq_true h2))] at hr
 obtain ⟨cv, ca, cf, cu⟩ := dG (of_eq_true h2)
 have sc1 : bV COfC 22 = false := by show bV ⟨prog, λ _ => .no, G0⟩ 22 = false; kernel_rfl
 simp [pm, hc, h2]
 refine AW.weak (kY 2 0 1 1 51 rfl rfl rfl (by decide)) ?_
 refine aB x6 ae [7] (λ i : Nat => ⟨[(1, .ptr 0 1 2 0 0), (2, .ptr 1 1 2 0 0), (3, .ptr 2 1 2 0 0), (4, .int .i64 i)], [CjB c, ZhB, OhB c.vars.length i, rB 51 (ac ((c.atoms.take i).map λ a => bA a.vars))]⟩) (λ i => i <= c.atoms.length) (λ i => c.atoms.length - i) (by kernel_rfl) ⟨0, by omega, ag (by simp) (by simp [CjB, ZhB, OhB, rB])⟩ (λ i hi => ?_)
 have hml : ((c.atoms.take i).map λ a => bA a.vars).length = i := by rw [List.length_map, length_take]; omega
 by_cases hlt : i < c.atoms.length
 ·have i1 : I64 ((i : Int) + 1) := by unfold I64; omega
  obtain ⟨hfm, hir⟩ := cf _ (aq hlt)
  obtain ⟨_, vl3, _⟩ := fR hfm
  have vl2 : (ix c.atoms i).vars.length <= 1000 := by omega
  have hs : (c.atoms.take (i + 1)).map (λ a => bA a.vars) = ((c.atoms.take i).map λ a => bA a.vars) ++ [bA (ix c.atoms i).vars] := by
   rw [take_succ_eq_append_getElem hlt, List.map_append, az hlt]
   rfl
  generalize (c.atoms.take i).map (λ a => bA a.vars) = out at *
  simp [CjB, ZhB, OhB, rB, hlt]
  refine aA x6 ae [.pure, .read, .pure, .read, .pure, .pure, .read, .read, .eff, .eff, .pure, .eff] [[],[0],[],[2],[],[4,2,3],[3,2,4,5],[5,4,2,3,6],[6,3,2,4,5,7],[7,5,4,2,3,6,8,0,1],[9,8,7,6,5,4,3,2,1,0],[0,1,2,3,4,5,6,7,8,9,10]] (by kernel_rfl) (by kernel_rfl) (by kernel_rfl) (by kernel_rfl) ?_
  simp [hlt, aa hlt, oW, vl2, hml, sc1, i1]
  refine ⟨by omega, i + 1, by omega, by omega, ag (by simp) (by rw [<- List.map_take, hs]; try simp [CjB, ZhB, OhB, rB])⟩
 ·have e : c.atoms.take i = c.atoms := take_of_length_le (by omega)
  rw [e] at hml ⊢
  subst hr
  simp [CjB, ZhB, OhB, rB, hlt, hml]
open Go.RowKit Go.ChangeMaps Go.MapKept
def upd (G : Nat -> AV) (b : Nat) (v : AV) : Nat -> AV := λ g => if g = b then v else G g
@[simp] theorem z9 (G : Nat -> AV) (b : Nat) (v : AV) : upd G b v b = v := if_pos rfl
theorem qn (G : Nat -> AV) {b g : Nat} (v : AV) (h : g ≠ b) : upd G b v g = G g := if_neg h
@[simp] theorem UM (G : Nat -> AV) (b : Nat) (v v' : AV) : upd (upd G b v) b v' = upd G b v' := by
 funext g
 unfold upd
 split <;> rfl
def CG (C : Ctx) (G : Nat -> AV) : Ctx := { C with G := G }
@[simp] theorem ZR (C : Ctx) (G : Nat -> AV) : (CG C G).P = C.P := rfl
@[simp] theorem ZI (C : Ctx) (G : Nat -> AV) : (CG C G).S = C.S := rfl
@[simp] theorem ZK (C : Ctx) (G : Nat -> AV) : (CG C G).G = G := rfl
def Over (C : Ctx) (G : Nat -> AV) : Prop := (∀ g, G g = C.G g ∨ C.G g = .undef) /\ ∀ g k e L, C.G g ≠ .mapof k e L
theorem Over.refl {C : Ctx} (h : ∀ g k e L, C.G g ≠ .mapof k e L) : Over C C.G := ⟨λ _ => .inl rfl, h⟩
theorem GV.over {C : Ctx} {G : Nat -> AV} (h : Over C G) {w : World} {X : Nat -> Prop} (hG : ∀ g, GV C.P w X g (G g)) (g : Nat) : GV C.P w X g (C.G g) := by
 rcases h.1 g with e | e
 ·rw [<- e]; exact hG g
 ·rw [e]; exact RepD.undef _
theorem Ea {C : Ctx} (hS : au C) {G : Nat -> AV} (h : Over C G) : au (CG C G) := by
 intro f
 have hf := hS f
 show jN C.P G f (C.S f)
 cases hE : C.S f with
 | no => trivial
 | pure p =>
  rw [hE] at hf
  exact hf.imp (λ ⟨h1, h2⟩ => ⟨λ w X args avs ob r hX hG => h1 w X args avs ob r hX (GV.over h hG), h2⟩) id
 | frz p =>
  rw [hE] at hf
  exact ⟨λ w X args avs ob r hX hG => hf.1 w X args avs ob r hX (GV.over h hG), hf.2⟩
 | gen g =>
  rw [hE] at hf
  exact ⟨λ w X β H args avs ob r H' hR hG => hf.1 w X β H args avs ob r H' hR (GV.over h hG), hf.2⟩
structure Off (M : Nat -> Prop) (w w' : World) : Prop where
 os : w'.os = w.os
 tape : w'.tape = w.tape
 output : w'.output = w.output
 drawn : w'.drawn = w.drawn
 size : w'.heap.size = w.heap.size
 block : ∀ b, ¬ M b -> w'.heap[b]? = w.heap[b]?
theorem Off.refl (M : Nat -> Prop) (w : World) : Off M w w := ⟨rfl, rfl, rfl, rfl, rfl, λ _ _ => rfl⟩
def z8 (C : Ctx) (N : Nat) (X : Nat -> Prop) (w0 : World) (β0 : List BI) (H0 : List Blk) (M : Nat -> Prop) (st : ASt) (G : Nat -> AV) (a : Act) (w : World) : Prop :=
 ∃ w0', Off M w0 w0' /\ Over C G /\ (∀ b k e L, G b = .mapof k e L -> M b ∨ w0.heap.size <= b) /\ Rel (CG C G) N X w0' β0 H0 st a w
def AWm (C : Ctx) (N h0 : Nat) (M : Nat -> Prop) (code : Code) (st : ASt) (G : Nat -> AV) (Q : Exit -> ASt -> (Nat -> AV) -> Prop) : Prop :=
 ∀ (X : Nat -> Prop) (w0 : World) (β0 : List BI) (H0 : List Blk) (a : Act) (w : World), H0.length = h0 -> z8 C N X w0 β0 H0 M st G a w -> code.wp C.P (λ ex a' w' => ∃ st' G', Q ex st' G' /\ z8 C N X w0 β0 H0 M st' G' a' w') a w
section
variable {C : Ctx} {N h0 : Nat} {M : Nat -> Prop}
theorem AWm.mono {code : Code} {st : ASt} {G : Nat -> AV} {Q Q' : Exit -> ASt -> (Nat -> AV) -> Prop} (h : AWm C N h0 M code st G Q) (hq : ∀ ex st' G', Q ex st' G' -> Q' ex st' G') : AWm C N h0 M code st G Q' :=
 λ X w0 β0 H0 a w hl hr => Code.wp_mono (λ _ _ _ ⟨st', G', hq', hr'⟩ => ⟨st', G', hq _ _ _ hq', hr'⟩) (h X w0 β0 H0 a w hl hr)
theorem AWm.of {code : Code} {st : ASt} {G : Nat -> AV} {Q : Exit -> ASt -> (Nat -> AV) -> Prop} (h : Over C G -> AW (CG C G) N h0 code st λ ex st' => Q ex st' G) : AWm C N h0 M code st G Q := λ X w0 β0 H0 a w hl ⟨w0', h1, h2, h3, hr⟩ =>
 Code.wp_mono (λ _ _ _ ⟨st', hq', hr'⟩ => ⟨st', G, hq', w0', h1, h2, h3, hr'⟩) (h h2 X w0' β0 H0 a w hl hr)
theorem AWm.weak {code : Code} {st st' : ASt} {G : Nat -> AV} {Q : Exit -> ASt -> (Nat -> AV) -> Prop} (hw : Weak (CG C G) N h0 st st') (h : AWm C N h0 M code st' G Q) : AWm C N h0 M code st G Q :=
 λ X w0 β0 H0 a w hl ⟨w0', h1, h2, h3, hr⟩ => h X w0 β0 H0 a w hl ⟨w0', h1, h2, h3, hw X w0' β0 H0 a w hl hr⟩
def ri (K : ASt -> (Nat -> AV) -> Prop) (Q : Exit -> ASt -> (Nat -> AV) -> Prop) (ex : Exit) (st : ASt) (G : Nat -> AV) : Prop := match ex with | .normal => K st G | e => Q e st G
def kZ (id : Nat) (Q : Exit -> ASt -> (Nat -> AV) -> Prop) (ex : Exit) (st : ASt) (G : Nat -> AV) : Prop := match ex with | .exit j => if j = id then Q .normal st G else Q (.exit j) st G | e => Q e st G
def o9 (Q : Exit -> ASt -> (Nat -> AV) -> Prop) (ex : Exit) (st : ASt) (G : Nat -> AV) : Prop := match ex with | .goto _ => False | e => Q e st G
def nU {α : Type} (Sf : α -> ASt) (Gf : α -> Nat -> AV) (pre : α -> Prop) (lt : α -> Prop) (N h0 : Nat) (C : Ctx) (Q : Exit -> ASt -> (Nat -> AV) -> Prop) (ex : Exit) (st' : ASt) (G' : Nat -> AV) : Prop :=
 match ex with | .normal => ∃ x', pre x' /\ lt x' /\ G' = Gf x' /\ Weak (CG C G') N h0 st' (Sf x') | e => Q e st' G'
theorem Lo {a b : Code} {st : ASt} {G : Nat -> AV} {Q : Exit -> ASt -> (Nat -> AV) -> Prop} (h : AWm C N h0 M a st G (ri (λ st' G' => AWm C N h0 M b st' G' Q) Q)) : AWm C N h0 M (.seq a b) st G Q := λ X w0 β0 H0 x w hl hr => by
 refine wp_seq (Code.wp_mono (λ ex a' w' ⟨st', G', hq, hr'⟩ => ?_) (h X w0 β0 H0 x w hl hr))
 cases ex with
 | normal => exact hq X w0 β0 H0 a' w' hl hr'
 | _ => exact ⟨st', G', hq, hr'⟩
theorem Gj {id : Nat} {b : Code} {st : ASt} {G : Nat -> AV} {Q : Exit -> ASt -> (Nat -> AV) -> Prop} (h : AWm C N h0 M b st G (kZ id Q)) : AWm C N h0 M (.block id b) st G Q := λ X w0 β0 H0 x w hl hr => by
 refine wp_block (Code.wp_mono (λ ex a' w' ⟨st', G', hq, hr'⟩ => ?_) (h X w0 β0 H0 x w hl hr))
 cases ex with
 | exit j =>
  simp only [Exit.inBlock, kZ] at hq ⊢
  split
  ·rename_i e; rw [if_pos e] at hq; exact ⟨st', G', hq, hr'⟩
  ·rename_i e; rw [if_neg e] at hq; exact ⟨st', G', hq, hr'⟩
 | _ => exact ⟨st', G', hq, hr'⟩
theorem Ha {b : Code} {st : ASt} {G : Nat -> AV} {Q : Exit -> ASt -> (Nat -> AV) -> Prop} (h : AWm C N h0 M b st G (o9 Q)) : AWm C N h0 M (.scope b) st G Q := λ X w0 β0 H0 a w hl hr => by
 refine wp_scope_straight (Code.wp_mono (λ ex a' w' ⟨st', G', hq, hr'⟩ => ?_) (h X w0 β0 H0 a w hl hr))
 cases ex with
 | goto l => exact hq
 | _ => exact ⟨st', G', hq, hr'⟩
theorem IA {c : Operand} {x y : Code} {st : ASt} {G : Nat -> AV} {Q : Exit -> ASt -> (Nat -> AV) -> Prop} (h : cD (aev (CG C G) st.ρ 0 c) λ b => dP b (AWm C N h0 M x st G Q) (AWm C N h0 M y st G Q)) : AWm C N h0 M (.cond c x y) st G Q := λ X w0 β0 H0 a w hl hr => by
 have hr0 := hr
 obtain ⟨w0', _, _, _, β, R, S0, Tr, Gr, hN, hdef⟩ := hr0
 have hE := bq Tr Gr 0 c
 unfold cD at h
 split at h
 ·rename_i b hb
  rw [hb] at hE
  exact wp_cond_split (ct hE) (λ ht => h.1 ht X w0 β0 H0 a w hl hr) (λ hf => h.2 hf X w0 β0 H0 a w hl hr)
 ·rename_i hb
  rw [hb] at hE
  obtain ⟨b, hb'⟩ := mz hE
  exact wp_cond_split hb' (λ _ => h.1.1 rfl X w0 β0 H0 a w hl hr) (λ _ => h.2.2 rfl X w0 β0 H0 a w hl hr)
 ·exact h.elim
theorem HW {α : Type} {body : Code} {st : ASt} {G : Nat -> AV} {Q : Exit -> ASt -> (Nat -> AV) -> Prop} (Sf : α -> ASt) (Gf : α -> Nat -> AV) (pre : α -> Prop) (m : α -> Nat)
  (start : ∃ x, pre x /\ G = Gf x /\ Weak (CG C G) N h0 st (Sf x)) (step : ∀ x, pre x -> AWm C N h0 M body (Sf x) (Gf x) (nU Sf Gf pre (λ x' => m x' < m x) N h0 C Q)) : AWm C N h0 M (.loop body) st G Q := by
 intro X w0 β0 H0 a w hl hr
 obtain ⟨x0, hx0, rfl, hw0⟩ := start
 obtain ⟨w0', h1, h2, h3, hr⟩ := hr
 refine wp_loop_ghost (λ n a w => ∃ x, m x = n /\ pre x /\ z8 C N X w0 β0 H0 M (Sf x) (Gf x) a w) (m x0) ⟨x0, rfl, hx0, w0', h1, h2, h3, hw0 X w0' β0 H0 a w hl hr⟩ ?_
 rintro n a w ⟨x, rfl, hx, hr⟩
 refine Code.wp_mono (λ ex a' w' ⟨st', G', hq, hr'⟩ => ?_) (step x hx X w0 β0 H0 a w hl hr)
 cases ex with
 | normal =>
  obtain ⟨x', hx', hlt, rfl, hw⟩ := hq
  obtain ⟨w0'', k1, k2, k3, hr'⟩ := hr'
  exact ⟨m x', hlt, x', rfl, hx', w0'', k1, k2, k3, hw X w0'' β0 H0 a' w' hl hr'⟩
 | _ => exact ⟨st', G', hq, hr'⟩
end
theorem A4 {w : World} {b c off : Nat} {v : Value} {es : Array MapEntry} {clock : Nat} (hb : w.heap[b]? = some (.map es clock)) (hc : w.cell? ⟨c, off, none⟩ = some v) : c ≠ b := by
 rintro rfl
 unfold World.cell? at hc
 simp [hb] at hc
theorem RepD.off {w : World} {b : Nat} {es : Array MapEntry} {clock : Nat} {o : Obj} (hb : w.heap[b]? = some (.map es clock)) {X : Nat -> Prop} {v : Value} {av : AV} (h : RepD w X v av) : RepD (setBlock w b o) X v av := by
 have hsz : (setBlock w b o).heap.size = w.heap.size := by simp [setBlock]
 have hcell : ∀ {c off : Nat} {u : Value}, w.cell? ⟨c, off, none⟩ = some u -> (setBlock w b o).cell? ⟨c, off, none⟩ = some u := λ {c off u} hc => by
  have hne := A4 hb hc
  rw [<- hc]
  exact World.cell?_of_block (heap_setBlock_other hb _ hne)
 induction h with
 | undef v => exact .undef v
 | bool b => exact .bool b
 | int k n => exact .int k n
 | str s => exact .str s
 | nilptr => exact .nilptr
 | anyb b => exact .anyb b
 | mapp b => exact .mapp b
 | tab c k zs t fr hc hx =>
  have hne : c ≠ b := by rintro rfl; rw [hb] at hc; cases hc
  exact .tab c k zs t fr ((heap_setBlock_other hb _ hne).trans hc) hx
 | slice sz full rows a n cap val hn h1 h2 h3 hr hm hv ih =>
  refine .slice sz full rows a n cap val hn h1 h2 h3 hr (λ h0 => ?_) ih
  obtain ⟨c, off, rfl, hlt, hx, hc⟩ := hm h0
  exact ⟨c, off, rfl, by rw [hsz]; exact hlt, hx, λ i j hi hj => ⟨hcell (hc i j hi hj).1, (hc i j hi hj).2⟩⟩
 | iptr c off cells val hlt hx hm hv ih => exact .iptr c off cells val (by rw [hsz]; exact hlt) hx (λ j hj => ⟨hcell (hm j hj).1, (hm j hj).2⟩) ih
 | agg cs cells val hl hm hv ih => exact .agg cs cells val hl hm ih
 | tup cs cells val hl hm hv ih => exact .tup cs cells val hl hm ih
 | fn f cs cells val hl hm hv ih => exact .fn f cs cells val hl hm ih
theorem Rep.off {w : World} {b : Nat} {es : Array MapEntry} {clock : Nat} {o : Obj} (hb : w.heap[b]? = some (.map es clock)) {X : Nat -> Prop} {β : List BI} {H : List Blk} {v : Value} {av : AV} (h : Rep w X β H v av) : Rep (setBlock w b o) X β H v av := by
 induction h with
 | deep h => exact .deep (h.off hb)
 | own l n a cap b' hb' hn h0 hc hx => exact .own l n a cap b' hb' hn h0 hc hx
 | osl l n sz off len a cap b' hb' hn hle h0 hc hx => exact .osl l n sz off len a cap b' hb' hn hle h0 hc hx
 | ptr l n sz i f a b' hb' hn hx => exact .ptr l n sz i f a b' hb' hn hx
 | agg cs cells val hl hm hv ih => exact .agg cs cells val hl hm ih
 | tup cs cells val hl hm hv ih => exact .tup cs cells val hl hm ih
 | fn f cs cells val hl hm hv ih => exact .fn f cs cells val hl hm ih
theorem HRel.off {w : World} {b : Nat} {es : Array MapEntry} {clock : Nat} {o : Obj} (hb : w.heap[b]? = some (.map es clock)) {X : Nat -> Prop} {β : List BI} {H : List Blk} (h : HRel w X β H) : HRel (setBlock w b o) X β H := by
 have hsz : (setBlock w b o).heap.size = w.heap.size := by simp [setBlock]
 refine ⟨h.len, λ l bi bk h1 h2 => ?_, λ l c cap h1 => by rw [hsz]; exact h.lt l c cap h1, h.inj, λ c hc => by rw [hsz]; exact h.base c hc⟩
 have := h.blk l bi bk h1 h2
 cases bi with
 | nil => exact this
 | lies c cap =>
  obtain ⟨cur, k1, k2, k3, k4, k5, k6, k7⟩ := this
  have hne : c ≠ b := by rintro rfl; rw [hb] at k1; cases k1
  refine ⟨cur, (heap_setBlock_other hb _ hne).trans k1, k2, k3, k4, k5, k6, λ i j r av hr hj => ?_⟩
  obtain ⟨v, q1, q2, q3, q4⟩ := k7 i j r av hr hj
  exact ⟨v, q1, q2, q3.off hb, λ hd => (q4 hd).off hb⟩
inductive MK where
 | mk (t : TypeId)
 | up (t : TypeId) (m x v : Operand)
 | no
def Ag : Op -> MK
 | .makeMap t none => .mk t
 | .mapUpdate t m x v => .up t m x v
 | _ => .no
def Je (C : Ctx) (G : Nat -> AV) (t : TypeId) (m x v : AV) : Option (Prop × (Nat -> AV)) :=
 match m with
 | .mapp b => match G b with
  | .mapof k e L =>
   if BK C.P t = some (k, e) then
    match rx C.P k x, rx C.P e v with
    | some (ob, kl), some (ob', vl) => some (ob /\ ob' /\ L.length < 1000000000000, upd G b (.mapof k e ((kl, vl) :: L)))
    | _, _ => none
   else none
  | _ => none
 | _ => none
attribute [simp] Ag Je
def vO (o : Option (Prop × (Nat -> AV))) (K : Prop -> (Nat -> AV) -> Prop) : Prop :=
 match o with
 | some (ob, G) => K ob G
 | none => False
@[simp] theorem PS (ob : Prop) (G : Nat -> AV) (K : Prop -> (Nat -> AV) -> Prop) : vO (some (ob, G)) K = K ob G := rfl
@[congr] theorem NQ {o o' : Option (Prop × (Nat -> AV))} {K : Prop -> (Nat -> AV) -> Prop} (h : dh o = o') : vO o K = vO o' K := by rw [aR] at h; rw [h]
def fD (C : Ctx) (ops : Array Oper) : List Oper -> ASt -> (Nat -> AV) -> (ASt -> (Nat -> AV) -> Prop) -> Prop
 | [], st, G, K => K st G
 | o :: r, st, G, K =>
  match Ag o.op with
  | .mk t => fI (bg ops st.ρ o) λ g => g = true /\ match BK C.P t with
   | some (k, e) => ∀ b, G b = .undef -> fD C ops r ⟨b7 st.ρ o.dst (.mapp b), st.H⟩ (upd G b (.mapof k e [])) K
   | none => False
  | .up t m x v => fI (bg ops st.ρ o) λ g => dP g (vO (Je C G t (aev (CG C G) st.ρ 0 m) (aev (CG C G) st.ρ 0 x) (aev (CG C G) st.ρ 0 v)) λ ob G' => ob /\ fD C ops r ⟨b7 st.ρ o.dst .undef, st.H⟩ G' K)
    (fD C ops r ⟨b7 st.ρ o.dst (.tup []), st.H⟩ G K)
  | .no => fI (bg ops st.ρ o) λ g => dP g (fK (aI (CG C G) st o) λ ob v H' => ob /\ fD C ops r ⟨b7 st.ρ o.dst v, H'⟩ G K) (fD C ops r ⟨b7 st.ρ o.dst (.tup []), st.H⟩ G K)
@[congr] theorem Oy {C : Ctx} {ops : Array Oper} {l : List Oper} {st st' : ASt} {G : Nat -> AV} {K : ASt -> (Nat -> AV) -> Prop} (h : dh st = st') : fD C ops l st G K = fD C ops l st' G K := by rw [aR] at h; rw [h]
section
variable {C : Ctx}
@[simp] theorem Rk (ops : Array Oper) (st : ASt) (G : Nat -> AV) (K : ASt -> (Nat -> AV) -> Prop) : fD C ops [] st G K = K st G := rfl
@[simp] theorem Cm (ops : Array Oper) (o : Oper) (r : List Oper) (st : ASt) (G : Nat -> AV) (K : ASt -> (Nat -> AV) -> Prop) : fD C ops (o :: r) st G K =
  match Ag o.op with
  | .mk t => fI (bg ops st.ρ o) λ g => g = true /\ match BK C.P t with
   | some (k, e) => ∀ b, G b = .undef -> fD C ops r ⟨b7 st.ρ o.dst (.mapp b), st.H⟩ (upd G b (.mapof k e [])) K
   | none => False
  | .up t m x v => fI (bg ops st.ρ o) λ g => dP g (vO (Je C G t (aev (CG C G) st.ρ 0 m) (aev (CG C G) st.ρ 0 x) (aev (CG C G) st.ρ 0 v)) λ ob G' => ob /\ fD C ops r ⟨b7 st.ρ o.dst .undef, st.H⟩ G' K)
    (fD C ops r ⟨b7 st.ρ o.dst (.tup []), st.H⟩ G K)
  | .no => fI (bg ops st.ρ o) λ g => dP g (fK (aI (CG C G) st o) λ ob v H' => ob /\ fD C ops r ⟨b7 st.ρ o.dst v, H'⟩ G K) (fD C ops r ⟨b7 st.ρ o.dst (.tup []), st.H⟩ G K) := by
 rw [fD]
end
section
variable {C : Ctx} {N h0 : Nat} {M : Nat -> Prop} {X : Nat -> Prop} {w0 : World} {β0 : List BI} {H0 : List Blk}
theorem GV.cases_ptr {P : Program} {w : World} {X : Nat -> Prop} {g : Nat} {av : AV} (h : GV P w X g av) : av = .undef ∨ g < w.heap.size := by
 cases av with
 | mapof k e L => exact .inr h.1.lt
 | _ =>
  have h : RepD w X (.pointer (some ⟨g, 0, none⟩)) _ := h
  first
   | exact .inl rfl
   | (cases h
      all_goals first
      | exact .inr ‹_›
      | (right
         rename_i hx hb
         rcases Nat.lt_or_ge g w.heap.size with h | h
         ·exact h
         ·rw [Array.getElem?_eq_none h] at hb; cases hb))
theorem GM (a x : Lit) (r : List (Lit × Lit)) (k z : Lit) : u6 ((a, x) :: r) k z = if a.sameKey k then x else u6 r k z := rfl
theorem Co {P : Program} {w' : World} {b : Nat} {k e : TypeId} {L : List (Lit × Lit)} {kl vl : Lit} (hk : WideAt.IsKeyLit kl) {D : DataW Unit} (h2 : Maps.Tidy D) (h3 : ∀ kl z, D.atKey kl (.lit z) = .lit (u6 L kl z)) (h4 : ∀ kl, Maps.has D kl = DB L kl) (h5 : Maps.size D = An L)
  (ho : w'.ownsMap P k (plainElem P e) b (L.length + 1) (D.put kl (.lit vl))) : MapRel P w' b k e ((kl, vl) :: L) := by
 refine ⟨_, ho, h2.put hk _, λ q z => ?_, λ q => ?_, ?_⟩
 ·rw [GM]
  by_cases hq : q = kl
  ·subst hq
   rw [Maps.atKey_put_same h2.isMap hk, if_pos (WideAt.sameKey_self hk)]
  ·rw [Maps.atKey_put_other hq, h3, if_neg (by rw [Maps.sameKey_ne (λ e => hq e.symm)]; decide)]
 ·show _ = (kl.sameKey q || DB L q)
  by_cases hq : q = kl
  ·subst hq
   rw [Maps.has_put_same h2.isMap hk, WideAt.sameKey_self hk]; rfl
  ·rw [Maps.has_put_other hq, h4, Maps.sameKey_ne (λ e => hq e.symm)]; rfl
 ·rw [Maps.size_put h2, h4, h5]
  rfl
theorem Cb {st : ASt} {G : Nat -> AV} {a : Act} {w : World} (hr : z8 C N X w0 β0 H0 M st G a w) {t : TypeId} {m x v : AV} {ob : Prop} {G' : Nat -> AV} (h : Je C G t m x v = some (ob, G')) (hob : ob) {vm vx vv : Value}
  (hE : ∀ β, HRel w X β st.H -> ju w (Mu X β st.H) β st.H a st.ρ -> nQ (CG C G) w (Mu X β st.H) -> Rep w (Mu X β st.H) β st.H vm m /\ Rep w (Mu X β st.H) β st.H vx x /\ Rep w (Mu X β st.H) β st.H vv v) (dst : Option Tmp) (hd : ∀ d, dst = some d -> d < N) :
  ∃ w', (Instr.mapUpdate t vm vx vv).run C.P w = .ok () w' /\ z8 C N X w0 β0 H0 M ⟨b7 st.ρ dst .undef, st.H⟩ G' (a.put dst undef) w' := by
 obtain ⟨w0', o1, o2, o3, β, R, S0, T, Gr, hN, hdef⟩ := hr
 obtain ⟨e1, e2, e3⟩ := hE β R T Gr
 unfold Je at h
 split at h
 ·rename_i b
  obtain rfl := tQ e1
  split at h
  ·rename_i k e L hg
   split at h
   ·rename_i ht
    split at h
    ·rename_i ob1 kl ob2 vl hl1 hl2
     injection h with h; injection h with f1 f2; subst f1 f2
     have hG := Gr b
     rw [show (CG C G).G b = .mapof k e L from hg] at hG
     obtain ⟨⟨D, d1, d2, d3, d4, d5⟩, hXb⟩ := hG
     obtain ⟨K, hk, hkl⟩ := vT hl1 hob.1 e2
     have hv := B3 hl2 hob.2.1 e3
     obtain ⟨w', hrun, hown, es, clock, es', clock', hb, rfl⟩ := d1.store K (sG ht) (show L.length < maxLen by have := hob.2.2; show _ < 9223372036854775807; omega) hk hv
     have hsz : (setBlock w b (.map es' clock')).heap.size = w.heap.size := by simp [setBlock]
     have hlt : b < w.heap.size := (Array.getElem?_eq_some_iff.1 hb).1
     refine ⟨_, hrun, setBlock w0' b (.map es' clock'), ⟨o1.os, o1.tape, o1.output, o1.drawn, by simp [setBlock]; exact o1.size, λ c hc => ?_⟩, ⟨λ g => ?_, o2.2⟩, λ c k' e' L' hc => ?_, β, R.off hb, ⟨⟨S0.keeps.os, S0.keeps.tape, S0.keeps.output, by simp only [setBlock, Array.size_setIfInBounds]; exact S0.keeps.size, λ c hc hn => ?_, S0.keeps.drawn⟩, ⟨S0.grow.old, λ l bk c hc => by simp only [setBlock, Array.size_setIfInBounds]; exact S0.grow.at_ l bk c hc⟩, S0.len⟩, ?_, λ g => ?_, ?_, ?_⟩
     ·by_cases hcb : c = b
      ·subst hcb
       have h1 : w0.heap.size <= c := (o3 c k e L hg).resolve_left hc
       simp only [setBlock]
       rw [Array.getElem?_eq_none (by rw [Array.size_setIfInBounds, o1.size]; exact h1), Array.getElem?_eq_none h1]
      ·simp only [setBlock]
       rw [Array.getElem?_setIfInBounds_ne (λ e => hcb e.symm)]
       exact o1.block c hc
     ·by_cases hgb : g = b
      ·subst hgb
       right
       exact (o2.1 g).resolve_left λ q => o2.2 g _ _ _ (q.symm.trans hg)
      ·rw [qn _ _ hgb]; exact o2.1 g
     ·by_cases hcb : c = b
      ·subst hcb; exact o3 c k e L hg
      ·rw [qn _ _ hcb] at hc; exact o3 c _ _ _ hc
     ·by_cases hcb : c = b
      ·subst hcb
       rw [heap_setBlock_same hb]
       have : c < w0'.heap.size := by simpa [setBlock] using hc
       simp only [setBlock]
       rw [Array.getElem?_setIfInBounds_self_of_lt this]
      ·rw [heap_setBlock_other hb _ hcb]
       simp only [setBlock]
       rw [Array.getElem?_setIfInBounds_ne (λ e => hcb e.symm)]
       exact S0.keeps.block c (by simpa [setBlock] using hc) hn
     ·have T' : ju (setBlock w b (.map es' clock')) (Mu X β st.H) β st.H a st.ρ := λ t => (T t).off hb
      exact tw T' (StepR.refl _ _ _ R.len) mR dst (λ d h => by rw [hN]; exact hd d h)
     ·by_cases hgb : g = b
      ·subst hgb
       show GV C.P _ _ _ (upd G g _ g)
       rw [z9]
       exact ⟨Co hkl d2 d3 d4 d5 hown, hXb⟩
      ·have := Gr g
       show GV C.P _ _ _ (upd G b _ g)
       rw [qn _ _ hgb]
       have this : GV C.P w (Mu X β st.H) g (G g) := this
       generalize G g = av at this ⊢
       cases av with
       | mapof k' e' L' => exact ⟨this.1.same (heap_setBlock_other hb _ hgb), this.2⟩
       | _ => exact RepD.off hb (show RepD w _ _ _ from this)
     ·cases dst with
      | none => exact hN
      | some d => simp [Act.put, hN]
     ·cases dst with
      | none => exact hdef
      | some d => exact hdef
    ·cases h
   ·cases h
  ·cases h
 ·cases h
theorem lr (hS : au C) {ops : Array Oper} {Q : Exit -> Act -> World -> Prop} : ∀ (l : List Oper), (∀ o ∈ l, ∀ d, o.dst = some d -> d < N) -> ∀ {st : ASt} {G : Nat -> AV} {K : ASt -> (Nat -> AV) -> Prop} {a : Act} {w : World}, fD C ops l st G K -> z8 C N X w0 β0 H0 M st G a w ->
  (∀ st' G' a' w', z8 C N X w0 β0 H0 M st' G' a' w' -> K st' G' -> Q .normal a' w') -> wpList C.P ops Q l a w
 | [], _, st, G, K, a, w, h, hr, hQ => hQ st G a w hr h
 | o :: r, hd, st, G, K, a, w, h, hr, hQ => by
  have hr0 := hr
  obtain ⟨w0', o1, o2, o3, β, R, S0, T, Gr, hN, hdef⟩ := hr
  have ih := λ {st : ASt} {G : Nat -> AV} {a : Act} {w : World} => lr hS r (λ o ho => hd o (mem_cons_of_mem _ ho)) (st := st) (G := G) (K := K) (a := a) (w := w) (ops := ops) (Q := Q)
  have hdo := hd o (by simp)
  rw [Cm] at h
  unfold fI at h
  unfold wpList
  split at h
  ·rename_i t hk
   split at h
   ·rename_i g hg
    rw [dy T hg]
    obtain ⟨rfl, h⟩ := h
    rw [if_pos rfl]
    split at h
    ·rename_i k e ht
     left
     obtain ⟨dst, op, type, pos, after, guard⟩ := o
     simp only at hk h hdo
     have hop : op = .makeMap t none := by
      unfold Ag at hk
      split at hk
      ·injection hk with hk; subst hk; rfl
      ·cases hk
      ·cases hk
     subst hop
     have hb : G w.heap.size = .undef := by
      rcases GV.cases_ptr (Gr w.heap.size) with h1 | h1
      ·exact h1
      ·exact absurd h1 (lt_irrefl _)
     refine de (u := .map (some w.heap.size)) (w' := w.alloc (.map #[] 0)) (by simp only [execOp, Option.map_none, run_makeMap, Sem.run_bind, Result.andThen_ok, Sem.run_pure]) ?_
     refine ih (h _ hb) ?_ hQ
     have hkp : Keeps (λ _ => False) w (w.alloc (.map #[] 0)) := Keeps.alloc _ w _
     have hq : StepR w β st.H (w.alloc (.map #[] 0)) β st.H := StepR.quiet hkp R.len
     refine ⟨w0', o1, ⟨λ g => ?_, o2.2⟩, λ b k' e' L' hL => ?_, β, R.quiet hkp, S0.trans hq, tw T hq (u := .map (some w.heap.size)) (r := .mapp w.heap.size) (.deep (.mapp _)) dst (λ d h => by rw [hN]; exact hdo d h), λ g => ?_, ?_, ?_⟩
     ·by_cases hgb : g = w.heap.size
      ·subst hgb
       exact .inr ((o2.1 _).elim (λ q => q.symm.trans hb) id)
      ·rw [qn _ _ hgb]; exact o2.1 g
     ·by_cases hgb : b = w.heap.size
      ·subst hgb; exact .inr (by have := S0.keeps.size; rw [o1.size] at this; exact this)
      ·rw [qn _ _ hgb] at hL; exact o3 b _ _ _ hL
     ·by_cases hgb : g = w.heap.size
      ·subst hgb
       show GV C.P _ _ _ (upd G w.heap.size _ w.heap.size)
       rw [z9]
       refine ⟨⟨.map [], World.ownsMap_made w C.P k _, Maps.tidy_empty, λ kl z => rfl, λ kl => rfl, rfl⟩, λ hx => ?_⟩
       rcases hx with hx | ⟨l, c, blk, h1, _, _⟩
       ·exact absurd (R.base _ hx) (lt_irrefl _)
       ·exact absurd (R.lt l _ c h1).1 (lt_irrefl _)
      ·have := GV.keep (Gr g) (λ b hb hn => hkp.block b hb (λ h => h)) hkp.size (λ b _ h => h)
       show GV C.P _ _ _ (upd G w.heap.size _ g)
       rw [qn _ _ hgb]
       exact this
     ·cases dst with
      | none => exact hN
      | some d => simp [Act.put, hN]
     ·cases dst with
      | none => exact hdef
      | some d => exact hdef
    ·exact h.elim
   ·exact h.elim
  ·rename_i t m x v hk
   split at h
   ·rename_i g hg
    rw [dy T hg]
    cases g with
    | true =>
     simp only [kC] at h
     unfold vO at h
     split at h
     ·rename_i ob G' hu
      rw [if_pos rfl]
      left
      obtain ⟨dst, op, type, pos, after, guard⟩ := o
      simp only at hk h hdo
      have hop : op = .mapUpdate t m x v := by
       unfold Ag at hk
       split at hk
       ·cases hk
       ·injection hk with h1 h2 h3 h4; subst h1 h2 h3 h4; rfl
       ·cases hk
      subst hop
      obtain ⟨w', hrun, hr'⟩ := Cb hr0 hu h.1 (vm := a.eval m) (vx := a.eval x) (vv := a.eval v) (λ β R T Gr => ⟨bq T Gr 0 m, bq T Gr 0 x, bq T Gr 0 v⟩) dst hdo
      unfold Oper.wp
      simp only [execOp, hrun, Sem.run_bind, Result.andThen_ok, Sem.run_pure, Oper.upon_skip]
      exact ih h.2 hr' hQ
     ·exact h.elim
    | false =>
     simp only [jn] at h
     rw [if_neg (by simp)]
     exact ih h ⟨w0', o1, o2, o3, dq S0 T Gr hN hdef R (StepR.refl _ _ _ R.len) kK o.dst hdo⟩ hQ
   ·exact h.elim
  ·split at h
   ·rename_i g hg
    rw [dy T hg]
    cases g with
    | true =>
     simp only [kC] at h
     unfold fK at h
     split at h
     ·rename_i ob v H' hst
      rw [if_pos rfl]
      refine .inl (cV (Ea hS o2) R T Gr hst h.1 λ u w' β' R' S hr => ih h.2 ⟨w0', o1, o2, o3, dq S0 T Gr hN hdef R' S hr o.dst hdo⟩ hQ)
     ·exact h.elim
    | false =>
     simp only [jn] at h
     rw [if_neg (by simp)]
     exact ih h ⟨w0', o1, o2, o3, dq S0 T Gr hN hdef R (StepR.refl _ _ _ R.len) kK o.dst hdo⟩ hQ
   ·exact h.elim
end
def dr (C : Ctx) (hm hd : List Nat) (N : Nat) : Code -> Bool
 | .region id ops draw => if qL hm id = true then (ops.toList.all λ o => match o.dst with | some d => decide (d < N) | none => true) && !draw else qL hd id || ((ops.toList.all λ o => match o.dst with | some d => decide (d < N) | none => true) && (!draw || DQ C ops))
 | .seq a b => dr C hm hd N a && dr C hm hd N b
 | .cond _ a b => dr C hm hd N a && dr C hm hd N b
 | .block _ b => dr C hm hd N b
 | .scope b => dr C hm hd N b
 | _ => true
def fN (C : Ctx) (hm hd : List Nat) (N h0 : Nat) (M : Nat -> Prop) : Code -> ASt -> (Nat -> AV) -> (Exit -> ASt -> (Nat -> AV) -> Prop) -> Prop
 | .skip, st, G, Q => Q .normal st G
 | .region id ops d, st, G, Q => if qL hm id = true then fD C ops ops.toList st G (Q .normal) else if qL hd id = true then AWm C N h0 M (.region id ops d) st G Q else gQ (CG C G) ops ops.toList st λ st' => Q .normal st' G
 | .seq a b, st, G, Q => fN C hm hd N h0 M a st G (ri (λ st' G' => fN C hm hd N h0 M b st' G' Q) Q)
 | .cond c a b, st, G, Q => cD (aev (CG C G) st.ρ 0 c) λ x => dP x (fN C hm hd N h0 M a st G Q) (fN C hm hd N h0 M b st G Q)
 | .block id b, st, G, Q => fN C hm hd N h0 M b st G (kZ id Q)
 | .exit id, st, G, Q => Q (.exit id) st G
 | .ret, st, G, Q => Q .ret st G
 | .label _, st, G, Q => Q .normal st G
 | .scope b, st, G, Q => fN C hm hd N h0 M b st G (o9 Q)
 | .loop b, st, G, Q => AWm C N h0 M (.loop b) st G Q
 | _, _, _, _ => False
section
variable {C : Ctx} {hm hd : List Nat} {N h0 : Nat} {M : Nat -> Prop}
@[congr] theorem Ru {code : Code} {st st' : ASt} {G : Nat -> AV} {Q : Exit -> ASt -> (Nat -> AV) -> Prop} (h : dh st = st') : AWm C N h0 M code st G Q = AWm C N h0 M code st' G Q := by rw [aR] at h; rw [h]
@[congr] theorem QO {code : Code} {st st' : ASt} {G : Nat -> AV} {Q : Exit -> ASt -> (Nat -> AV) -> Prop} (h : dh st = st') : fN C hm hd N h0 M code st G Q = fN C hm hd N h0 M code st' G Q := by rw [aR] at h; rw [h]
@[simp] theorem Rv (st : ASt) (G : Nat -> AV) (Q : Exit -> ASt -> (Nat -> AV) -> Prop) : fN C hm hd N h0 M .skip st G Q = Q .normal st G := rfl
@[simp] theorem Np (id : Nat) (l : List Oper) (d : Bool) (st : ASt) (G : Nat -> AV) (Q : Exit -> ASt -> (Nat -> AV) -> Prop) : fN C hm hd N h0 M (.region id l.toArray d) st G Q =
  if qL hm id = true then fD C l.toArray l st G (Q .normal) else if qL hd id = true then AWm C N h0 M (.region id l.toArray d) st G Q else gQ (CG C G) l.toArray l st λ st' => Q .normal st' G := rfl
@[simp] theorem Sb (a b : Code) (st : ASt) (G : Nat -> AV) (Q : Exit -> ASt -> (Nat -> AV) -> Prop) : fN C hm hd N h0 M (.seq a b) st G Q = fN C hm hd N h0 M a st G (ri (λ st' G' => fN C hm hd N h0 M b st' G' Q) Q) := rfl
@[simp] theorem Gg (c : Operand) (a b : Code) (st : ASt) (G : Nat -> AV) (Q : Exit -> ASt -> (Nat -> AV) -> Prop) : fN C hm hd N h0 M (.cond c a b) st G Q = cD (aev (CG C G) st.ρ 0 c) λ x => dP x (fN C hm hd N h0 M a st G Q) (fN C hm hd N h0 M b st G Q) := rfl
@[simp] theorem Q2 (id : Nat) (b : Code) (st : ASt) (G : Nat -> AV) (Q : Exit -> ASt -> (Nat -> AV) -> Prop) : fN C hm hd N h0 M (.block id b) st G Q = fN C hm hd N h0 M b st G (kZ id Q) := rfl
@[simp] theorem RZ (id : Nat) (st : ASt) (G : Nat -> AV) (Q : Exit -> ASt -> (Nat -> AV) -> Prop) : fN C hm hd N h0 M (.exit id) st G Q = Q (.exit id) st G := rfl
@[simp] theorem TV (st : ASt) (G : Nat -> AV) (Q : Exit -> ASt -> (Nat -> AV) -> Prop) : fN C hm hd N h0 M .ret st G Q = Q .ret st G := rfl
@[simp] theorem Ro (b : Code) (st : ASt) (G : Nat -> AV) (Q : Exit -> ASt -> (Nat -> AV) -> Prop) : fN C hm hd N h0 M (.loop b) st G Q = AWm C N h0 M (.loop b) st G Q := rfl
@[congr] theorem Qn {K : ASt -> (Nat -> AV) -> Prop} {Q : Exit -> ASt -> (Nat -> AV) -> Prop} {ex ex' : Exit} {st st' : ASt} {G : Nat -> AV} (h : dh ex = ex') (h' : st = st') : ri K Q ex st G = ri K Q ex' st' G := by rw [aR] at h; rw [h, h']
@[simp] theorem MF (K : ASt -> (Nat -> AV) -> Prop) (Q : Exit -> ASt -> (Nat -> AV) -> Prop) (st : ASt) (G : Nat -> AV) : ri K Q .normal st G = K st G := rfl
@[simp] theorem Rp (K : ASt -> (Nat -> AV) -> Prop) (Q : Exit -> ASt -> (Nat -> AV) -> Prop) (st : ASt) (G : Nat -> AV) : ri K Q .ret st G = Q .ret st G := rfl
@[simp] theorem QQ (K : ASt -> (Nat -> AV) -> Prop) (Q : Exit -> ASt -> (Nat -> AV) -> Prop) (st : ASt) (G : Nat -> AV) (i : Nat) : ri K Q (.exit i) st G = Q (.exit i) st G := rfl
@[congr] theorem Oh {id : Nat} {Q : Exit -> ASt -> (Nat -> AV) -> Prop} {ex ex' : Exit} {st st' : ASt} {G : Nat -> AV} (h : dh ex = ex') (h' : st = st') : kZ id Q ex st G = kZ id Q ex' st' G := by rw [aR] at h; rw [h, h']
@[simp] theorem K6 (id : Nat) (Q : Exit -> ASt -> (Nat -> AV) -> Prop) (st : ASt) (G : Nat -> AV) : kZ id Q .normal st G = Q .normal st G := rfl
@[simp] theorem OS (id : Nat) (Q : Exit -> ASt -> (Nat -> AV) -> Prop) (st : ASt) (G : Nat -> AV) : kZ id Q .ret st G = Q .ret st G := rfl
@[simp] theorem Nn (id : Nat) (Q : Exit -> ASt -> (Nat -> AV) -> Prop) (st : ASt) (G : Nat -> AV) (i : Nat) : kZ id Q (.exit i) st G = if i = id then Q .normal st G else Q (.exit i) st G := rfl
@[congr] theorem K0 {Q : Exit -> ASt -> (Nat -> AV) -> Prop} {ex ex' : Exit} {st st' : ASt} {G : Nat -> AV} (h : dh ex = ex') (h' : st = st') : o9 Q ex st G = o9 Q ex' st' G := by rw [aR] at h; rw [h, h']
@[congr] theorem NU {α : Type} {Sf : α -> ASt} {Gf : α -> Nat -> AV} {pre lt : α -> Prop} {Q : Exit -> ASt -> (Nat -> AV) -> Prop} {ex ex' : Exit} {st st' : ASt} {G : Nat -> AV} (h : dh ex = ex') (h' : st = st') : nU Sf Gf pre lt N h0 C Q ex st G = nU Sf Gf pre lt N h0 C Q ex' st' G := by rw [aR] at h; rw [h, h']
@[simp] theorem KV {α : Type} (Sf : α -> ASt) (Gf : α -> Nat -> AV) (pre : α -> Prop) (lt : α -> Prop) (Q : Exit -> ASt -> (Nat -> AV) -> Prop) (st' : ASt) (G' : Nat -> AV) : nU Sf Gf pre lt N h0 C Q .normal st' G' = ∃ x', pre x' /\ lt x' /\ G' = Gf x' /\ Weak (CG C G') N h0 st' (Sf x') := rfl
@[simp] theorem QR {α : Type} (Sf : α -> ASt) (Gf : α -> Nat -> AV) (pre : α -> Prop) (lt : α -> Prop) (Q : Exit -> ASt -> (Nat -> AV) -> Prop) (st' : ASt) (G' : Nat -> AV) : nU Sf Gf pre lt N h0 C Q .ret st' G' = Q .ret st' G' := rfl
@[simp] theorem NG {α : Type} (Sf : α -> ASt) (Gf : α -> Nat -> AV) (pre : α -> Prop) (lt : α -> Prop) (Q : Exit -> ASt -> (Nat -> AV) -> Prop) (st' : ASt) (G' : Nat -> AV) (i : Nat) : nU Sf Gf pre lt N h0 C Q (.exit i) st' G' = Q (.exit i) st' G' := rfl
theorem AC (hS : au C) {id : Nat} {ops : Array Oper} {st : ASt} {G : Nat -> AV} {Q : Exit -> ASt -> (Nat -> AV) -> Prop} (hok : (ops.toList.all λ o => match o.dst with | some d => decide (d < N) | none => true) = true) (h : fD C ops ops.toList st G (Q .normal)) : AWm C N h0 M (.region id ops false) st G Q := λ X w0 β0 H0 a w hl hr => by
 have hd : ∀ o ∈ ops.toList, ∀ d, o.dst = some d -> d < N := by
  intro o ho d hd
  have := all_eq_true.1 hok o ho
  rw [hd] at this
  simpa using this
 exact wp_region_list (lr hS ops.toList hd h hr λ st' G' a' w' hr' hk => ⟨st', G', hk, hr'⟩)
theorem cI (hS : au C) (hM : C.P.follows .mixedOrders = true) : ∀ (code : Code) {st : ASt} {G : Nat -> AV} {Q : Exit -> ASt -> (Nat -> AV) -> Prop}, dr C hm hd N code = true -> fN C hm hd N h0 M code st G Q -> AWm C N h0 M code st G Q
 | .skip, st, G, Q, _, h => λ X w0 β0 H0 a w hl hr => wp_skip ⟨st, G, h, hr⟩
 | .region id ops draw, st, G, Q, hok, h => by
  unfold fN at h
  unfold dr at hok
  split at h
  ·rename_i hi
   rw [if_pos hi] at hok
   simp only [Bool.and_eq_true, Bool.not_eq_true'] at hok
   obtain ⟨h1, rfl⟩ := hok
   exact AC hS h1 h
  ·rename_i hi
   rw [if_neg hi, Bool.or_eq_true] at hok
   split at h
   ·exact h
   ·rename_i hi2
    exact AWm.of λ hO => bm (Ea hS hO) hM (.region id ops draw) (hok.resolve_left hi2) h
 | .seq x y, st, G, Q, hok, h => by
  simp only [dr, Bool.and_eq_true] at hok
  refine Lo (AWm.mono (cI hS hM x hok.1 h) λ ex st' G' hq => ?_)
  cases ex with
  | normal => exact cI hS hM y hok.2 hq
  | _ => exact hq
 | .cond c x y, st, G, Q, hok, h => by
  simp only [dr, Bool.and_eq_true] at hok
  rw [Gg] at h
  refine IA ?_
  have key : ∀ v : AV, (cD v λ b => dP b (fN C hm hd N h0 M x st G Q) (fN C hm hd N h0 M y st G Q)) -> cD v λ b => dP b (AWm C N h0 M x st G Q) (AWm C N h0 M y st G Q) := by
   intro v hv
   unfold cD at hv ⊢
   split at hv
   ·exact ⟨λ hb => cI hS hM x hok.1 (hv.1 hb), λ hb => cI hS hM y hok.2 (hv.2 hb)⟩
   ·exact ⟨⟨λ hb => cI hS hM x hok.1 (hv.1.1 hb), λ hb => (by cases hb)⟩, ⟨λ hb => (by cases hb), λ hb => cI hS hM y hok.2 (hv.2.2 hb)⟩⟩
   ·exact hv
  exact key _ h
 | .block id b, st, G, Q, hok, h => Gj (cI hS hM b (by simpa only [dr] using hok) h)
 | .exit id, st, G, Q, _, h => λ X w0 β0 H0 a w hl hr => wp_exit ⟨st, G, h, hr⟩
 | .ret, st, G, Q, _, h => λ X w0 β0 H0 a w hl hr => wp_ret ⟨st, G, h, hr⟩
 | .label l, st, G, Q, _, h => λ X w0 β0 H0 a w hl hr => wp_label ⟨st, G, h, hr⟩
 | .scope b, st, G, Q, hok, h => Ha (cI hS hM b (by simpa only [dr] using hok) h)
 | .loop b, st, G, Q, _, h => h
 | .goto _, _, _, _, _, h => h.elim
 | .rangeFunc .., _, _, _, _, h => h.elim
 | .refuse _, _, _, _, _, h => h.elim
theorem kS {α : Type} (hS : au C) (hM : C.P.follows .mixedOrders = true) (hm hd : List Nat) {body : Code} {st : ASt} {G : Nat -> AV} {Q : Exit -> ASt -> (Nat -> AV) -> Prop} (Sf : α -> ASt) (Gf : α -> Nat -> AV) (pre : α -> Prop) (m : α -> Nat) (hok : dr C hm hd N body = true)
  (start : ∃ x, pre x /\ G = Gf x /\ Weak (CG C G) N h0 st (Sf x)) (step : ∀ x, pre x -> fN C hm hd N h0 M body (Sf x) (Gf x) (nU Sf Gf pre (λ x' => m x' < m x) N h0 C Q)) : AWm C N h0 M (.loop body) st G Q :=
 HW Sf Gf pre m start λ x hx => cI hS hM body hok (step x hx)
end
def zE (C : Ctx) (rs : List ResultVar) (r : AV) (ex : Exit) (st : ASt) (G : Nat -> AV) : Prop := dV (CG C G) rs r ex st
@[congr] theorem QS {C : Ctx} {rs : List ResultVar} {r : AV} {ex ex' : Exit} {st st' : ASt} {G : Nat -> AV} (h : dh ex = ex') (h' : st = st') : zE C rs r ex st G = zE C rs r ex' st' G := by rw [aR] at h; rw [h, h']
@[simp] theorem RK (C : Ctx) (rs : List ResultVar) (r : AV) (st : ASt) (G : Nat -> AV) : zE C rs r .ret st G = oK (CG C G) rs r st := rfl
theorem Off.keeps {w0 w0' w : World} (h : Off (λ _ => False) w0 w0') {M : Nat -> Prop} (k : Keeps M w0' w) : Keeps M w0 w :=
 ⟨k.os.trans h.os, k.tape.trans h.tape, k.output.trans h.output, by rw [<- h.size]; exact k.size, λ b hb hn => (k.block b (by rw [h.size]; exact hb) hn).trans (h.block b id), by unfold Drawn; first | (rw [<- h.drawn]; exact k.drawn) | trivial⟩
section
variable {C : Ctx}
theorem A5 {f : FuncId} {fn : Func} {body : Code} {rs : List ResultVar} {n : Nat} (hnm : ∀ g k e L, C.G g ≠ .mapof k e L) (hf : C.P.funcs[f]? = some fn) (hb : fn.body = some body) (hrs : fn.results.toList = rs) (hn : fn.ntmps = n) {p : List AV -> Option (Prop × AV)}
  (h : ∀ avs ob r, p avs = some (ob, r) -> ob -> avs.length <= n /\ AWm C n 0 (λ _ => False) body ⟨argsρ 0 (avs.map cM), []⟩ C.G (zE C rs r)) : PureOK C.P C.G f p := by
 subst hrs hn
 intro w X args avs0 ob r hX hG hsz0 harg0 hp hob
 obtain ⟨hlen0, hav0⟩ := h avs0 ob r hp hob
 generalize havs : avs0.map cM = avs at hav0
 have hlen : avs.length <= fn.ntmps := by rw [<- havs]; simpa using hlen0
 have hsz : args.size = avs.length := by rw [<- havs]; simpa using hsz0
 have harg : ∀ (j : Nat) (u : AV), avs[j]? = some u -> ∃ v, args[j]? = some v /\ RepD w X v u := λ j u hu => by
  rw [<- havs, List.getElem?_map] at hu
  simp only [Option.map_eq_some_iff] at hu
  obtain ⟨av, hav, rfl⟩ := hu
  obtain ⟨v, h1, h2⟩ := harg0 j av hav
  exact ⟨v, h1, e9 h2⟩
 refine calls_of_wp hf hb ?_
 have hMu : ∀ b, Mu X [] [] b -> X b := by
  rintro b (h | ⟨l, c, blk, h1, _, _⟩)
  ·exact h
  ·simp at h1
 have R : HRel w X [] [] := ⟨rfl, λ l bi b h1 _ => by simp at h1, λ l b c h1 => by simp at h1, λ l l' b c c' h1 => by simp at h1, hX⟩
 have hr : z8 C fn.ntmps X w [] [] (λ _ => False) ⟨argsρ 0 avs, []⟩ C.G { tmps := args ++ Array.replicate (fn.ntmps - args.size) undef, defers := [] } w :=
  ⟨w, Off.refl _ _, Over.refl hnm, λ b k e L hL => absurd hL (hnm b k e L), [], R, StepR.refl _ _ _ rfl, j5 hsz (λ j u hj => let ⟨v, h1, h2⟩ := harg j u hj; ⟨v, h1, .deep (h2.mono λ b _ hb => hMu b hb)⟩), λ g => (hG g).mono λ b _ hb => hMu b hb, by simp; omega, rfl⟩
 refine Code.wp_mono (λ ex a' w' ⟨st', G', hq, hr'⟩ => ?_) (hav0 X w [] [] _ w rfl hr)
 have fin : oK (CG C G') fn.results.toList r st' -> bodyPost C.P fn (λ e w' => ∃ v, e = .returned v /\ Keeps (λ _ => False) w w' /\ RepD w' X v r) .normal a' w' := by
  unfold oK
  split
  ·rename_i ob' r' hres
   rintro ⟨hob', hview⟩
   obtain ⟨w0', o1, _, _, β', R', S', T', G', hN', hdef'⟩ := hr'
   obtain ⟨u, hu, hrep⟩ := dx R' T' hres hob'
   have hv := (bX R' (λ _ => True) 6 hrep (λ _ _ => trivial)).mono (X' := X) λ b _ hb => .inl hb
   have hv := e9 hv
   rw [hview] at hv
   exact ⟨hdef', u, hu, u, rfl, o1.keeps (S'.keeps.weaken (λ b _ h => by obtain ⟨l, c, blk, h1, _, _⟩ := h; simp at h1)), hv⟩
  ·intro h; exact h.elim
 cases ex with
 | normal => exact fin hq
 | ret => exact fin hq
 | _ => exact hq.elim
end
section
variable {C : Ctx} (hS : au C) (hM : C.P.follows .mixedOrders = true) (hnm : ∀ g k e L, C.G g ≠ .mapof k e L) {f : FuncId} {fn : Func} {body : Code} {rs : List ResultVar} {n : Nat} (hf : C.P.funcs[f]? = some fn) (hb : fn.body = some body) (hrs : fn.results.toList = rs) (hn : fn.ntmps = n) (hm hd : List Nat)
include hS hM hnm hf hb hrs hn
theorem Qo {α β : Type} [Enc α] [Enc β] (hok : dr C hm hd n body = true) (hnn : 2 <= n) {pre : α -> β -> Prop} {res : α -> β -> AV} (h : ∀ a b, pre a b -> fN C hm hd n 0 (λ _ => False) body ⟨[(0, Enc.enc a), (1, Enc.enc b)], []⟩ C.G (zE C rs (res a b))) : PureOK C.P C.G f (aC pre res) :=
 A5 hnm hf hb hrs hn λ avs ob r' hp hob => by
  unfold aC at hp
  split at hp
  ·injection hp with hp; injection hp with e1 e2; subst e1 e2
   have := h _ _ hob.2.2
   rw [<- hob.1, <- hob.2.1] at this
   exact ⟨hnn, cI hS hM body hok this⟩
  ·cases hp
end
def rX (l : List Int) : List (Lit × Lit) := l.map λ e => (.int .i64 e, .bool true)
theorem Aw (l : List Int) (v : Int) : u6 (rX l) (.int .i64 v) (.bool false) = .bool (decide (v ∈ l)) := by
 induction l with
 | nil => rfl
 | cons a r ih =>
  show (if (Lit.int .i64 a).sameKey (.int .i64 v) then Lit.bool true else u6 (rX r) _ _) = _
  rw [ih]
  have hk : (Lit.int .i64 a).sameKey (.int .i64 v) = decide (a = v) := by
   rw [Bool.eq_iff_iff, WideAt.sameKey_iff (by trivial)]
   simp
  rw [hk]
  by_cases h : a = v
  ·simp [h]
  ·have h' : ¬ v = a := λ e => h e.symm
   simp [h, h']
theorem wE (v : Int) (l : List Int) : (Lit.int .i64 v, Lit.bool true) :: rX l = rX (v :: l) := rfl
theorem AR (l : List Int) : (rX l).length = l.length := by unfold rX; simp
def BQ (m : Int) (s : List Int) : List Int -> Int -> Int
 | [], n => n
 | v :: r, n => BQ m s r (if v ∈ s then n else n * m)
theorem HK {m : Int} {s l : List Int} {i : Nat} (h : i < l.length) (n : Int) : BQ m s (l.drop i) n = BQ m s (l.drop (i + 1)) (if ix l i ∈ s then n else n * m) := by
 rw [drop_eq_getElem_cons h, az h, BQ]
def Ci (ne m : Int) (s : List Int) (a : Atm) (n : Int) : Int := if a.vars.length = 3 then n * (ne + 1) else BQ m s a.vars n
def chp (ne m : Int) : List Atm -> Int -> List Int -> Bool
 | [], _, _ => true
 | a :: r, n, s => if 20000 < Ci ne m s a n then false else chp ne m r (Ci ne m s a n) (a.vars.reverse ++ s)
theorem I7 {ne m : Int} {l : List Atm} {i : Nat} (h : i < l.length) (n : Int) (s : List Int) : chp ne m (l.drop i) n s = if 20000 < Ci ne m s (ix l i) n then false else chp ne m (l.drop (i + 1)) (Ci ne m s (ix l i) n) ((ix l i).vars.reverse ++ s) := by
 rw [drop_eq_getElem_cons h, az h, chp]
def mxG (g : Gra) : Int := if (g.edges.length : Int) > (if (g.nodes.length : Int) > 1 then (g.nodes.length : Int) else 1) then (g.edges.length : Int) else (if (g.nodes.length : Int) > 1 then (g.nodes.length : Int) else 1)
def lT (g : Gra) (c : Cnj) : Bool := if fY g 10 14 = false then false else if liC c = false then false else if chp g.edges.length (mxG g) c.atoms 1 [] = false then false else decide ((c.atoms.length : Int) <= 6)
theorem Ta {C : Ctx} (h : C.G = G0) : ∀ g k e L, C.G g ≠ .mapof k e L := λ g k e L => by rw [h]; unfold G0; split <;> simp
structure ChPre (g : Gra) (c : Cnj) : Prop where
 wg : WfG g
 wc : WfC c
def DH : PSp := aC ChPre (λ g c => .bool (lT g c))
noncomputable def CCh : Ctx := mkC prog G0 [(33, .pure HJ), (34, .pure IR)]
@[simp] theorem Yg : CCh.P = prog := rfl
@[simp] theorem XP : CCh.G = G0 := rfl
@[simp] theorem XT : CCh.S 33 = .pure HJ /\ CCh.S 34 = .pure IR := ⟨rfl, rfl⟩
theorem td : au CCh := ap (smG) func33 (ap (Vj) func34 (ak _ _))
theorem Vu : PureOK prog G0 13 DH := by
 refine Qo td ae (Ta rfl) func13 rfl rfl rfl [4, 19] [] (by kernel_rfl) (by decide) (λ g c hp => ?_)
 have hg := hp.wg
 have hc := hp.wc
 obtain ⟨r, hr⟩ : ∃ r, lT g c = r := ⟨_, rfl⟩
 rw [hr]
 cases h1 : fY g 10 14
 ·rw [lT, if_pos h1] at hr
  subst hr
  simp [HJ, hg, h1]
 rw [lT, if_neg (by rw [h1]; decide)] at hr
 cases h2 : liC c
 ·rw [if_pos h2] at hr
  subst hr
  simp [HJ, hg, h1, IR, hc, h2]
 rw [if_neg (by rw [h2]; decide)] at hr
 have hsm := h1
 unfold fY at hsm
 simp only [Bool.and_eq_true, decide_eq_true_eq] at hsm
 obtain ⟨⟨n10, e14⟩, _⟩ := hsm
 have hli := h2
 unfold liC at hli
 simp only [Bool.and_eq_true, decide_eq_true_eq] at hli
 obtain ⟨⟨_, a14⟩, hla⟩ := hli
 obtain ⟨m, hm⟩ : ∃ m, mxG g = m := ⟨_, rfl⟩
 have hm2 := hm
 unfold mxG at hm2
 have m0 : 1 <= m /\ m <= 14 := by rw [<- hm2]; repeat' split; all_goals omega
 rw [hm] at hr
 simp [HJ, hg, h1, IR, hc, h2]
 intro b hb0
 refine kS td ae [4, 19] [] (λ q : Nat × Int × List Int => ⟨[(2, .ptr 0 1 4 0 0), (3, .ptr 1 1 2 0 0), (5, .int .i64 q.2.1), (6, .mapp b), (23, Enc.enc c.atoms), (24, .int .i64 c.atoms.length), (25, .int .i64 q.1)], [GrB g, CjB c]⟩) (λ q => upd G0 b (.mapof 3 4 (rX q.2.2))) (λ q => q.1 <= c.atoms.length /\ 0 <= q.2.1 /\ q.2.1 <= 20000 /\ q.2.2.length <= 8 * q.1 /\ chp g.edges.length m (c.atoms.drop q.1) q.2.1 q.2.2 = chp g.edges.length m c.atoms 1 []) (λ q => c.atoms.length - q.1) (by kernel_rfl) ⟨(0, 1, []), ⟨by simp, by simp, by simp, by simp, rfl⟩, rfl, ag (by simp) (by simp [GrB, CjB])⟩ (λ ⟨i, n, s⟩ ⟨hi, n0, n1, hs, hx⟩ => ?_)
 simp only at hi n0 n1 hs hx ⊢
 by_cases hlt : i < c.atoms.length
 case neg =>
  rw [drop_eq_nil_of_le (by omega), chp] at hx
  rw [<- hx, if_neg (by decide)] at hr
  simp [GrB, CjB, hlt, <- hr]
 have i1 : I64 ((i : Int) + 1) := by unfold I64; omega
 obtain ⟨a, ha⟩ : ∃ a, ix c.atoms i = a := ⟨_, rfl⟩
 have hla2 := hla _ (aq hlt)
 have hiv := (hc.a _ (aq hlt)).iv
 rw [ha] at hiv
 rw [I7 hlt, ha] at hx
 rw [ha] at hla2
 have v8 : a.vars.length <= 8 := by
  unfold r7 at hla2
  simp only [Bool.and_eq_true, decide_eq_true_eq] at hla2
  exact hla2.1.1.1
 obtain ⟨N, hN⟩ : ∃ N, Ci g.edges.length m s a n = N := ⟨_, rfl⟩
 rw [hN] at hx
 have e1 : I64 ((g.edges.length : Int) + 1) := by unfold I64; omega
 rcases em2 (a.vars.length = 3) with h3 | h3
 ·have h3' : ((a.vars.length : Int) = 3) = True := eq_true (by have := of_eq_true h3; omega)
  have hN' := hN
  rw [Ci, if_pos (of_eq_true h3)] at hN'
  have b1 : 0 <= n * ((g.edges.length : Int) + 1) := Int.mul_nonneg n0 (by omega)
  have b2 : n * ((g.edges.length : Int) + 1) <= 20000 * 15 := Int.mul_le_mul n1 (by omega) (by omega) (by omega)
  have e2 : I64 (n * ((g.edges.length : Int) + 1)) := by unfold I64; omega
  have hN0 : 0 <= N := by omega
  have e3 : I64 N := by rw [<- hN']; exact e2
  simp [GrB, CjB, hlt, aa hlt, ha, h3, h3', e1, e2, e3, hN']
  refine kS td ae [4, 19] [] (λ k : Nat => ⟨[(2, .ptr 0 1 4 0 0), (3, .ptr 1 1 2 0 0), (5, .int .i64 N), (6, .mapp b), (23, Enc.enc c.atoms), (24, .int .i64 c.atoms.length), (25, .int .i64 i), (61, Enc.enc a.vars), (62, .int .i64 a.vars.length), (63, .int .i64 k)], [GrB g, CjB c, AtB a]⟩) (λ k => upd G0 b (.mapof 3 4 (rX ((a.vars.take k).reverse ++ s)))) (λ k => k <= a.vars.length) (λ k => a.vars.length - k) (by kernel_rfl) ⟨0, by omega, rfl, ag (by simp) (by simp [GrB, CjB, AtB])⟩ (λ k hk => ?_)
  by_cases hkl : k < a.vars.length
  ·have k1 : I64 ((k : Int) + 1) := by unfold I64; omega
   have hu : ix a.vars k :: ((a.vars.take k).reverse ++ s) = (a.vars.take (k + 1)).reverse ++ s := by
    rw [take_succ_eq_append_getElem hkl, List.reverse_append, az hkl]
    rfl
   have hsl : (rX ((a.vars.take k).reverse ++ s)).length < 1000000000000 := by
    rw [AR, length_append, List.length_reverse, length_take]
    omega
   generalize (a.vars.take k).reverse ++ s = S at *
   have hik := hiv _ (aq hkl)
   simp [GrB, CjB, AtB, hkl, aa hkl, wE, hu, hsl, hik, k1]
   exact ⟨k + 1, by omega, by omega, rfl, ag (by simp) (by simp [GrB, CjB, AtB])⟩
  ·have ek : a.vars.take k = a.vars := take_of_length_le (by omega)
   rw [ek]
   rcases em2 (20000 < N) with hN2 | hN2
   ·rw [if_pos (of_eq_true hN2)] at hx
    rw [<- hx, if_pos rfl] at hr
    simp [GrB, CjB, AtB, hkl, hN2, <- hr]
   ·rw [if_neg (of_eq_false hN2)] at hx
    have hN3 := of_eq_false hN2
    simp [GrB, CjB, AtB, hkl, hN2, i1]
    exact ⟨i + 1, N, a.vars.reverse ++ s, ⟨by omega, by omega, by omega, by simp; omega, hx⟩, by omega, rfl, bG 2 (by simp) (by simp) (by simp [AV.clean, AV.clean1]) (by simp) (by simp [GrB, CjB])⟩
 ·have h3' : ((a.vars.length : Int) = 3) = False := eq_false (by have := of_eq_false h3; omega)
  have hN' := hN
  rw [Ci, if_neg (of_eq_false h3)] at hN'
  simp [GrB, CjB, hlt, aa hlt, ha, h3, h3']
  refine kS td ae [4, 19] [] (λ q : Nat × Int => ⟨[(2, .ptr 0 1 4 0 0), (3, .ptr 1 1 2 0 0), (5, .int .i64 q.2), (6, .mapp b), (8, .ptr 2 1 9 0 0), (23, Enc.enc c.atoms), (24, .int .i64 c.atoms.length), (25, .int .i64 i), (40, Enc.enc a.vars), (41, .int .i64 a.vars.length), (42, .int .i64 q.1)], [GrB g, CjB c, AtB a]⟩) (λ _ => upd G0 b (.mapof 3 4 (rX s))) (λ q => q.1 <= a.vars.length /\ 0 <= q.2 /\ q.2 <= 20000 * ((14 ^ q.1 : Nat) : Int) /\ BQ m s (a.vars.drop q.1) q.2 = N) (λ q => a.vars.length - q.1) (by kernel_rfl) ⟨(0, n), ⟨by omega, n0, by simpa using n1, hN'⟩, rfl, ag (by simp) (by simp [GrB, CjB, AtB])⟩ (λ ⟨k, z⟩ ⟨hk, z0, z1, hz⟩ => ?_)
  simp only at hk z0 z1 hz ⊢
  have p8 : (14 ^ k : Nat) <= 14 ^ 8 := Nat.pow_le_pow_right (by decide) (by omega)
  have p8' : ((14 ^ k : Nat) : Int) <= 1475789056 := by
   have : (14 ^ 8 : Nat) = 1475789056 := by decide
   omega
  by_cases hkl : k < a.vars.length
  ·have k1 : I64 ((k : Int) + 1) := by unfold I64; omega
   have hik := hiv _ (aq hkl)
   rw [HK hkl] at hz
   rcases em2 (ix a.vars k ∈ s) with hin | hin
   ·rw [if_pos (of_eq_true hin)] at hz
    have z2 : z <= 20000 * ((14 ^ (k + 1) : Nat) : Int) := by rw [pow_succ]; omega
    simp [GrB, CjB, AtB, hkl, aa hkl, Aw, hin, hik, k1]
    exact ⟨k + 1, z, ⟨by omega, z0, z2, hz⟩, by omega, ag (by simp) (by simp [GrB, CjB, AtB])⟩
   ·rw [if_neg (of_eq_false hin)] at hz
    have y0 : 0 <= z * m := Int.mul_nonneg z0 (by omega)
    have y1 : z * m <= 20000 * ((14 ^ k : Nat) : Int) * 14 := Int.mul_le_mul z1 m0.2 (by omega) (by omega)
    have y2 : z * m <= 20000 * ((14 ^ (k + 1) : Nat) : Int) := by rw [pow_succ]; omega
    have y3 : I64 (z * m) := by unfold I64; omega
    simp [GrB, CjB, AtB, hkl, aa hkl, Aw, hin, hik, uY, hm2, y3, k1]
    exact ⟨k + 1, z * m, ⟨by omega, y0, y2, hz⟩, by omega, ag (by simp) (by simp [GrB, CjB, AtB])⟩
  rw [drop_eq_nil_of_le (by omega), BQ] at hz
  subst hz
  have hN0 := z0
  have hN := hN
  generalize hzN : z = N at *
  simp [GrB, CjB, AtB, hkl]
  refine kS td ae [4, 19] [] (λ k : Nat => ⟨[(2, .ptr 0 1 4 0 0), (3, .ptr 1 1 2 0 0), (5, .int .i64 N), (6, .mapp b), (23, Enc.enc c.atoms), (24, .int .i64 c.atoms.length), (25, .int .i64 i), (61, Enc.enc a.vars), (62, .int .i64 a.vars.length), (63, .int .i64 k)], [GrB g, CjB c, AtB a]⟩) (λ k => upd G0 b (.mapof 3 4 (rX ((a.vars.take k).reverse ++ s)))) (λ k => k <= a.vars.length) (λ k => a.vars.length - k) (by kernel_rfl) ⟨0, by omega, rfl, ag (by simp) (by simp [GrB, CjB, AtB])⟩ (λ k hk2 => ?_)
  by_cases hkl : k < a.vars.length
  ·have k1 : I64 ((k : Int) + 1) := by unfold I64; omega
   have hu : ix a.vars k :: ((a.vars.take k).reverse ++ s) = (a.vars.take (k + 1)).reverse ++ s := by
    rw [take_succ_eq_append_getElem hkl, List.reverse_append, az hkl]
    rfl
   have hsl : (rX ((a.vars.take k).reverse ++ s)).length < 1000000000000 := by
    rw [AR, length_append, List.length_reverse, length_take]
    omega
   generalize (a.vars.take k).reverse ++ s = S at *
   have hik := hiv _ (aq hkl)
   simp [GrB, CjB, AtB, hkl, aa hkl, wE, hu, hsl, hik, k1]
   exact ⟨k + 1, by omega, by omega, rfl, ag (by simp) (by simp [GrB, CjB, AtB])⟩
  ·have ek : a.vars.take k = a.vars := take_of_length_le (by omega)
   rw [ek]
   rcases em2 (20000 < N) with hN2 | hN2
   ·rw [if_pos (of_eq_true hN2)] at hx
    rw [<- hx, if_pos rfl] at hr
    simp [GrB, CjB, AtB, hkl, hN2, <- hr]
   ·rw [if_neg (of_eq_false hN2)] at hx
    have hN3 := of_eq_false hN2
    simp [GrB, CjB, AtB, hkl, hN2, i1]
    exact ⟨i + 1, N, a.vars.reverse ++ s, ⟨by omega, by omega, by omega, by simp; omega, hx⟩, by omega, rfl, bG 2 (by simp) (by simp) (by simp [AV.clean, AV.clean1]) (by simp) (by simp [GrB, CjB])⟩
def ofO : Option Fr -> Fr × Bool
 | some r => (r, true)
 | none => (F00, false)
def toO (p : Fr × Bool) : Option Fr := if p.2 then some p.1 else none
theorem FA (n d : Int) : ofO (toO (mo n d)) = mo n d := by
 unfold mo
 split <;> rfl
def nr (a b : Fr) : Option Fr := toO (lC a b)
def Cc (a b : Fr) : Option Fr := toO (nA a b)
def Ho (a b : Fr) : Option Fr := toO (Cu a b)
def pg (a b : Fr) : Option Fr := toO (qy a b)
theorem yE (a b : Fr) : lC a b = ofO (nr a b) := by
 unfold nr lC
 split
 ·exact (FA _ _).symm
 ·rfl
theorem MZ (a b : Fr) : nA a b = ofO (Cc a b) := by
 unfold Cc nA
 split
 ·exact (FA _ _).symm
 ·rfl
theorem ML (a b : Fr) : Cu a b = ofO (Ho a b) := MZ a (gh b)
theorem FG (a b : Fr) : qy a b = ofO (pg a b) := by
 unfold pg qy
 split
 ·split
  ·exact yE _ _
  ·exact yE _ _
 ·rfl
def B7 : Fr -> List Fr -> List Fr -> Option Fr
 | s, a :: ar, x :: xs => match nr a x with
  | some p => (match Cc s p with | some t => B7 t ar xs | none => none)
  | none => none
 | s, _, _ => some s
def ki (l : List Fr) : Prop := ∀ f ∈ l, aj f
instance (l : List Fr) : Decidable (ki l) := inferInstanceAs (Decidable (∀ f ∈ l, aj f))
def rK (n : Nat) (l : List (List Fr)) : Prop := ∀ r ∈ l, r.length = n /\ ki r
instance (n : Nat) (l : List (List Fr)) : Decidable (rK n l) := inferInstanceAs (Decidable (∀ r ∈ l, r.length = n /\ ki r))
def bx (l : Lin) : Int :=
 if 12 < l.C.length ∨ 24 < l.A.length then 4
 else if l.C = [] ∨ l.B.length ≠ l.A.length ∨ ¬ ki l.B ∨ ¬ ki l.C ∨ ¬ rK l.C.length l.A then 1 else 0
def S8 (x : List Fr) (a : List Fr) (b : Fr) : Prop := ∃ s, B7 F01 a x = some s /\ ¬ jv s b < 0
def R8 (l : Lin) (x : List Fr) : Prop := bx l = 0 /\ x.length = l.C.length /\ (∀ f ∈ x, aj f /\ ¬ f.N < 0) /\ ∀ i, i < l.A.length -> S8 x (ix l.A i) (ix l.B i)
open Classical in
def Tv (l : Lin) (x : List Fr) : Bool := decide (R8 l x)
def qU (l : Lin) (x : List Fr) : Fr × Bool := if x.length = l.C.length then ofO (B7 F01 l.C x) else (F00, false)
def L00 : Lin := ⟨[], [], []⟩
def Bk (l : Lin) : Lin := ⟨(List.range l.C.length).map λ j => l.A.map λ a => gh (ix a j), l.C.map gh, l.B.map gh⟩
structure SmallL (l : Lin) : Prop where
 a : l.A.length <= 1000
 b : l.B.length <= 1000
 c : l.C.length <= 1000
 r : ∀ r ∈ l.A, r.length <= 1000
theorem uN {l : Lin} (h : bx l = 0) : l.C.length <= 12 /\ l.A.length <= 24 /\ l.C ≠ [] /\ l.B.length = l.A.length /\ ki l.B /\ ki l.C /\ rK l.C.length l.A := by
 unfold bx at h
 split at h
 ·cases h
 ·rename_i h1
  split at h
  ·cases h
  ·rename_i h2
   refine ⟨by omega, by omega, λ e => h2 (.inl e), ?_, ?_, ?_, ?_⟩
   ·exact Classical.byContradiction λ e => h2 (.inr (.inl e))
   ·exact Classical.byContradiction λ e => h2 (.inr (.inr (.inl e)))
   ·exact Classical.byContradiction λ e => h2 (.inr (.inr (.inr (.inl e))))
   ·exact Classical.byContradiction λ e => h2 (.inr (.inr (.inr (.inr e))))
theorem Ex : PureOK prog G0 64 (dA (Enc.enc F01)) := by
 refine NI aK ae func64 rfl rfl rfl (by kernel_rfl) ?_
 simp [F01]
def AB : PSp := aN (λ (_ : Fr) => True) (λ a => Enc.enc (gh a))
theorem Sq : PureOK prog G0 65 AB := by
 refine bj aK ae func65 rfl rfl rfl (by kernel_rfl) (by decide) (λ a _ => ?_)
 have e : gh a = ⟨IntKind.wrap .i64 (-a.N), a.D⟩ := rfl
 simp [e]
def lK : PSp := aN (λ (l : List Fr) => l.length <= 1000) (λ l => .bool (decide (ki l)))
theorem vN {l : List Fr} {k : Nat} (h : ∀ j, j < k -> aj (ix l j)) (hk : l.length <= k) : ki l := λ f hf => by
 obtain ⟨j, hj, rfl⟩ := List.getElem_of_mem hf
 have := h j (by omega)
 rwa [az hj] at this
noncomputable def CVa : Ctx := mkC prog G0 [(55, .pure ax), (133, .pure ax)]
@[simp] theorem Xz : CVa.P = prog := rfl
@[simp] theorem Zb : CVa.G = G0 := rfl
@[simp] theorem Yv : CVa.S 55 = .pure ax /\ CVa.S 133 = .pure ax := ⟨rfl, rfl⟩
theorem xV : au CVa := ap (sP) func55 (ap (d8) func133 (ak _ _))
theorem SE : PureOK prog G0 98 lK := by
 refine bj xV ae func98 rfl rfl rfl (by kernel_rfl) (by decide) (λ l hl => ?_)
 simp
 refine am xV ae (λ q : Nat × List Blk => ⟨[(2, .bool false), (5, Enc.enc l), (6, .int .i64 l.length), (7, .int .i64 q.1)], q.2⟩) (λ q => q.1 <= l.length /\ ∀ j, j < q.1 -> aj (ix l j)) (λ q => l.length - q.1) (by kernel_rfl) ⟨(0, []), ⟨by simp, λ j hj => by simp at hj⟩, ag (by simp) rfl⟩ (λ ⟨k, Z⟩ ⟨hk, hv⟩ => ?_)
 simp only at hk hv ⊢
 by_cases hlt : k < l.length
 ·have i1 : I64 ((k : Int) + 1) := by unfold I64; omega
  by_cases hV : aj (ix l k)
  ·simp [ax, hlt, aa hlt, hV, i1]
   exact ⟨k + 1, ⟨by omega, λ j hj => by
    rcases lt_or_eq_of_le (le_of_lt_succ hj) with h | h
    ·exact hv j h
    ·subst h; exact hV⟩, by omega, _, ag (by simp) rfl⟩
  ·have no : ¬ ki l := λ h => hV (h _ (aq hlt))
   simp [ax, hlt, aa hlt, hV, i1, no]
 ·have yes : ki l := vN hv (by omega)
  simp [hlt, yes]
theorem Ua : PureOK prog G0 104 lK := by
 refine bj xV ae func104 rfl rfl rfl (by kernel_rfl) (by decide) (λ l hl => ?_)
 simp
 refine am xV ae (λ q : Nat => ⟨[(0, Enc.enc l), (2, .bool false), (3, .int .i64 q)], []⟩) (λ q => q <= l.length /\ ∀ j, j < q -> aj (ix l j)) (λ q => l.length - q) (by kernel_rfl) ⟨0, ⟨by simp, λ j hj => by simp at hj⟩, ag (by simp) rfl⟩ (λ k ⟨hk, hv⟩ => ?_)
 by_cases hlt : k < l.length
 ·have i1 : I64 ((k : Int) + 1) := by unfold I64; omega
  by_cases hV : aj (ix l k)
  ·simp [ax, hlt, aa hlt, hV, i1]
   exact ⟨k + 1, ⟨by omega, λ j hj => by
    rcases lt_or_eq_of_le (le_of_lt_succ hj) with h | h
    ·exact hv j h
    ·subst h; exact hV⟩, by omega, ag (by simp) rfl⟩
  ·have no : ¬ ki l := λ h => hV (h _ (aq hlt))
   simp [ax, hlt, aa hlt, hV, i1, no]
 ·have yes : ki l := vN hv (by omega)
  simp [hlt, yes]
def iq : PSp := aN SmallL (λ l => .int .i64 (bx l))
noncomputable def CCk : Ctx := mkC prog G0 [(98, .pure lK), (104, .pure lK)]
@[simp] theorem Yx : CCk.P = prog := rfl
@[simp] theorem YY : CCk.G = G0 := rfl
@[simp] theorem Xx : CCk.S 98 = .pure lK /\ CCk.S 104 = .pure lK := ⟨rfl, rfl⟩
theorem IW : au CCk := ap (SE) func98 (ap (Ua) func104 (ak _ _))
theorem GQ {n : Nat} {l : List (List Fr)} {k : Nat} (h : ∀ j, j < k -> (ix l j).length = n /\ ki (ix l j)) (hk : l.length <= k) : rK n l := λ f hf => by
 obtain ⟨j, hj, rfl⟩ := List.getElem_of_mem hf
 have := h j (by omega)
 rwa [az hj] at this
def CB (l : Lin) : Blk := ⟨30, 3, [[.slice 1 false (ac l.A), .slice 2 false (ac l.B), .slice 2 false (ac l.C)]], true, true⟩
theorem Q1 : PureOK prog G0 60 iq := by
 refine bj IW ae func60 rfl rfl rfl (by kernel_rfl) (by decide) (λ l hs => ?_)
 have sa := hs.a
 have sb := hs.b
 have sc := hs.c
 by_cases h1 : 12 < l.C.length
 ·have h1' : (12 : Int) < l.C.length := by omega
  have e : bx l = 4 := if_pos (.inl h1)
  simp [h1', e]
 have h1' : ¬ (12 : Int) < l.C.length := by omega
 by_cases h2 : 24 < l.A.length
 ·have h2' : (24 : Int) < l.A.length := by omega
  have e : bx l = 4 := if_pos (.inr h2)
  simp [h1', h2', e]
 have h2' : ¬ (24 : Int) < l.A.length := by omega
 have e0 : bx l = if l.C = [] ∨ l.B.length ≠ l.A.length ∨ ¬ ki l.B ∨ ¬ ki l.C ∨ ¬ rK l.C.length l.A then 1 else 0 := if_neg (by omega)
 by_cases h3 : l.C = []
 ·have e : bx l = 1 := by rw [e0, if_pos (.inl h3)]
  simp [h1', h2', h3, e]
 by_cases h4 : l.B.length = l.A.length
 case neg =>
  have h4' : ¬ (l.B.length : Int) = l.A.length := by omega
  have e : bx l = 1 := by rw [e0, if_pos (.inr (.inl h4))]
  simp [h1', h2', h3, h4, h4', e]
 by_cases h5 : ki l.B
 case neg =>
  have e : bx l = 1 := by rw [e0, if_pos (.inr (.inr (.inl h5)))]
  simp [lK, h1', h2', h3, h4, h5, e, sa, sb, sc]
 by_cases h6 : ki l.C
 case neg =>
  have e : bx l = 1 := by rw [e0, if_pos (.inr (.inr (.inr (.inl h6))))]
  simp [lK, h1', h2', h3, h4, h5, h6, e, sa, sb, sc]
 simp [lK, h1', h2', h3, h4, h5, h6, sa, sb, sc]
 refine am IW ae (λ q : Nat => ⟨[(1, .ptr 0 1 3 0 0), (2, .int .i64 0), (41, Enc.enc l.A), (42, .int .i64 l.A.length), (43, .int .i64 q)], [CB l]⟩) (λ q => q <= l.A.length /\ ∀ j, j < q -> (ix l.A j).length = l.C.length /\ ki (ix l.A j)) (λ q => l.A.length - q) (by kernel_rfl) ⟨0, ⟨by simp, λ j hj => by simp at hj⟩, ag (by simp) rfl⟩ (λ k ⟨hk, hv⟩ => ?_)
 by_cases hlt : k < l.A.length
 ·have i1 : I64 ((k : Int) + 1) := by unfold I64; omega
  have sr := hs.r _ (aq hlt)
  by_cases h7 : (ix l.A k).length = l.C.length
  case neg =>
   have h7' : ¬ ((ix l.A k).length : Int) = l.C.length := by omega
   have no : ¬ rK l.C.length l.A := λ h => h7 (h _ (aq hlt)).1
   have e : bx l = 1 := by rw [e0, if_pos (.inr (.inr (.inr (.inr no))))]
   simp [CB, hlt, aa hlt, h7', e]
  by_cases h8 : ki (ix l.A k)
  ·simp [CB, lK, hlt, aa hlt, h7, h8, sc, i1]
   exact ⟨k + 1, ⟨by omega, λ j hj => by
    rcases lt_or_eq_of_le (le_of_lt_succ hj) with h | h
    ·exact hv j h
    ·subst h; exact ⟨h7, h8⟩⟩, by omega, ag (by simp) rfl⟩
  ·have no : ¬ rK l.C.length l.A := λ h => h8 (h _ (aq hlt)).2
   have e : bx l = 1 := by rw [e0, if_pos (.inr (.inr (.inr (.inr no))))]
   simp [CB, lK, hlt, aa hlt, h7, h8, sc, e]
 ·have yes : rK l.C.length l.A := GQ hv (by omega)
  have e : bx l = 0 := by
   rw [e0, if_neg]
   rintro (h | h | h | h | h)
   ·exact h3 h
   ·exact h h4
   ·exact h h5
   ·exact h h6
   ·exact h yes
  simp [CB, hlt, e]
def FB (s : Fr) : Blk := ⟨35, 2, [[.int .i64 s.N, .int .i64 s.D]], true, true⟩
def ZLB : Blk := ⟨30, 3, [[.slice 1 true [], .slice 2 true [], .slice 2 true []]], true, true⟩
def R1B (l : List (List Fr)) : Blk := ⟨28, 1, ac l, true, true⟩
def R2B (l : List Fr) : Blk := ⟨35, 2, ac l, true, true⟩
@[simp] theorem I4 (l : List (List Fr)) (x : List Fr) : ac l ++ [[.slice 2 false (ac x)]] = ac (l ++ [x]) := by rw [bz]; rfl
def TI (a b : Lin) : Prop := a.A = b.A /\ a.B = b.B /\ a.C = b.C
instance (a b : Lin) : Decidable (TI a b) := inferInstanceAs (Decidable (_ /\ _))
def V0 (l : Lin) : Prop := l.A.length <= 30 /\ l.B.length <= 30 /\ l.C.length <= 30 /\ ∀ r ∈ l.A, r.length <= 30
instance (l : Lin) : Decidable (V0 l) := inferInstanceAs (Decidable (_ /\ _ /\ _ /\ _))
structure Tab where
 n : Nat
 m : Nat
 rows : List (List Fr)
 cost : List Fr
 basis : List Int
 over : Bool
def Tab.w (t : Tab) : Nat := t.n + t.m
def mnO (a f b : Fr) : Option Fr := match nr f b with
 | some p => Ho a p
 | none => none
def mnP (a f b : Fr) : Fr × Bool := match mnO a f b with
 | some d => (d, false)
 | none => (F01, true)
def dvP (a p : Fr) : Fr × Bool := match pg a p with
 | some q => (q, false)
 | none => (F01, true)
def dM (k : Nat) (g : Nat -> Fr) (row : List Fr) : List Fr := (List.range row.length).map λ j => if j < k then g j else ix row j
def fF (k : Nat) (g : Nat -> Bool) : Bool := (List.range k).any g
theorem mN (k : Nat) (g : Nat -> Bool) : fF (k + 1) g = (fF k g || g k) := by unfold fF; rw [List.range_succ, List.any_append]; simp
theorem qY (g : Nat -> Bool) : fF 0 g = false := rfl
theorem aP (k : Nat) (g : Nat -> Fr) (row : List Fr) : (dM k g row).length = row.length := by unfold dM; simp
theorem eM {k j : Nat} {g : Nat -> Fr} {row : List Fr} (h : j < row.length) : ix (dM k g row) j = if j < k then g j else ix row j := by
 rw [az (by rw [aP]; exact h)]
 unfold dM
 rw [List.getElem_map, List.getElem_range]
theorem kq (g : Nat -> Fr) (row : List Fr) : dM 0 g row = row := by
 refine ext_getElem (aP _ _ _) λ j h1 h2 => ?_
 have := eM (k := 0) (g := g) h2
 rw [az h1, if_neg (Nat.not_lt_zero j), az h2] at this
 exact this
theorem lH {k : Nat} {g : Nat -> Fr} {row : List Fr} {v : Fr} (hv : v = g k) (h : k < row.length) : (dM k g row).set k v = dM (k + 1) g row := by
 refine ext_getElem (by rw [length_set, aP, aP]) λ j h1 h2 => ?_
 rw [aP] at h2
 have e1 := eM (k := k) (g := g) h2
 have e2 := eM (k := k + 1) (g := g) h2
 rw [az (by rw [aP]; exact h2)] at e1 e2
 rw [List.getElem_set, e1, e2]
 by_cases hjk : k = j
 ·subst hjk
  rw [if_pos rfl, if_pos (Nat.lt_succ_self k)]
  exact hv
 ·rw [if_neg hjk]
  by_cases hj : j < k
  ·rw [if_pos hj, if_pos (by omega)]
  ·rw [if_neg hj, if_neg (by omega)]
structure Lay where
 p : Nat
 q : Nat
 c : Option Nat
 r : List Nat
def cC (c : Option Nat) (n : Nat) : AV := match c with
 | none => .slice 2 true []
 | some c => .own c n
def lJ (c : Option Nat) (b : List Fr) (H : List Blk) : List Blk := match c with
 | none => H
 | some c => H.set c (R2B b)
def tC (L : Lay) (t : Tab) : List AV := [.int .i64 t.n, .int .i64 t.m, .own L.q L.r.length, cC L.c t.cost.length] ++ t.basis.map (.int .i64 ·) ++ [.bool t.over]
def tB (L : Lay) (t : Tab) : Blk := ⟨118, 29, [tC L t], true, false⟩
def qB (L : Lay) (N : Nat) : Blk := ⟨28, 1, L.r.map λ l => [.own l N], true, false⟩
def cF : List Nat -> List (List Fr) -> List Blk -> List Blk
 | l :: ls, r :: rs, H => (cF ls rs H).set l (R2B r)
 | _, _, H => H
def ao (L : Lay) (t : Tab) (K : List Blk) : List Blk := cF L.r t.rows (lJ L.c t.cost ((K.set L.p (tB L t)).set L.q (qB L (t.w + 1))))
structure Lens (L : Lay) (K : List Blk) : Prop where
 p : L.p < K.length
 q : L.q < K.length
 c : ∀ c, L.c = some c -> c < K.length
 r : ∀ l ∈ L.r, l < K.length
 pq : L.p ≠ L.q
 pc : L.c ≠ some L.p
 qc : L.c ≠ some L.q
 pr : L.p ∉ L.r
 qr : L.q ∉ L.r
 cr : ∀ c, L.c = some c -> c ∉ L.r
 nd : L.r.Nodup
 cl : ∀ b ∈ K, b.deep = true ∨ ∀ r ∈ b.rows, ∀ c ∈ r, c.cleanF K.length = true
structure Shape (L : Lay) (t : Tab) : Prop where
 m : t.rows.length = t.m
 r : L.r.length = t.m
 n1 : 1 <= t.n
 n12 : t.n <= 12
 m24 : t.m <= 24
 row : ∀ r ∈ t.rows, r.length = t.w + 1
 cost : (L.c = none /\ t.cost = []) ∨ ((∃ c, L.c = some c) /\ t.cost.length = t.w + 1)
 bas : t.basis.length = 24
 b64 : ∀ b ∈ t.basis, 0 <= b /\ b <= 1000
structure Shape0 (L : Lay) (t : Tab) : Prop where
 m : t.rows.length = L.r.length
 r : L.r.length <= t.m
 n1 : 1 <= t.n
 n12 : t.n <= 12
 m24 : t.m <= 24
 row : ∀ r ∈ t.rows, r.length = t.w + 1
 cost : (L.c = none /\ t.cost = []) ∨ ((∃ c, L.c = some c) /\ t.cost.length = t.w + 1)
 bas : t.basis.length = 24
 b64 : ∀ b ∈ t.basis, 0 <= b /\ b <= 1000
theorem Shape.to0 {L : Lay} {t : Tab} (s : Shape L t) : Shape0 L t := ⟨by rw [s.m, s.r], by rw [s.r]; exact le_refl _, s.n1, s.n12, s.m24, s.row, s.cost, s.bas, s.b64⟩
theorem Shape0.full {L : Lay} {t : Tab} (s : Shape0 L t) (h : L.r.length = t.m) : Shape L t := ⟨by rw [s.m, h], h, s.n1, s.n12, s.m24, s.row, s.cost, s.bas, s.b64⟩
theorem gP : ∀ (ls : List Nat) (rs : List (List Fr)) (H : List Blk), (cF ls rs H).length = H.length
 | [], _, _ => rfl
 | _ :: _, [], _ => rfl
 | l :: ls, r :: rs, H => by rw [cF, length_set, gP]
theorem mF : ∀ {ls : List Nat} {rs : List (List Fr)} {H : List Blk} {k : Nat}, k ∉ ls -> (cF ls rs H)[k]? = H[k]?
 | [], _, _, _, _ => rfl
 | _ :: _, [], _, _, _ => rfl
 | l :: ls, r :: rs, H, k, h => by
  rw [cF, getElem?_set_ne (λ e => h (by rw [<- e]; exact mem_cons_self)), mF (λ e => h (mem_cons_of_mem _ e))]
theorem Fq : ∀ {ls : List Nat} {rs : List (List Fr)} {H : List Blk} {i : Nat}, ls.Nodup -> ls.length = rs.length -> (∀ l ∈ ls, l < H.length) -> i < ls.length -> (cF ls rs H)[ix ls i]? = some (R2B (ix rs i))
 | [], _, _, _, _, _, _, h => by simp at h
 | _ :: _, [], _, _, _, h, _, _ => by simp at h
 | l :: ls, r :: rs, H, 0, hn, hl, hb, hi => by
  show (cF (l :: ls) (r :: rs) H)[l]? = some (R2B r)
  rw [cF, getElem?_set_self (by rw [gP]; exact hb l mem_cons_self)]
 | l :: ls, r :: rs, H, i + 1, hn, hl, hb, hi => by
  have hi' : i < ls.length := by simpa using hi
  have e1 : ix (l :: ls) (i + 1) = ix ls i := rfl
  have e2 : ix (r :: rs) (i + 1) = ix rs i := rfl
  rw [e1, e2, cF, getElem?_set_ne (λ e => (nodup_cons.1 hn).1 (by rw [e]; exact aq hi'))]
  exact Fq (nodup_cons.1 hn).2 (by simpa using hl) (λ l hl => hb l (mem_cons_of_mem _ hl)) hi'
theorem mr : ∀ {ls : List Nat} {rs : List (List Fr)} {H X : List Blk}, (∀ l ∈ ls, l < H.length) -> cF ls rs (H ++ X) = cF ls rs H ++ X
 | [], _, _, _, _ => rfl
 | _ :: _, [], _, _, _ => rfl
 | l :: ls, r :: rs, H, X, h => by
  rw [cF, mr (λ l hl => h l (mem_cons_of_mem _ hl)), set_append_left _ _ (by rw [gP]; exact h l mem_cons_self), cF]
theorem cL : ∀ {ls : List Nat} {rs : List (List Fr)} {H : List Blk} {k : Nat} {b : Blk}, k ∉ ls -> cF ls rs (H.set k b) = (cF ls rs H).set k b
 | [], _, _, _, _, _ => rfl
 | _ :: _, [], _, _, _, _ => rfl
 | l :: ls, r :: rs, H, k, b, h => by
  rw [cF, cF, cL (λ e => h (mem_cons_of_mem _ e)), set_comm _ _ (λ e => h (by rw [e]; exact mem_cons_self))]
theorem zM : ∀ {ls : List Nat} {rs : List (List Fr)} {H : List Blk} {i : Nat} {x : List Fr}, ls.Nodup -> ls.length = rs.length -> i < ls.length -> (cF ls rs H).set (ix ls i) (R2B x) = cF ls (rs.set i x) H
 | [], _, _, _, _, _, _, h => by simp at h
 | _ :: _, [], _, _, _, _, h, _ => by simp at h
 | l :: ls, r :: rs, H, 0, x, hn, hl, hi => by
  show (cF (l :: ls) (r :: rs) H).set l (R2B x) = cF (l :: ls) (x :: rs) H
  rw [cF, cF, set_set]
 | l :: ls, r :: rs, H, i + 1, x, hn, hl, hi => by
  have hi' : i < ls.length := by simpa using hi
  have e1 : ix (l :: ls) (i + 1) = ix ls i := rfl
  rw [e1, List.set_cons_succ, cF, cF, set_comm _ _ (λ e => (nodup_cons.1 hn).1 (by rw [e]; exact aq hi')), zM (nodup_cons.1 hn).2 (by simpa using hl) hi']
theorem tv : ∀ {ls : List Nat} {rs rs' : List (List Fr)} {H : List Blk}, ls.Nodup -> rs.length = ls.length -> rs'.length = ls.length -> cF ls rs (cF ls rs' H) = cF ls rs H
 | [], _, _, _, _, _, _ => rfl
 | l :: ls, [], _, _, _, h, _ => by simp at h
 | l :: ls, r :: rs, [], _, _, _, h => by simp at h
 | l :: ls, r :: rs, r' :: rs', H, hn, h1, h2 => by
  rw [cF, cF, cF, cL (nodup_cons.1 hn).1, tv (nodup_cons.1 hn).2 (by simpa using h1) (by simpa using h2), set_set]
theorem dD (c : Option Nat) (b : List Fr) (H : List Blk) : (lJ c b H).length = H.length := by cases c <;> simp [lJ]
theorem pb {c : Option Nat} {b : List Fr} {H : List Blk} {k : Nat} (h : c ≠ some k) : (lJ c b H)[k]? = H[k]? := by
 cases c with
 | none => rfl
 | some c => exact getElem?_set_ne (λ e => h (by rw [e]))
theorem iF {c : Option Nat} {b : List Fr} {H : List Blk} {k : Nat} (h : c ≠ some k) (x : Blk) : lJ c b (H.set k x) = (lJ c b H).set k x := by
 cases c with
 | none => rfl
 | some c => exact set_comm _ _ (λ e => h (by rw [e]))
theorem DK (c : Option Nat) (b b' : List Fr) (H : List Blk) : lJ c b (lJ c b' H) = lJ c b H := by
 cases c with
 | none => rfl
 | some c => exact set_set ..
theorem Iu {c : Option Nat} {b : List Fr} {H X : List Blk} (h : ∀ k, c = some k -> k < H.length) : lJ c b (H ++ X) = lJ c b H ++ X := by
 cases c with
 | none => rfl
 | some c => exact set_append_left _ _ (h c rfl)
theorem zg {c : Option Nat} {b : List Fr} {H : List Blk} {x : Blk} (h : x ∈ lJ c b H) : x ∈ H ∨ x.deep = true := by
 cases c with
 | none => exact .inl h
 | some c => exact (mem_or_eq_of_mem_set h).imp id (λ e => by rw [e]; rfl)
theorem FY : ∀ {ls : List Nat} {rs : List (List Fr)} {H : List Blk} {c : Option Nat} {b : List Fr}, (∀ k, c = some k -> k ∉ ls) -> cF ls rs (lJ c b H) = lJ c b (cF ls rs H)
 | ls, rs, H, none, b, h => rfl
 | ls, rs, H, some c, b, h => cL (h c rfl)
section
variable {L : Lay} {K X : List Blk} {t t' : Tab}
theorem ai (L : Lay) (t : Tab) (K : List Blk) : (ao L t K).length = K.length := by unfold ao; rw [gP, dD, length_set, length_set]
theorem EL (h : Lens L K) (t : Tab) : (ao L t K)[L.p]? = some (tB L t) := by
 unfold ao
 rw [mF h.pr, pb h.pc, getElem?_set_ne h.pq.symm, getElem?_set_self h.p]
theorem E6 (h : Lens L K) (t : Tab) : (ao L t K)[L.q]? = some (qB L (t.w + 1)) := by
 unfold ao
 rw [mF h.qr, pb h.qc, getElem?_set_self (by rw [length_set]; exact h.q)]
theorem HU (h : Lens L K) (t : Tab) {c : Nat} (hc : L.c = some c) : (ao L t K)[c]? = some (R2B t.cost) := by
 unfold ao
 rw [mF (h.cr c hc), hc]
 exact getElem?_set_self (by rw [length_set, length_set]; exact h.c c hc)
theorem JO (h : Lens L K) (s : L.r.length = t.rows.length) {i : Nat} (hi : i < L.r.length) : (ao L t K)[ix L.r i]? = some (R2B (ix t.rows i)) := by
 unfold ao
 exact Fq h.nd s (λ l hl => by rw [dD, length_set, length_set]; exact h.r l hl) hi
theorem wG (h : Lens L K) (hr : t'.rows = t.rows) (hc : t'.cost = t.cost) (hw : t'.w = t.w) : (ao L t K).set L.p (tB L t') = ao L t' K := by
 unfold ao
 rw [<- cL h.pr, <- iF h.pc, set_comm _ _ h.pq.symm, set_set, hr, hc, hw]
theorem FN (h : Lens L K) (s : L.r.length = t.rows.length) {i : Nat} (hi : i < L.r.length) (x : List Fr) : (ao L t K).set (ix L.r i) (R2B x) = ao L { t with rows := t.rows.set i x } K := by
 unfold ao
 rw [zM h.nd s hi]
 rfl
theorem vt (h : Lens L K) {c : Nat} (hc : L.c = some c) (x : List Fr) (hx : x.length = t.cost.length) : (ao L t K).set c (R2B x) = ao L { t with cost := x } K := by
 have this : tB L { t with cost := x } = tB L t := by unfold tB tC; simp [hx]
 unfold ao
 rw [<- cL (h.cr c hc), this, hc]
 show cF _ _ (List.set (List.set _ _ _) _ _) = _
 rw [set_set]
 rfl
theorem su (h : Lens L K) (t : Tab) (X : List Blk) : ao L t (K ++ X) = ao L t K ++ X := by
 unfold ao
 rw [set_append_left _ _ h.p, set_append_left _ _ (by rw [length_set]; exact h.q), Iu (λ c hc => by rw [length_set, length_set]; exact h.c c hc), mr (λ l hl => by rw [dD, length_set, length_set]; exact h.r l hl)]
theorem ES (h : Lens L K) (s : t.rows.length = L.r.length) (s' : t'.rows.length = L.r.length) : ao L t (ao L t' K) = ao L t K := by
 unfold ao
 rw [<- cL h.pr, <- cL h.qr, <- FY h.cr, tv h.nd s s']
 congr 1
 rw [<- iF h.pc, <- iF h.qc, DK, set_comm _ _ h.pq.symm, set_set, set_set]
theorem zW : ∀ {ls : List Nat} {rs : List (List Fr)} {H : List Blk} {b : Blk}, b ∈ cF ls rs H -> b ∈ H ∨ b.deep = true
 | [], _, _, _, h => .inl h
 | _ :: _, [], _, _, h => .inl h
 | l :: ls, r :: rs, H, b, h => by
  rw [cF] at h
  rcases mem_or_eq_of_mem_set h with h | h
  ·exact zW h
  ·rw [h]; exact .inr rfl
theorem gg (h : Lens L K) (t : Tab) : ∀ b ∈ ao L t K, b.deep = true ∨ ∀ r ∈ b.rows, ∀ c ∈ r, c.cleanF K.length = true := by
 intro b hb
 unfold ao at hb
 rcases zW hb with hb | hb
 case inr => exact .inl hb
 rcases zg hb with hb | hb
 case inr => exact .inl hb
 rcases mem_or_eq_of_mem_set hb with hb | hb
 case inr =>
  rw [hb]
  refine .inr λ r hr c hc => ?_
  simp only [qB] at hr
  obtain ⟨l, hl, rfl⟩ := mem_map.1 hr
  rw [mem_singleton] at hc
  subst hc
  have := h.r l hl
  simp [AV.cleanF, AV.clean2, AV.clean1, this]
 rcases mem_or_eq_of_mem_set hb with hb | hb
 case inr =>
  rw [hb]
  refine .inr λ r hr c hc => ?_
  simp only [tB, mem_singleton] at hr
  subst hr
  have hq := h.q
  have hcc := h.c
  unfold tC at hc
  simp only [mem_append, mem_cons, List.not_mem_nil, or_false, mem_map] at hc
  rcases hc with (((rfl | rfl | rfl | rfl) | ⟨b, _, rfl⟩) | rfl)
  case inl.inl.inr.inr.inr =>
   cases hcL : L.c with
   | none => simp [cC, AV.cleanF, AV.clean2, AV.clean1]
   | some c => simp [cC, AV.cleanF, AV.clean2, AV.clean1, hcc c hcL]
  all_goals simp [AV.cleanF, AV.clean2, AV.clean1, hq]
 exact h.cl b hb
end
open Classical in
def x8 {Γ : Type} (a : Γ -> List AV) (h : Γ -> List Blk) (pre : Γ -> Prop) (res : Γ -> AV) (h' : Γ -> List Blk) : List AV -> List Blk -> Option (Prop × AV × List Blk) := λ args H =>
 if hx : ∃ γ, pre γ /\ a γ = args /\ h γ = H then some (True, res hx.choose, h' hx.choose) else none
theorem oU {Γ : Type} {a : Γ -> List AV} {h : Γ -> List Blk} {pre : Γ -> Prop} {res : Γ -> AV} {h' : Γ -> List Blk} (inj : ∀ γ γ', pre γ -> pre γ' -> a γ = a γ' -> h γ = h γ' -> res γ = res γ' /\ h' γ = h' γ') {γ : Γ} (hp : pre γ) : x8 a h pre res h' (a γ) (h γ) = some (True, res γ, h' γ) := by
 have hx : ∃ δ, pre δ /\ a δ = a γ /\ h δ = h γ := ⟨γ, hp, rfl, rfl⟩
 unfold x8
 rw [dif_pos hx]
 obtain ⟨h1, h2, h3⟩ := hx.choose_spec
 obtain ⟨e1, e2⟩ := inj _ _ h1 hp h2 h3
 rw [e1, e2]
theorem mc {Γ : Type} {a : Γ -> List AV} {h : Γ -> List Blk} {pre : Γ -> Prop} {res : Γ -> AV} {h' : Γ -> List Blk} {args : List AV} {H : List Blk} {ob : Prop} {r : AV} {H' : List Blk} (e : x8 a h pre res h' args H = some (ob, r, H')) : ∃ γ, pre γ /\ a γ = args /\ h γ = H /\ res γ = r /\ h' γ = H' := by
 unfold x8 at e
 split at e
 ·rename_i hx
  injection e with e; injection e with e1 e2; injection e2 with e2 e3
  obtain ⟨h1, h2, h3⟩ := hx.choose_spec
  exact ⟨_, h1, h2, h3, e2, e3⟩
 ·cases e
theorem vL {a b : List Fr} (h : R2B a = R2B b) : a = b := by
 unfold R2B at h
 injection h with h1 h2 h3
 have := congrArg (λ l => l.map (Enc.unc : List AV -> Fr)) h3
 simpa [dK] using this
theorem Bn {L L' : Lay} {t t' : Tab} {K K' : List Blk} (h : Lens L K) (h' : Lens L' K') (s : Shape0 L t) (s' : Shape0 L' t') (hp : L.p = L'.p) (e : ao L t K = ao L' t' K') : L = L' /\ t = t' /\ ∀ u : Tab, u.rows.length = L.r.length -> ao L u K = ao L' u K' := by
 have e1 := EL h t
 rw [e, hp, EL h' t'] at e1
 injection e1 with e1
 have e2 : tC L' t' = tC L t := by unfold tB at e1; injection e1 with _ _ e1; simpa using e1
 have hb : t'.basis.length = t.basis.length := by rw [s.bas, s'.bas]
 unfold tC at e2
 simp only [List.cons_append, List.nil_append, List.cons.injEq, AV.int.injEq, AV.own.injEq, true_and] at e2
 obtain ⟨f1, f2, ⟨f3, f4⟩, f56, f7⟩ := e2
 have f5 : L'.c = L.c := by
  cases h1 : L.c with
  | none =>
   cases h2 : L'.c with
   | none => rfl
   | some c => rw [h1, h2] at f56; cases f56
  | some c =>
   cases h2 : L'.c with
   | none => rw [h1, h2] at f56; cases f56
   | some c' => rw [h1, h2] at f56; injection f56 with f56; rw [f56]
 have f8 := List.append_inj f7 (by simp [hb])
 have f9 : t'.basis = t.basis := by
  have := f8.1
  refine ext_getElem hb λ j h1 h2 => ?_
  have := congrArg (λ l : List AV => l[j]?) this
  simp [h1, h2] at this
  exact this
 have f10 : t'.over = t.over := by simpa using f8.2
 have n1 : t'.n = t.n := by omega
 have n2 : t'.m = t.m := by omega
 have hw : t'.w = t.w := by unfold Tab.w; rw [n1, n2]
 have e3 := E6 h t
 rw [e, <- f3, E6 h' t'] at e3
 injection e3 with e3
 have f11 : L'.r = L.r := by
  unfold qB at e3
  injection e3 with _ _ e3
  refine ext_getElem f4 λ j h1 h2 => ?_
  have := congrArg (λ l : List (List AV) => l[j]?) e3
  simp [h1, h2] at this
  exact this.1
 have f12 : t'.cost = t.cost := by
  rcases s.cost with ⟨h1, h2⟩ | ⟨⟨c, h1⟩, h2⟩
  ·rcases s'.cost with ⟨h3, h4⟩ | ⟨⟨c', h3⟩, h4⟩
   ·rw [h2, h4]
   ·rw [f5, h1] at h3; cases h3
  ·have e4 := HU h t h1
   rw [e, HU h' t' (f5.trans h1)] at e4
   injection e4 with e4
   exact vL e4
 have f13 : t'.rows = t.rows := by
  refine ext_getElem (by rw [s.m, s'.m, f11]) λ j h1 h2 => ?_
  have hj : j < L.r.length := by rw [<- s.m]; exact h2
  have e5 := JO h s.m.symm hj
  rw [e, <- f11, JO h' s'.m.symm (by rw [f11]; exact hj)] at e5
  injection e5 with e5
  have := vL e5
  rwa [az h1, az h2] at this
 have eL : L = L' := by
  obtain ⟨p, q, c, r⟩ := L
  obtain ⟨p', q', c', r'⟩ := L'
  simp only at hp f3 f5 f11
  subst hp f3 f5 f11
  rfl
 have et : t = t' := by
  obtain ⟨n, m, rows, cost, basis, over⟩ := t
  obtain ⟨n', m', rows', cost', basis', over'⟩ := t'
  simp only at n1 n2 f13 f12 f9 f10
  subst n1 n2 f13 f12 f9 f10
  rfl
 refine ⟨eL, et, λ u hu => ?_⟩
 subst eL et
 have hr : t.rows.length = L.r.length := s.m
 rw [<- ES h hu hr, e, ES h' hu hr]
theorem x4 {L L' : Lay} {t t' : Tab} {K K' : List Blk} (h : Lens L K) (h' : Lens L' K') (s : Shape L t) (s' : Shape L' t') (hp : L.p = L'.p) (e : ao L t K = ao L' t' K') : L = L' /\ t = t' /\ ∀ u : Tab, u.rows.length = L.r.length -> ao L u K = ao L' u K' := Bn h h' s.to0 s'.to0 hp e
section
variable {L : Lay} {K : List Blk} {t : Tab}
theorem EC {α : Type} {l : List α} {n : Nat} (h : l.length = n) (X : List α) (j : Nat) : (l ++ X)[n + j]? = X[j]? := by rw [List.getElem?_append_right (by omega), h, Nat.add_sub_cancel_left]
structure GetT (L : Lay) (t : Tab) (K : List Blk) : Prop where
 p : ∀ X, (ao L t K ++ X)[L.p]? = some ⟨118, 29, [tC L t], true, false⟩
 q : ∀ X, (ao L t K ++ X)[L.q]? = some ⟨28, 1, L.r.map λ l => [.own l (t.w + 1)], true, false⟩
 c : ∀ X c, L.c = some c -> (ao L t K ++ X)[c]? = some ⟨35, 2, ac t.cost, true, true⟩
 r : ∀ X i, i < t.m -> (ao L t K ++ X)[ix L.r i]? = some ⟨35, 2, ac (ix t.rows i), true, true⟩
 l0 : ∀ X, (ao L t K ++ X)[K.length]? = X[0]?
 l : ∀ X j, (ao L t K ++ X)[K.length + j]? = X[j]?
 sl0 : ∀ X b, (ao L t K ++ X).set K.length b = ao L t K ++ X.set 0 b
 sl : ∀ X j b, (ao L t K ++ X).set (K.length + j) b = ao L t K ++ X.set j b
 sp : ∀ X t', t'.rows = t.rows -> t'.cost = t.cost -> t'.w = t.w -> (ao L t K ++ X).set L.p ⟨118, 29, [tC L t'], true, false⟩ = ao L t' K ++ X
 sc : ∀ X c x, L.c = some c -> x.length = t.cost.length -> (ao L t K ++ X).set c ⟨35, 2, ac x, true, true⟩ = ao L { t with cost := x } K ++ X
 sr : ∀ X i x, i < t.m -> (ao L t K ++ X).set (ix L.r i) ⟨35, 2, ac x, true, true⟩ = ao L { t with rows := t.rows.set i x } K ++ X
theorem fq (h : Lens L K) (s : Shape L t) : GetT L t K where
 p X := by rw [getElem?_append_left (by rw [ai]; exact h.p)]; exact EL h t
 q X := by rw [getElem?_append_left (by rw [ai]; exact h.q)]; exact E6 h t
 c X c hc := by rw [getElem?_append_left (by rw [ai]; exact h.c c hc)]; exact HU h t hc
 r X i hi := by
  have hi' : i < L.r.length := by rw [s.r]; exact hi
  rw [getElem?_append_left (by rw [ai]; exact h.r _ (aq hi'))]; exact JO h (by rw [s.r, s.m]) hi'
 l0 X := by have := EC (ai L t K) X 0; simpa using this
 l X j := EC (ai L t K) X j
 sl0 X b := by rw [set_append_right _ _ (by rw [ai]; omega), ai, Nat.sub_self]
 sl X j b := by rw [set_append_right _ _ (by rw [ai]; omega), ai, Nat.add_sub_cancel_left]
 sp X t' h1 h2 h3 := by rw [set_append_left _ _ (by rw [ai]; exact h.p)]; congr 1; exact wG h h1 h2 h3
 sc X c x hc hx := by rw [set_append_left _ _ (by rw [ai]; exact h.c c hc)]; congr 1; exact vt h hc x hx
 sr X i x hi := by
  have hi' : i < L.r.length := by rw [s.r]; exact hi
  rw [set_append_left _ _ (by rw [ai]; exact h.r _ (aq hi'))]; congr 1; exact FN h (by rw [s.r, s.m]) hi' x
structure Get0 (L : Lay) (t : Tab) (K : List Blk) : Prop where
 p : ∀ X, (ao L t K ++ X)[L.p]? = some ⟨118, 29, [tC L t], true, false⟩
 q : ∀ X, (ao L t K ++ X)[L.q]? = some ⟨28, 1, L.r.map λ l => [.own l (t.w + 1)], true, false⟩
 l0 : ∀ X, (ao L t K ++ X)[K.length]? = X[0]?
 l : ∀ X j, (ao L t K ++ X)[K.length + j]? = X[j]?
 sl0 : ∀ X b, (ao L t K ++ X).set K.length b = ao L t K ++ X.set 0 b
 sl : ∀ X j b, (ao L t K ++ X).set (K.length + j) b = ao L t K ++ X.set j b
 sp : ∀ X t', t'.rows = t.rows -> t'.cost = t.cost -> t'.w = t.w -> (ao L t K ++ X).set L.p ⟨118, 29, [tC L t'], true, false⟩ = ao L t' K ++ X
theorem MA (h : Lens L K) : Get0 L t K where
 p X := by rw [getElem?_append_left (by rw [ai]; exact h.p)]; exact EL h t
 q X := by rw [getElem?_append_left (by rw [ai]; exact h.q)]; exact E6 h t
 l0 X := by have := EC (ai L t K) X 0; simpa using this
 l X j := EC (ai L t K) X j
 sl0 X b := by rw [set_append_right _ _ (by rw [ai]; omega), ai, Nat.sub_self]
 sl X j b := by rw [set_append_right _ _ (by rw [ai]; omega), ai, Nat.add_sub_cancel_left]
 sp X t' h1 h2 h3 := by rw [set_append_left _ _ (by rw [ai]; exact h.p)]; congr 1; exact wG h h1 h2 h3
theorem b9 (s : t.basis.length = 24) : (tC L t).length = 29 := by unfold tC; simp [s]
theorem Sk (s : t.basis.length = 24) : (tC L t)[28]? = some (.bool t.over) := by
 unfold tC
 rw [List.getElem?_append_right (by simp [s])]
 simp [s]
theorem Kx (s : t.basis.length = 24) {i : Nat} (h : i < 24) : (tC L t)[4 + i]? = some (.int .i64 (ix t.basis i)) := by
 unfold tC
 rw [getElem?_append_left (by simp [s]; omega), List.getElem?_append_right (by simp), az (by omega)]
 simp [s, h]
theorem Ks (s : t.basis.length = 24) (b : Bool) : List.take 28 (tC L t) ++ AV.bool b :: List.drop 29 (tC L t) = tC L { t with over := b } := by
 rw [drop_eq_nil_of_le (by rw [b9 s]; omega)]
 unfold tC
 rw [List.take_append_of_le_length (by simp [s])]
 rw [take_of_length_le (by simp [s])]
theorem Ju (s : t.basis.length = 24) {i : Nat} (h : i < 24) (b : Int) : List.take (4 + i) (tC L t) ++ AV.int .i64 b :: List.drop (4 + i + 1) (tC L t) = tC L { t with basis := t.basis.set i b } := by
 have h1 : List.take (4 + i) (tC L t) ++ AV.int .i64 b :: List.drop (4 + i + 1) (tC L t) = (tC L t).set (4 + i) (.int .i64 b) := by
  rw [List.set_eq_take_append_cons_drop, if_pos (by rw [b9 s]; omega)]
 rw [h1]
 unfold tC
 rw [set_append_left _ _ (by simp [s]; omega), set_append_right _ _ (by simp)]
 simp [List.map_set]
end
theorem mJ {a b : Fr} (h : (Enc.enc a : AV) = Enc.enc b) : a = b := by
 have := congrArg (Enc.dec : AV -> Fr) h
 simpa [Enc.dec_enc] using this
abbrev TKx (α : Type) := Lay × Tab × List Blk × α
def Se {α : Type} (p : Lay -> Tab -> α -> Prop) : TKx α -> Prop := λ γ => Lens γ.1 γ.2.2.1 /\ Shape γ.1 γ.2.1 /\ p γ.1 γ.2.1 γ.2.2.2
def SJ {α : Type} : TKx α -> List Blk := λ γ => ao γ.1 γ.2.1 γ.2.2.1
def ve {α : Type} (a : Lay -> Tab -> α -> List AV) (p : Lay -> Tab -> α -> Prop) (res : Tab -> α -> AV) (nw : Tab -> α -> Tab) : List AV -> List Blk -> Option (Prop × AV × List Blk) :=
 x8 (λ γ : TKx α => .ptr γ.1.p 1 29 0 0 :: a γ.1 γ.2.1 γ.2.2.2) SJ (Se p) (λ γ => res γ.2.1 γ.2.2.2) (λ γ => ao γ.1 (nw γ.2.1 γ.2.2.2) γ.2.2.1)
structure TabOK {α : Type} (a : Lay -> Tab -> α -> List AV) (p : Lay -> Tab -> α -> Prop) (nw : Tab -> α -> Tab) : Prop where
 inj : ∀ {L t K x x'}, Lens L K -> Shape L t -> p L t x -> p L t x' -> a L t x = a L t x' -> x = x'
 rows : ∀ {L t x}, Shape L t -> p L t x -> (nw t x).rows.length = t.m
theorem LO {α : Type} {a : Lay -> Tab -> α -> List AV} {p : Lay -> Tab -> α -> Prop} {res : Tab -> α -> AV} {nw : Tab -> α -> Tab} (ok : TabOK a p nw) {L : Lay} {t : Tab} {K : List Blk} {x : α} (h : Lens L K) (s : Shape L t) (hp : p L t x) :
  ve a p res nw (.ptr L.p 1 29 0 0 :: a L t x) (ao L t K) = some (True, res t x, ao L (nw t x) K) := by
 refine oU (a := λ γ : TKx α => .ptr γ.1.p 1 29 0 0 :: a γ.1 γ.2.1 γ.2.2.2) (h := SJ) (pre := Se p) (res := λ γ => res γ.2.1 γ.2.2.2) (h' := λ γ => ao γ.1 (nw γ.2.1 γ.2.2.2) γ.2.2.1) ?_ (γ := (L, t, K, x)) ⟨h, s, hp⟩
 rintro ⟨L1, t1, K1, x1⟩ ⟨L2, t2, K2, x2⟩ ⟨h1, s1, p1⟩ ⟨h2, s2, p2⟩ ea eh
 simp only [List.cons.injEq, AV.ptr.injEq, and_true] at ea
 obtain ⟨e1, e2, e3⟩ := x4 h1 h2 s1 s2 ea.1 eh
 simp only at e1 e2
 subst e1 e2
 have ex := ok.inj h1 s1 p1 p2 ea.2
 simp only at ex
 subst ex
 exact ⟨rfl, e3 _ (by rw [ok.rows s1 p1, s1.r])⟩
theorem jj {α : Type} {a : Lay -> Tab -> α -> List AV} {p : Lay -> Tab -> α -> Prop} {res : Tab -> α -> AV} {nw : Tab -> α -> Tab} {args : List AV} {H : List Blk} {ob : Prop} {r : AV} {H' : List Blk} (e : ve a p res nw args H = some (ob, r, H')) :
  ∃ L t K x, Lens L K /\ Shape L t /\ p L t x /\ args = .ptr L.p 1 29 0 0 :: a L t x /\ H = ao L t K /\ r = res t x /\ H' = ao L (nw t x) K := by
 obtain ⟨⟨L, t, K, x⟩, ⟨h1, h2, h3⟩, e1, e2, e3, e4⟩ := mc e
 exact ⟨L, t, K, x, h1, h2, h3, e1.symm, e2.symm, e3.symm, e4.symm⟩
theorem fi {L : Lay} {t' : Tab} {K X : List Blk} (h : Lens L K) {r : AV} (hr : r.cleanF K.length = true) : pj K.length (ao L t' K ++ X) r (ao L t' K) :=
 ⟨K.length, le_refl _, by rw [show K.length = (ao L t' K).length by rw [ai], List.take_left], hr, gg h t'⟩
theorem rh {m n : Nat} (h : m <= n) {v : AV} (hv : v.clean1 m = true) : v.clean1 n = true := by
 cases v <;> simp [AV.clean1] at hv ⊢ <;> omega
theorem w6 (v : AV) : (∃ f cs, v = .fn f cs) ∨ ∀ n, v.clean2 n = v.clean1 n := by
 cases v <;> first | exact .inr λ _ => rfl | exact .inl ⟨_, _, rfl⟩
theorem mm {m n : Nat} (h : m <= n) {v : AV} (hv : v.clean2 m = true) : v.clean2 n = true := by
 rcases w6 v with ⟨f, cs, rfl⟩ | e
 ·have hv : cs.all (AV.clean1 m) = true := hv
  show cs.all (AV.clean1 n) = true
  exact all_eq_true.2 λ c hc => rh h (all_eq_true.1 hv c hc)
 ·rw [e] at hv ⊢
  exact rh h hv
theorem xI (v : AV) : (∃ cs, v = .agg cs) ∨ (∃ cs, v = .tup cs) ∨ ∀ n, v.cleanF n = v.clean2 n := by
 cases v <;> first | exact .inr (.inr λ _ => rfl) | exact .inl ⟨_, rfl⟩ | exact .inr (.inl ⟨_, rfl⟩)
theorem jJ {m n : Nat} (h : m <= n) {v : AV} (hv : v.cleanF m = true) : v.cleanF n = true := by
 rcases xI v with ⟨cs, rfl⟩ | ⟨cs, rfl⟩ | e
 ·have hv : cs.all (AV.clean2 m) = true := hv
  show cs.all (AV.clean2 n) = true
  exact all_eq_true.2 λ c hc => mm h (all_eq_true.1 hv c hc)
 ·have hv : cs.all (AV.clean2 m) = true := hv
  show cs.all (AV.clean2 n) = true
  exact all_eq_true.2 λ c hc => mm h (all_eq_true.1 hv c hc)
 ·rw [e] at hv ⊢
  exact mm h hv
theorem Lens.app {L : Lay} {K X : List Blk} (h : Lens L K) (hX : ∀ b ∈ X, b.deep = true) : Lens L (K ++ X) where
 p := by have := h.p; rw [length_append]; omega
 q := by have := h.q; rw [length_append]; omega
 c c hc := by have := h.c c hc; rw [length_append]; omega
 r l hl := by have := h.r l hl; rw [length_append]; omega
 pq := h.pq
 pc := h.pc
 qc := h.qc
 pr := h.pr
 qr := h.qr
 cr := h.cr
 nd := h.nd
 cl b hb := by
  rcases mem_append.1 hb with hb | hb
  ·exact (h.cl b hb).imp id λ h1 r hr c hc => jJ (by rw [length_append]; omega) (h1 r hr c hc)
  ·exact .inl (hX b hb)
theorem gk {α : Type} {a : Lay -> Tab -> α -> List AV} {p : Lay -> Tab -> α -> Prop} {res : Tab -> α -> AV} {nw : Tab -> α -> Tab} (ok : TabOK a p nw) {L : Lay} {t : Tab} {K : List Blk} {x : α} (h : Lens L K) (s : Shape L t) (hp : p L t x) (X : List Blk) (hX : ∀ b ∈ X, b.deep = true) :
  ve a p res nw (.ptr L.p 1 29 0 0 :: a L t x) (ao L t K ++ X) = some (True, res t x, ao L (nw t x) K ++ X) := by
 rw [<- su h, <- su h]
 exact LO ok (h.app hX) s hp
def yt : Lay -> Tab -> Fr × Fr × Fr -> List AV := λ _ _ x => [Enc.enc x.1, Enc.enc x.2.1, Enc.enc x.2.2]
def orT (t : Tab) (b : Bool) : Tab := { t with over := t.over || b }
def yX := ve yt (λ _ _ _ => True) (λ _ x => Enc.enc (mnP x.1 x.2.1 x.2.2).1) (λ t x => orT t (mnP x.1 x.2.1 x.2.2).2)
theorem Mj : TabOK yt (λ _ _ _ => True) (λ t x => orT t (mnP x.1 x.2.1 x.2.2).2) where
 inj := λ {L t K x x'} _ _ _ _ e => by
  obtain ⟨a, b, c⟩ := x
  obtain ⟨a', b', c'⟩ := x'
  unfold yt at e
  simp only [List.cons.injEq, and_true] at e
  rw [mJ e.1, mJ e.2.1, mJ e.2.2]
 rows := λ s _ => s.m
noncomputable def CMn : Ctx := mkC prog G0 [(149, .pure iR), (150, .pure zk), (64, .pure (dA (Enc.enc F01)))]
@[simp] theorem YX : CMn.P = prog := rfl
@[simp] theorem Y1 : CMn.G = G0 := rfl
@[simp] theorem X2 : CMn.S 149 = .pure iR /\ CMn.S 150 = .pure zk /\ CMn.S 64 = .pure (dA (Enc.enc F01)) := ⟨rfl, rfl, rfl⟩
theorem QY : au CMn := ap (OQ) func149 (ap (VS) func150 (ap (Ex) func64 (ak _ _)))
theorem ER {n d : Int} {p : Fr} (h : toO (mo n d) = some p) : InR p.N /\ InR p.D := by
 unfold toO mo at h
 by_cases h4 : InR n /\ InR d
 ·rw [if_pos h4, if_pos rfl] at h
  injection h with h
  subst h
  exact h4
 ·rw [if_neg h4] at h
  simp at h
theorem I1 {a b p : Fr} (h : nr a b = some p) : I64 p.N := by
 unfold nr lC at h
 split at h
 ·have := (ER h).1
  unfold InR at this
  unfold I64
  omega
 ·simp [toO] at h
theorem lY (t : Tab) : orT t true = { t with over := true } := by unfold orT; rw [Bool.or_true]
theorem iD (t : Tab) : orT t false = t := by unfold orT; rw [Bool.or_false]
theorem Ma : jM prog G0 130 yX := by
 refine bP (C := CMn) QY ae [] func130 rfl rfl rfl (by kernel_rfl) (λ avs H ob r H' hp hob => ?_)
 obtain ⟨L, t, K, ⟨a, f, b⟩, hL, hS, _, rfl, rfl, rfl, rfl⟩ := jj hp
 clear hp hob ob
 refine ⟨(by show 4 <= _; decide), ?_⟩
 have G := fq hL hS
 have gp := G.p
 have gl0 := G.l0
 have gl := G.l
 have sl0 := G.sl0
 have sl := G.sl
 have bs := hS.bas
 simp only [yt]
 have em := yE f b
 have sp := λ X => G.sp X { t with over := true } rfl rfl rfl
 have ts := Ks (L := L) bs true
 cases hm : nr f b with
 | none =>
  have e1 : mnP a f b = (F01, true) := by unfold mnP mnO; rw [hm]
  rw [hm] at em
  simp [argsρ, ai, gl0, gl, sl0, sl, gp, sp, ts, iR, em, ofO, F00, F01, e1, lY]
  exact fi hL (by simp [AV.cleanF, AV.clean2, AV.clean1])
 | some p =>
  rw [hm] at em
  have hI := I1 hm
  have es := ML a p
  cases hs : Ho a p with
  | none =>
   have e1 : mnP a f b = (F01, true) := by unfold mnP mnO; rw [hm]; simp only; rw [hs]
   rw [hs] at es
   simp [argsρ, ai, gl0, gl, sl0, sl, gp, sp, ts, iR, zk, em, es, hI, ofO, F00, F01, e1, lY]
   exact fi hL (by simp [AV.cleanF, AV.clean2, AV.clean1])
  | some d =>
   have e1 : mnP a f b = (d, false) := by unfold mnP mnO; rw [hm]; simp only; rw [hs]
   rw [hs] at es
   simp [argsρ, ai, gl0, gl, sl0, sl, gp, sp, ts, iR, zk, em, es, hI, ofO, F00, F01, e1, iD]
   exact fi hL (by simp [AV.cleanF, AV.clean2, AV.clean1])
theorem FQ {l : List Nat} (h : l.Nodup) {a b : Nat} (ha : a < l.length) (hb : b < l.length) (e : l[a] = l[b]) : a = b := by
 have hp := List.pairwise_iff_getElem.1 h
 rcases Nat.lt_trichotomy a b with c | c | c
 ·exact absurd e (hp a b ha hb c)
 ·exact c
 ·exact absurd e.symm (hp b a hb ha c)
def ya (L : Lay) : Option Nat -> Nat
 | some k => ix L.r k
 | none => L.c.getD 0
structure ClrX where
 tgt : Option Nat
 f : Fr
 i : Nat
def xu : Lay -> Tab -> ClrX -> List AV := λ L t x => [.own (ya L x.tgt) (t.w + 1), Enc.enc x.f, .own (ix L.r x.i) (t.w + 1)]
structure PreClr (L : Lay) (t : Tab) (x : ClrX) : Prop where
 i : x.i < t.m
 row : ∀ k, x.tgt = some k -> k < t.m /\ k ≠ x.i
 cost : x.tgt = none -> t.cost.length = t.w + 1
def fP (t : Tab) : Option Nat -> List Fr
 | some k => ix t.rows k
 | none => t.cost
def gj (t : Tab) (g : Option Nat) (r : List Fr) : Tab := match g with
 | some k => { t with rows := t.rows.set k r }
 | none => { t with cost := r }
def ei (t : Tab) (x : ClrX) (k : Nat) : Tab := orT (gj t x.tgt (dM k (λ j => (mnP (ix (fP t x.tgt) j) x.f (ix (ix t.rows x.i) j)).1) (fP t x.tgt))) (fF k λ j => (mnP (ix (fP t x.tgt) j) x.f (ix (ix t.rows x.i) j)).2)
def ky (t : Tab) (x : ClrX) : Tab := ei t x (t.w + 1)
def kT := ve xu PreClr (λ _ _ => .tup []) ky
theorem Ai (t : Tab) (g : Option Nat) (r : List Fr) : (gj t g r).rows.length = t.rows.length := by cases g <;> simp [gj]
theorem LT : TabOK xu PreClr ky where
 inj := λ {L t K x x'} hL hS h h' e => by
  obtain ⟨g, f, i⟩ := x
  obtain ⟨g', f', i'⟩ := x'
  unfold xu at e
  simp only [List.cons.injEq, AV.own.injEq, and_true] at e
  obtain ⟨e1, e2, e3⟩ := e
  have ii : ∀ {a b : Nat}, a < L.r.length -> b < L.r.length -> ix L.r a = ix L.r b -> a = b := λ ha hb hab => by
   rw [az ha, az hb] at hab
   exact FQ hL.nd ha hb hab
  have hi := h.i
  have hi' := h'.i
  have er := hS.r
  have e3 := ii (by rw [er]; exact hi) (by rw [er]; exact hi') e3
  have eg : g = g' := by
   cases g with
   | none =>
    cases g' with
    | none => rfl
    | some k' =>
     rcases hS.cost with ⟨h1, h2⟩ | ⟨⟨c, h1⟩, h2⟩
     ·have := h.cost rfl
      rw [h2] at this
      simp at this
     ·have e1 : L.c.getD 0 = ix L.r k' := e1
      rw [h1] at e1
      exact absurd (by rw [show c = ix L.r k' from e1]; exact aq (by rw [er]; exact (h'.row k' rfl).1)) (hL.cr c h1)
   | some k =>
    cases g' with
    | none =>
     rcases hS.cost with ⟨h1, h2⟩ | ⟨⟨c, h1⟩, h2⟩
     ·have := h'.cost rfl
      rw [h2] at this
      simp at this
     ·have e1 : ix L.r k = L.c.getD 0 := e1
      rw [h1] at e1
      exact absurd (by rw [show c = ix L.r k from e1.symm]; exact aq (by rw [er]; exact (h.row k rfl).1)) (hL.cr c h1)
    | some k' => rw [ii (by rw [er]; exact (h.row k rfl).1) (by rw [er]; exact (h'.row k' rfl).1) e1]
  rw [eg, mJ e2, e3]
 rows := λ {L t x} s h => by
  show (gj t x.tgt _).rows.length = t.m
  rw [Ai]
  exact s.m
section
variable {L : Lay} {K : List Blk} {t : Tab}
theorem mV (hS : Shape L t) (h : t.cost.length = t.w + 1) : ∃ c, L.c = some c := by
 rcases hS.cost with ⟨h1, h2⟩ | ⟨h1, _⟩
 ·rw [h2] at h
  simp at h
 ·exact h1
theorem Eo (hL : Lens L K) (hS : Shape L t) {g : Option Nat} (hg : ∀ k, g = some k -> k < t.m) (hn : g = none -> t.cost.length = t.w + 1) (X : List Blk) : (ao L t K ++ X)[ya L g]? = some ⟨35, 2, ac (fP t g), true, true⟩ := by
 cases g with
 | none =>
  obtain ⟨c, hc⟩ := mV hS (hn rfl)
  show (ao L t K ++ X)[L.c.getD 0]? = _
  rw [hc]
  exact (fq hL hS).c X c hc
 | some k => exact (fq hL hS).r X k (hg k rfl)
theorem Mc (hL : Lens L K) (hS : Shape L t) {g : Option Nat} (hg : ∀ k, g = some k -> k < t.m) (hn : g = none -> t.cost.length = t.w + 1) (X : List Blk) (r : List Fr) (hr : r.length = t.w + 1) : (ao L t K ++ X).set (ya L g) ⟨35, 2, ac r, true, true⟩ = ao L (gj t g r) K ++ X := by
 cases g with
 | none =>
  obtain ⟨c, hc⟩ := mV hS (hn rfl)
  show (ao L t K ++ X).set (L.c.getD 0) _ = _
  rw [hc]
  exact (fq hL hS).sc X c r hc (by rw [hr, hn rfl])
 | some k => exact (fq hL hS).sr X k r (hg k rfl)
theorem kk (hS : Shape L t) (b : Bool) : Shape L (orT t b) := ⟨hS.m, hS.r, hS.n1, hS.n12, hS.m24, hS.row, hS.cost, hS.bas, hS.b64⟩
theorem vw (hS : Shape L t) {g : Option Nat} (hn : g = none -> t.cost.length = t.w + 1) {r : List Fr} (hr : r.length = t.w + 1) : Shape L (gj t g r) := by
 cases g with
 | none => exact ⟨hS.m, hS.r, hS.n1, hS.n12, hS.m24, hS.row, .inr ⟨mV hS (hn rfl), hr⟩, hS.bas, hS.b64⟩
 | some k => exact ⟨by show (t.rows.set k r).length = t.m; rw [length_set]; exact hS.m, hS.r, hS.n1, hS.n12, hS.m24, λ x hx => (mem_or_eq_of_mem_set hx).elim (hS.row x) (λ e => by rw [e]; exact hr), hS.cost, hS.bas, hS.b64⟩
theorem uD {x : ClrX} (hS : Shape L t) (h : PreClr L t x) : (fP t x.tgt).length = t.w + 1 := by
 cases hg : x.tgt with
 | none => exact h.cost hg
 | some k =>
  have hk := (h.row k hg).1
  exact hS.row _ (aq (by rw [hS.m]; exact hk))
theorem js {x : ClrX} (hS : Shape L t) (h : PreClr L t x) (k : Nat) : Shape L (ei t x k) :=
 kk (vw hS h.cost (by rw [aP, uD hS h])) _
theorem zV {x : ClrX} (hS : Shape L t) (h : PreClr L t x) (k : Nat) : fP (ei t x k) x.tgt = dM k (λ j => (mnP (ix (fP t x.tgt) j) x.f (ix (ix t.rows x.i) j)).1) (fP t x.tgt) := by
 unfold ei
 cases hg : x.tgt with
 | none => rfl
 | some q =>
  show ix (t.rows.set q _) q = _
  rw [az (by rw [length_set, hS.m]; exact (h.row q hg).1), List.getElem_set_self]
theorem Ln {x : ClrX} (hS : Shape L t) (h : PreClr L t x) (k : Nat) : ix (ei t x k).rows x.i = ix t.rows x.i := by
 unfold ei
 cases hg : x.tgt with
 | none => rfl
 | some q =>
  have hi := h.i
  show ix (t.rows.set q _) x.i = _
  rw [az (by rw [length_set, hS.m]; exact hi), List.getElem_set_ne (h.row q hg).2, az (by rw [hS.m]; exact hi)]
theorem Gw (x : ClrX) : ei t x 0 = t := by
 unfold ei
 rw [kq, qY, iD]
 cases hg : x.tgt with
 | none => rfl
 | some q =>
  show { t with rows := t.rows.set q (ix t.rows q) } = t
  by_cases hq : q < t.rows.length
  ·rw [az hq, List.set_getElem_self]
  ·rw [List.set_eq_of_length_le (by omega)]
theorem FT {x : ClrX} (hS : Shape L t) (h : PreClr L t x) {k : Nat} (hk : k < t.w + 1) :
  gj (orT (ei t x k) (mnP (ix (fP t x.tgt) k) x.f (ix (ix t.rows x.i) k)).2) x.tgt ((dM k (λ j => (mnP (ix (fP t x.tgt) j) x.f (ix (ix t.rows x.i) j)).1) (fP t x.tgt)).set k (mnP (ix (fP t x.tgt) k) x.f (ix (ix t.rows x.i) k)).1) = ei t x (k + 1) := by
 rw [lH (g := λ j => (mnP (ix (fP t x.tgt) j) x.f (ix (ix t.rows x.i) j)).1) (v := (mnP (ix (fP t x.tgt) k) x.f (ix (ix t.rows x.i) k)).1) rfl (by rw [uD hS h]; exact hk)]
 unfold ei
 rw [mN]
 cases hg : x.tgt with
 | none => unfold gj orT; simp [Bool.or_assoc]
 | some q => unfold gj orT; simp [Bool.or_assoc]
end
theorem CJ {L : Lay} {K : List Blk} {t : Tab} (hL : Lens L K) (hS : Shape L t) (a f b : Fr) (X : List Blk) (hX : ∀ b ∈ X, b.deep = true) : yX [.ptr L.p 1 29 0 0, .agg [.int .i64 a.N, .int .i64 a.D], .agg [.int .i64 f.N, .int .i64 f.D], .agg [.int .i64 b.N, .int .i64 b.D]] (ao L t K ++ X) = some (True, .agg [.int .i64 (mnP a f b).1.N, .int .i64 (mnP a f b).1.D], ao L (orT t (mnP a f b).2) K ++ X) :=
 gk Mj (x := (a, f, b)) hL hS trivial X hX
noncomputable def CCl : Ctx := mkC prog G0 [(149, .pure iR), (130, .gen yX)]
@[simp] theorem Zi : CCl.P = prog := rfl
@[simp] theorem Zc : CCl.G = G0 := rfl
@[simp] theorem Yd : CCl.S 149 = .pure iR /\ CCl.S 130 = .gen yX := ⟨rfl, rfl⟩
theorem Ch : au CCl := ap (OQ) func149 (aL (bM (Ma) func130 rfl (by decide)) (ak _ _))
theorem xU : jM prog G0 101 kT := by
 refine bP (C := CCl) Ch ae [4] func101 rfl rfl rfl (by kernel_rfl) (λ avs H ob r H' hp hob => ?_)
 obtain ⟨L, t, K, x, hL, hS, hx, rfl, rfl, rfl, rfl⟩ := jj hp
 clear hp hob ob
 refine ⟨(by show 4 <= _; decide), ?_⟩
 simp only [xu]
 have G := fq hL hS
 have gl0 := G.l0
 have gl := G.l
 have hw : t.w <= 36 := by have := hS.n12; have := hS.m24; unfold Tab.w; omega
 simp [argsρ, ai, gl0, gl]
 refine aB Ch ae [4] (λ k : Nat => ⟨[(0, .ptr L.p 1 29 0 0), (1, .own (ya L x.tgt) (t.w + 1)), (3, .own (ix L.r x.i) (t.w + 1)), (6, .ptr K.length 1 2 0 0), (10, .int .i64 ((t.w : Int) + 1)), (11, .int .i64 k)], ao L (ei t x k) K ++ [FB x.f]⟩) (λ k => k <= t.w + 1) (λ k => t.w + 1 - k) (by kernel_rfl) ⟨0, by simp, ag (by simp) (by rw [Gw]; rfl)⟩ (λ k hk => ?_)
 have hS' := js hS hx k
 have G := fq hL hS'
 have gl0 := G.l0
 have gl := G.l
 by_cases hkl : k < t.w + 1
 ·have i2 : I64 ((k : Int) + 1) := by unfold I64; omega
  have hkl' : (k : Int) < (t.w : Int) + 1 := by omega
  have ww : (ei t x k).w = t.w := by unfold ei; cases x.tgt <;> rfl
  have hcost : x.tgt = none -> (ei t x k).cost.length = (ei t x k).w + 1 := λ hg => by
   have := hx.cost hg
   unfold ei orT gj
   rw [hg]
   show (dM _ _ _).length = _
   rw [aP]
   exact this
  have tg := Eo (g := x.tgt) hL hS' (λ q hq => by have := (hx.row q hq).1; unfold ei; cases x.tgt <;> exact this) hcost
  rw [zV hS hx] at tg
  have gr := G.r
  have gi := λ X => gr X x.i (by have := hx.i; unfold ei; cases x.tgt <;> exact this)
  simp only [Ln hS hx] at gi
  simp [FB, ai, gl0, gl, hkl', tg, gi]
  refine aA Ch ae [.pure, .pure, .pure, .pure, .pure, .pure, .read, .read, .pure, .pure, .pure, .read, .eff, .pure, .eff] [[],[],[],[],[],[4,3],[3,4,5],[],[],[],[9,8],[8,9,10],[10,9,8,11,7,5,4,3,6,2],[12,11,10,9,8,7,6,5,4,3,2,1,0],[0,1,2,3,4,5,6,7,8,9,10,11,12,13]] (by kernel_rfl) (by kernel_rfl) (by kernel_rfl) (by kernel_rfl) ?_
  have hrow : (ix t.rows x.i).length = t.w + 1 := hS.row _ (aq (by rw [hS.m]; exact hx.i))
  have hm1 := aP k (λ j => (mnP (ix (fP t x.tgt) j) x.f (ix (ix t.rows x.i) j)).1) (fP t x.tgt)
  have hm2 := uD hS hx
  have hmx := eM (k := k) (g := λ j => (mnP (ix (fP t x.tgt) j) x.f (ix (ix t.rows x.i) j)).1) (show k < (fP t x.tgt).length by omega)
  rw [if_neg (lt_irrefl k)] at hmx
  have hcall := CJ hL hS' (ix (fP t x.tgt) k) x.f (ix (ix t.rows x.i) k) [FB x.f] (by simp [FB])
  simp only [FB] at hcall
  obtain ⟨M, hM⟩ : ∃ M, mnP (ix (fP t x.tgt) k) x.f (ix (ix t.rows x.i) k) = M := ⟨_, rfl⟩
  have hstep := FT hS hx hkl
  rw [hM] at hcall hstep
  have hSo := kk hS' M.2
  have tgm : ∀ q, x.tgt = some q -> q < (ei t x k).m := λ q hq => by have := (hx.row q hq).1; unfold ei; cases x.tgt <;> exact this
  have tg2 : ∀ X, (ao L (orT (ei t x k) M.2) K ++ X)[ya L x.tgt]? = some ⟨35, 2, ac (dM k (λ j => (mnP (ix (fP t x.tgt) j) x.f (ix (ix t.rows x.i) j)).1) (fP t x.tgt)), true, true⟩ := λ X => by
   rw [Eo (g := x.tgt) hL hSo tgm hcost, <- zV hS hx k]
   cases x.tgt <;> rfl
  have ts2 := λ X r hr => Mc (g := x.tgt) hL hSo tgm hcost X r hr
  simp [FB, ai, gl0, gl, hkl', tg, gi, hrow, hm1, hm2, hmx, aa, hkl, hcall, tg2, i2]
  refine ⟨k + 1, by omega, by omega, ag (by simp) ?_⟩
  rw [ts2 _ _ (by rw [length_set, hm1, hm2]; exact congrArg (· + 1) ww.symm), hstep]
 ·have hke : k = t.w + 1 := by omega
  subst hke
  simp [ai, gl0, gl]
  exact fi hL (by simp [AV.cleanF, AV.clean2, AV.clean1])
section
variable {L : Lay} {t : Tab}
theorem j8 (h : 0 < (tC L t).length) : (tC L t)[0]'h = .int .i64 t.n := rfl
theorem j3 (h : 1 < (tC L t).length) : (tC L t)[1]'h = .int .i64 t.m := rfl
theorem jz (h : 2 < (tC L t).length) : (tC L t)[2]'h = .own L.q L.r.length := rfl
theorem nL (h : 3 < (tC L t).length) : (tC L t)[3]'h = cC L.c t.cost.length := rfl
end
theorem dO {L : Lay} {t' : Tab} {K : List Blk} (h : Lens L K) {r : AV} (hr : r.cleanF K.length = true) : pj K.length (ao L t' K) r (ao L t' K) := by
 have := fi (X := []) h (t' := t') hr
 rwa [append_nil] at this
theorem mK {L : Lay} {t : Tab} (hS : Shape L t) : w64 ((t.n : Int) + t.m) = t.w := by
 have := hS.n12
 have := hS.m24
 rw [aT (by unfold I64; omega)]
 unfold Tab.w
 omega
def MM : Lay -> Tab -> Nat -> List AV := λ _ _ i => [.int .i64 i]
def CX := ve MM (λ _ t i => i < t.m) (λ t i => .bool (decide ((t.w : Int) <= ix t.basis i))) (λ t _ => t)
theorem Sr : TabOK MM (λ _ t i => i < t.m) (λ t _ => t) where
 inj := λ {L t K x x'} _ _ _ _ e => by
  unfold MM at e
  simp only [List.cons.injEq, AV.int.injEq, and_true, true_and] at e
  omega
 rows := λ s _ => s.m
theorem AU {L : Lay} {K : List Blk} {t : Tab} (hL : Lens L K) (hS : Shape L t) {i : Nat} (hi : i < t.m) (X : List Blk) (hX : ∀ b ∈ X, b.deep = true) : CX [.ptr L.p 1 29 0 0, .int .i64 i] (ao L t K ++ X) = some (True, .bool (decide ((t.w : Int) <= ix t.basis i)), ao L t K ++ X) :=
 gk Sr (x := i) hL hS hi X hX
noncomputable def CEm : Ctx := mkC prog G0 [(64, .pure (dA (Enc.enc F01)))]
@[simp] theorem Yi : CEm.P = prog := rfl
@[simp] theorem Zq : CEm.G = G0 := rfl
@[simp] theorem X3 : CEm.S 64 = .pure (dA (Enc.enc F01)) := rfl
theorem uA : au CEm := ap (Ex) func64 (ak _ _)
theorem M9 : jM prog G0 100 CX := by
 refine bP (C := CEm) uA ae [1] func100 rfl rfl rfl (by kernel_rfl) (λ avs H ob r H' hp hob => ?_)
 obtain ⟨L, t, K, i, hL, hS, hi, rfl, rfl, rfl, rfl⟩ := jj hp
 clear hp hob ob
 refine ⟨(by show 2 <= _; decide), ?_⟩
 simp only [MM]
 have G := fq hL hS
 have gp := G.p []
 rw [append_nil] at gp
 have bs := hS.bas
 have h24 : i < 24 := by have := hS.m24; omega
 have hb := Kx (L := L) bs h24
 have hw : t.w <= 36 := by have := hS.n12; have := hS.m24; unfold Tab.w; omega
 have hl := b9 (L := L) bs
 simp [argsρ, ai, gp]
 refine aA uA ae [.pure, .pure, .pure, .pure, .pure, .read, .pure, .pure, .pure, .read, .pure, .pure, .pure, .read, .pure, .pure, .pure] [[],[],[0],[0,2],[1,2,0,3],[3,0,2,1,4],[],[6],[6,7],[7,6,8],[],[10],[10,11],[11,10,12],[12,10,11,13,8,6,7,9],[9,7,6,8,13,11,10,12,14,4,1,2,0,3,5],[5,3,0,2,1,4,14,12,10,11,13,8,6,7,9,15]] (by kernel_rfl) (by kernel_rfl) (by kernel_rfl) (by kernel_rfl) ?_
 simp [gp, hb, hl, h24, j8, j3, ai, mK hS]
 exact ⟨by omega, by omega, dO hL (by simp [AV.cleanF, AV.clean2, AV.clean1])⟩
 done
theorem y5 {L : Lay} {t : Tab} (hS : Shape0 L t) : w64 ((t.n : Int) + t.m) = t.w := by
 have := hS.n12
 have := hS.m24
 rw [aT (by unfold I64; omega)]
 unfold Tab.w
 omega
abbrev EmX := Lay × Tab × List Blk
def SG : EmX -> Prop := λ γ => Lens γ.1 γ.2.2 /\ Shape0 γ.1 γ.2.1
def ep (t : Tab) : List Fr := List.replicate (t.w + 1) F01
def kW : List AV -> List Blk -> Option (Prop × AV × List Blk) :=
 x8 (λ γ : EmX => [.ptr γ.1.p 1 29 0 0]) (λ γ => ao γ.1 γ.2.1 γ.2.2) SG (λ γ => .own γ.2.2.length (γ.2.1.w + 1)) (λ γ => ao γ.1 γ.2.1 γ.2.2 ++ [R2B (ep γ.2.1)])
theorem tK {L : Lay} {t : Tab} {K : List Blk} (hL : Lens L K) (hS : Shape0 L t) : kW [.ptr L.p 1 29 0 0] (ao L t K) = some (True, .own K.length (t.w + 1), ao L t K ++ [R2B (ep t)]) := by
 refine oU (a := λ γ : EmX => [.ptr γ.1.p 1 29 0 0]) (h := λ γ : EmX => ao γ.1 γ.2.1 γ.2.2) (pre := SG) (res := λ γ => .own γ.2.2.length (γ.2.1.w + 1)) (h' := λ γ => ao γ.1 γ.2.1 γ.2.2 ++ [R2B (ep γ.2.1)]) ?_ (γ := (L, t, K)) ⟨hL, hS⟩
 rintro ⟨L1, t1, K1⟩ ⟨L2, t2, K2⟩ ⟨h1, s1⟩ ⟨h2, s2⟩ ea eh
 simp only [List.cons.injEq, AV.ptr.injEq, and_true] at ea
 obtain ⟨e1, e2, e3⟩ := Bn h1 h2 s1 s2 ea eh
 simp only at e1 e2
 subst e1 e2
 have el : K1.length = K2.length := by
  have := congrArg List.length eh
  simpa [ai] using this
 refine ⟨by simp only [el], ?_⟩
 simp only [e3 t1 s1.m]
theorem HC {args : List AV} {H : List Blk} {ob : Prop} {r : AV} {H' : List Blk} (e : kW args H = some (ob, r, H')) :
  ∃ L t K, Lens L K /\ Shape0 L t /\ args = [.ptr L.p 1 29 0 0] /\ H = ao L t K /\ r = .own K.length (t.w + 1) /\ H' = ao L t K ++ [R2B (ep t)] := by
 obtain ⟨⟨L, t, K⟩, ⟨h1, h2⟩, e1, e2, e3, e4⟩ := mc e
 exact ⟨L, t, K, h1, h2, e1.symm, e2.symm, e3.symm, e4.symm⟩
theorem KS {L : Lay} {t' : Tab} {K X : List Blk} (h : Lens L K) (hX : ∀ b ∈ X, b.deep = true) {r : AV} (hr : r.cleanF (K.length + X.length) = true) : pj K.length (ao L t' K ++ X) r (ao L t' K ++ X) :=
 ⟨K.length + X.length, Nat.le_add_right _ _, by rw [show K.length + X.length = (ao L t' K ++ X).length by rw [length_append, ai], List.take_length], hr, λ b hb => by
  rcases mem_append.1 hb with hb | hb
  ·exact (gg h t' b hb).imp id λ h1 r hr c hc => jJ (Nat.le_add_right _ _) (h1 r hr c hc)
  ·exact .inl (hX b hb)⟩
theorem D0 (n : Nat) (a : Fr) : ac (List.replicate n a) = List.replicate n (Enc.cells a) := by unfold ac; rw [List.map_replicate]
theorem M4 (t : Tab) : dM (t.w + 1) (λ _ => F01) (List.replicate (t.w + 1) F00) = ep t := by
 refine ext_getElem (by rw [aP]; simp [ep]) λ j h1 h2 => ?_
 rw [aP, List.length_replicate] at h1
 have := eM (k := t.w + 1) (g := λ _ => F01) (row := List.replicate (t.w + 1) F00) (j := j) (by simpa using h1)
 rw [az (by rw [aP]; simpa using h1), if_pos h1] at this
 rw [this]
 exact (List.getElem_replicate (a := F01) (n := t.w + 1) (h := h2)).symm
theorem yO : jM prog G0 99 kW := by
 refine bP (C := CEm) uA ae [1] func99 rfl rfl rfl (by kernel_rfl) (λ avs H ob r H' hp hob => ?_)
 obtain ⟨L, t, K, hL, hS, rfl, rfl, rfl, rfl⟩ := HC hp
 clear hp hob ob
 refine ⟨(by show 1 <= _; decide), ?_⟩
 have G := MA (t := t) hL
 have gp0 := G.p []
 rw [append_nil] at gp0
 have gp := G.p
 have gl0 := G.l0
 have gl := G.l
 have sl0 := G.sl0
 have hw : t.w <= 36 := by have := hS.n12; have := hS.m24; unfold Tab.w; omega
 have hl := b9 (L := L) hS.bas
 have i1 : w64 ((t.w : Int) + 1) = (t.w : Int) + 1 := aT (by unfold I64; omega)
 simp [argsρ, ai]
 refine aA uA ae [.pure, .pure, .pure, .read, .pure, .pure, .pure, .read, .pure, .pure, .eff, .pure] [[],[0],[0,1],[1,0,2],[],[4],[4,5],[5,4,6],[6,4,5,7,2,0,1,3],[3,1,0,2,7,5,4,6,8],[8,6,4,5,7,2,0,1,3,9],[9,3,1,0,2,7,5,4,6,8,10]] (by kernel_rfl) (by kernel_rfl) (by kernel_rfl) (by kernel_rfl) ?_
 simp [gp0, hl, j8, j3, ai, y5 hS, i1]
 have e0 : ao L t K ++ [⟨35, 2, List.replicate (t.w + 1) [.int .i64 0, .int .i64 0], true, true⟩] = ao L t K ++ [R2B (dM 0 (λ _ => F01) (List.replicate (t.w + 1) F00))] := by rw [kq]; unfold R2B; rw [D0]; rfl
 refine ⟨⟨by omega, by omega, by omega⟩, ?_⟩
 refine aB uA ae [1] (λ k : Nat => ⟨[(3, .own K.length (t.w + 1)), (17, .int .i64 ((t.w : Int) + 1)), (18, .int .i64 k)], ao L t K ++ [R2B (dM k (λ _ => F01) (List.replicate (t.w + 1) F00))]⟩) (λ k => k <= t.w + 1) (λ k => t.w + 1 - k) (by kernel_rfl) ⟨0, by simp, ag (by simp) e0⟩ (λ k hk => ?_)
 have hm := aP k (λ _ => F01) (List.replicate (t.w + 1) F00)
 rw [List.length_replicate] at hm
 by_cases hkl : k < t.w + 1
 ·have hkl' : (k : Int) < (t.w : Int) + 1 := by omega
  have i2 : I64 ((k : Int) + 1) := by unfold I64; omega
  simp [R2B, ai, gl0, sl0, hkl', hkl, hm, i2, aa]
  refine ⟨k + 1, by omega, by omega, ag (by simp) ?_⟩
  rw [lH (g := λ _ => F01) (v := F01) rfl (by rw [List.length_replicate]; exact hkl)]
 ·have hke : k = t.w + 1 := by omega
  subst hke
  rw [M4]
  simp [ai]
  exact KS hL (by simp [R2B]) (by simp [AV.cleanF, AV.clean2, AV.clean1])
def lk (t : Tab) (s : Int) (low : Fr) (k : Nat) (r : Fr) : Prop := s < 0 ∨ jv r low < 0 ∨ (jv r low = 0 /\ ix t.basis k < ix t.basis s.toNat)
instance (t : Tab) (s : Int) (low : Fr) (k : Nat) (r : Fr) : Decidable (lk t s low k r) := inferInstanceAs (Decidable (_ ∨ _ ∨ (_ /\ _)))
def lvK (t : Tab) (j : Nat) : Nat -> Option (Int × Fr)
 | 0 => some (-1, F00)
 | k + 1 => match lvK t j k with
  | none => none
  | some (s, low) => if (ix (ix t.rows k) j).N <= 0 then some (s, low) else match pg (ix (ix t.rows k) t.w) (ix (ix t.rows k) j) with
   | none => none
   | some r => if lk t s low k r then some ((k : Int), r) else some (s, low)
theorem zF {t : Tab} {j k : Nat} (h : lvK t j k = none) : ∀ n, lvK t j (k + n) = none
 | 0 => h
 | n + 1 => by
  show lvK t j ((k + n) + 1) = none
  unfold lvK
  rw [zF h n]
theorem Kt {t : Tab} {j : Nat} : ∀ {k : Nat} {s : Int} {low : Fr}, lvK t j k = some (s, low) -> s = -1 ∨ (0 <= s /\ s < k)
 | 0, s, low, h => by unfold lvK at h; injection h with h; injection h with h1 h2; exact .inl h1.symm
 | k + 1, s, low, h => by
  unfold lvK at h
  cases h1 : lvK t j k with
  | none => rw [h1] at h; cases h
  | some p =>
   obtain ⟨s', low'⟩ := p
   have ih := Kt h1
   rw [h1] at h
   simp only at h
   split at h
   ·injection h with h; injection h with h2 h3; omega
   ·split at h
    ·cases h
    ·split at h
     ·injection h with h; injection h with h2 h3; omega
     ·injection h with h; injection h with h2 h3; omega
theorem tV {t : Tab} {j k : Nat} {s : Int} {low : Fr} (h : lvK t j k = some (s, low)) : lvK t j (k + 1) = if (ix (ix t.rows k) j).N <= 0 then some (s, low) else match pg (ix (ix t.rows k) t.w) (ix (ix t.rows k) j) with
   | none => none
   | some r => if lk t s low k r then some ((k : Int), r) else some (s, low) := by
 conv => { lhs; unfold lvK; rw [h] }
def cH (t : Tab) (j : Nat) : Int × Bool := match lvK t j t.m with
 | none => (-1, true)
 | some (s, _) => (s, false)
def aJ : Lay -> Tab -> Nat -> List AV := λ _ _ i => [.int .i64 i]
def D9 := ve aJ (λ _ t j => j < t.w) (λ t j => .int .i64 (cH t j).1) (λ t j => orT t (cH t j).2)
theorem Qq : TabOK aJ (λ _ t j => j < t.w) (λ t j => orT t (cH t j).2) where
 inj := λ {L t K x x'} _ _ _ _ e => by
  unfold aJ at e
  simp only [List.cons.injEq, AV.int.injEq, and_true, true_and] at e
  omega
 rows := λ s _ => s.m
theorem Hx {L : Lay} {K : List Blk} {t : Tab} (hL : Lens L K) (hS : Shape L t) {j : Nat} (hj : j < t.w) (X : List Blk) (hX : ∀ b ∈ X, b.deep = true) : D9 [.ptr L.p 1 29 0 0, .int .i64 j] (ao L t K ++ X) = some (True, .int .i64 (cH t j).1, ao L (orT t (cH t j).2) K ++ X) :=
 gk Qq (x := j) hL hS hj X hX
theorem b8 {L : Lay} {N k : Nat} (h : k < L.r.length) : kw (L.r.map λ l => [AV.own l N]) k = [.own (ix L.r k) N] := by
 rw [gt (by simpa using h), List.getElem_map, az h]
noncomputable def CLv : Ctx := mkC prog G0 [(151, .pure oE), (152, .pure rQ)]
@[simp] theorem Zt : CLv.P = prog := rfl
@[simp] theorem YK : CLv.G = G0 := rfl
@[simp] theorem Zl : CLv.S 151 = .pure oE /\ CLv.S 152 = .pure rQ := ⟨rfl, rfl⟩
theorem ot : au CLv := ap (Uh) func151 (ap (WQ) func152 (ak _ _))
theorem QN : jM prog G0 131 D9 := by
 refine bP (C := CLv) ot ae [7, 12, 13] func131 rfl rfl rfl (by kernel_rfl) (λ avs H ob r H' hp hob => ?_)
 obtain ⟨L, t, K, j, hL, hS, hj, rfl, rfl, rfl, rfl⟩ := jj hp
 clear hp hob ob
 refine ⟨(by show 2 <= _; decide), ?_⟩
 simp only [aJ]
 have G := fq hL hS
 have gp := G.p
 have gq := G.q
 have gr := G.r
 have gl0 := G.l0
 have gl := G.l
 have sl0 := G.sl0
 have sl := G.sl
 have bs := hS.bas
 have hr := hS.r
 have hw : t.w <= 36 := by have := hS.n12; have := hS.m24; unfold Tab.w; omega
 have h24 := hS.m24
 have hl := b9 (L := L) bs
 have sp := λ X => G.sp X { t with over := true } rfl rfl rfl
 have ts := Ks (L := L) bs true
 simp [argsρ, ai, gp, gq, hl, jz, hr]
 refine aB ot ae [7, 12, 13] (λ q : Nat × Int × Fr × List Blk => ⟨[(0, .ptr L.p 1 29 0 0), (1, .int .i64 j), (4, .int .i64 0), (5, .int .i64 q.2.1), (6, .ptr K.length 1 2 0 0), (15, .own L.q t.m), (16, .int .i64 t.m), (17, .int .i64 q.1)], ao L t K ++ (FB q.2.2.1 :: q.2.2.2)⟩) (λ q => q.1 <= t.m /\ lvK t j q.1 = some (q.2.1, q.2.2.1)) (λ q => t.m - q.1) (by kernel_rfl) ⟨(0, -1, F00, []), ⟨by simp, rfl⟩, ag (by simp) (by simp [FB, F00])⟩ (λ ⟨k, s, low, Z⟩ ⟨hk, hv⟩ => ?_)
 simp only at hk hv ⊢
 by_cases hkl : k < t.m
 ·have hkl' : (k : Int) < (t.m : Int) := by omega
  have i2 : I64 ((k : Int) + 1) := by unfold I64; omega
  have hkr : k < L.r.length := by omega
  have hrow : (ix t.rows k).length = t.w + 1 := hS.row _ (aq (by rw [hS.m]; exact hkl))
  have grk := λ X => gr X k hkl
  have hjw : j < t.w + 1 := by omega
  have hvS := tV hv
  by_cases hN : (ix (ix t.rows k) j).N <= 0
  ·rw [if_pos hN] at hvS
   simp [FB, ai, gl0, gl, hkl, gq, hr, hkr, b8, grk, hrow, hjw, aa, hN, i2]
   exact ⟨by omega, k + 1, s, low, ⟨by omega, hvS⟩, by omega, Z, ag (by simp) rfl⟩
  rw [if_neg hN] at hvS
  simp [FB, ai, gl0, gl, hkl, gq, hr, hkr, b8, grk, hrow, hjw, aa, hN]
  refine ⟨by omega, ?_⟩
  have em := FG (ix (ix t.rows k) t.w) (ix (ix t.rows k) j)
  have hww := mK hS
  have htw : t.w < t.w + 1 := by omega
  refine aA ot ae [.pure, .pure, .pure, .pure, .read, .pure, .pure, .pure, .read, .pure, .pure, .read, .pure, .pure, .pure, .read, .read, .pure, .pure, .pure, .eff, .eff, .pure] [[],[],[1],[1,2],[2,1,3],[],[5],[5,6],[6,5,7],[7,5,6,8,3,1,2,4],[4,2,1,3,8,6,5,7,9,0],[0,9,7,5,6,8,3,1,2,4,10],[],[],[13,12],[12,13,14],[14,13,12,15,10,4,2,1,3,8,6,5,7,9,0,11],[11,0,9,7,5,6,8,3,1,2,4,10,15,12,13,14,16],[16,14,13,12,15,10,4,2,1,3,8,6,5,7,9,0,11,17],[16,14,13,12,15,10,4,2,1,3,8,6,5,7,9,0,11,17],[],[17,11,0,9,7,5,6,8,3,1,2,4,10,15,12,13,14,16,18,20],[20,18,21,17,11,0,9,7,5,6,8,3,1,2,4,10,15,12,13,14,16,19]] (by kernel_rfl) (by kernel_rfl) (by kernel_rfl) (by kernel_rfl) ?_
  cases hd : pg (ix (ix t.rows k) t.w) (ix (ix t.rows k) j) with
  | none =>
   rw [hd] at hvS em
   simp [FB, ai, gl0, gl, sl0, sl, gp, hl, j8, j3, hww, grk, hrow, hjw, htw, aa, oE, em, ofO, F00, sp, ts]
   have e1 : cH t j = (-1, true) := by
    unfold cH
    have := zF hvS (t.m - (k + 1))
    rw [show k + 1 + (t.m - (k + 1)) = t.m by omega] at this
    rw [this]
   rw [e1, lY]
   exact ⟨by omega, by omega, rfl, fi hL (by simp [AV.cleanF, AV.clean2, AV.clean1])⟩
  | some r =>
   rw [hd] at hvS em
   simp [FB, ai, gl0, gl, sl0, sl, gp, hl, j8, j3, hww, grk, hrow, hjw, htw, aa, oE, rQ, em, ofO]
   refine ⟨by omega, by omega, ?_⟩
   simp only at hvS
   obtain ⟨c, hc⟩ : ∃ c, jv r low = c := ⟨_, rfl⟩
   have hb24 : k < 24 := by omega
   have hbk := Kx (L := L) bs hb24
   have hL1 : ∀ {s : Int}, s < 0 -> lk t s low k r := λ h => .inl h
   have hL2 : ∀ {s : Int}, c < 0 -> lk t s low k r := λ h => .inr (.inl (by rw [hc]; exact h))
   have hL3 : ∀ {n : Nat}, c = 0 -> ix t.basis k < ix t.basis n -> lk t n low k r := λ h h' => .inr (.inr ⟨by rw [hc]; exact h, by rw [Int.toNat_natCast]; exact h'⟩)
   have hL4 : ∀ {n : Nat}, ¬ c < 0 -> (c = 0 -> ¬ ix t.basis k < ix t.basis n) -> ¬ lk t n low k r := λ h h' => by
    unfold lk
    rw [hc, Int.toNat_natCast]
    rintro (h1 | h1 | ⟨h1, h2⟩)
    ·omega
    ·exact h h1
    ·exact h' h1 h2
   simp only [hc]
   refine aA ot ae [.pure, .pure, .pure, .pure, .pure, .pure, .pure, .pure, .pure, .pure, .pure, .pure, .pure, .pure, .pure, .read, .pure, .pure, .pure, .pure, .pure, .read, .pure, .pure, .pure] [[],[0],[0,1],[1,0,2],[2,0,1,3],[3,4,1,0,2],[2,0,1,4,3,5],[5,3,4,1,0,2,6],[6,2,0,1,4,3,5,7],[7,5,3,4,1,0,2,6,8],[8,6,2,0,1,4,3,5,7,9],[8,6,2,0,1,4,3,5,7,9],[9,7,5,3,4,1,0,2,6,8,10],[10,8,6,2,0,1,4,3,5,7,9,12],[11,12,9,7,5,3,4,1,0,2,6,8,10,13],[13,10,8,6,2,0,1,4,3,5,7,9,12,11,14],[8,6,2,0,1,4,3,5,7,9],[8,6,2,0,1,4,3,5,7,9],[9,7,5,3,4,1,0,2,6,8,16],[16,8,6,2,0,1,4,3,5,7,9,18],[17,18,9,7,5,3,4,1,0,2,6,8,16,19],[19,16,8,6,2,0,1,4,3,5,7,9,18,17,20],[20,17,18,16,19,21,14,11,12,9,7,5,3,4,1,0,2,6,8,10,13,15],[15,13,10,12,11,14,21,19,16,18,17,20,22,8,6,2,0,1,4,3,5,7,9],[9,7,8,22,20,17,18,16,19,21,14,11,12,10,13,15,23,5,3,4,1,0,2,6]] (by kernel_rfl) (by kernel_rfl) (by kernel_rfl) (by kernel_rfl) ?_
   rcases Kt hv with hs | ⟨hs, hsk⟩
   ·subst hs
    rw [if_pos (hL1 (by decide))] at hvS
    simp
    refine aA ot ae [.pure, .read, .pure, .eff] [[],[],[0],[0,2,1]] (by kernel_rfl) (by kernel_rfl) (by kernel_rfl) (by kernel_rfl) ?_
    simp [FB, ai, gl0, gl, sl0, sl, i2]
    exact ⟨k + 1, k, r, ⟨by omega, hvS⟩, by omega, Z ++ [FB r], ag (by simp) (by simp [FB])⟩
   ·obtain ⟨sn, rfl⟩ : ∃ n : Nat, s = n := ⟨s.toNat, by omega⟩
    have hns : ¬ ((sn : Int) < 0) := by omega
    have hs24 : sn < 24 := by omega
    have hbs := Kx (L := L) bs hs24
    rcases Int.lt_trichotomy c 0 with h1 | h1 | h1
    ·rw [if_pos (hL2 h1)] at hvS
     simp [h1, hns]
     refine aA ot ae [.pure, .read, .pure, .eff] [[],[],[0],[0,2,1]] (by kernel_rfl) (by kernel_rfl) (by kernel_rfl) (by kernel_rfl) ?_
     simp [FB, ai, gl0, gl, sl0, sl, i2]
     exact ⟨k + 1, k, r, ⟨by omega, hvS⟩, by omega, Z ++ [FB r], ag (by simp) (by simp [FB])⟩
    ·subst h1
     by_cases h2 : ix t.basis k < ix t.basis sn
     ·rw [if_pos (hL3 rfl h2)] at hvS
      simp [hns, gp, hl, hbk, hbs, hb24, hs24, h2]
      refine ⟨by omega, by omega, by omega, by omega, ?_⟩
      refine aA ot ae [.pure, .read, .pure, .eff] [[],[],[0],[0,2,1]] (by kernel_rfl) (by kernel_rfl) (by kernel_rfl) (by kernel_rfl) ?_
      simp [FB, ai, gl0, gl, sl0, sl, i2]
      exact ⟨k + 1, k, r, ⟨by omega, hvS⟩, by omega, Z ++ [FB r], ag (by simp) (by simp [FB])⟩
     ·rw [if_neg (hL4 (by omega) (λ _ => h2))] at hvS
      simp [hns, gp, hl, hbk, hbs, hb24, hs24, h2, i2]
      refine ⟨by omega, by omega, by omega, by omega, ?_⟩
      exact ⟨k + 1, sn, low, ⟨by omega, hvS⟩, by omega, Z ++ [FB r], ag (by simp) (by simp [FB])⟩
    ·have h3 : ¬ c < 0 := by omega
     have h4 : ¬ c = 0 := by omega
     rw [if_neg (hL4 (by omega) (λ h => absurd h h4))] at hvS
     simp [hns, h3, h4, i2]
     exact ⟨k + 1, sn, low, ⟨by omega, hvS⟩, by omega, Z ++ [FB r], ag (by simp) (by simp [FB])⟩
 ·have hke : k = t.m := by omega
  subst hke
  have e1 : cH t j = (s, false) := by unfold cH; rw [hv]
  rw [e1, iD]
  simp [ai]
  exact fi hL (by simp [AV.cleanF, AV.clean2, AV.clean1])
theorem og {L : Lay} {K : List Blk} {t : Tab} (hL : Lens L K) (hS : Shape L t) {g : Option Nat} {f : Fr} {i : Nat} (hp : PreClr L t ⟨g, f, i⟩) (X : List Blk) (hX : ∀ b ∈ X, b.deep = true) : kT [.ptr L.p 1 29 0 0, .own (ya L g) (t.w + 1), .agg [.int .i64 f.N, .int .i64 f.D], .own (ix L.r i) (t.w + 1)] (ao L t K ++ X) = some (True, .tup [], ao L (ky t ⟨g, f, i⟩) K ++ X) :=
 gk LT (x := ⟨g, f, i⟩) hL hS hp X hX
section
variable {t : Tab}
theorem xz (x : ClrX) (k : Nat) : (ei t x k).n = t.n := by unfold ei; cases x.tgt <;> rfl
theorem xw (x : ClrX) (k : Nat) : (ei t x k).m = t.m := by unfold ei; cases x.tgt <;> rfl
theorem pR (x : ClrX) (k : Nat) : (ei t x k).basis = t.basis := by unfold ei; cases x.tgt <;> rfl
theorem nf (x : ClrX) (k : Nat) : (ei t x k).cost.length = t.cost.length := by
 unfold ei
 cases h : x.tgt with
 | none => exact aP _ _ _
 | some q => rfl
def pvK (t : Tab) (i j k : Nat) : Tab := orT (gj t (some i) (dM k (λ c => (dvP (ix (ix t.rows i) c) (ix (ix t.rows i) j)).1) (ix t.rows i))) (fF k λ c => (dvP (ix (ix t.rows i) c) (ix (ix t.rows i) j)).2)
def jb (t : Tab) (i j r : Nat) : Tab := if r ≠ i /\ (ix (ix t.rows r) j).N ≠ 0 then ky t ⟨some r, ix (ix t.rows r) j, i⟩ else t
def br (t : Tab) (i j : Nat) : Nat -> Tab
 | 0 => t
 | k + 1 => jb (br t i j k) i j k
def gJ (t : Tab) (i j : Nat) : Tab := if t.cost ≠ [] /\ (ix t.cost j).N ≠ 0 then ky t ⟨none, ix t.cost j, i⟩ else t
def cO (t : Tab) (i j : Nat) : Tab := gJ (br (pvK t i j (t.w + 1)) i j t.m) i j
def iW (t : Tab) (i j : Nat) : Tab := { cO t i j with basis := (cO t i j).basis.set i j }
theorem mG (i j k : Nat) : (pvK t i j k).m = t.m := rfl
theorem LA (i j r : Nat) : (jb t i j r).n = t.n := by unfold jb; split; exact xz _ _; rfl
theorem Mo (i j r : Nat) : (jb t i j r).m = t.m := by unfold jb; split; exact xw _ _; rfl
theorem Hm (i j r : Nat) : (jb t i j r).basis = t.basis := by unfold jb; split; exact pR _ _; rfl
theorem B6 (i j r : Nat) : (jb t i j r).cost.length = t.cost.length := by unfold jb; split; exact nf _ _; rfl
theorem pN (i j : Nat) : ∀ k, (br t i j k).n = t.n
 | 0 => rfl
 | k + 1 => (LA i j k).trans (pN i j k)
theorem dH (i j : Nat) : ∀ k, (br t i j k).m = t.m
 | 0 => rfl
 | k + 1 => (Mo i j k).trans (dH i j k)
theorem wh (i j : Nat) : ∀ k, (br t i j k).basis = t.basis
 | 0 => rfl
 | k + 1 => (Hm i j k).trans (wh i j k)
theorem nZ (i j : Nat) : ∀ k, (br t i j k).cost.length = t.cost.length
 | 0 => rfl
 | k + 1 => (B6 i j k).trans (nZ i j k)
theorem Ll (i j : Nat) : (gJ t i j).n = t.n := by unfold gJ; split; exact xz _ _; rfl
theorem LG (i j : Nat) : (gJ t i j).m = t.m := by unfold gJ; split; exact xw _ _; rfl
theorem Gb (i j : Nat) : (gJ t i j).basis = t.basis := by unfold gJ; split; exact pR _ _; rfl
theorem CF (i j : Nat) : (gJ t i j).cost.length = t.cost.length := by unfold gJ; split; exact nf _ _; rfl
theorem JY (i j : Nat) : (iW t i j).n = t.n := by show (cO t i j).n = t.n; unfold cO; rw [Ll, pN]; rfl
theorem Dx (i j : Nat) : (iW t i j).m = t.m := by show (cO t i j).m = t.m; unfold cO; rw [LG, dH]; rfl
theorem FX (i j : Nat) : (iW t i j).cost.length = t.cost.length := by show (cO t i j).cost.length = _; unfold cO; rw [CF, nZ]; rfl
end
section
variable {L : Lay} {t : Tab}
theorem kI (hS : Shape L t) {i : Nat} (hi : i < t.m) (j k : Nat) : Shape L (pvK t i j k) :=
 kk (vw hS (λ h => by cases h) (by rw [aP]; exact hS.row _ (aq (by rw [hS.m]; exact hi)))) _
theorem qp {i j r : Nat} (hr : r < t.m) (hi : i < t.m) (h : r ≠ i) (f : Fr) : PreClr L t ⟨some r, f, i⟩ := ⟨hi, λ k hk => by injection hk with hk; subst hk; exact ⟨hr, h⟩, λ h => by cases h⟩
theorem zQ (hS : Shape L t) {i r : Nat} (hi : i < t.m) (hr : r < t.m) (j : Nat) : Shape L (jb t i j r) := by
 unfold jb
 split
 ·rename_i h
  exact js hS (qp (j := j) hr hi h.1 _) _
 ·exact hS
theorem gI (hS : Shape L t) {i : Nat} (hi : i < t.m) (j : Nat) : ∀ {k}, k <= t.m -> Shape L (br t i j k)
 | 0, _ => hS
 | k + 1, h => zQ (gI hS hi j (by omega)) (by rw [dH]; exact hi) (by rw [dH]; omega) j
theorem qD {i : Nat} (hS : Shape L t) (hi : i < t.m) (h : t.cost ≠ []) (f : Fr) : PreClr L t ⟨none, f, i⟩ := ⟨hi, λ k hk => (by cases hk), λ _ => (hS.cost.resolve_left (λ h' => h h'.2)).2⟩
theorem AX (hS : Shape L t) {i : Nat} (hi : i < t.m) (j : Nat) : Shape L (gJ t i j) := by
 unfold gJ
 split
 ·rename_i h
  exact js hS (qD hS hi h.1 _) _
 ·exact hS
theorem rj (hS : Shape L t) {i : Nat} (hi : i < t.m) (j : Nat) : Shape L (cO t i j) :=
 AX (gI (kI hS hi j _) hi j (by rw [mG]; exact le_refl _)) (by rw [dH]; exact hi) j
theorem Hd (hS : Shape L t) (i : Nat) {j : Int} (h : 0 <= j /\ j <= 1000) : Shape L { t with basis := t.basis.set i j } :=
 ⟨hS.m, hS.r, hS.n1, hS.n12, hS.m24, hS.row, hS.cost, by show (t.basis.set i j).length = 24; rw [length_set]; exact hS.bas, λ b hb => (mem_or_eq_of_mem_set hb).elim (hS.b64 b) (λ e => by rw [e]; exact h)⟩
theorem fO (hS : Shape L t) : t.w <= 36 := by
 have := hS.n12
 have := hS.m24
 unfold Tab.w
 omega
theorem iY (hS : Shape L t) {i j : Nat} (hi : i < t.m) (hj : j < t.w) : Shape L (iW t i j) := Hd (rj hS hi j) i (by have := fO hS; omega)
end
structure PrePiv (L : Lay) (t : Tab) (x : Nat × Nat) : Prop where
 i : x.1 < t.m
 j : x.2 < t.w
def aIJ : Lay -> Tab -> Nat × Nat -> List AV := λ _ _ x => [.int .i64 x.1, .int .i64 x.2]
def HB := ve aIJ PrePiv (λ _ _ => .tup []) (λ t x => iW t x.1 x.2)
theorem Ul : TabOK aIJ PrePiv (λ t x => iW t x.1 x.2) where
 inj := λ {L t K x x'} _ _ _ _ e => by
  obtain ⟨a, b⟩ := x
  obtain ⟨a', b'⟩ := x'
  unfold aIJ at e
  simp only [List.cons.injEq, AV.int.injEq, and_true, true_and] at e
  obtain ⟨e1, e2⟩ := e
  congr 1 <;> omega
 rows := λ {L t x} s h => by rw [(iY s h.i h.j).m, Dx]
theorem Ah {L : Lay} {K : List Blk} {t : Tab} (hL : Lens L K) (hS : Shape L t) {i j : Nat} (hi : i < t.m) (hj : j < t.w) (X : List Blk) (hX : ∀ b ∈ X, b.deep = true) : HB [.ptr L.p 1 29 0 0, .int .i64 i, .int .i64 j] (ao L t K ++ X) = some (True, .tup [], ao L (iW t i j) K ++ X) :=
 gk Ul (x := (i, j)) hL hS ⟨hi, hj⟩ X hX
theorem Jb (a p : Fr) : dvP a p = match pg a p with
 | some q => (q, false)
 | none => (F01, true) := rfl
theorem HT {t : Tab} (i j : Nat) : pvK t i j 0 = t := by
 unfold pvK
 rw [kq, qY, iD]
 show { t with rows := t.rows.set i (ix t.rows i) } = t
 by_cases hq : i < t.rows.length
 ·rw [az hq, List.set_getElem_self]
 ·rw [List.set_eq_of_length_le (by omega)]
theorem L9 {L : Lay} {t : Tab} (hS : Shape L t) {i : Nat} (hi : i < t.m) (j k : Nat) : ix (pvK t i j k).rows i = dM k (λ c => (dvP (ix (ix t.rows i) c) (ix (ix t.rows i) j)).1) (ix t.rows i) := by
 show ix (t.rows.set i _) i = _
 rw [az (by rw [length_set, hS.m]; exact hi), List.getElem_set_self]
theorem Ji {L : Lay} {t : Tab} (hS : Shape L t) {i j k : Nat} (hi : i < t.m) (hk : k < t.w + 1) :
  gj (orT (pvK t i j k) (dvP (ix (ix t.rows i) k) (ix (ix t.rows i) j)).2) (some i) ((dM k (λ c => (dvP (ix (ix t.rows i) c) (ix (ix t.rows i) j)).1) (ix t.rows i)).set k (dvP (ix (ix t.rows i) k) (ix (ix t.rows i) j)).1) = pvK t i j (k + 1) := by
 have hrow : (ix t.rows i).length = t.w + 1 := hS.row _ (aq (by rw [hS.m]; exact hi))
 rw [lH (g := λ c => (dvP (ix (ix t.rows i) c) (ix (ix t.rows i) j)).1) (v := (dvP (ix (ix t.rows i) k) (ix (ix t.rows i) j)).1) rfl (by rw [hrow]; exact hk)]
 unfold pvK
 rw [mN]
 unfold gj orT
 simp [Bool.or_assoc]
section
variable {L : Lay} {t : Tab} {K : List Blk} (G : GetT L t K)
include G
theorem GetT.p0 : (ao L t K)[L.p]? = some ⟨118, 29, [tC L t], true, false⟩ := by have := G.p []; rwa [append_nil] at this
theorem GetT.q0 : (ao L t K)[L.q]? = some ⟨28, 1, L.r.map λ l => [.own l (t.w + 1)], true, false⟩ := by have := G.q []; rwa [append_nil] at this
theorem GetT.c0 {c : Nat} (hc : L.c = some c) : (ao L t K)[c]? = some ⟨35, 2, ac t.cost, true, true⟩ := by have := G.c [] c hc; rwa [append_nil] at this
theorem GetT.r0 {i : Nat} (hi : i < t.m) : (ao L t K)[ix L.r i]? = some ⟨35, 2, ac (ix t.rows i), true, true⟩ := by have := G.r [] i hi; rwa [append_nil] at this
end
theorem yr {L : Lay} {t V : Tab} {K : List Blk} {i j : Nat} (hL : Lens L K) (hS : Shape L V) (hi : i < 24) (hV : cO t i j = V) (Z : List Blk) :
  pj K.length ((ao L V K ++ Z).set L.p ⟨118, 29, [List.take (4 + i) (tC L V) ++ AV.int .i64 j :: List.drop (4 + i + 1) (tC L V)], true, false⟩) (AV.tup []) (ao L (iW t i j) K) := by
 rw [Ju hS.bas hi j, (fq hL hS).sp Z { V with basis := V.basis.set i j } rfl rfl rfl]
 have : iW t i j = { V with basis := V.basis.set i j } := by rw [<- hV]; rfl
 rw [this]
 exact fi hL (by simp [AV.cleanF, AV.clean2, AV.clean1])
noncomputable def CPv : Ctx := mkC prog G0 [(151, .pure oE), (64, .pure (dA (Enc.enc F01))), (101, .gen kT)]
@[simp] theorem XS : CPv.P = prog := rfl
@[simp] theorem Xc : CPv.G = G0 := rfl
@[simp] theorem X5 : CPv.S 151 = .pure oE /\ CPv.S 64 = .pure (dA (Enc.enc F01)) /\ CPv.S 101 = .gen kT := ⟨rfl, rfl, rfl⟩
theorem n9 : au CPv := ap (Uh) func151 (ap (Ex) func64 (aL (bM (xU) func101 rfl (by decide)) (ak _ _)))
theorem Ol : jM prog G0 132 HB := by
 refine bP (C := CPv) n9 ae [8, 15, 18] func132 rfl rfl rfl (by kernel_rfl) (λ avs H ob r H' hp hob => ?_)
 obtain ⟨L, t, K, ⟨i, j⟩, hL, hS, ⟨hi, hj⟩, rfl, rfl, rfl, rfl⟩ := jj hp
 clear hp hob ob
 refine ⟨(by show 3 <= _; decide), ?_⟩
 simp only at hi hj
 simp only [aIJ]
 have G := fq hL hS
 have gp := G.p
 have gq := G.q
 have gri := λ X => G.r X i hi
 have hl := b9 (L := L) hS.bas
 have hr := hS.r
 have hw := fO hS
 have hir : i < L.r.length := by omega
 have hjw : j < t.w + 1 := by omega
 have h24 := hS.m24
 have hrow : (ix t.rows i).length = t.w + 1 := hS.row _ (aq (by rw [hS.m]; exact hi))
 have gp0 := G.p0
 have gq0 := G.q0
 have gri0 := G.r0 hi
 simp [argsρ, ai, gp, gq, gp0, gq0, gri0, hl, jz, hr, hi, hir, b8, gri, hrow, hjw, aa]
 refine ⟨by omega, ?_⟩
 have hS1 := λ k => kI hS hi j k
 refine aB n9 ae [8, 15, 18] (λ q : Nat × List Blk => ⟨[(0, .ptr L.p 1 29 0 0), (1, .int .i64 i), (2, .int .i64 j), (6, .ptr K.length 1 2 0 0), (30, .own (ix L.r i) (t.w + 1)), (31, .int .i64 ((t.w : Int) + 1)), (32, .int .i64 q.1)], ao L (pvK t i j q.1) K ++ (FB (ix (ix t.rows i) j) :: q.2)⟩) (λ q => q.1 <= t.w + 1 /\ ∀ b ∈ q.2, b.deep = true) (λ q => t.w + 1 - q.1) (by kernel_rfl) ⟨(0, []), ⟨by simp, by simp⟩, ag (by simp) (by rw [HT]; rfl)⟩ (λ ⟨k, Z⟩ ⟨hk, hZ⟩ => ?_)
 simp only at hk hZ ⊢
 by_cases hkl : k < t.w + 1
 ·have hkl' : (k : Int) < (t.w : Int) + 1 := by omega
  have i2 : I64 ((k : Int) + 1) := by unfold I64; omega
  have hstep := Ji hS (j := j) hi hkl
  obtain ⟨g, hg⟩ : ∃ g, (λ c => (dvP (ix (ix t.rows i) c) (ix (ix t.rows i) j)).1) = g := ⟨_, rfl⟩
  have hR := L9 hS hi j k
  rw [hg] at hR hstep
  have hmx := eM (k := k) (g := g) (show k < (ix t.rows i).length by omega)
  rw [if_neg (lt_irrefl k)] at hmx
  have hml := aP k g (ix t.rows i)
  have hm1 : (pvK t i j k).m = t.m := rfl
  have hw1 : (pvK t i j k).w = t.w := rfl
  obtain ⟨T, hT⟩ : ∃ T, pvK t i j k = T := ⟨_, rfl⟩
  have hST := hS1 k
  rw [hT] at hR hm1 hw1 hST hstep
  rw [hT]
  have G1 := fq hL hST
  have p1 := G1.p
  have q1 : ∀ X, (ao L T K ++ X)[L.q]? = some ⟨28, 1, L.r.map λ l => [.own l (t.w + 1)], true, false⟩ := λ X => by rw [G1.q X, hw1]
  have r1 : ∀ X, (ao L T K ++ X)[ix L.r i]? = some ⟨35, 2, ac (dM k g (ix t.rows i)), true, true⟩ := λ X => by rw [G1.r X i (by omega), hR]
  have l1 := G1.l0
  have m1 := G1.l
  have sl1 := G1.sl0
  have sm1 := G1.sl
  have n1 := b9 (L := L) hST.bas
  have sr1 := G1.sr
  have hj0 : ix (ix t.rows i) j = ix (ix t.rows i) j := rfl
  have em := FG (ix (ix t.rows i) k) (ix (ix t.rows i) j)
  cases hd : pg (ix (ix t.rows i) k) (ix (ix t.rows i) j) with
  | none =>
   have e1 : dvP (ix (ix t.rows i) k) (ix (ix t.rows i) j) = (F01, true) := by rw [Jb, hd]
   rw [hd] at em
   rw [e1] at hstep
   simp only at hstep
   have hSo := kk hST true
   have G2 := fq hL hSo
   have p2 := G2.p
   have q2 : ∀ X, (ao L (orT T true) K ++ X)[L.q]? = some ⟨28, 1, L.r.map λ l => [.own l (t.w + 1)], true, false⟩ := λ X => by rw [G2.q X, <- hw1]; rfl
   have r2 : ∀ X, (ao L (orT T true) K ++ X)[ix L.r i]? = some ⟨35, 2, ac (dM k g (ix t.rows i)), true, true⟩ := λ X => by rw [G2.r X i (show i < T.m by omega), <- hR]; rfl
   have l2 := G2.l0
   have m2 := G2.l
   have sl2 := G2.sl0
   have sm2 := G2.sl
   have n2 := b9 (L := L) hSo.bas
   have sp : ∀ X, (ao L T K ++ X).set L.p ⟨118, 29, [tC L (orT T true)], true, false⟩ = ao L (orT T true) K ++ X := λ X => G1.sp X (orT T true) rfl rfl rfl
   have ts : List.take 28 (tC L T) ++ AV.bool true :: List.drop 29 (tC L T) = tC L (orT T true) := by rw [Ks hST.bas true, lY]
   have hstep2 := λ X => (G2.sr X i ((dM k g (ix t.rows i)).set k F01) (show i < T.m by omega)).trans (congrArg (λ u => ao L u K ++ X) hstep)
   simp [FB, ai, hkl', hkl, r1, hml, hrow, hmx, aa, p1, l1, m1, sl1, sm1, n1, oE, em, ofO, F00, sp, ts, l2, m2, sl2, sm2]
   refine aA n9 ae [.pure, .pure, .pure, .read, .pure, .pure, .read, .pure, .read, .pure, .eff] [[],[0],[0,1],[1,0,2],[],[4,2,0,1,3],[3,1,0,2,4,5],[],[],[8,7,5,4,2,0,1,3,6],[6,3,1,0,2,4,5,7,8,9]] (by kernel_rfl) (by kernel_rfl) (by kernel_rfl) (by kernel_rfl) ?_
   have hr' : L.r.length = T.m := by omega
   simp [FB, ai, p2, q2, r2, l2, m2, sl2, sm2, n2, jz, show (orT T true).m = t.m from hm1, hr, hi, hir, hkl, b8, hml, hrow, hmx, aa, i2]
   exact ⟨by omega, k + 1, Z ++ [FB (ix (ix t.rows i) k), FB F01], ⟨by omega, (by
    intro b hb
    rcases mem_append.1 hb with hb | hb
    ·exact hZ b hb
    ·simp at hb
     rcases hb with rfl | rfl <;> rfl)⟩, by omega, ag (by simp) ((hstep2 _).trans (by simp [FB]))⟩
  | some d =>
   have e1 : dvP (ix (ix t.rows i) k) (ix (ix t.rows i) j) = (d, false) := by rw [Jb, hd]
   rw [hd] at em
   rw [e1, iD] at hstep
   simp only at hstep
   have hstep2 := λ X => (G1.sr X i ((dM k g (ix t.rows i)).set k d) (show i < T.m by omega)).trans (congrArg (λ u => ao L u K ++ X) hstep)
   simp [FB, ai, hkl', hkl, r1, hml, hrow, hmx, aa, p1, l1, m1, sl1, sm1, n1, oE, em, ofO]
   refine aA n9 ae [.pure, .pure, .pure, .read, .pure, .pure, .read, .pure, .read, .pure, .eff] [[],[0],[0,1],[1,0,2],[],[4,2,0,1,3],[3,1,0,2,4,5],[],[],[8,7,5,4,2,0,1,3,6],[6,3,1,0,2,4,5,7,8,9]] (by kernel_rfl) (by kernel_rfl) (by kernel_rfl) (by kernel_rfl) ?_
   simp [FB, ai, p1, q1, r1, l1, m1, sl1, sm1, n1, jz, hm1, hr, hi, hir, hkl, b8, hml, hrow, hmx, aa, i2]
   exact ⟨by omega, k + 1, Z ++ [FB (ix (ix t.rows i) k), FB d], ⟨by omega, (by
    intro b hb
    rcases mem_append.1 hb with hb | hb
    ·exact hZ b hb
    ·simp at hb
     rcases hb with rfl | rfl <;> rfl)⟩, by omega, ag (by simp) ((hstep2 _).trans (by simp [FB]))⟩
 ·have hke : k = t.w + 1 := by omega
  subst hke
  have hST := hS1 (t.w + 1)
  have hm1 : (pvK t i j (t.w + 1)).m = t.m := rfl
  have hw1 : (pvK t i j (t.w + 1)).w = t.w := rfl
  have hcl : (pvK t i j (t.w + 1)).cost = t.cost := rfl
  obtain ⟨T, hT⟩ : ∃ T, pvK t i j (t.w + 1) = T := ⟨_, rfl⟩
  rw [hT] at hm1 hw1 hST hcl
  rw [hT]
  have G1 := fq hL hST
  have p1 := G1.p
  have q1 : ∀ X, (ao L T K ++ X)[L.q]? = some ⟨28, 1, L.r.map λ l => [.own l (t.w + 1)], true, false⟩ := λ X => by rw [G1.q X, hw1]
  have n1 := b9 (L := L) hST.bas
  simp [ai, p1, n1, jz, hr]
  refine aB n9 ae [8, 15, 18] (λ q : Nat × List Blk => ⟨[(0, .ptr L.p 1 29 0 0), (1, .int .i64 i), (2, .int .i64 j), (63, .own L.q t.m), (64, .int .i64 t.m), (65, .int .i64 q.1)], ao L (br T i j q.1) K ++ q.2⟩) (λ q => q.1 <= t.m /\ ∀ b ∈ q.2, b.deep = true) (λ q => t.m - q.1) (by kernel_rfl) ⟨(0, FB (ix (ix t.rows i) j) :: Z), ⟨by simp, by simpa [FB] using hZ⟩, ag (by simp) rfl⟩ (λ ⟨k, Z⟩ ⟨hk, hZ⟩ => ?_)
  simp only at hk hZ ⊢
  have hSU := gI hST (show i < T.m by omega) j (show k <= T.m by omega)
  have hmU := (dH (t := T) i j k).trans hm1
  have hwU : (br T i j k).w = t.w := by rw [<- hw1]; unfold Tab.w; rw [pN, dH]
  by_cases hkl : k < t.m
  ·have hkl' : (k : Int) < (t.m : Int) := by omega
   have i2 : I64 ((k : Int) + 1) := by unfold I64; omega
   have hU : br T i j (k + 1) = jb (br T i j k) i j k := rfl
   obtain ⟨U, hUU⟩ : ∃ U, br T i j k = U := ⟨_, rfl⟩
   rw [hUU] at hSU hmU hwU hU
   rw [hUU]
   have G2 := fq hL hSU
   have p2 := G2.p
   have q2 : ∀ X, (ao L U K ++ X)[L.q]? = some ⟨28, 1, L.r.map λ l => [.own l (t.w + 1)], true, false⟩ := λ X => by rw [G2.q X, hwU]
   have r2 := λ X => G2.r X k (by omega)
   have l2 := G2.l0
   have m2 := G2.l
   have sl2 := G2.sl0
   have sm2 := G2.sl
   have n2 := b9 (L := L) hSU.bas
   have hkr : k < L.r.length := by omega
   have hrk : (ix U.rows k).length = t.w + 1 := by rw [<- hwU]; exact hSU.row _ (aq (by rw [hSU.m]; omega))
   by_cases hki : k = i
   ·have hU : br T i j (k + 1) = U := by rw [hU]; exact if_neg (λ h => h.1 hki)
    subst hki
    simp [FB, ai, hkl', hkl, q2, r2, hr, hkr, b8, hrk, hjw, aa, l2, m2, sl2, sm2, i2]
    exact ⟨by omega, k + 1, Z ++ [FB (ix (ix U.rows k) j)], ⟨by omega, (by
     intro b hb
     rcases mem_append.1 hb with hb | hb
     ·exact hZ b hb
     ·rw [mem_singleton] at hb
      rw [hb]
      rfl)⟩, by omega, ag (by simp) (by rw [hU]; simp [FB])⟩
   have hki' : ¬ (k : Int) = i := by omega
   by_cases hN : (ix (ix U.rows k) j).N = 0
   ·have hU : br T i j (k + 1) = U := by rw [hU]; exact if_neg (λ h => h.2 hN)
    simp [FB, ai, hkl', hkl, q2, r2, hr, hkr, b8, hrk, hjw, aa, l2, m2, sl2, sm2, hki', hN, i2]
    exact ⟨by omega, k + 1, Z ++ [FB (ix (ix U.rows k) j)], ⟨by omega, (by
     intro b hb
     rcases mem_append.1 hb with hb | hb
     ·exact hZ b hb
     ·rw [mem_singleton] at hb
      rw [hb]
      rfl)⟩, by omega, ag (by simp) (by rw [hU]; simp [FB, hN])⟩
   have hU : br T i j (k + 1) = ky U ⟨some k, ix (ix U.rows k) j, i⟩ := by rw [hU]; exact if_pos ⟨hki, hN⟩
   simp [FB, ai, hkl', hkl, q2, r2, hr, hkr, b8, hrk, hjw, aa, l2, m2, sl2, sm2, hki', hN]
   refine ⟨by omega, ?_⟩
   have hcall := og (g := some k) (f := ix (ix U.rows k) j) (i := i) hL hSU (qp (j := j) (by omega) (by omega) hki _) (Z ++ [FB (ix (ix U.rows k) j)]) (by
     intro b hb
     rcases mem_append.1 hb with hb | hb
     ·exact hZ b hb
     ·rw [mem_singleton] at hb
      rw [hb]
      rfl)
   simp only [ya, hwU, <- hU, FB] at hcall
   have ri2 := λ X => G2.r X i (by omega)
   refine aA n9 ae [.pure, .pure, .read, .pure, .pure, .pure, .read, .pure, .pure, .read, .eff] [[],[],[],[],[3],[3,4],[4,3,5],[],[7,5,3,4,6],[6,4,3,5,7,8],[8,7,5,3,4,6,9,2,1,0]] (by kernel_rfl) (by kernel_rfl) (by kernel_rfl) (by kernel_rfl) ?_
   simp [FB, ai, p2, n2, jz, q2, hmU, hr, hi, hir, b8, l2, m2, hcall, i2]
   exact ⟨k + 1, Z ++ [FB (ix (ix U.rows k) j)], ⟨by omega, (by
     intro b hb
     rcases mem_append.1 hb with hb | hb
     ·exact hZ b hb
     ·rw [mem_singleton] at hb
      rw [hb]
      rfl)⟩, by omega, ag (by simp) (by simp [FB])⟩
  ·have hke : k = t.m := by omega
   subst hke
   have hUT : cO t i j = gJ (br T i j t.m) i j := by unfold cO; rw [hT]
   have hcU := (nZ (t := T) i j t.m).trans (congrArg List.length hcl)
   obtain ⟨U, hUU⟩ : ∃ U, br T i j t.m = U := ⟨_, rfl⟩
   rw [hUU] at hSU hmU hwU hUT hcU
   rw [hUU]
   have G2 := fq hL hSU
   have p2 := G2.p
   have q2 : ∀ X, (ao L U K ++ X)[L.q]? = some ⟨28, 1, L.r.map λ l => [.own l (t.w + 1)], true, false⟩ := λ X => by rw [G2.q X, hwU]
   have l2 := G2.l0
   have m2 := G2.l
   have c2 := G2.c
   have n2 := b9 (L := L) hSU.bas
   have h24i : i < 24 := by omega
   by_cases hc0 : U.cost = []
   ·have hV : cO t i j = U := by rw [hUT]; exact if_neg (λ h => h.1 hc0)
    have hcn : L.c = none := hSU.cost.elim (λ h => h.1) (λ h => by rw [hc0] at h; have := h.2; simp at this)
    simp [ai, p2, n2, nL, hcn, cC]
    exact ⟨by omega, by omega, yr hL hSU h24i hV Z⟩
   obtain ⟨⟨cc, hcc⟩, hcl2⟩ := hSU.cost.resolve_left (λ h => hc0 h.2)
   have c2 := λ X => c2 X cc hcc
   rw [hwU] at hcl2
   by_cases hN : (ix U.cost j).N = 0
   ·have hV : cO t i j = U := by rw [hUT]; exact if_neg (λ h => h.2 hN)
    simp [ai, p2, n2, nL, hcc, cC, hcl2, c2, hjw, aa, hN]
    exact ⟨by omega, by omega, by omega, yr hL hSU h24i hV Z⟩
   have hV : cO t i j = ky U ⟨none, ix U.cost j, i⟩ := by rw [hUT]; exact if_pos ⟨hc0, hN⟩
   have hcall := og (g := none) (f := ix U.cost j) (i := i) hL hSU (qD hSU (by omega) hc0 _) Z hZ
   simp only [ya, hwU, <- hV, hcc, Option.getD_some] at hcall
   simp [ai, p2, n2, nL, hcc, cC, hcl2, c2, hjw, aa, hN]
   refine ⟨by omega, ?_⟩
   refine aA n9 ae [.pure, .pure, .pure, .pure, .read, .pure, .pure, .pure, .read, .pure, .pure, .read, .pure, .pure, .pure, .read, .pure, .pure, .read, .eff] [[],[],[1],[1,2],[2,1,3],[],[5],[5,6],[6,5,7],[],[9,7,5,6,8],[8,6,5,7,9,10],[],[12],[12,13],[13,12,14],[],[16,14,12,13,15],[15,13,12,14,16,17],[17,16,14,12,13,15,18,10,9,7,5,6,8,11,3,1,2,4,0]] (by kernel_rfl) (by kernel_rfl) (by kernel_rfl) (by kernel_rfl) ?_
   have hSV := rj hS hi j
   obtain ⟨V, hVV⟩ : ∃ V, cO t i j = V := ⟨_, rfl⟩
   rw [hVV] at hSV hcall
   have p3 := (fq hL hSV).p
   have n3 := b9 (L := L) hSV.bas
   simp [ai, p2, n2, jz, nL, hcc, cC, hcl2, c2, q2, hmU, hr, hi, hir, b8, hjw, aa, hcall, p3, n3]
   exact ⟨by omega, by omega, by omega, yr hL hSV h24i hVV Z⟩
end
end Go.Proofs.YtfoipbjhaiimlaaGreatDoor