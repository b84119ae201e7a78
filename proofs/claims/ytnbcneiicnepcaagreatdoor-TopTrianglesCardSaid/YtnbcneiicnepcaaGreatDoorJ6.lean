/-
  Texts joined.
-/
import Derived.Test.YtnbcneiicnepcaaGreatDoorJ5
import Derived.Shelf.Strings.Search1
import Derived.Shelf.Strings.Search2
import Derived.Shelf.Strings.Search3
import Derived.Shelf.SlIter.Nil
import Derived.Shelf.SortM.Plain
import Derived.Shelf.SortM.SortNone
import Derived.Ground.GgzProg
import Derived.Ground.SlgmProg
import Derived.Test.YtnbcneiicnepcaaGreatDoorProg
import Derived.Test.YtnbcneiicnepcaaGreatDoorJ3
import Derived.Shelf.SlIter.Sorted
import Derived.Shelf.SlIter.Collect
import Derived.WalkKit
import Derived.WalkSpells
import Derived.WalkLawsBesides
import Derived.Lib.Hide
import Derived.Deep.QuietTactic
import Derived.BigQuiet
import Derived.Laws.IdiomStrings
namespace Go.Proofs.YtnbcneiicnepcaaGreatDoor
open List (all_cons all_eq_true append_assoc flatMap_append getElem?_eq_getElem getElem?_map getElem?_set_ne getElem?_take getElem_mem le_total length_append length_map map_cons map_map mem_append mem_cons mem_map mem_singleton not_mem_nil pairwise_cons set_append_left set_comm set_set)
open Nat (le_refl zero_le)
open _root_.Go.Proofs.Tryz
noncomputable section
set_option maxHeartbeats 16000000
open Go.RowKit
set_option linter.unusedSimpArgs false
set_option linter.unusedVariables false
set_option maxRecDepth 100000
def ndP (s : ByteArray) : List AV := [.str s, .slice 1 false [], .slice 10 false []]
def egP : List AV := [.str ⟨#[]⟩, .slice 1 false [], .int .i64 3, .int .i64 0, .int .i64 0, .int .i64 0, .slice 10 false []]
def sA : ByteArray := ⟨#[97]⟩
def sB : ByteArray := ⟨#[98]⟩
def sC : ByteArray := ⟨#[99]⟩
def gj : List AV := [.str ⟨#[]⟩, .slice 3 false [ndP sA, ndP sB, ndP sC, ndP sA], .slice 7 false [egP, egP, egP], .slice 1 false [[.slice 6 false []], [.slice 6 false []], [.slice 6 false []], [.slice 6 false []]], .slice 1 false [[.slice 6 false []], [.slice 6 false []], [.slice 6 false []]]]
structure Wh where
 f : Nat
 m : Nat
 o : Nat
 lb : Nat
def Dc (g : Gra) (w : Wh) (n : Nat) : Blk := ⟨242, 9, [[.slice 3 false (aq g.nodes), .slice 5 false (aq g.edges), .int .i64 g.nn, .int .i64 g.ne, .slice 6 false [], .own w.lb 1, .slice 1 false [[.str sA], [.str sB], [.str sC]], .mapo w.m, .own w.o n]], true, false⟩
def CF (ents : List AV) : Blk := ⟨0, 0, [ents], true, false⟩
def KG (rows : List (IR 5)) : Blk := ⟨79, 1, aq rows, true, true⟩
def KJ : Blk := ⟨248, 5, [gj], true, true⟩
def FH (g : Gra) (w : Wh) (H : List Blk) (n : Nat) (rows : List (IR 5)) (ents : List AV) : List Blk := ((H.set w.f (Dc g w n)).set w.o (KG rows)).set w.m (CF ents)
def ClB (m : Nat) (b : Blk) : Prop := b.deep = true ∨ ∀ r ∈ b.rows, ∀ c ∈ r, c.cleanF m = true
structure OkW (w : Wh) (H : List Blk) : Prop where
 f : w.f < H.length
 m : w.m < H.length
 o : w.o < H.length
 fm : w.f ≠ w.m
 fo : w.f ≠ w.o
 mo : w.m ≠ w.o
 lf : w.lb ≠ w.f
 lm : w.lb ≠ w.m
 lo : w.lb ≠ w.o
 l : H[w.lb]? = some KJ
 cl : ∀ b ∈ H, ClB H.length b
section
variable {g : Gra} {w : Wh} {H : List Blk} {n : Nat} {rows : List (IR 5)} {ents : List AV}
@[simp] theorem cW : (FH g w H n rows ents).length = H.length := by simp [FH]
theorem aS {R : List Blk} (k : OkW w H) : FH g w H n rows ents ++ R = FH g w (H ++ R) n rows ents := by
 unfold FH
 rw [set_append_left _ _ (by have := k.f; omega), set_append_left _ _ (by have := k.o; simp; omega), set_append_left _ _ (by have := k.m; simp; omega)]
theorem M6 (k : OkW w H) : (FH g w H n rows ents)[w.f]? = some (Dc g w n) := by
 unfold FH
 rw [getElem?_set_ne (λ h => k.fm h.symm), getElem?_set_ne (λ h => k.fo h.symm), List.getElem?_set_self k.f]
theorem M8 (k : OkW w H) : (FH g w H n rows ents)[w.o]? = some (KG rows) := by
 unfold FH
 rw [getElem?_set_ne k.mo, List.getElem?_set_self (by simpa using k.o)]
theorem M7 (k : OkW w H) : (FH g w H n rows ents)[w.m]? = some (CF ents) := by
 unfold FH
 rw [List.getElem?_set_self (by simpa using k.m)]
theorem QT {i : Nat} (h1 : i ≠ w.f) (h2 : i ≠ w.m) (h3 : i ≠ w.o) : (FH g w H n rows ents)[i]? = H[i]? := by
 unfold FH
 rw [getElem?_set_ne (λ h => h2 h.symm), getElem?_set_ne (λ h => h3 h.symm), getElem?_set_ne (λ h => h1 h.symm)]
theorem QU (k : OkW w H) : (FH g w H n rows ents)[w.lb]? = some KJ := by rw [QT k.lf k.lm k.lo, k.l]
theorem Cl {ents' : List AV} : (FH g w H n rows ents).set w.m ⟨0, 0, [ents'], true, false⟩ = FH g w H n rows ents' := by
 unfold FH CF
 rw [set_set]
theorem Cm (k : OkW w H) {rows' : List (IR 5)} : (FH g w H n rows ents).set w.o ⟨79, 1, aq rows', true, true⟩ = FH g w H n rows' ents := by
 unfold FH
 rw [set_comm _ _ (λ h => k.mo h), set_set]
 rfl
theorem Ck (k : OkW w H) {n' : Nat} : (FH g w H n rows ents).set w.f (Dc g w n') = FH g w H n' rows ents := by
 unfold FH
 rw [set_comm _ _ (λ h => k.fm h.symm), set_comm _ _ (λ h => k.fo h.symm), set_set]
end
section
variable {g : Gra} {w : Wh} {H R : List Blk} {n : Nat} {rows : List (IR 5)} {ents : List AV}
theorem gZ {A B : List Blk} {i : Nat} {b : Blk} (h : A[i]? = some b) : (A ++ B)[i]? = some b := by
 rw [List.getElem?_append_left (List.getElem?_eq_some_iff.1 h).1]; exact h
theorem oc {A B : List Blk} {i : Nat} {b : Blk} (h : i < A.length) : (A ++ B).set i b = A.set i b ++ B := set_append_left _ _ h
theorem gf (k : OkW w H) : (FH g w H n rows ents ++ R)[w.f]? = some ⟨242, 9, [[.slice 3 false (aq g.nodes), .slice 5 false (aq g.edges), .int .i64 g.nn, .int .i64 g.ne, .slice 6 false [], .own w.lb 1, .slice 1 false [[.str sA], [.str sB], [.str sC]], .mapo w.m, .own w.o n]], true, false⟩ := gZ (M6 k)
theorem go (k : OkW w H) : (FH g w H n rows ents ++ R)[w.o]? = some ⟨79, 1, aq rows, true, true⟩ := gZ (M8 k)
theorem gm (k : OkW w H) : (FH g w H n rows ents ++ R)[w.m]? = some ⟨0, 0, [ents], true, false⟩ := gZ (M7 k)
theorem gl (k : OkW w H) : (FH g w H n rows ents ++ R)[w.lb]? = some ⟨248, 5, [gj], true, true⟩ := gZ (QU k)
theorem gr {j : Nat} : (FH g w H n rows ents ++ R)[H.length + j]? = R[j]? := by
 rw [List.getElem?_append_right (by rw [cW]; omega), cW, Nat.add_sub_cancel_left]
theorem gr0 : (FH g w H n rows ents ++ R)[H.length]? = R[0]? := gr (j := 0)
theorem sm (k : OkW w H) {ents' : List AV} : (FH g w H n rows ents ++ R).set w.m ⟨0, 0, [ents'], true, false⟩ = FH g w H n rows ents' ++ R := by
 rw [oc (by rw [cW]; exact k.m), Cl]
theorem so (k : OkW w H) {rows' : List (IR 5)} : (FH g w H n rows ents ++ R).set w.o ⟨79, 1, aq rows', true, true⟩ = FH g w H n rows' ents ++ R := by
 rw [oc (by rw [cW]; exact k.o), Cm k]
theorem so1 (k : OkW w H) {r : List Int} : (FH g w H n rows ents ++ R).set w.o ⟨79, 1, aq rows ++ [[.slice 5 false (aq (cC 5 r))]], true, true⟩ = FH g w H n (rows ++ [⟨r⟩]) ents ++ R := by
 have e : aq rows ++ [[AV.slice 5 false (aq (cC 5 r))]] = aq (rows ++ [(⟨r⟩ : IR 5)]) := by rw [bX]; rfl
 rw [e, so k]
theorem sf (k : OkW w H) {n' : Nat} : (FH g w H n rows ents ++ R).set w.f ⟨242, 9, [[.slice 3 false (aq g.nodes), .slice 5 false (aq g.edges), .int .i64 g.nn, .int .i64 g.ne, .slice 6 false [], .own w.lb 1, .slice 1 false [[.str sA], [.str sB], [.str sC]], .mapo w.m, .own w.o n']], true, false⟩ = FH g w H n' rows ents ++ R := by
 rw [oc (by rw [cW]; exact k.f)]
 exact congrArg (· ++ R) (Ck k)
theorem sr {j : Nat} {b : Blk} : (FH g w H n rows ents ++ R).set (H.length + j) b = FH g w H n rows ents ++ R.set j b := by
 rw [List.set_append_right _ _ (by rw [cW]; omega), cW, Nat.add_sub_cancel_left]
theorem sr0 {b : Blk} : (FH g w H n rows ents ++ R).set H.length b = FH g w H n rows ents ++ R.set 0 b := sr (j := 0)
theorem gf0 (k : OkW w H) : (FH g w H n rows ents)[w.f]? = some ⟨242, 9, [[.slice 3 false (aq g.nodes), .slice 5 false (aq g.edges), .int .i64 g.nn, .int .i64 g.ne, .slice 6 false [], .own w.lb 1, .slice 1 false [[.str sA], [.str sB], [.str sC]], .mapo w.m, .own w.o n]], true, false⟩ := M6 k
theorem gm0 (k : OkW w H) : (FH g w H n rows ents)[w.m]? = some ⟨0, 0, [ents], true, false⟩ := M7 k
end
theorem nD {m m' : Nat} (h : m <= m') {v : AV} (hc : v.clean0 m = true) : v.clean0 m' = true := by
 cases v <;> simp only [AV.clean0, decide_eq_true_eq] at hc ⊢ <;> first | exact hc | omega
theorem nE {m m' : Nat} (h : m <= m') {v : AV} (hc : v.clean1 m = true) : v.clean1 m' = true := by
 cases v with
 | tup cs => exact all_eq_true.2 λ c hcc => nD h (all_eq_true.1 hc c hcc)
 | _ => simp only [AV.clean1] at hc ⊢; exact nD h hc
theorem jS {m m' : Nat} (h : m <= m') {v : AV} (hc : v.clean2 m = true) : v.clean2 m' = true := by
 cases v with
 | fn f cs => exact all_eq_true.2 λ c hcc => nE h (all_eq_true.1 hc c hcc)
 | _ => simp only [AV.clean2] at hc ⊢; exact nE h hc
theorem vr {m m' : Nat} (h : m <= m') {v : AV} (hc : v.cleanF m = true) : v.cleanF m' = true := by
 cases v with
 | agg cs => exact all_eq_true.2 λ c hcc => jS h (all_eq_true.1 hc c hcc)
 | tup cs => exact all_eq_true.2 λ c hcc => jS h (all_eq_true.1 hc c hcc)
 | _ => simp only [AV.cleanF] at hc ⊢; exact jS h hc
theorem ClB.mono {m m' : Nat} (h : m <= m') {b : Blk} (hc : ClB m b) : ClB m' b := hc.imp id λ hh r hr c hcc => vr h (hh r hr c hcc)
theorem OkW.app {w : Wh} {H : List Blk} (k : OkW w H) (R : List Blk) (hR : ∀ b ∈ R, ClB (H.length + R.length) b) : OkW w (H ++ R) where
 f := by have := k.f; rw [length_append]; omega
 m := by have := k.m; rw [length_append]; omega
 o := by have := k.o; rw [length_append]; omega
 fm := k.fm
 fo := k.fo
 mo := k.mo
 lf := k.lf
 lm := k.lm
 lo := k.lo
 l := by rw [List.getElem?_append_left (List.getElem?_eq_some_iff.1 k.l).1]; exact k.l
 cl := λ b hb => by
  rw [length_append]
  rcases mem_append.1 hb with h | h
  ·exact (k.cl b h).mono (by omega)
  ·exact hR b h
def ent (s : ByteArray) (x : Int) : AV := .tup [.str s, Enc.enc (vOf 5 x)]
def az : List Int -> List AV
 | [] => []
 | [x] => [ent sA x]
 | [x, y] => [ent sA x, ent sB y]
 | x :: y :: z :: _ => [ent sA x, ent sB y, ent sC z]
theorem mN (m : Nat) (s : ByteArray) (x : Int) : (ent s x).cleanF m = true := by simp [ent, AV.cleanF, AV.clean2, AV.clean1, vOf]
theorem xS (m : Nat) (l : List Int) : ∀ c ∈ az l, c.cleanF m = true := by
 intro c hc
 match l with
 | [] => cases hc
 | [x] => rw [mem_singleton.1 hc]; exact mN m _ _
 | [x, y] => simp only [az, mem_cons, not_mem_nil, or_false] at hc; rcases hc with rfl | rfl <;> exact mN m _ _
 | x :: y :: z :: _ => simp only [az, mem_cons, not_mem_nil, or_false] at hc; rcases hc with rfl | rfl | rfl <;> exact mN m _ _
theorem Cj {g : Gra} {w : Wh} {H : List Blk} {n : Nat} {rows : List (IR 5)} {l : List Int} (k : OkW w H) : ∀ b ∈ FH g w H n rows (az l), ClB H.length b := by
 intro b hb
 unfold FH at hb
 rcases List.mem_or_eq_of_mem_set hb with hb | rfl
 ·rcases List.mem_or_eq_of_mem_set hb with hb | rfl
  ·rcases List.mem_or_eq_of_mem_set hb with hb | rfl
   ·exact k.cl b hb
   ·refine .inr λ r hr c hc => ?_
    rw [mem_singleton.1 hr] at hc
    have h1 := k.m
    have h2 := k.o
    have h3 := (List.getElem?_eq_some_iff.1 k.l).1
    simp only [mem_cons, not_mem_nil, or_false] at hc
    rcases hc with rfl | rfl | rfl | rfl | rfl | rfl | rfl | rfl | rfl <;> simp [AV.cleanF, AV.clean2, AV.clean1, AV.clean0] <;> omega
  ·exact .inl rfl
 ·refine .inr λ r hr c hc => ?_
  rw [mem_singleton.1 hr] at hc
  exact xS _ _ c hc
theorem dy {C : Ctx} {N : Nat} {g : Gra} {w : Wh} {H R : List Blk} {n : Nat} {rows : List (IR 5)} {l : List Int} {ρ : List (Nat × AV)} (k : OkW w H) : kS C N H.length [] (.tup []) (FH g w H n rows (az l)) ⟨ρ, FH g w H n rows (az l) ++ R⟩ :=
 Be ⟨H.length, le_refl _, List.take_left' cW, rfl, Cj k⟩
theorem oQ {C : Ctx} {N h0 : Nat} {g : Gra} {w : Wh} {H R R' : List Blk} {n : Nat} {rows : List (IR 5)} {l : List Int} {ρ ρ' : List (Nat × AV)} (k : OkW w H) (h0l : h0 <= H.length + R'.length) (hR : R.take R'.length = R') (hc : ∀ b ∈ R', ClB (H.length + R'.length) b) (h : ∀ p ∈ ρ', aQ ρ p.1 = p.2) (hρ : ∀ p ∈ ρ', p.2.cleanF (H.length + R'.length) = true) : Weak C N h0 ⟨ρ, FH g w H n rows (az l) ++ R⟩ ⟨ρ', FH g w H n rows (az l) ++ R'⟩ := by
 have e : (FH g w H n rows (az l) ++ R).take (H.length + R'.length) = FH g w H n rows (az l) ++ R' := by
  rw [<- cW (g := g) (w := w) (H := H) (n := n) (rows := rows) (ents := az l), List.take_length_add_append, hR]
 refine cU _ h h0l hρ (λ b hb => ?_) e
 rw [e] at hb
 rcases mem_append.1 hb with hb | hb
 ·exact (Cj k b hb).mono (by omega)
 ·exact hc b hb
theorem dz {H R : List Blk} {j : Nat} : (H ++ R)[H.length + j]? = R[j]? := by
 rw [List.getElem?_append_right (by omega), Nat.add_sub_cancel_left]
theorem co {H R : List Blk} : (H ++ R)[H.length]? = R[0]? := by
 rw [List.getElem?_append_right (by omega), Nat.sub_self]
theorem dQ {H R : List Blk} {j : Nat} {b : Blk} : (H ++ R).set (H.length + j) b = H ++ R.set j b := by
 rw [List.set_append_right _ _ (by omega), Nat.add_sub_cancel_left]
theorem cr {H R : List Blk} {b : Blk} : (H ++ R).set H.length b = H ++ R.set 0 b := by
 rw [List.set_append_right _ _ (by omega), Nat.sub_self]
theorem Dh {ls : List Nat} {L : List Blk} {m : Nat} (h : ∀ l ∈ ls, m <= l) : (df ls 0 L).take m = L.take m := by
 apply List.ext_getElem?
 intro i
 rw [getElem?_take, getElem?_take]
 split
 ·rename_i hi
  rw [iM]
  have : ls.contains (0 + i) = false := by
   rw [Nat.zero_add]
   cases hc : ls.contains i with
   | false => rfl
   | true => have := h i (by simpa using hc); omega
  rw [this]
  simp
 ·rfl
theorem HW {C : Ctx} {N h0 : Nat} {g : Gra} {w : Wh} {H R : List Blk} (R' : List Blk) {n : Nat} {rows : List (IR 5)} {l : List Int} {ρ ρ' : List (Nat × AV)} (k : OkW w H) (h0l : h0 <= H.length + R'.length) (hR : R.take R'.length = R') (hc : ∀ b ∈ R', ClB (H.length + R'.length) b) (t : Nat) (v : AV) (hv : aX (FH g w H n rows (az l) ++ R) 6 (aQ ρ t) = v)
  (hr : ∀ i ∈ bo (FH g w H n rows (az l) ++ R) 6 (aQ ρ t), H.length + R'.length <= i) (h : ∀ p ∈ ρ', aQ ((t, v) :: ρ) p.1 = p.2) (hρ : ∀ p ∈ ρ', p.2.cleanF (H.length + R'.length) = true) : Weak C N h0 ⟨ρ, FH g w H n rows (az l) ++ R⟩ ⟨ρ', FH g w H n rows (az l) ++ R'⟩ := by
 have e : (df (bo (FH g w H n rows (az l) ++ R) 6 (aQ ρ t)) 0 (FH g w H n rows (az l) ++ R)).take (H.length + R'.length) = FH g w H n rows (az l) ++ R' := by
  rw [Dh hr, <- cW (g := g) (w := w) (H := H) (n := n) (rows := rows) (ents := az l), List.take_length_add_append, hR]
 refine (gR t).trans ?_
 rw [hv]
 refine cU _ h h0l hρ (λ b hb => ?_) e
 rw [e] at hb
 rcases mem_append.1 hb with hb | hb
 ·exact (Cj k b hb).mono (by omega)
 ·exact hc b hb
theorem w2 : w64 2 = 2 := dd (by unfold I64; omega)
theorem w3 : w64 3 = 3 := dd (by unfold I64; omega)
theorem sAB : (sA = sB) = False := eq_false (by decide)
theorem sAC : (sA = sC) = False := eq_false (by decide)
theorem sBC : (sB = sC) = False := eq_false (by decide)
theorem GA (x : Int) (l : List Int) : ah (.str sA) (az (x :: l)) = some (Enc.enc (vOf 5 x)) := by
 match l with
 | [] => rfl
 | [_] => rfl
 | _ :: _ :: _ => rfl
theorem GB (x y : Int) (l : List Int) : ah (.str sB) (az (x :: y :: l)) = some (Enc.enc (vOf 5 y)) := by
 match l with
 | [] => rfl
 | _ :: _ => rfl
theorem GC (x y z : Int) (l : List Int) : ah (.str sC) (az (x :: y :: z :: l)) = some (Enc.enc (vOf 5 z)) := rfl
def e7 (w : Wh) : Blk := ⟨238, 1, [[.ptr w.f 1 9 0 0]], true, false⟩
def dj (n : Int) : Blk := ⟨3, 1, [[.int .i64 n]], true, true⟩
theorem jd {w : Wh} {m : Nat} (h : w.f < m) : ClB m (e7 w) := .inr λ r hr c hc => by
 simp only [e7, mem_singleton] at hr
 subst hr
 rw [mem_singleton.1 hc]
 simp [AV.cleanF, AV.clean2, AV.clean1, h]
theorem F6 {m : Nat} (n : Int) : ClB m (dj n) := .inl rfl
section
variable {g : Gra} {w : Wh} {H : List Blk}
theorem LL (k : OkW w H) (x y z : Int) (rows : List (IR 5)) (hl : rows.length <= 1000000) : aK prog G0 174 [.ptr w.f 1 9 0 0, .int .i64 1] (FH g w H rows.length rows (az [x, y, z])) (.tup []) (FH g w H (rows.length + 1) (rows ++ [⟨[x, y, z]⟩]) (az [x, y, z])) := by
 refine cP (C := CE) func174 rfl rfl rfl (by show 2 <= _; decide) ?_
 rw [cW]
 refine ay aR mixed (hd := [8]) _ (by kernel_rfl) ?_
 simp [ac, ag, ae, am, ap, aa, au, ab, ao, ak, ah, ai, aj, argsρ, gf k, gf0 k, gm0 k, go k, gm k, gl k, gr, gr0, sm k, so1 k, sf k, sr, sr0]
 refine bG 4 (aJ aR mixed [8] (by kernel_rfl) ?_)
 simp [ac, ag, ae, am, ap, aa, au, ab, ao, ak, ah, ai, aj, gf k, gf0 k, gm0 k, go k, gm k, gl k, gr, gr0, sm k, so1 k, sf k, sr, sr0, GA, GB, GC, vOf, w1, w2, w3]
 refine aJ aR mixed [8] (by kernel_rfl) ?_
 simp [ac, ag, ae, am, ap, aa, au, ab, ao, ak, ah, ai, aj, gf k, gf0 k, gm0 k, go k, gm k, gl k, gr, gr0, sm k, so1 k, sf k, sr, sr0, GA, GB, GC, vOf, w1, w2, w3]
 refine aJ aR mixed [8] (by kernel_rfl) ?_
 simp [ac, ag, ae, am, ap, aa, au, ab, ao, ak, ah, ai, aj, gf k, gf0 k, gm0 k, go k, gm k, gl k, gr, gr0, sm k, so1 k, sf k, sr, sr0, GA, GB, GC, vOf, w1, w2, w3]
 refine aJ aR mixed [8] (by kernel_rfl) ?_
 simp [ac, ag, ae, am, ap, aa, au, ab, ao, ak, ah, ai, aj, gf k, gf0 k, gm0 k, go k, gm k, gl k, gr, gr0, sm k, so1 k, sf k, sr, sr0, GA, GB, GC, vOf, w1, w2, w3]
 refine AW.weak (HW [e7 w, dj 1] k (by simp) rfl ?_ 4 (.slice 5 false (aq (cC 5 [x, y, z]))) (by simp [aX, aQ, gr, cC, vOf, aq]) (by simp [bo, aQ, gr]) (ρ' := [(2, .ptr H.length 1 1 0 0), (4, .slice 5 false (aq (cC 5 [x, y, z])))]) (by simp [aQ]) (by simp [AV.cleanF, AV.clean2, AV.clean1])) ?_
 ·intro b hb
  have := k.f
  simp only [mem_cons, not_mem_nil, or_false] at hb
  rcases hb with rfl | rfl
  ·exact jd (by omega)
  ·exact F6 1
 refine aE aR mixed [.read, .read, .pure, .pure, .read, .pure, .eff, .eff, .pure, .pure, .eff] [[],[],[1],[1,2],[2,1,3],[],[5],[5,6,3,1,2,4],[7,6,5,4,3,2,1,0],[0,1,2,3,4,5,6,7,8],[8,7,6,5,4,3,2,1,0,9]] (by kernel_rfl) (by kernel_rfl) (by kernel_rfl) (by kernel_rfl) ?_
 simp [ac, ag, ae, am, ap, aa, au, ab, ao, ak, ah, ai, aj, gf k, gf0 k, gm0 k, go k, gm k, gl k, gr, gr0, sm k, so1 k, sf k, sr, sr0, e7, dj]
 exact ⟨⟨by omega, by omega⟩, dy k⟩
end
def eO (f : FuncId) (A : List AV) (H : List Blk) (H' : List Blk) : Prop := dv prog G0 f (.gen (kT A H (.tup []) H'))
noncomputable def CX (f : FuncId) (A : List AV) (H H' : List Blk) (L : List (Nat × Entry)) : Ctx := mkC prog G0 ((f, .gen (kT A H (.tup []) H')) :: L)
section
variable {f : FuncId} {A : List AV} {H H' : List Blk} {L : List (Nat × Entry)}
@[simp] theorem XB : (CX f A H H' L).P = prog := rfl
@[simp] theorem XA : (CX f A H H' L).G = G0 := rfl
@[simp] theorem XC : (CX f A H H' L).S f = .gen (kT A H (.tup []) H') := by simp [CX, mkC, mX]
theorem W2 : (CX f A H H' L).P.follows .mixedOrders = true := mixed
theorem bQ (h : eO f A H H') (hL : aB (mkC prog G0 L)) : aB (CX f A H H' L) := aD h hL
end
def bV (v : Val) : Blk := ⟨62, 5, [[.int .i64 v.kind, .int .i64 v.n, .int .i64 v.d, .str v.s, .slice 5 false (aq v.l)]], true, true⟩
def bZ : Blk := ⟨62, 5, [[.int .i64 0, .int .i64 0, .int .i64 0, .str ⟨#[]⟩, .slice 5 true []]], true, true⟩
def aV (v : Val) : AV := .agg [.int .i64 v.kind, .int .i64 v.n, .int .i64 v.d, .str v.s, .slice 5 false (aq v.l)]
@[simp] theorem PG (A a : List AV) (H h : List Blk) (r : AV) (H' : List Blk) : kT A H r H' a h = some (a = A /\ h = H, r, H') := rfl
section
variable {g : Gra} {w : Wh} {H : List Blk}
theorem kR (k : OkW w H) (v : Val) {fn : FuncId} {cap : List AV} {l : List Int} {n n' : Nat} {rows rows' : List (IR 5)}
  (hn : eO fn cap (FH g w (H ++ [bV v]) n rows (az l)) (FH g w (H ++ [bV v]) n' rows' (az l))) (hK : fn < 1000000 := by decide) :
  aK prog G0 300 [.ptr w.f 1 9 0 0, .str ⟨#[]⟩, aV v, .fn fn cap] (FH g w H n rows (az l)) (.tup []) (FH g w H n' rows' (az l)) := by
 rw [<- aS k, <- aS k] at hn
 refine cP (C := CX fn cap (FH g w H n rows (az l) ++ [bV v]) (FH g w H n' rows' (az l) ++ [bV v]) []) func300 rfl rfl rfl (by show 4 <= _; decide) ?_
 rw [cW]
 refine ay (bQ hn (ax _ _)) mixed (hd := [7]) _ (by kernel_rfl) ?_
 simp [ac, ag, ae, am, ap, aa, au, ab, ao, ak, ah, ai, aj, argsρ, gf k, gf0 k, gm0 k, go k, gm k, gl k, gr, gr0, sm k, so1 k, sf k, sr, sr0, aV, hK]
 exact ⟨rfl, dy k⟩
theorem qN (k : OkW w H) (x : Int) {s : ByteArray} {fn : FuncId} {cap : List AV} {l : List Int} {n n' : Nat} {rows rows' : List (IR 5)} (hs : ¬ s = ⟨#[]⟩)
  (hget : ah (.str s) (az l) = none) (hput : ai (.str s) (aV (vOf 5 x)) (az l) = az (l ++ [x])) (hdel : aj (.str s) (az (l ++ [x])) = az l) (hle : (az l).length < 1000000000000)
  (hn : eO fn cap (FH g w (H ++ [bV (vOf 5 x), bZ]) n rows (az (l ++ [x]))) (FH g w (H ++ [bV (vOf 5 x), bZ]) n' rows' (az (l ++ [x])))) (hK : fn < 1000000 := by decide) :
  aK prog G0 300 [.ptr w.f 1 9 0 0, .str s, aV (vOf 5 x), .fn fn cap] (FH g w H n rows (az l)) (.tup []) (FH g w H n' rows' (az l)) := by
 rw [<- aS k, <- aS k] at hn
 refine cP (C := CX fn cap (FH g w H n rows (az (l ++ [x])) ++ [bV (vOf 5 x), bZ]) (FH g w H n' rows' (az (l ++ [x])) ++ [bV (vOf 5 x), bZ]) []) func300 rfl rfl rfl (by show 4 <= _; decide) ?_
 rw [cW]
 refine ay (bQ hn (ax _ _)) mixed (hd := [7]) _ (by kernel_rfl) ?_
 simp only [aV] at hput
 simp [vOf] at hput
 simp [ac, ag, ae, am, ap, aa, au, ab, ao, ak, ah, ai, aj, argsρ, gf k, gf0 k, gm0 k, go k, gm k, gl k, gr, gr0, sm k, so1 k, sf k, sr, sr0, aV, vOf, hs, hget]
 refine aE (bQ hn (ax _ _)) mixed [.pure, .pure, .pure, .read, .pure, .read, .eff] [[],[0],[0,1],[1,0,2],[],[],[5,4,2,0,1,3]] (by kernel_rfl) (by kernel_rfl) (by kernel_rfl) (by kernel_rfl) ?_
 simp [ac, ag, ae, am, ap, aa, au, ab, ao, ak, ah, ai, aj, gf k, gf0 k, gm0 k, go k, gm k, gl k, gr, gr0, sm k, so1 k, sf k, sr, sr0, hput, hdel, hle, hK]
 exact ⟨⟨by simp [bV, vOf], rfl⟩, dy k⟩
noncomputable def CZo : Ctx := mkC prog G0 [(187, .pure gb)]
@[simp] theorem WP : CZo.P = prog := rfl
@[simp] theorem WO : CZo.G = G0 := rfl
@[simp] theorem WN : CZo.S 187 = .pure gb := rfl
theorem EX : aB CZo := aH (KF) func187 (ax _ _)
theorem Fs (k : OkW w H) (x y : Int) {s : ByteArray} {fn : FuncId} {cap : List AV} {l : List Int} {n n' : Nat} {rows rows' : List (IR 5)} (hs : ¬ s = ⟨#[]⟩) (hx : 1 <= x /\ x <= 1000000) (hy : 1 <= y /\ y <= 1000000)
  (hget : ah (.str s) (az l) = some (aV (vOf 5 y))) (hne : ¬ fn = 187)
  (hn : y = x -> eO fn cap (FH g w (H ++ [bV (vOf 5 x), bV (vOf 5 y)]) n rows (az l)) (FH g w (H ++ [bV (vOf 5 x), bV (vOf 5 y)]) n' rows' (az l))) (hK : fn < 1000000 := by decide) :
  aK prog G0 300 [.ptr w.f 1 9 0 0, .str s, aV (vOf 5 x), .fn fn cap] (FH g w H n rows (az l)) (.tup []) (if y = x then FH g w H n' rows' (az l) else FH g w H n rows (az l)) := by
 have hl2 : Cn (vOf 5 y) (vOf 5 x) := ⟨5, y, x, .inl ⟨rfl, hy⟩, .inl ⟨rfl, hx⟩, rfl, rfl⟩
 simp [vOf] at hl2
 by_cases hyx : y = x
 ·rw [if_pos hyx]
  have hn := hn hyx
  rw [<- aS k, <- aS k] at hn
  obtain ⟨R, hR⟩ : ∃ R, [bV (vOf 5 x), bV (vOf 5 y)] = R := ⟨_, rfl⟩
  rw [hR] at hn
  obtain ⟨L, hL⟩ : ∃ L, [(187, Entry.pure gb)] = L := ⟨_, rfl⟩
  have hSL : aB (mkC prog G0 L) := by rw [<- hL]; exact EX
  have hO : (CX fn cap (FH g w H n rows (az l) ++ R) (FH g w H n' rows' (az l) ++ R) L).S 187 = .pure gb := by
   have : (187 == fn) = false := by simp; exact λ e => hne e.symm
   rw [<- hL]
   simp [CX, mkC, mX, this, hne]
  refine cP (C := CX fn cap (FH g w H n rows (az l) ++ R) (FH g w H n' rows' (az l) ++ R) L) func300 rfl rfl rfl (by show 4 <= _; decide) ?_
  rw [cW]
  refine ay (bQ hn hSL) mixed (hd := [7]) _ (by kernel_rfl) ?_
  have cz : dx y x = 0 := cmp3_zero.2 hyx
  simp [vOf] at hget
  simp [ac, ag, ae, am, ap, aa, au, ab, ao, ak, ah, ai, aj, argsρ, gf k, gf0 k, gm0 k, go k, gm k, gl k, gr, gr0, sm k, so1 k, sf k, sr, sr0, aV, vOf, hs, hget, hO, gb, hl2, cz, hK]
  exact ⟨by rw [<- hR]; simp [bV, vOf], dy k⟩
 ·rw [if_neg hyx]
  refine cP (C := CZo) func300 rfl rfl rfl (by show 4 <= _; decide) ?_
  rw [cW]
  refine ay EX mixed (hd := [7]) _ (by kernel_rfl) ?_
  have cz : ¬ dx y x = 0 := λ h => hyx (cmp3_zero.1 h)
  simp [vOf] at hget
  simp [ac, ag, ae, am, ap, aa, au, ab, ao, ak, ah, ai, aj, argsρ, gf k, gf0 k, gm0 k, go k, gm k, gl k, gr, gr0, sm k, so1 k, sf k, sr, sr0, aV, vOf, hs, hget, gb, hl2, cz]
  exact dy k
end
def kr : PSp := aN (λ (_ : Int) => True) (λ n => Enc.enc (vOf 5 n))
def jH : PSp := aN (λ (_ : Int) => True) (λ n => Enc.enc (vOf 6 n))
theorem kO (n : Int) : kr [.int .i64 n] = some (True, aV (vOf 5 n)) := by simp [kr, aN, aV]
theorem oK (n : Int) : jH [.int .i64 n] = some (True, aV (vOf 6 n)) := by simp [jH, aN, aV]
theorem jt (ps : List Prp) : kq [.slice 6 false (aq ps), .slice 6 false []] = some (True, .bool true) := by simp [kq, aW]
noncomputable def CZn : Ctx := mkC prog G0 [(299, .pure kq), (238, .pure kr)]
@[simp] theorem WM : CZn.P = prog := rfl
@[simp] theorem WL : CZn.G = G0 := rfl
@[simp] theorem WK : CZn.S 299 = .pure kq /\ CZn.S 238 = .pure kr := ⟨rfl, rfl⟩
theorem qu : aB CZn := aH (JW) func299 (aH (Fi) func238 (ax _ _))
def nmN : Nat -> ByteArray
 | 0 => sA
 | 1 => sB
 | 2 => sC
 | _ => sA
def bP : Blk := ⟨248, 5, [gj], true, true⟩
def bN (nd : Nod) : Blk := ⟨48, 3, [[.int .i64 nd.id, .slice 1 false (aq nd.labels), .slice 6 false (aq nd.props)]], true, true⟩
section
variable {g : Gra} {w : Wh} {H : List Blk}
theorem oD (k : OkW w H) {i : Nat} (hi : i < 4) (nd : Nod) {fn : FuncId} {cap : List AV} {l : List Int} {n n' : Nat} {rows rows' : List (IR 5)}
  (hw : aK prog G0 300 [.ptr w.f 1 9 0 0, .str (nmN i), aV (vOf 5 nd.id), .fn fn cap] (FH g w (H ++ [bP, bN nd]) n rows (az l)) (.tup []) (FH g w (H ++ [bP, bN nd]) n' rows' (az l))) :
  aK prog G0 235 [.ptr w.f 1 9 0 0, .agg gj, .int .i64 i, Enc.enc nd, .fn fn cap] (FH g w H n rows (az l)) (.tup []) (FH g w H n' rows' (az l)) := by
 rw [<- aS k, <- aS k] at hw
 obtain ⟨R, hR⟩ : ∃ R, [bP, bN nd] = R := ⟨_, rfl⟩
 rw [hR] at hw
 obtain ⟨A, hA⟩ : ∃ A, [.ptr w.f 1 9 0 0, .str (nmN i), aV (vOf 5 nd.id), .fn fn cap] = A := ⟨_, rfl⟩
 rw [hA] at hw
 have hE : eO 300 A (FH g w H n rows (az l) ++ R) (FH g w H n' rows' (az l) ++ R) := aF hw func300 rfl (by decide)
 refine cP (C := CX 300 A (FH g w H n rows (az l) ++ R) (FH g w H n' rows' (az l) ++ R) [(299, .pure kq), (238, .pure kr)]) func235 rfl rfl rfl (by show 5 <= _; decide) ?_
 rw [cW]
 refine ay (bQ hE qu) mixed (hd := []) _ (by kernel_rfl) ?_
 have n1 : (CX 300 A (FH g w H n rows (az l) ++ R) (FH g w H n' rows' (az l) ++ R) [(299, .pure kq), (238, .pure kr)]).S 299 = .pure kq := rfl
 have n2 : (CX 300 A (FH g w H n rows (az l) ++ R) (FH g w H n' rows' (az l) ++ R) [(299, .pure kq), (238, .pure kr)]).S 238 = .pure kr := rfl
 have hi4 : (i : Int) < 4 := by omega
 have hcase : i = 0 ∨ i = 1 ∨ i = 2 ∨ i = 3 := by omega
 rcases hcase with rfl | rfl | rfl | rfl
 ·simp [ac, ag, ae, am, ap, aa, au, ab, ao, ak, ah, ai, aj, argsρ, gf k, gf0 k, gm0 k, go k, gm k, gl k, gr, gr0, sm k, so1 k, sf k, sr, sr0, gj, ndP, egP]
  refine aA (bQ hE qu) mixed [] (λ i' : Nat => ⟨[(0, .ptr w.f 1 9 0 0), (2, .int .i64 0), (4, .fn fn cap), (6, .ptr H.length 1 5 0 0), (8, .ptr (H.length + 1) 1 3 0 0), (19, .int .i64 0), (20, .int .i64 0)], FH g w H n rows (az l) ++ [bP, bN nd]⟩) (λ _ => True) (λ x => x) (by kernel_rfl) ⟨0, trivial, ar (by simp)⟩ ?_
  intro x _
  simp [ac, ag, ae, am, ap, aa, au, ab, ao, ak, ah, ai, aj, gf k, gf0 k, gm0 k, go k, gm k, gl k, gr, gr0, sm k, so1 k, sf k, sr, sr0, bP, bN, n1, n2, jt, kO, gj, ndP, egP]
  exact ⟨⟨hA, hR⟩, dy k⟩
 ·simp [ac, ag, ae, am, ap, aa, au, ab, ao, ak, ah, ai, aj, argsρ, gf k, gf0 k, gm0 k, go k, gm k, gl k, gr, gr0, sm k, so1 k, sf k, sr, sr0, gj, ndP, egP]
  refine aA (bQ hE qu) mixed [] (λ i' : Nat => ⟨[(0, .ptr w.f 1 9 0 0), (2, .int .i64 1), (4, .fn fn cap), (6, .ptr H.length 1 5 0 0), (8, .ptr (H.length + 1) 1 3 0 0), (19, .int .i64 0), (20, .int .i64 0)], FH g w H n rows (az l) ++ [bP, bN nd]⟩) (λ _ => True) (λ x => x) (by kernel_rfl) ⟨0, trivial, ar (by simp)⟩ ?_
  intro x _
  simp [ac, ag, ae, am, ap, aa, au, ab, ao, ak, ah, ai, aj, gf k, gf0 k, gm0 k, go k, gm k, gl k, gr, gr0, sm k, so1 k, sf k, sr, sr0, bP, bN, n1, n2, jt, kO, gj, ndP, egP]
  exact ⟨⟨hA, hR⟩, dy k⟩
 ·simp [ac, ag, ae, am, ap, aa, au, ab, ao, ak, ah, ai, aj, argsρ, gf k, gf0 k, gm0 k, go k, gm k, gl k, gr, gr0, sm k, so1 k, sf k, sr, sr0, gj, ndP, egP]
  refine aA (bQ hE qu) mixed [] (λ i' : Nat => ⟨[(0, .ptr w.f 1 9 0 0), (2, .int .i64 2), (4, .fn fn cap), (6, .ptr H.length 1 5 0 0), (8, .ptr (H.length + 1) 1 3 0 0), (19, .int .i64 0), (20, .int .i64 0)], FH g w H n rows (az l) ++ [bP, bN nd]⟩) (λ _ => True) (λ x => x) (by kernel_rfl) ⟨0, trivial, ar (by simp)⟩ ?_
  intro x _
  simp [ac, ag, ae, am, ap, aa, au, ab, ao, ak, ah, ai, aj, gf k, gf0 k, gm0 k, go k, gm k, gl k, gr, gr0, sm k, so1 k, sf k, sr, sr0, bP, bN, n1, n2, jt, kO, gj, ndP, egP]
  exact ⟨⟨hA, hR⟩, dy k⟩
 ·simp [ac, ag, ae, am, ap, aa, au, ab, ao, ak, ah, ai, aj, argsρ, gf k, gf0 k, gm0 k, go k, gm k, gl k, gr, gr0, sm k, so1 k, sf k, sr, sr0, gj, ndP, egP]
  refine aA (bQ hE qu) mixed [] (λ i' : Nat => ⟨[(0, .ptr w.f 1 9 0 0), (2, .int .i64 3), (4, .fn fn cap), (6, .ptr H.length 1 5 0 0), (8, .ptr (H.length + 1) 1 3 0 0), (19, .int .i64 0), (20, .int .i64 0)], FH g w H n rows (az l) ++ [bP, bN nd]⟩) (λ _ => True) (λ x => x) (by kernel_rfl) ⟨0, trivial, ar (by simp)⟩ ?_
  intro x _
  simp [ac, ag, ae, am, ap, aa, au, ab, ao, ak, ah, ai, aj, gf k, gf0 k, gm0 k, go k, gm k, gl k, gr, gr0, sm k, so1 k, sf k, sr, sr0, bP, bN, n1, n2, jt, kO, gj, ndP, egP]
  exact ⟨⟨hA, hR⟩, dy k⟩
end
def bL (fb : Bool) (p : List Val) : Blk := ⟨60, 1, [[.slice 5 fb (aq p)]], true, true⟩
def bA (a : Ed) : Blk := ⟨373, 3, [[.int .i64 a.f, .int .i64 a.t, .int .i64 a.i]], true, true⟩
def aP (fb : Bool) (p : List Val) : AV := .slice 5 fb (aq p)
noncomputable def CZv : Ctx := mkC prog G0 [(305, .pure jH), (238, .pure kr)]
@[simp] theorem WV : CZv.P = prog := rfl
@[simp] theorem WU : CZv.G = G0 := rfl
@[simp] theorem WT : CZv.S 305 = .pure jH /\ CZv.S 238 = .pure kr := ⟨rfl, rfl⟩
theorem ux : aB CZv := aH (za) func305 (aH (Fi) func238 (ax _ _))
theorem Q4 (t : Int) : aV (vOf 6 t) = .agg [.int .i64 6, .int .i64 t, .int .i64 0, .str ⟨#[]⟩, .slice 5 false []] := by simp [aV, vOf]
theorem M9 (t : Int) : aV (vOf 5 t) = .agg [.int .i64 5, .int .i64 t, .int .i64 0, .str ⟨#[]⟩, .slice 5 false []] := by simp [aV, vOf]
section
variable {w : Wh} {L L' : List Blk}
theorem JB {b0 b1 : Nat} (h0 : L[b0]? = some (e7 w)) (h1 : L[b1]? = some (dj 0)) (h : aK prog G0 174 [.ptr w.f 1 9 0 0, .int .i64 1] L (.tup []) L') :
  eO 302 [.ptr b0 1 1 0 0, .ptr b1 1 1 0 0] L L' := by
 refine aF ?_ func302 rfl (by decide)
 have hE : eO 174 [.ptr w.f 1 9 0 0, .int .i64 1] L L' := aF h func174 rfl (by decide)
 refine cP (C := CX 174 [.ptr w.f 1 9 0 0, .int .i64 1] L L' []) func302 rfl rfl rfl (by show 2 <= _; decide) ?_
 refine ay (bQ hE (ax _ _)) mixed (hd := []) _ (by kernel_rfl) ?_
 simp only [e7, dj] at h0 h1
 simp [ac, ag, ae, am, ap, aa, au, ab, ao, ak, ah, ai, aj, argsρ, h0, h1, w1]
 exact bf rfl ⟨trivial, rfl⟩
theorem xU {b0 b1 b2 b3 : Nat} {i : Int} {fb : Bool} {p : List Val} (hi : I64 (i + 1)) (h0 : L[b0]? = some (e7 w)) (h1 : L[b1]? = some (dj 0)) (h2 : L[b2]? = some (dj i)) (h3 : L[b3]? = some (bL fb p)) (h : aK prog G0 237 [.ptr w.f 1 9 0 0, .int .i64 0, .int .i64 (i + 1), aP fb p] L (.tup []) L') :
  eO 364 [.ptr b0 1 1 0 0, .ptr b1 1 1 0 0, .ptr b2 1 1 0 0, .ptr b3 1 1 0 0] L L' := by
 refine aF ?_ func364 rfl (by decide)
 have hE : eO 237 [.ptr w.f 1 9 0 0, .int .i64 0, .int .i64 (i + 1), aP fb p] L L' := aF h func237 rfl (by decide)
 refine cP (C := CX 237 [.ptr w.f 1 9 0 0, .int .i64 0, .int .i64 (i + 1), aP fb p] L L' []) func364 rfl rfl rfl (by show 4 <= _; decide) ?_
 refine ay (bQ hE (ax _ _)) mixed (hd := []) _ (by kernel_rfl) ?_
 simp only [e7, dj, bL] at h0 h1 h2 h3
 simp [ac, ag, ae, am, ap, aa, au, ab, ao, ak, ah, ai, aj, argsρ, h0, h1, h2, h3, hi]
 exact ⟨rfl, bf rfl ⟨trivial, rfl⟩⟩
theorem xT {b0 b1 b2 b3 b4 : Nat} {i : Int} {fb : Bool} {p : List Val} {a : Ed} (h0 : L[b0]? = some (e7 w)) (h1 : L[b1]? = some (dj 0)) (h2 : L[b2]? = some (dj i)) (h3 : L[b3]? = some (bL fb p)) (h4 : L[b4]? = some (bA a)) (h : aK prog G0 307 [.ptr w.f 1 9 0 0, .int .i64 0, .int .i64 i, aP fb p, aP true [vOf 6 a.i, vOf 5 a.t]] L (.tup []) L') :
  eO 306 [.ptr b0 1 1 0 0, .ptr b1 1 1 0 0, .ptr b2 1 1 0 0, .ptr b3 1 1 0 0, .ptr b4 1 3 0 0] L L' := by
 refine aF ?_ func306 rfl (by decide)
 obtain ⟨A, hA⟩ : ∃ A, [.ptr w.f 1 9 0 0, .int .i64 0, .int .i64 i, aP fb p, aP true [vOf 6 a.i, vOf 5 a.t]] = A := ⟨_, rfl⟩
 rw [hA] at h
 have hE : eO 307 A L L' := aF h func307 rfl (by decide)
 refine cP (C := CX 307 A L L' [(305, .pure jH), (238, .pure kr)]) func306 rfl rfl rfl (by show 5 <= _; decide) ?_
 refine ay (bQ hE ux) mixed (hd := [0]) _ (by kernel_rfl) ?_
 have n1 : (CX 307 A L L' [(305, .pure jH), (238, .pure kr)]).S 305 = .pure jH := rfl
 have n2 : (CX 307 A L L' [(305, .pure jH), (238, .pure kr)]).S 238 = .pure kr := rfl
 simp only [e7, dj, bL, bA] at h0 h1 h2 h3 h4
 simp only [nA, rT, wk, Bool.or_false, beq_self_eq_true, if_true]
 refine aE (bQ hE ux) mixed [.read, .read, .read, .read, .pure, .read, .read, .pure, .read, .read, .eff, .eff] [[],[],[],[],[],[4],[4,5],[],[7],[5,4,6,7,8],[8,7,9,5,4,6],[6,4,5,9,7,8,10,3,2,1,0]] (by kernel_rfl) (by kernel_rfl) (by kernel_rfl) (by kernel_rfl) ?_
 simp [ac, ag, ae, am, ap, aa, au, ab, ao, ak, ah, ai, aj, argsρ, h0, h1, h2, h3, h4, n1, n2, oK, kO, Q4, M9]
 exact ⟨by rw [<- hA]; simp [aP, aq, vOf], bf rfl ⟨trivial, rfl⟩⟩
theorem JA {b0 b1 b2 : Nat} {nd : Nod} (h0 : L[b0]? = some (e7 w)) (h1 : L[b1]? = some (dj 0)) (h2 : L[b2]? = some (bN nd)) (h : aK prog G0 237 [.ptr w.f 1 9 0 0, .int .i64 0, .int .i64 0, aP true [vOf 5 nd.id]] L (.tup []) L') :
  eO 236 [.ptr b0 1 1 0 0, .ptr b1 1 1 0 0, .ptr b2 1 3 0 0] L L' := by
 refine aF ?_ func236 rfl (by decide)
 obtain ⟨A, hA⟩ : ∃ A, [.ptr w.f 1 9 0 0, .int .i64 0, .int .i64 0, aP true [vOf 5 nd.id]] = A := ⟨_, rfl⟩
 rw [hA] at h
 have hE : eO 237 A L L' := aF h func237 rfl (by decide)
 refine cP (C := CX 237 A L L' [(305, .pure jH), (238, .pure kr)]) func236 rfl rfl rfl (by show 3 <= _; decide) ?_
 refine ay (bQ hE ux) mixed (hd := [0]) _ (by kernel_rfl) ?_
 have n2 : (CX 237 A L L' [(305, .pure jH), (238, .pure kr)]).S 238 = .pure kr := rfl
 simp only [e7, dj, bN] at h0 h1 h2
 simp only [nA, rT, wk, Bool.or_false, beq_self_eq_true, if_true]
 refine aE (bQ hE ux) mixed [.read, .read, .pure, .read, .read, .eff, .eff] [[],[],[],[2],[2,3],[3,2,4],[4,2,3,5,1,0]] (by kernel_rfl) (by kernel_rfl) (by kernel_rfl) (by kernel_rfl) ?_
 simp [ac, ag, ae, am, ap, aa, au, ab, ao, ak, ah, ai, aj, argsρ, h0, h1, h2, n2, kO, M9]
 exact ⟨by rw [<- hA]; simp [aP, aq, vOf], bf rfl ⟨trivial, rfl⟩⟩
end
def jF (g : Gra) (x : Int) : Nod := (g.nodes.find? λ e => decide (e.id = x)).getD default
def C3 (g : Gra) (x : Int) : Edg := (g.edges.find? λ e => decide (e.id = x)).getD default
def GdN (g : Gra) : Prop := (∀ e ∈ g.nodes, kW e.props /\ e.labels.length <= 1000000) /\ g.nodes.length <= 1000000
def aG (g : Gra) : AV := .agg [.slice 3 false (aq g.nodes), .slice 5 false (aq g.edges), .int .i64 g.nn, .int .i64 g.ne]
theorem Et (g : Gra) (x : Int) : mj [aG g, .int .i64 x] = some ((∀ e ∈ g.nodes, kW e.props /\ e.labels.length <= 1000000) /\ g.nodes.length <= 1000000 /\ ∃ e ∈ g.nodes, e.id = x, .tup [Enc.enc (jF g x), .bool true]) := by
 simp [mj, aW, aG, jF]
theorem qk (g : Gra) (x : Int) : kp [aG g, .int .i64 x] = some ((∀ e ∈ g.edges, kW e.props) /\ g.edges.length <= 1000000 /\ ∃ e ∈ g.edges, e.id = x, .tup [Enc.enc (C3 g x), .bool true]) := by
 simp [kp, aW, aG, C3]
theorem G8 (p q : List Val) (b : Bool) : uf [.slice 1 b [[.slice 5 false (aq p)], [.slice 5 false (aq q)]]] = some (1 <= (p ++ q).length /\ (p ++ q).length <= 1000000, .slice 5 false (aq (p ++ q))) := by
 have e : ([[AV.slice 5 false (aq p)], [AV.slice 5 false (aq q)]] : List (List AV)) = aq [p, q] := by simp [aq]
 rw [e]
 simp [uf, aN]
noncomputable def CZs : Ctx := mkC prog G0 [(363, .pure uf), (318, .pure mj)]
@[simp] theorem WS : CZs.P = prog := rfl
@[simp] theorem WR : CZs.G = G0 := rfl
@[simp] theorem WQ : CZs.S 363 = .pure uf /\ CZs.S 318 = .pure mj := ⟨rfl, rfl⟩
theorem EY : aB CZs := aH (Rh) func363 (aH (Oo) func318 (ax _ _))
section
variable {g : Gra} {w : Wh} {H : List Blk}
theorem mK (k : OkW w H) (hg : GdN g) {i : Int} (hi : I64 (i + 1)) {fb : Bool} {p : List Val} (hp : p.length <= 1000) (a : Ed) (ha : ∃ e ∈ g.nodes, e.id = a.t) {l : List Int} {n n' : Nat} {rows rows' : List (IR 5)}
  (hw : aK prog G0 235 [.ptr w.f 1 9 0 0, .agg gj, .int .i64 (i + 1), Enc.enc (jF g a.t), .fn 364 [.ptr H.length 1 1 0 0, .ptr (H.length + 1) 1 1 0 0, .ptr (H.length + 2) 1 1 0 0, .ptr (H.length + 3) 1 1 0 0]]
   (FH g w (H ++ [e7 w, dj 0, dj i, bL false (p ++ [vOf 6 a.i, vOf 5 a.t]), bN (jF g a.t)]) n rows (az l)) (.tup []) (FH g w (H ++ [e7 w, dj 0, dj i, bL false (p ++ [vOf 6 a.i, vOf 5 a.t]), bN (jF g a.t)]) n' rows' (az l))) :
  aK prog G0 307 [.ptr w.f 1 9 0 0, .int .i64 0, .int .i64 i, aP fb p, aP true [vOf 6 a.i, vOf 5 a.t]] (FH g w H n rows (az l)) (.tup []) (FH g w H n' rows' (az l)) := by
 rw [<- aS k, <- aS k] at hw
 obtain ⟨R, hR⟩ : ∃ R, [e7 w, dj 0, dj i, bL false (p ++ [vOf 6 a.i, vOf 5 a.t]), bN (jF g a.t)] = R := ⟨_, rfl⟩
 rw [hR] at hw
 obtain ⟨nd, hnd⟩ : ∃ nd, jF g a.t = nd := ⟨_, rfl⟩
 rw [hnd] at hw hR
 obtain ⟨A, hA⟩ : ∃ A, [.ptr w.f 1 9 0 0, .agg gj, .int .i64 (i + 1), Enc.enc nd, .fn 364 [.ptr H.length 1 1 0 0, .ptr (H.length + 1) 1 1 0 0, .ptr (H.length + 2) 1 1 0 0, .ptr (H.length + 3) 1 1 0 0]] = A := ⟨_, rfl⟩
 rw [hA] at hw
 have hE : eO 235 A (FH g w H n rows (az l) ++ R) (FH g w H n' rows' (az l) ++ R) := aF hw func235 rfl (by decide)
 refine cP (C := CX 235 A (FH g w H n rows (az l) ++ R) (FH g w H n' rows' (az l) ++ R) [(363, .pure uf), (318, .pure mj)]) func307 rfl rfl rfl (by show 5 <= _; decide) ?_
 rw [cW]
 refine ay (bQ hE EY) mixed (hd := [2]) _ (by kernel_rfl) ?_
 have n1 : (CX 235 A (FH g w H n rows (az l) ++ R) (FH g w H n' rows' (az l) ++ R) [(363, .pure uf), (318, .pure mj)]).S 363 = .pure uf := rfl
 have n2 : (CX 235 A (FH g w H n rows (az l) ++ R) (FH g w H n' rows' (az l) ++ R) [(363, .pure uf), (318, .pure mj)]).S 318 = .pure mj := rfl
 have hix : dq (aq (p ++ [vOf 6 a.i, vOf 5 a.t])) (p.length + 1) = [.int .i64 5, .int .i64 a.t, .int .i64 0, .str ⟨#[]⟩, .slice 5 false []] := by
  rw [aw (by simp)]; simp [ix, vOf]
 have hql : (p ++ [vOf 6 a.i, vOf 5 a.t]).length = p.length + 2 := by simp
 have hqa : aP true [vOf 6 a.i, vOf 5 a.t] = .slice 5 true (aq [vOf 6 a.i, vOf 5 a.t]) := rfl
 rw [hqa]
 obtain ⟨q, hq⟩ : ∃ q, [vOf 6 a.i, vOf 5 a.t] = q := ⟨_, rfl⟩
 rw [hq] at hR hix hql ⊢
 have hpq : q.length = 2 := by rw [<- hq]; rfl
 have hl1 : w64 ((p.length : Int) + 2 - 1) = (p.length : Int) + 1 := by rw [dd (by unfold I64; omega)]; omega
 have hg1 := hg.1
 have hg2 := hg.2
 have hsn := Et g a.t
 rw [hnd] at hsn
 simp only [aG] at hsn
 simp [ac, ag, ae, am, ap, aa, au, ab, ao, ak, ah, ai, aj, argsρ, gf k, gf0 k, gm0 k, go k, gm k, gl k, gr, gr0, sm k, so1 k, sf k, sr, sr0, n1, n2, aP, G8]
 refine ⟨by omega, ?_⟩
 refine aE (bQ hE EY) mixed [.read, .pure, .pure, .read, .read, .read, .pure, .pure, .pure, .pure, .read, .read, .pure, .pure, .pure, .eff, .eff, .pure] [[],[0],[0,1],[1,0,2],[],[],[5],[5,6],[6,5,7,4],[4,7,5,6,8],[8,6,5,7,4,9],[9,4,7,5,6,8,10,2,0,1,3],[3,1,0,2,10,8,6,5,7,4,9,11],[11,9,4,7,5,6,8,10,2,0,1,3,12],[11,9,4,7,5,6,8,10,2,0,1,3,12],[],[12,3,1,0,2,10,8,6,5,7,4,9,11,13,15],[15,13,16,12,3,1,0,2,10,8,6,5,7,4,9,11,14]] (by kernel_rfl) (by kernel_rfl) (by kernel_rfl) (by kernel_rfl) ?_
 simp [ac, ag, ae, am, ap, aa, au, ab, ao, ak, ah, ai, aj, argsρ, gf k, gf0 k, gm0 k, go k, gm k, gl k, gr, gr0, sm k, so1 k, sf k, sr, sr0, n1, n2, hpq, hl1, hix, hsn, hi]
 exact ⟨by omega, ⟨hg1, hg2, ha⟩, by decide, ⟨by rw [<- hA]; rfl, by rw [<- hR]; rfl⟩, dy k⟩
end
theorem uL {C C' : Ctx} {N h0 : Nat} (hP : C.P = C'.P) (hG : C.G = C'.G) {code : Code} {st : ASt} {Q : Exit -> ASt -> Prop} (h : AW C' N h0 code st Q) : AW C N h0 code st Q := by
 obtain ⟨P, S, G⟩ := C
 obtain ⟨P', S', G'⟩ := C'
 simp only at hP hG
 subst hP hG
 exact I6 h
def mZ : List AV -> List Blk -> Option (Prop × AV × List Blk) := λ _ _ => none
theorem oC (f : FuncId) : bg prog G0 f mZ := by
 intro w X β H args avs ob r H' R hG hsz harg hp hob
 cases hp
noncomputable def CZw : Ctx := mkC prog G0 [(301, .pure uh), (303, .pure sSt), (304, .pure kp), (299, .pure kq), (305, .pure jH)]
@[simp] theorem WY : CZw.P = prog := rfl
@[simp] theorem WX : CZw.G = G0 := rfl
@[simp] theorem WW : CZw.S 301 = .pure uh /\ CZw.S 303 = .pure sSt /\ CZw.S 304 = .pure kp /\ CZw.S 299 = .pure kq /\ CZw.S 305 = .pure jH := ⟨rfl, rfl, rfl, rfl, rfl⟩
theorem kt : aB CZw := aH (OE) func301 (aH (E9) func303 (aH (Iu) func304 (aH (JW) func299 (aH (za) func305 (ax _ _)))))
@[reducible] noncomputable def LZw : List (Nat × Entry) := [(301, .pure uh), (303, .pure sSt), (304, .pure kp), (299, .pure kq), (305, .pure jH)]
def yo (p : List Val) : Val := .mk 7 0 0 ⟨#[]⟩ p
theorem Hm (p : List Val) (b : Bool) : uh [.slice 5 b (aq p)] = some (rq p, aV (yo p)) := by
 simp [uh, aN, aV, yo]
theorem b8 {m : Nat} {b : Blk} (h : b.deep = true) : ClB m b := .inl h
section
variable {g : Gra} {w : Wh} {H : List Blk}
theorem Fp (k : OkW w H) {fb : Bool} {p : List Val} (hp : rq p) (x y z : Int) {rows : List (IR 5)} (hl : rows.length <= 1000000) :
  aK prog G0 237 [.ptr w.f 1 9 0 0, .int .i64 0, .int .i64 3, aP fb p] (FH g w H rows.length rows (az [x, y, z])) (.tup []) (FH g w H (rows.length + 1) (rows ++ [⟨[x, y, z]⟩]) (az [x, y, z])) := by
 obtain ⟨R, hR⟩ : ∃ R, [e7 w, dj 0, dj 3, bL fb p, bP] = R := ⟨_, rfl⟩
 have hRl : R.length = 5 := by rw [<- hR]; rfl
 have kF := k.f
 have k1 : OkW w (H ++ R) := k.app R (by
  intro b hb
  rw [hRl]
  rw [<- hR] at hb
  simp only [mem_cons, not_mem_nil, or_false] at hb
  rcases hb with rfl | rfl | rfl | rfl | rfl
  ·exact jd (by omega)
  all_goals exact b8 rfl)
 have k2 : OkW w ((H ++ R) ++ [bV (yo p)]) := k1.app _ (by intro b hb; rw [mem_singleton.1 hb]; exact b8 rfl)
 have hs := LL (g := g) k2 x y z rows hl
 have h0 : (FH g w ((H ++ R) ++ [bV (yo p)]) rows.length rows (az [x, y, z]))[H.length]? = some (e7 w) := by
  rw [<- aS k1, <- aS k, append_assoc, gr0, <- hR]; rfl
 have h1 : (FH g w ((H ++ R) ++ [bV (yo p)]) rows.length rows (az [x, y, z]))[H.length + 1]? = some (dj 0) := by
  rw [<- aS k1, <- aS k, append_assoc, gr, <- hR]; rfl
 have hw := kR k1 (yo p) (JB h0 h1 hs)
 rw [<- aS k, <- aS k] at hw
 obtain ⟨A, hA⟩ : ∃ A, [.ptr w.f 1 9 0 0, .str ⟨#[]⟩, aV (yo p), .fn 302 [.ptr H.length 1 1 0 0, .ptr (H.length + 1) 1 1 0 0]] = A := ⟨_, rfl⟩
 rw [hA] at hw
 have hE : eO 300 A (FH g w H rows.length rows (az [x, y, z]) ++ R) (FH g w H (rows.length + 1) (rows ++ [⟨[x, y, z]⟩]) (az [x, y, z]) ++ R) := aF hw func300 rfl (by decide)
 obtain ⟨H1, hH1⟩ : ∃ H1, FH g w H (rows.length + 1) (rows ++ [⟨[x, y, z]⟩]) (az [x, y, z]) ++ R = H1 := ⟨_, rfl⟩
 rw [hH1] at hE
 refine cP (C := CX 300 A (FH g w H rows.length rows (az [x, y, z]) ++ R) H1 LZw) func237 rfl rfl rfl (by show 4 <= _; decide) ?_
 rw [cW]
 refine ay (bQ hE kt) mixed (hd := [1, 10]) _ (by kernel_rfl) ?_
 have n1 : (CX 300 A (FH g w H rows.length rows (az [x, y, z]) ++ R) H1 LZw).S 301 = .pure uh := rfl
 simp [ac, ag, ae, am, ap, aa, au, ab, ao, ak, ah, ai, aj, argsρ, gf k, gf0 k, gm0 k, go k, gm k, gl k, gr, gr0, sm k, so1 k, sf k, sr, sr0, aP]
 refine aE (bQ hE kt) mixed [.read, .pure, .pure, .read, .read, .pure, .read, .eff, .eff] [[],[0],[0,1],[1,0,2],[],[4,2,0,1,3],[3,1,0,2,4,5],[],[5,4,2,0,1,3,6,7]] (by kernel_rfl) (by kernel_rfl) (by kernel_rfl) (by kernel_rfl) ?_
 simp [ac, ag, ae, am, ap, aa, au, ab, ao, ak, ah, ai, aj, argsρ, gf k, gf0 k, gm0 k, go k, gm k, gl k, gr, gr0, sm k, so1 k, sf k, sr, sr0, n1, Hm, gj, ndP, egP]
 subst hH1
 exact ⟨hp, ⟨hA, by rw [<- hR]; rfl⟩, dy k⟩
end
def fv (x y z : Int) : List (List AV) := [[.str sA, .int .i64 5, .int .i64 x, .int .i64 0, .str ⟨#[]⟩, .slice 5 false []], [.str sB, .int .i64 5, .int .i64 y, .int .i64 0, .str ⟨#[]⟩, .slice 5 false []], [.str sC, .int .i64 5, .int .i64 z, .int .i64 0, .str ⟨#[]⟩, .slice 5 false []]]
def evB (g : Gra) (x y z : Int) (l : Nat) : Blk := ⟨258, 6, [[.slice 3 false (aq g.nodes), .slice 5 false (aq g.edges), .int .i64 g.nn, .int .i64 g.ne, .slice 6 false (fv x y z), .fn (179 + 1000000) [.ptr l 1 6 0 0]]], true, false⟩
structure EvH (g : Gra) (x y z : Int) (l : Nat) (H : List Blk) : Prop where
 at' : H[l]? = some (evB g x y z l)
 cl : ∀ b ∈ H, ClB H.length b
theorem EvH.app {g : Gra} {x y z : Int} {l : Nat} {H : List Blk} (k : EvH g x y z l H) (R : List Blk) (hR : ∀ b ∈ R, ClB (H.length + R.length) b) : EvH g x y z l (H ++ R) where
 at' := gZ k.at'
 cl := λ b hb => by
  rw [length_append]
  rcases mem_append.1 hb with h | h
  ·exact (k.cl b h).mono (by omega)
  ·exact hR b h
section
variable {g : Gra} {x y z : Int} {l : Nat} {H : List Blk}
theorem EvH.get (k : EvH g x y z l H) {R : List Blk} : (H ++ R)[l]? = some ⟨258, 6, [[.slice 3 false (aq g.nodes), .slice 5 false (aq g.edges), .int .i64 g.nn, .int .i64 g.ne, .slice 6 false (fv x y z), .fn (179 + 1000000) [.ptr l 1 6 0 0]]], true, false⟩ := gZ k.at'
theorem EvH.get0 (k : EvH g x y z l H) : H[l]? = some ⟨258, 6, [[.slice 3 false (aq g.nodes), .slice 5 false (aq g.edges), .int .i64 g.nn, .int .i64 g.ne, .slice 6 false (fv x y z), .fn (179 + 1000000) [.ptr l 1 6 0 0]]], true, false⟩ := k.at'
theorem g8 {R : List Blk} {r : AV} (k : EvH g x y z l H) (hr : r.cleanF H.length = true) : vG H.length (H ++ R) r H := ⟨H.length, le_refl _, List.take_left' rfl, hr, k.cl⟩
theorem LX (k : EvH g x y z l H) : aK prog G0 319 [.ptr l 1 6 0 0, .str sA] H (aV (vOf 5 x)) H := by
 refine jQ (C := CE) func319 rfl rfl rfl (by show 2 <= _; decide) ?_
 refine ay aR mixed (hd := []) _ (by kernel_rfl) ?_
 simp [ac, ag, ae, am, ap, aa, au, ab, ao, ak, ah, ai, aj, argsρ, k.get, k.get0, dz, co, dQ, cr, fv]
 refine bG 3 ?_
 refine aJ aR mixed [] (by kernel_rfl) ?_
 simp [ac, ag, ae, am, ap, aa, au, ab, ao, ak, ah, ai, aj, k.get, k.get0, dz, co, dQ, cr, fv, w1, w2, sAB, sAC, sBC]
 exact ⟨by simp [aV, vOf], g8 k (by simp [aV, AV.cleanF, AV.clean2, AV.clean1, vOf])⟩
theorem LY (k : EvH g x y z l H) : aK prog G0 319 [.ptr l 1 6 0 0, .str sB] H (aV (vOf 5 y)) H := by
 refine jQ (C := CE) func319 rfl rfl rfl (by show 2 <= _; decide) ?_
 refine ay aR mixed (hd := []) _ (by kernel_rfl) ?_
 simp [ac, ag, ae, am, ap, aa, au, ab, ao, ak, ah, ai, aj, argsρ, k.get, k.get0, dz, co, dQ, cr, fv]
 refine bG 3 ?_
 refine aJ aR mixed [] (by kernel_rfl) ?_
 simp [ac, ag, ae, am, ap, aa, au, ab, ao, ak, ah, ai, aj, k.get, k.get0, dz, co, dQ, cr, fv, w1, w2, sAB, sAC, sBC]
 refine aJ aR mixed [] (by kernel_rfl) ?_
 simp [ac, ag, ae, am, ap, aa, au, ab, ao, ak, ah, ai, aj, k.get, k.get0, dz, co, dQ, cr, fv, w1, w2, sAB, sAC, sBC]
 exact ⟨by simp [aV, vOf], g8 k (by simp [aV, AV.cleanF, AV.clean2, AV.clean1, vOf])⟩
theorem LZ (k : EvH g x y z l H) : aK prog G0 319 [.ptr l 1 6 0 0, .str sC] H (aV (vOf 5 z)) H := by
 refine jQ (C := CE) func319 rfl rfl rfl (by show 2 <= _; decide) ?_
 refine ay aR mixed (hd := []) _ (by kernel_rfl) ?_
 simp [ac, ag, ae, am, ap, aa, au, ab, ao, ak, ah, ai, aj, argsρ, k.get, k.get0, dz, co, dQ, cr, fv]
 refine bG 3 ?_
 refine aJ aR mixed [] (by kernel_rfl) ?_
 simp [ac, ag, ae, am, ap, aa, au, ab, ao, ak, ah, ai, aj, k.get, k.get0, dz, co, dQ, cr, fv, w1, w2, sAB, sAC, sBC]
 refine aJ aR mixed [] (by kernel_rfl) ?_
 simp [ac, ag, ae, am, ap, aa, au, ab, ao, ak, ah, ai, aj, k.get, k.get0, dz, co, dQ, cr, fv, w1, w2, sAB, sAC, sBC]
 refine aJ aR mixed [] (by kernel_rfl) ?_
 simp [ac, ag, ae, am, ap, aa, au, ab, ao, ak, ah, ai, aj, k.get, k.get0, dz, co, dQ, cr, fv, w1, w2, sAB, sAC, sBC]
 exact ⟨by simp [aV, vOf], g8 k (by simp [aV, AV.cleanF, AV.clean2, AV.clean1, vOf])⟩
end
noncomputable def CR (f : FuncId) (A : List AV) (H : List Blk) (r : AV) (H' : List Blk) (L : List (Nat × Entry)) : Ctx := mkC prog G0 ((f, .gen (kT A H r H')) :: L)
section
variable {f : FuncId} {A : List AV} {H H' : List Blk} {r : AV} {L : List (Nat × Entry)}
@[simp] theorem Xs : (CR f A H r H' L).P = prog := rfl
@[simp] theorem Xr : (CR f A H r H' L).G = G0 := rfl
@[simp] theorem Xt : (CR f A H r H' L).S f = .gen (kT A H r H') := by simp [CR, mkC, mX]
theorem W1 : (CR f A H r H' L).P.follows .mixedOrders = true := mixed
theorem iX (h : dv prog G0 f (.gen (kT A H r H'))) (hL : aB (mkC prog G0 L)) : aB (CR f A H r H' L) := aD h hL
end
def exE (o : Int) (s : ByteArray) (kids : List (List AV)) : List AV := [.int .i64 o, .int .i64 0, .int .i64 0, .int .i64 0, .str ⟨#[]⟩, .slice 5 false [], .str s, .bool false, .slice 9 false kids]
section
variable {g : Gra} {x y z : Int} {l : Nat} {H : List Blk}
theorem Nf (k : EvH g x y z l H) {s : ByteArray} {n : Int} {b : Bool} (hv : ∀ H', EvH g x y z l H' -> aK prog G0 319 [.ptr l 1 6 0 0, .str s] H' (aV (vOf 5 n)) H') :
  aK prog G0 253 [.ptr l 1 6 0 0, .agg (exE 2 s []), .slice 5 b []] H (aV (vOf 5 n)) H := by
 obtain ⟨R, hR⟩ : ∃ R, [⟨64, 9, [exE 2 s []], true, true⟩, bZ] = R := ⟨_, rfl⟩
 have k1 : EvH g x y z l (H ++ R) := k.app R (by
  intro b hb
  rw [<- hR] at hb
  simp only [mem_cons, not_mem_nil, or_false] at hb
  rcases hb with rfl | rfl <;> exact b8 rfl)
 have hE := aF (hv _ k1) func319 rfl (by decide)
 refine jQ (C := CR 319 [.ptr l 1 6 0 0, .str s] (H ++ R) (aV (vOf 5 n)) (H ++ R) []) func253 rfl rfl rfl (by show 3 <= _; decide) ?_
 refine ay (iX hE (ax _ _)) mixed (hd := [7, 16, 18, 29, 35, 38]) _ (by kernel_rfl) ?_
 simp [ac, ag, ae, am, ap, aa, au, ab, ao, ak, ah, ai, aj, argsρ, exE, k.get, k.get0, dz, co, dQ, cr]
 refine ⟨by rw [<- hR]; rfl, ?_⟩
 rw [<- hR]
 simp [ac, ag, ae, am, ap, aa, au, ab, ao, ak, ah, ai, aj, aV, vOf, bZ, dz, co, dQ, cr]
 exact g8 k (by simp [AV.cleanF, AV.clean2, AV.clean1])
end
theorem mF {C C' : Ctx} {N h0 : Nat} (hP : C.P = C'.P) (hG : C.G = C'.G) (hS : aB C') (hM : C'.P.follows .mixedOrders = true) (hd : List Nat) {body : Code} {st : ASt} {Q : Exit -> ASt -> Prop} {n : Nat} (hok : cE C' hd N body = true) (h : du C' hd N h0 body st (rdN C N h0 body Q n)) : AWn C N h0 body Q (n + 1) st :=
 uL hP hG ((ay hS hM body hok h).mono λ ex st' hq => by cases ex <;> exact hq)
theorem yI (κ n : Int) : sVa [.agg [.int .i64 κ, .int .i64 n, .int .i64 0, .str ⟨#[]⟩, .slice 5 false []]] = some (WfV (vOf κ n) /\ jD κ, .bool (eW (vOf κ n) 8)) := by
 have e : (.agg [.int .i64 κ, .int .i64 n, .int .i64 0, .str ⟨#[]⟩, .slice 5 false []] : AV) = Enc.enc (vOf κ n) := by simp [vOf]
 rw [e]
 simp only [sVa, aN]
 rw [Enc.dec_enc]
 simp [vOf]
def GdV (κ n : Int) : Prop := jD κ /\ eW (vOf κ n) 8 = true
noncomputable def CVa : Ctx := mkC prog G0 [(169, .pure sVa), (181, .gen mZ)]
@[simp] theorem VF : CVa.P = prog := rfl
@[simp] theorem VE : CVa.G = G0 := rfl
@[simp] theorem VD : CVa.S 169 = .pure sVa /\ CVa.S 181 = .gen mZ := ⟨rfl, rfl⟩
theorem ni : aB CVa := aH (vP) func169 (aD (aF ((oC _)) func181 rfl (by decide)) (ax _ _))
@[reducible] noncomputable def LVa : List (Nat × Entry) := [(169, .pure sVa), (181, .gen mZ)]
noncomputable def CVb : Ctx := mkC prog G0 [(253, .gen mZ), (169, .pure sVa)]
@[simp] theorem VI : CVb.P = prog := rfl
@[simp] theorem VH : CVb.G = G0 := rfl
@[simp] theorem VG : CVb.S 253 = .gen mZ /\ CVb.S 169 = .pure sVa := ⟨rfl, rfl⟩
theorem yP : aB CVb := aD (aF ((oC _)) func253 rfl (by decide)) (aH (vP) func169 (ax _ _))
def vC (κ n : Int) : List AV := [.int .i64 κ, .int .i64 n, .int .i64 0, .str ⟨#[]⟩, .slice 5 false []]
section
variable {g : Gra} {x y z : Int} {l : Nat} {H : List Blk}
theorem S5 (k : EvH g x y z l H) {o : Int} {s : ByteArray} {κ n : Int} (ho : ¬ o = 24) (hv : GdV κ n) (ha : ∀ H', EvH g x y z l H' -> aK prog G0 253 [.ptr l 1 6 0 0, .agg (exE o s []), .slice 5 true []] H' (aV (vOf κ n)) H') :
  aK prog G0 181 [.ptr l 1 6 0 0, .agg (exE o s [])] H (aV (vOf κ n)) H := by
 obtain ⟨R, hR⟩ : ∃ R, [⟨64, 9, [exE o s []], true, true⟩, bZ] = R := ⟨_, rfl⟩
 have k1 : EvH g x y z l (H ++ R) := k.app R (by
  intro b hb
  rw [<- hR] at hb
  simp only [mem_cons, not_mem_nil, or_false] at hb
  rcases hb with rfl | rfl <;> exact b8 rfl)
 have hw := ha _ k1
 obtain ⟨A, hA⟩ : ∃ A : List AV, [.ptr l 1 6 0 0, .agg (exE o s []), .slice 5 true []] = A := ⟨_, rfl⟩
 rw [hA] at hw
 have hE := aF hw func253 rfl (by decide)
 refine jQ (C := CR 253 A (H ++ R) (aV (vOf κ n)) (H ++ R) LVa) func181 rfl rfl rfl (by show 2 <= _; decide) ?_
 refine ay (iX hE ni) mixed (hd := []) _ (by kernel_rfl) ?_
 have n1 : (CR 253 A (H ++ R) (aV (vOf κ n)) (H ++ R) LVa).S 169 = .pure sVa := rfl
 have hv1 := hv.1
 have hv2 := hv.2
 have hv3 := kB κ n
 have e9 : aV (vOf κ n) = .agg [.int .i64 κ, .int .i64 n, .int .i64 0, .str ⟨#[]⟩, .slice 5 false []] := by simp [aV, vOf]
 simp [ac, ag, ae, am, ap, aa, au, ab, ao, ak, ah, ai, aj, argsρ, exE, ho, k.get, k.get0, dz, co, dQ, cr]
 refine bG 1 (aJ (iX hE ni) mixed [] (by kernel_rfl) ?_)
 simp [ac, ag, ae, am, ap, aa, au, ab, ao, ak, ah, ai, aj, exE, k.get, k.get0, dz, co, dQ, cr]
 refine ⟨⟨by rw [<- hA]; rfl, by rw [<- hR]; rfl⟩, ?_⟩
 rw [<- hR] at n1 ⊢
 rw [e9] at n1
 simp only [bZ] at n1
 simp [ac, ag, ae, am, ap, aa, au, ab, ao, ak, ah, ai, aj, e9, n1, yI, hv1, hv2, hv3, bZ, dz, co, dQ, cr]
 exact g8 k (by simp [AV.cleanF, AV.clean2, AV.clean1])
def eBx (o : Int) (s : ByteArray) (ks : List (List AV)) : Blk := ⟨64, 9, [exE o s ks], true, true⟩
def oBx (rows : List (List AV)) : Blk := ⟨62, 5, rows, true, true⟩
theorem By (k : EvH g x y z l H) {R : List Blk} (h : R.all (λ b => b.deep) = true) : EvH g x y z l (H ++ R) := k.app R λ b hb => b8 (all_eq_true.1 h b hb)
theorem e9V (κ n : Int) : aV (vOf κ n) = .agg [.int .i64 κ, .int .i64 n, .int .i64 0, .str ⟨#[]⟩, .slice 5 false []] := by simp [aV, vOf]
theorem S6 (k : EvH g x y z l H) {o o1 : Int} {s s1 : ByteArray} {ks1 : List (List AV)} {κ n κ1 n1 : Int} (ho : ¬ o = 24) (hv : GdV κ n)
  (hk1 : ∀ H', EvH g x y z l H' -> aK prog G0 181 [.ptr l 1 6 0 0, .agg (exE o1 s1 ks1)] H' (aV (vOf κ1 n1)) H')
  (ha : ∀ H' j, EvH g x y z l H' -> H'[j]? = some (oBx [vC κ1 n1]) -> aK prog G0 253 [.ptr l 1 6 0 0, .agg (exE o s [exE o1 s1 ks1]), .own j 1] H' (aV (vOf κ n)) H') :
  aK prog G0 181 [.ptr l 1 6 0 0, .agg (exE o s [exE o1 s1 ks1])] H (aV (vOf κ n)) H := by
 obtain ⟨R1, hR1⟩ : ∃ R, [eBx o s [exE o1 s1 ks1], bZ, eBx o1 s1 ks1] = R := ⟨_, rfl⟩
 obtain ⟨A1, hA1⟩ : ∃ A : List AV, [.ptr l 1 6 0 0, .agg (exE o1 s1 ks1)] = A := ⟨_, rfl⟩
 have hw1 := hk1 (H ++ R1) (By k (by rw [<- hR1]; rfl))
 rw [hA1, e9V] at hw1
 have hE1 := aF hw1 func181 rfl (by decide)
 obtain ⟨R, hR⟩ : ∃ R, [eBx o s [exE o1 s1 ks1], bZ, eBx o1 s1 ks1, oBx [vC κ1 n1]] = R := ⟨_, rfl⟩
 obtain ⟨A, hA⟩ : ∃ A : List AV, [.ptr l 1 6 0 0, .agg (exE o s [exE o1 s1 ks1]), .own (H.length + 3) 1] = A := ⟨_, rfl⟩
 have hw := ha (H ++ R) (H.length + 3) (By k (by rw [<- hR]; rfl)) (by rw [dz, <- hR]; rfl)
 rw [hA] at hw
 have hE := aF hw func253 rfl (by decide)
 have hv1 := hv.1
 have hv2 := hv.2
 have hv3 := kB κ n
 refine jQ (C := CR 253 A (H ++ R) (aV (vOf κ n)) (H ++ R) LVa) func181 rfl rfl rfl (by show 2 <= _; decide) ?_
 refine ay (iX hE ni) mixed (hd := []) _ (by kernel_rfl) ?_
 have m1 : (CR 253 A (H ++ R) (aV (vOf κ n)) (H ++ R) LVa).S 169 = .pure sVa := rfl
 simp [ac, ag, ae, am, ap, aa, au, ab, ao, ak, ah, ai, aj, argsρ, exE, ho, k.get, k.get0, dz, co, dQ, cr]
 refine bG 2 ?_
 refine mF (C' := CR 181 A1 (H ++ R1) (.agg [.int .i64 κ1, .int .i64 n1, .int .i64 0, .str ⟨#[]⟩, .slice 5 false []]) (H ++ R1) [(253, .gen mZ), (169, .pure sVa)]) (by rfl) (by rfl) (iX hE1 yP) mixed [] (by kernel_rfl) ?_
 simp [ac, ag, ae, am, ap, aa, au, ab, ao, ak, ah, ai, aj, exE, k.get, k.get0, dz, co, dQ, cr, w1]
 refine ⟨⟨by rw [<- hA1]; rfl, by rw [<- hR1]; rfl⟩, ?_⟩
 rw [<- hR1]
 simp [ac, ag, ae, am, ap, aa, au, ab, ao, ak, ah, ai, aj, eBx, oBx, bZ, vC, exE, dz, co, dQ, cr, w1, w2]
 refine aJ (iX hE ni) mixed [] (by kernel_rfl) ?_
 simp [ac, ag, ae, am, ap, aa, au, ab, ao, ak, ah, ai, aj, exE, k.get, k.get0, dz, co, dQ, cr]
 refine ⟨⟨by rw [<- hA]; rfl, by rw [<- hR]; rfl⟩, ?_⟩
 rw [<- hR] at m1 ⊢
 rw [e9V] at m1
 simp only [bZ] at m1
 simp [ac, ag, ae, am, ap, aa, au, ab, ao, ak, ah, ai, aj, e9V, m1, yI, hv1, hv2, hv3, bZ, dz, co, dQ, cr]
 exact g8 k (by simp [AV.cleanF, AV.clean2, AV.clean1])
theorem LV (k : EvH g x y z l H) {o o1 o2 : Int} {s s1 s2 : ByteArray} {ks1 ks2 : List (List AV)} {κ n κ1 n1 κ2 n2 : Int} (ho : ¬ o = 24) (hv : GdV κ n)
  (hk1 : ∀ H', EvH g x y z l H' -> aK prog G0 181 [.ptr l 1 6 0 0, .agg (exE o1 s1 ks1)] H' (aV (vOf κ1 n1)) H')
  (hk2 : ∀ H', EvH g x y z l H' -> aK prog G0 181 [.ptr l 1 6 0 0, .agg (exE o2 s2 ks2)] H' (aV (vOf κ2 n2)) H')
  (ha : ∀ H' j, EvH g x y z l H' -> H'[j]? = some (oBx [vC κ1 n1, vC κ2 n2]) -> aK prog G0 253 [.ptr l 1 6 0 0, .agg (exE o s [exE o1 s1 ks1, exE o2 s2 ks2]), .own j 2] H' (aV (vOf κ n)) H') :
  aK prog G0 181 [.ptr l 1 6 0 0, .agg (exE o s [exE o1 s1 ks1, exE o2 s2 ks2])] H (aV (vOf κ n)) H := by
 obtain ⟨R1, hR1⟩ : ∃ R, [eBx o s [exE o1 s1 ks1, exE o2 s2 ks2], bZ, eBx o1 s1 ks1] = R := ⟨_, rfl⟩
 obtain ⟨A1, hA1⟩ : ∃ A : List AV, [.ptr l 1 6 0 0, .agg (exE o1 s1 ks1)] = A := ⟨_, rfl⟩
 have hw1 := hk1 (H ++ R1) (By k (by rw [<- hR1]; rfl))
 rw [hA1, e9V] at hw1
 have hE1 := aF hw1 func181 rfl (by decide)
 obtain ⟨R2, hR2⟩ : ∃ R, [eBx o s [exE o1 s1 ks1, exE o2 s2 ks2], bZ, eBx o1 s1 ks1, oBx [vC κ1 n1], eBx o2 s2 ks2] = R := ⟨_, rfl⟩
 obtain ⟨A2, hA2⟩ : ∃ A : List AV, [.ptr l 1 6 0 0, .agg (exE o2 s2 ks2)] = A := ⟨_, rfl⟩
 have hw2 := hk2 (H ++ R2) (By k (by rw [<- hR2]; rfl))
 rw [hA2, e9V] at hw2
 have hE2 := aF hw2 func181 rfl (by decide)
 obtain ⟨R, hR⟩ : ∃ R, [eBx o s [exE o1 s1 ks1, exE o2 s2 ks2], bZ, eBx o1 s1 ks1, oBx [vC κ1 n1, vC κ2 n2], eBx o2 s2 ks2] = R := ⟨_, rfl⟩
 obtain ⟨A, hA⟩ : ∃ A : List AV, [.ptr l 1 6 0 0, .agg (exE o s [exE o1 s1 ks1, exE o2 s2 ks2]), .own (H.length + 3) 2] = A := ⟨_, rfl⟩
 have hw := ha (H ++ R) (H.length + 3) (By k (by rw [<- hR]; rfl)) (by rw [dz, <- hR]; rfl)
 rw [hA] at hw
 have hE := aF hw func253 rfl (by decide)
 have hv1 := hv.1
 have hv2 := hv.2
 have hv3 := kB κ n
 refine jQ (C := CR 253 A (H ++ R) (aV (vOf κ n)) (H ++ R) LVa) func181 rfl rfl rfl (by show 2 <= _; decide) ?_
 refine ay (iX hE ni) mixed (hd := []) _ (by kernel_rfl) ?_
 have m1 : (CR 253 A (H ++ R) (aV (vOf κ n)) (H ++ R) LVa).S 169 = .pure sVa := rfl
 simp [ac, ag, ae, am, ap, aa, au, ab, ao, ak, ah, ai, aj, argsρ, exE, ho, k.get, k.get0, dz, co, dQ, cr]
 refine bG 3 ?_
 refine mF (C' := CR 181 A1 (H ++ R1) (.agg [.int .i64 κ1, .int .i64 n1, .int .i64 0, .str ⟨#[]⟩, .slice 5 false []]) (H ++ R1) [(253, .gen mZ), (169, .pure sVa)]) (by rfl) (by rfl) (iX hE1 yP) mixed [] (by kernel_rfl) ?_
 simp [ac, ag, ae, am, ap, aa, au, ab, ao, ak, ah, ai, aj, exE, k.get, k.get0, dz, co, dQ, cr, w1]
 refine ⟨⟨by rw [<- hA1]; rfl, by rw [<- hR1]; rfl⟩, ?_⟩
 rw [<- hR1]
 simp [ac, ag, ae, am, ap, aa, au, ab, ao, ak, ah, ai, aj, eBx, oBx, bZ, vC, exE, dz, co, dQ, cr, w1, w2]
 refine mF (C' := CR 181 A2 (H ++ R2) (.agg [.int .i64 κ2, .int .i64 n2, .int .i64 0, .str ⟨#[]⟩, .slice 5 false []]) (H ++ R2) [(253, .gen mZ), (169, .pure sVa)]) (by rfl) (by rfl) (iX hE2 yP) mixed [] (by kernel_rfl) ?_
 simp [ac, ag, ae, am, ap, aa, au, ab, ao, ak, ah, ai, aj, exE, k.get, k.get0, dz, co, dQ, cr, w1]
 refine ⟨⟨by rw [<- hA2]; rfl, by rw [<- hR2]; rfl⟩, ?_⟩
 rw [<- hR2]
 simp [ac, ag, ae, am, ap, aa, au, ab, ao, ak, ah, ai, aj, eBx, oBx, bZ, vC, exE, dz, co, dQ, cr, w1, w2]
 refine aJ (iX hE ni) mixed [] (by kernel_rfl) ?_
 simp [ac, ag, ae, am, ap, aa, au, ab, ao, ak, ah, ai, aj, exE, k.get, k.get0, dz, co, dQ, cr]
 refine ⟨⟨by rw [<- hA]; rfl, by rw [<- hR]; rfl⟩, ?_⟩
 rw [<- hR] at m1 ⊢
 rw [e9V] at m1
 simp only [bZ] at m1
 simp [ac, ag, ae, am, ap, aa, au, ab, ao, ak, ah, ai, aj, e9V, m1, yI, hv1, hv2, hv3, bZ, dz, co, dQ, cr]
 exact g8 k (by simp [AV.cleanF, AV.clean2, AV.clean1])
end
open Go.Shelf
def Tryz.lays144_ren : Go.Shelf.Ren := ⟨fun | 144 => 210 | 143 => 272 | 219 => 339 | 217 => 389 | 225 => 390 | 224 => 391 | 267 => 392 | 266 => 433 | 314 => 434 | n => n, fun | 9 => 9 | 4 => 4 | 3 => 3 | 5 => 5 | 46 => 207 | 146 => 461 | 51 => 285 | n => n, fun | 1 => 1 | n => n⟩
theorem Tryz.lays144 : Go.Proofs.Lays.n144 prog Tryz.lays144_ren := {
  mixed := by kernel_rfl
  f143 := func272.trans (congrArg some (by kernel_rfl))
  f144 := func210.trans (congrArg some (by kernel_rfl))
  f217 := func389.trans (congrArg some (by kernel_rfl))
  f219 := func339.trans (congrArg some (by kernel_rfl))
  f224 := func391.trans (congrArg some (by kernel_rfl))
  f225 := func390.trans (congrArg some (by kernel_rfl))
  f266 := func433.trans (congrArg some (by kernel_rfl))
  f267 := func392.trans (congrArg some (by kernel_rfl))
  f314 := func434.trans (congrArg some (by kernel_rfl))
  t3 := Tryz.underlying3
  a3 := Tryz.isAgg3
  z3 := Tryz.sizeOf3
  v3 := Tryz.zeroValue3
  t4 := Tryz.underlying4
  a4 := Tryz.isAgg4
  z4 := Tryz.sizeOf4
  v4 := Tryz.zeroValue4
  t5 := Tryz.underlying5
  a5 := Tryz.isAgg5
  z5 := Tryz.sizeOf5
  v5 := Tryz.zeroValue5
  t9 := Tryz.underlying9
  a9 := Tryz.isAgg9
  z9 := Tryz.sizeOf9
  v9 := Tryz.zeroValue9
  t46 := Tryz.underlying207
  a46 := Tryz.isAgg207
  z46 := Tryz.sizeOf207
  v46 := Tryz.zeroValue207
  t51 := Tryz.underlying285
  a51 := Tryz.isAgg285
  z51 := Tryz.sizeOf285
  v51 := Tryz.zeroValue285
  t146 := Tryz.underlying461
  a146 := Tryz.isAgg461
  z146 := Tryz.sizeOf461
  v146 := Tryz.zeroValue461
  g1 := by kernel_rfl }
open Go.RowKit Go.Lib in
theorem Tryz.strings_Contains (s sub : ByteArray) (m : Int) (w : World) (hs : s.size < 4294967281) (hm : w.cell? ⟨1, 0, none⟩ = some (.int .i64 m)) :
    Calls prog 210 #[.string s, .string sub] w fun e w' => e = .returned (.bool (Lib.contains s.data.toList sub.data.toList)) /\ w' = w := Any.strings_Contains Tryz.lays144 s sub m w hs hm
def Tryz.keys292_ren : Go.Shelf.Ren := ⟨fun | 7 => 292 | 10 => 353 | n => n, fun | 23 => 359 | 26 => 9 | 3 => 4 | 28 => 363 | 0 => 0 | 27 => 362 | 33 => 92 | 4 => 4 | n => n, fun | n => n⟩
theorem Tryz.keys292 : Go.Proofs.SlLaysZ.n7 prog Tryz.keys292_ren := {
  mixed := by kernel_rfl
  f7 := ⟨Tryz.f292.name, by decide, func292.trans (congrArg some (by kernel_rfl))⟩
  f10 := ⟨Tryz.f353.name, by decide, func353.trans (congrArg some (by kernel_rfl))⟩
  t0 := Tryz.underlying0
  a0 := Tryz.isAgg0
  z0 := Tryz.sizeOf0
  v0 := Tryz.zeroValue0
  t4 := Tryz.underlying4
  a4 := Tryz.isAgg4
  z4 := Tryz.sizeOf4
  v4 := Tryz.zeroValue4
  t23 := Tryz.underlying359
  a23 := Tryz.isAgg359
  z23 := Tryz.sizeOf359
  v23 := Tryz.zeroValue359
  t26 := Tryz.underlying9
  a26 := Tryz.isAgg9
  z26 := Tryz.sizeOf9
  v26 := Tryz.zeroValue9
  t27 := Tryz.underlying362
  a27 := Tryz.isAgg362
  z27 := Tryz.sizeOf362
  v27 := Tryz.zeroValue362
  t28 := Tryz.underlying363
  a28 := Tryz.isAgg363
  z28 := Tryz.sizeOf363
  v28 := Tryz.zeroValue363
  t33 := Tryz.underlying92
  a33 := Tryz.isAgg92
  z33 := Tryz.sizeOf92
  v33 := Tryz.zeroValue92 }
def Tryz.sorted291_ren : Go.Shelf.Ren := ⟨fun | 6 => 291 | 8 => 352 | 9 => 137 | 11 => 398 | 13 => 127 | 12 => 211 | 23 => 201 | 24 => 202 | 14 => 273 | 15 => 274 | 16 => 275 | 17 => 276 | 18 => 277 | 19 => 278 | 20 => 279 | 21 => 280 | 22 => 281 | 25 => 340 | 26 => 261 | 27 => 262 | 28 => 341 | 29 => 342 | 30 => 283 | 31 => 393 | n => n, fun | 26 => 9 | 28 => 363 | 24 => 35 | 0 => 0 | 3 => 3 | 37 => 207 | 48 => 285 | 50 => 287 | 4 => 4 | 40 => 278 | 39 => 277 | 45 => 185 | 5 => 5 | 9 => 9 | 51 => 339 | 55 => 343 | 57 => 395 | 58 => 305 | 33 => 92 | n => n, fun | n => n⟩
theorem Tryz.sorted291 : Go.Proofs.SlLaysZ.n6 prog Tryz.sorted291_ren := {
  mixed := by kernel_rfl
  f6 := ⟨Tryz.f291.name, by decide, func291.trans (congrArg some (by kernel_rfl))⟩
  f8 := ⟨Tryz.f352.name, by decide, func352.trans (congrArg some (by kernel_rfl))⟩
  f11 := ⟨Tryz.f398.name, by decide, func398.trans (congrArg some (by kernel_rfl))⟩
  t0 := Tryz.underlying0
  a0 := Tryz.isAgg0
  z0 := Tryz.sizeOf0
  v0 := Tryz.zeroValue0
  t24 := Tryz.underlying35
  a24 := Tryz.isAgg35
  z24 := Tryz.sizeOf35
  v24 := Tryz.zeroValue35
  t26 := Tryz.underlying9
  a26 := Tryz.isAgg9
  z26 := Tryz.sizeOf9
  v26 := Tryz.zeroValue9
  t28 := Tryz.underlying363
  a28 := Tryz.isAgg363
  z28 := Tryz.sizeOf363
  v28 := Tryz.zeroValue363
  i26 := by kernel_rfl }
def Tryz.sort137_ren : Go.Shelf.Ren := ⟨fun | 6 => 137 | 8 => 127 | 9 => 211 | 19 => 201 | 20 => 202 | 21 => 273 | 22 => 274 | 23 => 275 | 24 => 276 | 25 => 277 | 26 => 278 | 27 => 279 | 28 => 280 | 29 => 281 | 36 => 340 | 31 => 261 | 32 => 262 | 37 => 341 | 38 => 342 | 39 => 283 | 41 => 393 | n => n, fun | 27 => 35 | 29 => 9 | 3 => 3 | 32 => 207 | 26 => 35 | 0 => 0 | 44 => 285 | 46 => 287 | 4 => 4 | 36 => 278 | 35 => 277 | 41 => 185 | 5 => 5 | 9 => 9 | 53 => 339 | 57 => 343 | 63 => 395 | 64 => 305 | n => n, fun | n => n⟩
theorem Tryz.sort137 : Go.Proofs.SlLaysM.n6 prog Tryz.sort137_ren := {
  mixed := by kernel_rfl
  f6 := ⟨Tryz.f137.name, by decide, func137.trans (congrArg some (by kernel_rfl))⟩
  f8 := func127.trans (congrArg some (by kernel_rfl))
  f9 := ⟨Tryz.f211.name, by decide, func211.trans (congrArg some (by kernel_rfl))⟩
  f19 := func201.trans (congrArg some (by kernel_rfl))
  f20 := func202.trans (congrArg some (by kernel_rfl))
  f21 := ⟨Tryz.f273.name, by decide, func273.trans (congrArg some (by kernel_rfl))⟩
  f22 := ⟨Tryz.f274.name, by decide, func274.trans (congrArg some (by kernel_rfl))⟩
  f23 := ⟨Tryz.f275.name, by decide, func275.trans (congrArg some (by kernel_rfl))⟩
  f24 := ⟨Tryz.f276.name, by decide, func276.trans (congrArg some (by kernel_rfl))⟩
  f25 := ⟨Tryz.f277.name, by decide, func277.trans (congrArg some (by kernel_rfl))⟩
  f26 := ⟨Tryz.f278.name, by decide, func278.trans (congrArg some (by kernel_rfl))⟩
  f27 := ⟨Tryz.f279.name, by decide, func279.trans (congrArg some (by kernel_rfl))⟩
  f28 := ⟨Tryz.f280.name, by decide, func280.trans (congrArg some (by kernel_rfl))⟩
  f29 := ⟨Tryz.f281.name, by decide, func281.trans (congrArg some (by kernel_rfl))⟩
  f31 := func261.trans (congrArg some (by kernel_rfl))
  f32 := func262.trans (congrArg some (by kernel_rfl))
  f36 := ⟨Tryz.f340.name, by decide, func340.trans (congrArg some (by kernel_rfl))⟩
  f37 := ⟨Tryz.f341.name, by decide, func341.trans (congrArg some (by kernel_rfl))⟩
  f38 := ⟨Tryz.f342.name, by decide, func342.trans (congrArg some (by kernel_rfl))⟩
  f39 := ⟨Tryz.f283.name, by decide, func283.trans (congrArg some (by kernel_rfl))⟩
  f41 := ⟨Tryz.f393.name, by decide, func393.trans (congrArg some (by kernel_rfl))⟩
  t0 := Tryz.underlying0
  a0 := Tryz.isAgg0
  z0 := Tryz.sizeOf0
  v0 := Tryz.zeroValue0
  t3 := Tryz.underlying3
  a3 := Tryz.isAgg3
  z3 := Tryz.sizeOf3
  v3 := Tryz.zeroValue3
  t4 := Tryz.underlying4
  a4 := Tryz.isAgg4
  z4 := Tryz.sizeOf4
  v4 := Tryz.zeroValue4
  t5 := Tryz.underlying5
  a5 := Tryz.isAgg5
  z5 := Tryz.sizeOf5
  v5 := Tryz.zeroValue5
  t9 := Tryz.underlying9
  a9 := Tryz.isAgg9
  z9 := Tryz.sizeOf9
  v9 := Tryz.zeroValue9
  t26 := Tryz.underlying35
  a26 := Tryz.isAgg35
  z26 := Tryz.sizeOf35
  v26 := Tryz.zeroValue35
  t27 := Tryz.underlying35
  a27 := Tryz.isAgg35
  z27 := Tryz.sizeOf35
  v27 := Tryz.zeroValue35
  t29 := Tryz.underlying9
  a29 := Tryz.isAgg9
  z29 := Tryz.sizeOf9
  v29 := Tryz.zeroValue9
  t32 := Tryz.underlying207
  a32 := Tryz.isAgg207
  z32 := Tryz.sizeOf207
  v32 := Tryz.zeroValue207
  t35 := Tryz.underlying277
  a35 := Tryz.isAgg277
  z35 := Tryz.sizeOf277
  v35 := Tryz.zeroValue277
  t36 := Tryz.underlying278
  a36 := Tryz.isAgg278
  z36 := Tryz.sizeOf278
  v36 := Tryz.zeroValue278
  t41 := Tryz.underlying185
  a41 := Tryz.isAgg185
  z41 := Tryz.sizeOf185
  v41 := Tryz.zeroValue185
  t44 := Tryz.underlying285
  a44 := Tryz.isAgg285
  z44 := Tryz.sizeOf285
  v44 := Tryz.zeroValue285
  t46 := Tryz.underlying287
  a46 := Tryz.isAgg287
  z46 := Tryz.sizeOf287
  v46 := Tryz.zeroValue287
  t53 := Tryz.underlying339
  a53 := Tryz.isAgg339
  z53 := Tryz.sizeOf339
  v53 := Tryz.zeroValue339
  t57 := Tryz.underlying343
  a57 := Tryz.isAgg343
  z57 := Tryz.sizeOf343
  v57 := Tryz.zeroValue343
  t63 := Tryz.underlying395
  a63 := Tryz.isAgg395
  z63 := Tryz.sizeOf395
  v63 := Tryz.zeroValue395
  t64 := Tryz.underlying305
  a64 := Tryz.isAgg305
  z64 := Tryz.sizeOf305
  v64 := Tryz.zeroValue305 }
def GL (P : Program) (f : FuncId) : Bool := match P.funcs[f]? with
 | some fn => fn.body.isSome && decide (fn.name ≠ "runtime.NumGoroutine")
 | none => false
theorem Bj {C : Ctx} {f : FuncId} {fn : Func} {body : Code} {rs : List ResultVar} {n : Nat} (hf : C.P.funcs[f]? = some fn) (hb : fn.body = some body) (hrs : fn.results.toList = rs) (hn : fn.ntmps = n) {g : List AV -> List Blk -> Option (Prop × AV × List Blk)}
  (h : ∀ avs H ob r H', g avs H = some (ob, r, H') -> ob -> avs.length <= n /\ AW C n H.length body ⟨argsρ 0 avs, H⟩ λ ex st' => (ex = .normal ∨ ex = .ret) /\ ∃ ob', bR C st' rs = some (ob', r) /\ ob' /\ st'.H = H') : bg C.P C.G f g := by
 subst hrs hn
 intro w X β H args avs ob r H' R hG hsz harg hp hob
 obtain ⟨hlen, hav⟩ := h avs H ob r H' hp hob
 refine calls_of_wp hf hb ?_
 have hr : Rel C fn.ntmps X w β H ⟨argsρ 0 avs, H⟩ { tmps := args ++ Array.replicate (fn.ntmps - args.size) undef, defers := [] } w :=
  ⟨β, R, StepR.refl _ _ _ R.len, ed hsz harg, hG, by simp; omega, rfl⟩
 refine Code.wp_mono (λ ex a' w' ⟨st', hq, hr'⟩ => ?_) (hav X w β H _ w rfl hr)
 obtain ⟨hex, ob', hres, hob', hH⟩ := hq
 obtain ⟨β', R', S', T', G', hN', hdef'⟩ := hr'
 obtain ⟨u, hu, hrep⟩ := ck R' T' hres hob'
 subst hH
 have hpost : bodyPost C.P fn (λ e w' => ∃ v β', e = .returned v /\ HRel w' X β' st'.H /\ StepR w β H w' β' st'.H /\ Rep w' (Mu X β' st'.H) β' st'.H v r) .normal a' w' :=
  ⟨hdef', u, hu, u, β', rfl, R', S', hrep⟩
 rcases hex with rfl | rfl
 ·exact hpost
 ·exact hpost
def JX (n : Int) : Bool := decide (-9223372036854775808 <= n) && decide (n <= 9223372036854775807)
theorem x9 {n : Int} (h : JX n = true) : I64 n := by
 unfold JX at h
 rw [Bool.and_eq_true, decide_eq_true_eq, decide_eq_true_eq] at h
 exact h
def Cp (op : BinOp) (x y : AV) : Bool :=
 match x, y with
 | .int _ _, .int _ b => match op with
  | .shl | .shr => decide (0 <= b)
  | .quo | .rem => decide (b ≠ 0)
  | _ => true
 | .str a, .str b => decide (a.size + b.size < 1000000000000)
 | _, _ => true
theorem lQ (k : IntKind) (n : Int) : (fU k n).1 := by unfold fU; split <;> trivial
theorem Cq {op : BinOp} {k : IntKind} {a b : Int} {ob : Prop} {r : AV} (h : rt op k a b = some (ob, r)) (hb : op = .quo ∨ op = .rem -> b ≠ 0) : ob := by
 cases op <;> simp only [rt, Option.some.injEq, Prod.mk.injEq, reduceCtorEq] at h
 case add =>
  have e : (fU k (a + b)).1 = ob := by rw [h]
  exact e ▸ lQ k _
 case sub =>
  have e : (fU k (a - b)).1 = ob := by rw [h]
  exact e ▸ lQ k _
 case mul =>
  have e : (fU k (a * b)).1 = ob := by rw [h]
  exact e ▸ lQ k _
 case quo => rw [<- h.1]; exact ⟨hb (.inl rfl), lQ k _⟩
 case rem => rw [<- h.1]; exact hb (.inr rfl)
 all_goals (rw [<- h.1]; trivial)
theorem Cs {op : BinOp} {a b : ByteArray} {ob : Prop} {r : AV} (h : ru op a b = some (ob, r)) (hb : a.size + b.size < 1000000000000) : ob := by
 cases op <;> simp only [ru, Option.some.injEq, Prod.mk.injEq, reduceCtorEq] at h <;> (rw [<- h.1]; first | exact hb | trivial)
section
variable {C : Ctx}
theorem FM {op : BinOp} {t : TypeId} {x y : AV} {ob : Prop} {r : AV} (h : xG C op t x y = some (ob, r)) (hb : Cp op x y = true) : ob := by
 unfold xG at h
 split at h
 ·unfold Cp at hb
  split at h
  ·injection h with h; injection h with h1 h2; rw [<- h1]; exact of_decide_eq_true hb
  ·injection h with h; injection h with h1 h2; rw [<- h1]; exact of_decide_eq_true hb
  ·rename_i n1 n2
   split at h
   ·refine Cq h λ hq => ?_
    rcases hq with rfl | rfl <;> exact of_decide_eq_true hb
   ·cases h
 ·exact Cs h (of_decide_eq_true hb)
 ·split at h
  ·split at h
   ·injection h with h; injection h with h1 h2; rw [<- h1]; trivial
   ·injection h with h; injection h with h1 h2; rw [<- h1]; trivial
   ·cases h
  ·cases h
 ·split at h
  ·split at h
   ·injection h with h; injection h with h1 h2; rw [<- h1]; trivial
   ·injection h with h; injection h with h1 h2; rw [<- h1]; trivial
   ·cases h
  ·cases h
 all_goals first
  | (cases h; done)
  | skip
 all_goals
  split at h
  ·unfold lO at h
   split at h
   ·injection h with h; injection h with h1 h2; rw [<- h1]; trivial
   ·injection h with h; injection h with h1 h2; rw [<- h1]; trivial
   ·cases h
  ·cases h
theorem Cr {op : BinOp} {t : TypeId} {x : AV} {ob : Prop} {r : AV} (h : oV C op t x = some (ob, r)) : ob := by
 unfold oV at h
 split at h
 ·split at h
  all_goals first
   | (cases h; done)
   | (injection h with h; injection h with h1 h2; rw [<- h1]; trivial)
 ·cases h
theorem Jm {op : UnOp} {x : AV} {ob : Prop} {r : AV} (h : aun op x = some (ob, r)) : ob := by
 unfold aun at h
 split at h <;> first | (cases h; done) | (injection h with h; injection h with h1 h2; rw [<- h1]; trivial)
def Ct (x : AV) : Bool := match x with | .str s => decide (s.size < 1000000000000) | _ => true
theorem Cu {s t : TypeId} {x : AV} {ob : Prop} {r : AV} (h : oZ C s t x = some (ob, r)) (hb : Ct x = true) : ob := by
 unfold oZ at h
 split at h
 ·split at h
  ·injection h with h; injection h with h1 h2; rw [<- h1]; trivial
  ·cases h
 ·split at h
  ·injection h with h; injection h with h1 h2; rw [<- h1]; trivial
  ·split at h
   ·split at h
    ·injection h with h; injection h with h1 h2; rw [<- h1]; exact of_decide_eq_true hb
    ·cases h
   ·cases h
 ·cases h
def rQ (C : Ctx) (t : TypeId) (cells : List AV) : Bool :=
 match cj C.P t with
 | some true => decide (szT C.P t <= cells.length)
 | some false => decide (0 < cells.length)
 | none => true
theorem lY {t : TypeId} {cells : List AV} {ob : Prop} {r : AV} (h : j7 C t cells = some (ob, r)) (hb : rQ C t cells = true) : ob := by
 unfold j7 at h
 unfold rQ at hb
 split at h
 ·rename_i e
  rw [e] at hb
  split at h
  ·cases h
  ·injection h with h; injection h with h1 h2; rw [<- h1]; exact of_decide_eq_true hb
 ·rename_i e
  rw [e] at hb
  injection h with h; injection h with h1 h2; rw [<- h1]; exact of_decide_eq_true hb
 ·cases h
def sW (C : Ctx) (t : TypeId) (x : AV) (k : Nat) : Bool :=
 match x, bz C.P t k with
 | .agg cs, some (off, ty) => rQ C ty (cs.drop off)
 | _, _ => true
theorem AQ {t : TypeId} {x : AV} {k : Nat} {ob : Prop} {r : AV} (h : lj C t x k = some (ob, r)) (hb : sW C t x k = true) : ob := by
 unfold lj at h
 unfold sW at hb
 split at h
 ·rename_i e
  rw [e] at hb
  exact lY h hb
 ·cases h
theorem qT {t : TypeId} {x : AV} {k : Nat} {ob : Prop} {r : AV} (h : eD C t x k = some (ob, r)) : ob := by
 unfold eD at h
 split at h
 ·split at h
  ·cases h
  ·split at h <;> first | (cases h; done) | (injection h with h; injection h with h1 h2; rw [<- h1]; trivial)
 ·cases h
def tI (i : Int) (n : Nat) : Bool := decide (0 <= i) && decide (i < n)
theorem eG {i : Int} {n : Nat} (h : tI i n = true) : 0 <= i /\ i < n := by
 unfold tI at h
 rw [Bool.and_eq_true, decide_eq_true_eq, decide_eq_true_eq] at h
 exact h
def jJ (C : Ctx) (t : TypeId) (x ix : AV) : Bool :=
 match ix with
 | .int _ i => match x with
  | .slice _ _ rows => tI i rows.length
  | .own _ n => tI i n
  | .osl _ _ _ _ n => tI i n
  | .ptr .. => match cZ C.P t with | some (m, _) => tI i m | none => true
  | .iptr _ => match cZ C.P t with | some (m, _) => tI i m | none => true
  | _ => true
 | _ => true
theorem qU {t : TypeId} {x ix : AV} {ob : Prop} {r : AV} (h : eE C t x ix = some (ob, r)) (hb : jJ C t x ix = true) : ob := by
 unfold eE at h
 unfold jJ at hb
 split at h
 ·split at h
  ·split at h
   ·cases h
   ·split at h
    ·split at h
     ·injection h with h; injection h with h1 h2; rw [<- h1]; exact eG hb
     ·cases h
    ·injection h with h; injection h with h1 h2; rw [<- h1]; exact eG hb
    ·split at h
     ·injection h with h; injection h with h1 h2; rw [<- h1]; exact eG hb
     ·cases h
    ·cases h
  ·rename_i e1 e2
   split at h
   ·cases h
   ·split at h
    ·simp only [e2] at hb
     injection h with h; injection h with h1 h2; rw [<- h1]; exact eG hb
    ·simp only [e2] at hb
     injection h with h; injection h with h1 h2; rw [<- h1]; exact eG hb
    ·cases h
  ·cases h
 ·cases h
def sY (C : Ctx) (t : TypeId) (x ix : AV) : Bool :=
 match x, ix with
 | .str s, .int _ i => tI i s.size
 | .agg cs, .int _ i => match cZ C.P t with
  | some (n, e) => tI i n && rQ C e (cs.drop (i.toNat * szT C.P e))
  | none => true
 | _, _ => true
theorem AR {t : TypeId} {x ix : AV} {ob : Prop} {r : AV} (h : lk C t x ix = some (ob, r)) (hb : sY C t x ix = true) : ob := by
 unfold lk at h
 unfold sY at hb
 split at h
 ·split at h
  ·injection h with h; injection h with h1 h2; rw [<- h1]; exact eG hb
  ·cases h
 ·split at h
  ·rename_i e
   simp only [e, Bool.and_eq_true] at hb
   split at h
   ·cases h
   ·split at h
    ·rename_i hh
     injection h with h; injection h with h1 h2; rw [<- h1]; exact ⟨eG hb.1, lY hh hb.2⟩
    ·cases h
  ·cases h
 ·cases h
def td (C : Ctx) (x : AV) (lo hi mx : Option AV) : Bool :=
 match x with
 | .str s => match pc lo, jI s.size hi with
  | some l, some h => decide (0 <= l) && decide (l <= h) && decide (h <= s.size)
  | _, _ => true
 | .slice _ _ rows => match mx, pc lo, jI rows.length hi with
  | none, some l, some h => decide (0 <= l) && decide (l <= h) && decide (h <= rows.length)
  | some (.int _ m), some l, some h => decide (0 <= l) && decide (l <= h) && decide (h <= rows.length) && decide (m = h) && hi.isSome
  | _, _, _ => true
 | .own _ n => match mx, pc lo, jI n hi with
  | none, some l, some h => decide (0 <= l) && decide (l <= h) && decide (h <= n)
  | some (.int _ m), some l, some h => decide (0 <= l) && decide (l <= h) && decide (h <= m) && decide (m <= n) && hi.isSome
  | _, _, _ => true
 | .osl _ n _ off len => match mx, pc lo, jI len hi with
  | none, some l, some h => decide (0 <= l) && decide (l <= h) && (decide (h <= len) || decide ((off : Int) + h <= n))
  | _, _, _ => true
 | _ => true
theorem AX {t : TypeId} {x : AV} {lo hi mx : Option AV} {ob : Prop} {r : AV} (h : lq C t x lo hi mx = some (ob, r)) (hb : td C x lo hi mx = true) : ob := by
 unfold lq at h
 unfold td at hb
 split at h
 ·split at h
  ·split at h
   ·rename_i e1 e2
    simp only [e1, e2, Bool.and_eq_true, decide_eq_true_eq] at hb
    injection h with h; injection h with h1 h2; rw [<- h1]; exact ⟨hb.1.1, hb.1.2, hb.2⟩
   ·cases h
  ·cases h
 ·split at h
  ·split at h
   ·split at h
    ·rename_i e1 e2
     simp only [e1, e2, Bool.and_eq_true, decide_eq_true_eq] at hb
     injection h with h; injection h with h1 h2; rw [<- h1]; exact ⟨hb.1.1, hb.1.2, hb.2⟩
    ·rename_i e1 e2
     simp only [e1, e2, Bool.and_eq_true, decide_eq_true_eq] at hb
     injection h with h; injection h with h1 h2; rw [<- h1]; exact ⟨hb.1.1.1.1, hb.1.1.1.2, hb.1.1.2, hb.1.2, hb.2⟩
    ·cases h
   ·cases h
  ·cases h
 ·split at h
  ·split at h
   ·split at h
    ·rename_i e1 e2
     simp only [e1, e2, Bool.and_eq_true, decide_eq_true_eq] at hb
     injection h with h; injection h with h1 h2; rw [<- h1]; exact ⟨hb.1.1, hb.1.2, hb.2⟩
    ·rename_i e1 e2
     simp only [e1, e2, Bool.and_eq_true, decide_eq_true_eq] at hb
     injection h with h; injection h with h1 h2; rw [<- h1]; exact ⟨hb.1.1.1.1, hb.1.1.1.2, hb.1.1.2, hb.1.2, hb.2⟩
    ·cases h
   ·cases h
  ·cases h
 ·split at h
  ·split at h
   ·split at h
    ·rename_i e1 e2
     simp only [e1, e2, Bool.and_eq_true, Bool.or_eq_true, decide_eq_true_eq] at hb
     injection h with h; injection h with h1 h2; rw [<- h1]; exact ⟨hb.1.1, hb.1.2, hb.2⟩
    ·cases h
   ·cases h
  ·cases h
 ·cases h
def Gz : AV -> Bool
 | .int _ n => JX n
 | .str s => decide (s.size <= 9223372036854775807)
 | _ => true
theorem Dv {P : Program} {t : TypeId} {x : AV} {ob : Prop} {l : Lit} (h : rX P t x = some (ob, l)) (hb : Gz x = true) : ob := by
 unfold rX at h
 split at h
 ·split at h
  ·injection h with h; injection h with h1 h2; rw [<- h1]; trivial
  ·cases h
 ·split at h
  ·injection h with h; injection h with h1 h2; rw [<- h1]; exact x9 hb
  ·cases h
 ·split at h
  ·injection h with h; injection h with h1 h2; rw [<- h1]; exact of_decide_eq_true hb
  ·cases h
 ·cases h
theorem Cv {t : TypeId} {m x : AV} {ok : Bool} {ob : Prop} {r : AV} (h : ry C t m x ok = some (ob, r)) (hb : Gz x = true) : ob := by
 unfold ry at h
 split at h
 ·split at h
  ·split at h
   ·split at h
    ·rename_i e1 e2
     injection h with h; injection h with h1 h2; rw [<- h1]; exact Dv e1 hb
    ·cases h
   ·cases h
  ·cases h
 ·cases h
theorem AS {H : List Blk} {t : TypeId} {m x : AV} {ok : Bool} {ob : Prop} {r : AV} (h : ac C H t m x ok = some (ob, r)) (hb : Gz x = true) : ob := by
 unfold ac at h
 split at h
 ·unfold ag at h
  split at h
  ·split at h
   ·split at h
    ·injection h with h; injection h with h1 h2; rw [<- h1]; trivial
    ·cases h
   ·cases h
  ·cases h
 ·unfold ae at h
  split at h
  ·split at h
   ·split at h
    ·injection h with h; injection h with h1 h2; rw [<- h1]; trivial
    ·cases h
   ·cases h
  ·cases h
 ·exact Cv h hb
theorem Cy {c a b : AV} {ob : Prop} {r : AV} (h : pm c a b = some (ob, r)) : ob := by
 unfold pm at h
 split at h
 ·split at h <;> (injection h with h; injection h with h1 h2; rw [<- h1]; trivial)
 ·cases h
theorem AN {ρ : List (Nat × AV)} {t : TypeId} {parts : List (Nat × Operand)} {ob : Prop} {r : AV} (h : iy C ρ t parts = some (ob, r)) : ob := by
 unfold iy at h
 split at h
 ·split at h
  ·split at h
   ·split at h
    ·injection h with h; injection h with h1 h2; rw [<- h1]; trivial
    ·cases h
   ·cases h
  ·split at h
   ·cases h
   ·split at h
    ·injection h with h; injection h with h1 h2; rw [<- h1]; trivial
    ·cases h
 ·cases h
theorem FT {t : TypeId} {x : AV} {ob : Prop} {r : AV} (h : xJ C t x = some (ob, r)) : ob := by
 unfold xJ at h
 repeat' split at h
 all_goals first
  | (cases h; done)
  | (injection h with h; injection h with h1 h2; rw [<- h1]; trivial)
end
def eqL {α : Type} (f : α -> α -> Bool) : List α -> List α -> Bool
 | [], [] => true
 | a :: r, b :: q => f a b && eqL f r q
 | _, _ => false
theorem eQ {α : Type} {f : α -> α -> Bool} (hf : ∀ a b, f a b = true -> a = b) : ∀ {l m : List α}, eqL f l m = true -> l = m
 | [], [], _ => rfl
 | a :: r, b :: q, h => by
  simp only [eqL, Bool.and_eq_true] at h
  rw [hf a b h.1, eQ hf h.2]
 | [], _ :: _, h => by simp [eqL] at h
 | _ :: _, [], h => by simp [eqL] at h
def pE : Nat -> AV -> AV -> Bool
 | 0, _, _ => false
 | _ + 1, .undef, .undef => true
 | _ + 1, .bool a, .bool b => a == b
 | _ + 1, .int k a, .int j b => decide (k = j) && a == b
 | _ + 1, .str a, .str b => decide (a = b)
 | n + 1, .slice a f r, .slice b g q => a == b && f == g && eqL (eqL (pE n)) r q
 | _ + 1, .own a b, .own c d => a == c && b == d
 | _ + 1, .osl a b c d e, .osl a' b' c' d' e' => a == a' && b == b' && c == c' && d == d' && e == e'
 | _ + 1, .ptr a b c d e, .ptr a' b' c' d' e' => a == a' && b == b' && c == c' && d == d' && e == e'
 | n + 1, .iptr r, .iptr q => eqL (pE n) r q
 | _ + 1, .nilptr, .nilptr => true
 | n + 1, .agg r, .agg q => eqL (pE n) r q
 | n + 1, .tup r, .tup q => eqL (pE n) r q
 | n + 1, .fn f r, .fn g q => f == g && eqL (pE n) r q
 | _ + 1, .mapo a, .mapo b => a == b
 | _, _, _ => false
theorem jf : ∀ (n : Nat) {a b : AV}, pE n a b = true -> a = b
 | 0, _, _, h => by simp [pE] at h
 | n + 1, a, b, h => by
  have ih := λ (a b : AV) => jf n (a := a) (b := b)
  have ihL := λ {l m : List AV} => eQ ih (l := l) (m := m)
  have ihLL := λ {l m : List (List AV)} => eQ (λ a b h => eQ ih h) (l := l) (m := m)
  unfold pE at h
  split at h <;> (try (rename_i hq; obtain rfl := Nat.succ.inj hq)) <;> (try simp only [Bool.and_eq_true, beq_iff_eq, decide_eq_true_eq, reduceCtorEq, Bool.false_eq_true] at h) <;> first
   | rfl
   | (rw [h])
   | (rw [h.1, h.2])
   | (rw [h.1.1, h.1.2, ihLL h.2])
   | (rw [ihL h])
   | (rw [h.1, ihL h.2])
   | (rw [h.1.1.1.1, h.1.1.1.2, h.1.1.2, h.1.2, h.2])
   | (cases h)
section
variable (C : Ctx) (BE : FuncId -> List AV -> List Blk -> Bool)
def s6 (H : List Blk) (t : TypeId) (p : AV) : Bool :=
 match p with
 | .iptr cs => rQ C t cs
 | .ptr l n sz i f => match H[l]? with
  | some b => decide (b.rows.length = n) && decide (b.sz = sz) && decide (i < n) && rQ C t ((dq b.rows i).drop f)
  | none => true
 | _ => true
def ti : List AV -> Bool
 | [.int .u8 n] => decide (0 <= n) && decide (n < 256)
 | _ => false
def sP (H : List Blk) (x : AV) : Bool :=
 match aX H 6 x with
 | .slice 1 _ rows => rows.all ti
 | _ => true
def tf (H : List Blk) (t : TypeId) (p x : AV) : Bool :=
 match p with
 | .ptr l n sz i f => match H[l]?, fP C t x with
  | some b, some cs => decide (b.rows.length = n) && decide (b.sz = sz) && decide (i < n) && decide (f + cs.length <= sz)
  | _, _ => true
 | _ => true
def xL (t : TypeId) (l c : AV) : Bool :=
 match elT C.P t, l, c with
 | some e, .int _ l, .int _ c => decide (0 <= l) && decide (l <= c) && decide (c.toNat * byT C.P e <= 140737488355328) && decide (c < 1000000000000)
 | _, _, _ => true
def CA (H : List Blk) (t : TypeId) (m : AV) : Bool :=
 match m, au C t with
 | .mapo l, some (kb, _) => match ab H l kb with
  | some (_, ents) => decide (ents.length < 1000000000000)
  | none => true
 | _, _ => true
def nk (H : List Blk) (e : TypeId) (x : AV) : Bool × List (List AV) × Bool :=
 match x with
 | .slice _ _ ys => (true, ys, true)
 | .own l' n' => match H[l']? with
  | some b' => (decide (b'.rows.length = n'), b'.rows, b'.deep)
  | none => (true, [], true)
 | .osl l' n' _ off len => match H[l']? with
  | some b' => (decide (b'.rows.length = n'), (b'.rows.drop off).take len, b'.deep)
  | none => (true, [], true)
 | _ => (true, [], true)
def oU (H : List Blk) (t : TypeId) (s x : AV) : Bool :=
 match elT C.P t with
 | some e => match s with
  | .slice _ _ rows => (nk H e x).1 && (rows.isEmpty || !(nk H e x).2.1.isEmpty) && decide ((rows ++ (nk H e x).2.1).length * byT C.P e <= 140737488355328) && decide ((rows ++ (nk H e x).2.1).length < 1000000000000)
  | .own l n => match H[l]? with
   | some b => (nk H e x).1 && ((nk H e x).2.2 || !(nk H e x).2.1.isEmpty) && decide (b.rows.length = n) && decide ((b.rows ++ (nk H e x).2.1).length * byT C.P e <= 140737488355328) && decide ((b.rows ++ (nk H e x).2.1).length < 1000000000000)
   | none => true
  | .osl .. => false
  | _ => true
 | none => true
def obS (st : ASt) (o : Oper) : Bool :=
 match o.op with
 | .binOp op t x y ty => if ke y then true else Cp op (aev C st.ρ t x) (aev C st.ρ ty y)
 | .convert src dst x => Ct (aev C st.ρ src x) && sP st.H (aev C st.ρ src x)
 | .field t x k => sW C t (aev C st.ρ t x) k
 | .indexAddr t x ix => jJ C t (aev C st.ρ t x) (aev C st.ρ 0 ix)
 | .index t x ix => sY C t (aev C st.ρ t x) (aev C st.ρ 0 ix)
 | .slice t x lo hi mx => td C (aev C st.ρ t x) (lo.map (aev C st.ρ 0)) (hi.map (aev C st.ρ 0)) (mx.map (aev C st.ρ 0))
 | .lookup t m x ok => Gz (aev C st.ρ 0 x)
 | .load t p => s6 C st.H t (aev C st.ρ 0 p)
 | .store t p x => tf C st.H t (aev C st.ρ 0 p) (aev C st.ρ t x)
 | .makeSlice t l c => xL C t (aev C st.ρ 0 l) (aev C st.ρ 0 c)
 | .mapUpdate t m x v => CA C st.H t (aev C st.ρ 0 m)
 | .call c => match c.callee with
  | .builtin .append => match c.args.toList, c.argTypes.toList with
   | [s, x], [t, t'] => oU C st.H t (aev C st.ρ t s) (aev C st.ρ t' x)
   | _, _ => true
  | .builtin .clear => false
  | .builtin .copy => false
  | .builtin _ => true
  | _ => match target C st.ρ c with
   | some (f, args) => BE f args st.H
   | none => true
 | _ => true
def eX (f : FuncId) (args : List AV) (H : List Blk) : Prop :=
 match C.S f with
 | .no => True
 | .pure p => ∀ ob r, p (args.map (aX H 6)) = some (ob, r) -> ob
 | .frz p => ∀ ob r, p (args.map (aX H 6)) = some (ob, r) -> ob
 | .gen g => ∀ ob r H', g args H = some (ob, r, H') -> ob
end
section
variable {C : Ctx} {BE : FuncId -> List AV -> List Blk -> Bool}
theorem uZ {H : List Blk} {t : TypeId} {p : AV} {ob : Prop} {r : AV} (h : nr C H t p = some (ob, r)) (hb : s6 C H t p = true) : ob := by
 unfold nr at h
 unfold s6 at hb
 split at h
 ·exact lY h hb
 ·split at h
  ·rename_i e
   simp only [e, Bool.and_eq_true, decide_eq_true_eq] at hb
   split at h
   ·rename_i hh
    injection h with h; injection h with h1 h2; rw [<- h1]; exact ⟨⟨hb.1.1.1, hb.1.1.2, hb.1.2⟩, lY hh hb.2⟩
   ·cases h
  ·cases h
 ·cases h
theorem pu : ∀ (l : List (List AV)), l.all ti = true -> l = (l.map λ r => match r with | [.int _ n] => UInt8.ofNat n.toNat | _ => 0).map λ c => [AV.int .u8 (c.toNat : Int)]
 | [], _ => rfl
 | r :: q, h => by
  simp only [all_cons, Bool.and_eq_true] at h
  have ih := pu q h.2
  have h1 := h.1
  unfold ti at h1
  split at h1
  ·rename_i n
   simp only [Bool.and_eq_true, decide_eq_true_eq] at h1
   rw [map_cons, map_cons, <- ih]
   have : ((UInt8.ofNat n.toNat).toNat : Int) = n := by simp; omega
   simp only [this]
  ·cases h1
theorem AO {H : List Blk} {s t : TypeId} {x : AV} {ob : Prop} {r : AV} (h : fC C H s t x = some (ob, r)) (hb : sP H x = true) : ob := by
 unfold fC at h
 unfold sP at hb
 split at h
 ·split at h
  ·split at h
   ·rename_i e
    simp only [e] at hb
    injection h with h; injection h with h1 h2; rw [<- h1]
    unfold dK unB
    exact pu _ hb
   ·cases h
  ·cases h
 ·cases h
theorem AZ {H H' : List Blk} {t : TypeId} {p x : AV} {ob : Prop} {r : AV} (h : lu C H t p x = some (ob, r, H')) (hb : tf C H t p x = true) : ob := by
 unfold lu at h
 unfold tf at hb
 split at h
 ·split at h
  ·rename_i e
   split at h
   ·split at h
    ·rename_i e2
     simp only [e, e2, Bool.and_eq_true, decide_eq_true_eq] at hb
     injection h with h; injection h with h1 h2; rw [<- h1]; exact ⟨hb.1.1.1, hb.1.1.2, hb.1.2, hb.2⟩
    ·cases h
   ·cases h
  ·cases h
 ·cases h
theorem Cw {H H' : List Blk} {t : TypeId} {l c : AV} {ob : Prop} {r : AV} (h : pf C H t l c = some (ob, r, H')) (hb : xL C t l c = true) : ob := by
 unfold pf at h
 unfold xL at hb
 split at h
 ·rename_i e
  simp only [e, Bool.and_eq_true, decide_eq_true_eq] at hb
  split at h
  ·injection h with h; injection h with h1 h2; rw [<- h1]; exact ⟨hb.1.1.1, hb.1.1.2, hb.1.2, hb.2⟩
  ·cases h
 ·cases h
theorem FU {H H' : List Blk} {t : TypeId} {m x v : AV} {ob : Prop} {r : AV} (h : am C H t m x v = some (ob, r, H')) (hb : CA C H t m = true) : ob := by
 unfold am at h
 unfold CA at hb
 split at h
 ·rename_i e
  simp only [e] at hb
  split at h
  ·rename_i e2
   simp only [e2] at hb
   split at h
   ·injection h with h; injection h with h1 h2; rw [<- h1]; exact of_decide_eq_true hb
   ·cases h
  ·cases h
 ·cases h
theorem yc {α β : Type} {a : List α} {b : List β} (h : (a.isEmpty || !b.isEmpty) = true) : a = [] ∨ b ≠ [] := by
 cases a <;> cases b <;> simp_all
theorem xF {H H' : List Blk} {t : TypeId} {s x : AV} {ob : Prop} {r : AV} (h : nq C H t s x = some (ob, r, H')) (hb : oU C H t s x = true) : ob := by
 unfold nq at h
 unfold oU at hb
 split at h
 ·cases he : elT C.P t <;> simp only [he] at hb
  ·split at h
   ·cases h
   ·split at h
    ·split at h
     ·rename_i e1 e2
      unfold gw at e1
      rw [he] at e1
      cases e1
     ·cases h
    ·rw [he] at h; cases h
  ·cases hb
 ·rename_i hno
  unfold gw at h
  split at h
  ·rename_i e he
   simp only [he] at hb
   split at h
   ·cases h
   ·have key : ∀ ob1 ys dp, (match x with
      | .slice sx _ ys => if sx = szT C.P e then some (True, ys, true) else none
      | .own l' n' => match H[l']? with
       | some b' => if b'.sz = szT C.P e then some (b'.rows.length = n', b'.rows, b'.deep) else none
       | none => none
      | .osl l' n' sz' off len => match H[l']? with
       | some b' => if b'.sz = szT C.P e /\ sz' = szT C.P e then some (b'.rows.length = n', (b'.rows.drop off).take len, b'.deep) else none
       | none => none
      | _ => none : Option (Prop × List (List AV) × Bool)) = some (ob1, ys, dp) -> (nk H e x).2.1 = ys /\ (nk H e x).2.2 = dp /\ ((nk H e x).1 = true -> ob1) := by
     intro ob1 ys dp hq
     unfold nk
     split at hq
     ·split at hq
      ·injection hq with hq; injection hq with h1 h2; injection h2 with h2 h3; subst h1 h2 h3; exact ⟨rfl, rfl, λ _ => trivial⟩
      ·cases hq
     ·split at hq
      ·rename_i e1
       split at hq
       ·injection hq with hq; injection hq with h1 h2; injection h2 with h2 h3; subst h1 h2 h3
        simp only [e1]
        exact ⟨trivial, trivial, λ h => of_decide_eq_true h⟩
       ·cases hq
      ·cases hq
     ·split at hq
      ·rename_i e1
       split at hq
       ·injection hq with hq; injection hq with h1 h2; injection h2 with h2 h3; subst h1 h2 h3
        simp only [e1]
        exact ⟨trivial, trivial, λ h => of_decide_eq_true h⟩
       ·cases hq
      ·cases hq
     ·cases hq
    split at h
    ·rename_i ob1 ys dp hsrc
     obtain ⟨k1, k2, k3⟩ := key ob1 ys dp hsrc
     rw [k1, k2] at hb
     split at h
     ·split at h
      ·simp only [Bool.and_eq_true, decide_eq_true_eq] at hb
       injection h with h; injection h with h1 h2; rw [<- h1]
       exact ⟨k3 hb.1.1.1, yc hb.1.1.2, hb.1.2, hb.2⟩
      ·cases h
     ·split at h
      ·rename_i e1
       simp only [e1, Bool.and_eq_true, decide_eq_true_eq] at hb
       split at h
       ·injection h with h; injection h with h1 h2; rw [<- h1]
        refine ⟨k3 hb.1.1.1.1, ?_, hb.1.1.2, hb.1.2, hb.2⟩
        have := hb.1.1.1.2
        cases dp
        ·right
         intro e0
         rw [e0] at this
         cases this
        ·exact .inl rfl
       ·cases h
      ·cases h
     ·cases h
    ·cases h
  ·cases h
theorem pn (hBE : ∀ f args H, BE f args H = true -> eX C f args H) {st : ASt} {o : Oper} {ob : Prop} {v : AV} {H' : List Blk} (h : aL C st o = some (ob, v, H')) (hb : obS C BE st o = true) : ob := by
 have call : ∀ (f : FuncId) (args : List AV), BE f args st.H = true -> (∀ p ob r, C.S f = .pure p -> dI st.H p args = some (ob, r) -> ob) /\ (∀ p ob r, C.S f = .frz p -> p (args.map (aX st.H 6)) = some (ob, r) -> ob) /\ (∀ g ob r H', C.S f = .gen g -> g args st.H = some (ob, r, H') -> ob) := λ f args hB => by
  have hc := hBE f args st.H hB
  unfold eX at hc
  refine ⟨λ p ob r hp hq => ?_, λ p ob r hp hq => ?_, λ g ob r H' hp hq => ?_⟩
  ·rw [hp] at hc
   unfold dI at hq
   split at hq
   ·rename_i e
    split at hq
    ·injection hq with hq; injection hq with h1 h2; rw [<- h1]; exact hc _ _ e
    ·cases hq
   ·cases hq
  ·rw [hp] at hc; exact hc _ _ hq
  ·rw [hp] at hc; exact hc _ _ _ hq
 obtain ⟨dst, op, type, pos, after, guard⟩ := o
 unfold aL at h
 unfold obS at hb
 simp only at hb
 generalize bT C _ = kd at h
 split at h
 ·split at h
  ·rename_i ob' v' hp
   injection h with h; injection h with e1 e2; subst e1
   unfold k8 at hp
   simp only at hp
   split at hp
   ·injection hp with hp; injection hp with h1 h2; rw [<- h1]; trivial
   ·injection hp with hp; injection hp with h1 h2; rw [<- h1]; trivial
   ·exact Cy hp
   ·simp only at hb
    split at hp
    ·exact Cr hp
    ·rename_i hn; rw [if_neg hn] at hb; exact FM hp hb
   ·exact Jm hp
   ·simp only [Bool.and_eq_true] at hb; exact Cu hp hb.1
   ·exact AQ hp hb
   ·exact qT hp
   ·exact qU hp hb
   ·exact AR hp hb
   ·exact AX hp hb
   ·split at hp
    ·split at hp
     ·injection hp with hp; injection hp with h1 h2; rw [<- h1]; trivial
     ·cases hp
    ·cases hp
   ·split at hp
    ·split at hp
     ·injection hp with hp; injection hp with h1 h2; rw [<- h1]; trivial
     ·split at hp
      ·injection hp with hp; injection hp with h1 h2; rw [<- h1]; trivial
      ·cases hp
    ·cases hp
   ·split at hp
    ·injection hp with hp; injection hp with h1 h2; rw [<- h1]; trivial
    ·injection hp with hp; injection hp with h1 h2; rw [<- h1]; trivial
    ·injection hp with hp; injection hp with h1 h2; rw [<- h1]; trivial
    ·cases hp
   ·exact AN hp
   ·split at hp
    ·split at hp
     ·exact FT hp
     ·cases hp
    ·split at hp
     ·injection hp with hp; injection hp with h1 h2; rw [<- h1]; trivial
     ·cases hp
    ·split at hp
     ·injection hp with hp; injection hp with h1 h2; rw [<- h1]; trivial
     ·cases hp
    ·cases hp
   ·cases hp
  ·cases h
 ·split at h
  ·rename_i ob' v' hp
   injection h with h; injection h with e1 e2; subst e1
   unfold nv at hp
   simp only at hp
   split at hp
   ·exact uZ hp hb
   ·split at hp
    ·unfold ce at hp
     split at hp
     ·split at hp
      ·cases hp
      ·split at hp
       ·injection hp with hp; injection hp with h1 h2; rw [<- h1]; trivial
       ·cases hp
     ·cases hp
    ·cases hp
   ·simp only [Bool.and_eq_true] at hb; exact AO hp hb.2
   ·exact AS hp hb
   ·rename_i c
    split at hp
    ·rename_i f args ht
     split at hp
     ·rename_i p hS
      have hq : BE f args st.H = true := by
       obtain ⟨callee, cargs, tys⟩ := c
       have ht0 := ht
       unfold target at ht
       simp only at ht hb
       split at ht
       ·simp only at hb
        rw [ht0] at hb
        exact hb
       ·cases ht
      exact (call f args hq).1 p _ _ hS hp
     ·cases hp
    ·cases hp
   ·cases hp
  ·cases h
 ·unfold o9 at h
  simp only at h
  split at h
  ·unfold pi at h
   split at h
   ·split at h
    ·injection h with h; injection h with h1 h2; rw [<- h1]; trivial
    ·cases h
   ·cases h
  ·unfold pi at h
   split at h
   ·split at h
    ·injection h with h; injection h with h1 h2; rw [<- h1]; trivial
    ·cases h
   ·cases h
  ·exact AZ h hb
  ·split at h
   ·unfold gM at h
    split at h
    ·split at h
     ·injection h with h; injection h with h1 h2; rw [<- h1]; trivial
     ·cases h
    ·cases h
   ·split at h
    ·rename_i hp
     injection h with h; injection h with h1 h2; subst h1
     unfold ce at hp
     split at hp
     ·split at hp
      ·cases hp
      ·split at hp
       ·injection hp with hp; injection hp with h1 h2; rw [<- h1]; trivial
       ·cases hp
     ·cases hp
    ·cases h
  ·exact Cw h hb
  ·unfold aa at h
   split at h
   ·injection h with h; injection h with h1 h2; rw [<- h1]; trivial
   ·cases h
  ·exact FU h hb
  ·rename_i c
   obtain ⟨callee, args, tys⟩ := c
   simp only at h hb
   split at h
   ·split at h
    ·rename_i hx ht
     split at h
     ·rename_i htt
      simp only [hx, ht] at hb
      exact xF h hb
     ·cases h
    ·cases h
   ·cases hb
   ·cases hb
   ·split at h
    ·unfold ap at h
     split at h
     ·split at h
      ·split at h
       ·injection h with h; injection h with h1 h2; rw [<- h1]; trivial
       ·cases h
      ·cases h
     ·cases h
    ·cases h
   ·rename_i n1 n2 n3 n4
    split at h
    ·rename_i f avs ht
     have hq : BE f avs st.H = true := by
      have ht0 := ht
      unfold target at ht
      simp only at ht
      split at ht
      ·simp only at hb
       rw [ht0] at hb
       exact hb
      ·cases ht
     obtain ⟨q1, q2, q3⟩ := call f avs hq
     split at h
     ·rename_i p hS
      split at h
      ·rename_i hc
       injection h with h; injection h with h1 h2; subst h1
       exact q1 p _ _ hS hc
      ·cases h
     ·rename_i p hS
      split at h
      ·rename_i hc
       injection h with h; injection h with h1 h2; subst h1
       exact q2 p _ _ hS hc
      ·cases h
     ·rename_i g hS
      exact q3 g _ _ _ hS h
     ·cases h
    ·cases h
  ·cases h
end
def iI (C : Ctx) (BE : FuncId -> List AV -> List Blk -> Bool) (ops : Array Oper) : List Oper -> ASt -> Option ASt
 | [], st => some st
 | o :: r, st =>
  match b9 ops st.ρ o with
  | none => none
  | some true => if obS C BE st o then (match aL C st o with
   | some (_, v, H') => iI C BE ops r ⟨dP st.ρ o.dst v, H'⟩
   | none => none) else none
  | some false => iI C BE ops r ⟨dP st.ρ o.dst (.tup []), st.H⟩
theorem g6 {C : Ctx} {BE : FuncId -> List AV -> List Blk -> Bool} (hBE : ∀ f args H, BE f args H = true -> eX C f args H) {ops : Array Oper} : ∀ {l : List Oper} {st st' : ASt} {K : ASt -> Prop}, iI C BE ops l st = some st' -> K st' -> eF C ops l st K
 | [], st, st', K, h, hk => by
  simp only [iI, Option.some.injEq] at h
  rw [<- h] at hk
  exact hk
 | o :: r, st, st', K, h, hk => by
  unfold iI at h
  unfold eF
  split at h
  ·cases h
  ·rename_i hg
   rw [hg]
   refine ⟨λ _ => ?_, λ e => (by cases e)⟩
   split at h
   ·rename_i hob
    split at h
    ·rename_i ob v H' ha
     rw [ha]
     exact ⟨pn hBE ha hob, g6 hBE h hk⟩
    ·cases h
   ·cases h
  ·rename_i hg
   rw [hg]
   exact ⟨λ e => (by cases e), λ _ => g6 hBE h hk⟩
def AD (C : Ctx) (BE : FuncId -> List AV -> List Blk -> Bool) (st : ASt) (o : Oper) (v : AV) : Bool :=
 match aL C st o with
 | some (_, v', _) => pE 20 v' v && obS C BE st o
 | none => false
theorem nO {C : Ctx} {BE : FuncId -> List AV -> List Blk -> Bool} (hBE : ∀ f args H, BE f args H = true -> eX C f args H) {st : ASt} {o : Oper} {v : AV} (h : AD C BE st o v = true) : cG C st o v := by
 unfold AD at h
 rw [yV]
 split at h
 ·rename_i ob v' H' ha
  rw [ha]
  rw [Bool.and_eq_true] at h
  exact ⟨jf 20 h.1, pn hBE ha h.2⟩
 ·cases h
def zu (C : Ctx) (BE : FuncId -> List AV -> List Blk -> Bool) (o : Oper) (v : AV) (ρ : List (Nat × AV)) (bs : List Nat) : List (Nat × List Blk) -> Bool
 | [] => true
 | (e, He) :: r => (bs.contains e || AD C BE ⟨ρ, He⟩ o v) && zu C BE o v ρ bs r
theorem nC {C : Ctx} {BE : FuncId -> List AV -> List Blk -> Bool} (hBE : ∀ f args H, BE f args H = true -> eX C f args H) {o : Oper} {v : AV} {ρ : List (Nat × AV)} {bs : List Nat} : ∀ {l : List (Nat × List Blk)}, zu C BE o v ρ bs l = true -> qY C o v ρ bs l
 | [], _ => trivial
 | (e, He) :: r, h => by
  simp only [zu, Bool.and_eq_true, Bool.or_eq_true] at h
  exact ⟨h.1.imp id (nO hBE), nC hBE h.2⟩
def zt (C : Ctx) (BE : FuncId -> List AV -> List Blk -> Bool) (H : List Blk) (bs : List Nat) : List RdE -> Bool
 | [] => true
 | p :: r => (bs.contains p.i || AD C BE ⟨p.ρ, H⟩ p.o p.v) && zt C BE H bs r
theorem nB {C : Ctx} {BE : FuncId -> List AV -> List Blk -> Bool} (hBE : ∀ f args H, BE f args H = true -> eX C f args H) {H : List Blk} {bs : List Nat} : ∀ {l : List RdE}, zt C BE H bs l = true -> pw C H bs l
 | [], _ => trivial
 | p :: r, h => by
  simp only [zt, Bool.and_eq_true, Bool.or_eq_true] at h
  exact ⟨h.1.imp id (nO hBE), nB hBE h.2⟩
def dJ (C : Ctx) (BE : FuncId -> List AV -> List Blk -> Bool) (ops : Array Oper) : Nat -> List Oper -> List Kd -> List (List Nat) -> List (Nat × List Blk) -> List RdE -> ASt -> Option ASt
 | _, [], _, _, _, _, st => some st
 | i, o :: r, k :: ks, d :: ds, hist, rd, st =>
  match b9 ops st.ρ o with
  | none => none
  | some false => dJ C BE ops (i + 1) r ks ds hist rd ⟨dP st.ρ o.dst (.tup []), st.H⟩
  | some true => if obS C BE st o then (match aL C st o with
   | none => none
   | some (_, v, H') => match k with
    | .pure => dJ C BE ops (i + 1) r ks ds hist rd ⟨dP st.ρ o.dst v, H'⟩
    | .read => if zu C BE o v st.ρ d hist then dJ C BE ops (i + 1) r ks ds hist (⟨i, o, st.ρ, v⟩ :: rd) ⟨dP st.ρ o.dst v, H'⟩ else none
    | .eff => if zt C BE H' d rd then dJ C BE ops (i + 1) r ks ds ((i, st.H) :: hist) rd ⟨dP st.ρ o.dst v, H'⟩ else none) else none
 | _, _ :: _, _, _, _, _, _ => none
theorem dF {C : Ctx} {BE : FuncId -> List AV -> List Blk -> Bool} (hBE : ∀ f args H, BE f args H = true -> eX C f args H) {ops : Array Oper} : ∀ {l : List Oper} {i : Nat} {ks : List Kd} {ds : List (List Nat)} {hist : List (Nat × List Blk)} {rd : List RdE} {st st' : ASt} {K : ASt -> Prop}, dJ C BE ops i l ks ds hist rd st = some st' -> K st' -> de C ops i l ks ds hist rd st K
 | [], i, ks, ds, hist, rd, st, st', K, h, hk => by
  simp only [dJ, Option.some.injEq] at h
  rw [rz, h]
  exact hk
 | o :: r, i, [], ds, hist, rd, st, st', K, h, hk => by simp only [dJ] at h; cases h
 | o :: r, i, k :: ks, [], hist, rd, st, st', K, h, hk => by simp only [dJ] at h; cases h
 | o :: r, i, k :: ks, d :: ds, hist, rd, st, st', K, h, hk => by
  unfold dJ at h
  cases hg : b9 ops st.ρ o with
  | none => rw [hg] at h; cases h
  | some g =>
   rw [hg] at h
   cases g with
   | false =>
    have ih := dF hBE (K := K) h hk
    cases k <;> (first | rw [ln] | rw [lp] | rw [mJ]) <;> rw [hg] <;> exact ⟨λ e => (by cases e), λ _ => ih⟩
   | true =>
    simp only at h
    split at h
    ·rename_i hob
     cases ha : aL C st o with
     | none => simp only [ha] at h; cases h
     | some x =>
      obtain ⟨ob, v, H'⟩ := x
      simp only [ha] at h
      have hO := pn hBE ha hob
      cases k with
      | pure =>
       rw [ln, hg, ha]
       exact ⟨λ _ => ⟨hO, dF hBE h hk⟩, λ e => (by cases e)⟩
      | read =>
       simp only at h
       split at h
       ·rename_i hc
        rw [lp, hg, ha]
        exact ⟨λ _ => ⟨hO, nC hBE hc, dF hBE h hk⟩, λ e => (by cases e)⟩
       ·cases h
      | eff =>
       simp only at h
       split at h
       ·rename_i hc
        rw [mJ, hg, ha]
        exact ⟨λ _ => ⟨hO, nB hBE hc, dF hBE h hk⟩, λ e => (by cases e)⟩
       ·cases h
    ·cases h
def dD (C : Ctx) (BE : FuncId -> List AV -> List Blk -> Bool) (N : Nat) : Nat -> Code -> ASt -> Option (Exit × ASt)
 | 0, _, _ => none
 | _ + 1, .skip, st => some (.normal, st)
 | _ + 1, .region id ops d, st => if cq C N (.region id ops d) = true then (match iI C BE ops ops.toList st with | some s => some (.normal, s) | none => none)
  else if d && yu C ops && (ops.toList.all λ o => match o.dst with | some d => decide (d < N) | none => true) then (match dJ C BE ops 0 ops.toList (kinds C ops) (xQ ops.toList []) [] [] st with | some s => some (.normal, s) | none => none) else none
 | n + 1, .seq a b, st => match dD C BE N n a st with
  | some (.normal, s) => dD C BE N n b s
  | r => r
 | n + 1, .cond c a b, st => match aev C st.ρ 0 c with
  | .bool true => dD C BE N n a st
  | .bool false => dD C BE N n b st
  | _ => none
 | n + 1, .block id b, st => match dD C BE N n b st with
  | some (.exit j, s) => some (if j = id then .normal else .exit j, s)
  | r => r
 | _ + 1, .exit id, st => some (.exit id, st)
 | _ + 1, .ret, st => some (.ret, st)
 | _ + 1, .label _, st => some (.normal, st)
 | n + 1, .loop b, st => match dD C BE N n b st with
  | some (.normal, s) => dD C BE N n (.loop b) s
  | r => r
 | _, _, _ => none
theorem cA {C : Ctx} {BE : FuncId -> List AV -> List Blk -> Bool} (hBE : ∀ f args H, BE f args H = true -> eX C f args H) {N h0 : Nat} (hS : aB C) (hM : C.P.follows .mixedOrders = true) : ∀ (n : Nat) {code : Code} {st st' : ASt} {ex : Exit} {Q : Exit -> ASt -> Prop}, dD C BE N n code st = some (ex, st') -> Q ex st' -> AW C N h0 code st Q
 | 0, code, st, st', ex, Q, h, _ => by unfold dD at h; cases h
 | n + 1, .skip, st, st', ex, Q, h, hq => by
  simp only [dD, Option.some.injEq, Prod.mk.injEq] at h
  obtain ⟨rfl, rfl⟩ := h
  exact aY hS hM .skip rfl hq
 | n + 1, .exit id, st, st', ex, Q, h, hq => by
  simp only [dD, Option.some.injEq, Prod.mk.injEq] at h
  obtain ⟨rfl, rfl⟩ := h
  exact aY hS hM (.exit id) rfl hq
 | n + 1, .ret, st, st', ex, Q, h, hq => by
  simp only [dD, Option.some.injEq, Prod.mk.injEq] at h
  obtain ⟨rfl, rfl⟩ := h
  exact aY hS hM .ret rfl hq
 | n + 1, .label l, st, st', ex, Q, h, hq => by
  simp only [dD, Option.some.injEq, Prod.mk.injEq] at h
  obtain ⟨rfl, rfl⟩ := h
  exact aY hS hM (.label l) rfl hq
 | n + 1, .region id ops d, st, st', ex, Q, h, hq => by
  simp only [dD] at h
  split at h
  ·rename_i hok
   split at h
   ·rename_i s hr
    simp only [Option.some.injEq, Prod.mk.injEq] at h
    obtain ⟨rfl, rfl⟩ := h
    exact aY hS hM (.region id ops d) hok (g6 hBE hr hq)
   ·cases h
  ·split at h
   ·rename_i hok
    rw [Bool.and_eq_true, Bool.and_eq_true] at hok
    obtain ⟨⟨hd, hf⟩, hall⟩ := hok
    subst hd
    split at h
    ·rename_i s hr
     simp only [Option.some.injEq, Prod.mk.injEq] at h
     obtain ⟨rfl, rfl⟩ := h
     have e : ops.toList.toArray = ops := Array.toArray_toList ..
     have := aE (N := N) (h0 := h0) (id := id) (l := ops.toList) (st := st) (Q := Q) hS hM (kinds C ops) (xQ ops.toList []) (by rw [e]) rfl (by rw [e]; exact hf) hall (by rw [e]; exact dF hBE hr hq)
     rwa [e] at this
    ·cases h
   ·cases h
 | n + 1, .seq a b, st, st', ex, Q, h, hq => by
  simp only [dD] at h
  refine oS ?_
  split at h
  ·rename_i s ha
   exact cA hBE hS hM n ha (cA hBE hS hM n h hq)
  ·rename_i hne
   refine cA hBE hS hM n h ?_
   cases ex with
   | normal => exact absurd h (hne _)
   | _ => exact hq
 | n + 1, .block id b, st, st', ex, Q, h, hq => by
  simp only [dD] at h
  refine lK ?_
  split at h
  ·rename_i j s hb
   simp only [Option.some.injEq, Prod.mk.injEq] at h
   obtain ⟨rfl, rfl⟩ := h
   refine cA hBE hS hM n hb ?_
   simp only [iQ]
   split
   ·rename_i e; rw [if_pos e] at hq; exact hq
   ·rename_i e; rw [if_neg e] at hq; exact hq
  ·rename_i hne
   refine cA hBE hS hM n h ?_
   cases ex with
   | exit j => exact absurd h (hne _ _)
   | _ => exact hq
 | n + 1, .cond c a b, st, st', ex, Q, h, hq => by
  simp only [dD] at h
  refine uK ?_
  split at h
  ·rename_i hc
   rw [hc]
   exact ⟨λ _ => cA hBE hS hM n h hq, λ e => (by cases e)⟩
  ·rename_i hc
   rw [hc]
   exact ⟨λ e => (by cases e), λ _ => cA hBE hS hM n h hq⟩
  ·cases h
 | n + 1, .loop b, st, st', ex, Q, h, hq => by
  refine gV (α := { x : Nat × ASt // x.1 <= n + 1 /\ dD C BE N x.1 (.loop b) x.2 = some (ex, st') }) (λ x => x.1.2) (λ _ => True) (λ x => x.1.1) ⟨⟨(n + 1, st), le_refl _, h⟩, trivial, Weak.refl _⟩ ?_
  rintro ⟨⟨k, s⟩, hk, hr⟩ _
  simp only at hk hr ⊢
  match k, hk, hr with
  | 0, _, hr => unfold dD at hr; cases hr
  | k + 1, hk, hr =>
   simp only [dD] at hr
   split at hr
   ·rename_i s' hb
    refine cA hBE hS hM k hb ?_
    exact ⟨⟨(k, s'), by omega, hr⟩, trivial, Nat.lt_succ_self k, Weak.refl _⟩
   ·rename_i hne
    refine cA hBE hS hM k hr ?_
    cases ex with
    | normal => exact absurd hr (hne _)
    | _ => exact hq
 | n + 1, .scope b, st, st', ex, Q, h, hq => by simp only [dD] at h; cases h
 | n + 1, .goto _, st, st', ex, Q, h, hq => by simp only [dD] at h; cases h
 | n + 1, .rangeFunc .., st, st', ex, Q, h, hq => by simp only [dD] at h; cases h
 | n + 1, .refuse _, st, st', ex, Q, h, hq => by simp only [dD] at h; cases h
def zl (C : Ctx) (st : ASt) : ResultVar -> Bool
 | .tmp _ => true
 | .cell a t => s6 C st.H t (aQ st.ρ a)
theorem jM {C : Ctx} {st : ASt} : ∀ {rs : List ResultVar} {ob : Prop} {vs : List AV}, eY C st rs = some (ob, vs) -> rs.all (zl C st) = true -> ob
 | [], ob, vs, h, _ => by
  simp only [eY, Option.some.injEq, Prod.mk.injEq] at h
  rw [<- h.1]; trivial
 | r :: q, ob, vs, h, hb => by
  simp only [all_cons, Bool.and_eq_true] at hb
  unfold eY at h
  split at h
  ·rename_i ob1 v ob2 vs' h1 h2
   injection h with h; injection h with e1 e2; rw [<- e1]
   refine ⟨?_, jM h2 hb.2⟩
   cases r with
   | tmp t => simp only [FV, Option.some.injEq, Prod.mk.injEq] at h1; rw [<- h1.1]; trivial
   | cell a t => exact uZ h1 hb.1
  ·cases h
theorem nw {C : Ctx} {st : ASt} {rs : List ResultVar} {ob : Prop} {v : AV} (h : bR C st rs = some (ob, v)) (hb : rs.all (zl C st) = true) : ob := by
 unfold bR at h
 split at h
 ·rename_i h1; injection h with h; injection h with e1 e2; rw [<- e1]; exact jM h1 hb
 ·rename_i h1; injection h with h; injection h with e1 e2; rw [<- e1]; exact jM h1 hb
 ·cases h
def NT (C : Ctx) (rs : List ResultVar) : Option (Exit × ASt) -> Option (AV × List Blk)
 | some (.normal, st) => if rs.all (zl C st) then (match bR C st rs with | some (_, r) => some (r, st.H) | none => none) else none
 | some (.ret, st) => if rs.all (zl C st) then (match bR C st rs with | some (_, r) => some (r, st.H) | none => none) else none
 | _ => none
def fnB (C : Ctx) (BE : FuncId -> List AV -> List Blk -> Bool) (fuel : Nat) (f : FuncId) (avs : List AV) (H : List Blk) : Option (AV × List Blk) :=
 match C.P.funcs[f]? with
 | some fn => match fn.body with
  | some body => if avs.length <= fn.ntmps then NT C fn.results.toList (dD C BE fn.ntmps fuel body ⟨argsρ 0 avs, H⟩) else none
  | none => none
 | none => none
def ij (o : Option (AV × List Blk)) : Option (Prop × AV × List Blk) := match o with | some (r, H) => some (True, r, H) | none => none
theorem Bf {C : Ctx} {BE : FuncId -> List AV -> List Blk -> Bool} (hBE : ∀ f args H, BE f args H = true -> eX C f args H) (hS : aB C) (hM : C.P.follows .mixedOrders = true) (fuel : Nat) (f : FuncId) : bg C.P C.G f (λ avs H => ij (fnB C BE fuel f avs H)) := by
 cases hf : C.P.funcs[f]? with
 | none => exact λ w X β H args avs ob r H' _ _ _ _ hp _ => by simp only [fnB, hf, ij] at hp; cases hp
 | some fn =>
  cases hb : fn.body with
  | none => exact λ w X β H args avs ob r H' _ _ _ _ hp _ => by simp only [fnB, hf, hb, ij] at hp; cases hp
  | some body =>
   refine Bj (C := C) hf hb rfl rfl λ avs H ob r H' hp hob => ?_
   simp only [fnB, hf, hb, ij] at hp
   split at hp
   ·rename_i r1 H1 hq
    simp only [Option.some.injEq, Prod.mk.injEq] at hp
    obtain ⟨rfl, rfl, rfl⟩ := hp
    split at hq
    ·rename_i hlen
     refine ⟨hlen, ?_⟩
     unfold NT at hq
     split at hq
     ·rename_i st ha
      split at hq
      ·rename_i hrb
       split at hq
       ·rename_i ob' r' hr
        simp only [Option.some.injEq, Prod.mk.injEq] at hq
        obtain ⟨rfl, rfl⟩ := hq
        exact cA hBE hS hM fuel ha ⟨.inl rfl, ob', hr, nw hr hrb, rfl⟩
       ·cases hq
      ·cases hq
     ·rename_i st ha
      split at hq
      ·rename_i hrb
       split at hq
       ·rename_i ob' r' hr
        simp only [Option.some.injEq, Prod.mk.injEq] at hq
        obtain ⟨rfl, rfl⟩ := hq
        exact cA hBE hS hM fuel ha ⟨.inr rfl, ob', hr, nw hr hrb, rfl⟩
       ·cases hq
      ·cases hq
     ·cases hq
    ·cases hq
   ·cases hp
def Sv (P : Program) (G : Nat -> AV) (base : FuncId -> Entry) (bB : FuncId -> List AV -> List Blk -> Bool) (fs : List FuncId) (fuel : Nat) : Nat -> FuncId -> Entry
 | 0, g => base g
 | n + 1, g => if fs.contains g then .gen (λ avs H => ij (fnB ⟨P, Sv P G base bB fs fuel n, G⟩ (λ f args H => (decide (0 < n) && fs.contains f) || bB f args H) fuel g avs H)) else base g
def nI (fz : Bool) (a : AV × List Blk) : AV × List Blk := if fz then (aX a.2 6 a.1, df (bo a.2 6 a.1) 0 a.2) else a
def l9 (fz : Bool) (h0 : Nat) (a : AV × List Blk) : AV × List Blk :=
 if (nI fz a).1.cleanF h0 && ((nI fz a).2.take h0).all (λ b => b.deep || b.rows.all λ r => r.all λ c => c.cleanF h0) then ((nI fz a).1, (nI fz a).2.take h0) else nI fz a
theorem Dl {P : Program} {G : Nat -> AV} {f : FuncId} {o : List AV -> List Blk -> Option (AV × List Blk)} (h : bg P G f (λ A H => ij (o A H))) (fz : Bool) : bg P G f (λ A H => ij ((o A H).map (l9 fz H.length))) := by
 intro w X β H args avs ob r H' R hG hsz harg hp hob
 have hp : ij ((o avs H).map (l9 fz H.length)) = some (ob, r, H') := hp
 cases ho : o avs H with
 | none => rw [ho] at hp; cases hp
 | some a =>
  rw [ho] at hp
  simp only [Option.map_some, ij, Option.some.injEq, Prod.mk.injEq] at hp
  obtain ⟨rfl, rfl, rfl⟩ := hp
  refine (h w X β H args avs True a.1 a.2 R hG hsz harg (by simp [ho, ij]) trivial).mono ?_
  rintro e w' ⟨v, β', he, R', S', hr⟩
  let C : Ctx := ⟨P, λ _ => .no, G⟩
  have G' : lL C w' (Mu X β' a.2) := λ g => (hG g).keep (λ b hb hn => S'.keeps.block b hb (λ hm => hn (.inr hm))) S'.keeps.size (λ b hb => S'.mu b hb)
  have hrel : Rel C 1 X w β H ⟨[(0, a.1)], a.2⟩ { tmps := #[v], defers := [] } w' := ⟨β', R', S', λ t => by
   match t with
   | 0 => exact hr
   | t + 1 => exact kM, G', rfl, rfl⟩
  have h1 : Rel C 1 X w β H ⟨[(0, (nI fz a).1)], (nI fz a).2⟩ { tmps := #[v], defers := [] } w' := by
   unfold nI
   cases fz with
   | false => exact hrel
   | true =>
    have := (gR (C := C) (N := 1) (h0 := H.length) (ρ := [(0, a.1)]) (H := a.2) 0) X w β H _ w' rfl hrel
    exact ar (ρ' := [(0, aX a.2 6 a.1)]) (by simp [aQ]) X w β H _ w' rfl this
  have h2 : Rel C 1 X w β H ⟨[(0, (l9 fz H.length a).1)], (l9 fz H.length a).2⟩ { tmps := #[v], defers := [] } w' := by
   unfold l9
   split
   ·rename_i hc
    rw [Bool.and_eq_true] at hc
    refine jB (h0 := H.length) H.length (le_refl _) (λ p hp => by rw [mem_singleton] at hp; rw [hp]; exact hc.1) (λ b hb => ?_) X w β H _ w' rfl h1
    have := all_eq_true.1 hc.2 b hb
    rw [Bool.or_eq_true] at this
    rcases this with h | h
    ·exact .inl h
    ·exact .inr λ r hr c hcc => all_eq_true.1 (all_eq_true.1 h r hr) c hcc
   ·exact h1
  obtain ⟨β2, R2, S2, T2, _⟩ := h2
  exact ⟨v, β2, he, R2, S2, T2 0⟩
def m7 (P : Program) (G : Nat -> AV) (base : FuncId -> Entry) (bB : FuncId -> List AV -> List Blk -> Bool) (fs fz : List FuncId) (fuel : Nat) : Nat -> FuncId -> Entry
 | 0, g => base g
 | n + 1, g => if fs.contains g then .gen (λ avs H => ij ((fnB ⟨P, m7 P G base bB fs fz fuel n, G⟩ (λ f args H => (decide (0 < n) && fs.contains f) || bB f args H) fuel g avs H).map (l9 (fz.contains g) H.length))) else base g
theorem lF {P : Program} {G : Nat -> AV} {base : FuncId -> Entry} {bB : FuncId -> List AV -> List Blk -> Bool} {fs fz : List FuncId} (hB : ∀ g, dv P G g (base g)) (hbB : ∀ f args H, bB f args H = true -> eX ⟨P, base, G⟩ f args H) (hfs : ∀ g ∈ fs, GL P g = true) (hM : P.follows .mixedOrders = true) (fuel : Nat) :
  ∀ n, aB ⟨P, m7 P G base bB fs fz fuel n, G⟩ /\ ∀ f args H, ((decide (0 < n) && fs.contains f) || bB f args H) = true -> eX ⟨P, m7 P G base bB fs fz fuel n, G⟩ f args H
 | 0 => ⟨hB, λ f args H h => by
   simp only [Nat.lt_irrefl, decide_false, Bool.false_and, Bool.false_or] at h
   exact hbB f args H h⟩
 | n + 1 => by
  obtain ⟨ih1, ih2⟩ := lF hB hbB hfs hM fuel n
  constructor
  ·intro g
   show dv P G g (m7 P G base bB fs fz fuel (n + 1) g)
   unfold m7
   split
   ·rename_i hg
    have ho := hfs g (by simpa using hg)
    unfold GL at ho
    split at ho
    ·rename_i fn hf
     rw [Bool.and_eq_true, decide_eq_true_eq] at ho
     exact ⟨Dl (Bf (C := ⟨P, m7 P G base bB fs fz fuel n, G⟩) ih2 ih1 hM fuel g) (fz.contains g), fn, hf, ho.2, ho.1⟩
    ·cases ho
   ·exact hB g
  ·intro f args H h
   show (match m7 P G base bB fs fz fuel (n + 1) f with | .no => True | .pure p => ∀ ob r, p (args.map (aX H 6)) = some (ob, r) -> ob | .frz p => ∀ ob r, p (args.map (aX H 6)) = some (ob, r) -> ob | .gen g => ∀ ob r H', g args H = some (ob, r, H') -> ob)
   unfold m7
   by_cases hg : fs.contains f = true
   ·rw [if_pos hg]
    intro ob r H' hq
    simp only [ij] at hq
    split at hq
    ·simp only [Option.some.injEq, Prod.mk.injEq] at hq
     rw [<- hq.1]; trivial
    ·cases hq
   ·rw [if_neg hg]
    have hg' : fs.contains f = false := by simpa using hg
    rw [hg', Bool.and_false, Bool.false_or] at h
    exact hbB f args H h
def cM (A : List AV) (r : AV) : PSp := λ args => some (args.map bq = A, r)
theorem wM {P : Program} {G : Nat -> AV} {f : FuncId} {g : List AV -> List Blk -> Option (Prop × AV × List Blk)} (h : bg P G f g) {A : List AV} {ob0 : Prop} {r0 r : AV} {H0 : List Blk} (hg : g A [] = some (ob0, r0, H0)) (hob0 : ob0) (hv0 : bq (aX H0 6 r0) = r) : PureOK P G f (cM A r) := by
 intro w X args avs ob r' hX hG hsz harg hp hob
 simp only [cM, Option.some.injEq, Prod.mk.injEq] at hp
 obtain ⟨rfl, rfl⟩ := hp
 have hMu : ∀ b, Mu X [] [] b -> X b := by
  rintro b (h | ⟨l, c, blk, h1, _, _⟩)
  ·exact h
  ·simp at h1
 have R : HRel w X [] [] := ⟨rfl, λ l bi b h1 _ => by simp at h1, λ l b c h1 => by simp at h1, λ l l' b c c' h1 => by simp at h1, hX⟩
 have hargs : ∀ (j : Nat) (u : AV), A[j]? = some u -> ∃ v, args[j]? = some v /\ Rep w (Mu X [] []) [] [] v u := by
  intro j u hu
  rw [<- hob, getElem?_map] at hu
  simp only [Option.map_eq_some_iff] at hu
  obtain ⟨av, hav, rfl⟩ := hu
  obtain ⟨v, h1, h2⟩ := harg j av hav
  exact ⟨v, h1, .deep ((dM h2).mono λ b _ hb => hMu b hb)⟩
 have hl : args.size = A.length := by rw [<- hob, length_map]; exact hsz
 refine (h w X [] [] args A ob0 r0 H0 R (λ k => (hG k).mono λ b _ hb => hMu b hb) hl hargs hg hob0).mono ?_
 rintro e w' ⟨v, β', rfl, R', S', hrep⟩
 have hv := (cw R' (λ _ => True) 6 hrep (λ _ _ => trivial)).mono (X' := X) λ b _ hb => .inl hb
 have hv := dM hv
 rw [hv0] at hv
 exact ⟨v, rfl, S'.keeps.weaken (λ b _ h => by obtain ⟨l, c, blk, h1, _, _⟩ := h; simp at h1), hv⟩
theorem cv {P : Program} {G : Nat -> AV} {base : FuncId -> Entry} {bB : FuncId -> List AV -> List Blk -> Bool} {fs fz : List FuncId} {fuel : Nat} (hB : ∀ g, dv P G g (base g)) (hbB : ∀ f args H, bB f args H = true -> eX ⟨P, base, G⟩ f args H) (hfs : (fs.all λ g => GL P g) = true) (hM : P.follows .mixedOrders = true) (n : Nat) {f : FuncId} {A : List AV} {r0 r : AV} {H0 : List Blk}
  (hf : fs.contains f = true) (hk : (fnB ⟨P, m7 P G base bB fs fz fuel n, G⟩ (λ f args H => (decide (0 < n) && fs.contains f) || bB f args H) fuel f A []).map (l9 (fz.contains f) 0) = some (r0, H0)) (hv : bq (aX H0 6 r0) = r) : PureOK P G f (cM A r) := by
 have h := (lF hB hbB (λ g hg => all_eq_true.1 hfs g hg) hM fuel (n + 1) (fz := fz)).1 f
 unfold m7 at h
 simp only at h
 rw [if_pos hf] at h
 refine wM h.1 (ob0 := True) (r0 := r0) (H0 := H0) ?_ trivial hv
 show ij ((fnB ⟨P, m7 P G base bB fs fz fuel n, G⟩ (λ f args H => (decide (0 < n) && fs.contains f) || bB f args H) fuel f A []).map (l9 (fz.contains f) 0)) = _
 rw [hk]
 rfl
def Ob (e : AV) : Option ByteArray := match e with | .tup [.str s, _] => some s | _ => none
def rW : List AV -> Option (List ByteArray)
 | [] => some []
 | e :: r => match Ob e, rW r with
  | some s, some l => some (s :: l)
  | _, _ => none
def pp (x y : ByteArray) : Bool := decide (x.data.toList <= y.data.toList)
def yb (x : ByteArray) : List ByteArray -> List ByteArray
 | [] => [x]
 | y :: r => if pp x y then x :: y :: r else y :: yb x r
def yT : List ByteArray -> List ByteArray
 | [] => []
 | x :: r => yb x (yT r)
theorem mT (x : ByteArray) : ∀ l, (yb x l).Perm (x :: l)
 | [] => .refl _
 | y :: r => by
  unfold yb
  split
  ·exact .refl _
  ·exact ((mT x r).cons y).trans (.swap _ _ _)
theorem sI : ∀ l, (yT l).Perm l
 | [] => .refl _
 | x :: r => (mT x (yT r)).trans ((sI r).cons x)
theorem F1 {x y z : ByteArray} (h1 : pp x y = true) (h2 : pp y z = true) : pp x z = true := by
 unfold pp at *
 simp only [decide_eq_true_eq] at *
 exact List.le_trans h1 h2
theorem F0 (x y : ByteArray) : pp x y = true ∨ pp y x = true := by
 unfold pp
 simp only [decide_eq_true_eq]
 exact le_total _ _
theorem zL (x : ByteArray) : ∀ {l : List ByteArray}, l.Pairwise (λ a b => pp a b = true) -> (yb x l).Pairwise (λ a b => pp a b = true)
 | [], _ => by simp [yb]
 | y :: r, h => by
  have h' := pairwise_cons.1 h
  unfold yb
  split
  ·rename_i hc
   refine pairwise_cons.2 ⟨λ z hz => ?_, h⟩
   rcases mem_cons.1 hz with rfl | hz
   ·exact hc
   ·exact F1 hc (h'.1 z hz)
  ·rename_i hc
   refine pairwise_cons.2 ⟨λ z hz => ?_, zL x h'.2⟩
   rcases mem_cons.1 ((mT x r).mem_iff.1 hz) with rfl | hz
   ·exact (F0 _ _).resolve_left hc
   ·exact h'.1 z hz
theorem AA : ∀ l : List ByteArray, (yT l).Pairwise (λ a b => pp a b = true)
 | [] => .nil
 | x :: r => zL x (AA r)
theorem yU (l : List ByteArray) : (l.map (·.data.toList)).mergeSort (λ x y => decide (x <= y)) = (yT l).map (·.data.toList) := by
 have tr : ∀ a b c : List UInt8, decide (a <= b) = true -> decide (b <= c) = true -> decide (a <= c) = true := λ a b c h1 h2 => by simp only [decide_eq_true_eq] at *; exact List.le_trans h1 h2
 have to : ∀ a b : List UInt8, (decide (a <= b) || decide (b <= a)) = true := λ a b => by simp only [Bool.or_eq_true, decide_eq_true_eq]; exact le_total a b
 refine List.Perm.eq_of_pairwise (le := λ a b : List UInt8 => decide (a <= b) = true) (λ a b _ _ h1 h2 => ?_) (List.pairwise_mergeSort tr to _) (List.pairwise_map.2 (AA l)) ((List.mergeSort_perm _ _).trans ((sI l).map _).symm)
 simp only [decide_eq_true_eq] at h1 h2
 exact List.le_antisymm h1 h2
def gSor : List AV -> List Blk -> Option (Prop × AV × List Blk) := λ args H => match args with
 | [.fn f [.ptr l n sz 0 0]] => match H[l]? with
  | some b => match b.rows with
   | [[.mapo k]] => match ab H k false with
    | some (_, ents) => match rW ents with
     | some ks => if f = 353 /\ n = 1 /\ sz = 1 /\ b.sz = 1 /\ ks.length <= 1000 /\ ks.all (λ s => decide (s.size <= 1000)) = true then some (True, .slice 1 false (aq (yT ks)), H) else none
     | none => none
    | none => none
   | _ => none
  | none => none
 | _ => none
theorem E5 (m : Nat) : AnyZ.SortsIn prog Tryz.sorted291_ren Go.Fence.wide m :=
 ⟨λ blk off cap ss W hH hblk hsz => callsIn_wide.2 (AnyM.slices_Sort_string Tryz.sort137 blk off cap ss W hH hblk hsz),
  λ p cap W => callsIn_wide.2 (AnyM.slices_Sort_string_none Tryz.sort137 p cap W)⟩
theorem DN {w : World} {X : Nat -> Prop} {β : List BI} {H : List Blk} {l : Nat} {b : Blk} {av : AV} {v : Value} (R : HRel w X β H) (hl : H[l]? = some b) (hr : b.rows = [[av]]) (hs : b.sz = 1) (h : Rep w (Mu X β H) β H v (.ptr l 1 1 0 0)) :
  ∃ bk, v = .pointer (some ⟨bk, 0, none⟩) /\ bk < w.heap.size /\ ∃ u, w.cell? ⟨bk, 0, none⟩ = some u /\ Rep w (Mu X β H) β H u av := by
 obtain ⟨a, b', rfl, hb, hn, hx⟩ := dS h
 rw [hl] at hb
 injection hb with hb
 subst hb
 obtain ⟨bk, cap, h1, h2⟩ := hx (by rw [hr]; rfl) hs Nat.zero_lt_one
 rw [show 0 * 1 + 0 = 0 from rfl] at h2
 subst h2
 obtain ⟨e, sz, rows, mu, dp⟩ := b
 simp only at hr hs
 subst hr hs
 obtain ⟨u, u1, u2, u3, _⟩ := iJ (R.blk l _ _ h1 hl) Nat.zero_lt_one (i := 0) Nat.zero_lt_one 0 (j := 0) (av := av) rfl
 exact ⟨bk, rfl, (R.lt l bk cap h1).1, u, u1, u3⟩
theorem Ds {kb : Bool} {w : World} {X : Nat -> Prop} {β : List BI} {H : List Blk} {es : Array MapEntry} {clock : Nat} {ents : List AV} (E : EntsRep w X β H false es clock ents) {ks : List ByteArray} (hk : rW ents = some ks) : es.toList.map (·.key) = ks.map .string := by
 have hl := E.len
 have key : ∀ (L : List MapEntry) (ents : List AV) (ks : List ByteArray), L.length = ents.length -> (∀ (i : Nat) (e : MapEntry), L[i]? = some e -> ∃ k v : AV, ents[i]? = some (.tup [k, v]) /\ KeyRep false e.key k) -> rW ents = some ks -> L.map (·.key) = ks.map .string := by
  intro L
  induction L with
  | nil =>
   intro ents ks h1 _ h3
   cases ents with
   | nil => simp [rW] at h3; subst h3; rfl
   | cons _ _ => cases h1
  | cons x L ih =>
   intro ents ks h1 h2 h3
   cases ents with
   | nil => cases h1
   | cons a r =>
    unfold rW at h3
    split at h3
    ·rename_i s l hs hl'
     injection h3 with h3
     subst h3
     obtain ⟨k, v, q1, q2⟩ := h2 0 x rfl
     simp at q1
     subst q1
     rcases q2 with ⟨h, _⟩ | ⟨_, t, e1, e2⟩
     ·cases h
     ·subst e2
      simp [Ob] at hs
      subst hs
      rw [map_cons, map_cons, e1, ih r l (by simpa using h1) (λ i e he => h2 (i + 1) e he) hl']
    ·cases h3
 refine key es.toList ents ks (by simpa using hl) (λ i e he => ?_) hk
 obtain ⟨k, v, q1, q2, _⟩ := E.ent i e (by simpa using he)
 exact ⟨k, v, q1, q2⟩
theorem D5 {w : World} {X : Nat -> Prop} {v : Value} {base n : Nat} {l : List ByteArray} (h : w.ownsRow base 9 1 v n ((l.map (·.data.toList)).map Go.Proofs.encStr)) (hX : ∀ b, X b -> b < base) : RepD w X v (Enc.enc l) := by
 have hn : l.length = n := by have := h.1; simpa using this
 show RepD w X v (.slice 1 false (aq l))
 have hrl : (aq l).length = n := by rw [jV, hn]
 rcases h.2 with ⟨rfl, hz⟩ | ⟨g, cap', cur, rfl, hbase, hg, r1, r2, r3, r4⟩
 ·refine .slice 1 false _ none 0 0 (λ _ _ => undef) (by rw [hrl, hz]) (by omega) (zero_le _) (λ h => by cases h) (λ r hr => ?_) (λ h => absurd hz (by rw [hrl] at h; exact h)) (λ i j r v hi hj => ?_)
  ·obtain ⟨x, _, rfl⟩ := mem_map.1 hr; rfl
  ·have := (List.getElem?_eq_some_iff.1 hi).1; omega
 ·have hcur : ∀ i (hi : i < n), cur[i]? = some (.string (ix l i)) := by
   intro i hi
   have h := congrArg (λ l => l[i]?) r4
   rw [getElem?_take, if_pos (by omega), Array.getElem?_toList, getElem?_map, getElem?_map] at h
   rw [h]
   have hi' : i < l.length := by omega
   rw [getElem?_eq_getElem hi', bF hi']
   simp [Go.Proofs.encStr]
  refine .slice 1 false _ (some ⟨g, 0, none⟩) n cap' (λ i _ => .string (ix l i)) hrl.symm (by omega) r2 (λ h => by cases h) (λ r hr => ?_) (λ _ => ⟨g, 0, rfl, (Array.getElem?_eq_some_iff.1 hg).1, λ hx => by have := hX g hx; omega, λ i j hi hj => ?_⟩) (λ i j r v hi hj => ?_)
  ·obtain ⟨x, _, rfl⟩ := mem_map.1 hr; rfl
  ·have hj0 : j = 0 := by omega
   subst hj0
   rw [hrl] at hi
   refine ⟨?_, rfl⟩
   rw [show 0 + i * 1 + 0 = i by omega, cell_of_row w g i cur 9 (0, 0) hg]
   exact hcur i hi
  ·unfold aq at hi
   rw [getElem?_map, Option.map_eq_some_iff] at hi
   obtain ⟨x, hx, rfl⟩ := hi
   obtain ⟨hi', rfl⟩ := List.getElem?_eq_some_iff.1 hx
   match j with
   | 0 =>
    have hj : some (AV.str l[i]) = some v := hj
    injection hj with hj
    subst hj
    rw [bF hi']
    exact .str _
   | j + 1 => simp at hj
def kBy : Value -> List UInt8
 | .string s => s.data.toList
 | _ => []
def R0 : Value -> Option (DataW Unit × List MemPlace) := λ _ => some (.nil, [])
theorem OX : bg prog G0 291 gSor := by
 intro w X β H args avs ob r H' R hG hsz harg hp hob
 unfold gSor at hp
 split at hp
 case h_2 => cases hp
 rename_i f l n sz
 split at hp
 case h_2 => cases hp
 rename_i b hb
 split at hp
 case h_2 => cases hp
 rename_i k hrows
 split at hp
 case h_2 => cases hp
 rename_i mb ents hent
 split at hp
 case h_2 => cases hp
 rename_i ks hks
 split at hp
 case isFalse => cases hp
 rename_i hc
 obtain ⟨rfl, rfl, rfl, hbs, hkl, hka⟩ := hc
 simp only [Option.some.injEq, Prod.mk.injEq] at hp
 obtain ⟨rfl, rfl, rfl⟩ := hp
 obtain ⟨v0, a0, q0⟩ := harg 0 _ rfl
 obtain ⟨cs, val, rfl, s1, s2, s3⟩ := lE q0
 obtain ⟨bk, e1, lt1, u, u1, u2⟩ := DN R hb hrows hbs (s3 0 _ rfl)
 obtain ⟨bk2, cap2, mb2, rfl, hm1, hm2, hm3⟩ := mh u2
 have hcs : cs = #[.pointer (some ⟨bk, 0, none⟩)] := by
  have k0 := s2 0 (by simp)
  rw [e1] at k0
  apply Array.ext_getElem?
  intro i
  match i with
  | 0 => rw [k0]; rfl
  | i + 1 => rw [Array.getElem?_eq_none (by rw [s1]; simp), Array.getElem?_eq_none (by simp)]
 subst hcs
 have hargs : args = #[.func (.func 353) #[] #[.pointer (some ⟨bk, 0, none⟩)]] := by
  apply Array.ext_getElem?
  intro i
  match i with
  | 0 => rw [a0]; rfl
  | i + 1 => rw [Array.getElem?_eq_none (by rw [hsz]; simp), Array.getElem?_eq_none (by simp)]
 subst hargs
 unfold ab at hent
 rw [hm1] at hent
 simp only at hent
 split at hent
 case h_2 => cases hent
 rename_i ents' hr2
 split at hent
 case isFalse => cases hent
 rename_i hc2
 simp only [Option.some.injEq, Prod.mk.injEq] at hent
 obtain ⟨rfl, rfl⟩ := hent
 have hβ := hm3 (by rw [hr2]; rfl)
 obtain ⟨_, _, es, clock, ents2, hh, hr3, E⟩ := (R.blk k _ _ hβ hm1).map hm2.1
 rw [hr2] at hr3
 injection hr3 with hr3 _
 subst hr3
 rw [hc2.2.1] at E
 have hkeys := Ds (kb := false) E hks
 have hkey : ∀ x ∈ es.toList, ∃ s : ByteArray, s ∈ ks /\ x.key = .string s := by
  intro x hx
  have : x.key ∈ es.toList.map (·.key) := mem_map.2 ⟨x, hx, rfl⟩
  rw [hkeys] at this
  obtain ⟨s, h1, h2⟩ := mem_map.1 this
  exact ⟨s, h1, h2.symm⟩
 have hsm : ∀ s ∈ ks, s.size <= maxLen := λ s hs => by
  have := all_eq_true.1 hka s hs
  simp only [decide_eq_true_eq] at this
  unfold maxLen; omega
 have hrd : ∀ x ∈ es.toList, ∀ s : ByteArray, x.key = .string s -> s ∈ ks -> Go.WideElems.rd prog 9 R0 x = some (.string s.data.toList, .nil) := λ x hx s e hs => by
  unfold Go.WideElems.rd
  rw [e, Go.keyOf_string Tryz.underlying9]
  simp [mapKey, Tryz.underlying9, hsm s hs, R0]
 have hown : w.ownsMap prog 9 R0 bk2 es.size (.map ((es.toList.map (Go.WideElems.rg prog 9 R0)).foldr DataW.insert [])) := ⟨es, clock, hh, ⟨E.max, E.st, λ x hx => by
  obtain ⟨s, hs, e⟩ := hkey x hx
  exact ⟨_, hrd x hx s e hs⟩⟩, le_refl _, rfl⟩
 have hsz2 : es.size = ks.length := by
  have := congrArg List.length hkeys
  simpa using this
 have hsl := hown.size_le
 have hkeysD : (es.toList.map (Go.WideElems.rg prog 9 R0)).map (λ p => Go.strOf p.1) = ks.map (·.data.toList) := by
  have h1 : es.toList.map (λ x => Go.strOf (Go.WideElems.rg prog 9 R0 x).1) = es.toList.map (λ x => kBy x.key) := List.map_congr_left λ x hx => by
   obtain ⟨s, hs, e⟩ := hkey x hx
   unfold Go.WideElems.rg
   rw [hrd x hx s e hs, e]
   rfl
  have h2 : (es.toList.map (·.key)).map kBy = es.toList.map (λ x => kBy x.key) := by rw [map_map]; rfl
  have h3 : (ks.map Value.string).map kBy = ks.map (·.data.toList) := by rw [map_map]; rfl
  rw [map_map]
  refine h1.trans ?_
  rw [<- h2, hkeys, h3]
 have hperm : (Go.strKeys (.map ((es.toList.map (Go.WideElems.rg prog 9 R0)).foldr DataW.insert []))).Perm (ks.map (·.data.toList)) := by
  rw [<- hkeysD]
  exact (Go.WideShapes.sorted_perm _).map _
 have hseq := AnyZ.keys_gives (ρ := Tryz.keys292_ren) { Tryz.keys292 with } Go.Fence.wide 2 trivial rfl (by omega) bk bk2 es.size _ w lt1 u1 hown
 have hfin := AnyZ.sorted_in Tryz.sorted291 Go.Fence.wide 5 trivial trivial trivial trivial rfl (by omega) (E5 _) (enters_of func137 (by kernel_rfl) rfl) 353 #[.pointer (some ⟨bk, 0, none⟩)] trivial (enters_of func353 (by kernel_rfl) rfl) _ _ (by show _ <= 9223372036854775807; omega) (by omega) _ hseq
 refine (Go.callsIn_wide.1 hfin).mono ?_
 rintro en w' ⟨v, ss, rfl, hp, hrow, _, hbel⟩
 have hm : ss.mergeSort (λ x y => decide (x <= y)) = (yT ks).map (·.data.toList) := by
  rw [<- yU]
  exact Go.mergeSort_of_perm (hp.trans hperm)
 rw [hm] at hrow
 have hk : Keeps (λ _ => False) w w' := ⟨hbel.os, hbel.tape, hbel.output, hbel.size, λ b hb _ => hbel.block b hb, trivial⟩
 exact ⟨v, β, rfl, R.quiet hk, StepR.quiet hk R.len, .deep (D5 hrow λ q hq => R.mu_lt q hq)⟩
def el (zs : List Int) (i : Nat) : Int := zs.getD i 0
def IntsAt (w : World) (v : Value) (zs : List Int) : Prop :=
 ∃ (A : Option Addr) (n c : Nat), v = .slice A n c /\ zs.length = n /\ n <= c /\ c <= maxLen /\ (0 < n -> ∃ b off, A = some ⟨b, off, none⟩ /\ ∀ j, j < n -> w.cell? ⟨b, off + j, none⟩ = some (.int .i64 (el zs j)))
theorem IntsAt.keep {w w' : World} {v : Value} {zs : List Int} (h : IntsAt w v zs) (hk : ∀ p : Addr, p.block < w.heap.size -> w'.cell? p = w.cell? p) : IntsAt w' v zs := by
 obtain ⟨A, n, c, rfl, hl, hc, hm, hr⟩ := h
 refine ⟨A, n, c, rfl, hl, hc, hm, λ h0 => ?_⟩
 obtain ⟨b, off, rfl, hx⟩ := hr h0
 exact ⟨b, off, rfl, λ j hj => (hk _ (World.block_lt_of_cell? w _ (hx j hj))).trans (hx j hj)⟩
theorem IntsAt.below {w w' : World} {v : Value} {zs : List Int} {B : Nat} (h : IntsAt w v zs) (hb : Below B w w') (hB : w.heap.size <= B) : IntsAt w' v zs :=
 h.keep λ _ hp => hb.cell (Nat.lt_of_lt_of_le hp hB)
theorem IntsAt.drewN {w : World} {v : Value} {zs : List Int} (h : IntsAt w v zs) (n : Nat) : IntsAt (w.drewN n) v zs := h
theorem IntsAt.nil (w : World) : IntsAt w (.slice none 0 0) [] := ⟨none, 0, 0, rfl, rfl, le_refl _, zero_le _, λ h => absurd h (by omega)⟩
theorem vg {B : Nat} {a w : World} (h : Below B a w) (n : Nat) : Below B a (w.drewN n) := ⟨h.os, h.tape, h.output, h.size, h.block⟩
def Drew (w w' : World) : Prop := ∃ k, w' = w.drewN k
theorem Drew.refl (w : World) : Drew w w := ⟨0, rfl⟩
theorem Drew.drewN (w : World) (k : Nat) : Drew w (w.drewN k) := ⟨k, rfl⟩
theorem Drew.below {w w' : World} (h : Drew w w') (B : Nat) : Below B w w' := by
 obtain ⟨k, rfl⟩ := h
 exact vg (Below.refl _ _) _
structure IntElem (P : Program) (t e : TypeId) : Prop where
 under : P.underlying t = some (.slice e)
 info : ∃ i, P.info? e = some i /\ i.zero = some (.int .i64 0) /\ i.size = 1 /\ i.bytes = 8
def Own (w : World) (B : Nat) (e : TypeId) (v : Value) (zs : List Int) : Prop := w.ownsRow B e 1 v zs.length (zs.map (Value.int .i64))
theorem Own.nil (w : World) (B : Nat) (e : TypeId) : Own w B e (.slice none 0 0) [] := World.ownsRow_nil _ _ _ _
theorem Own.below {w w' : World} {B : Nat} {e : TypeId} {v : Value} {zs : List Int} {C : Nat} (h : Own w B e v zs) (hb : Below C w w') (hC : w.heap.size <= C) : Own w' B e v zs := by
 obtain ⟨h1, h2⟩ := h
 refine ⟨h1, ?_⟩
 rcases h2 with h2 | ⟨g, cap, cur, hv, hg, hh, r⟩
 ·exact .inl h2
 ·refine .inr ⟨g, cap, cur, hv, hg, (hb.block g ?_).trans hh, r⟩
  have : g < w.heap.size := by
   rcases Nat.lt_or_ge g w.heap.size with h | h
   ·exact h
   ·rw [Array.getElem?_eq_none h] at hh; cases hh
  omega
theorem Own.alloc {w : World} {B : Nat} {e : TypeId} {v : Value} {zs : List Int} (h : Own w B e v zs) (o : Obj) : Own (w.alloc o) B e v zs :=
 h.below ((Below.refl _ w).alloc (le_refl _) _) (le_refl _)
theorem Own.drewN {w : World} {B : Nat} {e : TypeId} {v : Value} {zs : List Int} (h : Own w B e v zs) (n : Nat) : Own (w.drewN n) B e v zs := h
theorem Own.base {w : World} {B B' : Nat} {e : TypeId} {v : Value} {zs : List Int} (h : Own w B e v zs) (hB : B' <= B) : Own w B' e v zs := by
 obtain ⟨h1, h2⟩ := h
 refine ⟨h1, ?_⟩
 rcases h2 with h2 | ⟨g, cap, cur, hv, hg, r⟩
 ·exact .inl h2
 ·exact .inr ⟨g, cap, cur, hv, by omega, r⟩
theorem cell_later {B : Nat} {w w' : World} {p : Addr} {u : Value} (hb : Below B w w') (hB : w.heap.size <= B) (h : w.cell? p = some u) : w'.cell? p = some u :=
 (hb.cell (Nat.lt_of_lt_of_le (World.block_lt_of_cell? w _ h) hB)).trans h
def SameMem (wr W : World) : Prop := W.heap = wr.heap /\ W.os = wr.os /\ W.tape = wr.tape /\ W.output = wr.output
theorem SameMem.below {wr W w0 : World} {B : Nat} (h : SameMem wr W) (hb : Below B w0 wr) : Below B w0 W :=
 ⟨h.2.1.trans hb.os, h.2.2.1.trans hb.tape, h.2.2.2.trans hb.output, by rw [h.1]; exact hb.size, λ k hk => by rw [h.1]; exact hb.block k hk⟩
def lenOf : Value -> Nat | .slice _ n _ => n | _ => 0
theorem IntsAt.alloc {w : World} {v : Value} {zs : List Int} (h : IntsAt w v zs) (o : Obj) : IntsAt (w.alloc o) v zs :=
 h.below ((Below.refl _ w).alloc (le_refl _) _) (le_refl _)
theorem Below.step {w a b : World} {B : Nat} (h : Below w.heap.size w a) (k : Below B a b) (hB : a.heap.size <= B) : Below w.heap.size w b := h.trans (k.mono (Nat.le_trans h.size hB))
def bt (s : ByteArray) (j : Nat) : Nat := (s.data.toList.getD j 0).toNat
theorem Nr (s : ByteArray) (j : Nat) : bt s j < 256 := by unfold bt; exact UInt8.toNat_lt _
def Marked (w : World) (g : Nat) (t : TypeId) (C : Array Value) : Prop := w.heap[g]? = some (.cells C t (C.size, C.size + 1))
theorem Marked.cell {w : World} {g : Nat} {t : TypeId} {C : Array Value} (h : Marked w g t C) (i : Nat) : w.cell? ⟨g, i, none⟩ = C[i]? := by
 unfold Marked at h
 simp [World.cell?, h]
theorem Marked.frozen {w : World} {g : Nat} {t : TypeId} {C : Array Value} (h : Marked w g t C) {i : Nat} (hi : i < C.size) : w.frozen? ⟨g, i, none⟩ = false := by
 unfold Marked at h
 simp [World.frozen?, h]
 omega
theorem Marked.set_ {w : World} {g : Nat} {t : TypeId} {C : Array Value} (h : Marked w g t C) (i : Nat) (u : Value) : Marked (w.setCell ⟨g, i, none⟩ u) g t (C.setIfInBounds i u) := by
 unfold Marked at h ⊢
 simp [World.setCell, Array.getElem?_modify, h]
theorem Marked.drewN {w : World} {g : Nat} {t : TypeId} {C : Array Value} (h : Marked w g t C) (n : Nat) : Marked (w.drewN n) g t C := h
theorem Marked.below {w w' : World} {g B : Nat} {t : TypeId} {C : Array Value} (h : Marked w g t C) (hb : Below B w w') (hg : g < B) : Marked w' g t C := (hb.block g hg).trans h
theorem xW {P : Program} {src dst e : TypeId} (hs : P.underlying src = some .string) (hd : P.underlying dst = some (.slice e)) (he : P.underlying e = some (.int .u8)) (w : World) (s : ByteArray) :
  ∃ C w1, (convert src dst (.string s)).run P w = .ok (.slice (some ⟨w.heap.size, 0, none⟩) s.size C.size) w1 /\ Marked w1 w.heap.size e C /\ s.size <= C.size /\ (∀ j, j < s.size -> C[j]? = some (.int .u8 (bt s j : Int))) /\ Below w.heap.size w w1 /\ w1.heap.size = w.heap.size + 1 := by
 have hr := run_bytes_of_string w src dst e s hs hd he
 have hge := grownCap_ge w s.size 0 e
 generalize grownCap w s.size 0 e = cap at *
 have hd : s.data.size = s.size := rfl
 have hsz : (bytesRow s cap).size = cap := by
  unfold bytesRow
  rw [Array.size_append, Array.size_map, Array.size_replicate, hd]
  omega
 have hh : (w.drew.alloc (.cells (bytesRow s cap) e ((bytesRow s cap).size, (bytesRow s cap).size + 1))).heap[w.heap.size]? = some (.cells (bytesRow s cap) e ((bytesRow s cap).size, (bytesRow s cap).size + 1)) := by
  show (w.heap.push _)[w.heap.size]? = _
  simp
 refine ⟨bytesRow s cap, _, by rw [hr, hsz], hh, by omega, λ j hj => ?_, ((Below.refl _ w).drew).alloc (le_refl _) _, by simp⟩
 rw [bytesRow_at s cap j (by omega)]
 have : (s.data[j]'(by omega)).toNat = bt s j := by
  have h' : j < s.data.toList.length := by simp; omega
  unfold bt
  rw [List.getD_eq_getElem?_getD, getElem?_eq_getElem h']
  simp
 rw [this]
theorem vu {P : Program} {src dst e : TypeId} (hs : P.underlying src = some (.slice e)) (he : P.underlying e = some (.int .u8)) (hd : P.underlying dst = some .string) (w : World) (b off n cap : Nat) (l : List UInt8) (hl : l.length = n)
  (hc : ∀ j (hj : j < l.length), w.cell? ⟨b, off + j, none⟩ = some (.int .u8 (l[j].toNat : Int))) :
  (convert src dst (.slice (some ⟨b, off, none⟩) n cap)).run P w = .ok (.string ⟨l.toArray⟩) w := by
 subst hl
 refine run_convert_bytes_back w src dst e ⟨b, off, none⟩ cap l hs he hd λ j hj => ?_
 have e1 : (⟨b, off, none⟩ : Addr).add j = ⟨b, off + j, none⟩ := by
  unfold Addr.add
  split
  ·rename_i h; subst h; rfl
  ·rfl
 rw [e1]
 exact hc j hj
def sl (ss : List ByteArray) (i : Nat) : ByteArray := ss.getD i ByteArray.empty
def StrsAt (w : World) (v : Value) (ss : List ByteArray) : Prop :=
 ∃ (A : Option Addr) (n c : Nat), v = .slice A n c /\ ss.length = n /\ n <= c /\ c <= maxLen /\ (0 < n -> ∃ b off, A = some ⟨b, off, none⟩ /\ ∀ j, j < n -> w.cell? ⟨b, off + j, none⟩ = some (.string (sl ss j)))
theorem StrsAt.below {w w' : World} {v : Value} {ss : List ByteArray} {B : Nat} (h : StrsAt w v ss) (hb : Below B w w') (hB : w.heap.size <= B) : StrsAt w' v ss := by
 obtain ⟨A, n, c, rfl, hl, hc, hm, hr⟩ := h
 refine ⟨A, n, c, rfl, hl, hc, hm, λ h0 => ?_⟩
 obtain ⟨b, off, rfl, hx⟩ := hr h0
 exact ⟨b, off, rfl, λ j hj => Go.Proofs.YtnbcneiicnepcaaGreatDoor.cell_later hb hB (hx j hj)⟩
namespace Plain
open Go.Proofs.YtnbcneiicnepcaaGreatDoor
def upB (b : UInt8) : UInt8 := if 97 <= b.toNat /\ b.toNat <= 122 then UInt8.ofNat (b.toNat - 32) else b
def upN (c : Nat) : Nat := if 97 <= c /\ c <= 122 then c - 32 else c
theorem upB_toNat (b : UInt8) : (upB b).toNat = upN b.toNat := by
  unfold upB upN
  split
  · have := b.toNat_lt
    simp
    omega
  · rfl
def upper (s : ByteArray) : ByteArray := ⟨(s.data.toList.map upB).toArray⟩
def words : List ByteArray := [⟨#[77, 65, 84, 67, 72]⟩, ⟨#[79, 80, 84, 73, 79, 78, 65, 76]⟩, ⟨#[87, 72, 69, 82, 69]⟩, ⟨#[85, 78, 87, 73, 78, 68]⟩, ⟨#[65, 83]⟩, ⟨#[87, 73, 84, 72]⟩, ⟨#[68, 73, 83, 84, 73, 78, 67, 84]⟩, ⟨#[79, 82, 68, 69, 82]⟩, ⟨#[66, 89]⟩, ⟨#[65, 83, 67]⟩, ⟨#[68, 69, 83, 67]⟩, ⟨#[83, 75, 73, 80]⟩, ⟨#[76, 73, 77, 73, 84]⟩, ⟨#[82, 69, 84, 85, 82, 78]⟩, ⟨#[67, 82, 69, 65, 84, 69]⟩, ⟨#[77, 69, 82, 71, 69]⟩, ⟨#[83, 69, 84]⟩, ⟨#[82, 69, 77, 79, 86, 69]⟩, ⟨#[68, 69, 76, 69, 84, 69]⟩, ⟨#[68, 69, 84, 65, 67, 72]⟩, ⟨#[65, 78, 68]⟩, ⟨#[79, 82]⟩, ⟨#[78, 79, 84]⟩, ⟨#[73, 78]⟩, ⟨#[73, 83]⟩, ⟨#[78, 85, 76, 76]⟩, ⟨#[84, 82, 85, 69]⟩, ⟨#[70, 65, 76, 83, 69]⟩, ⟨#[87, 65, 76, 75]⟩, ⟨#[84, 82, 65, 73, 76]⟩, ⟨#[83, 73, 77, 80, 76, 69]⟩, ⟨#[83, 72, 79, 82, 84, 69, 83, 84]⟩, ⟨#[65, 78, 89]⟩]
def OO (s : ByteArray) : Bool := decide ((upper s).toList ∈ words.map fun w => w.toList)
end Plain
def I7 (s : ByteArray) (w : World) (e : Ending) (w' : World) : Prop := e = .returned (.string s) /\ Below w.heap.size w w'
theorem LR (s : ByteArray) (w : World) (hbig : s.size < 1000000) : Calls prog 206 #[.string s] w (I7 (Plain.upper s) w) := by
 obtain ⟨C, w1, hconv, hM, hCs, hC, hb1, hsz1⟩ := xW Tryz.underlying9 Tryz.underlying290 Tryz.underlying5 w s
 have HC := Lib.hid hC; clear hC
 have hn : s.data.toList.length = s.size := by simp
 have HN := Lib.hid hn; clear hn
 have HSZ := Lib.hid hsz1; clear hsz1
 go_enter func206, Tryz.ntmps206
 go_wp2_with fail
 clear hconv
 go_loopw [4, 5, 10] (λ _ _ i wr => ∃ (k : Nat) (D : Array Value), i = .int .i64 k /\ k <= s.size /\ Marked wr w.heap.size 5 D /\ D.size = C.size /\ Below w.heap.size w wr /\
   ∀ j, j < s.size -> D[j]? = some (.int .u8 ((if j < k then Plain.upN (bt s j) else bt s j : Nat) : Int))) (λ _ _ i _ => s.size - (intOf i).toNat)
 case atStart => exact ⟨0, C, rfl, zero_le _, hM, rfl, hb1, by simpa using HC.out⟩
 case round =>
  obtain ⟨k, D, rfl, hk, hM', hD, hb, hcell⟩ := hrel
  have HD := Lib.hid hD; clear hD
  have HX := Lib.hid hcell; clear hcell
  by_cases hlt : k < s.size
  ·have hc : wr.cell? ⟨w.heap.size, k, none⟩ = some (.int .u8 (bt s k : Int)) := by
    rw [hM'.cell, HX.out k hlt]; simp
   have hf : wr.frozen? ⟨w.heap.size, k, none⟩ = false := hM'.frozen (by rw [HD.out]; omega)
   have hlt8 := Nr s k
   by_cases h1 : (97 : Int) <= (bt s k : Int) /\ (bt s k : Int) <= 122
   ·obtain ⟨h1, h2⟩ := h1
    go_wp2_with fail
    have e1 : (bt s k : Int) - 97 + 65 = ((bt s k - 32 : Nat) : Int) := by omega
    go_roundw
    case rel => exact ⟨k + 1, _, by go_num, by omega, hM'.set_ k _, by simp [HD.out], hb.setCell (le_refl _) _, λ j hj => by
     by_cases e : j = k
     ·subst e
      simp [Plain.upN, HD.out, show j < C.size by omega, show 97 <= bt s j /\ bt s j <= 122 by omega]
      omega
     ·rw [Array.getElem?_setIfInBounds_ne (by omega), HX.out j hj]
      simp [show (j < k + 1) = (j < k) by simp; omega]⟩
    case measure => simp [intOf]; omega
   ·have hup : Plain.upN (bt s k) = bt s k := by unfold Plain.upN; rw [if_neg (by omega)]
    have HU := Lib.hid hup; clear hup
    by_cases h2 : (97 : Int) <= (bt s k : Int)
    ·have h3 : ¬ (bt s k : Int) <= 122 := λ h => h1 ⟨h2, h⟩
     clear h1
     go_wp2_with fail
     go_roundw
     case rel => exact ⟨k + 1, D, by go_num, by omega, hM', HD.out, hb, λ j hj => by
      by_cases e : j = k
      ·subst e; rw [HX.out j hj]; simp [HU.out]
      ·rw [HX.out j hj]; simp [show (j < k + 1) = (j < k) by simp; omega]⟩
     case measure => simp [intOf]; omega
    ·clear h1
     go_wp2_with fail
     go_roundw
     case rel => exact ⟨k + 1, D, by go_num, by omega, hM', HD.out, hb, λ j hj => by
      by_cases e : j = k
      ·subst e; rw [HX.out j hj]; simp [HU.out]
      ·rw [HX.out j hj]; simp [show (j < k + 1) = (j < k) by simp; omega]⟩
     case measure => simp [intOf]; omega
  ·have hback := vu (P := prog) Tryz.underlying290 Tryz.underlying5 Tryz.underlying9 wr w.heap.size 0 s.size C.size (s.data.toList.map Plain.upB) (by simp) (λ j hj => by
    have hj' : j < s.size := by simpa using hj
    rw [Nat.zero_add, hM'.cell, HX.out j hj', if_pos (by omega), List.getElem_map, Plain.upB_toNat]
    unfold bt
    rw [List.getD_eq_getElem?_getD, getElem?_eq_getElem (by rw [HN.out]; exact hj')]
    rfl)
   go_wp2_with fail
   go_ret
   exact ⟨rfl, hb⟩
def CT : List UInt8 -> List UInt8 -> Bool
 | [], sub => sub.isEmpty
 | b :: l, sub => sub.isPrefixOf (b :: l) || CT l sub
theorem zz : ∀ s sub : List UInt8, Go.Lib.contains s sub = CT s sub
 | [], sub => by unfold Go.Lib.contains Go.Lib.index CT; cases sub.isEmpty <;> simp
 | b :: l, sub => by
  have ih := zz l sub
  unfold Go.Lib.contains at ih ⊢
  unfold Go.Lib.index CT
  rw [<- ih]
  have hg := Go.Lib.index_ge l sub
  cases sub.isPrefixOf (b :: l) with
  | true => simp
  | false =>
   by_cases h : Go.Lib.index l sub = -1
   ·simp [h]
   ·have : 0 <= Go.Lib.index l sub := by omega
    simp [h]
    omega
def iU : PSp := λ args => match args with
 | [.str s, .str t] => if s.size < 1000000 then some (True, .bool (CT s.data.toList t.data.toList)) else none
 | _ => none
theorem CY : PureOK prog G0 210 iU := by
 intro w X args avs ob r hX hG hsz harg hp hob
 unfold iU at hp
 split at hp
 case h_2 => cases hp
 rename_i s t
 split at hp
 case isFalse => cases hp
 rename_i hlt
 simp only [Option.some.injEq, Prod.mk.injEq] at hp
 obtain ⟨_, rfl⟩ := hp
 obtain ⟨v0, a0, q0⟩ := harg 0 _ rfl
 obtain ⟨v1, a1, q1⟩ := harg 1 _ rfl
 cases q0
 cases q1
 have hargs : args = #[.string s, .string t] := by
  apply Array.ext_getElem?
  intro i
  match i with
  | 0 => rw [a0]; rfl
  | 1 => rw [a1]; rfl
  | i + 2 => rw [Array.getElem?_eq_none (by rw [hsz]; simp), Array.getElem?_eq_none (by simp)]
 subst hargs
 obtain ⟨⟨m, hm⟩, _⟩ := hG 1
 refine (Tryz.strings_Contains s t m w (by omega) hm).mono ?_
 rintro e w' ⟨rfl, rfl⟩
 refine ⟨_, rfl, Keeps.refl _ _, ?_⟩
 rw [zz]
 exact .bool _
def nc : PSp := λ args => match args with
 | [.str s] => if s.size < 1000000 then some (True, .str (Plain.upper s)) else none
 | _ => none
theorem LQ : PureOK prog G0 206 nc := by
 intro w X args avs ob r hX hG hsz harg hp hob
 unfold nc at hp
 split at hp
 case h_2 => cases hp
 rename_i s
 split at hp
 case isFalse => cases hp
 rename_i hlt
 simp only [Option.some.injEq, Prod.mk.injEq] at hp
 obtain ⟨_, rfl⟩ := hp
 obtain ⟨v0, a0, q0⟩ := harg 0 _ rfl
 cases q0
 have hargs : args = #[.string s] := by
  apply Array.ext_getElem?
  intro i
  match i with
  | 0 => rw [a0]; rfl
  | i + 1 => rw [Array.getElem?_eq_none (by rw [hsz]; simp), Array.getElem?_eq_none (by simp)]
 subst hargs
 refine (LR s w hlt).mono ?_
 rintro e w' ⟨rfl, hb⟩
 exact ⟨_, rfl, ⟨hb.os, hb.tape, hb.output, hb.size, λ b hlt _ => hb.block b hlt, trivial⟩, .str _⟩
def nQ : Entry -> Prop
 | .no => True
 | .pure p => ∀ A ob r, p A = some (ob, r) -> ob
 | .frz p => ∀ A ob r, p A = some (ob, r) -> ob
 | .gen g => ∀ A H ob r H', g A H = some (ob, r, H') -> ob
theorem CU : nQ (.pure iU) := λ A ob r hq => by
 unfold iU at hq
 split at hq
 ·split at hq
  ·simp only [Option.some.injEq, Prod.mk.injEq] at hq
   rw [<- hq.1]; trivial
  ·cases hq
 ·cases hq
theorem LP : nQ (.pure nc) := λ A ob r hq => by
 unfold nc at hq
 split at hq
 ·split at hq
  ·simp only [Option.some.injEq, Prod.mk.injEq] at hq
   rw [<- hq.1]; trivial
  ·cases hq
 ·cases hq
theorem OW : nQ (.gen gSor) := λ A H ob r H' hq => by
 unfold gSor at hq
 split at hq <;> try cases hq
 split at hq <;> try cases hq
 split at hq <;> try cases hq
 split at hq <;> try cases hq
 split at hq <;> try cases hq
 split at hq <;> try cases hq
 trivial
def bsL (L : List (Nat × Entry)) : FuncId -> Entry := λ g => mX L g
def bbL (L : List (Nat × Entry)) : FuncId -> List AV -> List Blk -> Bool := λ f _ _ => L.any λ p => p.1 == f
theorem eo {P : Program} {G : Nat -> AV} {L : List (Nat × Entry)} (h : aB (mkC P G L)) (g : FuncId) : dv P G g (bsL L g) := h g
theorem wn : ∀ {L : List (Nat × Entry)} {f : FuncId} {e : Entry}, mX L f = e -> e = .no ∨ ∃ p ∈ L, p.2 = e
 | [], _, _, h => .inl h.symm
 | (k, x) :: r, f, e, h => by
  unfold mX at h
  split at h
  ·exact .inr ⟨(k, x), List.mem_cons_self, h⟩
  ·rcases wn h with h | ⟨p, hp, he⟩
   ·exact .inl h
   ·exact .inr ⟨p, List.mem_cons_of_mem _ hp, he⟩
theorem em {P : Program} {G : Nat -> AV} {L : List (Nat × Entry)} (hF : ∀ p ∈ L, nQ p.2) (f : FuncId) (args : List AV) (H : List Blk) (h : bbL L f args H = true) : eX ⟨P, bsL L, G⟩ f args H := by
 show (match bsL L f with | .no => True | .pure p => ∀ ob r, p (args.map (aX H 6)) = some (ob, r) -> ob | .frz p => ∀ ob r, p (args.map (aX H 6)) = some (ob, r) -> ob | .gen g => ∀ ob r H', g args H = some (ob, r, H') -> ob)
 have key : nQ (bsL L f) := by
  rcases wn (L := L) (f := f) rfl with h | ⟨p, hp, he⟩
  ·show nQ (mX L f)
   rw [h]; trivial
  ·show nQ (mX L f)
   rw [<- he]; exact hF p hp
 split
 ·trivial
 ·rename_i p hp; rw [hp] at key; exact λ ob r hq => key _ ob r hq
 ·rename_i p hp; rw [hp] at key; exact λ ob r hq => key _ ob r hq
 ·rename_i p hp; rw [hp] at key; exact λ ob r H' hq => key _ _ ob r H' hq
noncomputable def CBs : Ctx := mkC prog G0 [(210, .pure iU), (206, .pure nc), (291, .gen gSor)]
@[simp] theorem Tg : CBs.P = prog := rfl
@[simp] theorem Tf : CBs.G = G0 := rfl
@[simp] theorem Te : CBs.S 210 = .pure iU /\ CBs.S 206 = .pure nc /\ CBs.S 291 = .gen gSor := ⟨rfl, rfl, rfl⟩
theorem Lc : aB CBs := aH (CY) func210 (aH (LQ) func206 (aD (aF (OX) func291 rfl (by decide)) (ax _ _)))
@[reducible] noncomputable def LBs : List (Nat × Entry) := [(210, .pure iU), (206, .pure nc), (291, .gen gSor)]
theorem lM : ∀ p ∈ LBs, nQ p.2 := by
 intro p hp
 simp only [LBs, mem_cons, not_mem_nil, or_false] at hp
 rcases hp with rfl | rfl | rfl
 ·exact CU
 ·exact LP
 ·exact OW
theorem fq : aB (mkC prog G0 LBs) := Lc
def sId : ByteArray := ⟨#[105, 100]⟩
def e0 : ByteArray := ⟨#[]⟩
def vaE (s : ByteArray) : List AV := exE 2 s []
def idE (s : ByteArray) : List AV := exE 23 sId [vaE s]
def neE (s t : ByteArray) : List AV := exE 13 e0 [idE s, idE t]
def cdE : List AV := exE 18 e0 [exE 18 e0 [neE sA sB, neE sB sC], neE sC sA]
def IsQ (e : List AV) : Prop := e = cdE ∨ e = idE sA ∨ e = idE sB ∨ e = idE sC
def wW : PSp := λ args => match args with
 | [.agg e] => some (IsQ e, .int .i64 0)
 | _ => none
def fsE : List FuncId := [96, 58, 109, 151, 158, 159, 160, 205, 222, 226, 227, 228, 229, 287, 288]
theorem ND : PureOK prog G0 96 (cM [.agg (cdE)] (.int .i64 0)) :=
 cv (fs := fsE) (fz := []) (fuel := 400) (eo fq) (bB := bbL LBs) (em lM) (by kernel_rfl) mixed 20 (r0 := .int .i64 0) (H0 := []) (by kernel_rfl) (by kernel_rfl) rfl
theorem NA : PureOK prog G0 96 (cM [.agg (idE sA)] (.int .i64 0)) :=
 cv (fs := fsE) (fz := []) (fuel := 400) (eo fq) (bB := bbL LBs) (em lM) (by kernel_rfl) mixed 20 (r0 := .int .i64 0) (H0 := []) (by kernel_rfl) (by kernel_rfl) rfl
theorem NB : PureOK prog G0 96 (cM [.agg (idE sB)] (.int .i64 0)) :=
 cv (fs := fsE) (fz := []) (fuel := 400) (eo fq) (bB := bbL LBs) (em lM) (by kernel_rfl) mixed 20 (r0 := .int .i64 0) (H0 := []) (by kernel_rfl) (by kernel_rfl) rfl
theorem NC : PureOK prog G0 96 (cM [.agg (idE sC)] (.int .i64 0)) :=
 cv (fs := fsE) (fz := []) (fuel := 400) (eo fq) (bB := bbL LBs) (em lM) (by kernel_rfl) mixed 20 (r0 := .int .i64 0) (H0 := []) (by kernel_rfl) (by kernel_rfl) rfl
theorem Rl : PureOK prog G0 96 wW := by
 intro w X args avs ob r hX hG hsz harg hp hob
 unfold wW at hp
 split at hp
 case h_2 => cases hp
 rename_i e
 simp only [Option.some.injEq, Prod.mk.injEq] at hp
 obtain ⟨rfl, rfl⟩ := hp
 rcases hob with rfl | rfl | rfl | rfl
 ·exact ND w X args _ _ _ hX hG hsz harg rfl rfl
 ·exact NA w X args _ _ _ hX hG hsz harg rfl rfl
 ·exact NB w X args _ _ _ hX hG hsz harg rfl rfl
 ·exact NC w X args _ _ _ hX hG hsz harg rfl rfl
def Hu : PSp := aN (λ (_ : Int) => True) (λ n => Enc.enc (vOf 2 n))
theorem Hv (n : Int) : Hu [.int .i64 n] = some (True, .agg (vC 2 n)) := by simp [Hu, aN, vOf, vC]
def tvI (b : Bool) : Int := if b then 1 else 0
theorem uj (b : Bool) : yH [.agg (vC 1 (tvI b))] = some (∃ c : Bool, vOf 1 (tvI b) = vOf 1 (if c then 1 else 0), .int .i64 (if b then 2 else 0)) := by
 have e : (.agg (vC 1 (tvI b)) : AV) = Enc.enc (vOf 1 (tvI b)) := by simp [vOf, vC]
 rw [e]
 simp only [yH, aN]
 rw [Enc.dec_enc]
 cases b <;> simp [vOf, tvI]
theorem BP (x y : Int) : qj [.int .i64 13, .agg (vC 2 x), .agg (vC 2 y)] = some (∃ x' y', InR x' /\ InR y' /\ vOf 2 x = vOf 2 x' /\ vOf 2 y = vOf 2 y', .int .i64 (if x = y then 0 else 2)) := by
 have e : ∀ n, (.agg (vC 2 n) : AV) = Enc.enc (vOf 2 n) := λ n => by simp [vOf, vC]
 rw [e, e]
 simp only [qj, eV]
 rw [Enc.dec_enc, Enc.dec_enc]
 by_cases h : x = y <;> simp [vOf, h]
theorem Hj (b : Bool) : yD [.int .i64 (if b then 2 else 0)] = some (True, .agg (vC 1 (tvI b))) := by cases b <;> simp [yD, aN, vOf, vC, tvI]
theorem G6 (a b : Bool) : D8 [.int .i64 (if a then 2 else 0), .int .i64 (if b then 2 else 0)] = some (True, .int .i64 (if (a && b) then 2 else 0)) := by cases a <;> cases b <;> simp [D8, aW]
noncomputable def CQd : Ctx := mkC prog G0 [(242, .pure Hu)]
@[simp] theorem UG : CQd.P = prog := rfl
@[simp] theorem UF : CQd.G = G0 := rfl
@[simp] theorem UE : CQd.S 242 = .pure Hu := rfl
theorem Lr : aB CQd := aH (O6) func242 (ax _ _)
section
variable {g : Gra} {x y z : Int} {l : Nat} {H : List Blk}
theorem N1 (k : EvH g x y z l H) {j : Nat} {n : Int} (hj : H[j]? = some (oBx [vC 5 n])) :
  aK prog G0 179 [.ptr l 1 6 0 0, .str sId, .own j 1] H (aV (vOf 2 n)) H := by
 have hj0 : H[j]? = some ⟨62, 5, [[.int .i64 5, .int .i64 n, .int .i64 0, .str ⟨#[]⟩, .slice 5 false []]], true, true⟩ := hj
 have hjR : ∀ R, (H ++ R)[j]? = some ⟨62, 5, [[.int .i64 5, .int .i64 n, .int .i64 0, .str ⟨#[]⟩, .slice 5 false []]], true, true⟩ := λ R => gZ hj0
 refine jQ (C := CQd) func179 rfl rfl rfl (by show 3 <= _; decide) ?_
 refine ay Lr mixed (hd := []) _ (by kernel_rfl) ?_
 rw [e9V]
 simp [ac, ag, ae, am, ap, aa, au, ab, ao, ak, ah, ai, aj, argsρ, hj0, hjR, dz, co, dQ, cr, sId, Hv, vC]
 exact g8 k (by simp [AV.cleanF, AV.clean2, AV.clean1])
theorem Q9 (k : EvH g x y z l H) {j : Nat} {n : Int} {ks : List (List AV)} (hj : H[j]? = some (oBx [vC 5 n])) :
  aK prog G0 253 [.ptr l 1 6 0 0, .agg (exE 23 sId ks), .own j 1] H (aV (vOf 2 n)) H := by
 obtain ⟨R, hR⟩ : ∃ R, [eBx 23 sId ks, bZ] = R := ⟨_, rfl⟩
 have k1 : EvH g x y z l (H ++ R) := By k (by rw [<- hR]; rfl)
 obtain ⟨A, hA⟩ : ∃ A : List AV, [.ptr l 1 6 0 0, .str sId, .own j 1] = A := ⟨_, rfl⟩
 have hw := N1 k1 (n := n) (j := j) (gZ hj)
 rw [hA, e9V] at hw
 have hE := aF hw func179 rfl (by decide)
 rw [e9V]
 refine jQ (C := CR 179 A (H ++ R) (.agg [.int .i64 2, .int .i64 n, .int .i64 0, .str ⟨#[]⟩, .slice 5 false []]) (H ++ R) []) func253 rfl rfl rfl (by show 3 <= _; decide) ?_
 refine ay (iX hE (ax _ _)) mixed (hd := [7, 16, 18, 29, 35, 38]) _ (by kernel_rfl) ?_
 simp [ac, ag, ae, am, ap, aa, au, ab, ao, ak, ah, ai, aj, argsρ, exE, k.get, k.get0, dz, co, dQ, cr]
 refine aE (iX hE (ax _ _)) mixed [.pure, .pure, .pure, .read, .pure, .read, .pure, .eff, .eff] [[],[0],[0,1],[1,0,2],[],[4],[],[6,4,5,2,0,1,3],[3,1,0,2,5,4,6,7]] (by kernel_rfl) (by kernel_rfl) (by kernel_rfl) (by kernel_rfl) ?_
 simp [ac, ag, ae, am, ap, aa, au, ab, ao, ak, ah, ai, aj, k.get, k.get0, dz, co, dQ, cr]
 refine ⟨⟨by rw [<- hA], by rw [<- hR]; rfl⟩, ?_⟩
 rw [<- hR]
 simp [ac, ag, ae, am, ap, aa, au, ab, ao, ak, ah, ai, aj, eBx, bZ, exE, dz, co, dQ, cr]
 exact g8 k (by simp [AV.cleanF, AV.clean2, AV.clean1])
noncomputable def CQe : Ctx := mkC prog G0 [(327, .pure qj), (322, .pure yD), (239, .pure yH), (324, .pure D8)]
@[simp] theorem UJ : CQe.P = prog := rfl
@[simp] theorem UI : CQe.G = G0 := rfl
@[simp] theorem UH : CQe.S 327 = .pure qj /\ CQe.S 322 = .pure yD /\ CQe.S 239 = .pure yH /\ CQe.S 324 = .pure D8 := ⟨rfl, rfl, rfl, rfl⟩
theorem uo : aB CQe := aH (JC) func327 (aH (x4) func322 (aH (AH) func239 (aH (Q8) func324 (ax _ _))))
theorem El (x y : Int) : yD [.int .i64 (if x = y then 0 else 2)] = some (True, .agg (vC 1 (tvI (decide (x ≠ y))))) := by by_cases h : x = y <;> simp [yD, aN, vOf, vC, tvI, h]
theorem Ra (k : EvH g x y z l H) {j : Nat} {a b : Int} {s : ByteArray} {ks : List (List AV)} (ha : InR a) (hb : InR b) (hj : H[j]? = some (oBx [vC 2 a, vC 2 b])) :
  aK prog G0 253 [.ptr l 1 6 0 0, .agg (exE 13 s ks), .own j 2] H (aV (vOf 1 (tvI (decide (a ≠ b))))) H := by
 have hc := BP a b
 have hab : ∃ x' y', InR x' /\ InR y' /\ vOf 2 a = vOf 2 x' /\ vOf 2 b = vOf 2 y' := ⟨a, b, ha, hb, rfl, rfl⟩
 rw [eq_true hab] at hc
 simp only [oBx, vC] at hj hc
 have hjR : ∀ R, (H ++ R)[j]? = _ := λ R => gZ hj
 rw [e9V]
 refine jQ (C := CQe) func253 rfl rfl rfl (by show 3 <= _; decide) ?_
 refine ay uo mixed (hd := [7, 16, 18, 29, 35, 38]) _ (by kernel_rfl) ?_
 have hf := El a b
 obtain ⟨t, ht⟩ : ∃ t : Int, (if a = b then 0 else 2) = t := ⟨_, rfl⟩
 rw [ht] at hc hf
 obtain ⟨u, hu⟩ : ∃ u, tvI (decide (a ≠ b)) = u := ⟨_, rfl⟩
 rw [hu] at hf ⊢
 simp only [vC] at hf
 simp [ac, ag, ae, am, ap, aa, au, ab, ao, ak, ah, ai, aj, argsρ, exE, k.get, k.get0, dz, co, dQ, cr]
 refine aE uo mixed [.pure, .read, .pure, .pure, .read, .pure, .pure, .read, .read, .read, .eff] [[],[0],[],[2],[2,3],[],[5],[5,6],[6,5,7,3,2,4,0,1],[1,0,4,2,3,7,5,6,8],[8,6,5,7,3,2,4,0,1,9]] (by kernel_rfl) (by kernel_rfl) (by kernel_rfl) (by kernel_rfl) ?_
 simp [ac, ag, ae, am, ap, aa, au, ab, ao, ak, ah, ai, aj, hj, hjR, hc, hf, dz, co, dQ, cr]
 exact g8 k (by simp [AV.cleanF, AV.clean2, AV.clean1])
theorem Ia (k : EvH g x y z l H) {j : Nat} {a b : Bool} {s : ByteArray} {ks : List (List AV)} (hj : H[j]? = some (oBx [vC 1 (tvI a), vC 1 (tvI b)])) :
  aK prog G0 253 [.ptr l 1 6 0 0, .agg (exE 18 s ks), .own j 2] H (aV (vOf 1 (tvI (a && b)))) H := by
 have h1 := uj a
 have h2 := uj b
 rw [eq_true (⟨a, rfl⟩ : ∃ c : Bool, vOf 1 (tvI a) = vOf 1 (if c then 1 else 0))] at h1
 rw [eq_true (⟨b, rfl⟩ : ∃ c : Bool, vOf 1 (tvI b) = vOf 1 (if c then 1 else 0))] at h2
 have h3 := G6 a b
 have h4 := Hj (a && b)
 simp only [oBx, vC] at hj h1 h2 h4
 have hjR : ∀ R, (H ++ R)[j]? = _ := λ R => gZ hj
 obtain ⟨ta, hta⟩ : ∃ t : Int, (if a = true then 2 else 0) = t := ⟨_, rfl⟩
 obtain ⟨tb, htb⟩ : ∃ t : Int, (if b = true then 2 else 0) = t := ⟨_, rfl⟩
 obtain ⟨tc, htc⟩ : ∃ t : Int, (if (a && b) = true then 2 else 0) = t := ⟨_, rfl⟩
 obtain ⟨ua, hua⟩ : ∃ u, tvI a = u := ⟨_, rfl⟩
 obtain ⟨ub, hub⟩ : ∃ u, tvI b = u := ⟨_, rfl⟩
 obtain ⟨uc, huc⟩ : ∃ u, tvI (a && b) = u := ⟨_, rfl⟩
 rw [hta] at h1 h3
 rw [htb] at h2 h3
 rw [htc] at h3 h4
 rw [hua] at h1 hj
 rw [hub] at h2 hj
 rw [huc] at h4 ⊢
 simp only [hua, hub] at hjR
 rw [e9V]
 refine jQ (C := CQe) func253 rfl rfl rfl (by show 3 <= _; decide) ?_
 refine ay uo mixed (hd := [7, 16, 18, 29, 35, 38]) _ (by kernel_rfl) ?_
 simp [ac, ag, ae, am, ap, aa, au, ab, ao, ak, ah, ai, aj, argsρ, exE, k.get, k.get0, dz, co, dQ, cr]
 refine aE uo mixed [.pure, .pure, .read, .read, .pure, .pure, .read, .read, .read, .read, .eff] [[],[0],[0,1],[1,0,2],[],[4],[4,5],[2,0,1,3,5,4,6],[6,4,5,7,2,0,1,3],[3,1,0,2,7,5,4,6,8],[8,6,4,5,7,2,0,1,3,9]] (by kernel_rfl) (by kernel_rfl) (by kernel_rfl) (by kernel_rfl) ?_
 simp [ac, ag, ae, am, ap, aa, au, ab, ao, ak, ah, ai, aj, hj, hjR, h1, h2, h3, h4, dz, co, dQ, cr]
 exact g8 k (by simp [AV.cleanF, AV.clean2, AV.clean1])
end
structure GdG (g : Gra) : Prop where
 n : GdN g
 e : ∀ e ∈ g.edges, kW e.props
 l : g.edges.length <= 8
 f : ∀ e ∈ g.edges, ∃ n ∈ g.nodes, n.id = e.frm
 t : ∀ e ∈ g.edges, ∃ n ∈ g.nodes, n.id = e.to
 r : ∀ n ∈ g.nodes, 1 <= n.id /\ n.id <= 1000000
def bO (g : Gra) : List Ed := g.edges.map edF
theorem iE {g : Gra} (hg : GdG g) {p : Int} {a : Ed} (h : a ∈ bu (bO g) p) : (∃ e ∈ g.edges, e.id = a.i) /\ ∃ n ∈ g.nodes, n.id = a.t := by
 rw [mY] at h
 unfold stF bO at h
 obtain ⟨x, hx, he⟩ := List.mem_filterMap.1 h
 obtain ⟨e, he2, rfl⟩ := mem_map.1 hx
 by_cases h1 : (edF e).f = p
 ·rw [if_pos h1] at he
  injection he with he
  subst he
  exact ⟨⟨e, he2, rfl⟩, hg.t e he2⟩
 ·rw [if_neg h1] at he
  by_cases h2 : (edF e).t = p
  ·rw [if_pos h2] at he
   injection he with he
   subst he
   exact ⟨⟨e, he2, rfl⟩, hg.f e he2⟩
  ·rw [if_neg h2] at he
   cases he
theorem kQ (es : List Ed) (p : Int) : (bu es p).length <= es.length := by
 have h := (dh OA (l := stF es p) (λ _ _ => trivial)).1.length_eq
 exact Nat.le_trans (Nat.le_of_eq h) (List.length_filterMap_le _ _)
def bEv (e : Edg) : Blk := ⟨51, 5, [[.int .i64 e.id, .int .i64 e.frm, .int .i64 e.to, .str e.type, .slice 6 false (aq e.props)]], true, true⟩
def bEg : Blk := ⟨159, 7, [egP], true, true⟩
theorem yG (g : Gra) (p : Int) (b : Bool) : sSt [aG g, .int .i64 p, .slice 1 b [], .int .i64 3] = some (g.edges.length <= 8, .slice 3 false (aq (bu (bO g) p))) := by
 simp [sSt, xf, aG, bO]
noncomputable def CZ0 : Ctx := mkC prog G0 [(300, .gen mZ), (301, .pure uh), (303, .pure sSt), (304, .pure kp), (299, .pure kq), (305, .pure jH)]
@[simp] theorem Wx : CZ0.P = prog := rfl
@[simp] theorem Ww : CZ0.G = G0 := rfl
@[simp] theorem Wv : CZ0.S 300 = .gen mZ /\ CZ0.S 301 = .pure uh /\ CZ0.S 303 = .pure sSt /\ CZ0.S 304 = .pure kp /\ CZ0.S 299 = .pure kq /\ CZ0.S 305 = .pure jH := ⟨rfl, rfl, rfl, rfl, rfl, rfl⟩
theorem jv : aB CZ0 := aD (aF ((oC _)) func300 rfl (by decide)) (aH (OE) func301 (aH (E9) func303 (aH (Iu) func304 (aH (JW) func299 (aH (za) func305 (ax _ _))))))
def ct (S : List Ed) (found : Ed -> List (IR 5)) (i : Nat) : List (IR 5) := (S.take i).flatMap found
theorem jZ {S : List Ed} {found : Ed -> List (IR 5)} {i : Nat} (h : i < S.length) : ct S found (i + 1) = ct S found i ++ found (ix S i) := by
 unfold ct
 rw [bF h, List.take_add_one, getElem?_eq_getElem h, flatMap_append]
 simp
theorem lx (S : List Ed) (found : Ed -> List (IR 5)) : ct S found S.length = S.flatMap found := by unfold ct; rw [List.take_length]
theorem mS (S : List Ed) (found : Ed -> List (IR 5)) (i : Nat) : (ct S found i).length <= (S.flatMap found).length := by
 have h := congrArg (List.flatMap found) (List.take_append_drop i S)
 rw [flatMap_append] at h
 rw [<- h, length_append]
 exact Nat.le_add_right _ _
section
variable {g : Gra} {w : Wh} {H : List Blk}
theorem L6 (k : OkW w H) (hg : GdG g) {fb : Bool} {q : List Val} (hq : q.length <= 1000) {at' : Int} {l : List Int} {found : Ed -> List (IR 5)} {rows : List (IR 5)} (hb : rows.length + ((bu (bO g) at').flatMap found).length <= 1000000)
  (hc : ∀ a ∈ bu (bO g) at', ∀ rows, rows.length + (found a).length <= 1000000 -> ∀ H', OkW w H' -> aK prog G0 307 [.ptr w.f 1 9 0 0, .int .i64 0, .int .i64 0, aP fb (q ++ [vOf 5 at']), aP true [vOf 6 a.i, vOf 5 a.t]] (FH g w H' rows.length rows (az l)) (.tup []) (FH g w H' (rows ++ found a).length (rows ++ found a) (az l))) :
  aK prog G0 237 [.ptr w.f 1 9 0 0, .int .i64 0, .int .i64 0, aP fb (q ++ [vOf 5 at'])] (FH g w H rows.length rows (az l)) (.tup []) (FH g w H (rows ++ (bu (bO g) at').flatMap found).length (rows ++ (bu (bO g) at').flatMap found) (az l)) := by
 have hst : ∀ a ∈ bu (bO g) at', (∃ e ∈ g.edges, e.id = a.i) /\ ∃ n ∈ g.nodes, n.id = a.t := λ a ha => iE hg ha
 have hpl : (q ++ [vOf 5 at']).length = q.length + 1 := by simp
 have hix : dq (aq (q ++ [vOf 5 at'])) q.length = [.int .i64 5, .int .i64 at', .int .i64 0, .str ⟨#[]⟩, .slice 5 false []] := by
  rw [aw (by simp)]; simp [ix, vOf]
 obtain ⟨p, hp⟩ : ∃ p, q ++ [vOf 5 at'] = p := ⟨_, rfl⟩
 rw [hp] at hix hpl hc ⊢
 have hl1 : w64 (q.length : Int) = (q.length : Int) := dd (by unfold I64; omega)
 have hss := yG g at' false
 have hSl : (bu (bO g) at').length <= 8 := Nat.le_trans (kQ _ _) (by unfold bO; rw [length_map]; exact hg.l)
 obtain ⟨S, hS⟩ : ∃ S, bu (bO g) at' = S := ⟨_, rfl⟩
 rw [hS] at hb hc hst hss hSl ⊢
 obtain ⟨R, hR⟩ : ∃ R, [e7 w, dj 0, dj 0, bL fb p, bP, bEg] = R := ⟨_, rfl⟩
 have hRl : R.length = 6 := by rw [<- hR]; rfl
 have kF := k.f
 have hRc : ∀ b ∈ R, ClB (H.length + R.length) b := by
  intro b hb
  rw [hRl]
  rw [<- hR] at hb
  simp only [mem_cons, not_mem_nil, or_false] at hb
  rcases hb with rfl | rfl | rfl | rfl | rfl | rfl
  ·exact jd (by omega)
  all_goals exact b8 rfl
 have h8 := hg.l
 simp only [aG] at hss
 refine cP (C := CZ0) func237 rfl rfl rfl (by show 4 <= _; decide) ?_
 rw [cW]
 refine ay jv mixed (hd := [1, 10]) _ (by kernel_rfl) ?_
 simp [ac, ag, ae, am, ap, aa, au, ab, ao, ak, ah, ai, aj, argsρ, gf k, gf0 k, gm0 k, go k, gm k, gl k, gr, gr0, sm k, so1 k, sf k, sr, sr0, aP]
 refine aE jv mixed [.read, .pure, .pure, .read, .read, .pure, .read, .eff, .eff] [[],[0],[0,1],[1,0,2],[],[4,2,0,1,3],[3,1,0,2,4,5],[],[5,4,2,0,1,3,6,7]] (by kernel_rfl) (by kernel_rfl) (by kernel_rfl) (by kernel_rfl) ?_
 simp [ac, ag, ae, am, ap, aa, au, ab, ao, ak, ah, ai, aj, argsρ, gf k, gf0 k, gm0 k, go k, gm k, gl k, gr, gr0, sm k, so1 k, sf k, sr, sr0, gj, ndP, egP, hpl, hl1, hix, hss]
 refine ⟨by omega, h8, ?_⟩
 refine gV (λ i : Nat => ⟨[(4, .ptr H.length 1 1 0 0), (5, .ptr (H.length + 1) 1 1 0 0), (6, .ptr (H.length + 2) 1 1 0 0), (7, .ptr (H.length + 3) 1 1 0 0), (8, .ptr (H.length + 4) 1 5 0 0), (10, .ptr (H.length + 5) 1 7 0 0), (65, .slice 3 false (aq S)), (66, .int .i64 S.length), (67, .int .i64 i)], FH g w H (rows ++ ct S found i).length (rows ++ ct S found i) (az l) ++ R⟩) (λ i => i <= S.length) (λ i => S.length - i) ⟨0, zero_le _, ?_⟩ (λ i hi => ?_)
 ·have e0 : rows ++ ct S found 0 = rows := by simp [ct]
  rw [e0, <- hR]
  exact ar (by simp)
 by_cases hlt : i < S.length
 ·have ha : ix S i ∈ S := by rw [bF hlt]; exact getElem_mem hlt
  have hre := aw hlt
  have hstep := jZ (found := found) hlt
  have hle := mS S found (i + 1)
  obtain ⟨a, hae⟩ : ∃ a, ix S i = a := ⟨_, rfl⟩
  rw [hae] at ha hstep hre
  have i1 : I64 ((i : Int) + 1) := by unfold I64; omega
  obtain ⟨rw1, hr1⟩ : ∃ r, rows ++ ct S found i = r := ⟨_, rfl⟩
  have hr2 : rows ++ ct S found (i + 1) = rw1 ++ found a := by rw [hstep, <- hr1, append_assoc]
  have hbd : rw1.length + (found a).length <= 1000000 := by
   have := congrArg List.length hr2
   rw [length_append, length_append] at this
   omega
  obtain ⟨e', he'⟩ : ∃ e', C3 g a.i = e' := ⟨_, rfl⟩
  obtain ⟨R8, hR8⟩ : ∃ R8, R ++ [bA a, bEv e'] = R8 := ⟨_, rfl⟩
  have hR8l : R8.length = 8 := by rw [<- hR8, length_append, hRl]; rfl
  have k1 : OkW w (H ++ R8) := k.app R8 (by
   intro b hb
   rw [hR8l]
   rw [<- hR8] at hb
   rcases mem_append.1 hb with hb | hb
   ·exact (hRc b hb).mono (by rw [hRl]; omega)
   ·simp only [mem_cons, not_mem_nil, or_false] at hb
    rcases hb with rfl | rfl <;> exact b8 rfl)
  have k2 : OkW w ((H ++ R8) ++ [bV (vOf 6 a.i)]) := k1.app _ (by intro b hb; rw [mem_singleton.1 hb]; exact b8 rfl)
  have hs := hc a ha rw1 hbd _ k2
  have h0 : (FH g w ((H ++ R8) ++ [bV (vOf 6 a.i)]) rw1.length rw1 (az l))[H.length]? = some (e7 w) := by
   rw [<- aS k1, <- aS k, append_assoc, gr0, <- hR8, <- hR]; rfl
  have h1 : (FH g w ((H ++ R8) ++ [bV (vOf 6 a.i)]) rw1.length rw1 (az l))[H.length + 1]? = some (dj 0) := by
   rw [<- aS k1, <- aS k, append_assoc, gr, <- hR8, <- hR]; rfl
  have h2 : (FH g w ((H ++ R8) ++ [bV (vOf 6 a.i)]) rw1.length rw1 (az l))[H.length + 2]? = some (dj 0) := by
   rw [<- aS k1, <- aS k, append_assoc, gr, <- hR8, <- hR]; rfl
  have h3 : (FH g w ((H ++ R8) ++ [bV (vOf 6 a.i)]) rw1.length rw1 (az l))[H.length + 3]? = some (bL fb p) := by
   rw [<- aS k1, <- aS k, append_assoc, gr, <- hR8, <- hR]; rfl
  have h4 : (FH g w ((H ++ R8) ++ [bV (vOf 6 a.i)]) rw1.length rw1 (az l))[H.length + 6]? = some (bA a) := by
   rw [<- aS k1, <- aS k, append_assoc, gr, <- hR8, <- hR]; rfl
  have hw := kR k1 (vOf 6 a.i) (xT h0 h1 h2 h3 h4 hs)
  rw [<- aS k, <- aS k] at hw
  obtain ⟨A, hA⟩ : ∃ A, [.ptr w.f 1 9 0 0, .str ⟨#[]⟩, aV (vOf 6 a.i), .fn 306 [.ptr H.length 1 1 0 0, .ptr (H.length + 1) 1 1 0 0, .ptr (H.length + 2) 1 1 0 0, .ptr (H.length + 3) 1 1 0 0, .ptr (H.length + 6) 1 3 0 0]] = A := ⟨_, rfl⟩
  rw [hA] at hw
  obtain ⟨H1, hH1⟩ : ∃ H1, FH g w H (rw1 ++ found a).length (rw1 ++ found a) (az l) ++ R8 = H1 := ⟨_, rfl⟩
  rw [hH1] at hw
  have hE : eO 300 A (FH g w H rw1.length rw1 (az l) ++ R8) H1 := aF hw func300 rfl (by decide)
  refine uL (C' := CX 300 A (FH g w H rw1.length rw1 (az l) ++ R8) H1 LZw) rfl rfl ?_
  refine ay (bQ hE kt) mixed (hd := [1, 10]) _ (by kernel_rfl) ?_
  have n1 : (CX 300 A (FH g w H rw1.length rw1 (az l) ++ R8) H1 LZw).S 304 = .pure kp := rfl
  have n2 : (CX 300 A (FH g w H rw1.length rw1 (az l) ++ R8) H1 LZw).S 299 = .pure kq := rfl
  have n3 : (CX 300 A (FH g w H rw1.length rw1 (az l) ++ R8) H1 LZw).S 305 = .pure jH := rfl
  have hse := qk g a.i
  rw [he'] at hse
  simp only [aG] at hse
  have hg1 := hg.e
  have hg3 : ∃ e ∈ g.edges, e.id = a.i := (hst a ha).1
  rw [hr1, <- hR]
  simp only [e7, dj, bL, bP, bEg, gj, ndP, egP]
  simp [ac, ag, ae, am, ap, aa, au, ab, ao, ak, ah, ai, aj, gf k, gf0 k, gm0 k, go k, gm k, gl k, gr, gr0, sm k, so1 k, sf k, sr, sr0, hlt, hre]
  refine aE (bQ hE kt) mixed [.read, .pure, .pure, .read, .pure, .read, .read, .pure, .pure, .pure, .eff, .eff, .pure] [[],[0],[0,1],[1,0,2],[],[4],[4,5,2,0,1,3],[3,1,0,2,5,4,6],[6,4,5,2,0,1,3,7],[6,4,5,2,0,1,3,7],[],[7,3,1,0,2,5,4,6,8,10],[10,8,11,7,3,1,0,2,5,4,6,9]] (by kernel_rfl) (by kernel_rfl) (by kernel_rfl) (by kernel_rfl) ?_
  simp [ac, ag, ae, am, ap, aa, au, ab, ao, ak, ah, ai, aj, gf k, gf0 k, gm0 k, go k, gm k, gl k, gr, gr0, sm k, so1 k, sf k, sr, sr0, n1, n2, n3, hse, jt, oK, i1]
  subst hH1
  refine ⟨⟨hg1, by omega, hg3⟩, ⟨hA, by rw [<- hR8, <- hR]; rfl⟩, i + 1, by omega, by omega, ?_⟩
  have hr2l : rows.length + (ct S found (i + 1)).length = (rw1 ++ found a).length := by rw [<- hr2, length_append]
  rw [hr2, hr2l, <- hR8, <- hR]
  rw [<- hR] at hRc
  exact oQ k (by simp) rfl hRc (by simp [aQ]) (by simp [AV.cleanF, AV.clean2, AV.clean1])
 ·have e : i = S.length := by omega
  subst e
  rw [lx]
  refine ay jv mixed (hd := [1, 10]) _ (by kernel_rfl) ?_
  simp [ac, ag, ae, am, ap, aa, au, ab, ao, ak, ah, ai, aj, gf k, gf0 k, gm0 k, go k, gm k, gl k, gr, gr0, sm k, so1 k, sf k, sr, sr0]
  exact dy k
theorem L7 (k : OkW w H) (hg : GdG g) {fb : Bool} {q : List Val} (hq : q.length <= 1000) {at' : Int} {l : List Int} {found : Ed -> List (IR 5)} {rows : List (IR 5)} (hb : rows.length + ((bu (bO g) at').flatMap found).length <= 1000000)
  (hc : ∀ a ∈ bu (bO g) at', ∀ rows, rows.length + (found a).length <= 1000000 -> ∀ H', OkW w H' -> aK prog G0 307 [.ptr w.f 1 9 0 0, .int .i64 0, .int .i64 1, aP fb (q ++ [vOf 5 at']), aP true [vOf 6 a.i, vOf 5 a.t]] (FH g w H' rows.length rows (az l)) (.tup []) (FH g w H' (rows ++ found a).length (rows ++ found a) (az l))) :
  aK prog G0 237 [.ptr w.f 1 9 0 0, .int .i64 0, .int .i64 1, aP fb (q ++ [vOf 5 at'])] (FH g w H rows.length rows (az l)) (.tup []) (FH g w H (rows ++ (bu (bO g) at').flatMap found).length (rows ++ (bu (bO g) at').flatMap found) (az l)) := by
 have hst : ∀ a ∈ bu (bO g) at', (∃ e ∈ g.edges, e.id = a.i) /\ ∃ n ∈ g.nodes, n.id = a.t := λ a ha => iE hg ha
 have hpl : (q ++ [vOf 5 at']).length = q.length + 1 := by simp
 have hix : dq (aq (q ++ [vOf 5 at'])) q.length = [.int .i64 5, .int .i64 at', .int .i64 0, .str ⟨#[]⟩, .slice 5 false []] := by
  rw [aw (by simp)]; simp [ix, vOf]
 obtain ⟨p, hp⟩ : ∃ p, q ++ [vOf 5 at'] = p := ⟨_, rfl⟩
 rw [hp] at hix hpl hc ⊢
 have hl1 : w64 (q.length : Int) = (q.length : Int) := dd (by unfold I64; omega)
 have hss := yG g at' false
 have hSl : (bu (bO g) at').length <= 8 := Nat.le_trans (kQ _ _) (by unfold bO; rw [length_map]; exact hg.l)
 obtain ⟨S, hS⟩ : ∃ S, bu (bO g) at' = S := ⟨_, rfl⟩
 rw [hS] at hb hc hst hss hSl ⊢
 obtain ⟨R, hR⟩ : ∃ R, [e7 w, dj 0, dj 1, bL fb p, bP, bEg] = R := ⟨_, rfl⟩
 have hRl : R.length = 6 := by rw [<- hR]; rfl
 have kF := k.f
 have hRc : ∀ b ∈ R, ClB (H.length + R.length) b := by
  intro b hb
  rw [hRl]
  rw [<- hR] at hb
  simp only [mem_cons, not_mem_nil, or_false] at hb
  rcases hb with rfl | rfl | rfl | rfl | rfl | rfl
  ·exact jd (by omega)
  all_goals exact b8 rfl
 have h8 := hg.l
 simp only [aG] at hss
 refine cP (C := CZ0) func237 rfl rfl rfl (by show 4 <= _; decide) ?_
 rw [cW]
 refine ay jv mixed (hd := [1, 10]) _ (by kernel_rfl) ?_
 simp [ac, ag, ae, am, ap, aa, au, ab, ao, ak, ah, ai, aj, argsρ, gf k, gf0 k, gm0 k, go k, gm k, gl k, gr, gr0, sm k, so1 k, sf k, sr, sr0, aP]
 refine aE jv mixed [.read, .pure, .pure, .read, .read, .pure, .read, .eff, .eff] [[],[0],[0,1],[1,0,2],[],[4,2,0,1,3],[3,1,0,2,4,5],[],[5,4,2,0,1,3,6,7]] (by kernel_rfl) (by kernel_rfl) (by kernel_rfl) (by kernel_rfl) ?_
 simp [ac, ag, ae, am, ap, aa, au, ab, ao, ak, ah, ai, aj, argsρ, gf k, gf0 k, gm0 k, go k, gm k, gl k, gr, gr0, sm k, so1 k, sf k, sr, sr0, gj, ndP, egP, hpl, hl1, hix, hss]
 refine ⟨by omega, h8, ?_⟩
 refine gV (λ i : Nat => ⟨[(4, .ptr H.length 1 1 0 0), (5, .ptr (H.length + 1) 1 1 0 0), (6, .ptr (H.length + 2) 1 1 0 0), (7, .ptr (H.length + 3) 1 1 0 0), (8, .ptr (H.length + 4) 1 5 0 0), (10, .ptr (H.length + 5) 1 7 0 0), (65, .slice 3 false (aq S)), (66, .int .i64 S.length), (67, .int .i64 i)], FH g w H (rows ++ ct S found i).length (rows ++ ct S found i) (az l) ++ R⟩) (λ i => i <= S.length) (λ i => S.length - i) ⟨0, zero_le _, ?_⟩ (λ i hi => ?_)
 ·have e0 : rows ++ ct S found 0 = rows := by simp [ct]
  rw [e0, <- hR]
  exact ar (by simp)
 by_cases hlt : i < S.length
 ·have ha : ix S i ∈ S := by rw [bF hlt]; exact getElem_mem hlt
  have hre := aw hlt
  have hstep := jZ (found := found) hlt
  have hle := mS S found (i + 1)
  obtain ⟨a, hae⟩ : ∃ a, ix S i = a := ⟨_, rfl⟩
  rw [hae] at ha hstep hre
  have i1 : I64 ((i : Int) + 1) := by unfold I64; omega
  obtain ⟨rw1, hr1⟩ : ∃ r, rows ++ ct S found i = r := ⟨_, rfl⟩
  have hr2 : rows ++ ct S found (i + 1) = rw1 ++ found a := by rw [hstep, <- hr1, append_assoc]
  have hbd : rw1.length + (found a).length <= 1000000 := by
   have := congrArg List.length hr2
   rw [length_append, length_append] at this
   omega
  obtain ⟨e', he'⟩ : ∃ e', C3 g a.i = e' := ⟨_, rfl⟩
  obtain ⟨R8, hR8⟩ : ∃ R8, R ++ [bA a, bEv e'] = R8 := ⟨_, rfl⟩
  have hR8l : R8.length = 8 := by rw [<- hR8, length_append, hRl]; rfl
  have k1 : OkW w (H ++ R8) := k.app R8 (by
   intro b hb
   rw [hR8l]
   rw [<- hR8] at hb
   rcases mem_append.1 hb with hb | hb
   ·exact (hRc b hb).mono (by rw [hRl]; omega)
   ·simp only [mem_cons, not_mem_nil, or_false] at hb
    rcases hb with rfl | rfl <;> exact b8 rfl)
  have k2 : OkW w ((H ++ R8) ++ [bV (vOf 6 a.i)]) := k1.app _ (by intro b hb; rw [mem_singleton.1 hb]; exact b8 rfl)
  have hs := hc a ha rw1 hbd _ k2
  have h0 : (FH g w ((H ++ R8) ++ [bV (vOf 6 a.i)]) rw1.length rw1 (az l))[H.length]? = some (e7 w) := by
   rw [<- aS k1, <- aS k, append_assoc, gr0, <- hR8, <- hR]; rfl
  have h1 : (FH g w ((H ++ R8) ++ [bV (vOf 6 a.i)]) rw1.length rw1 (az l))[H.length + 1]? = some (dj 0) := by
   rw [<- aS k1, <- aS k, append_assoc, gr, <- hR8, <- hR]; rfl
  have h2 : (FH g w ((H ++ R8) ++ [bV (vOf 6 a.i)]) rw1.length rw1 (az l))[H.length + 2]? = some (dj 1) := by
   rw [<- aS k1, <- aS k, append_assoc, gr, <- hR8, <- hR]; rfl
  have h3 : (FH g w ((H ++ R8) ++ [bV (vOf 6 a.i)]) rw1.length rw1 (az l))[H.length + 3]? = some (bL fb p) := by
   rw [<- aS k1, <- aS k, append_assoc, gr, <- hR8, <- hR]; rfl
  have h4 : (FH g w ((H ++ R8) ++ [bV (vOf 6 a.i)]) rw1.length rw1 (az l))[H.length + 6]? = some (bA a) := by
   rw [<- aS k1, <- aS k, append_assoc, gr, <- hR8, <- hR]; rfl
  have hw := kR k1 (vOf 6 a.i) (xT h0 h1 h2 h3 h4 hs)
  rw [<- aS k, <- aS k] at hw
  obtain ⟨A, hA⟩ : ∃ A, [.ptr w.f 1 9 0 0, .str ⟨#[]⟩, aV (vOf 6 a.i), .fn 306 [.ptr H.length 1 1 0 0, .ptr (H.length + 1) 1 1 0 0, .ptr (H.length + 2) 1 1 0 0, .ptr (H.length + 3) 1 1 0 0, .ptr (H.length + 6) 1 3 0 0]] = A := ⟨_, rfl⟩
  rw [hA] at hw
  obtain ⟨H1, hH1⟩ : ∃ H1, FH g w H (rw1 ++ found a).length (rw1 ++ found a) (az l) ++ R8 = H1 := ⟨_, rfl⟩
  rw [hH1] at hw
  have hE : eO 300 A (FH g w H rw1.length rw1 (az l) ++ R8) H1 := aF hw func300 rfl (by decide)
  refine uL (C' := CX 300 A (FH g w H rw1.length rw1 (az l) ++ R8) H1 LZw) rfl rfl ?_
  refine ay (bQ hE kt) mixed (hd := [1, 10]) _ (by kernel_rfl) ?_
  have n1 : (CX 300 A (FH g w H rw1.length rw1 (az l) ++ R8) H1 LZw).S 304 = .pure kp := rfl
  have n2 : (CX 300 A (FH g w H rw1.length rw1 (az l) ++ R8) H1 LZw).S 299 = .pure kq := rfl
  have n3 : (CX 300 A (FH g w H rw1.length rw1 (az l) ++ R8) H1 LZw).S 305 = .pure jH := rfl
  have hse := qk g a.i
  rw [he'] at hse
  simp only [aG] at hse
  have hg1 := hg.e
  have hg3 : ∃ e ∈ g.edges, e.id = a.i := (hst a ha).1
  rw [hr1, <- hR]
  simp only [e7, dj, bL, bP, bEg, gj, ndP, egP]
  simp [ac, ag, ae, am, ap, aa, au, ab, ao, ak, ah, ai, aj, gf k, gf0 k, gm0 k, go k, gm k, gl k, gr, gr0, sm k, so1 k, sf k, sr, sr0, hlt, hre]
  refine aE (bQ hE kt) mixed [.read, .pure, .pure, .read, .pure, .read, .read, .pure, .pure, .pure, .eff, .eff, .pure] [[],[0],[0,1],[1,0,2],[],[4],[4,5,2,0,1,3],[3,1,0,2,5,4,6],[6,4,5,2,0,1,3,7],[6,4,5,2,0,1,3,7],[],[7,3,1,0,2,5,4,6,8,10],[10,8,11,7,3,1,0,2,5,4,6,9]] (by kernel_rfl) (by kernel_rfl) (by kernel_rfl) (by kernel_rfl) ?_
  simp [ac, ag, ae, am, ap, aa, au, ab, ao, ak, ah, ai, aj, gf k, gf0 k, gm0 k, go k, gm k, gl k, gr, gr0, sm k, so1 k, sf k, sr, sr0, n1, n2, n3, hse, jt, oK, i1]
  subst hH1
  refine ⟨⟨hg1, by omega, hg3⟩, ⟨hA, by rw [<- hR8, <- hR]; rfl⟩, i + 1, by omega, by omega, ?_⟩
  have hr2l : rows.length + (ct S found (i + 1)).length = (rw1 ++ found a).length := by rw [<- hr2, length_append]
  rw [hr2, hr2l, <- hR8, <- hR]
  rw [<- hR] at hRc
  exact oQ k (by simp) rfl hRc (by simp [aQ]) (by simp [AV.cleanF, AV.clean2, AV.clean1])
 ·have e : i = S.length := by omega
  subst e
  rw [lx]
  refine ay jv mixed (hd := [1, 10]) _ (by kernel_rfl) ?_
  simp [ac, ag, ae, am, ap, aa, au, ab, ao, ak, ah, ai, aj, gf k, gf0 k, gm0 k, go k, gm k, gl k, gr, gr0, sm k, so1 k, sf k, sr, sr0]
  exact dy k
theorem L8 (k : OkW w H) (hg : GdG g) {fb : Bool} {q : List Val} (hq : q.length <= 1000) {at' : Int} {l : List Int} {found : Ed -> List (IR 5)} {rows : List (IR 5)} (hb : rows.length + ((bu (bO g) at').flatMap found).length <= 1000000)
  (hc : ∀ a ∈ bu (bO g) at', ∀ rows, rows.length + (found a).length <= 1000000 -> ∀ H', OkW w H' -> aK prog G0 307 [.ptr w.f 1 9 0 0, .int .i64 0, .int .i64 2, aP fb (q ++ [vOf 5 at']), aP true [vOf 6 a.i, vOf 5 a.t]] (FH g w H' rows.length rows (az l)) (.tup []) (FH g w H' (rows ++ found a).length (rows ++ found a) (az l))) :
  aK prog G0 237 [.ptr w.f 1 9 0 0, .int .i64 0, .int .i64 2, aP fb (q ++ [vOf 5 at'])] (FH g w H rows.length rows (az l)) (.tup []) (FH g w H (rows ++ (bu (bO g) at').flatMap found).length (rows ++ (bu (bO g) at').flatMap found) (az l)) := by
 have hst : ∀ a ∈ bu (bO g) at', (∃ e ∈ g.edges, e.id = a.i) /\ ∃ n ∈ g.nodes, n.id = a.t := λ a ha => iE hg ha
 have hpl : (q ++ [vOf 5 at']).length = q.length + 1 := by simp
 have hix : dq (aq (q ++ [vOf 5 at'])) q.length = [.int .i64 5, .int .i64 at', .int .i64 0, .str ⟨#[]⟩, .slice 5 false []] := by
  rw [aw (by simp)]; simp [ix, vOf]
 obtain ⟨p, hp⟩ : ∃ p, q ++ [vOf 5 at'] = p := ⟨_, rfl⟩
 rw [hp] at hix hpl hc ⊢
 have hl1 : w64 (q.length : Int) = (q.length : Int) := dd (by unfold I64; omega)
 have hss := yG g at' false
 have hSl : (bu (bO g) at').length <= 8 := Nat.le_trans (kQ _ _) (by unfold bO; rw [length_map]; exact hg.l)
 obtain ⟨S, hS⟩ : ∃ S, bu (bO g) at' = S := ⟨_, rfl⟩
 rw [hS] at hb hc hst hss hSl ⊢
 obtain ⟨R, hR⟩ : ∃ R, [e7 w, dj 0, dj 2, bL fb p, bP, bEg] = R := ⟨_, rfl⟩
 have hRl : R.length = 6 := by rw [<- hR]; rfl
 have kF := k.f
 have hRc : ∀ b ∈ R, ClB (H.length + R.length) b := by
  intro b hb
  rw [hRl]
  rw [<- hR] at hb
  simp only [mem_cons, not_mem_nil, or_false] at hb
  rcases hb with rfl | rfl | rfl | rfl | rfl | rfl
  ·exact jd (by omega)
  all_goals exact b8 rfl
 have h8 := hg.l
 simp only [aG] at hss
 refine cP (C := CZ0) func237 rfl rfl rfl (by show 4 <= _; decide) ?_
 rw [cW]
 refine ay jv mixed (hd := [1, 10]) _ (by kernel_rfl) ?_
 simp [ac, ag, ae, am, ap, aa, au, ab, ao, ak, ah, ai, aj, argsρ, gf k, gf0 k, gm0 k, go k, gm k, gl k, gr, gr0, sm k, so1 k, sf k, sr, sr0, aP]
 refine aE jv mixed [.read, .pure, .pure, .read, .read, .pure, .read, .eff, .eff] [[],[0],[0,1],[1,0,2],[],[4,2,0,1,3],[3,1,0,2,4,5],[],[5,4,2,0,1,3,6,7]] (by kernel_rfl) (by kernel_rfl) (by kernel_rfl) (by kernel_rfl) ?_
 simp [ac, ag, ae, am, ap, aa, au, ab, ao, ak, ah, ai, aj, argsρ, gf k, gf0 k, gm0 k, go k, gm k, gl k, gr, gr0, sm k, so1 k, sf k, sr, sr0, gj, ndP, egP, hpl, hl1, hix, hss]
 refine ⟨by omega, h8, ?_⟩
 refine gV (λ i : Nat => ⟨[(4, .ptr H.length 1 1 0 0), (5, .ptr (H.length + 1) 1 1 0 0), (6, .ptr (H.length + 2) 1 1 0 0), (7, .ptr (H.length + 3) 1 1 0 0), (8, .ptr (H.length + 4) 1 5 0 0), (10, .ptr (H.length + 5) 1 7 0 0), (65, .slice 3 false (aq S)), (66, .int .i64 S.length), (67, .int .i64 i)], FH g w H (rows ++ ct S found i).length (rows ++ ct S found i) (az l) ++ R⟩) (λ i => i <= S.length) (λ i => S.length - i) ⟨0, zero_le _, ?_⟩ (λ i hi => ?_)
 ·have e0 : rows ++ ct S found 0 = rows := by simp [ct]
  rw [e0, <- hR]
  exact ar (by simp)
 by_cases hlt : i < S.length
 ·have ha : ix S i ∈ S := by rw [bF hlt]; exact getElem_mem hlt
  have hre := aw hlt
  have hstep := jZ (found := found) hlt
  have hle := mS S found (i + 1)
  obtain ⟨a, hae⟩ : ∃ a, ix S i = a := ⟨_, rfl⟩
  rw [hae] at ha hstep hre
  have i1 : I64 ((i : Int) + 1) := by unfold I64; omega
  obtain ⟨rw1, hr1⟩ : ∃ r, rows ++ ct S found i = r := ⟨_, rfl⟩
  have hr2 : rows ++ ct S found (i + 1) = rw1 ++ found a := by rw [hstep, <- hr1, append_assoc]
  have hbd : rw1.length + (found a).length <= 1000000 := by
   have := congrArg List.length hr2
   rw [length_append, length_append] at this
   omega
  obtain ⟨e', he'⟩ : ∃ e', C3 g a.i = e' := ⟨_, rfl⟩
  obtain ⟨R8, hR8⟩ : ∃ R8, R ++ [bA a, bEv e'] = R8 := ⟨_, rfl⟩
  have hR8l : R8.length = 8 := by rw [<- hR8, length_append, hRl]; rfl
  have k1 : OkW w (H ++ R8) := k.app R8 (by
   intro b hb
   rw [hR8l]
   rw [<- hR8] at hb
   rcases mem_append.1 hb with hb | hb
   ·exact (hRc b hb).mono (by rw [hRl]; omega)
   ·simp only [mem_cons, not_mem_nil, or_false] at hb
    rcases hb with rfl | rfl <;> exact b8 rfl)
  have k2 : OkW w ((H ++ R8) ++ [bV (vOf 6 a.i)]) := k1.app _ (by intro b hb; rw [mem_singleton.1 hb]; exact b8 rfl)
  have hs := hc a ha rw1 hbd _ k2
  have h0 : (FH g w ((H ++ R8) ++ [bV (vOf 6 a.i)]) rw1.length rw1 (az l))[H.length]? = some (e7 w) := by
   rw [<- aS k1, <- aS k, append_assoc, gr0, <- hR8, <- hR]; rfl
  have h1 : (FH g w ((H ++ R8) ++ [bV (vOf 6 a.i)]) rw1.length rw1 (az l))[H.length + 1]? = some (dj 0) := by
   rw [<- aS k1, <- aS k, append_assoc, gr, <- hR8, <- hR]; rfl
  have h2 : (FH g w ((H ++ R8) ++ [bV (vOf 6 a.i)]) rw1.length rw1 (az l))[H.length + 2]? = some (dj 2) := by
   rw [<- aS k1, <- aS k, append_assoc, gr, <- hR8, <- hR]; rfl
  have h3 : (FH g w ((H ++ R8) ++ [bV (vOf 6 a.i)]) rw1.length rw1 (az l))[H.length + 3]? = some (bL fb p) := by
   rw [<- aS k1, <- aS k, append_assoc, gr, <- hR8, <- hR]; rfl
  have h4 : (FH g w ((H ++ R8) ++ [bV (vOf 6 a.i)]) rw1.length rw1 (az l))[H.length + 6]? = some (bA a) := by
   rw [<- aS k1, <- aS k, append_assoc, gr, <- hR8, <- hR]; rfl
  have hw := kR k1 (vOf 6 a.i) (xT h0 h1 h2 h3 h4 hs)
  rw [<- aS k, <- aS k] at hw
  obtain ⟨A, hA⟩ : ∃ A, [.ptr w.f 1 9 0 0, .str ⟨#[]⟩, aV (vOf 6 a.i), .fn 306 [.ptr H.length 1 1 0 0, .ptr (H.length + 1) 1 1 0 0, .ptr (H.length + 2) 1 1 0 0, .ptr (H.length + 3) 1 1 0 0, .ptr (H.length + 6) 1 3 0 0]] = A := ⟨_, rfl⟩
  rw [hA] at hw
  obtain ⟨H1, hH1⟩ : ∃ H1, FH g w H (rw1 ++ found a).length (rw1 ++ found a) (az l) ++ R8 = H1 := ⟨_, rfl⟩
  rw [hH1] at hw
  have hE : eO 300 A (FH g w H rw1.length rw1 (az l) ++ R8) H1 := aF hw func300 rfl (by decide)
  refine uL (C' := CX 300 A (FH g w H rw1.length rw1 (az l) ++ R8) H1 LZw) rfl rfl ?_
  refine ay (bQ hE kt) mixed (hd := [1, 10]) _ (by kernel_rfl) ?_
  have n1 : (CX 300 A (FH g w H rw1.length rw1 (az l) ++ R8) H1 LZw).S 304 = .pure kp := rfl
  have n2 : (CX 300 A (FH g w H rw1.length rw1 (az l) ++ R8) H1 LZw).S 299 = .pure kq := rfl
  have n3 : (CX 300 A (FH g w H rw1.length rw1 (az l) ++ R8) H1 LZw).S 305 = .pure jH := rfl
  have hse := qk g a.i
  rw [he'] at hse
  simp only [aG] at hse
  have hg1 := hg.e
  have hg3 : ∃ e ∈ g.edges, e.id = a.i := (hst a ha).1
  rw [hr1, <- hR]
  simp only [e7, dj, bL, bP, bEg, gj, ndP, egP]
  simp [ac, ag, ae, am, ap, aa, au, ab, ao, ak, ah, ai, aj, gf k, gf0 k, gm0 k, go k, gm k, gl k, gr, gr0, sm k, so1 k, sf k, sr, sr0, hlt, hre]
  refine aE (bQ hE kt) mixed [.read, .pure, .pure, .read, .pure, .read, .read, .pure, .pure, .pure, .eff, .eff, .pure] [[],[0],[0,1],[1,0,2],[],[4],[4,5,2,0,1,3],[3,1,0,2,5,4,6],[6,4,5,2,0,1,3,7],[6,4,5,2,0,1,3,7],[],[7,3,1,0,2,5,4,6,8,10],[10,8,11,7,3,1,0,2,5,4,6,9]] (by kernel_rfl) (by kernel_rfl) (by kernel_rfl) (by kernel_rfl) ?_
  simp [ac, ag, ae, am, ap, aa, au, ab, ao, ak, ah, ai, aj, gf k, gf0 k, gm0 k, go k, gm k, gl k, gr, gr0, sm k, so1 k, sf k, sr, sr0, n1, n2, n3, hse, jt, oK, i1]
  subst hH1
  refine ⟨⟨hg1, by omega, hg3⟩, ⟨hA, by rw [<- hR8, <- hR]; rfl⟩, i + 1, by omega, by omega, ?_⟩
  have hr2l : rows.length + (ct S found (i + 1)).length = (rw1 ++ found a).length := by rw [<- hr2, length_append]
  rw [hr2, hr2l, <- hR8, <- hR]
  rw [<- hR] at hRc
  exact oQ k (by simp) rfl hRc (by simp [aQ]) (by simp [AV.cleanF, AV.clean2, AV.clean1])
 ·have e : i = S.length := by omega
  subst e
  rw [lx]
  refine ay jv mixed (hd := [1, 10]) _ (by kernel_rfl) ?_
  simp [ac, ag, ae, am, ap, aa, au, ab, ao, ak, ah, ai, aj, gf k, gf0 k, gm0 k, go k, gm k, gl k, gr, gr0, sm k, so1 k, sf k, sr, sr0]
  exact dy k
end
theorem tY {g : Gra} {x : Int} (h : ∃ n ∈ g.nodes, n.id = x) : (jF g x).id = x := by
 obtain ⟨n, hn, he⟩ := h
 unfold jF
 cases hf : g.nodes.find? λ e => decide (e.id = x) with
 | none =>
  have := List.find?_eq_none.1 hf n hn
  simp [he] at this
 | some m =>
  have := List.find?_some hf
  simpa using this
theorem mgB (x : Int) : ah (.str (nmN 1)) (az [x]) = none := rfl
theorem mpB (x y : Int) : ai (.str (nmN 1)) (aV (vOf 5 y)) (az [x]) = az ([x] ++ [y]) := rfl
theorem mdB (x y : Int) : aj (.str (nmN 1)) (az ([x] ++ [y])) = az [x] := rfl
theorem mgC (x y : Int) : ah (.str (nmN 2)) (az [x, y]) = none := rfl
theorem mpC (x y z : Int) : ai (.str (nmN 2)) (aV (vOf 5 z)) (az [x, y]) = az ([x, y] ++ [z]) := rfl
theorem mdC (x y z : Int) : aj (.str (nmN 2)) (az ([x, y] ++ [z])) = az [x, y] := rfl
theorem mgZ : ah (.str (nmN 0)) (az []) = none := rfl
theorem mpZ (x : Int) : ai (.str (nmN 0)) (aV (vOf 5 x)) (az []) = az ([] ++ [x]) := rfl
theorem mdZ (x : Int) : aj (.str (nmN 0)) (az ([] ++ [x])) = az [] := rfl
theorem mgD (x y z : Int) : ah (.str (nmN 3)) (az [x, y, z]) = some (aV (vOf 5 x)) := rfl
section
variable {g : Gra} {w : Wh} {H : List Blk}
theorem KA (k : OkW w H) {i : Int} {p : List Val} {nd : Nod} : OkW w (H ++ [e7 w, dj 0, dj i, bL false p, bN nd]) := k.app _ (by
 intro b hb
 have := k.f
 simp only [mem_cons, not_mem_nil, or_false] at hb
 rcases hb with rfl | rfl | rfl | rfl | rfl
 ·exact jd (by simp; omega)
 all_goals exact b8 rfl)
theorem GM (k : OkW w H) {nd : Nod} : OkW w (H ++ [bP, bN nd]) := k.app _ (by
 intro b hb
 simp only [mem_cons, not_mem_nil, or_false] at hb
 rcases hb with rfl | rfl <;> exact b8 rfl)
theorem KC (k : OkW w H) {v : Val} : OkW w (H ++ [bV v, bZ]) := k.app _ (by
 intro b hb
 simp only [mem_cons, not_mem_nil, or_false] at hb
 rcases hb with rfl | rfl <;> exact b8 rfl)
theorem Ox (k : OkW w H) {v v' : Val} : OkW w (H ++ [bV v, bV v']) := k.app _ (by
 intro b hb
 simp only [mem_cons, not_mem_nil, or_false] at hb
 rcases hb with rfl | rfl <;> exact b8 rfl)
theorem gW {R : List Blk} {n : Nat} {rows : List (IR 5)} {ents : List AV} (k : OkW w H) {j : Nat} {b : Blk} (h : R[j]? = some b) : (FH g w (H ++ R) n rows ents)[H.length + j]? = some b := by
 rw [<- aS k, gr, h]
theorem Rd (k : OkW w H) (hg : GdG g) {fb : Bool} {p : List Val} (hp : p.length <= 1000) (a : Ed) (ha : ∃ n ∈ g.nodes, n.id = a.t) {x y : Int} {n n' : Nat} {rows rows' : List (IR 5)}
  (hw : ∀ H', OkW w H' -> aK prog G0 237 [.ptr w.f 1 9 0 0, .int .i64 0, .int .i64 1, aP false (p ++ [vOf 6 a.i, vOf 5 a.t])] (FH g w H' n rows (az ([x] ++ [a.t]))) (.tup []) (FH g w H' n' rows' (az ([x] ++ [a.t])))) :
  aK prog G0 307 [.ptr w.f 1 9 0 0, .int .i64 0, .int .i64 0, aP fb p, aP true [vOf 6 a.i, vOf 5 a.t]] (FH g w H n rows (az [x])) (.tup []) (FH g w H n' rows' (az [x])) := by
 refine mK k hg.n (by unfold I64; omega) hp a ha ?_
 have k1 := KA k (i := 0) (p := p ++ [vOf 6 a.i, vOf 5 a.t]) (nd := jF g a.t)
 have k2 := GM k1 (nd := jF g a.t)
 have k3 := KC k2 (v := vOf 5 a.t)
 refine oD (i := 1) k1 (by omega) (jF g a.t) ?_
 rw [tY ha]
 refine qN k2 a.t (by decide) (mgB x) (mpB x a.t) (mdB x a.t) (by simp [az]) ?_
 refine xU (w := w) (i := 0) (by unfold I64; omega) ?_ ?_ ?_ ?_ (hw _ k3)
 all_goals
  rw [append_assoc, append_assoc]
 ·exact gW k (j := 0) rfl
 ·exact gW k (j := 1) rfl
 ·exact gW k (j := 2) rfl
 ·exact gW k (j := 3) rfl
theorem Re (k : OkW w H) (hg : GdG g) {fb : Bool} {p : List Val} (hp : p.length <= 1000) (a : Ed) (ha : ∃ n ∈ g.nodes, n.id = a.t) {x y : Int} {n n' : Nat} {rows rows' : List (IR 5)}
  (hw : ∀ H', OkW w H' -> aK prog G0 237 [.ptr w.f 1 9 0 0, .int .i64 0, .int .i64 2, aP false (p ++ [vOf 6 a.i, vOf 5 a.t])] (FH g w H' n rows (az ((x :: [y]) ++ [a.t]))) (.tup []) (FH g w H' n' rows' (az ((x :: [y]) ++ [a.t])))) :
  aK prog G0 307 [.ptr w.f 1 9 0 0, .int .i64 0, .int .i64 1, aP fb p, aP true [vOf 6 a.i, vOf 5 a.t]] (FH g w H n rows (az (x :: [y]))) (.tup []) (FH g w H n' rows' (az (x :: [y]))) := by
 refine mK k hg.n (by unfold I64; omega) hp a ha ?_
 have k1 := KA k (i := 1) (p := p ++ [vOf 6 a.i, vOf 5 a.t]) (nd := jF g a.t)
 have k2 := GM k1 (nd := jF g a.t)
 have k3 := KC k2 (v := vOf 5 a.t)
 refine oD (i := 2) k1 (by omega) (jF g a.t) ?_
 rw [tY ha]
 refine qN k2 a.t (by decide) (mgC x y) (mpC x y a.t) (mdC x y a.t) (by simp [az]) ?_
 refine xU (w := w) (i := 1) (by unfold I64; omega) ?_ ?_ ?_ ?_ (hw _ k3)
 all_goals
  rw [append_assoc, append_assoc]
 ·exact gW k (j := 0) rfl
 ·exact gW k (j := 1) rfl
 ·exact gW k (j := 2) rfl
 ·exact gW k (j := 3) rfl
end
def wk2 (es : List Ed) (x y z : Int) : List (IR 5) := (bu es z).flatMap λ c => if x = c.t then [⟨[x, y, z]⟩] else []
def wk1 (es : List Ed) (x y : Int) : List (IR 5) := (bu es y).flatMap λ b => wk2 es x y b.t
def wk0 (es : List Ed) (x : Int) : List (IR 5) := (bu es x).flatMap λ a => wk1 es x a.t
def wkN (g : Gra) : List (IR 5) := g.nodes.flatMap λ n => wk0 (bO g) n.id
section
variable {g : Gra} {w : Wh} {H : List Blk}
theorem Je (p : List Val) (e t : Int) : p ++ [vOf 6 e, vOf 5 t] = (p ++ [vOf 6 e]) ++ [vOf 5 t] := by simp
theorem De {m : Nat} {p : List Val} (h : p.length <= m /\ ∀ v ∈ p, v.l = []) (e : Int) : (p ++ [vOf 6 e]).length <= m + 1 /\ ∀ v ∈ p ++ [vOf 6 e], v.l = [] := by
 refine ⟨by simp; omega, λ v hv => ?_⟩
 rcases mem_append.1 hv with hv | hv
 ·exact h.2 v hv
 ·rw [mem_singleton.1 hv]; rfl
theorem flat1 {m : Nat} {p : List Val} (h : p.length <= m /\ ∀ v ∈ p, v.l = []) (e : Int) : (p ++ [vOf 5 e]).length <= m + 1 /\ ∀ v ∈ p ++ [vOf 5 e], v.l = [] := by
 refine ⟨by simp; omega, λ v hv => ?_⟩
 rcases mem_append.1 hv with hv | hv
 ·exact h.2 v hv
 ·rw [mem_singleton.1 hv]; rfl
theorem Rf (k : OkW w H) (hg : GdG g) {fb : Bool} {p : List Val} (hp : p.length <= 100 /\ ∀ v ∈ p, v.l = []) (a : Ed) (ha : ∃ n ∈ g.nodes, n.id = a.t) {x y z : Int} (hx : 1 <= x /\ x <= 1000000) {rows : List (IR 5)} (hl : rows.length <= 1000000) :
  aK prog G0 307 [.ptr w.f 1 9 0 0, .int .i64 0, .int .i64 2, aP fb p, aP true [vOf 6 a.i, vOf 5 a.t]] (FH g w H rows.length rows (az [x, y, z])) (.tup [])
   (FH g w H (rows ++ (if x = a.t then [⟨[x, y, z]⟩] else [] : List (IR 5))).length (rows ++ (if x = a.t then [⟨[x, y, z]⟩] else [])) (az [x, y, z])) := by
 have hpl := hp.1
 refine mK k hg.n (by unfold I64; omega) (by omega) a ha ?_
 have k1 := KA k (i := 2) (p := p ++ [vOf 6 a.i, vOf 5 a.t]) (nd := jF g a.t)
 have k2 := GM k1 (nd := jF g a.t)
 have k3 := Ox k2 (v := vOf 5 a.t) (v' := vOf 5 x)
 refine oD (i := 3) k1 (by omega) (jF g a.t) ?_
 rw [tY ha]
 have hat : 1 <= a.t /\ a.t <= 1000000 := by
  obtain ⟨n, hn, he⟩ := ha
  rw [<- he]; exact hg.r n hn
 have hf : rq (p ++ [vOf 6 a.i, vOf 5 a.t]) := by
  rw [Je]
  have := flat1 (De hp a.i) a.t
  exact ⟨by omega, this.2⟩
 have hwo := Fs (g := g) k2 a.t x (s := nmN 3) (fn := 364) (cap := [.ptr H.length 1 1 0 0, .ptr (H.length + 1) 1 1 0 0, .ptr (H.length + 2) 1 1 0 0, .ptr (H.length + 3) 1 1 0 0]) (l := [x, y, z]) (n := rows.length) (n' := rows.length + 1) (rows := rows) (rows' := rows ++ [⟨[x, y, z]⟩]) (by decide) hat hx (mgD x y z) (by decide) (λ _ => by
  refine xU (w := w) (i := 2) (fb := false) (by unfold I64; omega) ?_ ?_ ?_ ?_ (Fp (fb := false) k3 hf x y z hl)
  all_goals
   rw [append_assoc, append_assoc]
  ·exact gW k (j := 0) rfl
  ·exact gW k (j := 1) rfl
  ·exact gW k (j := 2) rfl
  ·exact gW k (j := 3) rfl)
 by_cases h : x = a.t
 ·rw [if_pos h] at hwo
  rw [if_pos h, length_append]
  exact hwo
 ·rw [if_neg h] at hwo
  rw [if_neg h, List.append_nil]
  exact hwo
theorem Fo (k : OkW w H) (hg : GdG g) {fb : Bool} {q : List Val} (hq : q.length <= 50 /\ ∀ v ∈ q, v.l = []) {x y z : Int} (hx : 1 <= x /\ x <= 1000000) {rows : List (IR 5)} (hb : rows.length + (wk2 (bO g) x y z).length <= 1000000) :
  aK prog G0 237 [.ptr w.f 1 9 0 0, .int .i64 0, .int .i64 2, aP fb (q ++ [vOf 5 z])] (FH g w H rows.length rows (az [x, y, z])) (.tup []) (FH g w H (rows ++ wk2 (bO g) x y z).length (rows ++ wk2 (bO g) x y z) (az [x, y, z])) := by
 have hql := hq.1
 refine L8 k hg (by omega) (found := λ c => if x = c.t then [⟨[x, y, z]⟩] else []) hb λ a ha rows hb H' k' => ?_
 have hf := flat1 hq z
 exact Rf k' hg ⟨by omega, hf.2⟩ a (iE hg ha).2 hx (by omega)
theorem Fn (k : OkW w H) (hg : GdG g) {fb : Bool} {q : List Val} (hq : q.length <= 40 /\ ∀ v ∈ q, v.l = []) {x y : Int} (hx : 1 <= x /\ x <= 1000000) {rows : List (IR 5)} (hb : rows.length + (wk1 (bO g) x y).length <= 1000000) :
  aK prog G0 237 [.ptr w.f 1 9 0 0, .int .i64 0, .int .i64 1, aP fb (q ++ [vOf 5 y])] (FH g w H rows.length rows (az [x, y])) (.tup []) (FH g w H (rows ++ wk1 (bO g) x y).length (rows ++ wk1 (bO g) x y) (az [x, y])) := by
 have hql := hq.1
 refine L7 k hg (by omega) (found := λ b => wk2 (bO g) x y b.t) hb λ a ha rows hb H' k' => ?_
 have hf := flat1 hq y
 have hf2 := De hf a.i
 refine Re k' hg (by have := hf.1; omega) a (iE hg ha).2 λ H'' k'' => ?_
 rw [Je]
 exact Fo k'' hg ⟨by have := hf2.1; omega, hf2.2⟩ hx hb
theorem Fm (k : OkW w H) (hg : GdG g) {fb : Bool} {q : List Val} (hq : q.length <= 30 /\ ∀ v ∈ q, v.l = []) {x : Int} (hx : 1 <= x /\ x <= 1000000) {rows : List (IR 5)} (hb : rows.length + (wk0 (bO g) x).length <= 1000000) :
  aK prog G0 237 [.ptr w.f 1 9 0 0, .int .i64 0, .int .i64 0, aP fb (q ++ [vOf 5 x])] (FH g w H rows.length rows (az [x])) (.tup []) (FH g w H (rows ++ wk0 (bO g) x).length (rows ++ wk0 (bO g) x) (az [x])) := by
 have hql := hq.1
 refine L6 k hg (by omega) (found := λ a => wk1 (bO g) x a.t) hb λ a ha rows hb H' k' => ?_
 have hf := flat1 hq x
 have hf2 := De hf a.i
 refine Rd (y := 0) k' hg (by have := hf.1; omega) a (iE hg ha).2 λ H'' k'' => ?_
 rw [Je]
 exact Fn k'' hg ⟨by have := hf2.1; omega, hf2.2⟩ hx hb
def fH (S : List Nod) (found : Nod -> List (IR 5)) (i : Nat) : List (IR 5) := (S.take i).flatMap found
theorem vT {S : List Nod} {found : Nod -> List (IR 5)} {i : Nat} (h : i < S.length) : fH S found (i + 1) = fH S found i ++ found (ix S i) := by
 unfold fH
 rw [bF h, List.take_add_one, getElem?_eq_getElem h, flatMap_append]
 simp
theorem xZ (S : List Nod) (found : Nod -> List (IR 5)) : fH S found S.length = S.flatMap found := by unfold fH; rw [List.take_length]
theorem Bg (S : List Nod) (found : Nod -> List (IR 5)) (i : Nat) : (fH S found i).length <= (S.flatMap found).length := by
 have h := congrArg (List.flatMap found) (List.take_append_drop i S)
 rw [flatMap_append] at h
 rw [<- h, length_append]
 exact Nat.le_add_right _ _
noncomputable def CZ1 : Ctx := mkC prog G0 [(235, .gen mZ)]
@[simp] theorem WA : CZ1.P = prog := rfl
@[simp] theorem Wz : CZ1.G = G0 := rfl
@[simp] theorem Wy : CZ1.S 235 = .gen mZ := rfl
theorem EW : aB CZ1 := aD (aF ((oC _)) func235 rfl (by decide)) (ax _ _)
theorem BZ (k : OkW w H) (hg : GdG g) {rows : List (IR 5)} (hb : rows.length + (wkN g).length <= 1000000) :
  aK prog G0 174 [.ptr w.f 1 9 0 0, .int .i64 0] (FH g w H rows.length rows (az [])) (.tup []) (FH g w H (rows ++ wkN g).length (rows ++ wkN g) (az [])) := by
 obtain ⟨found, hF⟩ : ∃ found, (λ n : Nod => wk0 (bO g) n.id) = found := ⟨_, rfl⟩
 have hFe : ∀ n : Nod, found n = wk0 (bO g) n.id := λ n => by rw [<- hF]
 have hN : wkN g = g.nodes.flatMap found := by rw [<- hF]; rfl
 rw [hN] at hb ⊢
 obtain ⟨R, hR⟩ : ∃ R, [e7 w, dj 0] = R := ⟨_, rfl⟩
 have hRl : R.length = 2 := by rw [<- hR]; rfl
 have kF := k.f
 have hRc : ∀ b ∈ R, ClB (H.length + R.length) b := by
  intro b hb
  rw [hRl]
  rw [<- hR] at hb
  simp only [mem_cons, not_mem_nil, or_false] at hb
  rcases hb with rfl | rfl
  ·exact jd (by omega)
  all_goals exact b8 rfl
 have hgn := hg.n.2
 refine cP (C := CZ1) func174 rfl rfl rfl (by show 2 <= _; decide) ?_
 rw [cW]
 refine ay EW mixed (hd := [8]) _ (by kernel_rfl) ?_
 simp [ac, ag, ae, am, ap, aa, au, ab, ao, ak, ah, ai, aj, argsρ, gf k, gf0 k, gm0 k, go k, gm k, gl k, gr, gr0, sm k, so1 k, sf k, sr, sr0]
 refine gV (λ i : Nat => ⟨[(2, .ptr H.length 1 1 0 0), (3, .ptr (H.length + 1) 1 1 0 0), (50, .slice 3 false (aq g.nodes)), (51, .int .i64 g.nodes.length), (52, .int .i64 i)], FH g w H (rows ++ fH g.nodes found i).length (rows ++ fH g.nodes found i) (az []) ++ R⟩) (λ i => i <= g.nodes.length) (λ i => g.nodes.length - i) ⟨0, zero_le _, ?_⟩ (λ i hi => ?_)
 ·have e0 : rows ++ fH g.nodes found 0 = rows := by simp [fH]
  rw [e0, <- hR]
  exact ar (by simp)
 by_cases hlt : i < g.nodes.length
 ·have ha : ix g.nodes i ∈ g.nodes := by rw [bF hlt]; exact getElem_mem hlt
  have hre := aw hlt
  have hstep := vT (found := found) hlt
  have hle := Bg g.nodes found (i + 1)
  obtain ⟨nd, hae⟩ : ∃ nd, ix g.nodes i = nd := ⟨_, rfl⟩
  rw [hae] at ha hstep hre
  have i1 : I64 ((i : Int) + 1) := by unfold I64; omega
  obtain ⟨rw1, hr1⟩ : ∃ r, rows ++ fH g.nodes found i = r := ⟨_, rfl⟩
  have hr2 : rows ++ fH g.nodes found (i + 1) = rw1 ++ found nd := by rw [hstep, <- hr1, append_assoc]
  have hbd : rw1.length + (found nd).length <= 1000000 := by
   have := congrArg List.length hr2
   rw [length_append, length_append] at this
   omega
  obtain ⟨R8, hR8⟩ : ∃ R8, R ++ [bN nd] = R8 := ⟨_, rfl⟩
  have hR8l : R8.length = 3 := by rw [<- hR8, length_append, hRl]; rfl
  have k1 : OkW w (H ++ R8) := k.app R8 (by
   intro b hb
   rw [hR8l]
   rw [<- hR8] at hb
   rcases mem_append.1 hb with hb | hb
   ·exact (hRc b hb).mono (by rw [hRl]; omega)
   ·rw [mem_singleton.1 hb]; exact b8 rfl)
  have k2 := GM k1 (nd := nd)
  have k3 := KC k2 (v := vOf 5 nd.id)
  have hx := hg.r nd ha
  have hs := Fm (g := g) (fb := true) k3 hg (q := []) ⟨by simp, by simp⟩ hx (rows := rw1) (by rw [<- hFe]; exact hbd)
  rw [<- hFe] at hs
  have hw : aK prog G0 235 [.ptr w.f 1 9 0 0, .agg gj, .int .i64 0, Enc.enc nd, .fn 236 [.ptr H.length 1 1 0 0, .ptr (H.length + 1) 1 1 0 0, .ptr (H.length + 2) 1 3 0 0]] (FH g w (H ++ R8) rw1.length rw1 (az [])) (.tup []) (FH g w (H ++ R8) (rw1 ++ found nd).length (rw1 ++ found nd) (az [])) := by
   refine oD (i := 0) k1 (by omega) nd ?_
   refine qN k2 nd.id (by decide) mgZ (mpZ _) (mdZ _) (by simp [az]) ?_
   refine JA (w := w) (nd := nd) ?_ ?_ ?_ hs
   all_goals
    rw [append_assoc, append_assoc]
   ·exact gW k (j := 0) (by rw [<- hR8, <- hR]; rfl)
   ·exact gW k (j := 1) (by rw [<- hR8, <- hR]; rfl)
   ·exact gW k (j := 2) (by rw [<- hR8, <- hR]; rfl)
  rw [<- aS k, <- aS k] at hw
  obtain ⟨A, hA⟩ : ∃ A, [.ptr w.f 1 9 0 0, .agg gj, .int .i64 0, Enc.enc nd, .fn 236 [.ptr H.length 1 1 0 0, .ptr (H.length + 1) 1 1 0 0, .ptr (H.length + 2) 1 3 0 0]] = A := ⟨_, rfl⟩
  rw [hA] at hw
  obtain ⟨H1, hH1⟩ : ∃ H1, FH g w H (rw1 ++ found nd).length (rw1 ++ found nd) (az []) ++ R8 = H1 := ⟨_, rfl⟩
  rw [hH1] at hw
  have hE : eO 235 A (FH g w H rw1.length rw1 (az []) ++ R8) H1 := aF hw func235 rfl (by decide)
  refine uL (C' := CX 235 A (FH g w H rw1.length rw1 (az []) ++ R8) H1 []) rfl rfl ?_
  refine ay (bQ hE (ax _ _)) mixed (hd := [8]) _ (by kernel_rfl) ?_
  rw [hr1, <- hR]
  simp only [e7, dj]
  simp [ac, ag, ae, am, ap, aa, au, ab, ao, ak, ah, ai, aj, gf k, gf0 k, gm0 k, go k, gm k, gl k, gr, gr0, sm k, so1 k, sf k, sr, sr0, hlt, hre, i1]
  subst hH1
  refine ⟨by decide, ⟨by rw [<- hA]; rfl, by rw [<- hR8, <- hR]; rfl⟩, i + 1, by omega, by omega, ?_⟩
  have hr2l : rows.length + (fH g.nodes found (i + 1)).length = (rw1 ++ found nd).length := by rw [<- hr2, length_append]
  rw [hr2, hr2l, <- hR8, <- hR]
  rw [<- hR] at hRc
  exact oQ k (by simp) rfl hRc (by simp [aQ]) (by simp [AV.cleanF, AV.clean2, AV.clean1])
 ·have e : i = g.nodes.length := by omega
  subst e
  rw [xZ]
  refine ay EW mixed (hd := [8]) _ (by kernel_rfl) ?_
  simp [ac, ag, ae, am, ap, aa, au, ab, ao, ak, ah, ai, aj, gf k, gf0 k, gm0 k, go k, gm k, gl k, gr, gr0, sm k, so1 k, sf k, sr, sr0]
  exact dy k
end
theorem Jq (g : FuncId) : dv prog G0 g ((λ _ => Entry.no : FuncId -> Entry) g) := trivial
def fsV : List FuncId := [110, 171, 112, 172]
def nV : List AV := [.str ⟨#[]⟩, .slice 3 false [ndP sA, ndP sB, ndP sC, ndP sA], .slice 7 false [egP, egP, egP]]
def ju : PSp := cM [.slice 3 false [nV]] (.slice 1 false [[.str sA], [.str sB], [.str sC]])
theorem I1 : PureOK prog G0 110 ju :=
 cv (fs := fsV) (fz := [110]) (fuel := 400) Jq (bB := λ _ _ _ => false) (λ f args H h => by cases h) (by kernel_rfl) mixed 3 (r0 := .slice 1 false [[.str sA], [.str sB], [.str sC]]) (H0 := []) (by kernel_rfl) (by kernel_rfl) rfl
def gWt : List AV -> List Blk -> Option (Prop × AV × List Blk) := λ args H => match args with
 | [.ptr _ _ _ _ _, .slice 10 _ []] => some (True, .slice 6 true [], H)
 | _ => none
theorem wtP : bg prog G0 173 gWt := by
 refine jh λ A H ob r H' hg hob => ?_
 unfold gWt at hg
 split at hg
 case h_2 => cases hg
 simp only [Option.some.injEq, Prod.mk.injEq] at hg
 obtain ⟨rfl, rfl, rfl⟩ := hg
 refine cP (C := CE) func173 rfl rfl rfl (by show 2 <= _; decide) ?_
 refine ay aR mixed (hd := [5]) _ (by kernel_rfl) ?_
 simp [ac, ag, ae, am, ap, aa, au, ab, ao, ak, ah, ai, aj, argsρ]
 refine bG 1 (aJ aR mixed [5] (by kernel_rfl) ?_)
 simp [ac, ag, ae, am, ap, aa, au, ab, ao, ak, ah, ai, aj]
 exact bf rfl ⟨⟨trivial, trivial⟩, rfl⟩
def wX : PSp := cM [.agg nV, .bool false] (.int .i64 0)
def fsP : List FuncId := fsE ++ [95, 102, 146, 147, 148, 149, 150, 152, 153, 154, 155, 156, 157, 168, 223, 224, 225, 286]
theorem ckP : PureOK prog G0 95 wX :=
 cv (fs := fsP) (fz := []) (fuel := 400) (eo fq) (bB := bbL LBs) (em lM) (by kernel_rfl) mixed 30 (r0 := .int .i64 0) (H0 := []) (by kernel_rfl) (by kernel_rfl) rfl
end
end Go.Proofs.YtnbcneiicnepcaaGreatDoor