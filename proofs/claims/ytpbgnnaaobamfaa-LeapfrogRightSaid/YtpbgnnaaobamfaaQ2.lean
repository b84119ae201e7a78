/-
  Texts joined: J1 J2 J3 J4 J5 R5 P3 P4 P5 P6 P7 P8 J6 J7 P9 J8.
-/
import Derived.Test.YtpbgnnaaobamfaaQ1
import Derived.Test.YtpbgnnaaobamfaaAmM
/-
  layer 33: a join is begun.
-/
namespace Go.Proofs.Ytpbgnnaaobamfaa
open Go.RowKit
set_option linter.unusedSimpArgs false
set_option linter.unusedVariables false
set_option maxRecDepth 100000

/-! ### A join in memory -/
/-- A relation of a join: its trie, its variables, what is noted of its path, and how much of that counts. -/
structure RelS where
  t : Trie
  vs : List Int
  A : List Int
  c : Nat
instance : Inhabited RelS := ⟨⟨⟨[]⟩, [], [], 0⟩⟩
structure JSt where
  n : Int
  B : List Int
  M : List Int
  K : List Int
  T : List Int
  tc : Nat
  O : List (List Int)
  rels : List RelS
def cntV (l n c : Nat) : AV := if c = n then .own l n else .osl l n 1 0 c
def relB (r : RelS) (l : Nat) : Blk := ⟨77, 3, [[.slice 2 false (encRows r.t.levels), .slice 1 false (encRows r.vs), cntV l r.A.length r.c]], true, false⟩
def relsX : Nat → List RelS → List Blk
  | _, [] => []
  | p, r :: q => relB r (p + 1) :: bI r.A :: relsX (p + 2) q
def ptrsF (p m : Nat) : List (List AV) := (List.range m).map fun i => [.ptr (p + 2 * i) 1 3 0 0]
def relsB (p m : Nat) : Blk := ⟨75, 1, ptrsF p m, true, decide (m = 0)⟩
def joinB (o : Nat) (j : JSt) : Blk := ⟨59, 7, [[.int .i64 j.n, .own (o + 4) j.rels.length, cntV (o + 5) j.T.length j.tc, .own (o + 6) j.O.length, .own o j.B.length, .own (o + 1) j.M.length, .own (o + 2) j.K.length]], true, false⟩
def coreX (o : Nat) (j : JSt) : List Blk := [bI j.B, bI j.M, bI j.K, joinB o j, relsB (o + 7) j.rels.length, bI j.T, bR j.O]
def joinX (o : Nat) (j : JSt) : List Blk := coreX o j ++ relsX (o + 7) j.rels
noncomputable def rel0 (r : Rela) (v : List Int) : RelS := ⟨(buildF r).1, v, [], 0⟩
def zer (n : Nat) : List Int := List.replicate n 0
noncomputable def join0 (n : Nat) (rels : List Rela) (vars : List (List Int)) (i : Nat) : JSt := ⟨n, zer n, zer n, zer n, [], 0, [], (List.range i).map fun k => rel0 (ix rels k) (ix vars k)⟩
def BegPre (n : Int) (rels : List Rela) (vars : List (List Int)) : Prop := (∃ m : Nat, n = m ∧ m ≤ 1000) ∧ rels.length ≤ vars.length ∧ rels.length ≤ 1000 ∧ ∀ r ∈ rels, SmallRs r.rows
noncomputable def nBegin : List AV → Option (Prop × AV × List Blk) := nspec3 BegPre (fun _ _ _ => .ptr 3 1 7 0 0) (fun n rels vars => joinX 0 (join0 n.toNat rels vars rels.length))
noncomputable def CBg : Ctx := mkC Try.prog G0 [(49, .pure sBuild)]
@[simp] theorem CBg_P : CBg.P = Try.prog := rfl
@[simp] theorem CBg_G : CBg.G = G0 := rfl
@[simp] theorem CBg_1 : CBg.S 49 = .pure sBuild := rfl
theorem mixCBg : CBg.P.follows .mixedOrders = true := mixed
theorem sigCBg : SigOK CBg := sigOK_cons (entryPure (buildP) Try.func49 rfl (by decide)) (sigOK_nil _ _)
/-- Three slices made in any order, and the join's block. -/
structure JBeg (n : Nat) (rels : List Rela) (vars : List (List Int)) (L : Nat → Bool) (st : ASt) : Prop where
  v0 : L 0 = true → getA st.ρ 12 = .int .i64 n
  v1 : L 1 = true → getA st.ρ 13 = .int .i64 n
  v3 : L 3 = true → getA st.ρ 15 = .int .i64 n
  v5 : L 5 = true → getA st.ρ 17 = .int .i64 n
  s0 : getA st.ρ 0 = .int .i64 n
  s1 : getA st.ρ 1 = Enc.enc rels
  s2 : getA st.ρ 2 = Enc.enc vars
  m : ∃ i j k : Nat, (L 2 = true → getA st.ρ 14 = .own i n) ∧ (L 4 = true → getA st.ρ 16 = .own j n) ∧ (L 6 = true → getA st.ρ 18 = .own k n) ∧
    (L 7 = true → getA st.ρ 19 = .agg [.own i n, .own j n, .own k n]) ∧ (L 8 = true → getA st.ρ 20 = .agg [.int .i64 n, .slice 1 true [], .slice 1 true [], .slice 1 true [], .own i n, .own j n, .own k n]) ∧
    (L 9 = true → getA st.ρ 21 = .ptr 3 1 7 0 0) ∧ (L 10 = true → getA st.ρ 7 = .ptr 3 1 7 0 0) ∧
    (L 2 = true ∧ L 4 = true → i ≠ j) ∧ (L 2 = true ∧ L 6 = true → i ≠ k) ∧ (L 4 = true ∧ L 6 = true → j ≠ k) ∧
    (L 2 = true → i < (L 2).toNat + (L 4).toNat + (L 6).toNat) ∧ (L 4 = true → j < (L 2).toNat + (L 4).toNat + (L 6).toNat) ∧ (L 6 = true → k < (L 2).toNat + (L 4).toNat + (L 6).toNat) ∧
    (L 9 = false → st.H = List.replicate ((L 2).toNat + (L 4).toNat + (L 6).toNat) (bI (zer n))) ∧
    (L 9 = true → st.H = [bI (zer n), bI (zer n), bI (zer n), ⟨59, 7, [[.int .i64 n, .slice 1 true [], .slice 1 true [], .slice 1 true [], .own i n, .own j n, .own k n]], true, false⟩])
  d2 : L 7 = true → L 2 = true ∧ L 4 = true ∧ L 6 = true
  d8 : L 8 = true → L 7 = true
  d9 : L 9 = true → L 8 = true
theorem prm_rows {α : Type} [Enc α] (π : Nat → Nat) (h : ∀ x : α, (Enc.cells x).map (prmA π) = Enc.cells x) (l : List α) : (encRows l).map (fun r => r.map (prmA π)) = encRows l := by
  unfold encRows
  simp only [List.map_map, Function.comp_def, h]
theorem prm_bI (π : Nat → Nat) (l : List Int) : prmB π (bI l) = bI l := by unfold prmB bI; simp only; rw [prm_rows π (fun _ => rfl)]
theorem prm_bR (π : Nat → Nat) (l : List (List Int)) : prmB π (bR l) = bR l := by unfold prmB bR; simp only; rw [prm_rows π (fun _ => rfl)]
theorem cl_rows {α : Type} [Enc α] (m : Nat) (h : ∀ x : α, ∀ c ∈ Enc.cells x, c.clean1 m = true) (l : List α) : ∀ r ∈ encRows l, ∀ c ∈ r, c.clean1 m = true := by
  intro r hr c hc
  unfold encRows at hr
  obtain ⟨x, _, rfl⟩ := List.mem_map.1 hr
  exact h x c hc
theorem cl_bI (m : Nat) (l : List Int) : ∀ r ∈ (bI l).rows, ∀ c ∈ r, c.clean1 m = true := cl_rows m (fun x c hc => by rw [List.mem_singleton.1 hc]; rfl) l
theorem cl_bR (m : Nat) (l : List (List Int)) : ∀ r ∈ (bR l).rows, ∀ c ∈ r, c.clean1 m = true := cl_rows m (fun x c hc => by rw [List.mem_singleton.1 hc]; rfl) l
def jRow (n : Nat) (i j k : Nat) : Blk := ⟨59, 7, [[.int .i64 n, .slice 1 true [], .slice 1 true [], .slice 1 true [], .own i n, .own j n, .own k n]], true, false⟩
theorem beg_perm {C : Ctx} {N : Nat} {ρ : List (Nat × AV)} {n : Nat} {z : List Int} {i j k : Nat} (hi : i < 3) (hj : j < 3) (hk : k < 3) (h1 : i ≠ j) (h2 : i ≠ k) (h3 : j ≠ k) {ρ' : List (Nat × AV)} (hρ : ∀ p ∈ ρ', getA ρ p.1 = p.2 ∧ p.2.clean1 3 = true ∨ getA ρ p.1 = .ptr 3 1 7 0 0 ∧ p.2 = .ptr 3 1 7 0 0) (hd : ∀ p ∈ ρ', ∀ π, prmA π p.2 = p.2 ∨ p.2 = .ptr 3 1 7 0 0) :
    Weak C N 0 ⟨ρ, [bI z, bI z, bI z, jRow n i j k]⟩ ⟨ρ', [bI z, bI z, bI z, jRow n 0 1 2]⟩ := by
  have key : ∀ (π π' : Nat → Nat), (∀ l, l < 4 → π l < 4 ∧ π' (π l) = l) → (∀ l, l < 4 → π' l < 4 ∧ π (π' l) = l) → π 3 = 3 → π i = 0 → π j = 1 → π k = 2 → Weak C N 0 ⟨ρ, [bI z, bI z, bI z, jRow n i j k]⟩ ⟨ρ', [bI z, bI z, bI z, jRow n 0 1 2]⟩ := by
    intro π π' a b c d e f
    refine weak_perm π π' a b (fun l hl => absurd hl (Nat.not_lt_zero _)) (fun bl hb r hr x hx => ?_) rfl (fun l bl hl => ?_) (fun p hp => ?_)
    · simp only [List.mem_cons, List.not_mem_nil, or_false] at hb
      rcases hb with rfl | rfl | rfl | rfl
      · exact cl_bI _ _ r hr x hx
      · exact cl_bI _ _ r hr x hx
      · exact cl_bI _ _ r hr x hx
      · simp only [jRow, List.mem_singleton] at hr
        subst hr
        simp only [List.mem_cons, List.not_mem_nil, or_false] at hx
        rcases hx with rfl | rfl | rfl | rfl | rfl | rfl | rfl <;> simp [AV.clean1] <;> omega
    · have hl4 : l < 4 := (List.getElem?_eq_some_iff.1 hl).1
      have hz : ∀ m, m < 3 → ([bI z, bI z, bI z, jRow n 0 1 2] : List Blk)[m]? = some (bI z) := fun m hm => by
        have : m = 0 ∨ m = 1 ∨ m = 2 := by omega
        rcases this with rfl | rfl | rfl <;> rfl
      rcases Nat.lt_or_ge l 3 with h | h
      · have hb : bl = bI z := by
          have : l = 0 ∨ l = 1 ∨ l = 2 := by omega
          rcases this with rfl | rfl | rfl <;> exact (Option.some.inj hl).symm
        subst hb
        rw [prm_bI]
        refine hz _ ?_
        have h3 := (a l hl4).1
        have : π l ≠ 3 := fun h4 => by
          have := (a l hl4).2
          rw [h4] at this
          have h5 := (a 3 (by omega)).2
          rw [c] at h5
          omega
        omega
      · have e3 : l = 3 := by omega
        subst e3
        rw [c]
        rw [← Option.some.inj hl]
        simp [prmB, jRow, prmA, d, e, f]
    · rcases hρ p hp with ⟨g1, g2⟩ | ⟨g1, g2⟩
      · rcases hd p hp π with g3 | g3
        · rw [g1]
          refine ⟨g3.symm, ?_⟩
          cases hv : p.2 with
          | own l m => rw [hv] at g2; simp [AV.clean1] at g2 ⊢; omega
          | osl l m _ _ _ => rw [hv] at g2; simp [AV.clean1] at g2 ⊢; omega
          | ptr l m _ _ _ => rw [hv] at g2; simp [AV.clean1] at g2 ⊢; omega
          | agg c => rw [hv] at g2; simp [AV.clean1] at g2
          | tup c => rw [hv] at g2; simp [AV.clean1] at g2
          | fn _ c => rw [hv] at g2; exact g2
          | _ => rfl
        · rw [g3] at g2; simp [AV.clean1] at g2
      · rw [g1, g2]
        exact ⟨by simp [prmA, c], by simp [AV.clean1]⟩
  have : (i = 0 ∧ j = 1 ∧ k = 2) ∨ (i = 0 ∧ j = 2 ∧ k = 1) ∨ (i = 1 ∧ j = 0 ∧ k = 2) ∨ (i = 1 ∧ j = 2 ∧ k = 0) ∨ (i = 2 ∧ j = 0 ∧ k = 1) ∨ (i = 2 ∧ j = 1 ∧ k = 0) := by omega
  have four : ∀ {P : Nat → Prop}, P 0 → P 1 → P 2 → P 3 → ∀ l, l < 4 → P l := fun p0 p1 p2 p3 l hl => by
    have : l = 0 ∨ l = 1 ∨ l = 2 ∨ l = 3 := by omega
    rcases this with rfl | rfl | rfl | rfl <;> assumption
  rcases this with ⟨rfl, rfl, rfl⟩ | ⟨rfl, rfl, rfl⟩ | ⟨rfl, rfl, rfl⟩ | ⟨rfl, rfl, rfl⟩ | ⟨rfl, rfl, rfl⟩ | ⟨rfl, rfl, rfl⟩
  · exact key (fun l => [0, 1, 2, 3].getD l l) (fun l => [0, 1, 2, 3].getD l l) (four (by decide) (by decide) (by decide) (by decide)) (four (by decide) (by decide) (by decide) (by decide)) rfl rfl rfl rfl
  · exact key (fun l => [0, 2, 1, 3].getD l l) (fun l => [0, 2, 1, 3].getD l l) (four (by decide) (by decide) (by decide) (by decide)) (four (by decide) (by decide) (by decide) (by decide)) rfl rfl rfl rfl
  · exact key (fun l => [1, 0, 2, 3].getD l l) (fun l => [1, 0, 2, 3].getD l l) (four (by decide) (by decide) (by decide) (by decide)) (four (by decide) (by decide) (by decide) (by decide)) rfl rfl rfl rfl
  · exact key (fun l => [2, 0, 1, 3].getD l l) (fun l => [1, 2, 0, 3].getD l l) (four (by decide) (by decide) (by decide) (by decide)) (four (by decide) (by decide) (by decide) (by decide)) rfl rfl rfl rfl
  · exact key (fun l => [1, 2, 0, 3].getD l l) (fun l => [2, 0, 1, 3].getD l l) (four (by decide) (by decide) (by decide) (by decide)) (four (by decide) (by decide) (by decide) (by decide)) rfl rfl rfl rfl
  · exact key (fun l => [2, 1, 0, 3].getD l l) (fun l => [2, 1, 0, 3].getD l l) (four (by decide) (by decide) (by decide) (by decide)) (four (by decide) (by decide) (by decide) (by decide)) rfl rfl rfl rfl
theorem at_app0 {α : Type} (X Y : List α) : (X ++ Y)[X.length]? = Y[0]? := by rw [List.getElem?_append_right (Nat.le_refl _), Nat.sub_self]
theorem at_app {α : Type} (X Y : List α) (k : Nat) : (X ++ Y)[X.length + k]? = Y[k]? := by rw [List.getElem?_append_right (by omega), show X.length + k - X.length = k by omega]
theorem st_app0 {α : Type} (X Y : List α) (b : α) : (X ++ Y).set X.length b = X ++ Y.set 0 b := by rw [List.set_append_right _ _ (Nat.le_refl _), Nat.sub_self]
theorem st_app {α : Type} (X Y : List α) (k : Nat) (b : α) : (X ++ Y).set (X.length + k) b = X ++ Y.set k b := by rw [List.set_append_right _ _ (by omega), show X.length + k - X.length = k by omega]
theorem take_app {α : Type} (X Y : List α) (k : Nat) : (X ++ Y).take (X.length + k) = X ++ Y.take k := by
  rw [List.take_append, List.take_of_length_le (by omega), Nat.add_sub_cancel_left]
theorem relsX_len : ∀ (p : Nat) (l : List RelS), (relsX p l).length = 2 * l.length
  | _, [] => rfl
  | p, r :: q => by simp only [relsX, List.length_cons, relsX_len (p + 2) q]; omega
theorem relsX_snoc : ∀ (p : Nat) (l : List RelS) (r : RelS), relsX p (l ++ [r]) = relsX p l ++ [relB r (p + 2 * l.length + 1), bI r.A]
  | _, [], _ => rfl
  | p, x :: q, r => by simp only [List.cons_append, relsX, relsX_snoc (p + 2) q r, List.length_cons]; rw [show p + 2 + 2 * q.length + 1 = p + 2 * (q.length + 1) + 1 by omega]
/-- Where the blocks of a new relation come to lie. -/
def tailP (p l : Nat) : Nat := if l = p then p + 2 else if l = p + 1 then p + 3 else if l = p + 2 then p else if l = p + 3 then p + 4 else if l = p + 4 then p + 1 else l
def tailQ (p l : Nat) : Nat := if l = p then p + 2 else if l = p + 1 then p + 4 else if l = p + 2 then p else if l = p + 3 then p + 1 else if l = p + 4 then p + 3 else l
theorem tailP_lo {p l : Nat} (h : l < p) : tailP p l = l := by unfold tailP; rw [if_neg (by omega), if_neg (by omega), if_neg (by omega), if_neg (by omega), if_neg (by omega)]
theorem tailPQ (p l : Nat) (h : l < p + 5) : tailP p l < p + 5 ∧ tailQ p (tailP p l) = l := by
  unfold tailP
  split
  · unfold tailQ; simp; omega
  · split
    · unfold tailQ; simp; omega
    · split
      · unfold tailQ; simp; omega
      · split
        · unfold tailQ; simp; omega
        · split
          · unfold tailQ; simp; omega
          · unfold tailQ; rw [if_neg (by omega), if_neg (by omega), if_neg (by omega), if_neg (by omega), if_neg (by omega)]; omega
theorem tailQP (p l : Nat) (h : l < p + 5) : tailQ p l < p + 5 ∧ tailP p (tailQ p l) = l := by
  unfold tailQ
  split
  · unfold tailP; simp; omega
  · split
    · unfold tailP; simp; omega
    · split
      · unfold tailP; simp; omega
      · split
        · unfold tailP; simp; omega
        · split
          · unfold tailP; simp; omega
          · unfold tailP; rw [if_neg (by omega), if_neg (by omega), if_neg (by omega), if_neg (by omega), if_neg (by omega)]; omega
theorem beg_tail {C : Ctx} {N : Nat} {ρ ρ' : List (Nat × AV)} {P P' : List Blk} {g1 g2 g3 : Blk} {e : TypeId} {rl rv : List (List AV)} {p : Nat} (hp : P.length = p) (h3 : 3 < p) (hP : P' = P.map (prmB (tailP p)))
    (c0 : ∀ b ∈ P, ∀ r ∈ b.rows, ∀ c ∈ r, c.clean1 (p + 5) = true) (c1 : ∀ r ∈ g1.rows, ∀ c ∈ r, c.clean1 (p + 5) = true) (c2 : ∀ r ∈ g2.rows, ∀ c ∈ r, c.clean1 (p + 5) = true) (c3 : ∀ r ∈ g3.rows, ∀ c ∈ r, c.clean1 (p + 5) = true)
    (c4 : ∀ b ∈ P', ∀ r ∈ b.rows, ∀ c ∈ r, c.clean (p + 2) = true)
    (hρ : ∀ q ∈ ρ', getA ρ q.1 = q.2 ∧ q.2 = prmA (tailP p) q.2 ∧ q.2.clean1 (p + 5) = true ∧ q.2.clean (p + 2) = true) (hself : ∀ q ∈ ρ', getA ρ' q.1 = q.2) :
    Weak C N 0 ⟨ρ, P ++ [g1, g2, ⟨e, 3, [[.slice 2 false rl, .slice 1 false rv, .slice 1 true []]], true, true⟩, g3]⟩ ⟨ρ', P' ++ [⟨e, 3, [[.slice 2 false rl, .slice 1 false rv, .own (p + 1) 0]], true, false⟩, bI []]⟩ := by
  subst hp
  have n1 : (P ++ [g1, g2, ⟨e, 3, [[.slice 2 false rl, .slice 1 false rv, .slice 1 true []]], true, true⟩, g3])[P.length + 2]? = some ⟨e, 3, [[.slice 2 false rl, .slice 1 false rv, .slice 1 true []]], true, true⟩ := by rw [at_app]; rfl
  have W1 : Weak C N 0 ⟨ρ, P ++ [g1, g2, ⟨e, 3, [[.slice 2 false rl, .slice 1 false rv, .slice 1 true []]], true, true⟩, g3]⟩ ⟨ρ, P ++ [g1, g2, ⟨e, 3, [[.slice 2 false rl, .slice 1 false rv, .own (P.length + 4) 0]], true, false⟩, g3, bI []]⟩ := by
    have hE : ((P ++ [g1, g2, ⟨e, 3, [[.slice 2 false rl, .slice 1 false rv, .slice 1 true []]], true, true⟩, g3]) ++ [(⟨3, 1, [], true, true⟩ : Blk)]).set (P.length + 2) ⟨e, 3, [[.slice 2 false rl, .slice 1 false rv, .own (P ++ [g1, g2, ⟨e, 3, [[.slice 2 false rl, .slice 1 false rv, .slice 1 true []]], true, true⟩, g3]).length 0]], true, false⟩ = P ++ [g1, g2, ⟨e, 3, [[.slice 2 false rl, .slice 1 false rv, .own (P.length + 4) 0]], true, false⟩, g3, bI []] := by
      rw [List.append_assoc, st_app]
      simp [bI]
    rw [← hE]
    exact weak_nilcell (P.length + 2) 0 2 1 3 n1 rfl rfl (by decide)
  refine W1.trans ((weak_perm (ρ' := ρ') (H' := P' ++ [⟨e, 3, [[.slice 2 false rl, .slice 1 false rv, .own (P.length + 1) 0]], true, false⟩, bI [], prmB (tailP P.length) g1, prmB (tailP P.length) g2, prmB (tailP P.length) g3]) (tailP P.length) (tailQ P.length) ?_ ?_ (fun l hl => absurd hl (Nat.not_lt_zero _)) ?_ ?_ ?_ ?_).trans (weak_keep (P.length + 2) ?_ (Nat.zero_le _) (fun q hq => (hρ q hq).2.2.2) ?_ ?_))
  · intro l hl; simp only [List.length_append, List.length_cons, List.length_nil] at hl ⊢; exact tailPQ _ _ hl
  · intro l hl; simp only [List.length_append, List.length_cons, List.length_nil] at hl ⊢; exact tailQP _ _ hl
  · intro b hb r hr c hc
    simp only [List.length_append, List.length_cons, List.length_nil]
    rcases List.mem_append.1 hb with hb | hb
    · exact c0 b hb r hr c hc
    · simp only [List.mem_cons, List.not_mem_nil, or_false] at hb
      rcases hb with rfl | rfl | rfl | rfl | rfl
      · exact c1 r hr c hc
      · exact c2 r hr c hc
      · simp only [List.mem_singleton] at hr
        subst hr
        simp only [List.mem_cons, List.not_mem_nil, or_false] at hc
        rcases hc with rfl | rfl | rfl <;> simp [AV.clean1]
      · exact c3 r hr c hc
      · exact cl_bI _ _ r hr c hc
  · simp [hP]
  · intro l b hl
    have hl5 : l < P.length + 5 := by have := (List.getElem?_eq_some_iff.1 hl).1; simpa using this
    rcases Nat.lt_or_ge l P.length with h | h
    · rw [tailP_lo h, List.getElem?_append_left (by simp [hP]; exact h), hP, List.getElem?_map]
      rw [List.getElem?_append_left h] at hl
      rw [hl]; rfl
    · have hP'l : P'.length = P.length := by simp [hP]
      obtain ⟨k, rfl⟩ : ∃ k, l = P.length + k := ⟨l - P.length, by omega⟩
      rw [at_app] at hl
      have : k = 0 ∨ k = 1 ∨ k = 2 ∨ k = 3 ∨ k = 4 := by omega
      rcases this with rfl | rfl | rfl | rfl | rfl
      · have e : tailP P.length (P.length + 0) = P'.length + 2 := by unfold tailP; simp [hP'l]
        rw [e, at_app, ← Option.some.inj hl]; rfl
      · have e : tailP P.length (P.length + 1) = P'.length + 3 := by unfold tailP; simp [hP'l]
        rw [e, at_app, ← Option.some.inj hl]; rfl
      · have e : tailP P.length (P.length + 2) = P'.length + 0 := by unfold tailP; simp [hP'l]
        have e4 : tailP P.length (P.length + 4) = P.length + 1 := by unfold tailP; simp
        rw [e, at_app, ← Option.some.inj hl]
        simp [prmB, prmA, e4]
      · have e : tailP P.length (P.length + 3) = P'.length + 4 := by unfold tailP; simp [hP'l]
        rw [e, at_app, ← Option.some.inj hl]; rfl
      · have e : tailP P.length (P.length + 4) = P'.length + 1 := by unfold tailP; simp [hP'l]
        rw [e, at_app, ← Option.some.inj hl, prm_bI]; rfl
  · intro q hq
    obtain ⟨h1, h2, h4, h5⟩ := hρ q hq
    rw [h1]
    refine ⟨h2, ?_⟩
    simp only [List.length_append, List.length_cons, List.length_nil]
    exact h4
  · exact hself
  · intro b hb
    refine .inr fun r hr c hc => ?_
    have hP'l : P'.length = P.length := by simp [hP]
    rw [← hP'l, take_app] at hb
    rcases List.mem_append.1 hb with hb | hb
    · exact c4 b hb r hr c hc
    · simp only [List.take_succ_cons, List.take_zero, List.mem_cons, List.not_mem_nil, or_false] at hb
      rcases hb with rfl | rfl
      · simp only [List.mem_singleton] at hr
        subst hr
        simp only [List.mem_cons, List.not_mem_nil, or_false] at hc
        rcases hc with rfl | rfl | rfl <;> simp [AV.clean, AV.clean1] <;> omega
      · simp [bI] at hr
  · have hP'l : P'.length = P.length := by simp [hP]
    rw [← hP'l, take_app]
    simp
theorem cntV_prm {π : Nat → Nat} {l n c : Nat} (h : π l = l) : prmA π (cntV l n c) = cntV l n c := by unfold cntV; split <;> simp [prmA, h]
theorem cntV_cl {m l n c : Nat} (h : l < m) : (cntV l n c).clean1 m = true ∧ (cntV l n c).clean m = true := by unfold cntV; split <;> simp [AV.clean, AV.clean1, h]
theorem relB_prm {π : Nat → Nat} {r : RelS} {l : Nat} (h : π l = l) : prmB π (relB r l) = relB r l := by simp [prmB, relB, cntV_prm h]; exact ⟨rfl, rfl⟩
theorem joinB_prm {π : Nat → Nat} {o : Nat} {j : JSt} (h : ∀ k, k ≤ 6 → π (o + k) = o + k) : prmB π (joinB o j) = joinB o j := by
  have e (l n : Nat) (hl : π l = l) : prmA π (.own l n) = .own l n := by show AV.own (π l) n = _; rw [hl]
  unfold prmB joinB
  simp only [List.map_cons, List.map_nil, cntV_prm (h 5 (by omega)), e _ _ (h 4 (by omega)), e _ _ (h 6 (by omega)), e o _ (show π o = o from h 0 (by omega)), e _ _ (h 1 (by omega)), e _ _ (h 2 (by omega))]
  rfl
theorem relsX_prm (π : Nat → Nat) : ∀ (p : Nat) (l : List RelS), (∀ k, k < p + 2 * l.length → π k = k) → (relsX p l).map (prmB π) = relsX p l
  | _, [], _ => rfl
  | p, r :: q, h => by
    simp only [List.length_cons] at h
    simp only [relsX, List.map_cons]
    rw [relB_prm (h _ (by omega)), prm_bI, relsX_prm π (p + 2) q fun k hk => h k (by omega)]
def ClB (m : Nat) (b : Blk) : Prop := ∀ r ∈ b.rows, ∀ c ∈ r, c.clean1 m = true ∧ c.clean m = true
theorem ClB_bI (m : Nat) (l : List Int) : ClB m (bI l) := fun r hr c hc => by
  unfold bI encRows at hr
  obtain ⟨x, _, rfl⟩ := List.mem_map.1 hr
  rw [List.mem_singleton.1 hc]; exact ⟨rfl, rfl⟩
theorem ClB_bR (m : Nat) (l : List (List Int)) : ClB m (bR l) := fun r hr c hc => by
  unfold bR encRows at hr
  obtain ⟨x, _, rfl⟩ := List.mem_map.1 hr
  rw [List.mem_singleton.1 hc]; exact ⟨rfl, rfl⟩
theorem ClB_relB {m : Nat} {r : RelS} {l : Nat} (h : l < m) : ClB m (relB r l) := fun x hx c hc => by
  simp only [relB, List.mem_singleton] at hx
  subst hx
  simp only [List.mem_cons, List.not_mem_nil, or_false] at hc
  rcases hc with rfl | rfl | rfl
  · exact ⟨rfl, rfl⟩
  · exact ⟨rfl, rfl⟩
  · exact cntV_cl h
theorem ClB_relsX (m : Nat) : ∀ (p : Nat) (l : List RelS), p + 2 * l.length ≤ m → ∀ b ∈ relsX p l, ClB m b
  | _, [], _, b, hb => by cases hb
  | p, r :: q, h, b, hb => by
    simp only [List.length_cons] at h
    simp only [relsX, List.mem_cons] at hb
    rcases hb with rfl | rfl | hb
    · exact ClB_relB (by omega)
    · exact ClB_bI _ _
    · exact ClB_relsX m (p + 2) q (by omega) b hb
theorem ClB_joinB {m o : Nat} {j : JSt} (h : o + 6 < m) : ClB m (joinB o j) := fun x hx c hc => by
  simp only [joinB, List.mem_singleton] at hx
  subst hx
  simp only [List.mem_cons, List.not_mem_nil, or_false] at hc
  rcases hc with rfl | rfl | rfl | rfl | rfl | rfl | rfl
  · exact ⟨rfl, rfl⟩
  · simp [AV.clean, AV.clean1]; omega
  · exact cntV_cl (by omega)
  all_goals (simp [AV.clean, AV.clean1]; omega)
theorem ClB_ptrs {m p k : Nat} {e : TypeId} {mu d : Bool} (h : p + 2 * k ≤ m + 1) : ClB m ⟨e, 1, ptrsF p k, mu, d⟩ := fun x hx c hc => by
  simp only [ptrsF, List.mem_map, List.mem_range] at hx
  obtain ⟨i, hi, rfl⟩ := hx
  rw [List.mem_singleton.1 hc]
  simp [AV.clean, AV.clean1]; omega
theorem renB_id {s : Nat → Nat} {m : Nat} {b : Blk} (hb : ClB m b) (hs : ∀ k, k < m → s k = k) : renB s b = b := by
  obtain ⟨e, sz, rows, mu, dp⟩ := b
  unfold renB
  simp only
  have : rows.map (fun r => r.map (ren1 s)) = rows := by
    refine (List.map_congr_left fun r hr => ?_).trans (List.map_id _)
    refine (List.map_congr_left fun c hc => ?_).trans (List.map_id _)
    have h := (hb r hr c hc).1
    cases c with
    | own l n => simp only [AV.clean1, decide_eq_true_eq] at h; show AV.own (s l) n = _; rw [hs l h]; rfl
    | osl l n _ _ _ => simp only [AV.clean1, decide_eq_true_eq] at h; show AV.osl (s l) n _ _ _ = _; rw [hs l h]; rfl
    | ptr l n _ _ _ => simp only [AV.clean1, decide_eq_true_eq] at h; show AV.ptr (s l) n _ _ _ = _; rw [hs l h]; rfl
    | _ => rfl
  rw [this]
theorem ClB_joinX {m o : Nat} {j : JSt} (h : o + 7 + 2 * j.rels.length ≤ m) : ∀ b ∈ joinX o j, ClB m b := fun b hb => by
  simp only [joinX, coreX, List.cons_append, List.nil_append, List.mem_cons] at hb
  rcases hb with rfl | rfl | rfl | rfl | rfl | rfl | rfl | hb
  · exact ClB_bI _ _
  · exact ClB_bI _ _
  · exact ClB_bI _ _
  · exact ClB_joinB (by omega)
  · exact fun r hr c hc => by
      simp only [relsB, ptrsF, List.mem_map, List.mem_range] at hr
      obtain ⟨i, hi, rfl⟩ := hr
      rw [List.mem_singleton.1 hc]
      simp [AV.clean, AV.clean1]; omega
  · exact ClB_bI _ _
  · exact ClB_bR _ _
  · exact ClB_relsX m _ _ h b hb
theorem joinX_len (o : Nat) (j : JSt) : (joinX o j).length = 7 + 2 * j.rels.length := by
  unfold joinX coreX
  rw [List.length_append, relsX_len]; rfl
theorem ptrsF_succ (p k : Nat) : ptrsF p (k + 1) = ptrsF p k ++ [[.ptr (p + 2 * k) 1 3 0 0]] := by unfold ptrsF; rw [List.range_succ, List.map_append]; rfl
theorem ptrsF_prm {π : Nat → Nat} {p k : Nat} (h : ∀ i, i < k → π (p + 2 * i) = p + 2 * i) : (ptrsF p k).map (fun r => r.map (prmA π)) = ptrsF p k := by
  unfold ptrsF
  rw [List.map_map]
  refine List.map_congr_left fun i hi => ?_
  simp [prmA, h i (List.mem_range.1 hi)]
theorem encRows_zer (n : Nat) : encRows (zer n) = encRows (List.replicate n (0 : Int)) := rfl
theorem bI_mk (l : List Int) : bI l = ⟨3, 1, encRows l, true, true⟩ := rfl
theorem scalBg : isScalT CBg 57 = false := by show isScalT ⟨Try.prog, fun _ => .no, G0⟩ 57 = false; kernel_rfl
set_option maxHeartbeats 32000000 in
theorem beginP : GenOK Try.prog G0 35 (genNew nBegin) := by
  refine newH3 (C := CBg) sigCBg mixCBg Try.func35 rfl rfl rfl [1, 6] (by kernel_rfl) (by decide) (fun n rels vars => List.range (7 + 2 * rels.length)) (fun n rels vars => List.nodup_range) (fun n rels vars => by
    have hl : (joinX 0 (join0 n.toNat rels vars rels.length)).length = 7 + 2 * rels.length := by rw [joinX_len]; simp [join0]
    rw [hl]
    refine ⟨by simp [okR, ok2, AV.clean1]; omega, ?_⟩
    rw [List.all_eq_true]
    intro b hb
    have := ClB_joinX (m := 7 + 2 * rels.length) (by simp [join0]) b hb
    unfold okB
    rw [List.all_eq_true]
    intro r hr
    rw [List.all_eq_true]
    exact fun c hc => (this r hr c hc).1) (fun n rels vars ⟨⟨n, hn, hnb⟩, hlen, hl, hS⟩ => ?_)
  subst hn
  simp [aev, cav, look, acallPure, abin, abinN, abinP, abinI, abinS, aun, aconv, afield, afieldAddr, aindexAddr, aindex, aslice, alow, ahigh, abuild, abuildGo, cellsOf, splice, fieldTy, alen, apick, amax, amin, aload, headV, aparts, abuildSlice, elParts, abytesStr, astore, amake, aappend, aclear, anew, arith, aresults, aresList, ares, spec0, spec1, spec2, spec3, spec4, eqCells, eqCell]
  refine AW_region sigCBg mixCBg [[], [], [1, 1], [], [3, 3], [], [5, 5], [2, 4, 6], [0, 7], [8], [9, 0, 1, 2, 3, 4, 5, 6, 7, 8, 9]] (by kernel_rfl) (by kernel_rfl) (JBeg n rels vars) ?_ ?_ ?_ ?_
  · exact ⟨by simp, by simp, by simp, by simp, by simp, by simp, by simp, ⟨0, 0, 0, by simp, by simp, by simp, by simp, by simp, by simp, by simp, by simp, by simp, by simp, by simp, by simp, by simp, by simp, by simp⟩, by simp, by simp, by simp⟩
  · intro x o ho L st' hI hLi hd
    obtain ⟨ρ, H⟩ := st'
    obtain ⟨v0, v1, v3, v5, s0, s1, s2, ⟨i, j, k, a2, a4, a6, a7, a8, a9, a10, e1, e2, e3, b2, b4, b6, h9, h9'⟩, d2, d8, d9⟩ := hI
    simp only at v0 v1 v3 v5 s0 s1 s2 a2 a4 a6 a7 a8 a9 a10 h9 h9'
    match x, ho with
    | 0, ho =>
      have ho := Option.some.inj ho
      subst ho
      simp [aev, cav, look, acallPure, abin, abinN, abinP, abinI, abinS, aun, aconv, afield, afieldAddr, aindexAddr, aindex, aslice, alow, ahigh, abuild, abuildGo, cellsOf, splice, fieldTy, alen, apick, amax, amin, aload, headV, aparts, abuildSlice, elParts, abytesStr, astore, amake, aappend, aclear, anew, arith, aresults, aresList, ares, spec0, spec1, spec2, spec3, spec4, eqCells, eqCell, s0]
      exact ⟨by simp, by simpa using v1, by simpa using v3, by simpa using v5, by simpa using s0, by simpa using s1, by simpa using s2, ⟨i, j, k, by simpa using a2, by simpa using a4, by simpa using a6, by simpa using a7, by simpa using a8, by simpa using a9, by simpa using a10, by simpa using e1, by simpa using e2, by simpa using e3, by simpa using b2, by simpa using b4, by simpa using b6, by simpa using h9, by simpa using h9'⟩, by simpa using d2, by simpa using d8, by simpa using d9⟩
    | 1, ho =>
      have ho := Option.some.inj ho
      subst ho
      simp [aev, cav, look, acallPure, abin, abinN, abinP, abinI, abinS, aun, aconv, afield, afieldAddr, aindexAddr, aindex, aslice, alow, ahigh, abuild, abuildGo, cellsOf, splice, fieldTy, alen, apick, amax, amin, aload, headV, aparts, abuildSlice, elParts, abytesStr, astore, amake, aappend, aclear, anew, arith, aresults, aresList, ares, spec0, spec1, spec2, spec3, spec4, eqCells, eqCell, s0]
      exact ⟨by simpa using v0, by simp, by simpa using v3, by simpa using v5, by simpa using s0, by simpa using s1, by simpa using s2, ⟨i, j, k, by simpa using a2, by simpa using a4, by simpa using a6, by simpa using a7, by simpa using a8, by simpa using a9, by simpa using a10, by simpa using e1, by simpa using e2, by simpa using e3, by simpa using b2, by simpa using b4, by simpa using b6, by simpa using h9, by simpa using h9'⟩, by simpa using d2, by simpa using d8, by simpa using d9⟩
    | 3, ho =>
      have ho := Option.some.inj ho
      subst ho
      simp [aev, cav, look, acallPure, abin, abinN, abinP, abinI, abinS, aun, aconv, afield, afieldAddr, aindexAddr, aindex, aslice, alow, ahigh, abuild, abuildGo, cellsOf, splice, fieldTy, alen, apick, amax, amin, aload, headV, aparts, abuildSlice, elParts, abytesStr, astore, amake, aappend, aclear, anew, arith, aresults, aresList, ares, spec0, spec1, spec2, spec3, spec4, eqCells, eqCell, s0]
      exact ⟨by simpa using v0, by simpa using v1, by simp, by simpa using v5, by simpa using s0, by simpa using s1, by simpa using s2, ⟨i, j, k, by simpa using a2, by simpa using a4, by simpa using a6, by simpa using a7, by simpa using a8, by simpa using a9, by simpa using a10, by simpa using e1, by simpa using e2, by simpa using e3, by simpa using b2, by simpa using b4, by simpa using b6, by simpa using h9, by simpa using h9'⟩, by simpa using d2, by simpa using d8, by simpa using d9⟩
    | 5, ho =>
      have ho := Option.some.inj ho
      subst ho
      simp [aev, cav, look, acallPure, abin, abinN, abinP, abinI, abinS, aun, aconv, afield, afieldAddr, aindexAddr, aindex, aslice, alow, ahigh, abuild, abuildGo, cellsOf, splice, fieldTy, alen, apick, amax, amin, aload, headV, aparts, abuildSlice, elParts, abytesStr, astore, amake, aappend, aclear, anew, arith, aresults, aresList, ares, spec0, spec1, spec2, spec3, spec4, eqCells, eqCell, s0]
      exact ⟨by simpa using v0, by simpa using v1, by simpa using v3, by simp, by simpa using s0, by simpa using s1, by simpa using s2, ⟨i, j, k, by simpa using a2, by simpa using a4, by simpa using a6, by simpa using a7, by simpa using a8, by simpa using a9, by simpa using a10, by simpa using e1, by simpa using e2, by simpa using e3, by simpa using b2, by simpa using b4, by simpa using b6, by simpa using h9, by simpa using h9'⟩, by simpa using d2, by simpa using d8, by simpa using d9⟩
    | 2, ho =>
      have ho := Option.some.inj ho
      subst ho
      have q := v1 (hd 1 (by simp))
      have n7 : L 7 = false := by
        cases h : L 7 with
        | false => rfl
        | true => have h2 := d2 h; rw [hLi] at h2; simp at h2
      have n8 : L 8 = false := by
        cases h : L 8 with
        | false => rfl
        | true => have := d8 h; rw [n7] at this; cases this
      have n9 : L 9 = false := by
        cases h : L 9 with
        | false => rfl
        | true => have := d9 h; rw [n8] at this; cases this
      have hH := h9 n9
      rw [hLi] at hH b2 b4 b6
      subst hH
      clear h9 h9'
      simp [aev, cav, look, acallPure, abin, abinN, abinP, abinI, abinS, aun, aconv, afield, afieldAddr, aindexAddr, aindex, aslice, alow, ahigh, abuild, abuildGo, cellsOf, splice, fieldTy, alen, apick, amax, amin, aload, headV, aparts, abuildSlice, elParts, abytesStr, astore, amake, aappend, aclear, anew, arith, aresults, aresList, ares, spec0, spec1, spec2, spec3, spec4, eqCells, eqCell, q]
      refine ⟨by omega, by simpa using v0, by simpa using v1, by simpa using v3, by simpa using v5, by simpa using s0, by simpa using s1, by simpa using s2, ⟨(L 4).toNat + (L 6).toNat, j, k, by simp, by simpa using a4, by simpa using a6, by simp [n7], by simp [n8], by simpa using a9, by simpa using a10, ?_, ?_, ?_, ?_, ?_, ?_, ?_, by simp [n9]⟩, by simp [n7], by simpa using d8, by simpa using d9⟩
      all_goals clear a2 a4 a6 a7 a8 a9 a10 v0 v1 v3 v5 s0 s1 s2 hd d2 d8 d9 q
      case refine_7 =>
        intro _
        rw [← encRows_zer, ← bI_mk]
        cases h2 : L 2 <;> cases h4 : L 4 <;> cases h6 : L 6 <;> first | rfl | (rw [hLi] at h2; cases h2) | (rw [hLi] at h4; cases h4) | (rw [hLi] at h6; cases h6)
      all_goals (cases h2 : L 2 <;> cases h4 : L 4 <;> cases h6 : L 6 <;> simp [h2, h4, h6] at * <;> omega)
    | 4, ho =>
      have ho := Option.some.inj ho
      subst ho
      have q := v3 (hd 3 (by simp))
      have n7 : L 7 = false := by
        cases h : L 7 with
        | false => rfl
        | true => have h2 := d2 h; rw [hLi] at h2; simp at h2
      have n8 : L 8 = false := by
        cases h : L 8 with
        | false => rfl
        | true => have := d8 h; rw [n7] at this; cases this
      have n9 : L 9 = false := by
        cases h : L 9 with
        | false => rfl
        | true => have := d9 h; rw [n8] at this; cases this
      have hH := h9 n9
      rw [hLi] at hH b2 b4 b6
      subst hH
      clear h9 h9'
      simp [aev, cav, look, acallPure, abin, abinN, abinP, abinI, abinS, aun, aconv, afield, afieldAddr, aindexAddr, aindex, aslice, alow, ahigh, abuild, abuildGo, cellsOf, splice, fieldTy, alen, apick, amax, amin, aload, headV, aparts, abuildSlice, elParts, abytesStr, astore, amake, aappend, aclear, anew, arith, aresults, aresList, ares, spec0, spec1, spec2, spec3, spec4, eqCells, eqCell, q]
      refine ⟨by omega, by simpa using v0, by simpa using v1, by simpa using v3, by simpa using v5, by simpa using s0, by simpa using s1, by simpa using s2, ⟨i, (L 2).toNat + (L 6).toNat, k, by simpa using a2, by simp, by simpa using a6, by simp [n7], by simp [n8], by simpa using a9, by simpa using a10, ?_, ?_, ?_, ?_, ?_, ?_, ?_, by simp [n9]⟩, by simp [n7], by simpa using d8, by simpa using d9⟩
      all_goals clear a2 a4 a6 a7 a8 a9 a10 v0 v1 v3 v5 s0 s1 s2 hd d2 d8 d9 q
      case refine_7 =>
        intro _
        rw [← encRows_zer, ← bI_mk]
        cases h2 : L 2 <;> cases h4 : L 4 <;> cases h6 : L 6 <;> first | rfl | (rw [hLi] at h2; cases h2) | (rw [hLi] at h4; cases h4) | (rw [hLi] at h6; cases h6)
      all_goals (cases h2 : L 2 <;> cases h4 : L 4 <;> cases h6 : L 6 <;> simp [h2, h4, h6] at * <;> omega)
    | 6, ho =>
      have ho := Option.some.inj ho
      subst ho
      have q := v5 (hd 5 (by simp))
      have n7 : L 7 = false := by
        cases h : L 7 with
        | false => rfl
        | true => have h2 := d2 h; rw [hLi] at h2; simp at h2
      have n8 : L 8 = false := by
        cases h : L 8 with
        | false => rfl
        | true => have := d8 h; rw [n7] at this; cases this
      have n9 : L 9 = false := by
        cases h : L 9 with
        | false => rfl
        | true => have := d9 h; rw [n8] at this; cases this
      have hH := h9 n9
      rw [hLi] at hH b2 b4 b6
      subst hH
      clear h9 h9'
      simp [aev, cav, look, acallPure, abin, abinN, abinP, abinI, abinS, aun, aconv, afield, afieldAddr, aindexAddr, aindex, aslice, alow, ahigh, abuild, abuildGo, cellsOf, splice, fieldTy, alen, apick, amax, amin, aload, headV, aparts, abuildSlice, elParts, abytesStr, astore, amake, aappend, aclear, anew, arith, aresults, aresList, ares, spec0, spec1, spec2, spec3, spec4, eqCells, eqCell, q]
      refine ⟨by omega, by simpa using v0, by simpa using v1, by simpa using v3, by simpa using v5, by simpa using s0, by simpa using s1, by simpa using s2, ⟨i, j, (L 2).toNat + (L 4).toNat, by simpa using a2, by simpa using a4, by simp, by simp [n7], by simp [n8], by simpa using a9, by simpa using a10, ?_, ?_, ?_, ?_, ?_, ?_, ?_, by simp [n9]⟩, by simp [n7], by simpa using d8, by simpa using d9⟩
      all_goals clear a2 a4 a6 a7 a8 a9 a10 v0 v1 v3 v5 s0 s1 s2 hd d2 d8 d9 q
      case refine_7 =>
        intro _
        rw [← encRows_zer, ← bI_mk]
        cases h2 : L 2 <;> cases h4 : L 4 <;> cases h6 : L 6 <;> first | rfl | (rw [hLi] at h2; cases h2) | (rw [hLi] at h4; cases h4) | (rw [hLi] at h6; cases h6)
      all_goals (cases h2 : L 2 <;> cases h4 : L 4 <;> cases h6 : L 6 <;> simp [h2, h4, h6] at * <;> omega)
    | 7, ho =>
      have ho := Option.some.inj ho
      subst ho
      have l2 := hd 2 (by simp)
      have l4 := hd 4 (by simp)
      have l6 := hd 6 (by simp)
      have n8 : L 8 = false := by
        cases h : L 8 with
        | false => rfl
        | true => have := d8 h; rw [hLi] at this; cases this
      simp [aev, cav, look, acallPure, abin, abinN, abinP, abinI, abinS, aun, aconv, afield, afieldAddr, aindexAddr, aindex, aslice, alow, ahigh, abuild, abuildGo, cellsOf, splice, fieldTy, alen, apick, amax, amin, aload, headV, aparts, abuildSlice, elParts, abytesStr, astore, amake, aappend, aclear, anew, arith, aresults, aresList, ares, spec0, spec1, spec2, spec3, spec4, eqCells, eqCell, a2 l2, a4 l4, a6 l6]
      exact ⟨by simpa using v0, by simpa using v1, by simpa using v3, by simpa using v5, by simpa using s0, by simpa using s1, by simpa using s2, ⟨i, j, k, by simpa using a2, by simpa using a4, by simpa using a6, by simp, by simp [n8], by simpa using a9, by simpa using a10, by simpa using e1, by simpa using e2, by simpa using e3, by simpa using b2, by simpa using b4, by simpa using b6, by simpa using h9, by simpa using h9'⟩, by simp [l2, l4, l6], by simp, by simpa using d9⟩
    | 8, ho =>
      have ho := Option.some.inj ho
      subst ho
      have l0 := hd 0 (by simp)
      have l7 := hd 7 (by simp)
      simp [aev, cav, look, acallPure, abin, abinN, abinP, abinI, abinS, aun, aconv, afield, afieldAddr, aindexAddr, aindex, aslice, alow, ahigh, abuild, abuildGo, cellsOf, splice, fieldTy, alen, apick, amax, amin, aload, headV, aparts, abuildSlice, elParts, abytesStr, astore, amake, aappend, aclear, anew, arith, aresults, aresList, ares, spec0, spec1, spec2, spec3, spec4, eqCells, eqCell, v0 l0, a7 l7]
      exact ⟨by simpa using v0, by simpa using v1, by simpa using v3, by simpa using v5, by simpa using s0, by simpa using s1, by simpa using s2, ⟨i, j, k, by simpa using a2, by simpa using a4, by simpa using a6, by simpa using a7, by simp, by simpa using a9, by simpa using a10, by simpa using e1, by simpa using e2, by simpa using e3, by simpa using b2, by simpa using b4, by simpa using b6, by simpa using h9, by simpa using h9'⟩, by simpa using d2, by simp [l7], by simp⟩
    | 9, ho =>
      have ho := Option.some.inj ho
      subst ho
      have l8 := hd 8 (by simp)
      have l7 := d8 l8
      obtain ⟨l2, l4, l6⟩ := d2 l7
      have hH := h9 hLi
      rw [l2, l4, l6] at hH
      have hH2 : H = [bI (zer n), bI (zer n), bI (zer n)] := hH
      subst hH2
      simp [aev, cav, look, acallPure, abin, abinN, abinP, abinI, abinS, aun, aconv, afield, afieldAddr, aindexAddr, aindex, aslice, alow, ahigh, abuild, abuildGo, cellsOf, splice, fieldTy, alen, apick, amax, amin, aload, headV, aparts, abuildSlice, elParts, abytesStr, astore, amake, aappend, aclear, anew, arith, aresults, aresList, ares, spec0, spec1, spec2, spec3, spec4, eqCells, eqCell, a8 l8, AV.isDeep]
      exact ⟨by simpa using v0, by simpa using v1, by simpa using v3, by simpa using v5, by simpa using s0, by simpa using s1, by simpa using s2, ⟨i, j, k, by simpa using a2, by simpa using a4, by simpa using a6, by simpa using a7, by simpa using a8, by simp, by simpa using a10, by simpa using e1, by simpa using e2, by simpa using e3, by simpa using b2, by simpa using b4, by simpa using b6, by simp, by simp⟩, by simpa using d2, by simpa using d8, by simp [l8]⟩
    | 10, ho =>
      have ho := Option.some.inj ho
      subst ho
      have l9 := hd 9 (by simp)
      simp [aev, cav, look, acallPure, abin, abinN, abinP, abinI, abinS, aun, aconv, afield, afieldAddr, aindexAddr, aindex, aslice, alow, ahigh, abuild, abuildGo, cellsOf, splice, fieldTy, alen, apick, amax, amin, aload, headV, aparts, abuildSlice, elParts, abytesStr, astore, amake, aappend, aclear, anew, arith, aresults, aresList, ares, spec0, spec1, spec2, spec3, spec4, eqCells, eqCell, a9 l9]
      exact ⟨by simpa using v0, by simpa using v1, by simpa using v3, by simpa using v5, by simpa using s0, by simpa using s1, by simpa using s2, ⟨i, j, k, by simpa using a2, by simpa using a4, by simpa using a6, by simpa using a7, by simpa using a8, by simpa using a9, by simp, by simpa using e1, by simpa using e2, by simpa using e3, by simpa using b2, by simpa using b4, by simpa using b6, by simpa using h9, by simpa using h9'⟩, by simpa using d2, by simpa using d8, by simpa using d9⟩
    | x + 11, ho => simp at ho
  · intro L st' hI hall
    obtain ⟨ρ, H⟩ := st'
    obtain ⟨v0, v1, v3, v5, s0, s1, s2, ⟨i, j, k, a2, a4, a6, a7, a8, a9, a10, e1, e2, e3, b2, b4, b6, h9, h9'⟩, d2, d8, d9⟩ := hI
    have l2 := hall 2 (by decide)
    have l4 := hall 4 (by decide)
    have l6 := hall 6 (by decide)
    have e1 := e1 ⟨l2, l4⟩
    have e2 := e2 ⟨l2, l6⟩
    have e3 := e3 ⟨l4, l6⟩
    have b2 := b2 l2
    have b4 := b4 l4
    have b6 := b6 l6
    have hp7 := a10 (hall 10 (by decide))
    have hH := h9' (hall 9 (by decide))
    rw [l2, l4, l6] at b2 b4 b6
    simp only [Bool.toNat_true] at b2 b4 b6
    simp only at s0 s1 s2 hp7 hH
    subst hH
    clear h9 h9' a2 a4 a6 a7 a8 a9 a10 v0 v1 v3 v5 d2 d8 d9 l2 l4 l6 hall
    simp [aev, cav, look, acallPure, abin, abinN, abinP, abinI, abinS, aun, aconv, afield, afieldAddr, aindexAddr, aindex, aslice, alow, ahigh, abuild, abuildGo, cellsOf, splice, fieldTy, alen, apick, amax, amin, aload, headV, aparts, abuildSlice, elParts, abytesStr, astore, amake, aappend, aclear, anew, arith, aresults, aresList, ares, spec0, spec1, spec2, spec3, spec4, eqCells, eqCell, s1, hp7]
    have hJ : ([bI (zer n), bI (zer n), bI (zer n), ⟨59, 7, [[.int .i64 n, .slice 1 true [], .slice 1 true [], .slice 1 true [], .own i n, .own j n, .own k n]], true, false⟩] : List Blk) = [bI (zer n), bI (zer n), bI (zer n), jRow n i j k] := rfl
    rw [hJ]
    refine loop_ruleH (C := CBg) sigCBg mixCBg [1, 6] (fun x : Nat => ⟨[(2, Enc.enc vars), (7, .ptr 3 1 7 0 0), (22, Enc.enc rels), (23, .int .i64 rels.length), (24, .int .i64 x)], joinX 0 (join0 n rels vars x)⟩) (fun x => x ≤ rels.length) (fun x => rels.length - x) (by kernel_rfl) ⟨0, Nat.zero_le _, ?_⟩ (fun x hx => ?_)
    · refine (beg_perm (ρ' := [(2, Enc.enc vars), (7, .ptr 3 1 7 0 0), (22, Enc.enc rels), (23, .int .i64 rels.length), (24, .int .i64 0)]) b2 b4 b6 e1 e2 e3 ?_ ?_).trans (((weak_nilcell 3 0 1 1 75 rfl rfl rfl (by decide)).trans ((weak_nilcell 3 0 2 1 3 rfl rfl rfl (by decide)).trans (weak_nilcell 3 0 3 1 25 rfl rfl rfl (by decide)))).trans (weak_eq (by simp) ?_))
      · simp [s2, AV.clean1]
        exact hp7
      · simp [prmA]
      · simp [joinX, coreX, joinB, join0, relsB, ptrsF, relsX, bI, bR, cntV, jRow, zer]
    · have hX := relsX_len 7 (join0 n rels vars x).rels
      have hXl : (join0 n rels vars x).rels.length = x := by simp [join0]
      rw [hXl] at hX
      obtain ⟨X, hXe⟩ : ∃ X, X = relsX 7 (join0 n rels vars x).rels := ⟨_, rfl⟩
      rw [← hXe] at hX
      have hH0 : joinX 0 (join0 n rels vars x) = bI (zer n) :: bI (zer n) :: bI (zer n) :: joinB 0 (join0 n rels vars x) :: relsB 7 x :: bI [] :: bR [] :: X := by
        unfold joinX coreX
        rw [hXe, hXl]; rfl
      by_cases hlt : x < rels.length
      · have i1 : I64 ((x : Int) + 1) := by unfold I64; omega
        have hv : x < vars.length := by omega
        have hr := hS _ (ix_mem hlt)
        simp only [hH0]
        simp [aev, cav, look, acallPure, abin, abinN, abinP, abinI, abinS, aun, aconv, afield, afieldAddr, aindexAddr, aindex, aslice, alow, ahigh, abuild, abuildGo, cellsOf, splice, fieldTy, alen, apick, amax, amin, aload, headV, aparts, abuildSlice, elParts, abytesStr, astore, amake, aappend, aclear, anew, arith, aresults, aresList, ares, spec0, spec1, spec2, spec3, spec4, eqCells, eqCell, joinB, relsB, bI, bR, pairT, at_app0, at_app, st_app0, st_app, hlt, rowAt_enc hlt, sBuild, hr]
        refine AW_regionF sigCBg mixCBg [.pure, .pure, .pure, .pure, .read, .read, .pure, .pure, .pure, .read, .pure, .eff, .eff, .eff, .pure, .pure, .eff] [[],[],[1],[1,2],[2,1,3],[],[],[],[7,6],[6,7,8],[8,7,6,9,5],[5,9,6,7,8,10],[10,8,7,6,9,5,11],[11,5,9,6,7,8,10,12,3,1,2,4],[13,12,11,10,9,8,7,6,5,4,3,2,1,0],[0,1,2,3,4,5,6,7,8,9,10,11,12,13,14],[14,13,12,11,10,9,8,7,6,5,4,3,2,1,0,15]] (by kernel_rfl) (by kernel_rfl) (by kernel_rfl) (by kernel_rfl) ?_
        simp [aev, cav, look, acallPure, abin, abinN, abinP, abinI, abinS, aun, aconv, afield, afieldAddr, aindexAddr, aindex, aslice, alow, ahigh, abuild, abuildGo, cellsOf, splice, fieldTy, alen, apick, amax, amin, aload, headV, aparts, abuildSlice, elParts, abytesStr, astore, amake, aappend, aclear, anew, arith, aresults, aresList, ares, spec0, spec1, spec2, spec3, spec4, eqCells, eqCell, aptrSlice, scalBg, at_app0, at_app, st_app0, st_app, hv, rowAt_enc hv]
        have hpl : (ptrsF 7 x).length = x := by simp [ptrsF]
        refine ⟨⟨by rw [hpl, hXl], by omega, by omega⟩, x + 1, by omega, by omega, ?_⟩
        obtain ⟨p, hp⟩ : ∃ p, p = 7 + 2 * x := ⟨_, rfl⟩
        have hpX : X.length + 7 = p := by omega
        have hrl : ix rels x = ix rels x := rfl
        obtain ⟨P, hP⟩ : ∃ P, P = bI (zer n) :: bI (zer n) :: bI (zer n) :: joinB 0 (join0 n rels vars (x + 1)) :: ⟨75, 1, ptrsF 7 x ++ [[.ptr (p + 2) 1 3 0 0]], true, false⟩ :: bI [] :: bR [] :: X := ⟨_, rfl⟩
        have hPl : P.length = p := by rw [hP]; simp only [List.length_cons]; omega
        have hX1 : relsX 7 (join0 n rels vars (x + 1)).rels = X ++ [relB (rel0 (ix rels x) (ix vars x)) (p + 1), bI []] := by
          have : (join0 n rels vars (x + 1)).rels = (join0 n rels vars x).rels ++ [rel0 (ix rels x) (ix vars x)] := by simp [join0, List.range_succ]
          rw [this, relsX_snoc, ← hXe, hXl, hp]; rfl
        have hXl1 : (join0 n rels vars (x + 1)).rels.length = x + 1 := by simp [join0]
        have hH1 : joinX 0 (join0 n rels vars (x + 1)) = (bI (zer n) :: bI (zer n) :: bI (zer n) :: joinB 0 (join0 n rels vars (x + 1)) :: relsB 7 (x + 1) :: bI [] :: bR [] :: X) ++ [⟨77, 3, [[.slice 2 false (encRows (buildF (ix rels x)).1.levels), .slice 1 false (encRows (ix vars x)), .own (p + 1) 0]], true, false⟩, bI []] := by
          unfold joinX coreX
          rw [hX1, hXl1]; rfl
        have hXp : X.map (prmB (tailP p)) = X := by
          rw [hXe]
          exact relsX_prm _ _ _ fun k hk => tailP_lo (by rw [hXl] at hk; omega)
        have hXc : ∀ m, p ≤ m → ∀ b ∈ X, ClB m b := fun m hm b hb => by
          rw [hXe] at hb
          exact ClB_relsX m _ _ (by rw [hXl]; omega) b hb
        have tl : ∀ k, k < p → tailP p k = k := fun k hk => tailP_lo hk
        rw [hH1]
        refine (weak_eq (ρ' := [(2, Enc.enc vars), (7, .ptr 3 1 7 0 0), (22, Enc.enc rels), (23, .int .i64 rels.length), (24, .int .i64 ((x + 1 : Nat) : Int))]) (H' := P ++ [⟨36, 2, [Enc.cells (ix rels x)], true, true⟩, ⟨72, 1, [[.slice 2 false (encRows (buildF (ix rels x)).1.levels)]], true, true⟩, ⟨77, 3, [[.slice 2 false (encRows (buildF (ix rels x)).1.levels), .slice 1 false (encRows (ix vars x)), .slice 1 true []]], true, true⟩, ⟨75, 1, [[.ptr (p + 2) 1 3 0 0]], true, false⟩]) ?_ ?_).trans (beg_tail hPl (by omega) ?_ ?_ ?_ ?_ ?_ ?_ ?_ ?_)
        · simp [w64_in i1]
        · rw [hP, ← hpX, hpl]
          simp [bI, bR, joinB, join0]
        · rw [hP]
          simp only [List.cons_append, List.nil_append, List.map_cons, prm_bI, prm_bR, hXp]
          have e1 : prmB (tailP p) (joinB 0 (join0 n rels vars (x + 1))) = joinB 0 (join0 n rels vars (x + 1)) := joinB_prm fun k hk => tl _ (by omega)
          have e2 : prmB (tailP p) ⟨75, 1, ptrsF 7 x ++ [[.ptr (p + 2) 1 3 0 0]], true, false⟩ = relsB 7 (x + 1) := by
            have e3 : (ptrsF 7 x).map (fun r => r.map (prmA (tailP p))) = ptrsF 7 x := ptrsF_prm (k := x) fun i hi => tl (7 + 2 * i) (by omega)
            have e4 : tailP p (p + 2) = p := by unfold tailP; simp
            unfold prmB relsB
            simp only [List.map_append, e3, ptrsF_succ, List.map_cons, List.map_nil]
            have e5 : prmA (tailP p) (.ptr (p + 2) 1 3 0 0) = .ptr (7 + 2 * x) 1 3 0 0 := by show AV.ptr (tailP p (p + 2)) 1 3 0 0 = _; rw [e4, hp]
            rw [e5]; simp
          rw [e1, e2]
        · intro b hb r hr c hc
          have key : ClB (p + 5) b := by
            rw [hP] at hb
            simp only [List.mem_cons] at hb
            rcases hb with rfl | rfl | rfl | rfl | rfl | rfl | rfl | hb
            · exact ClB_bI _ _
            · exact ClB_bI _ _
            · exact ClB_bI _ _
            · exact ClB_joinB (by omega)
            · intro r hr c hc
              rcases List.mem_append.1 hr with hr | hr
              · exact ClB_ptrs (p := 7) (k := x) (e := 75) (mu := true) (d := true) (by omega) r hr c hc
              · rw [List.mem_singleton.1 hr] at hc
                rw [List.mem_singleton.1 hc]
                simp [AV.clean, AV.clean1]
            · exact ClB_bI _ _
            · exact ClB_bR _ _
            · exact hXc _ (by omega) b hb
          exact (key r hr c hc).1
        · intro r hr c hc
          rw [List.mem_singleton.1 hr] at hc
          simp only [cells_Rela, List.mem_cons, List.not_mem_nil, or_false] at hc
          rcases hc with rfl | rfl <;> rfl
        · intro r hr c hc
          rw [List.mem_singleton.1 hr] at hc
          rw [List.mem_singleton.1 hc]; rfl
        · intro r hr c hc
          rw [List.mem_singleton.1 hr] at hc
          rw [List.mem_singleton.1 hc]
          simp [AV.clean1]
        · intro b hb r hr c hc
          have key : ClB (p + 2) b := by
            simp only [List.mem_cons] at hb
            rcases hb with rfl | rfl | rfl | rfl | rfl | rfl | rfl | hb
            · exact ClB_bI _ _
            · exact ClB_bI _ _
            · exact ClB_bI _ _
            · exact ClB_joinB (by omega)
            · exact ClB_ptrs (by omega)
            · exact ClB_bI _ _
            · exact ClB_bR _ _
            · exact hXc _ (by omega) b hb
          exact (key r hr c hc).2
        · have t3 := tl 3 (by omega)
          simp [prmA, t3, AV.clean, AV.clean1]
          omega
        · simp
      · have e : x = rels.length := by omega
        subst e
        have hfin := hH0
        simp only [hH0]
        simp [aev, cav, look, acallPure, abin, abinN, abinP, abinI, abinS, aun, aconv, afield, afieldAddr, aindexAddr, aindex, aslice, alow, ahigh, abuild, abuildGo, cellsOf, splice, fieldTy, alen, apick, amax, amin, aload, headV, aparts, abuildSlice, elParts, abytesStr, astore, amake, aappend, aclear, anew, arith, aresults, aresList, ares, spec0, spec1, spec2, spec3, spec4, eqCells, eqCell, hlt]
        rw [← hH0]
        have hlen : (joinX 0 (join0 n rels vars rels.length)).length = 7 + 2 * rels.length := by rw [hH0]; simp only [List.length_cons]; omega
        refine wEnd_here ?_
        have hXl' := hXl
        have hid : ∀ k, k < 7 + 2 * rels.length → (List.range (7 + 2 * rels.length)).getD k 0 = k := fun k hk => by
          rw [List.getD_eq_getElem?_getD, List.getElem?_range hk]; rfl
        simp only [aev, cav, look, acallPure, abin, abinN, abinP, abinI, abinS, aun, aconv, afield, afieldAddr, aindexAddr, aindex, aslice, alow, ahigh, abuild, abuildGo, cellsOf, splice, fieldTy, alen, apick, amax, amin, aload, headV, aparts, abuildSlice, elParts, abytesStr, astore, amake, aappend, aclear, anew, arith, aresults, aresList, ares, spec0, spec1, spec2, spec3, spec4, eqCells, eqCell, postN_ret, finNK_some, getA]
        refine ⟨by simp, ?_, ?_⟩
        · show AV.ptr 3 1 7 0 0 = .ptr ((List.range (7 + 2 * rels.length)).getD 3 0) 1 7 0 0
          rw [hid 3 (by omega)]
        · refine List.ext_getElem? fun q => ?_
          rw [List.getElem?_map, List.getElem?_map]
          rcases Nat.lt_or_ge q (7 + 2 * rels.length) with hq | hq
          · rw [List.getElem?_range hq]
            have hq2 : q < (joinX 0 (join0 n rels vars rels.length)).length := by omega
            rw [List.getElem?_eq_getElem hq2]
            simp only [Option.map_some]
            rw [List.getElem?_eq_getElem hq2, renB_id (ClB_joinX (m := 7 + 2 * rels.length) (by rw [hXl]; omega) _ (List.getElem_mem hq2)) hid]
          · rw [List.getElem?_eq_none (by rw [List.length_range]; omega), List.getElem?_eq_none (by omega)]; rfl
  · intro L L' st' he hI
    have : L = L' := funext he
    rw [← this]; exact hI
end Go.Proofs.Ytpbgnnaaobamfaa

/-
  layer 33: a relation of a join: open, candidates, enter, leave.
-/
namespace Go.Proofs.Ytpbgnnaaobamfaa
open Go.RowKit
set_option linter.unusedSimpArgs false
set_option linter.unusedVariables false
set_option maxRecDepth 100000

open Classical in
/-- Whatever fits: args, blocks; then a result and blocks. -/
noncomputable def anyG {Γ : Type} (a : Γ → List AV) (h : Γ → List Blk) (pre : Γ → Prop) (res : Γ → AV) (h' : Γ → List Blk) : List AV → List Blk → Option (Prop × AV × List Blk) := fun args H =>
  if hx : ∃ γ, pre γ ∧ a γ = args ∧ h γ = H then some (True, res hx.choose, h' hx.choose) else none
theorem anyG_at {Γ : Type} {a : Γ → List AV} {h : Γ → List Blk} {pre : Γ → Prop} {res : Γ → AV} {h' : Γ → List Blk} (inj : ∀ γ γ', pre γ → pre γ' → a γ = a γ' → h γ = h γ' → res γ = res γ' ∧ h' γ = h' γ') {γ : Γ} (hp : pre γ) : anyG a h pre res h' (a γ) (h γ) = some (True, res γ, h' γ) := by
  have hx : ∃ δ, pre δ ∧ a δ = a γ ∧ h δ = h γ := ⟨γ, hp, rfl, rfl⟩
  unfold anyG
  rw [dif_pos hx]
  obtain ⟨h1, h2, h3⟩ := hx.choose_spec
  obtain ⟨e1, e2⟩ := inj _ _ h1 hp h2 h3
  rw [e1, e2]
theorem anyG_inv {Γ : Type} {a : Γ → List AV} {h : Γ → List Blk} {pre : Γ → Prop} {res : Γ → AV} {h' : Γ → List Blk} {args : List AV} {H : List Blk} {ob : Prop} {r : AV} {H' : List Blk} (e : anyG a h pre res h' args H = some (ob, r, H')) : ∃ γ, pre γ ∧ a γ = args ∧ h γ = H ∧ res γ = r ∧ h' γ = H' := by
  unfold anyG at e
  split at e
  · rename_i hx
    injection e with e; injection e with e1 e2; injection e2 with e2 e3
    obtain ⟨h1, h2, h3⟩ := hx.choose_spec
    exact ⟨_, h1, h2, h3, e2, e3⟩
  · cases e
theorem rows_inj {α : Type} [Enc α] {a b : List α} (h : encRows a = encRows b) : a = b := by
  have := congrArg (fun l => l.map (Enc.unc : List AV → α)) h
  simpa [map_unc] using this
theorem bI_inj {a b : List Int} (h : bI a = bI b) : a = b := by
  unfold bI at h
  injection h with h1 h2 h3
  exact rows_inj h3
theorem bR_inj {a b : List (List Int)} (h : bR a = bR b) : a = b := by
  unfold bR at h
  injection h with h1 h2 h3
  exact rows_inj h3
theorem cntV_inj {l l' n c c' : Nat} (h : c ≤ n) (h' : c' ≤ n) (e : cntV l n c = cntV l' n c') : c = c' := by
  unfold cntV at e
  split at e
  · split at e
    · omega
    · cases e
  · split at e
    · cases e
    · injection e
theorem relB_inj {r r' : RelS} {l l' : Nat} (h : r.c ≤ r.A.length) (h' : r'.c ≤ r'.A.length) (e : relB r l = relB r' l') (eA : bI r.A = bI r'.A) : r = r' := by
  obtain ⟨⟨t⟩, vs, A, c⟩ := r
  obtain ⟨⟨t'⟩, vs', A', c'⟩ := r'
  have eA := bI_inj eA
  simp only at eA h h'
  subst eA
  unfold relB at e
  injection e with e1 e2 e3
  simp only [List.cons.injEq, and_true, AV.slice.injEq, true_and] at e3
  obtain ⟨e4, e5, e6⟩ := e3
  rw [rows_inj e4, rows_inj e5, cntV_inj h h' e6]

/-- The group that lies open. -/
def gI (r : RelS) : Int := if r.c = 0 then 0 else ix r.A (r.c - 1)
def firstL (r : RelS) : List Int := (ix r.t.levels r.c).first
def keysL (r : RelS) : List Int := (ix r.t.levels r.c).keys
def fromI (r : RelS) : Int := ix (firstL r) (gI r).toNat
def toI (r : RelS) : Int := ix (firstL r) ((gI r).toNat + 1)
structure OpenOK (r : RelS) : Prop where
  c : r.c ≤ r.A.length
  n : r.A.length ≤ 1000
  l : r.c < r.t.levels.length
  g0 : 0 ≤ gI r
  g1 : gI r + 1 < (firstL r).length
  f : (firstL r).length ≤ 1000000
structure CandOK (r : RelS) : Prop extends OpenOK r where
  a : 0 ≤ fromI r
  b : fromI r ≤ toI r
  d : toI r ≤ (keysL r).length
  k : (keysL r).length ≤ 1000000
def candL (r : RelS) : List Int := ((keysL r).drop (fromI r).toNat).take ((toI r).toNat - (fromI r).toNat)
structure HasR (H : List Blk) (p : Nat) (r : RelS) : Prop where
  at0 : H[p]? = some (relB r (p + 1))
  at1 : H[p + 1]? = some (bI r.A)
theorem HasR.inj {H : List Blk} {p : Nat} {r r' : RelS} (h : HasR H p r) (h' : HasR H p r') (c : r.c ≤ r.A.length) (c' : r'.c ≤ r'.A.length) : r = r' :=
  relB_inj c c' (Option.some.inj (h.at0.symm.trans h'.at0)) (Option.some.inj (h.at1.symm.trans h'.at1))
structure RX where
  p : Nat
  r : RelS
  H : List Blk
noncomputable def gOpen : List AV → List Blk → Option (Prop × AV × List Blk) := anyG (fun γ : RX => [.ptr γ.p 1 3 0 0]) (fun γ => γ.H) (fun γ => HasR γ.H γ.p γ.r ∧ OpenOK γ.r) (fun γ => .tup [.int .i64 (fromI γ.r), .int .i64 (toI γ.r)]) (fun γ => γ.H)
theorem open_at {H : List Blk} {p : Nat} {r : RelS} (h : HasR H p r) (ho : OpenOK r) : gOpen [.ptr p 1 3 0 0] H = some (True, .tup [.int .i64 (fromI r), .int .i64 (toI r)], H) :=
  anyG_at (γ := (⟨p, r, H⟩ : RX)) (fun γ γ' h1 h2 h3 h4 => by
    obtain ⟨p, r, H⟩ := γ
    obtain ⟨p', r', H'⟩ := γ'
    simp only [List.cons.injEq, AV.ptr.injEq, and_true] at h1 h2 h3 h4
    subst h3 h4
    rw [h1.1.inj h2.1 h1.2.c h2.2.c]; exact ⟨rfl, rfl⟩) ⟨h, ho⟩
theorem cntV_full (l n : Nat) : cntV l n n = .own l n := by unfold cntV; rw [if_pos rfl]
theorem cntV_part {l n c : Nat} (h : c ≠ n) : cntV l n c = .osl l n 1 0 c := by unfold cntV; rw [if_neg h]
set_option maxHeartbeats 8000000 in
theorem openP : GenOK Try.prog G0 63 gOpen := by
  refine gen_of_avc (C := CE) sigCE mixCE Try.func63 rfl (by kernel_rfl) (fun avs H ob r' H' h hob => ?_)
  obtain ⟨⟨p, r, H0⟩, ⟨⟨a0, a1⟩, ho⟩, rfl, hH, rfl, hH'⟩ := anyG_inv h
  simp only at hH hH' a0 a1 ho
  subst hH hH'
  refine ⟨(by show 1 ≤ _; decide), ?_⟩
  obtain ⟨h1, h2, h3, h4, h5, h6⟩ := ho
  obtain ⟨⟨lv⟩, vs, A, c⟩ := r
  clear h hob
  simp only [firstL] at h1 h2 h3 h5 h6
  have i0 : I64 (c : Int) := by unfold I64; omega
  rcases em2 (c = 0) with hc | hc
  · have hc' := of_eq_true hc
    subst hc'
    have g : gI ⟨⟨lv⟩, vs, A, 0⟩ = 0 := rfl
    rw [g] at h5
    have f0 : 0 < (ix lv 0).first.length := by omega
    have f1 : 1 < (ix lv 0).first.length := by omega
    rcases em2 (0 = A.length) with hn | hn
    · have hn' := of_eq_true hn
      have e : cntV (p + 1) A.length 0 = .own (p + 1) A.length := by rw [← hn', cntV_full]
      simp only [relB, bI, e] at a0 a1
      simp [aev, cav, look, acallPure, abin, abinN, abinP, abinI, abinS, aun, aconv, afield, afieldAddr, aindexAddr, aindex, aslice, alow, ahigh, abuild, abuildGo, cellsOf, splice, fieldTy, alen, apick, amax, amin, aload, headV, aparts, abuildSlice, elParts, abytesStr, astore, amake, aappend, aclear, anew, arith, aresults, aresList, ares, spec0, spec1, spec2, spec3, spec4, eqCells, eqCell, argsρ, a0, a1, h3, rowAt_enc h3, ← hn', f0, f1, rowAt_enc f0, rowAt_enc f1, fromI, toI, firstL, g]
      exact ⟨by omega, True, trivial⟩
    · have e : cntV (p + 1) A.length 0 = .osl (p + 1) A.length 1 0 0 := cntV_part (of_eq_false hn)
      simp only [relB, bI, e] at a0 a1
      simp [aev, cav, look, acallPure, abin, abinN, abinP, abinI, abinS, aun, aconv, afield, afieldAddr, aindexAddr, aindex, aslice, alow, ahigh, abuild, abuildGo, cellsOf, splice, fieldTy, alen, apick, amax, amin, aload, headV, aparts, abuildSlice, elParts, abytesStr, astore, amake, aappend, aclear, anew, arith, aresults, aresList, ares, spec0, spec1, spec2, spec3, spec4, eqCells, eqCell, argsρ, a0, a1, h3, rowAt_enc h3, f0, f1, rowAt_enc f0, rowAt_enc f1, fromI, toI, firstL, g]
      exact ⟨by omega, True, trivial⟩
  · have hc' := of_eq_false hc
    have g : gI ⟨⟨lv⟩, vs, A, c⟩ = ix A (c - 1) := by unfold gI; rw [if_neg hc']
    rw [g] at h4 h5
    obtain ⟨q, hq⟩ : ∃ q : Nat, ix A (c - 1) = (q : Int) := ⟨(ix A (c - 1)).toNat, by omega⟩
    rw [hq] at h5
    have cA : c - 1 < A.length := by omega
    have j1 : I64 ((c : Int) - 1) := by unfold I64; omega
    have j2 : ((c : Int) - 1).toNat = c - 1 := by omega
    have j3 : (0 : Int) ≤ (c : Int) - 1 := by omega
    have j4 : (c : Int) - 1 < A.length := by omega
    have j5 : (0 < c) = True := eq_true (by omega)
    have j6 : I64 ((q : Int) + 1) := by unfold I64; omega
    have j7 : ((q : Int) + 1).toNat = q + 1 := by omega
    have j8 : (0 : Int) ≤ (q : Int) + 1 := by omega
    have f0 : q < (ix lv c).first.length := by omega
    have f1 : q + 1 < (ix lv c).first.length := by omega
    have j9 : (q : Int) + 1 < (ix lv c).first.length := by omega
    rcases em2 (c = A.length) with hn | hn
    · have hn' := of_eq_true hn
      have e : cntV (p + 1) A.length c = .own (p + 1) A.length := by rw [hn', cntV_full]
      simp only [relB, bI, e] at a0 a1
      rw [← hn'] at a0 j4
      simp [aev, cav, look, acallPure, abin, abinN, abinP, abinI, abinS, aun, aconv, afield, afieldAddr, aindexAddr, aindex, aslice, alow, ahigh, abuild, abuildGo, cellsOf, splice, fieldTy, alen, apick, amax, amin, aload, headV, aparts, abuildSlice, elParts, abytesStr, astore, amake, aappend, aclear, anew, arith, aresults, aresList, ares, spec0, spec1, spec2, spec3, spec4, eqCells, eqCell, argsρ, a0, a1, h3, rowAt_enc h3, hc, hc', i0, cA, rowAt_enc cA, j1, j2, j3, j4, j5, j6, j7, j8, j9, f0, f1, rowAt_enc f0, rowAt_enc f1, fromI, toI, firstL, g, hq, ← hn']
      exact ⟨by omega, by omega, by omega, by omega, True, trivial⟩
    · have e : cntV (p + 1) A.length c = .osl (p + 1) A.length 1 0 c := cntV_part (of_eq_false hn)
      have j10 : (c : Int) - 1 < c := by omega
      simp only [relB, bI, e] at a0 a1
      simp [aev, cav, look, acallPure, abin, abinN, abinP, abinI, abinS, aun, aconv, afield, afieldAddr, aindexAddr, aindex, aslice, alow, ahigh, abuild, abuildGo, cellsOf, splice, fieldTy, alen, apick, amax, amin, aload, headV, aparts, abuildSlice, elParts, abytesStr, astore, amake, aappend, aclear, anew, arith, aresults, aresList, ares, spec0, spec1, spec2, spec3, spec4, eqCells, eqCell, argsρ, a0, a1, h3, rowAt_enc h3, hc, hc', i0, cA, rowAt_enc cA, j1, j2, j3, j4, j5, j6, j7, j8, j9, j10, f0, f1, rowAt_enc f0, rowAt_enc f1, fromI, toI, firstL, g, hq]
      exact ⟨by omega, True, trivial⟩

noncomputable def gCand : List AV → List Blk → Option (Prop × AV × List Blk) := anyG (fun γ : RX => [.ptr γ.p 1 3 0 0]) (fun γ => γ.H) (fun γ => HasR γ.H γ.p γ.r ∧ CandOK γ.r) (fun γ => .slice 1 false (encRows (candL γ.r))) (fun γ => γ.H)
theorem cand_at {H : List Blk} {p : Nat} {r : RelS} (h : HasR H p r) (ho : CandOK r) : gCand [.ptr p 1 3 0 0] H = some (True, .slice 1 false (encRows (candL r)), H) :=
  anyG_at (γ := (⟨p, r, H⟩ : RX)) (fun γ γ' h1 h2 h3 h4 => by
    obtain ⟨p, r, H⟩ := γ
    obtain ⟨p', r', H'⟩ := γ'
    simp only [List.cons.injEq, AV.ptr.injEq, and_true] at h1 h2 h3 h4
    subst h3 h4
    rw [h1.1.inj h2.1 h1.2.c h2.2.c]; exact ⟨rfl, rfl⟩) ⟨h, ho⟩
noncomputable def CCa : Ctx := mkC Try.prog G0 [(63, .gen gOpen)]
@[simp] theorem CCa_P : CCa.P = Try.prog := rfl
@[simp] theorem CCa_1 : CCa.S 63 = .gen gOpen := rfl
theorem mixCCa : CCa.P.follows .mixedOrders = true := mixed
theorem sigCCa : SigOK CCa := sigOK_cons (entryGen openP Try.func63 rfl (by decide)) (sigOK_nil _ _)
set_option maxHeartbeats 8000000 in
theorem candP : GenOK Try.prog G0 50 gCand := by
  refine gen_of_avc (C := CCa) sigCCa mixCCa Try.func50 rfl (by kernel_rfl) (fun avs H ob r' H' h hob => ?_)
  obtain ⟨⟨p, r, H0⟩, ⟨hR, ho⟩, rfl, hH, rfl, hH'⟩ := anyG_inv h
  simp only at hH hH' hR ho
  subst hH hH'
  have hop := open_at hR ho.toOpenOK
  obtain ⟨a0, a1⟩ := hR
  refine ⟨(by show 1 ≤ _; decide), ?_⟩
  obtain ⟨⟨h1, h2, h3, h4, h5, h6⟩, h7, h8, h9, h10⟩ := ho
  clear h hob
  obtain ⟨f, hf⟩ : ∃ f : Nat, fromI r = (f : Int) := ⟨(fromI r).toNat, by omega⟩
  obtain ⟨t, ht⟩ : ∃ t : Nat, toI r = (t : Int) := ⟨(toI r).toNat, by omega⟩
  have hc : candL r = ((keysL r).drop f).take (t - f) := by unfold candL; rw [hf, ht]; rfl
  rw [hf, ht] at hop
  rw [hf, ht] at h8
  rw [ht] at h9
  obtain ⟨⟨lv⟩, vs, A, c⟩ := r
  simp only [keysL] at h1 h2 h3 h9 h10 hc ⊢
  rw [hc]
  have i0 : I64 (c : Int) := by unfold I64; omega
  have t1 : t ≤ (ix lv c).keys.length := by omega
  have f1 : f ≤ t := by omega
  rcases em2 (c = A.length) with hn | hn
  · have hn' := of_eq_true hn
    have e : cntV (p + 1) A.length c = .own (p + 1) A.length := by rw [hn', cntV_full]
    simp only [relB, bI, e] at a0 a1
    rw [← hn'] at a0
    simp [aev, cav, look, acallPure, abin, abinN, abinP, abinI, abinS, aun, aconv, afield, afieldAddr, aindexAddr, aindex, aslice, alow, ahigh, abuild, abuildGo, cellsOf, splice, fieldTy, alen, apick, amax, amin, aload, headV, aparts, abuildSlice, elParts, abytesStr, astore, amake, aappend, aclear, anew, arith, aresults, aresList, ares, spec0, spec1, spec2, spec3, spec4, eqCells, eqCell, argsρ, hop, a0, a1, h3, rowAt_enc h3, i0, t1, f1, ← hn']
    exact ⟨True, ⟨trivial, by rw [List.drop_take]⟩, trivial⟩
  · have e : cntV (p + 1) A.length c = .osl (p + 1) A.length 1 0 c := cntV_part (of_eq_false hn)
    simp only [relB, bI, e] at a0 a1
    simp [aev, cav, look, acallPure, abin, abinN, abinP, abinI, abinS, aun, aconv, afield, afieldAddr, aindexAddr, aindex, aslice, alow, ahigh, abuild, abuildGo, cellsOf, splice, fieldTy, alen, apick, amax, amin, aload, headV, aparts, abuildSlice, elParts, abytesStr, astore, amake, aappend, aclear, anew, arith, aresults, aresList, ares, spec0, spec1, spec2, spec3, spec4, eqCells, eqCell, argsρ, hop, a0, a1, h3, rowAt_enc h3, i0, t1, f1]
    exact ⟨True, ⟨trivial, by rw [List.drop_take]⟩, trivial⟩

/-- The next column gets the key x. -/
def pushA (A : List Int) (c : Nat) (v : Int) : List Int := if c = A.length then A ++ [v] else A.set c v
def enterF (r : RelS) (x : Int) : RelS := { r with A := pushA r.A r.c (fromI r + lbd (candL r) x), c := r.c + 1 }
def leaveF (r : RelS) : RelS := { r with c := r.c - 1 }
def putR (H : List Blk) (p : Nat) (r : RelS) : List Blk := (H.set (p + 1) (bI r.A)).set p (relB r (p + 1))
structure EX where
  p : Nat
  r : RelS
  H : List Blk
  x : Int
structure EntOK (r : RelS) : Prop extends CandOK r where
  s : Inc (candL r)
  m : r.c < 1000
noncomputable def gEnter : List AV → List Blk → Option (Prop × AV × List Blk) := anyG (fun γ : EX => [.ptr γ.p 1 3 0 0, .int .i64 γ.x]) (fun γ => γ.H) (fun γ => HasR γ.H γ.p γ.r ∧ EntOK γ.r) (fun _ => .tup []) (fun γ => putR γ.H γ.p (enterF γ.r γ.x))
theorem enter_at {H : List Blk} {p : Nat} {r : RelS} {x : Int} (h : HasR H p r) (ho : EntOK r) : gEnter [.ptr p 1 3 0 0, .int .i64 x] H = some (True, .tup [], putR H p (enterF r x)) :=
  anyG_at (γ := (⟨p, r, H, x⟩ : EX)) (fun γ γ' h1 h2 h3 h4 => by
    obtain ⟨p, r, H, x⟩ := γ
    obtain ⟨p', r', H', x'⟩ := γ'
    simp only [List.cons.injEq, AV.ptr.injEq, and_true, AV.int.injEq, true_and] at h1 h2 h3 h4
    obtain ⟨h3, h5⟩ := h3
    subst h3 h4 h5
    rw [h1.1.inj h2.1 h1.2.c h2.2.c]; exact ⟨rfl, rfl⟩) ⟨h, ho⟩
noncomputable def gLeave : List AV → List Blk → Option (Prop × AV × List Blk) := anyG (fun γ : RX => [.ptr γ.p 1 3 0 0]) (fun γ => γ.H) (fun γ => HasR γ.H γ.p γ.r ∧ γ.r.c ≤ γ.r.A.length ∧ 0 < γ.r.c ∧ γ.r.A.length ≤ 1000) (fun _ => .tup []) (fun γ => γ.H.set γ.p (relB (leaveF γ.r) (γ.p + 1)))
theorem leave_at {H : List Blk} {p : Nat} {r : RelS} (h : HasR H p r) (h1 : r.c ≤ r.A.length) (h2 : 0 < r.c) (h3 : r.A.length ≤ 1000) : gLeave [.ptr p 1 3 0 0] H = some (True, .tup [], H.set p (relB (leaveF r) (p + 1))) :=
  anyG_at (γ := (⟨p, r, H⟩ : RX)) (fun γ γ' h1 h2 h3 h4 => by
    obtain ⟨p, r, H⟩ := γ
    obtain ⟨p', r', H'⟩ := γ'
    simp only [List.cons.injEq, AV.ptr.injEq, and_true] at h1 h2 h3 h4
    subst h3 h4
    rw [h1.1.inj h2.1 h1.2.1 h2.2.1]; exact ⟨rfl, rfl⟩) ⟨h, h1, h2, h3⟩
set_option maxHeartbeats 8000000 in
theorem leaveP : GenOK Try.prog G0 52 gLeave := by
  refine gen_of_avc (C := CE) sigCE mixCE Try.func52 rfl (by kernel_rfl) (fun avs H ob r' H' h hob => ?_)
  obtain ⟨⟨p, r, H0⟩, ⟨⟨a0, a1⟩, h1, h2, h3⟩, rfl, hH, rfl, hH'⟩ := anyG_inv h
  simp only at hH hH' a0 a1 h1 h2 h3
  subst hH hH'
  refine ⟨(by show 1 ≤ _; decide), ?_⟩
  clear h hob
  obtain ⟨⟨lv⟩, vs, A, c⟩ := r
  simp only [leaveF] at h1 h2 h3 ⊢
  have hc1 : cntV (p + 1) A.length (c - 1) = .osl (p + 1) A.length 1 0 (c - 1) := cntV_part (by omega)
  have j1 : I64 ((c : Int) - 1) := by unfold I64; omega
  have j2 : ((c : Int) - 1).toNat = c - 1 := by omega
  have j3 : (0 : Int) ≤ (c : Int) - 1 := by omega
  have hp : p < H0.length := (List.getElem?_eq_some_iff.1 a0).1
  rcases em2 (c = A.length) with hn | hn
  · have hn' := of_eq_true hn
    have e : cntV (p + 1) A.length c = .own (p + 1) A.length := by rw [hn', cntV_full]
    simp only [relB, bI, e, hc1] at a0 a1 ⊢
    rw [← hn'] at a0
    simp [aev, cav, look, acallPure, abin, abinN, abinP, abinI, abinS, aun, aconv, afield, afieldAddr, aindexAddr, aindex, aslice, alow, ahigh, abuild, abuildGo, cellsOf, splice, fieldTy, alen, apick, amax, amin, aload, headV, aparts, abuildSlice, elParts, abytesStr, astore, amake, aappend, aclear, anew, arith, aresults, aresList, ares, spec0, spec1, spec2, spec3, spec4, eqCells, eqCell, argsρ, a0, a1, j1, j2, j3, ← hn']
    exact ⟨⟨by omega, by omega⟩, True, trivial⟩
  · have e : cntV (p + 1) A.length c = .osl (p + 1) A.length 1 0 c := cntV_part (of_eq_false hn)
    simp only [relB, bI, e, hc1] at a0 a1 ⊢
    simp [aev, cav, look, acallPure, abin, abinN, abinP, abinI, abinS, aun, aconv, afield, afieldAddr, aindexAddr, aindex, aslice, alow, ahigh, abuild, abuildGo, cellsOf, splice, fieldTy, alen, apick, amax, amin, aload, headV, aparts, abuildSlice, elParts, abytesStr, astore, amake, aappend, aclear, anew, arith, aresults, aresList, ares, spec0, spec1, spec2, spec3, spec4, eqCells, eqCell, argsρ, a0, a1, j1, j2, j3]
    exact ⟨⟨by omega, by omega⟩, True, trivial⟩

noncomputable def CEn : Ctx := mkC Try.prog G0 [(63, .gen gOpen), (50, .gen gCand), (46, .pure sBin)]
@[simp] theorem CEn_P : CEn.P = Try.prog := rfl
@[simp] theorem CEn_1 : CEn.S 63 = .gen gOpen := rfl
@[simp] theorem CEn_2 : CEn.S 50 = .gen gCand := rfl
@[simp] theorem CEn_3 : CEn.S 46 = .pure sBin := rfl
theorem mixCEn : CEn.P.follows .mixedOrders = true := mixed
theorem sigCEn : SigOK CEn := sigOK_cons (entryGen openP Try.func63 rfl (by decide)) (sigOK_cons (entryGen candP Try.func50 rfl (by decide)) (sigOK_cons (entryPure binP Try.func46 rfl (by decide)) (sigOK_nil _ _)))
set_option maxHeartbeats 8000000 in
theorem enterP : GenOK Try.prog G0 51 gEnter := by
  refine gen_of_avc (C := CEn) sigCEn mixCEn Try.func51 rfl (by kernel_rfl) (fun avs H ob r' H' h hob => ?_)
  obtain ⟨⟨p, r, H0, x⟩, ⟨hR, ho⟩, rfl, hH, rfl, hH'⟩ := anyG_inv h
  simp only at hH hH' hR ho
  subst hH hH'
  have hop := open_at hR ho.toOpenOK
  have hca := cand_at hR ho.toCandOK
  obtain ⟨a0, a1⟩ := hR
  refine ⟨(by show 2 ≤ _; decide), ?_⟩
  obtain ⟨⟨⟨h1, h2, h3, h4, h5, h6⟩, h7, h8, h9, h10⟩, h11, h12⟩ := ho
  clear h hob
  obtain ⟨f, hf⟩ : ∃ f : Nat, fromI r = (f : Int) := ⟨(fromI r).toNat, by omega⟩
  have hcl : (candL r).length ≤ 1000000 := by
    have : (candL r).length ≤ (keysL r).length := by unfold candL; rw [List.length_take, List.length_drop]; omega
    omega
  have hso := inc_sorted h11
  have hlb := lbd_le (candL r) x
  have e1 : (f : Int) + (lbd (candL r) x : Nat) = ((f + lbd (candL r) x : Nat) : Int) := by omega
  rw [hf] at hop
  unfold enterF
  rw [hf, e1]
  have hf2 : f ≤ 1000000 := by omega
  have j1 : I64 ((f + lbd (candL r) x : Nat) : Int) := by unfold I64; omega
  obtain ⟨v, hv⟩ : ∃ v, v = f + lbd (candL r) x := ⟨_, rfl⟩
  rw [← hv] at e1 j1 ⊢
  obtain ⟨cl, hce⟩ : ∃ cl, cl = candL r := ⟨_, rfl⟩
  rw [← hce] at hca hcl hso hlb e1
  clear hv hce h11
  obtain ⟨⟨lv⟩, vs, A, c⟩ := r
  simp only [keysL] at h1 h2 h3 h9 h10 h12 ⊢
  have hp : p < H0.length := (List.getElem?_eq_some_iff.1 a0).1
  have hp1 : p + 1 < H0.length := (List.getElem?_eq_some_iff.1 a1).1
  rcases em2 (c = A.length) with hn | hn
  · have hn' := of_eq_true hn
    have e : cntV (p + 1) A.length c = .own (p + 1) A.length := by rw [hn', cntV_full]
    have eA : pushA A c v = A ++ [(v : Int)] := by unfold pushA; rw [if_pos hn']
    have e2 : cntV (p + 1) (A ++ [(v : Int)]).length (c + 1) = .own (p + 1) (A.length + 1) := by rw [List.length_append, hn', List.length_singleton, cntV_full]
    simp only [relB, bI, e, putR, eA, e2] at a0 a1 ⊢
    simp [aev, cav, look, acallPure, abin, abinN, abinP, abinI, abinS, aun, aconv, afield, afieldAddr, aindexAddr, aindex, aslice, alow, ahigh, abuild, abuildGo, cellsOf, splice, fieldTy, alen, apick, amax, amin, aload, headV, aparts, abuildSlice, elParts, abytesStr, astore, amake, aappend, aclear, anew, arith, aresults, aresList, ares, spec0, spec1, spec2, spec3, spec4, eqCells, eqCell, argsρ, sBin, hop, hca, hcl, hso, a0, a1, e1, j1]
    exact ⟨by omega, True, trivial⟩
  · have hn' := of_eq_false hn
    have e : cntV (p + 1) A.length c = .osl (p + 1) A.length 1 0 c := cntV_part hn'
    have eA : pushA A c v = A.set c (v : Int) := by unfold pushA; rw [if_neg hn']
    simp only [relB, bI, e, putR, eA, List.length_set] at a0 a1 ⊢
    have hset : A.set c (v : Int) = A.take c ++ (v : Int) :: A.drop (c + 1) := by rw [List.set_eq_take_append_cons_drop, if_pos (by omega)]
    rcases em2 (c + 1 = A.length) with hm | hm
    · have e2 : cntV (p + 1) A.length (c + 1) = .own (p + 1) A.length := by rw [of_eq_true hm, cntV_full]
      simp [aev, cav, look, acallPure, abin, abinN, abinP, abinI, abinS, aun, aconv, afield, afieldAddr, aindexAddr, aindex, aslice, alow, ahigh, abuild, abuildGo, cellsOf, splice, fieldTy, alen, apick, amax, amin, aload, headV, aparts, abuildSlice, elParts, abytesStr, astore, amake, aappend, aclear, anew, arith, aresults, aresList, ares, spec0, spec1, spec2, spec3, spec4, eqCells, eqCell, argsρ, sBin, hop, hca, hcl, hso, a0, a1, e1, j1, aappO, hn, hm, e2]
      refine ⟨by omega, ⟨True, trivial⟩, ?_⟩
      rw [hset]
      try simp
    · have e2 : cntV (p + 1) A.length (c + 1) = .osl (p + 1) A.length 1 0 (c + 1) := cntV_part (of_eq_false hm)
      simp [aev, cav, look, acallPure, abin, abinN, abinP, abinI, abinS, aun, aconv, afield, afieldAddr, aindexAddr, aindex, aslice, alow, ahigh, abuild, abuildGo, cellsOf, splice, fieldTy, alen, apick, amax, amin, aload, headV, aparts, abuildSlice, elParts, abytesStr, astore, amake, aappend, aclear, anew, arith, aresults, aresList, ares, spec0, spec1, spec2, spec3, spec4, eqCells, eqCell, argsρ, sBin, hop, hca, hcl, hso, a0, a1, e1, j1, aappO, hn, hm, e2]
      refine ⟨by omega, ⟨True, trivial⟩, ?_⟩
      rw [hset]
      try simp
end Go.Proofs.Ytpbgnnaaobamfaa

/-
  layer 33: Clone of the tuple; a join in memory, read and written.
-/
namespace Go.Proofs.Ytpbgnnaaobamfaa
open Go.RowKit
set_option linter.unusedSimpArgs false
set_option linter.unusedVariables false
set_option maxRecDepth 100000

structure CX where
  l : Nat
  A : List Int
  c : Nat
  H : List Blk
theorem cntV_inj3 {l l' n n' c c' : Nat} (h : c ≤ n) (h' : c' ≤ n') (e : cntV l n c = cntV l' n' c') : l = l' ∧ n = n' ∧ c = c' := by
  unfold cntV at e
  split at e
  · split at e
    · injection e with e1 e2; omega
    · cases e
  · split at e
    · cases e
    · injection e with e1 e2 e3 e4 e5; omega
noncomputable def gClone : List AV → List Blk → Option (Prop × AV × List Blk) := anyG (fun γ : CX => [cntV γ.l γ.A.length γ.c]) (fun γ => γ.H) (fun γ => γ.H[γ.l]? = some (bI γ.A) ∧ γ.c ≤ γ.A.length ∧ γ.A.length ≤ 1000000) (fun γ => .own γ.H.length γ.c) (fun γ => γ.H ++ [bI (γ.A.take γ.c)])
theorem clone_at {H : List Blk} {l c : Nat} {A : List Int} (h : H[l]? = some (bI A)) (h1 : c ≤ A.length) (h2 : A.length ≤ 1000000) : gClone [cntV l A.length c] H = some (True, .own H.length c, H ++ [bI (A.take c)]) :=
  anyG_at (γ := (⟨l, A, c, H⟩ : CX)) (fun γ γ' h1 h2 h3 h4 => by
    obtain ⟨l, A, c, H⟩ := γ
    obtain ⟨l', A', c', H'⟩ := γ'
    simp only [List.cons.injEq, and_true] at h1 h2 h3 h4
    subst h4
    obtain ⟨rfl, e2, rfl⟩ := cntV_inj3 h1.2.1 h2.2.1 h3
    have := bI_inj (Option.some.inj (h1.1.symm.trans h2.1))
    subst this
    exact ⟨rfl, rfl⟩) ⟨h, h1, h2⟩
set_option maxHeartbeats 8000000 in
theorem cloneG : GenOK Try.prog G0 43 gClone := by
  refine gen_of_avcH (C := CE) sigCE mixCE [] Try.func43 rfl rfl rfl (by kernel_rfl) (fun avs H ob r' H' h hob => ?_)
  obtain ⟨⟨l, A, c, H0⟩, ⟨a0, h1, h2⟩, rfl, hH, rfl, hH'⟩ := anyG_inv h
  simp only at hH hH' a0 h1 h2
  subst hH hH'
  refine ⟨(by show 1 ≤ _; decide), ?_⟩
  clear h hob
  simp only [bI] at a0 ⊢
  rcases em2 (c = A.length) with hn | hn
  · have hn' := of_eq_true hn
    have e : cntV l A.length c = .own l A.length := by rw [hn', cntV_full]
    rw [e]
    by_cases hz : A.length = 0
    · have hA : A = [] := List.length_eq_zero_iff.1 hz
      subst hA
      simp [aev, cav, look, acallPure, abin, abinN, abinP, abinI, abinS, aun, aconv, afield, afieldAddr, aindexAddr, aindex, aslice, alow, ahigh, abuild, abuildGo, cellsOf, splice, fieldTy, alen, apick, amax, amin, aload, headV, aparts, abuildSlice, elParts, abytesStr, astore, amake, aappend, aclear, anew, arith, aresults, aresList, ares, spec0, spec1, spec2, spec3, spec4, eqCells, eqCell, argsρ, a0, hn']
      refine ⟨wEnd_nil 2 1 3 rfl (by decide) ?_, wEnd_here ?_⟩ <;> simp [aev, cav, look, acallPure, abin, abinN, abinP, abinI, abinS, aun, aconv, afield, afieldAddr, aindexAddr, aindex, aslice, alow, ahigh, abuild, abuildGo, cellsOf, splice, fieldTy, alen, apick, amax, amin, aload, headV, aparts, abuildSlice, elParts, abytesStr, astore, amake, aappend, aclear, anew, arith, aresults, aresList, ares, spec0, spec1, spec2, spec3, spec4, eqCells, eqCell] <;> exact ⟨True, trivial⟩
    · have hz' : 0 < A.length := by omega
      simp [aev, cav, look, acallPure, abin, abinN, abinP, abinI, abinS, aun, aconv, afield, afieldAddr, aindexAddr, aindex, aslice, alow, ahigh, abuild, abuildGo, cellsOf, splice, fieldTy, alen, apick, amax, amin, aload, headV, aparts, abuildSlice, elParts, abytesStr, astore, amake, aappend, aclear, anew, arith, aresults, aresList, ares, spec0, spec1, spec2, spec3, spec4, eqCells, eqCell, argsρ, a0, hn', hz, hz']
      refine ⟨by omega, wEnd_here ?_⟩
      simp [aev, cav, look, acallPure, abin, abinN, abinP, abinI, abinS, aun, aconv, afield, afieldAddr, aindexAddr, aindex, aslice, alow, ahigh, abuild, abuildGo, cellsOf, splice, fieldTy, alen, apick, amax, amin, aload, headV, aparts, abuildSlice, elParts, abytesStr, astore, amake, aappend, aclear, anew, arith, aresults, aresList, ares, spec0, spec1, spec2, spec3, spec4, eqCells, eqCell]
      exact ⟨True, trivial⟩
  · have hn' := of_eq_false hn
    have e : cntV l A.length c = .osl l A.length 1 0 c := cntV_part hn'
    rw [e]
    by_cases hz : c = 0
    · subst hz
      simp [aev, cav, look, acallPure, abin, abinN, abinP, abinI, abinS, aun, aconv, afield, afieldAddr, aindexAddr, aindex, aslice, alow, ahigh, abuild, abuildGo, cellsOf, splice, fieldTy, alen, apick, amax, amin, aload, headV, aparts, abuildSlice, elParts, abytesStr, astore, amake, aappend, aclear, anew, arith, aresults, aresList, ares, spec0, spec1, spec2, spec3, spec4, eqCells, eqCell, argsρ, a0]
      refine ⟨wEnd_nil 2 1 3 rfl (by decide) ?_, wEnd_here ?_⟩ <;> simp [aev, cav, look, acallPure, abin, abinN, abinP, abinI, abinS, aun, aconv, afield, afieldAddr, aindexAddr, aindex, aslice, alow, ahigh, abuild, abuildGo, cellsOf, splice, fieldTy, alen, apick, amax, amin, aload, headV, aparts, abuildSlice, elParts, abytesStr, astore, amake, aappend, aclear, anew, arith, aresults, aresList, ares, spec0, spec1, spec2, spec3, spec4, eqCells, eqCell] <;> exact ⟨True, trivial⟩
    · have hz' : 0 < c := by omega
      have hmin : min c A.length = c := Nat.min_eq_left h1
      simp [aev, cav, look, acallPure, abin, abinN, abinP, abinI, abinS, aun, aconv, afield, afieldAddr, aindexAddr, aindex, aslice, alow, ahigh, abuild, abuildGo, cellsOf, splice, fieldTy, alen, apick, amax, amin, aload, headV, aparts, abuildSlice, elParts, abytesStr, astore, amake, aappend, aclear, anew, arith, aresults, aresList, ares, spec0, spec1, spec2, spec3, spec4, eqCells, eqCell, argsρ, a0, hz, hz', hmin]
      refine ⟨by omega, wEnd_here ?_⟩
      simp [aev, cav, look, acallPure, abin, abinN, abinP, abinI, abinS, aun, aconv, afield, afieldAddr, aindexAddr, aindex, aslice, alow, ahigh, abuild, abuildGo, cellsOf, splice, fieldTy, alen, apick, amax, amin, aload, headV, aparts, abuildSlice, elParts, abytesStr, astore, amake, aappend, aclear, anew, arith, aresults, aresList, ares, spec0, spec1, spec2, spec3, spec4, eqCells, eqCell]
      exact ⟨True, trivial⟩

/-! ### A join in memory, read and written -/
/-- What lies from block P.length on: the counts, the join (its cells apart), the pointers, tuple, out, relations. -/
def baseX (P : List Blk) (jc : List AV) (B M K T : List Int) (O : List (List Int)) (m : Nat) (rs : List RelS) : List Blk :=
  P ++ (⟨3, 1, encRows B, true, true⟩ :: ⟨3, 1, encRows M, true, true⟩ :: ⟨3, 1, encRows K, true, true⟩ :: ⟨59, 7, [jc], true, false⟩ :: ⟨75, 1, ptrsF (P.length + 7) m, true, decide (m = 0)⟩ :: ⟨3, 1, encRows T, true, true⟩ :: ⟨25, 1, encRows O, true, true⟩ :: relsX (P.length + 7) rs)
section
variable {P : List Blk} {jc jc' : List AV} {B M K T x : List Int} {O y : List (List Int)} {m : Nat} {rs : List RelS} {Y : List Blk}
theorem baseX_len : (baseX P jc B M K T O m rs).length = P.length + 7 + 2 * rs.length := by
  unfold baseX
  rw [List.length_append]
  simp only [List.length_cons, relsX_len]
  omega
theorem base_at (k : Nat) : (baseX P jc B M K T O m rs ++ Y)[P.length + k]? = ((⟨3, 1, encRows B, true, true⟩ :: ⟨3, 1, encRows M, true, true⟩ :: ⟨3, 1, encRows K, true, true⟩ :: ⟨59, 7, [jc], true, false⟩ :: ⟨75, 1, ptrsF (P.length + 7) m, true, decide (m = 0)⟩ :: ⟨3, 1, encRows T, true, true⟩ :: ⟨25, 1, encRows O, true, true⟩ :: (relsX (P.length + 7) rs ++ Y)) : List Blk)[k]? := by
  unfold baseX
  rw [List.append_assoc, at_app]
  rfl
theorem base_g0 : (baseX P jc B M K T O m rs ++ Y)[P.length]? = some ⟨3, 1, encRows B, true, true⟩ := base_at 0
theorem base_g1 : (baseX P jc B M K T O m rs ++ Y)[P.length + 1]? = some ⟨3, 1, encRows M, true, true⟩ := base_at 1
theorem base_g2 : (baseX P jc B M K T O m rs ++ Y)[P.length + 2]? = some ⟨3, 1, encRows K, true, true⟩ := base_at 2
theorem base_g3 : (baseX P jc B M K T O m rs ++ Y)[P.length + 3]? = some ⟨59, 7, [jc], true, false⟩ := base_at 3
theorem base_g4 : (baseX P jc B M K T O m rs ++ Y)[P.length + 4]? = some ⟨75, 1, ptrsF (P.length + 7) m, true, decide (m = 0)⟩ := base_at 4
theorem base_g5 : (baseX P jc B M K T O m rs ++ Y)[P.length + 5]? = some ⟨3, 1, encRows T, true, true⟩ := base_at 5
theorem base_g6 : (baseX P jc B M K T O m rs ++ Y)[P.length + 6]? = some ⟨25, 1, encRows O, true, true⟩ := base_at 6
theorem base_st (k : Nat) (b : Blk) : (baseX P jc B M K T O m rs ++ Y).set (P.length + k) b = P ++ ((⟨3, 1, encRows B, true, true⟩ :: ⟨3, 1, encRows M, true, true⟩ :: ⟨3, 1, encRows K, true, true⟩ :: ⟨59, 7, [jc], true, false⟩ :: ⟨75, 1, ptrsF (P.length + 7) m, true, decide (m = 0)⟩ :: ⟨3, 1, encRows T, true, true⟩ :: ⟨25, 1, encRows O, true, true⟩ :: (relsX (P.length + 7) rs ++ Y)).set k b : List Blk) := by
  unfold baseX
  rw [List.append_assoc, st_app]
  rfl
theorem base_s0 : (baseX P jc B M K T O m rs ++ Y).set P.length ⟨3, 1, encRows x, true, true⟩ = baseX P jc x M K T O m rs ++ Y := (base_st 0 _).trans (by unfold baseX; rw [List.append_assoc]; rfl)
theorem base_s1 : (baseX P jc B M K T O m rs ++ Y).set (P.length + 1) ⟨3, 1, encRows x, true, true⟩ = baseX P jc B x K T O m rs ++ Y := (base_st 1 _).trans (by unfold baseX; rw [List.append_assoc]; rfl)
theorem base_s2 : (baseX P jc B M K T O m rs ++ Y).set (P.length + 2) ⟨3, 1, encRows x, true, true⟩ = baseX P jc B M x T O m rs ++ Y := (base_st 2 _).trans (by unfold baseX; rw [List.append_assoc]; rfl)
theorem base_s3 : (baseX P jc B M K T O m rs ++ Y).set (P.length + 3) ⟨59, 7, [jc'], true, false⟩ = baseX P jc' B M K T O m rs ++ Y := (base_st 3 _).trans (by unfold baseX; rw [List.append_assoc]; rfl)
theorem base_s5 : (baseX P jc B M K T O m rs ++ Y).set (P.length + 5) ⟨3, 1, encRows x, true, true⟩ = baseX P jc B M K x O m rs ++ Y := (base_st 5 _).trans (by unfold baseX; rw [List.append_assoc]; rfl)
theorem base_s6 : (baseX P jc B M K T O m rs ++ Y).set (P.length + 6) ⟨25, 1, encRows y, true, true⟩ = baseX P jc B M K T y m rs ++ Y := (base_st 6 _).trans (by unfold baseX; rw [List.append_assoc]; rfl)
theorem relsX_at : ∀ (p : Nat) (l : List RelS) (Y : List Blk) (i : Nat), i < l.length → (relsX p l ++ Y)[2 * i]? = some (relB (ix l i) (p + 2 * i + 1)) ∧ (relsX p l ++ Y)[2 * i + 1]? = some (bI (ix l i).A)
  | p, r :: q, Y, 0, _ => ⟨rfl, rfl⟩
  | p, r :: q, Y, i + 1, h => by
    have ih := relsX_at (p + 2) q Y i (by simpa using h)
    rw [show p + 2 + 2 * i + 1 = p + 2 * (i + 1) + 1 by omega] at ih
    exact ih
theorem relsX_set : ∀ (p : Nat) (l : List RelS) (Y : List Blk) (i : Nat) (r : RelS), i < l.length → ((relsX p l ++ Y).set (2 * i + 1) (bI r.A)).set (2 * i) (relB r (p + 2 * i + 1)) = relsX p (l.set i r) ++ Y
  | p, r :: q, Y, 0, _, _ => rfl
  | p, r :: q, Y, i + 1, s, h => by
    have ih := relsX_set (p + 2) q Y i s (by simpa using h)
    rw [show p + 2 + 2 * i + 1 = p + 2 * (i + 1) + 1 by omega] at ih
    show relB r (p + 1) :: bI r.A :: (((relsX (p + 2) q ++ Y).set (2 * i + 1) (bI s.A)).set (2 * i) (relB s (p + 2 * (i + 1) + 1))) = relB r (p + 1) :: bI r.A :: (relsX (p + 2) (q.set i s) ++ Y)
    rw [ih]
theorem base_hasR {i : Nat} (h : i < rs.length) : HasR (baseX P jc B M K T O m rs ++ Y) (P.length + 7 + 2 * i) (ix rs i) := by
  obtain ⟨h1, h2⟩ := relsX_at (P.length + 7) rs Y i h
  refine ⟨?_, ?_⟩
  · rw [show P.length + 7 + 2 * i = P.length + (2 * i + 7) by omega, base_at, show P.length + (2 * i + 7) + 1 = P.length + 7 + 2 * i + 1 by omega]
    exact h1
  · rw [show P.length + 7 + 2 * i + 1 = P.length + (2 * i + 1 + 7) by omega, base_at]
    exact h2
theorem base_putR {i : Nat} (h : i < rs.length) (r : RelS) : putR (baseX P jc B M K T O m rs ++ Y) (P.length + 7 + 2 * i) r = baseX P jc B M K T O m (rs.set i r) ++ Y := by
  unfold putR
  rw [show P.length + 7 + 2 * i + 1 = P.length + (2 * i + 1 + 7) by omega, base_st, show P.length + 7 + 2 * i = P.length + (2 * i + 7) by omega, st_app, show P.length + (2 * i + 1 + 7) = P.length + 7 + 2 * i + 1 by omega]
  have := relsX_set (P.length + 7) rs Y i r h
  unfold baseX
  rw [List.append_assoc]
  simp only [List.cons_append, ← this]
  rfl
theorem base_putC {i : Nat} (h : i < rs.length) {r : RelS} (hA : r.A = (ix rs i).A) : (baseX P jc B M K T O m rs ++ Y).set (P.length + 7 + 2 * i) (relB r (P.length + 7 + 2 * i + 1)) = baseX P jc B M K T O m (rs.set i r) ++ Y := by
  rw [← base_putR h r]
  unfold putR
  have h1 := (base_hasR (P := P) (jc := jc) (B := B) (M := M) (K := K) (T := T) (O := O) (m := m) (Y := Y) h).at1
  rw [hA, set_same h1]
theorem ptrs_at {p k i : Nat} (h : i < k) : rowAt (ptrsF p k) i = [.ptr (p + 2 * i) 1 3 0 0] := by
  unfold rowAt ptrsF
  rw [List.getD_eq_getElem?_getD, List.getElem?_map, List.getElem?_range h]
  rfl
theorem ptrs_len (p k : Nat) : (ptrsF p k).length = k := by simp [ptrsF]
end
/-- The cells of a join. -/
def jCells (o : Nat) (j : JSt) : List AV := [.int .i64 j.n, .own (o + 4) j.rels.length, cntV (o + 5) j.T.length j.tc, .own (o + 6) j.O.length, .own o j.B.length, .own (o + 1) j.M.length, .own (o + 2) j.K.length]
def baseJ (P : List Blk) (j : JSt) : List Blk := baseX P (jCells P.length j) j.B j.M j.K j.T j.O j.rels.length j.rels
theorem baseJ_eq (P : List Blk) (j : JSt) : baseJ P j = P ++ joinX P.length j := by
  unfold baseJ baseX joinX coreX joinB relsB bI bR jCells
  rfl
end Go.Proofs.Ytpbgnnaaobamfaa

/-
  layer 33: extend, in words; its contract.
-/
namespace Go.Proofs.Ytpbgnnaaobamfaa
open Go.RowKit
set_option linter.unusedSimpArgs false
set_option linter.unusedVariables false
set_option maxRecDepth 100000

def hvL (k : Nat) (rs : List RelS) : List Nat := (List.range rs.length).filter fun i => decide ((k : Int) ∈ (ix rs i).vs)
def lsL (rs : List RelS) (h : List Nat) : List (List Int) := h.map fun i => candL (ix rs i)
def leastF (ls : List (List Int)) : Nat := ls.foldl (fun a l => min a l.length) (ix ls 0).length
def addAt (l : List Int) (k : Nat) (v : Int) : List Int := l.set k (ix l k + v)
def enterAll (x : Int) (h : List Nat) (rs : List RelS) : List RelS := h.foldl (fun rs i => rs.set i (enterF (ix rs i) x)) rs
def leaveAll (h : List Nat) (rs : List RelS) : List RelS := h.foldl (fun rs i => rs.set i (leaveF (ix rs i))) rs
/-- The join with x entered. -/
def inX (h : List Nat) (j : JSt) (x : Int) : JSt := ⟨j.n, j.B, j.M, j.K, pushA j.T j.tc x, j.tc + 1, j.O, enterAll x h j.rels⟩
def outX (h : List Nat) (k : Nat) (j : JSt) : JSt := ⟨j.n, j.B, j.M, j.K, j.T, k, j.O, leaveAll h j.rels⟩
def stepX (ext : JSt → JSt) (k : Nat) (h : List Nat) (j : JSt) (x : Int) : JSt := outX h k (ext (inX h j x))
def valsX (k : Nat) (j : JSt) : List Int × Nat := meetF (lsL j.rels (hvL k j.rels))
def begX (k : Nat) (j : JSt) : JSt := ⟨j.n, addAt j.B k ((valsX k j).1.length : Int), addAt j.M k (leastF (lsL j.rels (hvL k j.rels)) : Int), addAt j.K k ((valsX k j).2 : Int), j.T, j.tc, j.O, j.rels⟩
def extF : Nat → Nat → JSt → JSt
  | 0, _, j => ⟨j.n, j.B, j.M, j.K, j.T, j.tc, j.O ++ [j.T.take j.tc], j.rels⟩
  | d + 1, k, j => (valsX k j).1.foldl (stepX (extF d (k + 1)) k (hvL k j.rels)) (begX k j)
structure JOK (k : Nat) (j : JSt) : Prop where
  tc : j.tc = k
  tl : k ≤ j.T.length
  t1 : j.T.length ≤ 1000
  o : j.O.length ≤ 1000000000
  m : j.rels.length ≤ 1000
  r : ∀ r ∈ j.rels, r.c ≤ r.A.length ∧ r.A.length ≤ 1000 ∧ r.vs.length ≤ 1000
/-- What holds when the values before the q-th are done. -/
structure MidOK (k : Nat) (h : List Nat) (m0 : Nat) (n0 : Int) (j : JSt) (x : Int) (pre : JSt → Prop) (ext : JSt → JSt) : Prop where
  ok : JOK k j
  n : j.n = n0
  m : j.rels.length = m0
  e : ∀ i ∈ h, EntOK (ix j.rels i)
  pre : pre (inX h j x)
  ok2 : JOK (k + 1) (ext (inX h j x))
  n2 : (ext (inX h j x)).n = n0
  m2 : (ext (inX h j x)).rels.length = m0
  c2 : ∀ i ∈ h, 0 < (ix (ext (inX h j x)).rels i).c
def jAt (d k : Nat) (j : JSt) (q : Nat) : JSt := ((valsX k j).1.take q).foldl (stepX (extF d (k + 1)) k (hvL k j.rels)) (begX k j)
structure NowOK (d k : Nat) (j : JSt) : Prop where
  ok : JOK k j
  n : j.n = ((k + (d + 1) : Nat) : Int)
  kB : k < j.B.length
  kM : k < j.M.length
  kK : k < j.K.length
  ne : hvL k j.rels ≠ []
  e : ∀ i ∈ hvL k j.rels, EntOK (ix j.rels i)
  mp : MeetPre (lsL j.rels (hvL k j.rels))
  iB : I64 (ix j.B k + ((valsX k j).1.length : Int))
  iM : I64 (ix j.M k + (leastF (lsL j.rels (hvL k j.rels)) : Int))
  iK : I64 (ix j.K k + ((valsX k j).2 : Int))
def ExtPre : Nat → Nat → JSt → Prop
  | 0, k, j => JOK k j ∧ j.n = (k : Int)
  | d + 1, k, j => NowOK d k j ∧ (∀ q, q < (valsX k j).1.length → MidOK k (hvL k j.rels) j.rels.length j.n (jAt d k j q) (ix (valsX k j).1 q) (ExtPre d (k + 1)) (extF d (k + 1))) ∧ JOK k (jAt d k j (valsX k j).1.length)
theorem ExtPre.ok {d k : Nat} {j : JSt} (h : ExtPre d k j) : JOK k j := by
  cases d with
  | zero => exact h.1
  | succ d => exact h.1.ok
theorem ExtPre.n {d k : Nat} {j : JSt} (h : ExtPre d k j) : j.n = ((k + d : Nat) : Int) := by
  cases d with
  | zero => exact h.2
  | succ d => exact h.1.n
/-- The other blocks speak of nothing behind them all. -/
def CleanX (P Y : List Blk) (m : Nat) : Prop := ∀ b ∈ P ++ Y, b.deep = true ∨ ClB (P.length + 7 + 2 * m + Y.length) b
structure XX where
  P : List Blk
  j : JSt
  Y : List Blk
  k : Nat
  d : Nat
theorem baseJ_inj {P P' : List Blk} {j j' : JSt} {Y Y' : List Blk} {k : Nat} (h : JOK k j) (h' : JOK k j') (hP : P.length = P'.length) (e : baseJ P j ++ Y = baseJ P' j' ++ Y') : P = P' ∧ j = j' ∧ Y = Y' := by
  have eP : P = P' := by
    have h1 := congrArg (List.take P.length) e
    have t : ∀ (P : List Blk) (j : JSt) (Y : List Blk), (baseJ P j ++ Y).take P.length = P := fun P j Y => by
      rw [baseJ_eq, List.append_assoc, List.take_append_of_le_length (Nat.le_refl _), List.take_of_length_le (Nat.le_refl _)]
    rw [t, hP, t] at h1
    exact h1
  subst eP
  have g (i : Nat) : (baseJ P j ++ Y)[P.length + i]? = (baseJ P j' ++ Y')[P.length + i]? := by rw [e]
  have g0 := g 0
  have g1 := g 1
  have g2 := g 2
  have g3 := g 3
  have g5 := g 5
  have g6 := g 6
  unfold baseJ at g0 g1 g2 g3 g5 g6
  rw [Nat.add_zero, base_g0, base_g0] at g0
  rw [base_g1, base_g1] at g1
  rw [base_g2, base_g2] at g2
  rw [base_g3, base_g3] at g3
  rw [base_g5, base_g5] at g5
  rw [base_g6, base_g6] at g6
  have eB := bI_inj (Option.some.inj g0)
  have eM := bI_inj (Option.some.inj g1)
  have eK := bI_inj (Option.some.inj g2)
  have eT := bI_inj (Option.some.inj g5)
  have eO := bR_inj (Option.some.inj g6)
  have eJ := Option.some.inj g3
  injection eJ with _ _ eJ
  simp only [jCells, List.cons.injEq, and_true, AV.int.injEq, true_and, AV.own.injEq] at eJ
  obtain ⟨en, em, _⟩ := eJ
  have eR : j.rels = j'.rels := by
    refine List.ext_getElem em fun i h1 h2 => ?_
    have a1 := base_hasR (P := P) (jc := jCells P.length j) (B := j.B) (M := j.M) (K := j.K) (T := j.T) (O := j.O) (m := j.rels.length) (Y := Y) h1
    have a2 := base_hasR (P := P) (jc := jCells P.length j') (B := j'.B) (M := j'.M) (K := j'.K) (T := j'.T) (O := j'.O) (m := j'.rels.length) (Y := Y') h2
    have e2 : baseX P (jCells P.length j) j.B j.M j.K j.T j.O j.rels.length j.rels ++ Y = baseX P (jCells P.length j') j'.B j'.M j'.K j'.T j'.O j'.rels.length j'.rels ++ Y' := e
    rw [e2] at a1
    have := a1.inj a2 (h.r _ (ix_mem h1)).1 (h'.r _ (ix_mem h2)).1
    rwa [ix_lt h1, ix_lt h2] at this
  have ej : j = j' := by
    have := h.tc
    have := h'.tc
    obtain ⟨n, B, M, K, T, tc, O, rs⟩ := j
    obtain ⟨n', B', M', K', T', tc', O', rs'⟩ := j'
    simp only at eB eM eK eT eO en eR
    simp only [JSt.mk.injEq]
    refine ⟨en, eB, eM, eK, eT, by simp only at *; omega, eO, eR⟩
  subst ej
  exact ⟨rfl, rfl, List.append_cancel_left e⟩
noncomputable def gExt (D : Nat) : List AV → List Blk → Option (Prop × AV × List Blk) := anyG (fun γ : XX => [.ptr (γ.P.length + 3) 1 7 0 0, .int .i64 γ.k]) (fun γ => baseJ γ.P γ.j ++ γ.Y) (fun γ => γ.d < D ∧ ExtPre γ.d γ.k γ.j ∧ CleanX γ.P γ.Y γ.j.rels.length) (fun _ => .tup []) (fun γ => baseJ γ.P (extF γ.d γ.k γ.j) ++ γ.Y)
theorem ext_at {D d k : Nat} {P Y : List Blk} {j : JSt} (hd : d < D) (h : ExtPre d k j) (hc : CleanX P Y j.rels.length) : gExt D [.ptr (P.length + 3) 1 7 0 0, .int .i64 k] (baseJ P j ++ Y) = some (True, .tup [], baseJ P (extF d k j) ++ Y) :=
  anyG_at (γ := (⟨P, j, Y, k, d⟩ : XX)) (fun γ γ' h1 h2 h3 h4 => by
    obtain ⟨P, j, Y, k, d⟩ := γ
    obtain ⟨P', j', Y', k', d'⟩ := γ'
    simp only [List.cons.injEq, and_true, AV.ptr.injEq, AV.int.injEq, true_and] at h1 h2 h3 h4
    obtain ⟨h5, h6⟩ := h3
    have hk : k = k' := by omega
    subst hk
    obtain ⟨rfl, rfl, rfl⟩ := baseJ_inj h1.2.1.ok h2.2.1.ok (by omega) h4
    have n1 := h1.2.1.n
    have n2 := h2.2.1.n
    have : d = d' := by omega
    subst this
    exact ⟨rfl, rfl⟩) ⟨hd, h, hc⟩
end Go.Proofs.Ytpbgnnaaobamfaa

/-
  layer 33: extend.
-/
namespace Go.Proofs.Ytpbgnnaaobamfaa
open Go.RowKit
set_option linter.unusedSimpArgs false
set_option linter.unusedVariables false
set_option maxRecDepth 100000

/-- The first place of x, or -1. -/
def idxF (l : List Int) (x : Int) : Int := if x ∈ l then (l.idxOf x : Int) else -1
def sIndex : List AV → Option (Prop × AV) := spec2 (fun (l : List Int) (_ : Int) => SmallR l) (fun l x => .int .i64 (idxF l x))
set_option maxHeartbeats 8000000 in
theorem indexP : PureOK Try.prog G0 57 sIndex := by
  refine pure2 (C := CE) sigCE mixCE Try.func57 rfl rfl rfl (by kernel_rfl) (by decide) (fun l x hl => ?_)
  unfold SmallR at hl
  simp [aev, cav, look, acallPure, abin, abinN, abinP, abinI, abinS, aun, aconv, afield, afieldAddr, aindexAddr, aindex, aslice, alow, ahigh, abuild, abuildGo, cellsOf, splice, fieldTy, alen, apick, amax, amin, aload, headV, aparts, abuildSlice, elParts, abytesStr, astore, amake, aappend, aclear, anew, arith, aresults, aresList, ares, spec0, spec1, spec2, spec3, spec4, eqCells, eqCell]
  refine loop_rule (C := CE) sigCE mixCE (fun i : Nat => ⟨[(0, Enc.enc l), (1, .int .i64 x), (7, .int .i64 l.length), (8, .int .i64 i)], []⟩) (fun i => i ≤ l.length ∧ ∀ j, j < i → ix l j ≠ x) (fun i => l.length - i) (by kernel_rfl) ⟨0, ⟨Nat.zero_le _, fun j hj => by omega⟩, weak_slots (by simp)⟩ (fun i ⟨h0, h1⟩ => ?_)
  by_cases hi : i < l.length
  · have i1 : I64 ((i : Int) + 1) := by unfold I64; omega
    rcases em2 (x = ix l i) with e | e
    · have hm : x ∈ l := of_eq_true e ▸ ix_mem hi
      have he : l.idxOf x = i := by
        have a := List.idxOf_lt_length_of_mem hm
        have b : ix l (l.idxOf x) = x := by rw [ix_lt a]; exact List.getElem_idxOf a
        have c : ¬ l.idxOf x < i := fun h => h1 _ h b
        have d : ¬ i < l.idxOf x := fun h => by
          have := List.not_of_lt_findIdx (p := (· == x)) (xs := l) (i := i) h
          rw [← ix_lt hi, ← of_eq_true e] at this
          simp at this
        omega
      have hF : idxF l x = i := by unfold idxF; rw [if_pos hm, he]
      simp [aev, cav, look, acallPure, abin, abinN, abinP, abinI, abinS, aun, aconv, afield, afieldAddr, aindexAddr, aindex, aslice, alow, ahigh, abuild, abuildGo, cellsOf, splice, fieldTy, alen, apick, amax, amin, aload, headV, aparts, abuildSlice, elParts, abytesStr, astore, amake, aappend, aclear, anew, arith, aresults, aresList, ares, spec0, spec1, spec2, spec3, spec4, eqCells, eqCell, hi, rowAt_enc hi, e, hF]
    · simp [aev, cav, look, acallPure, abin, abinN, abinP, abinI, abinS, aun, aconv, afield, afieldAddr, aindexAddr, aindex, aslice, alow, ahigh, abuild, abuildGo, cellsOf, splice, fieldTy, alen, apick, amax, amin, aload, headV, aparts, abuildSlice, elParts, abytesStr, astore, amake, aappend, aclear, anew, arith, aresults, aresList, ares, spec0, spec1, spec2, spec3, spec4, eqCells, eqCell, hi, rowAt_enc hi, e, i1]
      exact ⟨i + 1, ⟨by omega, fun j hj => by
        rcases Nat.lt_or_eq_of_le (Nat.le_of_lt_succ hj) with h | rfl
        · exact h1 j h
        · exact fun h => of_eq_false e h.symm⟩, by omega, weak_slots (by simp)⟩
  · have hm : x ∉ l := fun hx => by
      obtain ⟨j, hj, e⟩ := List.mem_iff_getElem.1 hx
      exact h1 j (by omega) (by rw [ix_lt hj]; exact e)
    have hF : idxF l x = -1 := by unfold idxF; rw [if_neg hm]
    simp [aev, cav, look, acallPure, abin, abinN, abinP, abinI, abinS, aun, aconv, afield, afieldAddr, aindexAddr, aindex, aslice, alow, ahigh, abuild, abuildGo, cellsOf, splice, fieldTy, alen, apick, amax, amin, aload, headV, aparts, abuildSlice, elParts, abytesStr, astore, amake, aappend, aclear, anew, arith, aresults, aresList, ares, spec0, spec1, spec2, spec3, spec4, eqCells, eqCell, hi, hF]
noncomputable def CCo : Ctx := mkC Try.prog G0 [(57, .pure sIndex)]
@[simp] theorem CCo_P : CCo.P = Try.prog := rfl
@[simp] theorem CCo_1 : CCo.S 57 = .pure sIndex := rfl
theorem mixCCo : CCo.P.follows .mixedOrders = true := mixed
theorem sigCCo : SigOK CCo := sigOK_cons (entryPure indexP Try.func57 rfl (by decide)) (sigOK_nil _ _)
theorem containsP : PureOK Try.prog G0 42 sHas := by
  refine pure2 (C := CCo) sigCCo mixCCo Try.func42 rfl rfl rfl (by kernel_rfl) (by decide) (fun l x hl => ?_)
  rcases em2 (x ∈ l) with h | h
  · have hF : idxF l x = (l.idxOf x : Int) := by unfold idxF; rw [if_pos (of_eq_true h)]
    have h0 : (0 : Int) ≤ (l.idxOf x : Int) := by omega
    simp [aev, cav, look, acallPure, abin, abinN, abinP, abinI, abinS, aun, aconv, afield, afieldAddr, aindexAddr, aindex, aslice, alow, ahigh, abuild, abuildGo, cellsOf, splice, fieldTy, alen, apick, amax, amin, aload, headV, aparts, abuildSlice, elParts, abytesStr, astore, amake, aappend, aclear, anew, arith, aresults, aresList, ares, spec0, spec1, spec2, spec3, spec4, eqCells, eqCell, sIndex, hl, hF, h]
  · have hF : idxF l x = -1 := by unfold idxF; rw [if_neg (of_eq_false h)]
    simp [aev, cav, look, acallPure, abin, abinN, abinP, abinI, abinS, aun, aconv, afield, afieldAddr, aindexAddr, aindex, aslice, alow, ahigh, abuild, abuildGo, cellsOf, splice, fieldTy, alen, apick, amax, amin, aload, headV, aparts, abuildSlice, elParts, abytesStr, astore, amake, aappend, aclear, anew, arith, aresults, aresList, ares, spec0, spec1, spec2, spec3, spec4, eqCells, eqCell, sIndex, hl, hF, h]

noncomputable def CXt (D : Nat) : Ctx := mkC Try.prog G0 [(43, .gen gClone), (42, .pure sHas), (50, .gen gCand), (29, .frz sMeetI), (51, .gen gEnter), (52, .gen gLeave), (36, .gen (gExt D))]
section
variable {D : Nat}
@[simp] theorem CXt_P : (CXt D).P = Try.prog := rfl
@[simp] theorem CXt_1 : (CXt D).S 43 = .gen gClone := rfl
@[simp] theorem CXt_2 : (CXt D).S 42 = .pure sHas := rfl
@[simp] theorem CXt_3 : (CXt D).S 50 = .gen gCand := rfl
@[simp] theorem CXt_4 : (CXt D).S 29 = .frz sMeetI := rfl
@[simp] theorem CXt_5 : (CXt D).S 51 = .gen gEnter := rfl
@[simp] theorem CXt_6 : (CXt D).S 52 = .gen gLeave := rfl
@[simp] theorem CXt_7 : (CXt D).S 36 = .gen (gExt D) := rfl
theorem mixCXt : (CXt D).P.follows .mixedOrders = true := mixed
theorem sigCXt (h : GenOK Try.prog G0 36 (gExt D)) : SigOK (CXt D) := sigOK_cons (entryGen cloneG Try.func43 rfl (by decide)) (sigOK_cons (entryPure containsP Try.func42 rfl (by decide)) (sigOK_cons (entryGen candP Try.func50 rfl (by decide)) (sigOK_cons (entryFrz meetP Try.func29 rfl (by decide)) (sigOK_cons (entryGen enterP Try.func51 rfl (by decide)) (sigOK_cons (entryGen leaveP Try.func52 rfl (by decide)) (sigOK_cons (entryGen h Try.func36 rfl (by decide)) (sigOK_nil _ _)))))))
theorem scalXt22 : isScalT (CXt D) 22 = false := by show isScalT ⟨Try.prog, fun _ => .no, G0⟩ 22 = false; kernel_rfl
theorem scalXt57 : isScalT (CXt D) 57 = false := by show isScalT ⟨Try.prog, fun _ => .no, G0⟩ 57 = false; kernel_rfl
end
theorem frz_last (X Y : List Blk) (e : TypeId) (sz : Nat) (r : List (List AV)) (mu dp : Bool) : frzL [X.length + Y.length] 0 (X ++ (Y ++ [⟨e, sz, r, mu, dp⟩])) = X ++ (Y ++ [⟨e, sz, r, false, dp⟩]) := by
  refine List.ext_getElem? fun i => ?_
  rw [frzL_get, ← List.append_assoc, ← List.append_assoc]
  simp only [List.contains_cons, List.contains_nil, Bool.or_false, Nat.zero_add, beq_iff_eq]
  rcases Nat.lt_trichotomy i (X ++ Y).length with h | h | h
  · rw [List.getElem?_append_left h, List.getElem?_append_left h]
    rw [List.length_append] at h
    cases (X ++ Y)[i]? with
    | none => rfl
    | some b => simp only [Option.map_some]; rw [if_neg (by omega)]
  · subst h
    simp
  · rw [List.getElem?_eq_none (by simp at h ⊢; omega), List.getElem?_eq_none (by simp at h ⊢; omega)]; rfl
theorem at_last (X Y : List Blk) (b : Blk) : (X ++ (Y ++ [b]))[X.length + Y.length]? = some b := by
  rw [← List.append_assoc, ← List.length_append, List.getElem?_concat_length]
theorem base_clean {P Y : List Blk} {jc : List AV} {B M K T : List Int} {O : List (List Int)} {rs : List RelS} (hc : CleanX P Y rs.length) (hj : ∀ c ∈ jc, c.clean (P.length + 7 + 2 * rs.length + Y.length) = true) : ∀ b ∈ baseX P jc B M K T O rs.length rs ++ Y, b.deep = true ∨ ∀ r ∈ b.rows, ∀ c ∈ r, c.clean (P.length + 7 + 2 * rs.length + Y.length) = true := by
  intro b hb
  have key : b.deep = true ∨ ClB (P.length + 7 + 2 * rs.length + Y.length) b ∨ b = ⟨59, 7, [jc], true, false⟩ := by
    rcases List.mem_append.1 hb with hb | hb
    · unfold baseX at hb
      rcases List.mem_append.1 hb with hb | hb
      · rcases hc b (List.mem_append_left _ hb) with h | h
        · exact .inl h
        · exact .inr (.inl h)
      · simp only [List.mem_cons] at hb
        rcases hb with rfl | rfl | rfl | rfl | rfl | rfl | rfl | hb
        · exact .inl rfl
        · exact .inl rfl
        · exact .inl rfl
        · exact .inr (.inr rfl)
        · exact .inr (.inl (ClB_ptrs (by omega)))
        · exact .inl rfl
        · exact .inl rfl
        · exact .inr (.inl (ClB_relsX _ _ _ (by omega) b hb))
    · rcases hc b (List.mem_append_right _ hb) with h | h
      · exact .inl h
      · exact .inr (.inl h)
  rcases key with h | h | h
  · exact .inl h
  · exact .inr fun r hr c hcc => (h r hr c hcc).2
  · subst h
    refine .inr fun r hr c hcc => ?_
    rw [List.mem_singleton.1 hr] at hcc
    exact hj c hcc
theorem base_drop {C : Ctx} {N h0 : Nat} {P Y Z : List Blk} {jc : List AV} {B M K T : List Int} {O : List (List Int)} {rs : List RelS} {ρ ρ' : List (Nat × AV)} (hc : CleanX P Y rs.length) (hj : ∀ c ∈ jc, c.clean (P.length + 7 + 2 * rs.length + Y.length) = true) (hh : h0 ≤ P.length + 7 + 2 * rs.length + Y.length)
    (h1 : ∀ p ∈ ρ', getA ρ p.1 = p.2) (h2 : ∀ p ∈ ρ', p.2.clean (P.length + 7 + 2 * rs.length + Y.length) = true) : Weak C N h0 ⟨ρ, baseX P jc B M K T O rs.length rs ++ (Y ++ Z)⟩ ⟨ρ', baseX P jc B M K T O rs.length rs ++ Y⟩ := by
  have ht : (baseX P jc B M K T O rs.length rs ++ (Y ++ Z)).take (P.length + 7 + 2 * rs.length + Y.length) = baseX P jc B M K T O rs.length rs ++ Y := by
    rw [← List.append_assoc, ← baseX_len (P := P) (jc := jc) (B := B) (M := M) (K := K) (T := T) (O := O) (m := rs.length), ← List.length_append, List.take_append_of_le_length (Nat.le_refl _), List.take_of_length_le (Nat.le_refl _)]
  exact weak_keep (P.length + 7 + 2 * rs.length + Y.length) h1 hh h2 (by rw [ht]; exact base_clean hc hj) ht
theorem jcells_clean {o n' : Nat} {n : Int} {jt : AV} {m a b c d L : Nat} (h : o + 7 ≤ L) (ht : jt.clean L = true) : ∀ x ∈ ([.int .i64 n, .own (o + 4) m, jt, .own (o + 6) a, .own o b, .own (o + 1) c, .own (o + 2) d] : List AV), x.clean L = true := by
  intro x hx
  simp only [List.mem_cons, List.not_mem_nil, or_false] at hx
  rcases hx with rfl | rfl | rfl | rfl | rfl | rfl | rfl <;> first | exact ht | rfl | (simp [AV.clean, AV.clean1]; omega)
theorem cl_mono {m m' : Nat} (h : m ≤ m') {c : AV} (hc : c.clean1 m = true ∧ c.clean m = true) : c.clean1 m' = true ∧ c.clean m' = true := by
  obtain ⟨h1, h2⟩ := hc
  cases c <;> simp [AV.clean, AV.clean1] at h1 h2 ⊢ <;> first | omega | exact h1 | skip
theorem ClB_mono {m m' : Nat} (h : m ≤ m') {b : Blk} (hb : ClB m b) : ClB m' b := fun r hr c hc => cl_mono h (hb r hr c hc)
theorem CleanX_app {P Y Z : List Blk} {m : Nat} (h : CleanX P Y m) (hz : ∀ b ∈ Z, b.deep = true ∨ ClB (P.length + 7 + 2 * m + (Y ++ Z).length) b) : CleanX P (Y ++ Z) m := by
  intro b hb
  rw [← List.append_assoc] at hb
  rcases List.mem_append.1 hb with hb | hb
  · rcases h b hb with h1 | h1
    · exact .inl h1
    · exact .inr (ClB_mono (by rw [List.length_append]; omega) h1)
  · exact hz b hb
/-- The relations among the first i that take part. -/
def hvI (k : Nat) (rs : List RelS) (i : Nat) : List Nat := (List.range i).filter fun i => decide ((k : Int) ∈ (ix rs i).vs)
theorem hvI_all (k : Nat) (rs : List RelS) : hvI k rs rs.length = hvL k rs := rfl
theorem hvI_succ (k : Nat) (rs : List RelS) (i : Nat) : hvI k rs (i + 1) = if (k : Int) ∈ (ix rs i).vs then hvI k rs i ++ [i] else hvI k rs i := by
  unfold hvI
  rw [List.range_succ, List.filter_append]
  by_cases h : (k : Int) ∈ (ix rs i).vs
  · rw [if_pos h]; simp [h]
  · rw [if_neg h]; simp [h]
theorem hvI_len (k : Nat) (rs : List RelS) (i : Nat) : (hvI k rs i).length ≤ i := by
  unfold hvI
  exact Nat.le_trans (List.length_filter_le _ _) (by rw [List.length_range]; exact Nat.le_refl _)
theorem hvI_mem {k : Nat} {rs : List RelS} {i q : Nat} (h : q ∈ hvI k rs i) : q < i ∧ (k : Int) ∈ (ix rs q).vs := by
  unfold hvI at h
  obtain ⟨h1, h2⟩ := List.mem_filter.1 h
  exact ⟨List.mem_range.1 h1, by simpa using h2⟩
/-- The pointers to some relations. -/
def hRows (o : Nat) (h : List Nat) : List (List AV) := h.map fun q => [.ptr (o + 7 + 2 * q) 1 3 0 0]
theorem hRows_snoc (o : Nat) (h : List Nat) (q : Nat) : hRows o (h ++ [q]) = hRows o h ++ [[.ptr (o + 7 + 2 * q) 1 3 0 0]] := by unfold hRows; rw [List.map_append]; rfl
theorem hRows_len (o : Nat) (h : List Nat) : (hRows o h).length = h.length := by simp [hRows]
theorem hRows_at {o : Nat} {h : List Nat} {i : Nat} (hi : i < h.length) : rowAt (hRows o h) i = [.ptr (o + 7 + 2 * ix h i) 1 3 0 0] := by
  unfold rowAt hRows
  rw [List.getD_eq_getElem?_getD, List.getElem?_map, List.getElem?_eq_getElem hi, ← ix_lt hi]
  rfl
def hB (o : Nat) (h : List Nat) : Blk := ⟨75, 1, hRows o h, true, decide (h = [])⟩
theorem ClB_hB {m o : Nat} {h : List Nat} (hm : ∀ q ∈ h, o + 7 + 2 * q < m) : ClB m (hB o h) := fun r hr c hc => by
  simp only [hB, hRows, List.mem_map] at hr
  obtain ⟨q, hq, rfl⟩ := hr
  rw [List.mem_singleton.1 hc]
  have := hm q hq
  simp [AV.clean, AV.clean1]; omega
theorem at_lastN (X Y Z : List Blk) (k : Nat) : (X ++ (Y ++ Z))[X.length + Y.length + k]? = Z[k]? := by rw [← List.append_assoc, ← List.length_append, at_app]
theorem at_last0 (X Y Z : List Blk) : (X ++ (Y ++ Z))[X.length + Y.length]? = Z[0]? := by rw [← List.append_assoc, ← List.length_append, at_app0]
theorem st_lastN (X Y Z : List Blk) (k : Nat) (b : Blk) : (X ++ (Y ++ Z)).set (X.length + Y.length + k) b = X ++ (Y ++ Z.set k b) := by rw [← List.append_assoc, ← List.length_append, st_app, List.append_assoc]
theorem st_last0 (X Y Z : List Blk) (b : Blk) : (X ++ (Y ++ Z)).set (X.length + Y.length) b = X ++ (Y ++ Z.set 0 b) := by rw [← List.append_assoc, ← List.length_append, st_app0, List.append_assoc]
theorem at_lastM (X Y Z : List Blk) (k : Nat) : (X ++ (Y ++ Z))[X.length + (Y.length + k)]? = Z[k]? := by rw [← Nat.add_assoc, at_lastN]
theorem st_lastM (X Y Z : List Blk) (k : Nat) (b : Blk) : (X ++ (Y ++ Z)).set (X.length + (Y.length + k)) b = X ++ (Y ++ Z.set k b) := by rw [← Nat.add_assoc, st_lastN]
def leastN (ls : List (List Int)) (a : Nat) : Nat := (ls.take a).foldl (fun a l => min a l.length) (ix ls 0).length
theorem leastN_all (ls : List (List Int)) : leastN ls ls.length = leastF ls := by unfold leastN leastF; rw [List.take_of_length_le (Nat.le_refl _)]
theorem leastN_succ {ls : List (List Int)} {a : Nat} (h : a < ls.length) : leastN ls (a + 1) = min (leastN ls a) (ix ls a).length := by unfold leastN; rw [take_snoc h, List.foldl_append]; rfl
theorem frz_mid (X Y : List Blk) (b1 : Blk) (e : TypeId) (sz : Nat) (r : List (List AV)) (mu dp : Bool) : frzL [X.length + (Y.length + 1)] 0 (X ++ (Y ++ [b1, ⟨e, sz, r, mu, dp⟩])) = X ++ (Y ++ [b1, ⟨e, sz, r, false, dp⟩]) := by
  have h := frz_last X (Y ++ [b1]) e sz r mu dp
  rw [List.length_append, List.append_assoc, List.append_assoc] at h
  exact h
theorem lsL_snoc (rs : List RelS) (h : List Nat) (q : Nat) : lsL rs (h ++ [q]) = lsL rs h ++ [candL (ix rs q)] := by unfold lsL; rw [List.map_append]; rfl
theorem lsL_len (rs : List RelS) (h : List Nat) : (lsL rs h).length = h.length := by simp [lsL]
theorem all_len (f : RelS → RelS) : ∀ (h : List Nat) (rs : List RelS), (h.foldl (fun rs i => rs.set i (f (ix rs i))) rs).length = rs.length
  | [], _ => rfl
  | q :: h, rs => by rw [List.foldl_cons, all_len f h, List.length_set]
theorem all_other (f : RelS → RelS) : ∀ (h : List Nat) (rs : List RelS) (q : Nat), q ∉ h → ix (h.foldl (fun rs i => rs.set i (f (ix rs i))) rs) q = ix rs q
  | [], _, _, _ => rfl
  | p :: h, rs, q, hq => by
    rw [List.foldl_cons, all_other f h _ q (fun hm => hq (List.mem_cons_of_mem _ hm)), ix_set, if_neg (fun (e : p = q ∧ _) => hq (by rw [← e.1]; exact List.mem_cons_self))]
theorem all_succ (f : RelS → RelS) {h : List Nat} {a : Nat} (ha : a < h.length) (rs : List RelS) : (h.take (a + 1)).foldl (fun rs i => rs.set i (f (ix rs i))) rs = ((h.take a).foldl (fun rs i => rs.set i (f (ix rs i))) rs).set (ix h a) (f (ix ((h.take a).foldl (fun rs i => rs.set i (f (ix rs i))) rs) (ix h a))) := by
  rw [take_snoc ha, List.foldl_append]; rfl
theorem not_before {h : List Nat} (hn : h.Nodup) {a : Nat} (ha : a < h.length) : ix h a ∉ h.take a := by
  intro hm
  obtain ⟨b, hb, e⟩ := mem_ix hm
  have hb2 : b < a := by rw [List.length_take] at hb; omega
  have e2 : ix (h.take a) b = ix h b := by rw [ix_lt hb, List.getElem_take, ix_lt (show b < h.length by omega)]
  rw [e2, ix_lt (show b < h.length by omega), ix_lt ha] at e
  exact List.pairwise_iff_getElem.1 hn b a _ _ hb2 e
theorem hvL_nodup (k : Nat) (rs : List RelS) : (hvL k rs).Nodup := List.nodup_range.filter _
theorem hvL_lt {k : Nat} {rs : List RelS} {q : Nat} (h : q ∈ hvL k rs) : q < rs.length := (hvI_mem (hvI_all k rs ▸ h)).1
theorem jAt_succ {d k : Nat} {j : JSt} {q : Nat} (h : q < (valsX k j).1.length) : jAt d k j (q + 1) = outX (hvL k j.rels) k (extF d (k + 1) (inX (hvL k j.rels) (jAt d k j q) (ix (valsX k j).1 q))) := by
  unfold jAt
  rw [take_snoc h, List.foldl_append]; rfl
set_option maxHeartbeats 32000000 in
theorem extP : ∀ D, GenOK Try.prog G0 36 (gExt D)
  | 0 => fun w X β H args avs ob r H' R hG hsz harg hp hob => by
    obtain ⟨γ, h1, _⟩ := anyG_inv hp
    exact absurd h1.1 (Nat.not_lt_zero _)
  | D + 1 => by
    refine gen_of_avcH (C := CXt D) (sigCXt (extP D)) mixCXt [1] Try.func36 rfl rfl rfl (by kernel_rfl) (fun avs H ob r' H' h hob => ?_)
    obtain ⟨⟨P, j, Y, k, d⟩, ⟨hd, hp, hc⟩, rfl, hH, rfl, hH'⟩ := anyG_inv h
    simp only at hH hH' hd hp hc
    subst hH hH'
    refine ⟨(by show 2 ≤ _; decide), ?_⟩
    clear h hob
    cases d with
    | zero =>
      obtain ⟨⟨p1, p2, p3, p4, p5, p6⟩, p7⟩ := hp
      subst p1
      obtain ⟨n, B, M, K, T, tc, O, rs⟩ := j
      simp only at p2 p3 p4 p5 p6 p7
      subst p7
      have hcl := clone_at (H := baseX P (jCells P.length ⟨tc, B, M, K, T, tc, O, rs⟩) B M K T O rs.length rs ++ Y) (l := P.length + 5) (c := tc) (A := T) base_g5 p2 (by omega)
      unfold baseJ extF
      simp only [List.length_append] at hcl ⊢
      rcases em2 (tc = T.length) with hn | hn
      · have hn' := of_eq_true hn
        subst hn'
        have e : cntV (P.length + 5) T.length T.length = .own (P.length + 5) T.length := cntV_full _ _
        simp only [jCells, e] at hcl ⊢
        simp [aev, cav, look, acallPure, abin, abinN, abinP, abinI, abinS, aun, aconv, afield, afieldAddr, aindexAddr, aindex, aslice, alow, ahigh, abuild, abuildGo, cellsOf, splice, fieldTy, alen, apick, amax, amin, aload, headV, aparts, abuildSlice, elParts, abytesStr, astore, amake, aappend, aclear, anew, arith, aresults, aresList, ares, spec0, spec1, spec2, spec3, spec4, eqCells, eqCell, argsρ, base_g3]
        refine AW_regionF (sigCXt (extP D)) mixCXt [.pure, .pure, .pure, .pure, .read, .pure, .pure, .pure, .read, .eff, .eff, .eff, .pure, .pure, .eff] [[],[],[1],[1,2],[2,1,3],[],[5],[5,6],[6,5,7],[7,5,6,8],[8,6,5,7,9],[9,7,5,6,8,10,3,1,2,4],[11,10,9,8,7,6,5,4,3,2,1,0],[0,1,2,3,4,5,6,7,8,9,10,11,12],[12,11,10,9,8,7,6,5,4,3,2,1,0,13]] (by kernel_rfl) (by kernel_rfl) (by kernel_rfl) (by kernel_rfl) ?_
        simp [aev, cav, look, acallPure, abin, abinN, abinP, abinI, abinS, aun, aconv, afield, afieldAddr, aindexAddr, aindex, aslice, alow, ahigh, abuild, abuildGo, cellsOf, splice, fieldTy, alen, apick, amax, amin, aload, headV, aparts, abuildSlice, elParts, abytesStr, astore, amake, aappend, aclear, anew, arith, aresults, aresList, ares, spec0, spec1, spec2, spec3, spec4, eqCells, eqCell, base_g3, base_g5, base_g6, hcl, bI, scalXt22, at_last, frz_last, base_s3, base_s6]
        refine ⟨by omega, ⟨[], baseX P _ B M K T (O ++ [T]) rs.length rs ++ Y⟩, base_drop hc (jcells_clean (n' := 0) (by omega) (by simp [AV.clean, AV.clean1]; omega)) (by rw [baseX_len]; omega) (by simp) (by simp), ?_⟩
        simp [aev, cav, look, acallPure, abin, abinN, abinP, abinI, abinS, aun, aconv, afield, afieldAddr, aindexAddr, aindex, aslice, alow, ahigh, abuild, abuildGo, cellsOf, splice, fieldTy, alen, apick, amax, amin, aload, headV, aparts, abuildSlice, elParts, abytesStr, astore, amake, aappend, aclear, anew, arith, aresults, aresList, ares, spec0, spec1, spec2, spec3, spec4, eqCells, eqCell]
        exact ⟨True, trivial⟩
      · have hn' := of_eq_false hn
        have e : cntV (P.length + 5) T.length tc = .osl (P.length + 5) T.length 1 0 tc := cntV_part hn'
        have hmin : min tc T.length = tc := Nat.min_eq_left p2
        simp only [jCells, e] at hcl ⊢
        simp [aev, cav, look, acallPure, abin, abinN, abinP, abinI, abinS, aun, aconv, afield, afieldAddr, aindexAddr, aindex, aslice, alow, ahigh, abuild, abuildGo, cellsOf, splice, fieldTy, alen, apick, amax, amin, aload, headV, aparts, abuildSlice, elParts, abytesStr, astore, amake, aappend, aclear, anew, arith, aresults, aresList, ares, spec0, spec1, spec2, spec3, spec4, eqCells, eqCell, argsρ, base_g3]
        refine AW_regionF (sigCXt (extP D)) mixCXt [.pure, .pure, .pure, .pure, .read, .pure, .pure, .pure, .read, .eff, .eff, .eff, .pure, .pure, .eff] [[],[],[1],[1,2],[2,1,3],[],[5],[5,6],[6,5,7],[7,5,6,8],[8,6,5,7,9],[9,7,5,6,8,10,3,1,2,4],[11,10,9,8,7,6,5,4,3,2,1,0],[0,1,2,3,4,5,6,7,8,9,10,11,12],[12,11,10,9,8,7,6,5,4,3,2,1,0,13]] (by kernel_rfl) (by kernel_rfl) (by kernel_rfl) (by kernel_rfl) ?_
        simp [aev, cav, look, acallPure, abin, abinN, abinP, abinI, abinS, aun, aconv, afield, afieldAddr, aindexAddr, aindex, aslice, alow, ahigh, abuild, abuildGo, cellsOf, splice, fieldTy, alen, apick, amax, amin, aload, headV, aparts, abuildSlice, elParts, abytesStr, astore, amake, aappend, aclear, anew, arith, aresults, aresList, ares, spec0, spec1, spec2, spec3, spec4, eqCells, eqCell, base_g3, base_g5, base_g6, hcl, bI, scalXt22, at_last, frz_last, base_s3, base_s6, hmin]
        refine ⟨by omega, ⟨[], baseX P _ B M K T (O ++ [T.take tc]) rs.length rs ++ Y⟩, base_drop hc (jcells_clean (n' := 0) (by omega) (by simp [AV.clean, AV.clean1]; omega)) (by rw [baseX_len]; omega) (by simp) (by simp), ?_⟩
        simp [aev, cav, look, acallPure, abin, abinN, abinP, abinI, abinS, aun, aconv, afield, afieldAddr, aindexAddr, aindex, aslice, alow, ahigh, abuild, abuildGo, cellsOf, splice, fieldTy, alen, apick, amax, amin, aload, headV, aparts, abuildSlice, elParts, abytesStr, astore, amake, aappend, aclear, anew, arith, aresults, aresList, ares, spec0, spec1, spec2, spec3, spec4, eqCells, eqCell]
        exact ⟨True, trivial⟩
    | succ d =>
      obtain ⟨hnow, hmid, hend⟩ := hp
      obtain ⟨⟨p1, p2, p3, p4, p5, p6⟩, p7, p8, p9, p10, p11, p12, p13, p14, p15, p16⟩ := hnow
      obtain ⟨o, ho⟩ : ∃ o, o = P.length := ⟨_, rfl⟩
      have hnk : ((k : Int) = j.n) = False := eq_false (by rw [p7]; omega)
      have hdD : d < D := by omega
      have hres : baseJ P (extF (d + 1) k j) = baseJ P (jAt d k j (valsX k j).1.length) := by
        unfold jAt
        rw [List.take_of_length_le (Nat.le_refl _)]; rfl
      rw [hres]
      unfold baseJ
      simp [aev, cav, look, acallPure, abin, abinN, abinP, abinI, abinS, aun, aconv, afield, afieldAddr, aindexAddr, aindex, aslice, alow, ahigh, abuild, abuildGo, cellsOf, splice, fieldTy, alen, apick, amax, amin, aload, headV, aparts, abuildSlice, elParts, abytesStr, astore, amake, aappend, aclear, anew, arith, aresults, aresList, ares, spec0, spec1, spec2, spec3, spec4, eqCells, eqCell, argsρ, jCells, base_g3, hnk]
      have hj : ∀ L, P.length + 7 ≤ L → ∀ c ∈ jCells P.length j, c.clean L = true := fun L hL => jcells_clean (n' := 0) hL (cntV_cl (by omega)).2
      have hm7 : ∀ q, q < j.rels.length → P.length + 7 + 2 * q < P.length + 7 + 2 * j.rels.length + Y.length := fun q hq => by omega
      refine loop_ruleH (C := CXt D) (sigCXt (extP D)) mixCXt [1] (fun i : Nat => ⟨[(0, .ptr (P.length + 3) 1 7 0 0), (1, .int .i64 k), (4, .own ((baseX P (jCells P.length j) j.B j.M j.K j.T j.O j.rels.length j.rels).length + Y.length) (hvI k j.rels i).length), (5, .own ((baseX P (jCells P.length j) j.B j.M j.K j.T j.O j.rels.length j.rels).length + (Y.length + 1)) (hvI k j.rels i).length), (42, .own (P.length + 4) j.rels.length), (43, .int .i64 j.rels.length), (44, .int .i64 i)], baseX P (jCells P.length j) j.B j.M j.K j.T j.O j.rels.length j.rels ++ (Y ++ [hB P.length (hvI k j.rels i), bR (lsL j.rels (hvI k j.rels i))])⟩) (fun i => i ≤ j.rels.length) (fun i => j.rels.length - i) (by kernel_rfl) ⟨0, Nat.zero_le _, ((weak_nil 4 1 75 rfl (by decide)).trans (weak_nil 5 1 25 rfl (by decide))).trans (weak_eq (by simp [hvI, jCells]) (by simp [hvI, hB, hRows, lsL, bR, jCells]))⟩ (fun i hi => ?_)
      by_cases hlt : i < j.rels.length
      · have i1 : I64 ((i : Int) + 1) := by unfold I64; omega
        have hR := fun (Z : List Blk) => base_hasR (P := P) (jc := jCells P.length j) (B := j.B) (M := j.M) (K := j.K) (T := j.T) (O := j.O) (m := j.rels.length) (Y := Z) hlt
        have hg : ∀ Z, (baseX P (jCells P.length j) j.B j.M j.K j.T j.O j.rels.length j.rels ++ Z)[P.length + 7 + 2 * i]? = some ⟨77, 3, [[.slice 2 false (encRows (ix j.rels i).t.levels), .slice 1 false (encRows (ix j.rels i).vs), cntV (P.length + 7 + 2 * i + 1) (ix j.rels i).A.length (ix j.rels i).c]], true, false⟩ := fun Z => (hR Z).at0
        have hvs : SmallR (ix j.rels i).vs := by have := (p6 _ (ix_mem hlt)).2.2; unfold SmallR; omega
        have hl := hvI_len k j.rels i
        have hcl0 : CleanX P (Y ++ [hB P.length (hvI k j.rels (i + 1)), bR (lsL j.rels (hvI k j.rels (i + 1)))]) j.rels.length := CleanX_app hc fun b hb => by
          simp only [List.mem_cons, List.not_mem_nil, or_false] at hb
          rcases hb with rfl | rfl
          · exact .inr (ClB_hB fun q hq => by have := (hvI_mem hq).1; rw [List.length_append]; omega)
          · exact .inl rfl
        rcases em2 ((k : Int) ∈ (ix j.rels i).vs) with hmem | hmem
        · have e1 : hvI k j.rels (i + 1) = hvI k j.rels i ++ [i] := by rw [hvI_succ, if_pos (of_eq_true hmem)]
          have hent : EntOK (ix j.rels i) := p12 i (by
            unfold hvL
            exact List.mem_filter.2 ⟨List.mem_range.2 hlt, by simpa using of_eq_true hmem⟩)
          have hca := fun Z => cand_at (hR Z) hent.toCandOK
          simp [aev, cav, look, acallPure, abin, abinN, abinP, abinI, abinS, aun, aconv, afield, afieldAddr, aindexAddr, aindex, aslice, alow, ahigh, abuild, abuildGo, cellsOf, splice, fieldTy, alen, apick, amax, amin, aload, headV, aparts, abuildSlice, elParts, abytesStr, astore, amake, aappend, aclear, anew, arith, aresults, aresList, ares, spec0, spec1, spec2, spec3, spec4, eqCells, eqCell, base_g4, ptrs_len, hlt, ptrs_at hlt, hg, sHas, hvs, hmem, hca, aptrSlice, scalXt57, scalXt22, at_last0, at_lastM, st_last0, st_lastM, hB, bR, hRows_len, lsL_len]
          refine ⟨by omega, by omega, i + 1, by omega, by omega, ?_⟩
          refine (weak_eq (ρ' := [(0, .ptr (P.length + 3) 1 7 0 0), (1, .int .i64 k), (4, .own ((baseX P (jCells P.length j) j.B j.M j.K j.T j.O j.rels.length j.rels).length + Y.length) (hvI k j.rels (i + 1)).length), (5, .own ((baseX P (jCells P.length j) j.B j.M j.K j.T j.O j.rels.length j.rels).length + (Y.length + 1)) (hvI k j.rels (i + 1)).length), (42, .own (P.length + 4) j.rels.length), (43, .int .i64 j.rels.length), (44, .int .i64 ((i + 1 : Nat) : Int))]) (H' := baseX P (jCells P.length j) j.B j.M j.K j.T j.O j.rels.length j.rels ++ ((Y ++ [hB P.length (hvI k j.rels (i + 1)), bR (lsL j.rels (hvI k j.rels (i + 1)))]) ++ [⟨75, 1, [[.ptr (P.length + 7 + 2 * i) 1 3 0 0]], true, false⟩])) ?_ ?_).trans (base_drop hcl0 (hj _ (by omega)) (by rw [baseX_len, List.length_append]; omega) ?_ ?_)
          · simp [e1, w64_in i1]
          · simp [e1, hB, bR, hRows_snoc, lsL_snoc]
          · simp
          · simp [AV.clean, AV.clean1, baseX_len]; omega
        · have e1 : hvI k j.rels (i + 1) = hvI k j.rels i := by rw [hvI_succ, if_neg (of_eq_false hmem)]
          simp [aev, cav, look, acallPure, abin, abinN, abinP, abinI, abinS, aun, aconv, afield, afieldAddr, aindexAddr, aindex, aslice, alow, ahigh, abuild, abuildGo, cellsOf, splice, fieldTy, alen, apick, amax, amin, aload, headV, aparts, abuildSlice, elParts, abytesStr, astore, amake, aappend, aclear, anew, arith, aresults, aresList, ares, spec0, spec1, spec2, spec3, spec4, eqCells, eqCell, base_g4, ptrs_len, hlt, ptrs_at hlt, hg, sHas, hvs, hmem, i1]
          exact ⟨i + 1, by omega, by omega, weak_eq (by simp [e1]) (by simp [e1, hB, bR])⟩
      have hie : i = j.rels.length := by omega
      subst hie
      rw [hvI_all]
      have hLe : (lsL j.rels (hvL k j.rels)).length = (hvL k j.rels).length := lsL_len _ _
      have hL0 : 0 < (lsL j.rels (hvL k j.rels)).length := by rw [hLe]; exact List.length_pos_iff.2 p11
      have hL0' : 0 < (hvL k j.rels).length := List.length_pos_iff.2 p11
      simp [aev, cav, look, acallPure, abin, abinN, abinP, abinI, abinS, aun, aconv, afield, afieldAddr, aindexAddr, aindex, aslice, alow, ahigh, abuild, abuildGo, cellsOf, splice, fieldTy, alen, apick, amax, amin, aload, headV, aparts, abuildSlice, elParts, abytesStr, astore, amake, aappend, aclear, anew, arith, aresults, aresList, ares, spec0, spec1, spec2, spec3, spec4, eqCells, eqCell, hB, bR, at_last0, at_lastM, hL0, hL0', hLe, rowAt_enc hL0]
      obtain ⟨h, hh⟩ : ∃ h, h = hvL k j.rels := ⟨_, rfl⟩
      obtain ⟨ls, hls⟩ : ∃ ls, ls = lsL j.rels h := ⟨_, rfl⟩
      rw [← hh] at hL0' hLe hL0 p11 p12 p13 p15 hmid ⊢
      rw [← hls] at hLe hL0 p13 p15 ⊢
      have hll : ∀ l ∈ ls, l.length ≤ 10000 := fun l hl => (p13.2 l hl).1
      have hln : ∀ a, a ≤ ls.length → leastN ls a ≤ 10000 := by
        intro a
        induction a with
        | zero => intro _; exact hll _ (ix_mem hL0)
        | succ a ih => intro ha; rw [leastN_succ (by omega)]; have := ih (by omega); omega
      refine loop_ruleH (C := CXt D) (sigCXt (extP D)) mixCXt [1] (fun a : Nat => ⟨[(0, .ptr (P.length + 3) 1 7 0 0), (1, .int .i64 k), (4, .own ((baseX P (jCells P.length j) j.B j.M j.K j.T j.O j.rels.length j.rels).length + Y.length) h.length), (5, .own ((baseX P (jCells P.length j) j.B j.M j.K j.T j.O j.rels.length j.rels).length + (Y.length + 1)) h.length), (8, .int .i64 (leastN ls a)), (68, .own ((baseX P (jCells P.length j) j.B j.M j.K j.T j.O j.rels.length j.rels).length + (Y.length + 1)) h.length), (69, .int .i64 h.length), (70, .int .i64 a)], baseX P (jCells P.length j) j.B j.M j.K j.T j.O j.rels.length j.rels ++ (Y ++ [hB P.length h, bR ls])⟩) (fun a => a ≤ ls.length) (fun a => ls.length - a) (by kernel_rfl) ⟨0, Nat.zero_le _, weak_eq (by simp [leastN]) (by simp [hB, bR])⟩ (fun a ha => ?_)
      by_cases hlt : a < ls.length
      · have hlt2 : a < h.length := by omega
        have i1 : I64 ((a : Int) + 1) := by unfold I64; have := hvI_len k j.rels j.rels.length; rw [hvI_all, ← hh] at this; omega
        have e1 := leastN_succ hlt
        simp [aev, cav, look, acallPure, abin, abinN, abinP, abinI, abinS, aun, aconv, afield, afieldAddr, aindexAddr, aindex, aslice, alow, ahigh, abuild, abuildGo, cellsOf, splice, fieldTy, alen, apick, amax, amin, aload, headV, aparts, abuildSlice, elParts, abytesStr, astore, amake, aappend, aclear, anew, arith, aresults, aresList, ares, spec0, spec1, spec2, spec3, spec4, eqCells, eqCell, hB, bR, at_last0, at_lastM, hlt, hlt2, hLe, rowAt_enc hlt, i1]
        refine ⟨a + 1, by omega, by omega, weak_eq ?_ (by simp [hB, bR])⟩
        have e2 : (if (ix ls a).length < leastN ls a then ((ix ls a).length : Int) else (leastN ls a : Int)) = ((leastN ls (a + 1) : Nat) : Int) := by rw [e1]; split <;> omega
        simp [w64_in i1, e2]
      have hae : a = ls.length := by omega
      subst hae
      rw [leastN_all]
      have hnlt : ¬ ls.length < h.length := by omega
      have hmv : meetF ls = valsX k j := by unfold valsX; rw [hls, hh]
      simp [aev, cav, look, acallPure, abin, abinN, abinP, abinI, abinS, aun, aconv, afield, afieldAddr, aindexAddr, aindex, aslice, alow, ahigh, abuild, abuildGo, cellsOf, splice, fieldTy, alen, apick, amax, amin, aload, headV, aparts, abuildSlice, elParts, abytesStr, astore, amake, aappend, aclear, anew, arith, aresults, aresList, ares, spec0, spec1, spec2, spec3, spec4, eqCells, eqCell, hB, bR, at_last0, at_lastM, hnlt, hLe, sMeetI, p13, resM, hmv, frz_mid, jCells, base_g0, base_g1, base_g2, base_g3, base_s0, base_s1, base_s2, p8, p9, p10, rowAt_enc p8, rowAt_enc p9, rowAt_enc p10, p14, p15, p16]
      obtain ⟨vals, hvals⟩ : ∃ vals, vals = (valsX k j).1 := ⟨_, rfl⟩
      obtain ⟨m, hm⟩ : ∃ m, m = j.rels.length := ⟨_, rfl⟩
      obtain ⟨N0, hN0⟩ : ∃ N0, N0 = P.length + 7 + 2 * m + Y.length := ⟨_, rfl⟩
      have hnod : h.Nodup := hh ▸ hvL_nodup k j.rels
      have hlt : ∀ q ∈ h, q < m := fun q hq => by rw [hm]; exact hvL_lt (hh ▸ hq)
      have hhl : h.length ≤ m := by have := hvI_len k j.rels j.rels.length; rw [hvI_all, ← hh] at this; omega
      have hcl1 : CleanX P (Y ++ [hB P.length h]) m := by
        rw [hm]
        exact CleanX_app hc fun b hb => by
          rw [List.mem_singleton.1 hb]
          exact .inr (ClB_hB fun q hq => by have := hlt q hq; rw [List.length_append]; omega)
      have hN : ∀ (jc : List AV) (B M K T : List Int) (O : List (List Int)) (rs : List RelS) (Z : List Blk), rs.length = m → (baseX P jc B M K T O m rs ++ (Y ++ Z))[N0]? = Z[0]? := fun jc B M K T O rs Z e => by
        have := at_last0 (baseX P jc B M K T O m rs) Y Z
        rwa [baseX_len, e, ← hN0] at this
      have hvl : vals.length ≤ 10000 := by
        have g := (meetF_good (fun l hl => (p13.2 l hl).2) (List.length_pos_iff.1 hL0)).1
        rw [hmv] at g
        rw [hvals, g]
        have h2 : (common ls).length ≤ (ix ls 0).length := List.length_filter_le _ _
        have := hll _ (ix_mem hL0)
        omega
      rw [← hvals] at hmid hend ⊢
      rw [← hm] at hmid
      have hlenA : ∀ q, q ≤ vals.length → (jAt d k j q).rels.length = m := by
        intro q
        induction q with
        | zero => intro _; exact hm.symm
        | succ q _ =>
          intro hq
          rw [jAt_succ (by rw [← hvals]; omega), ← hvals, ← hh]
          exact (all_len leaveF _ _).trans (hmid q (by omega)).m2
      refine loop_ruleH (C := CXt D) (sigCXt (extP D)) mixCXt [1] (fun q : Nat => ⟨[(0, .ptr (P.length + 3) 1 7 0 0), (1, .int .i64 k), (4, .own N0 h.length), (118, .slice 1 false (encRows vals)), (119, .int .i64 vals.length), (120, .int .i64 q)], baseJ P (jAt d k j q) ++ (Y ++ [hB P.length h])⟩) (fun q => q ≤ vals.length) (fun q => vals.length - q) (by kernel_rfl) ⟨0, Nat.zero_le _, ?_⟩ (fun q hq => ?_)
      · have h0 : jAt d k j 0 = begX k j := rfl
        rw [h0]
        refine (weak_eq (ρ' := [(0, .ptr (P.length + 3) 1 7 0 0), (1, .int .i64 k), (4, .own N0 h.length), (118, .slice 1 false (encRows vals)), (119, .int .i64 vals.length), (120, .int .i64 0)]) (H' := baseX P (jCells P.length (begX k j)) (begX k j).B (begX k j).M (begX k j).K (begX k j).T (begX k j).O (begX k j).rels.length (begX k j).rels ++ ((Y ++ [hB P.length h]) ++ [⟨25, 1, encRows ls, false, true⟩])) ?_ ?_).trans (base_drop (show CleanX P (Y ++ [hB P.length h]) j.rels.length by rw [← hm]; exact hcl1) ?_ (by show _ ≤ P.length + 7 + 2 * j.rels.length + _; rw [List.length_append, baseX_len, List.length_append]; omega) ?_ ?_)
        · simp [baseX_len, hN0, hm]
        · simp [begX, addAt, jCells, hB, ← hvals, ← hls, ← hh]
        · exact jcells_clean (n' := 0) (by simp [begX]; omega) (cntV_cl (by simp [begX]; omega)).2
        · simp
        · simp [AV.clean, AV.clean1, begX]; omega
      by_cases hqv : q < vals.length
      · obtain ⟨mo, mn, mm, me, mp, mo2, mn2, mm2, mc2⟩ := hmid q hqv
        have hsucc := jAt_succ (d := d) (k := k) (j := j) (q := q) (by rw [← hvals]; exact hqv)
        rw [← hvals, ← hh] at hsucc
        obtain ⟨x, hx⟩ : ∃ x, x = ix vals q := ⟨_, rfl⟩
        rw [← hx] at hsucc mp mo2 mn2 mm2 mc2
        obtain ⟨jq, hjq⟩ : ∃ jq, jq = jAt d k j q := ⟨_, rfl⟩
        rw [← hjq] at hsucc mo mn mm me mp mo2 mn2 mm2 mc2 ⊢
        have i1 : I64 ((q : Int) + 1) := by unfold I64; omega
        unfold baseJ
        rw [mm]
        simp [aev, cav, look, acallPure, abin, abinN, abinP, abinI, abinS, aun, aconv, afield, afieldAddr, aindexAddr, aindex, aslice, alow, ahigh, abuild, abuildGo, cellsOf, splice, fieldTy, alen, apick, amax, amin, aload, headV, aparts, abuildSlice, elParts, abytesStr, astore, amake, aappend, aclear, anew, arith, aresults, aresList, ares, spec0, spec1, spec2, spec3, spec4, eqCells, eqCell, hqv, rowAt_enc hqv, ← hx]
        have hAlen : ∀ a, (enterAll x (h.take a) jq.rels).length = m := fun a => (all_len (fun r => enterF r x) _ _).trans mm
        have hNq : ∀ (jc : List AV) (B M K T : List Int) (O : List (List Int)) (a : Nat) (Z : List Blk), (baseX P jc B M K T O m (enterAll x (h.take a) jq.rels) ++ (Y ++ Z))[N0]? = Z[0]? := fun jc B M K T O a Z => hN _ _ _ _ _ _ _ _ (hAlen a)
        refine loop_ruleH (C := CXt D) (sigCXt (extP D)) mixCXt [1] (fun a : Nat => ⟨[(0, .ptr (P.length + 3) 1 7 0 0), (1, .int .i64 k), (4, .own N0 h.length), (14, .int .i64 x), (118, .slice 1 false (encRows vals)), (119, .int .i64 vals.length), (120, .int .i64 q), (124, .own N0 h.length), (125, .int .i64 h.length), (126, .int .i64 a)], baseX P (jCells P.length jq) jq.B jq.M jq.K jq.T jq.O m (enterAll x (h.take a) jq.rels) ++ (Y ++ [hB P.length h])⟩) (fun a => a ≤ h.length) (fun a => h.length - a) (by kernel_rfl) ⟨0, Nat.zero_le _, weak_eq (by simp) (by simp [enterAll])⟩ (fun a ha => ?_)
        by_cases hah : a < h.length
        · have ia : I64 ((a : Int) + 1) := by unfold I64; omega
          have hpm := hlt _ (ix_mem hah)
          have hix : ix (enterAll x (h.take a) jq.rels) (ix h a) = ix jq.rels (ix h a) := all_other (fun r => enterF r x) _ _ _ (not_before hnod hah)
          have hen : ∀ Z, gEnter [.ptr (P.length + 7 + 2 * ix h a) 1 3 0 0, .int .i64 x] (baseX P (jCells P.length jq) jq.B jq.M jq.K jq.T jq.O m (enterAll x (h.take a) jq.rels) ++ Z) = some (True, .tup [], baseX P (jCells P.length jq) jq.B jq.M jq.K jq.T jq.O m (enterAll x (h.take (a + 1)) jq.rels) ++ Z) := fun Z => by
            have h1 := base_hasR (P := P) (jc := jCells P.length jq) (B := jq.B) (M := jq.M) (K := jq.K) (T := jq.T) (O := jq.O) (m := m) (Y := Z) (show ix h a < (enterAll x (h.take a) jq.rels).length by rw [hAlen]; exact hpm)
            rw [enter_at (x := x) h1 (by rw [hix]; exact me _ (ix_mem hah)), base_putR (by rw [hAlen]; exact hpm)]
            unfold enterAll
            rw [all_succ (fun r => enterF r x) hah]
          simp [aev, cav, look, acallPure, abin, abinN, abinP, abinI, abinS, aun, aconv, afield, afieldAddr, aindexAddr, aindex, aslice, alow, ahigh, abuild, abuildGo, cellsOf, splice, fieldTy, alen, apick, amax, amin, aload, headV, aparts, abuildSlice, elParts, abytesStr, astore, amake, aappend, aclear, anew, arith, aresults, aresList, ares, spec0, spec1, spec2, spec3, spec4, eqCells, eqCell, hNq, hB, hRows_len, hah, hRows_at hah, hen]
          exact ⟨a + 1, by omega, by omega, weak_eq (by simp [w64_in ia]) (by simp [hB])⟩
        have hae : a = h.length := by omega
        subst hae
        rw [List.take_of_length_le (Nat.le_refl h.length)]
        obtain ⟨j3, hj3⟩ : ∃ j3, j3 = extF d (k + 1) (inX h jq x) := ⟨_, rfl⟩
        have hElen : (enterAll x h jq.rels).length = m := (all_len (fun r => enterF r x) _ _).trans mm
        have hext := ext_at (P := P) (Y := Y ++ [hB P.length h]) hdD mp (by show CleanX P _ (enterAll x h jq.rels).length; rw [hElen]; exact hcl1)
        rw [← hj3] at hext hsucc mo2 mn2 mm2 mc2
        have ik : I64 ((k : Int) + 1) := by unfold I64; have := mo.tl; have := mo.t1; omega
        have hT3 : j3.tc = k + 1 := mo2.tc
        have hNe : ∀ (jc : List AV) (B M K T : List Int) (O : List (List Int)) (Z : List Blk), (baseX P jc B M K T O m (enterAll x h jq.rels) ++ (Y ++ Z))[N0]? = Z[0]? := fun jc B M K T O Z => hN _ _ _ _ _ _ _ _ hElen
        have hcell : cntV (P.length + 5) j3.T.length (k + 1) = .own (P.length + 5) j3.T.length ∧ k + 1 = j3.T.length ∨ cntV (P.length + 5) j3.T.length (k + 1) = .osl (P.length + 5) j3.T.length 1 0 (k + 1) ∧ (k + 1 = j3.T.length) = False := by
          by_cases h1 : k + 1 = j3.T.length
          · exact .inl ⟨by rw [h1, cntV_full], h1⟩
          · exact .inr ⟨cntV_part h1, eq_false h1⟩
        have hk3 : k < j3.T.length := mo2.tl
        have hcO : cntV (P.length + 5) j3.T.length k = .osl (P.length + 5) j3.T.length 1 0 k := cntV_part (by omega)
        have htc := mo.tc
        unfold baseJ at hext
        have ek : ((k + 1 : Nat) : Int) = (k : Int) + 1 := by omega
        simp only [jCells, inX, hElen, mm2, htc, hT3, ek] at hext
        have hnl : ¬ h.length < h.length := by omega
        have hkT1 := mo.tl
        have hkT2 := mo.t1
        have hm3 : ∀ a, (leaveAll (h.take a) j3.rels).length = m := fun a => (all_len leaveF _ _).trans mm2
        have hNl : ∀ (jc : List AV) (B M K T : List Int) (O : List (List Int)) (a : Nat) (Z : List Blk), (baseX P jc B M K T O m (leaveAll (h.take a) j3.rels) ++ (Y ++ Z))[N0]? = Z[0]? := fun jc B M K T O a Z => hN _ _ _ _ _ _ _ _ (hm3 a)
        have hkk : k ≤ j3.T.length := by omega
        have hl3 : (leaveAll h j3.rels).length = m := (all_len leaveF _ _).trans mm2
        have hjO : jCells P.length (outX h k j3) = [.int .i64 j3.n, .own (P.length + 4) m, .osl (P.length + 5) j3.T.length 1 0 k, .own (P.length + 6) j3.O.length, .own P.length j3.B.length, .own (P.length + 1) j3.M.length, .own (P.length + 2) j3.K.length] := by
          unfold jCells outX
          simp only [hcO, hl3]
        have hJO : baseJ P (outX h k j3) = baseX P (jCells P.length (outX h k j3)) j3.B j3.M j3.K j3.T j3.O m (leaveAll h j3.rels) := by
          unfold baseJ
          show baseX P _ j3.B j3.M j3.K j3.T j3.O (leaveAll h j3.rels).length (leaveAll h j3.rels) = _
          rw [hl3]
        have hJU : baseX P (jCells P.length (outX h k j3)) j3.B j3.M j3.K j3.T j3.O m (leaveAll h j3.rels) = baseX P (jCells P.length (outX h k j3)) (outX h k j3).B (outX h k j3).M (outX h k j3).K (outX h k j3).T (outX h k j3).O (outX h k j3).rels.length (outX h k j3).rels := hJO.symm
        have hlvA : ∀ a, a < h.length → ∀ Z, gLeave [.ptr (P.length + 7 + 2 * ix h a) 1 3 0 0] (baseX P (jCells P.length (outX h k j3)) j3.B j3.M j3.K j3.T j3.O m (leaveAll (h.take a) j3.rels) ++ Z) = some (True, .tup [], baseX P (jCells P.length (outX h k j3)) j3.B j3.M j3.K j3.T j3.O m (leaveAll (h.take (a + 1)) j3.rels) ++ Z) := fun a hah Z => by
          have hpm := hlt _ (ix_mem hah)
          have hix : ix (leaveAll (h.take a) j3.rels) (ix h a) = ix j3.rels (ix h a) := all_other leaveF _ _ _ (not_before hnod hah)
          have hpl : ix h a < (leaveAll (h.take a) j3.rels).length := by rw [hm3]; exact hpm
          have h1 := base_hasR (P := P) (jc := jCells P.length (outX h k j3)) (B := j3.B) (M := j3.M) (K := j3.K) (T := j3.T) (O := j3.O) (m := m) (Y := Z) hpl
          obtain ⟨r1, r2, _⟩ := mo2.r _ (ix_mem (show ix h a < j3.rels.length by rw [mm2]; exact hpm))
          rw [leave_at h1 (by rw [hix]; exact r1) (by rw [hix]; exact mc2 _ (ix_mem hah)) (by rw [hix]; exact r2), base_putC hpl (r := leaveF (ix (leaveAll (h.take a) j3.rels) (ix h a))) rfl]
          unfold leaveAll
          rw [all_succ leaveF hah]
        rcases em2 (k = jq.T.length) with hkT | hkT
        · have e1 : cntV (P.length + 5) jq.T.length k = .own (P.length + 5) jq.T.length := by rw [of_eq_true hkT, cntV_full]
          have e2 : pushA jq.T k x = jq.T ++ [x] := by unfold pushA; rw [if_pos (of_eq_true hkT)]
          have e3 : cntV (P.length + 5) (jq.T.length + 1) (k + 1) = .own (P.length + 5) (jq.T.length + 1) := by rw [of_eq_true hkT, cntV_full]
          simp only [e2, List.length_append, List.length_singleton, e3] at hext
          rcases hcell with ⟨c1, c2⟩ | ⟨c1, c2⟩
          all_goals (simp [aev, cav, look, acallPure, abin, abinN, abinP, abinI, abinS, aun, aconv, afield, afieldAddr, aindexAddr, aindex, aslice, alow, ahigh, abuild, abuildGo, cellsOf, splice, fieldTy, alen, apick, amax, amin, aload, headV, aparts, abuildSlice, elParts, abytesStr, astore, amake, aappend, aclear, anew, arith, aresults, aresList, ares, spec0, spec1, spec2, spec3, spec4, eqCells, eqCell, jCells, htc, e1, hnl, base_g3, base_g5, base_s3, base_s5, mm, ik, hext, c1, hkk])
          all_goals (try refine ⟨by omega, ?_⟩)
          all_goals (try refine ⟨by omega, ?_⟩)
          all_goals (refine loop_ruleH (C := CXt D) (sigCXt (extP D)) mixCXt [1] (fun a : Nat => ⟨[(0, .ptr (P.length + 3) 1 7 0 0), (1, .int .i64 k), (4, .own N0 h.length), (118, .slice 1 false (encRows vals)), (119, .int .i64 vals.length), (120, .int .i64 q), (157, .own N0 h.length), (158, .int .i64 h.length), (159, .int .i64 a)], baseX P (jCells P.length (outX h k j3)) j3.B j3.M j3.K j3.T j3.O m (leaveAll (h.take a) j3.rels) ++ (Y ++ [hB P.length h])⟩) (fun a => a ≤ h.length) (fun a => h.length - a) (by kernel_rfl) ⟨0, Nat.zero_le _, weak_eq (by simp) (by simp [leaveAll, hjO])⟩ (fun a ha => ?_))
          all_goals (by_cases hah : a < h.length)
          all_goals (first | (have hlv := hlvA a hah; have ia : I64 ((a : Int) + 1) := (by unfold I64; omega); simp [aev, cav, look, acallPure, abin, abinN, abinP, abinI, abinS, aun, aconv, afield, afieldAddr, aindexAddr, aindex, aslice, alow, ahigh, abuild, abuildGo, cellsOf, splice, fieldTy, alen, apick, amax, amin, aload, headV, aparts, abuildSlice, elParts, abytesStr, astore, amake, aappend, aclear, anew, arith, aresults, aresList, ares, spec0, spec1, spec2, spec3, spec4, eqCells, eqCell, hNl, hB, hRows_len, hah, hRows_at hah, hlv]; exact ⟨a + 1, by omega, by omega, weak_eq (by simp [w64_in ia]) (by simp [hB])⟩) | (have hae : a = h.length := (by omega); subst hae; simp [aev, cav, look, acallPure, abin, abinN, abinP, abinI, abinS, aun, aconv, afield, afieldAddr, aindexAddr, aindex, aslice, alow, ahigh, abuild, abuildGo, cellsOf, splice, fieldTy, alen, apick, amax, amin, aload, headV, aparts, abuildSlice, elParts, abytesStr, astore, amake, aappend, aclear, anew, arith, aresults, aresList, ares, spec0, spec1, spec2, spec3, spec4, eqCells, eqCell, hnl]; exact ⟨q + 1, by omega, by omega, weak_eq (by simp [w64_in i1]) (by rw [hsucc]; simp; exact hJU)⟩))
        · have hkf := of_eq_false hkT
          have e1 : cntV (P.length + 5) jq.T.length k = .osl (P.length + 5) jq.T.length 1 0 k := cntV_part hkf
          have e2 : pushA jq.T k x = jq.T.set k x := by unfold pushA; rw [if_neg hkf]
          have hset : jq.T.set k x = jq.T.take k ++ x :: jq.T.drop (k + 1) := by rw [List.set_eq_take_append_cons_drop, if_pos (by omega)]
          have hle1 : k + 1 ≤ jq.T.length := by omega
          rw [e2] at hext
          rw [List.length_set, hset] at hext
          rcases em2 (k + 1 = jq.T.length) with hkS | hkS
          · have e3 : cntV (P.length + 5) jq.T.length (k + 1) = .own (P.length + 5) jq.T.length := by rw [of_eq_true hkS, cntV_full]
            rw [e3] at hext
            rcases hcell with ⟨c1, c2⟩ | ⟨c1, c2⟩
            all_goals (simp [aev, cav, look, acallPure, abin, abinN, abinP, abinI, abinS, aun, aconv, afield, afieldAddr, aindexAddr, aindex, aslice, alow, ahigh, abuild, abuildGo, cellsOf, splice, fieldTy, alen, apick, amax, amin, aload, headV, aparts, abuildSlice, elParts, abytesStr, astore, amake, aappend, aclear, anew, arith, aresults, aresList, ares, spec0, spec1, spec2, spec3, spec4, eqCells, eqCell, aappO, jCells, htc, e1, hkT, hkS, hnl, base_g3, base_g5, base_s3, base_s5, mm, ik, hext, c1, hkk, hle1])
            all_goals (try refine ⟨by omega, ?_⟩)
            all_goals (try refine ⟨by omega, ?_⟩)
            all_goals (refine loop_ruleH (C := CXt D) (sigCXt (extP D)) mixCXt [1] (fun a : Nat => ⟨[(0, .ptr (P.length + 3) 1 7 0 0), (1, .int .i64 k), (4, .own N0 h.length), (118, .slice 1 false (encRows vals)), (119, .int .i64 vals.length), (120, .int .i64 q), (157, .own N0 h.length), (158, .int .i64 h.length), (159, .int .i64 a)], baseX P (jCells P.length (outX h k j3)) j3.B j3.M j3.K j3.T j3.O m (leaveAll (h.take a) j3.rels) ++ (Y ++ [hB P.length h])⟩) (fun a => a ≤ h.length) (fun a => h.length - a) (by kernel_rfl) ⟨0, Nat.zero_le _, weak_eq (by simp) (by simp [leaveAll, hjO])⟩ (fun a ha => ?_))
            all_goals (by_cases hah : a < h.length)
            all_goals (first | (have hlv := hlvA a hah; have ia : I64 ((a : Int) + 1) := (by unfold I64; omega); simp [aev, cav, look, acallPure, abin, abinN, abinP, abinI, abinS, aun, aconv, afield, afieldAddr, aindexAddr, aindex, aslice, alow, ahigh, abuild, abuildGo, cellsOf, splice, fieldTy, alen, apick, amax, amin, aload, headV, aparts, abuildSlice, elParts, abytesStr, astore, amake, aappend, aclear, anew, arith, aresults, aresList, ares, spec0, spec1, spec2, spec3, spec4, eqCells, eqCell, hNl, hB, hRows_len, hah, hRows_at hah, hlv]; exact ⟨a + 1, by omega, by omega, weak_eq (by simp [w64_in ia]) (by simp [hB])⟩) | (have hae : a = h.length := (by omega); subst hae; simp [aev, cav, look, acallPure, abin, abinN, abinP, abinI, abinS, aun, aconv, afield, afieldAddr, aindexAddr, aindex, aslice, alow, ahigh, abuild, abuildGo, cellsOf, splice, fieldTy, alen, apick, amax, amin, aload, headV, aparts, abuildSlice, elParts, abytesStr, astore, amake, aappend, aclear, anew, arith, aresults, aresList, ares, spec0, spec1, spec2, spec3, spec4, eqCells, eqCell, hnl]; exact ⟨q + 1, by omega, by omega, weak_eq (by simp [w64_in i1]) (by rw [hsucc]; simp; exact hJU)⟩))
          · have e3 : cntV (P.length + 5) jq.T.length (k + 1) = .osl (P.length + 5) jq.T.length 1 0 (k + 1) := cntV_part (of_eq_false hkS)
            rw [e3] at hext
            rcases hcell with ⟨c1, c2⟩ | ⟨c1, c2⟩
            all_goals (simp [aev, cav, look, acallPure, abin, abinN, abinP, abinI, abinS, aun, aconv, afield, afieldAddr, aindexAddr, aindex, aslice, alow, ahigh, abuild, abuildGo, cellsOf, splice, fieldTy, alen, apick, amax, amin, aload, headV, aparts, abuildSlice, elParts, abytesStr, astore, amake, aappend, aclear, anew, arith, aresults, aresList, ares, spec0, spec1, spec2, spec3, spec4, eqCells, eqCell, aappO, jCells, htc, e1, hkT, hkS, hnl, base_g3, base_g5, base_s3, base_s5, mm, ik, hext, c1, hkk, hle1])
            all_goals (try refine ⟨by omega, ?_⟩)
            all_goals (try refine ⟨by omega, ?_⟩)
            all_goals (refine loop_ruleH (C := CXt D) (sigCXt (extP D)) mixCXt [1] (fun a : Nat => ⟨[(0, .ptr (P.length + 3) 1 7 0 0), (1, .int .i64 k), (4, .own N0 h.length), (118, .slice 1 false (encRows vals)), (119, .int .i64 vals.length), (120, .int .i64 q), (157, .own N0 h.length), (158, .int .i64 h.length), (159, .int .i64 a)], baseX P (jCells P.length (outX h k j3)) j3.B j3.M j3.K j3.T j3.O m (leaveAll (h.take a) j3.rels) ++ (Y ++ [hB P.length h])⟩) (fun a => a ≤ h.length) (fun a => h.length - a) (by kernel_rfl) ⟨0, Nat.zero_le _, weak_eq (by simp) (by simp [leaveAll, hjO])⟩ (fun a ha => ?_))
            all_goals (by_cases hah : a < h.length)
            all_goals (first | (have hlv := hlvA a hah; have ia : I64 ((a : Int) + 1) := (by unfold I64; omega); simp [aev, cav, look, acallPure, abin, abinN, abinP, abinI, abinS, aun, aconv, afield, afieldAddr, aindexAddr, aindex, aslice, alow, ahigh, abuild, abuildGo, cellsOf, splice, fieldTy, alen, apick, amax, amin, aload, headV, aparts, abuildSlice, elParts, abytesStr, astore, amake, aappend, aclear, anew, arith, aresults, aresList, ares, spec0, spec1, spec2, spec3, spec4, eqCells, eqCell, hNl, hB, hRows_len, hah, hRows_at hah, hlv]; exact ⟨a + 1, by omega, by omega, weak_eq (by simp [w64_in ia]) (by simp [hB])⟩) | (have hae : a = h.length := (by omega); subst hae; simp [aev, cav, look, acallPure, abin, abinN, abinP, abinI, abinS, aun, aconv, afield, afieldAddr, aindexAddr, aindex, aslice, alow, ahigh, abuild, abuildGo, cellsOf, splice, fieldTy, alen, apick, amax, amin, aload, headV, aparts, abuildSlice, elParts, abytesStr, astore, amake, aappend, aclear, anew, arith, aresults, aresList, ares, spec0, spec1, spec2, spec3, spec4, eqCells, eqCell, hnl]; exact ⟨q + 1, by omega, by omega, weak_eq (by simp [w64_in i1]) (by rw [hsucc]; simp; exact hJU)⟩))
      · have hqe : q = vals.length := by omega
        subst hqe
        have hl := hlenA _ (Nat.le_refl _)
        simp [aev, cav, look, acallPure, abin, abinN, abinP, abinI, abinS, aun, aconv, afield, afieldAddr, aindexAddr, aindex, aslice, alow, ahigh, abuild, abuildGo, cellsOf, splice, fieldTy, alen, apick, amax, amin, aload, headV, aparts, abuildSlice, elParts, abytesStr, astore, amake, aappend, aclear, anew, arith, aresults, aresList, ares, spec0, spec1, spec2, spec3, spec4, eqCells, eqCell, hqv]
        refine ⟨⟨[], baseJ P (jAt d k j vals.length) ++ Y⟩, ?_, ?_⟩
        · unfold baseJ
          rw [← hm] at hc
          exact base_drop (ρ' := []) (by rw [hl]; exact hc) (jcells_clean (n' := 0) (by omega) (cntV_cl (by omega)).2) (by rw [List.length_append, baseX_len, hl]; omega) (by simp) (by simp)
        · simp [aev, cav, look, acallPure, abin, abinN, abinP, abinI, abinS, aun, aconv, afield, afieldAddr, aindexAddr, aindex, aslice, alow, ahigh, abuild, abuildGo, cellsOf, splice, fieldTy, alen, apick, amax, amin, aload, headV, aparts, abuildSlice, elParts, abytesStr, astore, amake, aappend, aclear, anew, arith, aresults, aresList, ares, spec0, spec1, spec2, spec3, spec4, eqCells, eqCell]
          exact ⟨⟨True, trivial⟩, rfl⟩
end Go.Proofs.Ytpbgnnaaobamfaa

/-
  layer 14: the keys of a trie by rows (after trie/T33).
-/
namespace Go.Proofs.Ytpbgnnaaobamfaa
open Go.RowKit
set_option linter.unusedSimpArgs false
set_option linter.unusedVariables false
set_option maxRecDepth 100000

theorem marksF_zero (l : List (List Int)) : ∀ m, marksF l 0 m = [0]
  | 0 => rfl
  | m + 1 => by
    rw [marksF, if_neg, marksF_zero l m]
    rintro ⟨h1, h2⟩
    simp [freshB, h1] at h2
def Kn (rows : List (List Int)) (k m : Nat) : Nat := (keysF rows k m).length
section
variable {rows : List (List Int)}
theorem ix_app_l {l r : List Int} {i : Nat} (h : i < l.length) : ix (l ++ r) i = ix l i := by
  unfold ix
  simp only [List.getD_eq_getElem?_getD]
  rw [List.getElem?_append_left h]
theorem ix_app_r (l : List Int) (x : Int) : ix (l ++ [x]) l.length = x := by
  unfold ix
  simp
theorem ix_take (l : List Int) {i n : Nat} (h : i < n) : ix (l.take n) i = ix l i := by
  unfold ix
  simp only [List.getD_eq_getElem?_getD]
  rw [List.getElem?_take, if_pos h]
theorem fresh_zero (k : Nat) : freshB rows 0 k = true := by simp [freshB]
theorem fresh_no {i k : Nat} (h : freshB rows i k = false) : i ≠ 0 ∧ (ix rows i).take k = (ix rows (i - 1)).take k := by
  unfold freshB at h
  simp at h
  exact h
theorem fresh_yes {i k : Nat} (h : freshB rows i k = true) (h0 : i ≠ 0) : (ix rows i).take k ≠ (ix rows (i - 1)).take k := by
  unfold freshB at h
  simp [h0] at h
  exact h
theorem fresh_up {i k : Nat} (h : freshB rows i k = true) : freshB rows i (k + 1) = true := by
  cases h2 : freshB rows i (k + 1) with
  | true => rfl
  | false =>
    obtain ⟨h3, h4⟩ := fresh_no h2
    refine absurd ?_ (fresh_yes h h3)
    have := congrArg (List.take k) h4
    rwa [List.take_take, List.take_take, Nat.min_eq_left (by omega)] at this
theorem Kn_zero (k : Nat) : Kn rows k 0 = 0 := rfl
theorem Kn_fresh {k m : Nat} (h : freshB rows m (k + 1) = true) : Kn rows k (m + 1) = Kn rows k m + 1 := by
  unfold Kn
  rw [keysF, if_pos h, List.length_append]; rfl
theorem Kn_not {k m : Nat} (h : freshB rows m (k + 1) = false) : Kn rows k (m + 1) = Kn rows k m := by
  unfold Kn
  rw [keysF, if_neg (by rw [h]; decide)]
theorem Kn_step (k m : Nat) : Kn rows k m ≤ Kn rows k (m + 1) := by
  cases h : freshB rows m (k + 1) with
  | true => rw [Kn_fresh h]; omega
  | false => rw [Kn_not h]; omega
theorem Kn_mono {k i j : Nat} (h : i ≤ j) : Kn rows k i ≤ Kn rows k j := by
  induction j with
  | zero => rw [Nat.le_zero.1 h]; exact Nat.le_refl _
  | succ j ih =>
    rcases Nat.lt_or_eq_of_le h with h1 | h1
    · exact Nat.le_trans (ih (by omega)) (Kn_step k j)
    · rw [h1]; exact Nat.le_refl _
theorem keys_same {k j m : Nat} (hj : j < Kn rows k m) : ∀ d, ix (keysF rows k (m + d)) j = ix (keysF rows k m) j
  | 0 => rfl
  | d + 1 => by
    have ih := keys_same hj d
    have hm := Kn_mono (rows := rows) (k := k) (show m ≤ m + d by omega)
    unfold Kn at hj hm
    rw [← Nat.add_assoc, keysF]
    split
    · rw [ix_app_l (by omega), ih]
    · exact ih
theorem keys_pos (k i : Nat) : 0 < Kn rows k (i + 1) := by
  have h1 := Kn_fresh (fresh_zero (rows := rows) (k + 1))
  have h2 := Kn_mono (rows := rows) (k := k) (show 1 ≤ i + 1 by omega)
  rw [Nat.zero_add] at h1
  omega
theorem key_last (k : Nat) : ∀ i, ix (keysF rows k (i + 1)) (Kn rows k (i + 1) - 1) = ix (ix rows i) k
  | 0 => by
    rw [Kn_fresh (fresh_zero _), Kn_zero, keysF, if_pos (fresh_zero _)]
    rfl
  | i + 1 => by
    have ih := key_last k i
    cases h : freshB rows (i + 1) (k + 1) with
    | true =>
      rw [Kn_fresh h, keysF, if_pos h, Nat.add_sub_cancel]
      exact ix_app_r _ _
    | false =>
      rw [Kn_not h, keysF, if_neg (by rw [h]; decide), ih]
      obtain ⟨_, h2⟩ := fresh_no h
      rw [Nat.add_sub_cancel] at h2
      rw [← ix_take (ix rows i) (Nat.lt_succ_self k), ← h2, ix_take _ (Nat.lt_succ_self k)]
theorem key_at {k i N : Nat} (h : i < N) : ix (keysF rows k N) (Kn rows k (i + 1) - 1) = ix (ix rows i) k := by
  have := keys_pos (rows := rows) k i
  rw [← key_last k i, ← keys_same (m := i + 1) (by omega) (N - (i + 1)), show i + 1 + (N - (i + 1)) = N by omega]
theorem key_start {k : Nat} : ∀ {N c : Nat}, c < Kn rows k N → ∃ s, s < N ∧ freshB rows s (k + 1) = true ∧ Kn rows k s = c
  | 0, c, h => by rw [Kn_zero] at h; omega
  | N + 1, c, h => by
    cases hf : freshB rows N (k + 1) with
    | true =>
      rw [Kn_fresh hf] at h
      by_cases e : c = Kn rows k N
      · exact ⟨N, Nat.lt_succ_self N, hf, e.symm⟩
      · obtain ⟨s, h1, h2, h3⟩ := key_start (k := k) (N := N) (c := c) (by omega)
        exact ⟨s, by omega, h2, h3⟩
    | false =>
      rw [Kn_not hf] at h
      obtain ⟨s, h1, h2, h3⟩ := key_start h
      exact ⟨s, by omega, h2, h3⟩
theorem key_cut {k N c : Nat} (h : c ≤ Kn rows k N) : ∃ s, s ≤ N ∧ (s = N ∨ freshB rows s (k + 1) = true) ∧ Kn rows k s = c := by
  rcases Nat.lt_or_eq_of_le h with h | h
  · obtain ⟨s, h1, h2, h3⟩ := key_start h
    exact ⟨s, by omega, .inr h2, h3⟩
  · exact ⟨N, Nat.le_refl N, .inl rfl, h.symm⟩
theorem marks_len (k : Nat) : ∀ m, (marksF rows (k + 1) (m + 1)).length = Kn rows k (m + 1)
  | 0 => by
    rw [Kn_fresh (fresh_zero _), Kn_zero, marksF, if_neg (by simp)]
    rfl
  | m + 1 => by
    have ih := marks_len k m
    rw [marksF]
    cases h : freshB rows (m + 1) (k + 1) with
    | true => rw [if_pos ⟨by omega, rfl⟩, List.length_append, ih, Kn_fresh h]; rfl
    | false => rw [if_neg (by simp), ih, Kn_not h]
theorem marks_val {k : Nat} : ∀ {m s : Nat}, s < m → freshB rows s (k + 1) = true → ix (marksF rows (k + 1) m) (Kn rows k s) = (Kn rows (k + 1) s : Int)
  | 0, s, h, _ => absurd h (Nat.not_lt_zero s)
  | m + 1, s, h, hf => by
    rcases Nat.lt_or_eq_of_le (Nat.le_of_lt_succ h) with h1 | h1
    · have ih := marks_val h1 hf
      rw [marksF]
      split
      · rw [ix_app_l, ih]
        have e := marks_len (rows := rows) k (m - 1)
        rw [show m - 1 + 1 = m by omega] at e
        rw [e]
        have := Kn_mono (rows := rows) (k := k) (show s + 1 ≤ m by omega)
        rw [Kn_fresh hf] at this
        omega
      · exact ih
    · subst h1
      rw [marksF]
      by_cases h0 : s = 0
      · subst h0
        rw [if_neg (by simp)]
        rfl
      · rw [if_pos ⟨h0, hf⟩]
        have e := marks_len (rows := rows) k (s - 1)
        rw [show s - 1 + 1 = s by omega] at e
        rw [← e]
        exact ix_app_r _ _
theorem first_val {k s : Nat} (h : s ≤ rows.length) (hs : s = rows.length ∨ freshB rows s (k + 1) = true) : ix (levelF rows (k + 1)).first (Kn rows k s) = (Kn rows (k + 1) s : Int) := by
  unfold levelF
  simp only
  by_cases h0 : rows.length = 0
  · rw [if_neg (by omega)]
    have : s = 0 := by omega
    subst this
    rfl
  · rw [if_pos (by omega)]
    have e := marks_len (rows := rows) k (rows.length - 1)
    rw [show rows.length - 1 + 1 = rows.length by omega] at e
    rcases Nat.lt_or_eq_of_le h with h1 | h1
    · have hf := hs.resolve_left (by omega)
      rw [ix_app_l, marks_val h1 hf]
      rw [e]
      have := Kn_mono (rows := rows) (k := k) (show s + 1 ≤ rows.length by omega)
      rw [Kn_fresh hf] at this
      omega
    · rw [h1, ← e]
      exact ix_app_r _ _
theorem first_len (k : Nat) : (levelF rows (k + 1)).first.length = Kn rows k rows.length + 1 := by
  unfold levelF
  simp only
  by_cases h0 : rows.length = 0
  · rw [if_neg (by omega), h0]
    rfl
  · rw [if_pos (by omega), List.length_append]
    have e := marks_len (rows := rows) k (rows.length - 1)
    rw [show rows.length - 1 + 1 = rows.length by omega] at e
    rw [e]
    rfl
theorem first_zero : (levelF rows 0).first = [0, (Kn rows 0 rows.length : Int)] := by
  unfold levelF
  simp only
  rw [if_pos (by simp), marksF_zero]
  rfl
end
end Go.Proofs.Ytpbgnnaaobamfaa

/-
  layer 33: the groups of a trie are the rows with a prefix.
-/
namespace Go.Proofs.Ytpbgnnaaobamfaa
open Go.RowKit
set_option linter.unusedSimpArgs false
set_option linter.unusedVariables false

theorem cmpL_col : ∀ {c : Nat} {a b : List Int}, cmpL a b < 0 → a.take c = b.take c → c < a.length → c < b.length → ix a c ≤ ix b c
  | 0, x :: r, y :: q, h, _, _, _ => by
    rw [cmpL] at h
    split at h
    · show x ≤ y; omega
    · split at h
      · exact absurd h (by decide)
      · show x ≤ y; omega
  | c + 1, x :: r, y :: q, h, ht, ha, hb => by
    simp only [List.take_succ_cons, List.cons.injEq] at ht
    obtain ⟨rfl, ht⟩ := ht
    rw [cmpL, if_neg (Int.lt_irrefl _), if_neg (Int.lt_irrefl _)] at h
    exact cmpL_col (c := c) h ht (by simpa using ha) (by simpa using hb)
  | _, [], _, _, _, ha, _ => absurd ha (by simp)
  | _, _ :: _, [], _, _, _, hb => absurd hb (by simp)

/-- The rows s .. e - 1 are those that begin with p. -/
structure Rng (rows : List (List Int)) (c : Nat) (p : List Int) (s e : Nat) : Prop where
  se : s < e
  eN : e ≤ rows.length
  mem : ∀ i, i < rows.length → ((s ≤ i ∧ i < e) ↔ (ix rows i).take c = p)
section
variable {rows : List (List Int)} {c : Nat} {p : List Int} {s e : Nat}
theorem Rng.fs (h : Rng rows c p s e) : freshB rows s c = true := by
  cases hf : freshB rows s c with
  | true => rfl
  | false =>
    obtain ⟨h0, h1⟩ := fresh_no hf
    have hs := (h.mem s (by have := h.se; have := h.eN; omega)).1 ⟨Nat.le_refl _, h.se⟩
    have := (h.mem (s - 1) (by have := h.se; have := h.eN; omega)).2 (by rw [← h1, hs])
    omega
theorem Rng.fe (h : Rng rows c p s e) : e = rows.length ∨ freshB rows e c = true := by
  rcases Nat.lt_or_ge e rows.length with h1 | h1
  · right
    cases hf : freshB rows e c with
    | true => rfl
    | false =>
      obtain ⟨h0, h2⟩ := fresh_no hf
      have := (h.mem (e - 1) (by omega)).1 ⟨by have := h.se; omega, by omega⟩
      have := (h.mem e h1).2 (by rw [h2, this])
      omega
  · exact .inl (by have := h.eN; omega)
theorem Rng.fi (h : Rng rows c p s e) {i : Nat} (h1 : s < i) (h2 : i < e) : freshB rows i c = false := by
  cases hf : freshB rows i c with
  | false => rfl
  | true =>
    have := h.eN
    refine absurd ?_ (fresh_yes hf (by omega))
    rw [(h.mem i (by omega)).1 ⟨by omega, h2⟩, (h.mem (i - 1) (by omega)).1 ⟨by omega, by omega⟩]
theorem kn_const {k : Nat} (hs : freshB rows s (k + 1) = true) : ∀ {e : Nat}, s < e → (∀ i, s < i → i < e → freshB rows i (k + 1) = false) → Kn rows k e = Kn rows k s + 1
  | 0, h, _ => absurd h (Nat.not_lt_zero _)
  | e + 1, h, hi => by
    rcases Nat.lt_or_eq_of_le (Nat.le_of_lt_succ h) with h1 | h1
    · rw [Kn_not (hi e h1 (Nat.lt_succ_self e))]
      exact kn_const hs h1 fun i a b => hi i a (by omega)
    · rw [← h1]; exact Kn_fresh hs
theorem Rng.kn {k : Nat} (h : Rng rows (k + 1) p s e) : Kn rows k e = Kn rows k s + 1 := kn_const h.fs h.se fun i a b => h.fi a b
/-- The group's number. -/
def grpN (rows : List (List Int)) (c s : Nat) : Nat := match c with | 0 => 0 | k + 1 => Kn rows k s
theorem Rng.first (h : Rng rows c p s e) : ix (levelF rows c).first (grpN rows c s) = (Kn rows c s : Int) ∧ ix (levelF rows c).first (grpN rows c s + 1) = (Kn rows c e : Int) ∧ grpN rows c s + 1 < (levelF rows c).first.length := by
  have hN := h.eN
  have hse := h.se
  cases c with
  | zero =>
    have hs : s = 0 := by
      have := (h.mem 0 (by omega)).2 (by have := (h.mem s (by omega)).1 ⟨Nat.le_refl _, hse⟩; rw [List.take_zero] at this ⊢; exact this)
      omega
    have he : e = rows.length := by
      have := (h.mem (rows.length - 1) (by omega)).2 (by have := (h.mem s (by omega)).1 ⟨Nat.le_refl _, hse⟩; rw [List.take_zero] at this ⊢; exact this)
      omega
    subst hs he
    rw [first_zero]
    exact ⟨rfl, rfl, by show 0 + 1 < 2; decide⟩
  | succ k =>
    refine ⟨first_val (by omega) (.inr h.fs), ?_, ?_⟩
    · show ix _ (Kn rows k s + 1) = _
      rw [← h.kn]; exact first_val hN h.fe
    · show Kn rows k s + 1 < _
      rw [first_len, ← h.kn]
      have := Kn_mono (rows := rows) (k := k) hN
      omega
/-- The keys of the group. -/
def clK (rows : List (List Int)) (c s e : Nat) : List Int := ((keysF rows c rows.length).drop (Kn rows c s)).take (Kn rows c e - Kn rows c s)
theorem clK_len (h : e ≤ rows.length) : (clK rows c s e).length = Kn rows c e - Kn rows c s := by
  unfold clK
  rw [List.length_take, List.length_drop]
  have : Kn rows c e ≤ (keysF rows c rows.length).length := Kn_mono h
  omega
theorem clK_at {a : Nat} (ha : a < Kn rows c e - Kn rows c s) : ix (clK rows c s e) a = ix (keysF rows c rows.length) (Kn rows c s + a) := by
  unfold clK
  rw [ix_take _ ha, ix_drop]
/-- Each key is that of a row that is fresh. -/
theorem Rng.row (h : Rng rows c p s e) {a : Nat} (ha : a < Kn rows c e - Kn rows c s) : ∃ i, s ≤ i ∧ i < e ∧ freshB rows i (c + 1) = true ∧ Kn rows c i = Kn rows c s + a ∧ ix (clK rows c s e) a = ix (ix rows i) c := by
  have hN := h.eN
  have hm := Kn_mono (rows := rows) (k := c) hN
  obtain ⟨i, h1, h2, h3⟩ := key_start (rows := rows) (k := c) (N := rows.length) (c := Kn rows c s + a) (by omega)
  have hsi : s ≤ i := by
    apply Nat.le_of_not_lt; intro hlt
    have := Kn_mono (rows := rows) (k := c) (show i + 1 ≤ s by omega)
    rw [Kn_fresh h2] at this
    omega
  have hie : i < e := by
    apply Nat.lt_of_not_le; intro hle
    have := Kn_mono (rows := rows) (k := c) hle
    omega
  refine ⟨i, hsi, hie, h2, h3, ?_⟩
  rw [clK_at ha, ← key_at h1, Kn_fresh h2, Nat.add_sub_cancel, h3]
/-- Sorted rows of n columns. -/
structure Sorted (rows : List (List Int)) (n : Nat) : Prop where
  r : RisesR rows
  l : ∀ r ∈ rows, r.length = n
variable {n : Nat}
theorem Rng.mono (hS : Sorted rows n) (hc : c < n) (h : Rng rows c p s e) : ∀ {i j : Nat}, s ≤ i → i ≤ j → j < e → ix (ix rows i) c ≤ ix (ix rows j) c := by
  intro i j h1 h2 h3
  have hN := h.eN
  induction j with
  | zero => have : i = 0 := by omega
            rw [this]; exact Int.le_refl _
  | succ j ih =>
    rcases Nat.lt_or_eq_of_le h2 with h4 | h4
    · have a := ih (by omega) (by omega)
      have b := cmpL_col (hS.r j (by omega)) (by rw [(h.mem j (by omega)).1 ⟨by omega, by omega⟩, (h.mem (j + 1) (by omega)).1 ⟨by omega, h3⟩]) (c := c) (by rw [hS.l _ (ix_mem (by omega))]; exact hc) (by rw [hS.l _ (ix_mem (by omega))]; exact hc)
      omega
    · rw [h4]; exact Int.le_refl _
theorem take_col {a b : List Int} (hb : c < b.length) (ha : c < a.length) (h1 : a.take c = b.take c) (h2 : ix a c = ix b c) : a.take (c + 1) = b.take (c + 1) := by
  rw [take_snoc ha, take_snoc hb, h1, h2]
theorem Rng.inc (hS : Sorted rows n) (hc : c < n) (h : Rng rows c p s e) : Inc (clK rows c s e) := by
  have hN := h.eN
  refine List.pairwise_iff_getElem.2 fun a b ha hb hab => ?_
  have hl := clK_len (rows := rows) (c := c) (s := s) hN
  rw [← ix_lt ha, ← ix_lt hb]
  obtain ⟨i, i1, i2, i3, i4, i5⟩ := h.row (a := a) (by omega)
  obtain ⟨j, j1, j2, j3, j4, j5⟩ := h.row (a := b) (by omega)
  rw [i5, j5]
  have hij : i < j := by
    apply Nat.lt_of_not_le; intro hle
    have := Kn_mono (rows := rows) (k := c) hle
    omega
  have m := h.mono hS hc i1 (show i ≤ j - 1 by omega) (by omega)
  have m2 := h.mono hS hc (show s ≤ j - 1 by omega) (show j - 1 ≤ j by omega) j2
  have ne : ix (ix rows (j - 1)) c ≠ ix (ix rows j) c := fun e => by
    have hf := fresh_yes j3 (by omega)
    refine hf (take_col (by rw [hS.l _ (ix_mem (by omega))]; exact hc) (by rw [hS.l _ (ix_mem (by omega))]; exact hc) ?_ e.symm)
    rw [(h.mem j (by omega)).1 ⟨j1, j2⟩, (h.mem (j - 1) (by omega)).1 ⟨by omega, by omega⟩]
  omega
theorem Rng.key (h : Rng rows c p s e) {i : Nat} (h1 : s ≤ i) (h2 : i < e) : Kn rows c s < Kn rows c (i + 1) ∧ Kn rows c (i + 1) ≤ Kn rows c e ∧ ix (clK rows c s e) (Kn rows c (i + 1) - 1 - Kn rows c s) = ix (ix rows i) c := by
  have hN := h.eN
  have a : Kn rows c s < Kn rows c (s + 1) := by rw [Kn_fresh (fresh_up h.fs)]; omega
  have b := Kn_mono (rows := rows) (k := c) (show s + 1 ≤ i + 1 by omega)
  have d := Kn_mono (rows := rows) (k := c) (show i + 1 ≤ e by omega)
  refine ⟨by omega, d, ?_⟩
  rw [clK_at (by omega), ← key_at (show i < rows.length by omega)]
  congr 1
  omega
theorem Rng.mem_cl (h : Rng rows c p s e) {z : Int} : z ∈ clK rows c s e ↔ ∃ i, s ≤ i ∧ i < e ∧ ix (ix rows i) c = z := by
  have hN := h.eN
  have hl := clK_len (rows := rows) (c := c) (s := s) hN
  constructor
  · intro hz
    obtain ⟨a, ha, rfl⟩ := mem_ix hz
    obtain ⟨i, i1, i2, _, _, i5⟩ := h.row (a := a) (by omega)
    exact ⟨i, i1, i2, i5.symm⟩
  · rintro ⟨i, i1, i2, rfl⟩
    obtain ⟨k1, k2, k3⟩ := h.key i1 i2
    rw [← k3]
    exact ix_mem (by omega)
theorem inc_inj {l : List Int} (h : Inc l) {a b : Nat} (ha : a < l.length) (hb : b < l.length) (e : ix l a = ix l b) : a = b := by
  rcases Nat.lt_trichotomy a b with h1 | h1 | h1
  · have := inc_ix h h1 hb; omega
  · exact h1
  · have := inc_ix h h1 ha; omega
theorem lbd_inc {l : List Int} (h : Inc l) {a : Nat} (ha : a < l.length) : lbd l (ix l a) = a :=
  lbd_at (fun j hj => inc_ix h hj ha) (Nat.le_of_lt ha) fun _ => Int.le_refl _
/-- The group of a key. -/
theorem Rng.sub (hS : Sorted rows n) (hc : c < n) (h : Rng rows c p s e) {x : Int} (hx : x ∈ clK rows c s e) (hp : p.length = c) : ∃ s' e', Rng rows (c + 1) (p ++ [x]) s' e' ∧ Kn rows c s' = Kn rows c s + lbd (clK rows c s e) x ∧ s ≤ s' ∧ e' ≤ e := by
  have hN := h.eN
  have hi := h.inc hS hc
  have hl := clK_len (rows := rows) (c := c) (s := s) hN
  obtain ⟨a, ha, rfl⟩ := mem_ix hx
  rw [lbd_inc hi ha]
  obtain ⟨s', s1, s2, s3, s4, s5⟩ := h.row (a := a) (by omega)
  have hmN := Kn_mono (rows := rows) (k := c) hN
  obtain ⟨e', f1, f2, f3⟩ := key_cut (rows := rows) (k := c) (N := rows.length) (c := Kn rows c s + a + 1) (by omega)
  have hse : s' < e' := by
    apply Nat.lt_of_not_le; intro hle
    have := Kn_mono (rows := rows) (k := c) hle
    omega
  have hee : e' ≤ e := by
    apply Nat.le_of_not_lt; intro hlt
    rcases h.fe with h1 | h1
    · omega
    · have := Kn_mono (rows := rows) (k := c) (show e + 1 ≤ e' by omega)
      rw [Kn_fresh (fresh_up h1)] at this
      omega
  refine ⟨s', e', ⟨hse, f1, fun i hiN => ⟨fun ⟨g1, g2⟩ => ?_, fun g => ?_⟩⟩, s4, s1, hee⟩
  · -- a row between
    obtain ⟨k1, k2, k3⟩ := h.key (i := i) (by omega) (by omega)
    have u1 := Kn_mono (rows := rows) (k := c) (show s' + 1 ≤ i + 1 by omega)
    rw [Kn_fresh s3] at u1
    have u2 := Kn_mono (rows := rows) (k := c) (show i + 1 ≤ e' by omega)
    have e1 : Kn rows c (i + 1) - 1 - Kn rows c s = a := by omega
    rw [e1] at k3
    rw [take_snoc (by rw [hS.l _ (ix_mem hiN)]; exact hc), (h.mem i hiN).1 ⟨by omega, by omega⟩, ← k3]
  · have hic : c < (ix rows i).length := by rw [hS.l _ (ix_mem hiN)]; exact hc
    rw [take_snoc hic] at g
    have g3 : (ix rows i).take c = p ∧ [ix (ix rows i) c] = [ix (clK rows c s e) a] := List.append_inj' g rfl
    obtain ⟨g1, g2⟩ := g3
    have g2 : ix (ix rows i) c = ix (clK rows c s e) a := by simpa using g2
    obtain ⟨r1, r2⟩ := (h.mem i hiN).2 g1
    obtain ⟨k1, k2, k3⟩ := h.key r1 r2
    have e1 := inc_inj hi (a := Kn rows c (i + 1) - 1 - Kn rows c s) (b := a) (by omega) ha (by rw [k3, g2])
    constructor
    · apply Nat.le_of_not_lt; intro hlt
      have := Kn_mono (rows := rows) (k := c) (show i + 1 ≤ s' by omega)
      omega
    · apply Nat.lt_of_not_le; intro hle
      rcases f2 with h1 | h1
      · omega
      · have := Kn_mono (rows := rows) (k := c) (show e' + 1 ≤ i + 1 by omega)
        rw [Kn_fresh h1] at this
        omega
theorem Rng.unique {s' e' : Nat} (h : Rng rows c p s e) (h' : Rng rows c p s' e') : s = s' ∧ e = e' := by
  have a := h.se; have b := h.eN; have a' := h'.se; have b' := h'.eN
  have k1 : ∀ i, i < rows.length → ((s ≤ i ∧ i < e) ↔ (s' ≤ i ∧ i < e')) := fun i hi => (h.mem i hi).trans (h'.mem i hi).symm
  have w1 := (k1 s (by omega)).1 ⟨Nat.le_refl _, a⟩
  have w2 := (k1 s' (by omega)).2 ⟨Nat.le_refl _, a'⟩
  have w3 := (k1 (e - 1) (by omega)).1 ⟨by omega, by omega⟩
  have w4 := (k1 (e' - 1) (by omega)).2 ⟨by omega, by omega⟩
  omega
theorem Rng.start (hN : 0 < rows.length) : Rng rows 0 [] 0 rows.length := ⟨hN, Nat.le_refl _, fun i hi => ⟨fun _ => List.take_zero, fun _ => ⟨Nat.zero_le _, hi⟩⟩⟩
end
end Go.Proofs.Ytpbgnnaaobamfaa

/-
  layer 33: a relation of a join against a tuple.
-/
namespace Go.Proofs.Ytpbgnnaaobamfaa
open Go.RowKit
set_option linter.unusedSimpArgs false
set_option linter.unusedVariables false

/-- The values of a tuple at the first e variables. -/
def pathF (vs t : List Int) (e : Nat) : List Int := (vs.take e).map fun u => ix t u.toNat
theorem pathF_len {vs t : List Int} {e : Nat} (h : e ≤ vs.length) : (pathF vs t e).length = e := by unfold pathF; rw [List.length_map, List.length_take]; omega
theorem pathF_succ {vs t : List Int} {e : Nat} (h : e < vs.length) : pathF vs t (e + 1) = pathF vs t e ++ [ix t (ix vs e).toNat] := by
  unfold pathF
  rw [take_snoc h, List.map_append]; rfl
theorem ix_snoc_l {l : List Int} {x : Int} {i : Nat} (h : i < l.length) : ix (l ++ [x]) i = ix l i := ix_app_l h
theorem pathF_app {vs t : List Int} {x : Int} {e : Nat} (h : ∀ i, i < e → i < vs.length → 0 ≤ ix vs i ∧ ix vs i < t.length) : pathF vs (t ++ [x]) e = pathF vs t e := by
  unfold pathF
  refine List.map_congr_left fun u hu => ?_
  obtain ⟨i, hi, rfl⟩ := mem_ix hu
  rw [List.length_take] at hi
  rw [ix_take _ (by omega)]
  obtain ⟨a, b⟩ := h i (by omega) (by omega)
  exact ix_snoc_l (by omega)
/-- The rows of R that agree with the tuple so far give these values. -/
def candV (R : Rela) (vs t : List Int) (c : Nat) : List Int := (R.rows.filter fun row => decide (row.take c = pathF vs t c)).map fun row => ix row c
structure RelOK (R : Rela) (r : RelS) (t : List Int) : Prop where
  tr : r.t = ⟨levelsF R.rows R.arity.toNat⟩
  srt : Sorted R.rows R.arity.toNat
  big : R.rows.length ≤ 20000
  n8 : R.arity.toNat ≤ 8
  vl : r.vs.length = R.arity.toNat
  vi : Inc r.vs
  v0 : ∀ u ∈ r.vs, 0 ≤ u
  cl : r.c ≤ r.vs.length
  c1 : ∀ i, i < r.c → ix r.vs i < t.length
  c2 : r.c < r.vs.length → (t.length : Int) ≤ ix r.vs r.c
  cA : r.c ≤ r.A.length
  A8 : r.A.length ≤ 8
  path : ∀ e, e < r.c → ∃ s e', Rng R.rows (e + 1) (pathF r.vs t (e + 1)) s e' ∧ ix r.A e = (Kn R.rows e s : Int)
theorem levels_at {rows : List (List Int)} {n c : Nat} (h : c < n) : ix (levelsF rows n) c = levelF rows c := by
  unfold levelsF
  rw [ix_map (by rw [List.length_range]; exact h), ix_lt (by rw [List.length_range]; exact h), List.getElem_range]
theorem Kn_le (rows : List (List Int)) (c m : Nat) : Kn rows c m ≤ m := keysF_le rows c m
theorem of_mem_inc {l : List Int} {v : List Int} (hl : Inc l) (h : ∀ z, z ∈ l ↔ z ∈ v) : l = of v := sorted_ext hl (of_sorted v) fun z => by rw [h, mem_of]
/-- A relation that takes part: its candidates are the values that the rows give. -/
theorem RelOK.cand {R : Rela} {r : RelS} {t : List Int} (h : RelOK R r t) (hm : r.c < r.vs.length) : EntOK r ∧ candL r = of (candV R r.vs t r.c) ∧ (∀ s e, Rng R.rows r.c (pathF r.vs t r.c) s e → fromI r = (Kn R.rows r.c s : Int) ∧ candL r = clK R.rows r.c s e) := by
  have hcn : r.c < R.arity.toNat := by have := h.vl; omega
  have hlev : ix r.t.levels r.c = levelF R.rows r.c := by rw [h.tr]; exact levels_at hcn
  have hll : r.t.levels.length = R.arity.toNat := by rw [h.tr]; exact levelsF_length _ _
  have h8 := h.n8
  have hb := h.big
  have hcA := h.cA
  have hA8 := h.A8
  have hkl : (keysL r).length ≤ 20000 := by
    unfold keysL
    rw [hlev]
    exact Nat.le_trans (keysF_le _ _ _) hb
  by_cases h0 : R.rows.length = 0
  · -- no rows
    have hrows : R.rows = [] := List.length_eq_zero_iff.1 h0
    have hc0 : r.c = 0 := by
      apply Classical.byContradiction; intro hne
      obtain ⟨s, e', hr, _⟩ := h.path 0 (by omega)
      have := hr.se; have := hr.eN
      omega
    have hf : firstL r = [0, 0] := by unfold firstL; rw [hlev, hc0, hrows]; rfl
    have hk : keysL r = [] := by unfold keysL; rw [hlev, hc0, hrows]; rfl
    have hg : gI r = 0 := by unfold gI; rw [if_pos hc0]
    have hfr : fromI r = 0 := by unfold fromI; rw [hf, hg]; rfl
    have hto : toI r = 0 := by unfold toI; rw [hf, hg]; rfl
    have hcl : candL r = [] := by unfold candL; rw [hk]; simp
    refine ⟨⟨⟨⟨hcA, by omega, by omega, by omega, by rw [hf, hg]; decide, by rw [hf]; decide⟩, by omega, by omega, by rw [hto]; omega, by omega⟩, by rw [hcl]; exact .nil, by omega⟩, ?_, fun s e hr => ?_⟩
    · rw [hcl]; unfold candV; rw [hrows]; rfl
    · have := hr.se; have := hr.eN; omega
  · -- the range
    obtain ⟨s, e, hr, hgr⟩ : ∃ s e, Rng R.rows r.c (pathF r.vs t r.c) s e ∧ gI r = (grpN R.rows r.c s : Int) := by
      by_cases hc0 : r.c = 0
      · refine ⟨0, R.rows.length, ?_, ?_⟩
        · rw [hc0]; exact Rng.start (by omega)
        · unfold gI; rw [if_pos hc0, hc0]; rfl
      · obtain ⟨s, e', hr, hA⟩ := h.path (r.c - 1) (by omega)
        rw [show r.c - 1 + 1 = r.c by omega] at hr
        refine ⟨s, e', hr, ?_⟩
        unfold gI
        rw [if_neg hc0, hA]
        obtain ⟨k, hk⟩ : ∃ k, r.c = k + 1 := ⟨r.c - 1, by omega⟩
        rw [hk]; rfl
    have key : ∀ s e, Rng R.rows r.c (pathF r.vs t r.c) s e → fromI r = (Kn R.rows r.c s : Int) ∧ toI r = (Kn R.rows r.c e : Int) ∧ (firstL r).length ≤ 1000000 ∧ gI r + 1 < (firstL r).length ∧ 0 ≤ gI r := fun s2 e2 hr2 => by
      obtain ⟨rfl, rfl⟩ := hr.unique hr2
      obtain ⟨f1, f2, f3⟩ := hr.first
      have hgn : (gI r).toNat = grpN R.rows r.c s := by rw [hgr]; rfl
      refine ⟨?_, ?_, ?_, ?_, by rw [hgr]; omega⟩
      · unfold fromI firstL; rw [hgn, hlev]; exact f1
      · unfold toI firstL; rw [hgn, hlev]; exact f2
      · unfold firstL
        rw [hlev]
        cases hc : r.c with
        | zero => rw [first_zero]; show 2 ≤ 1000000; decide
        | succ k => rw [first_len]; have := Kn_le R.rows k R.rows.length; omega
      · unfold firstL; rw [hlev, hgr]; omega
    obtain ⟨k1, k2, k3, k4, k5⟩ := key s e hr
    have hcl : candL r = clK R.rows r.c s e := by
      unfold candL keysL
      rw [k1, k2, hlev]
      rfl
    have hm1 := Kn_mono (rows := R.rows) (k := r.c) (Nat.le_of_lt hr.se)
    have hm2 := Kn_mono (rows := R.rows) (k := r.c) hr.eN
    have hkl2 : (keysL r).length = Kn R.rows r.c R.rows.length := by unfold keysL; rw [hlev]; rfl
    refine ⟨⟨⟨⟨hcA, by omega, by omega, k5, k4, k3⟩, by omega, by omega, by omega, by omega⟩, by rw [hcl]; exact hr.inc h.srt hcn, by omega⟩, ?_, fun s2 e2 hr2 => ?_⟩
    · rw [hcl]
      refine of_mem_inc (hr.inc h.srt hcn) fun z => ?_
      rw [hr.mem_cl]
      unfold candV
      rw [List.mem_map]
      constructor
      · rintro ⟨i, i1, i2, rfl⟩
        have hi : i < R.rows.length := by have := hr.eN; omega
        exact ⟨_, List.mem_filter.2 ⟨ix_mem hi, by simpa using (hr.mem i hi).1 ⟨i1, i2⟩⟩, rfl⟩
      · rintro ⟨row, hrow, rfl⟩
        obtain ⟨g1, g2⟩ := List.mem_filter.1 hrow
        obtain ⟨i, hi, rfl⟩ := mem_ix g1
        obtain ⟨i1, i2⟩ := (hr.mem i hi).2 (by simpa using g2)
        exact ⟨i, i1, i2, rfl⟩
    · obtain ⟨rfl, rfl⟩ := hr.unique hr2
      exact ⟨k1, hcl⟩
theorem pushA_len {A : List Int} {c : Nat} {v : Int} (h : c ≤ A.length) : c + 1 ≤ (pushA A c v).length ∧ (pushA A c v).length ≤ max A.length (c + 1) := by
  unfold pushA
  split
  · rename_i e; rw [List.length_append, List.length_singleton]; omega
  · rw [List.length_set]; omega
theorem pushA_at {A : List Int} {c : Nat} {v : Int} (h : c ≤ A.length) : ix (pushA A c v) c = v ∧ ∀ i, i < c → ix (pushA A c v) i = ix A i := by
  unfold pushA
  split
  · rename_i e
    refine ⟨by rw [e]; exact ix_app_r A v, fun i hi => ix_app_l (by omega)⟩
  · refine ⟨by rw [ix_set, if_pos ⟨rfl, by omega⟩], fun i hi => by rw [ix_set, if_neg (by omega)]⟩
/-- A key of a relation that takes part is entered. -/
theorem RelOK.enter {R : Rela} {r : RelS} {t : List Int} (h : RelOK R r t) (hm : r.c < r.vs.length) (hv : ix r.vs r.c = t.length) {x : Int} (hx : x ∈ candL r) : RelOK R (enterF r x) (t ++ [x]) := by
  have hcn : r.c < R.arity.toNat := by have := h.vl; omega
  obtain ⟨hE, hC, hK⟩ := h.cand hm
  have hne : 0 < R.rows.length := by
    apply Nat.pos_of_ne_zero; intro h0
    rw [hC] at hx
    have := (mem_of _ _).1 hx
    unfold candV at this
    rw [List.length_eq_zero_iff.1 h0] at this
    simp at this
  obtain ⟨s, e, hr⟩ : ∃ s e, Rng R.rows r.c (pathF r.vs t r.c) s e := by
    by_cases hc0 : r.c = 0
    · exact ⟨0, R.rows.length, by rw [hc0]; exact Rng.start hne⟩
    · obtain ⟨s, e', hr, _⟩ := h.path (r.c - 1) (by omega)
      rw [show r.c - 1 + 1 = r.c by omega] at hr
      exact ⟨s, e', hr⟩
  obtain ⟨hf, hcl⟩ := hK s e hr
  rw [hcl] at hx
  obtain ⟨s', e', hr', hkn, _, _⟩ := hr.sub h.srt hcn hx (pathF_len (by omega))
  obtain ⟨l1, l2⟩ := pushA_len (v := fromI r + lbd (candL r) x) h.cA
  obtain ⟨a1, a2⟩ := pushA_at (v := fromI r + lbd (candL r) x) h.cA
  have hpath : ∀ q, q ≤ r.c → pathF r.vs (t ++ [x]) q = pathF r.vs t q := fun q hq => pathF_app fun i hi hiv => ⟨h.v0 _ (ix_mem hiv), h.c1 i (by omega)⟩
  have hA8 := h.A8
  have h8 := h.n8
  have hvl := h.vl
  refine ⟨h.tr, h.srt, h.big, h.n8, h.vl, h.vi, h.v0, by show r.c + 1 ≤ r.vs.length; omega, fun i hi => ?_, fun hi => ?_, l1, by show (pushA _ _ _).length ≤ 8; omega, fun q hq => ?_⟩
  · have hi : i < r.c + 1 := hi
    rw [List.length_append, List.length_singleton]
    rcases Nat.lt_or_eq_of_le (Nat.le_of_lt_succ hi) with h1 | h1
    · have := h.c1 i h1; show ix r.vs i < _; omega
    · show ix r.vs i < _; rw [h1, hv]; omega
  · have hi : r.c + 1 < r.vs.length := hi
    rw [List.length_append, List.length_singleton]
    have := inc_ix h.vi (show r.c < r.c + 1 by omega) hi
    show _ ≤ ix r.vs (r.c + 1)
    omega
  · have hq : q < r.c + 1 := hq
    rcases Nat.lt_or_eq_of_le (Nat.le_of_lt_succ hq) with h1 | h1
    · obtain ⟨s2, e2, g1, g2⟩ := h.path q h1
      refine ⟨s2, e2, ?_, ?_⟩
      · show Rng R.rows (q + 1) (pathF r.vs (t ++ [x]) (q + 1)) s2 e2
        rw [hpath (q + 1) h1]; exact g1
      · show ix (pushA r.A r.c _) q = _
        rw [a2 q h1]; exact g2
    · subst h1
      refine ⟨s', e', ?_, ?_⟩
      · show Rng R.rows (r.c + 1) (pathF r.vs (t ++ [x]) (r.c + 1)) s' e'
        rw [pathF_succ hm, hpath r.c (Nat.le_refl _), hv]
        have : ix (t ++ [x]) ((t.length : Int)).toNat = x := by
          show ix (t ++ [x]) t.length = x
          exact ix_app_r t x
        rw [this]; exact hr'
      · show ix (pushA r.A r.c _) r.c = _
        rw [a1, hf, hcl, hkn]; omega
/-- A relation that does not take part stays. -/
theorem RelOK.stay {R : Rela} {r : RelS} {t : List Int} (h : RelOK R r t) (hv : (t.length : Int) ∉ r.vs) (x : Int) : RelOK R r (t ++ [x]) := by
  have hpath : ∀ q, q ≤ r.c → pathF r.vs (t ++ [x]) q = pathF r.vs t q := fun q hq => pathF_app fun i hi hiv => ⟨h.v0 _ (ix_mem hiv), h.c1 i (by omega)⟩
  refine ⟨h.tr, h.srt, h.big, h.n8, h.vl, h.vi, h.v0, h.cl, fun i hi => ?_, fun hi => ?_, h.cA, h.A8, fun q hq => ?_⟩
  · rw [List.length_append, List.length_singleton]; have := h.c1 i hi; omega
  · have := h.c2 hi
    have : ix r.vs r.c ≠ t.length := fun e => hv (e ▸ ix_mem hi)
    rw [List.length_append, List.length_singleton]; omega
  · obtain ⟨s2, e2, g1, g2⟩ := h.path q hq
    exact ⟨s2, e2, by rw [hpath (q + 1) hq]; exact g1, g2⟩
theorem RelOK.unstay {R : Rela} {r : RelS} {t : List Int} {x : Int} (h : RelOK R r (t ++ [x])) (hv : (t.length : Int) ∉ r.vs) : RelOK R r t := by
  have hc1 : ∀ i, i < r.c → ix r.vs i < t.length := fun i hi => by
    have := h.c1 i hi
    rw [List.length_append, List.length_singleton] at this
    have : ix r.vs i ≠ t.length := fun e => hv (e ▸ ix_mem (by have := h.cl; omega))
    omega
  have hpath : ∀ q, q ≤ r.c → pathF r.vs (t ++ [x]) q = pathF r.vs t q := fun q hq => pathF_app fun i hi hiv => ⟨h.v0 _ (ix_mem hiv), hc1 i (by omega)⟩
  refine ⟨h.tr, h.srt, h.big, h.n8, h.vl, h.vi, h.v0, h.cl, hc1, fun hi => ?_, h.cA, h.A8, fun q hq => ?_⟩
  · have := h.c2 hi
    rw [List.length_append, List.length_singleton] at this; omega
  · obtain ⟨s2, e2, g1, g2⟩ := h.path q hq
    exact ⟨s2, e2, by rw [← hpath (q + 1) hq]; exact g1, g2⟩
/-- A relation that took part goes back. -/
theorem RelOK.leave {R : Rela} {r : RelS} {t : List Int} {x : Int} (h : RelOK R r (t ++ [x])) (hv : (t.length : Int) ∈ r.vs) : 0 < r.c ∧ ix r.vs (r.c - 1) = t.length ∧ RelOK R (leaveF r) t := by
  obtain ⟨i, hi, hie⟩ := mem_ix hv
  have hic : i < r.c := by
    apply Nat.lt_of_not_le; intro hle
    have a := h.c2 (by omega)
    have b := inc_le h.vi hle hi
    rw [List.length_append, List.length_singleton] at a
    omega
  have hcl := h.cl
  have hi1 : i = r.c - 1 := by
    apply Classical.byContradiction; intro hne
    have a := inc_ix h.vi (show i < r.c - 1 by omega) (by omega)
    have b := h.c1 (r.c - 1) (by omega)
    rw [List.length_append, List.length_singleton] at b
    omega
  subst hi1
  have hc1 : ∀ i, i < r.c - 1 → ix r.vs i < t.length := fun i hi2 => by
    have := inc_ix h.vi hi2 hi; omega
  have hpath : ∀ q, q ≤ r.c - 1 → pathF r.vs (t ++ [x]) q = pathF r.vs t q := fun q hq => pathF_app fun i hi hiv => ⟨h.v0 _ (ix_mem hiv), hc1 i (by omega)⟩
  have hcA := h.cA
  refine ⟨by omega, hie, h.tr, h.srt, h.big, h.n8, h.vl, h.vi, h.v0, by show r.c - 1 ≤ r.vs.length; omega, hc1, fun _ => ?_, by show r.c - 1 ≤ r.A.length; omega, h.A8, fun q hq => ?_⟩
  · show _ ≤ ix r.vs (r.c - 1); omega
  · have hq : q < r.c - 1 := hq
    obtain ⟨s2, e2, g1, g2⟩ := h.path q (by omega)
    exact ⟨s2, e2, by show Rng R.rows (q + 1) (pathF r.vs t (q + 1)) s2 e2; rw [← hpath (q + 1) (by omega)]; exact g1, g2⟩
end Go.Proofs.Ytpbgnnaaobamfaa

/-
  layer 33: what a join has found; a state stands for a tuple.
-/
namespace Go.Proofs.Ytpbgnnaaobamfaa
open Go.RowKit
set_option linter.unusedSimpArgs false
set_option linter.unusedVariables false

/-- The relations of a join, each with its variables. -/
abbrev Net := List (Rela × List Int)
def partT (N : Net) (k : Nat) : List (Rela × List Int) := N.filter fun q => decide ((k : Int) ∈ q.2)
/-- The candidates of each relation that takes part, for the next variable of t. -/
def listsT (N : Net) (t : List Int) : List (List Int) := (partT N t.length).map fun q => of (candV q.1 q.2 t (lbd q.2 t.length))
def metT (N : Net) (t : List Int) : List Int × Nat := meetF (listsT N t)
def valsT (N : Net) (t : List Int) : List Int := (metT N t).1
/-- The tuples of d more variables. -/
def outs (N : Net) : Nat → List Int → List (List Int)
  | 0, t => [t]
  | d + 1, t => (valsT N t).flatMap fun x => outs N d (t ++ [x])
/-- A number of each tuple, summed over the tuples of i more variables. -/
def sumT (N : Net) (f : List Int → Nat) : Nat → List Int → Nat
  | 0, t => f t
  | i + 1, t => ((valsT N t).map fun x => sumT N f i (t ++ [x])).sum
def cntT (N : Net) (t : List Int) : Nat := (valsT N t).length
def minT (N : Net) (t : List Int) : Nat := leastF (listsT N t)
def seekT (N : Net) (t : List Int) : Nat := (metT N t).2
instance : Inhabited Rela := ⟨⟨0, []⟩⟩
structure StOK (N : Net) (j : JSt) (t : List Int) : Prop where
  tc : j.tc = t.length
  tt : j.T.take j.tc = t
  t1 : j.T.length ≤ 30
  m : j.rels.length = N.length
  m1 : N.length ≤ 1000
  r : ∀ i, i < N.length → RelOK (ix N i).1 (ix j.rels i) t ∧ (ix j.rels i).vs = (ix N i).2
theorem RelOK.lbd {R : Rela} {r : RelS} {t : List Int} (h : RelOK R r t) : lbd r.vs t.length = r.c :=
  lbd_at (fun i hi => h.c1 i hi) h.cl h.c2
theorem filter_idx {α β : Type} [Inhabited α] (l : List α) (p : α → Bool) (f : α → β) : ((List.range l.length).filter fun i => p (ix l i)).map (fun i => f (ix l i)) = (l.filter p).map f := by
  have h : (List.range l.length).map (fun i => ix l i) = l := by
    refine List.ext_getElem (by simp) fun i h1 h2 => ?_
    rw [List.getElem_map, List.getElem_range, ix_lt h2]
  conv => rhs; rw [← h]
  rw [List.filter_map, List.map_map]
  rfl
theorem StOK.lists {N : Net} {j : JSt} {t : List Int} (h : StOK N j t) : lsL j.rels (hvL t.length j.rels) = listsT N t := by
  unfold lsL hvL listsT partT
  rw [h.m, ← filter_idx N (fun q => decide ((t.length : Int) ∈ q.2)) (fun q => of (candV q.1 q.2 t (lbd q.2 t.length)))]
  have e : (List.range N.length).filter (fun i => decide ((t.length : Int) ∈ (ix j.rels i).vs)) = (List.range N.length).filter (fun i => decide ((t.length : Int) ∈ (ix N i).2)) := by
    refine List.filter_congr fun i hi => ?_
    rw [(h.r i (List.mem_range.1 hi)).2]
  rw [e]
  refine List.map_congr_left fun i hi => ?_
  obtain ⟨h1, h2⟩ := List.mem_filter.1 hi
  have hi := List.mem_range.1 h1
  obtain ⟨g1, g2⟩ := h.r i hi
  have hmem : (t.length : Int) ∈ (ix j.rels i).vs := by rw [g2]; simpa using h2
  have hlt : (ix j.rels i).c < (ix j.rels i).vs.length := by
    apply Nat.lt_of_not_le; intro hle
    obtain ⟨a, ha, hae⟩ := mem_ix hmem
    have := g1.c1 a (by omega)
    omega
  rw [(g1.cand hlt).2.1, ← g2, g1.lbd]
end Go.Proofs.Ytpbgnnaaobamfaa

/-
  layer 33: entering a value, and going back.
-/
namespace Go.Proofs.Ytpbgnnaaobamfaa
open Go.RowKit
set_option linter.unusedSimpArgs false
set_option linter.unusedVariables false

theorem all_at (f : RelS → RelS) : ∀ (h : List Nat) (rs : List RelS) (q : Nat), h.Nodup → q ∈ h → q < rs.length → ix (h.foldl (fun rs i => rs.set i (f (ix rs i))) rs) q = f (ix rs q)
  | p :: h, rs, q, hn, hq, hl => by
    obtain ⟨n1, n2⟩ := List.nodup_cons.1 hn
    rw [List.foldl_cons]
    rcases List.mem_cons.1 hq with rfl | hq
    · rw [all_other f h _ _ n1, ix_set, if_pos ⟨rfl, hl⟩]
    · have hne : p ≠ q := fun e => n1 (e ▸ hq)
      rw [all_at f h _ q n2 hq (by rw [List.length_set]; exact hl), ix_set, if_neg (fun (e : p = q ∧ _) => hne e.1)]
theorem mem_hvL {k : Nat} {rs : List RelS} {i : Nat} : i ∈ hvL k rs ↔ i < rs.length ∧ (k : Int) ∈ (ix rs i).vs := by
  unfold hvL
  rw [List.mem_filter, List.mem_range]
  simp
section
variable {N : Net} {j : JSt} {t : List Int}
theorem StOK.tl (h : StOK N j t) : j.tc ≤ j.T.length := by
  have := congrArg List.length h.tt
  rw [List.length_take, ← h.tc] at this
  omega
theorem StOK.part (h : StOK N j t) {i : Nat} (hi : i ∈ hvL t.length j.rels) : (ix j.rels i).c < (ix j.rels i).vs.length ∧ ix (ix j.rels i).vs (ix j.rels i).c = t.length := by
  obtain ⟨h1, h2⟩ := mem_hvL.1 hi
  obtain ⟨g1, g2⟩ := h.r i (by rw [← h.m]; exact h1)
  obtain ⟨a, ha, hae⟩ := mem_ix h2
  have hca : (ix j.rels i).c ≤ a := by
    apply Nat.le_of_not_lt; intro hlt
    have := g1.c1 a hlt; omega
  have hlt : (ix j.rels i).c < (ix j.rels i).vs.length := by omega
  refine ⟨hlt, ?_⟩
  have b := g1.c2 hlt
  have d := inc_le g1.vi hca ha
  omega
theorem StOK.incs (h : StOK N j t) : ∀ l ∈ listsT N t, Inc l := by
  intro l hl
  unfold listsT at hl
  obtain ⟨q, _, rfl⟩ := List.mem_map.1 hl
  exact of_sorted _
theorem StOK.vals (h : StOK N j t) (hne : listsT N t ≠ []) : valsT N t = common (listsT N t) := (meetF_good h.incs hne).1
theorem StOK.inX (h : StOK N j t) (hne : listsT N t ≠ []) {x : Int} (hx : x ∈ valsT N t) (hl : t.length + 1 ≤ 30) : StOK N (inX (hvL t.length j.rels) j x) (t ++ [x]) := by
  have htl := h.tl
  refine ⟨by show j.tc + 1 = _; rw [h.tc, List.length_append]; rfl, ?_, ?_, (all_len (fun r => enterF r x) _ _).trans h.m, h.m1, fun i hi => ?_⟩
  · show (pushA j.T j.tc x).take (j.tc + 1) = t ++ [x]
    unfold pushA
    split
    · rename_i e
      have hT : j.T = t := by rw [← h.tt, e, List.take_of_length_le (Nat.le_refl _)]
      rw [List.take_of_length_le (by rw [List.length_append, e]; exact Nat.le_refl _), hT]
    · rename_i e
      rw [List.take_succ_eq_append_getElem (by rw [List.length_set]; omega), List.take_set_of_le (Nat.le_refl _), List.getElem_set_self, h.tt]
  · show (pushA j.T j.tc x).length ≤ 30
    have := (pushA_len (v := x) htl).2
    have := h.t1
    have := h.tc
    omega
  · have hi2 : i < j.rels.length := by rw [h.m]; exact hi
    obtain ⟨g1, g2⟩ := h.r i hi
    show RelOK _ (ix (enterAll x (hvL t.length j.rels) j.rels) i) _ ∧ (ix (enterAll x (hvL t.length j.rels) j.rels) i).vs = _
    by_cases hm : i ∈ hvL t.length j.rels
    · have e : ix (enterAll x (hvL t.length j.rels) j.rels) i = enterF (ix j.rels i) x := all_at (fun r => enterF r x) _ _ _ (hvL_nodup _ _) hm hi2
      rw [e]
      obtain ⟨p1, p2⟩ := h.part hm
      refine ⟨g1.enter p1 p2 ?_, g2⟩
      rw [h.vals hne] at hx
      refine (mem_common hne).1 hx _ ?_
      rw [← h.lists]
      exact List.mem_map.2 ⟨i, hm, rfl⟩
    · have e : ix (enterAll x (hvL t.length j.rels) j.rels) i = ix j.rels i := all_other (fun r => enterF r x) _ _ _ hm
      rw [e]
      exact ⟨g1.stay (fun hv => hm (mem_hvL.2 ⟨hi2, hv⟩)) x, g2⟩
theorem StOK.outX {x : Int} (h : StOK N j (t ++ [x])) {hv : List Nat} (hn : hv.Nodup) (hmem : ∀ i, i ∈ hv ↔ i < N.length ∧ (t.length : Int) ∈ (ix N i).2) : StOK N (outX hv t.length j) t ∧ ∀ i ∈ hv, 0 < (ix j.rels i).c := by
  have htl := h.tl
  have htc := h.tc
  rw [List.length_append, List.length_singleton] at htc
  refine ⟨⟨rfl, ?_, h.t1, (all_len leaveF _ _).trans h.m, h.m1, fun i hi => ?_⟩, fun i hi => ?_⟩
  · show j.T.take t.length = t
    have := congrArg (List.take t.length) h.tt
    rw [List.take_take, Nat.min_eq_left (by omega), List.take_append_of_le_length (Nat.le_refl _), List.take_of_length_le (Nat.le_refl _)] at this
    exact this
  · have hi2 : i < j.rels.length := by rw [h.m]; exact hi
    obtain ⟨g1, g2⟩ := h.r i hi
    show RelOK _ (ix (leaveAll hv j.rels) i) _ ∧ (ix (leaveAll hv j.rels) i).vs = _
    by_cases hm : i ∈ hv
    · have e : ix (leaveAll hv j.rels) i = leaveF (ix j.rels i) := all_at leaveF _ _ _ hn hm hi2
      rw [e]
      exact ⟨(g1.leave (by rw [g2]; exact ((hmem i).1 hm).2)).2.2, g2⟩
    · have e : ix (leaveAll hv j.rels) i = ix j.rels i := all_other leaveF _ _ _ hm
      rw [e]
      exact ⟨g1.unstay (fun hv2 => hm ((hmem i).2 ⟨hi, by rw [← g2]; exact hv2⟩)), g2⟩
  · obtain ⟨g1, g2⟩ := h.r i ((hmem i).1 hi).1
    exact (g1.leave (by rw [g2]; exact ((hmem i).1 hi).2)).1
theorem StOK.hv (h : StOK N j t) (i : Nat) : i ∈ hvL t.length j.rels ↔ i < N.length ∧ (t.length : Int) ∈ (ix N i).2 := by
  rw [mem_hvL, h.m]
  exact and_congr_right fun hi => by rw [(h.r i hi).2]
theorem StOK.ok (h : StOK N j t) (ho : j.O.length ≤ 1000000000) : JOK t.length j := by
  refine ⟨h.tc, by rw [← h.tc]; exact h.tl, by have := h.t1; omega, ho, by rw [h.m]; exact h.m1, fun r hr => ?_⟩
  obtain ⟨i, hi, rfl⟩ := mem_ix hr
  obtain ⟨g1, g2⟩ := h.r i (by rw [← h.m]; exact hi)
  refine ⟨g1.cA, by have := g1.A8; omega, by rw [g1.vl]; have := g1.n8; omega⟩
theorem StOK.ents (h : StOK N j t) : ∀ i ∈ hvL t.length j.rels, EntOK (ix j.rels i) := fun i hi => by
  obtain ⟨h1, _⟩ := mem_hvL.1 hi
  exact ((h.r i (by rw [← h.m]; exact h1)).1.cand (h.part hi).1).1
end
end Go.Proofs.Ytpbgnnaaobamfaa

/-
  layer 33: what extend does to a join.
-/
namespace Go.Proofs.Ytpbgnnaaobamfaa
open Go.RowKit
set_option linter.unusedSimpArgs false
set_option linter.unusedVariables false

def CntOK (N : Net) (f : List Int → Nat) (d : Nat) (t : List Int) (L : List Int) : Prop := t.length + d ≤ L.length ∧ ∀ i, i < d → 0 ≤ ix L (t.length + i) ∧ ix L (t.length + i) + (sumT N f i t : Int) ≤ 1000000000000000000
def Grown (N : Net) (f : List Int → Nat) (d : Nat) (t : List Int) (L L' : List Int) : Prop := L'.length = L.length ∧ ∀ v, ix L' v = ix L v + (if t.length ≤ v ∧ v < t.length + d then (sumT N f (v - t.length) t : Int) else 0)
/-- When the values xs are done. -/
def MidG (N : Net) (f : List Int → Nat) (d : Nat) (t : List Int) (xs : List Int) (L L' : List Int) : Prop := L'.length = L.length ∧ ∀ v, ix L' v = ix L v + (if v = t.length then (f t : Int) else 0) + (if t.length + 1 ≤ v ∧ v < t.length + 1 + d then (((xs.map fun x => sumT N f (v - (t.length + 1)) (t ++ [x])).sum : Nat) : Int) else 0)
structure Fit (N : Net) (d : Nat) (t : List Int) (j : JSt) : Prop where
  o : j.O.length + (outs N d t).length ≤ 1000000000
  b : CntOK N (cntT N) d t j.B
  m : CntOK N (minT N) d t j.M
  k : CntOK N (seekT N) d t j.K
structure Res (N : Net) (d : Nat) (t : List Int) (j j' : JSt) : Prop where
  st : StOK N j' t
  n : j'.n = j.n
  o : j'.O = j.O ++ outs N d t
  b : Grown N (cntT N) d t j.B j'.B
  m : Grown N (minT N) d t j.M j'.M
  k : Grown N (seekT N) d t j.K j'.K
theorem sum_pre (g : Int → Nat) (vals : List Int) {q : Nat} (h : q < vals.length) : ((vals.take q).map g).sum + g (ix vals q) = ((vals.take (q + 1)).map g).sum ∧ ((vals.take (q + 1)).map g).sum ≤ (vals.map g).sum := by
  constructor
  · rw [take_snoc h, List.map_append, List.sum_append]; simp
  · have e : vals.map g = (vals.take (q + 1)).map g ++ (vals.drop (q + 1)).map g := by rw [← List.map_append, List.take_append_drop]
    rw [e, List.sum_append]; omega
theorem flat_pre (g : Int → List (List Int)) (vals : List Int) {q : Nat} (h : q < vals.length) : (vals.take (q + 1)).flatMap g = (vals.take q).flatMap g ++ g (ix vals q) ∧ ((vals.take (q + 1)).flatMap g).length ≤ (vals.flatMap g).length := by
  constructor
  · rw [take_snoc h, List.flatMap_append]; simp
  · have e : vals.flatMap g = (vals.take (q + 1)).flatMap g ++ (vals.drop (q + 1)).flatMap g := by rw [← List.flatMap_append, List.take_append_drop]
    rw [e, List.length_append]; omega
section
variable {N : Net}
theorem MidG.start {f : List Int → Nat} {d : Nat} {t L : List Int} (h : CntOK N f (d + 1) t L) : MidG N f d t [] L (addAt L t.length (f t : Int)) := by
  obtain ⟨h1, _⟩ := h
  unfold addAt
  refine ⟨List.length_set, fun v => ?_⟩
  rw [ix_set]
  by_cases hv : t.length = v
  · subst hv
    rw [if_pos ⟨rfl, by omega⟩, if_pos rfl, if_neg (by omega)]; omega
  · rw [if_neg (fun (e : t.length = v ∧ _) => hv e.1), if_neg (fun e => hv e.symm)]
    simp
theorem MidG.fit {f : List Int → Nat} {d : Nat} {t L Lq vals : List Int} (hv : vals = valsT N t) (h : CntOK N f (d + 1) t L) {q : Nat} (hq : q < vals.length) (hm : MidG N f d t (vals.take q) L Lq) : CntOK N f d (t ++ [ix vals q]) Lq := by
  obtain ⟨h1, h2⟩ := h
  obtain ⟨m1, m2⟩ := hm
  have hl : (t ++ [ix vals q]).length = t.length + 1 := by rw [List.length_append]; rfl
  unfold CntOK
  rw [hl]
  refine ⟨by omega, fun i hi => ?_⟩
  have e := m2 (t.length + 1 + i)
  rw [if_neg (by omega), if_pos (by omega), show t.length + 1 + i - (t.length + 1) = i by omega] at e
  obtain ⟨a, b⟩ := h2 (i + 1) (by omega)
  rw [show t.length + (i + 1) = t.length + 1 + i by omega] at a b
  have s : sumT N f (i + 1) t = (vals.map fun x => sumT N f i (t ++ [x])).sum := by rw [hv]; rfl
  obtain ⟨p1, p2⟩ := sum_pre (fun x => sumT N f i (t ++ [x])) vals hq
  rw [s] at b
  rw [e]
  constructor <;> omega
theorem MidG.next {f : List Int → Nat} {d : Nat} {t L Lq L3 vals : List Int} {q : Nat} (hq : q < vals.length) (hm : MidG N f d t (vals.take q) L Lq) (hg : Grown N f d (t ++ [ix vals q]) Lq L3) : MidG N f d t (vals.take (q + 1)) L L3 := by
  obtain ⟨m1, m2⟩ := hm
  obtain ⟨g1, g2⟩ := hg
  have hl : (t ++ [ix vals q]).length = t.length + 1 := by rw [List.length_append]; rfl
  rw [hl] at g2
  refine ⟨g1.trans m1, fun v => ?_⟩
  rw [g2, m2]
  by_cases hv : t.length + 1 ≤ v ∧ v < t.length + 1 + d
  · rw [if_pos hv, if_pos hv, if_pos hv]
    have := (sum_pre (fun x => sumT N f (v - (t.length + 1)) (t ++ [x])) vals hq).1
    omega
  · rw [if_neg hv, if_neg hv, if_neg hv]; omega
theorem MidG.done {f : List Int → Nat} {d : Nat} {t L L' vals : List Int} (hv : vals = valsT N t) (hm : MidG N f d t vals L L') : Grown N f (d + 1) t L L' := by
  obtain ⟨m1, m2⟩ := hm
  refine ⟨m1, fun v => ?_⟩
  rw [m2]
  by_cases h0 : v = t.length
  · subst h0
    rw [if_pos rfl, if_neg (by omega), if_pos (by omega), Nat.sub_self]
    show ix L _ + (f t : Int) + 0 = ix L _ + (f t : Int)
    omega
  · rw [if_neg h0]
    by_cases h1 : t.length + 1 ≤ v ∧ v < t.length + 1 + d
    · rw [if_pos h1, if_pos (by omega)]
      have e : v - t.length = (v - (t.length + 1)) + 1 := by omega
      rw [e, hv]
      show ix L v + 0 + _ = ix L v + _
      rw [Int.add_zero]; rfl
    · rw [if_neg h1, if_neg (by omega)]; omega
end
end Go.Proofs.Ytpbgnnaaobamfaa

/-
  layer 33: extend finds the tuples, and counts.
-/
namespace Go.Proofs.Ytpbgnnaaobamfaa
open Go.RowKit
set_option linter.unusedSimpArgs false
set_option linter.unusedVariables false

/-- Each variable from k to n - 1 is in some relation; the relations are small. -/
structure NetOK (N : Net) (n : Nat) : Prop where
  part : ∀ v, v < n → ∃ q ∈ N, (v : Int) ∈ q.2
  rows : ∀ q ∈ N, q.1.rows.length ≤ 10000
  n20 : n ≤ 30
theorem candV_len (R : Rela) (vs t : List Int) (c : Nat) : (candV R vs t c).length ≤ R.rows.length := by
  unfold candV
  rw [List.length_map]
  exact List.length_filter_le _ _
theorem of_len' (l : List Int) : (of l).length ≤ l.length := of_len l
theorem lists_ne {N : Net} {n : Nat} (h : NetOK N n) {t : List Int} (ht : t.length < n) : listsT N t ≠ [] := by
  obtain ⟨q, hq, hv⟩ := h.part t.length ht
  intro e
  unfold listsT partT at e
  rw [List.map_eq_nil_iff] at e
  have : q ∈ N.filter fun q => decide ((t.length : Int) ∈ q.2) := List.mem_filter.2 ⟨hq, by simpa using hv⟩
  rw [e] at this
  cases this
theorem StOK.hv_eq {N : Net} {j j' : JSt} {t : List Int} (h : StOK N j t) (h' : StOK N j' t) : hvL t.length j.rels = hvL t.length j'.rels := by
  unfold hvL
  rw [h.m, h'.m]
  refine List.filter_congr fun i hi => ?_
  have hi := List.mem_range.1 hi
  rw [(h.r i hi).2, (h'.r i hi).2]
theorem ext_spec {N : Net} {n : Nat} (hN : NetOK N n) : ∀ (d : Nat) (t : List Int) (j : JSt), t.length + d = n → StOK N j t → j.n = (n : Int) → Fit N d t j → ExtPre d t.length j ∧ Res N d t j (extF d t.length j)
  | 0, t, j, hd, hst, hn, hf => by
    have ho : j.O.length ≤ 1000000000 := by have := hf.o; omega
    refine ⟨⟨hst.ok ho, by rw [hn]; omega⟩, ⟨hst.tc, hst.tt, hst.t1, hst.m, hst.m1, hst.r⟩, rfl, ?_, ⟨rfl, fun v => ?_⟩, ⟨rfl, fun v => ?_⟩, ⟨rfl, fun v => ?_⟩⟩
    · show j.O ++ [j.T.take j.tc] = j.O ++ [t]
      rw [hst.tt]
    all_goals (rw [if_neg (by omega), Int.add_zero]; rfl)
  | d + 1, t, j, hd, hst, hn, hf => by
    have hne := lists_ne hN (t := t) (by omega)
    have hlists := hst.lists
    have hvx : valsX t.length j = metT N t := by unfold valsX metT; rw [hlists]
    obtain ⟨vals, hvals⟩ : ∃ vals, vals = valsT N t := ⟨_, rfl⟩
    have hv1 : (valsX t.length j).1 = vals := by rw [hvx, hvals]; rfl
    have n20 := hN.n20
    have hnd := hvL_nodup t.length j.rels
    have ho0 : j.O.length ≤ 1000000000 := by have := hf.o; omega
    have hmin : leastF (lsL j.rels (hvL t.length j.rels)) = minT N t := by rw [hlists]; rfl
    have hsk : (valsX t.length j).2 = seekT N t := by rw [hvx]; rfl
    have hcn : (valsX t.length j).1.length = cntT N t := by rw [hv1, hvals]; rfl
    have hbeg : begX t.length j = ⟨j.n, addAt j.B t.length (cntT N t : Int), addAt j.M t.length (minT N t : Int), addAt j.K t.length (seekT N t : Int), j.T, j.tc, j.O, j.rels⟩ := by
      unfold begX; rw [hmin, hsk, hcn]
    -- the state when the values before q are done
    have mid : ∀ q, q ≤ vals.length → StOK N (jAt d t.length j q) t ∧ (jAt d t.length j q).n = j.n ∧ (jAt d t.length j q).O = j.O ++ (vals.take q).flatMap (fun x => outs N d (t ++ [x])) ∧ MidG N (cntT N) d t (vals.take q) j.B (jAt d t.length j q).B ∧ MidG N (minT N) d t (vals.take q) j.M (jAt d t.length j q).M ∧ MidG N (seekT N) d t (vals.take q) j.K (jAt d t.length j q).K ∧
        (∀ (hq : q < vals.length), ExtPre d (t.length + 1) (inX (hvL t.length j.rels) (jAt d t.length j q) (ix vals q)) ∧ Res N d (t ++ [ix vals q]) (inX (hvL t.length j.rels) (jAt d t.length j q) (ix vals q)) (extF d (t.length + 1) (inX (hvL t.length j.rels) (jAt d t.length j q) (ix vals q)))) := by
      have last : ∀ q (jq : JSt), q ≤ vals.length → hvL t.length jq.rels = hvL t.length j.rels → StOK N jq t → jq.n = j.n → jq.O = j.O ++ (vals.take q).flatMap (fun x => outs N d (t ++ [x])) → MidG N (cntT N) d t (vals.take q) j.B jq.B → MidG N (minT N) d t (vals.take q) j.M jq.M → MidG N (seekT N) d t (vals.take q) j.K jq.K → ∀ (hq : q < vals.length), ExtPre d (t.length + 1) (inX (hvL t.length j.rels) jq (ix vals q)) ∧ Res N d (t ++ [ix vals q]) (inX (hvL t.length j.rels) jq (ix vals q)) (extF d (t.length + 1) (inX (hvL t.length j.rels) jq (ix vals q))) := by
        intro q jq hq hh s1 s2 s3 s4 s5 s6 hlt
        have hl : (t ++ [ix vals q]).length = t.length + 1 := by rw [List.length_append]; rfl
        have hin := s1.inX hne (x := ix vals q) (by rw [← hvals]; exact ix_mem hlt) (by omega)
        rw [hh] at hin
        obtain ⟨f1, f2⟩ := flat_pre (fun x => outs N d (t ++ [x])) vals hlt
        have hfo := hf.o
        have ho : (outs N (d + 1) t).length = (vals.flatMap fun x => outs N d (t ++ [x])).length := by rw [hvals]; rfl
        have := ext_spec hN d (t ++ [ix vals q]) (inX (hvL t.length j.rels) jq (ix vals q)) (by rw [hl]; omega) hin (by show jq.n = _; rw [s2, hn]) ⟨by
          show jq.O.length + _ ≤ _
          rw [s3, List.length_append, Nat.add_assoc, ← List.length_append, ← f1]
          omega, s4.fit hvals hf.b hlt, s5.fit hvals hf.m hlt, s6.fit hvals hf.k hlt⟩
        rw [hl] at this
        exact this
      intro q
      induction q with
      | zero =>
        intro _
        have e0 : jAt d t.length j 0 = begX t.length j := rfl
        rw [e0, hbeg]
        have s1 : StOK N ⟨j.n, addAt j.B t.length (cntT N t : Int), addAt j.M t.length (minT N t : Int), addAt j.K t.length (seekT N t : Int), j.T, j.tc, j.O, j.rels⟩ t := ⟨hst.tc, hst.tt, hst.t1, hst.m, hst.m1, hst.r⟩
        have g1 := MidG.start hf.b
        have g2 := MidG.start hf.m
        have g3 := MidG.start hf.k
        exact ⟨s1, rfl, by simp, g1, g2, g3, last 0 _ (Nat.zero_le _) rfl s1 rfl (by simp) g1 g2 g3⟩
      | succ q ih =>
        intro hq
        obtain ⟨s1, s2, s3, s4, s5, s6, s7⟩ := ih (by omega)
        obtain ⟨e1, r⟩ := s7 (by omega)
        have hs := jAt_succ (d := d) (k := t.length) (j := j) (q := q) (by rw [hv1]; omega)
        rw [hv1] at hs
        have hmem : ∀ i, i ∈ hvL t.length j.rels ↔ i < N.length ∧ (t.length : Int) ∈ (ix N i).2 := hst.hv
        obtain ⟨o1, o2⟩ := r.st.outX hnd hmem
        rw [hs]
        have hh : hvL t.length (outX (hvL t.length j.rels) t.length (extF d (t.length + 1) (inX (hvL t.length j.rels) (jAt d t.length j q) (ix vals q)))).rels = hvL t.length j.rels := o1.hv_eq hst
        have t1 : (outX (hvL t.length j.rels) t.length (extF d (t.length + 1) (inX (hvL t.length j.rels) (jAt d t.length j q) (ix vals q)))).n = j.n := r.n.trans s2
        have t2 : (outX (hvL t.length j.rels) t.length (extF d (t.length + 1) (inX (hvL t.length j.rels) (jAt d t.length j q) (ix vals q)))).O = j.O ++ (vals.take (q + 1)).flatMap (fun x => outs N d (t ++ [x])) := by
          refine r.o.trans ?_
          show (jAt d t.length j q).O ++ _ = _
          rw [s3, List.append_assoc, (flat_pre (fun x => outs N d (t ++ [x])) vals (show q < vals.length by omega)).1]
        have g1 := MidG.next (show q < vals.length by omega) s4 r.b
        have g2 := MidG.next (show q < vals.length by omega) s5 r.m
        have g3 := MidG.next (show q < vals.length by omega) s6 r.k
        exact ⟨o1, t1, t2, g1, g2, g3, last (q + 1) _ hq hh o1 t1 t2 g1 g2 g3⟩
    obtain ⟨s1, s2, s3, s4, s5, s6, _⟩ := mid vals.length (Nat.le_refl _)
    rw [List.take_of_length_le (Nat.le_refl _)] at s3 s4 s5 s6
    have hres : extF (d + 1) t.length j = jAt d t.length j vals.length := by
      unfold jAt
      rw [hv1, List.take_of_length_le (Nat.le_refl _), ← hv1]; rfl
    have hfo := hf.o
    have ho : (outs N (d + 1) t).length = (vals.flatMap fun x => outs N d (t ++ [x])).length := by rw [hvals]; rfl
    have hoq : ∀ q, q ≤ vals.length → ((vals.take q).flatMap fun x => outs N d (t ++ [x])).length ≤ (outs N (d + 1) t).length := fun q hq => by
      have e : vals.flatMap (fun x => outs N d (t ++ [x])) = (vals.take q).flatMap (fun x => outs N d (t ++ [x])) ++ (vals.drop q).flatMap (fun x => outs N d (t ++ [x])) := by rw [← List.flatMap_append, List.take_append_drop]
      rw [ho, e, List.length_append]; omega
    have jok : ∀ q, q ≤ vals.length → JOK t.length (jAt d t.length j q) := fun q hq => by
      obtain ⟨a1, a2, a3, _⟩ := mid q hq
      refine a1.ok ?_
      have := hoq q hq
      rw [a3, List.length_append]; omega
    have i64 : ∀ (f : List Int → Nat) (L : List Int), CntOK N f (d + 1) t L → t.length < L.length ∧ I64 (ix L t.length + (f t : Int)) := fun f L hc => by
      obtain ⟨h1, h2⟩ := hc
      obtain ⟨a, b⟩ := h2 0 (by omega)
      have e : sumT N f 0 t = f t := rfl
      rw [Nat.add_zero] at a b
      rw [e] at b
      exact ⟨by omega, by unfold I64; omega⟩
    have hhne : hvL t.length j.rels ≠ [] := fun e => hne (by rw [← hlists, e]; rfl)
    refine ⟨⟨⟨hst.ok ho0, by rw [hn]; omega, (i64 _ _ hf.b).1, (i64 _ _ hf.m).1, (i64 _ _ hf.k).1, hhne, hst.ents, ?_, ?_, ?_, ?_⟩, fun q hq => ?_, by rw [hv1]; exact jok _ (Nat.le_refl _)⟩, ?_⟩
    · rw [hlists]
      refine ⟨?_, fun l hl => ⟨?_, hst.incs l hl⟩⟩
      · unfold listsT partT
        rw [List.length_map]
        exact Nat.le_trans (List.length_filter_le _ _) hst.m1
      · unfold listsT at hl
        obtain ⟨p, hp, rfl⟩ := List.mem_map.1 hl
        have a := of_len' (candV p.1 p.2 t (lbd p.2 t.length))
        have b := candV_len p.1 p.2 t (lbd p.2 t.length)
        have c := hN.rows p (List.mem_filter.1 hp).1
        omega
    · rw [hcn]; exact (i64 _ _ hf.b).2
    · rw [hmin]; exact (i64 _ _ hf.m).2
    · rw [hsk]; exact (i64 _ _ hf.k).2
    · rw [hv1] at hq ⊢
      obtain ⟨a1, a2, a3, a4, a5, a6, a7⟩ := mid q (by omega)
      obtain ⟨b1, b2⟩ := a7 hq
      obtain ⟨o1, o2⟩ := b2.st.outX hnd hst.hv
      refine ⟨jok q (by omega), a2, a1.m.trans hst.m.symm, ?_, b1, ?_, ?_, b2.st.m.trans hst.m.symm, o2⟩
      · rw [← a1.hv_eq hst]; exact a1.ents
      · have hl : (t ++ [ix vals q]).length = t.length + 1 := by rw [List.length_append]; rfl
        have := b2.st.ok (by
          have e := b2.o
          rw [e]
          show ((jAt d t.length j q).O ++ _).length ≤ _
          rw [a3, List.append_assoc, ← (flat_pre (fun x => outs N d (t ++ [x])) vals hq).1, List.length_append]
          have := hoq (q + 1) (by omega)
          omega)
        rw [hl] at this; exact this
      · exact b2.n.trans a2
    · rw [hres]
      exact ⟨s1, s2, by rw [s3, hvals]; rfl, s4.done hvals, s5.done hvals, s6.done hvals⟩
end Go.Proofs.Ytpbgnnaaobamfaa

/-
  layer 33: whether a variable is in some list.
-/
namespace Go.Proofs.Ytpbgnnaaobamfaa
open Go.RowKit
set_option linter.unusedSimpArgs false
set_option linter.unusedVariables false
set_option maxRecDepth 100000

def sClo : List AV → Option (Prop × AV)
  | [a, .iptr [.int .i64 v]] => some (nrmV a = Enc.enc (Enc.dec a : List Int) ∧ SmallR (Enc.dec a : List Int), .bool (decide (v ∈ (Enc.dec a : List Int))))
  | _ => none
@[simp] theorem sClo_eq (a : AV) (v : Int) : sClo [a, .iptr [.int .i64 v]] = some (nrmV a = Enc.enc (Enc.dec a : List Int) ∧ SmallR (Enc.dec a : List Int), .bool (decide (v ∈ (Enc.dec a : List Int)))) := rfl
noncomputable def CCl0 : Ctx := mkC Try.prog G0 [(42, .pure sHas)]
@[simp] theorem CCl0_P : CCl0.P = Try.prog := rfl
@[simp] theorem CCl0_1 : CCl0.S 42 = .pure sHas := rfl
theorem mixCCl0 : CCl0.P.follows .mixedOrders = true := mixed
theorem sigCCl0 : SigOK CCl0 := sigOK_cons (entryPure containsP Try.func42 rfl (by decide)) (sigOK_nil _ _)
theorem cloP : PureOK Try.prog G0 41 sClo :=
  pure_of (C := CCl0) sigCCl0 mixCCl0 Try.func41 rfl rfl rfl (by kernel_rfl) fun avs ob r hp hob => by
    unfold sClo at hp
    split at hp
    · rename_i a v
      injection hp with hp; injection hp with e1 e2; subst e1 e2
      refine ⟨Nat.le_of_ble_eq_true rfl, ?_⟩
      obtain ⟨h1, h2⟩ := hob
      generalize (Enc.dec a : List Int) = l at h1 h2 ⊢
      show avc CCl0 _ 0 _ ⟨[(0, nrmV a), (1, .iptr [.int .i64 v])], []⟩ _
      rw [h1]
      simp [aev, cav, look, acallPure, abin, abinN, abinP, abinI, abinS, aun, aconv, afield, afieldAddr, aindexAddr, aindex, aslice, alow, ahigh, abuild, abuildGo, cellsOf, splice, fieldTy, alen, apick, amax, amin, aload, headV, aparts, abuildSlice, elParts, abytesStr, astore, amake, aappend, aclear, anew, arith, aresults, aresList, ares, spec0, spec1, spec2, spec3, spec4, eqCells, eqCell, sHas, h2]
    · cases hp
noncomputable def CIf : Ctx := mkC Try.prog G0 [(41, .pure sClo)]
@[simp] theorem CIf_P : CIf.P = Try.prog := rfl
@[simp] theorem CIf_1 : CIf.S 41 = .pure sClo := rfl
theorem mixCIf : CIf.P.follows .mixedOrders = true := mixed
theorem sigCIf : SigOK CIf := sigOK_cons (entryPure cloP Try.func41 rfl (by decide)) (sigOK_nil _ _)
def AnyV (ls : List (List Int)) (v : Int) : Prop := ∃ l ∈ ls, v ∈ l
open Classical in
/-- The first list that holds v, or -1. -/
noncomputable def ifF (ls : List (List Int)) (v : Int) : Int := if AnyV ls v then (ls.findIdx (fun l => decide (v ∈ l)) : Int) else -1
noncomputable def sIdxF : List AV → Option (Prop × AV)
  | [a, .fn f [.iptr [.int .i64 v]]] => if f = 41 then some (nrmV a = Enc.enc (Enc.dec a : List (List Int)) ∧ SmallRs (Enc.dec a : List (List Int)), .int .i64 (ifF (Enc.dec a) v)) else none
  | _ => none
@[simp] theorem sIdxF_eq (a : AV) (v : Int) : sIdxF [a, .fn 41 [.iptr [.int .i64 v]]] = some (nrmV a = Enc.enc (Enc.dec a : List (List Int)) ∧ SmallRs (Enc.dec a : List (List Int)), .int .i64 (ifF (Enc.dec a) v)) := rfl
set_option maxHeartbeats 8000000 in
theorem idxFP : PureOK Try.prog G0 56 sIdxF :=
  pure_of (C := CIf) sigCIf mixCIf Try.func56 rfl rfl rfl (by kernel_rfl) fun avs ob r hp hob => by
    unfold sIdxF at hp
    split at hp
    · rename_i a f v
      split at hp
      · rename_i hf
        subst hf
        injection hp with hp; injection hp with e1 e2; subst e1 e2
        refine ⟨Nat.le_of_ble_eq_true rfl, ?_⟩
        obtain ⟨h1, h2⟩ := hob
        generalize (Enc.dec a : List (List Int)) = ls at h1 h2 ⊢
        obtain ⟨hl, hl2⟩ := h2
        show avc CIf _ 0 _ ⟨[(0, nrmV a), (1, .fn 41 [.iptr [.int .i64 v]])], []⟩ _
        rw [h1]
        simp [aev, cav, look, acallPure, abin, abinN, abinP, abinI, abinS, aun, aconv, afield, afieldAddr, aindexAddr, aindex, aslice, alow, ahigh, abuild, abuildGo, cellsOf, splice, fieldTy, alen, apick, amax, amin, aload, headV, aparts, abuildSlice, elParts, abytesStr, astore, amake, aappend, aclear, anew, arith, aresults, aresList, ares, spec0, spec1, spec2, spec3, spec4, eqCells, eqCell]
        refine loop_rule (C := CIf) sigCIf mixCIf (fun i : Nat => ⟨[(0, Enc.enc ls), (1, .fn 41 [.iptr [.int .i64 v]]), (7, .int .i64 ls.length), (8, .int .i64 i)], []⟩) (fun i => i ≤ ls.length ∧ ∀ j, j < i → v ∉ ix ls j) (fun i => ls.length - i) (by kernel_rfl) ⟨0, ⟨by omega, fun j hj => by omega⟩, weak_slots (by simp)⟩ (fun i ⟨h3, h4⟩ => ?_)
        by_cases hi : i < ls.length
        · have i1 : I64 ((i : Int) + 1) := by unfold I64; omega
          have sa := hl2 _ (ix_mem hi)
          rcases em2 (v ∈ ix ls i) with e | e
          · have hA : AnyV ls v := ⟨_, ix_mem hi, of_eq_true e⟩
            have hF : ls.findIdx (fun l => decide (v ∈ l)) = i := by
              rw [List.findIdx_eq hi]
              refine ⟨by rw [← ix_lt hi]; simpa using of_eq_true e, fun j hj => ?_⟩
              have := h4 j hj
              rw [ix_lt (show j < ls.length by omega)] at this
              simpa using this
            have hE : ifF ls v = i := by unfold ifF; rw [if_pos hA, hF]
            simp [aev, cav, look, acallPure, abin, abinN, abinP, abinI, abinS, aun, aconv, afield, afieldAddr, aindexAddr, aindex, aslice, alow, ahigh, abuild, abuildGo, cellsOf, splice, fieldTy, alen, apick, amax, amin, aload, headV, aparts, abuildSlice, elParts, abytesStr, astore, amake, aappend, aclear, anew, arith, aresults, aresList, ares, spec0, spec1, spec2, spec3, spec4, eqCells, eqCell, hi, rowAt_enc hi, sa, e, hE]
          · simp [aev, cav, look, acallPure, abin, abinN, abinP, abinI, abinS, aun, aconv, afield, afieldAddr, aindexAddr, aindex, aslice, alow, ahigh, abuild, abuildGo, cellsOf, splice, fieldTy, alen, apick, amax, amin, aload, headV, aparts, abuildSlice, elParts, abytesStr, astore, amake, aappend, aclear, anew, arith, aresults, aresList, ares, spec0, spec1, spec2, spec3, spec4, eqCells, eqCell, hi, rowAt_enc hi, sa, e, i1]
            exact ⟨i + 1, ⟨by omega, fun j hj => by
              rcases Nat.lt_or_eq_of_le (Nat.le_of_lt_succ hj) with h | rfl
              · exact h4 j h
              · exact of_eq_false e⟩, by omega, weak_slots (by simp)⟩
        · have hA : ¬ AnyV ls v := fun ⟨l, hm, hv⟩ => by
            obtain ⟨j, hj, rfl⟩ := mem_ix hm
            exact h4 j (by omega) hv
          have hE : ifF ls v = -1 := by unfold ifF; rw [if_neg hA]
          simp [aev, cav, look, acallPure, abin, abinN, abinP, abinI, abinS, aun, aconv, afield, afieldAddr, aindexAddr, aindex, aslice, alow, ahigh, abuild, abuildGo, cellsOf, splice, fieldTy, alen, apick, amax, amin, aload, headV, aparts, abuildSlice, elParts, abytesStr, astore, amake, aappend, aclear, anew, arith, aresults, aresList, ares, spec0, spec1, spec2, spec3, spec4, eqCells, eqCell, hi, hE]
      · cases hp
    · cases hp
open Classical in
noncomputable def sCFn : List AV → Option (Prop × AV)
  | [a, .fn f [.iptr [.int .i64 v]]] => if f = 41 then some (nrmV a = Enc.enc (Enc.dec a : List (List Int)) ∧ SmallRs (Enc.dec a : List (List Int)), .bool (decide (AnyV (Enc.dec a) v))) else none
  | _ => none
open Classical in
@[simp] theorem sCFn_eq (a : AV) (v : Int) : sCFn [a, .fn 41 [.iptr [.int .i64 v]]] = some (nrmV a = Enc.enc (Enc.dec a : List (List Int)) ∧ SmallRs (Enc.dec a : List (List Int)), .bool (decide (AnyV (Enc.dec a) v))) := rfl
noncomputable def CCf : Ctx := mkC Try.prog G0 [(56, .pure sIdxF)]
@[simp] theorem CCf_P : CCf.P = Try.prog := rfl
@[simp] theorem CCf_1 : CCf.S 56 = .pure sIdxF := rfl
theorem mixCCf : CCf.P.follows .mixedOrders = true := mixed
theorem sigCCf : SigOK CCf := sigOK_cons (entryPure idxFP Try.func56 rfl (by decide)) (sigOK_nil _ _)
open Classical in
theorem containsFP : PureOK Try.prog G0 40 sCFn :=
  pure_of (C := CCf) sigCCf mixCCf Try.func40 rfl rfl rfl (by kernel_rfl) fun avs ob r hp hob => by
    unfold sCFn at hp
    split at hp
    · rename_i a f v
      split at hp
      · rename_i hf
        subst hf
        injection hp with hp; injection hp with e1 e2; subst e1 e2
        refine ⟨Nat.le_of_ble_eq_true rfl, ?_⟩
        obtain ⟨h1, h2⟩ := hob
        generalize (Enc.dec a : List (List Int)) = ls at h1 h2 ⊢
        show avc CCf _ 0 _ ⟨[(0, nrmV a), (1, .fn 41 [.iptr [.int .i64 v]])], []⟩ _
        rw [h1]
        by_cases hA : AnyV ls v
        · have hE : ifF ls v = (ls.findIdx (fun l => decide (v ∈ l)) : Int) := by unfold ifF; rw [if_pos hA]
          simp [aev, cav, look, acallPure, abin, abinN, abinP, abinI, abinS, aun, aconv, afield, afieldAddr, aindexAddr, aindex, aslice, alow, ahigh, abuild, abuildGo, cellsOf, splice, fieldTy, alen, apick, amax, amin, aload, headV, aparts, abuildSlice, elParts, abytesStr, astore, amake, aappend, aclear, anew, arith, aresults, aresList, ares, spec0, spec1, spec2, spec3, spec4, eqCells, eqCell, h2, hE, hA]
        · have hE : ifF ls v = -1 := by unfold ifF; rw [if_neg hA]
          simp [aev, cav, look, acallPure, abin, abinN, abinP, abinI, abinS, aun, aconv, afield, afieldAddr, aindexAddr, aindex, aslice, alow, ahigh, abuild, abuildGo, cellsOf, splice, fieldTy, alen, apick, amax, amin, aload, headV, aparts, abuildSlice, elParts, abytesStr, astore, amake, aappend, aclear, anew, arith, aresults, aresList, ares, spec0, spec1, spec2, spec3, spec4, eqCells, eqCell, h2, hE, hA]
      · cases hp
    · cases hp
end Go.Proofs.Ytpbgnnaaobamfaa

/-
  layer 33: Check.
-/
namespace Go.Proofs.Ytpbgnnaaobamfaa
open Go.RowKit
set_option linter.unusedSimpArgs false
set_option linter.unusedVariables false
set_option maxRecDepth 100000

/-- The variables of a relation fit. -/
structure VarOK (n : Int) (r : Rela) (l : List Int) : Prop where
  len : (l.length : Int) = r.arity
  inc : valid l = true
  lo : l ≠ [] → 0 ≤ ix l 0
  hi : l ≠ [] → ix l (l.length - 1) < n
def AllVar (n : Int) (rels : List Rela) (vars : List (List Int)) (k : Nat) : Prop := ∀ i, i < k → VarOK n (ix rels i) (ix vars i)
/-- The first error of the relations. -/
noncomputable def relErr : List Rela → Int
  | [] => 0
  | r :: q => if checkF r = 0 then relErr q else checkF r
open Classical in
noncomputable def jchkF (n : Int) (rels : List Rela) (vars : List (List Int)) : Int :=
  if n < 1 ∨ 24 < n ∨ vars.length ≠ rels.length then 1
  else if ¬ AllVar n rels vars vars.length then 1
  else if 12 < rels.length then 4
  else if relErr rels ≠ 0 then relErr rels
  else if ∀ v : Nat, (v : Int) < n → AnyV vars v then 0 else 25
def ChkPre (_ : Int) (rels : List Rela) (vars : List (List Int)) : Prop := rels.length ≤ 1000000 ∧ (∀ r ∈ rels, SmallRs r.rows) ∧ SmallRs vars
noncomputable def sJChk : List AV → Option (Prop × AV) := spec3 ChkPre (fun n rels vars => .int .i64 (jchkF n rels vars))
noncomputable def CJc : Ctx := mkC Try.prog G0 [(38, .pure sValid), (39, .pure sCheck), (40, .pure sCFn)]
@[simp] theorem CJc_P : CJc.P = Try.prog := rfl
@[simp] theorem CJc_1 : CJc.S 38 = .pure sValid := rfl
@[simp] theorem CJc_2 : CJc.S 39 = .pure sCheck := rfl
@[simp] theorem CJc_3 : CJc.S 40 = .pure sCFn := rfl
theorem mixCJc : CJc.P.follows .mixedOrders = true := mixed
theorem sigCJc : SigOK CJc := sigOK_cons (entryPure validP Try.func38 rfl (by decide)) (sigOK_cons (entryPure checkP Try.func39 rfl (by decide)) (sigOK_cons (entryPure containsFP Try.func40 rfl (by decide)) (sigOK_nil _ _)))
theorem AllVar.succ {n : Int} {rels : List Rela} {vars : List (List Int)} {k : Nat} (h : AllVar n rels vars k) (h2 : VarOK n (ix rels k) (ix vars k)) : AllVar n rels vars (k + 1) := fun i hi => by
  rcases Nat.lt_or_eq_of_le (Nat.le_of_lt_succ hi) with h3 | rfl
  · exact h i h3
  · exact h2
theorem relErr_at : ∀ {rels : List Rela} {i : Nat}, i < rels.length → (∀ j, j < i → checkF (ix rels j) = 0) → checkF (ix rels i) ≠ 0 → relErr rels = checkF (ix rels i)
  | r :: q, 0, _, _, h => by
    show (if checkF r = 0 then relErr q else checkF r) = checkF r
    have h : checkF r ≠ 0 := h
    rw [if_neg h]
  | r :: q, i + 1, hi, hz, h => by
    show (if checkF r = 0 then relErr q else checkF r) = _
    have h0 : checkF r = 0 := hz 0 (by omega)
    rw [if_pos h0]
    exact relErr_at (rels := q) (i := i) (by simpa using hi) (fun j hj => hz (j + 1) (by omega)) h
theorem relErr_none : ∀ {rels : List Rela}, (∀ j, j < rels.length → checkF (ix rels j) = 0) → relErr rels = 0
  | [], _ => rfl
  | r :: q, hz => by
    show (if checkF r = 0 then relErr q else checkF r) = _
    have h0 : checkF r = 0 := hz 0 (by simp)
    rw [if_pos h0]
    exact relErr_none fun j hj => hz (j + 1) (by simpa using hj)
set_option maxHeartbeats 16000000 in
open Classical in
theorem jchkP : PureOK Try.prog G0 23 sJChk := by
  refine pure3 (C := CJc) sigCJc mixCJc Try.func23 rfl rfl rfl (by kernel_rfl) (by decide) (fun n rels vars ⟨hrl, hrS, hvl, hvS⟩ => ?_)
  have one : (n < 1 ∨ 24 < n ∨ vars.length ≠ rels.length) → jchkF n rels vars = 1 := fun h => by unfold jchkF; rw [if_pos h]
  by_cases h1 : n < 1
  · simp [aev, cav, look, acallPure, abin, abinN, abinP, abinI, abinS, aun, aconv, afield, afieldAddr, aindexAddr, aindex, aslice, alow, ahigh, abuild, abuildGo, cellsOf, splice, fieldTy, alen, apick, amax, amin, aload, headV, aparts, abuildSlice, elParts, abytesStr, astore, amake, aappend, aclear, anew, arith, aresults, aresList, ares, spec0, spec1, spec2, spec3, spec4, eqCells, eqCell, h1, one (.inl h1)]
  by_cases h2 : 24 < n
  · simp [aev, cav, look, acallPure, abin, abinN, abinP, abinI, abinS, aun, aconv, afield, afieldAddr, aindexAddr, aindex, aslice, alow, ahigh, abuild, abuildGo, cellsOf, splice, fieldTy, alen, apick, amax, amin, aload, headV, aparts, abuildSlice, elParts, abytesStr, astore, amake, aappend, aclear, anew, arith, aresults, aresList, ares, spec0, spec1, spec2, spec3, spec4, eqCells, eqCell, h1, h2, one (.inr (.inl h2))]
  rcases em2 ((vars.length : Int) = rels.length) with h3 | h3
  case inr =>
    have h3' : vars.length ≠ rels.length := fun e => of_eq_false h3 (by omega)
    simp [aev, cav, look, acallPure, abin, abinN, abinP, abinI, abinS, aun, aconv, afield, afieldAddr, aindexAddr, aindex, aslice, alow, ahigh, abuild, abuildGo, cellsOf, splice, fieldTy, alen, apick, amax, amin, aload, headV, aparts, abuildSlice, elParts, abytesStr, astore, amake, aappend, aclear, anew, arith, aresults, aresList, ares, spec0, spec1, spec2, spec3, spec4, eqCells, eqCell, h1, h2, h3, one (.inr (.inr h3'))]
  have h3' : vars.length = rels.length := by have := of_eq_true h3; omega
  have hno : ¬ (n < 1 ∨ 24 < n ∨ vars.length ≠ rels.length) := by rintro (h | h | h); exact h1 h; exact h2 h; exact h h3'
  simp [aev, cav, look, acallPure, abin, abinN, abinP, abinI, abinS, aun, aconv, afield, afieldAddr, aindexAddr, aindex, aslice, alow, ahigh, abuild, abuildGo, cellsOf, splice, fieldTy, alen, apick, amax, amin, aload, headV, aparts, abuildSlice, elParts, abytesStr, astore, amake, aappend, aclear, anew, arith, aresults, aresList, ares, spec0, spec1, spec2, spec3, spec4, eqCells, eqCell, h1, h2, h3]
  have bad : ∀ i, i < vars.length → ¬ VarOK n (ix rels i) (ix vars i) → jchkF n rels vars = 1 := fun i hi hb => by
    unfold jchkF
    rw [if_neg hno, if_pos (fun (h : AllVar n rels vars vars.length) => hb (h i hi))]
  refine loop_rule (C := CJc) sigCJc mixCJc (fun i : Nat => ⟨[(0, .int .i64 n), (1, Enc.enc rels), (2, Enc.enc vars), (26, Enc.enc vars), (27, .int .i64 vars.length), (28, .int .i64 i)], []⟩) (fun i => i ≤ vars.length ∧ AllVar n rels vars i) (fun i => vars.length - i) (by kernel_rfl) ⟨0, ⟨Nat.zero_le _, fun i hi => absurd hi (Nat.not_lt_zero _)⟩, weak_slots (by simp)⟩ (fun i ⟨hi, hA⟩ => ?_)
  by_cases hlt : i < vars.length
  · have hlr : i < rels.length := by omega
    have i1 : I64 ((i : Int) + 1) := by unfold I64; omega
    have hsl := hvS _ (ix_mem hlt)
    have hsl' : (ix vars i).length ≤ 1000000 := hsl
    have bad := bad i hlt
    obtain ⟨l, hl⟩ : ∃ l, l = ix vars i := ⟨_, rfl⟩
    rw [← hl] at hsl hsl' bad
    rcases em2 ((l.length : Int) = (ix rels i).arity) with a1 | a1
    case inr =>
      have e := bad fun h => of_eq_false a1 h.len
      simp [aev, cav, look, acallPure, abin, abinN, abinP, abinI, abinS, aun, aconv, afield, afieldAddr, aindexAddr, aindex, aslice, alow, ahigh, abuild, abuildGo, cellsOf, splice, fieldTy, alen, apick, amax, amin, aload, headV, aparts, abuildSlice, elParts, abytesStr, astore, amake, aappend, aclear, anew, arith, aresults, aresList, ares, spec0, spec1, spec2, spec3, spec4, eqCells, eqCell, hlt, hlr, rowAt_enc hlt, rowAt_enc hlr, ← hl, a1, e]
    cases a2 : valid l with
    | false =>
      have e := bad fun h => by have := h.inc; rw [a2] at this; cases this
      simp [aev, cav, look, acallPure, abin, abinN, abinP, abinI, abinS, aun, aconv, afield, afieldAddr, aindexAddr, aindex, aslice, alow, ahigh, abuild, abuildGo, cellsOf, splice, fieldTy, alen, apick, amax, amin, aload, headV, aparts, abuildSlice, elParts, abytesStr, astore, amake, aappend, aclear, anew, arith, aresults, aresList, ares, spec0, spec1, spec2, spec3, spec4, eqCells, eqCell, hlt, hlr, rowAt_enc hlt, rowAt_enc hlr, ← hl, a1, sValid, hsl, a2, e]
    | true =>
      by_cases h0 : 0 < l.length
      · have hne : l ≠ [] := List.length_pos_iff.1 h0
        have hm : l.length - 1 < l.length := by omega
        have k1 : I64 ((l.length : Int) - 1) := by unfold I64; omega
        have k2 : ((l.length : Int) - 1).toNat = l.length - 1 := by omega
        have k3 : (0 : Int) ≤ (l.length : Int) - 1 := by omega
        have k4 : (0 : Int) < (l.length : Int) := by omega
        by_cases a3 : ix l 0 < 0
        · have e := bad fun h => by have := h.lo hne; omega
          simp [aev, cav, look, acallPure, abin, abinN, abinP, abinI, abinS, aun, aconv, afield, afieldAddr, aindexAddr, aindex, aslice, alow, ahigh, abuild, abuildGo, cellsOf, splice, fieldTy, alen, apick, amax, amin, aload, headV, aparts, abuildSlice, elParts, abytesStr, astore, amake, aappend, aclear, anew, arith, aresults, aresList, ares, spec0, spec1, spec2, spec3, spec4, eqCells, eqCell, hlt, hlr, rowAt_enc hlt, rowAt_enc hlr, ← hl, a1, sValid, hsl, a2, h0, k4, rowAt_enc h0, a3, e]
        · by_cases a4 : n ≤ ix l (l.length - 1)
          · have e := bad fun h => by have := h.hi hne; omega
            simp [aev, cav, look, acallPure, abin, abinN, abinP, abinI, abinS, aun, aconv, afield, afieldAddr, aindexAddr, aindex, aslice, alow, ahigh, abuild, abuildGo, cellsOf, splice, fieldTy, alen, apick, amax, amin, aload, headV, aparts, abuildSlice, elParts, abytesStr, astore, amake, aappend, aclear, anew, arith, aresults, aresList, ares, spec0, spec1, spec2, spec3, spec4, eqCells, eqCell, hlt, hlr, rowAt_enc hlt, rowAt_enc hlr, ← hl, a1, sValid, hsl, a2, h0, k1, k2, k3, k4, rowAt_enc h0, hm, rowAt_enc hm, a3, a4, e]
            exact ⟨by omega, by omega⟩
          · simp [aev, cav, look, acallPure, abin, abinN, abinP, abinI, abinS, aun, aconv, afield, afieldAddr, aindexAddr, aindex, aslice, alow, ahigh, abuild, abuildGo, cellsOf, splice, fieldTy, alen, apick, amax, amin, aload, headV, aparts, abuildSlice, elParts, abytesStr, astore, amake, aappend, aclear, anew, arith, aresults, aresList, ares, spec0, spec1, spec2, spec3, spec4, eqCells, eqCell, hlt, hlr, rowAt_enc hlt, rowAt_enc hlr, ← hl, a1, sValid, hsl, a2, h0, k1, k2, k3, k4, rowAt_enc h0, hm, rowAt_enc hm, a3, a4, i1]
            have hok : VarOK n (ix rels i) (ix vars i) := by rw [← hl]; exact ⟨of_eq_true a1, a2, fun _ => by omega, fun _ => by omega⟩
            exact ⟨⟨by omega, by omega⟩, i + 1, ⟨by omega, hA.succ hok⟩, by omega, weak_slots (by simp)⟩
      · have hne : l = [] := List.length_eq_zero_iff.1 (by omega)
        have hok : VarOK n (ix rels i) (ix vars i) := by rw [← hl]; exact ⟨of_eq_true a1, a2, fun h => absurd hne h, fun h => absurd hne h⟩
        simp [aev, cav, look, acallPure, abin, abinN, abinP, abinI, abinS, aun, aconv, afield, afieldAddr, aindexAddr, aindex, aslice, alow, ahigh, abuild, abuildGo, cellsOf, splice, fieldTy, alen, apick, amax, amin, aload, headV, aparts, abuildSlice, elParts, abytesStr, astore, amake, aappend, aclear, anew, arith, aresults, aresList, ares, spec0, spec1, spec2, spec3, spec4, eqCells, eqCell, hlt, hlr, rowAt_enc hlt, rowAt_enc hlr, ← hl, a1, sValid, hsl, a2, h0, i1]
        exact ⟨i + 1, ⟨by omega, hA.succ hok⟩, by omega, weak_slots (by simp)⟩
  have hie : i = vars.length := by omega
  subst hie
  by_cases h12 : 12 < rels.length
  · have h12' : (12 : Int) < rels.length := by omega
    have e : jchkF n rels vars = 4 := by unfold jchkF; rw [if_neg hno, if_neg (fun h => h hA), if_pos h12]
    simp [aev, cav, look, acallPure, abin, abinN, abinP, abinI, abinS, aun, aconv, afield, afieldAddr, aindexAddr, aindex, aslice, alow, ahigh, abuild, abuildGo, cellsOf, splice, fieldTy, alen, apick, amax, amin, aload, headV, aparts, abuildSlice, elParts, abytesStr, astore, amake, aappend, aclear, anew, arith, aresults, aresList, ares, spec0, spec1, spec2, spec3, spec4, eqCells, eqCell, hlt, h12, h12', e]
  have h12' : ¬ (12 : Int) < rels.length := by omega
  simp [aev, cav, look, acallPure, abin, abinN, abinP, abinI, abinS, aun, aconv, afield, afieldAddr, aindexAddr, aindex, aslice, alow, ahigh, abuild, abuildGo, cellsOf, splice, fieldTy, alen, apick, amax, amin, aload, headV, aparts, abuildSlice, elParts, abytesStr, astore, amake, aappend, aclear, anew, arith, aresults, aresList, ares, spec0, spec1, spec2, spec3, spec4, eqCells, eqCell, hlt, h12, h12']
  refine loop_rule (C := CJc) sigCJc mixCJc (fun i : Nat => ⟨[(0, .int .i64 n), (2, Enc.enc vars), (71, Enc.enc rels), (72, .int .i64 rels.length), (73, .int .i64 i)], []⟩) (fun i => i ≤ rels.length ∧ ∀ j, j < i → checkF (ix rels j) = 0) (fun i => rels.length - i) (by kernel_rfl) ⟨0, ⟨Nat.zero_le _, fun i hi => absurd hi (Nat.not_lt_zero _)⟩, weak_slots (by simp)⟩ (fun i ⟨hi2, hZ⟩ => ?_)
  by_cases hlt2 : i < rels.length
  · have i1 : I64 ((i : Int) + 1) := by unfold I64; omega
    have hr := hrS _ (ix_mem hlt2)
    rcases em2 (checkF (ix rels i) = 0) with z | z
    · simp [aev, cav, look, acallPure, abin, abinN, abinP, abinI, abinS, aun, aconv, afield, afieldAddr, aindexAddr, aindex, aslice, alow, ahigh, abuild, abuildGo, cellsOf, splice, fieldTy, alen, apick, amax, amin, aload, headV, aparts, abuildSlice, elParts, abytesStr, astore, amake, aappend, aclear, anew, arith, aresults, aresList, ares, spec0, spec1, spec2, spec3, spec4, eqCells, eqCell, hlt2, rowAt_enc hlt2, sCheck, hr, z, i1]
      exact ⟨i + 1, ⟨by omega, fun j hj => by
        rcases Nat.lt_or_eq_of_le (Nat.le_of_lt_succ hj) with h | rfl
        · exact hZ j h
        · exact of_eq_true z⟩, by omega, weak_keep 0 (by simp) (Nat.le_refl _) (by simp [AV.clean, AV.clean1]) (by simp) (by simp)⟩
    · have e : jchkF n rels vars = checkF (ix rels i) := by
        have g := relErr_at hlt2 hZ (of_eq_false z)
        unfold jchkF
        rw [if_neg hno, if_neg (fun h => h hA), if_neg h12, g, if_pos (of_eq_false z)]
      simp [aev, cav, look, acallPure, abin, abinN, abinP, abinI, abinS, aun, aconv, afield, afieldAddr, aindexAddr, aindex, aslice, alow, ahigh, abuild, abuildGo, cellsOf, splice, fieldTy, alen, apick, amax, amin, aload, headV, aparts, abuildSlice, elParts, abytesStr, astore, amake, aappend, aclear, anew, arith, aresults, aresList, ares, spec0, spec1, spec2, spec3, spec4, eqCells, eqCell, hlt2, rowAt_enc hlt2, sCheck, hr, z, e]
  have hie : i = rels.length := by omega
  subst hie
  simp [aev, cav, look, acallPure, abin, abinN, abinP, abinI, abinS, aun, aconv, afield, afieldAddr, aindexAddr, aindex, aslice, alow, ahigh, abuild, abuildGo, cellsOf, splice, fieldTy, alen, apick, amax, amin, aload, headV, aparts, abuildSlice, elParts, abytesStr, astore, amake, aappend, aclear, anew, arith, aresults, aresList, ares, spec0, spec1, spec2, spec3, spec4, eqCells, eqCell, hlt2]
  have g := relErr_none hZ
  refine loop_rule (C := CJc) sigCJc mixCJc (fun v : Nat => ⟨[(2, Enc.enc vars), (83, .int .i64 n), (84, .int .i64 v)], []⟩) (fun v => (v : Int) ≤ n ∧ ∀ u : Nat, u < v → AnyV vars u) (fun v => n.toNat - v) (by kernel_rfl) ⟨0, ⟨by omega, fun i hi => absurd hi (Nat.not_lt_zero _)⟩, weak_slots (by simp)⟩ (fun v ⟨hv, hV⟩ => ?_)
  have hvS2 : SmallRs vars := ⟨hvl, hvS⟩
  by_cases hlt3 : (v : Int) < n
  · have i1 : I64 ((v : Int) + 1) := by unfold I64; omega
    by_cases hany : AnyV vars v
    · simp [aev, cav, look, acallPure, abin, abinN, abinP, abinI, abinS, aun, aconv, afield, afieldAddr, aindexAddr, aindex, aslice, alow, ahigh, abuild, abuildGo, cellsOf, splice, fieldTy, alen, apick, amax, amin, aload, headV, aparts, abuildSlice, elParts, abytesStr, astore, amake, aappend, aclear, anew, arith, aresults, aresList, ares, spec0, spec1, spec2, spec3, spec4, eqCells, eqCell, hlt3, hvS2, hany, i1]
      exact ⟨v + 1, ⟨by omega, fun u hu => by
        rcases Nat.lt_or_eq_of_le (Nat.le_of_lt_succ hu) with h | rfl
        · exact hV u h
        · exact hany⟩, by omega, weak_keep 0 (by simp) (Nat.le_refl _) (by simp [AV.clean, AV.clean1]) (by simp) (by simp)⟩
    · have e : jchkF n rels vars = 25 := by
        unfold jchkF
        rw [if_neg hno, if_neg (fun h => h hA), if_neg h12, g, if_neg (fun h => h rfl), if_neg (fun h => hany (h v hlt3))]
      simp [aev, cav, look, acallPure, abin, abinN, abinP, abinI, abinS, aun, aconv, afield, afieldAddr, aindexAddr, aindex, aslice, alow, ahigh, abuild, abuildGo, cellsOf, splice, fieldTy, alen, apick, amax, amin, aload, headV, aparts, abuildSlice, elParts, abytesStr, astore, amake, aappend, aclear, anew, arith, aresults, aresList, ares, spec0, spec1, spec2, spec3, spec4, eqCells, eqCell, hlt3, hvS2, hany, e]
  · have e : jchkF n rels vars = 0 := by
      unfold jchkF
      rw [if_neg hno, if_neg (fun h => h hA), if_neg h12, g, if_neg (fun h => h rfl), if_pos (fun u hu => hV u (by omega))]
    simp [aev, cav, look, acallPure, abin, abinN, abinP, abinI, abinS, aun, aconv, afield, afieldAddr, aindexAddr, aindex, aslice, alow, ahigh, abuild, abuildGo, cellsOf, splice, fieldTy, alen, apick, amax, amin, aload, headV, aparts, abuildSlice, elParts, abytesStr, astore, amake, aappend, aclear, anew, arith, aresults, aresList, ares, spec0, spec1, spec2, spec3, spec4, eqCells, eqCell, hlt3, e]
end Go.Proofs.Ytpbgnnaaobamfaa

/-
  layer 33: a valid join begins well.
-/
namespace Go.Proofs.Ytpbgnnaaobamfaa
open Go.RowKit
set_option linter.unusedSimpArgs false
set_option linter.unusedVariables false

structure ChkOK (n : Int) (rels : List Rela) (vars : List (List Int)) : Prop where
  n1 : 1 ≤ n
  n24 : n ≤ 24
  len : vars.length = rels.length
  var : AllVar n rels vars vars.length
  r12 : rels.length ≤ 12
  chk : ∀ i, i < rels.length → checkF (ix rels i) = 0
  any : ∀ v : Nat, (v : Int) < n → AnyV vars v
theorem relErr_all : ∀ {rels : List Rela}, relErr rels = 0 → ∀ i, i < rels.length → checkF (ix rels i) = 0
  | r :: q, h, i, hi => by
    have h : (if checkF r = 0 then relErr q else checkF r) = 0 := h
    by_cases h0 : checkF r = 0
    · rw [if_pos h0] at h
      cases i with
      | zero => exact h0
      | succ i => exact relErr_all (rels := q) h i (by simpa using hi)
    · rw [if_neg h0] at h; exact absurd h h0
open Classical in
theorem chk_ok {n : Int} {rels : List Rela} {vars : List (List Int)} (h : jchkF n rels vars = 0) : ChkOK n rels vars := by
  unfold jchkF at h
  split at h
  · cases h
  rename_i h1
  split at h
  · cases h
  rename_i h2
  split at h
  · cases h
  rename_i h3
  split at h
  · rename_i h4; exact absurd h h4
  rename_i h4
  split at h
  · rename_i h5
    refine ⟨by omega, by omega, ?_, Classical.not_not.1 h2, by omega, relErr_all (Classical.not_not.1 h4), h5⟩
    apply Classical.byContradiction; intro hc
    exact h1 (.inr (.inr hc))
  · cases h
theorem rel0_ok {n : Int} {R : Rela} {l : List Int} (hc : checkF R = 0) (hv : VarOK n R l) : RelOK R (rel0 R l) [] := by
  obtain ⟨⟨w1, w2, w3⟩, h20, hris⟩ := check_ok hc
  have hinc : Inc l := by have h := hv.inc; unfold valid at h; exact of_decide_eq_true (p := l.Pairwise (· < ·)) h
  have hll : (l.length : Int) = R.arity := hv.len
  have hne : 0 < l.length := by omega
  have hlo := hv.lo (List.length_pos_iff.1 hne)
  refine ⟨?_, ⟨hris, fun r hr => by have := w3 r hr; omega⟩, h20, by omega, by show l.length = _; omega, hinc, fun u hu => ?_, Nat.zero_le _, fun i hi => absurd hi (Nat.not_lt_zero _), fun _ => ?_, Nat.zero_le _, Nat.zero_le _, fun e he => absurd he (Nat.not_lt_zero _)⟩
  · show (buildF R).1 = _
    unfold buildF; rw [if_pos hc]
  · obtain ⟨i, hi, rfl⟩ := mem_ix hu
    have hi : i < l.length := hi
    have := inc_le hinc (Nat.zero_le i) hi
    show 0 ≤ ix l i
    omega
  · show (([] : List Int).length : Int) ≤ ix l 0
    simpa using hlo
def netOf (rels : List Rela) (vars : List (List Int)) : Net := (List.range rels.length).map fun i => (ix rels i, ix vars i)
theorem netOf_len (rels : List Rela) (vars : List (List Int)) : (netOf rels vars).length = rels.length := by simp [netOf]
theorem ix_range {m i : Nat} (h : i < m) : ix (List.range m) i = i := by rw [ix_lt (by rw [List.length_range]; exact h), List.getElem_range]
theorem netOf_ix {rels : List Rela} {vars : List (List Int)} {i : Nat} (h : i < rels.length) : ix (netOf rels vars) i = (ix rels i, ix vars i) := by
  unfold netOf
  rw [ix_map (by rw [List.length_range]; exact h), ix_range h]
theorem start_ok {n : Int} {rels : List Rela} {vars : List (List Int)} (h : ChkOK n rels vars) (k : Nat) : StOK (netOf rels vars) (join0 k rels vars rels.length) [] := by
  refine ⟨rfl, rfl, by show 0 ≤ 30; omega, by rw [netOf_len]; simp [join0], by rw [netOf_len]; have := h.r12; omega, fun i hi => ?_⟩
  rw [netOf_len] at hi
  have e : ix (join0 k rels vars rels.length).rels i = rel0 (ix rels i) (ix vars i) := by
    show ix ((List.range rels.length).map fun k => rel0 (ix rels k) (ix vars k)) i = _
    rw [ix_map (by rw [List.length_range]; exact hi), ix_range hi]
  rw [e, netOf_ix hi]
  exact ⟨rel0_ok (h.chk i hi) (h.var i (by have := h.len; omega)), rfl⟩
end Go.Proofs.Ytpbgnnaaobamfaa

/-
  layer 33: Prefix and Join of the program.
-/
namespace Go.Proofs.Ytpbgnnaaobamfaa
open Go.RowKit
set_option linter.unusedSimpArgs false
set_option linter.unusedVariables false
set_option maxRecDepth 100000

/-- The join up to k variables stays within bounds. -/
structure Light (N : Net) (k : Nat) : Prop where
  rows : ∀ q ∈ N, q.1.rows.length ≤ 10000
  o : (outs N k []).length ≤ 1000000000
  b : ∀ i, i < k → sumT N (cntT N) i [] ≤ 1000000000000000000
  m : ∀ i, i < k → sumT N (minT N) i [] ≤ 1000000000000000000
  s : ∀ i, i < k → sumT N (seekT N) i [] ≤ 1000000000000000000
theorem zer_ix (n i : Nat) : ix (zer n) i = 0 := by
  unfold zer ix
  simp only [List.getD_eq_getElem?_getD, List.getElem?_replicate]
  split <;> rfl
theorem run_ok {n : Int} {rels : List Rela} {vars : List (List Int)} {k : Nat} (h : ChkOK n rels vars) (hk : (k : Int) ≤ n) (hL : Light (netOf rels vars) k) : ExtPre k 0 (join0 k rels vars rels.length) ∧ Res (netOf rels vars) k [] (join0 k rels vars rels.length) (extF k 0 (join0 k rels vars rels.length)) := by
  have hn24 := h.n24
  have hN : NetOK (netOf rels vars) k := by
    refine ⟨fun v hv => ?_, hL.rows, by omega⟩
    obtain ⟨l, hl, hm⟩ := h.any v (by omega)
    obtain ⟨i, hi, rfl⟩ := mem_ix hl
    have hi2 : i < rels.length := by have := h.len; omega
    refine ⟨ix (netOf rels vars) i, ix_mem (by rw [netOf_len]; exact hi2), ?_⟩
    rw [netOf_ix hi2]; exact hm
  have cz : ∀ f : List Int → Nat, (∀ i, i < k → sumT (netOf rels vars) f i [] ≤ 1000000000000000000) → CntOK (netOf rels vars) f k [] (zer k) := fun f hf => by
    refine ⟨by simp [zer], fun i hi => ?_⟩
    rw [zer_ix]
    have := hf i hi
    constructor <;> omega
  exact ext_spec hN k [] (join0 k rels vars rels.length) (by simp) (start_ok h k) rfl ⟨by show 0 + _ ≤ _; have := hL.o; omega, cz _ hL.b, cz _ hL.m, cz _ hL.s⟩
def PrefPre (n : Int) (rels : List Rela) (vars : List (List Int)) (k : Int) : Prop := ChkPre n rels vars ∧ (jchkF n rels vars = 0 → 0 ≤ k → k ≤ n → Light (netOf rels vars) k.toNat)
noncomputable def prefF (n : Int) (rels : List Rela) (vars : List (List Int)) (k : Int) : List (List Int) := if jchkF n rels vars = 0 then (if 0 ≤ k ∧ k ≤ n then outs (netOf rels vars) k.toNat [] else []) else []
noncomputable def sPref : List AV → Option (Prop × AV) := spec4 PrefPre (fun n rels vars k => Enc.enc (prefF n rels vars k))
noncomputable def CPf : Ctx := mkC Try.prog G0 [(23, .pure sJChk), (35, .gen (genNew nBegin)), (36, .gen (gExt 30))]
@[simp] theorem CPf_P : CPf.P = Try.prog := rfl
@[simp] theorem CPf_1 : CPf.S 23 = .pure sJChk := rfl
@[simp] theorem CPf_2 : CPf.S 35 = .gen (genNew nBegin) := rfl
@[simp] theorem CPf_3 : CPf.S 36 = .gen (gExt 30) := rfl
theorem mixCPf : CPf.P.follows .mixedOrders = true := mixed
theorem sigCPf : SigOK CPf := sigOK_cons (entryPure jchkP Try.func23 rfl (by decide)) (sigOK_cons (entryGen beginP Try.func35 rfl (by decide)) (sigOK_cons (entryGen (extP 30) Try.func36 rfl (by decide)) (sigOK_nil _ _)))
set_option maxHeartbeats 8000000 in
theorem prefP : PureOK Try.prog G0 25 sPref := by
  refine pure4 (C := CPf) sigCPf mixCPf Try.func25 rfl rfl rfl (by kernel_rfl) (by decide) (fun n rels vars k ⟨hP, hL⟩ => ?_)
  rcases em2 (jchkF n rels vars = 0) with hc | hc
  case inr =>
    have e : prefF n rels vars k = [] := by unfold prefF; rw [if_neg (of_eq_false hc)]
    simp [aev, cav, look, acallPure, abin, abinN, abinP, abinI, abinS, aun, aconv, afield, afieldAddr, aindexAddr, aindex, aslice, alow, ahigh, abuild, abuildGo, cellsOf, splice, fieldTy, alen, apick, amax, amin, aload, headV, aparts, abuildSlice, elParts, abytesStr, astore, amake, aappend, aclear, anew, arith, aresults, aresList, ares, spec0, spec1, spec2, spec3, spec4, eqCells, eqCell, sJChk, hP, hc, e]
  by_cases h0 : k < 0
  · have e : prefF n rels vars k = [] := by unfold prefF; rw [if_pos (of_eq_true hc), if_neg (by omega)]
    simp [aev, cav, look, acallPure, abin, abinN, abinP, abinI, abinS, aun, aconv, afield, afieldAddr, aindexAddr, aindex, aslice, alow, ahigh, abuild, abuildGo, cellsOf, splice, fieldTy, alen, apick, amax, amin, aload, headV, aparts, abuildSlice, elParts, abytesStr, astore, amake, aappend, aclear, anew, arith, aresults, aresList, ares, spec0, spec1, spec2, spec3, spec4, eqCells, eqCell, sJChk, hP, hc, h0, e]
  by_cases hn : n < k
  · have e : prefF n rels vars k = [] := by unfold prefF; rw [if_pos (of_eq_true hc), if_neg (by omega)]
    simp [aev, cav, look, acallPure, abin, abinN, abinP, abinI, abinS, aun, aconv, afield, afieldAddr, aindexAddr, aindex, aslice, alow, ahigh, abuild, abuildGo, cellsOf, splice, fieldTy, alen, apick, amax, amin, aload, headV, aparts, abuildSlice, elParts, abytesStr, astore, amake, aappend, aclear, anew, arith, aresults, aresList, ares, spec0, spec1, spec2, spec3, spec4, eqCells, eqCell, sJChk, hP, hc, h0, hn, e]
  have e : prefF n rels vars k = outs (netOf rels vars) k.toNat [] := by unfold prefF; rw [if_pos (of_eq_true hc), if_pos (by omega)]
  have hOK := chk_ok (of_eq_true hc)
  obtain ⟨m, rfl⟩ : ∃ m : Nat, k = m := ⟨k.toNat, by omega⟩
  have hn24 := hOK.n24
  have hLt := hL (of_eq_true hc) (by omega) (by omega)
  obtain ⟨r1, r2⟩ := run_ok hOK (k := m) (by omega) hLt
  obtain ⟨j, hj⟩ : ∃ j, j = join0 m rels vars rels.length := ⟨_, rfl⟩
  obtain ⟨j', hj'⟩ : ∃ j', j' = extF m 0 j := ⟨_, rfl⟩
  rw [← hj] at r1 r2
  rw [← hj'] at r2
  have hB : BegPre (m : Int) rels vars := ⟨⟨m, rfl, by omega⟩, by have := hOK.len; omega, by have := hOK.r12; omega, hP.2.1⟩
  have hmap : (joinX 0 (join0 (m : Int).toNat rels vars rels.length)).map (renB (up 0)) = baseJ [] j ++ [] := by
    rw [List.append_nil, baseJ_eq, hj]
    show _ = joinX 0 _
    refine (List.map_congr_left fun b hb => ?_).trans (List.map_id _)
    exact renB_id (m := 7 + 2 * rels.length) (ClB_joinX (by simp [join0]) b hb) fun k _ => rfl
  have hext := ext_at (D := 30) (P := []) (Y := []) (by omega) r1 (fun b hb => by cases hb)
  rw [← hj', ← hmap] at hext
  have hext : gExt 30 [.ptr 3 1 7 0 0, .int .i64 0] ((joinX 0 (join0 (m : Int).toNat rels vars rels.length)).map (renB (up 0))) = some (True, .tup [], baseJ [] j') := by simpa using hext
  have g3 : (baseJ [] j')[3]? = some ⟨59, 7, [jCells 0 j'], true, false⟩ := by have := base_g3 (P := []) (jc := jCells 0 j') (B := j'.B) (M := j'.M) (K := j'.K) (T := j'.T) (O := j'.O) (m := j'.rels.length) (rs := j'.rels) (Y := []); rw [List.append_nil] at this; exact this
  have g6 : (baseJ [] j')[6]? = some ⟨25, 1, encRows j'.O, true, true⟩ := by have := base_g6 (P := []) (jc := jCells 0 j') (B := j'.B) (M := j'.M) (K := j'.K) (T := j'.T) (O := j'.O) (m := j'.rels.length) (rs := j'.rels) (Y := []); rw [List.append_nil] at this; exact this
  have hO : j'.O = outs (netOf rels vars) m [] := by rw [r2.o, hj]; rfl
  rw [e]
  simp [aev, cav, look, acallPure, abin, abinN, abinP, abinI, abinS, aun, aconv, afield, afieldAddr, aindexAddr, aindex, aslice, alow, ahigh, abuild, abuildGo, cellsOf, splice, fieldTy, alen, apick, amax, amin, aload, headV, aparts, abuildSlice, elParts, abytesStr, astore, amake, aappend, aclear, anew, arith, aresults, aresList, ares, spec0, spec1, spec2, spec3, spec4, eqCells, eqCell, sJChk, hP, hc, h0, hn, nBegin, hB]
  simp only [Int.toNat_natCast] at hext
  simp [aev, cav, look, acallPure, abin, abinN, abinP, abinI, abinS, aun, aconv, afield, afieldAddr, aindexAddr, aindex, aslice, alow, ahigh, abuild, abuildGo, cellsOf, splice, fieldTy, alen, apick, amax, amin, aload, headV, aparts, abuildSlice, elParts, abytesStr, astore, amake, aappend, aclear, anew, arith, aresults, aresList, ares, spec0, spec1, spec2, spec3, spec4, eqCells, eqCell, hext, g3, g6, jCells, hO]
end Go.Proofs.Ytpbgnnaaobamfaa
